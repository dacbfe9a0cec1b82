/- What must be done before a lift: a set of numbers, the recursion, the bits. -/
import Derived.Test.YtijpghlkbfmefaaDoorLfQ
import Derived.Test.YtijpghlkbfmefaaDoorShelf
import Derived.RangeFuncFrom
import Derived.RangeFuncKeeps
import Derived.OwnWalkIn
import Derived.TacticsInMore
import Derived.LoopNIn
import Derived.LoopIn
import Derived.Shelf.SlIterI.Stops
import Derived.Ground.GgzProg
namespace Go.Proofs.YtijpghlkbfmefaaDoor
open Go.RowKit Go.ChangeMaps Go.Maps Go.WideMaps Go.Shelf
/-- Block b is a map that says true of the numbers of l, and has no other keys. -/
def SeenI (P : Program) (ks e : TypeId) (b : Nat) (l : List Int) (w : World) : Prop :=
  ∃ D : DataW Unit, w.ownsMap P ks (plainElem P e) b l.length D ∧ IsMap D ∧ (∀ s : Int, s ∈ l → ∀ z, D.atKey (.int .i64 s) z = .lit (.bool true)) ∧ (∀ s : Int, ¬ s ∈ l → ∀ z, D.atKey (.int .i64 s) z = z)
theorem SeenI.made (P : Program) (ks e : TypeId) (w : World) : SeenI P ks e w.heap.size [] (w.alloc (.map #[] 0)) :=
  ⟨.map [], World.ownsMap_made w P ks _, ⟨[], rfl⟩, fun s h => absurd h (by simp), fun s _ z => rfl⟩
theorem SeenI.lt {P : Program} {ks e : TypeId} {b : Nat} {l : List Int} {w : World} (h : SeenI P ks e b l w) : b < w.heap.size := by
  obtain ⟨D, h, _⟩ := h; exact h.lt
theorem SeenI.below {P : Program} {ks e : TypeId} {b : Nat} {l : List Int} {w w' : World} (h : SeenI P ks e b l w) (hb : Below w.heap.size w w') : SeenI P ks e b l w' := by
  obtain ⟨D, h1, h2⟩ := h
  exact ⟨D, h1.kept (row := none) ⟨hb.os, hb.tape, hb.output, hb.size, fun k hk _ => hb.block k hk⟩ (by simp), h2⟩
theorem SeenI.look {P : Program} {ks e t : TypeId} {b : Nat} {l : List Int} {w : World} (h : SeenI P ks e b l w) (hk : P.underlying ks = some (.int .i64)) (he : P.underlying e = some .bool) (ht : P.underlying t = some (.map ks e))
    (hz : (zeroValue e).run P w = .ok (.bool false) w) {s : Int} (hs : (Lit.int .i64 s).wf = true) : (Instr.lookup t (.map (some b)) (.int .i64 s) false).run P w = .ok (.bool (decide (s ∈ l))) w := by
  obtain ⟨D, h1, h2, h3, h4⟩ := h
  obtain ⟨v, ps, hrun, hv⟩ := h1.lookup (int_keyed hk) ht hz (plainElem_bool he false) (keyOf_int_mk hk hs)
  obtain ⟨x, rfl, hx⟩ := plainElem_bool_inv he hv
  have hx2 : D.atKey (.int .i64 s) (.lit (.bool false)) = .lit (.bool (decide (s ∈ l))) := by
    by_cases hm : s ∈ l
    · rw [h3 s hm, decide_eq_true hm]
    · rw [h4 s hm, decide_eq_false hm]
  rw [hx2] at hx
  simp only [Prod.mk.injEq, DataW.lit.injEq, Lit.bool.injEq] at hx
  rw [hrun, hx.1]
theorem SeenI.put {P : Program} {ks e : TypeId} {b : Nat} {l : List Int} {w' : World} {s : Int} {D : DataW Unit} (h2 : IsMap D) (h3 : ∀ s : Int, s ∈ l → ∀ z, D.atKey (.int .i64 s) z = .lit (.bool true)) (h4 : ∀ s : Int, ¬ s ∈ l → ∀ z, D.atKey (.int .i64 s) z = z)
    (h1 : w'.ownsMap P ks (plainElem P e) b (l.length + 1) (D.put (.int .i64 s) (.lit (.bool true)))) : SeenI P ks e b (l ++ [s]) w' := by
  refine ⟨_, by rw [List.length_append]; exact h1, h2.put _ _, fun t ht z => ?_, fun t ht z => ?_⟩
  · by_cases e : t = s
    · subst e; rw [atKey_put_same h2 (by simp [WideAt.IsKeyLit])]
    · rw [atKey_put_other (by intro e2; injection e2 with _ e2; exact e e2), h3 t (by simpa [e] using ht)]
  · rw [atKey_put_other (by intro e2; injection e2 with _ e2; exact ht (by simp [e2])), h4 t (fun h => ht (by simp [h]))]
theorem wpList_seenI_put {P : Program} {w : World} {ops : Array Oper} {rest : List Oper} {o : Oper} {a : Act} {Q : Exit → Act → World → Prop} (hg : o.guard = none) (m x v : Operand) (t : TypeId) (hop : o.op = Op.mapUpdate t m x v)
    (ks e : TypeId) (hk : P.underlying ks = some (.int .i64)) (he : P.underlying e = some .bool) (ht : P.underlying t = some (.map ks e)) (b : Nat) (l : List Int) (hm : a.eval m = .map (some b)) (h : SeenI P ks e b l w) (hl : l.length < maxLen)
    (s : Int) (hx : a.eval x = .int .i64 s) (hv : a.eval v = .bool true) (hs : (Lit.int .i64 s).wf = true)
    (hK : ∀ w', SeenI P ks e b (l ++ [s]) w' → w.grownBy w' (some b) → wpList P ops Q rest (a.put o.dst undef) w') : wpList P ops Q (o :: rest) a w := by
  obtain ⟨D, h1, h2, h3, h4⟩ := h
  exact wpList_mapUpdate_own w hg m x v t hop ks e (int_keyed hk) ht _ b _ D hm h1 hl _ _ _ hx hv (keyOf_int_mk hk hs) _ [] (plainElem_bool he true) fun w' h5 h6 => hK w' (SeenI.put h2 h3 h4 h5) h6
/-- Numbers without a repeat that lie below n are n at most. -/
theorem nodup_len : ∀ (n : Nat) (l : List Int), l.Nodup → (∀ x ∈ l, 0 ≤ x ∧ x < (n : Int)) → l.length ≤ n
  | 0, l, _, h => by
    cases l with
    | nil => exact Nat.le_refl _
    | cons x l => have := h x (by simp); omega
  | n + 1, l, hd, h => by
    by_cases hm : (n : Int) ∈ l
    · have h2 := nodup_len n (l.erase n) (hd.erase _) (fun x hx => by
        rw [hd.mem_erase_iff] at hx
        have := h x hx.2
        omega)
      rw [List.length_erase_of_mem hm] at h2
      omega
    · have h2 := nodup_len n l hd (fun x hx => by
        have := h x hx
        have : x ≠ (n : Int) := fun e => hm (e ▸ hx)
        omega)
      omega
/-- A set in its map: no number twice, all of them below ten. -/
structure SetI (b : Nat) (l : List Int) (w : World) : Prop where
  seen : SeenI Tryd.prog 2 4 b l w
  nodup : l.Nodup
  lt : ∀ x ∈ l, 0 ≤ x ∧ x < 10
theorem SetI.len {b : Nat} {l : List Int} {w : World} (h : SetI b l w) : l.length ≤ 10 := nodup_len 10 l h.nodup (fun x hx => by have := h.lt x hx; omega)
theorem SetI.push {b : Nat} {l : List Int} {w w' : World} {s : Int} (h : SetI b l w) (hn : ¬ s ∈ l) (h1 : 0 ≤ s) (h2 : s < 10) (hs : SeenI Tryd.prog 2 4 b (l ++ [s]) w') : SetI b (l ++ [s]) w' :=
  ⟨hs, List.nodup_append.2 ⟨h.nodup, by simp, fun a ha b hb => by simp at hb; subst hb; exact fun e => hn (e ▸ ha)⟩, fun x hx => by
    rcases List.mem_append.1 hx with hx | hx
    · exact h.lt x hx
    · simp at hx; subst hx; exact ⟨h1, h2⟩⟩
theorem wf_small {s : Int} (h1 : 0 ≤ s) (h2 : s < 10) : (Lit.int .i64 s).wf = true := by
  have e1 : IntKind.i64.min = -9223372036854775808 := rfl
  have e2 : IntKind.i64.max = 9223372036854775807 := rfl
  simp only [Lit.wf, e1, e2, Bool.and_eq_true, decide_eq_true_eq]
  omega
def NdOut (b : Nat) (l : List Int) (aft : List Int) (k : Nat) (w : World) (e : Ending) (w' : World) : Prop :=
  e = .returned (.tuple #[]) ∧ ∃ l', SetI b (l ++ l') w' ∧ (∀ x ∈ l', x < (k : Int)) ∧ (∀ a ∈ aft, a ∈ l ++ l') ∧ Below b w w'
theorem zero_bool2 (w : World) : (zeroValue 4).run Tryd.prog w = .ok (.bool false) w := zero_bool w
set_option maxRecDepth 100000 in
set_option maxHeartbeats 8000000 in
theorem impl_Needed (v : Value) (rs : List LiftR) (L : LiftsL) (lo hi b : Nat) (hok : liftsOk L) (hhb : hi ≤ b) : ∀ (k : Nat) (hk : k < L.length) (l : List Int) (w : World), Lifts lo hi w v rs L → SetI b l w →
    Calls Tryd.prog 30 #[v, .int .i64 k, .map (some b)] w (NdOut b l L[k].2 k w) := by
  intro k
  induction k using Nat.strongRecOn with
  | ind k ih =>
  intro hlt l w h hset
  have hl1 := h.len
  have hcap : rs.length ≤ 9223372036854775807 := by obtain ⟨a, cap, _, hc, _⟩ := h.out; omega
  have Hs := Lib.hid h
  obtain ⟨⟨a, cap, rfl, _⟩, _, _⟩ := h
  rw [hl1] at hcap ih ⊢
  have Hl1 := Lib.hid hl1
  have hL10 := hok.2
  have hk1 : k < rs.length := by omega
  have hs : Lifts lo hi w (.slice a L.length cap) rs L := by rw [← Hl1.out]; exact Hs.out
  obtain ⟨hfl, hrow⟩ := hs.one hlt hk1
  obtain ⟨ba, off, rfl⟩ := hs.out.addr (by omega)
  obtain ⟨-, -, -, -, -, -, -, -, c8⟩ := Lifts_at hs hk1
  have Hris := Lib.hid ((hok.1 k hlt).1.2.2.2.2.2.2)
  have Ih := Lib.hid ih
  have Hsl := Lib.hid hs
  clear hl1 ih hs hfl hok
  generalize rs[k].s = sk at *
  obtain ⟨ta, tl, tc⟩ := sk
  simp only [SV.v] at c8 hrow
  generalize L[k].2 = aft at *
  have hrow1 := Lib.hid hrow
  obtain ⟨_, _, hv, hcp2, _⟩ := hrow
  obtain rfl : aft.length = tl := by cases hv; rfl
  clear hv
  have Hset := Lib.hid hset
  clear hset
  go_enter Tryd.func30, Tryd.ntmps30
  go_wp2
  go_loopw [14] (fun i wr => ∃ (j : Nat) (l' : List Int), j ≤ aft.length ∧ i = .int .i64 j ∧ Below b w wr ∧ Hid (SetI b (l ++ l') wr) ∧ Hid (∀ x ∈ l', x < (k : Int)) ∧ Hid (∀ i (h : i < aft.length), i < j → aft[i] ∈ l ++ l')) (fun i _ => aft.length - (Go.RowKit.intOf i).toNat)
  case atStart => exact ⟨0, [], Nat.zero_le _, rfl, Below.refl _ _, Lib.hid (by rw [List.append_nil]; exact Hset.out), Lib.hid (fun x h => absurd h (by simp)), Lib.hid (fun _ _ h => absurd h (by omega))⟩
  case round =>
    obtain ⟨j, l', hj, rfl, hB, hset, hlt', hall⟩ := hrel
    by_cases hjl : j < aft.length
    · have hsw : Lifts lo hi wr (.slice (some ⟨ba, off, none⟩) L.length cap) rs L := Hsl.out.below hB hhb
      have hrw := hrow1.out.keep (Same.of_below hB hhb)
      obtain ⟨bb, oa, rfl⟩ := hrow1.out.addr (by omega)
      have ca := Ints.at hrw.get hjl
      have hri := (Hris.out j hjl).1
      have hri2 := hri.2
      obtain ⟨m, hm⟩ : ∃ m : Nat, aft[j] = (m : Int) := ⟨(aft[j]).toNat, by omega⟩
      have hmk : m < k := by omega
      have hmw : (Lit.int .i64 (m : Int)).wf = true := wf_small (by omega) (by omega)
      have hlook := Lib.hid (hset.out.seen.look (t := 55) Tryd.underlying2 Tryd.underlying4 Tryd.underlying55 (zero_bool wr) hmw)
      have Hst := Lib.hid (fun (l2 : List Int) (hx : (m : Int) ∈ l ++ l2) (hs : ∀ x ∈ l ++ l', x ∈ l ++ l2) => (show ∀ i (h : i < aft.length), i < j + 1 → aft[i] ∈ l ++ l2 from fun i hi hij => by
        by_cases e : i < j
        · exact hs _ (hall.out i hi e)
        · have : i = j := by omega
          subst this; rw [hm]; exact hx))
      rw [hm] at ca
      clear hri hri2 hm hrw
      by_cases hmem : (m : Int) ∈ l ++ l'
      · have Hd := Lib.hid (Hst.out l' hmem (fun x h => h))
        rw [decide_eq_true hmem] at hlook
        clear hmem hmw
        have hrun := hlook.out
        go_wp2
        go_roundw
        case rel => exact ⟨j + 1, l', by omega, by go_num, hB, hset, hlt', Hd⟩
        case measure => simp [Go.RowKit.intOf]; omega
      · have Hmem := Lib.hid hmem
        rw [decide_eq_false hmem] at hlook
        have hln : (l ++ l').length < maxLen := by have := hset.out.len; unfold maxLen; omega
        clear hmem
        have hrun := hlook.out
        go_wp2_with (first
          | (at_mapUpdate; refine wpList_seenI_put rfl _ _ _ 55 rfl 2 4 Tryd.underlying2 Tryd.underlying4 Tryd.underlying55 b _ rfl hset.out.seen hln (m : Int) rfl rfl hmw ?_)
          | fail)
        intro w2 hM2 hg2
        have hset2 := hset.out.push Hmem.out (by omega) (by omega) (by simpa only [List.append_assoc] using hM2)
        have B2 : Below b w w2 := hB.grown hg2 (Nat.le_of_lt hset.out.seen.lt) (fun k hk => by cases hk; exact Nat.le_refl _)
        have hs2 : Lifts lo hi w2 (.slice (some ⟨ba, off, none⟩) L.length cap) rs L := Hsl.out.below B2 hhb
        have hcall := Lib.hid (Ih.out m hmk (by omega) _ w2 hs2 hset2)
        clear hM2 hg2 hset2 hs2 hrun hsw hmw
        go_wp2_with fail
        refine hcall.out.mono ?_
        rintro e w3 ⟨rfl, l3, hset3, hlt3, hin3, hb3⟩
        have Hd := Lib.hid (Hst.out (l' ++ [(m : Int)] ++ l3) (by simp) (fun x h => by rcases List.mem_append.1 h with h | h <;> simp [h]))
        have Hset3 : Hid (SetI b (l ++ (l' ++ [(m : Int)] ++ l3)) w3) := Lib.hid (by simpa only [List.append_assoc] using hset3)
        have Hlt3 : Hid (∀ x ∈ l' ++ [(m : Int)] ++ l3, x < (k : Int)) := Lib.hid (fun x hx => by
          rcases List.mem_append.1 hx with hx | hx
          · rcases List.mem_append.1 hx with hx | hx
            · exact hlt'.out x hx
            · simp at hx; omega
          · have := hlt3 x hx; omega)
        have B3 := B2.trans hb3
        clear hset3 hlt3 hin3 hb3
        go_wp2
        go_roundw
        case rel => exact ⟨j + 1, _, by omega, by go_num, B3, Hset3, Hlt3, Hd⟩
        case measure => simp [Go.RowKit.intOf]; omega
    · have Hd := Lib.hid (show ∀ a ∈ aft, a ∈ l ++ l' from fun a ha => by
        obtain ⟨i, hi, rfl⟩ := List.getElem_of_mem ha
        exact hall.out i hi (by omega))
      go_wp2
      go_end0
      exact ⟨rfl, l', hset.out, hlt'.out, Hd.out, hB⟩
set_option maxRecDepth 100000 in
set_option maxHeartbeats 2000000 in
theorem impl_LiftCode (v : Value) (rs : List LiftR) (L : LiftsL) (lo hi k : Nat) (w : World) (h : Lifts lo hi w v rs L) (hok : liftsOk L) (hk : k < L.length) :
    Calls Tryd.prog 26 #[v, .int .i64 k] w fun e w' => e = .returned (.int .i64 0) ∧ Below w.heap.size w w' := by
  have hV := impl_LiftsOk v rs L lo hi w h (lifts_nm hok) (by have := hok.2; omega)
  rw [liftsB_t hok] at hV
  have hl1 := h.len
  have hL10 := hok.2
  obtain ⟨⟨a, cap, rfl, _⟩, _, _⟩ := h
  rw [hl1] at hV ⊢
  have hV := Lib.hid hV
  obtain ⟨n, hn⟩ : ∃ n, L.length = n := ⟨_, rfl⟩
  rw [hn] at hV hk hL10 ⊢
  clear hl1 hn hok
  go_enter Tryd.func26, Tryd.ntmps26
  go_wp2_with (first
    | (go_at_call 21; refine hV.out.mono ?_; rintro e w1 ⟨rfl, hb1⟩)
    | (go_at_call 39; refine (impl_idx_t _ _ _ (by omega) (by omega) (by omega)).mono ?_; rintro e _ ⟨rfl, rfl⟩)
    | fail)
  go_ret
  exact ⟨rfl, hb1⟩
def NlOut (k : Nat) (aft : List Int) (w : World) (e : Ending) (w' : World) : Prop :=
  ∃ N : Nat, e = .returned (.tuple #[.int .i64 N, .int .i64 0]) ∧ N < 2 ^ k ∧ (∀ a ∈ aft, N.testBit a.toNat = true) ∧ Below w.heap.size w w'
theorem SeenI.keys {b : Nat} {l : List Int} {w : World} (h : SeenI Tryd.prog 2 4 b l w) : ∃ (nn : Nat) (D : DataW Unit), w.ownsMap Tryd.prog 2 (plainElem Tryd.prog 4) b nn D ∧ ∀ x, has D (.int .i64 x) = true ↔ x ∈ l := by
  obtain ⟨D, h1, h2, h3, h4⟩ := h
  refine ⟨_, D, h1, fun x => ⟨fun hx => ?_, fun hx => has_true_of_atKey (h3 x hx)⟩⟩
  by_cases hm : x ∈ l
  · exact hm
  · rw [has_false_of_atKey (h4 x hm)] at hx; cases hx
theorem keys_stopsK {b : Nat} {l : List Int} {w : World} (q : Nat) (hq : w.heap[q]? = some (.cells #[.map (some b)] 55 (0, 0))) (h : SeenI Tryd.prog 2 4 b l w) :
    ∃ N, SeqStopsK Fence.wide 2 Tryd.prog 53 #[.pointer (some ⟨q, 0, none⟩)] (fun x : Int => #[encZ x]) KeepsWalks (fun ss => ∀ x, x ∈ ss ↔ x ∈ l) (fun _ => True) N w := by
  obtain ⟨nn, D, h1, h2⟩ := h.keys
  have hs := AnyZI.keys_stops (ρ := Tryd.keysIt_ren) Tryd.keysIt Fence.wide 2 trivial rfl (by omega) q b nn D w (Array.getElem?_eq_some_iff.1 hq).1 (by rw [Lib.cell_of_heap hq]; rfl) h1
  refine ⟨Maps.size D, ?_⟩
  intro l' J Jx W hW hJ hJx hY h0
  refine (hs l' J Jx W hW hJ hJx hY h0).mono ?_
  rintro e W' ⟨hv, ⟨ss, ⟨-, hss⟩, hj⟩ | ⟨pre, -, hj⟩⟩
  · exact ⟨hv, .inl ⟨ss, fun x => (hss x).trans (h2 x), hj⟩⟩
  · exact ⟨hv, .inr ⟨pre, trivial, hj⟩⟩
theorem u64_small {m : Nat} (h : m ≤ 10) : IntKind.u64.wrap (m : Int) = m := by
  unfold IntKind.wrap
  simp only [IntKind.bits, IntKind.signed, Bool.false_and, Bool.false_eq_true, if_false]
  omega
theorem box_bit {N m k : Nat} (hN : N < 2 ^ k) (hk : k ≤ 10) (hm : m ≤ 10) : bits .or .i64 (N : Int) (wrap64 (2 ^ min (IntKind.u64.wrap (m : Int)).toNat 64)) = ((N ||| 2 ^ m : Nat) : Int) := by
  have h1 := pow_b hk
  have h2 := pow_b hm
  rw [u64_small hm, Int.toNat_natCast, Nat.min_eq_left (by omega), wrap_pow hm, or_i64 _ _ (by omega) (by omega)]
attribute [local go_sem] Oper.semAt_some
set_option maxRecDepth 100000 in
set_option maxHeartbeats 8000000 in
theorem impl_NeededLifts (v : Value) (rs : List LiftR) (L : LiftsL) (lo hi k : Nat) (w : World) (h : Lifts lo hi w v rs L) (hhi : hi ≤ w.heap.size) (hok : liftsOk L) (hk : k < L.length) :
    Calls Tryd.prog 10 #[v, .int .i64 k] w (NlOut k L[k].2 w) := by
  refine (callsIn_wide (n := 3)).1 ?_
  have hA := impl_LiftCode v rs L lo hi k w h hok hk
  have hN := fun (b : Nat) (hb : hi ≤ b) (w1 : World) h1 h2 => impl_Needed v rs L lo hi b hok hb k hk [] w1 h1 h2
  have hL10 := hok.2
  have hl1 := h.len
  have Hh := Lib.hid h
  obtain ⟨⟨a, cap, rfl, _⟩, _, _⟩ := h
  rw [hl1] at hA hN Hh ⊢
  clear hl1
  have HA := Lib.hid hA
  have HN := Lib.hid hN
  have hmm := @run_makeMap Tryd.prog
  generalize L[k].2 = aft at *
  clear hA hN hok
  refine callsIn_of_wp_marks Tryd.func10 rfl trivial ?_ rfl
  simp only [Tryd.ntmps10, List.size_toArray, List.length_cons, List.length_nil, Nat.reduceAdd, Nat.reduceSub, Array.replicate_succ, Array.replicate_zero, List.push_toArray, List.append_toArray, List.nil_append, List.cons_append]
  refine wpIn_wide.2 ?_
  go_wp2_with (first | (go_at_call 26; refine HA.out.mono ?_; rintro e w1 ⟨rfl, hb1⟩) | fail)
  have hM := Lib.hid (show SetI w1.heap.size [] (w1.alloc (.map #[] 0)) from ⟨SeenI.made _ _ _ _, List.nodup_nil, fun x hx => absurd hx (by simp)⟩)
  have hb1s := hb1.size
  have hba : Below w.heap.size w (w1.alloc (.map #[] 0)) := hb1.alloc (by omega) _
  have hcall := Lib.hid (HN.out w1.heap.size (by omega) _ (Hh.out.ext hba) hM.out)
  clear hM hmm HA HN Hh
  refine hcall.out.mono ?_
  rintro e w2 ⟨rfl, l, hset, hlk, hin, hb2⟩
  rw [List.nil_append] at hset hin
  have B2 : Below w.heap.size w w2 := hba.trans (hb2.mono (by omega))
  have hm2 := hset.seen.lt
  have Hset := Lib.hid hset
  have Hin := Lib.hid hin
  have Hlk := Lib.hid hlk
  obtain ⟨mb, hmb⟩ : ∃ mb, w1.heap.size = mb := ⟨_, rfl⟩
  rw [hmb] at Hset hm2 ⊢
  clear hcall hset hlk hin hb2 hba hb1 hmb
  have cK : ∀ W, Calls Tryd.prog 31 #[.map (some mb)] W fun e w' => e = .returned (.func (.func 53) #[] #[.pointer (some ⟨W.heap.size, 0, none⟩)]) ∧ w' = W.alloc (.cells #[.map (some mb)] 55) := fun W => (callsIn_wide (n := 3)).1 (AnyZI.keys_in Tryd.keysFn Fence.wide 3 trivial rfl (some mb) W)
  go_wp2_with (first | (go_at_call 31; refine (cK _).mono ?_; rintro e w' ⟨rfl, rfl⟩) | fail)
  obtain ⟨W3, hW3⟩ : ∃ W3, ((w2.alloc (.cells #[.int .i64 0] 2)).alloc (.cells #[.map (some mb)] 55)) = W3 := ⟨_, rfl⟩
  have hs3 : W3.heap.size = w2.heap.size + 2 := by rw [← hW3]; simp
  have hq2 : W3.heap[w2.heap.size]? = some (.cells #[.int .i64 0] 2 (0, 0)) := by rw [← hW3]; exact blkN_below ((Below.refl _ _).alloc (Nat.le_refl _) _) (blkN_new w2 _)
  have hq3 : W3.heap[w2.heap.size + 1]? = some (.cells #[.map (some mb)] 55 (0, 0)) := by
    rw [← hW3]
    have := blkN_new (w2.alloc (.cells #[.int .i64 0] 2)) (.cells #[.map (some mb)] 55)
    rwa [World.size_alloc] at this
  have hb23 : Below w2.heap.size w2 W3 := by rw [← hW3]; exact ((Below.refl _ _).alloc (Nat.le_refl _) _).alloc (by simp) _
  have hsn3 := Hset.out.seen.below hb23
  have B3 : Below w.heap.size w W3 := B2.trans (hb23.mono B2.size)
  have hBs := B2.size
  rw [hW3]
  obtain ⟨nn, hseq⟩ := keys_stopsK _ hq3 hsn3
  obtain ⟨q, hq⟩ : ∃ q, w2.heap.size = q := ⟨_, rfl⟩
  rw [hq] at hs3 hq2 hq3 hBs hseq ⊢
  have c2 : W3.cell? ⟨q, 0, none⟩ = some (.int .i64 0) := by rw [Lib.cell_of_heap hq2]; rfl
  have f2 : W3.frozen? ⟨q, 0, none⟩ = false := Lib.frozen_of_heap hq2 0
  clear hW3 hq hsn3 hb23 cK
  refine (wpIn_wide (n := 3)).1 ?_
  refine wpIn_rangeFunc_ownF rfl (by omega) (gf := 53) (lb := #[.pointer (some ⟨q + 1, 0, none⟩)]) rfl trivial (enters_of Tryd.func53 (by kernel_rfl) rfl)
    hseq KeepsWalks.trans (fun W l o o' hl h ho hw => KeepsWalks.putObj o' h hw) (Below.refl _ _) (fun _ => rfl)
    (fun pre W => (∃ v : Int, W.cell? ⟨q, 0, none⟩ = some (.int .i64 v) ∧ W.frozen? ⟨q, 0, none⟩ = false ∧ ((∀ x ∈ pre, 0 ≤ x ∧ x < (k : Int)) → ∃ N : Nat, v = (N : Int) ∧ N < 2 ^ k ∧ ∀ x ∈ pre, N.testBit x.toNat = true)) ∧ Below w.heap.size w W)
    (fun c pre W => False)
    (OwnFrom.and (Own.from (fun s A B row hs hg hr => by obtain ⟨v, h1, h2, h3⟩ := hs; exact ⟨v, cell_kept h1 hg hr, (frozen_kept h1 hg hr).trans h2, h3⟩) _) (ownFrom_below (Nat.le_refl _) (by omega)))
    (fun c => fun s A B row hs hg hr => hs)
    ⟨⟨0, c2, f2, fun _ => ⟨0, rfl, Nat.two_pow_pos k, fun x hx => absurd hx (by simp)⟩⟩, B3⟩
    (fun x => { tmps := #[.slice a L.length cap, .int .i64 k, undef, undef, .int .i64 0, .int .i64 0, .int .i64 0, .map (some mb), .pointer (some ⟨q, 0, none⟩), .int .i64 x, .slice a L.length cap, .int .i64 k, .int .i64 0, .int .i64 0, .bool false, undef, .map (some mb), .slice a L.length cap, .int .i64 k, .map (some mb), .tuple #[], .map (some mb), .func (.func 53) #[] #[.pointer (some ⟨q + 1, 0, none⟩)], .int .i64 x, undef, undef, undef, undef, undef, undef], defers := [] }) ?assign ?body ?done ?stop
  case assign =>
    intro l x W K hK
    gi_wp2
    first | exact hK | simpa using hK
  case body =>
    rintro l pre x W ⟨⟨v, hcr, hfr, hv⟩, hB⟩ _
    gi_wp2
    refine ⟨KeepsOthers.setCell _ _ _, KeepsWalks.setCell _ _ _, ⟨_, World.cell?_setCell_same' _ _ _ (by rw [hcr]; rfl), by simpa using hfr, fun hx => ?_⟩, hB.setCell (p := ⟨q, 0, none⟩) (by simp only []; omega) _⟩
    obtain ⟨N, rfl, hN, hb⟩ := hv (fun y hy => hx y (by simp [hy]))
    have hxk := hx x (by simp)
    obtain ⟨m, rfl⟩ : ∃ m : Nat, x = (m : Int) := ⟨x.toNat, by omega⟩
    refine ⟨N ||| 2 ^ m, box_bit hN (by omega) (by omega), Nat.or_lt_two_pow hN (Nat.pow_lt_pow_right (by omega) (by omega)), fun y hy => ?_⟩
    rw [Nat.testBit_or, Nat.testBit_two_pow]
    rcases List.mem_append.1 hy with hy | hy
    · rw [hb y hy]; rfl
    · simp at hy; subst hy; simp
  case done =>
    rintro D ys W hD hys ⟨⟨v, hcr, hfr, hv⟩, hB⟩ hK
    go_wp2
    obtain ⟨N, rfl, hN, hb⟩ := hv (fun x hx => ⟨(Hset.out.lt x ((hys x).1 hx)).1, Hlk.out x ((hys x).1 hx)⟩)
    refine ⟨by simp, .inl ⟨_, _, rfl, run_takeDeferred hK, ?_⟩⟩
    refine ⟨.tuple #[.int .i64 N, .int .i64 0], by simp [results, Tryd.results10, go_sem], N, rfl, hN, fun a ha => hb a ((hys a).2 (Hin.out a ha)), hB.trans (belowK_b (w := w) (Nat.le_refl _) W D _ _ (by omega) hK rfl rfl)⟩
  case stop =>
    rintro D c pre W hD hpre hf hK
    exact hf.elim
end Go.Proofs.YtijpghlkbfmefaaDoor
