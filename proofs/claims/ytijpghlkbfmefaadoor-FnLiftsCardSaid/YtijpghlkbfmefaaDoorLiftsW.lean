/- A set of strings: a map[string]bool that the call makes. Lifts: validity, the reference. Lifts: validity, the program. (Under way.) -/
import Derived.Test.YtijpghlkbfmefaaDoorBase
import Derived.Maps.Own
import Derived.Maps.OwnOps
import Derived.Maps.Views
import Derived.StringKeys
import Derived.Test.YtijpghlkbfmefaaDoorLiftW
import Derived.Test.YtijpghlkbfmefaaDoorUnw
import Derived.Carry
namespace Go.Proofs.YtijpghlkbfmefaaDoor
open Go.RowKit
open Go.RowKit Go.ChangeMaps Go.Maps Go.WideMaps

open Classical in
noncomputable def memB (s : ByteArray) (l : List ByteArray) : Bool := decide (s ∈ l)
theorem memB_t {s : ByteArray} {l : List ByteArray} (h : s ∈ l) : memB s l = true := by classical exact decide_eq_true h
theorem memB_f {s : ByteArray} {l : List ByteArray} (h : ¬ s ∈ l) : memB s l = false := by classical exact decide_eq_false h
/-- Block b is a map that says true of the strings of l, and of no others. -/
def SeenM (P : Program) (ks e : TypeId) (b : Nat) (l : List ByteArray) (w : World) : Prop :=
  ∃ D : DataW Unit, w.ownsMap P ks (plainElem P e) b l.length D ∧ IsMap D ∧ ∀ s : ByteArray, D.atKey (.string s.data.toList) (.lit (.bool false)) = .lit (.bool (memB s l))
theorem SeenM.made (P : Program) (ks e : TypeId) (w : World) : SeenM P ks e w.heap.size [] (w.alloc (.map #[] 0)) :=
  ⟨.map [], World.ownsMap_made w P ks _, ⟨[], rfl⟩, fun s => by rw [memB_f (by simp)]; rfl⟩
theorem SeenM.lt {P : Program} {ks e : TypeId} {b : Nat} {l : List ByteArray} {w : World} (h : SeenM P ks e b l w) : b < w.heap.size := by
  obtain ⟨D, h, _⟩ := h; exact h.lt
theorem SeenM.below {P : Program} {ks e : TypeId} {b : Nat} {l : List ByteArray} {w w' : World} (h : SeenM P ks e b l w) (hb : Below w.heap.size w w') : SeenM P ks e b l w' := by
  obtain ⟨D, h1, h2⟩ := h
  exact ⟨D, h1.kept (row := none) ⟨hb.os, hb.tape, hb.output, hb.size, fun k hk _ => hb.block k hk⟩ (by simp), h2⟩
theorem plainElem_bool_inv {H : Type} {P : Program} {e : TypeId} (he : P.underlying e = some .bool) {v : Value} {z : DataW H × List MemPlace} (h : plainElem P e v = some z) : ∃ x, v = .bool x ∧ z = (.lit (.bool x), []) := by
  unfold plainElem at h
  rw [he] at h
  cases v <;> simp at h
  exact ⟨_, rfl, h.symm⟩
theorem SeenM.look {P : Program} {ks e t : TypeId} {b : Nat} {l : List ByteArray} {w : World} (h : SeenM P ks e b l w) (hk : P.underlying ks = some .string) (he : P.underlying e = some .bool) (ht : P.underlying t = some (.map ks e))
    (hz : (zeroValue e).run P w = .ok (.bool false) w) {s : ByteArray} (hs : s.size ≤ maxLen) : (Instr.lookup t (.map (some b)) (.string s) false).run P w = .ok (.bool (memB s l)) w := by
  obtain ⟨D, h1, h2, h3⟩ := h
  obtain ⟨v, ps, hrun, hv⟩ := h1.lookup (string_keyed hk) ht hz (plainElem_bool he false) (keyOf_string_mk hk hs)
  obtain ⟨x, rfl, hx⟩ := plainElem_bool_inv he hv
  rw [h3 s] at hx
  simp only [Prod.mk.injEq, DataW.lit.injEq, Lit.bool.injEq] at hx
  rw [hrun, hx.1]
theorem str_data_ne {s t : ByteArray} (h : ¬ s = t) : (Lit.string s.data.toList) ≠ (Lit.string t.data.toList) := by
  intro e
  injection e with e
  exact h (ByteArray.ext (Array.toList_inj.1 e))
theorem SeenM.put {P : Program} {ks e : TypeId} {b : Nat} {l : List ByteArray} {w' : World} {s : ByteArray} {D : DataW Unit} (h2 : IsMap D) (h3 : ∀ s : ByteArray, D.atKey (.string s.data.toList) (.lit (.bool false)) = .lit (.bool (memB s l)))
    (h1 : w'.ownsMap P ks (plainElem P e) b (l.length + 1) (D.put (.string s.data.toList) (.lit (.bool true)))) : SeenM P ks e b (l ++ [s]) w' := by
  refine ⟨_, by rw [List.length_append]; exact h1, h2.put _ _, fun t => ?_⟩
  by_cases ht : t = s
  · subst ht
    rw [atKey_put_same h2 (by simp [WideAt.IsKeyLit]), memB_t (by simp)]
  · have hm : memB t (l ++ [s]) = memB t l := by
      by_cases hm : t ∈ l
      · rw [memB_t hm, memB_t (by simp [hm])]
      · rw [memB_f hm, memB_f (by simp only [List.mem_append, List.mem_singleton]; exact fun h => h.elim hm ht)]
    rw [atKey_put_other (str_data_ne ht), h3 t, hm]
theorem wpList_seen_put {P : Program} {w : World} {ops : Array Oper} {rest : List Oper} {o : Oper} {a : Act} {Q : Exit → Act → World → Prop} (hg : o.guard = none) (m x v : Operand) (t : TypeId) (hop : o.op = Op.mapUpdate t m x v)
    (ks e : TypeId) (hk : P.underlying ks = some .string) (he : P.underlying e = some .bool) (ht : P.underlying t = some (.map ks e)) (b : Nat) (l : List ByteArray) (hm : a.eval m = .map (some b)) (h : SeenM P ks e b l w) (hl : l.length < maxLen)
    (s : ByteArray) (hx : a.eval x = .string s) (hv : a.eval v = .bool true) (hs : s.size ≤ maxLen)
    (hK : ∀ w', SeenM P ks e b (l ++ [s]) w' → w.grownBy w' (some b) → wpList P ops Q rest (a.put o.dst undef) w') : wpList P ops Q (o :: rest) a w := by
  obtain ⟨D, h1, h2, h3⟩ := h
  exact wpList_mapUpdate_own w hg m x v t hop ks e (string_keyed hk) ht _ b _ D hm h1 hl _ _ _ hx hv (keyOf_string_mk hk hs) _ [] (plainElem_bool he true) fun w' h4 h5 => hK w' (SeenM.put h2 h3 h4) h5
theorem lstr_eq {s t : ByteArray} (h : s = t) : (s.toList == t.toList) = true := by rw [h]; simp
theorem lstr_ne {s t : ByteArray} (h : ¬ s = t) : (s.toList == t.toList) = false := by
  rw [beq_eq_false_iff_ne]
  intro h2
  apply h
  have h3 : s.data.toList = t.data.toList := by simpa [ByteArray.toList_eq] using h2
  exact ByteArray.ext (Array.toList_inj.1 h3)
abbrev LiftsL := List (LiftF × List Int)
/-- The first of that name, or none. -/
def NamedRes (L : LiftsL) (s : ByteArray) (w : World) (e : Ending) (w' : World) : Prop :=
  ∃ r : Int, e = .returned (.int .i64 r) ∧ ((0 ≤ r ∧ ∃ i, ∃ h : i < L.length, L[i].1.name = s) ∨ (r < 0 ∧ ∀ i (h : i < L.length), ¬ L[i].1.name = s)) ∧ w = w'
set_option maxRecDepth 100000 in
set_option maxHeartbeats 4000000 in
theorem spec_Named (v : Value) (rs : List LiftR) (L : LiftsL) (lo hi : Nat) (s : ByteArray) (w : World) (h : Lifts lo hi w v rs L) : Calls Tryd.prog 51 #[v, .string s] w (NamedRes L s w) := by
  have hl1 := h.len
  have hcap : rs.length ≤ 9223372036854775807 := by obtain ⟨a, cap, _, hc, _⟩ := h.out; omega
  have Hs := Lib.hid h
  obtain ⟨⟨a, cap, rfl, hcp, -⟩, -, -⟩ := h
  rw [hl1] at hcap
  rw [hl1]
  have Hl1 := Lib.hid hl1
  clear hl1
  go_enter Tryd.func51, Tryd.ntmps51
  go_wp2
  go_loop [5] (fun i => ∃ k : Nat, k ≤ L.length ∧ i = .int .i64 k ∧ Hid (∀ i (h : i < L.length), i < k → ¬ L[i].1.name = s)) (fun i => L.length - (intOf i).toNat)
  case atStart => exact ⟨0, Nat.zero_le _, rfl, Lib.hid (fun _ _ h => absurd h (by omega))⟩
  case round =>
    obtain ⟨k, hk, rfl, hall⟩ := hrel
    by_cases hlt : k < L.length
    · have hk1 : k < rs.length := by rw [Hl1.out]; exact hlt
      have hs : Lifts lo hi w (.slice a L.length cap) rs L := by rw [← Hl1.out]; exact Hs.out
      obtain ⟨hfl, -⟩ := hs.one hlt hk1
      obtain ⟨b, off, rfl⟩ := hs.out.addr (by omega)
      obtain ⟨c0, -⟩ := Lifts_at hs hk1
      rw [hfl] at c0
      clear hs hfl
      by_cases hn : L[k].1.name = s
      · have hne := lstr_eq hn
        have Hd := Lib.hid (show ∃ i, ∃ h : i < L.length, L[i].1.name = s from ⟨k, hlt, hn⟩)
        clear hn
        generalize L[k].1.name = n at *
        go_wp2
        go_ret
        exact ⟨k, rfl, .inl ⟨by omega, Hd.out⟩, rfl⟩
      · have hne := lstr_ne hn
        have Hd : Hid (∀ i (h : i < L.length), i < k + 1 → ¬ L[i].1.name = s) := Lib.hid (fun i hi hik => by
          by_cases e : i < k
          · exact hall.out i hi e
          · have : i = k := by omega
            subst this; exact hn)
        clear hn
        generalize L[k].1.name = n at *
        go_wp2
        go_round
        case rel => exact ⟨k + 1, by omega, by go_num, Hd⟩
        case measure => simp [intOf]; omega
    · have Hd := Lib.hid (fun i (h : i < L.length) => hall.out i h (by omega))
      go_wp2
      go_ret
      exact ⟨-1, rfl, .inr ⟨by omega, Hd.out⟩, rfl⟩
def liftRow (L : LiftsL) (i : Nat) (h : i < L.length) : Prop := liftOk L[i].1 L[i].2 i ∧ ∀ j (hj : j < i), ¬ L[j].1.name = L[i].1.name
def liftsOk (L : LiftsL) : Prop := (∀ i (h : i < L.length), liftRow L i h) ∧ L.length ≤ 10
open Classical in
noncomputable def liftsB (L : LiftsL) : Bool := decide (liftsOk L)
theorem liftsB_t {L : LiftsL} (h : liftsOk L) : liftsB L = true := by classical exact decide_eq_true h
theorem liftsB_f {L : LiftsL} (h : ¬ liftsOk L) : liftsB L = false := by classical exact decide_eq_false h
theorem liftsB_iff {L : LiftsL} : liftsB L = true ↔ liftsOk L := ⟨fun h => by classical exact of_decide_eq_true h, liftsB_t⟩
theorem liftB_ff {f : LiftF} {a : List Int} {k : Int} (h : liftB f a k = false) : ¬ liftOk f a k := fun h2 => by rw [liftB_t h2] at h; cases h
theorem lifts_step {L : LiftsL} {k : Nat} (hlt : k < L.length) (h : ∀ i (h : i < L.length), i < k → liftRow L i h) (hk : liftRow L k hlt) : ∀ i (h : i < L.length), i < k + 1 → liftRow L i h := by
  intro i hi hik
  by_cases e : i < k
  · exact h i hi e
  · have : i = k := by omega
    subst this; exact hk
set_option maxRecDepth 100000 in
set_option maxHeartbeats 8000000 in
theorem spec_LiftsOk (v : Value) (rs : List LiftR) (L : LiftsL) (lo hi : Nat) (w : World) (h : Lifts lo hi w v rs L) (hwf : ∀ x ∈ L, x.1.name.size ≤ maxLen) (hlen : L.length ≤ 1048576) :
    Calls Tryd.prog 25 #[v] w fun e w' => e = .returned (.bool (liftsB L)) ∧ Below w.heap.size w w' := by
  have hl1 := h.len
  have Hs := Lib.hid h
  obtain ⟨⟨a, cap, rfl, hcp, -⟩, -, -⟩ := h
  rw [hl1] at hcp ⊢
  have Hl1 := Lib.hid hl1
  have Hwf := Lib.hid hwf
  clear hl1 hwf
  go_enter Tryd.func25, Tryd.ntmps25
  go_wp2
  go_loopw [3] (fun i wr => ∃ k : Nat, k ≤ L.length ∧ i = .int .i64 k ∧ Below w.heap.size w wr ∧ Hid (∀ i (h : i < L.length), i < k → liftRow L i h)) (fun i _ => L.length - (intOf i).toNat)
  case atStart => exact ⟨0, Nat.zero_le _, rfl, Below.refl _ _, Lib.hid (fun _ _ h => absurd h (by omega))⟩
  case round =>
    obtain ⟨k, hk, rfl, hB, hall⟩ := hrel
    by_cases hlt : k < L.length
    · have hk1 : k < rs.length := by rw [Hl1.out]; exact hlt
      have hs : Lifts lo hi wr (.slice a L.length cap) rs L := by rw [← Hl1.out]; exact Hs.out.ext hB
      obtain ⟨hfl, hrow⟩ := hs.one hlt hk1
      obtain ⟨b, off, rfl⟩ := hs.out.addr (by omega)
      have hcc := hs.at hk1
      rw [show LiftR.cells rs[k] = [.string L[k].1.name, .int .i64 L[k].1.weight, .int .i64 L[k].1.fx, .int .i64 L[k].1.fy, .int .i64 L[k].1.tx, .int .i64 L[k].1.ty, .int .i64 L[k].1.height, .int .i64 L[k].1.deadline, rs[k].s.v] by unfold LiftR.cells; rw [hfl]] at hcc
      have c0 := hcc 0 _ rfl
      simp only [Nat.add_zero] at c0
      have hbw := World.block_lt_of_cell? wr _ c0
      have hone := fun w' (hb : Below wr.heap.size wr w') => spec_One b (off + k * 9) L[k].1 rs[k].s.v L[k].2 (k : Int) lo hi w' (fun j u hu => (hb.cell (p := ⟨b, off + k * 9 + j, none⟩) hbw).trans (hcc j u hu)) (hrow.ext hb) (Hwf.out _ (List.getElem_mem hlt)) ⟨by omega, by omega⟩
      have hNm0 := fun w' (hb : Below wr.heap.size wr w') => spec_Named (.slice (some ⟨b, off, none⟩) k cap) (rs.take k) (L.take k) lo hi L[k].1.name w' ((nsr_take hs (by omega)).ext hb)
      have hka : (k : Int) ≤ (cap : Int) := by omega
      have hkb : (0 : Int) ≤ (k : Int) := by omega
      clear hs hcc hrow hfl
      cases hcb : liftB L[k].1 L[k].2 k
      · have Hd := Lib.hid (liftsB_f (L := L) (fun h => liftB_ff hcb (h.1 k hlt).1))
        rw [hcb] at hone
        have hone := Lib.hid hone
        clear hcb hNm0
        generalize L[k].1.name = nm at *
        go_wp2_with fail
        refine wp_region_held_drew (S := (fun w' => (∀ b' o', b' < wr.heap.size → w'.cell? ⟨b', o', none⟩ = wr.cell? ⟨b', o', none⟩) ∧ Below wr.heap.size wr w')) (by kernel_rfl) (heldB (Below.refl _ _).drew) (fun hHeld => ?_)
        refine take_v 10 (i := 0) rfl rfl (by kernel_rfl) (by kernel_rfl) (by kernel_rfl) (fun _ _ _ h => h) (by rfl) (fun w hSw => by (try dsimp only at hSw); go_simp; first | done | with_reducible rfl) hHeld ?_
        try simp only [Act.put, List.setIfInBounds_toArray, List.set_cons_zero, List.set_cons_succ]
        refine take_v 11 (i := 1) rfl rfl (by kernel_rfl) (by kernel_rfl) (by kernel_rfl) (fun _ _ _ h => h) (by rfl) (fun w hSw => by (try dsimp only at hSw); go_simp; first | done | with_reducible rfl) hHeld ?_
        try simp only [Act.put, List.setIfInBounds_toArray, List.set_cons_zero, List.set_cons_succ]
        refine take_v 12 (i := 2) rfl rfl (by kernel_rfl) (by kernel_rfl) (by kernel_rfl) (fun _ _ _ h => h) (by rfl) (fun w hSw => by (try dsimp only at hSw); go_simp; first | done | with_reducible rfl) hHeld ?_
        try simp only [Act.put, List.setIfInBounds_toArray, List.set_cons_zero, List.set_cons_succ]
        refine take_v 13 (i := 3) rfl rfl (by kernel_rfl) (by kernel_rfl) (by kernel_rfl) (fun _ _ _ h => h) (by rfl) (fun w hSw => by (try dsimp only at hSw); go_simp; first | done | with_reducible rfl) hHeld ?_
        try simp only [Act.put, List.setIfInBounds_toArray, List.set_cons_zero, List.set_cons_succ]
        refine wpAnyH_ready (rs := [4]) (by kernel_rfl) (by simp) ?_
        refine AllReadyH.cons rfl (fun K hK => ?_) AllReadyH.nil
        go_simp
        refine (hone.out _ (Below.refl _ _).drew).mono ?_
        rintro e w3 ⟨rfl, hb3⟩
        have b3 : Below wr.heap.size wr w3 := (Below.refl _ _).drew.trans hb3
        go_wp2_with fail
        refine hK.out _ _ (heldB b3) (fun hHeld => ?_)
        clear hK
        try simp only [Act.put, List.setIfInBounds_toArray, List.set_cons_zero, List.set_cons_succ]
        refine take_v 15 (i := 5) rfl rfl (by kernel_rfl) (by kernel_rfl) (by kernel_rfl) (fun _ _ _ h => h) (by rfl) (fun w hSw => by (try dsimp only at hSw); go_simp; first | done | with_reducible rfl) hHeld ?_
        try simp only [Act.put, List.setIfInBounds_toArray, List.set_cons_zero, List.set_cons_succ]
        refine take_v 16 (i := 6) rfl rfl (by kernel_rfl) (by kernel_rfl) (by kernel_rfl) (fun _ _ _ h => h) (by rfl) (fun w hSw => by (try dsimp only at hSw); go_simp; first | done | with_reducible rfl) hHeld ?_
        try simp only [Act.put, List.setIfInBounds_toArray, List.set_cons_zero, List.set_cons_succ]
        refine take_u 17 (i := 7) rfl rfl (by kernel_rfl) (by kernel_rfl) (by kernel_rfl) (fun _ _ _ h => h) (by rfl) hHeld ?_
        try simp only [Act.put, List.setIfInBounds_toArray, List.set_cons_zero, List.set_cons_succ]
        refine take_u 18 (i := 8) rfl rfl (by kernel_rfl) (by kernel_rfl) (by kernel_rfl) (fun _ _ _ h => h) (by rfl) hHeld ?_
        try simp only [Act.put, List.setIfInBounds_toArray, List.set_cons_zero, List.set_cons_succ]
        refine take_u 19 (i := 9) rfl rfl (by kernel_rfl) (by kernel_rfl) (by kernel_rfl) (fun _ _ _ h => h) (by rfl) hHeld ?_
        try simp only [Act.put, List.setIfInBounds_toArray, List.set_cons_zero, List.set_cons_succ]
        refine take_u 20 (i := 10) rfl rfl (by kernel_rfl) (by kernel_rfl) (by kernel_rfl) (fun _ _ _ h => h) (by rfl) hHeld ?_
        try simp only [Act.put, List.setIfInBounds_toArray, List.set_cons_zero, List.set_cons_succ]
        refine take_u 21 (i := 11) rfl rfl (by kernel_rfl) (by kernel_rfl) (by kernel_rfl) (fun _ _ _ h => h) (by rfl) hHeld ?_
        try simp only [Act.put, List.setIfInBounds_toArray, List.set_cons_zero, List.set_cons_succ]
        refine take_u 22 (i := 12) rfl rfl (by kernel_rfl) (by kernel_rfl) (by kernel_rfl) (fun _ _ _ h => h) (by rfl) hHeld ?_
        try simp only [Act.put, List.setIfInBounds_toArray, List.set_cons_zero, List.set_cons_succ]
        refine take_u 23 (i := 13) rfl rfl (by kernel_rfl) (by kernel_rfl) (by kernel_rfl) (fun _ _ _ h => h) (by rfl) hHeld ?_
        try simp only [Act.put, List.setIfInBounds_toArray, List.set_cons_zero, List.set_cons_succ]
        refine take_u 24 (i := 14) rfl rfl (by kernel_rfl) (by kernel_rfl) (by kernel_rfl) (fun _ _ _ h => h) (by rfl) hHeld ?_
        try simp only [Act.put, List.setIfInBounds_toArray, List.set_cons_zero, List.set_cons_succ]
        refine take_u 25 (i := 15) rfl rfl (by kernel_rfl) (by kernel_rfl) (by kernel_rfl) (fun _ _ _ h => h) (by rfl) hHeld ?_
        try simp only [Act.put, List.setIfInBounds_toArray, List.set_cons_zero, List.set_cons_succ]
        refine take_u 26 (i := 16) rfl rfl (by kernel_rfl) (by kernel_rfl) (by kernel_rfl) (fun _ _ _ h => h) (by rfl) hHeld ?_
        try simp only [Act.put, List.setIfInBounds_toArray, List.set_cons_zero, List.set_cons_succ]
        refine take_v 27 (i := 17) rfl rfl (by kernel_rfl) (by kernel_rfl) (by kernel_rfl) (fun _ _ _ h => h) (by rfl) (fun w hSw => by (try dsimp only at hSw); go_simp; first | done | with_reducible rfl) hHeld ?_
        try simp only [Act.put, List.setIfInBounds_toArray, List.set_cons_zero, List.set_cons_succ]
        refine wpAnyH_done (by kernel_rfl) ?_ _
        go_wp2
        go_ret
        rw [Hd.out]; exact ⟨rfl, hB.trans (b3.mono hB.size)⟩
      · have Hok := Lib.hid (liftB_iff.1 hcb)
        rw [hcb] at hone
        have hone := Lib.hid hone
        clear hcb
        by_cases hex : ∃ j, ∃ h : j < (L.take k).length, (L.take k)[j].1.name = L[k].1.name
        · have Hd := Lib.hid (liftsB_f (L := L) (fun h => by
            obtain ⟨j, hj, he⟩ := hex
            rw [List.getElem_take] at he
            rw [List.length_take] at hj
            exact (h.1 k hlt).2 j (by omega) he))
          have hNm : Hid (∀ w', Below wr.heap.size wr w' → Calls Tryd.prog 51 #[.slice (some ⟨b, off, none⟩) k cap, .string L[k].1.name] w' fun e w'' => ∃ r : Int, e = .returned (.int .i64 r) ∧ 0 ≤ r ∧ w' = w'') := Lib.hid (fun w' hb => (hNm0 w' hb).mono fun e w'' ⟨r, he, hr, hw⟩ => ⟨r, he, hr.elim (fun h => h.1) (fun h => by obtain ⟨j, hj, he⟩ := hex; exact absurd he (h.2 j hj)), hw⟩)
          clear hNm0 hex
          generalize L[k].1.name = nm at *
          go_wp2_with fail
          go_region_held3 (fun w' => (∀ b' o', b' < wr.heap.size → w'.cell? ⟨b', o', none⟩ = wr.cell? ⟨b', o', none⟩) ∧ Below wr.heap.size wr w') (first | exact heldB (Below.refl _ _).drew | exact heldB b3)
              (first
                | (go_at_call 50; refine (hone.out _ (Below.refl _ _).drew).mono ?_; rintro e w3 ⟨rfl, hb3⟩; have b3 : Below wr.heap.size wr w3 := (Below.refl _ _).drew.trans hb3)
                | (go_at_call 51; refine (hNm.out _ b3).mono ?_; rintro e w4 ⟨r, rfl, hr, rfl⟩))
          go_wp2
          go_ret
          rw [Hd.out]; exact ⟨rfl, hB.trans (b3.mono hB.size)⟩
        · have Hd := Lib.hid (lifts_step hlt hall.out ⟨Hok.out, fun j hj he => hex ⟨j, by rw [List.length_take]; omega, by rw [List.getElem_take]; exact he⟩⟩)
          have hNm : Hid (∀ w', Below wr.heap.size wr w' → Calls Tryd.prog 51 #[.slice (some ⟨b, off, none⟩) k cap, .string L[k].1.name] w' fun e w'' => ∃ r : Int, e = .returned (.int .i64 r) ∧ r < 0 ∧ w' = w'') := Lib.hid (fun w' hb => (hNm0 w' hb).mono fun e w'' ⟨r, he, hr, hw⟩ => ⟨r, he, hr.elim (fun h => absurd h.2 hex) (fun h => h.1), hw⟩)
          clear hNm0 hex
          generalize L[k].1.name = nm at *
          go_wp2_with fail
          go_region_held3 (fun w' => (∀ b' o', b' < wr.heap.size → w'.cell? ⟨b', o', none⟩ = wr.cell? ⟨b', o', none⟩) ∧ Below wr.heap.size wr w') (first | exact heldB (Below.refl _ _).drew | exact heldB b3)
              (first
                | (go_at_call 50; refine (hone.out _ (Below.refl _ _).drew).mono ?_; rintro e w3 ⟨rfl, hb3⟩; have b3 : Below wr.heap.size wr w3 := (Below.refl _ _).drew.trans hb3)
                | (go_at_call 51; refine (hNm.out _ b3).mono ?_; rintro e w4 ⟨r, rfl, hr, rfl⟩))
          go_wp2
          go_roundw
          case rel => exact ⟨k + 1, by omega, by go_num, hB.trans (b3.mono hB.size), Hd⟩
          case measure => simp [intOf]; omega
    · have hkk : k = L.length := by omega
      subst hkk
      by_cases hr : L.length ≤ 10
      · have Hd := Lib.hid (liftsB_t (L := L) ⟨fun i h => hall.out i h h, hr⟩)
        go_wp2
        go_ret
        rw [Hd.out]; exact ⟨ret_bool (by first | exact decide_eq_true (by omega) | exact decide_eq_false (by omega) | rfl), hB⟩
      · have Hd := Lib.hid (liftsB_f (L := L) (fun h => hr h.2))
        go_wp2
        go_ret
        rw [Hd.out]; exact ⟨ret_bool (by first | exact decide_eq_true (by omega) | exact decide_eq_false (by omega) | rfl), hB⟩
theorem info_boolZ : (Tryd.prog.info? 4).map (fun i => i.zero) = some (some (.bool false)) := by kernel_rfl
theorem zero_bool (w : World) : (zeroValue 4).run Tryd.prog w = .ok (.bool false) w := by
  obtain ⟨i, hi, hz⟩ := Option.map_eq_some_iff.1 info_boolZ
  simp [zeroValue, typeInfo, hi, hz]
/-- The number before the j-th; -1 ahead of the first. -/
def prevAt (l : List Int) (j : Nat) : Int := if j = 0 then -1 else l.getD (j - 1) 0
theorem prevAt_step {l : List Int} {j : Nat} (h : j < l.length) : prevAt l (j + 1) = l[j] := by
  unfold prevAt; rw [if_neg (by omega), Nat.add_sub_cancel, List.getD_eq_getElem?_getD, List.getElem?_eq_getElem h]; rfl
theorem riseRow_iff {l : List Int} {n : Int} {j : Nat} (h : j < l.length) (hall : ∀ i (h : i < l.length), i < j → riseRow l n i h) : riseRow l n j h ↔ (¬ l[j] ≤ prevAt l j ∧ ¬ n ≤ l[j]) := by
  by_cases hj : j = 0
  · subst hj
    unfold riseRow prevAt
    simp only [if_true]
    constructor
    · rintro ⟨⟨h1, h2⟩, _⟩; omega
    · rintro ⟨h1, h2⟩; exact ⟨by omega, fun h0 => absurd h0 (by omega)⟩
  · obtain ⟨i, rfl⟩ : ∃ i, j = i + 1 := ⟨j - 1, by omega⟩
    rw [prevAt_step (by omega)]
    have h0 := (hall i (by omega) (by omega)).1.1
    unfold riseRow
    simp only [Nat.add_sub_cancel]
    constructor
    · rintro ⟨⟨h1, h2⟩, h3⟩
      have := h3 (by omega)
      omega
    · rintro ⟨h1, h2⟩
      exact ⟨by omega, fun _ => by omega⟩
set_option maxRecDepth 100000 in
set_option maxHeartbeats 8000000 in
theorem impl_LiftsOk (v : Value) (rs : List LiftR) (L : LiftsL) (lo hi : Nat) (w : World) (h : Lifts lo hi w v rs L) (hwf : ∀ x ∈ L, x.1.name.size ≤ maxLen) (hlen : L.length ≤ 1048576) :
    Calls Tryd.prog 21 #[v] w fun e w' => e = .returned (.bool (liftsB L)) ∧ Below w.heap.size w w' := by
  have hl1 := h.len
  have Hs := Lib.hid h
  obtain ⟨⟨a, cap, rfl, hcp, -⟩, -, -⟩ := h
  rw [hl1] at hcp ⊢
  have Hl1 := Lib.hid hl1
  have Hwf := Lib.hid hwf
  have hM0 := Lib.hid (SeenM.made Tryd.prog 9 4 w)
  have hba : Below w.heap.size w (w.alloc (.map #[] 0)) := (Below.refl _ _).alloc (Nat.le_refl _) _
  clear hl1 hwf
  have hmm := @run_makeMap Tryd.prog
  go_enter Tryd.func21, Tryd.ntmps21
  go_wp2
  go_loopw [12] (fun i wr => ∃ k : Nat, k ≤ L.length ∧ i = .int .i64 k ∧ Below w.heap.size w wr ∧ Hid (SeenM Tryd.prog 9 4 w.heap.size ((L.take k).map (fun x => x.1.name)) wr) ∧ Hid (∀ i (h : i < L.length), i < k → liftRow L i h)) (fun i _ => L.length - (intOf i).toNat)
  case atStart => exact ⟨0, Nat.zero_le _, rfl, hba, by simpa using hM0, Lib.hid (fun _ _ h => absurd h (by omega))⟩
  case round =>
    clear hM0 hba hmm
    obtain ⟨k, hk, rfl, hB, hM, hall⟩ := hrel
    by_cases hlt : k < L.length
    · have hk1 : k < rs.length := by rw [Hl1.out]; exact hlt
      have hs : Lifts lo hi wr (.slice a L.length cap) rs L := by rw [← Hl1.out]; exact Hs.out.ext hB
      obtain ⟨hfl, -⟩ := hs.one hlt hk1
      obtain ⟨b, off, rfl⟩ := hs.out.addr (by omega)
      obtain ⟨c0, c1, c2, c3, c4, c5, c6, c7, c8⟩ := Lifts_at hs hk1
      rw [hfl] at c0 c1 c2 c3 c4 c5 c6 c7
      have hnw := Hwf.out _ (List.getElem_mem hlt)
      have hone := fun (s : SV) w => impl_One L[k].1 s w hnw
      have hrw := (Hs.out.one hlt hk1).2
      clear hs hfl
      generalize rs[k].s = sk at *
      obtain ⟨sa, sl, sc⟩ := sk
      have hone := hone ⟨sa, sl, sc⟩
      simp only [LiftR.cells, SV.v] at hone c8 hrw
      have Hrw := Lib.hid hrw
      clear hrw
      cases hp : plainB L[k].1
      · have Hd := Lib.hid (liftsB_f (L := L) (fun h => by
          obtain ⟨g1, g2, g3, g4, g5, g6, _⟩ := (h.1 k hlt).1
          rw [plainB_t ⟨g1, g2, g3, g4, g5, g6⟩] at hp; cases hp))
        rw [hp] at hone
        have hone := Lib.hid hone
        clear hp
        generalize L[k].1 = f at *
        obtain ⟨x0, x1, x2, x3, x4, x5, x6, x7⟩ := f
        dsimp only at *
        go_wp2_with (first | (go_at_call 46; refine (hone.out _).mono ?_; rintro e w1 ⟨rfl, hb1⟩; have B1 := hB.trans ((((Below.refl _ wr).alloc (Nat.le_refl _) _).trans (hb1.mono (by simp))).mono hB.size)))
        go_ret
        rw [Hd.out]; exact ⟨rfl, B1⟩
      · rw [hp] at hone
        have hone := Lib.hid hone
        have hlook := Lib.hid (fun w1 (hb : Below wr.heap.size wr w1) => (hM.out.below hb).look (t := 76) Tryd.underlying9 Tryd.underlying4 Tryd.underlying76 (zero_bool w1) hnw)
        by_cases hmem : L[k].1.name ∈ (L.take k).map (fun x => x.1.name)
        · have Hd := Lib.hid (liftsB_f (L := L) (fun h => by
            obtain ⟨x, hx, he⟩ := List.mem_map.1 hmem
            obtain ⟨j, hj, rfl⟩ := List.getElem_of_mem hx
            rw [List.getElem_take] at he
            rw [List.length_take] at hj
            exact (h.1 k hlt).2 j (by omega) he))
          rw [memB_t hmem] at hlook
          clear hp hmem
          generalize L[k].1 = f at *
          obtain ⟨x0, x1, x2, x3, x4, x5, x6, x7⟩ := f
          dsimp only at *
          go_wp2_with (first | (go_at_call 46; refine (hone.out _).mono ?_; rintro e w1 ⟨rfl, hb1⟩; have b1 := (((Below.refl _ wr).alloc (Nat.le_refl _) _).trans (hb1.mono (by simp))); have B1 := hB.trans (b1.mono hB.size); have hrun := hlook.out w1 b1; have hx1 := Lib.hid (blkN_below hb1 (blkN_new wr _)); have d0 : w1.cell? ⟨wr.heap.size, 0, none⟩ = some (.string x0) := (Lib.cell_of_heap hx1.out 0).trans rfl))
          go_ret
          rw [Hd.out]; exact ⟨rfl, B1⟩
        · rw [memB_f hmem] at hlook
          have hpl := Lib.hid (plainB_iff.1 hp)
          have Hmem := Lib.hid hmem
          have hnl : ((L.take k).map (fun x => x.1.name)).length < maxLen := by rw [List.length_map, List.length_take]; unfold maxLen; omega
          have Hnext := Lib.hid (fun (hr : rises L[k].2 k) => lifts_step hlt hall.out ⟨by obtain ⟨g1, g2, g3, g4, g5, g6⟩ := hpl.out; exact ⟨g1, g2, g3, g4, g5, g6, hr⟩, fun j hj he => Hmem.out (List.mem_map.2 ⟨L[j], List.mem_take_iff_getElem.2 ⟨j, by omega, rfl⟩, he⟩)⟩)
          have Hbad := Lib.hid (fun (hr : ¬ rises L[k].2 k) => liftsB_f (L := L) (fun h => hr (h.1 k hlt).1.2.2.2.2.2.2))
          have Hnm := Lib.hid (show (L.take (k + 1)).map (fun x => x.1.name) = (L.take k).map (fun x => x.1.name) ++ [L[k].1.name] by rw [List.take_succ_eq_append_getElem hlt, List.map_append]; rfl)
          clear hp hmem
          generalize L[k].2 = l at *
          generalize hff : L[k].1 = f at *
          obtain ⟨x0, x1, x2, x3, x4, x5, x6, x7⟩ := f
          dsimp only at *
          have Hff := Lib.hid hff
          clear hff
          go_wp2_with (first
            | (go_at_call 46; refine (hone.out _).mono ?_; rintro e w1 ⟨rfl, hb1⟩; have b1 := (((Below.refl _ wr).alloc (Nat.le_refl _) _).trans (hb1.mono (by simp))); have B1 := hB.trans (b1.mono hB.size); have hrun := hlook.out w1 b1; have hx1 := Lib.hid (blkN_below hb1 (blkN_new wr _)); have d0 : w1.cell? ⟨wr.heap.size, 0, none⟩ = some (.string x0) := (Lib.cell_of_heap hx1.out 0).trans rfl)
            | (at_mapUpdate; refine wpList_seen_put rfl _ _ _ 76 rfl 9 4 Tryd.underlying9 Tryd.underlying4 Tryd.underlying76 w.heap.size _ rfl (hM.out.below b1) hnl x0 rfl rfl hnw ?_))
          intro w2 hM2 hg2
          have hqM : some wr.heap.size ≠ some w.heap.size := by have := hM.out.lt; simp; omega
          have hx2 := Lib.hid ((hg2.block _ (Array.getElem?_eq_some_iff.1 hx1.out).1 hqM).trans hx1.out)
          have B2 : Below w.heap.size w w2 := B1.grown hg2 B1.size (fun k hk => by cases hk; exact Nat.le_refl _)
          have d8 : w2.cell? ⟨wr.heap.size, 8, none⟩ = some (.slice sa sl sc) := (Lib.cell_of_heap hx2.out 8).trans rfl
          have HM2 := Lib.hid hM2
          clear hM2 hg2 hrun d0 hx1 b1 hb1
          obtain ⟨a', cap', he, hcap', -⟩ := Hrw.out
          cases he
          have Hl := Lib.hid (Hrw.out.ext B2)
          have hlc : l.length ≤ 9223372036854775807 := by omega
          have hpv : prevAt l 0 = -1 := rfl
          go_wp2
          go_loop [6, 32] (fun bf i => ∃ j : Nat, j ≤ l.length ∧ i = .int .i64 j ∧ bf = .int .i64 (prevAt l j) ∧ Hid (∀ i (h : i < l.length), i < j → riseRow l k i h)) (fun _ i => l.length - (intOf i).toNat)
          case atStart => exact ⟨0, Nat.zero_le _, rfl, by rw [hpv], Lib.hid (fun _ _ h => absurd h (by omega))⟩
          case round =>
            clear hpv
            obtain ⟨j, hj, rfl, rfl, hall2⟩ := hrel
            by_cases hlj : j < l.length
            · obtain ⟨b2, off2, rfl⟩ := Hl.out.addr (by omega)
              have p0 := Ints.at Hl.out.get hlj
              have hit := Lib.hid (riseRow_iff hlj hall2.out)
              have Hst := Lib.hid (rise_step hlj hall2.out)
              have Hnp := Lib.hid (prevAt_step hlj)
              have Hnb := Lib.hid (fun (h : ¬ riseRow l k j hlj) => Hbad.out (fun hr => h (hr j hlj)))
              generalize riseRow l k j hlj = P at *
              generalize l[j] = x at *
              generalize prevAt l j = p at *
              by_cases h1 : x ≤ p
              · have Hd := Lib.hid (Hnb.out (fun h => (hit.out.1 h).1 h1))
                go_wp2
                go_ret
                rw [Hd.out]; exact ⟨rfl, B2⟩
              · by_cases h2 : (k : Int) ≤ x
                · have Hd := Lib.hid (Hnb.out (fun h => (hit.out.1 h).2 h2))
                  go_wp2
                  go_ret
                  rw [Hd.out]; exact ⟨rfl, B2⟩
                · have Hd := Lib.hid (Hst.out (hit.out.2 ⟨h1, h2⟩))
                  go_wp2
                  go_round
                  case rel => exact ⟨j + 1, by omega, by go_num, by rw [Hnp.out], Hd⟩
                  case measure => simp [intOf]; omega
            · have Hr : Hid (rises l k) := Lib.hid (fun i h => hall2.out i h (by omega))
              have Hd := Lib.hid (Hnext.out Hr.out)
              go_wp2
              go_roundw
              case rel => exact ⟨k + 1, by omega, by go_num, B2, Lib.hid (by rw [Hnm.out, List.map_take]; exact HM2.out), Hd⟩
              case measure => simp [intOf]; omega
    · have hkk : k = L.length := by omega
      subst hkk
      by_cases hr : L.length ≤ 10
      · have Hd := Lib.hid (liftsB_t (L := L) ⟨fun i h => hall.out i h h, hr⟩)
        go_wp2
        go_ret
        rw [Hd.out]; exact ⟨ret_bool (by first | exact decide_eq_true (by omega) | exact decide_eq_false (by omega) | rfl), hB⟩
      · have Hd := Lib.hid (liftsB_f (L := L) (fun h => hr h.2))
        go_wp2
        go_ret
        rw [Hd.out]; exact ⟨ret_bool (by first | exact decide_eq_true (by omega) | exact decide_eq_false (by omega) | rfl), hB⟩
end Go.Proofs.YtijpghlkbfmefaaDoor
