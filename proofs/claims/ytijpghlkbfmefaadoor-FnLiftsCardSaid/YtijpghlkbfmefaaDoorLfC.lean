/- Lifts in new memory: clones. Lifts: no lift of that name, no lift that needs that one. -/
import Derived.Test.YtijpghlkbfmefaaDoorLfQ
import Derived.Test.YtijpghlkbfmefaaDoorLfD
import Derived.Test.YtijpghlkbfmefaaDoorShelf
namespace Go.Proofs.YtijpghlkbfmefaaDoor
open Go.RowKit
theorem info_i64c : (Tryd.prog.info? 2).map (fun i => (i.zero.map (·.cells.size), i.size, i.bytes)) = some (some 1, 1, 8) := by kernel_rfl
/-- A copy in new memory. -/
def CloneOut {α : Type} (n : Nat) (c : α → List Value) (t : TypeId) (l : List α) (w : World) (e : Ending) (w' : World) : Prop := ∃ v', e = .returned v' ∧ Own n c w.heap.size t w' v' l ∧ Below w.heap.size w w'
set_option maxHeartbeats 2000000 in
theorem impl_CloneI (v : Value) (l : List Int) (lo hi : Nat) (w : World) (h : Sl 1 intCells lo hi w v l) (hl : l.length ≤ 1048576) :
    Calls Tryd.prog 49 #[v] w (CloneOut 1 intCells 2 l w) := by
    obtain ⟨a, cap, rfl, hcp, ha⟩ := h
    cases a with
    | none =>
      have hl0 : l = [] := by
        cases l with
        | nil => rfl
        | cons x l => obtain ⟨b, off, h, _⟩ := ha (by simp); cases h
      subst hl0
      have hq := fun w => Lib.run_eql_slice_nil (P := Tryd.prog) w 29 2 none 0 cap 0 0 Tryd.underlying29
      clear ha
      simp only [List.length_nil]
      go_enter Tryd.func49, Tryd.ntmps49
      go_wp2
      go_ret
      exact ⟨_, rfl, own_nil _ _ _, Below.refl _ _⟩
    | some p =>
      by_cases h0 : 0 < l.length
      · obtain ⟨b, off, e, -⟩ := ha h0
        cases e
        have h : Sl 1 intCells lo hi w (.slice (some ⟨b, off, none⟩) l.length cap) l := ⟨_, _, rfl, hcp, ha⟩
        have hq := fun w => Lib.run_eql_slice_nil (P := Tryd.prog) w 29 2 (some ⟨b, off, none⟩) l.length cap 0 0 Tryd.underlying29
        have hb0 := (Below.refl w.heap.size w).alloc (Nat.le_refl _) (.cells #[] 2)
        have H1 := Lib.hid (h.ext hb0)
        have Hown0 : Hid (Own 1 intCells w.heap.size 2 (w.alloc (.cells #[] 2)) (.slice (some ⟨w.heap.size, 0, none⟩) 0 0) []) := Lib.hid (own_empty w _ _ (Nat.le_refl _))
        clear h ha h0
        go_enter Tryd.func49, Tryd.ntmps49
        go_wp2_with (at_builtin; refine wpList_appN (c := intCells) (bytes := 8) rfl _ _ 29 2 rfl Tryd.underlying29 info_i64c (by omega) intCells_len intCells_one w.heap.size [] l _ rfl Hown0.out lo hi b off cap rfl H1.out (by simp; omega) (by simp; omega) (by simp) ?_; intro v' w3 hown3 hg3; have hB3 := Hown0.out.grows hb0 (Nat.le_refl _) (by simp) hg3; have Hown3 := Lib.hid hown3; clear hown3)
        go_ret
        exact ⟨_, rfl, by have := Hown3.out; rwa [List.nil_append] at this, hB3⟩
      · have hl0 : l = [] := List.length_eq_zero_iff.1 (by omega)
        subst hl0
        exact (Tryd.slices_Clone_int_zero p cap w).mono (fun e w' ⟨v', h1, hrow, _, hb⟩ => ⟨v', h1, hrow, hb⟩)
theorem info_LiftC : (Tryd.prog.info? 31).map (fun i => (i.zero.map (·.cells.size), i.size, i.bytes)) = some (some 9, 9, 96) := by kernel_rfl
set_option maxHeartbeats 2000000 in
theorem impl_CloneL (v : Value) (l : List LiftR) (lo hi : Nat) (w : World) (h : Sl 9 LiftR.cells lo hi w v l) (hl : l.length ≤ 1048576) (hp : 0 < l.length) :
    Calls Tryd.prog 48 #[v] w (CloneOut 9 LiftR.cells 31 l w) := by
    obtain ⟨a, cap, rfl, hcp, ha⟩ := h
    cases a with
    | none =>
      have hl0 : l = [] := by
        cases l with
        | nil => rfl
        | cons x l => obtain ⟨b, off, h, _⟩ := ha (by simp); cases h
      subst hl0
      have hq := fun w => Lib.run_eql_slice_nil (P := Tryd.prog) w 24 31 none 0 cap 0 0 Tryd.underlying24
      clear ha
      simp only [List.length_nil]
      go_enter Tryd.func48, Tryd.ntmps48
      go_wp2
      go_ret
      exact ⟨_, rfl, own_nil _ _ _, Below.refl _ _⟩
    | some p =>
      by_cases h0 : 0 < l.length
      · obtain ⟨b, off, e, -⟩ := ha h0
        cases e
        have h : Sl 9 LiftR.cells lo hi w (.slice (some ⟨b, off, none⟩) l.length cap) l := ⟨_, _, rfl, hcp, ha⟩
        have hq := fun w => Lib.run_eql_slice_nil (P := Tryd.prog) w 24 31 (some ⟨b, off, none⟩) l.length cap 0 0 Tryd.underlying24
        have hb0 := (Below.refl w.heap.size w).alloc (Nat.le_refl _) (.cells #[] 31)
        have H1 := Lib.hid (h.ext hb0)
        have Hown0 : Hid (Own 9 LiftR.cells w.heap.size 31 (w.alloc (.cells #[] 31)) (.slice (some ⟨w.heap.size, 0, none⟩) 0 0) []) := Lib.hid (own_empty w _ _ (Nat.le_refl _))
        clear h ha h0
        go_enter Tryd.func48, Tryd.ntmps48
        go_wp2_with (at_builtin; refine wpList_appN (c := LiftR.cells) (bytes := 96) rfl _ _ 24 31 rfl Tryd.underlying24 info_LiftC (by omega) (fun _ => rfl) LiftR.oneD w.heap.size [] l _ rfl Hown0.out lo hi b off cap rfl H1.out (by simp; omega) (by simp; omega) (by simp) ?_; intro v' w3 hown3 hg3; have hB3 := Hown0.out.grows hb0 (Nat.le_refl _) (by simp) hg3; have Hown3 := Lib.hid hown3; clear hown3)
        go_ret
        exact ⟨_, rfl, by have := Hown3.out; rwa [List.nil_append] at this, hB3⟩
      · have hl0 : l = [] := List.length_eq_zero_iff.1 (by omega)
        subst hl0
        exact absurd hp (by simp)
/-- The clone while its rows get memory of their own: the first k have theirs. -/
structure ClnSt (B H g n cap k : Nat) (rs rk : List LiftR) (L : LiftsL) (W : World) : Prop where
  out : Slw 9 LiftR.cells B H W (.slice (some ⟨g, 0, none⟩) n cap) rk
  len : rk.length = L.length
  lt : g < H
  row : ∀ (i : Nat) (r : LiftR) (x : LiftF × List Int), rk[i]? = some r → L[i]? = some x → r.f = x.1 ∧ (i < k → Own 1 intCells H 2 W r.s.v x.2) ∧ (k ≤ i → rs[i]? = some r)
  apart : ∀ (i j : Nat) (r s : LiftR) (g' : Nat), i < k → j < k → rk[i]? = some r → rk[j]? = some s → i ≠ j → r.s.v.ownBlock = some g' → s.s.v.ownBlock ≠ some g'
theorem set_at {rk : List LiftR} {k i : Nat} {y r : LiftR} (hk : k < rk.length) (h : (rk.set k y)[i]? = some r) : (i = k ∧ r = y) ∨ (i ≠ k ∧ rk[i]? = some r) := by
  rw [List.getElem?_set] at h
  by_cases e : k = i
  · subst e
    rw [if_pos rfl, if_pos hk] at h
    exact .inl ⟨rfl, by cases h; rfl⟩
  · rw [if_neg e] at h
    exact .inr ⟨fun e2 => e e2.symm, h⟩
theorem own_off {lo g o : Nat} {w : World} {v u : Value} {l : List Int} (h : Own 1 intCells lo 2 w v l) (hg : g < lo) : Own 1 intCells lo 2 (w.setCell ⟨g, o, none⟩ u) v l :=
  own_keep h fun b hb => Below.heap_setCell _ _ _ _ fun e => by
    have := (World.ownsRow.lt h b hb).1
    dsimp only at e
    omega
theorem ClnSt.step {B H g n cap k : Nat} {rs rk : List LiftR} {L : LiftsL} {W W1 : World} (h : ClnSt B H g n cap k rs rk L W) (hk : k < L.length) (hH : H ≤ W.heap.size) (hb : Below W.heap.size W W1) (s : SV)
    (hs : Own 1 intCells W.heap.size 2 W1 s.v (L[k]'hk).2) : ∃ rk', ClnSt B H g n cap (k + 1) rs rk' L (W1.setCell ⟨g, k * 9 + 8, none⟩ s.v) := by
  have hk1 : k < rk.length := by rw [h.len]; exact hk
  refine ⟨rk.set k ⟨rk[k].f, s⟩, ?_, by rw [List.length_set]; exact h.len, h.lt, ?_, ?_⟩
  · exact (h.out.keep (Same.of_below hb hH)).store1 (k := k) (j := 8) (x := ⟨rk[k].f, s⟩) (fun _ => rfl) hk1 (by omega) (by simp [LiftR.cells]) (by omega)
  · intro i r x hr hx
    rcases set_at hk1 hr with ⟨rfl, rfl⟩ | ⟨hne, hr⟩
    · rw [List.getElem?_eq_getElem hk] at hx
      cases hx
      exact ⟨(h.row i rk[i] L[i] (List.getElem?_eq_getElem hk1) (List.getElem?_eq_getElem hk)).1, fun _ => own_off (hs.lower hH) h.lt, fun h => absurd h (by omega)⟩
    · obtain ⟨h1, h2, h3⟩ := h.row i r x hr hx
      exact ⟨h1, fun hi => own_off ((h2 (by omega)).below hb) h.lt, fun hi => h3 (by omega)⟩
  · intro i j r t g' hi hj hr ht hij hg ht2
    have old : ∀ (i : Nat) (r : LiftR), i < k → rk[i]? = some r → r.s.v.ownBlock = some g' → g' < W.heap.size := fun i r hi hr hg => by
      have hiL : i < L.length := by omega
      exact (World.ownsRow.lt ((h.row i r L[i] hr (List.getElem?_eq_getElem hiL)).2.1 hi) g' hg).2
    rcases set_at hk1 hr with ⟨rfl, rfl⟩ | ⟨hne, hr3⟩
    · rcases set_at hk1 ht with ⟨rfl, rfl⟩ | ⟨hne2, ht3⟩
      · exact hij rfl
      · have h1 := old j t (by omega) ht3 ht2
        have h2 := (World.ownsRow.lt hs g' hg).1
        omega
    · rcases set_at hk1 ht with ⟨rfl, rfl⟩ | ⟨hne2, ht3⟩
      · have h1 := old i r (by omega) hr3 hg
        have h2 := (World.ownsRow.lt hs g' ht2).1
        omega
      · exact h.apart i j r t g' (by omega) (by omega) hr3 ht3 hij hg ht2
theorem ClnSt.w {B H g n cap : Nat} {rs rk : List LiftR} {L : LiftsL} {W : World} (h : ClnSt B H g n cap L.length rs rk L W) (hBH : B ≤ H) (hH : H ≤ W.heap.size) :
    NSw 9 LiftR.cells LiftR.f LiftR.s 1 intCells B W.heap.size W (.slice (some ⟨g, 0, none⟩) n cap) rk L := by
  have lt : ∀ {i : Nat} {x : LiftF × List Int}, L[i]? = some x → i < L.length := fun h => (List.getElem?_eq_some_iff.1 h).1
  refine ⟨h.out.fresh hH, h.len, fun i r x hr hx => ⟨(h.row i r x hr hx).1, (((h.row i r x hr hx).2.1 (lt hx)).slw intCells_len).widenN hBH (Nat.le_refl _)⟩, ?_, ?_⟩
  · intro i j r s x y hr hs hx hy hij hx0 hy0 he
    obtain ⟨g', hg, _⟩ := (((h.row i r x hr hx).2.1 (lt hx)).slw intCells_len).narrow hx0
    exact h.apart i j r s g' (lt hx) (lt hy) hr hs hij hg (by rw [← he, hg])
  · intro i r x hr hx hx0 he
    have ho := (h.row i r x hr hx).2.1 (lt hx)
    obtain ⟨g', hg, _⟩ := (ho.slw intCells_len).narrow hx0
    have h1 := (World.ownsRow.lt ho g' hg).1
    rw [hg] at he
    have h2 := h.lt
    simp [Value.ownBlock] at he
    omega
theorem own_addrL {lo : Nat} {e : TypeId} {w : World} {v : Value} {l : List LiftR} (h : Own 9 LiftR.cells lo e w v l) (h0 : 0 < l.length) : ∃ b cap, v = .slice (some ⟨b, 0, none⟩) l.length cap := by
  rcases h.2 with ⟨-, h1⟩ | ⟨g, cap, cur, hv, _⟩
  · omega
  · exact ⟨g, cap, hv⟩
theorem lf_cell {lo hi g n cap k : Nat} {W : World} {rk : List LiftR} (h : Slw 9 LiftR.cells lo hi W (.slice (some ⟨g, 0, none⟩) n cap) rk) (hk : k < rk.length) : W.cell? ⟨g, k * 9 + 8, none⟩ = some (rk[k].s.v) ∧ W.frozen? ⟨g, k * 9 + 8, none⟩ = false := by
  refine ⟨?_, h.2 (by omega) g 0 n cap rfl _⟩
  obtain ⟨a, cap', hv, _, hh⟩ := h.1
  obtain ⟨b', off', ha, _, _, hc⟩ := hh (by omega)
  have h2 := hc k hk 8 rk[k].s.v rfl
  simp only [Value.slice.injEq] at hv
  rw [← hv.1] at ha
  cases ha
  rwa [Nat.zero_add] at h2
def LcOut (L : LiftsL) (w : World) (e : Ending) (w' : World) : Prop :=
  ∃ v' rk, e = .returned v' ∧ NSw 9 LiftR.cells LiftR.f LiftR.s 1 intCells w.heap.size w'.heap.size w' v' rk L ∧ Below w.heap.size w w'
set_option maxRecDepth 100000 in
set_option maxHeartbeats 8000000 in
theorem impl_CloneLifts (v : Value) (rs : List LiftR) (L : LiftsL) (lo hi : Nat) (w : World) (h : Lifts lo hi w v rs L) (hl : L.length ≤ 1024) (h0 : 0 < L.length) (hsz : ∀ x ∈ L, x.2.length ≤ 1024) :
    Calls Tryd.prog 24 #[v] w (LcOut L w) := by
  have hl1 := h.len
  have hC := Lib.hid (impl_CloneL v rs lo hi w h.out (by omega) (by omega))
  have Hs := Lib.hid h
  have Hl1 := Lib.hid hl1
  have Hsz := Lib.hid hsz
  clear hsz hl1 h
  go_enter Tryd.func24, Tryd.ntmps24
  go_wp2_with fail
  refine hC.out.mono ?_
  rintro e w1 ⟨v1, rfl, hown, hb1⟩
  obtain ⟨g, cap, rfl⟩ := own_addrL hown (by rw [Hl1.out]; exact h0)
  have hg := World.ownsRow.lt hown g rfl
  have hsl := hown.slw (fun _ => rfl)
  rw [Hl1.out] at hsl ⊢
  have hcp : L.length ≤ cap ∧ cap ≤ 9223372036854775807 := by
    obtain ⟨_, _, hv, hc, _⟩ := hsl.1
    rw [Hl1.out] at hv
    cases hv
    rw [Hl1.out] at hc; exact hc
  have hst : Hid (ClnSt w.heap.size w1.heap.size g L.length cap 0 rs rs L w1) := Lib.hid ⟨hsl, Hl1.out, hg.2, fun i r x hr hx => ⟨(Hs.out.row i r x hr hx).1, fun h => absurd h (by omega), fun _ => hr⟩, fun i j r s g' hi => absurd hi (by omega)⟩
  have hg1 := hg.1
  clear hown hsl hC hg
  go_wp2
  go_loopw [4, 9] (fun o i wr => ∃ (k : Nat) (rk : List LiftR), k ≤ L.length ∧ i = .int .i64 k ∧ Below w.heap.size w wr ∧ w1.heap.size ≤ wr.heap.size ∧ Hid (ClnSt w.heap.size w1.heap.size g L.length cap k rs rk L wr)) (fun _ i _ => L.length - (Go.RowKit.intOf i).toNat)
  case atStart => exact ⟨0, rs, Nat.zero_le _, rfl, hb1, Nat.le_refl _, hst⟩
  case round =>
    obtain ⟨k, rk, hk, rfl, hB, hBs, hst2⟩ := hrel
    by_cases hlt : k < L.length
    · have hk1 : k < rk.length := by rw [hst2.out.len]; exact hlt
      have hk2 : k < rs.length := by rw [Hl1.out]; exact hlt
      have hsrc := ((Hs.out.ext hB).one hlt hk2).2
      have hsame : rs[k]? = some rk[k] := (hst2.out.row k rk[k] L[k] (List.getElem?_eq_getElem hk1) (List.getElem?_eq_getElem hlt)).2.2 (Nat.le_refl _)
      rw [List.getElem?_eq_getElem hk2] at hsame
      injection hsame with hsame
      obtain ⟨c8, f8⟩ := lf_cell hst2.out.out hk1
      rw [hsame] at hsrc
      have hcall := Lib.hid (impl_CloneI _ _ _ _ wr hsrc (by have := Hsz.out _ (List.getElem_mem hlt); omega))
      have Hstep := Lib.hid (fun W1 (hb : Below wr.heap.size wr W1) s hs => hst2.out.step hlt hBs hb s hs)
      generalize rk[k].s = sk at *
      obtain ⟨ta, tl, tc⟩ := sk
      simp only [SV.v] at c8 hcall
      clear hsrc hsame
      go_wp2_with fail
      refine hcall.out.mono ?_
      rintro e w2 ⟨v2, rfl, hown2, hb2⟩
      obtain ⟨va, vc, rfl⟩ := own_sv hown2
      obtain ⟨rk', hst'⟩ := Hstep.out w2 hb2 ⟨va, _, vc⟩ hown2
      have hg2 : g < wr.heap.size := by
        have hlt2 := hst2.out.lt
        omega
      have d8 := (hb2.cell (p := ⟨g, k * 9 + 8, none⟩) hg2).trans c8
      have e8 : w2.frozen? ⟨g, k * 9 + 8, none⟩ = false := (hb2.frozen (p := ⟨g, k * 9 + 8, none⟩) hg2).trans f8
      have Hst3 := Lib.hid hst'
      have B3 : Below w.heap.size w (w2.setCell ⟨g, k * 9 + 8, none⟩ (.slice va (L[k]'hlt).2.length vc)) := (hB.trans (hb2.mono hB.size)).setCell (p := ⟨g, k * 9 + 8, none⟩) (by simp only []; omega) _
      have hs3 : w1.heap.size ≤ (w2.setCell ⟨g, k * 9 + 8, none⟩ (.slice va (L[k]'hlt).2.length vc)).heap.size := by
        have := hb2.size
        simp only [World.size_setCell]
        omega
      clear hst' hown2 Hstep hcall c8 f8 hst2
      go_wp2
      go_roundw
      case rel => exact ⟨k + 1, rk', by omega, by go_num, B3, hs3, Hst3⟩
      case measure => simp [Go.RowKit.intOf]; omega
    · have hkk : k = L.length := by omega
      subst hkk
      have Hw := Lib.hid (hst2.out.w hb1.size hBs)
      go_wp2
      go_ret
      exact ⟨_, rk, rfl, Hw.out, hB⟩
def FalseB (w : World) (e : Ending) (w' : World) : Prop := e = .returned (.bool false) ∧ Below w.heap.size w w'
theorem impl_NotIn (v : Value) (l : List Int) (lo hi : Nat) (n : Int) (w : World) (h : Sl 1 intCells lo hi w v l) (hn : ¬ n ∈ l) (hl : l.length ≤ 1024) :
    Calls Tryd.prog 28 #[v, .int .i64 n] w fun e w' => e = .returned (.bool false) ∧ w' = w := by
  obtain ⟨a, cap, rfl, hcp, hh⟩ := h
  by_cases h0 : 0 < l.length
  · obtain ⟨b, off, rfl, -, -, hc⟩ := hh h0
    have := Tryd.slices_Contains_int b off l.length cap l n w (Nat.le_refl _) (by omega) (fun j hj => by
      have h2 := hc j hj 0 (.int .i64 l[j]) rfl
      rw [List.getD_eq_getElem?_getD, List.getElem?_eq_getElem hj]
      simpa using h2)
    rw [List.take_length, (by simpa using hn : l.contains n = false)] at this
    exact this
  · rw [show l.length = 0 by omega]
    exact Tryd.slices_Contains_int_empty a cap n w
set_option maxRecDepth 100000 in
theorem impl_AddFn (g : LiftF) (sv : SV) (q : Nat) (s : ByteArray) (w : World) (hq : w.cell? ⟨q, 0, none⟩ = some (.string s)) (hne : ¬ g.name = s) :
    Calls Tryd.prog 23 #[.agg (LiftR.cells ⟨g, sv⟩).toArray, .pointer (some ⟨q, 0, none⟩)] w (FalseB w) := by
  obtain ⟨ta, tl, tc⟩ := sv
  obtain ⟨g0, g1, g2, g3, g4, g5, g6, g7⟩ := g
  simp only [LiftR.cells, SV.v]
  dsimp only at hne
  have hq2 := hq
  have hqb := World.block_lt_of_cell? w _ hq
  have h2 := lstr_ne hne
  have hba : Below w.heap.size w (w.alloc (.cells #[.string g0, .int .i64 g1, .int .i64 g2, .int .i64 g3, .int .i64 g4, .int .i64 g5, .int .i64 g6, .int .i64 g7, .slice ta tl tc] 31 (0, 0))) := (Below.refl _ _).alloc (Nat.le_refl _) _
  have hq3 := (hba.cell (p := ⟨q, 0, none⟩) hqb).trans hq
  clear hne
  go_enter Tryd.func23, Tryd.ntmps23
  go_wp2
  go_ret
  exact ⟨rfl, hba⟩
set_option maxRecDepth 100000 in
theorem impl_DropFn (g : LiftF) (sv : SV) (l : List Int) (lo hi q : Nat) (n : Int) (w : World) (hq : w.cell? ⟨q, 0, none⟩ = some (.int .i64 n)) (hs : Sl 1 intCells lo hi w sv.v l) (hn : ¬ n ∈ l) (hl : l.length ≤ 1024) :
    Calls Tryd.prog 27 #[.agg (LiftR.cells ⟨g, sv⟩).toArray, .pointer (some ⟨q, 0, none⟩)] w (FalseB w) := by
  obtain ⟨ta, tl, tc⟩ := sv
  obtain ⟨g0, g1, g2, g3, g4, g5, g6, g7⟩ := g
  simp only [LiftR.cells, SV.v] at hs ⊢
  have hqb := World.block_lt_of_cell? w _ hq
  have hba : Below w.heap.size w (w.alloc (.cells #[.string g0, .int .i64 g1, .int .i64 g2, .int .i64 g3, .int .i64 g4, .int .i64 g5, .int .i64 g6, .int .i64 g7, .slice ta tl tc] 31 (0, 0))) := (Below.refl _ _).alloc (Nat.le_refl _) _
  have hq3 := (hba.cell (p := ⟨q, 0, none⟩) hqb).trans hq
  have hc := Lib.hid (impl_NotIn _ l lo hi n _ (hs.ext hba) hn hl)
  clear hn hs
  go_enter Tryd.func27, Tryd.ntmps27
  go_wp2_with fail
  refine hc.out.mono ?_
  rintro e _ ⟨rfl, rfl⟩
  go_wp2
  go_ret
  exact ⟨rfl, hba⟩
def IxNo (w : World) (e : Ending) (w' : World) : Prop := e = .returned (.int .i64 (-1)) ∧ Below w.heap.size w w'
set_option maxRecDepth 100000 in
set_option maxHeartbeats 4000000 in
theorem impl_AddIx (v : Value) (rs : List LiftR) (L : LiftsL) (lo hi q : Nat) (s : ByteArray) (w : World) (h : Lifts lo hi w v rs L) (hq : w.cell? ⟨q, 0, none⟩ = some (.string s)) (hno : ∀ i (h : i < L.length), ¬ L[i].1.name = s) :
    Calls Tryd.prog 47 #[v, .func (.func 23) #[] #[.pointer (some ⟨q, 0, none⟩)]] w (IxNo w) := by
    have hl1 := h.len
    have hcap : rs.length ≤ 9223372036854775807 := by obtain ⟨a, cap, _, hc, _⟩ := h.out; omega
    have hql := World.block_lt_of_cell? w _ hq
    have Hq := Lib.hid hq
    have Hno := Lib.hid hno
    have Hs := Lib.hid h
    obtain ⟨⟨a, cap, rfl, _⟩, _, _⟩ := h
    rw [hl1] at hcap ⊢
    have Hl1 := Lib.hid hl1
    clear hl1 hq hno
    go_enter Tryd.func47, Tryd.ntmps47
    go_wp2
    go_loopw [8] (fun i wr => ∃ k : Nat, k ≤ L.length ∧ i = .int .i64 k ∧ Below w.heap.size w wr) (fun i _ => L.length - (Go.RowKit.intOf i).toNat)
    case atStart => exact ⟨0, Nat.zero_le _, rfl, Below.refl _ _⟩
    case round =>
      obtain ⟨k, hk, rfl, hB⟩ := hrel
      by_cases hlt : k < L.length
      · have hk1 : k < rs.length := by rw [Hl1.out]; exact hlt
        have hs : Lifts lo hi wr (.slice a L.length cap) rs L := by rw [← Hl1.out]; exact Hs.out.ext hB
        obtain ⟨hfl, hrow⟩ := hs.one hlt hk1
        obtain ⟨b, off, rfl⟩ := hs.out.addr (by omega)
        obtain ⟨c0, c1, c2, c3, c4, c5, c6, c7, c8⟩ := Lifts_at hs hk1
        rw [hfl] at c0 c1 c2 c3 c4 c5 c6 c7
        have hq2 := (hB.cell (p := ⟨q, 0, none⟩) hql).trans Hq.out
        have hnk := Hno.out k hlt
        clear hs hfl
        generalize rs[k].s = sk at *
        generalize L[k].2 = aft at *
        generalize L[k].1 = f at *
        have hcall := Lib.hid (impl_AddFn f sk q s wr hq2 hnk)
        obtain ⟨ta, tl, tc⟩ := sk
        obtain ⟨g0, g1, g2, g3, g4, g5, g6, g7⟩ := f
        simp only [LiftR.cells, SV.v] at c8 hcall
        dsimp only at *
        clear hq2 hnk hrow
        go_wp2_with fail
        refine hcall.out.mono ?_
        rintro e w1 ⟨rfl, hb1⟩
        go_wp2
        go_roundw
        case rel => exact ⟨k + 1, by omega, by go_num, hB.trans (hb1.mono hB.size)⟩
        case measure => simp [Go.RowKit.intOf]; omega
      · go_wp2
        go_ret
        exact ⟨rfl, hB⟩
set_option maxRecDepth 100000 in
set_option maxHeartbeats 4000000 in
theorem impl_DropIx (v : Value) (rs : List LiftR) (L : LiftsL) (lo hi q : Nat) (n : Int) (w : World) (h : Lifts lo hi w v rs L) (hq : w.cell? ⟨q, 0, none⟩ = some (.int .i64 n)) (hno : ∀ i (h : i < L.length), ¬ n ∈ L[i].2 ∧ L[i].2.length ≤ 1024) :
    Calls Tryd.prog 47 #[v, .func (.func 27) #[] #[.pointer (some ⟨q, 0, none⟩)]] w (IxNo w) := by
    have hl1 := h.len
    have hcap : rs.length ≤ 9223372036854775807 := by obtain ⟨a, cap, _, hc, _⟩ := h.out; omega
    have hql := World.block_lt_of_cell? w _ hq
    have Hq := Lib.hid hq
    have Hno := Lib.hid hno
    have Hs := Lib.hid h
    obtain ⟨⟨a, cap, rfl, _⟩, _, _⟩ := h
    rw [hl1] at hcap ⊢
    have Hl1 := Lib.hid hl1
    clear hl1 hq hno
    go_enter Tryd.func47, Tryd.ntmps47
    go_wp2
    go_loopw [8] (fun i wr => ∃ k : Nat, k ≤ L.length ∧ i = .int .i64 k ∧ Below w.heap.size w wr) (fun i _ => L.length - (Go.RowKit.intOf i).toNat)
    case atStart => exact ⟨0, Nat.zero_le _, rfl, Below.refl _ _⟩
    case round =>
      obtain ⟨k, hk, rfl, hB⟩ := hrel
      by_cases hlt : k < L.length
      · have hk1 : k < rs.length := by rw [Hl1.out]; exact hlt
        have hs : Lifts lo hi wr (.slice a L.length cap) rs L := by rw [← Hl1.out]; exact Hs.out.ext hB
        obtain ⟨hfl, hrow⟩ := hs.one hlt hk1
        obtain ⟨b, off, rfl⟩ := hs.out.addr (by omega)
        obtain ⟨c0, c1, c2, c3, c4, c5, c6, c7, c8⟩ := Lifts_at hs hk1
        rw [hfl] at c0 c1 c2 c3 c4 c5 c6 c7
        have hq2 := (hB.cell (p := ⟨q, 0, none⟩) hql).trans Hq.out
        have hnk := Hno.out k hlt
        clear hs hfl
        generalize rs[k].s = sk at *
        generalize L[k].2 = aft at *
        generalize L[k].1 = f at *
        have hcall := Lib.hid (impl_DropFn f sk aft lo hi q n wr hq2 hrow hnk.1 hnk.2)
        obtain ⟨ta, tl, tc⟩ := sk
        obtain ⟨g0, g1, g2, g3, g4, g5, g6, g7⟩ := f
        simp only [LiftR.cells, SV.v] at c8 hcall
        dsimp only at *
        clear hq2 hnk hrow
        go_wp2_with fail
        refine hcall.out.mono ?_
        rintro e w1 ⟨rfl, hb1⟩
        go_wp2
        go_roundw
        case rel => exact ⟨k + 1, by omega, by go_num, hB.trans (hb1.mono hB.size)⟩
        case measure => simp [Go.RowKit.intOf]; omega
      · go_wp2
        go_ret
        exact ⟨rfl, hB⟩
theorem impl_AddHas (v : Value) (rs : List LiftR) (L : LiftsL) (lo hi q : Nat) (s : ByteArray) (w : World) (h : Lifts lo hi w v rs L) (hq : w.cell? ⟨q, 0, none⟩ = some (.string s)) (hno : ∀ i (h : i < L.length), ¬ L[i].1.name = s) :
    Calls Tryd.prog 22 #[v, .func (.func 23) #[] #[.pointer (some ⟨q, 0, none⟩)]] w (FalseB w) := by
  have hc := Lib.hid (impl_AddIx v rs L lo hi q s w h hq hno)
  clear h hq hno
  go_enter Tryd.func22, Tryd.ntmps22
  go_wp2_with fail
  refine hc.out.mono ?_
  rintro e w1 ⟨rfl, hb1⟩
  go_wp2
  go_ret
  exact ⟨rfl, hb1⟩
theorem impl_DropHas (v : Value) (rs : List LiftR) (L : LiftsL) (lo hi q : Nat) (n : Int) (w : World) (h : Lifts lo hi w v rs L) (hq : w.cell? ⟨q, 0, none⟩ = some (.int .i64 n)) (hno : ∀ i (h : i < L.length), ¬ n ∈ L[i].2 ∧ L[i].2.length ≤ 1024) :
    Calls Tryd.prog 22 #[v, .func (.func 27) #[] #[.pointer (some ⟨q, 0, none⟩)]] w (FalseB w) := by
  have hc := Lib.hid (impl_DropIx v rs L lo hi q n w h hq hno)
  clear h hq hno
  go_enter Tryd.func22, Tryd.ntmps22
  go_wp2_with fail
  refine hc.out.mono ?_
  rintro e w1 ⟨rfl, hb1⟩
  go_wp2
  go_ret
  exact ⟨rfl, hb1⟩
end Go.Proofs.YtijpghlkbfmefaaDoor
