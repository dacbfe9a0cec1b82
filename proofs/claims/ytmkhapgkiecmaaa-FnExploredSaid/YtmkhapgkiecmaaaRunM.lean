/- RunActs: the plain law. RunActs, both packages: where the table or the world isn't valid. RunActs, the reference: the acts one after the other. RunActs, the program: the acts one after the other. RunActs, both packages, for every argument. -/
import Derived.Test.YtmkhapgkiecmaaaNext
import Derived.Handy
namespace Go.Proofs.Ytmkhapgkiecmaaa
open Go.RowKit

/-- What a possible act leaves lies within bounds. -/
theorem in_do {T : Tab} {v : Wtc} {x : Wld} {y : Act1} (hv : v.ok) (hx : x.in_) (h : canB T v x y = true) : (doW x y).in_ := by
  obtain ⟨h1, h2, h3, h4, h5, h6⟩ := hx
  have hl := hv.2
  unfold canB at h
  simp only [Bool.and_eq_true, Bool.or_eq_true, Bool.not_eq_true', decide_eq_true_eq] at h
  obtain ⟨_, ha, hb⟩ := h
  refine ⟨?_, ?_, ?_, ?_, ?_, ?_⟩
  · unfold doW Dir; dsimp only; omega
  · unfold doW Dir; dsimp only; omega
  · unfold doW Dir; dsimp only; unfold Dir at h3; split <;> omega
  · unfold doW Dir; dsimp only; unfold Dir at h4; split <;> omega
  · unfold doW; dsimp only
    split
    · rename_i hl1
      rcases ha with ha | ha
      · rw [hl1] at ha; cases ha
      · omega
    · omega
  · unfold doW; dsimp only
    split
    · rename_i hl1
      rcases hb with hb | hb
      · rw [hl1] at hb; cases hb
      · omega
    · omega

noncomputable def stepB (T : Tab) (v : Wtc) (x : Wld) (y : Act1) : Bool := decide (TrnsOk y) && canB T v x y
/-- The acts one after the other, until one isn't possible: the world and their number. -/
noncomputable def runW (T : Tab) (v : Wtc) : Wld → List Act1 → Nat → Wld × Nat
  | x, [], n => (x, n)
  | x, y :: r, n => if stepB T v x y = true then runW T v (doW x y) r (n + 1) else (x, n)
theorem runW_nil {T : Tab} {v : Wtc} {x : Wld} {n : Nat} : runW T v x [] n = (x, n) := rfl
theorem runW_go {T : Tab} {v : Wtc} {x : Wld} {y : Act1} {r : List Act1} {n : Nat} (h : stepB T v x y = true) : runW T v x (y :: r) n = runW T v (doW x y) r (n + 1) := if_pos h
theorem runW_stop {T : Tab} {v : Wtc} {x : Wld} {y : Act1} {r : List Act1} {n : Nat} (h : stepB T v x y = false) : runW T v x (y :: r) n = (x, n) := if_neg (by simp [h])
theorem runW_len {T : Tab} {v : Wtc} : ∀ (l : List Act1) (x : Wld) (n : Nat), (runW T v x l n).2 ≤ n + l.length
  | [], x, n => by rw [runW_nil]; simp
  | y :: r, x, n => by
    cases h : stepB T v x y
    · rw [runW_stop h]; simp
    · rw [runW_go h]
      have := runW_len (T := T) (v := v) r (doW x y) (n + 1)
      rw [List.length_cons]; omega
noncomputable def runActs (T : Tab) (v : Wtc) (x : Wld) (l : List Act1) : Wld × Int × Int :=
  if codeW T v x = 0 then ((runW T v x l 0).1, ((runW T v x l 0).2 : Int), 0) else (zeroW, 0, codeW T v x)
theorem runActs_code {T : Tab} {v : Wtc} {x : Wld} {l : List Act1} (h : codeW T v x ≠ 0) : runActs T v x l = (zeroW, 0, codeW T v x) := if_neg h
theorem runActs_0 {T : Tab} {v : Wtc} {x : Wld} {l : List Act1} (h : codeW T v x = 0) : runActs T v x l = ((runW T v x l 0).1, ((runW T v x l 0).2 : Int), 0) := if_pos h
set_option maxRecDepth 100000 in
set_option maxHeartbeats 8000000 in
theorem spec_RunActs_code (tv lv : Value) (rows : List SV) (T : Tab) (lo hi : Nat) (v : Wtc) (x : Wld) (l : List Act1) (w : World) (h : TabR lo hi w tv rows T) (hc : codeW T v x ≠ 0) :
    Calls Try.prog 36 #[tv, .agg v.cells.toArray, .agg x.cells.toArray, lv] w fun e w' => e = .returned (.tuple #[.agg (runActs T v x l).1.cells.toArray, .int .i64 (runActs T v x l).2.1, .int .i64 (runActs T v x l).2.2]) ∧ Below w.heap.size w w' := by
  rw [runActs_code hc]
  have hC := fun w' (hb : Below w.heap.size w w') => spec_Code tv rows T lo hi v x w' (h.ext hb)
  have hB0 : ∀ A B D : Obj, Below w.heap.size w (((w.alloc A).alloc B).alloc D) := fun A B D => (((Below.refl _ w).alloc (Nat.le_refl _) _).alloc (by simp) _).alloc (by simp; omega) _
  have HB0 := Lib.hid hB0
  clear hB0 h
  have hcs := codeW_cases T v x
  obtain ⟨m, t⟩ := v
  obtain ⟨a, b, sa, sb, ga, gb⟩ := x
  generalize codeW T ⟨m, t⟩ ⟨a, b, sa, sb, ga, gb⟩ = c at *
  rcases hcs with rfl | rfl | ⟨rfl, _⟩
  · simp only [Wtc.cells, Wld.cells] at *
    have HC := Lib.hid hC
    clear hC hc
    go_enter Try.func36, Try.ntmps36
    go_wp2_with (first | (go_at_call 79; refine (HC.out _ (HB0.out _ _ _)).mono ?_; rintro e w2 ⟨rfl, hb2⟩; have q2 := (bcell hb2).1; have f2 := (bcell hb2).2; have za2 : w.heap.size < w2.heap.size := Nat.lt_of_lt_of_le (by simp <;> omega) (hb2).size; have zb2 : w.heap.size + 1 < w2.heap.size := Nat.lt_of_lt_of_le (by simp <;> omega) (hb2).size; have zc2 : w.heap.size + 1 + 1 < w2.heap.size := Nat.lt_of_lt_of_le (by simp <;> omega) (hb2).size; have B2 : Below w.heap.size w w2 := (HB0.out _ _ _).trans (hb2.mono (by simp <;> omega))))
    exact bodyPost_ret (v := .tuple #[.agg zeroW.cells.toArray, .int .i64 0, .int .i64 8]) (by simp [results, Try.results36, go_sem, q2, zc2, Wld.cells, zeroW]) rfl ⟨by simp [Wld.cells], by go_grown⟩
  · simp only [Wtc.cells, Wld.cells] at *
    have HC := Lib.hid hC
    clear hC hc
    go_enter Try.func36, Try.ntmps36
    go_wp2_with (first | (go_at_call 79; refine (HC.out _ (HB0.out _ _ _)).mono ?_; rintro e w2 ⟨rfl, hb2⟩; have q2 := (bcell hb2).1; have f2 := (bcell hb2).2; have za2 : w.heap.size < w2.heap.size := Nat.lt_of_lt_of_le (by simp <;> omega) (hb2).size; have zb2 : w.heap.size + 1 < w2.heap.size := Nat.lt_of_lt_of_le (by simp <;> omega) (hb2).size; have zc2 : w.heap.size + 1 + 1 < w2.heap.size := Nat.lt_of_lt_of_le (by simp <;> omega) (hb2).size; have B2 : Below w.heap.size w w2 := (HB0.out _ _ _).trans (hb2.mono (by simp <;> omega))))
    exact bodyPost_ret (v := .tuple #[.agg zeroW.cells.toArray, .int .i64 0, .int .i64 1]) (by simp [results, Try.results36, go_sem, q2, zc2, Wld.cells, zeroW]) rfl ⟨by simp [Wld.cells], by go_grown⟩
  · exact absurd rfl hc
set_option maxRecDepth 100000 in
set_option maxHeartbeats 8000000 in
theorem impl_RunActs_code (tv lv : Value) (rows : List SV) (T : Tab) (lo hi : Nat) (v : Wtc) (x : Wld) (l : List Act1) (w : World) (h : TabR lo hi w tv rows T) (hc : codeW T v x ≠ 0) :
    Calls Try.prog 31 #[tv, .agg v.cells.toArray, .agg x.cells.toArray, lv] w fun e w' => e = .returned (.tuple #[.agg (runActs T v x l).1.cells.toArray, .int .i64 (runActs T v x l).2.1, .int .i64 (runActs T v x l).2.2]) ∧ Below w.heap.size w w' := by
  rw [runActs_code hc]
  have hC := fun w' (hb : Below w.heap.size w w') => impl_Code tv rows T lo hi v x w' (h.ext hb)
  have hB0 : ∀ A B D : Obj, Below w.heap.size w (((w.alloc A).alloc B).alloc D) := fun A B D => (((Below.refl _ w).alloc (Nat.le_refl _) _).alloc (by simp) _).alloc (by simp; omega) _
  have HB0 := Lib.hid hB0
  clear hB0 h
  have hcs := codeW_cases T v x
  obtain ⟨m, t⟩ := v
  obtain ⟨a, b, sa, sb, ga, gb⟩ := x
  generalize codeW T ⟨m, t⟩ ⟨a, b, sa, sb, ga, gb⟩ = c at *
  rcases hcs with rfl | rfl | ⟨rfl, _⟩
  · simp only [Wtc.cells, Wld.cells] at *
    have HC := Lib.hid hC
    clear hC hc
    go_enter Try.func31, Try.ntmps31
    go_wp2_with (first | (go_at_call 63; refine (HC.out _ (HB0.out _ _ _)).mono ?_; rintro e w2 ⟨rfl, hb2⟩; have q2 := (bcell hb2).1; have f2 := (bcell hb2).2; have za2 : w.heap.size < w2.heap.size := Nat.lt_of_lt_of_le (by simp <;> omega) (hb2).size; have zb2 : w.heap.size + 1 < w2.heap.size := Nat.lt_of_lt_of_le (by simp <;> omega) (hb2).size; have zc2 : w.heap.size + 1 + 1 < w2.heap.size := Nat.lt_of_lt_of_le (by simp <;> omega) (hb2).size; have B2 : Below w.heap.size w w2 := (HB0.out _ _ _).trans (hb2.mono (by simp <;> omega))))
    exact bodyPost_ret (v := .tuple #[.agg zeroW.cells.toArray, .int .i64 0, .int .i64 8]) (by simp [results, Try.results31, go_sem, q2, zc2, Wld.cells, zeroW]) rfl ⟨by simp [Wld.cells], by go_grown⟩
  · simp only [Wtc.cells, Wld.cells] at *
    have HC := Lib.hid hC
    clear hC hc
    go_enter Try.func31, Try.ntmps31
    go_wp2_with (first | (go_at_call 63; refine (HC.out _ (HB0.out _ _ _)).mono ?_; rintro e w2 ⟨rfl, hb2⟩; have q2 := (bcell hb2).1; have f2 := (bcell hb2).2; have za2 : w.heap.size < w2.heap.size := Nat.lt_of_lt_of_le (by simp <;> omega) (hb2).size; have zb2 : w.heap.size + 1 < w2.heap.size := Nat.lt_of_lt_of_le (by simp <;> omega) (hb2).size; have zc2 : w.heap.size + 1 + 1 < w2.heap.size := Nat.lt_of_lt_of_le (by simp <;> omega) (hb2).size; have B2 : Below w.heap.size w w2 := (HB0.out _ _ _).trans (hb2.mono (by simp <;> omega))))
    exact bodyPost_ret (v := .tuple #[.agg zeroW.cells.toArray, .int .i64 0, .int .i64 1]) (by simp [results, Try.results31, go_sem, q2, zc2, Wld.cells, zeroW]) rfl ⟨by simp [Wld.cells], by go_grown⟩
  · exact absurd rfl hc
theorem blk_below' {W W' : World} {p : Nat} {o : Obj} (hb : Below W.heap.size W W') (h : W.heap[p]? = some o) : W'.heap[p]? = some o := (hb.block p (Array.getElem?_eq_some_iff.1 h).1).trans h
theorem alloc3 (w : World) (A B C : Obj) : (((w.alloc A).alloc B).alloc C).heap[w.heap.size]? = some A ∧ (((w.alloc A).alloc B).alloc C).heap[w.heap.size + 1]? = some B ∧ (((w.alloc A).alloc B).alloc C).heap[w.heap.size + 1 + 1]? = some C := by
  have hk : ∀ (W : World) (D : Obj), Below W.heap.size W (W.alloc D) := fun W D => (Below.refl _ W).alloc (Nat.le_refl _) _
  have hA : (w.alloc A).heap[w.heap.size]? = some A := Array.getElem?_push_size
  have hB : ((w.alloc A).alloc B).heap[(w.alloc A).heap.size]? = some B := Array.getElem?_push_size
  have hC : (((w.alloc A).alloc B).alloc C).heap[((w.alloc A).alloc B).heap.size]? = some C := Array.getElem?_push_size
  have s1 : (w.alloc A).heap.size = w.heap.size + 1 := World.size_alloc _ _
  have s2 : ((w.alloc A).alloc B).heap.size = w.heap.size + 1 + 1 := (World.size_alloc _ _).trans (by rw [s1])
  exact ⟨blk_below' (hk _ _) (blk_below' (hk _ _) hA), by rw [← s1]; exact blk_below' (hk _ _) hB, by rw [← s2]; exact hC⟩
theorem six_below {B : Nat} (V : World) {p : Nat} {a1 a2 a3 a4 a5 a6 : Value} (hB : B ≤ p) : Below B V ((((((V.setCell ⟨p, 0, none⟩ a1).setCell ⟨p, 1, none⟩ a2).setCell ⟨p, 2, none⟩ a3).setCell ⟨p, 3, none⟩ a4).setCell ⟨p, 4, none⟩ a5).setCell ⟨p, 5, none⟩ a6) :=
  ((((((Below.refl B V).setCell hB _).setCell hB _).setCell hB _).setCell hB _).setCell hB _).setCell hB _
theorem six_other {V : World} {p k : Nat} {a1 a2 a3 a4 a5 a6 : Value} (hk : k ≠ p) : ((((((V.setCell ⟨p, 0, none⟩ a1).setCell ⟨p, 1, none⟩ a2).setCell ⟨p, 2, none⟩ a3).setCell ⟨p, 3, none⟩ a4).setCell ⟨p, 4, none⟩ a5).setCell ⟨p, 5, none⟩ a6).heap[k]? = V.heap[k]? := by
  have h : ∀ (W : World) (o : Nat) (u : Value), (W.setCell ⟨p, o, none⟩ u).heap[k]? = W.heap[k]? := fun W o u => Below.heap_setCell _ _ _ _ hk
  simp only [h]
theorem six' {V wE : World} {p : Nat} {o1 o2 o3 o4 o5 o6 a1 a2 a3 a4 a5 a6 : Value} {T : TypeId} {fz : Nat × Nat} (hw : ((((((V.setCell ⟨p, 0, none⟩ a1).setCell ⟨p, 1, none⟩ a2).setCell ⟨p, 2, none⟩ a3).setCell ⟨p, 3, none⟩ a4).setCell ⟨p, 4, none⟩ a5).setCell ⟨p, 5, none⟩ a6) = wE)
    (h : V.heap[p]? = some (.cells #[o1, o2, o3, o4, o5, o6] T fz)) : wE.heap[p]? = some (.cells #[a1, a2, a3, a4, a5, a6] T fz) := by
  subst hw
  simp [World.setCell, Array.getElem?_modify, h]
set_option maxRecDepth 100000 in
set_option maxHeartbeats 8000000 in
theorem spec_RunActs_ok (tv lv : Value) (rows : List SV) (T : Tab) (lo hi lo2 hi2 : Nat) (v : Wtc) (x : Wld) (l : List Act1) (w : World) (h : TabR lo hi w tv rows T) (hl : Act1s lo2 hi2 w lv l) (hlen : l.length ≤ 1048576) (hc : codeW T v x = 0) (hT : TabOk T) (hx : x.ok v) :
    Calls Try.prog 36 #[tv, .agg v.cells.toArray, .agg x.cells.toArray, lv] w fun e w' => e = .returned (.tuple #[.agg (runActs T v x l).1.cells.toArray, .int .i64 (runActs T v x l).2.1, .int .i64 (runActs T v x l).2.2]) ∧ Below w.heap.size w w' := by
  rw [runActs_0 hc]
  have hC := fun w' (hb : Below w.heap.size w w') => spec_Code tv rows T lo hi v x w' (h.ext hb)
  rw [hc] at hC
  have hv := Lib.hid hx.1
  have hin := Lib.hid hx.in_
  have hB0 : ∀ A B D : Obj, Below w.heap.size w (((w.alloc A).alloc B).alloc D) := fun A B D => (((Below.refl _ w).alloc (Nat.le_refl _) _).alloc (by simp) _).alloc (by simp; omega) _
  have HB0 := Lib.hid hB0
  have H := Lib.hid h
  have HL := Lib.hid hl
  have HT := Lib.hid hT
  clear hB0 h hc hx hT
  have hvc : v.cells.toArray = #[.int .i64 v.margin, .int .i64 v.lost] := rfl
  have hxc : x.cells.toArray = #[.int .i64 x.a, .int .i64 x.b, .int .i64 x.seenA, .int .i64 x.seenB, .int .i64 x.ageA, .int .i64 x.ageB] := rfl
  rw [hvc, hxc] at hC ⊢
  clear hvc hxc
  have HC := Lib.hid hC
  clear hC
  obtain ⟨a, cap, rfl, hcap, -⟩ := hl
  go_enter Try.func36, Try.ntmps36
  go_wp2_with fail
  refine (HC.out _ (HB0.out _ _ _)).mono ?_
  rintro e w2 ⟨rfl, hb2⟩
  have B2 : Below w.heap.size w w2 := (HB0.out _ _ _).trans (hb2.mono (by simp <;> omega))
  have g0 : w2.heap[w.heap.size]? = some (.cells #[.int .i64 v.margin, .int .i64 v.lost] 49 (0, 0)) := blk_below' hb2 (alloc3 w _ _ _).1
  have g1 : w2.heap[w.heap.size + 1]? = some (.cells #[.int .i64 x.a, .int .i64 x.b, .int .i64 x.seenA, .int .i64 x.seenB, .int .i64 x.ageA, .int .i64 x.ageB] 51 (0, 0)) := blk_below' hb2 (alloc3 w _ _ _).2.1
  have g2 : w2.heap[w.heap.size + 1 + 1]? = some (.cells #[.int .i64 0, .int .i64 0, .int .i64 0, .int .i64 0, .int .i64 0, .int .i64 0] 51 (0, 0)) := blk_below' hb2 (alloc3 w _ _ _).2.2
  have G0 := Lib.hid g0
  have G1 := Lib.hid g1
  have G2 := Lib.hid g2
  clear g0 g1 g2
  go_wp2
  go_loopw [12, 13] (fun n i wr => ∃ (k : Nat) (y : Wld), k ≤ l.length ∧ i = .int .i64 k ∧ n = .int .i64 k ∧ Below w.heap.size w wr ∧ Hid (wr.heap[w.heap.size]? = some (.cells #[.int .i64 v.margin, .int .i64 v.lost] 49 (0, 0))) ∧ Hid (wr.heap[w.heap.size + 1]? = some (.cells #[.int .i64 y.a, .int .i64 y.b, .int .i64 y.seenA, .int .i64 y.seenB, .int .i64 y.ageA, .int .i64 y.ageB] 51 (0, 0))) ∧ Hid (wr.heap[w.heap.size + 1 + 1]? = some (.cells #[.int .i64 0, .int .i64 0, .int .i64 0, .int .i64 0, .int .i64 0, .int .i64 0] 51 (0, 0))) ∧ Hid y.in_ ∧ Hid (runW T v x l 0 = runW T v y (l.drop k) k)) (fun _ i _ => l.length - (intOf i).toNat)
  case atStart => exact ⟨0, x, Nat.zero_le _, rfl, rfl, B2, G0, G1, G2, hin, Lib.hid rfl⟩
  case round =>
    obtain ⟨k, y, hk, rfl, rfl, hB, h0, h1, h2, hy, hrun⟩ := hrel
    have c0 : ∀ j u, (#[Value.int .i64 y.a, .int .i64 y.b, .int .i64 y.seenA, .int .i64 y.seenB, .int .i64 y.ageA, .int .i64 y.ageB] : Array Value)[j]? = some u → wr.cell? ⟨w.heap.size + 1, j, none⟩ = some u := fun j u hu => by rw [Lib.cell_of_heap h1.out]; exact hu
    have e0 := c0 0 _ rfl
    have e1 := c0 1 _ rfl
    have e2 := c0 2 _ rfl
    have e3 := c0 3 _ rfl
    have e4 := c0 4 _ rfl
    have e5 := c0 5 _ rfl
    clear c0
    have d0 : wr.cell? ⟨w.heap.size + 1 + 1, 0, none⟩ = some (.int .i64 0) := by rw [Lib.cell_of_heap h2.out]; rfl
    have d1 : wr.cell? ⟨w.heap.size + 1 + 1, 1, none⟩ = some (.int .i64 0) := by rw [Lib.cell_of_heap h2.out]; rfl
    have d2 : wr.cell? ⟨w.heap.size + 1 + 1, 2, none⟩ = some (.int .i64 0) := by rw [Lib.cell_of_heap h2.out]; rfl
    have d3 : wr.cell? ⟨w.heap.size + 1 + 1, 3, none⟩ = some (.int .i64 0) := by rw [Lib.cell_of_heap h2.out]; rfl
    have d4 : wr.cell? ⟨w.heap.size + 1 + 1, 4, none⟩ = some (.int .i64 0) := by rw [Lib.cell_of_heap h2.out]; rfl
    have d5 : wr.cell? ⟨w.heap.size + 1 + 1, 5, none⟩ = some (.int .i64 0) := by rw [Lib.cell_of_heap h2.out]; rfl
    have fz : ∀ j, wr.frozen? ⟨w.heap.size + 1 + 1, j, none⟩ = false := fun j => Lib.frozen_of_heap h2.out j
    by_cases hlt : k < l.length
    · have hbw : ∀ j, j < 4 → True := fun _ _ => trivial
      have hLr := HL.out.ext hB
      obtain ⟨b, off, rfl⟩ := hLr.addr (by omega)
      have hbl0 := World.block_lt_of_cell? w _ (Act1s.at HL.out.get hlt).1
      obtain ⟨l0, l1, l2, l3⟩ := Act1s.at hLr.get hlt
      have hdrop : l.drop k = l[k] :: l.drop (k + 1) := List.drop_eq_getElem_cons hlt
      have Hrun := Lib.hid (hrun.out.trans (by rw [hdrop]))
      clear hdrop hLr hbw
      generalize l[k] = z at *
      by_cases hz : TrnsOk z
      · obtain ⟨⟨t1, t2⟩, ⟨t3, t4⟩⟩ := hz
        have hcan := Lib.hid (fun w' (hb : Below w.heap.size w w') => spec_Can tv rows T lo hi v y z w' (H.out.ext hb) HT.out hv.out hy.out ⟨t1, t2⟩ ⟨t3, t4⟩)
        have v0 : wr.cell? ⟨w.heap.size, 0, none⟩ = some (.int .i64 v.margin) := by rw [Lib.cell_of_heap h0.out]; rfl
        have v1 : wr.cell? ⟨w.heap.size, 1, none⟩ = some (.int .i64 v.lost) := by rw [Lib.cell_of_heap h0.out]; rfl
        have bw1 := World.block_lt_of_cell? wr _ v0
        have bw2 := World.block_lt_of_cell? wr _ e0
        have bw3 := World.block_lt_of_cell? wr _ l0
        have bw4 := World.block_lt_of_cell? wr _ d0
        cases hcb : canB T v y z
        · have hst : Hid (runW T v x l 0 = (y, k)) := Lib.hid (Hrun.out.trans (runW_stop (by unfold stepB; rw [hcb]; simp)))
          rw [hcb] at hcan
          go_wp2_with fail
          go_region_held3 (fun w' => (∀ b' o', b' < wr.heap.size → w'.cell? ⟨b', o', none⟩ = wr.cell? ⟨b', o', none⟩) ∧ Below wr.heap.size wr w') (first | (refine heldB ?_; go_grown; done))
            (first | (go_at_call 80; refine (spec_Trn_t _ _ (by omega) (by omega)).mono ?_; rintro e w3 ⟨rfl, rfl⟩) | (go_at_call 81; refine (hcan.out _ ?hb).mono ?_; (case hb => go_grown); rintro e w4 ⟨rfl, b4'⟩; have b4 : Below wr.heap.size wr w4 := Below.trans (by go_grown) (b4'.mono (by go_size)); have q4 := (bcell b4).1; have f4 := (bcell b4).2; have B4 := hB.trans (b4.mono hB.size)))
          all_goals
            go_wp2
            rw [hst.out]
            exact bodyPost_ret (v := .tuple #[.agg y.cells.toArray, .int .i64 k, .int .i64 0]) (by simp [results, Try.results36, go_sem, q4, bw4, bw2, d0, d1, d2, d3, d4, d5, Wld.cells]) rfl ⟨rfl, by have z4 := B4.size; go_grown⟩
        · rw [hcb] at hcan
          have hdo := (fun w' => spec_Do y z w' hy.out ⟨t1, t2⟩ ⟨t3, t4⟩)
          have hnext := Lib.hid (Hrun.out.trans (runW_go (by unfold stepB; rw [hcb, decide_eq_true (show TrnsOk z from ⟨⟨t1, t2⟩, ⟨t3, t4⟩⟩)]; rfl)))
          have hin2 := Lib.hid (in_do hv.out hy.out hcb)
          have hdc : (doW y z).cells.toArray = #[.int .i64 (doW y z).a, .int .i64 (doW y z).b, .int .i64 (doW y z).seenA, .int .i64 (doW y z).seenB, .int .i64 (doW y z).ageA, .int .i64 (doW y z).ageB] := rfl
          rw [hdc] at hdo
          clear hdc hcb
          generalize doW y z = y2 at *
          have HDo := Lib.hid hdo
          clear hdo
          have hbl : b < w.heap.size := hbl0
          go_wp2_with fail
          go_region_held3 (fun w' => (∀ b' o', b' < wr.heap.size → w'.cell? ⟨b', o', none⟩ = wr.cell? ⟨b', o', none⟩) ∧ Below wr.heap.size wr w') (first | (refine heldB ?_; go_grown; done))
            (first | (go_at_call 80; refine (spec_Trn_t _ _ (by omega) (by omega)).mono ?_; rintro e w3 ⟨rfl, rfl⟩) | (go_at_call 81; refine (hcan.out _ ?hb).mono ?_; (case hb => go_grown); rintro e w4 ⟨rfl, b4'⟩; have b4 : Below wr.heap.size wr w4 := Below.trans (by go_grown) (b4'.mono (by go_size)); have q4 := (bcell b4).1; have f4 := (bcell b4).2; have B4 := hB.trans (b4.mono hB.size)))
          all_goals
            have z4 : w.heap.size ≤ w4.heap.size := B4.size
            have z4' := b4.size
            have r0 := Lib.hid (blk_below' b4 h0.out)
            have r1 := Lib.hid (blk_below' b4 h1.out)
            have r2 := Lib.hid (blk_below' b4 h2.out)
            have s0 : ∀ j u, (#[Value.int .i64 y.a, .int .i64 y.b, .int .i64 y.seenA, .int .i64 y.seenB, .int .i64 y.ageA, .int .i64 y.ageB] : Array Value)[j]? = some u → w4.cell? ⟨w.heap.size + 1, j, none⟩ = some u := fun j u hu => by rw [Lib.cell_of_heap r1.out]; exact hu
            have e0 := s0 0 _ rfl
            have e1 := s0 1 _ rfl
            have e2 := s0 2 _ rfl
            have e3 := s0 3 _ rfl
            have e4 := s0 4 _ rfl
            have e5 := s0 5 _ rfl
            clear s0
            have l0 := (q4 _ _ bw3).trans l0
            have l1 := (q4 _ _ bw3).trans l1
            have l2 := (q4 _ _ bw3).trans l2
            have l3 := (q4 _ _ bw3).trans l3
            have hpw : w.heap.size + 1 < w4.heap.size := Nat.lt_of_lt_of_le bw2 z4'
            have fy : ∀ j, w4.frozen? ⟨w.heap.size + 1, j, none⟩ = false := fun j => Lib.frozen_of_heap r1.out j
            have R0 := r0
            have R1 := r1
            have R2 := r2
            clear q4 f4 b4 fz d0 d1 d2 d3 d4 d5 v0 v1 bw1 bw2 bw3 bw4 r0 r1 r2 h0 h1 h2
            go_wp2_with fail
            go_region_with (first | (go_at_call 82; refine (HDo.out _).mono ?_; rintro e w5 ⟨rfl, b5'⟩; have b5 : Below w4.heap.size w4 w5 := Below.trans (by go_grown) (b5'.mono (by go_size)); have b5m := b5.mono z4; have q5 := (bcell b5).1; have f5 := (bcell b5).2; have B5 := B4.trans b5m))
            all_goals
              go_wp2
              go_roundw
              case rel => exact ⟨k + 1, y2, by omega, by go_num, by go_num, B5.trans (six_below _ (Nat.le_succ _)), Lib.hid ((six_other (by omega)).trans (blk_below' b5 R0.out)), Lib.hid (six' rfl (blk_below' b5 R1.out)), Lib.hid ((six_other (by omega)).trans (blk_below' b5 R2.out)), hin2, hnext⟩
              case measure => simp [intOf]; omega
      · have hst : Hid (runW T v x l 0 = (y, k)) := Lib.hid (Hrun.out.trans (runW_stop (by unfold stepB; rw [decide_eq_false hz]; rfl)))
        rcases trns_cases z with ⟨-, t1⟩ | ⟨-, t1, t2, t3⟩ | ⟨t0, -⟩
        · go_wp2_with fail
          go_quiet (first | (go_at_call 80; first | exact Calls.quiet_of_same (Calls.turn (spec_Trn_t _ _ (by omega) (by omega))) | exact Calls.quiet_of_same (Calls.turn (spec_Trn_f _ _ (by omega)))))
          go_wp2
          rw [hst.out]
          exact bodyPost_ret (v := .tuple #[.agg y.cells.toArray, .int .i64 k, .int .i64 0]) (by simp [results, Try.results36, go_sem, d0, d1, d2, d3, d4, d5, Wld.cells]) rfl ⟨rfl, by go_grown; all_goals exact below_dN hB _⟩
        · go_wp2_with fail
          go_quiet (first | (go_at_call 80; first | exact Calls.quiet_of_same (Calls.turn (spec_Trn_t _ _ (by omega) (by omega))) | exact Calls.quiet_of_same (Calls.turn (spec_Trn_f _ _ (by omega)))))
          go_wp2
          rw [hst.out]
          exact bodyPost_ret (v := .tuple #[.agg y.cells.toArray, .int .i64 k, .int .i64 0]) (by simp [results, Try.results36, go_sem, d0, d1, d2, d3, d4, d5, Wld.cells]) rfl ⟨rfl, by go_grown; all_goals exact below_dN hB _⟩
        · exact absurd t0 hz
    · have hfin : Hid (runW T v x l 0 = (y, k)) := Lib.hid (by rw [hrun.out, List.drop_eq_nil_of_le (by omega)]; rfl)
      go_wp2
      rw [hfin.out]
      exact bodyPost_ret (v := .tuple #[.agg y.cells.toArray, .int .i64 k, .int .i64 0]) (by simp [results, Try.results36, go_sem, d0, d1, d2, d3, d4, d5, Wld.cells]) rfl ⟨rfl, by go_grown⟩
theorem blk_new (w : World) (o : Obj) : (w.alloc o).heap[w.heap.size]? = some o := Array.getElem?_push_size
set_option maxRecDepth 100000 in
set_option maxHeartbeats 8000000 in
theorem impl_RunActs_ok (tv lv : Value) (rows : List SV) (T : Tab) (lo hi lo2 hi2 : Nat) (v : Wtc) (x : Wld) (l : List Act1) (w : World) (h : TabR lo hi w tv rows T) (hl : Act1s lo2 hi2 w lv l) (hlen : l.length ≤ 1048576) (hc : codeW T v x = 0) (hT : TabOk T) (hx : x.ok v) :
    Calls Try.prog 31 #[tv, .agg v.cells.toArray, .agg x.cells.toArray, lv] w fun e w' => e = .returned (.tuple #[.agg (runActs T v x l).1.cells.toArray, .int .i64 (runActs T v x l).2.1, .int .i64 (runActs T v x l).2.2]) ∧ Below w.heap.size w w' := by
  rw [runActs_0 hc]
  have hC := fun w' (hb : Below w.heap.size w w') => impl_Code tv rows T lo hi v x w' (h.ext hb)
  rw [hc] at hC
  have hv := Lib.hid hx.1
  have hin := Lib.hid hx.in_
  have hB0 : ∀ A B D : Obj, Below w.heap.size w (((w.alloc A).alloc B).alloc D) := fun A B D => (((Below.refl _ w).alloc (Nat.le_refl _) _).alloc (by simp) _).alloc (by simp; omega) _
  have HB0 := Lib.hid hB0
  have H := Lib.hid h
  have HL := Lib.hid hl
  have HT := Lib.hid hT
  clear hB0 h hc hx hT
  have hvc : v.cells.toArray = #[.int .i64 v.margin, .int .i64 v.lost] := rfl
  have hxc : x.cells.toArray = #[.int .i64 x.a, .int .i64 x.b, .int .i64 x.seenA, .int .i64 x.seenB, .int .i64 x.ageA, .int .i64 x.ageB] := rfl
  rw [hvc, hxc] at hC ⊢
  clear hvc hxc
  have HC := Lib.hid hC
  clear hC
  obtain ⟨a, cap, rfl, hcap, -⟩ := hl
  go_enter Try.func31, Try.ntmps31
  go_wp2_with fail
  refine (HC.out _ (HB0.out _ _ _)).mono ?_
  rintro e w2 ⟨rfl, hb2⟩
  have B2 : Below w.heap.size w w2 := (HB0.out _ _ _).trans (hb2.mono (by simp <;> omega))
  have g0 : w2.heap[w.heap.size]? = some (.cells #[.int .i64 v.margin, .int .i64 v.lost] 49 (0, 0)) := blk_below' hb2 (alloc3 w _ _ _).1
  have g1 : w2.heap[w.heap.size + 1]? = some (.cells #[.int .i64 x.a, .int .i64 x.b, .int .i64 x.seenA, .int .i64 x.seenB, .int .i64 x.ageA, .int .i64 x.ageB] 51 (0, 0)) := blk_below' hb2 (alloc3 w _ _ _).2.1
  have g2 : w2.heap[w.heap.size + 1 + 1]? = some (.cells #[.int .i64 0, .int .i64 0, .int .i64 0, .int .i64 0, .int .i64 0, .int .i64 0] 51 (0, 0)) := blk_below' hb2 (alloc3 w _ _ _).2.2
  have G0 := Lib.hid g0
  have G1 := Lib.hid g1
  have G2 := Lib.hid g2
  clear g0 g1 g2
  go_wp2
  go_loopw [12, 25] (fun n i wr => ∃ (k : Nat) (y : Wld), k ≤ l.length ∧ i = .int .i64 k ∧ n = .int .i64 k ∧ Below w.heap.size w wr ∧ Hid (wr.heap[w.heap.size]? = some (.cells #[.int .i64 v.margin, .int .i64 v.lost] 49 (0, 0))) ∧ Hid (wr.heap[w.heap.size + 1]? = some (.cells #[.int .i64 y.a, .int .i64 y.b, .int .i64 y.seenA, .int .i64 y.seenB, .int .i64 y.ageA, .int .i64 y.ageB] 51 (0, 0))) ∧ Hid (wr.heap[w.heap.size + 1 + 1]? = some (.cells #[.int .i64 0, .int .i64 0, .int .i64 0, .int .i64 0, .int .i64 0, .int .i64 0] 51 (0, 0))) ∧ Hid y.in_ ∧ Hid (runW T v x l 0 = runW T v y (l.drop k) k)) (fun _ i _ => l.length - (intOf i).toNat)
  case atStart => exact ⟨0, x, Nat.zero_le _, rfl, rfl, B2, G0, G1, G2, hin, Lib.hid rfl⟩
  case round =>
    obtain ⟨k, y, hk, rfl, rfl, hB, h0, h1, h2, hy, hrun⟩ := hrel
    have c0 : ∀ j u, (#[Value.int .i64 y.a, .int .i64 y.b, .int .i64 y.seenA, .int .i64 y.seenB, .int .i64 y.ageA, .int .i64 y.ageB] : Array Value)[j]? = some u → wr.cell? ⟨w.heap.size + 1, j, none⟩ = some u := fun j u hu => by rw [Lib.cell_of_heap h1.out]; exact hu
    have e0 := c0 0 _ rfl
    have e1 := c0 1 _ rfl
    have e2 := c0 2 _ rfl
    have e3 := c0 3 _ rfl
    have e4 := c0 4 _ rfl
    have e5 := c0 5 _ rfl
    clear c0
    have d0 : wr.cell? ⟨w.heap.size + 1 + 1, 0, none⟩ = some (.int .i64 0) := by rw [Lib.cell_of_heap h2.out]; rfl
    have d1 : wr.cell? ⟨w.heap.size + 1 + 1, 1, none⟩ = some (.int .i64 0) := by rw [Lib.cell_of_heap h2.out]; rfl
    have d2 : wr.cell? ⟨w.heap.size + 1 + 1, 2, none⟩ = some (.int .i64 0) := by rw [Lib.cell_of_heap h2.out]; rfl
    have d3 : wr.cell? ⟨w.heap.size + 1 + 1, 3, none⟩ = some (.int .i64 0) := by rw [Lib.cell_of_heap h2.out]; rfl
    have d4 : wr.cell? ⟨w.heap.size + 1 + 1, 4, none⟩ = some (.int .i64 0) := by rw [Lib.cell_of_heap h2.out]; rfl
    have d5 : wr.cell? ⟨w.heap.size + 1 + 1, 5, none⟩ = some (.int .i64 0) := by rw [Lib.cell_of_heap h2.out]; rfl
    have fz : ∀ j, wr.frozen? ⟨w.heap.size + 1 + 1, j, none⟩ = false := fun j => Lib.frozen_of_heap h2.out j
    by_cases hlt : k < l.length
    · have hLr := HL.out.ext hB
      obtain ⟨b, off, rfl⟩ := hLr.addr (by omega)
      obtain ⟨l0, l1, l2, l3⟩ := Act1s.at hLr.get hlt
      have hdrop : l.drop k = l[k] :: l.drop (k + 1) := List.drop_eq_getElem_cons hlt
      have Hrun := Lib.hid (hrun.out.trans (by rw [hdrop]))
      clear hdrop hLr
      generalize l[k] = z at *
      have hK := fun w => impl_turnsOk z w
      by_cases hz : TrnsOk z
      · rw [decide_eq_true hz] at hK
        simp only [Act1.cells] at hK
        have HK := Lib.hid hK
        clear hK
        have hcan := fun w' (hb : Below w.heap.size w w') => impl_possible tv rows T lo hi v y z w' (H.out.ext hb) HT.out hv.out hy.out hz.1 hz.2
        simp only [Wtc.cells, Wld.cells, Act1.cells] at hcan
        cases hcb : canB T v y z
        · have hst : Hid (runW T v x l 0 = (y, k)) := Lib.hid (Hrun.out.trans (runW_stop (by unfold stepB; rw [hcb]; simp)))
          rw [hcb] at hcan
          have hcan := Lib.hid hcan
          clear hcb hz
          go_wp2_with (first | (go_at_call 65; refine (HK.out _).mono ?_; rintro e w3 ⟨rfl, hb3⟩; have b3 : Below wr.heap.size wr w3 := Below.trans ((Below.refl _ _).alloc (Nat.le_refl _) _) (hb3.mono (by simp)); have x3 := Lib.hid (blk_below' hb3 (blk_new wr _)); have k3 := hB.trans (b3.mono hB.size); clear hb3; have q3 := Lib.hid (blk_below' b3 h0.out); have r3 := Lib.hid (blk_below' b3 h1.out); have s3 := Lib.hid (blk_below' b3 h2.out); have v03 : w3.cell? ⟨w.heap.size, 0, none⟩ = some (.int .i64 v.margin) := (by rw [Lib.cell_of_heap q3.out]; rfl); have v13 : w3.cell? ⟨w.heap.size, 1, none⟩ = some (.int .i64 v.lost) := (by rw [Lib.cell_of_heap q3.out]; rfl); have e03 : w3.cell? ⟨w.heap.size + 1, 0, none⟩ = some (.int .i64 y.a) := (by rw [Lib.cell_of_heap r3.out]; rfl); have e13 : w3.cell? ⟨w.heap.size + 1, 1, none⟩ = some (.int .i64 y.b) := (by rw [Lib.cell_of_heap r3.out]; rfl); have e23 : w3.cell? ⟨w.heap.size + 1, 2, none⟩ = some (.int .i64 y.seenA) := (by rw [Lib.cell_of_heap r3.out]; rfl); have e33 : w3.cell? ⟨w.heap.size + 1, 3, none⟩ = some (.int .i64 y.seenB) := (by rw [Lib.cell_of_heap r3.out]; rfl); have e43 : w3.cell? ⟨w.heap.size + 1, 4, none⟩ = some (.int .i64 y.ageA) := (by rw [Lib.cell_of_heap r3.out]; rfl); have e53 : w3.cell? ⟨w.heap.size + 1, 5, none⟩ = some (.int .i64 y.ageB) := (by rw [Lib.cell_of_heap r3.out]; rfl); have d03 : w3.cell? ⟨w.heap.size + 1 + 1, 0, none⟩ = some (.int .i64 0) := (by rw [Lib.cell_of_heap s3.out]; rfl); have d13 : w3.cell? ⟨w.heap.size + 1 + 1, 1, none⟩ = some (.int .i64 0) := (by rw [Lib.cell_of_heap s3.out]; rfl); have d23 : w3.cell? ⟨w.heap.size + 1 + 1, 2, none⟩ = some (.int .i64 0) := (by rw [Lib.cell_of_heap s3.out]; rfl); have d33 : w3.cell? ⟨w.heap.size + 1 + 1, 3, none⟩ = some (.int .i64 0) := (by rw [Lib.cell_of_heap s3.out]; rfl); have d43 : w3.cell? ⟨w.heap.size + 1 + 1, 4, none⟩ = some (.int .i64 0) := (by rw [Lib.cell_of_heap s3.out]; rfl); have d53 : w3.cell? ⟨w.heap.size + 1 + 1, 5, none⟩ = some (.int .i64 0) := (by rw [Lib.cell_of_heap s3.out]; rfl); have fy3 : ∀ j, w3.frozen? ⟨w.heap.size + 1, j, none⟩ = false := fun j => Lib.frozen_of_heap r3.out j; have fr3 : ∀ j, w3.frozen? ⟨w.heap.size + 1 + 1, j, none⟩ = false := fun j => Lib.frozen_of_heap s3.out j; have g03 : w3.cell? ⟨wr.heap.size, 0, none⟩ = some (.int .i64 z.turnA) := (by rw [Lib.cell_of_heap x3.out]; rfl); have g13 : w3.cell? ⟨wr.heap.size, 1, none⟩ = some (.int .i64 z.turnB) := (by rw [Lib.cell_of_heap x3.out]; rfl); have g23 : w3.cell? ⟨wr.heap.size, 2, none⟩ = some (.bool z.loseA) := (by rw [Lib.cell_of_heap x3.out]; rfl); have g33 : w3.cell? ⟨wr.heap.size, 3, none⟩ = some (.bool z.loseB) := (by rw [Lib.cell_of_heap x3.out]; rfl)) | (go_at_call 66; refine (hcan.out _ k3).mono ?_; rintro e w4 ⟨rfl, hb4⟩; have b4 : Below wr.heap.size wr w4 := b3.trans (hb4.mono b3.size); have x4 := Lib.hid (blk_below' hb4 x3.out); have k4 := hB.trans (b4.mono hB.size); clear hb4 v03 v13 e03 e13 e23 e33 e43 e53 g03 g13 g23 g33 d03 d13 d23 d33 d43 d53 fr3 fy3; have q4 := Lib.hid (blk_below' b4 h0.out); have r4 := Lib.hid (blk_below' b4 h1.out); have s4 := Lib.hid (blk_below' b4 h2.out); have v04 : w4.cell? ⟨w.heap.size, 0, none⟩ = some (.int .i64 v.margin) := (by rw [Lib.cell_of_heap q4.out]; rfl); have v14 : w4.cell? ⟨w.heap.size, 1, none⟩ = some (.int .i64 v.lost) := (by rw [Lib.cell_of_heap q4.out]; rfl); have e04 : w4.cell? ⟨w.heap.size + 1, 0, none⟩ = some (.int .i64 y.a) := (by rw [Lib.cell_of_heap r4.out]; rfl); have e14 : w4.cell? ⟨w.heap.size + 1, 1, none⟩ = some (.int .i64 y.b) := (by rw [Lib.cell_of_heap r4.out]; rfl); have e24 : w4.cell? ⟨w.heap.size + 1, 2, none⟩ = some (.int .i64 y.seenA) := (by rw [Lib.cell_of_heap r4.out]; rfl); have e34 : w4.cell? ⟨w.heap.size + 1, 3, none⟩ = some (.int .i64 y.seenB) := (by rw [Lib.cell_of_heap r4.out]; rfl); have e44 : w4.cell? ⟨w.heap.size + 1, 4, none⟩ = some (.int .i64 y.ageA) := (by rw [Lib.cell_of_heap r4.out]; rfl); have e54 : w4.cell? ⟨w.heap.size + 1, 5, none⟩ = some (.int .i64 y.ageB) := (by rw [Lib.cell_of_heap r4.out]; rfl); have d04 : w4.cell? ⟨w.heap.size + 1 + 1, 0, none⟩ = some (.int .i64 0) := (by rw [Lib.cell_of_heap s4.out]; rfl); have d14 : w4.cell? ⟨w.heap.size + 1 + 1, 1, none⟩ = some (.int .i64 0) := (by rw [Lib.cell_of_heap s4.out]; rfl); have d24 : w4.cell? ⟨w.heap.size + 1 + 1, 2, none⟩ = some (.int .i64 0) := (by rw [Lib.cell_of_heap s4.out]; rfl); have d34 : w4.cell? ⟨w.heap.size + 1 + 1, 3, none⟩ = some (.int .i64 0) := (by rw [Lib.cell_of_heap s4.out]; rfl); have d44 : w4.cell? ⟨w.heap.size + 1 + 1, 4, none⟩ = some (.int .i64 0) := (by rw [Lib.cell_of_heap s4.out]; rfl); have d54 : w4.cell? ⟨w.heap.size + 1 + 1, 5, none⟩ = some (.int .i64 0) := (by rw [Lib.cell_of_heap s4.out]; rfl); have fy4 : ∀ j, w4.frozen? ⟨w.heap.size + 1, j, none⟩ = false := fun j => Lib.frozen_of_heap r4.out j; have fr4 : ∀ j, w4.frozen? ⟨w.heap.size + 1 + 1, j, none⟩ = false := fun j => Lib.frozen_of_heap s4.out j; have g04 : w4.cell? ⟨wr.heap.size, 0, none⟩ = some (.int .i64 z.turnA) := (by rw [Lib.cell_of_heap x4.out]; rfl); have g14 : w4.cell? ⟨wr.heap.size, 1, none⟩ = some (.int .i64 z.turnB) := (by rw [Lib.cell_of_heap x4.out]; rfl); have g24 : w4.cell? ⟨wr.heap.size, 2, none⟩ = some (.bool z.loseA) := (by rw [Lib.cell_of_heap x4.out]; rfl); have g34 : w4.cell? ⟨wr.heap.size, 3, none⟩ = some (.bool z.loseB) := (by rw [Lib.cell_of_heap x4.out]; rfl)))
          go_wp2
          rw [hst.out]
          exact bodyPost_ret (v := .tuple #[.agg y.cells.toArray, .int .i64 k, .int .i64 0]) (by simp [results, Try.results31, go_sem, d04, d14, d24, d34, d44, d54, Wld.cells]) rfl ⟨rfl, k4.trans (six_below _ (by omega))⟩
        · have hnext := Lib.hid (Hrun.out.trans (runW_go (by unfold stepB; rw [hcb, decide_eq_true hz]; rfl)))
          have hin2 := Lib.hid (in_do hv.out hy.out hcb)
          have hdo := (fun w' => impl_after y z w' hy.out hz.1 hz.2)
          have hdc : (doW y z).cells.toArray = #[.int .i64 (doW y z).a, .int .i64 (doW y z).b, .int .i64 (doW y z).seenA, .int .i64 (doW y z).seenB, .int .i64 (doW y z).ageA, .int .i64 (doW y z).ageB] := rfl
          rw [hdc] at hdo
          simp only [Wld.cells, Act1.cells] at hdo
          rw [hcb] at hcan
          have hcan := Lib.hid hcan
          clear hdc hcb hz
          generalize doW y z = y2 at *
          have HDo := Lib.hid hdo
          clear hdo
          go_wp2_with (first | (go_at_call 65; refine (HK.out _).mono ?_; rintro e w3 ⟨rfl, hb3⟩; have b3 : Below wr.heap.size wr w3 := Below.trans ((Below.refl _ _).alloc (Nat.le_refl _) _) (hb3.mono (by simp)); have x3 := Lib.hid (blk_below' hb3 (blk_new wr _)); have k3 := hB.trans (b3.mono hB.size); clear hb3; have q3 := Lib.hid (blk_below' b3 h0.out); have r3 := Lib.hid (blk_below' b3 h1.out); have s3 := Lib.hid (blk_below' b3 h2.out); have v03 : w3.cell? ⟨w.heap.size, 0, none⟩ = some (.int .i64 v.margin) := (by rw [Lib.cell_of_heap q3.out]; rfl); have v13 : w3.cell? ⟨w.heap.size, 1, none⟩ = some (.int .i64 v.lost) := (by rw [Lib.cell_of_heap q3.out]; rfl); have e03 : w3.cell? ⟨w.heap.size + 1, 0, none⟩ = some (.int .i64 y.a) := (by rw [Lib.cell_of_heap r3.out]; rfl); have e13 : w3.cell? ⟨w.heap.size + 1, 1, none⟩ = some (.int .i64 y.b) := (by rw [Lib.cell_of_heap r3.out]; rfl); have e23 : w3.cell? ⟨w.heap.size + 1, 2, none⟩ = some (.int .i64 y.seenA) := (by rw [Lib.cell_of_heap r3.out]; rfl); have e33 : w3.cell? ⟨w.heap.size + 1, 3, none⟩ = some (.int .i64 y.seenB) := (by rw [Lib.cell_of_heap r3.out]; rfl); have e43 : w3.cell? ⟨w.heap.size + 1, 4, none⟩ = some (.int .i64 y.ageA) := (by rw [Lib.cell_of_heap r3.out]; rfl); have e53 : w3.cell? ⟨w.heap.size + 1, 5, none⟩ = some (.int .i64 y.ageB) := (by rw [Lib.cell_of_heap r3.out]; rfl); have d03 : w3.cell? ⟨w.heap.size + 1 + 1, 0, none⟩ = some (.int .i64 0) := (by rw [Lib.cell_of_heap s3.out]; rfl); have d13 : w3.cell? ⟨w.heap.size + 1 + 1, 1, none⟩ = some (.int .i64 0) := (by rw [Lib.cell_of_heap s3.out]; rfl); have d23 : w3.cell? ⟨w.heap.size + 1 + 1, 2, none⟩ = some (.int .i64 0) := (by rw [Lib.cell_of_heap s3.out]; rfl); have d33 : w3.cell? ⟨w.heap.size + 1 + 1, 3, none⟩ = some (.int .i64 0) := (by rw [Lib.cell_of_heap s3.out]; rfl); have d43 : w3.cell? ⟨w.heap.size + 1 + 1, 4, none⟩ = some (.int .i64 0) := (by rw [Lib.cell_of_heap s3.out]; rfl); have d53 : w3.cell? ⟨w.heap.size + 1 + 1, 5, none⟩ = some (.int .i64 0) := (by rw [Lib.cell_of_heap s3.out]; rfl); have fy3 : ∀ j, w3.frozen? ⟨w.heap.size + 1, j, none⟩ = false := fun j => Lib.frozen_of_heap r3.out j; have fr3 : ∀ j, w3.frozen? ⟨w.heap.size + 1 + 1, j, none⟩ = false := fun j => Lib.frozen_of_heap s3.out j; have g03 : w3.cell? ⟨wr.heap.size, 0, none⟩ = some (.int .i64 z.turnA) := (by rw [Lib.cell_of_heap x3.out]; rfl); have g13 : w3.cell? ⟨wr.heap.size, 1, none⟩ = some (.int .i64 z.turnB) := (by rw [Lib.cell_of_heap x3.out]; rfl); have g23 : w3.cell? ⟨wr.heap.size, 2, none⟩ = some (.bool z.loseA) := (by rw [Lib.cell_of_heap x3.out]; rfl); have g33 : w3.cell? ⟨wr.heap.size, 3, none⟩ = some (.bool z.loseB) := (by rw [Lib.cell_of_heap x3.out]; rfl)) | (go_at_call 66; refine (hcan.out _ k3).mono ?_; rintro e w4 ⟨rfl, hb4⟩; have b4 : Below wr.heap.size wr w4 := b3.trans (hb4.mono b3.size); have x4 := Lib.hid (blk_below' hb4 x3.out); have k4 := hB.trans (b4.mono hB.size); clear hb4 v03 v13 e03 e13 e23 e33 e43 e53 g03 g13 g23 g33 d03 d13 d23 d33 d43 d53 fr3 fy3; have q4 := Lib.hid (blk_below' b4 h0.out); have r4 := Lib.hid (blk_below' b4 h1.out); have s4 := Lib.hid (blk_below' b4 h2.out); have v04 : w4.cell? ⟨w.heap.size, 0, none⟩ = some (.int .i64 v.margin) := (by rw [Lib.cell_of_heap q4.out]; rfl); have v14 : w4.cell? ⟨w.heap.size, 1, none⟩ = some (.int .i64 v.lost) := (by rw [Lib.cell_of_heap q4.out]; rfl); have e04 : w4.cell? ⟨w.heap.size + 1, 0, none⟩ = some (.int .i64 y.a) := (by rw [Lib.cell_of_heap r4.out]; rfl); have e14 : w4.cell? ⟨w.heap.size + 1, 1, none⟩ = some (.int .i64 y.b) := (by rw [Lib.cell_of_heap r4.out]; rfl); have e24 : w4.cell? ⟨w.heap.size + 1, 2, none⟩ = some (.int .i64 y.seenA) := (by rw [Lib.cell_of_heap r4.out]; rfl); have e34 : w4.cell? ⟨w.heap.size + 1, 3, none⟩ = some (.int .i64 y.seenB) := (by rw [Lib.cell_of_heap r4.out]; rfl); have e44 : w4.cell? ⟨w.heap.size + 1, 4, none⟩ = some (.int .i64 y.ageA) := (by rw [Lib.cell_of_heap r4.out]; rfl); have e54 : w4.cell? ⟨w.heap.size + 1, 5, none⟩ = some (.int .i64 y.ageB) := (by rw [Lib.cell_of_heap r4.out]; rfl); have d04 : w4.cell? ⟨w.heap.size + 1 + 1, 0, none⟩ = some (.int .i64 0) := (by rw [Lib.cell_of_heap s4.out]; rfl); have d14 : w4.cell? ⟨w.heap.size + 1 + 1, 1, none⟩ = some (.int .i64 0) := (by rw [Lib.cell_of_heap s4.out]; rfl); have d24 : w4.cell? ⟨w.heap.size + 1 + 1, 2, none⟩ = some (.int .i64 0) := (by rw [Lib.cell_of_heap s4.out]; rfl); have d34 : w4.cell? ⟨w.heap.size + 1 + 1, 3, none⟩ = some (.int .i64 0) := (by rw [Lib.cell_of_heap s4.out]; rfl); have d44 : w4.cell? ⟨w.heap.size + 1 + 1, 4, none⟩ = some (.int .i64 0) := (by rw [Lib.cell_of_heap s4.out]; rfl); have d54 : w4.cell? ⟨w.heap.size + 1 + 1, 5, none⟩ = some (.int .i64 0) := (by rw [Lib.cell_of_heap s4.out]; rfl); have fy4 : ∀ j, w4.frozen? ⟨w.heap.size + 1, j, none⟩ = false := fun j => Lib.frozen_of_heap r4.out j; have fr4 : ∀ j, w4.frozen? ⟨w.heap.size + 1 + 1, j, none⟩ = false := fun j => Lib.frozen_of_heap s4.out j; have g04 : w4.cell? ⟨wr.heap.size, 0, none⟩ = some (.int .i64 z.turnA) := (by rw [Lib.cell_of_heap x4.out]; rfl); have g14 : w4.cell? ⟨wr.heap.size, 1, none⟩ = some (.int .i64 z.turnB) := (by rw [Lib.cell_of_heap x4.out]; rfl); have g24 : w4.cell? ⟨wr.heap.size, 2, none⟩ = some (.bool z.loseA) := (by rw [Lib.cell_of_heap x4.out]; rfl); have g34 : w4.cell? ⟨wr.heap.size, 3, none⟩ = some (.bool z.loseB) := (by rw [Lib.cell_of_heap x4.out]; rfl)) | (go_at_call 67; refine (HDo.out _).mono ?_; rintro e w5 ⟨rfl, hb5⟩; have b5 : Below wr.heap.size wr w5 := b4.trans (hb5.mono b4.size); have x5 := Lib.hid (blk_below' hb5 x4.out); have k5 := hB.trans (b5.mono hB.size); clear hb5 v04 v14 e04 e14 e24 e34 e44 e54 g04 g14 g24 g34 d04 d14 d24 d34 d44 d54 fr4 fy4; have q5 := Lib.hid (blk_below' b5 h0.out); have r5 := Lib.hid (blk_below' b5 h1.out); have s5 := Lib.hid (blk_below' b5 h2.out); have v05 : w5.cell? ⟨w.heap.size, 0, none⟩ = some (.int .i64 v.margin) := (by rw [Lib.cell_of_heap q5.out]; rfl); have v15 : w5.cell? ⟨w.heap.size, 1, none⟩ = some (.int .i64 v.lost) := (by rw [Lib.cell_of_heap q5.out]; rfl); have e05 : w5.cell? ⟨w.heap.size + 1, 0, none⟩ = some (.int .i64 y.a) := (by rw [Lib.cell_of_heap r5.out]; rfl); have e15 : w5.cell? ⟨w.heap.size + 1, 1, none⟩ = some (.int .i64 y.b) := (by rw [Lib.cell_of_heap r5.out]; rfl); have e25 : w5.cell? ⟨w.heap.size + 1, 2, none⟩ = some (.int .i64 y.seenA) := (by rw [Lib.cell_of_heap r5.out]; rfl); have e35 : w5.cell? ⟨w.heap.size + 1, 3, none⟩ = some (.int .i64 y.seenB) := (by rw [Lib.cell_of_heap r5.out]; rfl); have e45 : w5.cell? ⟨w.heap.size + 1, 4, none⟩ = some (.int .i64 y.ageA) := (by rw [Lib.cell_of_heap r5.out]; rfl); have e55 : w5.cell? ⟨w.heap.size + 1, 5, none⟩ = some (.int .i64 y.ageB) := (by rw [Lib.cell_of_heap r5.out]; rfl); have d05 : w5.cell? ⟨w.heap.size + 1 + 1, 0, none⟩ = some (.int .i64 0) := (by rw [Lib.cell_of_heap s5.out]; rfl); have d15 : w5.cell? ⟨w.heap.size + 1 + 1, 1, none⟩ = some (.int .i64 0) := (by rw [Lib.cell_of_heap s5.out]; rfl); have d25 : w5.cell? ⟨w.heap.size + 1 + 1, 2, none⟩ = some (.int .i64 0) := (by rw [Lib.cell_of_heap s5.out]; rfl); have d35 : w5.cell? ⟨w.heap.size + 1 + 1, 3, none⟩ = some (.int .i64 0) := (by rw [Lib.cell_of_heap s5.out]; rfl); have d45 : w5.cell? ⟨w.heap.size + 1 + 1, 4, none⟩ = some (.int .i64 0) := (by rw [Lib.cell_of_heap s5.out]; rfl); have d55 : w5.cell? ⟨w.heap.size + 1 + 1, 5, none⟩ = some (.int .i64 0) := (by rw [Lib.cell_of_heap s5.out]; rfl); have fy5 : ∀ j, w5.frozen? ⟨w.heap.size + 1, j, none⟩ = false := fun j => Lib.frozen_of_heap r5.out j; have fr5 : ∀ j, w5.frozen? ⟨w.heap.size + 1 + 1, j, none⟩ = false := fun j => Lib.frozen_of_heap s5.out j; have g05 : w5.cell? ⟨wr.heap.size, 0, none⟩ = some (.int .i64 z.turnA) := (by rw [Lib.cell_of_heap x5.out]; rfl); have g15 : w5.cell? ⟨wr.heap.size, 1, none⟩ = some (.int .i64 z.turnB) := (by rw [Lib.cell_of_heap x5.out]; rfl); have g25 : w5.cell? ⟨wr.heap.size, 2, none⟩ = some (.bool z.loseA) := (by rw [Lib.cell_of_heap x5.out]; rfl); have g35 : w5.cell? ⟨wr.heap.size, 3, none⟩ = some (.bool z.loseB) := (by rw [Lib.cell_of_heap x5.out]; rfl)))
          go_roundw
          case rel => exact ⟨k + 1, y2, by omega, by go_num, by go_num, k5.trans (six_below _ (by omega)), Lib.hid ((six_other (by omega)).trans q5.out), Lib.hid (six' rfl r5.out), Lib.hid ((six_other (by omega)).trans s5.out), hin2, hnext⟩
          case measure => simp [intOf]; omega
      · rw [decide_eq_false hz] at hK
        simp only [Act1.cells] at hK
        have HK := Lib.hid hK
        have hst : Hid (runW T v x l 0 = (y, k)) := Lib.hid (Hrun.out.trans (runW_stop (by unfold stepB; rw [decide_eq_false hz]; rfl)))
        clear hK hz
        go_wp2_with (first | (go_at_call 65; refine (HK.out _).mono ?_; rintro e w3 ⟨rfl, hb3⟩; have b3 : Below wr.heap.size wr w3 := Below.trans ((Below.refl _ _).alloc (Nat.le_refl _) _) (hb3.mono (by simp)); have x3 := Lib.hid (blk_below' hb3 (blk_new wr _)); have k3 := hB.trans (b3.mono hB.size); clear hb3; have q3 := Lib.hid (blk_below' b3 h0.out); have r3 := Lib.hid (blk_below' b3 h1.out); have s3 := Lib.hid (blk_below' b3 h2.out); have v03 : w3.cell? ⟨w.heap.size, 0, none⟩ = some (.int .i64 v.margin) := (by rw [Lib.cell_of_heap q3.out]; rfl); have v13 : w3.cell? ⟨w.heap.size, 1, none⟩ = some (.int .i64 v.lost) := (by rw [Lib.cell_of_heap q3.out]; rfl); have e03 : w3.cell? ⟨w.heap.size + 1, 0, none⟩ = some (.int .i64 y.a) := (by rw [Lib.cell_of_heap r3.out]; rfl); have e13 : w3.cell? ⟨w.heap.size + 1, 1, none⟩ = some (.int .i64 y.b) := (by rw [Lib.cell_of_heap r3.out]; rfl); have e23 : w3.cell? ⟨w.heap.size + 1, 2, none⟩ = some (.int .i64 y.seenA) := (by rw [Lib.cell_of_heap r3.out]; rfl); have e33 : w3.cell? ⟨w.heap.size + 1, 3, none⟩ = some (.int .i64 y.seenB) := (by rw [Lib.cell_of_heap r3.out]; rfl); have e43 : w3.cell? ⟨w.heap.size + 1, 4, none⟩ = some (.int .i64 y.ageA) := (by rw [Lib.cell_of_heap r3.out]; rfl); have e53 : w3.cell? ⟨w.heap.size + 1, 5, none⟩ = some (.int .i64 y.ageB) := (by rw [Lib.cell_of_heap r3.out]; rfl); have d03 : w3.cell? ⟨w.heap.size + 1 + 1, 0, none⟩ = some (.int .i64 0) := (by rw [Lib.cell_of_heap s3.out]; rfl); have d13 : w3.cell? ⟨w.heap.size + 1 + 1, 1, none⟩ = some (.int .i64 0) := (by rw [Lib.cell_of_heap s3.out]; rfl); have d23 : w3.cell? ⟨w.heap.size + 1 + 1, 2, none⟩ = some (.int .i64 0) := (by rw [Lib.cell_of_heap s3.out]; rfl); have d33 : w3.cell? ⟨w.heap.size + 1 + 1, 3, none⟩ = some (.int .i64 0) := (by rw [Lib.cell_of_heap s3.out]; rfl); have d43 : w3.cell? ⟨w.heap.size + 1 + 1, 4, none⟩ = some (.int .i64 0) := (by rw [Lib.cell_of_heap s3.out]; rfl); have d53 : w3.cell? ⟨w.heap.size + 1 + 1, 5, none⟩ = some (.int .i64 0) := (by rw [Lib.cell_of_heap s3.out]; rfl); have fy3 : ∀ j, w3.frozen? ⟨w.heap.size + 1, j, none⟩ = false := fun j => Lib.frozen_of_heap r3.out j; have fr3 : ∀ j, w3.frozen? ⟨w.heap.size + 1 + 1, j, none⟩ = false := fun j => Lib.frozen_of_heap s3.out j; have g03 : w3.cell? ⟨wr.heap.size, 0, none⟩ = some (.int .i64 z.turnA) := (by rw [Lib.cell_of_heap x3.out]; rfl); have g13 : w3.cell? ⟨wr.heap.size, 1, none⟩ = some (.int .i64 z.turnB) := (by rw [Lib.cell_of_heap x3.out]; rfl); have g23 : w3.cell? ⟨wr.heap.size, 2, none⟩ = some (.bool z.loseA) := (by rw [Lib.cell_of_heap x3.out]; rfl); have g33 : w3.cell? ⟨wr.heap.size, 3, none⟩ = some (.bool z.loseB) := (by rw [Lib.cell_of_heap x3.out]; rfl)))
        go_wp2
        rw [hst.out]
        exact bodyPost_ret (v := .tuple #[.agg y.cells.toArray, .int .i64 k, .int .i64 0]) (by simp [results, Try.results31, go_sem, d03, d13, d23, d33, d43, d53, Wld.cells]) rfl ⟨rfl, k3.trans (six_below _ (by omega))⟩
    · have hfin : Hid (runW T v x l 0 = (y, k)) := Lib.hid (by rw [hrun.out, List.drop_eq_nil_of_le (by omega)]; rfl)
      go_wp2
      rw [hfin.out]
      exact bodyPost_ret (v := .tuple #[.agg y.cells.toArray, .int .i64 k, .int .i64 0]) (by simp [results, Try.results31, go_sem, d0, d1, d2, d3, d4, d5, Wld.cells]) rfl ⟨rfl, by go_grown⟩
theorem spec_RunActs (tv lv : Value) (rows : List SV) (T : Tab) (lo hi lo2 hi2 : Nat) (v : Wtc) (x : Wld) (l : List Act1) (w : World) (h : TabR lo hi w tv rows T) (hl : Act1s lo2 hi2 w lv l) (hlen : l.length ≤ 1048576) :
    Calls Try.prog 36 #[tv, .agg v.cells.toArray, .agg x.cells.toArray, lv] w fun e w' => e = .returned (.tuple #[.agg (runActs T v x l).1.cells.toArray, .int .i64 (runActs T v x l).2.1, .int .i64 (runActs T v x l).2.2]) ∧ Below w.heap.size w w' := by
  rcases codeW_cases T v x with hc | hc | ⟨hc, hT, hx⟩
  · exact spec_RunActs_code tv lv rows T lo hi v x l w h (by omega)
  · exact spec_RunActs_code tv lv rows T lo hi v x l w h (by omega)
  · exact spec_RunActs_ok tv lv rows T lo hi lo2 hi2 v x l w h hl hlen hc hT hx
theorem impl_RunActs (tv lv : Value) (rows : List SV) (T : Tab) (lo hi lo2 hi2 : Nat) (v : Wtc) (x : Wld) (l : List Act1) (w : World) (h : TabR lo hi w tv rows T) (hl : Act1s lo2 hi2 w lv l) (hlen : l.length ≤ 1048576) :
    Calls Try.prog 31 #[tv, .agg v.cells.toArray, .agg x.cells.toArray, lv] w fun e w' => e = .returned (.tuple #[.agg (runActs T v x l).1.cells.toArray, .int .i64 (runActs T v x l).2.1, .int .i64 (runActs T v x l).2.2]) ∧ Below w.heap.size w w' := by
  rcases codeW_cases T v x with hc | hc | ⟨hc, hT, hx⟩
  · exact impl_RunActs_code tv lv rows T lo hi v x l w h (by omega)
  · exact impl_RunActs_code tv lv rows T lo hi v x l w h (by omega)
  · exact impl_RunActs_ok tv lv rows T lo hi lo2 hi2 v x l w h hl hlen hc hT hx
end Go.Proofs.Ytmkhapgkiecmaaa
