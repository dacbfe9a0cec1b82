/- Cranes and lifts held against each other, in both packages. (Printed by gen_sm.py.) -/
import Derived.Test.YtimggihbldeleaaSmB
namespace Go.Proofs.Ytimggihbldeleaa
open Go.RowKit
set_option maxRecDepth 100000 in
set_option maxHeartbeats 20000000 in
theorem impl_Same1Lift (f g : LiftF) (s s2 : SV) (l l2 : List Int) (lo hi lo2 hi2 : Nat) (w : World) (h : Sl 1 intCells lo hi w s.v l) (h2 : Sl 1 intCells lo2 hi2 w s2.v l2) :
    Calls Try.prog 52 #[.agg (LiftR.cells ⟨f, s⟩).toArray, .agg (LiftR.cells ⟨g, s2⟩).toArray] w fun e w' => e = .returned (.bool (eqP f g l l2)) ∧ Below w.heap.size w w' := by
  have HI := Lib.hid (fun w' (hb : Below w.heap.size w w') => impl_EqInts s.v s2.v l l2 lo hi lo2 hi2 w' (h.ext hb) (h2.ext hb))
  clear h h2
  have hcase := LiftF.ne_cases f g
  obtain ⟨sa, sl, sc⟩ := s
  obtain ⟨ta, tl, tc⟩ := s2
  simp only [LiftR.cells, SV.v] at *
  obtain ⟨x0, x1, x2, x3, x4, x5, x6, x7⟩ := f
  obtain ⟨y0, y1, y2, y3, y4, y5, y6, y7⟩ := g
  dsimp only at *
  have e0 := blkN_below ((Below.refl _ _).alloc (Nat.le_refl _) (.cells #[.string y0, .int .i64 y1, .int .i64 y2, .int .i64 y3, .int .i64 y4, .int .i64 y5, .int .i64 y6, .int .i64 y7, .slice ta tl tc] 70 (0, 0))) (blkN_new w (.cells #[.string x0, .int .i64 x1, .int .i64 x2, .int .i64 x3, .int .i64 x4, .int .i64 x5, .int .i64 x6, .int .i64 x7, .slice sa sl sc] 70 (0, 0)))
  have e1 := blkN_new (w.alloc (.cells #[.string x0, .int .i64 x1, .int .i64 x2, .int .i64 x3, .int .i64 x4, .int .i64 x5, .int .i64 x6, .int .i64 x7, .slice sa sl sc] 70 (0, 0))) (.cells #[.string y0, .int .i64 y1, .int .i64 y2, .int .i64 y3, .int .i64 y4, .int .i64 y5, .int .i64 y6, .int .i64 y7, .slice ta tl tc] 70 (0, 0))
  rw [show (w.alloc (.cells #[.string x0, .int .i64 x1, .int .i64 x2, .int .i64 x3, .int .i64 x4, .int .i64 x5, .int .i64 x6, .int .i64 x7, .slice sa sl sc] 70 (0, 0))).heap.size = w.heap.size + 1 by simp] at e1
  have HE := Lib.hid (And.intro e0 e1)
  clear e0 e1
  have hba : Below w.heap.size w ((w.alloc (.cells #[.string x0, .int .i64 x1, .int .i64 x2, .int .i64 x3, .int .i64 x4, .int .i64 x5, .int .i64 x6, .int .i64 x7, .slice sa sl sc] 70 (0, 0))).alloc (.cells #[.string y0, .int .i64 y1, .int .i64 y2, .int .i64 y3, .int .i64 y4, .int .i64 y5, .int .i64 y6, .int .i64 y7, .slice ta tl tc] 70 (0, 0))) := ((Below.refl _ _).alloc (Nat.le_refl _) _).alloc (by simp) _
  have HB := Lib.hid hba
  clear hba
  have Hc := Lib.hid hcase
  clear hcase
  have HP := Lib.hid (fun h => eqP_f (f := (⟨x0, x1, x2, x3, x4, x5, x6, x7⟩ : LiftF)) (g := ⟨y0, y1, y2, y3, y4, y5, y6, y7⟩) (a := l) (b := l2) h)
  have HQ := Lib.hid (fun f : LiftF => eqP_t f l l2)
  go_enter Try.func52, Try.ntmps52
  go_wp2_with fail
  refine (HI.out _ HB.out).mono ?_
  rintro e w1 ⟨rfl, hq1⟩; have hb1 := quiet_below hq1; clear hq1
  have E0 := blkN_below hb1 HE.out.1
  have E1 := blkN_below hb1 HE.out.2
  have hB1 := HB.out.trans (hb1.mono HB.out.size)
  clear hb1
  have c0 : w1.cell? ⟨w.heap.size, 0, none⟩ = some (.string x0) := by rw [Lib.cell_of_heap E0]; rfl
  have d0 : w1.cell? ⟨w.heap.size + 1, 0, none⟩ = some (.string y0) := by rw [Lib.cell_of_heap E1]; rfl
  have c1 : w1.cell? ⟨w.heap.size, 1, none⟩ = some (.int .i64 x1) := by rw [Lib.cell_of_heap E0]; rfl
  have d1 : w1.cell? ⟨w.heap.size + 1, 1, none⟩ = some (.int .i64 y1) := by rw [Lib.cell_of_heap E1]; rfl
  have c2 : w1.cell? ⟨w.heap.size, 2, none⟩ = some (.int .i64 x2) := by rw [Lib.cell_of_heap E0]; rfl
  have d2 : w1.cell? ⟨w.heap.size + 1, 2, none⟩ = some (.int .i64 y2) := by rw [Lib.cell_of_heap E1]; rfl
  have c3 : w1.cell? ⟨w.heap.size, 3, none⟩ = some (.int .i64 x3) := by rw [Lib.cell_of_heap E0]; rfl
  have d3 : w1.cell? ⟨w.heap.size + 1, 3, none⟩ = some (.int .i64 y3) := by rw [Lib.cell_of_heap E1]; rfl
  have c4 : w1.cell? ⟨w.heap.size, 4, none⟩ = some (.int .i64 x4) := by rw [Lib.cell_of_heap E0]; rfl
  have d4 : w1.cell? ⟨w.heap.size + 1, 4, none⟩ = some (.int .i64 y4) := by rw [Lib.cell_of_heap E1]; rfl
  have c5 : w1.cell? ⟨w.heap.size, 5, none⟩ = some (.int .i64 x5) := by rw [Lib.cell_of_heap E0]; rfl
  have d5 : w1.cell? ⟨w.heap.size + 1, 5, none⟩ = some (.int .i64 y5) := by rw [Lib.cell_of_heap E1]; rfl
  have c6 : w1.cell? ⟨w.heap.size, 6, none⟩ = some (.int .i64 x6) := by rw [Lib.cell_of_heap E0]; rfl
  have d6 : w1.cell? ⟨w.heap.size + 1, 6, none⟩ = some (.int .i64 y6) := by rw [Lib.cell_of_heap E1]; rfl
  have c7 : w1.cell? ⟨w.heap.size, 7, none⟩ = some (.int .i64 x7) := by rw [Lib.cell_of_heap E0]; rfl
  have d7 : w1.cell? ⟨w.heap.size + 1, 7, none⟩ = some (.int .i64 y7) := by rw [Lib.cell_of_heap E1]; rfl
  have c8 : w1.cell? ⟨w.heap.size, 8, none⟩ = some (.slice sa sl sc) := by rw [Lib.cell_of_heap E0]; rfl
  have d8 : w1.cell? ⟨w.heap.size + 1, 8, none⟩ = some (.slice ta tl tc) := by rw [Lib.cell_of_heap E1]; rfl
  have f0 : ∀ j, w1.frozen? ⟨w.heap.size, j, none⟩ = false := fun j => Lib.frozen_of_heap E0 j
  have f1 : ∀ j, w1.frozen? ⟨w.heap.size + 1, j, none⟩ = false := fun j => Lib.frozen_of_heap E1 j
  clear E0 E1
  have hBf : Below w.heap.size w ((w1.setCell ⟨w.heap.size, 8, none⟩ (.slice none 0 0)).setCell ⟨w.heap.size + 1, 8, none⟩ (.slice none 0 0)) := (hB1.setCell (p := ⟨w.heap.size, 8, none⟩) (Nat.le_refl _) _).setCell (p := ⟨w.heap.size + 1, 8, none⟩) (Nat.le_succ _) _
  have HBf := Lib.hid hBf
  clear hBf hB1
  cases hq : eqL l l2
  · have hr : Hid (eqP (⟨x0, x1, x2, x3, x4, x5, x6, x7⟩ : LiftF) ⟨y0, y1, y2, y3, y4, y5, y6, y7⟩ l l2 = false) := Lib.hid (by unfold eqP; rw [hq, Bool.and_false])
    clear hq HP HQ Hc
    go_wp2
    go_ret
    exact ⟨ret_bool hr.out.symm, HBf.out⟩
  have Hqq := Lib.hid hq
  clear hq
  rcases Hc.out with heq | ⟨hn, h0⟩ | ⟨hn, h0, h1⟩ | ⟨hn, h0, h1, h2⟩ | ⟨hn, h0, h1, h2, h3⟩ | ⟨hn, h0, h1, h2, h3, h4⟩ | ⟨hn, h0, h1, h2, h3, h4, h5⟩ | ⟨hn, h0, h1, h2, h3, h4, h5, h6⟩ | ⟨hn, h0, h1, h2, h3, h4, h5, h6, h7⟩
  · injection heq with r0 r1 r2 r3 r4 r5 r6 r7
    subst r0 r1 r2 r3 r4 r5 r6 r7
    go_wp2
    go_ret
    exact ⟨ret_bool (by rw [HQ.out]; exact Hqq.out.symm), HBf.out⟩
  all_goals
    have hr := Lib.hid (HP.out hn)
    clear hn HP HQ Hc
    dsimp only at *
    try (have q0 := sm_eq h0)
    try (have q0 := sm_ne h0)
    try (have q1 : (x1 == y1) = true := by rw [beq_iff_eq]; exact h1)
    try (have q1 : (x1 == y1) = false := by rw [beq_eq_false_iff_ne]; exact h1)
    try (have q2 : (x2 == y2) = true := by rw [beq_iff_eq]; exact h2)
    try (have q2 : (x2 == y2) = false := by rw [beq_eq_false_iff_ne]; exact h2)
    try (have q3 : (x3 == y3) = true := by rw [beq_iff_eq]; exact h3)
    try (have q3 : (x3 == y3) = false := by rw [beq_eq_false_iff_ne]; exact h3)
    try (have q4 : (x4 == y4) = true := by rw [beq_iff_eq]; exact h4)
    try (have q4 : (x4 == y4) = false := by rw [beq_eq_false_iff_ne]; exact h4)
    try (have q5 : (x5 == y5) = true := by rw [beq_iff_eq]; exact h5)
    try (have q5 : (x5 == y5) = false := by rw [beq_eq_false_iff_ne]; exact h5)
    try (have q6 : (x6 == y6) = true := by rw [beq_iff_eq]; exact h6)
    try (have q6 : (x6 == y6) = false := by rw [beq_eq_false_iff_ne]; exact h6)
    try (have q7 : (x7 == y7) = true := by rw [beq_iff_eq]; exact h7)
    try (have q7 : (x7 == y7) = false := by rw [beq_eq_false_iff_ne]; exact h7)
    try clear h0
    try clear h1
    try clear h2
    try clear h3
    try clear h4
    try clear h5
    try clear h6
    try clear h7
    go_wp2
    go_ret
    exact ⟨ret_bool hr.out.symm, HBf.out⟩
end Go.Proofs.Ytimggihbldeleaa
