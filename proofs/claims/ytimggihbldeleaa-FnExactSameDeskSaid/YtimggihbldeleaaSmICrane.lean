/- Cranes and lifts held against each other, in both packages. (Printed by gen_sm.py.) -/
import Derived.Test.YtimggihbldeleaaSmB
namespace Go.Proofs.Ytimggihbldeleaa
open Go.RowKit
set_option maxRecDepth 100000 in
set_option maxHeartbeats 20000000 in
theorem impl_Same1Crane (f g : CraneF) (s s2 : SV) (l l2 : List Chs) (lo hi lo2 hi2 : Nat) (w : World) (h : Sl 2 Chs.cells lo hi w s.v l) (h2 : Sl 2 Chs.cells lo2 hi2 w s2.v l2) :
    Calls Try.prog 50 #[.agg (CraneR.cells ⟨f, s⟩).toArray, .agg (CraneR.cells ⟨g, s2⟩).toArray] w fun e w' => e = .returned (.bool (eqP f g l l2)) ∧ Below w.heap.size w w' := by
  have HI := Lib.hid (fun w' (hb : Below w.heap.size w w') => impl_EqChs s.v s2.v l l2 lo hi lo2 hi2 w' (h.ext hb) (h2.ext hb))
  clear h h2
  have hcase := CraneF.ne_cases f g
  obtain ⟨sa, sl, sc⟩ := s
  obtain ⟨ta, tl, tc⟩ := s2
  simp only [CraneR.cells, SV.v] at *
  rcases hcase with rfl | ⟨hn, h0⟩ | ⟨hn, h0, h1⟩ | ⟨hn, h0, h1, h2⟩ | ⟨hn, h0, h1, h2, h3⟩ | ⟨hn, h0, h1, h2, h3, h4⟩ | ⟨hn, h0, h1, h2, h3, h4, h5⟩
  · rw [eqP_t]
    obtain ⟨x0, x1, x2, x3, x4, x5⟩ := f
    dsimp only at *
    go_enter Try.func50, Try.ntmps50
    go_wp2_with fail
    refine (HI.out _ ?hb).mono ?_
    case hb => go_grown
    rintro e w1 ⟨rfl, hq1⟩; have hb1 := quiet_below hq1; clear hq1
    go_wp2
    go_ret
    exact ⟨rfl, (((Below.refl _ _).alloc (Nat.le_refl _) _).alloc (by simp) _).trans (hb1.mono (by simp; omega))⟩
  all_goals
    rw [eqP_f hn]
    clear hn HI
    obtain ⟨x0, x1, x2, x3, x4, x5⟩ := f
    obtain ⟨y0, y1, y2, y3, y4, y5⟩ := g
    dsimp only at *
    try (have q0 := sm_eq h0)
    try (have q0 := sm_ne h0)
    try (have q1 : (x1 == y1) = true := by rw [beq_iff_eq]; exact h1)
    try (have q1 : (x1 == y1) = false := by rw [beq_eq_false_iff_ne]; exact h1)
    try (have q2 : (x2 == y2) = true := by rw [beq_iff_eq]; exact h2)
    try (have q2 : (x2 == y2) = false := by rw [beq_eq_false_iff_ne]; exact h2)
    try (have q3 : (x3 == y3) = true := by rw [beq_iff_eq]; exact h3)
    try (have q3 : (x3 == y3) = false := by rw [beq_eq_false_iff_ne]; exact h3)
    try (have q4 : (x4 == y4) = true := by rw [beq_iff_eq]; exact h4)
    try (have q4 : (x4 == y4) = false := by rw [beq_eq_false_iff_ne]; exact h4)
    try (have q5 : (x5 == y5) = true := by rw [beq_iff_eq]; exact h5)
    try (have q5 : (x5 == y5) = false := by rw [beq_eq_false_iff_ne]; exact h5)
    try clear h0
    try clear h1
    try clear h2
    try clear h3
    try clear h4
    try clear h5
    go_enter Try.func50, Try.ntmps50
    go_wp2
    go_ret
    exact ⟨rfl, ((Below.refl _ _).alloc (Nat.le_refl _) _).alloc (by simp) _⟩
end Go.Proofs.Ytimggihbldeleaa
