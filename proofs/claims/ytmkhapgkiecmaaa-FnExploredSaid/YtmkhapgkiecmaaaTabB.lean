/- Worlds: what is valid, in the program; the codes. -/
import Derived.Test.YtmkhapgkiecmaaaTabA
namespace Go.Proofs.Ytmkhapgkiecmaaa
open Go.RowKit

def D0 (d : Int) : Prop := 0 ≤ d ∧ d ≤ 23
theorem wld_cases2 (v : Wtc) (x : Wld) :
    (¬ x.ok v ∧ decide v.ok = false) ∨ (decide v.ok = true ∧ (
    (¬ x.ok v ∧ ¬ (0 ≤ x.a ∧ x.a ≤ 23)) ∨ (0 ≤ x.a ∧ x.a ≤ 23 ∧ (
    (¬ x.ok v ∧ ¬ (0 ≤ x.b ∧ x.b ≤ 23)) ∨ (0 ≤ x.b ∧ x.b ≤ 23 ∧ (
    (¬ x.ok v ∧ ¬ (0 ≤ x.seenA ∧ x.seenA ≤ 23)) ∨ (0 ≤ x.seenA ∧ x.seenA ≤ 23 ∧ (
    (¬ x.ok v ∧ ¬ (0 ≤ x.seenB ∧ x.seenB ≤ 23)) ∨ (0 ≤ x.seenB ∧ x.seenB ≤ 23 ∧ (
    (¬ x.ok v ∧ ¬ (0 ≤ x.ageA ∧ x.ageA ≤ v.lost)) ∨ (0 ≤ x.ageA ∧ x.ageA ≤ v.lost ∧ (
    (¬ x.ok v ∧ ¬ (0 ≤ x.ageB ∧ x.ageB ≤ v.lost)) ∨ (0 ≤ x.ageB ∧ x.ageB ≤ v.lost ∧ (
    (¬ x.ok v ∧ decide (absI (tb x.seenA x.a) ≤ x.ageA) = false) ∨ (decide (absI (tb x.seenA x.a) ≤ x.ageA) = true ∧ (
    (¬ x.ok v ∧ decide (absI (tb x.seenB x.b) ≤ x.ageB) = false) ∨ (x.ok v ∧ decide (absI (tb x.seenB x.b) ≤ x.ageB) = true))))))))))))))))) := by
  unfold Wld.ok SeenOk Dir
  by_cases h1 : v.ok
  · simp only [h1, true_and, decide_true, decide_eq_false_iff_not, decide_eq_true_eq]
    omega
  · simp [h1]

set_option maxRecDepth 100000 in
set_option maxHeartbeats 4000000 in
theorem impl_ValidWorld (v : Wtc) (x : Wld) (w : World) : Calls Try.prog 28 #[.agg v.cells.toArray, .agg x.cells.toArray] w fun e w' => e = .returned (.bool (decide (x.ok v))) ∧ Below w.heap.size w w' := by
  have hc := wld_cases2 v x
  have hW := fun w => impl_valid v w
  have hta := tb_bound x.seenA x.a
  have htb := tb_bound x.seenB x.b
  rcases hc with ⟨h0, h1⟩ | ⟨h1, ⟨h0, h2⟩ | ⟨h2, h2', ⟨h0, h3⟩ | ⟨h3, h3', ⟨h0, h4⟩ | ⟨h4, h4', ⟨h0, h5⟩ | ⟨h5, h5', ⟨h0, h6⟩ | ⟨h6, h6', ⟨h0, h7⟩ | ⟨h7, h7', ⟨h0, h8⟩ | ⟨h8, ⟨h0, h9⟩ | ⟨h0, h9⟩⟩⟩⟩⟩⟩⟩⟩⟩
  all_goals
    rw [h1] at hW
    clear h1
    first | rw [decide_eq_true h0] | rw [decide_eq_false h0]
    clear h0
    obtain ⟨m, t⟩ := v
    obtain ⟨a, b, sa, sb, ga, gb⟩ := x
    simp only [Wtc.cells, Wld.cells] at *
    have HW := Lib.hid hW
    clear hW
    go_enter Try.func28, Try.ntmps28
    go_wp2_with (first | (go_at_call 68; refine (HW.out _).mono ?_; rintro e w2 ⟨rfl, hb2⟩; have q2 := (bcell hb2).1; have z2 : w.heap.size < w2.heap.size := Nat.lt_of_lt_of_le (by simp; omega) hb2.size; have y2 : w.heap.size + 1 < w2.heap.size := Nat.lt_of_lt_of_le (by simp) hb2.size; have B2 : Below w.heap.size w w2 := (((Below.refl _ w).alloc (Nat.le_refl _) _).alloc (by simp) _).trans (hb2.mono (by simp; omega))) | (first | (first | (go_at_call 56; first | (refine (spec_In_t _ _ _ _ (by omega) (by omega)).mono ?_; rintro e w' ⟨rfl, rfl⟩) | (refine (spec_In_f _ _ _ _ (by omega)).mono ?_; rintro e w' ⟨rfl, rfl⟩)) | (go_at_call 59; first | (refine (impl_within_t _ _ _ _ (by omega) (by omega)).mono ?_; rintro e w' ⟨rfl, rfl⟩) | (refine (impl_within_f _ _ _ _ (by omega)).mono ?_; rintro e w' ⟨rfl, rfl⟩))) | (go_at_call 71; first | (refine (spec_Dir_t _ _ (by omega) (by omega)).mono ?_; rintro e w' ⟨rfl, rfl⟩) | (refine (spec_Dir_f _ _ (by omega)).mono ?_; rintro e w' ⟨rfl, rfl⟩)) | (go_at_call 61; first | (refine (impl_isDirection_t _ _ (by omega) (by omega)).mono ?_; rintro e w' ⟨rfl, rfl⟩) | (refine (impl_isDirection_f _ _ (by omega)).mono ?_; rintro e w' ⟨rfl, rfl⟩))))
    try (go_quiet (first | (go_at_call 70; exact Calls.quiet_of_same (Calls.turn (impl_turnBetween _ _ _ ⟨by omega, by omega⟩ ⟨by omega, by omega⟩))) | (go_at_call 69; exact Calls.quiet_of_same (Calls.turn (impl_abs _ _ ⟨by omega, by omega⟩)))))
    try go_wp2
    go_ret
    first | exact ⟨rfl, B2⟩ | exact ⟨rfl, below_dN B2 _⟩
end Go.Proofs.Ytmkhapgkiecmaaa
