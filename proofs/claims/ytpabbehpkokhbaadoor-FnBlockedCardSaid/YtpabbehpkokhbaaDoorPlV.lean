/- Places: validity, in both packages. -/
import Derived.Test.YtpabbehpkokhbaaDoorName
import Derived.Test.YtpabbehpkokhbaaDoorBasic
import Derived.Test.YtpabbehpkokhbaaDoorPlP
namespace Go.Proofs.YtpabbehpkokhbaaDoor
open Go.RowKit
theorem nmB_ff {s : ByteArray} (h : nmB s = false) : ¬ isNm s := fun h2 => by rw [nmB_t h2] at h; cases h
theorem pl_cases (x y : Int) : (Pl x y ∧ (-10000 ≤ x ∧ x ≤ 10000) ∧ (-10000 ≤ y ∧ y ≤ 10000)) ∨ (¬ Pl x y ∧ (-10000 ≤ x ∧ x ≤ 10000) ∧ ¬ (-10000 ≤ y ∧ y ≤ 10000)) ∨ (¬ Pl x y ∧ ¬ (-10000 ≤ x ∧ x ≤ 10000)) := by
  unfold Pl; omega
theorem spec_Pl (x y : Int) (w : World) : Calls Tryd.prog 31 #[.agg #[.int .i64 x, .int .i64 y]] w fun e w' => e = .returned (.bool (decide (Pl x y))) ∧ Below w.heap.size w w' := by
  rcases pl_cases x y with ⟨h, ⟨_, _⟩, ⟨_, _⟩⟩ | ⟨h, ⟨_, _⟩, _⟩ | ⟨h, _⟩
  all_goals
    first | rw [decide_eq_true h] | rw [decide_eq_false h]
    clear h
    go_enter Tryd.func31, Tryd.ntmps31
    go_wp2_with (go_at_call 58; first | (refine (spec_In_t _ _ _ _ (by omega) (by omega)).mono ?_; rintro e w' ⟨rfl, rfl⟩) | (refine (spec_In_f _ _ _ _ (by omega)).mono ?_; rintro e w' ⟨rfl, rfl⟩))
    go_ret
    exact ⟨rfl, (Below.refl _ _).alloc (Nat.le_refl _) _⟩
theorem impl_Pl (x y : Int) (w : World) : Calls Tryd.prog 27 #[.agg #[.int .i64 x, .int .i64 y]] w fun e w' => e = .returned (.bool (decide (Pl x y))) ∧ Below w.heap.size w w' := by
  rcases pl_cases x y with ⟨h, ⟨_, _⟩, ⟨_, _⟩⟩ | ⟨h, ⟨_, _⟩, _⟩ | ⟨h, _⟩
  all_goals
    first | rw [decide_eq_true h] | rw [decide_eq_false h]
    clear h
    go_enter Tryd.func27, Tryd.ntmps27
    go_wp2_with (go_at_call 28; first | (refine (impl_within_t _ _ _ _ (by omega) (by omega)).mono ?_; rintro e w' ⟨rfl, rfl⟩) | (refine (impl_within_f _ _ _ _ (by omega)).mono ?_; rintro e w' ⟨rfl, rfl⟩))
    go_ret
    exact ⟨rfl, (Below.refl _ _).alloc (Nat.le_refl _) _⟩
end Go.Proofs.YtpabbehpkokhbaaDoor
