/- Ranges and days. -/
import Derived.Test.YtmglcdmccikinaaDoorChecked
import Derived.Test.YtmglcdmccikinaaDoorBase
namespace Go.Proofs.YtmglcdmccikinaaDoor
open Go.RowKit

theorem spec_In_t (n a b : Int) (w : World) (h : a ≤ n) (h2 : n ≤ b) : Calls Tryd.prog 22 #[.int .i64 n, .int .i64 a, .int .i64 b] w fun e w' => e = .returned (.bool true) ∧ w = w' := by
  go_enter Tryd.func22, Tryd.ntmps22
  go_wp2
  go_ret; exact ⟨rfl, rfl⟩
theorem spec_In_f (n a b : Int) (w : World) (h : ¬ (a ≤ n ∧ n ≤ b)) : Calls Tryd.prog 22 #[.int .i64 n, .int .i64 a, .int .i64 b] w fun e w' => e = .returned (.bool false) ∧ w = w' := by
  by_cases h1 : a ≤ n
  · have h2 : ¬ n ≤ b := by omega
    clear h
    go_enter Tryd.func22, Tryd.ntmps22
    go_wp2
    go_ret; exact ⟨rfl, rfl⟩
  · clear h
    go_enter Tryd.func22, Tryd.ntmps22
    go_wp2
    go_ret; exact ⟨rfl, rfl⟩

theorem spec_Day_t (n : Int) (w : World) (h : 0 ≤ n) (h2 : n ≤ 100000) : Calls Tryd.prog 24 #[.int .i64 n] w fun e w' => e = .returned (.bool true) ∧ w = w' := by
  go_enter Tryd.func24, Tryd.ntmps24
  go_wp2_with (go_at_call 22; first | (refine (spec_In_t _ _ _ _ (by omega) (by omega)).mono ?_; rintro e w' ⟨rfl, rfl⟩) | (refine (spec_In_f _ _ _ _ (by omega)).mono ?_; rintro e w' ⟨rfl, rfl⟩))
  go_ret; exact ⟨rfl, rfl⟩
theorem spec_Day_f (n : Int) (w : World) (h : ¬ (0 ≤ n ∧ n ≤ 100000)) : Calls Tryd.prog 24 #[.int .i64 n] w fun e w' => e = .returned (.bool false) ∧ w = w' := by
  go_enter Tryd.func24, Tryd.ntmps24
  go_wp2_with (go_at_call 22; first | (refine (spec_In_t _ _ _ _ (by omega) (by omega)).mono ?_; rintro e w' ⟨rfl, rfl⟩) | (refine (spec_In_f _ _ _ _ (by omega)).mono ?_; rintro e w' ⟨rfl, rfl⟩))
  go_ret; exact ⟨rfl, rfl⟩

theorem impl_within_t (n a b : Int) (w : World) (h : a ≤ n) (h2 : n ≤ b) : Calls Tryd.prog 33 #[.int .i64 n, .int .i64 a, .int .i64 b] w fun e w' => e = .returned (.bool true) ∧ w = w' := by
  go_enter Tryd.func33, Tryd.ntmps33
  go_wp2
  go_ret; exact ⟨rfl, rfl⟩
theorem impl_within_f (n a b : Int) (w : World) (h : ¬ (a ≤ n ∧ n ≤ b)) : Calls Tryd.prog 33 #[.int .i64 n, .int .i64 a, .int .i64 b] w fun e w' => e = .returned (.bool false) ∧ w = w' := by
  by_cases h1 : a ≤ n
  · have h2 : ¬ n ≤ b := by omega
    clear h
    go_enter Tryd.func33, Tryd.ntmps33
    go_wp2
    go_ret; exact ⟨rfl, rfl⟩
  · clear h
    go_enter Tryd.func33, Tryd.ntmps33
    go_wp2
    go_ret; exact ⟨rfl, rfl⟩
end Go.Proofs.YtmglcdmccikinaaDoor
