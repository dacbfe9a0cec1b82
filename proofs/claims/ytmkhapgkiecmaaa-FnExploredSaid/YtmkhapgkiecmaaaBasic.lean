/- Ranges and days. -/
import Derived.Test.YtmkhapgkiecmaaaChecked
import Derived.Test.YtmkhapgkiecmaaaBase
namespace Go.Proofs.Ytmkhapgkiecmaaa
open Go.RowKit

theorem spec_In_t (n a b : Int) (w : World) (h : a ≤ n) (h2 : n ≤ b) : Calls Try.prog 56 #[.int .i64 n, .int .i64 a, .int .i64 b] w fun e w' => e = .returned (.bool true) ∧ w = w' := by
  go_enter Try.func56, Try.ntmps56
  go_wp2
  go_ret; exact ⟨rfl, rfl⟩
theorem spec_In_f (n a b : Int) (w : World) (h : ¬ (a ≤ n ∧ n ≤ b)) : Calls Try.prog 56 #[.int .i64 n, .int .i64 a, .int .i64 b] w fun e w' => e = .returned (.bool false) ∧ w = w' := by
  by_cases h1 : a ≤ n
  · have h2 : ¬ n ≤ b := by omega
    clear h
    go_enter Try.func56, Try.ntmps56
    go_wp2
    go_ret; exact ⟨rfl, rfl⟩
  · clear h
    go_enter Try.func56, Try.ntmps56
    go_wp2
    go_ret; exact ⟨rfl, rfl⟩

theorem spec_Day_t (n : Int) (w : World) (h : 0 ≤ n) (h2 : n ≤ 100000) : Calls Try.prog 51 #[.int .i64 n] w fun e w' => e = .returned (.bool true) ∧ w = w' := by
  go_enter Try.func51, Try.ntmps51
  go_wp2_with (go_at_call 56; first | (refine (spec_In_t _ _ _ _ (by omega) (by omega)).mono ?_; rintro e w' ⟨rfl, rfl⟩) | (refine (spec_In_f _ _ _ _ (by omega)).mono ?_; rintro e w' ⟨rfl, rfl⟩))
  go_ret; exact ⟨rfl, rfl⟩
theorem spec_Day_f (n : Int) (w : World) (h : ¬ (0 ≤ n ∧ n ≤ 100000)) : Calls Try.prog 51 #[.int .i64 n] w fun e w' => e = .returned (.bool false) ∧ w = w' := by
  go_enter Try.func51, Try.ntmps51
  go_wp2_with (go_at_call 56; first | (refine (spec_In_t _ _ _ _ (by omega) (by omega)).mono ?_; rintro e w' ⟨rfl, rfl⟩) | (refine (spec_In_f _ _ _ _ (by omega)).mono ?_; rintro e w' ⟨rfl, rfl⟩))
  go_ret; exact ⟨rfl, rfl⟩

theorem impl_within_t (n a b : Int) (w : World) (h : a ≤ n) (h2 : n ≤ b) : Calls Try.prog 59 #[.int .i64 n, .int .i64 a, .int .i64 b] w fun e w' => e = .returned (.bool true) ∧ w = w' := by
  go_enter Try.func59, Try.ntmps59
  go_wp2
  go_ret; exact ⟨rfl, rfl⟩
theorem impl_within_f (n a b : Int) (w : World) (h : ¬ (a ≤ n ∧ n ≤ b)) : Calls Try.prog 59 #[.int .i64 n, .int .i64 a, .int .i64 b] w fun e w' => e = .returned (.bool false) ∧ w = w' := by
  by_cases h1 : a ≤ n
  · have h2 : ¬ n ≤ b := by omega
    clear h
    go_enter Try.func59, Try.ntmps59
    go_wp2
    go_ret; exact ⟨rfl, rfl⟩
  · clear h
    go_enter Try.func59, Try.ntmps59
    go_wp2
    go_ret; exact ⟨rfl, rfl⟩
theorem impl_isDay_t (n : Int) (w : World) (h : 0 ≤ n) (h2 : n ≤ 100000) : Calls Try.prog 48 #[.int .i64 n] w fun e w' => e = .returned (.bool true) ∧ w = w' := by
  go_enter Try.func48, Try.ntmps48
  go_wp2_with (go_at_call 59; first | (refine (impl_within_t _ _ _ _ (by omega) (by omega)).mono ?_; rintro e w' ⟨rfl, rfl⟩) | (refine (impl_within_f _ _ _ _ (by omega)).mono ?_; rintro e w' ⟨rfl, rfl⟩))
  go_ret; exact ⟨rfl, rfl⟩
theorem impl_isDay_f (n : Int) (w : World) (h : ¬ (0 ≤ n ∧ n ≤ 100000)) : Calls Try.prog 48 #[.int .i64 n] w fun e w' => e = .returned (.bool false) ∧ w = w' := by
  go_enter Try.func48, Try.ntmps48
  go_wp2_with (go_at_call 59; first | (refine (impl_within_t _ _ _ _ (by omega) (by omega)).mono ?_; rintro e w' ⟨rfl, rfl⟩) | (refine (impl_within_f _ _ _ _ (by omega)).mono ?_; rintro e w' ⟨rfl, rfl⟩))
  go_ret; exact ⟨rfl, rfl⟩
end Go.Proofs.Ytmkhapgkiecmaaa
