/- Ranges and days. -/
import Derived.Test.YtjjibdjliejcfaaDoorChecked
import Derived.Test.YtjjibdjliejcfaaDoorBase
namespace Go.Proofs.YtjjibdjliejcfaaDoor
open Go.RowKit

theorem spec_In_t (n a b : Int) (w : World) (h : a ≤ n) (h2 : n ≤ b) : Calls Tryd.prog 53 #[.int .i64 n, .int .i64 a, .int .i64 b] w fun e w' => e = .returned (.bool true) ∧ w = w' := by
  go_enter Tryd.func53, Tryd.ntmps53
  go_wp2
  go_ret; exact ⟨rfl, rfl⟩
theorem spec_In_f (n a b : Int) (w : World) (h : ¬ (a ≤ n ∧ n ≤ b)) : Calls Tryd.prog 53 #[.int .i64 n, .int .i64 a, .int .i64 b] w fun e w' => e = .returned (.bool false) ∧ w = w' := by
  by_cases h1 : a ≤ n
  · have h2 : ¬ n ≤ b := by omega
    clear h
    go_enter Tryd.func53, Tryd.ntmps53
    go_wp2
    go_ret; exact ⟨rfl, rfl⟩
  · clear h
    go_enter Tryd.func53, Tryd.ntmps53
    go_wp2
    go_ret; exact ⟨rfl, rfl⟩

theorem spec_Day_t (n : Int) (w : World) (h : 0 ≤ n) (h2 : n ≤ 100000) : Calls Tryd.prog 55 #[.int .i64 n] w fun e w' => e = .returned (.bool true) ∧ w = w' := by
  go_enter Tryd.func55, Tryd.ntmps55
  go_wp2_with (go_at_call 53; first | (refine (spec_In_t _ _ _ _ (by omega) (by omega)).mono ?_; rintro e w' ⟨rfl, rfl⟩) | (refine (spec_In_f _ _ _ _ (by omega)).mono ?_; rintro e w' ⟨rfl, rfl⟩))
  go_ret; exact ⟨rfl, rfl⟩
theorem spec_Day_f (n : Int) (w : World) (h : ¬ (0 ≤ n ∧ n ≤ 100000)) : Calls Tryd.prog 55 #[.int .i64 n] w fun e w' => e = .returned (.bool false) ∧ w = w' := by
  go_enter Tryd.func55, Tryd.ntmps55
  go_wp2_with (go_at_call 53; first | (refine (spec_In_t _ _ _ _ (by omega) (by omega)).mono ?_; rintro e w' ⟨rfl, rfl⟩) | (refine (spec_In_f _ _ _ _ (by omega)).mono ?_; rintro e w' ⟨rfl, rfl⟩))
  go_ret; exact ⟨rfl, rfl⟩

theorem impl_within_t (n a b : Int) (w : World) (h : a ≤ n) (h2 : n ≤ b) : Calls Tryd.prog 64 #[.int .i64 n, .int .i64 a, .int .i64 b] w fun e w' => e = .returned (.bool true) ∧ w = w' := by
  go_enter Tryd.func64, Tryd.ntmps64
  go_wp2
  go_ret; exact ⟨rfl, rfl⟩
theorem impl_within_f (n a b : Int) (w : World) (h : ¬ (a ≤ n ∧ n ≤ b)) : Calls Tryd.prog 64 #[.int .i64 n, .int .i64 a, .int .i64 b] w fun e w' => e = .returned (.bool false) ∧ w = w' := by
  by_cases h1 : a ≤ n
  · have h2 : ¬ n ≤ b := by omega
    clear h
    go_enter Tryd.func64, Tryd.ntmps64
    go_wp2
    go_ret; exact ⟨rfl, rfl⟩
  · clear h
    go_enter Tryd.func64, Tryd.ntmps64
    go_wp2
    go_ret; exact ⟨rfl, rfl⟩
end Go.Proofs.YtjjibdjliejcfaaDoor
