/- Ranges and days. -/
import Derived.Test.YtpabbehpkokhbaaDoorChecked
import Derived.Test.YtpabbehpkokhbaaDoorBase
namespace Go.Proofs.YtpabbehpkokhbaaDoor
open Go.RowKit

theorem spec_In_t (n a b : Int) (w : World) (h : a ≤ n) (h2 : n ≤ b) : Calls Tryd.prog 58 #[.int .i64 n, .int .i64 a, .int .i64 b] w fun e w' => e = .returned (.bool true) ∧ w = w' := by
  go_enter Tryd.func58, Tryd.ntmps58
  go_wp2
  go_ret; exact ⟨rfl, rfl⟩
theorem spec_In_f (n a b : Int) (w : World) (h : ¬ (a ≤ n ∧ n ≤ b)) : Calls Tryd.prog 58 #[.int .i64 n, .int .i64 a, .int .i64 b] w fun e w' => e = .returned (.bool false) ∧ w = w' := by
  by_cases h1 : a ≤ n
  · have h2 : ¬ n ≤ b := by omega
    clear h
    go_enter Tryd.func58, Tryd.ntmps58
    go_wp2
    go_ret; exact ⟨rfl, rfl⟩
  · clear h
    go_enter Tryd.func58, Tryd.ntmps58
    go_wp2
    go_ret; exact ⟨rfl, rfl⟩


theorem impl_within_t (n a b : Int) (w : World) (h : a ≤ n) (h2 : n ≤ b) : Calls Tryd.prog 28 #[.int .i64 n, .int .i64 a, .int .i64 b] w fun e w' => e = .returned (.bool true) ∧ w = w' := by
  go_enter Tryd.func28, Tryd.ntmps28
  go_wp2
  go_ret; exact ⟨rfl, rfl⟩
theorem impl_within_f (n a b : Int) (w : World) (h : ¬ (a ≤ n ∧ n ≤ b)) : Calls Tryd.prog 28 #[.int .i64 n, .int .i64 a, .int .i64 b] w fun e w' => e = .returned (.bool false) ∧ w = w' := by
  by_cases h1 : a ≤ n
  · have h2 : ¬ n ≤ b := by omega
    clear h
    go_enter Tryd.func28, Tryd.ntmps28
    go_wp2
    go_ret; exact ⟨rfl, rfl⟩
  · clear h
    go_enter Tryd.func28, Tryd.ntmps28
    go_wp2
    go_ret; exact ⟨rfl, rfl⟩
end Go.Proofs.YtpabbehpkokhbaaDoor
