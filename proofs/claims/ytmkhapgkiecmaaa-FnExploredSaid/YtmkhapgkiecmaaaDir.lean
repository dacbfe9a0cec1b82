/- Directions: turns, in both packages. -/
import Derived.Test.YtmkhapgkiecmaaaChecked
import Derived.Test.YtmkhapgkiecmaaaBase
namespace Go.Proofs.Ytmkhapgkiecmaaa
open Go.RowKit

def Dir (d : Int) : Prop := 0 ≤ d ∧ d ≤ 23
instance (d : Int) : Decidable (Dir d) := by unfold Dir; infer_instance
theorem tmod24 (n : Int) : ∃ q : Int, n.tmod 24 = q ∧ -23 ≤ q ∧ q ≤ 23 ∧ (q + 24).tmod 24 = n % 24 ∧ (q + 24) % 24 = n % 24 := by
  by_cases h : 0 ≤ n
  · refine ⟨n % 24, Int.tmod_eq_emod_of_nonneg h, by omega, by omega, ?_, by omega⟩
    rw [Int.tmod_eq_emod_of_nonneg (by omega)]; omega
  · refine ⟨-((-n) % 24), ?_, by omega, by omega, ?_, by omega⟩
    · have : n = -(-n) := by omega
      rw [this, Int.neg_tmod, Int.tmod_eq_emod_of_nonneg (by omega)]; simp
    · rw [Int.tmod_eq_emod_of_nonneg (by omega)]; omega
def tb (fr to : Int) : Int := if 12 < (to - fr) % 24 then (to - fr) % 24 - 24 else (to - fr) % 24
theorem tb_cases (fr to : Int) : (12 < (to - fr) % 24 ∧ tb fr to = (to - fr) % 24 - 24) ∨ ((to - fr) % 24 ≤ 12 ∧ tb fr to = (to - fr) % 24) := by
  unfold tb
  by_cases h : 12 < (to - fr) % 24
  · rw [if_pos h]; exact .inl ⟨h, rfl⟩
  · rw [if_neg h]; exact .inr ⟨by omega, rfl⟩
theorem tb_bound (fr to : Int) : -11 ≤ tb fr to ∧ tb fr to ≤ 12 := by have := tb_cases fr to; omega
def absI (n : Int) : Int := if n < 0 then -n else n
theorem absI_cases (n : Int) : (n < 0 ∧ absI n = -n) ∨ (0 ≤ n ∧ absI n = n) := by
  unfold absI
  by_cases h : n < 0
  · rw [if_pos h]; exact .inl ⟨h, rfl⟩
  · rw [if_neg h]; exact .inr ⟨by omega, rfl⟩

set_option maxHeartbeats 1000000 in
theorem spec_Mod (n : Int) (w : World) (_h : -1000000000 ≤ n ∧ n ≤ 1000000000) : Calls Try.prog 72 #[.int .i64 n] w fun e w' => e = .returned (.int .i64 (n % 24)) ∧ w = w' := by
  obtain ⟨q, h1, h2, h3, h4, h5⟩ := tmod24 n
  have H5 := Lib.hid h5
  clear h5
  go_enter Try.func72, Try.ntmps72
  go_wp2
  go_ret
  exact ⟨ret_int (by first | rfl | exact H5.out), rfl⟩
set_option maxHeartbeats 1000000 in
theorem impl_turned (d b : Int) (w : World) (h : -1000000000 ≤ d + b ∧ d + b ≤ 1000000000) : Calls Try.prog 98 #[.int .i64 d, .int .i64 b] w fun e w' => e = .returned (.int .i64 ((d + b) % 24)) ∧ w = w' := by
  obtain ⟨q, h1, h2, h3, h4, h5⟩ := tmod24 (d + b)
  have hw : IntKind.i64.wrap (d + b) = d + b := IntWalk.i64_in _ (by omega)
  have H5 := Lib.hid h5
  clear h5
  go_enter Try.func98, Try.ntmps98
  go_wp2
  go_ret
  exact ⟨ret_int (by first | rfl | exact H5.out), rfl⟩
set_option maxHeartbeats 1000000 in
theorem spec_Turn (fr to : Int) (w : World) (h1 : Dir fr) (h2 : Dir to) : Calls Try.prog 114 #[.int .i64 fr, .int .i64 to] w fun e w' => e = .returned (.int .i64 (tb fr to)) ∧ w = w' := by
  obtain ⟨h1, h1'⟩ := h1
  obtain ⟨h2, h2'⟩ := h2
  rcases tb_cases fr to with ⟨h3, h4⟩ | ⟨h3, h4⟩
  all_goals
    have H4 := Lib.hid h4
    clear h4
    go_enter Try.func114, Try.ntmps114
    go_wp2_with (first | (go_at_call 72; refine (spec_Mod _ _ (by omega)).mono ?_; rintro e w' ⟨rfl, rfl⟩) | (go_at_call 98; refine (impl_turned _ _ _ (by omega)).mono ?_; rintro e w' ⟨rfl, rfl⟩))
    go_ret
    exact ⟨ret_int H4.out.symm, rfl⟩
set_option maxHeartbeats 1000000 in
theorem impl_turnBetween (fr to : Int) (w : World) (h1 : Dir fr) (h2 : Dir to) : Calls Try.prog 70 #[.int .i64 fr, .int .i64 to] w fun e w' => e = .returned (.int .i64 (tb fr to)) ∧ w = w' := by
  obtain ⟨h1, h1'⟩ := h1
  obtain ⟨h2, h2'⟩ := h2
  have he : Hid (to + -fr = to - fr) := Lib.hid rfl
  rcases tb_cases fr to with ⟨h3, h4⟩ | ⟨h3, h4⟩
  all_goals
    have H4 := Lib.hid h4
    clear h4
    go_enter Try.func70, Try.ntmps70
    go_wp2_with (first | (go_at_call 72; refine (spec_Mod _ _ (by omega)).mono ?_; rintro e w' ⟨rfl, rfl⟩) | (go_at_call 98; refine (impl_turned _ _ _ (by omega)).mono ?_; rintro e w' ⟨rfl, rfl⟩))
    go_ret
    exact ⟨ret_int H4.out.symm, rfl⟩
set_option maxHeartbeats 1000000 in
theorem impl_abs (n : Int) (w : World) (h : -1000000000 ≤ n ∧ n ≤ 1000000000) : Calls Try.prog 69 #[.int .i64 n] w fun e w' => e = .returned (.int .i64 (absI n)) ∧ w = w' := by
  rcases absI_cases n with ⟨h3, h4⟩ | ⟨h3, h4⟩
  all_goals
    have H4 := Lib.hid h4
    clear h4
    go_enter Try.func69, Try.ntmps69
    go_wp2
    go_ret
    exact ⟨ret_int (by first | exact H4.out.symm | (rw [H4.out]; omega)), rfl⟩
theorem absI_cases3 (n : Int) : (n < 0 ∧ absI n = -n) ∨ (n = 0 ∧ absI n = n) ∨ (0 < n ∧ absI n = n) := by
  rcases absI_cases n with ⟨h1, h2⟩ | ⟨h1, h2⟩
  · exact .inl ⟨h1, h2⟩
  · by_cases h : n = 0
    · exact .inr (.inl ⟨h, h2⟩)
    · exact .inr (.inr ⟨by omega, h2⟩)
set_option maxHeartbeats 1000000 in
theorem spec_Size (n : Int) (w : World) (h : -1000000000 ≤ n ∧ n ≤ 1000000000) : Calls Try.prog 113 #[.int .i64 n] w fun e w' => e = .returned (.int .i64 (absI n)) ∧ w = w' := by
  rcases absI_cases3 n with ⟨h3, h4⟩ | ⟨rfl, h4⟩ | ⟨h3, h4⟩
  all_goals
    have H4 := Lib.hid h4
    clear h4
    go_enter Try.func113, Try.ntmps113
    go_wp2_with (go_at_call 125; go_in)
    go_ret
    exact ⟨ret_int (by first | exact H4.out.symm | (rw [H4.out]; omega)), rfl⟩
end Go.Proofs.Ytmkhapgkiecmaaa
