/- Directions: turns, in both packages. -/
import Derived.Test.YtpabbehpkokhbaaDoorChecked
import Derived.Test.YtpabbehpkokhbaaDoorBase
namespace Go.Proofs.YtpabbehpkokhbaaDoor
open Go.RowKit

def Dir (d : Int) : Prop := 0 ≤ d ∧ d ≤ 23
instance (d : Int) : Decidable (Dir d) := by unfold Dir; infer_instance
theorem tmod24 (n : Int) : ∃ q : Int, n.tmod 24 = q ∧ -23 ≤ q ∧ q ≤ 23 ∧ (q + 24).tmod 24 = n % 24 ∧ (q + 24) % 24 = n % 24 := by
  by_cases h : 0 ≤ n
  · refine ⟨n % 24, Int.tmod_eq_emod_of_nonneg h, by omega, by omega, ?_, by omega⟩
    rw [Int.tmod_eq_emod_of_nonneg (by omega)]; omega
  · refine ⟨-((-n) % 24), ?_, by omega, by omega, ?_, by omega⟩
    · have : n = -(-n) := by omega
      rw [this, Int.neg_tmod, Int.tmod_eq_emod_of_nonneg (by omega)]; simp
    · rw [Int.tmod_eq_emod_of_nonneg (by omega)]; omega
def tb (fr to : Int) : Int := if 12 < (to - fr) % 24 then (to - fr) % 24 - 24 else (to - fr) % 24
theorem tb_cases (fr to : Int) : (12 < (to - fr) % 24 ∧ tb fr to = (to - fr) % 24 - 24) ∨ ((to - fr) % 24 ≤ 12 ∧ tb fr to = (to - fr) % 24) := by
  unfold tb
  by_cases h : 12 < (to - fr) % 24
  · rw [if_pos h]; exact .inl ⟨h, rfl⟩
  · rw [if_neg h]; exact .inr ⟨by omega, rfl⟩
theorem tb_bound (fr to : Int) : -11 ≤ tb fr to ∧ tb fr to ≤ 12 := by have := tb_cases fr to; omega
def absI (n : Int) : Int := if n < 0 then -n else n
theorem absI_cases (n : Int) : (n < 0 ∧ absI n = -n) ∨ (0 ≤ n ∧ absI n = n) := by
  unfold absI
  by_cases h : n < 0
  · rw [if_pos h]; exact .inl ⟨h, rfl⟩
  · rw [if_neg h]; exact .inr ⟨by omega, rfl⟩

theorem absI_cases3 (n : Int) : (n < 0 ∧ absI n = -n) ∨ (n = 0 ∧ absI n = n) ∨ (0 < n ∧ absI n = n) := by
  rcases absI_cases n with ⟨h1, h2⟩ | ⟨h1, h2⟩
  · exact .inl ⟨h1, h2⟩
  · by_cases h : n = 0
    · exact .inr (.inl ⟨h, h2⟩)
    · exact .inr (.inr ⟨by omega, h2⟩)
end Go.Proofs.YtpabbehpkokhbaaDoor
