/- The vectors of the directions: plain law. No program in sight. -/
import Derived.Test.YtpabbehpkokhbaaDoorBase
namespace Go.Proofs.YtpabbehpkokhbaaDoor
def rot (p : Int × Int) : Int × Int := (-p.2, p.1)
def rotN : Nat → Int × Int → Int × Int
  | 0, p => p
  | k + 1, p => rot (rotN k p)
def baseV (i : Nat) : Int × Int := (([(1000, 0), (966, 259), (866, 500), (707, 707), (500, 866), (259, 966)] : List (Int × Int))[i]?).getD (0, 0)
def vecN (d : Nat) : Int × Int := rotN (d / 6) (baseV (d % 6))
theorem vec_bd : ∀ d : Nat, d < 24 → ((-1000 ≤ (vecN d).1 ∧ (vecN d).1 ≤ 1000) ∧ (-1000 ≤ (vecN d).2 ∧ (vecN d).2 ≤ 1000)) := by decide
theorem rot_bd : ∀ d : Nat, d < 24 → ∀ k : Nat, k < 4 → ((-1000 ≤ (rotN k (baseV (d % 6))).1 ∧ (rotN k (baseV (d % 6))).1 ≤ 1000) ∧ (-1000 ≤ (rotN k (baseV (d % 6))).2 ∧ (rotN k (baseV (d % 6))).2 ≤ 1000)) := by decide
theorem prod_bd {a b A B : Int} (h1 : -A ≤ a ∧ a ≤ A) (h2 : -B ≤ b ∧ b ≤ B) : -(A * B) ≤ a * b ∧ a * b ≤ A * B := by
  have e1 : (a.natAbs : Int) ≤ A := by omega
  have e2 : (b.natAbs : Int) ≤ B := by omega
  have e3 : ((a * b).natAbs : Int) ≤ A * B := by
    rw [Int.natAbs_mul, Int.natCast_mul]
    exact Int.mul_le_mul e1 e2 (by omega) (by omega)
  omega
end Go.Proofs.YtpabbehpkokhbaaDoor
