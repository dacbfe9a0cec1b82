/- Sums over lists; the marks' text. -/
import Derived.Test.YtpabbehpkokhbaaDoorBase
namespace Go.Proofs.YtpabbehpkokhbaaDoor
open Go.RowKit

def sumOn {α : Type} (f : α → Int) : List α → Int
  | [] => 0
  | x :: r => f x + sumOn f r
theorem sumOn_nonneg {α : Type} {f : α → Int} (h : ∀ x, 0 ≤ f x) : ∀ l, 0 ≤ sumOn f l
  | [] => by simp [sumOn]
  | x :: r => by have := h x; have := sumOn_nonneg h r; simp only [sumOn]; omega
theorem sumOn_append {α : Type} (f : α → Int) : ∀ a b, sumOn f (a ++ b) = sumOn f a + sumOn f b
  | [], b => by simp [sumOn]
  | x :: r, b => by simp only [List.cons_append, sumOn, sumOn_append f r b]; omega
theorem sumOn_take_succ {α : Type} (f : α → Int) {l : List α} {k : Nat} (h : k < l.length) : sumOn f (l.take (k + 1)) = sumOn f (l.take k) + f l[k] := by
  rw [List.take_succ_eq_append_getElem h, sumOn_append]; simp [sumOn]
theorem sumOn_take_le {α : Type} {f : α → Int} (h : ∀ x, 0 ≤ f x) (l : List α) (k : Nat) : sumOn f (l.take k) ≤ sumOn f l := by
  have := sumOn_append f (l.take k) (l.drop k)
  rw [List.take_append_drop] at this
  have := sumOn_nonneg h (l.drop k)
  omega

/-- What is left of n when s has been taken; -1 where that is below 0. -/
def szRes (n s : Int) : Int := if n < s then -1 else n - s
theorem szRes_lt {n s : Int} (h : n < s) : szRes n s = -1 := if_pos h
theorem szRes_ge {n s : Int} (h : ¬ n < s) : szRes n s = n - s := if_neg h

/-- The digits of a number above 0, and the text that a mark writes: the letter m and the digits. -/
def digitsB : Nat → Nat → List UInt8 → List UInt8
  | 0, _, acc => acc
  | fuel + 1, k, acc => if k = 0 then acc else digitsB fuel (k / 10) (UInt8.ofNat (48 + k % 10) :: acc)
theorem digitsB_step {f m : Nat} {acc : List UInt8} (h0 : 0 < m) (hf : m ≤ f) : ∃ f', m / 10 ≤ f' ∧ f' < f ∧ digitsB f m acc = digitsB f' (m / 10) (UInt8.ofNat (48 + m % 10) :: acc) := by
  match f, hf with
  | 0, hf => omega
  | f + 1, hf => exact ⟨f, by omega, by omega, by rw [digitsB, if_neg (by omega)]⟩
theorem digitsB_fuel : ∀ (f g m : Nat) (acc : List UInt8), m ≤ f → m ≤ g → digitsB f m acc = digitsB g m acc
  | 0, g, m, acc, hf, _ => by
    have : m = 0 := by omega
    subst this
    cases g <;> simp [digitsB]
  | f + 1, 0, m, acc, _, hg => by
    have : m = 0 := by omega
    subst this
    simp [digitsB]
  | f + 1, g + 1, m, acc, hf, hg => by
    simp only [digitsB]
    by_cases h : m = 0
    · rw [if_pos h, if_pos h]
    · rw [if_neg h, if_neg h]; exact digitsB_fuel f g _ _ (by omega) (by omega)
theorem digitsB_zero (f : Nat) (acc : List UInt8) : digitsB f 0 acc = acc := by cases f <;> simp [digitsB]
def markB (k : Nat) : ByteArray := ⟨(109 :: digitsB k k []).toArray⟩
end Go.Proofs.YtpabbehpkokhbaaDoor
