/- Decimal numbers, the reference's writing. -/
import Derived.Test.YtijpghlkbfmefaaDoorBytes
import Derived.Lib.ItoaNum
namespace Go.Proofs.YtijpghlkbfmefaaDoor
open Go.RowKit
theorem own_addr {α : Type} {n : Nat} {c : α → List Value} {lo : Nat} {e : TypeId} {w : World} {v : Value} {l : List α} (h : Own n c lo e w v l) (h0 : 0 < l.length) : ∃ b cap, v = .slice (some ⟨b, 0, none⟩) l.length cap := by
  rcases h.2 with ⟨-, h1⟩ | ⟨g, cap, cur, hv, _⟩
  · omega
  · exact ⟨g, cap, hv⟩
def decStr (n : Int) : ByteArray := ⟨(Lib.itoa n).toArray⟩
theorem decStr_zero : (⟨#[48]⟩ : ByteArray) = decStr ((0 : Nat) : Int) := by
  unfold decStr Lib.itoa
  rw [if_neg (by omega), show (((0 : Nat) : Int)).toNat = 0 from rfl, Lib.decDigits_one (by omega)]
  rfl
/-- What the loop has laid when m is left. -/
def DecI (u m : Nat) (l : List UInt8) : Prop := m ≤ u ∧ ((m = 0 ∧ u = 0 ∧ l = []) ∨ (m = 0 ∧ 0 < u ∧ l = Lib.decDigits u) ∨ (0 < m ∧ Lib.decDigits u = Lib.decDigits m ++ l))
theorem decI_start (u : Nat) : DecI u u [] := by
  refine ⟨Nat.le_refl _, ?_⟩
  by_cases h : u = 0
  · exact .inl ⟨h, h, rfl⟩
  · exact .inr (.inr ⟨by omega, by simp⟩)
theorem decI_step {u m : Nat} {l : List UInt8} (h : DecI u m l) (hm : 0 < m) : DecI u (m / 10) (UInt8.ofNat (48 + m % 10) :: l) := by
  obtain ⟨hle, h⟩ := h
  refine ⟨by omega, ?_⟩
  rcases h with ⟨h, -, -⟩ | ⟨h, -, -⟩ | ⟨-, h⟩
  · omega
  · omega
  · by_cases h10 : m < 10
    · refine .inr (.inl ⟨by omega, by omega, ?_⟩)
      rw [h, Lib.decDigits, dif_pos h10, Nat.mod_eq_of_lt h10]
      rfl
    · refine .inr (.inr ⟨by omega, ?_⟩)
      rw [h]
      conv => lhs; rw [Lib.decDigits, dif_neg h10]
      simp
theorem nDigits_bd (u : Nat) (h : u < 10000000000000000000) : Lib.nDigits u ≤ 19 := by
  apply Nat.le_of_not_lt
  intro h2
  have h3 : ∀ (k u : Nat), k < Lib.nDigits u → 10 ^ k ≤ u ∨ k = 0 := by
    intro k
    induction k with
    | zero => intro u _; exact .inr rfl
    | succ k ih =>
      intro u hk
      by_cases hu : u < 10
      · rw [Lib.nDigits_small hu] at hk; omega
      · rw [Lib.nDigits_big hu] at hk
        rcases ih (u / 10) (by omega) with h | h
        · refine .inl ?_
          rw [Nat.pow_succ]
          omega
        · subst h; refine .inl ?_; omega
  rcases h3 19 u h2 with h | h
  · have : (10:Nat) ^ 19 = 10000000000000000000 := by decide
    omega
  · omega
theorem decDigits_len (u : Nat) : (Lib.decDigits u).length = Lib.nDigits u := by rw [Lib.decDigits_eq]; simp
theorem decDigits_bd {u : Nat} (h : u < 10000000000000000000) : (Lib.decDigits u).length ≤ 19 := by rw [decDigits_len]; exact nDigits_bd u h
theorem decI_len {u m : Nat} {l : List UInt8} (h : DecI u m l) (hu : u < 10000000000000000000) : l.length ≤ 19 := by
  have := decDigits_bd hu
  rcases h.2 with ⟨-, -, h⟩ | ⟨-, -, h⟩ | ⟨-, h⟩
  · rw [h]; simp
  · rw [h]; omega
  · rw [h, List.length_append] at this; omega
theorem decI_zero {u : Nat} {l : List UInt8} (h : DecI u 0 l) : (u = 0 ∧ l = []) ∨ (0 < u ∧ l = Lib.decDigits u ∧ 0 < l.length) := by
  rcases h.2 with ⟨-, h1, h⟩ | ⟨-, h1, h⟩ | ⟨h1, h⟩
  · exact .inl ⟨h1, h⟩
  · refine .inr ⟨h1, h, ?_⟩
    rw [h, decDigits_len]; exact Lib.nDigits_pos u
  · omega
theorem itoa_len {n : Int} (h : I64 n) : (Lib.itoa n).length ≤ 20 := by
  obtain ⟨h1, h2⟩ := h
  unfold Lib.itoa
  split
  · have := decDigits_bd (u := n.natAbs) (by omega)
    rw [List.length_cons]; omega
  · have := decDigits_bd (u := n.toNat) (by omega)
    omega
theorem dig_nat (m : Nat) : (UInt8.ofNat (48 + m % 10)).toNat = 48 + m % 10 := by
  rw [UInt8.toNat_ofNat']
  omega
theorem own1 {lo : Nat} {w : World} {x : UInt8} {z : Int} (hz : z = x.toNat) (h : lo ≤ w.heap.size) : Bytes lo (w.alloc (.cells #[.int .u8 z] 5)) (.slice (some ⟨w.heap.size, 0, none⟩) 1 1) [x] := by
  subst hz
  have h1 := World.ownsRow_made (size := 1) (base := lo) (e := 5) w #[] 0 h (by unfold maxLen; omega) (by simp)
  refine ⟨rfl, .inr ⟨w.heap.size, 1, _, rfl, h, Array.getElem?_push_size, by simp, by unfold maxLen; omega, by simp, by simp [byteC]⟩⟩
theorem decStr_size {n : Int} (h : I64 n) : (decStr n).size ≤ 20 := itoa_len h
end Go.Proofs.YtijpghlkbfmefaaDoor
