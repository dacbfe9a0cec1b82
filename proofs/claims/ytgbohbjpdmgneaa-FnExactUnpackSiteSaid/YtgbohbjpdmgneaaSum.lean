/- The checksum: both packages' SumOf compute 'sumOf'. -/
import Derived.Test.YtgbohbjpdmgneaaChecked
import Derived.Test.YtgbohbjpdmgneaaBase
namespace Go.Proofs.Ytgbohbjpdmgneaa
open Go.RowKit

def sumL : List UInt8 → Int × Int → Int × Int
  | [], p => p
  | c :: r, (a, b) => sumL r ((3 * a + c.toNat) % 241, (b + (3 * a + c.toNat) % 241) % 251)
def sumOf (l : List UInt8) : Int := 256 * (sumL l (5, 0)).2 + (sumL l (5, 0)).1
theorem sumL_drop {s : ByteArray} {k : Nat} (h : k < s.size) (a b : Int) : sumL (s.data.toList.drop k) (a, b) = sumL (s.data.toList.drop (k+1)) ((3 * a + s[k].toNat) % 241, (b + (3 * a + s[k].toNat) % 241) % 251) := by
  rw [List.drop_eq_getElem_cons (by simpa using h)]; rfl
theorem sumL_end {s : ByteArray} {k : Nat} (h : ¬ k < s.size) (p : Int × Int) : sumL (s.data.toList.drop k) p = p := by
  rw [List.drop_eq_nil_of_le (by simp; exact Nat.not_lt.1 h)]; rfl

set_option maxHeartbeats 400000 in
theorem impl_SumOf (s : ByteArray) (w : World) (hs : s.size ≤ maxLen) :
    Calls Try.prog 138 #[.string s] w fun e w' => e = .returned (.int .i64 (sumOf s.data.toList)) ∧ w = w' := by
  unfold maxLen at hs
  go_enter Try.func138, Try.ntmps138
  go_wp2
  go_loop [3, 4, 8] (fun a b i => ∃ (x y : Int) (k : Nat), k ≤ s.size ∧ i = .int .i64 k ∧ a = .int .i64 x ∧ b = .int .i64 y ∧ 0 ≤ x ∧ x < 241 ∧ 0 ≤ y ∧ y < 251 ∧ Hid (sumL s.data.toList (5, 0) = sumL (s.data.toList.drop k) (x, y)))
     (fun _ _ i => s.size - (intOf i).toNat)
  case atStart => exact ⟨5, 0, 0, Nat.zero_le _, rfl, rfl, rfl, by omega, by omega, by omega, by omega, Lib.hid rfl⟩
  case round =>
    obtain ⟨x, y, k, hk, rfl, rfl, rfl, h1, h2, h3, h4, hh⟩ := hrel
    by_cases hlt : k < s.size
    · have hb : (s[k].toNat : Int) < 256 := by have := s[k].toNat_lt; omega
      go_wp2
      go_round
      case rel => exact ⟨_, _, k + 1, by omega, by go_num, rfl, rfl, by omega, by omega, by omega, by omega, Lib.hid (hh.out.trans (sumL_drop hlt _ _))⟩
      case measure => simp [intOf]; omega
    · go_wp2
      go_ret
      exact ⟨ret_int (by rw [sumOf, hh.out, sumL_end hlt]), rfl⟩

set_option maxHeartbeats 400000 in
theorem spec_l27Sum (s : ByteArray) (w : World) (hs : s.size ≤ maxLen) :
    Calls Try.prog 160 #[.string s] w fun e w' => e = .returned (.int .i64 (sumOf s.data.toList)) ∧ w = w' := by
  unfold maxLen at hs
  go_enter Try.func160, Try.ntmps160
  go_wp2

  go_loop [3, 4, 5] (fun a b i => ∃ (x y : Int) (k : Nat), k ≤ s.size ∧ i = .int .i64 k ∧ a = .int .i64 x ∧ b = .int .i64 y ∧ 0 ≤ x ∧ x < 241 ∧ 0 ≤ y ∧ y < 251 ∧ Hid (sumL s.data.toList (5, 0) = sumL (s.data.toList.drop k) (x, y)))
     (fun _ _ i => s.size - (intOf i).toNat)
  case atStart => exact ⟨5, 0, 0, Nat.zero_le _, rfl, rfl, rfl, by omega, by omega, by omega, by omega, Lib.hid rfl⟩
  case round =>
    obtain ⟨x, y, k, hk, rfl, rfl, rfl, h1, h2, h3, h4, hh⟩ := hrel
    by_cases hlt : k < s.size
    · have hb : (s[k].toNat : Int) < 256 := by have := s[k].toNat_lt; omega
      go_wp2
      go_round
      case rel => exact ⟨_, _, k + 1, by omega, by go_num, rfl, rfl, by omega, by omega, by omega, by omega, Lib.hid (hh.out.trans (sumL_drop hlt _ _))⟩
      case measure => simp [intOf]; omega
    · go_wp2
      go_ret
      exact ⟨ret_int (by rw [sumOf, hh.out, sumL_end hlt]), rfl⟩

end Go.Proofs.Ytgbohbjpdmgneaa
