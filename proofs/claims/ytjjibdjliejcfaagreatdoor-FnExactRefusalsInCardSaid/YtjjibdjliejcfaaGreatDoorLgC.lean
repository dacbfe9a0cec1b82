/- The log: a text cut at its first blank. -/
import Derived.Test.YtjjibdjliejcfaaGreatDoorNumW
import Derived.Handy
namespace Go.Proofs.YtjjibdjliejcfaaGreatDoor
open Go.RowKit
/-- Where the first blank of a text stands. -/
def BlankAt (s : ByteArray) (i : Nat) : Prop := ∃ h : i < s.size, s[i].toNat = 32 ∧ ∀ j (hj : j < s.size), j < i → ¬ s[j].toNat = 32
/-- A text cut at its first blank. -/
def CutAt (s a b : ByteArray) (ok : Bool) : Prop :=
  (∃ i, BlankAt s i ∧ a = s.extract 0 i ∧ b = s.extract (i + 1) s.size ∧ ok = true) ∨ ((∀ j (hj : j < s.size), ¬ s[j].toNat = 32) ∧ a = s ∧ b = ByteArray.empty ∧ ok = false)
def CutRes (s : ByteArray) (w : World) (e : Ending) (w' : World) : Prop := ∃ a b ok, e = .returned (.tuple #[.string a, .string b, .bool ok]) ∧ CutAt s a b ok ∧ Below w.heap.size w w'
set_option maxRecDepth 100000 in
set_option maxHeartbeats 4000000 in
theorem spec_Cut (s : ByteArray) (w : World) (hs : s.size ≤ maxLen) : Calls Tryz.prog 93 #[.string s] w (CutRes s w) := by
  unfold maxLen at hs
  go_enter Tryz.func93, Tryz.ntmps93
  go_wp2
  go_loop [5] (fun i => ∃ k : Nat, k ≤ s.size ∧ i = .int .i64 k ∧ Hid (∀ j (h : j < s.size), j < k → ¬ s[j].toNat = 32)) (fun i => s.size - (intOf i).toNat)
  case atStart => exact ⟨0, Nat.zero_le _, rfl, Lib.hid (fun _ _ h => absurd h (by omega))⟩
  case round =>
    obtain ⟨k, hk, rfl, hh⟩ := hrel
    by_cases hlt : k < s.size
    · have hc : s[k].toNat < 256 := s[k].toNat_lt
      have Hst : Hid (¬ s[k].toNat = 32 → ∀ j (h : j < s.size), j < k + 1 → ¬ s[j].toNat = 32) := Lib.hid (fun h j hj hjk => by
        by_cases e : j < k
        · exact hh.out j hj e
        · have : j = k := by omega
          subst this; exact h)
      by_cases h32 : s[k].toNat = 32
      · have Hr : Hid (CutAt s (s.extract 0 k) (s.extract (k + 1) s.size) true) := Lib.hid (.inl ⟨k, ⟨hlt, h32, hh.out⟩, rfl, rfl, rfl⟩)
        have hq : ((s[k].toNat : Int) == 32) = true := by rw [beq_iff_eq]; omega
        have hw : IntKind.i64.wrap ((k : Int) + 1) = (k : Int) + 1 := IntWalk.i64_in _ (by omega)
        have hk1 : (0 : Int) ≤ (k : Int) := by omega
        have hk2 : (k : Int) ≤ (s.size : Int) := by omega
        have hk3 : (k : Int) + 1 ≤ (s.size : Int) := by omega
        clear Hst h32
        go_wp2_with (go_quiet (fail))
        go_ret3
        exact ⟨s.extract 0 k, s.extract (k + 1) s.size, true, rfl, Hr.out, below_dN (Below.refl _ _) _⟩
      · have Hn := Lib.hid (Hst.out h32)
        have hq : ((s[k].toNat : Int) == 32) = false := by rw [beq_eq_false_iff_ne]; omega
        clear Hst h32
        go_wp2
        go_round
        case rel => exact ⟨k + 1, by omega, by go_num, Hn⟩
        case measure => simp [intOf]; omega
    · have Hr : Hid (CutAt s s ByteArray.empty false) := Lib.hid (.inr ⟨fun j hj => hh.out j hj (by omega), rfl, rfl, rfl⟩)
      go_wp2
      go_ret3
      exact ⟨s, ByteArray.empty, false, rfl, Hr.out, Below.refl _ _⟩
end Go.Proofs.YtjjibdjliejcfaaGreatDoor
