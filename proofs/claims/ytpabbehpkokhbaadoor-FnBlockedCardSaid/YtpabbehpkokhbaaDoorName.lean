/- IsName in both packages. -/
import Derived.Test.YtpabbehpkokhbaaDoorChecked
import Derived.Test.YtpabbehpkokhbaaDoorBase
namespace Go.Proofs.YtpabbehpkokhbaaDoor
open Go.RowKit

def nmCh (i : Nat) (b : UInt8) : Prop := (97 ≤ b.toNat ∧ b.toNat ≤ 122) ∨ (i ≠ 0 ∧ (b.toNat = 45 ∨ (48 ≤ b.toNat ∧ b.toNat ≤ 57)))
def isNm (s : ByteArray) : Prop := 1 ≤ s.size ∧ s.size ≤ 12 ∧ ∀ i (h : i < s.size), nmCh i s[i]
open Classical in
noncomputable def nmB (s : ByteArray) : Bool := decide (isNm s)
theorem nmB_t {s : ByteArray} (h : isNm s) : nmB s = true := by classical exact decide_eq_true h
theorem nmB_f {s : ByteArray} (h : ¬ isNm s) : nmB s = false := by classical exact decide_eq_false h
theorem nmB_iff {s : ByteArray} : nmB s = true ↔ isNm s := by
  constructor
  · intro h
    classical
    exact of_decide_eq_true h
  · exact nmB_t

theorem nmCh_cases (k c : Nat) : ((97 ≤ c ∧ c ≤ 122) ∧ ((97 ≤ c ∧ c ≤ 122) ∨ (k ≠ 0 ∧ (c = 45 ∨ (48 ≤ c ∧ c ≤ 57))))) ∨
    (c < 97 ∧ k ≤ 0 ∧ ¬ ((97 ≤ c ∧ c ≤ 122) ∨ (k ≠ 0 ∧ (c = 45 ∨ (48 ≤ c ∧ c ≤ 57))))) ∨ ((97 ≤ c ∧ 122 < c) ∧ k ≤ 0 ∧ ¬ ((97 ≤ c ∧ c ≤ 122) ∨ (k ≠ 0 ∧ (c = 45 ∨ (48 ≤ c ∧ c ≤ 57))))) ∨
    ((45 ≤ c ∧ c ≤ 45) ∧ 0 < k ∧ ((97 ≤ c ∧ c ≤ 122) ∨ (k ≠ 0 ∧ (c = 45 ∨ (48 ≤ c ∧ c ≤ 57))))) ∨
    ((48 ≤ c ∧ c ≤ 57) ∧ 0 < k ∧ ((97 ≤ c ∧ c ≤ 122) ∨ (k ≠ 0 ∧ (c = 45 ∨ (48 ≤ c ∧ c ≤ 57))))) ∨
    ((c < 48 ∧ (c < 45 ∨ 45 < c)) ∧ 0 < k ∧ ¬ ((97 ≤ c ∧ c ≤ 122) ∨ (k ≠ 0 ∧ (c = 45 ∨ (48 ≤ c ∧ c ≤ 57))))) ∨
    ((57 < c ∧ c < 97) ∧ 0 < k ∧ ¬ ((97 ≤ c ∧ c ≤ 122) ∨ (k ≠ 0 ∧ (c = 45 ∨ (48 ≤ c ∧ c ≤ 57))))) ∨
    ((122 < c) ∧ 0 < k ∧ ¬ ((97 ≤ c ∧ c ≤ 122) ∨ (k ≠ 0 ∧ (c = 45 ∨ (48 ≤ c ∧ c ≤ 57))))) := by omega

set_option maxHeartbeats 2000000 in
theorem impl_IsName (s : ByteArray) (w : World) (hs : s.size ≤ maxLen) : Calls Tryd.prog 68 #[.string s] w fun e w' => e = .returned (.bool (nmB s)) ∧ w = w' := by
  unfold maxLen at hs
  go_enter Tryd.func68, Tryd.ntmps68
  go_wp2
  go_loop [8] (fun i => ∃ k : Nat, k ≤ s.size ∧ i = .int .i64 k ∧ Hid (∀ j (h : j < s.size), j < k → nmCh j s[j])) (fun i => s.size - (intOf i).toNat)
  case atStart => exact ⟨0, Nat.zero_le _, rfl, Lib.hid (fun _ _ h => absurd h (by omega))⟩
  case round =>
    obtain ⟨k, hk, rfl, hh⟩ := hrel
    by_cases hlt : k < s.size
    · have hb : s[k].toNat < 256 := s[k].toNat_lt
      have Hg : Hid (nmCh k s[k] → ∀ j (h : j < s.size), j < k + 1 → nmCh j s[j]) := Lib.hid (fun h j hj hjk => by
        by_cases e : j < k
        · exact hh.out j hj e
        · have : j = k := by omega
          subst this; exact h)
      have Hb : Hid (¬ nmCh k s[k] → nmB s = false) := Lib.hid (fun h => nmB_f (fun hn => h (hn.2.2 k hlt)))
      have Hcs := Lib.hid (nmCh_cases k s[k].toNat)
      unfold nmCh at Hg Hb
      rcases Hcs.out with ⟨⟨_, _⟩, hq⟩ | ⟨_, _, hq⟩ | ⟨⟨_, _⟩, _, hq⟩ | ⟨⟨_, _⟩, _, hq⟩ | ⟨⟨_, _⟩, _, hq⟩ | ⟨⟨_, hd⟩, _, hq⟩ | ⟨⟨_, _⟩, _, hq⟩ | ⟨_, _, hq⟩
      all_goals
        have Hq := Lib.hid hq
        clear hq
        try (have hne : ((s[k].toNat : Int) != 45) = true := by rw [bne_iff_ne]; omega)
        try (have hdl : decide ((s[k].toNat : Int) ≤ 122) = false := decide_eq_false (by omega))
        try (have hdl : decide ((57 : Int) < (s[k].toNat : Int)) = false := decide_eq_false (by omega))
        try (have hk0 : ((k : Int) == 0) = true := by rw [beq_iff_eq]; omega)
        try (have hk0 : ((k : Int) == 0) = false := by rw [beq_eq_false_iff_ne]; omega)
        try (have hne : ((s[k].toNat : Int) != 45) = false := by rw [bne_eq_false_iff_eq]; omega)
        go_wp2
        all_goals first
          | (go_round
             case rel => exact ⟨k + 1, by omega, by go_num, Lib.hid (Hg.out Hq.out)⟩
             case measure => simp [intOf]; omega)
          | (go_ret
             exact ⟨ret_bool (Hb.out Hq.out).symm, rfl⟩)
    · have Hall : Hid (∀ i (h : i < s.size), nmCh i s[i]) := Lib.hid (fun i h => hh.out i h (by omega))
      by_cases h1 : 1 ≤ s.size
      · by_cases h2 : s.size ≤ 12
        · have Hr : Hid (nmB s = true) := Lib.hid (nmB_t ⟨h1, h2, Hall.out⟩)
          go_wp2
          go_ret
          exact ⟨ret_bool (by first | exact Hr.out.symm | (rw [Hr.out]; simp; done) | (rw [Hr.out]; simp; omega)), rfl⟩
        · have Hr : Hid (nmB s = false) := Lib.hid (nmB_f (fun h => h2 h.2.1))
          go_wp2
          go_ret
          exact ⟨ret_bool (by first | exact Hr.out.symm | (rw [Hr.out]; simp; done) | (rw [Hr.out]; simp; omega)), rfl⟩
      · have Hr : Hid (nmB s = false) := Lib.hid (nmB_f (fun h => h1 h.1))
        go_wp2
        go_ret
        exact ⟨ret_bool (by first | exact Hr.out.symm | (rw [Hr.out]; simp; done) | (rw [Hr.out]; simp; omega)), rfl⟩

theorem spec_small_t (c : UInt8) (w : World) (h : 97 ≤ c.toNat ∧ c.toNat ≤ 122) : Calls Tryd.prog 90 #[.int .u8 c.toNat] w fun e w' => e = .returned (.bool true) ∧ w = w' := by
  go_enter Tryd.func90, Tryd.ntmps90
  go_wp2
  go_ret; exact ⟨ret_bool (by first | rfl | (simp; omega)), rfl⟩
theorem spec_small_f (c : UInt8) (w : World) (h : c.toNat < 97 ∨ 122 < c.toNat) : Calls Tryd.prog 90 #[.int .u8 c.toNat] w fun e w' => e = .returned (.bool false) ∧ w = w' := by
  rcases h with h | h
  · go_enter Tryd.func90, Tryd.ntmps90
    go_wp2
    go_ret; exact ⟨ret_bool (by first | rfl | (simp; omega)), rfl⟩
  · have h2 : 97 ≤ c.toNat := by omega
    have h3 : decide ((c.toNat : Int) ≤ 122) = false := decide_eq_false (by omega)
    go_enter Tryd.func90, Tryd.ntmps90
    go_wp2
    go_ret; exact ⟨ret_bool (by first | rfl | (simp; omega)), rfl⟩
theorem spec_digit_t (c : UInt8) (w : World) (h : 48 ≤ c.toNat ∧ c.toNat ≤ 57) : Calls Tryd.prog 91 #[.int .u8 c.toNat] w fun e w' => e = .returned (.bool true) ∧ w = w' := by
  go_enter Tryd.func91, Tryd.ntmps91
  go_wp2
  go_ret; exact ⟨ret_bool (by first | rfl | (simp; omega)), rfl⟩
theorem spec_digit_f (c : UInt8) (w : World) (h : c.toNat < 48 ∨ 57 < c.toNat) : Calls Tryd.prog 91 #[.int .u8 c.toNat] w fun e w' => e = .returned (.bool false) ∧ w = w' := by
  rcases h with h | h
  · go_enter Tryd.func91, Tryd.ntmps91
    go_wp2
    go_ret; exact ⟨ret_bool (by first | rfl | (simp; omega)), rfl⟩
  · have h2 : 48 ≤ c.toNat := by omega
    have h3 : decide ((c.toNat : Int) ≤ 57) = false := decide_eq_false (by omega)
    go_enter Tryd.func91, Tryd.ntmps91
    go_wp2
    go_ret; exact ⟨ret_bool (by first | rfl | (simp; omega)), rfl⟩

theorem chr_cases (c : Nat) : (97 ≤ c ∧ c ≤ 122) ∨ (48 ≤ c ∧ c ≤ 57) ∨ (45 ≤ c ∧ c ≤ 45) ∨ (c < 45) ∨ (45 < c ∧ c < 48) ∨ (57 < c ∧ c < 97) ∨ 122 < c := by omega
set_option maxHeartbeats 2000000 in
theorem spec_IsName (s : ByteArray) (w : World) (hs : s.size ≤ maxLen) : Calls Tryd.prog 76 #[.string s] w fun e w' => e = .returned (.bool (nmB s)) ∧ w = w' := by
  unfold maxLen at hs
  by_cases h1 : 1 ≤ s.size
  · have hem : s.toList.isEmpty = false := by rw [← decide_eq_emptyBytes]; apply decide_eq_false; intro e; rw [e] at h1; exact absurd h1 (by decide)
    by_cases h2 : s.size ≤ 12
    · by_cases h3 : 97 ≤ s[0].toNat ∧ s[0].toNat ≤ 122
      · obtain ⟨h3, h4⟩ := h3
        go_enter Tryd.func76, Tryd.ntmps76
        go_wp2_with (go_at_call 90; first | (refine (spec_small_t _ _ (by omega)).mono ?_; rintro e w' ⟨rfl, rfl⟩) | (refine (spec_small_f _ _ (by omega)).mono ?_; rintro e w' ⟨rfl, rfl⟩))
        go_loop [3] (fun i => ∃ k : Nat, k ≤ s.size ∧ i = .int .i64 k ∧ Hid (∀ j (h : j < s.size), j < k → nmCh j s[j])) (fun i => s.size - (intOf i).toNat)
        case atStart => exact ⟨0, Nat.zero_le _, rfl, Lib.hid (fun _ _ h => absurd h (by omega))⟩
        case round =>
          obtain ⟨k, hk, rfl, hh⟩ := hrel
          by_cases hlt : k < s.size
          · have hb : s[k].toNat < 256 := s[k].toNat_lt
            have Hg : Hid (nmCh k s[k] → ∀ j (h : j < s.size), j < k + 1 → nmCh j s[j]) := Lib.hid (fun h j hj hjk => by
              by_cases e : j < k
              · exact hh.out j hj e
              · have : j = k := by omega
                subst this; exact h)
            have Hb : Hid (¬ nmCh k s[k] → nmB s = false) := Lib.hid (fun h => nmB_f (fun hn => h (hn.2.2 k hlt)))
            unfold nmCh at Hg Hb
            have H0 : Hid (k = 0 → 97 ≤ s[k].toNat ∧ s[k].toNat ≤ 122) := Lib.hid (fun h => by subst h; exact ⟨h3, h4⟩)
            have Hcs := Lib.hid (chr_cases s[k].toNat)
            clear h3 h4
            rcases Hcs.out with ⟨_, _⟩ | ⟨_, _⟩ | ⟨_, _⟩ | hq | ⟨_, _⟩ | ⟨_, _⟩ | hq
            all_goals
              try (have hne : ((s[k].toNat : Int) != 45) = true := by rw [bne_iff_ne]; omega)
              try (have hne : ((s[k].toNat : Int) != 45) = false := by rw [bne_eq_false_iff_eq]; omega)
              go_wp2_with (first | (go_at_call 90; first | (refine (spec_small_t _ _ (by omega)).mono ?_; rintro e w' ⟨rfl, rfl⟩) | (refine (spec_small_f _ _ (by omega)).mono ?_; rintro e w' ⟨rfl, rfl⟩)) | (go_at_call 91; first | (refine (spec_digit_t _ _ (by omega)).mono ?_; rintro e w' ⟨rfl, rfl⟩) | (refine (spec_digit_f _ _ (by omega)).mono ?_; rintro e w' ⟨rfl, rfl⟩)))
              first
                | (go_round
                   case rel => exact ⟨k + 1, by omega, by go_num, Lib.hid (Hg.out (by have := H0.out; omega))⟩
                   case measure => simp [intOf]; omega)
                | (go_ret
                   exact ⟨ret_bool (Hb.out (by have := H0.out; omega)).symm, rfl⟩)
          · have Hr : Hid (nmB s = true) := Lib.hid (nmB_t ⟨h1, h2, fun i h => hh.out i h (by omega)⟩)
            go_wp2
            go_ret
            exact ⟨ret_bool Hr.out.symm, rfl⟩
      · have Hr : Hid (nmB s = false) := Lib.hid (nmB_f (fun h => h3 (by have := h.2.2 0 h1; unfold nmCh at this; omega)))
        have h4 : s[0].toNat < 97 ∨ 122 < s[0].toNat := by omega
        clear h3
        go_enter Tryd.func76, Tryd.ntmps76
        go_wp2_with (go_at_call 90; first | (refine (spec_small_t _ _ (by omega)).mono ?_; rintro e w' ⟨rfl, rfl⟩) | (refine (spec_small_f _ _ (by omega)).mono ?_; rintro e w' ⟨rfl, rfl⟩))
        go_ret
        exact ⟨ret_bool Hr.out.symm, rfl⟩
    · have Hr : Hid (nmB s = false) := Lib.hid (nmB_f (fun h => h2 h.2.1))
      go_enter Tryd.func76, Tryd.ntmps76
      go_wp2
      go_ret
      exact ⟨ret_bool Hr.out.symm, rfl⟩
  · have Hr : Hid (nmB s = false) := Lib.hid (nmB_f (fun h => h1 h.1))
    have hem : s.toList.isEmpty = true := by rw [← decide_eq_emptyBytes]; apply decide_eq_true; apply ByteArray.ext; apply Array.eq_empty_of_size_eq_zero; show s.size = 0; omega
    go_enter Tryd.func76, Tryd.ntmps76
    go_wp2
    go_ret
    exact ⟨ret_bool Hr.out.symm, rfl⟩
end Go.Proofs.YtpabbehpkokhbaaDoor
