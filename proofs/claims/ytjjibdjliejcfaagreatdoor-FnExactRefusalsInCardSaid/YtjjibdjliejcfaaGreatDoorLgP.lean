/- The log: plain entries, in both packages. -/
import Derived.Test.YtjjibdjliejcfaaGreatDoorTEntry
import Derived.Test.YtjjibdjliejcfaaGreatDoorNumW
import Derived.Test.YtjjibdjliejcfaaGreatDoorBasic
namespace Go.Proofs.YtjjibdjliejcfaaGreatDoor
open Go.RowKit
def txCh (c : UInt8) : Prop := 32 ≤ c.toNat ∧ c.toNat ≤ 126
def txOk (s : ByteArray) : Prop := (∀ i (h : i < s.size), txCh s[i]) ∧ 1 ≤ s.size ∧ s.size ≤ 50
open Classical in
noncomputable def txB (s : ByteArray) : Bool := decide (txOk s)
theorem txB_t {s : ByteArray} (h : txOk s) : txB s = true := by classical exact decide_eq_true h
theorem txB_f {s : ByteArray} (h : ¬ txOk s) : txB s = false := by classical exact decide_eq_false h
theorem txB_iff {s : ByteArray} : txB s = true ↔ txOk s := ⟨fun h => by classical exact of_decide_eq_true h, txB_t⟩
def Ent.plain (x : Ent) : Prop := (0 ≤ x.second ∧ x.second ≤ 1000000) ∧ isNm x.who ∧ txOk x.what
open Classical in
noncomputable def plainB (x : Ent) : Bool := decide x.plain
theorem plainB_t {x : Ent} (h : x.plain) : plainB x = true := by classical exact decide_eq_true h
theorem plainB_f {x : Ent} (h : ¬ x.plain) : plainB x = false := by classical exact decide_eq_false h
theorem plainB_iff {x : Ent} : plainB x = true ↔ x.plain := ⟨fun h => by classical exact of_decide_eq_true h, plainB_t⟩
set_option maxRecDepth 100000 in
set_option maxHeartbeats 4000000 in
theorem spec_Text (s : ByteArray) (w : World) (hs : s.size ≤ maxLen) : Calls Tryz.prog 73 #[.string s] w fun e w' => e = .returned (.bool (txB s)) ∧ w = w' := by
  unfold maxLen at hs
  go_enter Tryz.func73, Tryz.ntmps73
  go_wp2
  go_loop [3] (fun i => ∃ k : Nat, k ≤ s.size ∧ i = .int .i64 k ∧ Hid (∀ j (h : j < s.size), j < k → txCh s[j])) (fun i => s.size - (intOf i).toNat)
  case atStart => exact ⟨0, Nat.zero_le _, rfl, Lib.hid (fun _ _ h => absurd h (by omega))⟩
  case round =>
    obtain ⟨k, hk, rfl, hh⟩ := hrel
    by_cases hlt : k < s.size
    · have Hg : Hid (txCh s[k] → ∀ j (h : j < s.size), j < k + 1 → txCh s[j]) := Lib.hid (fun h j hj hjk => by
        by_cases e : j < k
        · exact hh.out j hj e
        · have : j = k := by omega
          subst this; exact h)
      have Hb : Hid (¬ txCh s[k] → txB s = false) := Lib.hid (fun h => txB_f (fun hn => h (hn.1 k hlt)))
      have hc : s[k].toNat < 256 := s[k].toNat_lt
      by_cases h1 : 32 ≤ s[k].toNat
      · by_cases h2 : s[k].toNat ≤ 126
        · have Hn := Lib.hid (Hg.out ⟨h1, h2⟩)
          have e1 : decide ((s[k].toNat : Int) < 32) = false := decide_eq_false (by omega)
          have e2 : decide ((126 : Int) < (s[k].toNat : Int)) = false := decide_eq_false (by omega)
          clear Hg Hb
          go_wp2
          go_round
          case rel => exact ⟨k + 1, by omega, by go_num, Hn⟩
          case measure => simp [intOf]; omega
        · have Hr := Lib.hid (Hb.out (fun h => h2 h.2))
          have e1 : decide ((s[k].toNat : Int) < 32) = false := decide_eq_false (by omega)
          have e2 : decide ((126 : Int) < (s[k].toNat : Int)) = true := decide_eq_true (by omega)
          clear Hg Hb
          go_wp2
          go_ret
          exact ⟨ret_bool Hr.out.symm, rfl⟩
      · have Hr := Lib.hid (Hb.out (fun h => h1 h.1))
        have e1 : decide ((s[k].toNat : Int) < 32) = true := decide_eq_true (by omega)
        clear Hg Hb
        go_wp2
        go_ret
        exact ⟨ret_bool Hr.out.symm, rfl⟩
    · by_cases h8 : 1 ≤ s.size ∧ s.size ≤ 50
      · have Hr := Lib.hid (txB_t (s := s) ⟨fun i hi => hh.out i hi (by omega), h8⟩)
        go_wp2_with (go_at_call 41; refine (spec_In_t _ _ _ _ (by omega) (by omega)).mono ?_; rintro e w' ⟨rfl, rfl⟩)
        go_ret
        exact ⟨ret_bool Hr.out.symm, rfl⟩
      · have Hr := Lib.hid (txB_f (s := s) (fun h => h8 h.2))
        go_wp2_with (go_at_call 41; refine (spec_In_f _ _ _ _ (by omega)).mono ?_; rintro e w' ⟨rfl, rfl⟩)
        go_ret
        exact ⟨ret_bool Hr.out.symm, rfl⟩
set_option maxRecDepth 100000 in
set_option maxHeartbeats 4000000 in
theorem spec_Plain (b o : Nat) (x : Ent) (w : World) (hc : ∀ j u, x.cells[j]? = some u → w.cell? ⟨b, o + j, none⟩ = some u) (hwf : x.wf) :
    Calls Tryz.prog 58 #[.pointer (some ⟨b, o, none⟩)] w fun e w' => e = .returned (.bool (plainB x)) ∧ w = w' := by
  have c0 := hc 0 _ rfl
  have c1 := hc 1 _ rfl
  have c2 := hc 2 _ rfl
  clear hc
  simp only [Nat.add_zero] at c0
  obtain ⟨-, hw1, hw2⟩ := hwf
  have HP : Hid (∀ h1 h2 h3, plainB x = true) ∧ True := ⟨Lib.hid (fun h1 h2 h3 => plainB_t (x := x) ⟨h1, h2, h3⟩), trivial⟩
  obtain ⟨HP, -⟩ := HP
  have HF := Lib.hid (fun h => plainB_f (x := x) h)
  have hN := fun w' => spec_IsName x.who w' hw1
  have hT := fun w' => spec_Text x.what w' hw2
  unfold Ent.plain at HF
  obtain ⟨x0, x1, x2⟩ := x
  dsimp only at *
  by_cases h0 : 0 ≤ x0 ∧ x0 ≤ 1000000
  · obtain ⟨h0a, h0b⟩ := h0
    by_cases h1 : isNm x1
    · rw [nmB_t h1] at hN
      have HN := Lib.hid hN
      by_cases h2 : txOk x2
      · have Hr := Lib.hid (HP.out ⟨h0a, h0b⟩ h1 h2)
        rw [txB_t h2] at hT
        have HT := Lib.hid hT
        clear hN hT HP HF h1 h2
        go_enter Tryz.func58, Tryz.ntmps58
        go_wp2_with (first | (go_at_call 41; refine (spec_In_t _ _ _ _ (by omega) (by omega)).mono ?_; rintro e w' ⟨rfl, rfl⟩) | (go_at_call 72; refine (HN.out _).mono ?_; rintro e w' ⟨rfl, rfl⟩) | (go_at_call 73; refine (HT.out _).mono ?_; rintro e w' ⟨rfl, rfl⟩))
        go_ret
        exact ⟨ret_bool Hr.out.symm, rfl⟩
      · have Hr := Lib.hid (HF.out (fun h => h2 h.2.2))
        rw [txB_f h2] at hT
        have HT := Lib.hid hT
        clear hN hT HP HF h1 h2
        go_enter Tryz.func58, Tryz.ntmps58
        go_wp2_with (first | (go_at_call 41; refine (spec_In_t _ _ _ _ (by omega) (by omega)).mono ?_; rintro e w' ⟨rfl, rfl⟩) | (go_at_call 72; refine (HN.out _).mono ?_; rintro e w' ⟨rfl, rfl⟩) | (go_at_call 73; refine (HT.out _).mono ?_; rintro e w' ⟨rfl, rfl⟩))
        go_ret
        exact ⟨ret_bool Hr.out.symm, rfl⟩
    · have Hr := Lib.hid (HF.out (fun h => h1 h.2.1))
      rw [nmB_f h1] at hN
      have HN := Lib.hid hN
      clear hN hT HP HF h1
      go_enter Tryz.func58, Tryz.ntmps58
      go_wp2_with (first | (go_at_call 41; refine (spec_In_t _ _ _ _ (by omega) (by omega)).mono ?_; rintro e w' ⟨rfl, rfl⟩) | (go_at_call 72; refine (HN.out _).mono ?_; rintro e w' ⟨rfl, rfl⟩))
      go_ret
      exact ⟨ret_bool Hr.out.symm, rfl⟩
  · have Hr := Lib.hid (HF.out (fun h => h0 h.1))
    clear hN hT HP HF
    go_enter Tryz.func58, Tryz.ntmps58
    go_wp2_with (first | (go_at_call 41; refine (spec_In_f _ _ _ _ (by omega)).mono ?_; rintro e w' ⟨rfl, rfl⟩))
    go_ret
    exact ⟨ret_bool Hr.out.symm, rfl⟩
end Go.Proofs.YtjjibdjliejcfaaGreatDoor
