/- The log: plain entries, the program. -/
import Derived.Test.YtjjibdjliejcfaaGreatDoorLgP
namespace Go.Proofs.YtjjibdjliejcfaaGreatDoor
open Go.RowKit
set_option maxRecDepth 100000 in
set_option maxHeartbeats 8000000 in
theorem impl_Plain (x : Ent) (w : World) (hwf : x.wf) : Calls Tryz.prog 61 #[.agg x.cells.toArray] w fun e w' => e = .returned (.bool (plainB x)) ∧ Below w.heap.size w w' := by
  obtain ⟨-, hw1, hw2⟩ := hwf
  have HP := Lib.hid (fun h1 h2 h3 => plainB_t (x := x) ⟨h1, h2, h3⟩)
  have HF := Lib.hid (fun h => plainB_f (x := x) h)
  have hN := fun w' => impl_IsName x.who w' hw1
  unfold Ent.plain at HF
  obtain ⟨x0, s1, s⟩ := x
  simp only [Ent.cells] at *
  unfold maxLen at hw2
  have hba : Below w.heap.size w (w.alloc (.cells #[.int .i64 x0, .string s1, .string s] 48)) := (Below.refl _ _).alloc (Nat.le_refl _) _
  have eA : (w.alloc (.cells #[.int .i64 x0, .string s1, .string s] 48)).heap[w.heap.size]? = some (.cells #[.int .i64 x0, .string s1, .string s] 48) := Array.getElem?_push_size
  obtain ⟨WA, hWA⟩ : ∃ WA, w.alloc (.cells #[.int .i64 x0, .string s1, .string s] 48) = WA := ⟨_, rfl⟩
  rw [hWA] at hba eA
  have HWA := Lib.hid hWA
  have c0 : WA.cell? ⟨w.heap.size, 0, none⟩ = some (.int .i64 x0) := by rw [Lib.cell_of_heap eA]; rfl
  have c1 : WA.cell? ⟨w.heap.size, 1, none⟩ = some (.string s1) := by rw [Lib.cell_of_heap eA]; rfl
  have c2 : WA.cell? ⟨w.heap.size, 2, none⟩ = some (.string s) := by rw [Lib.cell_of_heap eA]; rfl
  have HB := Lib.hid hba
  clear hWA hba eA
  go_enter Tryz.func61, Tryz.ntmps61
  go_wp2
  rw [HWA.out]
  go_loop [7] (fun i => ∃ k : Nat, k ≤ s.size ∧ i = .int .i64 k ∧ Hid (∀ j (h : j < s.size), j < k → txCh s[j])) (fun i => s.size - (intOf i).toNat)
  case atStart => exact ⟨0, Nat.zero_le _, rfl, Lib.hid (fun _ _ h => absurd h (by omega))⟩
  case round =>
    obtain ⟨k, hk, rfl, hh⟩ := hrel
    by_cases hlt : k < s.size
    · have Hg : Hid (txCh s[k] → ∀ j (h : j < s.size), j < k + 1 → txCh s[j]) := Lib.hid (fun h j hj hjk => by
        by_cases e : j < k
        · exact hh.out j hj e
        · have : j = k := by omega
          subst this; exact h)
      have Hb : Hid (¬ txCh s[k] → plainB ⟨x0, s1, s⟩ = false) := Lib.hid (fun h => HF.out (fun hn => h (hn.2.2.1 k hlt)))
      have hc : s[k].toNat < 256 := s[k].toNat_lt
      by_cases h1 : 32 ≤ s[k].toNat
      · by_cases h2 : s[k].toNat ≤ 126
        · have Hn := Lib.hid (Hg.out ⟨h1, h2⟩)
          have e1 : decide ((s[k].toNat : Int) < 32) = false := decide_eq_false (by omega)
          have e2 : decide ((126 : Int) < (s[k].toNat : Int)) = false := decide_eq_false (by omega)
          clear Hg Hb
          go_wp2
          go_round
          case rel => exact ⟨k + 1, by omega, by go_num, Hn⟩
          case measure => simp [intOf]; omega
        · have Hr := Lib.hid (Hb.out (fun h => h2 h.2))
          have e1 : decide ((s[k].toNat : Int) < 32) = false := decide_eq_false (by omega)
          have e2 : decide ((126 : Int) < (s[k].toNat : Int)) = true := decide_eq_true (by omega)
          clear Hg Hb
          go_wp2
          go_ret
          exact ⟨ret_bool Hr.out.symm, HB.out⟩
      · have Hr := Lib.hid (Hb.out (fun h => h1 h.1))
        have e1 : decide ((s[k].toNat : Int) < 32) = true := decide_eq_true (by omega)
        clear Hg Hb
        go_wp2
        go_ret
        exact ⟨ret_bool Hr.out.symm, HB.out⟩
    · have Hall : Hid (∀ i (h : i < s.size), txCh s[i]) := Lib.hid (fun i hi => hh.out i hi (by omega))
      by_cases h0 : 0 ≤ x0 ∧ x0 ≤ 1000000
      · obtain ⟨h0a, h0b⟩ := h0
        by_cases h1 : isNm s1
        · rw [nmB_t h1] at hN
          have HN := Lib.hid hN
          by_cases h2 : 1 ≤ s.size
          · by_cases h3 : s.size ≤ 50
            · have Hr := Lib.hid (HP.out ⟨h0a, h0b⟩ h1 ⟨Hall.out, h2, h3⟩)
              clear hN HP HF h1
              go_wp2_with (first | (go_at_call 44; refine (impl_within_t _ _ _ _ (by omega) (by omega)).mono ?_; rintro e w' ⟨rfl, rfl⟩) | (go_at_call 75; refine (HN.out _).mono ?_; rintro e w' ⟨rfl, rfl⟩))
              go_ret
              exact ⟨ret_bool (by first | exact Hr.out.symm | (rw [Hr.out]; simp; done) | (rw [Hr.out]; simp; omega)), HB.out⟩
            · have Hr := Lib.hid (HF.out (fun h => h3 h.2.2.2.2))
              clear hN HP HF h1
              go_wp2_with (first | (go_at_call 44; refine (impl_within_t _ _ _ _ (by omega) (by omega)).mono ?_; rintro e w' ⟨rfl, rfl⟩) | (go_at_call 75; refine (HN.out _).mono ?_; rintro e w' ⟨rfl, rfl⟩))
              go_ret
              exact ⟨ret_bool (by first | exact Hr.out.symm | (rw [Hr.out]; simp; done) | (rw [Hr.out]; simp; omega)), HB.out⟩
          · have Hr := Lib.hid (HF.out (fun h => h2 h.2.2.2.1))
            clear hN HP HF h1
            go_wp2_with (first | (go_at_call 44; refine (impl_within_t _ _ _ _ (by omega) (by omega)).mono ?_; rintro e w' ⟨rfl, rfl⟩) | (go_at_call 75; refine (HN.out _).mono ?_; rintro e w' ⟨rfl, rfl⟩))
            go_ret
            exact ⟨ret_bool (by first | exact Hr.out.symm | (rw [Hr.out]; simp; done) | (rw [Hr.out]; simp; omega)), HB.out⟩
        · have Hr := Lib.hid (HF.out (fun h => h1 h.2.1))
          rw [nmB_f h1] at hN
          have HN := Lib.hid hN
          clear hN HP HF h1
          go_wp2_with (first | (go_at_call 44; refine (impl_within_t _ _ _ _ (by omega) (by omega)).mono ?_; rintro e w' ⟨rfl, rfl⟩) | (go_at_call 75; refine (HN.out _).mono ?_; rintro e w' ⟨rfl, rfl⟩))
          go_ret
          exact ⟨ret_bool Hr.out.symm, HB.out⟩
      · have Hr := Lib.hid (HF.out (fun h => h0 h.1))
        clear hN HP HF
        go_wp2_with (first | (go_at_call 44; refine (impl_within_f _ _ _ _ (by omega)).mono ?_; rintro e w' ⟨rfl, rfl⟩))
        go_ret
        exact ⟨ret_bool Hr.out.symm, HB.out⟩
end Go.Proofs.YtjjibdjliejcfaaGreatDoor
