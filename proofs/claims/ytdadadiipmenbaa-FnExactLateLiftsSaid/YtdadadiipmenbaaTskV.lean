/- Valid tasks, in both packages. -/
import Derived.Test.YtdadadiipmenbaaTsk
import Derived.Handy
namespace Go.Proofs.Ytdadadiipmenbaa
open Go.RowKit
theorem getD_get {l : List Tsk} {k : Nat} (h : k < l.length) : l.getD k default = l[k] := by rw [List.getD_eq_getElem?_getD, List.getElem?_eq_getElem h]; rfl
set_option maxRecDepth 100000 in
set_option maxHeartbeats 4000000 in
theorem spec_TasksOk (v : Value) (l : List Tsk) (lo hi : Nat) (w : World) (h : Tsks lo hi w v l) :
    Calls Try.prog 49 #[v] w fun e w' => e = .returned (.bool (tsksB l)) ∧ Below w.heap.size w w' := by
  have hsl := h
  obtain ⟨a, cap, rfl, hlen, hh⟩ := h
  clear hh
  go_enter Try.func49, Try.ntmps49
  go_wp2
  go_loopw [3] (fun i wr => ∃ k : Nat, k ≤ l.length ∧ i = .int .i64 k ∧ Below w.heap.size w wr ∧ Hid (∀ i, i < k → rowT l i)) (fun i _ => l.length - (intOf i).toNat)
  case atStart => exact ⟨0, Nat.zero_le _, rfl, Below.refl _ _, Lib.hid (fun i h => absurd h (by omega))⟩
  case round =>
    obtain ⟨k, hk, rfl, hB, hall⟩ := hrel
    by_cases hlt : k < l.length
    · obtain ⟨b, off, rfl⟩ := hsl.addr (by omega)
      have hs := hsl.ext hB
      obtain ⟨c0, c1, c2, c3⟩ := Tsks.at hs.get hlt
      have hO := Lib.hid (fun n => spec_TOne b (off + k * 4) l[k] (wr.drewN n) c0 c1 c2 c3)
      have hbad := Lib.hid (fun h => tsks_bad (l := l) hlt h)
      have hgd := Lib.hid (getD_get hlt)
      by_cases h0 : k = 0
      · subst h0
        clear hsl hs
        by_cases hok : l[0].ok
        · have hO2 := hO.out
          rw [decide_eq_true hok] at hO2
          have HO := Lib.hid hO2
          have Hn : Hid (∀ i, i < 0 + 1 → rowT l i) := Lib.hid (fun i hi => by
            obtain rfl : i = 0 := by omega
            exact ⟨by rw [hgd.out]; exact hok, fun h => absurd h (by omega)⟩)
          clear hO hO2 hok c0 c1 c2 c3
          go_wp2_with (go_quiet (first | (go_at_call 75; exact Calls.quiet_of (HO.out _))))
          all_goals
            go_roundw
            case rel => exact ⟨0 + 1, by omega, by go_num, below_dN hB _, Hn⟩
            case measure => simp [intOf]; omega
        · have hO2 := hO.out
          rw [decide_eq_false hok] at hO2
          have HO := Lib.hid hO2
          have Hd := Lib.hid (hbad.out (fun h => hok (by rw [← hgd.out]; exact h.1)))
          clear hO hO2 hok c0 c1 c2 c3
          go_wp2_with (go_quiet (first | (go_at_call 75; exact Calls.quiet_of (HO.out _))))
          all_goals
            go_ret
            rw [Hd.out]; exact ⟨rfl, below_dN hB _⟩
      · obtain ⟨j, rfl⟩ : ∃ j, k = j + 1 := ⟨k - 1, by omega⟩
        have hjt : j < l.length := by omega
        obtain ⟨d0, d1, d2, d3⟩ := Tsks.at hs.get hjt
        have hP := Lib.hid (fun n => spec_TBefore b (off + j * 4) b (off + (j + 1) * 4) l[j] l[j + 1] (wr.drewN n) d0 d1 d2 c0 c1 c2)
        have hgj := Lib.hid (getD_get hjt)
        have hsub : IntKind.i64.wrap (((j + 1 : Nat) : Int) - 1) = (j : Int) := by rw [show ((j + 1 : Nat) : Int) - 1 = (j : Int) by omega]; exact IntWalk.i64_in _ (by have := hlen.1; have := hlen.2; omega)
        have hjp : decide ((0 : Int) < ((j + 1 : Nat) : Int)) = true := decide_eq_true (by omega)
        clear hsl hs c0 c1 c2 c3 d0 d1 d2 d3 h0
        by_cases hok : l[j + 1].ok
        · by_cases hbf : bef l[j] l[j + 1]
          · have hO2 := hO.out
            have hP2 := hP.out
            rw [decide_eq_true hok] at hO2
            rw [decide_eq_true hbf] at hP2
            have HO := Lib.hid hO2
            have HP := Lib.hid hP2
            have Hn : Hid (∀ i, i < j + 1 + 1 → rowT l i) := Lib.hid (fun i hi => by
              by_cases h : i = j + 1
              · subst h
                exact ⟨by rw [hgd.out]; exact hok, fun _ => by rw [hgd.out, show j + 1 - 1 = j from rfl, hgj.out]; exact hbf⟩
              · exact hall.out i (by omega))
            clear hO hO2 hok hP hP2 hbf
            go_wp2_with (go_quiet (first | (go_at_call 75; exact Calls.quiet_of (HO.out _)) | (go_at_call 76; exact Calls.quiet_of (HP.out _))))
            all_goals
              go_roundw
              case rel => exact ⟨j + 1 + 1, by omega, by go_num, below_dN hB _, Hn⟩
              case measure => simp [intOf]; omega
          · have hO2 := hO.out
            have hP2 := hP.out
            rw [decide_eq_true hok] at hO2
            rw [decide_eq_false hbf] at hP2
            have HO := Lib.hid hO2
            have HP := Lib.hid hP2
            have Hd := Lib.hid (hbad.out (fun h => hbf (by have := h.2 (by omega); rw [hgd.out, show j + 1 - 1 = j from rfl, hgj.out] at this; exact this)))
            clear hO hO2 hok hP hP2 hbf
            go_wp2_with (go_quiet (first | (go_at_call 75; exact Calls.quiet_of (HO.out _)) | (go_at_call 76; exact Calls.quiet_of (HP.out _))))
            all_goals
              go_ret
              rw [Hd.out]; exact ⟨rfl, below_dN hB _⟩
        · have hO2 := hO.out
          rw [decide_eq_false hok] at hO2
          have HO := Lib.hid hO2
          have Hd := Lib.hid (hbad.out (fun h => hok (by rw [← hgd.out]; exact h.1)))
          clear hO hO2 hok hP
          go_wp2_with (go_quiet (first | (go_at_call 75; exact Calls.quiet_of (HO.out _))))
          all_goals
            go_ret
            rw [Hd.out]; exact ⟨rfl, below_dN hB _⟩
    · obtain rfl : k = l.length := by omega
      have He := Lib.hid (tsks_end hall.out)
      go_wp2
      go_ret
      exact ⟨ret_bool (by rw [He.out, decide_eq_decide]; omega), hB⟩
set_option maxHeartbeats 4000000 in
theorem impl_timeOk (x : Tsk) (w : World) : Calls Try.prog 98 #[.agg x.cells.toArray] w fun e w' => e = .returned (.bool (decide ((0 ≤ x.start ∧ x.start ≤ x.fin) ∧ x.fin ≤ 1000000))) ∧ Below w.heap.size w w' := by
  have hcs : (decide ((0 ≤ x.start ∧ x.start ≤ x.fin) ∧ x.fin ≤ 1000000) = true ∧ decide (0 ≤ x.start) = true ∧ decide (x.start ≤ x.fin) = true ∧ decide (x.fin ≤ 1000000) = true) ∨ (decide ((0 ≤ x.start ∧ x.start ≤ x.fin) ∧ x.fin ≤ 1000000) = false ∧ decide (0 ≤ x.start) = false) ∨
      (decide ((0 ≤ x.start ∧ x.start ≤ x.fin) ∧ x.fin ≤ 1000000) = false ∧ decide (0 ≤ x.start) = true ∧ decide (x.start ≤ x.fin) = false) ∨ (decide ((0 ≤ x.start ∧ x.start ≤ x.fin) ∧ x.fin ≤ 1000000) = false ∧ decide (0 ≤ x.start) = true ∧ decide (x.start ≤ x.fin) = true ∧ decide (x.fin ≤ 1000000) = false) := by
    simp only [decide_eq_true_eq, decide_eq_false_iff_not]; omega
  obtain ⟨x0, x1, x2, x3⟩ := x
  simp only [Tsk.cells] at *
  rcases hcs with ⟨h, _, _, _⟩ | ⟨h, _⟩ | ⟨h, _, _⟩ | ⟨h, _, _, _⟩
  all_goals
    rw [h]
    clear h
    go_enter Try.func98, Try.ntmps98
    go_wp2
    go_ret
    exact ⟨rfl, (Below.refl _ _).alloc (Nat.le_refl _) _⟩
set_option maxHeartbeats 4000000 in
theorem impl_TValid (x : Tsk) (w : World) : Calls Try.prog 77 #[.agg x.cells.toArray] w fun e w' => e = .returned (.bool (decide x.ok)) ∧ Below w.heap.size w w' := by
  have hT := fun w' => impl_timeOk x w'
  have hcs : (decide x.ok = decide ((0 ≤ x.start ∧ x.start ≤ x.fin) ∧ x.fin ≤ 1000000) ∧ (0 ≤ x.lift ∧ x.lift ≤ 9) ∧ (0 ≤ x.crane ∧ x.crane ≤ 5)) ∨ (decide x.ok = false ∧ ¬ (0 ≤ x.lift ∧ x.lift ≤ 9)) ∨ (decide x.ok = false ∧ (0 ≤ x.lift ∧ x.lift ≤ 9) ∧ ¬ (0 ≤ x.crane ∧ x.crane ≤ 5)) := by
    by_cases h1 : 0 ≤ x.lift ∧ x.lift ≤ 9
    · by_cases h2 : 0 ≤ x.crane ∧ x.crane ≤ 5
      · exact .inl ⟨decide_eq_decide.2 (by unfold Tsk.ok; omega), h1, h2⟩
      · exact .inr (.inr ⟨decide_eq_false (fun h => h2 h.2.1), h1, h2⟩)
    · exact .inr (.inl ⟨decide_eq_false (fun h => h1 h.1), h1⟩)
  generalize decide ((0 ≤ x.start ∧ x.start ≤ x.fin) ∧ x.fin ≤ 1000000) = tb at *
  obtain ⟨x0, x1, x2, x3⟩ := x
  simp only [Tsk.cells] at *
  have HT := Lib.hid hT
  clear hT
  rcases hcs with ⟨h, ⟨_, _⟩, ⟨_, _⟩⟩ | ⟨h, _⟩ | ⟨h, ⟨_, _⟩, _⟩
  · rw [h]
    clear h
    go_enter Try.func77, Try.ntmps77
    go_wp2_with (first | (go_at_call 79; first | (refine (impl_within_t _ _ _ _ (by omega) (by omega)).mono ?_; rintro e w' ⟨rfl, rfl⟩) | (refine (impl_within_f _ _ _ _ (by omega)).mono ?_; rintro e w' ⟨rfl, rfl⟩)) | (go_at_call 98; refine (HT.out _).mono ?_; rintro e w2 ⟨rfl, hb2⟩))
    go_ret
    exact ⟨by simp, ((Below.refl w.heap.size w).alloc (Nat.le_refl _) _).trans (hb2.mono (by simp))⟩
  all_goals
    rw [h]
    clear h
    go_enter Try.func77, Try.ntmps77
    go_wp2_with (first | (go_at_call 79; first | (refine (impl_within_t _ _ _ _ (by omega) (by omega)).mono ?_; rintro e w' ⟨rfl, rfl⟩) | (refine (impl_within_f _ _ _ _ (by omega)).mono ?_; rintro e w' ⟨rfl, rfl⟩)))
    go_ret
    exact ⟨rfl, (Below.refl _ _).alloc (Nat.le_refl _) _⟩
end Go.Proofs.Ytdadadiipmenbaa
