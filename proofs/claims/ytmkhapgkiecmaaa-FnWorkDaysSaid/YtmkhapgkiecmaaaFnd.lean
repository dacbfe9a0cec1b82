/- Findings: validity. -/
import Derived.Test.YtmkhapgkiecmaaaTFinding
import Derived.Test.YtmkhapgkiecmaaaBasic
namespace Go.Proofs.Ytmkhapgkiecmaaa
open Go.RowKit

def Fnd.ok (f : Fnd) : Prop :=
  0 ≤ f.crane ∧ f.crane ≤ 5 ∧ 0 ≤ f.day ∧ f.day ≤ 100000 ∧ 1 ≤ f.grade ∧ f.grade ≤ 3 ∧ (f.closed = -1 ∨ f.day ≤ f.closed ∧ f.closed ≤ 100000)
instance (f : Fnd) : Decidable f.ok := by unfold Fnd.ok; infer_instance
def fndsB (l : List Fnd) : Bool := l.all (fun f => decide f.ok) && decide (l.length ≤ 60)

theorem Fnd.cases (x : Fnd) : (x.ok ∧ (0 ≤ x.crane ∧ x.crane ≤ 5) ∧ (0 ≤ x.day ∧ x.day ≤ 100000) ∧ (1 ≤ x.grade ∧ x.grade ≤ 3) ∧ (x.day ≤ x.closed ∧ x.closed ≤ 100000) ∧ (x.closed != -1) = true ∧ (x.closed == -1) = false) ∨
    (x.ok ∧ (0 ≤ x.crane ∧ x.crane ≤ 5) ∧ (0 ≤ x.day ∧ x.day ≤ 100000) ∧ (1 ≤ x.grade ∧ x.grade ≤ 3) ∧ (x.closed != -1) = false ∧ (x.closed == -1) = true) ∨
    (¬ x.ok ∧ ¬ (0 ≤ x.crane ∧ x.crane ≤ 5)) ∨ (¬ x.ok ∧ (0 ≤ x.crane ∧ x.crane ≤ 5) ∧ ¬ (0 ≤ x.day ∧ x.day ≤ 100000)) ∨
    (¬ x.ok ∧ (0 ≤ x.crane ∧ x.crane ≤ 5) ∧ (0 ≤ x.day ∧ x.day ≤ 100000) ∧ ¬ (1 ≤ x.grade ∧ x.grade ≤ 3)) ∨
    (¬ x.ok ∧ (0 ≤ x.crane ∧ x.crane ≤ 5) ∧ (0 ≤ x.day ∧ x.day ≤ 100000) ∧ (1 ≤ x.grade ∧ x.grade ≤ 3) ∧ ¬ (x.day ≤ x.closed ∧ x.closed ≤ 100000) ∧ (x.closed != -1) = true ∧ (x.closed == -1) = false) := by
  simp only [Fnd.ok, bne_iff_ne, ne_eq, bne_eq_false_iff_eq, beq_iff_eq, beq_eq_false_iff_ne]
  omega

set_option maxHeartbeats 1000000 in
theorem spec_l26Found (v : Value) (l : List Fnd) (lo hi : Nat) (w : World) (h : Fnds lo hi w v l) :
    Calls Try.prog 50 #[v] w fun e w' => e = .returned (.bool (fndsB l)) ∧ Below w.heap.size w w' := by
  have hsl := h
  obtain ⟨a, cap, rfl, hlen, hh⟩ := h
  clear hh
  go_enter Try.func50, Try.ntmps50
  go_wp2
  go_loopw [3] (fun i wr => ∃ k : Nat, k ≤ l.length ∧ i = .int .i64 k ∧ Below w.heap.size w wr ∧ Hid ((l.take k).all (fun f => decide f.ok) = true)) (fun i _ => l.length - (intOf i).toNat)
  case atStart => exact ⟨0, Nat.zero_le _, rfl, Below.refl _ _, Lib.hid rfl⟩
  case round =>
    obtain ⟨k, hk, rfl, hB, hall⟩ := hrel
    by_cases hlt : k < l.length
    · obtain ⟨a', cap', hv, _, hh⟩ := hsl.ext hB
      cases hv
      obtain ⟨b, off, rfl, _, _, hc⟩ := hh (by omega)
      obtain ⟨c0, c1, c2, c3⟩ := Fnds.at hc hlt
      clear hc hh hsl
      have Hg := Lib.hid (all_take_succ (p := fun f : Fnd => decide f.ok) hlt hall.out)
      have Hb := Lib.hid (all_false (p := fun f : Fnd => decide f.ok) hlt)
      generalize l[k] = x at *
      have Hx := Lib.hid (Fnd.cases x)
      rcases Hx.out with ⟨hok, ⟨_, _⟩, ⟨_, _⟩, ⟨_, _⟩, ⟨_, _⟩, _, _⟩ | ⟨hok, ⟨_, _⟩, ⟨_, _⟩, ⟨_, _⟩, _, _⟩ | ⟨hok, _⟩ | ⟨hok, ⟨_, _⟩, _⟩ | ⟨hok, ⟨_, _⟩, ⟨_, _⟩, _⟩ | ⟨hok, ⟨_, _⟩, ⟨_, _⟩, ⟨_, _⟩, _, _, _⟩
      iterate 2
        · have Hd := Lib.hid (Hg.out (decide_eq_true hok))
          clear hok
          go_wp2_with (first | (go_at_call 56; first | (refine (spec_In_t _ _ _ _ (by omega) (by omega)).mono ?_; rintro e w' ⟨rfl, rfl⟩) | (refine (spec_In_f _ _ _ _ (by omega)).mono ?_; rintro e w' ⟨rfl, rfl⟩)) | (go_at_call 51; first | (refine (spec_Day_t _ _ (by omega) (by omega)).mono ?_; rintro e w' ⟨rfl, rfl⟩) | (refine (spec_Day_f _ _ (by omega)).mono ?_; rintro e w' ⟨rfl, rfl⟩)) | go_quiet ((go_at_call 56; first | exact Calls.quiet_of_same (Calls.turn (spec_In_t _ _ _ _ (by omega) (by omega))) | exact Calls.quiet_of_same (Calls.turn (spec_In_f _ _ _ _ (by omega))))))
          go_roundw
          case rel => exact ⟨k + 1, by omega, by go_num, below_dN hB _, Hd⟩
          case measure => simp [intOf]; omega
      all_goals
        have Hd : Hid (fndsB l = false) := Lib.hid (by unfold fndsB; rw [Hb.out (decide_eq_false hok)]; rfl)
        clear hok
        go_wp2_with (first | (go_at_call 56; first | (refine (spec_In_t _ _ _ _ (by omega) (by omega)).mono ?_; rintro e w' ⟨rfl, rfl⟩) | (refine (spec_In_f _ _ _ _ (by omega)).mono ?_; rintro e w' ⟨rfl, rfl⟩)) | (go_at_call 51; first | (refine (spec_Day_t _ _ (by omega) (by omega)).mono ?_; rintro e w' ⟨rfl, rfl⟩) | (refine (spec_Day_f _ _ (by omega)).mono ?_; rintro e w' ⟨rfl, rfl⟩)) | go_quiet ((go_at_call 56; first | exact Calls.quiet_of_same (Calls.turn (spec_In_t _ _ _ _ (by omega) (by omega))) | exact Calls.quiet_of_same (Calls.turn (spec_In_f _ _ _ _ (by omega))))))
        go_ret
        rw [Hd.out]; exact ⟨rfl, by first | exact hB | exact below_dN hB _⟩
    · have Hd := Lib.hid (all_take_end hlt hall.out)
      go_wp2
      go_ret
      exact ⟨ret_bool (by unfold fndsB; rw [Hd.out]; simp; omega), hB⟩

theorem spec_ValidFindings (v : Value) (l : List Fnd) (lo hi : Nat) (w : World) (h : Fnds lo hi w v l) :
    Calls Try.prog 20 #[v] w fun e w' => e = .returned (.bool (fndsB l)) ∧ Below w.heap.size w w' := by
  have h' := h
  obtain ⟨a, cap, rfl, hlen, hh⟩ := h
  clear hh
  go_enter Try.func20, Try.ntmps20
  go_wp2_with fail
  refine (spec_l26Found _ l lo hi w h').mono ?_
  rintro e w1 ⟨rfl, hb1⟩
  go_wp2
  go_ret
  exact ⟨rfl, hb1⟩

set_option maxHeartbeats 1000000 in
theorem impl_ValidFindings1 (i : Int) (x : Fnd) (w : World) :
    Calls Try.prog 58 #[.int .i64 i, .agg x.cells.toArray] w fun e w' => e = .returned (.bool (decide x.ok)) ∧ Below w.heap.size w w' := by
  have Hx := Lib.hid (Fnd.cases x)
  rcases Hx.out with ⟨hok, ⟨_, _⟩, ⟨_, _⟩, ⟨_, _⟩, ⟨_, _⟩, _, _⟩ | ⟨hok, ⟨_, _⟩, ⟨_, _⟩, ⟨_, _⟩, _, _⟩ | ⟨hok, _⟩ | ⟨hok, ⟨_, _⟩, _⟩ | ⟨hok, ⟨_, _⟩, ⟨_, _⟩, _⟩ | ⟨hok, ⟨_, _⟩, ⟨_, _⟩, ⟨_, _⟩, _, _, _⟩
  all_goals
    first | rw [decide_eq_true hok] | rw [decide_eq_false hok]
    clear hok
    simp only [Fnd.cells]
    go_enter Try.func58, Try.ntmps58
    go_wp2_with (first | (go_at_call 59; first | (refine (impl_within_t _ _ _ _ (by omega) (by omega)).mono ?_; rintro e w' ⟨rfl, rfl⟩) | (refine (impl_within_f _ _ _ _ (by omega)).mono ?_; rintro e w' ⟨rfl, rfl⟩)) | (go_at_call 48; first | (refine (impl_isDay_t _ _ (by omega) (by omega)).mono ?_; rintro e w' ⟨rfl, rfl⟩) | (refine (impl_isDay_f _ _ (by omega)).mono ?_; rintro e w' ⟨rfl, rfl⟩)))
    go_ret
    exact ⟨rfl, (Below.refl _ _).alloc (Nat.le_refl _) _⟩

set_option maxHeartbeats 1000000 in
theorem impl_validated_Finding (v : Value) (l : List Fnd) (lo hi : Nat) (w : World) (h : Fnds lo hi w v l) :
    Calls Try.prog 57 #[v, .int .i64 60, .func (.func 58) #[] #[]] w fun e w' => e = .returned (.bool (fndsB l)) ∧ Below w.heap.size w w' := by
  have hsl := h
  obtain ⟨a, cap, rfl, hlen, hh⟩ := h
  clear hh
  go_enter Try.func57, Try.ntmps57
  go_wp2
  go_loopw [11] (fun i wr => ∃ k : Nat, k ≤ l.length ∧ i = .int .i64 k ∧ Below w.heap.size w wr ∧ Hid ((l.take k).all (fun f => decide f.ok) = true)) (fun i _ => l.length - (intOf i).toNat)
  case atStart => exact ⟨0, Nat.zero_le _, rfl, Below.refl _ _, Lib.hid rfl⟩
  case round =>
    obtain ⟨k, hk, rfl, hB, hall⟩ := hrel
    by_cases hlt : k < l.length
    · obtain ⟨a', cap', hv, _, hh⟩ := hsl.ext hB
      cases hv
      obtain ⟨b, off, rfl, _, _, hc⟩ := hh (by omega)
      obtain ⟨c0, c1, c2, c3⟩ := Fnds.at hc hlt
      clear hc hh hsl
      have Hg := Lib.hid (all_take_succ (p := fun f : Fnd => decide f.ok) hlt hall.out)
      have Hb := Lib.hid (all_false (p := fun f : Fnd => decide f.ok) hlt)
      have hbs := hB.size
      generalize l[k] = x at *
      have hw := impl_ValidFindings1 k x
      simp only [Fnd.cells] at hw
      by_cases hok : x.ok
      · have Hd := Lib.hid (Hg.out (decide_eq_true hok))
        rw [decide_eq_true hok] at hw
        have Hw := Lib.hid hw
        clear hok hw
        go_wp2_with (go_at_call 58; refine (Hw.out _).mono ?_; rintro e w1 ⟨rfl, hb1⟩)
        go_roundw
        case rel => exact ⟨k + 1, by omega, by go_num, (hB.alloc hbs _).trans (hb1.mono (by simp; omega)), Hd⟩
        case measure => simp [intOf]; omega
      · have Hd : Hid (fndsB l = false) := Lib.hid (by unfold fndsB; rw [Hb.out (decide_eq_false hok)]; rfl)
        rw [decide_eq_false hok] at hw
        have Hw := Lib.hid hw
        clear hok hw
        go_wp2_with (go_at_call 58; refine (Hw.out _).mono ?_; rintro e w1 ⟨rfl, hb1⟩)
        go_ret
        rw [Hd.out]; exact ⟨rfl, (hB.alloc hbs _).trans (hb1.mono (by simp; omega))⟩
    · have Hd := Lib.hid (all_take_end hlt hall.out)
      go_wp2
      go_ret
      exact ⟨ret_bool (by unfold fndsB; rw [Hd.out]; simp; omega), hB⟩

theorem impl_ValidFindings (v : Value) (l : List Fnd) (lo hi : Nat) (w : World) (h : Fnds lo hi w v l) :
    Calls Try.prog 19 #[v] w fun e w' => e = .returned (.bool (fndsB l)) ∧ Below w.heap.size w w' := by
  have h' := h
  obtain ⟨a, cap, rfl, hlen, hh⟩ := h
  clear hh
  go_enter Try.func19, Try.ntmps19
  go_wp2_with fail
  refine (impl_validated_Finding _ l lo hi w h').mono ?_
  rintro e w1 ⟨rfl, hb1⟩
  go_wp2
  go_ret
  exact ⟨rfl, hb1⟩
end Go.Proofs.Ytmkhapgkiecmaaa
