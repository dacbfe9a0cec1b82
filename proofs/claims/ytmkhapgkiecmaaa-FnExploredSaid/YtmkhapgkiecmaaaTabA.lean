/- Watches and worlds: what is valid, in both packages. -/
import Derived.Test.YtmkhapgkiecmaaaTab
namespace Go.Proofs.Ytmkhapgkiecmaaa
open Go.RowKit
theorem spec_In_t (n a b : Int) (w : World) (h : a ≤ n) (h2 : n ≤ b) : Calls Try.prog 56 #[.int .i64 n, .int .i64 a, .int .i64 b] w fun e w' => e = .returned (.bool true) ∧ w = w' := by
  go_enter Try.func56, Try.ntmps56
  go_wp2
  go_ret; exact ⟨rfl, rfl⟩
theorem spec_In_f (n a b : Int) (w : World) (h : ¬ (a ≤ n ∧ n ≤ b)) : Calls Try.prog 56 #[.int .i64 n, .int .i64 a, .int .i64 b] w fun e w' => e = .returned (.bool false) ∧ w = w' := by
  by_cases h1 : a ≤ n
  · have h2 : ¬ n ≤ b := by omega
    clear h
    go_enter Try.func56, Try.ntmps56
    go_wp2
    go_ret; exact ⟨rfl, rfl⟩
  · clear h
    go_enter Try.func56, Try.ntmps56
    go_wp2
    go_ret; exact ⟨rfl, rfl⟩
theorem impl_within_t (n a b : Int) (w : World) (h : a ≤ n) (h2 : n ≤ b) : Calls Try.prog 59 #[.int .i64 n, .int .i64 a, .int .i64 b] w fun e w' => e = .returned (.bool true) ∧ w = w' := by
  go_enter Try.func59, Try.ntmps59
  go_wp2
  go_ret; exact ⟨rfl, rfl⟩
theorem impl_within_f (n a b : Int) (w : World) (h : ¬ (a ≤ n ∧ n ≤ b)) : Calls Try.prog 59 #[.int .i64 n, .int .i64 a, .int .i64 b] w fun e w' => e = .returned (.bool false) ∧ w = w' := by
  by_cases h1 : a ≤ n
  · have h2 : ¬ n ≤ b := by omega
    clear h
    go_enter Try.func59, Try.ntmps59
    go_wp2
    go_ret; exact ⟨rfl, rfl⟩
  · clear h
    go_enter Try.func59, Try.ntmps59
    go_wp2
    go_ret; exact ⟨rfl, rfl⟩
theorem spec_Dir_t (n : Int) (w : World) (h : 0 ≤ n) (h2 : n ≤ 23) : Calls Try.prog 71 #[.int .i64 n] w fun e w' => e = .returned (.bool true) ∧ w = w' := by
  go_enter Try.func71, Try.ntmps71
  go_wp2_with (first | (go_at_call 56; first | (refine (spec_In_t _ _ _ _ (by omega) (by omega)).mono ?_; rintro e w' ⟨rfl, rfl⟩) | (refine (spec_In_f _ _ _ _ (by omega)).mono ?_; rintro e w' ⟨rfl, rfl⟩)) | (go_at_call 59; first | (refine (impl_within_t _ _ _ _ (by omega) (by omega)).mono ?_; rintro e w' ⟨rfl, rfl⟩) | (refine (impl_within_f _ _ _ _ (by omega)).mono ?_; rintro e w' ⟨rfl, rfl⟩)))
  go_ret; exact ⟨rfl, rfl⟩
theorem spec_Dir_f (n : Int) (w : World) (h : ¬ (0 ≤ n ∧ n ≤ 23)) : Calls Try.prog 71 #[.int .i64 n] w fun e w' => e = .returned (.bool false) ∧ w = w' := by
  go_enter Try.func71, Try.ntmps71
  go_wp2_with (first | (go_at_call 56; first | (refine (spec_In_t _ _ _ _ (by omega) (by omega)).mono ?_; rintro e w' ⟨rfl, rfl⟩) | (refine (spec_In_f _ _ _ _ (by omega)).mono ?_; rintro e w' ⟨rfl, rfl⟩)) | (go_at_call 59; first | (refine (impl_within_t _ _ _ _ (by omega) (by omega)).mono ?_; rintro e w' ⟨rfl, rfl⟩) | (refine (impl_within_f _ _ _ _ (by omega)).mono ?_; rintro e w' ⟨rfl, rfl⟩)))
  go_ret; exact ⟨rfl, rfl⟩
theorem impl_isDirection_t (n : Int) (w : World) (h : 0 ≤ n) (h2 : n ≤ 23) : Calls Try.prog 61 #[.int .i64 n] w fun e w' => e = .returned (.bool true) ∧ w = w' := by
  go_enter Try.func61, Try.ntmps61
  go_wp2_with (first | (go_at_call 56; first | (refine (spec_In_t _ _ _ _ (by omega) (by omega)).mono ?_; rintro e w' ⟨rfl, rfl⟩) | (refine (spec_In_f _ _ _ _ (by omega)).mono ?_; rintro e w' ⟨rfl, rfl⟩)) | (go_at_call 59; first | (refine (impl_within_t _ _ _ _ (by omega) (by omega)).mono ?_; rintro e w' ⟨rfl, rfl⟩) | (refine (impl_within_f _ _ _ _ (by omega)).mono ?_; rintro e w' ⟨rfl, rfl⟩)))
  go_ret; exact ⟨rfl, rfl⟩
theorem impl_isDirection_f (n : Int) (w : World) (h : ¬ (0 ≤ n ∧ n ≤ 23)) : Calls Try.prog 61 #[.int .i64 n] w fun e w' => e = .returned (.bool false) ∧ w = w' := by
  go_enter Try.func61, Try.ntmps61
  go_wp2_with (first | (go_at_call 56; first | (refine (spec_In_t _ _ _ _ (by omega) (by omega)).mono ?_; rintro e w' ⟨rfl, rfl⟩) | (refine (spec_In_f _ _ _ _ (by omega)).mono ?_; rintro e w' ⟨rfl, rfl⟩)) | (go_at_call 59; first | (refine (impl_within_t _ _ _ _ (by omega) (by omega)).mono ?_; rintro e w' ⟨rfl, rfl⟩) | (refine (impl_within_f _ _ _ _ (by omega)).mono ?_; rintro e w' ⟨rfl, rfl⟩)))
  go_ret; exact ⟨rfl, rfl⟩
theorem spec_Trn_t (n : Int) (w : World) (h : -1 ≤ n) (h2 : n ≤ 1) : Calls Try.prog 80 #[.int .i64 n] w fun e w' => e = .returned (.bool true) ∧ w = w' := by
  go_enter Try.func80, Try.ntmps80
  go_wp2_with (first | (go_at_call 56; first | (refine (spec_In_t _ _ _ _ (by omega) (by omega)).mono ?_; rintro e w' ⟨rfl, rfl⟩) | (refine (spec_In_f _ _ _ _ (by omega)).mono ?_; rintro e w' ⟨rfl, rfl⟩)) | (go_at_call 59; first | (refine (impl_within_t _ _ _ _ (by omega) (by omega)).mono ?_; rintro e w' ⟨rfl, rfl⟩) | (refine (impl_within_f _ _ _ _ (by omega)).mono ?_; rintro e w' ⟨rfl, rfl⟩)))
  go_ret; exact ⟨rfl, rfl⟩
theorem spec_Trn_f (n : Int) (w : World) (h : ¬ (-1 ≤ n ∧ n ≤ 1)) : Calls Try.prog 80 #[.int .i64 n] w fun e w' => e = .returned (.bool false) ∧ w = w' := by
  go_enter Try.func80, Try.ntmps80
  go_wp2_with (first | (go_at_call 56; first | (refine (spec_In_t _ _ _ _ (by omega) (by omega)).mono ?_; rintro e w' ⟨rfl, rfl⟩) | (refine (spec_In_f _ _ _ _ (by omega)).mono ?_; rintro e w' ⟨rfl, rfl⟩)) | (go_at_call 59; first | (refine (impl_within_t _ _ _ _ (by omega) (by omega)).mono ?_; rintro e w' ⟨rfl, rfl⟩) | (refine (impl_within_f _ _ _ _ (by omega)).mono ?_; rintro e w' ⟨rfl, rfl⟩)))
  go_ret; exact ⟨rfl, rfl⟩
theorem impl_isTurn_t (n : Int) (w : World) (h : -1 ≤ n) (h2 : n ≤ 1) : Calls Try.prog 97 #[.int .i64 n] w fun e w' => e = .returned (.bool true) ∧ w = w' := by
  go_enter Try.func97, Try.ntmps97
  go_wp2_with (first | (go_at_call 56; first | (refine (spec_In_t _ _ _ _ (by omega) (by omega)).mono ?_; rintro e w' ⟨rfl, rfl⟩) | (refine (spec_In_f _ _ _ _ (by omega)).mono ?_; rintro e w' ⟨rfl, rfl⟩)) | (go_at_call 59; first | (refine (impl_within_t _ _ _ _ (by omega) (by omega)).mono ?_; rintro e w' ⟨rfl, rfl⟩) | (refine (impl_within_f _ _ _ _ (by omega)).mono ?_; rintro e w' ⟨rfl, rfl⟩)))
  go_ret; exact ⟨rfl, rfl⟩
theorem impl_isTurn_f (n : Int) (w : World) (h : ¬ (-1 ≤ n ∧ n ≤ 1)) : Calls Try.prog 97 #[.int .i64 n] w fun e w' => e = .returned (.bool false) ∧ w = w' := by
  go_enter Try.func97, Try.ntmps97
  go_wp2_with (first | (go_at_call 56; first | (refine (spec_In_t _ _ _ _ (by omega) (by omega)).mono ?_; rintro e w' ⟨rfl, rfl⟩) | (refine (spec_In_f _ _ _ _ (by omega)).mono ?_; rintro e w' ⟨rfl, rfl⟩)) | (go_at_call 59; first | (refine (impl_within_t _ _ _ _ (by omega) (by omega)).mono ?_; rintro e w' ⟨rfl, rfl⟩) | (refine (impl_within_f _ _ _ _ (by omega)).mono ?_; rintro e w' ⟨rfl, rfl⟩)))
  go_ret; exact ⟨rfl, rfl⟩

theorem Wtc.cases (v : Wtc) : (v.ok ∧ 0 ≤ v.margin ∧ v.margin ≤ 3 ∧ 0 ≤ v.lost ∧ v.lost ≤ 1) ∨ (¬ v.ok ∧ ¬ (0 ≤ v.margin ∧ v.margin ≤ 3)) ∨ (¬ v.ok ∧ 0 ≤ v.margin ∧ v.margin ≤ 3 ∧ ¬ (0 ≤ v.lost ∧ v.lost ≤ 1)) := by
  unfold Wtc.ok
  omega
theorem spec_Watch (v : Wtc) (w : World) : Calls Try.prog 95 #[.agg v.cells.toArray] w fun e w' => e = .returned (.bool (decide v.ok)) ∧ Below w.heap.size w w' := by
  have hc := v.cases
  obtain ⟨m, t⟩ := v
  simp only [Wtc.cells]
  rcases hc with ⟨h0, h1, h2, h3, h4⟩ | ⟨h0, h1⟩ | ⟨h0, h1, h2, h3⟩
  all_goals
    first | rw [decide_eq_true h0] | rw [decide_eq_false h0]
    clear h0
    dsimp only at *
    go_enter Try.func95, Try.ntmps95
    go_wp2_with (first | (go_at_call 56; first | (refine (spec_In_t _ _ _ _ (by omega) (by omega)).mono ?_; rintro e w' ⟨rfl, rfl⟩) | (refine (spec_In_f _ _ _ _ (by omega)).mono ?_; rintro e w' ⟨rfl, rfl⟩)) | (go_at_call 59; first | (refine (impl_within_t _ _ _ _ (by omega) (by omega)).mono ?_; rintro e w' ⟨rfl, rfl⟩) | (refine (impl_within_f _ _ _ _ (by omega)).mono ?_; rintro e w' ⟨rfl, rfl⟩)))
    go_ret
    exact ⟨rfl, (Below.refl _ _).alloc (Nat.le_refl _) _⟩
theorem impl_valid (v : Wtc) (w : World) : Calls Try.prog 68 #[.agg v.cells.toArray] w fun e w' => e = .returned (.bool (decide v.ok)) ∧ Below w.heap.size w w' := by
  have hc := v.cases
  obtain ⟨m, t⟩ := v
  simp only [Wtc.cells]
  rcases hc with ⟨h0, h1, h2, h3, h4⟩ | ⟨h0, h1⟩ | ⟨h0, h1, h2, h3⟩
  all_goals
    first | rw [decide_eq_true h0] | rw [decide_eq_false h0]
    clear h0
    dsimp only at *
    go_enter Try.func68, Try.ntmps68
    go_wp2_with (first | (go_at_call 56; first | (refine (spec_In_t _ _ _ _ (by omega) (by omega)).mono ?_; rintro e w' ⟨rfl, rfl⟩) | (refine (spec_In_f _ _ _ _ (by omega)).mono ?_; rintro e w' ⟨rfl, rfl⟩)) | (go_at_call 59; first | (refine (impl_within_t _ _ _ _ (by omega) (by omega)).mono ?_; rintro e w' ⟨rfl, rfl⟩) | (refine (impl_within_f _ _ _ _ (by omega)).mono ?_; rintro e w' ⟨rfl, rfl⟩)))
    go_ret
    exact ⟨rfl, (Below.refl _ _).alloc (Nat.le_refl _) _⟩

theorem seen_cases (v : Wtc) (a s g : Int) : (¬ SeenOk v a s g ∧ ¬ (0 ≤ a ∧ a ≤ 23)) ∨ (¬ SeenOk v a s g ∧ 0 ≤ a ∧ a ≤ 23 ∧ ¬ (0 ≤ s ∧ s ≤ 23)) ∨ (¬ SeenOk v a s g ∧ 0 ≤ a ∧ a ≤ 23 ∧ (0 ≤ s ∧ s ≤ 23) ∧ ¬ (0 ≤ g ∧ g ≤ v.lost)) ∨
    (¬ SeenOk v a s g ∧ 0 ≤ a ∧ a ≤ 23 ∧ (0 ≤ s ∧ s ≤ 23) ∧ (0 ≤ g ∧ g ≤ v.lost) ∧ ¬ (absI (tb s a) ≤ g)) ∨ (SeenOk v a s g ∧ 0 ≤ a ∧ a ≤ 23 ∧ (0 ≤ s ∧ s ≤ 23) ∧ (0 ≤ g ∧ g ≤ v.lost) ∧ absI (tb s a) ≤ g) := by
  unfold SeenOk Dir
  omega
set_option maxHeartbeats 1000000 in
theorem spec_Seen (v : Wtc) (a s g : Int) (w : World) : Calls Try.prog 96 #[.agg v.cells.toArray, .int .i64 a, .int .i64 s, .int .i64 g] w fun e w' => e = .returned (.bool (decide (SeenOk v a s g))) ∧ Below w.heap.size w w' := by
  have hc := seen_cases v a s g
  obtain ⟨m, t⟩ := v
  simp only [Wtc.cells]
  have hb := tb_bound s a
  have hT := Lib.hid (fun w h1 h2 => spec_Turn s a w h1 h2)
  have hZ := Lib.hid (fun w => spec_Size (tb s a) w (by omega))
  generalize tb s a = q at *
  rcases hc with ⟨h0, h1⟩ | ⟨h0, h1, h2, h3⟩ | ⟨h0, h1, h2, ⟨h3, h4⟩, h5⟩ | ⟨h0, h1, h2, ⟨h3, h4⟩, ⟨h5, h6⟩, h7⟩ | ⟨h0, h1, h2, ⟨h3, h4⟩, ⟨h5, h6⟩, h7⟩
  all_goals
    first | rw [decide_eq_true h0] | rw [decide_eq_false h0]
    clear h0
    try dsimp only at *
    generalize absI q = z at *
    go_enter Try.func96, Try.ntmps96
    go_wp2_with (first | (first | (first | (go_at_call 56; first | (refine (spec_In_t _ _ _ _ (by omega) (by omega)).mono ?_; rintro e w' ⟨rfl, rfl⟩) | (refine (spec_In_f _ _ _ _ (by omega)).mono ?_; rintro e w' ⟨rfl, rfl⟩)) | (go_at_call 59; first | (refine (impl_within_t _ _ _ _ (by omega) (by omega)).mono ?_; rintro e w' ⟨rfl, rfl⟩) | (refine (impl_within_f _ _ _ _ (by omega)).mono ?_; rintro e w' ⟨rfl, rfl⟩))) | (go_at_call 71; first | (refine (spec_Dir_t _ _ (by omega) (by omega)).mono ?_; rintro e w' ⟨rfl, rfl⟩) | (refine (spec_Dir_f _ _ (by omega)).mono ?_; rintro e w' ⟨rfl, rfl⟩)) | (go_at_call 61; first | (refine (impl_isDirection_t _ _ (by omega) (by omega)).mono ?_; rintro e w' ⟨rfl, rfl⟩) | (refine (impl_isDirection_f _ _ (by omega)).mono ?_; rintro e w' ⟨rfl, rfl⟩))) | (go_at_call 114; refine (hT.out _ ⟨by omega, by omega⟩ ⟨by omega, by omega⟩).mono ?_; rintro e w' ⟨rfl, rfl⟩) | (go_at_call 113; refine (hZ.out _).mono ?_; rintro e w' ⟨rfl, rfl⟩))
    go_ret
    exact ⟨by first | rfl | exact ret_bool (decide_eq_true (by omega)) | exact ret_bool (decide_eq_false (by omega)), (Below.refl _ _).alloc (Nat.le_refl _) _⟩

theorem wld_cases (v : Wtc) (x : Wld) : (¬ x.ok v ∧ decide v.ok = false) ∨ (¬ x.ok v ∧ decide v.ok = true ∧ decide (SeenOk v x.a x.seenA x.ageA) = false) ∨ (¬ x.ok v ∧ decide v.ok = true ∧ decide (SeenOk v x.a x.seenA x.ageA) = true ∧ decide (SeenOk v x.b x.seenB x.ageB) = false) ∨ (x.ok v ∧ decide v.ok = true ∧ decide (SeenOk v x.a x.seenA x.ageA) = true ∧ decide (SeenOk v x.b x.seenB x.ageB) = true) := by
  unfold Wld.ok
  by_cases h1 : v.ok
  · by_cases h2 : SeenOk v x.a x.seenA x.ageA
    · by_cases h3 : SeenOk v x.b x.seenB x.ageB <;> simp [h1, h2, h3]
    · simp [h1, h2]
  · simp [h1]
set_option maxRecDepth 100000 in
set_option maxHeartbeats 1000000 in
theorem spec_Ok (v : Wtc) (x : Wld) (w : World) : Calls Try.prog 62 #[.agg v.cells.toArray, .agg x.cells.toArray] w fun e w' => e = .returned (.bool (decide (x.ok v))) ∧ Below w.heap.size w w' := by
  have hc := wld_cases v x
  have hW := fun w => spec_Watch v w
  have hS := fun a s g w => spec_Seen v a s g w
  rcases hc with ⟨h0, h1⟩ | ⟨h0, h1, h2⟩ | ⟨h0, h1, h2, h3⟩ | ⟨h0, h1, h2, h3⟩
  all_goals
    rw [h1] at hW
    clear h1
    try have h2 := Lib.hid h2
    try have h3 := Lib.hid h3
    first | rw [decide_eq_true h0] | rw [decide_eq_false h0]
    clear h0
    obtain ⟨m, t⟩ := v
    obtain ⟨a, b, sa, sb, ga, gb⟩ := x
    simp only [Wtc.cells, Wld.cells] at *
    have HW := Lib.hid hW
    have HS := Lib.hid hS
    clear hW hS
    go_enter Try.func62, Try.ntmps62
    go_wp2_with (first | (go_at_call 95; refine (HW.out _).mono ?_; rintro e w2 ⟨rfl, hb2⟩; have q2 := (bcell hb2).1; have z2 : w.heap.size < w2.heap.size := Nat.lt_of_lt_of_le (by simp; omega) hb2.size; have y2 : w.heap.size + 1 < w2.heap.size := Nat.lt_of_lt_of_le (by simp) hb2.size; have B2 : Below w.heap.size w w2 := (((Below.refl _ w).alloc (Nat.le_refl _) _).alloc (by simp) _).trans (hb2.mono (by simp; omega))) | (go_at_call 96; refine (HS.out _ _ _ _).mono ?_; first | (rintro e w3 ⟨he, hb3⟩; rw [h2.out] at he; subst he; have q3 := (bcell hb3).1; have z3 : w.heap.size < w3.heap.size := Nat.lt_of_lt_of_le z2 hb3.size; have y3 : w.heap.size + 1 < w3.heap.size := Nat.lt_of_lt_of_le y2 hb3.size; have B3 : Below w.heap.size w w3 := B2.trans (hb3.mono B2.size)) | (rintro e w4 ⟨he, hb4⟩; rw [h3.out] at he; subst he; have q4 := (bcell hb4).1; have z4 : w.heap.size < w4.heap.size := Nat.lt_of_lt_of_le z3 hb4.size; have y4 : w.heap.size + 1 < w4.heap.size := Nat.lt_of_lt_of_le y3 hb4.size; have B4 : Below w.heap.size w w4 := B3.trans (hb4.mono B3.size))))
    go_ret
    first | exact ⟨rfl, B4⟩ | exact ⟨rfl, B3⟩ | exact ⟨rfl, B2⟩
end Go.Proofs.Ytmkhapgkiecmaaa
