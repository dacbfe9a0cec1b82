/- Segments, the program: how they meet. -/
import Derived.Test.YteeigmgepahdhaaDoorSegJ
import Derived.Test.YteeigmgepahdhaaDoorUnw
namespace Go.Proofs.YteeigmgepahdhaaDoor
open Go.RowKit
set_option maxRecDepth 100000 in
set_option maxHeartbeats 8000000 in
theorem impl_Meet (a b c d : Pnt) (w : World) (ha : Crd a) (hb : Crd b) (hc : Crd c) (hd : Crd d) : Calls Tryd.prog 99 #[.agg #[.int .i64 (a).x, .int .i64 (a).y, .int .i64 (b).x, .int .i64 (b).y], .agg #[.int .i64 (c).x, .int .i64 (c).y, .int .i64 (d).x, .int .i64 (d).y]] w fun e w' => e = .returned (.bool (decide (meetP a b c d))) ∧ Below w.heap.size w w' := by
  obtain ⟨m, hm⟩ : ∃ m, m = decide (meetP a b c d) := ⟨_, rfl⟩
  have Hm := Lib.hid (show m = true ↔ meetP a b c d by rw [hm]; exact decide_eq_true_iff)
  rw [← hm]
  clear hm
  unfold meetP at Hm
  have C1 := fun w => impl_Covers a b c w ha hb hc
  have C2 := fun w => impl_Covers a b d w ha hb hd
  have C3 := fun w => impl_Covers c d a w hc hd ha
  have C4 := fun w => impl_Covers c d b w hc hd hb
  have S1 := Lib.hid (fun w => impl_Side a b c w ha hb hc)
  have S2 := Lib.hid (fun w => impl_Side a b d w ha hb hd)
  have S3 := Lib.hid (fun w => impl_Side c d a w hc hd ha)
  have S4 := Lib.hid (fun w => impl_Side c d b w hc hd hb)
  have G0 := Seg2.made w a b c d
  have B0 : Below w.heap.size w ((w.alloc (.cells #[.int .i64 a.x, .int .i64 a.y, .int .i64 b.x, .int .i64 b.y] 72)).alloc (.cells #[.int .i64 c.x, .int .i64 c.y, .int .i64 d.x, .int .i64 d.y] 72)) := ((Below.refl _ w).alloc (Nat.le_refl _) _).alloc (by simp) _
  clear ha hb hc hd
  generalize crossP a b c = n1 at *
  generalize crossP a b d = n2 at *
  generalize crossP c d a = n3 at *
  generalize crossP c d b = n4 at *
  obtain ⟨ax, ay⟩ := a
  obtain ⟨bx, bY⟩ := b
  obtain ⟨cx, cy⟩ := c
  obtain ⟨dx, dy⟩ := d
  dsimp only at *
  go_enter Tryd.func99, Tryd.ntmps99
  go_wp2_with fail
  obtain ⟨w0, hw0⟩ : ∃ w0, (w.alloc (.cells #[.int .i64 ax, .int .i64 ay, .int .i64 bx, .int .i64 bY] 72)).alloc (.cells #[.int .i64 cx, .int .i64 cy, .int .i64 dx, .int .i64 dy] 72) = w0 := ⟨_, rfl⟩
  rw [hw0] at G0 B0 ⊢
  clear hw0
  by_cases x1 : coverP ⟨ax, ay⟩ ⟨bx, bY⟩ ⟨cx, cy⟩
  · have hm : m = true := Hm.out.2 (.inl (.inl x1))
    subst hm
    simp only [decide_eq_true x1] at C1
    clear Hm S1 S2 S3 S4
    refine (C1 _).mono ?_
    rintro e w1 ⟨rfl, b1⟩
    have B1 := B0.trans (b1.mono B0.size)
    dsimp only
    repeat (first | go_values | go_skip | go_guarded | go_step | go_upon | go_back)
    go_ret
    exact ⟨rfl, B1⟩
  simp only [decide_eq_false x1] at C1
  refine (C1 _).mono ?_
  rintro e w1 ⟨rfl, b1⟩
  have G1 := G0.below b1
  have B1 := B0.trans (b1.mono B0.size)
  obtain ⟨e01, e11, e21, e31⟩ := cells4s G1.fst; obtain ⟨d01, d11, d21, d31⟩ := cells4s G1.snd; dsimp only at e01 e11 e21 e31 d01 d11 d21 d31
  clear G0 B0 b1 C1
  dsimp only
  repeat (first | go_values | go_skip | go_guarded | go_step | go_upon | go_back)
  by_cases x2 : coverP ⟨ax, ay⟩ ⟨bx, bY⟩ ⟨dx, dy⟩
  · have hm : m = true := Hm.out.2 (.inl (.inr (.inl x2)))
    subst hm
    simp only [decide_eq_true x2] at C2
    clear Hm S1 S2 S3 S4
    refine (C2 _).mono ?_
    rintro e w2 ⟨rfl, b2⟩
    have B2 := B1.trans (b2.mono B1.size)
    dsimp only
    repeat (first | go_values | go_skip | go_guarded | go_step | go_upon | go_back)
    go_ret
    exact ⟨rfl, B2⟩
  simp only [decide_eq_false x2] at C2
  refine (C2 _).mono ?_
  rintro e w2 ⟨rfl, b2⟩
  have G2 := G1.below b2
  have B2 := B1.trans (b2.mono B1.size)
  obtain ⟨e02, e12, e22, e32⟩ := cells4s G2.fst; obtain ⟨d02, d12, d22, d32⟩ := cells4s G2.snd; dsimp only at e02 e12 e22 e32 d02 d12 d22 d32
  clear G1 B1 b2 C2
  clear e01 e11 e21 e31 d01 d11 d21 d31
  dsimp only
  repeat (first | go_values | go_skip | go_guarded | go_step | go_upon | go_back)
  by_cases x3 : coverP ⟨cx, cy⟩ ⟨dx, dy⟩ ⟨ax, ay⟩
  · have hm : m = true := Hm.out.2 (.inl (.inr (.inr (.inl x3))))
    subst hm
    simp only [decide_eq_true x3] at C3
    clear Hm S1 S2 S3 S4
    refine (C3 _).mono ?_
    rintro e w3 ⟨rfl, b3⟩
    have B3 := B2.trans (b3.mono B2.size)
    dsimp only
    repeat (first | go_values | go_skip | go_guarded | go_step | go_upon | go_back)
    go_ret
    exact ⟨rfl, B3⟩
  simp only [decide_eq_false x3] at C3
  refine (C3 _).mono ?_
  rintro e w3 ⟨rfl, b3⟩
  have G3 := G2.below b3
  have B3 := B2.trans (b3.mono B2.size)
  obtain ⟨e03, e13, e23, e33⟩ := cells4s G3.fst; obtain ⟨d03, d13, d23, d33⟩ := cells4s G3.snd; dsimp only at e03 e13 e23 e33 d03 d13 d23 d33
  clear G2 B2 b3 C3
  clear e02 e12 e22 e32 d02 d12 d22 d32
  dsimp only
  repeat (first | go_values | go_skip | go_guarded | go_step | go_upon | go_back)
  by_cases x4 : coverP ⟨cx, cy⟩ ⟨dx, dy⟩ ⟨bx, bY⟩
  · have hm : m = true := Hm.out.2 (.inl (.inr (.inr (.inr x4))))
    subst hm
    simp only [decide_eq_true x4] at C4
    clear Hm S1 S2 S3 S4
    refine (C4 _).mono ?_
    rintro e w4 ⟨rfl, b4⟩
    have B4 := B3.trans (b4.mono B3.size)
    dsimp only
    repeat (first | go_values | go_skip | go_guarded | go_step | go_upon | go_back)
    go_ret
    exact ⟨rfl, B4⟩
  simp only [decide_eq_false x4] at C4
  refine (C4 _).mono ?_
  rintro e w4 ⟨rfl, b4⟩
  have G4 := G3.below b4
  have B4 := B3.trans (b4.mono B3.size)
  obtain ⟨e04, e14, e24, e34⟩ := cells4s G4.fst; obtain ⟨d04, d14, d24, d34⟩ := cells4s G4.snd; dsimp only at e04 e14 e24 e34 d04 d14 d24 d34
  clear G3 B3 b4 C4
  clear e03 e13 e23 e33 d03 d13 d23 d33
  dsimp only
  repeat (first | go_values | go_skip | go_guarded | go_step | go_upon | go_back)
  obtain ⟨k12, k12'⟩ := sgn_mul n1 n2
  obtain ⟨k34, k34'⟩ := sgn_mul n3 n4
  have P12 := sgn_opp n1 n2
  have P34 := sgn_opp n3 n4
  have T1 := Lib.hid (fun w => impl_Sgn n1 w)
  have T2 := Lib.hid (fun w => impl_Sgn n2 w)
  have T3 := Lib.hid (fun w => impl_Sgn n3 w)
  have T4 := Lib.hid (fun w => impl_Sgn n4 w)
  generalize sgnI n1 = s1 at *
  generalize sgnI n2 = s2 at *
  generalize sgnI n3 = s3 at *
  generalize sgnI n4 = s4 at *
  have hw1 : IntKind.i64.wrap (s1 * s2) = s1 * s2 := by rw [IntKind.wrap_i64]; omega
  have hw2 : IntKind.i64.wrap (s3 * s4) = s3 * s4 := by rw [IntKind.wrap_i64]; omega
  have hz := World.block_lt_of_cell? w4 _ e04
  have hz1 := World.block_lt_of_cell? w4 _ d04
  generalize hq1 : s1 * s2 = q1 at *
  generalize hq2 : s3 * s4 = q2 at *
  clear k12 k12' k34 k34'
  by_cases h12 : q1 < 0
  · by_cases h34 : q2 < 0
    · have hm : m = true := Hm.out.2 (.inr ⟨P12.1 h12, P34.1 h34⟩)
      subst hm
      clear Hm P12 P34
      go_region_held3 (fun w' => (∀ b' o', b' < w4.heap.size → w'.cell? ⟨b', o', none⟩ = w4.cell? ⟨b', o', none⟩) ∧ Below w4.heap.size w4 w') (first | exact heldB ((Below.refl _ _).drew) | exact heldB D1 | exact heldB D2 | exact heldB D3 | exact heldB D4)
        (first | (go_at_call_of 111 (Value.agg #[Value.int IntKind.i64 ax, Value.int IntKind.i64 ay]); go_at_call_of 111 (Value.agg #[Value.int IntKind.i64 bx, Value.int IntKind.i64 bY]); go_at_call_of 111 (Value.agg #[Value.int IntKind.i64 cx, Value.int IntKind.i64 cy]); refine (S1.out _).mono ?_; rintro e x1 ⟨rfl, c1⟩; have D1 : Below w4.heap.size w4 x1 := (Below.refl _ _).drew.trans c1) | (go_at_call_of 111 (Value.agg #[Value.int IntKind.i64 ax, Value.int IntKind.i64 ay]); go_at_call_of 111 (Value.agg #[Value.int IntKind.i64 bx, Value.int IntKind.i64 bY]); go_at_call_of 111 (Value.agg #[Value.int IntKind.i64 dx, Value.int IntKind.i64 dy]); refine (S2.out _).mono ?_; rintro e x2 ⟨rfl, c2⟩; have D2 : Below w4.heap.size w4 x2 := D1.trans (c2.mono D1.size)) | (go_at_call_of 111 (Value.agg #[Value.int IntKind.i64 cx, Value.int IntKind.i64 cy]); go_at_call_of 111 (Value.agg #[Value.int IntKind.i64 dx, Value.int IntKind.i64 dy]); go_at_call_of 111 (Value.agg #[Value.int IntKind.i64 ax, Value.int IntKind.i64 ay]); refine (S3.out _).mono ?_; rintro e x3 ⟨rfl, c3⟩; have D3 : Below w4.heap.size w4 x3 := D2.trans (c3.mono D2.size)) | (go_at_call_of 111 (Value.agg #[Value.int IntKind.i64 cx, Value.int IntKind.i64 cy]); go_at_call_of 111 (Value.agg #[Value.int IntKind.i64 dx, Value.int IntKind.i64 dy]); go_at_call_of 111 (Value.agg #[Value.int IntKind.i64 bx, Value.int IntKind.i64 bY]); refine (S4.out _).mono ?_; rintro e x4 ⟨rfl, c4⟩; have D4 : Below w4.heap.size w4 x4 := D3.trans (c4.mono D3.size)) | (go_at_call_of 110 (Value.int IntKind.i64 n1); refine (T1.out _).mono ?_; rintro e x' ⟨rfl, rfl⟩) | (go_at_call_of 110 (Value.int IntKind.i64 n2); refine (T2.out _).mono ?_; rintro e x' ⟨rfl, rfl⟩) | (go_at_call_of 110 (Value.int IntKind.i64 n3); refine (T3.out _).mono ?_; rintro e x' ⟨rfl, rfl⟩) | (go_at_call_of 110 (Value.int IntKind.i64 n4); refine (T4.out _).mono ?_; rintro e x' ⟨rfl, rfl⟩))
      go_wp2
      go_ret
      exact ⟨rfl, B4.trans (D4.mono B4.size)⟩
    · have hm : m = false := by
        rw [← Bool.not_eq_true]
        intro h
        rcases Hm.out.1 h with (h | h | h | h) | h
        · exact x1 h
        · exact x2 h
        · exact x3 h
        · exact x4 h
        · exact h34 (P34.2 h.2)
      subst hm
      clear Hm P12 P34
      go_region_held3 (fun w' => (∀ b' o', b' < w4.heap.size → w'.cell? ⟨b', o', none⟩ = w4.cell? ⟨b', o', none⟩) ∧ Below w4.heap.size w4 w') (first | exact heldB ((Below.refl _ _).drew) | exact heldB D1 | exact heldB D2 | exact heldB D3 | exact heldB D4)
        (first | (go_at_call_of 111 (Value.agg #[Value.int IntKind.i64 ax, Value.int IntKind.i64 ay]); go_at_call_of 111 (Value.agg #[Value.int IntKind.i64 bx, Value.int IntKind.i64 bY]); go_at_call_of 111 (Value.agg #[Value.int IntKind.i64 cx, Value.int IntKind.i64 cy]); refine (S1.out _).mono ?_; rintro e x1 ⟨rfl, c1⟩; have D1 : Below w4.heap.size w4 x1 := (Below.refl _ _).drew.trans c1) | (go_at_call_of 111 (Value.agg #[Value.int IntKind.i64 ax, Value.int IntKind.i64 ay]); go_at_call_of 111 (Value.agg #[Value.int IntKind.i64 bx, Value.int IntKind.i64 bY]); go_at_call_of 111 (Value.agg #[Value.int IntKind.i64 dx, Value.int IntKind.i64 dy]); refine (S2.out _).mono ?_; rintro e x2 ⟨rfl, c2⟩; have D2 : Below w4.heap.size w4 x2 := D1.trans (c2.mono D1.size)) | (go_at_call_of 111 (Value.agg #[Value.int IntKind.i64 cx, Value.int IntKind.i64 cy]); go_at_call_of 111 (Value.agg #[Value.int IntKind.i64 dx, Value.int IntKind.i64 dy]); go_at_call_of 111 (Value.agg #[Value.int IntKind.i64 ax, Value.int IntKind.i64 ay]); refine (S3.out _).mono ?_; rintro e x3 ⟨rfl, c3⟩; have D3 : Below w4.heap.size w4 x3 := D2.trans (c3.mono D2.size)) | (go_at_call_of 111 (Value.agg #[Value.int IntKind.i64 cx, Value.int IntKind.i64 cy]); go_at_call_of 111 (Value.agg #[Value.int IntKind.i64 dx, Value.int IntKind.i64 dy]); go_at_call_of 111 (Value.agg #[Value.int IntKind.i64 bx, Value.int IntKind.i64 bY]); refine (S4.out _).mono ?_; rintro e x4 ⟨rfl, c4⟩; have D4 : Below w4.heap.size w4 x4 := D3.trans (c4.mono D3.size)) | (go_at_call_of 110 (Value.int IntKind.i64 n1); refine (T1.out _).mono ?_; rintro e x' ⟨rfl, rfl⟩) | (go_at_call_of 110 (Value.int IntKind.i64 n2); refine (T2.out _).mono ?_; rintro e x' ⟨rfl, rfl⟩) | (go_at_call_of 110 (Value.int IntKind.i64 n3); refine (T3.out _).mono ?_; rintro e x' ⟨rfl, rfl⟩) | (go_at_call_of 110 (Value.int IntKind.i64 n4); refine (T4.out _).mono ?_; rintro e x' ⟨rfl, rfl⟩))
      go_wp2
      go_ret
      exact ⟨ret_bool (decide_eq_false (by omega)), B4.trans (D4.mono B4.size)⟩
  · have hm : m = false := by
      rw [← Bool.not_eq_true]
      intro h
      rcases Hm.out.1 h with (h | h | h | h) | h
      · exact x1 h
      · exact x2 h
      · exact x3 h
      · exact x4 h
      · exact h12 (P12.2 h.1)
    subst hm
    clear Hm P12 P34
    refine wp_region_held_drew (S := (fun w' => (∀ b' o', b' < w4.heap.size → w'.cell? ⟨b', o', none⟩ = w4.cell? ⟨b', o', none⟩) ∧ Below w4.heap.size w4 w')) (by kernel_rfl) (heldB ((Below.refl _ _).drew)) (fun hHeld => ?_)
    refine take_v 27 (i := 0) rfl rfl (by kernel_rfl) (by kernel_rfl) (by kernel_rfl) (fun _ _ _ h => h) (by rfl) (fun w hSw => by (try dsimp only at hSw); go_simp; first | done | with_reducible rfl) hHeld ?_
    try simp only [Act.put, List.setIfInBounds_toArray, List.set_cons_zero, List.set_cons_succ]
    refine take_v 28 (i := 1) rfl rfl (by kernel_rfl) (by kernel_rfl) (by kernel_rfl) (fun _ _ _ h => h) (by rfl) (fun w hSw => by (try dsimp only at hSw); go_simp; first | done | with_reducible rfl) hHeld ?_
    try simp only [Act.put, List.setIfInBounds_toArray, List.set_cons_zero, List.set_cons_succ]
    refine take_v 29 (i := 2) rfl rfl (by kernel_rfl) (by kernel_rfl) (by kernel_rfl) (fun _ _ _ h => h) (by rfl) (fun w hSw => by (try dsimp only at hSw); go_simp; first | done | with_reducible rfl) hHeld ?_
    try simp only [Act.put, List.setIfInBounds_toArray, List.set_cons_zero, List.set_cons_succ]
    refine take_v 30 (i := 3) rfl rfl (by kernel_rfl) (by kernel_rfl) (by kernel_rfl) (fun _ _ _ h => h) (by rfl) (fun w hSw => by (try dsimp only at hSw); go_simp; first | done | with_reducible rfl) hHeld ?_
    try simp only [Act.put, List.setIfInBounds_toArray, List.set_cons_zero, List.set_cons_succ]
    refine take_v 31 (i := 4) rfl rfl (by kernel_rfl) (by kernel_rfl) (by kernel_rfl) (fun _ _ _ h => h) (by rfl) (fun w hSw => by (try dsimp only at hSw); go_simp; first | done | with_reducible rfl) hHeld ?_
    try simp only [Act.put, List.setIfInBounds_toArray, List.set_cons_zero, List.set_cons_succ]
    refine take_v 32 (i := 5) rfl rfl (by kernel_rfl) (by kernel_rfl) (by kernel_rfl) (fun _ _ _ h => h) (by rfl) (fun w hSw => by (try dsimp only at hSw); go_simp; first | done | with_reducible rfl) hHeld ?_
    try simp only [Act.put, List.setIfInBounds_toArray, List.set_cons_zero, List.set_cons_succ]
    refine take_v 35 (i := 8) rfl rfl (by kernel_rfl) (by kernel_rfl) (by kernel_rfl) (fun _ _ _ h => h) (by rfl) (fun w hSw => by (try dsimp only at hSw); go_simp; first | done | with_reducible rfl) hHeld ?_
    try simp only [Act.put, List.setIfInBounds_toArray, List.set_cons_zero, List.set_cons_succ]
    refine take_v 36 (i := 9) rfl rfl (by kernel_rfl) (by kernel_rfl) (by kernel_rfl) (fun _ _ _ h => h) (by rfl) (fun w hSw => by (try dsimp only at hSw); go_simp; first | done | with_reducible rfl) hHeld ?_
    try simp only [Act.put, List.setIfInBounds_toArray, List.set_cons_zero, List.set_cons_succ]
    refine take_v 37 (i := 10) rfl rfl (by kernel_rfl) (by kernel_rfl) (by kernel_rfl) (fun _ _ _ h => h) (by rfl) (fun w hSw => by (try dsimp only at hSw); go_simp; first | done | with_reducible rfl) hHeld ?_
    try simp only [Act.put, List.setIfInBounds_toArray, List.set_cons_zero, List.set_cons_succ]
    refine take_v 38 (i := 11) rfl rfl (by kernel_rfl) (by kernel_rfl) (by kernel_rfl) (fun _ _ _ h => h) (by rfl) (fun w hSw => by (try dsimp only at hSw); go_simp; first | done | with_reducible rfl) hHeld ?_
    try simp only [Act.put, List.setIfInBounds_toArray, List.set_cons_zero, List.set_cons_succ]
    refine take_v 39 (i := 12) rfl rfl (by kernel_rfl) (by kernel_rfl) (by kernel_rfl) (fun _ _ _ h => h) (by rfl) (fun w hSw => by (try dsimp only at hSw); go_simp; first | done | with_reducible rfl) hHeld ?_
    try simp only [Act.put, List.setIfInBounds_toArray, List.set_cons_zero, List.set_cons_succ]
    refine take_v 40 (i := 13) rfl rfl (by kernel_rfl) (by kernel_rfl) (by kernel_rfl) (fun _ _ _ h => h) (by rfl) (fun w hSw => by (try dsimp only at hSw); go_simp; first | done | with_reducible rfl) hHeld ?_
    try simp only [Act.put, List.setIfInBounds_toArray, List.set_cons_zero, List.set_cons_succ]
    refine wpAnyH_ready (rs := [6]) (by kernel_rfl) (by simp) ?_
    refine AllReadyH.cons rfl (fun K hK => ?_) AllReadyH.nil
    go_simp
    refine (S1.out _).mono ?_
    rintro e x1 ⟨rfl, c1⟩
    have D1 : Below w4.heap.size w4 x1 := (Below.refl _ _).drew.trans c1
    dsimp only
    refine hK.out _ _ (heldB D1) (fun hHeld => ?_)
    clear hK
    try simp only [Act.put, List.setIfInBounds_toArray, List.set_cons_zero, List.set_cons_succ]
    refine wpAnyH_ready (rs := [7]) (by kernel_rfl) (by simp) ?_
    refine AllReadyH.cons rfl (fun K hK => ?_) AllReadyH.nil
    go_simp
    refine (T1.out _).mono ?_
    rintro e x' ⟨rfl, rfl⟩
    dsimp only
    refine hK.out _ _ (heldB D1) (fun hHeld => ?_)
    clear hK
    try simp only [Act.put, List.setIfInBounds_toArray, List.set_cons_zero, List.set_cons_succ]
    refine wpAnyH_ready (rs := [14]) (by kernel_rfl) (by simp) ?_
    refine AllReadyH.cons rfl (fun K hK => ?_) AllReadyH.nil
    go_simp
    refine (S2.out _).mono ?_
    rintro e x2 ⟨rfl, c2⟩
    have D2 : Below w4.heap.size w4 x2 := D1.trans (c2.mono D1.size)
    dsimp only
    refine hK.out _ _ (heldB D2) (fun hHeld => ?_)
    clear hK
    try simp only [Act.put, List.setIfInBounds_toArray, List.set_cons_zero, List.set_cons_succ]
    refine wpAnyH_ready (rs := [15]) (by kernel_rfl) (by simp) ?_
    refine AllReadyH.cons rfl (fun K hK => ?_) AllReadyH.nil
    go_simp
    refine (T2.out _).mono ?_
    rintro e x' ⟨rfl, rfl⟩
    dsimp only
    refine hK.out _ _ (heldB D2) (fun hHeld => ?_)
    clear hK
    try simp only [Act.put, List.setIfInBounds_toArray, List.set_cons_zero, List.set_cons_succ]
    refine take_v 43 (i := 16) rfl rfl (by kernel_rfl) (by kernel_rfl) (by kernel_rfl) (fun _ _ _ h => h) (by rfl) (fun w hSw => by (try dsimp only at hSw); go_simp; first | done | with_reducible rfl) hHeld ?_
    try simp only [Act.put, List.setIfInBounds_toArray, List.set_cons_zero, List.set_cons_succ]
    refine take_v 44 (i := 17) rfl rfl (by kernel_rfl) (by kernel_rfl) (by kernel_rfl) (fun _ _ _ h => h) (by rfl) (fun w hSw => by (try dsimp only at hSw); go_simp; first | done | with_reducible rfl) hHeld ?_
    try simp only [Act.put, List.setIfInBounds_toArray, List.set_cons_zero, List.set_cons_succ]
    refine take_v 45 (i := 18) rfl rfl (by kernel_rfl) (by kernel_rfl) (by kernel_rfl) (fun _ _ _ h => h) (by rfl) (fun w hSw => by (try dsimp only at hSw); go_simp; first | done | with_reducible rfl) hHeld ?_
    try simp only [Act.put, List.setIfInBounds_toArray, List.set_cons_zero, List.set_cons_succ]
    refine take_u 46 (i := 19) rfl rfl (by kernel_rfl) (by kernel_rfl) (by kernel_rfl) (fun _ _ _ h => h) (by rfl) hHeld ?_
    try simp only [Act.put, List.setIfInBounds_toArray, List.set_cons_zero, List.set_cons_succ]
    refine take_u 47 (i := 20) rfl rfl (by kernel_rfl) (by kernel_rfl) (by kernel_rfl) (fun _ _ _ h => h) (by rfl) hHeld ?_
    try simp only [Act.put, List.setIfInBounds_toArray, List.set_cons_zero, List.set_cons_succ]
    refine take_u 48 (i := 21) rfl rfl (by kernel_rfl) (by kernel_rfl) (by kernel_rfl) (fun _ _ _ h => h) (by rfl) hHeld ?_
    try simp only [Act.put, List.setIfInBounds_toArray, List.set_cons_zero, List.set_cons_succ]
    refine take_u 49 (i := 22) rfl rfl (by kernel_rfl) (by kernel_rfl) (by kernel_rfl) (fun _ _ _ h => h) (by rfl) hHeld ?_
    try simp only [Act.put, List.setIfInBounds_toArray, List.set_cons_zero, List.set_cons_succ]
    refine take_u 50 (i := 23) rfl rfl (by kernel_rfl) (by kernel_rfl) (by kernel_rfl) (fun _ _ _ h => h) (by rfl) hHeld ?_
    try simp only [Act.put, List.setIfInBounds_toArray, List.set_cons_zero, List.set_cons_succ]
    refine take_u 51 (i := 24) rfl rfl (by kernel_rfl) (by kernel_rfl) (by kernel_rfl) (fun _ _ _ h => h) (by rfl) hHeld ?_
    try simp only [Act.put, List.setIfInBounds_toArray, List.set_cons_zero, List.set_cons_succ]
    refine take_u 52 (i := 25) rfl rfl (by kernel_rfl) (by kernel_rfl) (by kernel_rfl) (fun _ _ _ h => h) (by rfl) hHeld ?_
    try simp only [Act.put, List.setIfInBounds_toArray, List.set_cons_zero, List.set_cons_succ]
    refine take_u 53 (i := 26) rfl rfl (by kernel_rfl) (by kernel_rfl) (by kernel_rfl) (fun _ _ _ h => h) (by rfl) hHeld ?_
    try simp only [Act.put, List.setIfInBounds_toArray, List.set_cons_zero, List.set_cons_succ]
    refine take_u 54 (i := 27) rfl rfl (by kernel_rfl) (by kernel_rfl) (by kernel_rfl) (fun _ _ _ h => h) (by rfl) hHeld ?_
    try simp only [Act.put, List.setIfInBounds_toArray, List.set_cons_zero, List.set_cons_succ]
    refine take_u 55 (i := 28) rfl rfl (by kernel_rfl) (by kernel_rfl) (by kernel_rfl) (fun _ _ _ h => h) (by rfl) hHeld ?_
    try simp only [Act.put, List.setIfInBounds_toArray, List.set_cons_zero, List.set_cons_succ]
    refine take_u 56 (i := 29) rfl rfl (by kernel_rfl) (by kernel_rfl) (by kernel_rfl) (fun _ _ _ h => h) (by rfl) hHeld ?_
    try simp only [Act.put, List.setIfInBounds_toArray, List.set_cons_zero, List.set_cons_succ]
    refine take_u 57 (i := 30) rfl rfl (by kernel_rfl) (by kernel_rfl) (by kernel_rfl) (fun _ _ _ h => h) (by rfl) hHeld ?_
    try simp only [Act.put, List.setIfInBounds_toArray, List.set_cons_zero, List.set_cons_succ]
    refine take_u 58 (i := 31) rfl rfl (by kernel_rfl) (by kernel_rfl) (by kernel_rfl) (fun _ _ _ h => h) (by rfl) hHeld ?_
    try simp only [Act.put, List.setIfInBounds_toArray, List.set_cons_zero, List.set_cons_succ]
    refine take_u 59 (i := 32) rfl rfl (by kernel_rfl) (by kernel_rfl) (by kernel_rfl) (fun _ _ _ h => h) (by rfl) hHeld ?_
    try simp only [Act.put, List.setIfInBounds_toArray, List.set_cons_zero, List.set_cons_succ]
    refine take_u 60 (i := 33) rfl rfl (by kernel_rfl) (by kernel_rfl) (by kernel_rfl) (fun _ _ _ h => h) (by rfl) hHeld ?_
    try simp only [Act.put, List.setIfInBounds_toArray, List.set_cons_zero, List.set_cons_succ]
    refine take_u 61 (i := 34) rfl rfl (by kernel_rfl) (by kernel_rfl) (by kernel_rfl) (fun _ _ _ h => h) (by rfl) hHeld ?_
    try simp only [Act.put, List.setIfInBounds_toArray, List.set_cons_zero, List.set_cons_succ]
    refine take_u 62 (i := 35) rfl rfl (by kernel_rfl) (by kernel_rfl) (by kernel_rfl) (fun _ _ _ h => h) (by rfl) hHeld ?_
    try simp only [Act.put, List.setIfInBounds_toArray, List.set_cons_zero, List.set_cons_succ]
    refine take_u 63 (i := 36) rfl rfl (by kernel_rfl) (by kernel_rfl) (by kernel_rfl) (fun _ _ _ h => h) (by rfl) hHeld ?_
    try simp only [Act.put, List.setIfInBounds_toArray, List.set_cons_zero, List.set_cons_succ]
    refine take_v 64 (i := 37) rfl rfl (by kernel_rfl) (by kernel_rfl) (by kernel_rfl) (fun _ _ _ h => h) (by rfl) (fun w hSw => by (try dsimp only at hSw); go_simp; first | done | with_reducible rfl) hHeld ?_
    try simp only [Act.put, List.setIfInBounds_toArray, List.set_cons_zero, List.set_cons_succ]
    refine take_v 4 (i := 38) rfl rfl (by kernel_rfl) (by kernel_rfl) (by kernel_rfl) (fun _ _ _ h => h) (by rfl) (fun w hSw => by (try dsimp only at hSw); go_simp; first | done | with_reducible rfl) hHeld ?_
    try simp only [Act.put, List.setIfInBounds_toArray, List.set_cons_zero, List.set_cons_succ]
    refine wpAnyH_done (by kernel_rfl) ?_ _
    go_wp2
    go_ret
    exact ⟨rfl, B4.trans (D2.mono B4.size)⟩
end Go.Proofs.YteeigmgepahdhaaDoor
