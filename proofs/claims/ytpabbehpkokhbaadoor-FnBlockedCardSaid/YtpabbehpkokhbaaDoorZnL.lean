/- Zones, the reference: whether two lines meet. -/
import Derived.Test.YtpabbehpkokhbaaDoorZnB
namespace Go.Proofs.YtpabbehpkokhbaaDoor
open Go.RowKit
/-- Four points in four boxes. -/
structure Pt4 (p : Nat) (a b c d : Pnt) (w : World) : Prop where
  p0 : w.heap[p]? = some (.cells #[.int .i64 a.x, .int .i64 a.y] 26 (0, 0))
  p1 : w.heap[p + 1]? = some (.cells #[.int .i64 b.x, .int .i64 b.y] 26 (0, 0))
  p2 : w.heap[p + 1 + 1]? = some (.cells #[.int .i64 c.x, .int .i64 c.y] 26 (0, 0))
  p3 : w.heap[p + 1 + 1 + 1]? = some (.cells #[.int .i64 d.x, .int .i64 d.y] 26 (0, 0))
theorem Pt4.below {p : Nat} {a b c d : Pnt} {w w' : World} (h : Pt4 p a b c d w) (hb : Below w.heap.size w w') : Pt4 p a b c d w' := ⟨blkN_below hb h.p0, blkN_below hb h.p1, blkN_below hb h.p2, blkN_below hb h.p3⟩
theorem boxZ_1 (w : World) (o p : Obj) : ((w.alloc o).alloc p).heap[w.heap.size + 1]? = some p := by
  have := blkN_new (w.alloc o) p
  rwa [World.size_alloc] at this
theorem Pt4.made (w : World) (a b c d : Pnt) : Pt4 w.heap.size a b c d ((((w.alloc (.cells #[.int .i64 a.x, .int .i64 a.y] 26)).alloc (.cells #[.int .i64 b.x, .int .i64 b.y] 26)).alloc (.cells #[.int .i64 c.x, .int .i64 c.y] 26)).alloc (.cells #[.int .i64 d.x, .int .i64 d.y] 26)) := by
  have n0 := blkN_new w (.cells #[.int .i64 a.x, .int .i64 a.y] 26 (0, 0))
  have n1 := boxZ_1 w (.cells #[.int .i64 a.x, .int .i64 a.y] 26 (0, 0)) (.cells #[.int .i64 b.x, .int .i64 b.y] 26 (0, 0))
  have n2 := boxZ_1 (w.alloc (.cells #[.int .i64 a.x, .int .i64 a.y] 26 (0, 0))) (.cells #[.int .i64 b.x, .int .i64 b.y] 26 (0, 0)) (.cells #[.int .i64 c.x, .int .i64 c.y] 26 (0, 0))
  have n3 := boxZ_1 ((w.alloc (.cells #[.int .i64 a.x, .int .i64 a.y] 26 (0, 0))).alloc (.cells #[.int .i64 b.x, .int .i64 b.y] 26 (0, 0))) (.cells #[.int .i64 c.x, .int .i64 c.y] 26 (0, 0)) (.cells #[.int .i64 d.x, .int .i64 d.y] 26 (0, 0))
  simp only [World.size_alloc] at n2 n3
  have up : ∀ {W : World} {q : Nat} {o : Obj} (o' : Obj), W.heap[q]? = some o → (W.alloc o').heap[q]? = some o := fun o' h => blkN_below ((Below.refl _ _).alloc (Nat.le_refl _) o') h
  exact ⟨up _ (up _ (up _ n0)), up _ (up _ n1), up _ n2, n3⟩
theorem sgn_mulZ (p q : Int) : -1 ≤ sgnI p * sgnI q ∧ sgnI p * sgnI q ≤ 1 := by
  rcases sgn_cases p with ⟨h, e⟩ | ⟨h, e⟩ | ⟨h, e⟩ <;> rcases sgn_cases q with ⟨h2, e2⟩ | ⟨h2, e2⟩ | ⟨h2, e2⟩ <;> rw [e, e2] <;> omega
theorem sgn_eq0Z (n : Int) : ((sgnI n == 0) = true ∧ n = 0) ∨ ((sgnI n == 0) = false ∧ ¬ n = 0) := by
  by_cases h : n = 0
  · exact .inl ⟨by rw [beq_iff_eq]; exact (sgn_zero n).2 h, h⟩
  · exact .inr ⟨by rw [beq_eq_false_iff_ne]; exact fun e => h ((sgn_zero n).1 e), h⟩
set_option maxRecDepth 100000 in
set_option maxHeartbeats 8000000 in
theorem spec_Lines (a b c d : Pnt) (w : World) (ha : Crd a) (hb : Crd b) (hc : Crd c) (hd : Crd d) : Calls Tryd.prog 60 #[.agg #[.int .i64 (a).x, .int .i64 (a).y], .agg #[.int .i64 (b).x, .int .i64 (b).y], .agg #[.int .i64 (c).x, .int .i64 (c).y], .agg #[.int .i64 (d).x, .int .i64 (d).y]] w fun e w' => e = .returned (.bool (decide (meetP a b c d))) ∧ Below w.heap.size w w' := by
  obtain ⟨m, hm⟩ : ∃ m, m = decide (meetP a b c d) := ⟨_, rfl⟩
  have Hm := Lib.hid (show m = true ↔ meetP a b c d by rw [hm]; exact decide_eq_true_iff)
  rw [← hm]
  clear hm
  unfold meetP coverP at Hm
  have K1 := Lib.hid (fun w => spec_Cr a b c w ha hb hc)
  have K2 := Lib.hid (fun w => spec_Cr a b d w ha hb hd)
  have K3 := Lib.hid (fun w => spec_Cr c d a w hc hd ha)
  have K4 := Lib.hid (fun w => spec_Cr c d b w hc hd hb)
  have O1 := Lib.hid (fun w => spec_Bx a b c w)
  have O2 := Lib.hid (fun w => spec_Bx a b d w)
  have O3 := Lib.hid (fun w => spec_Bx c d a w)
  have O4 := Lib.hid (fun w => spec_Bx c d b w)
  have G0 := Pt4.made w a b c d
  have B0 : Below w.heap.size w ((((w.alloc (.cells #[.int .i64 a.x, .int .i64 a.y] 26)).alloc (.cells #[.int .i64 b.x, .int .i64 b.y] 26)).alloc (.cells #[.int .i64 c.x, .int .i64 c.y] 26)).alloc (.cells #[.int .i64 d.x, .int .i64 d.y] 26)) := ((((Below.refl _ w).alloc (Nat.le_refl _) _).alloc (by simp) _).alloc (by simp; omega) _).alloc (by simp; omega) _
  clear ha hb hc hd
  generalize crossP a b c = n1 at *
  generalize crossP a b d = n2 at *
  generalize crossP c d a = n3 at *
  generalize crossP c d b = n4 at *
  obtain ⟨ax, ay⟩ := a
  obtain ⟨bx, bY⟩ := b
  obtain ⟨cx, cy⟩ := c
  obtain ⟨dx, dy⟩ := d
  dsimp only at *
  go_enter Tryd.func60, Tryd.ntmps60
  go_wp2_with fail
  obtain ⟨w0, hw0⟩ : ∃ w0, (((w.alloc (.cells #[.int .i64 ax, .int .i64 ay] 26)).alloc (.cells #[.int .i64 bx, .int .i64 bY] 26)).alloc (.cells #[.int .i64 cx, .int .i64 cy] 26)).alloc (.cells #[.int .i64 dx, .int .i64 dy] 26) = w0 := ⟨_, rfl⟩
  rw [hw0] at G0 B0 ⊢
  clear hw0
  refine (K1.out _).mono ?_
  rintro e w1 ⟨rfl, b1⟩
  have G1 := G0.below b1
  have B1 := B0.trans (b1.mono B0.size)
  obtain ⟨e01, e11⟩ := cells2z G1.p0; obtain ⟨f01, f11⟩ := cells2z G1.p1; obtain ⟨g01, g11⟩ := cells2z G1.p2; obtain ⟨d01, d11⟩ := cells2z G1.p3; dsimp only at e01 e11 f01 f11 g01 g11 d01 d11
  clear G0 B0 b1
  dsimp only
  go_wp2_with (first | (go_at_call 81; refine (spec_Sg _ _).mono ?_; rintro e w' ⟨rfl, rfl⟩) | fail)
  refine (K2.out _).mono ?_
  rintro e w2 ⟨rfl, b2⟩
  have G2 := G1.below b2
  have B2 := B1.trans (b2.mono B1.size)
  obtain ⟨e02, e12⟩ := cells2z G2.p0; obtain ⟨f02, f12⟩ := cells2z G2.p1; obtain ⟨g02, g12⟩ := cells2z G2.p2; obtain ⟨d02, d12⟩ := cells2z G2.p3; dsimp only at e02 e12 f02 f12 g02 g12 d02 d12
  clear G1 B1 b2
  dsimp only
  go_wp2_with (first | (go_at_call 81; refine (spec_Sg _ _).mono ?_; rintro e w' ⟨rfl, rfl⟩) | fail)
  refine (K3.out _).mono ?_
  rintro e w3 ⟨rfl, b3⟩
  have G3 := G2.below b3
  have B3 := B2.trans (b3.mono B2.size)
  obtain ⟨e03, e13⟩ := cells2z G3.p0; obtain ⟨f03, f13⟩ := cells2z G3.p1; obtain ⟨g03, g13⟩ := cells2z G3.p2; obtain ⟨d03, d13⟩ := cells2z G3.p3; dsimp only at e03 e13 f03 f13 g03 g13 d03 d13
  clear G2 B2 b3
  dsimp only
  go_wp2_with (first | (go_at_call 81; refine (spec_Sg _ _).mono ?_; rintro e w' ⟨rfl, rfl⟩) | fail)
  refine (K4.out _).mono ?_
  rintro e w4 ⟨rfl, b4⟩
  have G4 := G3.below b4
  have B4 := B3.trans (b4.mono B3.size)
  obtain ⟨e04, e14⟩ := cells2z G4.p0; obtain ⟨f04, f14⟩ := cells2z G4.p1; obtain ⟨g04, g14⟩ := cells2z G4.p2; obtain ⟨d04, d14⟩ := cells2z G4.p3; dsimp only at e04 e14 f04 f14 g04 g14 d04 d14
  clear G3 B3 b4
  dsimp only
  go_wp2_with fail
  clear K1 K2 K3 K4
  obtain ⟨k12, k12'⟩ := sgn_mulZ n1 n2
  obtain ⟨k34, k34'⟩ := sgn_mulZ n3 n4
  have S1 := sgn_eq0Z n1
  have S2 := sgn_eq0Z n2
  have S3 := sgn_eq0Z n3
  have S4 := sgn_eq0Z n4
  have P12 := sgn_opp n1 n2
  have P34 := sgn_opp n3 n4
  generalize sgnI n1 = s1 at *
  generalize sgnI n2 = s2 at *
  generalize sgnI n3 = s3 at *
  by_cases h12 : s1 * s2 < 0
  · by_cases h34 : s3 * sgnI n4 < 0
    · have hm : m = true := Hm.out.2 (.inr ⟨P12.1 h12, P34.1 h34⟩)
      subst hm
      clear Hm P12 P34 S1 S2 S3 S4
      refine (spec_Sg n4 _).mono ?_
      rintro e w' ⟨rfl, rfl⟩
      generalize sgnI n4 = s4 at *
      dsimp only
      repeat (first | go_values | go_skip | go_guarded | go_step | go_upon | go_back)
      go_ret
      exact ⟨rfl, B4⟩
    · have NO := fun h : opp n1 n2 ∧ opp n3 n4 => h34 (P34.2 h.2)
      rcases S1 with ⟨z1, y1⟩ | ⟨z1, y1⟩
      · by_cases x1 : boxP ⟨ax, ay⟩ ⟨bx, bY⟩ ⟨cx, cy⟩
        · have hm : m = true := Hm.out.2 (.inl (.inl ⟨y1, x1⟩))
          subst hm
          rw [decide_eq_true x1] at O1
          clear Hm x1 y1 NO P12 P34
          refine (spec_Sg n4 _).mono ?_
          rintro e w' ⟨rfl, rfl⟩
          generalize sgnI n4 = s4 at *
          dsimp only
          repeat (first | go_values | go_skip | go_guarded | go_step | go_upon | go_back)
          refine (O1.out _).mono ?_
          rintro e w5 ⟨rfl, b5⟩
          have G5 := G4.below b5
          have B5 := B4.trans (b5.mono B4.size)
          obtain ⟨e05, e15⟩ := cells2z G5.p0; obtain ⟨f05, f15⟩ := cells2z G5.p1; obtain ⟨g05, g15⟩ := cells2z G5.p2; obtain ⟨d05, d15⟩ := cells2z G5.p3; dsimp only at e05 e15 f05 f15 g05 g15 d05 d15
          dsimp only
          repeat (first | go_values | go_skip | go_guarded | go_step | go_upon | go_back)
          go_ret
          exact ⟨rfl, B5⟩
        · have N1 := fun h : n1 = 0 ∧ boxP ⟨ax, ay⟩ ⟨bx, bY⟩ ⟨cx, cy⟩ => x1 h.2
          rw [decide_eq_false x1] at O1
          clear x1 y1
          rcases S2 with ⟨z2, y2⟩ | ⟨z2, y2⟩
          · by_cases x2 : boxP ⟨ax, ay⟩ ⟨bx, bY⟩ ⟨dx, dy⟩
            · have hm : m = true := Hm.out.2 (.inl (.inr (.inl ⟨y2, x2⟩)))
              subst hm
              rw [decide_eq_true x2] at O2
              clear Hm x2 y2 NO P12 P34
              refine (spec_Sg n4 _).mono ?_
              rintro e w' ⟨rfl, rfl⟩
              generalize sgnI n4 = s4 at *
              dsimp only
              repeat (first | go_values | go_skip | go_guarded | go_step | go_upon | go_back)
              refine (O1.out _).mono ?_
              rintro e w5 ⟨rfl, b5⟩
              have G5 := G4.below b5
              have B5 := B4.trans (b5.mono B4.size)
              obtain ⟨e05, e15⟩ := cells2z G5.p0; obtain ⟨f05, f15⟩ := cells2z G5.p1; obtain ⟨g05, g15⟩ := cells2z G5.p2; obtain ⟨d05, d15⟩ := cells2z G5.p3; dsimp only at e05 e15 f05 f15 g05 g15 d05 d15
              dsimp only
              repeat (first | go_values | go_skip | go_guarded | go_step | go_upon | go_back)
              refine (O2.out _).mono ?_
              rintro e w6 ⟨rfl, b6⟩
              have G6 := G5.below b6
              have B6 := B5.trans (b6.mono B5.size)
              obtain ⟨e06, e16⟩ := cells2z G6.p0; obtain ⟨f06, f16⟩ := cells2z G6.p1; obtain ⟨g06, g16⟩ := cells2z G6.p2; obtain ⟨d06, d16⟩ := cells2z G6.p3; dsimp only at e06 e16 f06 f16 g06 g16 d06 d16
              dsimp only
              repeat (first | go_values | go_skip | go_guarded | go_step | go_upon | go_back)
              go_ret
              exact ⟨rfl, B6⟩
            · have N2 := fun h : n2 = 0 ∧ boxP ⟨ax, ay⟩ ⟨bx, bY⟩ ⟨dx, dy⟩ => x2 h.2
              rw [decide_eq_false x2] at O2
              clear x2 y2
              rcases S3 with ⟨z3, y3⟩ | ⟨z3, y3⟩
              · by_cases x3 : boxP ⟨cx, cy⟩ ⟨dx, dy⟩ ⟨ax, ay⟩
                · have hm : m = true := Hm.out.2 (.inl (.inr (.inr (.inl ⟨y3, x3⟩))))
                  subst hm
                  rw [decide_eq_true x3] at O3
                  clear Hm x3 y3 NO P12 P34
                  refine (spec_Sg n4 _).mono ?_
                  rintro e w' ⟨rfl, rfl⟩
                  generalize sgnI n4 = s4 at *
                  dsimp only
                  repeat (first | go_values | go_skip | go_guarded | go_step | go_upon | go_back)
                  refine (O1.out _).mono ?_
                  rintro e w5 ⟨rfl, b5⟩
                  have G5 := G4.below b5
                  have B5 := B4.trans (b5.mono B4.size)
                  obtain ⟨e05, e15⟩ := cells2z G5.p0; obtain ⟨f05, f15⟩ := cells2z G5.p1; obtain ⟨g05, g15⟩ := cells2z G5.p2; obtain ⟨d05, d15⟩ := cells2z G5.p3; dsimp only at e05 e15 f05 f15 g05 g15 d05 d15
                  dsimp only
                  repeat (first | go_values | go_skip | go_guarded | go_step | go_upon | go_back)
                  refine (O2.out _).mono ?_
                  rintro e w6 ⟨rfl, b6⟩
                  have G6 := G5.below b6
                  have B6 := B5.trans (b6.mono B5.size)
                  obtain ⟨e06, e16⟩ := cells2z G6.p0; obtain ⟨f06, f16⟩ := cells2z G6.p1; obtain ⟨g06, g16⟩ := cells2z G6.p2; obtain ⟨d06, d16⟩ := cells2z G6.p3; dsimp only at e06 e16 f06 f16 g06 g16 d06 d16
                  dsimp only
                  repeat (first | go_values | go_skip | go_guarded | go_step | go_upon | go_back)
                  refine (O3.out _).mono ?_
                  rintro e w7 ⟨rfl, b7⟩
                  have G7 := G6.below b7
                  have B7 := B6.trans (b7.mono B6.size)
                  obtain ⟨e07, e17⟩ := cells2z G7.p0; obtain ⟨f07, f17⟩ := cells2z G7.p1; obtain ⟨g07, g17⟩ := cells2z G7.p2; obtain ⟨d07, d17⟩ := cells2z G7.p3; dsimp only at e07 e17 f07 f17 g07 g17 d07 d17
                  dsimp only
                  repeat (first | go_values | go_skip | go_guarded | go_step | go_upon | go_back)
                  go_ret
                  exact ⟨rfl, B7⟩
                · have N3 := fun h : n3 = 0 ∧ boxP ⟨cx, cy⟩ ⟨dx, dy⟩ ⟨ax, ay⟩ => x3 h.2
                  rw [decide_eq_false x3] at O3
                  clear x3 y3
                  rcases S4 with ⟨z4, y4⟩ | ⟨z4, y4⟩
                  · by_cases x4 : boxP ⟨cx, cy⟩ ⟨dx, dy⟩ ⟨bx, bY⟩
                    · have hm : m = true := Hm.out.2 (.inl (.inr (.inr (.inr ⟨y4, x4⟩))))
                      subst hm
                      rw [decide_eq_true x4] at O4
                      clear Hm x4 y4 NO P12 P34
                      refine (spec_Sg n4 _).mono ?_
                      rintro e w' ⟨rfl, rfl⟩
                      generalize sgnI n4 = s4 at *
                      dsimp only
                      repeat (first | go_values | go_skip | go_guarded | go_step | go_upon | go_back)
                      refine (O1.out _).mono ?_
                      rintro e w5 ⟨rfl, b5⟩
                      have G5 := G4.below b5
                      have B5 := B4.trans (b5.mono B4.size)
                      obtain ⟨e05, e15⟩ := cells2z G5.p0; obtain ⟨f05, f15⟩ := cells2z G5.p1; obtain ⟨g05, g15⟩ := cells2z G5.p2; obtain ⟨d05, d15⟩ := cells2z G5.p3; dsimp only at e05 e15 f05 f15 g05 g15 d05 d15
                      dsimp only
                      repeat (first | go_values | go_skip | go_guarded | go_step | go_upon | go_back)
                      refine (O2.out _).mono ?_
                      rintro e w6 ⟨rfl, b6⟩
                      have G6 := G5.below b6
                      have B6 := B5.trans (b6.mono B5.size)
                      obtain ⟨e06, e16⟩ := cells2z G6.p0; obtain ⟨f06, f16⟩ := cells2z G6.p1; obtain ⟨g06, g16⟩ := cells2z G6.p2; obtain ⟨d06, d16⟩ := cells2z G6.p3; dsimp only at e06 e16 f06 f16 g06 g16 d06 d16
                      dsimp only
                      repeat (first | go_values | go_skip | go_guarded | go_step | go_upon | go_back)
                      refine (O3.out _).mono ?_
                      rintro e w7 ⟨rfl, b7⟩
                      have G7 := G6.below b7
                      have B7 := B6.trans (b7.mono B6.size)
                      obtain ⟨e07, e17⟩ := cells2z G7.p0; obtain ⟨f07, f17⟩ := cells2z G7.p1; obtain ⟨g07, g17⟩ := cells2z G7.p2; obtain ⟨d07, d17⟩ := cells2z G7.p3; dsimp only at e07 e17 f07 f17 g07 g17 d07 d17
                      dsimp only
                      repeat (first | go_values | go_skip | go_guarded | go_step | go_upon | go_back)
                      refine (O4.out _).mono ?_
                      rintro e w8 ⟨rfl, b8⟩
                      have G8 := G7.below b8
                      have B8 := B7.trans (b8.mono B7.size)
                      obtain ⟨e08, e18⟩ := cells2z G8.p0; obtain ⟨f08, f18⟩ := cells2z G8.p1; obtain ⟨g08, g18⟩ := cells2z G8.p2; obtain ⟨d08, d18⟩ := cells2z G8.p3; dsimp only at e08 e18 f08 f18 g08 g18 d08 d18
                      dsimp only
                      repeat (first | go_values | go_skip | go_guarded | go_step | go_upon | go_back)
                      go_ret
                      exact ⟨rfl, B8⟩
                    · have N4 := fun h : n4 = 0 ∧ boxP ⟨cx, cy⟩ ⟨dx, dy⟩ ⟨bx, bY⟩ => x4 h.2
                      rw [decide_eq_false x4] at O4
                      clear x4 y4
                      have hm : m = false := by
                        rw [← Bool.not_eq_true]
                        intro h
                        rcases Hm.out.1 h with (h | h | h | h) | h
                        · exact N1 h
                        · exact N2 h
                        · exact N3 h
                        · exact N4 h
                        · exact NO h
                      subst hm
                      clear Hm N1 N2 N3 N4 NO P12 P34
                      refine (spec_Sg n4 _).mono ?_
                      rintro e w' ⟨rfl, rfl⟩
                      generalize sgnI n4 = s4 at *
                      dsimp only
                      repeat (first | go_values | go_skip | go_guarded | go_step | go_upon | go_back)
                      refine (O1.out _).mono ?_
                      rintro e w5 ⟨rfl, b5⟩
                      have G5 := G4.below b5
                      have B5 := B4.trans (b5.mono B4.size)
                      obtain ⟨e05, e15⟩ := cells2z G5.p0; obtain ⟨f05, f15⟩ := cells2z G5.p1; obtain ⟨g05, g15⟩ := cells2z G5.p2; obtain ⟨d05, d15⟩ := cells2z G5.p3; dsimp only at e05 e15 f05 f15 g05 g15 d05 d15
                      dsimp only
                      repeat (first | go_values | go_skip | go_guarded | go_step | go_upon | go_back)
                      refine (O2.out _).mono ?_
                      rintro e w6 ⟨rfl, b6⟩
                      have G6 := G5.below b6
                      have B6 := B5.trans (b6.mono B5.size)
                      obtain ⟨e06, e16⟩ := cells2z G6.p0; obtain ⟨f06, f16⟩ := cells2z G6.p1; obtain ⟨g06, g16⟩ := cells2z G6.p2; obtain ⟨d06, d16⟩ := cells2z G6.p3; dsimp only at e06 e16 f06 f16 g06 g16 d06 d16
                      dsimp only
                      repeat (first | go_values | go_skip | go_guarded | go_step | go_upon | go_back)
                      refine (O3.out _).mono ?_
                      rintro e w7 ⟨rfl, b7⟩
                      have G7 := G6.below b7
                      have B7 := B6.trans (b7.mono B6.size)
                      obtain ⟨e07, e17⟩ := cells2z G7.p0; obtain ⟨f07, f17⟩ := cells2z G7.p1; obtain ⟨g07, g17⟩ := cells2z G7.p2; obtain ⟨d07, d17⟩ := cells2z G7.p3; dsimp only at e07 e17 f07 f17 g07 g17 d07 d17
                      dsimp only
                      repeat (first | go_values | go_skip | go_guarded | go_step | go_upon | go_back)
                      refine (O4.out _).mono ?_
                      rintro e w8 ⟨rfl, b8⟩
                      have G8 := G7.below b8
                      have B8 := B7.trans (b8.mono B7.size)
                      obtain ⟨e08, e18⟩ := cells2z G8.p0; obtain ⟨f08, f18⟩ := cells2z G8.p1; obtain ⟨g08, g18⟩ := cells2z G8.p2; obtain ⟨d08, d18⟩ := cells2z G8.p3; dsimp only at e08 e18 f08 f18 g08 g18 d08 d18
                      dsimp only
                      repeat (first | go_values | go_skip | go_guarded | go_step | go_upon | go_back)
                      go_ret
                      exact ⟨rfl, B8⟩
                  · have N4 := fun h : n4 = 0 ∧ boxP ⟨cx, cy⟩ ⟨dx, dy⟩ ⟨bx, bY⟩ => y4 h.1
                    clear y4
                    have hm : m = false := by
                      rw [← Bool.not_eq_true]
                      intro h
                      rcases Hm.out.1 h with (h | h | h | h) | h
                      · exact N1 h
                      · exact N2 h
                      · exact N3 h
                      · exact N4 h
                      · exact NO h
                    subst hm
                    clear Hm N1 N2 N3 N4 NO P12 P34
                    refine (spec_Sg n4 _).mono ?_
                    rintro e w' ⟨rfl, rfl⟩
                    generalize sgnI n4 = s4 at *
                    dsimp only
                    repeat (first | go_values | go_skip | go_guarded | go_step | go_upon | go_back)
                    refine (O1.out _).mono ?_
                    rintro e w5 ⟨rfl, b5⟩
                    have G5 := G4.below b5
                    have B5 := B4.trans (b5.mono B4.size)
                    obtain ⟨e05, e15⟩ := cells2z G5.p0; obtain ⟨f05, f15⟩ := cells2z G5.p1; obtain ⟨g05, g15⟩ := cells2z G5.p2; obtain ⟨d05, d15⟩ := cells2z G5.p3; dsimp only at e05 e15 f05 f15 g05 g15 d05 d15
                    dsimp only
                    repeat (first | go_values | go_skip | go_guarded | go_step | go_upon | go_back)
                    refine (O2.out _).mono ?_
                    rintro e w6 ⟨rfl, b6⟩
                    have G6 := G5.below b6
                    have B6 := B5.trans (b6.mono B5.size)
                    obtain ⟨e06, e16⟩ := cells2z G6.p0; obtain ⟨f06, f16⟩ := cells2z G6.p1; obtain ⟨g06, g16⟩ := cells2z G6.p2; obtain ⟨d06, d16⟩ := cells2z G6.p3; dsimp only at e06 e16 f06 f16 g06 g16 d06 d16
                    dsimp only
                    repeat (first | go_values | go_skip | go_guarded | go_step | go_upon | go_back)
                    refine (O3.out _).mono ?_
                    rintro e w7 ⟨rfl, b7⟩
                    have G7 := G6.below b7
                    have B7 := B6.trans (b7.mono B6.size)
                    obtain ⟨e07, e17⟩ := cells2z G7.p0; obtain ⟨f07, f17⟩ := cells2z G7.p1; obtain ⟨g07, g17⟩ := cells2z G7.p2; obtain ⟨d07, d17⟩ := cells2z G7.p3; dsimp only at e07 e17 f07 f17 g07 g17 d07 d17
                    dsimp only
                    repeat (first | go_values | go_skip | go_guarded | go_step | go_upon | go_back)
                    go_ret
                    exact ⟨rfl, B7⟩
              · have N3 := fun h : n3 = 0 ∧ boxP ⟨cx, cy⟩ ⟨dx, dy⟩ ⟨ax, ay⟩ => y3 h.1
                clear y3
                rcases S4 with ⟨z4, y4⟩ | ⟨z4, y4⟩
                · by_cases x4 : boxP ⟨cx, cy⟩ ⟨dx, dy⟩ ⟨bx, bY⟩
                  · have hm : m = true := Hm.out.2 (.inl (.inr (.inr (.inr ⟨y4, x4⟩))))
                    subst hm
                    rw [decide_eq_true x4] at O4
                    clear Hm x4 y4 NO P12 P34
                    refine (spec_Sg n4 _).mono ?_
                    rintro e w' ⟨rfl, rfl⟩
                    generalize sgnI n4 = s4 at *
                    dsimp only
                    repeat (first | go_values | go_skip | go_guarded | go_step | go_upon | go_back)
                    refine (O1.out _).mono ?_
                    rintro e w5 ⟨rfl, b5⟩
                    have G5 := G4.below b5
                    have B5 := B4.trans (b5.mono B4.size)
                    obtain ⟨e05, e15⟩ := cells2z G5.p0; obtain ⟨f05, f15⟩ := cells2z G5.p1; obtain ⟨g05, g15⟩ := cells2z G5.p2; obtain ⟨d05, d15⟩ := cells2z G5.p3; dsimp only at e05 e15 f05 f15 g05 g15 d05 d15
                    dsimp only
                    repeat (first | go_values | go_skip | go_guarded | go_step | go_upon | go_back)
                    refine (O2.out _).mono ?_
                    rintro e w6 ⟨rfl, b6⟩
                    have G6 := G5.below b6
                    have B6 := B5.trans (b6.mono B5.size)
                    obtain ⟨e06, e16⟩ := cells2z G6.p0; obtain ⟨f06, f16⟩ := cells2z G6.p1; obtain ⟨g06, g16⟩ := cells2z G6.p2; obtain ⟨d06, d16⟩ := cells2z G6.p3; dsimp only at e06 e16 f06 f16 g06 g16 d06 d16
                    dsimp only
                    repeat (first | go_values | go_skip | go_guarded | go_step | go_upon | go_back)
                    refine (O4.out _).mono ?_
                    rintro e w7 ⟨rfl, b7⟩
                    have G7 := G6.below b7
                    have B7 := B6.trans (b7.mono B6.size)
                    obtain ⟨e07, e17⟩ := cells2z G7.p0; obtain ⟨f07, f17⟩ := cells2z G7.p1; obtain ⟨g07, g17⟩ := cells2z G7.p2; obtain ⟨d07, d17⟩ := cells2z G7.p3; dsimp only at e07 e17 f07 f17 g07 g17 d07 d17
                    dsimp only
                    repeat (first | go_values | go_skip | go_guarded | go_step | go_upon | go_back)
                    go_ret
                    exact ⟨rfl, B7⟩
                  · have N4 := fun h : n4 = 0 ∧ boxP ⟨cx, cy⟩ ⟨dx, dy⟩ ⟨bx, bY⟩ => x4 h.2
                    rw [decide_eq_false x4] at O4
                    clear x4 y4
                    have hm : m = false := by
                      rw [← Bool.not_eq_true]
                      intro h
                      rcases Hm.out.1 h with (h | h | h | h) | h
                      · exact N1 h
                      · exact N2 h
                      · exact N3 h
                      · exact N4 h
                      · exact NO h
                    subst hm
                    clear Hm N1 N2 N3 N4 NO P12 P34
                    refine (spec_Sg n4 _).mono ?_
                    rintro e w' ⟨rfl, rfl⟩
                    generalize sgnI n4 = s4 at *
                    dsimp only
                    repeat (first | go_values | go_skip | go_guarded | go_step | go_upon | go_back)
                    refine (O1.out _).mono ?_
                    rintro e w5 ⟨rfl, b5⟩
                    have G5 := G4.below b5
                    have B5 := B4.trans (b5.mono B4.size)
                    obtain ⟨e05, e15⟩ := cells2z G5.p0; obtain ⟨f05, f15⟩ := cells2z G5.p1; obtain ⟨g05, g15⟩ := cells2z G5.p2; obtain ⟨d05, d15⟩ := cells2z G5.p3; dsimp only at e05 e15 f05 f15 g05 g15 d05 d15
                    dsimp only
                    repeat (first | go_values | go_skip | go_guarded | go_step | go_upon | go_back)
                    refine (O2.out _).mono ?_
                    rintro e w6 ⟨rfl, b6⟩
                    have G6 := G5.below b6
                    have B6 := B5.trans (b6.mono B5.size)
                    obtain ⟨e06, e16⟩ := cells2z G6.p0; obtain ⟨f06, f16⟩ := cells2z G6.p1; obtain ⟨g06, g16⟩ := cells2z G6.p2; obtain ⟨d06, d16⟩ := cells2z G6.p3; dsimp only at e06 e16 f06 f16 g06 g16 d06 d16
                    dsimp only
                    repeat (first | go_values | go_skip | go_guarded | go_step | go_upon | go_back)
                    refine (O4.out _).mono ?_
                    rintro e w7 ⟨rfl, b7⟩
                    have G7 := G6.below b7
                    have B7 := B6.trans (b7.mono B6.size)
                    obtain ⟨e07, e17⟩ := cells2z G7.p0; obtain ⟨f07, f17⟩ := cells2z G7.p1; obtain ⟨g07, g17⟩ := cells2z G7.p2; obtain ⟨d07, d17⟩ := cells2z G7.p3; dsimp only at e07 e17 f07 f17 g07 g17 d07 d17
                    dsimp only
                    repeat (first | go_values | go_skip | go_guarded | go_step | go_upon | go_back)
                    go_ret
                    exact ⟨rfl, B7⟩
                · have N4 := fun h : n4 = 0 ∧ boxP ⟨cx, cy⟩ ⟨dx, dy⟩ ⟨bx, bY⟩ => y4 h.1
                  clear y4
                  have hm : m = false := by
                    rw [← Bool.not_eq_true]
                    intro h
                    rcases Hm.out.1 h with (h | h | h | h) | h
                    · exact N1 h
                    · exact N2 h
                    · exact N3 h
                    · exact N4 h
                    · exact NO h
                  subst hm
                  clear Hm N1 N2 N3 N4 NO P12 P34
                  refine (spec_Sg n4 _).mono ?_
                  rintro e w' ⟨rfl, rfl⟩
                  generalize sgnI n4 = s4 at *
                  dsimp only
                  repeat (first | go_values | go_skip | go_guarded | go_step | go_upon | go_back)
                  refine (O1.out _).mono ?_
                  rintro e w5 ⟨rfl, b5⟩
                  have G5 := G4.below b5
                  have B5 := B4.trans (b5.mono B4.size)
                  obtain ⟨e05, e15⟩ := cells2z G5.p0; obtain ⟨f05, f15⟩ := cells2z G5.p1; obtain ⟨g05, g15⟩ := cells2z G5.p2; obtain ⟨d05, d15⟩ := cells2z G5.p3; dsimp only at e05 e15 f05 f15 g05 g15 d05 d15
                  dsimp only
                  repeat (first | go_values | go_skip | go_guarded | go_step | go_upon | go_back)
                  refine (O2.out _).mono ?_
                  rintro e w6 ⟨rfl, b6⟩
                  have G6 := G5.below b6
                  have B6 := B5.trans (b6.mono B5.size)
                  obtain ⟨e06, e16⟩ := cells2z G6.p0; obtain ⟨f06, f16⟩ := cells2z G6.p1; obtain ⟨g06, g16⟩ := cells2z G6.p2; obtain ⟨d06, d16⟩ := cells2z G6.p3; dsimp only at e06 e16 f06 f16 g06 g16 d06 d16
                  dsimp only
                  repeat (first | go_values | go_skip | go_guarded | go_step | go_upon | go_back)
                  go_ret
                  exact ⟨rfl, B6⟩
          · have N2 := fun h : n2 = 0 ∧ boxP ⟨ax, ay⟩ ⟨bx, bY⟩ ⟨dx, dy⟩ => y2 h.1
            clear y2
            rcases S3 with ⟨z3, y3⟩ | ⟨z3, y3⟩
            · by_cases x3 : boxP ⟨cx, cy⟩ ⟨dx, dy⟩ ⟨ax, ay⟩
              · have hm : m = true := Hm.out.2 (.inl (.inr (.inr (.inl ⟨y3, x3⟩))))
                subst hm
                rw [decide_eq_true x3] at O3
                clear Hm x3 y3 NO P12 P34
                refine (spec_Sg n4 _).mono ?_
                rintro e w' ⟨rfl, rfl⟩
                generalize sgnI n4 = s4 at *
                dsimp only
                repeat (first | go_values | go_skip | go_guarded | go_step | go_upon | go_back)
                refine (O1.out _).mono ?_
                rintro e w5 ⟨rfl, b5⟩
                have G5 := G4.below b5
                have B5 := B4.trans (b5.mono B4.size)
                obtain ⟨e05, e15⟩ := cells2z G5.p0; obtain ⟨f05, f15⟩ := cells2z G5.p1; obtain ⟨g05, g15⟩ := cells2z G5.p2; obtain ⟨d05, d15⟩ := cells2z G5.p3; dsimp only at e05 e15 f05 f15 g05 g15 d05 d15
                dsimp only
                repeat (first | go_values | go_skip | go_guarded | go_step | go_upon | go_back)
                refine (O3.out _).mono ?_
                rintro e w6 ⟨rfl, b6⟩
                have G6 := G5.below b6
                have B6 := B5.trans (b6.mono B5.size)
                obtain ⟨e06, e16⟩ := cells2z G6.p0; obtain ⟨f06, f16⟩ := cells2z G6.p1; obtain ⟨g06, g16⟩ := cells2z G6.p2; obtain ⟨d06, d16⟩ := cells2z G6.p3; dsimp only at e06 e16 f06 f16 g06 g16 d06 d16
                dsimp only
                repeat (first | go_values | go_skip | go_guarded | go_step | go_upon | go_back)
                go_ret
                exact ⟨rfl, B6⟩
              · have N3 := fun h : n3 = 0 ∧ boxP ⟨cx, cy⟩ ⟨dx, dy⟩ ⟨ax, ay⟩ => x3 h.2
                rw [decide_eq_false x3] at O3
                clear x3 y3
                rcases S4 with ⟨z4, y4⟩ | ⟨z4, y4⟩
                · by_cases x4 : boxP ⟨cx, cy⟩ ⟨dx, dy⟩ ⟨bx, bY⟩
                  · have hm : m = true := Hm.out.2 (.inl (.inr (.inr (.inr ⟨y4, x4⟩))))
                    subst hm
                    rw [decide_eq_true x4] at O4
                    clear Hm x4 y4 NO P12 P34
                    refine (spec_Sg n4 _).mono ?_
                    rintro e w' ⟨rfl, rfl⟩
                    generalize sgnI n4 = s4 at *
                    dsimp only
                    repeat (first | go_values | go_skip | go_guarded | go_step | go_upon | go_back)
                    refine (O1.out _).mono ?_
                    rintro e w5 ⟨rfl, b5⟩
                    have G5 := G4.below b5
                    have B5 := B4.trans (b5.mono B4.size)
                    obtain ⟨e05, e15⟩ := cells2z G5.p0; obtain ⟨f05, f15⟩ := cells2z G5.p1; obtain ⟨g05, g15⟩ := cells2z G5.p2; obtain ⟨d05, d15⟩ := cells2z G5.p3; dsimp only at e05 e15 f05 f15 g05 g15 d05 d15
                    dsimp only
                    repeat (first | go_values | go_skip | go_guarded | go_step | go_upon | go_back)
                    refine (O3.out _).mono ?_
                    rintro e w6 ⟨rfl, b6⟩
                    have G6 := G5.below b6
                    have B6 := B5.trans (b6.mono B5.size)
                    obtain ⟨e06, e16⟩ := cells2z G6.p0; obtain ⟨f06, f16⟩ := cells2z G6.p1; obtain ⟨g06, g16⟩ := cells2z G6.p2; obtain ⟨d06, d16⟩ := cells2z G6.p3; dsimp only at e06 e16 f06 f16 g06 g16 d06 d16
                    dsimp only
                    repeat (first | go_values | go_skip | go_guarded | go_step | go_upon | go_back)
                    refine (O4.out _).mono ?_
                    rintro e w7 ⟨rfl, b7⟩
                    have G7 := G6.below b7
                    have B7 := B6.trans (b7.mono B6.size)
                    obtain ⟨e07, e17⟩ := cells2z G7.p0; obtain ⟨f07, f17⟩ := cells2z G7.p1; obtain ⟨g07, g17⟩ := cells2z G7.p2; obtain ⟨d07, d17⟩ := cells2z G7.p3; dsimp only at e07 e17 f07 f17 g07 g17 d07 d17
                    dsimp only
                    repeat (first | go_values | go_skip | go_guarded | go_step | go_upon | go_back)
                    go_ret
                    exact ⟨rfl, B7⟩
                  · have N4 := fun h : n4 = 0 ∧ boxP ⟨cx, cy⟩ ⟨dx, dy⟩ ⟨bx, bY⟩ => x4 h.2
                    rw [decide_eq_false x4] at O4
                    clear x4 y4
                    have hm : m = false := by
                      rw [← Bool.not_eq_true]
                      intro h
                      rcases Hm.out.1 h with (h | h | h | h) | h
                      · exact N1 h
                      · exact N2 h
                      · exact N3 h
                      · exact N4 h
                      · exact NO h
                    subst hm
                    clear Hm N1 N2 N3 N4 NO P12 P34
                    refine (spec_Sg n4 _).mono ?_
                    rintro e w' ⟨rfl, rfl⟩
                    generalize sgnI n4 = s4 at *
                    dsimp only
                    repeat (first | go_values | go_skip | go_guarded | go_step | go_upon | go_back)
                    refine (O1.out _).mono ?_
                    rintro e w5 ⟨rfl, b5⟩
                    have G5 := G4.below b5
                    have B5 := B4.trans (b5.mono B4.size)
                    obtain ⟨e05, e15⟩ := cells2z G5.p0; obtain ⟨f05, f15⟩ := cells2z G5.p1; obtain ⟨g05, g15⟩ := cells2z G5.p2; obtain ⟨d05, d15⟩ := cells2z G5.p3; dsimp only at e05 e15 f05 f15 g05 g15 d05 d15
                    dsimp only
                    repeat (first | go_values | go_skip | go_guarded | go_step | go_upon | go_back)
                    refine (O3.out _).mono ?_
                    rintro e w6 ⟨rfl, b6⟩
                    have G6 := G5.below b6
                    have B6 := B5.trans (b6.mono B5.size)
                    obtain ⟨e06, e16⟩ := cells2z G6.p0; obtain ⟨f06, f16⟩ := cells2z G6.p1; obtain ⟨g06, g16⟩ := cells2z G6.p2; obtain ⟨d06, d16⟩ := cells2z G6.p3; dsimp only at e06 e16 f06 f16 g06 g16 d06 d16
                    dsimp only
                    repeat (first | go_values | go_skip | go_guarded | go_step | go_upon | go_back)
                    refine (O4.out _).mono ?_
                    rintro e w7 ⟨rfl, b7⟩
                    have G7 := G6.below b7
                    have B7 := B6.trans (b7.mono B6.size)
                    obtain ⟨e07, e17⟩ := cells2z G7.p0; obtain ⟨f07, f17⟩ := cells2z G7.p1; obtain ⟨g07, g17⟩ := cells2z G7.p2; obtain ⟨d07, d17⟩ := cells2z G7.p3; dsimp only at e07 e17 f07 f17 g07 g17 d07 d17
                    dsimp only
                    repeat (first | go_values | go_skip | go_guarded | go_step | go_upon | go_back)
                    go_ret
                    exact ⟨rfl, B7⟩
                · have N4 := fun h : n4 = 0 ∧ boxP ⟨cx, cy⟩ ⟨dx, dy⟩ ⟨bx, bY⟩ => y4 h.1
                  clear y4
                  have hm : m = false := by
                    rw [← Bool.not_eq_true]
                    intro h
                    rcases Hm.out.1 h with (h | h | h | h) | h
                    · exact N1 h
                    · exact N2 h
                    · exact N3 h
                    · exact N4 h
                    · exact NO h
                  subst hm
                  clear Hm N1 N2 N3 N4 NO P12 P34
                  refine (spec_Sg n4 _).mono ?_
                  rintro e w' ⟨rfl, rfl⟩
                  generalize sgnI n4 = s4 at *
                  dsimp only
                  repeat (first | go_values | go_skip | go_guarded | go_step | go_upon | go_back)
                  refine (O1.out _).mono ?_
                  rintro e w5 ⟨rfl, b5⟩
                  have G5 := G4.below b5
                  have B5 := B4.trans (b5.mono B4.size)
                  obtain ⟨e05, e15⟩ := cells2z G5.p0; obtain ⟨f05, f15⟩ := cells2z G5.p1; obtain ⟨g05, g15⟩ := cells2z G5.p2; obtain ⟨d05, d15⟩ := cells2z G5.p3; dsimp only at e05 e15 f05 f15 g05 g15 d05 d15
                  dsimp only
                  repeat (first | go_values | go_skip | go_guarded | go_step | go_upon | go_back)
                  refine (O3.out _).mono ?_
                  rintro e w6 ⟨rfl, b6⟩
                  have G6 := G5.below b6
                  have B6 := B5.trans (b6.mono B5.size)
                  obtain ⟨e06, e16⟩ := cells2z G6.p0; obtain ⟨f06, f16⟩ := cells2z G6.p1; obtain ⟨g06, g16⟩ := cells2z G6.p2; obtain ⟨d06, d16⟩ := cells2z G6.p3; dsimp only at e06 e16 f06 f16 g06 g16 d06 d16
                  dsimp only
                  repeat (first | go_values | go_skip | go_guarded | go_step | go_upon | go_back)
                  go_ret
                  exact ⟨rfl, B6⟩
            · have N3 := fun h : n3 = 0 ∧ boxP ⟨cx, cy⟩ ⟨dx, dy⟩ ⟨ax, ay⟩ => y3 h.1
              clear y3
              rcases S4 with ⟨z4, y4⟩ | ⟨z4, y4⟩
              · by_cases x4 : boxP ⟨cx, cy⟩ ⟨dx, dy⟩ ⟨bx, bY⟩
                · have hm : m = true := Hm.out.2 (.inl (.inr (.inr (.inr ⟨y4, x4⟩))))
                  subst hm
                  rw [decide_eq_true x4] at O4
                  clear Hm x4 y4 NO P12 P34
                  refine (spec_Sg n4 _).mono ?_
                  rintro e w' ⟨rfl, rfl⟩
                  generalize sgnI n4 = s4 at *
                  dsimp only
                  repeat (first | go_values | go_skip | go_guarded | go_step | go_upon | go_back)
                  refine (O1.out _).mono ?_
                  rintro e w5 ⟨rfl, b5⟩
                  have G5 := G4.below b5
                  have B5 := B4.trans (b5.mono B4.size)
                  obtain ⟨e05, e15⟩ := cells2z G5.p0; obtain ⟨f05, f15⟩ := cells2z G5.p1; obtain ⟨g05, g15⟩ := cells2z G5.p2; obtain ⟨d05, d15⟩ := cells2z G5.p3; dsimp only at e05 e15 f05 f15 g05 g15 d05 d15
                  dsimp only
                  repeat (first | go_values | go_skip | go_guarded | go_step | go_upon | go_back)
                  refine (O4.out _).mono ?_
                  rintro e w6 ⟨rfl, b6⟩
                  have G6 := G5.below b6
                  have B6 := B5.trans (b6.mono B5.size)
                  obtain ⟨e06, e16⟩ := cells2z G6.p0; obtain ⟨f06, f16⟩ := cells2z G6.p1; obtain ⟨g06, g16⟩ := cells2z G6.p2; obtain ⟨d06, d16⟩ := cells2z G6.p3; dsimp only at e06 e16 f06 f16 g06 g16 d06 d16
                  dsimp only
                  repeat (first | go_values | go_skip | go_guarded | go_step | go_upon | go_back)
                  go_ret
                  exact ⟨rfl, B6⟩
                · have N4 := fun h : n4 = 0 ∧ boxP ⟨cx, cy⟩ ⟨dx, dy⟩ ⟨bx, bY⟩ => x4 h.2
                  rw [decide_eq_false x4] at O4
                  clear x4 y4
                  have hm : m = false := by
                    rw [← Bool.not_eq_true]
                    intro h
                    rcases Hm.out.1 h with (h | h | h | h) | h
                    · exact N1 h
                    · exact N2 h
                    · exact N3 h
                    · exact N4 h
                    · exact NO h
                  subst hm
                  clear Hm N1 N2 N3 N4 NO P12 P34
                  refine (spec_Sg n4 _).mono ?_
                  rintro e w' ⟨rfl, rfl⟩
                  generalize sgnI n4 = s4 at *
                  dsimp only
                  repeat (first | go_values | go_skip | go_guarded | go_step | go_upon | go_back)
                  refine (O1.out _).mono ?_
                  rintro e w5 ⟨rfl, b5⟩
                  have G5 := G4.below b5
                  have B5 := B4.trans (b5.mono B4.size)
                  obtain ⟨e05, e15⟩ := cells2z G5.p0; obtain ⟨f05, f15⟩ := cells2z G5.p1; obtain ⟨g05, g15⟩ := cells2z G5.p2; obtain ⟨d05, d15⟩ := cells2z G5.p3; dsimp only at e05 e15 f05 f15 g05 g15 d05 d15
                  dsimp only
                  repeat (first | go_values | go_skip | go_guarded | go_step | go_upon | go_back)
                  refine (O4.out _).mono ?_
                  rintro e w6 ⟨rfl, b6⟩
                  have G6 := G5.below b6
                  have B6 := B5.trans (b6.mono B5.size)
                  obtain ⟨e06, e16⟩ := cells2z G6.p0; obtain ⟨f06, f16⟩ := cells2z G6.p1; obtain ⟨g06, g16⟩ := cells2z G6.p2; obtain ⟨d06, d16⟩ := cells2z G6.p3; dsimp only at e06 e16 f06 f16 g06 g16 d06 d16
                  dsimp only
                  repeat (first | go_values | go_skip | go_guarded | go_step | go_upon | go_back)
                  go_ret
                  exact ⟨rfl, B6⟩
              · have N4 := fun h : n4 = 0 ∧ boxP ⟨cx, cy⟩ ⟨dx, dy⟩ ⟨bx, bY⟩ => y4 h.1
                clear y4
                have hm : m = false := by
                  rw [← Bool.not_eq_true]
                  intro h
                  rcases Hm.out.1 h with (h | h | h | h) | h
                  · exact N1 h
                  · exact N2 h
                  · exact N3 h
                  · exact N4 h
                  · exact NO h
                subst hm
                clear Hm N1 N2 N3 N4 NO P12 P34
                refine (spec_Sg n4 _).mono ?_
                rintro e w' ⟨rfl, rfl⟩
                generalize sgnI n4 = s4 at *
                dsimp only
                repeat (first | go_values | go_skip | go_guarded | go_step | go_upon | go_back)
                refine (O1.out _).mono ?_
                rintro e w5 ⟨rfl, b5⟩
                have G5 := G4.below b5
                have B5 := B4.trans (b5.mono B4.size)
                obtain ⟨e05, e15⟩ := cells2z G5.p0; obtain ⟨f05, f15⟩ := cells2z G5.p1; obtain ⟨g05, g15⟩ := cells2z G5.p2; obtain ⟨d05, d15⟩ := cells2z G5.p3; dsimp only at e05 e15 f05 f15 g05 g15 d05 d15
                dsimp only
                repeat (first | go_values | go_skip | go_guarded | go_step | go_upon | go_back)
                go_ret
                exact ⟨rfl, B5⟩
      · have N1 := fun h : n1 = 0 ∧ boxP ⟨ax, ay⟩ ⟨bx, bY⟩ ⟨cx, cy⟩ => y1 h.1
        clear y1
        rcases S2 with ⟨z2, y2⟩ | ⟨z2, y2⟩
        · by_cases x2 : boxP ⟨ax, ay⟩ ⟨bx, bY⟩ ⟨dx, dy⟩
          · have hm : m = true := Hm.out.2 (.inl (.inr (.inl ⟨y2, x2⟩)))
            subst hm
            rw [decide_eq_true x2] at O2
            clear Hm x2 y2 NO P12 P34
            refine (spec_Sg n4 _).mono ?_
            rintro e w' ⟨rfl, rfl⟩
            generalize sgnI n4 = s4 at *
            dsimp only
            repeat (first | go_values | go_skip | go_guarded | go_step | go_upon | go_back)
            refine (O2.out _).mono ?_
            rintro e w5 ⟨rfl, b5⟩
            have G5 := G4.below b5
            have B5 := B4.trans (b5.mono B4.size)
            obtain ⟨e05, e15⟩ := cells2z G5.p0; obtain ⟨f05, f15⟩ := cells2z G5.p1; obtain ⟨g05, g15⟩ := cells2z G5.p2; obtain ⟨d05, d15⟩ := cells2z G5.p3; dsimp only at e05 e15 f05 f15 g05 g15 d05 d15
            dsimp only
            repeat (first | go_values | go_skip | go_guarded | go_step | go_upon | go_back)
            go_ret
            exact ⟨rfl, B5⟩
          · have N2 := fun h : n2 = 0 ∧ boxP ⟨ax, ay⟩ ⟨bx, bY⟩ ⟨dx, dy⟩ => x2 h.2
            rw [decide_eq_false x2] at O2
            clear x2 y2
            rcases S3 with ⟨z3, y3⟩ | ⟨z3, y3⟩
            · by_cases x3 : boxP ⟨cx, cy⟩ ⟨dx, dy⟩ ⟨ax, ay⟩
              · have hm : m = true := Hm.out.2 (.inl (.inr (.inr (.inl ⟨y3, x3⟩))))
                subst hm
                rw [decide_eq_true x3] at O3
                clear Hm x3 y3 NO P12 P34
                refine (spec_Sg n4 _).mono ?_
                rintro e w' ⟨rfl, rfl⟩
                generalize sgnI n4 = s4 at *
                dsimp only
                repeat (first | go_values | go_skip | go_guarded | go_step | go_upon | go_back)
                refine (O2.out _).mono ?_
                rintro e w5 ⟨rfl, b5⟩
                have G5 := G4.below b5
                have B5 := B4.trans (b5.mono B4.size)
                obtain ⟨e05, e15⟩ := cells2z G5.p0; obtain ⟨f05, f15⟩ := cells2z G5.p1; obtain ⟨g05, g15⟩ := cells2z G5.p2; obtain ⟨d05, d15⟩ := cells2z G5.p3; dsimp only at e05 e15 f05 f15 g05 g15 d05 d15
                dsimp only
                repeat (first | go_values | go_skip | go_guarded | go_step | go_upon | go_back)
                refine (O3.out _).mono ?_
                rintro e w6 ⟨rfl, b6⟩
                have G6 := G5.below b6
                have B6 := B5.trans (b6.mono B5.size)
                obtain ⟨e06, e16⟩ := cells2z G6.p0; obtain ⟨f06, f16⟩ := cells2z G6.p1; obtain ⟨g06, g16⟩ := cells2z G6.p2; obtain ⟨d06, d16⟩ := cells2z G6.p3; dsimp only at e06 e16 f06 f16 g06 g16 d06 d16
                dsimp only
                repeat (first | go_values | go_skip | go_guarded | go_step | go_upon | go_back)
                go_ret
                exact ⟨rfl, B6⟩
              · have N3 := fun h : n3 = 0 ∧ boxP ⟨cx, cy⟩ ⟨dx, dy⟩ ⟨ax, ay⟩ => x3 h.2
                rw [decide_eq_false x3] at O3
                clear x3 y3
                rcases S4 with ⟨z4, y4⟩ | ⟨z4, y4⟩
                · by_cases x4 : boxP ⟨cx, cy⟩ ⟨dx, dy⟩ ⟨bx, bY⟩
                  · have hm : m = true := Hm.out.2 (.inl (.inr (.inr (.inr ⟨y4, x4⟩))))
                    subst hm
                    rw [decide_eq_true x4] at O4
                    clear Hm x4 y4 NO P12 P34
                    refine (spec_Sg n4 _).mono ?_
                    rintro e w' ⟨rfl, rfl⟩
                    generalize sgnI n4 = s4 at *
                    dsimp only
                    repeat (first | go_values | go_skip | go_guarded | go_step | go_upon | go_back)
                    refine (O2.out _).mono ?_
                    rintro e w5 ⟨rfl, b5⟩
                    have G5 := G4.below b5
                    have B5 := B4.trans (b5.mono B4.size)
                    obtain ⟨e05, e15⟩ := cells2z G5.p0; obtain ⟨f05, f15⟩ := cells2z G5.p1; obtain ⟨g05, g15⟩ := cells2z G5.p2; obtain ⟨d05, d15⟩ := cells2z G5.p3; dsimp only at e05 e15 f05 f15 g05 g15 d05 d15
                    dsimp only
                    repeat (first | go_values | go_skip | go_guarded | go_step | go_upon | go_back)
                    refine (O3.out _).mono ?_
                    rintro e w6 ⟨rfl, b6⟩
                    have G6 := G5.below b6
                    have B6 := B5.trans (b6.mono B5.size)
                    obtain ⟨e06, e16⟩ := cells2z G6.p0; obtain ⟨f06, f16⟩ := cells2z G6.p1; obtain ⟨g06, g16⟩ := cells2z G6.p2; obtain ⟨d06, d16⟩ := cells2z G6.p3; dsimp only at e06 e16 f06 f16 g06 g16 d06 d16
                    dsimp only
                    repeat (first | go_values | go_skip | go_guarded | go_step | go_upon | go_back)
                    refine (O4.out _).mono ?_
                    rintro e w7 ⟨rfl, b7⟩
                    have G7 := G6.below b7
                    have B7 := B6.trans (b7.mono B6.size)
                    obtain ⟨e07, e17⟩ := cells2z G7.p0; obtain ⟨f07, f17⟩ := cells2z G7.p1; obtain ⟨g07, g17⟩ := cells2z G7.p2; obtain ⟨d07, d17⟩ := cells2z G7.p3; dsimp only at e07 e17 f07 f17 g07 g17 d07 d17
                    dsimp only
                    repeat (first | go_values | go_skip | go_guarded | go_step | go_upon | go_back)
                    go_ret
                    exact ⟨rfl, B7⟩
                  · have N4 := fun h : n4 = 0 ∧ boxP ⟨cx, cy⟩ ⟨dx, dy⟩ ⟨bx, bY⟩ => x4 h.2
                    rw [decide_eq_false x4] at O4
                    clear x4 y4
                    have hm : m = false := by
                      rw [← Bool.not_eq_true]
                      intro h
                      rcases Hm.out.1 h with (h | h | h | h) | h
                      · exact N1 h
                      · exact N2 h
                      · exact N3 h
                      · exact N4 h
                      · exact NO h
                    subst hm
                    clear Hm N1 N2 N3 N4 NO P12 P34
                    refine (spec_Sg n4 _).mono ?_
                    rintro e w' ⟨rfl, rfl⟩
                    generalize sgnI n4 = s4 at *
                    dsimp only
                    repeat (first | go_values | go_skip | go_guarded | go_step | go_upon | go_back)
                    refine (O2.out _).mono ?_
                    rintro e w5 ⟨rfl, b5⟩
                    have G5 := G4.below b5
                    have B5 := B4.trans (b5.mono B4.size)
                    obtain ⟨e05, e15⟩ := cells2z G5.p0; obtain ⟨f05, f15⟩ := cells2z G5.p1; obtain ⟨g05, g15⟩ := cells2z G5.p2; obtain ⟨d05, d15⟩ := cells2z G5.p3; dsimp only at e05 e15 f05 f15 g05 g15 d05 d15
                    dsimp only
                    repeat (first | go_values | go_skip | go_guarded | go_step | go_upon | go_back)
                    refine (O3.out _).mono ?_
                    rintro e w6 ⟨rfl, b6⟩
                    have G6 := G5.below b6
                    have B6 := B5.trans (b6.mono B5.size)
                    obtain ⟨e06, e16⟩ := cells2z G6.p0; obtain ⟨f06, f16⟩ := cells2z G6.p1; obtain ⟨g06, g16⟩ := cells2z G6.p2; obtain ⟨d06, d16⟩ := cells2z G6.p3; dsimp only at e06 e16 f06 f16 g06 g16 d06 d16
                    dsimp only
                    repeat (first | go_values | go_skip | go_guarded | go_step | go_upon | go_back)
                    refine (O4.out _).mono ?_
                    rintro e w7 ⟨rfl, b7⟩
                    have G7 := G6.below b7
                    have B7 := B6.trans (b7.mono B6.size)
                    obtain ⟨e07, e17⟩ := cells2z G7.p0; obtain ⟨f07, f17⟩ := cells2z G7.p1; obtain ⟨g07, g17⟩ := cells2z G7.p2; obtain ⟨d07, d17⟩ := cells2z G7.p3; dsimp only at e07 e17 f07 f17 g07 g17 d07 d17
                    dsimp only
                    repeat (first | go_values | go_skip | go_guarded | go_step | go_upon | go_back)
                    go_ret
                    exact ⟨rfl, B7⟩
                · have N4 := fun h : n4 = 0 ∧ boxP ⟨cx, cy⟩ ⟨dx, dy⟩ ⟨bx, bY⟩ => y4 h.1
                  clear y4
                  have hm : m = false := by
                    rw [← Bool.not_eq_true]
                    intro h
                    rcases Hm.out.1 h with (h | h | h | h) | h
                    · exact N1 h
                    · exact N2 h
                    · exact N3 h
                    · exact N4 h
                    · exact NO h
                  subst hm
                  clear Hm N1 N2 N3 N4 NO P12 P34
                  refine (spec_Sg n4 _).mono ?_
                  rintro e w' ⟨rfl, rfl⟩
                  generalize sgnI n4 = s4 at *
                  dsimp only
                  repeat (first | go_values | go_skip | go_guarded | go_step | go_upon | go_back)
                  refine (O2.out _).mono ?_
                  rintro e w5 ⟨rfl, b5⟩
                  have G5 := G4.below b5
                  have B5 := B4.trans (b5.mono B4.size)
                  obtain ⟨e05, e15⟩ := cells2z G5.p0; obtain ⟨f05, f15⟩ := cells2z G5.p1; obtain ⟨g05, g15⟩ := cells2z G5.p2; obtain ⟨d05, d15⟩ := cells2z G5.p3; dsimp only at e05 e15 f05 f15 g05 g15 d05 d15
                  dsimp only
                  repeat (first | go_values | go_skip | go_guarded | go_step | go_upon | go_back)
                  refine (O3.out _).mono ?_
                  rintro e w6 ⟨rfl, b6⟩
                  have G6 := G5.below b6
                  have B6 := B5.trans (b6.mono B5.size)
                  obtain ⟨e06, e16⟩ := cells2z G6.p0; obtain ⟨f06, f16⟩ := cells2z G6.p1; obtain ⟨g06, g16⟩ := cells2z G6.p2; obtain ⟨d06, d16⟩ := cells2z G6.p3; dsimp only at e06 e16 f06 f16 g06 g16 d06 d16
                  dsimp only
                  repeat (first | go_values | go_skip | go_guarded | go_step | go_upon | go_back)
                  go_ret
                  exact ⟨rfl, B6⟩
            · have N3 := fun h : n3 = 0 ∧ boxP ⟨cx, cy⟩ ⟨dx, dy⟩ ⟨ax, ay⟩ => y3 h.1
              clear y3
              rcases S4 with ⟨z4, y4⟩ | ⟨z4, y4⟩
              · by_cases x4 : boxP ⟨cx, cy⟩ ⟨dx, dy⟩ ⟨bx, bY⟩
                · have hm : m = true := Hm.out.2 (.inl (.inr (.inr (.inr ⟨y4, x4⟩))))
                  subst hm
                  rw [decide_eq_true x4] at O4
                  clear Hm x4 y4 NO P12 P34
                  refine (spec_Sg n4 _).mono ?_
                  rintro e w' ⟨rfl, rfl⟩
                  generalize sgnI n4 = s4 at *
                  dsimp only
                  repeat (first | go_values | go_skip | go_guarded | go_step | go_upon | go_back)
                  refine (O2.out _).mono ?_
                  rintro e w5 ⟨rfl, b5⟩
                  have G5 := G4.below b5
                  have B5 := B4.trans (b5.mono B4.size)
                  obtain ⟨e05, e15⟩ := cells2z G5.p0; obtain ⟨f05, f15⟩ := cells2z G5.p1; obtain ⟨g05, g15⟩ := cells2z G5.p2; obtain ⟨d05, d15⟩ := cells2z G5.p3; dsimp only at e05 e15 f05 f15 g05 g15 d05 d15
                  dsimp only
                  repeat (first | go_values | go_skip | go_guarded | go_step | go_upon | go_back)
                  refine (O4.out _).mono ?_
                  rintro e w6 ⟨rfl, b6⟩
                  have G6 := G5.below b6
                  have B6 := B5.trans (b6.mono B5.size)
                  obtain ⟨e06, e16⟩ := cells2z G6.p0; obtain ⟨f06, f16⟩ := cells2z G6.p1; obtain ⟨g06, g16⟩ := cells2z G6.p2; obtain ⟨d06, d16⟩ := cells2z G6.p3; dsimp only at e06 e16 f06 f16 g06 g16 d06 d16
                  dsimp only
                  repeat (first | go_values | go_skip | go_guarded | go_step | go_upon | go_back)
                  go_ret
                  exact ⟨rfl, B6⟩
                · have N4 := fun h : n4 = 0 ∧ boxP ⟨cx, cy⟩ ⟨dx, dy⟩ ⟨bx, bY⟩ => x4 h.2
                  rw [decide_eq_false x4] at O4
                  clear x4 y4
                  have hm : m = false := by
                    rw [← Bool.not_eq_true]
                    intro h
                    rcases Hm.out.1 h with (h | h | h | h) | h
                    · exact N1 h
                    · exact N2 h
                    · exact N3 h
                    · exact N4 h
                    · exact NO h
                  subst hm
                  clear Hm N1 N2 N3 N4 NO P12 P34
                  refine (spec_Sg n4 _).mono ?_
                  rintro e w' ⟨rfl, rfl⟩
                  generalize sgnI n4 = s4 at *
                  dsimp only
                  repeat (first | go_values | go_skip | go_guarded | go_step | go_upon | go_back)
                  refine (O2.out _).mono ?_
                  rintro e w5 ⟨rfl, b5⟩
                  have G5 := G4.below b5
                  have B5 := B4.trans (b5.mono B4.size)
                  obtain ⟨e05, e15⟩ := cells2z G5.p0; obtain ⟨f05, f15⟩ := cells2z G5.p1; obtain ⟨g05, g15⟩ := cells2z G5.p2; obtain ⟨d05, d15⟩ := cells2z G5.p3; dsimp only at e05 e15 f05 f15 g05 g15 d05 d15
                  dsimp only
                  repeat (first | go_values | go_skip | go_guarded | go_step | go_upon | go_back)
                  refine (O4.out _).mono ?_
                  rintro e w6 ⟨rfl, b6⟩
                  have G6 := G5.below b6
                  have B6 := B5.trans (b6.mono B5.size)
                  obtain ⟨e06, e16⟩ := cells2z G6.p0; obtain ⟨f06, f16⟩ := cells2z G6.p1; obtain ⟨g06, g16⟩ := cells2z G6.p2; obtain ⟨d06, d16⟩ := cells2z G6.p3; dsimp only at e06 e16 f06 f16 g06 g16 d06 d16
                  dsimp only
                  repeat (first | go_values | go_skip | go_guarded | go_step | go_upon | go_back)
                  go_ret
                  exact ⟨rfl, B6⟩
              · have N4 := fun h : n4 = 0 ∧ boxP ⟨cx, cy⟩ ⟨dx, dy⟩ ⟨bx, bY⟩ => y4 h.1
                clear y4
                have hm : m = false := by
                  rw [← Bool.not_eq_true]
                  intro h
                  rcases Hm.out.1 h with (h | h | h | h) | h
                  · exact N1 h
                  · exact N2 h
                  · exact N3 h
                  · exact N4 h
                  · exact NO h
                subst hm
                clear Hm N1 N2 N3 N4 NO P12 P34
                refine (spec_Sg n4 _).mono ?_
                rintro e w' ⟨rfl, rfl⟩
                generalize sgnI n4 = s4 at *
                dsimp only
                repeat (first | go_values | go_skip | go_guarded | go_step | go_upon | go_back)
                refine (O2.out _).mono ?_
                rintro e w5 ⟨rfl, b5⟩
                have G5 := G4.below b5
                have B5 := B4.trans (b5.mono B4.size)
                obtain ⟨e05, e15⟩ := cells2z G5.p0; obtain ⟨f05, f15⟩ := cells2z G5.p1; obtain ⟨g05, g15⟩ := cells2z G5.p2; obtain ⟨d05, d15⟩ := cells2z G5.p3; dsimp only at e05 e15 f05 f15 g05 g15 d05 d15
                dsimp only
                repeat (first | go_values | go_skip | go_guarded | go_step | go_upon | go_back)
                go_ret
                exact ⟨rfl, B5⟩
        · have N2 := fun h : n2 = 0 ∧ boxP ⟨ax, ay⟩ ⟨bx, bY⟩ ⟨dx, dy⟩ => y2 h.1
          clear y2
          rcases S3 with ⟨z3, y3⟩ | ⟨z3, y3⟩
          · by_cases x3 : boxP ⟨cx, cy⟩ ⟨dx, dy⟩ ⟨ax, ay⟩
            · have hm : m = true := Hm.out.2 (.inl (.inr (.inr (.inl ⟨y3, x3⟩))))
              subst hm
              rw [decide_eq_true x3] at O3
              clear Hm x3 y3 NO P12 P34
              refine (spec_Sg n4 _).mono ?_
              rintro e w' ⟨rfl, rfl⟩
              generalize sgnI n4 = s4 at *
              dsimp only
              repeat (first | go_values | go_skip | go_guarded | go_step | go_upon | go_back)
              refine (O3.out _).mono ?_
              rintro e w5 ⟨rfl, b5⟩
              have G5 := G4.below b5
              have B5 := B4.trans (b5.mono B4.size)
              obtain ⟨e05, e15⟩ := cells2z G5.p0; obtain ⟨f05, f15⟩ := cells2z G5.p1; obtain ⟨g05, g15⟩ := cells2z G5.p2; obtain ⟨d05, d15⟩ := cells2z G5.p3; dsimp only at e05 e15 f05 f15 g05 g15 d05 d15
              dsimp only
              repeat (first | go_values | go_skip | go_guarded | go_step | go_upon | go_back)
              go_ret
              exact ⟨rfl, B5⟩
            · have N3 := fun h : n3 = 0 ∧ boxP ⟨cx, cy⟩ ⟨dx, dy⟩ ⟨ax, ay⟩ => x3 h.2
              rw [decide_eq_false x3] at O3
              clear x3 y3
              rcases S4 with ⟨z4, y4⟩ | ⟨z4, y4⟩
              · by_cases x4 : boxP ⟨cx, cy⟩ ⟨dx, dy⟩ ⟨bx, bY⟩
                · have hm : m = true := Hm.out.2 (.inl (.inr (.inr (.inr ⟨y4, x4⟩))))
                  subst hm
                  rw [decide_eq_true x4] at O4
                  clear Hm x4 y4 NO P12 P34
                  refine (spec_Sg n4 _).mono ?_
                  rintro e w' ⟨rfl, rfl⟩
                  generalize sgnI n4 = s4 at *
                  dsimp only
                  repeat (first | go_values | go_skip | go_guarded | go_step | go_upon | go_back)
                  refine (O3.out _).mono ?_
                  rintro e w5 ⟨rfl, b5⟩
                  have G5 := G4.below b5
                  have B5 := B4.trans (b5.mono B4.size)
                  obtain ⟨e05, e15⟩ := cells2z G5.p0; obtain ⟨f05, f15⟩ := cells2z G5.p1; obtain ⟨g05, g15⟩ := cells2z G5.p2; obtain ⟨d05, d15⟩ := cells2z G5.p3; dsimp only at e05 e15 f05 f15 g05 g15 d05 d15
                  dsimp only
                  repeat (first | go_values | go_skip | go_guarded | go_step | go_upon | go_back)
                  refine (O4.out _).mono ?_
                  rintro e w6 ⟨rfl, b6⟩
                  have G6 := G5.below b6
                  have B6 := B5.trans (b6.mono B5.size)
                  obtain ⟨e06, e16⟩ := cells2z G6.p0; obtain ⟨f06, f16⟩ := cells2z G6.p1; obtain ⟨g06, g16⟩ := cells2z G6.p2; obtain ⟨d06, d16⟩ := cells2z G6.p3; dsimp only at e06 e16 f06 f16 g06 g16 d06 d16
                  dsimp only
                  repeat (first | go_values | go_skip | go_guarded | go_step | go_upon | go_back)
                  go_ret
                  exact ⟨rfl, B6⟩
                · have N4 := fun h : n4 = 0 ∧ boxP ⟨cx, cy⟩ ⟨dx, dy⟩ ⟨bx, bY⟩ => x4 h.2
                  rw [decide_eq_false x4] at O4
                  clear x4 y4
                  have hm : m = false := by
                    rw [← Bool.not_eq_true]
                    intro h
                    rcases Hm.out.1 h with (h | h | h | h) | h
                    · exact N1 h
                    · exact N2 h
                    · exact N3 h
                    · exact N4 h
                    · exact NO h
                  subst hm
                  clear Hm N1 N2 N3 N4 NO P12 P34
                  refine (spec_Sg n4 _).mono ?_
                  rintro e w' ⟨rfl, rfl⟩
                  generalize sgnI n4 = s4 at *
                  dsimp only
                  repeat (first | go_values | go_skip | go_guarded | go_step | go_upon | go_back)
                  refine (O3.out _).mono ?_
                  rintro e w5 ⟨rfl, b5⟩
                  have G5 := G4.below b5
                  have B5 := B4.trans (b5.mono B4.size)
                  obtain ⟨e05, e15⟩ := cells2z G5.p0; obtain ⟨f05, f15⟩ := cells2z G5.p1; obtain ⟨g05, g15⟩ := cells2z G5.p2; obtain ⟨d05, d15⟩ := cells2z G5.p3; dsimp only at e05 e15 f05 f15 g05 g15 d05 d15
                  dsimp only
                  repeat (first | go_values | go_skip | go_guarded | go_step | go_upon | go_back)
                  refine (O4.out _).mono ?_
                  rintro e w6 ⟨rfl, b6⟩
                  have G6 := G5.below b6
                  have B6 := B5.trans (b6.mono B5.size)
                  obtain ⟨e06, e16⟩ := cells2z G6.p0; obtain ⟨f06, f16⟩ := cells2z G6.p1; obtain ⟨g06, g16⟩ := cells2z G6.p2; obtain ⟨d06, d16⟩ := cells2z G6.p3; dsimp only at e06 e16 f06 f16 g06 g16 d06 d16
                  dsimp only
                  repeat (first | go_values | go_skip | go_guarded | go_step | go_upon | go_back)
                  go_ret
                  exact ⟨rfl, B6⟩
              · have N4 := fun h : n4 = 0 ∧ boxP ⟨cx, cy⟩ ⟨dx, dy⟩ ⟨bx, bY⟩ => y4 h.1
                clear y4
                have hm : m = false := by
                  rw [← Bool.not_eq_true]
                  intro h
                  rcases Hm.out.1 h with (h | h | h | h) | h
                  · exact N1 h
                  · exact N2 h
                  · exact N3 h
                  · exact N4 h
                  · exact NO h
                subst hm
                clear Hm N1 N2 N3 N4 NO P12 P34
                refine (spec_Sg n4 _).mono ?_
                rintro e w' ⟨rfl, rfl⟩
                generalize sgnI n4 = s4 at *
                dsimp only
                repeat (first | go_values | go_skip | go_guarded | go_step | go_upon | go_back)
                refine (O3.out _).mono ?_
                rintro e w5 ⟨rfl, b5⟩
                have G5 := G4.below b5
                have B5 := B4.trans (b5.mono B4.size)
                obtain ⟨e05, e15⟩ := cells2z G5.p0; obtain ⟨f05, f15⟩ := cells2z G5.p1; obtain ⟨g05, g15⟩ := cells2z G5.p2; obtain ⟨d05, d15⟩ := cells2z G5.p3; dsimp only at e05 e15 f05 f15 g05 g15 d05 d15
                dsimp only
                repeat (first | go_values | go_skip | go_guarded | go_step | go_upon | go_back)
                go_ret
                exact ⟨rfl, B5⟩
          · have N3 := fun h : n3 = 0 ∧ boxP ⟨cx, cy⟩ ⟨dx, dy⟩ ⟨ax, ay⟩ => y3 h.1
            clear y3
            rcases S4 with ⟨z4, y4⟩ | ⟨z4, y4⟩
            · by_cases x4 : boxP ⟨cx, cy⟩ ⟨dx, dy⟩ ⟨bx, bY⟩
              · have hm : m = true := Hm.out.2 (.inl (.inr (.inr (.inr ⟨y4, x4⟩))))
                subst hm
                rw [decide_eq_true x4] at O4
                clear Hm x4 y4 NO P12 P34
                refine (spec_Sg n4 _).mono ?_
                rintro e w' ⟨rfl, rfl⟩
                generalize sgnI n4 = s4 at *
                dsimp only
                repeat (first | go_values | go_skip | go_guarded | go_step | go_upon | go_back)
                refine (O4.out _).mono ?_
                rintro e w5 ⟨rfl, b5⟩
                have G5 := G4.below b5
                have B5 := B4.trans (b5.mono B4.size)
                obtain ⟨e05, e15⟩ := cells2z G5.p0; obtain ⟨f05, f15⟩ := cells2z G5.p1; obtain ⟨g05, g15⟩ := cells2z G5.p2; obtain ⟨d05, d15⟩ := cells2z G5.p3; dsimp only at e05 e15 f05 f15 g05 g15 d05 d15
                dsimp only
                repeat (first | go_values | go_skip | go_guarded | go_step | go_upon | go_back)
                go_ret
                exact ⟨rfl, B5⟩
              · have N4 := fun h : n4 = 0 ∧ boxP ⟨cx, cy⟩ ⟨dx, dy⟩ ⟨bx, bY⟩ => x4 h.2
                rw [decide_eq_false x4] at O4
                clear x4 y4
                have hm : m = false := by
                  rw [← Bool.not_eq_true]
                  intro h
                  rcases Hm.out.1 h with (h | h | h | h) | h
                  · exact N1 h
                  · exact N2 h
                  · exact N3 h
                  · exact N4 h
                  · exact NO h
                subst hm
                clear Hm N1 N2 N3 N4 NO P12 P34
                refine (spec_Sg n4 _).mono ?_
                rintro e w' ⟨rfl, rfl⟩
                generalize sgnI n4 = s4 at *
                dsimp only
                repeat (first | go_values | go_skip | go_guarded | go_step | go_upon | go_back)
                refine (O4.out _).mono ?_
                rintro e w5 ⟨rfl, b5⟩
                have G5 := G4.below b5
                have B5 := B4.trans (b5.mono B4.size)
                obtain ⟨e05, e15⟩ := cells2z G5.p0; obtain ⟨f05, f15⟩ := cells2z G5.p1; obtain ⟨g05, g15⟩ := cells2z G5.p2; obtain ⟨d05, d15⟩ := cells2z G5.p3; dsimp only at e05 e15 f05 f15 g05 g15 d05 d15
                dsimp only
                repeat (first | go_values | go_skip | go_guarded | go_step | go_upon | go_back)
                go_ret
                exact ⟨rfl, B5⟩
            · have N4 := fun h : n4 = 0 ∧ boxP ⟨cx, cy⟩ ⟨dx, dy⟩ ⟨bx, bY⟩ => y4 h.1
              clear y4
              have hm : m = false := by
                rw [← Bool.not_eq_true]
                intro h
                rcases Hm.out.1 h with (h | h | h | h) | h
                · exact N1 h
                · exact N2 h
                · exact N3 h
                · exact N4 h
                · exact NO h
              subst hm
              clear Hm N1 N2 N3 N4 NO P12 P34
              refine (spec_Sg n4 _).mono ?_
              rintro e w' ⟨rfl, rfl⟩
              generalize sgnI n4 = s4 at *
              dsimp only
              repeat (first | go_values | go_skip | go_guarded | go_step | go_upon | go_back)
              go_ret
              exact ⟨rfl, B4⟩
  · have NO := fun h : opp n1 n2 ∧ opp n3 n4 => h12 (P12.2 h.1)
    rcases S1 with ⟨z1, y1⟩ | ⟨z1, y1⟩
    · by_cases x1 : boxP ⟨ax, ay⟩ ⟨bx, bY⟩ ⟨cx, cy⟩
      · have hm : m = true := Hm.out.2 (.inl (.inl ⟨y1, x1⟩))
        subst hm
        rw [decide_eq_true x1] at O1
        clear Hm x1 y1 NO P12 P34
        refine (spec_Sg n4 _).mono ?_
        rintro e w' ⟨rfl, rfl⟩
        generalize sgnI n4 = s4 at *
        dsimp only
        repeat (first | go_values | go_skip | go_guarded | go_step | go_upon | go_back)
        refine (O1.out _).mono ?_
        rintro e w5 ⟨rfl, b5⟩
        have G5 := G4.below b5
        have B5 := B4.trans (b5.mono B4.size)
        obtain ⟨e05, e15⟩ := cells2z G5.p0; obtain ⟨f05, f15⟩ := cells2z G5.p1; obtain ⟨g05, g15⟩ := cells2z G5.p2; obtain ⟨d05, d15⟩ := cells2z G5.p3; dsimp only at e05 e15 f05 f15 g05 g15 d05 d15
        dsimp only
        repeat (first | go_values | go_skip | go_guarded | go_step | go_upon | go_back)
        go_ret
        exact ⟨rfl, B5⟩
      · have N1 := fun h : n1 = 0 ∧ boxP ⟨ax, ay⟩ ⟨bx, bY⟩ ⟨cx, cy⟩ => x1 h.2
        rw [decide_eq_false x1] at O1
        clear x1 y1
        rcases S2 with ⟨z2, y2⟩ | ⟨z2, y2⟩
        · by_cases x2 : boxP ⟨ax, ay⟩ ⟨bx, bY⟩ ⟨dx, dy⟩
          · have hm : m = true := Hm.out.2 (.inl (.inr (.inl ⟨y2, x2⟩)))
            subst hm
            rw [decide_eq_true x2] at O2
            clear Hm x2 y2 NO P12 P34
            refine (spec_Sg n4 _).mono ?_
            rintro e w' ⟨rfl, rfl⟩
            generalize sgnI n4 = s4 at *
            dsimp only
            repeat (first | go_values | go_skip | go_guarded | go_step | go_upon | go_back)
            refine (O1.out _).mono ?_
            rintro e w5 ⟨rfl, b5⟩
            have G5 := G4.below b5
            have B5 := B4.trans (b5.mono B4.size)
            obtain ⟨e05, e15⟩ := cells2z G5.p0; obtain ⟨f05, f15⟩ := cells2z G5.p1; obtain ⟨g05, g15⟩ := cells2z G5.p2; obtain ⟨d05, d15⟩ := cells2z G5.p3; dsimp only at e05 e15 f05 f15 g05 g15 d05 d15
            dsimp only
            repeat (first | go_values | go_skip | go_guarded | go_step | go_upon | go_back)
            refine (O2.out _).mono ?_
            rintro e w6 ⟨rfl, b6⟩
            have G6 := G5.below b6
            have B6 := B5.trans (b6.mono B5.size)
            obtain ⟨e06, e16⟩ := cells2z G6.p0; obtain ⟨f06, f16⟩ := cells2z G6.p1; obtain ⟨g06, g16⟩ := cells2z G6.p2; obtain ⟨d06, d16⟩ := cells2z G6.p3; dsimp only at e06 e16 f06 f16 g06 g16 d06 d16
            dsimp only
            repeat (first | go_values | go_skip | go_guarded | go_step | go_upon | go_back)
            go_ret
            exact ⟨rfl, B6⟩
          · have N2 := fun h : n2 = 0 ∧ boxP ⟨ax, ay⟩ ⟨bx, bY⟩ ⟨dx, dy⟩ => x2 h.2
            rw [decide_eq_false x2] at O2
            clear x2 y2
            rcases S3 with ⟨z3, y3⟩ | ⟨z3, y3⟩
            · by_cases x3 : boxP ⟨cx, cy⟩ ⟨dx, dy⟩ ⟨ax, ay⟩
              · have hm : m = true := Hm.out.2 (.inl (.inr (.inr (.inl ⟨y3, x3⟩))))
                subst hm
                rw [decide_eq_true x3] at O3
                clear Hm x3 y3 NO P12 P34
                refine (spec_Sg n4 _).mono ?_
                rintro e w' ⟨rfl, rfl⟩
                generalize sgnI n4 = s4 at *
                dsimp only
                repeat (first | go_values | go_skip | go_guarded | go_step | go_upon | go_back)
                refine (O1.out _).mono ?_
                rintro e w5 ⟨rfl, b5⟩
                have G5 := G4.below b5
                have B5 := B4.trans (b5.mono B4.size)
                obtain ⟨e05, e15⟩ := cells2z G5.p0; obtain ⟨f05, f15⟩ := cells2z G5.p1; obtain ⟨g05, g15⟩ := cells2z G5.p2; obtain ⟨d05, d15⟩ := cells2z G5.p3; dsimp only at e05 e15 f05 f15 g05 g15 d05 d15
                dsimp only
                repeat (first | go_values | go_skip | go_guarded | go_step | go_upon | go_back)
                refine (O2.out _).mono ?_
                rintro e w6 ⟨rfl, b6⟩
                have G6 := G5.below b6
                have B6 := B5.trans (b6.mono B5.size)
                obtain ⟨e06, e16⟩ := cells2z G6.p0; obtain ⟨f06, f16⟩ := cells2z G6.p1; obtain ⟨g06, g16⟩ := cells2z G6.p2; obtain ⟨d06, d16⟩ := cells2z G6.p3; dsimp only at e06 e16 f06 f16 g06 g16 d06 d16
                dsimp only
                repeat (first | go_values | go_skip | go_guarded | go_step | go_upon | go_back)
                refine (O3.out _).mono ?_
                rintro e w7 ⟨rfl, b7⟩
                have G7 := G6.below b7
                have B7 := B6.trans (b7.mono B6.size)
                obtain ⟨e07, e17⟩ := cells2z G7.p0; obtain ⟨f07, f17⟩ := cells2z G7.p1; obtain ⟨g07, g17⟩ := cells2z G7.p2; obtain ⟨d07, d17⟩ := cells2z G7.p3; dsimp only at e07 e17 f07 f17 g07 g17 d07 d17
                dsimp only
                repeat (first | go_values | go_skip | go_guarded | go_step | go_upon | go_back)
                go_ret
                exact ⟨rfl, B7⟩
              · have N3 := fun h : n3 = 0 ∧ boxP ⟨cx, cy⟩ ⟨dx, dy⟩ ⟨ax, ay⟩ => x3 h.2
                rw [decide_eq_false x3] at O3
                clear x3 y3
                rcases S4 with ⟨z4, y4⟩ | ⟨z4, y4⟩
                · by_cases x4 : boxP ⟨cx, cy⟩ ⟨dx, dy⟩ ⟨bx, bY⟩
                  · have hm : m = true := Hm.out.2 (.inl (.inr (.inr (.inr ⟨y4, x4⟩))))
                    subst hm
                    rw [decide_eq_true x4] at O4
                    clear Hm x4 y4 NO P12 P34
                    refine (spec_Sg n4 _).mono ?_
                    rintro e w' ⟨rfl, rfl⟩
                    generalize sgnI n4 = s4 at *
                    dsimp only
                    repeat (first | go_values | go_skip | go_guarded | go_step | go_upon | go_back)
                    refine (O1.out _).mono ?_
                    rintro e w5 ⟨rfl, b5⟩
                    have G5 := G4.below b5
                    have B5 := B4.trans (b5.mono B4.size)
                    obtain ⟨e05, e15⟩ := cells2z G5.p0; obtain ⟨f05, f15⟩ := cells2z G5.p1; obtain ⟨g05, g15⟩ := cells2z G5.p2; obtain ⟨d05, d15⟩ := cells2z G5.p3; dsimp only at e05 e15 f05 f15 g05 g15 d05 d15
                    dsimp only
                    repeat (first | go_values | go_skip | go_guarded | go_step | go_upon | go_back)
                    refine (O2.out _).mono ?_
                    rintro e w6 ⟨rfl, b6⟩
                    have G6 := G5.below b6
                    have B6 := B5.trans (b6.mono B5.size)
                    obtain ⟨e06, e16⟩ := cells2z G6.p0; obtain ⟨f06, f16⟩ := cells2z G6.p1; obtain ⟨g06, g16⟩ := cells2z G6.p2; obtain ⟨d06, d16⟩ := cells2z G6.p3; dsimp only at e06 e16 f06 f16 g06 g16 d06 d16
                    dsimp only
                    repeat (first | go_values | go_skip | go_guarded | go_step | go_upon | go_back)
                    refine (O3.out _).mono ?_
                    rintro e w7 ⟨rfl, b7⟩
                    have G7 := G6.below b7
                    have B7 := B6.trans (b7.mono B6.size)
                    obtain ⟨e07, e17⟩ := cells2z G7.p0; obtain ⟨f07, f17⟩ := cells2z G7.p1; obtain ⟨g07, g17⟩ := cells2z G7.p2; obtain ⟨d07, d17⟩ := cells2z G7.p3; dsimp only at e07 e17 f07 f17 g07 g17 d07 d17
                    dsimp only
                    repeat (first | go_values | go_skip | go_guarded | go_step | go_upon | go_back)
                    refine (O4.out _).mono ?_
                    rintro e w8 ⟨rfl, b8⟩
                    have G8 := G7.below b8
                    have B8 := B7.trans (b8.mono B7.size)
                    obtain ⟨e08, e18⟩ := cells2z G8.p0; obtain ⟨f08, f18⟩ := cells2z G8.p1; obtain ⟨g08, g18⟩ := cells2z G8.p2; obtain ⟨d08, d18⟩ := cells2z G8.p3; dsimp only at e08 e18 f08 f18 g08 g18 d08 d18
                    dsimp only
                    repeat (first | go_values | go_skip | go_guarded | go_step | go_upon | go_back)
                    go_ret
                    exact ⟨rfl, B8⟩
                  · have N4 := fun h : n4 = 0 ∧ boxP ⟨cx, cy⟩ ⟨dx, dy⟩ ⟨bx, bY⟩ => x4 h.2
                    rw [decide_eq_false x4] at O4
                    clear x4 y4
                    have hm : m = false := by
                      rw [← Bool.not_eq_true]
                      intro h
                      rcases Hm.out.1 h with (h | h | h | h) | h
                      · exact N1 h
                      · exact N2 h
                      · exact N3 h
                      · exact N4 h
                      · exact NO h
                    subst hm
                    clear Hm N1 N2 N3 N4 NO P12 P34
                    refine (spec_Sg n4 _).mono ?_
                    rintro e w' ⟨rfl, rfl⟩
                    generalize sgnI n4 = s4 at *
                    dsimp only
                    repeat (first | go_values | go_skip | go_guarded | go_step | go_upon | go_back)
                    refine (O1.out _).mono ?_
                    rintro e w5 ⟨rfl, b5⟩
                    have G5 := G4.below b5
                    have B5 := B4.trans (b5.mono B4.size)
                    obtain ⟨e05, e15⟩ := cells2z G5.p0; obtain ⟨f05, f15⟩ := cells2z G5.p1; obtain ⟨g05, g15⟩ := cells2z G5.p2; obtain ⟨d05, d15⟩ := cells2z G5.p3; dsimp only at e05 e15 f05 f15 g05 g15 d05 d15
                    dsimp only
                    repeat (first | go_values | go_skip | go_guarded | go_step | go_upon | go_back)
                    refine (O2.out _).mono ?_
                    rintro e w6 ⟨rfl, b6⟩
                    have G6 := G5.below b6
                    have B6 := B5.trans (b6.mono B5.size)
                    obtain ⟨e06, e16⟩ := cells2z G6.p0; obtain ⟨f06, f16⟩ := cells2z G6.p1; obtain ⟨g06, g16⟩ := cells2z G6.p2; obtain ⟨d06, d16⟩ := cells2z G6.p3; dsimp only at e06 e16 f06 f16 g06 g16 d06 d16
                    dsimp only
                    repeat (first | go_values | go_skip | go_guarded | go_step | go_upon | go_back)
                    refine (O3.out _).mono ?_
                    rintro e w7 ⟨rfl, b7⟩
                    have G7 := G6.below b7
                    have B7 := B6.trans (b7.mono B6.size)
                    obtain ⟨e07, e17⟩ := cells2z G7.p0; obtain ⟨f07, f17⟩ := cells2z G7.p1; obtain ⟨g07, g17⟩ := cells2z G7.p2; obtain ⟨d07, d17⟩ := cells2z G7.p3; dsimp only at e07 e17 f07 f17 g07 g17 d07 d17
                    dsimp only
                    repeat (first | go_values | go_skip | go_guarded | go_step | go_upon | go_back)
                    refine (O4.out _).mono ?_
                    rintro e w8 ⟨rfl, b8⟩
                    have G8 := G7.below b8
                    have B8 := B7.trans (b8.mono B7.size)
                    obtain ⟨e08, e18⟩ := cells2z G8.p0; obtain ⟨f08, f18⟩ := cells2z G8.p1; obtain ⟨g08, g18⟩ := cells2z G8.p2; obtain ⟨d08, d18⟩ := cells2z G8.p3; dsimp only at e08 e18 f08 f18 g08 g18 d08 d18
                    dsimp only
                    repeat (first | go_values | go_skip | go_guarded | go_step | go_upon | go_back)
                    go_ret
                    exact ⟨rfl, B8⟩
                · have N4 := fun h : n4 = 0 ∧ boxP ⟨cx, cy⟩ ⟨dx, dy⟩ ⟨bx, bY⟩ => y4 h.1
                  clear y4
                  have hm : m = false := by
                    rw [← Bool.not_eq_true]
                    intro h
                    rcases Hm.out.1 h with (h | h | h | h) | h
                    · exact N1 h
                    · exact N2 h
                    · exact N3 h
                    · exact N4 h
                    · exact NO h
                  subst hm
                  clear Hm N1 N2 N3 N4 NO P12 P34
                  refine (spec_Sg n4 _).mono ?_
                  rintro e w' ⟨rfl, rfl⟩
                  generalize sgnI n4 = s4 at *
                  dsimp only
                  repeat (first | go_values | go_skip | go_guarded | go_step | go_upon | go_back)
                  refine (O1.out _).mono ?_
                  rintro e w5 ⟨rfl, b5⟩
                  have G5 := G4.below b5
                  have B5 := B4.trans (b5.mono B4.size)
                  obtain ⟨e05, e15⟩ := cells2z G5.p0; obtain ⟨f05, f15⟩ := cells2z G5.p1; obtain ⟨g05, g15⟩ := cells2z G5.p2; obtain ⟨d05, d15⟩ := cells2z G5.p3; dsimp only at e05 e15 f05 f15 g05 g15 d05 d15
                  dsimp only
                  repeat (first | go_values | go_skip | go_guarded | go_step | go_upon | go_back)
                  refine (O2.out _).mono ?_
                  rintro e w6 ⟨rfl, b6⟩
                  have G6 := G5.below b6
                  have B6 := B5.trans (b6.mono B5.size)
                  obtain ⟨e06, e16⟩ := cells2z G6.p0; obtain ⟨f06, f16⟩ := cells2z G6.p1; obtain ⟨g06, g16⟩ := cells2z G6.p2; obtain ⟨d06, d16⟩ := cells2z G6.p3; dsimp only at e06 e16 f06 f16 g06 g16 d06 d16
                  dsimp only
                  repeat (first | go_values | go_skip | go_guarded | go_step | go_upon | go_back)
                  refine (O3.out _).mono ?_
                  rintro e w7 ⟨rfl, b7⟩
                  have G7 := G6.below b7
                  have B7 := B6.trans (b7.mono B6.size)
                  obtain ⟨e07, e17⟩ := cells2z G7.p0; obtain ⟨f07, f17⟩ := cells2z G7.p1; obtain ⟨g07, g17⟩ := cells2z G7.p2; obtain ⟨d07, d17⟩ := cells2z G7.p3; dsimp only at e07 e17 f07 f17 g07 g17 d07 d17
                  dsimp only
                  repeat (first | go_values | go_skip | go_guarded | go_step | go_upon | go_back)
                  go_ret
                  exact ⟨rfl, B7⟩
            · have N3 := fun h : n3 = 0 ∧ boxP ⟨cx, cy⟩ ⟨dx, dy⟩ ⟨ax, ay⟩ => y3 h.1
              clear y3
              rcases S4 with ⟨z4, y4⟩ | ⟨z4, y4⟩
              · by_cases x4 : boxP ⟨cx, cy⟩ ⟨dx, dy⟩ ⟨bx, bY⟩
                · have hm : m = true := Hm.out.2 (.inl (.inr (.inr (.inr ⟨y4, x4⟩))))
                  subst hm
                  rw [decide_eq_true x4] at O4
                  clear Hm x4 y4 NO P12 P34
                  refine (spec_Sg n4 _).mono ?_
                  rintro e w' ⟨rfl, rfl⟩
                  generalize sgnI n4 = s4 at *
                  dsimp only
                  repeat (first | go_values | go_skip | go_guarded | go_step | go_upon | go_back)
                  refine (O1.out _).mono ?_
                  rintro e w5 ⟨rfl, b5⟩
                  have G5 := G4.below b5
                  have B5 := B4.trans (b5.mono B4.size)
                  obtain ⟨e05, e15⟩ := cells2z G5.p0; obtain ⟨f05, f15⟩ := cells2z G5.p1; obtain ⟨g05, g15⟩ := cells2z G5.p2; obtain ⟨d05, d15⟩ := cells2z G5.p3; dsimp only at e05 e15 f05 f15 g05 g15 d05 d15
                  dsimp only
                  repeat (first | go_values | go_skip | go_guarded | go_step | go_upon | go_back)
                  refine (O2.out _).mono ?_
                  rintro e w6 ⟨rfl, b6⟩
                  have G6 := G5.below b6
                  have B6 := B5.trans (b6.mono B5.size)
                  obtain ⟨e06, e16⟩ := cells2z G6.p0; obtain ⟨f06, f16⟩ := cells2z G6.p1; obtain ⟨g06, g16⟩ := cells2z G6.p2; obtain ⟨d06, d16⟩ := cells2z G6.p3; dsimp only at e06 e16 f06 f16 g06 g16 d06 d16
                  dsimp only
                  repeat (first | go_values | go_skip | go_guarded | go_step | go_upon | go_back)
                  refine (O4.out _).mono ?_
                  rintro e w7 ⟨rfl, b7⟩
                  have G7 := G6.below b7
                  have B7 := B6.trans (b7.mono B6.size)
                  obtain ⟨e07, e17⟩ := cells2z G7.p0; obtain ⟨f07, f17⟩ := cells2z G7.p1; obtain ⟨g07, g17⟩ := cells2z G7.p2; obtain ⟨d07, d17⟩ := cells2z G7.p3; dsimp only at e07 e17 f07 f17 g07 g17 d07 d17
                  dsimp only
                  repeat (first | go_values | go_skip | go_guarded | go_step | go_upon | go_back)
                  go_ret
                  exact ⟨rfl, B7⟩
                · have N4 := fun h : n4 = 0 ∧ boxP ⟨cx, cy⟩ ⟨dx, dy⟩ ⟨bx, bY⟩ => x4 h.2
                  rw [decide_eq_false x4] at O4
                  clear x4 y4
                  have hm : m = false := by
                    rw [← Bool.not_eq_true]
                    intro h
                    rcases Hm.out.1 h with (h | h | h | h) | h
                    · exact N1 h
                    · exact N2 h
                    · exact N3 h
                    · exact N4 h
                    · exact NO h
                  subst hm
                  clear Hm N1 N2 N3 N4 NO P12 P34
                  refine (spec_Sg n4 _).mono ?_
                  rintro e w' ⟨rfl, rfl⟩
                  generalize sgnI n4 = s4 at *
                  dsimp only
                  repeat (first | go_values | go_skip | go_guarded | go_step | go_upon | go_back)
                  refine (O1.out _).mono ?_
                  rintro e w5 ⟨rfl, b5⟩
                  have G5 := G4.below b5
                  have B5 := B4.trans (b5.mono B4.size)
                  obtain ⟨e05, e15⟩ := cells2z G5.p0; obtain ⟨f05, f15⟩ := cells2z G5.p1; obtain ⟨g05, g15⟩ := cells2z G5.p2; obtain ⟨d05, d15⟩ := cells2z G5.p3; dsimp only at e05 e15 f05 f15 g05 g15 d05 d15
                  dsimp only
                  repeat (first | go_values | go_skip | go_guarded | go_step | go_upon | go_back)
                  refine (O2.out _).mono ?_
                  rintro e w6 ⟨rfl, b6⟩
                  have G6 := G5.below b6
                  have B6 := B5.trans (b6.mono B5.size)
                  obtain ⟨e06, e16⟩ := cells2z G6.p0; obtain ⟨f06, f16⟩ := cells2z G6.p1; obtain ⟨g06, g16⟩ := cells2z G6.p2; obtain ⟨d06, d16⟩ := cells2z G6.p3; dsimp only at e06 e16 f06 f16 g06 g16 d06 d16
                  dsimp only
                  repeat (first | go_values | go_skip | go_guarded | go_step | go_upon | go_back)
                  refine (O4.out _).mono ?_
                  rintro e w7 ⟨rfl, b7⟩
                  have G7 := G6.below b7
                  have B7 := B6.trans (b7.mono B6.size)
                  obtain ⟨e07, e17⟩ := cells2z G7.p0; obtain ⟨f07, f17⟩ := cells2z G7.p1; obtain ⟨g07, g17⟩ := cells2z G7.p2; obtain ⟨d07, d17⟩ := cells2z G7.p3; dsimp only at e07 e17 f07 f17 g07 g17 d07 d17
                  dsimp only
                  repeat (first | go_values | go_skip | go_guarded | go_step | go_upon | go_back)
                  go_ret
                  exact ⟨rfl, B7⟩
              · have N4 := fun h : n4 = 0 ∧ boxP ⟨cx, cy⟩ ⟨dx, dy⟩ ⟨bx, bY⟩ => y4 h.1
                clear y4
                have hm : m = false := by
                  rw [← Bool.not_eq_true]
                  intro h
                  rcases Hm.out.1 h with (h | h | h | h) | h
                  · exact N1 h
                  · exact N2 h
                  · exact N3 h
                  · exact N4 h
                  · exact NO h
                subst hm
                clear Hm N1 N2 N3 N4 NO P12 P34
                refine (spec_Sg n4 _).mono ?_
                rintro e w' ⟨rfl, rfl⟩
                generalize sgnI n4 = s4 at *
                dsimp only
                repeat (first | go_values | go_skip | go_guarded | go_step | go_upon | go_back)
                refine (O1.out _).mono ?_
                rintro e w5 ⟨rfl, b5⟩
                have G5 := G4.below b5
                have B5 := B4.trans (b5.mono B4.size)
                obtain ⟨e05, e15⟩ := cells2z G5.p0; obtain ⟨f05, f15⟩ := cells2z G5.p1; obtain ⟨g05, g15⟩ := cells2z G5.p2; obtain ⟨d05, d15⟩ := cells2z G5.p3; dsimp only at e05 e15 f05 f15 g05 g15 d05 d15
                dsimp only
                repeat (first | go_values | go_skip | go_guarded | go_step | go_upon | go_back)
                refine (O2.out _).mono ?_
                rintro e w6 ⟨rfl, b6⟩
                have G6 := G5.below b6
                have B6 := B5.trans (b6.mono B5.size)
                obtain ⟨e06, e16⟩ := cells2z G6.p0; obtain ⟨f06, f16⟩ := cells2z G6.p1; obtain ⟨g06, g16⟩ := cells2z G6.p2; obtain ⟨d06, d16⟩ := cells2z G6.p3; dsimp only at e06 e16 f06 f16 g06 g16 d06 d16
                dsimp only
                repeat (first | go_values | go_skip | go_guarded | go_step | go_upon | go_back)
                go_ret
                exact ⟨rfl, B6⟩
        · have N2 := fun h : n2 = 0 ∧ boxP ⟨ax, ay⟩ ⟨bx, bY⟩ ⟨dx, dy⟩ => y2 h.1
          clear y2
          rcases S3 with ⟨z3, y3⟩ | ⟨z3, y3⟩
          · by_cases x3 : boxP ⟨cx, cy⟩ ⟨dx, dy⟩ ⟨ax, ay⟩
            · have hm : m = true := Hm.out.2 (.inl (.inr (.inr (.inl ⟨y3, x3⟩))))
              subst hm
              rw [decide_eq_true x3] at O3
              clear Hm x3 y3 NO P12 P34
              refine (spec_Sg n4 _).mono ?_
              rintro e w' ⟨rfl, rfl⟩
              generalize sgnI n4 = s4 at *
              dsimp only
              repeat (first | go_values | go_skip | go_guarded | go_step | go_upon | go_back)
              refine (O1.out _).mono ?_
              rintro e w5 ⟨rfl, b5⟩
              have G5 := G4.below b5
              have B5 := B4.trans (b5.mono B4.size)
              obtain ⟨e05, e15⟩ := cells2z G5.p0; obtain ⟨f05, f15⟩ := cells2z G5.p1; obtain ⟨g05, g15⟩ := cells2z G5.p2; obtain ⟨d05, d15⟩ := cells2z G5.p3; dsimp only at e05 e15 f05 f15 g05 g15 d05 d15
              dsimp only
              repeat (first | go_values | go_skip | go_guarded | go_step | go_upon | go_back)
              refine (O3.out _).mono ?_
              rintro e w6 ⟨rfl, b6⟩
              have G6 := G5.below b6
              have B6 := B5.trans (b6.mono B5.size)
              obtain ⟨e06, e16⟩ := cells2z G6.p0; obtain ⟨f06, f16⟩ := cells2z G6.p1; obtain ⟨g06, g16⟩ := cells2z G6.p2; obtain ⟨d06, d16⟩ := cells2z G6.p3; dsimp only at e06 e16 f06 f16 g06 g16 d06 d16
              dsimp only
              repeat (first | go_values | go_skip | go_guarded | go_step | go_upon | go_back)
              go_ret
              exact ⟨rfl, B6⟩
            · have N3 := fun h : n3 = 0 ∧ boxP ⟨cx, cy⟩ ⟨dx, dy⟩ ⟨ax, ay⟩ => x3 h.2
              rw [decide_eq_false x3] at O3
              clear x3 y3
              rcases S4 with ⟨z4, y4⟩ | ⟨z4, y4⟩
              · by_cases x4 : boxP ⟨cx, cy⟩ ⟨dx, dy⟩ ⟨bx, bY⟩
                · have hm : m = true := Hm.out.2 (.inl (.inr (.inr (.inr ⟨y4, x4⟩))))
                  subst hm
                  rw [decide_eq_true x4] at O4
                  clear Hm x4 y4 NO P12 P34
                  refine (spec_Sg n4 _).mono ?_
                  rintro e w' ⟨rfl, rfl⟩
                  generalize sgnI n4 = s4 at *
                  dsimp only
                  repeat (first | go_values | go_skip | go_guarded | go_step | go_upon | go_back)
                  refine (O1.out _).mono ?_
                  rintro e w5 ⟨rfl, b5⟩
                  have G5 := G4.below b5
                  have B5 := B4.trans (b5.mono B4.size)
                  obtain ⟨e05, e15⟩ := cells2z G5.p0; obtain ⟨f05, f15⟩ := cells2z G5.p1; obtain ⟨g05, g15⟩ := cells2z G5.p2; obtain ⟨d05, d15⟩ := cells2z G5.p3; dsimp only at e05 e15 f05 f15 g05 g15 d05 d15
                  dsimp only
                  repeat (first | go_values | go_skip | go_guarded | go_step | go_upon | go_back)
                  refine (O3.out _).mono ?_
                  rintro e w6 ⟨rfl, b6⟩
                  have G6 := G5.below b6
                  have B6 := B5.trans (b6.mono B5.size)
                  obtain ⟨e06, e16⟩ := cells2z G6.p0; obtain ⟨f06, f16⟩ := cells2z G6.p1; obtain ⟨g06, g16⟩ := cells2z G6.p2; obtain ⟨d06, d16⟩ := cells2z G6.p3; dsimp only at e06 e16 f06 f16 g06 g16 d06 d16
                  dsimp only
                  repeat (first | go_values | go_skip | go_guarded | go_step | go_upon | go_back)
                  refine (O4.out _).mono ?_
                  rintro e w7 ⟨rfl, b7⟩
                  have G7 := G6.below b7
                  have B7 := B6.trans (b7.mono B6.size)
                  obtain ⟨e07, e17⟩ := cells2z G7.p0; obtain ⟨f07, f17⟩ := cells2z G7.p1; obtain ⟨g07, g17⟩ := cells2z G7.p2; obtain ⟨d07, d17⟩ := cells2z G7.p3; dsimp only at e07 e17 f07 f17 g07 g17 d07 d17
                  dsimp only
                  repeat (first | go_values | go_skip | go_guarded | go_step | go_upon | go_back)
                  go_ret
                  exact ⟨rfl, B7⟩
                · have N4 := fun h : n4 = 0 ∧ boxP ⟨cx, cy⟩ ⟨dx, dy⟩ ⟨bx, bY⟩ => x4 h.2
                  rw [decide_eq_false x4] at O4
                  clear x4 y4
                  have hm : m = false := by
                    rw [← Bool.not_eq_true]
                    intro h
                    rcases Hm.out.1 h with (h | h | h | h) | h
                    · exact N1 h
                    · exact N2 h
                    · exact N3 h
                    · exact N4 h
                    · exact NO h
                  subst hm
                  clear Hm N1 N2 N3 N4 NO P12 P34
                  refine (spec_Sg n4 _).mono ?_
                  rintro e w' ⟨rfl, rfl⟩
                  generalize sgnI n4 = s4 at *
                  dsimp only
                  repeat (first | go_values | go_skip | go_guarded | go_step | go_upon | go_back)
                  refine (O1.out _).mono ?_
                  rintro e w5 ⟨rfl, b5⟩
                  have G5 := G4.below b5
                  have B5 := B4.trans (b5.mono B4.size)
                  obtain ⟨e05, e15⟩ := cells2z G5.p0; obtain ⟨f05, f15⟩ := cells2z G5.p1; obtain ⟨g05, g15⟩ := cells2z G5.p2; obtain ⟨d05, d15⟩ := cells2z G5.p3; dsimp only at e05 e15 f05 f15 g05 g15 d05 d15
                  dsimp only
                  repeat (first | go_values | go_skip | go_guarded | go_step | go_upon | go_back)
                  refine (O3.out _).mono ?_
                  rintro e w6 ⟨rfl, b6⟩
                  have G6 := G5.below b6
                  have B6 := B5.trans (b6.mono B5.size)
                  obtain ⟨e06, e16⟩ := cells2z G6.p0; obtain ⟨f06, f16⟩ := cells2z G6.p1; obtain ⟨g06, g16⟩ := cells2z G6.p2; obtain ⟨d06, d16⟩ := cells2z G6.p3; dsimp only at e06 e16 f06 f16 g06 g16 d06 d16
                  dsimp only
                  repeat (first | go_values | go_skip | go_guarded | go_step | go_upon | go_back)
                  refine (O4.out _).mono ?_
                  rintro e w7 ⟨rfl, b7⟩
                  have G7 := G6.below b7
                  have B7 := B6.trans (b7.mono B6.size)
                  obtain ⟨e07, e17⟩ := cells2z G7.p0; obtain ⟨f07, f17⟩ := cells2z G7.p1; obtain ⟨g07, g17⟩ := cells2z G7.p2; obtain ⟨d07, d17⟩ := cells2z G7.p3; dsimp only at e07 e17 f07 f17 g07 g17 d07 d17
                  dsimp only
                  repeat (first | go_values | go_skip | go_guarded | go_step | go_upon | go_back)
                  go_ret
                  exact ⟨rfl, B7⟩
              · have N4 := fun h : n4 = 0 ∧ boxP ⟨cx, cy⟩ ⟨dx, dy⟩ ⟨bx, bY⟩ => y4 h.1
                clear y4
                have hm : m = false := by
                  rw [← Bool.not_eq_true]
                  intro h
                  rcases Hm.out.1 h with (h | h | h | h) | h
                  · exact N1 h
                  · exact N2 h
                  · exact N3 h
                  · exact N4 h
                  · exact NO h
                subst hm
                clear Hm N1 N2 N3 N4 NO P12 P34
                refine (spec_Sg n4 _).mono ?_
                rintro e w' ⟨rfl, rfl⟩
                generalize sgnI n4 = s4 at *
                dsimp only
                repeat (first | go_values | go_skip | go_guarded | go_step | go_upon | go_back)
                refine (O1.out _).mono ?_
                rintro e w5 ⟨rfl, b5⟩
                have G5 := G4.below b5
                have B5 := B4.trans (b5.mono B4.size)
                obtain ⟨e05, e15⟩ := cells2z G5.p0; obtain ⟨f05, f15⟩ := cells2z G5.p1; obtain ⟨g05, g15⟩ := cells2z G5.p2; obtain ⟨d05, d15⟩ := cells2z G5.p3; dsimp only at e05 e15 f05 f15 g05 g15 d05 d15
                dsimp only
                repeat (first | go_values | go_skip | go_guarded | go_step | go_upon | go_back)
                refine (O3.out _).mono ?_
                rintro e w6 ⟨rfl, b6⟩
                have G6 := G5.below b6
                have B6 := B5.trans (b6.mono B5.size)
                obtain ⟨e06, e16⟩ := cells2z G6.p0; obtain ⟨f06, f16⟩ := cells2z G6.p1; obtain ⟨g06, g16⟩ := cells2z G6.p2; obtain ⟨d06, d16⟩ := cells2z G6.p3; dsimp only at e06 e16 f06 f16 g06 g16 d06 d16
                dsimp only
                repeat (first | go_values | go_skip | go_guarded | go_step | go_upon | go_back)
                go_ret
                exact ⟨rfl, B6⟩
          · have N3 := fun h : n3 = 0 ∧ boxP ⟨cx, cy⟩ ⟨dx, dy⟩ ⟨ax, ay⟩ => y3 h.1
            clear y3
            rcases S4 with ⟨z4, y4⟩ | ⟨z4, y4⟩
            · by_cases x4 : boxP ⟨cx, cy⟩ ⟨dx, dy⟩ ⟨bx, bY⟩
              · have hm : m = true := Hm.out.2 (.inl (.inr (.inr (.inr ⟨y4, x4⟩))))
                subst hm
                rw [decide_eq_true x4] at O4
                clear Hm x4 y4 NO P12 P34
                refine (spec_Sg n4 _).mono ?_
                rintro e w' ⟨rfl, rfl⟩
                generalize sgnI n4 = s4 at *
                dsimp only
                repeat (first | go_values | go_skip | go_guarded | go_step | go_upon | go_back)
                refine (O1.out _).mono ?_
                rintro e w5 ⟨rfl, b5⟩
                have G5 := G4.below b5
                have B5 := B4.trans (b5.mono B4.size)
                obtain ⟨e05, e15⟩ := cells2z G5.p0; obtain ⟨f05, f15⟩ := cells2z G5.p1; obtain ⟨g05, g15⟩ := cells2z G5.p2; obtain ⟨d05, d15⟩ := cells2z G5.p3; dsimp only at e05 e15 f05 f15 g05 g15 d05 d15
                dsimp only
                repeat (first | go_values | go_skip | go_guarded | go_step | go_upon | go_back)
                refine (O4.out _).mono ?_
                rintro e w6 ⟨rfl, b6⟩
                have G6 := G5.below b6
                have B6 := B5.trans (b6.mono B5.size)
                obtain ⟨e06, e16⟩ := cells2z G6.p0; obtain ⟨f06, f16⟩ := cells2z G6.p1; obtain ⟨g06, g16⟩ := cells2z G6.p2; obtain ⟨d06, d16⟩ := cells2z G6.p3; dsimp only at e06 e16 f06 f16 g06 g16 d06 d16
                dsimp only
                repeat (first | go_values | go_skip | go_guarded | go_step | go_upon | go_back)
                go_ret
                exact ⟨rfl, B6⟩
              · have N4 := fun h : n4 = 0 ∧ boxP ⟨cx, cy⟩ ⟨dx, dy⟩ ⟨bx, bY⟩ => x4 h.2
                rw [decide_eq_false x4] at O4
                clear x4 y4
                have hm : m = false := by
                  rw [← Bool.not_eq_true]
                  intro h
                  rcases Hm.out.1 h with (h | h | h | h) | h
                  · exact N1 h
                  · exact N2 h
                  · exact N3 h
                  · exact N4 h
                  · exact NO h
                subst hm
                clear Hm N1 N2 N3 N4 NO P12 P34
                refine (spec_Sg n4 _).mono ?_
                rintro e w' ⟨rfl, rfl⟩
                generalize sgnI n4 = s4 at *
                dsimp only
                repeat (first | go_values | go_skip | go_guarded | go_step | go_upon | go_back)
                refine (O1.out _).mono ?_
                rintro e w5 ⟨rfl, b5⟩
                have G5 := G4.below b5
                have B5 := B4.trans (b5.mono B4.size)
                obtain ⟨e05, e15⟩ := cells2z G5.p0; obtain ⟨f05, f15⟩ := cells2z G5.p1; obtain ⟨g05, g15⟩ := cells2z G5.p2; obtain ⟨d05, d15⟩ := cells2z G5.p3; dsimp only at e05 e15 f05 f15 g05 g15 d05 d15
                dsimp only
                repeat (first | go_values | go_skip | go_guarded | go_step | go_upon | go_back)
                refine (O4.out _).mono ?_
                rintro e w6 ⟨rfl, b6⟩
                have G6 := G5.below b6
                have B6 := B5.trans (b6.mono B5.size)
                obtain ⟨e06, e16⟩ := cells2z G6.p0; obtain ⟨f06, f16⟩ := cells2z G6.p1; obtain ⟨g06, g16⟩ := cells2z G6.p2; obtain ⟨d06, d16⟩ := cells2z G6.p3; dsimp only at e06 e16 f06 f16 g06 g16 d06 d16
                dsimp only
                repeat (first | go_values | go_skip | go_guarded | go_step | go_upon | go_back)
                go_ret
                exact ⟨rfl, B6⟩
            · have N4 := fun h : n4 = 0 ∧ boxP ⟨cx, cy⟩ ⟨dx, dy⟩ ⟨bx, bY⟩ => y4 h.1
              clear y4
              have hm : m = false := by
                rw [← Bool.not_eq_true]
                intro h
                rcases Hm.out.1 h with (h | h | h | h) | h
                · exact N1 h
                · exact N2 h
                · exact N3 h
                · exact N4 h
                · exact NO h
              subst hm
              clear Hm N1 N2 N3 N4 NO P12 P34
              refine (spec_Sg n4 _).mono ?_
              rintro e w' ⟨rfl, rfl⟩
              generalize sgnI n4 = s4 at *
              dsimp only
              repeat (first | go_values | go_skip | go_guarded | go_step | go_upon | go_back)
              refine (O1.out _).mono ?_
              rintro e w5 ⟨rfl, b5⟩
              have G5 := G4.below b5
              have B5 := B4.trans (b5.mono B4.size)
              obtain ⟨e05, e15⟩ := cells2z G5.p0; obtain ⟨f05, f15⟩ := cells2z G5.p1; obtain ⟨g05, g15⟩ := cells2z G5.p2; obtain ⟨d05, d15⟩ := cells2z G5.p3; dsimp only at e05 e15 f05 f15 g05 g15 d05 d15
              dsimp only
              repeat (first | go_values | go_skip | go_guarded | go_step | go_upon | go_back)
              go_ret
              exact ⟨rfl, B5⟩
    · have N1 := fun h : n1 = 0 ∧ boxP ⟨ax, ay⟩ ⟨bx, bY⟩ ⟨cx, cy⟩ => y1 h.1
      clear y1
      rcases S2 with ⟨z2, y2⟩ | ⟨z2, y2⟩
      · by_cases x2 : boxP ⟨ax, ay⟩ ⟨bx, bY⟩ ⟨dx, dy⟩
        · have hm : m = true := Hm.out.2 (.inl (.inr (.inl ⟨y2, x2⟩)))
          subst hm
          rw [decide_eq_true x2] at O2
          clear Hm x2 y2 NO P12 P34
          refine (spec_Sg n4 _).mono ?_
          rintro e w' ⟨rfl, rfl⟩
          generalize sgnI n4 = s4 at *
          dsimp only
          repeat (first | go_values | go_skip | go_guarded | go_step | go_upon | go_back)
          refine (O2.out _).mono ?_
          rintro e w5 ⟨rfl, b5⟩
          have G5 := G4.below b5
          have B5 := B4.trans (b5.mono B4.size)
          obtain ⟨e05, e15⟩ := cells2z G5.p0; obtain ⟨f05, f15⟩ := cells2z G5.p1; obtain ⟨g05, g15⟩ := cells2z G5.p2; obtain ⟨d05, d15⟩ := cells2z G5.p3; dsimp only at e05 e15 f05 f15 g05 g15 d05 d15
          dsimp only
          repeat (first | go_values | go_skip | go_guarded | go_step | go_upon | go_back)
          go_ret
          exact ⟨rfl, B5⟩
        · have N2 := fun h : n2 = 0 ∧ boxP ⟨ax, ay⟩ ⟨bx, bY⟩ ⟨dx, dy⟩ => x2 h.2
          rw [decide_eq_false x2] at O2
          clear x2 y2
          rcases S3 with ⟨z3, y3⟩ | ⟨z3, y3⟩
          · by_cases x3 : boxP ⟨cx, cy⟩ ⟨dx, dy⟩ ⟨ax, ay⟩
            · have hm : m = true := Hm.out.2 (.inl (.inr (.inr (.inl ⟨y3, x3⟩))))
              subst hm
              rw [decide_eq_true x3] at O3
              clear Hm x3 y3 NO P12 P34
              refine (spec_Sg n4 _).mono ?_
              rintro e w' ⟨rfl, rfl⟩
              generalize sgnI n4 = s4 at *
              dsimp only
              repeat (first | go_values | go_skip | go_guarded | go_step | go_upon | go_back)
              refine (O2.out _).mono ?_
              rintro e w5 ⟨rfl, b5⟩
              have G5 := G4.below b5
              have B5 := B4.trans (b5.mono B4.size)
              obtain ⟨e05, e15⟩ := cells2z G5.p0; obtain ⟨f05, f15⟩ := cells2z G5.p1; obtain ⟨g05, g15⟩ := cells2z G5.p2; obtain ⟨d05, d15⟩ := cells2z G5.p3; dsimp only at e05 e15 f05 f15 g05 g15 d05 d15
              dsimp only
              repeat (first | go_values | go_skip | go_guarded | go_step | go_upon | go_back)
              refine (O3.out _).mono ?_
              rintro e w6 ⟨rfl, b6⟩
              have G6 := G5.below b6
              have B6 := B5.trans (b6.mono B5.size)
              obtain ⟨e06, e16⟩ := cells2z G6.p0; obtain ⟨f06, f16⟩ := cells2z G6.p1; obtain ⟨g06, g16⟩ := cells2z G6.p2; obtain ⟨d06, d16⟩ := cells2z G6.p3; dsimp only at e06 e16 f06 f16 g06 g16 d06 d16
              dsimp only
              repeat (first | go_values | go_skip | go_guarded | go_step | go_upon | go_back)
              go_ret
              exact ⟨rfl, B6⟩
            · have N3 := fun h : n3 = 0 ∧ boxP ⟨cx, cy⟩ ⟨dx, dy⟩ ⟨ax, ay⟩ => x3 h.2
              rw [decide_eq_false x3] at O3
              clear x3 y3
              rcases S4 with ⟨z4, y4⟩ | ⟨z4, y4⟩
              · by_cases x4 : boxP ⟨cx, cy⟩ ⟨dx, dy⟩ ⟨bx, bY⟩
                · have hm : m = true := Hm.out.2 (.inl (.inr (.inr (.inr ⟨y4, x4⟩))))
                  subst hm
                  rw [decide_eq_true x4] at O4
                  clear Hm x4 y4 NO P12 P34
                  refine (spec_Sg n4 _).mono ?_
                  rintro e w' ⟨rfl, rfl⟩
                  generalize sgnI n4 = s4 at *
                  dsimp only
                  repeat (first | go_values | go_skip | go_guarded | go_step | go_upon | go_back)
                  refine (O2.out _).mono ?_
                  rintro e w5 ⟨rfl, b5⟩
                  have G5 := G4.below b5
                  have B5 := B4.trans (b5.mono B4.size)
                  obtain ⟨e05, e15⟩ := cells2z G5.p0; obtain ⟨f05, f15⟩ := cells2z G5.p1; obtain ⟨g05, g15⟩ := cells2z G5.p2; obtain ⟨d05, d15⟩ := cells2z G5.p3; dsimp only at e05 e15 f05 f15 g05 g15 d05 d15
                  dsimp only
                  repeat (first | go_values | go_skip | go_guarded | go_step | go_upon | go_back)
                  refine (O3.out _).mono ?_
                  rintro e w6 ⟨rfl, b6⟩
                  have G6 := G5.below b6
                  have B6 := B5.trans (b6.mono B5.size)
                  obtain ⟨e06, e16⟩ := cells2z G6.p0; obtain ⟨f06, f16⟩ := cells2z G6.p1; obtain ⟨g06, g16⟩ := cells2z G6.p2; obtain ⟨d06, d16⟩ := cells2z G6.p3; dsimp only at e06 e16 f06 f16 g06 g16 d06 d16
                  dsimp only
                  repeat (first | go_values | go_skip | go_guarded | go_step | go_upon | go_back)
                  refine (O4.out _).mono ?_
                  rintro e w7 ⟨rfl, b7⟩
                  have G7 := G6.below b7
                  have B7 := B6.trans (b7.mono B6.size)
                  obtain ⟨e07, e17⟩ := cells2z G7.p0; obtain ⟨f07, f17⟩ := cells2z G7.p1; obtain ⟨g07, g17⟩ := cells2z G7.p2; obtain ⟨d07, d17⟩ := cells2z G7.p3; dsimp only at e07 e17 f07 f17 g07 g17 d07 d17
                  dsimp only
                  repeat (first | go_values | go_skip | go_guarded | go_step | go_upon | go_back)
                  go_ret
                  exact ⟨rfl, B7⟩
                · have N4 := fun h : n4 = 0 ∧ boxP ⟨cx, cy⟩ ⟨dx, dy⟩ ⟨bx, bY⟩ => x4 h.2
                  rw [decide_eq_false x4] at O4
                  clear x4 y4
                  have hm : m = false := by
                    rw [← Bool.not_eq_true]
                    intro h
                    rcases Hm.out.1 h with (h | h | h | h) | h
                    · exact N1 h
                    · exact N2 h
                    · exact N3 h
                    · exact N4 h
                    · exact NO h
                  subst hm
                  clear Hm N1 N2 N3 N4 NO P12 P34
                  refine (spec_Sg n4 _).mono ?_
                  rintro e w' ⟨rfl, rfl⟩
                  generalize sgnI n4 = s4 at *
                  dsimp only
                  repeat (first | go_values | go_skip | go_guarded | go_step | go_upon | go_back)
                  refine (O2.out _).mono ?_
                  rintro e w5 ⟨rfl, b5⟩
                  have G5 := G4.below b5
                  have B5 := B4.trans (b5.mono B4.size)
                  obtain ⟨e05, e15⟩ := cells2z G5.p0; obtain ⟨f05, f15⟩ := cells2z G5.p1; obtain ⟨g05, g15⟩ := cells2z G5.p2; obtain ⟨d05, d15⟩ := cells2z G5.p3; dsimp only at e05 e15 f05 f15 g05 g15 d05 d15
                  dsimp only
                  repeat (first | go_values | go_skip | go_guarded | go_step | go_upon | go_back)
                  refine (O3.out _).mono ?_
                  rintro e w6 ⟨rfl, b6⟩
                  have G6 := G5.below b6
                  have B6 := B5.trans (b6.mono B5.size)
                  obtain ⟨e06, e16⟩ := cells2z G6.p0; obtain ⟨f06, f16⟩ := cells2z G6.p1; obtain ⟨g06, g16⟩ := cells2z G6.p2; obtain ⟨d06, d16⟩ := cells2z G6.p3; dsimp only at e06 e16 f06 f16 g06 g16 d06 d16
                  dsimp only
                  repeat (first | go_values | go_skip | go_guarded | go_step | go_upon | go_back)
                  refine (O4.out _).mono ?_
                  rintro e w7 ⟨rfl, b7⟩
                  have G7 := G6.below b7
                  have B7 := B6.trans (b7.mono B6.size)
                  obtain ⟨e07, e17⟩ := cells2z G7.p0; obtain ⟨f07, f17⟩ := cells2z G7.p1; obtain ⟨g07, g17⟩ := cells2z G7.p2; obtain ⟨d07, d17⟩ := cells2z G7.p3; dsimp only at e07 e17 f07 f17 g07 g17 d07 d17
                  dsimp only
                  repeat (first | go_values | go_skip | go_guarded | go_step | go_upon | go_back)
                  go_ret
                  exact ⟨rfl, B7⟩
              · have N4 := fun h : n4 = 0 ∧ boxP ⟨cx, cy⟩ ⟨dx, dy⟩ ⟨bx, bY⟩ => y4 h.1
                clear y4
                have hm : m = false := by
                  rw [← Bool.not_eq_true]
                  intro h
                  rcases Hm.out.1 h with (h | h | h | h) | h
                  · exact N1 h
                  · exact N2 h
                  · exact N3 h
                  · exact N4 h
                  · exact NO h
                subst hm
                clear Hm N1 N2 N3 N4 NO P12 P34
                refine (spec_Sg n4 _).mono ?_
                rintro e w' ⟨rfl, rfl⟩
                generalize sgnI n4 = s4 at *
                dsimp only
                repeat (first | go_values | go_skip | go_guarded | go_step | go_upon | go_back)
                refine (O2.out _).mono ?_
                rintro e w5 ⟨rfl, b5⟩
                have G5 := G4.below b5
                have B5 := B4.trans (b5.mono B4.size)
                obtain ⟨e05, e15⟩ := cells2z G5.p0; obtain ⟨f05, f15⟩ := cells2z G5.p1; obtain ⟨g05, g15⟩ := cells2z G5.p2; obtain ⟨d05, d15⟩ := cells2z G5.p3; dsimp only at e05 e15 f05 f15 g05 g15 d05 d15
                dsimp only
                repeat (first | go_values | go_skip | go_guarded | go_step | go_upon | go_back)
                refine (O3.out _).mono ?_
                rintro e w6 ⟨rfl, b6⟩
                have G6 := G5.below b6
                have B6 := B5.trans (b6.mono B5.size)
                obtain ⟨e06, e16⟩ := cells2z G6.p0; obtain ⟨f06, f16⟩ := cells2z G6.p1; obtain ⟨g06, g16⟩ := cells2z G6.p2; obtain ⟨d06, d16⟩ := cells2z G6.p3; dsimp only at e06 e16 f06 f16 g06 g16 d06 d16
                dsimp only
                repeat (first | go_values | go_skip | go_guarded | go_step | go_upon | go_back)
                go_ret
                exact ⟨rfl, B6⟩
          · have N3 := fun h : n3 = 0 ∧ boxP ⟨cx, cy⟩ ⟨dx, dy⟩ ⟨ax, ay⟩ => y3 h.1
            clear y3
            rcases S4 with ⟨z4, y4⟩ | ⟨z4, y4⟩
            · by_cases x4 : boxP ⟨cx, cy⟩ ⟨dx, dy⟩ ⟨bx, bY⟩
              · have hm : m = true := Hm.out.2 (.inl (.inr (.inr (.inr ⟨y4, x4⟩))))
                subst hm
                rw [decide_eq_true x4] at O4
                clear Hm x4 y4 NO P12 P34
                refine (spec_Sg n4 _).mono ?_
                rintro e w' ⟨rfl, rfl⟩
                generalize sgnI n4 = s4 at *
                dsimp only
                repeat (first | go_values | go_skip | go_guarded | go_step | go_upon | go_back)
                refine (O2.out _).mono ?_
                rintro e w5 ⟨rfl, b5⟩
                have G5 := G4.below b5
                have B5 := B4.trans (b5.mono B4.size)
                obtain ⟨e05, e15⟩ := cells2z G5.p0; obtain ⟨f05, f15⟩ := cells2z G5.p1; obtain ⟨g05, g15⟩ := cells2z G5.p2; obtain ⟨d05, d15⟩ := cells2z G5.p3; dsimp only at e05 e15 f05 f15 g05 g15 d05 d15
                dsimp only
                repeat (first | go_values | go_skip | go_guarded | go_step | go_upon | go_back)
                refine (O4.out _).mono ?_
                rintro e w6 ⟨rfl, b6⟩
                have G6 := G5.below b6
                have B6 := B5.trans (b6.mono B5.size)
                obtain ⟨e06, e16⟩ := cells2z G6.p0; obtain ⟨f06, f16⟩ := cells2z G6.p1; obtain ⟨g06, g16⟩ := cells2z G6.p2; obtain ⟨d06, d16⟩ := cells2z G6.p3; dsimp only at e06 e16 f06 f16 g06 g16 d06 d16
                dsimp only
                repeat (first | go_values | go_skip | go_guarded | go_step | go_upon | go_back)
                go_ret
                exact ⟨rfl, B6⟩
              · have N4 := fun h : n4 = 0 ∧ boxP ⟨cx, cy⟩ ⟨dx, dy⟩ ⟨bx, bY⟩ => x4 h.2
                rw [decide_eq_false x4] at O4
                clear x4 y4
                have hm : m = false := by
                  rw [← Bool.not_eq_true]
                  intro h
                  rcases Hm.out.1 h with (h | h | h | h) | h
                  · exact N1 h
                  · exact N2 h
                  · exact N3 h
                  · exact N4 h
                  · exact NO h
                subst hm
                clear Hm N1 N2 N3 N4 NO P12 P34
                refine (spec_Sg n4 _).mono ?_
                rintro e w' ⟨rfl, rfl⟩
                generalize sgnI n4 = s4 at *
                dsimp only
                repeat (first | go_values | go_skip | go_guarded | go_step | go_upon | go_back)
                refine (O2.out _).mono ?_
                rintro e w5 ⟨rfl, b5⟩
                have G5 := G4.below b5
                have B5 := B4.trans (b5.mono B4.size)
                obtain ⟨e05, e15⟩ := cells2z G5.p0; obtain ⟨f05, f15⟩ := cells2z G5.p1; obtain ⟨g05, g15⟩ := cells2z G5.p2; obtain ⟨d05, d15⟩ := cells2z G5.p3; dsimp only at e05 e15 f05 f15 g05 g15 d05 d15
                dsimp only
                repeat (first | go_values | go_skip | go_guarded | go_step | go_upon | go_back)
                refine (O4.out _).mono ?_
                rintro e w6 ⟨rfl, b6⟩
                have G6 := G5.below b6
                have B6 := B5.trans (b6.mono B5.size)
                obtain ⟨e06, e16⟩ := cells2z G6.p0; obtain ⟨f06, f16⟩ := cells2z G6.p1; obtain ⟨g06, g16⟩ := cells2z G6.p2; obtain ⟨d06, d16⟩ := cells2z G6.p3; dsimp only at e06 e16 f06 f16 g06 g16 d06 d16
                dsimp only
                repeat (first | go_values | go_skip | go_guarded | go_step | go_upon | go_back)
                go_ret
                exact ⟨rfl, B6⟩
            · have N4 := fun h : n4 = 0 ∧ boxP ⟨cx, cy⟩ ⟨dx, dy⟩ ⟨bx, bY⟩ => y4 h.1
              clear y4
              have hm : m = false := by
                rw [← Bool.not_eq_true]
                intro h
                rcases Hm.out.1 h with (h | h | h | h) | h
                · exact N1 h
                · exact N2 h
                · exact N3 h
                · exact N4 h
                · exact NO h
              subst hm
              clear Hm N1 N2 N3 N4 NO P12 P34
              refine (spec_Sg n4 _).mono ?_
              rintro e w' ⟨rfl, rfl⟩
              generalize sgnI n4 = s4 at *
              dsimp only
              repeat (first | go_values | go_skip | go_guarded | go_step | go_upon | go_back)
              refine (O2.out _).mono ?_
              rintro e w5 ⟨rfl, b5⟩
              have G5 := G4.below b5
              have B5 := B4.trans (b5.mono B4.size)
              obtain ⟨e05, e15⟩ := cells2z G5.p0; obtain ⟨f05, f15⟩ := cells2z G5.p1; obtain ⟨g05, g15⟩ := cells2z G5.p2; obtain ⟨d05, d15⟩ := cells2z G5.p3; dsimp only at e05 e15 f05 f15 g05 g15 d05 d15
              dsimp only
              repeat (first | go_values | go_skip | go_guarded | go_step | go_upon | go_back)
              go_ret
              exact ⟨rfl, B5⟩
      · have N2 := fun h : n2 = 0 ∧ boxP ⟨ax, ay⟩ ⟨bx, bY⟩ ⟨dx, dy⟩ => y2 h.1
        clear y2
        rcases S3 with ⟨z3, y3⟩ | ⟨z3, y3⟩
        · by_cases x3 : boxP ⟨cx, cy⟩ ⟨dx, dy⟩ ⟨ax, ay⟩
          · have hm : m = true := Hm.out.2 (.inl (.inr (.inr (.inl ⟨y3, x3⟩))))
            subst hm
            rw [decide_eq_true x3] at O3
            clear Hm x3 y3 NO P12 P34
            refine (spec_Sg n4 _).mono ?_
            rintro e w' ⟨rfl, rfl⟩
            generalize sgnI n4 = s4 at *
            dsimp only
            repeat (first | go_values | go_skip | go_guarded | go_step | go_upon | go_back)
            refine (O3.out _).mono ?_
            rintro e w5 ⟨rfl, b5⟩
            have G5 := G4.below b5
            have B5 := B4.trans (b5.mono B4.size)
            obtain ⟨e05, e15⟩ := cells2z G5.p0; obtain ⟨f05, f15⟩ := cells2z G5.p1; obtain ⟨g05, g15⟩ := cells2z G5.p2; obtain ⟨d05, d15⟩ := cells2z G5.p3; dsimp only at e05 e15 f05 f15 g05 g15 d05 d15
            dsimp only
            repeat (first | go_values | go_skip | go_guarded | go_step | go_upon | go_back)
            go_ret
            exact ⟨rfl, B5⟩
          · have N3 := fun h : n3 = 0 ∧ boxP ⟨cx, cy⟩ ⟨dx, dy⟩ ⟨ax, ay⟩ => x3 h.2
            rw [decide_eq_false x3] at O3
            clear x3 y3
            rcases S4 with ⟨z4, y4⟩ | ⟨z4, y4⟩
            · by_cases x4 : boxP ⟨cx, cy⟩ ⟨dx, dy⟩ ⟨bx, bY⟩
              · have hm : m = true := Hm.out.2 (.inl (.inr (.inr (.inr ⟨y4, x4⟩))))
                subst hm
                rw [decide_eq_true x4] at O4
                clear Hm x4 y4 NO P12 P34
                refine (spec_Sg n4 _).mono ?_
                rintro e w' ⟨rfl, rfl⟩
                generalize sgnI n4 = s4 at *
                dsimp only
                repeat (first | go_values | go_skip | go_guarded | go_step | go_upon | go_back)
                refine (O3.out _).mono ?_
                rintro e w5 ⟨rfl, b5⟩
                have G5 := G4.below b5
                have B5 := B4.trans (b5.mono B4.size)
                obtain ⟨e05, e15⟩ := cells2z G5.p0; obtain ⟨f05, f15⟩ := cells2z G5.p1; obtain ⟨g05, g15⟩ := cells2z G5.p2; obtain ⟨d05, d15⟩ := cells2z G5.p3; dsimp only at e05 e15 f05 f15 g05 g15 d05 d15
                dsimp only
                repeat (first | go_values | go_skip | go_guarded | go_step | go_upon | go_back)
                refine (O4.out _).mono ?_
                rintro e w6 ⟨rfl, b6⟩
                have G6 := G5.below b6
                have B6 := B5.trans (b6.mono B5.size)
                obtain ⟨e06, e16⟩ := cells2z G6.p0; obtain ⟨f06, f16⟩ := cells2z G6.p1; obtain ⟨g06, g16⟩ := cells2z G6.p2; obtain ⟨d06, d16⟩ := cells2z G6.p3; dsimp only at e06 e16 f06 f16 g06 g16 d06 d16
                dsimp only
                repeat (first | go_values | go_skip | go_guarded | go_step | go_upon | go_back)
                go_ret
                exact ⟨rfl, B6⟩
              · have N4 := fun h : n4 = 0 ∧ boxP ⟨cx, cy⟩ ⟨dx, dy⟩ ⟨bx, bY⟩ => x4 h.2
                rw [decide_eq_false x4] at O4
                clear x4 y4
                have hm : m = false := by
                  rw [← Bool.not_eq_true]
                  intro h
                  rcases Hm.out.1 h with (h | h | h | h) | h
                  · exact N1 h
                  · exact N2 h
                  · exact N3 h
                  · exact N4 h
                  · exact NO h
                subst hm
                clear Hm N1 N2 N3 N4 NO P12 P34
                refine (spec_Sg n4 _).mono ?_
                rintro e w' ⟨rfl, rfl⟩
                generalize sgnI n4 = s4 at *
                dsimp only
                repeat (first | go_values | go_skip | go_guarded | go_step | go_upon | go_back)
                refine (O3.out _).mono ?_
                rintro e w5 ⟨rfl, b5⟩
                have G5 := G4.below b5
                have B5 := B4.trans (b5.mono B4.size)
                obtain ⟨e05, e15⟩ := cells2z G5.p0; obtain ⟨f05, f15⟩ := cells2z G5.p1; obtain ⟨g05, g15⟩ := cells2z G5.p2; obtain ⟨d05, d15⟩ := cells2z G5.p3; dsimp only at e05 e15 f05 f15 g05 g15 d05 d15
                dsimp only
                repeat (first | go_values | go_skip | go_guarded | go_step | go_upon | go_back)
                refine (O4.out _).mono ?_
                rintro e w6 ⟨rfl, b6⟩
                have G6 := G5.below b6
                have B6 := B5.trans (b6.mono B5.size)
                obtain ⟨e06, e16⟩ := cells2z G6.p0; obtain ⟨f06, f16⟩ := cells2z G6.p1; obtain ⟨g06, g16⟩ := cells2z G6.p2; obtain ⟨d06, d16⟩ := cells2z G6.p3; dsimp only at e06 e16 f06 f16 g06 g16 d06 d16
                dsimp only
                repeat (first | go_values | go_skip | go_guarded | go_step | go_upon | go_back)
                go_ret
                exact ⟨rfl, B6⟩
            · have N4 := fun h : n4 = 0 ∧ boxP ⟨cx, cy⟩ ⟨dx, dy⟩ ⟨bx, bY⟩ => y4 h.1
              clear y4
              have hm : m = false := by
                rw [← Bool.not_eq_true]
                intro h
                rcases Hm.out.1 h with (h | h | h | h) | h
                · exact N1 h
                · exact N2 h
                · exact N3 h
                · exact N4 h
                · exact NO h
              subst hm
              clear Hm N1 N2 N3 N4 NO P12 P34
              refine (spec_Sg n4 _).mono ?_
              rintro e w' ⟨rfl, rfl⟩
              generalize sgnI n4 = s4 at *
              dsimp only
              repeat (first | go_values | go_skip | go_guarded | go_step | go_upon | go_back)
              refine (O3.out _).mono ?_
              rintro e w5 ⟨rfl, b5⟩
              have G5 := G4.below b5
              have B5 := B4.trans (b5.mono B4.size)
              obtain ⟨e05, e15⟩ := cells2z G5.p0; obtain ⟨f05, f15⟩ := cells2z G5.p1; obtain ⟨g05, g15⟩ := cells2z G5.p2; obtain ⟨d05, d15⟩ := cells2z G5.p3; dsimp only at e05 e15 f05 f15 g05 g15 d05 d15
              dsimp only
              repeat (first | go_values | go_skip | go_guarded | go_step | go_upon | go_back)
              go_ret
              exact ⟨rfl, B5⟩
        · have N3 := fun h : n3 = 0 ∧ boxP ⟨cx, cy⟩ ⟨dx, dy⟩ ⟨ax, ay⟩ => y3 h.1
          clear y3
          rcases S4 with ⟨z4, y4⟩ | ⟨z4, y4⟩
          · by_cases x4 : boxP ⟨cx, cy⟩ ⟨dx, dy⟩ ⟨bx, bY⟩
            · have hm : m = true := Hm.out.2 (.inl (.inr (.inr (.inr ⟨y4, x4⟩))))
              subst hm
              rw [decide_eq_true x4] at O4
              clear Hm x4 y4 NO P12 P34
              refine (spec_Sg n4 _).mono ?_
              rintro e w' ⟨rfl, rfl⟩
              generalize sgnI n4 = s4 at *
              dsimp only
              repeat (first | go_values | go_skip | go_guarded | go_step | go_upon | go_back)
              refine (O4.out _).mono ?_
              rintro e w5 ⟨rfl, b5⟩
              have G5 := G4.below b5
              have B5 := B4.trans (b5.mono B4.size)
              obtain ⟨e05, e15⟩ := cells2z G5.p0; obtain ⟨f05, f15⟩ := cells2z G5.p1; obtain ⟨g05, g15⟩ := cells2z G5.p2; obtain ⟨d05, d15⟩ := cells2z G5.p3; dsimp only at e05 e15 f05 f15 g05 g15 d05 d15
              dsimp only
              repeat (first | go_values | go_skip | go_guarded | go_step | go_upon | go_back)
              go_ret
              exact ⟨rfl, B5⟩
            · have N4 := fun h : n4 = 0 ∧ boxP ⟨cx, cy⟩ ⟨dx, dy⟩ ⟨bx, bY⟩ => x4 h.2
              rw [decide_eq_false x4] at O4
              clear x4 y4
              have hm : m = false := by
                rw [← Bool.not_eq_true]
                intro h
                rcases Hm.out.1 h with (h | h | h | h) | h
                · exact N1 h
                · exact N2 h
                · exact N3 h
                · exact N4 h
                · exact NO h
              subst hm
              clear Hm N1 N2 N3 N4 NO P12 P34
              refine (spec_Sg n4 _).mono ?_
              rintro e w' ⟨rfl, rfl⟩
              generalize sgnI n4 = s4 at *
              dsimp only
              repeat (first | go_values | go_skip | go_guarded | go_step | go_upon | go_back)
              refine (O4.out _).mono ?_
              rintro e w5 ⟨rfl, b5⟩
              have G5 := G4.below b5
              have B5 := B4.trans (b5.mono B4.size)
              obtain ⟨e05, e15⟩ := cells2z G5.p0; obtain ⟨f05, f15⟩ := cells2z G5.p1; obtain ⟨g05, g15⟩ := cells2z G5.p2; obtain ⟨d05, d15⟩ := cells2z G5.p3; dsimp only at e05 e15 f05 f15 g05 g15 d05 d15
              dsimp only
              repeat (first | go_values | go_skip | go_guarded | go_step | go_upon | go_back)
              go_ret
              exact ⟨rfl, B5⟩
          · have N4 := fun h : n4 = 0 ∧ boxP ⟨cx, cy⟩ ⟨dx, dy⟩ ⟨bx, bY⟩ => y4 h.1
            clear y4
            have hm : m = false := by
              rw [← Bool.not_eq_true]
              intro h
              rcases Hm.out.1 h with (h | h | h | h) | h
              · exact N1 h
              · exact N2 h
              · exact N3 h
              · exact N4 h
              · exact NO h
            subst hm
            clear Hm N1 N2 N3 N4 NO P12 P34
            refine (spec_Sg n4 _).mono ?_
            rintro e w' ⟨rfl, rfl⟩
            generalize sgnI n4 = s4 at *
            dsimp only
            repeat (first | go_values | go_skip | go_guarded | go_step | go_upon | go_back)
            go_ret
            exact ⟨rfl, B4⟩
end Go.Proofs.YtpabbehpkokhbaaDoor
