/- Segments, the program: how far a point lies from a segment; what a segment covers; which fraction is less. -/
import Derived.Test.YteeigmgepahdhaaDoorSegH
namespace Go.Proofs.YteeigmgepahdhaaDoor
open Go.RowKit
set_option maxRecDepth 100000 in
set_option maxHeartbeats 8000000 in
theorem impl_PS (a b p : Pnt) (w : World) (ha : Crd a) (hb : Crd b) (hp : Crd p) : Calls Tryd.prog 100 #[.agg #[.int .i64 (a).x, .int .i64 (a).y, .int .i64 (b).x, .int .i64 (b).y], .agg #[.int .i64 (p).x, .int .i64 (p).y]] w fun e w' => e = .returned (.agg #[.int .i64 (psF a b p).1, .int .i64 (psF a b p).2]) ∧ Below w.heap.size w w' := by
  have K3 := Lib.hid (fun w => impl_SqP p a w hp ha)
  have K4 := Lib.hid (fun w => impl_SqP p b w hp hb)
  have K5 := Lib.hid (fun w => impl_Side a b p w ha hb hp)
  have hx := (cross_bd ha hb hp).2
  obtain ⟨⟨⟨d1, d2⟩, d3, d4⟩, d5, d6⟩ := dot_bd ha hb hp
  obtain ⟨⟨⟨l1, l2⟩, l3, l4⟩, l5, l6⟩ := sqP_bd hb ha
  have hxx := prod_bd (A := 968000000) (B := 968000000) hx hx
  have hx0 := sq_nn (crossP a b p)
  have M3 := Lib.hid (fun w (h : 0 < sqP b a) => impl_Red (crossP a b p * crossP a b p) (sqP b a) w hx0 h (by omega) (by omega))
  have G0 : PB w.heap.size a b p 0 0 (((w.alloc (.cells #[.int .i64 a.x, .int .i64 a.y, .int .i64 b.x, .int .i64 b.y] 72)).alloc (.cells #[.int .i64 p.x, .int .i64 p.y] 25)).alloc (.cells #[.int .i64 0, .int .i64 0] 122)) := ⟨box3_0 _ _ _ _, box3_1 _ _ _ _, box3_2 _ _ _ _⟩
  have B0 : Below w.heap.size w (((w.alloc (.cells #[.int .i64 a.x, .int .i64 a.y, .int .i64 b.x, .int .i64 b.y] 72)).alloc (.cells #[.int .i64 p.x, .int .i64 p.y] 25)).alloc (.cells #[.int .i64 0, .int .i64 0] 122)) := (((Below.refl _ w).alloc (Nat.le_refl _) _).alloc (by simp) _).alloc (by simp; omega) _
  have hps : psF a b p = if dotP a b p ≤ 0 then (sqP p a, 1) else if sqP b a ≤ dotP a b p then (sqP p b, 1) else redF (crossP a b p * crossP a b p) (sqP b a) := rfl
  have hdt : (p.x - a.x) * (b.x - a.x) + (p.y - a.y) * (b.y - a.y) = dotP a b p := by unfold dotP; rw [Int.mul_comm (p.x - a.x), Int.mul_comm (p.y - a.y)]
  have hlt : (b.x - a.x) * (b.x - a.x) + (b.y - a.y) * (b.y - a.y) = sqP b a := rfl
  rw [Int.mul_comm] at d1 d2 d3 d4
  obtain ⟨⟨_, _⟩, _, _⟩ := ha
  obtain ⟨⟨_, _⟩, _, _⟩ := hb
  obtain ⟨⟨_, _⟩, _, _⟩ := hp
  generalize psF a b p = R at *
  generalize sqP b a = q1 at *
  generalize sqP p a = q2 at *
  generalize sqP p b = q3 at *
  generalize dotP a b p = dt at *
  generalize crossP a b p = cr at *
  obtain ⟨ax, ay⟩ := a
  obtain ⟨bx, bY⟩ := b
  obtain ⟨px, py⟩ := p
  dsimp only at *
  generalize h1 : (px - ax) * (bx - ax) = m1 at *
  generalize h2 : (py - ay) * (bY - ay) = m2 at *
  generalize h3 : (bx - ax) * (bx - ax) = m3 at *
  generalize h4 : (bY - ay) * (bY - ay) = m4 at *
  have hw1 : IntKind.i64.wrap (bx - ax) = bx - ax := by rw [IntKind.wrap_i64]; omega
  have hw2 : IntKind.i64.wrap (bY - ay) = bY - ay := by rw [IntKind.wrap_i64]; omega
  have hw3 : IntKind.i64.wrap m1 = m1 := by rw [IntKind.wrap_i64]; omega
  have hw4 : IntKind.i64.wrap m2 = m2 := by rw [IntKind.wrap_i64]; omega
  have hw5 : IntKind.i64.wrap m3 = m3 := by rw [IntKind.wrap_i64]; omega
  have hw6 : IntKind.i64.wrap m4 = m4 := by rw [IntKind.wrap_i64]; omega
  have hw7 : IntKind.i64.wrap dt = dt := by rw [IntKind.wrap_i64]; omega
  have hw8 : IntKind.i64.wrap q1 = q1 := by rw [IntKind.wrap_i64]; omega
  have HR := Lib.hid hps
  clear hps
  go_enter Tryd.func100, Tryd.ntmps100
  go_wp2_with fail
  obtain ⟨w0, hw0⟩ : ∃ w0, (((w.alloc (.cells #[.int .i64 ax, .int .i64 ay, .int .i64 bx, .int .i64 bY] 72)).alloc (.cells #[.int .i64 px, .int .i64 py] 25)).alloc (.cells #[.int .i64 0, .int .i64 0] 122)) = w0 := ⟨_, rfl⟩
  rw [hw0] at G0 B0 ⊢
  clear hw0
  obtain ⟨e00, e10, e20, e30⟩ := cells4s G0.seg; obtain ⟨d00, d10⟩ := cells2s G0.pnt; obtain ⟨r00, r10⟩ := cells2s G0.res; have f00 := fun j => Lib.frozen_of_heap G0.res j; dsimp only at e00 e10 e20 e30 d00 d10
  go_quiet (fail)
  clear e00 e10 e20 e30 d00 d10 r00 r10 f00
  have G2 := G0.below (below_dN (Below.refl w0.heap.size w0) nq)
  have B2 := below_dN B0 nq
  obtain ⟨w2, hw2'⟩ : ∃ w2, w0.drewN nq = w2 := ⟨_, rfl⟩
  rw [hw2'] at G2 B2 ⊢
  clear hw2' G0 B0
  obtain ⟨e02, e12, e22, e32⟩ := cells4s G2.seg; obtain ⟨d02, d12⟩ := cells2s G2.pnt; obtain ⟨r02, r12⟩ := cells2s G2.res; have f02 := fun j => Lib.frozen_of_heap G2.res j; dsimp only at e02 e12 e22 e32 d02 d12
  by_cases hc1 : dt ≤ 0
  · have hR := HR.out
    rw [if_pos hc1] at hR
    subst hR
    clear HR
    go_wp2_with fail
    refine (K3.out _).mono ?_
    rintro e w3 ⟨rfl, b3⟩
    have G3 := G2.below b3
    have B3 := B2.trans (b3.mono B2.size)
    obtain ⟨e03, e13, e23, e33⟩ := cells4s G3.seg; obtain ⟨d03, d13⟩ := cells2s G3.pnt; obtain ⟨r03, r13⟩ := cells2s G3.res; have f03 := fun j => Lib.frozen_of_heap G3.res j; dsimp only at e03 e13 e23 e33 d03 d13
    dsimp only
    go_wp2
    refine bodyPost_ret (v := .agg #[.int .i64 q2, .int .i64 1]) (by simp [results, Tryd.results100, go_sem, r03, r13]) rfl ?_
    exact ⟨rfl, (B3.setCell (p := ⟨w.heap.size + 1 + 1, 0, none⟩) (by simp only []; omega) _).setCell (p := ⟨w.heap.size + 1 + 1, 1, none⟩) (by simp only []; omega) _⟩
  · have hR := HR.out
    rw [if_neg hc1] at hR
    clear HR
    by_cases hc2 : q1 ≤ dt
    · rw [if_pos hc2] at hR
      subst hR
      go_wp2_with fail
      refine (K4.out _).mono ?_
      rintro e w3 ⟨rfl, b3⟩
      have G3 := G2.below b3
      have B3 := B2.trans (b3.mono B2.size)
      obtain ⟨e03, e13, e23, e33⟩ := cells4s G3.seg; obtain ⟨d03, d13⟩ := cells2s G3.pnt; obtain ⟨r03, r13⟩ := cells2s G3.res; have f03 := fun j => Lib.frozen_of_heap G3.res j; dsimp only at e03 e13 e23 e33 d03 d13
      dsimp only
      go_wp2
      refine bodyPost_ret (v := .agg #[.int .i64 q3, .int .i64 1]) (by simp [results, Tryd.results100, go_sem, r03, r13]) rfl ?_
      exact ⟨rfl, (B3.setCell (p := ⟨w.heap.size + 1 + 1, 0, none⟩) (by simp only []; omega) _).setCell (p := ⟨w.heap.size + 1 + 1, 1, none⟩) (by simp only []; omega) _⟩
    · rw [if_neg hc2] at hR
      subst hR
      have hwc : IntKind.i64.wrap (cr * cr) = cr * cr := by rw [IntKind.wrap_i64]; omega
      go_wp2_with fail
      refine (K5.out _).mono ?_
      rintro e w3 ⟨rfl, b3⟩
      have G3 := G2.below b3
      have B3 := B2.trans (b3.mono B2.size)
      obtain ⟨e03, e13, e23, e33⟩ := cells4s G3.seg; obtain ⟨d03, d13⟩ := cells2s G3.pnt; obtain ⟨r03, r13⟩ := cells2s G3.res; have f03 := fun j => Lib.frozen_of_heap G3.res j; dsimp only at e03 e13 e23 e33 d03 d13
      dsimp only
      go_wp2_with fail
      refine (M3.out _ (by omega)).mono ?_
      rintro e w4 ⟨rfl, b4⟩
      have G4 := G3.below b4
      have B4 := B3.trans (b4.mono B3.size)
      obtain ⟨e04, e14, e24, e34⟩ := cells4s G4.seg; obtain ⟨d04, d14⟩ := cells2s G4.pnt; obtain ⟨r04, r14⟩ := cells2s G4.res; have f04 := fun j => Lib.frozen_of_heap G4.res j; dsimp only at e04 e14 e24 e34 d04 d14
      dsimp only
      go_wp2
      refine bodyPost_ret (v := .agg #[.int .i64 (redF (cr * cr) q1).1, .int .i64 (redF (cr * cr) q1).2]) (by simp [results, Tryd.results100, go_sem, r04, r14]) rfl ?_
      exact ⟨rfl, (B4.setCell (p := ⟨w.heap.size + 1 + 1, 0, none⟩) (by simp only []; omega) _).setCell (p := ⟨w.heap.size + 1 + 1, 1, none⟩) (by simp only []; omega) _⟩
theorem cover_ways (a b p : Pnt) : (coverP a b p ∧ crossP a b p = 0 ∧ (min a.x b.x ≤ p.x ∧ p.x ≤ max a.x b.x) ∧ (min a.y b.y ≤ p.y ∧ p.y ≤ max a.y b.y)) ∨ (¬ coverP a b p ∧ crossP a b p = 0 ∧ (min a.x b.x ≤ p.x ∧ p.x ≤ max a.x b.x) ∧ ¬ (min a.y b.y ≤ p.y ∧ p.y ≤ max a.y b.y)) ∨ (¬ coverP a b p ∧ crossP a b p = 0 ∧ ¬ (min a.x b.x ≤ p.x ∧ p.x ≤ max a.x b.x)) ∨ (¬ coverP a b p ∧ ¬ crossP a b p = 0) := by
  by_cases h : crossP a b p = 0
  · rcases box_cases a b p with ⟨h1, h2⟩ | ⟨h1, h2⟩ | ⟨h1, h2⟩
    · exact .inl ⟨⟨h, h1⟩, h, h2⟩
    · exact .inr (.inl ⟨fun k => h1 k.2, h, h2⟩)
    · exact .inr (.inr (.inl ⟨fun k => h1 k.2, h, h2⟩))
  · exact .inr (.inr (.inr ⟨fun k => h k.1, h⟩))
set_option maxRecDepth 100000 in
set_option maxHeartbeats 4000000 in
theorem impl_Covers (a b p : Pnt) (w : World) (ha : Crd a) (hb : Crd b) (hp : Crd p) : Calls Tryd.prog 109 #[.agg #[.int .i64 (a).x, .int .i64 (a).y, .int .i64 (b).x, .int .i64 (b).y], .agg #[.int .i64 (p).x, .int .i64 (p).y]] w fun e w' => e = .returned (.bool (decide (coverP a b p))) ∧ Below w.heap.size w w' := by
  have K := fun w => impl_Side a b p w ha hb hp
  clear ha hb hp
  rcases cover_ways a b p with ⟨h, h0, ⟨h1, h2⟩, h3, h4⟩ | ⟨h, h0, ⟨h1, h2⟩, h3⟩ | ⟨h, h0, h1⟩ | ⟨h, h0⟩
  · rw [decide_eq_true h]
    rw [h0] at K
    have K := Lib.hid K
    clear h h0
    obtain ⟨ax, ay⟩ := a
    obtain ⟨bx, bY⟩ := b
    obtain ⟨px, py⟩ := p
    dsimp only at *
    go_enter Tryd.func109, Tryd.ntmps109
    go_wp2_with (first | (go_at_call 111; refine (K.out _).mono ?_; rintro e w1 ⟨rfl, b1⟩; have E0 := blkN_below b1 (box2_0 _ _ _); have E1 := blkN_below b1 (box2_1 _ _ _); have B1 := (((Below.refl w.heap.size w).alloc (Nat.le_refl _) _).alloc (by simp) _).trans (b1.mono (by simp; omega)); obtain ⟨e0, e1, e2, e3⟩ := cells4s E0; obtain ⟨d0, d1⟩ := cells2s E1; clear b1 E0 E1) | (go_at_call 27; first | (refine (impl_within_t _ _ _ _ (by omega) (by omega)).mono ?_; rintro e w' ⟨rfl, rfl⟩) | (refine (impl_within_f _ _ _ _ (by omega)).mono ?_; rintro e w' ⟨rfl, rfl⟩)))
    go_ret
    exact ⟨rfl, B1⟩
  · rw [decide_eq_false h]
    rw [h0] at K
    have K := Lib.hid K
    clear h h0
    obtain ⟨ax, ay⟩ := a
    obtain ⟨bx, bY⟩ := b
    obtain ⟨px, py⟩ := p
    dsimp only at *
    go_enter Tryd.func109, Tryd.ntmps109
    go_wp2_with (first | (go_at_call 111; refine (K.out _).mono ?_; rintro e w1 ⟨rfl, b1⟩; have E0 := blkN_below b1 (box2_0 _ _ _); have E1 := blkN_below b1 (box2_1 _ _ _); have B1 := (((Below.refl w.heap.size w).alloc (Nat.le_refl _) _).alloc (by simp) _).trans (b1.mono (by simp; omega)); obtain ⟨e0, e1, e2, e3⟩ := cells4s E0; obtain ⟨d0, d1⟩ := cells2s E1; clear b1 E0 E1) | (go_at_call 27; first | (refine (impl_within_t _ _ _ _ (by omega) (by omega)).mono ?_; rintro e w' ⟨rfl, rfl⟩) | (refine (impl_within_f _ _ _ _ (by omega)).mono ?_; rintro e w' ⟨rfl, rfl⟩)))
    go_ret
    exact ⟨rfl, B1⟩
  · rw [decide_eq_false h]
    rw [h0] at K
    have K := Lib.hid K
    clear h h0
    obtain ⟨ax, ay⟩ := a
    obtain ⟨bx, bY⟩ := b
    obtain ⟨px, py⟩ := p
    dsimp only at *
    go_enter Tryd.func109, Tryd.ntmps109
    go_wp2_with (first | (go_at_call 111; refine (K.out _).mono ?_; rintro e w1 ⟨rfl, b1⟩; have E0 := blkN_below b1 (box2_0 _ _ _); have E1 := blkN_below b1 (box2_1 _ _ _); have B1 := (((Below.refl w.heap.size w).alloc (Nat.le_refl _) _).alloc (by simp) _).trans (b1.mono (by simp; omega)); obtain ⟨e0, e1, e2, e3⟩ := cells4s E0; obtain ⟨d0, d1⟩ := cells2s E1; clear b1 E0 E1) | (go_at_call 27; first | (refine (impl_within_t _ _ _ _ (by omega) (by omega)).mono ?_; rintro e w' ⟨rfl, rfl⟩) | (refine (impl_within_f _ _ _ _ (by omega)).mono ?_; rintro e w' ⟨rfl, rfl⟩)))
    go_ret
    exact ⟨rfl, B1⟩
  · rw [decide_eq_false h]
    clear h
    have hb0 : (crossP a b p == 0) = false := by rw [beq_eq_false_iff_ne]; exact h0
    generalize crossP a b p = cr at *
    have K := Lib.hid K
    clear h0
    obtain ⟨ax, ay⟩ := a
    obtain ⟨bx, bY⟩ := b
    obtain ⟨px, py⟩ := p
    dsimp only at *
    go_enter Tryd.func109, Tryd.ntmps109
    go_wp2_with (first | (go_at_call 111; refine (K.out _).mono ?_; rintro e w1 ⟨rfl, b1⟩; have E0 := blkN_below b1 (box2_0 _ _ _); have E1 := blkN_below b1 (box2_1 _ _ _); have B1 := (((Below.refl w.heap.size w).alloc (Nat.le_refl _) _).alloc (by simp) _).trans (b1.mono (by simp; omega)); obtain ⟨e0, e1, e2, e3⟩ := cells4s E0; obtain ⟨d0, d1⟩ := cells2s E1; clear b1 E0 E1) | (go_at_call 27; first | (refine (impl_within_t _ _ _ _ (by omega) (by omega)).mono ?_; rintro e w' ⟨rfl, rfl⟩) | (refine (impl_within_f _ _ _ _ (by omega)).mono ?_; rintro e w' ⟨rfl, rfl⟩)))
    go_ret
    exact ⟨rfl, B1⟩
end Go.Proofs.YteeigmgepahdhaaDoor
