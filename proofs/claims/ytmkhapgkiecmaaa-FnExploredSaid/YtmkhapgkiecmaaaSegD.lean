/- Segments, the reference: how far they lie apart. -/
import Derived.Test.YtmkhapgkiecmaaaSegC
namespace Go.Proofs.Ytmkhapgkiecmaaa
open Go.RowKit
/-- A segment, a point and a fraction in three boxes. -/
structure PB (q : Nat) (a b p : Pnt) (f g : Int) (w : World) : Prop where
  seg : w.heap[q]? = some (.cells #[.int .i64 a.x, .int .i64 a.y, .int .i64 b.x, .int .i64 b.y] 147 (0, 0))
  pnt : w.heap[q + 1]? = some (.cells #[.int .i64 p.x, .int .i64 p.y] 114 (0, 0))
  res : w.heap[q + 1 + 1]? = some (.cells #[.int .i64 f, .int .i64 g] 155 (0, 0))
theorem PB.below {q : Nat} {a b p : Pnt} {f g : Int} {w w' : World} (h : PB q a b p f g w) (hb : Below w.heap.size w w') : PB q a b p f g w' := ⟨blkN_below hb h.seg, blkN_below hb h.pnt, blkN_below hb h.res⟩
theorem cells2s {p : Nat} {a b : Value} {t : TypeId} {f : Nat × Nat} {w : World} (h : w.heap[p]? = some (.cells #[a, b] t f)) : w.cell? ⟨p, 0, none⟩ = some a ∧ w.cell? ⟨p, 1, none⟩ = some b := ⟨(Lib.cell_of_heap h 0).trans rfl, (Lib.cell_of_heap h 1).trans rfl⟩
theorem redF_one (n : Int) : redF n 1 = (n, 1) := by
  unfold redF
  have : Nat.gcd n.natAbs (1 : Int).natAbs = 1 := Nat.gcd_one_right _
  rw [this]
  simp
theorem box3_1 (w : World) (o p q : Obj) : (((w.alloc o).alloc p).alloc q).heap[w.heap.size + 1]? = some p := blkN_below ((Below.refl _ _).alloc (Nat.le_refl _) q) (box2_1 w o p)
set_option maxRecDepth 100000 in
set_option maxHeartbeats 8000000 in
theorem spec_PS (a b p : Pnt) (w : World) (ha : Crd a) (hb : Crd b) (hp : Crd p) : Calls Try.prog 132 #[.agg #[.int .i64 (a).x, .int .i64 (a).y, .int .i64 (b).x, .int .i64 (b).y], .agg #[.int .i64 (p).x, .int .i64 (p).y]] w fun e w' => e = .returned (.agg #[.int .i64 (psF a b p).1, .int .i64 (psF a b p).2]) ∧ Below w.heap.size w w' := by
  have hbd := psF_bd ha hb hp
  have K1 := Lib.hid (fun w => spec_SqP a b w ha hb)
  have K2 := Lib.hid (fun w => spec_Dot a b p w ha hb hp)
  have K3 := Lib.hid (fun w => spec_SqP a p w ha hp)
  have K4 := Lib.hid (fun w => spec_SqP b p w hb hp)
  have K5 := Lib.hid (fun w => spec_Cross a b p w ha hb hp)
  have hx := (cross_bd ha hb hp).2
  have hq1 := (sqP_bd ha hb).2
  have hq2 := (sqP_bd ha hp).2
  have hq3 := (sqP_bd hb hp).2
  have hxx := prod_bd (A := 968000000) (B := 968000000) hx hx
  have hx0 := sq_nn (crossP a b p)
  have M1 := Lib.hid (fun w => spec_Red (sqP a p) 1 w hq2.1 (by omega) (by omega) (by omega))
  have M2 := Lib.hid (fun w => spec_Red (sqP b p) 1 w hq3.1 (by omega) (by omega) (by omega))
  rw [redF_one] at M1 M2
  have M3 := Lib.hid (fun w (h : 0 < sqP a b) => spec_Red (crossP a b p * crossP a b p) (sqP a b) w hx0 h (by omega) (by omega))
  have G0 : PB w.heap.size a b p 0 0 (((w.alloc (.cells #[.int .i64 a.x, .int .i64 a.y, .int .i64 b.x, .int .i64 b.y] 147)).alloc (.cells #[.int .i64 p.x, .int .i64 p.y] 114)).alloc (.cells #[.int .i64 0, .int .i64 0] 155)) := ⟨box3_0 _ _ _ _, box3_1 _ _ _ _, box3_2 _ _ _ _⟩
  have B0 : Below w.heap.size w (((w.alloc (.cells #[.int .i64 a.x, .int .i64 a.y, .int .i64 b.x, .int .i64 b.y] 147)).alloc (.cells #[.int .i64 p.x, .int .i64 p.y] 114)).alloc (.cells #[.int .i64 0, .int .i64 0] 155)) := (((Below.refl _ w).alloc (Nat.le_refl _) _).alloc (by simp) _).alloc (by simp; omega) _
  have hps : psF a b p = if dotP a b p ≤ 0 then (sqP a p, 1) else if sqP a b ≤ dotP a b p then (sqP b p, 1) else redF (crossP a b p * crossP a b p) (sqP a b) := by
    unfold psF
    rw [sqP_comm p a, sqP_comm p b, sqP_comm b a]
  have hdq := (dot_bd ha hb hp).2
  clear ha hb hp hq2 hq3 hbd
  generalize psF a b p = R at *
  generalize sqP a b = q1 at *
  generalize sqP a p = q2 at *
  generalize sqP b p = q3 at *
  generalize dotP a b p = dt at *
  generalize crossP a b p = cr at *
  obtain ⟨ax, ay⟩ := a
  obtain ⟨bx, bY⟩ := b
  obtain ⟨px, py⟩ := p
  dsimp only at *
  have HR := Lib.hid hps
  clear hps
  go_enter Try.func132, Try.ntmps132
  go_wp2_with fail
  obtain ⟨w0, hw0⟩ : ∃ w0, (((w.alloc (.cells #[.int .i64 ax, .int .i64 ay, .int .i64 bx, .int .i64 bY] 147)).alloc (.cells #[.int .i64 px, .int .i64 py] 114)).alloc (.cells #[.int .i64 0, .int .i64 0] 155)) = w0 := ⟨_, rfl⟩
  rw [hw0] at G0 B0 ⊢
  clear hw0
  refine (K1.out _).mono ?_
  rintro e w1 ⟨rfl, b1⟩
  have G1 := G0.below b1
  have B1 := B0.trans (b1.mono B0.size)
  obtain ⟨e01, e11, e21, e31⟩ := cells4s G1.seg; obtain ⟨d01, d11⟩ := cells2s G1.pnt; obtain ⟨r01, r11⟩ := cells2s G1.res; have f01 := fun j => Lib.frozen_of_heap G1.res j; dsimp only at e01 e11 e21 e31 d01 d11
  clear G0 B0 b1
  dsimp only
  repeat (first | go_values | go_skip | go_guarded | go_step | go_upon | go_back)
  refine (K2.out _).mono ?_
  rintro e w2 ⟨rfl, b2⟩
  have G2 := G1.below b2
  have B2 := B1.trans (b2.mono B1.size)
  obtain ⟨e02, e12, e22, e32⟩ := cells4s G2.seg; obtain ⟨d02, d12⟩ := cells2s G2.pnt; obtain ⟨r02, r12⟩ := cells2s G2.res; have f02 := fun j => Lib.frozen_of_heap G2.res j; dsimp only at e02 e12 e22 e32 d02 d12
  clear G1 B1 b2
  dsimp only
  by_cases h1 : dt ≤ 0
  · have hR := HR.out
    rw [if_pos h1] at hR
    subst hR
    clear HR
    repeat (first | go_values | go_skip | go_guarded | go_step | go_upon | go_back)
    refine (K3.out _).mono ?_
    rintro e w3 ⟨rfl, b3⟩
    have G3 := G2.below b3
    have B3 := B2.trans (b3.mono B2.size)
    obtain ⟨e03, e13, e23, e33⟩ := cells4s G3.seg; obtain ⟨d03, d13⟩ := cells2s G3.pnt; obtain ⟨r03, r13⟩ := cells2s G3.res; have f03 := fun j => Lib.frozen_of_heap G3.res j; dsimp only at e03 e13 e23 e33 d03 d13
    dsimp only
    repeat (first | go_values | go_skip | go_guarded | go_step | go_upon | go_back)
    refine (M1.out _).mono ?_
    rintro e w4 ⟨rfl, b4⟩
    have G4 := G3.below b4
    have B4 := B3.trans (b4.mono B3.size)
    obtain ⟨e04, e14, e24, e34⟩ := cells4s G4.seg; obtain ⟨d04, d14⟩ := cells2s G4.pnt; obtain ⟨r04, r14⟩ := cells2s G4.res; have f04 := fun j => Lib.frozen_of_heap G4.res j; dsimp only at e04 e14 e24 e34 d04 d14
    dsimp only
    repeat (first | go_values | go_skip | go_guarded | go_step | go_upon | go_back)
    exact bodyPost_ret (v := .agg #[.int .i64 q2, .int .i64 1]) (by simp [results, Try.results132, go_sem, r04, r14]) rfl ⟨rfl, (B4.setCell (p := ⟨w.heap.size + 1 + 1, 0, none⟩) (by simp only []; omega) _).setCell (p := ⟨w.heap.size + 1 + 1, 1, none⟩) (by simp only []; omega) _⟩
  · have hR := HR.out
    rw [if_neg h1] at hR
    clear HR
    by_cases h2 : q1 ≤ dt
    · rw [if_pos h2] at hR
      subst hR
      repeat (first | go_values | go_skip | go_guarded | go_step | go_upon | go_back)
      refine (K4.out _).mono ?_
      rintro e w3 ⟨rfl, b3⟩
      have G3 := G2.below b3
      have B3 := B2.trans (b3.mono B2.size)
      obtain ⟨e03, e13, e23, e33⟩ := cells4s G3.seg; obtain ⟨d03, d13⟩ := cells2s G3.pnt; obtain ⟨r03, r13⟩ := cells2s G3.res; have f03 := fun j => Lib.frozen_of_heap G3.res j; dsimp only at e03 e13 e23 e33 d03 d13
      dsimp only
      repeat (first | go_values | go_skip | go_guarded | go_step | go_upon | go_back)
      refine (M2.out _).mono ?_
      rintro e w4 ⟨rfl, b4⟩
      have G4 := G3.below b4
      have B4 := B3.trans (b4.mono B3.size)
      obtain ⟨e04, e14, e24, e34⟩ := cells4s G4.seg; obtain ⟨d04, d14⟩ := cells2s G4.pnt; obtain ⟨r04, r14⟩ := cells2s G4.res; have f04 := fun j => Lib.frozen_of_heap G4.res j; dsimp only at e04 e14 e24 e34 d04 d14
      dsimp only
      repeat (first | go_values | go_skip | go_guarded | go_step | go_upon | go_back)
      exact bodyPost_ret (v := .agg #[.int .i64 q3, .int .i64 1]) (by simp [results, Try.results132, go_sem, r04, r14]) rfl ⟨rfl, (B4.setCell (p := ⟨w.heap.size + 1 + 1, 0, none⟩) (by simp only []; omega) _).setCell (p := ⟨w.heap.size + 1 + 1, 1, none⟩) (by simp only []; omega) _⟩
    · rw [if_neg h2] at hR
      subst hR
      have hw : IntKind.i64.wrap (cr * cr) = cr * cr := by rw [IntKind.wrap_i64]; omega
      repeat (first | go_values | go_skip | go_guarded | go_step | go_upon | go_back)
      refine (K5.out _).mono ?_
      rintro e w3 ⟨rfl, b3⟩
      have G3 := G2.below b3
      have B3 := B2.trans (b3.mono B2.size)
      obtain ⟨e03, e13, e23, e33⟩ := cells4s G3.seg; obtain ⟨d03, d13⟩ := cells2s G3.pnt; obtain ⟨r03, r13⟩ := cells2s G3.res; have f03 := fun j => Lib.frozen_of_heap G3.res j; dsimp only at e03 e13 e23 e33 d03 d13
      dsimp only
      repeat (first | go_values | go_skip | go_guarded | go_step | go_upon | go_back)
      refine (M3.out _ (by omega)).mono ?_
      rintro e w4 ⟨rfl, b4⟩
      have G4 := G3.below b4
      have B4 := B3.trans (b4.mono B3.size)
      obtain ⟨e04, e14, e24, e34⟩ := cells4s G4.seg; obtain ⟨d04, d14⟩ := cells2s G4.pnt; obtain ⟨r04, r14⟩ := cells2s G4.res; have f04 := fun j => Lib.frozen_of_heap G4.res j; dsimp only at e04 e14 e24 e34 d04 d14
      dsimp only
      repeat (first | go_values | go_skip | go_guarded | go_step | go_upon | go_back)
      exact bodyPost_ret (v := .agg #[.int .i64 (redF (cr * cr) q1).1, .int .i64 (redF (cr * cr) q1).2]) (by simp [results, Try.results132, go_sem, r04, r14]) rfl ⟨rfl, (B4.setCell (p := ⟨w.heap.size + 1 + 1, 0, none⟩) (by simp only []; omega) _).setCell (p := ⟨w.heap.size + 1 + 1, 1, none⟩) (by simp only []; omega) _⟩
end Go.Proofs.Ytmkhapgkiecmaaa
