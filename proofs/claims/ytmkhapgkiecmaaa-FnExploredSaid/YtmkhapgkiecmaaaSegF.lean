/- Conflicts, the reference: booms, masts, whether two cranes are in conflict. -/
import Derived.Test.YtmkhapgkiecmaaaSegE
import Derived.Test.YtmkhapgkiecmaaaConP
namespace Go.Proofs.Ytmkhapgkiecmaaa
open Go.RowKit
set_option maxRecDepth 100000 in
set_option maxHeartbeats 4000000 in
theorem spec_Near (a b c d : Pnt) (n : Int) (w : World) (ha : Crd a) (hb : Crd b) (hc : Crd c) (hd : Crd d) (hn : 0 ≤ n ∧ n ≤ 1000) : Calls Try.prog 122 #[.agg #[.int .i64 (a).x, .int .i64 (a).y, .int .i64 (b).x, .int .i64 (b).y], .agg #[.int .i64 (c).x, .int .i64 (c).y, .int .i64 (d).x, .int .i64 (d).y], .int .i64 n] w fun e w' => e = .returned (.bool (decide (nearS a b c d (n * n)))) ∧ Below w.heap.size w w' := by
  have K1 := Lib.hid (fun w => spec_SegSq a b c d w ha hb hc hd)
  have hbd := segF_bd ha hb hc hd
  have hnn : 0 ≤ n * n ∧ n * n ≤ 1000000 := ⟨sq_nn n, (prod_bd (A := 1000) (B := 1000) (a := n) (b := n) (by omega) (by omega)).2⟩
  have hns := seg_near (n * n) hnn.1 ha hb hc hd
  obtain ⟨⟨s1, s2⟩, s3, s4⟩ := hbd
  have K2 := fun w => spec_Less (segF a b c d) (n * n, 1) w ⟨s1, by omega⟩ ⟨by omega, by omega⟩ ⟨hnn.1, by dsimp only; omega⟩ ⟨by dsimp only; omega, by dsimp only; omega⟩
  rw [show decide (ltF (segF a b c d) (n * n, 1)) = decide (nearS a b c d (n * n)) from decide_eq_decide.2 (by unfold ltF; rw [Int.mul_one]; exact hns)] at K2
  have K2 := Lib.hid K2
  have hw : IntKind.i64.wrap (n * n) = n * n := by rw [IntKind.wrap_i64]; omega
  clear ha hb hc hd hns s1 s2 s3 s4
  generalize decide (nearS a b c d (n * n)) = r at *
  generalize segF a b c d = fr at *
  obtain ⟨ax, ay⟩ := a
  obtain ⟨bx, bY⟩ := b
  obtain ⟨cx, cy⟩ := c
  obtain ⟨dx, dy⟩ := d
  dsimp only at *
  go_enter Try.func122, Try.ntmps122
  go_wp2_with (first | (go_at_call 128; refine (K1.out _).mono ?_; rintro e w1 ⟨rfl, b1⟩; have B1 := ((((Below.refl _ w).alloc (Nat.le_refl _) _).alloc (by simp) _).trans (b1.mono (by simp; omega)))) | (go_at_call 127; refine (K2.out _).mono ?_; rintro e w2 ⟨rfl, b2⟩))
  go_ret
  exact ⟨rfl, B1.trans (b2.mono B1.size)⟩
set_option maxRecDepth 100000 in
set_option maxHeartbeats 4000000 in
theorem spec_At (x y r : Int) (d : Nat) (w : World) (hp : Pl x y) (hd : d < 24) (hr : 0 ≤ r ∧ r ≤ 1000) : Calls Try.prog 111 #[.agg #[.int .i64 x, .int .i64 y], .int .i64 d, .int .i64 r] w fun e w' => e = .returned (.agg #[.int .i64 (plcI x y d r).x, .int .i64 (plcI x y d r).y]) ∧ Below w.heap.size w w' := by
  have K1 := Lib.hid (fun w => spec_Vector d hd w)
  obtain ⟨⟨⟨p1, p2⟩, p3, p4⟩, ⟨⟨t1, t2⟩, t3, t4⟩, -⟩ := plc_bd hp hd hr
  unfold Pl at hp
  obtain ⟨⟨h1, h2⟩, h3, h4⟩ := hp
  unfold plcI
  generalize vecN d = V at *
  obtain ⟨vx, vy⟩ := V
  dsimp only at *
  generalize hm1 : vx * r = m1 at *
  generalize hm2 : vy * r = m2 at *
  generalize ht1 : m1.tdiv 1000 = q1 at *
  generalize ht2 : m2.tdiv 1000 = q2 at *
  have hw1 : IntKind.i64.wrap m1 = m1 := by rw [IntKind.wrap_i64]; omega
  have hw2 : IntKind.i64.wrap m2 = m2 := by rw [IntKind.wrap_i64]; omega
  have hw3 : IntKind.i64.wrap q1 = q1 := by rw [IntKind.wrap_i64]; omega
  have hw4 : IntKind.i64.wrap q2 = q2 := by rw [IntKind.wrap_i64]; omega
  have hw5 : IntKind.i64.wrap (x + q1) = x + q1 := by rw [IntKind.wrap_i64]; omega
  have hw6 : IntKind.i64.wrap (y + q2) = y + q2 := by rw [IntKind.wrap_i64]; omega
  go_enter Try.func111, Try.ntmps111
  go_wp2_with fail
  refine (K1.out _).mono ?_
  rintro e w1 ⟨rfl, b1⟩
  have G0 := blkN_below b1 (box2_0 w (.cells #[.int .i64 x, .int .i64 y] 114) (.cells #[.int .i64 0, .int .i64 0] 114))
  have G1 := blkN_below b1 (box2_1 w (.cells #[.int .i64 x, .int .i64 y] 114) (.cells #[.int .i64 0, .int .i64 0] 114))
  have B1 := ((((Below.refl _ w).alloc (Nat.le_refl _) (.cells #[.int .i64 x, .int .i64 y] 114)).alloc (by simp) (.cells #[.int .i64 0, .int .i64 0] 114)).trans (b1.mono (by simp; omega)))
  obtain ⟨e0, e1⟩ := cells2s G0
  obtain ⟨r0, r1⟩ := cells2s G1
  have f1 := fun j => Lib.frozen_of_heap G1 j
  have z1 := World.block_lt_of_cell? w1 _ e0
  have z2 := World.block_lt_of_cell? w1 _ r0
  clear b1 G0 G1
  dsimp only
  go_wp2
  exact bodyPost_ret (v := .agg #[.int .i64 (x + q1), .int .i64 (y + q2)]) (by simp [results, Try.results111, go_sem, r0, r1, z2]) rfl ⟨rfl, by go_grown⟩
/-- The numbers of a crane, in a box or in a row. -/
structure CrB (q o : Nat) (f : CraneF) (w : World) : Prop where
  x : w.cell? ⟨q, o + 1, none⟩ = some (.int .i64 f.x)
  y : w.cell? ⟨q, o + 2, none⟩ = some (.int .i64 f.y)
  height : w.cell? ⟨q, o + 3, none⟩ = some (.int .i64 f.height)
  jib : w.cell? ⟨q, o + 4, none⟩ = some (.int .i64 f.jib)
  back : w.cell? ⟨q, o + 5, none⟩ = some (.int .i64 f.back)
theorem CrB.lt {q o : Nat} {f : CraneF} {w : World} (h : CrB q o f w) : q < w.heap.size := World.block_lt_of_cell? w _ h.x
theorem CrB.below {q o : Nat} {f : CraneF} {w w' : World} (h : CrB q o f w) (hb : Below w.heap.size w w') : CrB q o f w' :=
  ⟨(hb.cell (p := ⟨q, o + 1, none⟩) h.lt).trans h.x, (hb.cell (p := ⟨q, o + 2, none⟩) h.lt).trans h.y, (hb.cell (p := ⟨q, o + 3, none⟩) h.lt).trans h.height, (hb.cell (p := ⟨q, o + 4, none⟩) h.lt).trans h.jib, (hb.cell (p := ⟨q, o + 5, none⟩) h.lt).trans h.back⟩
set_option maxRecDepth 100000 in
set_option maxHeartbeats 4000000 in
theorem spec_Jib (q o : Nat) (f : CraneF) (d : Nat) (w : World) (h : CrB q o f w) (hf : GeoOk f) (hd : d < 24) : Calls Try.prog 130 #[.pointer (some ⟨q, o, none⟩), .int .i64 d] w fun e w' => e = .returned (.agg #[.int .i64 (jibP f d).x, .int .i64 (jibP f d).y]) ∧ Below w.heap.size w w' := by
  have K1 := fun w => spec_At f.x f.y f.jib d w hf.1 hd hf.2.2.1
  have hz := h.lt
  obtain ⟨e1, e2, -, e4, e5⟩ := h
  unfold jibP
  generalize plcI f.x f.y d f.jib = R at *
  obtain ⟨rx, ry⟩ := R
  obtain ⟨fn, fx, fy, fh, fj, fb⟩ := f
  dsimp only at *
  have hz1 : q < w.heap.size + 1 := by omega
  skip
  have K1 := Lib.hid K1
  go_enter Try.func130, Try.ntmps130
  go_wp2_with fail
  go_region_held3 (fun w' => (∀ b' o', b' < w.heap.size → w'.cell? ⟨b', o', none⟩ = w.cell? ⟨b', o', none⟩) ∧ Below w.heap.size w w') (first | exact heldB (((Below.refl _ _).alloc (Nat.le_refl _) _).drew) | exact heldB C1 | exact heldB ((C1.setCell (Nat.le_refl _) _).setCell (Nat.le_refl _) _))
    (first  | (go_at_call 111; refine (K1.out _).mono ?_; rintro e x1 ⟨rfl, c1⟩; have C1 : Below w.heap.size w x1 := ((Below.refl _ _).alloc (Nat.le_refl _) _).drew.trans (c1.mono (by simp [World.drew])); have G1 := blkN_below c1 (blkN_new w (.cells #[.int .i64 0, .int .i64 0] 114)); obtain ⟨r0, r1⟩ := cells2s G1; have f1 := fun j => Lib.frozen_of_heap G1 j))
  rename_i hH
  clear hH
  have z3 := World.block_lt_of_cell? x1 _ r0
  go_wp2
  refine bodyPost_ret (v := .agg #[.int .i64 rx, .int .i64 ry]) (by simp [results, Try.results130, go_sem, r0, r1]) rfl ?_
  exact ⟨rfl, (C1.setCell (p := ⟨w.heap.size, 0, none⟩) (Nat.le_refl _) _).setCell (p := ⟨w.heap.size, 1, none⟩) (Nat.le_refl _) _⟩
set_option maxRecDepth 100000 in
set_option maxHeartbeats 4000000 in
theorem spec_Back (q o : Nat) (f : CraneF) (d : Nat) (w : World) (h : CrB q o f w) (hf : GeoOk f) (hd : d < 24) : Calls Try.prog 129 #[.pointer (some ⟨q, o, none⟩), .int .i64 d] w fun e w' => e = .returned (.agg #[.int .i64 (backP f d).x, .int .i64 (backP f d).y]) ∧ Below w.heap.size w w' := by
  have K1 := fun w => spec_At f.x f.y f.back ((d + 12) % 24) w hf.1 (by omega) hf.2.2.2
  have hz := h.lt
  obtain ⟨e1, e2, -, e4, e5⟩ := h
  unfold backP
  generalize plcI f.x f.y ((d + 12) % 24) f.back = R at *
  obtain ⟨rx, ry⟩ := R
  obtain ⟨fn, fx, fy, fh, fj, fb⟩ := f
  dsimp only at *
  have hz1 : q < w.heap.size + 1 := by omega
  (have hdd1 : IntKind.i64.wrap ((d : Int) + 12) = (d : Int) + 12 := (by rw [IntKind.wrap_i64]; omega); have hdd2 : (((d + 12) % 24 : Nat) : Int) = ((d : Int) + 12) % 24 := (by omega); rw [hdd2] at K1; clear hdd2)
  have K1 := Lib.hid K1
  go_enter Try.func129, Try.ntmps129
  go_wp2_with fail
  go_region_held3 (fun w' => (∀ b' o', b' < w.heap.size → w'.cell? ⟨b', o', none⟩ = w.cell? ⟨b', o', none⟩) ∧ Below w.heap.size w w') (first | exact heldB (((Below.refl _ _).alloc (Nat.le_refl _) _).drew) | exact heldB C1 | exact heldB ((C1.setCell (Nat.le_refl _) _).setCell (Nat.le_refl _) _))
    (first | (go_at_call 72; refine (spec_Mod _ _ (by omega)).mono ?_; rintro e x0 ⟨rfl, rfl⟩) | (go_at_call 111; refine (K1.out _).mono ?_; rintro e x1 ⟨rfl, c1⟩; have C1 : Below w.heap.size w x1 := ((Below.refl _ _).alloc (Nat.le_refl _) _).drew.trans (c1.mono (by simp [World.drew])); have G1 := blkN_below c1 (blkN_new w (.cells #[.int .i64 0, .int .i64 0] 114)); obtain ⟨r0, r1⟩ := cells2s G1; have f1 := fun j => Lib.frozen_of_heap G1 j))
  rename_i hH
  clear hH
  have z3 := World.block_lt_of_cell? x1 _ r0
  go_wp2
  refine bodyPost_ret (v := .agg #[.int .i64 rx, .int .i64 ry]) (by simp [results, Try.results129, go_sem, r0, r1]) rfl ?_
  exact ⟨rfl, (C1.setCell (p := ⟨w.heap.size, 0, none⟩) (Nat.le_refl _) _).setCell (p := ⟨w.heap.size, 1, none⟩) (Nat.le_refl _) _⟩
end Go.Proofs.Ytmkhapgkiecmaaa
