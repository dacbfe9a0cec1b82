/- Conflicts, the program: nearness, places, a crane's ends. -/
import Derived.Test.YteeigmgepahdhaaDoorSegL
import Derived.Test.YteeigmgepahdhaaDoorConP
import Derived.Test.YteeigmgepahdhaaDoorSegG
namespace Go.Proofs.YteeigmgepahdhaaDoor
open Go.RowKit
set_option maxRecDepth 100000 in
set_option maxHeartbeats 4000000 in
theorem impl_Nearer (a b c d : Pnt) (n : Int) (w : World) (ha : Crd a) (hb : Crd b) (hc : Crd c) (hd : Crd d) (hn : 0 ≤ n ∧ n ≤ 1000) : Calls Tryd.prog 63 #[.agg #[.int .i64 (a).x, .int .i64 (a).y, .int .i64 (b).x, .int .i64 (b).y], .agg #[.int .i64 (c).x, .int .i64 (c).y, .int .i64 (d).x, .int .i64 (d).y], .int .i64 n] w fun e w' => e = .returned (.bool (decide (nearS a b c d (n * n)))) ∧ Below w.heap.size w w' := by
  have K1 := Lib.hid (fun w => impl_SegSq a b c d w ha hb hc hd)
  have hbd := segF_bd ha hb hc hd
  have hnn : 0 ≤ n * n ∧ n * n ≤ 1000000 := ⟨sq_nn n, (prod_bd (A := 1000) (B := 1000) (a := n) (b := n) (by omega) (by omega)).2⟩
  have hns := seg_near (n * n) hnn.1 ha hb hc hd
  rw [← show decide ((segF a b c d).1 < n * n * (segF a b c d).2) = decide (nearS a b c d (n * n)) from decide_eq_decide.2 hns]
  clear ha hb hc hd hns
  generalize segF a b c d = fr at *
  obtain ⟨fx, fy⟩ := fr
  obtain ⟨⟨s1, s2⟩, s3, s4⟩ := hbd
  dsimp only at *
  have hp := prod_bd (A := 1000000) (B := 968000000) (a := n * n) (b := fy) (by omega) (by omega)
  generalize hm : n * n = m at *
  generalize hm2 : m * fy = m2 at *
  have hw1 : IntKind.i64.wrap m = m := by rw [IntKind.wrap_i64]; omega
  have hw2 : IntKind.i64.wrap m2 = m2 := by rw [IntKind.wrap_i64]; omega
  obtain ⟨ax, ay⟩ := a
  obtain ⟨bx, bY⟩ := b
  obtain ⟨cx, cy⟩ := c
  obtain ⟨dx, dy⟩ := d
  dsimp only at *
  go_enter Tryd.func63, Tryd.ntmps63
  go_wp2_with fail
  refine (K1.out _).mono ?_
  rintro e w1 ⟨rfl, b1⟩
  have B1 := ((((Below.refl _ w).alloc (Nat.le_refl _) _).alloc (by simp) _).trans (b1.mono (by simp; omega)))
  dsimp only
  go_wp2
  go_ret
  exact ⟨rfl, B1.alloc B1.size _⟩
theorem impl_Opp (d : Nat) (w : World) (hd : d < 24) : Calls Tryd.prog 98 #[.int .i64 d] w fun e w' => e = .returned (.int .i64 (((d + 12) % 24 : Nat) : Int)) ∧ w = w' := by
  have K1 := Lib.hid (fun w => impl_turned (d : Int) 12 w (by omega))
  rw [show (((d + 12) % 24 : Nat) : Int) = ((d : Int) + 12) % 24 by omega]
  go_enter Tryd.func98, Tryd.ntmps98
  go_wp2_with fail
  refine (K1.out _).mono ?_
  rintro e w1 ⟨rfl, rfl⟩
  dsimp only
  go_wp2
  go_ret
  exact ⟨rfl, rfl⟩
set_option maxRecDepth 100000 in
set_option maxHeartbeats 4000000 in
theorem impl_PlaceAt (x y r : Int) (d : Nat) (w : World) (hQ : Qtr w) (hp : Pl x y) (hd : d < 24) (hr : 0 ≤ r ∧ r ≤ 1000) : Calls Tryd.prog 97 #[.agg #[.int .i64 x, .int .i64 y], .int .i64 d, .int .i64 r] w fun e w' => e = .returned (.agg #[.int .i64 (plcI x y d r).x, .int .i64 (plcI x y d r).y]) ∧ Below w.heap.size w w' := by
  have K1 := Lib.hid (fun w h => impl_Vector d hd w h)
  obtain ⟨⟨⟨p1, p2⟩, p3, p4⟩, ⟨⟨t1, t2⟩, t3, t4⟩, -⟩ := plc_bd hp hd hr
  unfold Pl at hp
  obtain ⟨⟨h1, h2⟩, h3, h4⟩ := hp
  unfold plcI
  generalize vecN d = V at *
  obtain ⟨vx, vy⟩ := V
  dsimp only at *
  generalize hm1 : vx * r = m1 at *
  generalize hm2 : vy * r = m2 at *
  generalize ht1 : m1.tdiv 1000 = q1 at *
  generalize ht2 : m2.tdiv 1000 = q2 at *
  have hw1 : IntKind.i64.wrap m1 = m1 := by rw [IntKind.wrap_i64]; omega
  have hw2 : IntKind.i64.wrap m2 = m2 := by rw [IntKind.wrap_i64]; omega
  have hw3 : IntKind.i64.wrap q1 = q1 := by rw [IntKind.wrap_i64]; omega
  have hw4 : IntKind.i64.wrap q2 = q2 := by rw [IntKind.wrap_i64]; omega
  have hw5 : IntKind.i64.wrap (x + q1) = x + q1 := by rw [IntKind.wrap_i64]; omega
  have hw6 : IntKind.i64.wrap (y + q2) = y + q2 := by rw [IntKind.wrap_i64]; omega
  have HQ := Lib.hid hQ
  clear hQ
  go_enter Tryd.func97, Tryd.ntmps97
  go_wp2_with fail
  have B0 : Below w.heap.size w ((w.alloc (.cells #[.int .i64 x, .int .i64 y] 25)).alloc (.cells #[.int .i64 0, .int .i64 0] 25)) := ((Below.refl _ w).alloc (Nat.le_refl _) _).alloc (by simp) _
  refine (K1.out _ (HQ.out.ext B0)).mono ?_
  rintro e w1 ⟨rfl, b1⟩
  have G0 := blkN_below b1 (box2_0 w (.cells #[.int .i64 x, .int .i64 y] 25) (.cells #[.int .i64 0, .int .i64 0] 25))
  have G1 := blkN_below b1 (box2_1 w (.cells #[.int .i64 x, .int .i64 y] 25) (.cells #[.int .i64 0, .int .i64 0] 25))
  have B1 := B0.trans (b1.mono B0.size)
  obtain ⟨e0, e1⟩ := cells2s G0
  obtain ⟨r0, r1⟩ := cells2s G1
  have f1 := fun j => Lib.frozen_of_heap G1 j
  have z1 := World.block_lt_of_cell? w1 _ e0
  have z2 := World.block_lt_of_cell? w1 _ r0
  clear b1 G0 G1 B0
  dsimp only
  go_wp2
  refine bodyPost_ret (v := .agg #[.int .i64 (x + q1), .int .i64 (y + q2)]) (by simp [results, Tryd.results97, go_sem, r0, r1, z2]) rfl ?_
  exact ⟨rfl, ((B1.setCell (p := ⟨w.heap.size + 1, 0, none⟩) (by simp only []; omega) _).setCell (p := ⟨w.heap.size + 1, 1, none⟩) (by simp only []; omega) _).alloc (by have := B1.size; simpa [World.setCell] using this) _⟩
set_option maxRecDepth 100000 in
set_option maxHeartbeats 4000000 in
theorem impl_Jib (f : CraneF) (sv : Value) (d : Nat) (w : World) (hQ : Qtr w) (hf : GeoOk f) (hd : d < 24) : Calls Tryd.prog 83 #[.agg #[.string (f).name, .int .i64 (f).x, .int .i64 (f).y, .int .i64 (f).height, .int .i64 (f).jib, .int .i64 (f).back, sv], .int .i64 d] w fun e w' => e = .returned (.agg #[.int .i64 (jibP f d).x, .int .i64 (jibP f d).y]) ∧ Below w.heap.size w w' := by
  have K1 := Lib.hid (fun w h => impl_PlaceAt f.x f.y f.jib d w h hf.1 hd hf.2.2.1)
  have K2 := Lib.hid (fun w => impl_Opp d w hd)
  have HQ := Lib.hid hQ
  clear hQ hf
  unfold jibP
  generalize plcI f.x f.y d f.jib = R at *
  obtain ⟨rx, ry⟩ := R
  obtain ⟨fn, fx, fy, fh, fj, fb⟩ := f
  dsimp only at *
  go_enter Tryd.func83, Tryd.ntmps83
  go_wp2_with fail
  have B0 : Below w.heap.size w ((w.alloc (.cells #[.string fn, .int .i64 fx, .int .i64 fy, .int .i64 fh, .int .i64 fj, .int .i64 fb, sv] 28)).alloc (.cells #[.int .i64 0, .int .i64 0] 25)) := ((Below.refl _ w).alloc (Nat.le_refl _) _).alloc (by simp) _
  have G0 := box2_1 w (.cells #[.string fn, .int .i64 fx, .int .i64 fy, .int .i64 fh, .int .i64 fj, .int .i64 fb, sv] 28) (.cells #[.int .i64 0, .int .i64 0] 25)
  (refine (K1.out _ (HQ.out.ext B0)).mono ?_)
  rintro e w1 ⟨rfl, b1⟩
  have G1 := blkN_below b1 G0
  have B1 := B0.trans (b1.mono B0.size)
  obtain ⟨r0, r1⟩ := cells2s G1
  have f1 := fun j => Lib.frozen_of_heap G1 j
  have z2 := World.block_lt_of_cell? w1 _ r0
  clear b1 G0 G1 B0
  dsimp only
  go_wp2
  refine bodyPost_ret (v := .agg #[.int .i64 rx, .int .i64 ry]) (by simp [results, Tryd.results83, go_sem, r0, r1]) rfl ?_
  exact ⟨rfl, (B1.setCell (p := ⟨w.heap.size + 1, 0, none⟩) (by simp only []; omega) _).setCell (p := ⟨w.heap.size + 1, 1, none⟩) (by simp only []; omega) _⟩
end Go.Proofs.YteeigmgepahdhaaDoor
