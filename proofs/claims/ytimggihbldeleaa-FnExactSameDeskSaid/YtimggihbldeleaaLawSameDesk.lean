/- The law FnExactSameDesk. -/
import Derived.Test.YtimggihbldeleaaSmL
import Derived.Handy
namespace Go.Proofs.Ytimggihbldeleaa
open Go.RowKit
/-- A box with a desk. -/
def Db (p : Nat) (s g d : SV) (t : Spd) (ty : TypeId) (w : World) : Prop := w.heap[p]? = some (.cells (deskC s g d t).toArray ty)
theorem Db.new (w : World) (s g d : SV) (t : Spd) (ty : TypeId) : Db w.heap.size s g d t ty (w.alloc (.cells (deskC s g d t).toArray ty)) := blkN_new w _
theorem Db.lt {p : Nat} {s g d : SV} {t : Spd} {ty : TypeId} {w : World} (h : Db p s g d t ty w) : p < w.heap.size := (Array.getElem?_eq_some_iff.1 h).1
theorem Db.ext {p : Nat} {s g d : SV} {t : Spd} {ty : TypeId} {w w' : World} (h : Db p s g d t ty w) (hb : Below w.heap.size w w') : Db p s g d t ty w' := (hb.block p h.lt).trans h
theorem Db.c {p : Nat} {s g d : SV} {t : Spd} {ty : TypeId} {w : World} (h : Db p s g d t ty w) : p < w.heap.size ∧ w.cell? ⟨p, 0, none⟩ = some s.v ∧ w.cell? ⟨p, 1, none⟩ = some g.v ∧ w.cell? ⟨p, 2, none⟩ = some (.int .i64 t.slew) ∧ w.cell? ⟨p, 3, none⟩ = some (.int .i64 t.trolley) ∧ w.cell? ⟨p, 4, none⟩ = some (.int .i64 t.hoist) ∧ w.cell? ⟨p, 5, none⟩ = some (.int .i64 t.hook) ∧ w.cell? ⟨p, 6, none⟩ = some d.v :=
  ⟨h.lt, (Lib.cell_of_heap h 0).trans rfl, (Lib.cell_of_heap h 1).trans rfl, (Lib.cell_of_heap h 2).trans rfl, (Lib.cell_of_heap h 3).trans rfl, (Lib.cell_of_heap h 4).trans rfl, (Lib.cell_of_heap h 5).trans rfl, (Lib.cell_of_heap h 6).trans rfl⟩
theorem eqB_self (b : Bool) : (b != b) = false := by cases b <;> rfl
set_option maxRecDepth 100000 in
set_option maxHeartbeats 8000000 in
theorem law_SameDesk {vA vB : Value} (A B : DeskL) (w : World) (hA : (∃ s g d : SV, vA = .agg (deskC s g d A.spd).toArray ∧ DeskR w s g d A) ∧ A.wf) (hB : (∃ s g d : SV, vB = .agg (deskC s g d B.spd).toArray ∧ DeskR w s g d B) ∧ B.wf) :
    Calls Try.prog 4 #[vA, vB] w fun e w' => e = .returned (.bool true) ∧ Below w.heap.size w w' := by
  obtain ⟨⟨s, g, d, rfl, hr⟩, hw⟩ := hA
  obtain ⟨⟨s2, g2, d2, rfl, hr2⟩, hw2⟩ := hB
  have hszA := fun w' (hb : Below w.heap.size w w') => law_szDesk s g d A 1048576 w' (hr.ext hb) hw (by omega) (by omega)
  have hszB := fun m w' (hb : Below w.heap.size w w') h0 hn => law_szDesk s2 g2 d2 B m w' (hr2.ext hb) hw2 h0 hn
  have hTA := fun (hn : A.cost ≤ 1048576) w' (hb : Below w.heap.size w w') => law_toDesk s g d A w' (hr.ext hb) hn
  have hTB := fun (hn : B.cost ≤ 1048576) w' (hb : Below w.heap.size w w') => law_toDesk s2 g2 d2 B w' (hr2.ext hb) hn
  clear hr hr2 hw hw2
  have HSp := Lib.hid (fun s g d s2 g2 d2 w h h2 => spec_SameDesk s g d s2 g2 d2 A B w h h2)
  have HIm := Lib.hid (fun s g d s2 g2 d2 w h h2 => impl_SameDesk s g d s2 g2 d2 A B w h h2)
  have HEA := Lib.hid (fun s g d s2 g2 d2 w h h2 => law_eqDesk2 s g d s2 g2 d2 A w h h2)
  have HEB := Lib.hid (fun s g d s2 g2 d2 w h h2 => law_eqDesk2 s g d s2 g2 d2 B w h h2)
  unfold ToDesk at hTA hTB
  generalize eqD A B = res at *
  have hc1 : ∃ n1, A.cost = n1 := ⟨_, rfl⟩
  obtain ⟨n1, hn1⟩ := hc1
  have hc2 : ∃ n2, B.cost = n2 := ⟨_, rfl⟩
  obtain ⟨n2, hn2⟩ := hc2
  rw [hn1] at hszA hTA
  rw [hn2] at hszB hTB
  clear hn1 hn2
  generalize hAs : A.spd = ta at *
  generalize hBs : B.spd = tb at *
  obtain ⟨pa, pl, pc⟩ := s
  obtain ⟨pe, pf, pg⟩ := g
  obtain ⟨px, py, pz⟩ := d
  obtain ⟨qa, ql, qc⟩ := s2
  obtain ⟨qe, qf, qg⟩ := g2
  obtain ⟨qx, qy, qz⟩ := d2
  obtain ⟨u0, u1, u2, u3⟩ := ta
  obtain ⟨v0, v1, v2, v3⟩ := tb
  have b1 := Db.new w ⟨pa, pl, pc⟩ ⟨pe, pf, pg⟩ ⟨px, py, pz⟩ ⟨u0, u1, u2, u3⟩ 41
  have b2 := Db.new (w.alloc (.cells #[.slice pa pl pc, .slice pe pf pg, .int .i64 u0, .int .i64 u1, .int .i64 u2, .int .i64 u3, .slice px py pz] 41)) ⟨qa, ql, qc⟩ ⟨qe, qf, qg⟩ ⟨qx, qy, qz⟩ ⟨v0, v1, v2, v3⟩ 41
  rw [show (w.alloc (.cells #[.slice pa pl pc, .slice pe pf pg, .int .i64 u0, .int .i64 u1, .int .i64 u2, .int .i64 u3, .slice px py pz] 41)).heap.size = w.heap.size + 1 by simp] at b2
  simp only [deskC, SV.v] at hszA hszB hTA hTB b1 b2 ⊢
  have b1 := b1.ext ((Below.refl _ _).alloc (Nat.le_refl _) (.cells #[.slice qa ql qc, .slice qe qf qg, .int .i64 v0, .int .i64 v1, .int .i64 v2, .int .i64 v3, .slice qx qy qz] 41))
  obtain ⟨WA, hWA, -, -, hBA, hzA⟩ := dkx2 w (.cells #[.slice pa pl pc, .slice pe pf pg, .int .i64 u0, .int .i64 u1, .int .i64 u2, .int .i64 u3, .slice px py pz] 41) (.cells #[.slice qa ql qc, .slice qe qf qg, .int .i64 v0, .int .i64 v1, .int .i64 v2, .int .i64 v3, .slice qx qy qz] 41)
  rw [hWA] at b1 b2
  have bP0 := Lib.hid b1
  have bQ0 := Lib.hid b2
  have HWA := Lib.hid hWA
  have B0 := Lib.hid hBA
  replace hszB := Lib.hid hszB
  replace hTA := Lib.hid hTA
  replace hTB := Lib.hid hTB
  replace hAs := Lib.hid hAs
  replace hBs := Lib.hid hBs
  clear hWA hBA b1 b2
  obtain ⟨zp, p0, p1, p2, p3, p4, p5, p6⟩ := bP0.out.c
  simp only [SV.v] at p0 p1 p6
  obtain ⟨zq, q0, q1, q2, q3, q4, q5, q6⟩ := bQ0.out.c
  simp only [SV.v] at q0 q1 q6
  by_cases hq1 : (1048576 : Int) < (n1 : Int)
  · rw [szRes_lt hq1] at hszA
    have hszA := Lib.hid hszA
    clear hq1
    go_enter Try.func4, Try.ntmps4
    go_wp2_with fail
    rw [HWA.out]
    refine (hszA.out _ B0.out).mono ?_
    rintro e w1 ⟨rfl, f1⟩
    go_wp2
    go_ret
    exact ⟨rfl, B0.out.trans (f1.mono B0.out.size)⟩
  rw [szRes_ge hq1] at hszA
  have hge1 : decide ((1048576 : Int) - n1 < 0) = false := decide_eq_false (by omega)
  replace hszA := Lib.hid hszA
  by_cases hq2 : (1048576 : Int) - n1 < (n2 : Int)
  · have hszB := Lib.hid (fun w' hb h0 hn => by have := hszB.out ((1048576 : Int) - n1) w' hb h0 hn; rwa [szRes_lt hq2] at this)
    clear hq2
    go_enter Try.func4, Try.ntmps4
    go_wp2_with fail
    rw [HWA.out]
    refine (hszA.out _ B0.out).mono ?_
    rintro e w1 ⟨rfl, f1⟩
    have B1 := Lib.hid (B0.out.trans (f1.mono B0.out.size))
    have bQ1 := Lib.hid (bQ0.out.ext f1)
    clear zp p0 p1 p2 p3 p4 p5 p6
    clear zq q0 q1 q2 q3 q4 q5 q6
    obtain ⟨zq, q0, q1, q2, q3, q4, q5, q6⟩ := bQ1.out.c
    simp only [SV.v] at q0 q1 q6
    go_wp2_with fail
    refine (hszB.out _ B1.out (by omega) (by omega)).mono ?_
    rintro e w2 ⟨rfl, f2⟩
    go_wp2
    go_ret
    exact ⟨rfl, B1.out.trans (f2.mono B1.out.size)⟩
  replace hszB := Lib.hid (fun w' hb h0 hn => by have := hszB.out ((1048576 : Int) - n1) w' hb h0 hn; rwa [szRes_ge hq2] at this)
  have hge2 : decide ((1048576 : Int) - n1 - n2 < 0) = false := decide_eq_false (by omega)
  replace hTA := Lib.hid (hTA.out (by omega))
  replace hTB := Lib.hid (hTB.out (by omega))
  go_enter Try.func4, Try.ntmps4
  go_wp2_with fail
  rw [HWA.out]
  refine (hszA.out _ B0.out).mono ?_
  rintro e w1 ⟨rfl, f1⟩
  have B1 := Lib.hid (B0.out.trans (f1.mono B0.out.size))
  have bP1 := Lib.hid (bP0.out.ext f1)
  have bQ1 := Lib.hid (bQ0.out.ext f1)
  clear f1 bP0 bQ0
  clear zp p0 p1 p2 p3 p4 p5 p6
  clear zq q0 q1 q2 q3 q4 q5 q6
  obtain ⟨zq, q0, q1, q2, q3, q4, q5, q6⟩ := bQ1.out.c
  simp only [SV.v] at q0 q1 q6
  go_wp2_with fail
  refine (hszB.out _ B1.out (by omega) (by omega)).mono ?_
  rintro e w2 ⟨rfl, f2⟩
  have B2 := Lib.hid (B1.out.trans (f2.mono B1.out.size))
  have bP2 := Lib.hid (bP1.out.ext f2)
  have bQ2 := Lib.hid (bQ1.out.ext f2)
  clear f2 bP1 bQ1 hszA hszB
  clear zq q0 q1 q2 q3 q4 q5 q6
  obtain ⟨zp, p0, p1, p2, p3, p4, p5, p6⟩ := bP2.out.c
  simp only [SV.v] at p0 p1 p6
  obtain ⟨zq, q0, q1, q2, q3, q4, q5, q6⟩ := bQ2.out.c
  simp only [SV.v] at q0 q1 q6
  go_wp2_with fail
  go_region_held3 (fun w' => (∀ b' o', b' < w2.heap.size → w'.cell? ⟨b', o', none⟩ = w2.cell? ⟨b', o', none⟩) ∧ Below w2.heap.size w2 w') (first | (refine heldB ?_; go_grown; done))
    (first
      | (go_at_call_of 12 (Value.slice pa pl pc); (with_reducible refine (hTA.out _ ?hb).mono ?_); (case hb => exact B2.out.trans (Below.mono (B := w2.heap.size) (by go_grown) B2.out.size)); rintro e a1 ⟨⟨ra, rl, rc⟩, ⟨re, rf, rg⟩, ⟨rx, ry, rz⟩, rfl, hs1, hb1'⟩; have b1 : Below w2.heap.size w2 a1 := Below.trans (by go_grown) (hb1'.mono (by go_size)))
      | (go_at_call_of 12 (Value.slice qa ql qc); (with_reducible refine (hTB.out _ ?hb).mono ?_); (case hb => exact B2.out.trans (Below.mono (B := w2.heap.size) (by exact b1) B2.out.size)); rintro e a2 ⟨⟨ta, tl, tc⟩, ⟨te, tf, tg⟩, ⟨tx, ty, tz⟩, rfl, hs2, hb2'⟩; have b2 : Below w2.heap.size w2 a2 := Below.trans b1 (hb2'.mono b1.size))
      | (go_at_call 11; have hh := hs1.ext hb2'; refine (HSp.out ⟨ra, rl, rc⟩ ⟨re, rf, rg⟩ ⟨rx, ry, rz⟩ ⟨ta, tl, tc⟩ ⟨te, tf, tg⟩ ⟨tx, ty, tz⟩ _ hh hs2).mono ?_; clear hh; rintro e a3 ⟨rfl, hb3'⟩; have b3 : Below w2.heap.size w2 a3 := Below.trans b2 (hb3'.mono b2.size)))
  clear hb1' hb2' hb3' hs1 hs2 b1 b2
  have B3 := Lib.hid (B2.out.trans (b3.mono B2.out.size))
  have bP3 := Lib.hid (bP2.out.ext b3)
  have bQ3 := Lib.hid (bQ2.out.ext b3)
  clear b3 bP2 bQ2 HSp
  clear zp p0 p1 p2 p3 p4 p5 p6
  clear zq q0 q1 q2 q3 q4 q5 q6
  obtain ⟨zp, p0, p1, p2, p3, p4, p5, p6⟩ := bP3.out.c
  simp only [SV.v] at p0 p1 p6
  go_wp2_with fail
  refine (hTA.out _ B3.out).mono ?_
  rintro e w4 ⟨⟨ra, rl, rc⟩, ⟨re, rf, rg⟩, ⟨rx, ry, rz⟩, rfl, hs4, f4⟩
  have B4 := Lib.hid (B3.out.trans (f4.mono B3.out.size))
  have bP4 := bP3.out.ext f4
  have bQ4 := Lib.hid (bQ3.out.ext f4)
  have rX4 := hs4
  obtain ⟨V4, hV4, -, gV4, zV4⟩ := dkx1 w4 (.cells #[.slice ra rl rc, .slice re rf rg, .int .i64 u0, .int .i64 u1, .int .i64 u2, .int .i64 u3, .slice rx ry rz] 30)
  have bX5 := Db.new w4 ⟨ra, rl, rc⟩ ⟨re, rf, rg⟩ ⟨rx, ry, rz⟩ ⟨u0, u1, u2, u3⟩ 30
  simp only [deskC, SV.v] at bX5
  rw [hV4] at bX5
  have bX5 := Lib.hid bX5
  have bP5 := Lib.hid (bP4.ext gV4)
  have bQ5 := Lib.hid (bQ4.out.ext gV4)
  have rX5 := Lib.hid (rX4.ext gV4)
  have B5 := Lib.hid (B4.out.trans (gV4.mono B4.out.size))
  have HV4 := Lib.hid hV4
  clear zp p0 p1 p2 p3 p4 p5 p6
  obtain ⟨zq, q0, q1, q2, q3, q4, q5, q6⟩ := bQ4.out.c
  simp only [SV.v] at q0 q1 q6
  clear hV4 gV4 bP3 bQ3 bP4 bQ4 rX4 hs4 f4
  go_wp2_with fail
  rw [HV4.out]
  refine (hTB.out _ B5.out).mono ?_
  rintro e w6 ⟨⟨ta, tl, tc⟩, ⟨te, tf, tg⟩, ⟨tx, ty, tz⟩, rfl, hs6, f6⟩
  have B6 := Lib.hid (B5.out.trans (f6.mono B5.out.size))
  have bP6 := bP5.out.ext f6
  have bQ6 := bQ5.out.ext f6
  have bX6 := Lib.hid (bX5.out.ext f6)
  have rX6 := rX5.out.ext f6
  obtain ⟨V6, hV6, -, gV6, zV6⟩ := dkx1 w6 (.cells #[.slice ta tl tc, .slice te tf tg, .int .i64 v0, .int .i64 v1, .int .i64 v2, .int .i64 v3, .slice tx ty tz] 30)
  have bY7 := Db.new w6 ⟨ta, tl, tc⟩ ⟨te, tf, tg⟩ ⟨tx, ty, tz⟩ ⟨v0, v1, v2, v3⟩ 30
  simp only [deskC, SV.v] at bY7
  rw [hV6] at bY7
  have bY7 := Lib.hid bY7
  have bX7 := Lib.hid (bX6.out.ext gV6)
  have bP7 := Lib.hid (bP6.ext gV6)
  have bQ7 := Lib.hid (bQ6.ext gV6)
  have rX7 := Lib.hid (rX6.ext gV6)
  have rY7 := Lib.hid (hs6.ext gV6)
  have B7 := Lib.hid (B6.out.trans (gV6.mono B6.out.size))
  have HV6 := Lib.hid hV6
  clear zq q0 q1 q2 q3 q4 q5 q6
  obtain ⟨zx, x0, x1, x2, x3, x4, x5, x6⟩ := bX6.out.c
  simp only [SV.v] at x0 x1 x6
  clear hV6 gV6 bP5 bQ5 bX5 rX5 bP6 bQ6 bX6 rX6 hs6 f6
  have hI := HIm.out ⟨ra, rl, rc⟩ ⟨re, rf, rg⟩ ⟨rx, ry, rz⟩ ⟨ta, tl, tc⟩ ⟨te, tf, tg⟩ ⟨tx, ty, tz⟩ _ rX7.out rY7.out
  simp only [deskC, SV.v] at hI
  have hI := Lib.hid hI
  go_wp2_with fail
  rw [HV6.out]
  refine hI.out.mono ?_
  rintro e w8 ⟨rfl, f8⟩
  have B8 := Lib.hid (B7.out.trans (f8.mono B7.out.size))
  have bX8 := Lib.hid (bX7.out.ext f8)
  have bY8 := Lib.hid (bY7.out.ext f8)
  have bP8 := Lib.hid (bP7.out.ext f8)
  have bQ8 := Lib.hid (bQ7.out.ext f8)
  have rX8 := Lib.hid (rX7.out.ext f8)
  have rY8 := Lib.hid (rY7.out.ext f8)
  have hne := eqB_self res
  clear f8 bX7 bY7 bP7 bQ7 rX7 rY7 hI HIm
  clear zx x0 x1 x2 x3 x4 x5 x6
  obtain ⟨zx, x0, x1, x2, x3, x4, x5, x6⟩ := bX8.out.c
  simp only [SV.v] at x0 x1 x6
  obtain ⟨zp, p0, p1, p2, p3, p4, p5, p6⟩ := bP8.out.c
  simp only [SV.v] at p0 p1 p6
  have hE := fun w' (hb : Below w8.heap.size w8 w') s2 g2 d2 (h2 : DeskR w' s2 g2 d2 A) => HEA.out ⟨ra, rl, rc⟩ ⟨re, rf, rg⟩ ⟨rx, ry, rz⟩ s2 g2 d2 w' (rX8.out.ext hb) h2
  simp only [deskC, SV.v] at hE
  have hE := Lib.hid hE
  go_wp2_with fail
  go_region_held3 (fun w' => (∀ b' o', b' < w8.heap.size → w'.cell? ⟨b', o', none⟩ = w8.cell? ⟨b', o', none⟩) ∧ Below w8.heap.size w8 w') (first | (refine heldB ?_; go_grown; done))
    (first
      | (go_at_call 12; (with_reducible refine (hTA.out _ ?hb).mono ?_); (case hb => exact B8.out.trans (Below.mono (B := w8.heap.size) (by go_grown) B8.out.size)); rintro e a1 ⟨⟨ka, kl, kc⟩, ⟨ke, kf, kg⟩, ⟨kx, ky, kz⟩, rfl, hs1, hb1'⟩; have b1 : Below w8.heap.size w8 a1 := Below.trans (by go_grown) (hb1'.mono (by go_size)))
      | (go_at_call 7; refine (hE.out _ b1 ⟨ka, kl, kc⟩ ⟨ke, kf, kg⟩ ⟨kx, ky, kz⟩ hs1).mono ?_; rintro e a2 ⟨rfl, hb2'⟩; have b2 : Below w8.heap.size w8 a2 := Below.trans b1 (hb2'.mono b1.size)))
  clear hb1' hb2' hs1 b1 hE
  have B9 := Lib.hid (B8.out.trans (b2.mono B8.out.size))
  have bY9 := Lib.hid (bY8.out.ext b2)
  have bQ9 := Lib.hid (bQ8.out.ext b2)
  have rY9 := Lib.hid (rY8.out.ext b2)
  clear b2 bX8 bY8 bP8 bQ8 rX8 rY8
  clear zx x0 x1 x2 x3 x4 x5 x6
  clear zp p0 p1 p2 p3 p4 p5 p6
  obtain ⟨zy, y0, y1, y2, y3, y4, y5, y6⟩ := bY9.out.c
  simp only [SV.v] at y0 y1 y6
  obtain ⟨zq, q0, q1, q2, q3, q4, q5, q6⟩ := bQ9.out.c
  simp only [SV.v] at q0 q1 q6
  have hE := fun w' (hb : Below a2.heap.size a2 w') s2 g2 d2 (h2 : DeskR w' s2 g2 d2 B) => HEB.out ⟨ta, tl, tc⟩ ⟨te, tf, tg⟩ ⟨tx, ty, tz⟩ s2 g2 d2 w' (rY9.out.ext hb) h2
  simp only [deskC, SV.v] at hE
  have hE := Lib.hid hE
  go_wp2_with fail
  go_region_held3 (fun w' => (∀ b' o', b' < a2.heap.size → w'.cell? ⟨b', o', none⟩ = a2.cell? ⟨b', o', none⟩) ∧ Below a2.heap.size a2 w') (first | (refine heldB ?_; go_grown; done))
    (first
      | (go_at_call 12; (with_reducible refine (hTB.out _ ?hb).mono ?_); (case hb => exact B9.out.trans (Below.mono (B := a2.heap.size) (by go_grown) B9.out.size)); rintro e a3 ⟨⟨ka, kl, kc⟩, ⟨ke, kf, kg⟩, ⟨kx, ky, kz⟩, rfl, hs1, hb1'⟩; have b3 : Below a2.heap.size a2 a3 := Below.trans (by go_grown) (hb1'.mono (by go_size)))
      | (go_at_call 7; refine (hE.out _ b3 ⟨ka, kl, kc⟩ ⟨ke, kf, kg⟩ ⟨kx, ky, kz⟩ hs1).mono ?_; rintro e a4 ⟨rfl, hb2'⟩; have b4 : Below a2.heap.size a2 a4 := Below.trans b3 (hb2'.mono b3.size)))
  clear hb1' hb2' hs1 b3 hE
  have B10 := Lib.hid (B9.out.trans (b4.mono B9.out.size))
  clear b4
  go_wp2
  go_ret
  exact ⟨rfl, B10.out⟩
end Go.Proofs.Ytimggihbldeleaa
