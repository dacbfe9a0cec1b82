/- LiftTime and JobTime, the reference. JobTime, the reference. -/
import Derived.Test.YtdadadiipmenbaaDoorCode
namespace Go.Proofs.YtdadadiipmenbaaDoor
open Go.RowKit
noncomputable def timeI (f : CraneF) (l : List Chs) (v : Spd) (g : LiftF) : Int := if codeI f l v g = 0 then liftT f v g else 0
noncomputable def jobC (f : CraneF) (l : List Chs) (v : Spd) (g : LiftF) (x y : Int) : Int := if Pl x y then codeI f l v g else 1
noncomputable def jobI (f : CraneF) (l : List Chs) (v : Spd) (g : LiftF) (x y : Int) : Int := if jobC f l v g x y = 0 then moveI f v x y g.fx g.fy + liftT f v g else 0
theorem code_zero {f : CraneF} {l : List Chs} {v : Spd} {g : LiftF} (h : codeI f l v g = 0) : v.ok ∧ craneOk f l ∧ plainOk g ∧ canB f l g = true := by
  rcases code_cases f l v g with ⟨hr, h1⟩ | ⟨hr, h1, h2⟩ | ⟨hr, h1, h2, h3⟩ | ⟨hr, h1, h2, h3, h4⟩ | ⟨hr, h1, h2, h3, h4⟩
  all_goals first | omega | exact ⟨of_decide_eq_true h1, craneB_iff.1 h2, plainB_iff.1 h3, h4⟩
theorem four_boxes (w : World) (o p q r : Obj) : ∃ W, ((((w.alloc o).alloc p).alloc q).alloc r) = W ∧ W.heap[w.heap.size]? = some o ∧ W.heap[w.heap.size + 1]? = some p ∧ W.heap[w.heap.size + 1 + 1]? = some q ∧ W.heap[w.heap.size + 1 + 1 + 1]? = some r ∧ Below w.heap.size w W ∧ W.heap.size = w.heap.size + 4 := by
  obtain ⟨V, hV, e1, e2, e3, hB, hz⟩ := three_boxes w o p q
  have hx := Below.alloc (Below.refl V.heap.size V) (Nat.le_refl _) r
  refine ⟨V.alloc r, by rw [hV], blkN_below hx e1, blkN_below hx e2, blkN_below hx e3, ?_, hB.alloc hB.size _, by simp; omega⟩
  have := blkN_new V r
  rwa [hz] at this
set_option maxRecDepth 100000 in
set_option maxHeartbeats 8000000 in
theorem spec_LiftTime (f : CraneF) (s : SV) (l : List Chs) (v : Spd) (g : LiftF) (t : SV) (lo hi : Nat) (w : World) (h : Chss lo hi w s.v l) (hwf : f.name.size ≤ maxLen) (hwg : g.name.size ≤ maxLen) :
    Calls Tryd.prog 9 #[.agg (CraneR.cells ⟨f, s⟩).toArray, .agg v.cells.toArray, .agg (LiftR.cells ⟨g, t⟩).toArray] w fun e w' => e = .returned (.tuple #[.int .i64 (timeI f l v g), .int .i64 (codeI f l v g)]) ∧ Below w.heap.size w w' := by
  have HK := Lib.hid (fun w' (hb : Below w.heap.size w w') (hc : At w' w.heap.size 0 (craneC f s.v)) (hl : At w' (w.heap.size + 1 + 1) 0 (liftC g t.v)) => spec_Code10 w.heap.size 0 (w.heap.size + 1 + 1) 0 f s l v g t lo hi w' hc hl (h.ext hb) hwf hwg)
  have HL := Lib.hid (fun (h0 : codeI f l v g = 0) w' (hc : At w' w.heap.size 0 (craneC f s.v)) (hl : At w' (w.heap.size + 1 + 1) 0 (liftC g t.v)) => spec_LiftT w.heap.size 0 (w.heap.size + 1 + 1) 0 f s.v v g t.v w' hc hl (code_zero h0).1 (code_zero h0).2.1.2.1 (code_zero h0).2.2.1)
  clear h hwf hwg
  unfold timeI
  generalize codeI f l v g = c at *
  generalize liftT f v g = lt at *
  obtain ⟨sa, sl, sc⟩ := s
  obtain ⟨ta, tl, tc⟩ := t
  obtain ⟨x0, x1, x2, x3, x4, x5⟩ := f
  obtain ⟨y0, y1, y2, y3, y4, y5, y6, y7⟩ := g
  obtain ⟨v0, v1, v2, v3⟩ := v
  simp only [CraneR.cells, LiftR.cells, SV.v, Spd.cells] at *
  obtain ⟨W0, hW, e1, e2, e3, hB0, hz0⟩ := three_boxes w (.cells #[.string x0, .int .i64 x1, .int .i64 x2, .int .i64 x3, .int .i64 x4, .int .i64 x5, .slice sa sl sc] 39 (0, 0)) (.cells #[.int .i64 v0, .int .i64 v1, .int .i64 v2, .int .i64 v3] 41 (0, 0)) (.cells #[.string y0, .int .i64 y1, .int .i64 y2, .int .i64 y3, .int .i64 y4, .int .i64 y5, .int .i64 y6, .int .i64 y7, .slice ta tl tc] 44 (0, 0))
  have HW := Lib.hid hW
  have E1 := Lib.hid e1
  have E2 := Lib.hid e2
  have E3 := Lib.hid e3
  have HB0 := Lib.hid hB0
  clear hW e1 e2 e3 hB0 hz0
  by_cases hc0 : c = 0
  · subst hc0
    go_enter Tryd.func9, Tryd.ntmps9
    go_wp2_with fail
    rw [HW.out]
    refine (HK.out _ HB0.out (At.of E1.out) (At.of E3.out)).mono ?_
    rintro e w2 ⟨rfl, hb2⟩
    have g1 := blkN_below hb2 E1.out
    have g2 := blkN_below hb2 E2.out
    have g3 := blkN_below hb2 E3.out
    have k0 : w2.cell? ⟨w.heap.size + 1, 0, none⟩ = some (.int .i64 v0) := (by rw [Lib.cell_of_heap g2]; rfl)
    have k1 : w2.cell? ⟨w.heap.size + 1, 1, none⟩ = some (.int .i64 v1) := (by rw [Lib.cell_of_heap g2]; rfl)
    have k2 : w2.cell? ⟨w.heap.size + 1, 2, none⟩ = some (.int .i64 v2) := (by rw [Lib.cell_of_heap g2]; rfl)
    have k3 : w2.cell? ⟨w.heap.size + 1, 3, none⟩ = some (.int .i64 v3) := (by rw [Lib.cell_of_heap g2]; rfl)
    have HL2 := Lib.hid (HL.out (by first | exact rfl | trivial) w2 (At.of g1) (At.of g3))
    have HB2 := Lib.hid (HB0.out.trans (hb2.mono HB0.out.size))
    clear g1 g2 g3 hb2
    go_wp2_with (go_at_call 42; refine HL2.out.mono ?_; rintro e w3 ⟨rfl, hb3⟩)
    go_ret2
    exact ⟨rfl, HB2.out.trans (hb3.mono HB2.out.size)⟩
  · have hcb : (c != 0) = true := by simp; exact hc0
    have hcb2 : (c == 0) = false := by simp; exact hc0
    rw [if_neg hc0]
    clear hc0
    go_enter Tryd.func9, Tryd.ntmps9
    go_wp2_with fail
    rw [HW.out]
    refine (HK.out _ HB0.out (At.of E1.out) (At.of E3.out)).mono ?_
    rintro e w2 ⟨rfl, hb2⟩
    have HB2 := Lib.hid (HB0.out.trans (hb2.mono HB0.out.size))
    clear hb2
    go_wp2
    go_ret2
    exact ⟨rfl, HB2.out⟩
theorem job_lay {f : CraneF} {l : List Chs} {v : Spd} {g : LiftF} {x y : Int} (h : codeI f l v g = 0) (hp : Pl x y) : IntKind.i64.wrap (moveI f v x y g.fx g.fy + liftT f v g) = moveI f v x y g.fx g.fy + liftT f v g := by
  obtain ⟨hv, ho, hg, -⟩ := code_zero h
  obtain ⟨-, -, m1, m2⟩ := move_bd hv ho.2.1 hp hg.2.2.1
  obtain ⟨-, -, -, -, -, -, l1, l2⟩ := liftT_lay hv ho.2.1 hg
  exact IntWalk.i64_in _ (by omega)
set_option maxRecDepth 100000 in
set_option maxHeartbeats 8000000 in
theorem spec_JobTime (f : CraneF) (s : SV) (l : List Chs) (v : Spd) (g : LiftF) (t : SV) (px py : Int) (lo hi : Nat) (w : World) (h : Chss lo hi w s.v l) (hwf : f.name.size ≤ maxLen) (hwg : g.name.size ≤ maxLen) :
    Calls Tryd.prog 16 #[.agg (CraneR.cells ⟨f, s⟩).toArray, .agg v.cells.toArray, .agg (LiftR.cells ⟨g, t⟩).toArray, .agg #[.int .i64 px, .int .i64 py]] w fun e w' => e = .returned (.tuple #[.int .i64 (jobI f l v g px py), .int .i64 (jobC f l v g px py)]) ∧ Below w.heap.size w w' := by
  have hP := fun w' => spec_Pl px py w'
  have HK := Lib.hid (fun w' (hb : Below w.heap.size w w') (hc : At w' w.heap.size 0 (craneC f s.v)) (hl : At w' (w.heap.size + 1 + 1) 0 (liftC g t.v)) => spec_Code10 w.heap.size 0 (w.heap.size + 1 + 1) 0 f s l v g t lo hi w' hc hl (h.ext hb) hwf hwg)
  have HL := Lib.hid (fun (h0 : codeI f l v g = 0) w' (hc : At w' w.heap.size 0 (craneC f s.v)) (hl : At w' (w.heap.size + 1 + 1) 0 (liftC g t.v)) => spec_LiftT w.heap.size 0 (w.heap.size + 1 + 1) 0 f s.v v g t.v w' hc hl (code_zero h0).1 (code_zero h0).2.1.2.1 (code_zero h0).2.2.1)
  have HM := Lib.hid (fun (h0 : codeI f l v g = 0) (hp : Pl px py) w' (hc : At w' w.heap.size 0 (craneC f s.v)) => spec_Move w.heap.size 0 f s.v v px py g.fx g.fy w' hc (code_zero h0).1 (code_zero h0).2.1.2.1 hp (code_zero h0).2.2.1.2.2.1)
  have HY := Lib.hid (fun (h0 : codeI f l v g = 0) (hp : Pl px py) => job_lay h0 hp)
  clear h hwf hwg
  unfold jobI jobC
  generalize codeI f l v g = c at *
  generalize liftT f v g = lt at *
  obtain ⟨sa, sl, sc⟩ := s
  obtain ⟨ta, tl, tc⟩ := t
  obtain ⟨x0, x1, x2, x3, x4, x5⟩ := f
  obtain ⟨y0, y1, y2, y3, y4, y5, y6, y7⟩ := g
  obtain ⟨v0, v1, v2, v3⟩ := v
  simp only [CraneR.cells, LiftR.cells, SV.v, Spd.cells] at *
  generalize moveI ⟨x0, x1, x2, x3, x4, x5⟩ ⟨v0, v1, v2, v3⟩ px py y2 y3 = mv at *
  obtain ⟨W0, hW, e1, e2, e3, e4, hB0, hz0⟩ := four_boxes w (.cells #[.string x0, .int .i64 x1, .int .i64 x2, .int .i64 x3, .int .i64 x4, .int .i64 x5, .slice sa sl sc] 39 (0, 0)) (.cells #[.int .i64 v0, .int .i64 v1, .int .i64 v2, .int .i64 v3] 41 (0, 0)) (.cells #[.string y0, .int .i64 y1, .int .i64 y2, .int .i64 y3, .int .i64 y4, .int .i64 y5, .int .i64 y6, .int .i64 y7, .slice ta tl tc] 44 (0, 0)) (.cells #[.int .i64 px, .int .i64 py] 36 (0, 0))
  have HW := Lib.hid hW
  have E1 := Lib.hid e1
  have E2 := Lib.hid e2
  have E3 := Lib.hid e3
  have E4 := Lib.hid e4
  have HB0 := Lib.hid hB0
  clear hW e1 e2 e3 e4 hB0 hz0
  by_cases hp : Pl px py
  case neg =>
    rw [if_neg hp]
    rw [decide_eq_false hp] at hP
    have HP := Lib.hid hP
    clear hP hp
    rw [if_neg (by omega)]
    go_enter Tryd.func16, Tryd.ntmps16
    go_wp2_with fail
    rw [HW.out]
    refine (HP.out _).mono ?_
    rintro e w2 ⟨rfl, hb2⟩
    have HB2 := Lib.hid (HB0.out.trans (hb2.mono HB0.out.size))
    clear hb2
    go_wp2
    go_ret2
    exact ⟨rfl, HB2.out⟩
  rw [if_pos hp]
  have HM := Lib.hid (fun h0 => HM.out h0 hp)
  have HY := Lib.hid (fun h0 => HY.out h0 hp)
  rw [decide_eq_true hp] at hP
  have HP := Lib.hid hP
  clear hP hp
  by_cases hc0 : c = 0
  · subst hc0
    rw [if_pos rfl]
    have hwr := HY.out (by first | exact rfl | trivial)
    go_enter Tryd.func16, Tryd.ntmps16
    go_wp2_with fail
    rw [HW.out]
    refine (HP.out _).mono ?_
    rintro e w2 ⟨rfl, hb2⟩
    have HB2 := Lib.hid (HB0.out.trans (hb2.mono HB0.out.size))
    have G1 := Lib.hid (blkN_below hb2 E1.out)
    have g2 := blkN_below hb2 E2.out
    have G2 := Lib.hid g2
    have G3 := Lib.hid (blkN_below hb2 E3.out)
    have G4 := Lib.hid (blkN_below hb2 E4.out)
    have k0 : w2.cell? ⟨w.heap.size + 1, 0, none⟩ = some (.int .i64 v0) := (by rw [Lib.cell_of_heap g2]; rfl)
    have k1 : w2.cell? ⟨w.heap.size + 1, 1, none⟩ = some (.int .i64 v1) := (by rw [Lib.cell_of_heap g2]; rfl)
    have k2 : w2.cell? ⟨w.heap.size + 1, 2, none⟩ = some (.int .i64 v2) := (by rw [Lib.cell_of_heap g2]; rfl)
    have k3 : w2.cell? ⟨w.heap.size + 1, 3, none⟩ = some (.int .i64 v3) := (by rw [Lib.cell_of_heap g2]; rfl)
    clear hb2 g2
    go_wp2_with fail
    refine (HK.out _ HB2.out (At.of G1.out) (At.of G3.out)).mono ?_
    rintro e w3 ⟨rfl, hb3⟩
    have HB3 := Lib.hid (HB2.out.trans (hb3.mono HB2.out.size))
    have G1 := Lib.hid (blkN_below hb3 G1.out)
    have g2 := blkN_below hb3 G2.out
    have g3 := blkN_below hb3 G3.out
    have g4 := blkN_below hb3 G4.out
    have G3 := Lib.hid g3
    have k0 : w3.cell? ⟨w.heap.size + 1, 0, none⟩ = some (.int .i64 v0) := (by rw [Lib.cell_of_heap g2]; rfl)
    have k1 : w3.cell? ⟨w.heap.size + 1, 1, none⟩ = some (.int .i64 v1) := (by rw [Lib.cell_of_heap g2]; rfl)
    have k2 : w3.cell? ⟨w.heap.size + 1, 2, none⟩ = some (.int .i64 v2) := (by rw [Lib.cell_of_heap g2]; rfl)
    have k3 : w3.cell? ⟨w.heap.size + 1, 3, none⟩ = some (.int .i64 v3) := (by rw [Lib.cell_of_heap g2]; rfl)
    have p0 : w3.cell? ⟨w.heap.size + 1 + 1 + 1, 0, none⟩ = some (.int .i64 px) := (by rw [Lib.cell_of_heap g4]; rfl)
    have p1 : w3.cell? ⟨w.heap.size + 1 + 1 + 1, 1, none⟩ = some (.int .i64 py) := (by rw [Lib.cell_of_heap g4]; rfl)
    have l2 : w3.cell? ⟨w.heap.size + 1 + 1, 2, none⟩ = some (.int .i64 y2) := (by rw [Lib.cell_of_heap g3]; rfl)
    have l3 : w3.cell? ⟨w.heap.size + 1 + 1, 3, none⟩ = some (.int .i64 y3) := (by rw [Lib.cell_of_heap g3]; rfl)
    have hq0 : w.heap.size + 1 < w3.heap.size := World.block_lt_of_cell? w3 _ k0
    have hq1 : w.heap.size + 1 + 1 + 1 < w3.heap.size := World.block_lt_of_cell? w3 _ p0
    have hq2 : w.heap.size + 1 + 1 < w3.heap.size := by omega
    clear hb3 g2 g3 g4
    go_wp2_with fail
    go_region_held3 (fun w' => (∀ b' o', b' < w3.heap.size → w'.cell? ⟨b', o', none⟩ = w3.cell? ⟨b', o', none⟩) ∧ Below w3.heap.size w3 w') (first | (refine heldB ?_; go_grown; done))
      (first
        | (go_at_call 53; (with_reducible refine (HM.out (by first | exact rfl | trivial) _ ?hb).mono ?_); (case hb => exact (At.of G1.out).below (B := w3.heap.size) (by go_grown) (by omega)); rintro e w4 ⟨rfl, hb4'⟩; have b4 : Below w3.heap.size w3 w4 := Below.trans (by go_grown) (hb4'.mono (by go_size)); have q4 := (bcell b4).1)
        | (go_at_call 42; (with_reducible refine (HL.out (by first | exact rfl | trivial) _ ?hb ?hc).mono ?_); (case hb => exact (At.of G1.out).below b4 (by omega)); (case hc => exact (At.of G3.out).below b4 (by omega)); rintro e w5 ⟨rfl, hb5'⟩; have b5 : Below w3.heap.size w3 w5 := Below.trans b4 (hb5'.mono b4.size); have q5 := (bcell b5).1))
    go_wp2_with fail
    go_ret2
    exact ⟨rfl, HB3.out.trans (b5.mono HB3.out.size)⟩
  · have hcb : (c != 0) = true := by simp; exact hc0
    have hcb2 : (c == 0) = false := by simp; exact hc0
    rw [if_neg hc0]
    clear hc0
    go_enter Tryd.func16, Tryd.ntmps16
    go_wp2_with fail
    rw [HW.out]
    refine (HP.out _).mono ?_
    rintro e w2 ⟨rfl, hb2⟩
    have HB2 := Lib.hid (HB0.out.trans (hb2.mono HB0.out.size))
    have G1 := Lib.hid (blkN_below hb2 E1.out)
    have g2 := blkN_below hb2 E2.out
    have G3 := Lib.hid (blkN_below hb2 E3.out)
    have k0 : w2.cell? ⟨w.heap.size + 1, 0, none⟩ = some (.int .i64 v0) := (by rw [Lib.cell_of_heap g2]; rfl)
    have k1 : w2.cell? ⟨w.heap.size + 1, 1, none⟩ = some (.int .i64 v1) := (by rw [Lib.cell_of_heap g2]; rfl)
    have k2 : w2.cell? ⟨w.heap.size + 1, 2, none⟩ = some (.int .i64 v2) := (by rw [Lib.cell_of_heap g2]; rfl)
    have k3 : w2.cell? ⟨w.heap.size + 1, 3, none⟩ = some (.int .i64 v3) := (by rw [Lib.cell_of_heap g2]; rfl)
    clear hb2 g2
    go_wp2_with fail
    refine (HK.out _ HB2.out (At.of G1.out) (At.of G3.out)).mono ?_
    rintro e w3 ⟨rfl, hb3⟩
    have HB3 := Lib.hid (HB2.out.trans (hb3.mono HB2.out.size))
    clear hb3
    go_wp2
    go_ret2
    exact ⟨rfl, HB3.out⟩
end Go.Proofs.YtdadadiipmenbaaDoor
