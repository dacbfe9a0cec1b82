/- LiftTime and JobTime, the program. JobTime, the program. -/
import Derived.Test.YtdadadiipmenbaaDoorJobS
namespace Go.Proofs.YtdadadiipmenbaaDoor
open Go.RowKit
set_option maxRecDepth 100000 in
set_option maxHeartbeats 8000000 in
theorem impl_LiftOk (f : CraneF) (s : SV) (l : List Chs) (g : LiftF) (t : SV) (lo hi : Nat) (w : World) (h : Chss lo hi w s.v l) (hwf : f.name.size ≤ maxLen) (hwg : g.name.size ≤ maxLen) :
    Calls Tryd.prog 46 #[.agg (CraneR.cells ⟨f, s⟩).toArray, .agg (LiftR.cells ⟨g, t⟩).toArray] w fun e w' => e = .returned (.bool (craneB f l && plainB g)) ∧ Below w.heap.size w w' := by
  have hC := fun w' (hb : Below w.heap.size w w') => impl_CraneOk f s l lo hi w' (h.ext hb) hwf
  have hP := fun w' => impl_One g t w' hwg
  clear h hwf hwg
  generalize craneB f l = cb at *
  generalize plainB g = pb at *
  obtain ⟨sa, sl, sc⟩ := s
  obtain ⟨ta, tl, tc⟩ := t
  obtain ⟨x0, x1, x2, x3, x4, x5⟩ := f
  obtain ⟨y0, y1, y2, y3, y4, y5, y6, y7⟩ := g
  simp only [CraneR.cells, LiftR.cells, SV.v] at *
  obtain ⟨W0, hW, e1, e2, hB0, hz0⟩ := two_boxes w (.cells #[.string x0, .int .i64 x1, .int .i64 x2, .int .i64 x3, .int .i64 x4, .int .i64 x5, .slice sa sl sc] 39 (0, 0)) (.cells #[.string y0, .int .i64 y1, .int .i64 y2, .int .i64 y3, .int .i64 y4, .int .i64 y5, .int .i64 y6, .int .i64 y7, .slice ta tl tc] 44 (0, 0))
  have HW := Lib.hid hW
  have E2 := Lib.hid e2
  have HB0 := Lib.hid hB0
  have HC := Lib.hid hC
  have HP := Lib.hid hP
  clear hW e1 e2 hB0 hz0 hC hP
  cases cb
  · go_enter Tryd.func46, Tryd.ntmps46
    go_wp2_with fail
    rw [HW.out]
    refine (HC.out _ HB0.out).mono ?_
    rintro e w2 ⟨rfl, hb2⟩
    have HB2 := Lib.hid (HB0.out.trans (hb2.mono HB0.out.size))
    clear hb2
    go_wp2
    go_ret
    exact ⟨rfl, HB2.out⟩
  · go_enter Tryd.func46, Tryd.ntmps46
    go_wp2_with fail
    rw [HW.out]
    refine (HC.out _ HB0.out).mono ?_
    rintro e w2 ⟨rfl, hb2⟩
    have HB2 := Lib.hid (HB0.out.trans (hb2.mono HB0.out.size))
    have g2 := blkN_below hb2 E2.out
    have l0 : w2.cell? ⟨w.heap.size + 1, 0, none⟩ = some (.string y0) := (by rw [Lib.cell_of_heap g2]; rfl)
    have l1 : w2.cell? ⟨w.heap.size + 1, 1, none⟩ = some (.int .i64 y1) := (by rw [Lib.cell_of_heap g2]; rfl)
    have l2 : w2.cell? ⟨w.heap.size + 1, 2, none⟩ = some (.int .i64 y2) := (by rw [Lib.cell_of_heap g2]; rfl)
    have l3 : w2.cell? ⟨w.heap.size + 1, 3, none⟩ = some (.int .i64 y3) := (by rw [Lib.cell_of_heap g2]; rfl)
    have l4 : w2.cell? ⟨w.heap.size + 1, 4, none⟩ = some (.int .i64 y4) := (by rw [Lib.cell_of_heap g2]; rfl)
    have l5 : w2.cell? ⟨w.heap.size + 1, 5, none⟩ = some (.int .i64 y5) := (by rw [Lib.cell_of_heap g2]; rfl)
    have l6 : w2.cell? ⟨w.heap.size + 1, 6, none⟩ = some (.int .i64 y6) := (by rw [Lib.cell_of_heap g2]; rfl)
    have l7 : w2.cell? ⟨w.heap.size + 1, 7, none⟩ = some (.int .i64 y7) := (by rw [Lib.cell_of_heap g2]; rfl)
    have l8 : w2.cell? ⟨w.heap.size + 1, 8, none⟩ = some (.slice ta tl tc) := (by rw [Lib.cell_of_heap g2]; rfl)
    clear hb2 g2
    go_wp2_with (go_at_call 63; refine (HP.out _).mono ?_; rintro e w3 ⟨rfl, hb3⟩)
    go_ret
    exact ⟨ret_bool (by simp), HB2.out.trans (hb3.mono HB2.out.size)⟩
set_option maxRecDepth 100000 in
set_option maxHeartbeats 8000000 in
theorem impl_LiftTime (f : CraneF) (s : SV) (l : List Chs) (v : Spd) (g : LiftF) (t : SV) (lo hi : Nat) (w : World) (h : Chss lo hi w s.v l) (hwf : f.name.size ≤ maxLen) (hwg : g.name.size ≤ maxLen) (hQ : Qtr w) :
    Calls Tryd.prog 13 #[.agg (CraneR.cells ⟨f, s⟩).toArray, .agg v.cells.toArray, .agg (LiftR.cells ⟨g, t⟩).toArray] w fun e w' => e = .returned (.tuple #[.int .i64 (timeI f l v g), .int .i64 (codeI f l v g)]) ∧ Below w.heap.size w w' := by
  have hql := hQ.lt
  have hS := fun w' => impl_SpdOk v w'
  have hK := fun w' (hb : Below w.heap.size w w') => impl_LiftOk f s l g t lo hi w' (h.ext hb) hwf hwg
  have hN := fun (ho : craneOk f l) (hg : plainOk g) w' (hb : Below w.heap.size w w') => impl_Can f s l g t lo hi w' (h.ext hb) ho hg.2.2.1 hg.2.2.2.1 hg.2.1.1 hg.2.2.2.2.1
  have hL := fun (hv : v.ok) (ho : craneOk f l) (hg : plainOk g) w' (hb : Below w.heap.size w w') => impl_LiftT f s v g t w' hv ho.2.1 hg (hQ.below hb hql)
  clear h hwf hwg hQ hql
  have hcs := code_cases f l v g
  unfold timeI
  generalize codeI f l v g = c at *
  generalize liftT f v g = lt at *
  have hok : decide v.ok = true → v.ok := fun h => of_decide_eq_true h
  have hok2 := @craneB_iff f l
  have hok3 := @plainB_iff g
  generalize craneB f l = cb at *
  generalize plainB g = pb at *
  generalize canB f l g = nb at *
  generalize hsb : decide v.ok = sb at *
  clear hsb
  generalize hvo : v.ok = VO at *
  clear hvo
  generalize craneOk f l = CO at *
  generalize plainOk g = PO at *
  obtain ⟨sa, sl, sc⟩ := s
  obtain ⟨ta, tl, tc⟩ := t
  obtain ⟨x0, x1, x2, x3, x4, x5⟩ := f
  obtain ⟨y0, y1, y2, y3, y4, y5, y6, y7⟩ := g
  obtain ⟨v0, v1, v2, v3⟩ := v
  simp only [CraneR.cells, LiftR.cells, SV.v, Spd.cells, List.cons_append, List.nil_append] at *
  obtain ⟨W0, hW, e1, e2, e3, hB0, hz0⟩ := three_boxes w (.cells #[.string x0, .int .i64 x1, .int .i64 x2, .int .i64 x3, .int .i64 x4, .int .i64 x5, .slice sa sl sc] 39 (0, 0)) (.cells #[.int .i64 v0, .int .i64 v1, .int .i64 v2, .int .i64 v3] 41 (0, 0)) (.cells #[.string y0, .int .i64 y1, .int .i64 y2, .int .i64 y3, .int .i64 y4, .int .i64 y5, .int .i64 y6, .int .i64 y7, .slice ta tl tc] 44 (0, 0))
  have HW := Lib.hid hW
  have E1 := Lib.hid e1
  have E2 := Lib.hid e2
  have E3 := Lib.hid e3
  have HB0 := Lib.hid hB0
  clear hW e1 e2 e3 hB0 hz0
  rcases hcs with ⟨rfl, rfl⟩ | ⟨rfl, rfl, rfl⟩ | ⟨rfl, rfl, rfl, rfl⟩ | ⟨rfl, rfl, rfl, rfl, rfl⟩ | ⟨rfl, rfl, rfl, rfl, rfl⟩
  all_goals
    have HS := Lib.hid hS
    have HK := Lib.hid hK
    have HOK := Lib.hid hok
    have HOK2 := Lib.hid hok2
    have HOK3 := Lib.hid hok3
    have HN := Lib.hid hN
    have HL := Lib.hid hL
    clear hS hK hok hok2 hok3 hN hL
  · rw [if_neg (by omega)]
    go_enter Tryd.func13, Tryd.ntmps13
    go_wp2_with fail
    rw [HW.out]
    refine (HS.out _).mono ?_
    rintro e w2 ⟨rfl, hb2⟩
    have HB2 := Lib.hid (HB0.out.trans (hb2.mono HB0.out.size))
    clear hb2
    go_wp2
    go_ret2
    exact ⟨rfl, HB2.out⟩
  iterate 2
    · rw [if_neg (by omega)]
      go_enter Tryd.func13, Tryd.ntmps13
      go_wp2_with fail
      rw [HW.out]
      refine (HS.out _).mono ?_
      rintro e w2 ⟨rfl, hb2⟩
      have HB2 := Lib.hid (HB0.out.trans (hb2.mono HB0.out.size))
      have g1 := blkN_below hb2 E1.out
      have g2 := blkN_below hb2 E2.out
      have g3 := blkN_below hb2 E3.out
      have G1 := Lib.hid g1
      have G2 := Lib.hid g2
      have G3 := Lib.hid g3
      have c2_0 : w2.cell? ⟨w.heap.size, 0, none⟩ = some (.string x0) := (by rw [Lib.cell_of_heap g1]; rfl)
      have c2_1 : w2.cell? ⟨w.heap.size, 1, none⟩ = some (.int .i64 x1) := (by rw [Lib.cell_of_heap g1]; rfl)
      have c2_2 : w2.cell? ⟨w.heap.size, 2, none⟩ = some (.int .i64 x2) := (by rw [Lib.cell_of_heap g1]; rfl)
      have c2_3 : w2.cell? ⟨w.heap.size, 3, none⟩ = some (.int .i64 x3) := (by rw [Lib.cell_of_heap g1]; rfl)
      have c2_4 : w2.cell? ⟨w.heap.size, 4, none⟩ = some (.int .i64 x4) := (by rw [Lib.cell_of_heap g1]; rfl)
      have c2_5 : w2.cell? ⟨w.heap.size, 5, none⟩ = some (.int .i64 x5) := (by rw [Lib.cell_of_heap g1]; rfl)
      have c2_6 : w2.cell? ⟨w.heap.size, 6, none⟩ = some (.slice sa sl sc) := (by rw [Lib.cell_of_heap g1]; rfl)
      have v2_0 : w2.cell? ⟨w.heap.size + 1, 0, none⟩ = some (.int .i64 v0) := (by rw [Lib.cell_of_heap g2]; rfl)
      have v2_1 : w2.cell? ⟨w.heap.size + 1, 1, none⟩ = some (.int .i64 v1) := (by rw [Lib.cell_of_heap g2]; rfl)
      have v2_2 : w2.cell? ⟨w.heap.size + 1, 2, none⟩ = some (.int .i64 v2) := (by rw [Lib.cell_of_heap g2]; rfl)
      have v2_3 : w2.cell? ⟨w.heap.size + 1, 3, none⟩ = some (.int .i64 v3) := (by rw [Lib.cell_of_heap g2]; rfl)
      have l2_0 : w2.cell? ⟨w.heap.size + 1 + 1, 0, none⟩ = some (.string y0) := (by rw [Lib.cell_of_heap g3]; rfl)
      have l2_1 : w2.cell? ⟨w.heap.size + 1 + 1, 1, none⟩ = some (.int .i64 y1) := (by rw [Lib.cell_of_heap g3]; rfl)
      have l2_2 : w2.cell? ⟨w.heap.size + 1 + 1, 2, none⟩ = some (.int .i64 y2) := (by rw [Lib.cell_of_heap g3]; rfl)
      have l2_3 : w2.cell? ⟨w.heap.size + 1 + 1, 3, none⟩ = some (.int .i64 y3) := (by rw [Lib.cell_of_heap g3]; rfl)
      have l2_4 : w2.cell? ⟨w.heap.size + 1 + 1, 4, none⟩ = some (.int .i64 y4) := (by rw [Lib.cell_of_heap g3]; rfl)
      have l2_5 : w2.cell? ⟨w.heap.size + 1 + 1, 5, none⟩ = some (.int .i64 y5) := (by rw [Lib.cell_of_heap g3]; rfl)
      have l2_6 : w2.cell? ⟨w.heap.size + 1 + 1, 6, none⟩ = some (.int .i64 y6) := (by rw [Lib.cell_of_heap g3]; rfl)
      have l2_7 : w2.cell? ⟨w.heap.size + 1 + 1, 7, none⟩ = some (.int .i64 y7) := (by rw [Lib.cell_of_heap g3]; rfl)
      have l2_8 : w2.cell? ⟨w.heap.size + 1 + 1, 8, none⟩ = some (.slice ta tl tc) := (by rw [Lib.cell_of_heap g3]; rfl)
      clear g1 g2 g3 hb2
      go_wp2_with (go_at_call 46; refine (HK.out _ HB2.out).mono ?_; rintro e w3 ⟨rfl, hb3⟩)
      go_ret2
      exact ⟨rfl, HB2.out.trans (hb3.mono HB2.out.size)⟩
  · rw [if_neg (by omega)]
    have HN := Lib.hid (HN.out (HOK2.out.1 rfl) (HOK3.out.1 rfl))
    go_enter Tryd.func13, Tryd.ntmps13
    go_wp2_with fail
    rw [HW.out]
    refine (HS.out _).mono ?_
    rintro e w2 ⟨rfl, hb2⟩
    have HB2 := Lib.hid (HB0.out.trans (hb2.mono HB0.out.size))
    have g1 := blkN_below hb2 E1.out
    have g2 := blkN_below hb2 E2.out
    have g3 := blkN_below hb2 E3.out
    have G1 := Lib.hid g1
    have G2 := Lib.hid g2
    have G3 := Lib.hid g3
    have c2_0 : w2.cell? ⟨w.heap.size, 0, none⟩ = some (.string x0) := (by rw [Lib.cell_of_heap g1]; rfl)
    have c2_1 : w2.cell? ⟨w.heap.size, 1, none⟩ = some (.int .i64 x1) := (by rw [Lib.cell_of_heap g1]; rfl)
    have c2_2 : w2.cell? ⟨w.heap.size, 2, none⟩ = some (.int .i64 x2) := (by rw [Lib.cell_of_heap g1]; rfl)
    have c2_3 : w2.cell? ⟨w.heap.size, 3, none⟩ = some (.int .i64 x3) := (by rw [Lib.cell_of_heap g1]; rfl)
    have c2_4 : w2.cell? ⟨w.heap.size, 4, none⟩ = some (.int .i64 x4) := (by rw [Lib.cell_of_heap g1]; rfl)
    have c2_5 : w2.cell? ⟨w.heap.size, 5, none⟩ = some (.int .i64 x5) := (by rw [Lib.cell_of_heap g1]; rfl)
    have c2_6 : w2.cell? ⟨w.heap.size, 6, none⟩ = some (.slice sa sl sc) := (by rw [Lib.cell_of_heap g1]; rfl)
    have v2_0 : w2.cell? ⟨w.heap.size + 1, 0, none⟩ = some (.int .i64 v0) := (by rw [Lib.cell_of_heap g2]; rfl)
    have v2_1 : w2.cell? ⟨w.heap.size + 1, 1, none⟩ = some (.int .i64 v1) := (by rw [Lib.cell_of_heap g2]; rfl)
    have v2_2 : w2.cell? ⟨w.heap.size + 1, 2, none⟩ = some (.int .i64 v2) := (by rw [Lib.cell_of_heap g2]; rfl)
    have v2_3 : w2.cell? ⟨w.heap.size + 1, 3, none⟩ = some (.int .i64 v3) := (by rw [Lib.cell_of_heap g2]; rfl)
    have l2_0 : w2.cell? ⟨w.heap.size + 1 + 1, 0, none⟩ = some (.string y0) := (by rw [Lib.cell_of_heap g3]; rfl)
    have l2_1 : w2.cell? ⟨w.heap.size + 1 + 1, 1, none⟩ = some (.int .i64 y1) := (by rw [Lib.cell_of_heap g3]; rfl)
    have l2_2 : w2.cell? ⟨w.heap.size + 1 + 1, 2, none⟩ = some (.int .i64 y2) := (by rw [Lib.cell_of_heap g3]; rfl)
    have l2_3 : w2.cell? ⟨w.heap.size + 1 + 1, 3, none⟩ = some (.int .i64 y3) := (by rw [Lib.cell_of_heap g3]; rfl)
    have l2_4 : w2.cell? ⟨w.heap.size + 1 + 1, 4, none⟩ = some (.int .i64 y4) := (by rw [Lib.cell_of_heap g3]; rfl)
    have l2_5 : w2.cell? ⟨w.heap.size + 1 + 1, 5, none⟩ = some (.int .i64 y5) := (by rw [Lib.cell_of_heap g3]; rfl)
    have l2_6 : w2.cell? ⟨w.heap.size + 1 + 1, 6, none⟩ = some (.int .i64 y6) := (by rw [Lib.cell_of_heap g3]; rfl)
    have l2_7 : w2.cell? ⟨w.heap.size + 1 + 1, 7, none⟩ = some (.int .i64 y7) := (by rw [Lib.cell_of_heap g3]; rfl)
    have l2_8 : w2.cell? ⟨w.heap.size + 1 + 1, 8, none⟩ = some (.slice ta tl tc) := (by rw [Lib.cell_of_heap g3]; rfl)
    clear g1 g2 g3 hb2
    go_wp2_with fail
    refine (HK.out _ HB2.out).mono ?_
    rintro e w3 ⟨rfl, hb3⟩
    have HB3 := Lib.hid (HB2.out.trans (hb3.mono HB2.out.size))
    have g1 := blkN_below hb3 G1.out
    have g2 := blkN_below hb3 G2.out
    have g3 := blkN_below hb3 G3.out
    have G1 := Lib.hid g1
    have G2 := Lib.hid g2
    have G3 := Lib.hid g3
    have c3_0 : w3.cell? ⟨w.heap.size, 0, none⟩ = some (.string x0) := (by rw [Lib.cell_of_heap g1]; rfl)
    have c3_1 : w3.cell? ⟨w.heap.size, 1, none⟩ = some (.int .i64 x1) := (by rw [Lib.cell_of_heap g1]; rfl)
    have c3_2 : w3.cell? ⟨w.heap.size, 2, none⟩ = some (.int .i64 x2) := (by rw [Lib.cell_of_heap g1]; rfl)
    have c3_3 : w3.cell? ⟨w.heap.size, 3, none⟩ = some (.int .i64 x3) := (by rw [Lib.cell_of_heap g1]; rfl)
    have c3_4 : w3.cell? ⟨w.heap.size, 4, none⟩ = some (.int .i64 x4) := (by rw [Lib.cell_of_heap g1]; rfl)
    have c3_5 : w3.cell? ⟨w.heap.size, 5, none⟩ = some (.int .i64 x5) := (by rw [Lib.cell_of_heap g1]; rfl)
    have c3_6 : w3.cell? ⟨w.heap.size, 6, none⟩ = some (.slice sa sl sc) := (by rw [Lib.cell_of_heap g1]; rfl)
    have v3_0 : w3.cell? ⟨w.heap.size + 1, 0, none⟩ = some (.int .i64 v0) := (by rw [Lib.cell_of_heap g2]; rfl)
    have v3_1 : w3.cell? ⟨w.heap.size + 1, 1, none⟩ = some (.int .i64 v1) := (by rw [Lib.cell_of_heap g2]; rfl)
    have v3_2 : w3.cell? ⟨w.heap.size + 1, 2, none⟩ = some (.int .i64 v2) := (by rw [Lib.cell_of_heap g2]; rfl)
    have v3_3 : w3.cell? ⟨w.heap.size + 1, 3, none⟩ = some (.int .i64 v3) := (by rw [Lib.cell_of_heap g2]; rfl)
    have l3_0 : w3.cell? ⟨w.heap.size + 1 + 1, 0, none⟩ = some (.string y0) := (by rw [Lib.cell_of_heap g3]; rfl)
    have l3_1 : w3.cell? ⟨w.heap.size + 1 + 1, 1, none⟩ = some (.int .i64 y1) := (by rw [Lib.cell_of_heap g3]; rfl)
    have l3_2 : w3.cell? ⟨w.heap.size + 1 + 1, 2, none⟩ = some (.int .i64 y2) := (by rw [Lib.cell_of_heap g3]; rfl)
    have l3_3 : w3.cell? ⟨w.heap.size + 1 + 1, 3, none⟩ = some (.int .i64 y3) := (by rw [Lib.cell_of_heap g3]; rfl)
    have l3_4 : w3.cell? ⟨w.heap.size + 1 + 1, 4, none⟩ = some (.int .i64 y4) := (by rw [Lib.cell_of_heap g3]; rfl)
    have l3_5 : w3.cell? ⟨w.heap.size + 1 + 1, 5, none⟩ = some (.int .i64 y5) := (by rw [Lib.cell_of_heap g3]; rfl)
    have l3_6 : w3.cell? ⟨w.heap.size + 1 + 1, 6, none⟩ = some (.int .i64 y6) := (by rw [Lib.cell_of_heap g3]; rfl)
    have l3_7 : w3.cell? ⟨w.heap.size + 1 + 1, 7, none⟩ = some (.int .i64 y7) := (by rw [Lib.cell_of_heap g3]; rfl)
    have l3_8 : w3.cell? ⟨w.heap.size + 1 + 1, 8, none⟩ = some (.slice ta tl tc) := (by rw [Lib.cell_of_heap g3]; rfl)
    clear g1 g2 g3 hb3
    go_wp2_with (go_at_call 47; refine (HN.out _ HB3.out).mono ?_; rintro e w4 ⟨rfl, hb4⟩)
    go_ret2
    exact ⟨rfl, HB3.out.trans (hb4.mono HB3.out.size)⟩
  · rw [if_pos rfl]
    have HL := Lib.hid (HL.out (HOK.out rfl) (HOK2.out.1 rfl) (HOK3.out.1 rfl))
    have HN := Lib.hid (HN.out (HOK2.out.1 rfl) (HOK3.out.1 rfl))
    go_enter Tryd.func13, Tryd.ntmps13
    go_wp2_with fail
    rw [HW.out]
    refine (HS.out _).mono ?_
    rintro e w2 ⟨rfl, hb2⟩
    have HB2 := Lib.hid (HB0.out.trans (hb2.mono HB0.out.size))
    have g1 := blkN_below hb2 E1.out
    have g2 := blkN_below hb2 E2.out
    have g3 := blkN_below hb2 E3.out
    have G1 := Lib.hid g1
    have G2 := Lib.hid g2
    have G3 := Lib.hid g3
    have c2_0 : w2.cell? ⟨w.heap.size, 0, none⟩ = some (.string x0) := (by rw [Lib.cell_of_heap g1]; rfl)
    have c2_1 : w2.cell? ⟨w.heap.size, 1, none⟩ = some (.int .i64 x1) := (by rw [Lib.cell_of_heap g1]; rfl)
    have c2_2 : w2.cell? ⟨w.heap.size, 2, none⟩ = some (.int .i64 x2) := (by rw [Lib.cell_of_heap g1]; rfl)
    have c2_3 : w2.cell? ⟨w.heap.size, 3, none⟩ = some (.int .i64 x3) := (by rw [Lib.cell_of_heap g1]; rfl)
    have c2_4 : w2.cell? ⟨w.heap.size, 4, none⟩ = some (.int .i64 x4) := (by rw [Lib.cell_of_heap g1]; rfl)
    have c2_5 : w2.cell? ⟨w.heap.size, 5, none⟩ = some (.int .i64 x5) := (by rw [Lib.cell_of_heap g1]; rfl)
    have c2_6 : w2.cell? ⟨w.heap.size, 6, none⟩ = some (.slice sa sl sc) := (by rw [Lib.cell_of_heap g1]; rfl)
    have v2_0 : w2.cell? ⟨w.heap.size + 1, 0, none⟩ = some (.int .i64 v0) := (by rw [Lib.cell_of_heap g2]; rfl)
    have v2_1 : w2.cell? ⟨w.heap.size + 1, 1, none⟩ = some (.int .i64 v1) := (by rw [Lib.cell_of_heap g2]; rfl)
    have v2_2 : w2.cell? ⟨w.heap.size + 1, 2, none⟩ = some (.int .i64 v2) := (by rw [Lib.cell_of_heap g2]; rfl)
    have v2_3 : w2.cell? ⟨w.heap.size + 1, 3, none⟩ = some (.int .i64 v3) := (by rw [Lib.cell_of_heap g2]; rfl)
    have l2_0 : w2.cell? ⟨w.heap.size + 1 + 1, 0, none⟩ = some (.string y0) := (by rw [Lib.cell_of_heap g3]; rfl)
    have l2_1 : w2.cell? ⟨w.heap.size + 1 + 1, 1, none⟩ = some (.int .i64 y1) := (by rw [Lib.cell_of_heap g3]; rfl)
    have l2_2 : w2.cell? ⟨w.heap.size + 1 + 1, 2, none⟩ = some (.int .i64 y2) := (by rw [Lib.cell_of_heap g3]; rfl)
    have l2_3 : w2.cell? ⟨w.heap.size + 1 + 1, 3, none⟩ = some (.int .i64 y3) := (by rw [Lib.cell_of_heap g3]; rfl)
    have l2_4 : w2.cell? ⟨w.heap.size + 1 + 1, 4, none⟩ = some (.int .i64 y4) := (by rw [Lib.cell_of_heap g3]; rfl)
    have l2_5 : w2.cell? ⟨w.heap.size + 1 + 1, 5, none⟩ = some (.int .i64 y5) := (by rw [Lib.cell_of_heap g3]; rfl)
    have l2_6 : w2.cell? ⟨w.heap.size + 1 + 1, 6, none⟩ = some (.int .i64 y6) := (by rw [Lib.cell_of_heap g3]; rfl)
    have l2_7 : w2.cell? ⟨w.heap.size + 1 + 1, 7, none⟩ = some (.int .i64 y7) := (by rw [Lib.cell_of_heap g3]; rfl)
    have l2_8 : w2.cell? ⟨w.heap.size + 1 + 1, 8, none⟩ = some (.slice ta tl tc) := (by rw [Lib.cell_of_heap g3]; rfl)
    clear g1 g2 g3 hb2
    go_wp2_with fail
    refine (HK.out _ HB2.out).mono ?_
    rintro e w3 ⟨rfl, hb3⟩
    have HB3 := Lib.hid (HB2.out.trans (hb3.mono HB2.out.size))
    have g1 := blkN_below hb3 G1.out
    have g2 := blkN_below hb3 G2.out
    have g3 := blkN_below hb3 G3.out
    have G1 := Lib.hid g1
    have G2 := Lib.hid g2
    have G3 := Lib.hid g3
    have c3_0 : w3.cell? ⟨w.heap.size, 0, none⟩ = some (.string x0) := (by rw [Lib.cell_of_heap g1]; rfl)
    have c3_1 : w3.cell? ⟨w.heap.size, 1, none⟩ = some (.int .i64 x1) := (by rw [Lib.cell_of_heap g1]; rfl)
    have c3_2 : w3.cell? ⟨w.heap.size, 2, none⟩ = some (.int .i64 x2) := (by rw [Lib.cell_of_heap g1]; rfl)
    have c3_3 : w3.cell? ⟨w.heap.size, 3, none⟩ = some (.int .i64 x3) := (by rw [Lib.cell_of_heap g1]; rfl)
    have c3_4 : w3.cell? ⟨w.heap.size, 4, none⟩ = some (.int .i64 x4) := (by rw [Lib.cell_of_heap g1]; rfl)
    have c3_5 : w3.cell? ⟨w.heap.size, 5, none⟩ = some (.int .i64 x5) := (by rw [Lib.cell_of_heap g1]; rfl)
    have c3_6 : w3.cell? ⟨w.heap.size, 6, none⟩ = some (.slice sa sl sc) := (by rw [Lib.cell_of_heap g1]; rfl)
    have v3_0 : w3.cell? ⟨w.heap.size + 1, 0, none⟩ = some (.int .i64 v0) := (by rw [Lib.cell_of_heap g2]; rfl)
    have v3_1 : w3.cell? ⟨w.heap.size + 1, 1, none⟩ = some (.int .i64 v1) := (by rw [Lib.cell_of_heap g2]; rfl)
    have v3_2 : w3.cell? ⟨w.heap.size + 1, 2, none⟩ = some (.int .i64 v2) := (by rw [Lib.cell_of_heap g2]; rfl)
    have v3_3 : w3.cell? ⟨w.heap.size + 1, 3, none⟩ = some (.int .i64 v3) := (by rw [Lib.cell_of_heap g2]; rfl)
    have l3_0 : w3.cell? ⟨w.heap.size + 1 + 1, 0, none⟩ = some (.string y0) := (by rw [Lib.cell_of_heap g3]; rfl)
    have l3_1 : w3.cell? ⟨w.heap.size + 1 + 1, 1, none⟩ = some (.int .i64 y1) := (by rw [Lib.cell_of_heap g3]; rfl)
    have l3_2 : w3.cell? ⟨w.heap.size + 1 + 1, 2, none⟩ = some (.int .i64 y2) := (by rw [Lib.cell_of_heap g3]; rfl)
    have l3_3 : w3.cell? ⟨w.heap.size + 1 + 1, 3, none⟩ = some (.int .i64 y3) := (by rw [Lib.cell_of_heap g3]; rfl)
    have l3_4 : w3.cell? ⟨w.heap.size + 1 + 1, 4, none⟩ = some (.int .i64 y4) := (by rw [Lib.cell_of_heap g3]; rfl)
    have l3_5 : w3.cell? ⟨w.heap.size + 1 + 1, 5, none⟩ = some (.int .i64 y5) := (by rw [Lib.cell_of_heap g3]; rfl)
    have l3_6 : w3.cell? ⟨w.heap.size + 1 + 1, 6, none⟩ = some (.int .i64 y6) := (by rw [Lib.cell_of_heap g3]; rfl)
    have l3_7 : w3.cell? ⟨w.heap.size + 1 + 1, 7, none⟩ = some (.int .i64 y7) := (by rw [Lib.cell_of_heap g3]; rfl)
    have l3_8 : w3.cell? ⟨w.heap.size + 1 + 1, 8, none⟩ = some (.slice ta tl tc) := (by rw [Lib.cell_of_heap g3]; rfl)
    clear g1 g2 g3 hb3
    go_wp2_with fail
    refine (HN.out _ HB3.out).mono ?_
    rintro e w4 ⟨rfl, hb4⟩
    have HB4 := Lib.hid (HB3.out.trans (hb4.mono HB3.out.size))
    have g1 := blkN_below hb4 G1.out
    have g2 := blkN_below hb4 G2.out
    have g3 := blkN_below hb4 G3.out
    have G1 := Lib.hid g1
    have G2 := Lib.hid g2
    have G3 := Lib.hid g3
    have c4_0 : w4.cell? ⟨w.heap.size, 0, none⟩ = some (.string x0) := (by rw [Lib.cell_of_heap g1]; rfl)
    have c4_1 : w4.cell? ⟨w.heap.size, 1, none⟩ = some (.int .i64 x1) := (by rw [Lib.cell_of_heap g1]; rfl)
    have c4_2 : w4.cell? ⟨w.heap.size, 2, none⟩ = some (.int .i64 x2) := (by rw [Lib.cell_of_heap g1]; rfl)
    have c4_3 : w4.cell? ⟨w.heap.size, 3, none⟩ = some (.int .i64 x3) := (by rw [Lib.cell_of_heap g1]; rfl)
    have c4_4 : w4.cell? ⟨w.heap.size, 4, none⟩ = some (.int .i64 x4) := (by rw [Lib.cell_of_heap g1]; rfl)
    have c4_5 : w4.cell? ⟨w.heap.size, 5, none⟩ = some (.int .i64 x5) := (by rw [Lib.cell_of_heap g1]; rfl)
    have c4_6 : w4.cell? ⟨w.heap.size, 6, none⟩ = some (.slice sa sl sc) := (by rw [Lib.cell_of_heap g1]; rfl)
    have v4_0 : w4.cell? ⟨w.heap.size + 1, 0, none⟩ = some (.int .i64 v0) := (by rw [Lib.cell_of_heap g2]; rfl)
    have v4_1 : w4.cell? ⟨w.heap.size + 1, 1, none⟩ = some (.int .i64 v1) := (by rw [Lib.cell_of_heap g2]; rfl)
    have v4_2 : w4.cell? ⟨w.heap.size + 1, 2, none⟩ = some (.int .i64 v2) := (by rw [Lib.cell_of_heap g2]; rfl)
    have v4_3 : w4.cell? ⟨w.heap.size + 1, 3, none⟩ = some (.int .i64 v3) := (by rw [Lib.cell_of_heap g2]; rfl)
    have l4_0 : w4.cell? ⟨w.heap.size + 1 + 1, 0, none⟩ = some (.string y0) := (by rw [Lib.cell_of_heap g3]; rfl)
    have l4_1 : w4.cell? ⟨w.heap.size + 1 + 1, 1, none⟩ = some (.int .i64 y1) := (by rw [Lib.cell_of_heap g3]; rfl)
    have l4_2 : w4.cell? ⟨w.heap.size + 1 + 1, 2, none⟩ = some (.int .i64 y2) := (by rw [Lib.cell_of_heap g3]; rfl)
    have l4_3 : w4.cell? ⟨w.heap.size + 1 + 1, 3, none⟩ = some (.int .i64 y3) := (by rw [Lib.cell_of_heap g3]; rfl)
    have l4_4 : w4.cell? ⟨w.heap.size + 1 + 1, 4, none⟩ = some (.int .i64 y4) := (by rw [Lib.cell_of_heap g3]; rfl)
    have l4_5 : w4.cell? ⟨w.heap.size + 1 + 1, 5, none⟩ = some (.int .i64 y5) := (by rw [Lib.cell_of_heap g3]; rfl)
    have l4_6 : w4.cell? ⟨w.heap.size + 1 + 1, 6, none⟩ = some (.int .i64 y6) := (by rw [Lib.cell_of_heap g3]; rfl)
    have l4_7 : w4.cell? ⟨w.heap.size + 1 + 1, 7, none⟩ = some (.int .i64 y7) := (by rw [Lib.cell_of_heap g3]; rfl)
    have l4_8 : w4.cell? ⟨w.heap.size + 1 + 1, 8, none⟩ = some (.slice ta tl tc) := (by rw [Lib.cell_of_heap g3]; rfl)
    clear g1 g2 g3 hb4
    go_wp2_with (go_at_call 48; refine (HL.out _ HB4.out).mono ?_; rintro e w5 ⟨rfl, hb5⟩)
    go_ret2
    exact ⟨rfl, HB4.out.trans (hb5.mono HB4.out.size)⟩
set_option maxRecDepth 100000 in
set_option maxHeartbeats 8000000 in
theorem impl_JobTime (f : CraneF) (s : SV) (l : List Chs) (v : Spd) (g : LiftF) (t : SV) (px py : Int) (lo hi : Nat) (w : World) (h : Chss lo hi w s.v l) (hwf : f.name.size ≤ maxLen) (hwg : g.name.size ≤ maxLen) (hQ : Qtr w) :
    Calls Tryd.prog 18 #[.agg (CraneR.cells ⟨f, s⟩).toArray, .agg v.cells.toArray, .agg (LiftR.cells ⟨g, t⟩).toArray, .agg #[.int .i64 px, .int .i64 py]] w fun e w' => e = .returned (.tuple #[.int .i64 (jobI f l v g px py), .int .i64 (jobC f l v g px py)]) ∧ Below w.heap.size w w' := by
  have hql := hQ.lt
  have hS := fun w' => impl_SpdOk v w'
  have hK := fun w' (hb : Below w.heap.size w w') => impl_LiftOk f s l g t lo hi w' (h.ext hb) hwf hwg
  have hP := fun w' => impl_Pl px py w'
  have hN := fun (ho : craneOk f l) (hg : plainOk g) w' (hb : Below w.heap.size w w') => impl_Can f s l g t lo hi w' (h.ext hb) ho hg.2.2.1 hg.2.2.2.1 hg.2.1.1 hg.2.2.2.2.1
  have hL := fun (hv : v.ok) (ho : craneOk f l) (hg : plainOk g) w' (hb : Below w.heap.size w w') => impl_LiftT f s v g t w' hv ho.2.1 hg (hQ.below hb hql)
  have hM := fun (hv : v.ok) (ho : craneOk f l) (hg : plainOk g) (hp : Pl px py) w' (hb : Below w.heap.size w w') => impl_Move f s v px py g.fx g.fy w' hv ho.2.1 hp hg.2.2.1 (hQ.below hb hql)
  have hY := fun (h0 : codeI f l v g = 0) (hp : Pl px py) => job_lay h0 hp
  clear h hwf hwg hQ hql
  have hcs := code_cases f l v g
  unfold jobI jobC
  generalize codeI f l v g = c at *
  generalize liftT f v g = lt at *
  have hok : decide v.ok = true → v.ok := fun h => of_decide_eq_true h
  have hok2 := @craneB_iff f l
  have hok3 := @plainB_iff g
  generalize craneB f l = cb at *
  generalize plainB g = pb at *
  generalize canB f l g = nb at *
  generalize hsb : decide v.ok = sb at *
  clear hsb
  generalize hvo : v.ok = VO at *
  clear hvo
  generalize craneOk f l = CO at *
  generalize plainOk g = PO at *
  obtain ⟨sa, sl, sc⟩ := s
  obtain ⟨ta, tl, tc⟩ := t
  obtain ⟨x0, x1, x2, x3, x4, x5⟩ := f
  obtain ⟨y0, y1, y2, y3, y4, y5, y6, y7⟩ := g
  obtain ⟨v0, v1, v2, v3⟩ := v
  simp only [CraneR.cells, LiftR.cells, SV.v, Spd.cells, List.cons_append, List.nil_append] at *
  generalize moveI ⟨x0, x1, x2, x3, x4, x5⟩ ⟨v0, v1, v2, v3⟩ px py y2 y3 = mv at *
  obtain ⟨W0, hW, e1, e2, e3, e4, hB0, hz0⟩ := four_boxes w (.cells #[.string x0, .int .i64 x1, .int .i64 x2, .int .i64 x3, .int .i64 x4, .int .i64 x5, .slice sa sl sc] 39 (0, 0)) (.cells #[.int .i64 v0, .int .i64 v1, .int .i64 v2, .int .i64 v3] 41 (0, 0)) (.cells #[.string y0, .int .i64 y1, .int .i64 y2, .int .i64 y3, .int .i64 y4, .int .i64 y5, .int .i64 y6, .int .i64 y7, .slice ta tl tc] 44 (0, 0)) (.cells #[.int .i64 px, .int .i64 py] 36 (0, 0))
  have HW := Lib.hid hW
  have E1 := Lib.hid e1
  have E2 := Lib.hid e2
  have E3 := Lib.hid e3
  have E4 := Lib.hid e4
  have HB0 := Lib.hid hB0
  clear hW e1 e2 e3 e4 hB0 hz0
  have HOK := Lib.hid hok
  have HOK2 := Lib.hid hok2
  have HOK3 := Lib.hid hok3
  have HY := Lib.hid hY
  clear hok hok2 hok3 hY
  by_cases hp : Pl px py
  · rw [if_pos hp]
    rw [decide_eq_true hp] at hP
    have HPP := Lib.hid hp
    clear hp
    rcases hcs with ⟨rfl, rfl⟩ | ⟨rfl, rfl, rfl⟩ | ⟨rfl, rfl, rfl, rfl⟩ | ⟨rfl, rfl, rfl, rfl, rfl⟩ | ⟨rfl, rfl, rfl, rfl, rfl⟩
    all_goals
      have HS := Lib.hid hS
      have HK := Lib.hid hK
      have HN := Lib.hid hN
      have HL := Lib.hid hL
      have HM := Lib.hid hM
      have HP := Lib.hid hP
      clear hS hK hN hL hM hP
    · rw [if_neg (by omega)]
      go_enter Tryd.func18, Tryd.ntmps18
      go_wp2_with fail
      rw [HW.out]
      refine (HS.out _).mono ?_
      rintro e w2 ⟨rfl, hb2⟩
      have HB2 := Lib.hid (HB0.out.trans (hb2.mono HB0.out.size))
      clear hb2
      go_wp2
      go_ret2
      exact ⟨rfl, HB2.out⟩
    iterate 2
      · rw [if_neg (by omega)]
        go_enter Tryd.func18, Tryd.ntmps18
        go_wp2_with fail
        rw [HW.out]
        refine (HS.out _).mono ?_
        rintro e w2 ⟨rfl, hb2⟩
        have HB2 := Lib.hid (HB0.out.trans (hb2.mono HB0.out.size))
        have g1 := blkN_below hb2 E1.out
        have g2 := blkN_below hb2 E2.out
        have g3 := blkN_below hb2 E3.out
        have g4 := blkN_below hb2 E4.out
        have G1 := Lib.hid g1
        have G2 := Lib.hid g2
        have G3 := Lib.hid g3
        have G4 := Lib.hid g4
        have c2_0 : w2.cell? ⟨w.heap.size, 0, none⟩ = some (.string x0) := (by rw [Lib.cell_of_heap g1]; rfl)
        have c2_1 : w2.cell? ⟨w.heap.size, 1, none⟩ = some (.int .i64 x1) := (by rw [Lib.cell_of_heap g1]; rfl)
        have c2_2 : w2.cell? ⟨w.heap.size, 2, none⟩ = some (.int .i64 x2) := (by rw [Lib.cell_of_heap g1]; rfl)
        have c2_3 : w2.cell? ⟨w.heap.size, 3, none⟩ = some (.int .i64 x3) := (by rw [Lib.cell_of_heap g1]; rfl)
        have c2_4 : w2.cell? ⟨w.heap.size, 4, none⟩ = some (.int .i64 x4) := (by rw [Lib.cell_of_heap g1]; rfl)
        have c2_5 : w2.cell? ⟨w.heap.size, 5, none⟩ = some (.int .i64 x5) := (by rw [Lib.cell_of_heap g1]; rfl)
        have c2_6 : w2.cell? ⟨w.heap.size, 6, none⟩ = some (.slice sa sl sc) := (by rw [Lib.cell_of_heap g1]; rfl)
        have v2_0 : w2.cell? ⟨w.heap.size + 1, 0, none⟩ = some (.int .i64 v0) := (by rw [Lib.cell_of_heap g2]; rfl)
        have v2_1 : w2.cell? ⟨w.heap.size + 1, 1, none⟩ = some (.int .i64 v1) := (by rw [Lib.cell_of_heap g2]; rfl)
        have v2_2 : w2.cell? ⟨w.heap.size + 1, 2, none⟩ = some (.int .i64 v2) := (by rw [Lib.cell_of_heap g2]; rfl)
        have v2_3 : w2.cell? ⟨w.heap.size + 1, 3, none⟩ = some (.int .i64 v3) := (by rw [Lib.cell_of_heap g2]; rfl)
        have l2_0 : w2.cell? ⟨w.heap.size + 1 + 1, 0, none⟩ = some (.string y0) := (by rw [Lib.cell_of_heap g3]; rfl)
        have l2_1 : w2.cell? ⟨w.heap.size + 1 + 1, 1, none⟩ = some (.int .i64 y1) := (by rw [Lib.cell_of_heap g3]; rfl)
        have l2_2 : w2.cell? ⟨w.heap.size + 1 + 1, 2, none⟩ = some (.int .i64 y2) := (by rw [Lib.cell_of_heap g3]; rfl)
        have l2_3 : w2.cell? ⟨w.heap.size + 1 + 1, 3, none⟩ = some (.int .i64 y3) := (by rw [Lib.cell_of_heap g3]; rfl)
        have l2_4 : w2.cell? ⟨w.heap.size + 1 + 1, 4, none⟩ = some (.int .i64 y4) := (by rw [Lib.cell_of_heap g3]; rfl)
        have l2_5 : w2.cell? ⟨w.heap.size + 1 + 1, 5, none⟩ = some (.int .i64 y5) := (by rw [Lib.cell_of_heap g3]; rfl)
        have l2_6 : w2.cell? ⟨w.heap.size + 1 + 1, 6, none⟩ = some (.int .i64 y6) := (by rw [Lib.cell_of_heap g3]; rfl)
        have l2_7 : w2.cell? ⟨w.heap.size + 1 + 1, 7, none⟩ = some (.int .i64 y7) := (by rw [Lib.cell_of_heap g3]; rfl)
        have l2_8 : w2.cell? ⟨w.heap.size + 1 + 1, 8, none⟩ = some (.slice ta tl tc) := (by rw [Lib.cell_of_heap g3]; rfl)
        have p2_0 : w2.cell? ⟨w.heap.size + 1 + 1 + 1, 0, none⟩ = some (.int .i64 px) := (by rw [Lib.cell_of_heap g4]; rfl)
        have p2_1 : w2.cell? ⟨w.heap.size + 1 + 1 + 1, 1, none⟩ = some (.int .i64 py) := (by rw [Lib.cell_of_heap g4]; rfl)
        clear g1 g2 g3 g4 hb2
        go_wp2_with (go_at_call 46; refine (HK.out _ HB2.out).mono ?_; rintro e w3 ⟨rfl, hb3⟩)
        go_ret2
        exact ⟨rfl, HB2.out.trans (hb3.mono HB2.out.size)⟩
    · rw [if_neg (by omega)]
      have HN := Lib.hid (HN.out (HOK2.out.1 rfl) (HOK3.out.1 rfl))
      go_enter Tryd.func18, Tryd.ntmps18
      go_wp2_with fail
      rw [HW.out]
      refine (HS.out _).mono ?_
      rintro e w2 ⟨rfl, hb2⟩
      have HB2 := Lib.hid (HB0.out.trans (hb2.mono HB0.out.size))
      have g1 := blkN_below hb2 E1.out
      have g2 := blkN_below hb2 E2.out
      have g3 := blkN_below hb2 E3.out
      have g4 := blkN_below hb2 E4.out
      have G1 := Lib.hid g1
      have G2 := Lib.hid g2
      have G3 := Lib.hid g3
      have G4 := Lib.hid g4
      have c2_0 : w2.cell? ⟨w.heap.size, 0, none⟩ = some (.string x0) := (by rw [Lib.cell_of_heap g1]; rfl)
      have c2_1 : w2.cell? ⟨w.heap.size, 1, none⟩ = some (.int .i64 x1) := (by rw [Lib.cell_of_heap g1]; rfl)
      have c2_2 : w2.cell? ⟨w.heap.size, 2, none⟩ = some (.int .i64 x2) := (by rw [Lib.cell_of_heap g1]; rfl)
      have c2_3 : w2.cell? ⟨w.heap.size, 3, none⟩ = some (.int .i64 x3) := (by rw [Lib.cell_of_heap g1]; rfl)
      have c2_4 : w2.cell? ⟨w.heap.size, 4, none⟩ = some (.int .i64 x4) := (by rw [Lib.cell_of_heap g1]; rfl)
      have c2_5 : w2.cell? ⟨w.heap.size, 5, none⟩ = some (.int .i64 x5) := (by rw [Lib.cell_of_heap g1]; rfl)
      have c2_6 : w2.cell? ⟨w.heap.size, 6, none⟩ = some (.slice sa sl sc) := (by rw [Lib.cell_of_heap g1]; rfl)
      have v2_0 : w2.cell? ⟨w.heap.size + 1, 0, none⟩ = some (.int .i64 v0) := (by rw [Lib.cell_of_heap g2]; rfl)
      have v2_1 : w2.cell? ⟨w.heap.size + 1, 1, none⟩ = some (.int .i64 v1) := (by rw [Lib.cell_of_heap g2]; rfl)
      have v2_2 : w2.cell? ⟨w.heap.size + 1, 2, none⟩ = some (.int .i64 v2) := (by rw [Lib.cell_of_heap g2]; rfl)
      have v2_3 : w2.cell? ⟨w.heap.size + 1, 3, none⟩ = some (.int .i64 v3) := (by rw [Lib.cell_of_heap g2]; rfl)
      have l2_0 : w2.cell? ⟨w.heap.size + 1 + 1, 0, none⟩ = some (.string y0) := (by rw [Lib.cell_of_heap g3]; rfl)
      have l2_1 : w2.cell? ⟨w.heap.size + 1 + 1, 1, none⟩ = some (.int .i64 y1) := (by rw [Lib.cell_of_heap g3]; rfl)
      have l2_2 : w2.cell? ⟨w.heap.size + 1 + 1, 2, none⟩ = some (.int .i64 y2) := (by rw [Lib.cell_of_heap g3]; rfl)
      have l2_3 : w2.cell? ⟨w.heap.size + 1 + 1, 3, none⟩ = some (.int .i64 y3) := (by rw [Lib.cell_of_heap g3]; rfl)
      have l2_4 : w2.cell? ⟨w.heap.size + 1 + 1, 4, none⟩ = some (.int .i64 y4) := (by rw [Lib.cell_of_heap g3]; rfl)
      have l2_5 : w2.cell? ⟨w.heap.size + 1 + 1, 5, none⟩ = some (.int .i64 y5) := (by rw [Lib.cell_of_heap g3]; rfl)
      have l2_6 : w2.cell? ⟨w.heap.size + 1 + 1, 6, none⟩ = some (.int .i64 y6) := (by rw [Lib.cell_of_heap g3]; rfl)
      have l2_7 : w2.cell? ⟨w.heap.size + 1 + 1, 7, none⟩ = some (.int .i64 y7) := (by rw [Lib.cell_of_heap g3]; rfl)
      have l2_8 : w2.cell? ⟨w.heap.size + 1 + 1, 8, none⟩ = some (.slice ta tl tc) := (by rw [Lib.cell_of_heap g3]; rfl)
      have p2_0 : w2.cell? ⟨w.heap.size + 1 + 1 + 1, 0, none⟩ = some (.int .i64 px) := (by rw [Lib.cell_of_heap g4]; rfl)
      have p2_1 : w2.cell? ⟨w.heap.size + 1 + 1 + 1, 1, none⟩ = some (.int .i64 py) := (by rw [Lib.cell_of_heap g4]; rfl)
      clear g1 g2 g3 g4 hb2
      go_wp2_with fail
      refine (HK.out _ HB2.out).mono ?_
      rintro e w3 ⟨rfl, hb3⟩
      have HB3 := Lib.hid (HB2.out.trans (hb3.mono HB2.out.size))
      have g1 := blkN_below hb3 G1.out
      have g2 := blkN_below hb3 G2.out
      have g3 := blkN_below hb3 G3.out
      have g4 := blkN_below hb3 G4.out
      have G1 := Lib.hid g1
      have G2 := Lib.hid g2
      have G3 := Lib.hid g3
      have G4 := Lib.hid g4
      have c3_0 : w3.cell? ⟨w.heap.size, 0, none⟩ = some (.string x0) := (by rw [Lib.cell_of_heap g1]; rfl)
      have c3_1 : w3.cell? ⟨w.heap.size, 1, none⟩ = some (.int .i64 x1) := (by rw [Lib.cell_of_heap g1]; rfl)
      have c3_2 : w3.cell? ⟨w.heap.size, 2, none⟩ = some (.int .i64 x2) := (by rw [Lib.cell_of_heap g1]; rfl)
      have c3_3 : w3.cell? ⟨w.heap.size, 3, none⟩ = some (.int .i64 x3) := (by rw [Lib.cell_of_heap g1]; rfl)
      have c3_4 : w3.cell? ⟨w.heap.size, 4, none⟩ = some (.int .i64 x4) := (by rw [Lib.cell_of_heap g1]; rfl)
      have c3_5 : w3.cell? ⟨w.heap.size, 5, none⟩ = some (.int .i64 x5) := (by rw [Lib.cell_of_heap g1]; rfl)
      have c3_6 : w3.cell? ⟨w.heap.size, 6, none⟩ = some (.slice sa sl sc) := (by rw [Lib.cell_of_heap g1]; rfl)
      have v3_0 : w3.cell? ⟨w.heap.size + 1, 0, none⟩ = some (.int .i64 v0) := (by rw [Lib.cell_of_heap g2]; rfl)
      have v3_1 : w3.cell? ⟨w.heap.size + 1, 1, none⟩ = some (.int .i64 v1) := (by rw [Lib.cell_of_heap g2]; rfl)
      have v3_2 : w3.cell? ⟨w.heap.size + 1, 2, none⟩ = some (.int .i64 v2) := (by rw [Lib.cell_of_heap g2]; rfl)
      have v3_3 : w3.cell? ⟨w.heap.size + 1, 3, none⟩ = some (.int .i64 v3) := (by rw [Lib.cell_of_heap g2]; rfl)
      have l3_0 : w3.cell? ⟨w.heap.size + 1 + 1, 0, none⟩ = some (.string y0) := (by rw [Lib.cell_of_heap g3]; rfl)
      have l3_1 : w3.cell? ⟨w.heap.size + 1 + 1, 1, none⟩ = some (.int .i64 y1) := (by rw [Lib.cell_of_heap g3]; rfl)
      have l3_2 : w3.cell? ⟨w.heap.size + 1 + 1, 2, none⟩ = some (.int .i64 y2) := (by rw [Lib.cell_of_heap g3]; rfl)
      have l3_3 : w3.cell? ⟨w.heap.size + 1 + 1, 3, none⟩ = some (.int .i64 y3) := (by rw [Lib.cell_of_heap g3]; rfl)
      have l3_4 : w3.cell? ⟨w.heap.size + 1 + 1, 4, none⟩ = some (.int .i64 y4) := (by rw [Lib.cell_of_heap g3]; rfl)
      have l3_5 : w3.cell? ⟨w.heap.size + 1 + 1, 5, none⟩ = some (.int .i64 y5) := (by rw [Lib.cell_of_heap g3]; rfl)
      have l3_6 : w3.cell? ⟨w.heap.size + 1 + 1, 6, none⟩ = some (.int .i64 y6) := (by rw [Lib.cell_of_heap g3]; rfl)
      have l3_7 : w3.cell? ⟨w.heap.size + 1 + 1, 7, none⟩ = some (.int .i64 y7) := (by rw [Lib.cell_of_heap g3]; rfl)
      have l3_8 : w3.cell? ⟨w.heap.size + 1 + 1, 8, none⟩ = some (.slice ta tl tc) := (by rw [Lib.cell_of_heap g3]; rfl)
      have p3_0 : w3.cell? ⟨w.heap.size + 1 + 1 + 1, 0, none⟩ = some (.int .i64 px) := (by rw [Lib.cell_of_heap g4]; rfl)
      have p3_1 : w3.cell? ⟨w.heap.size + 1 + 1 + 1, 1, none⟩ = some (.int .i64 py) := (by rw [Lib.cell_of_heap g4]; rfl)
      clear g1 g2 g3 g4 hb3
      go_wp2_with fail
      refine (HP.out _).mono ?_
      rintro e w4 ⟨rfl, hb4⟩
      have HB4 := Lib.hid (HB3.out.trans (hb4.mono HB3.out.size))
      have g1 := blkN_below hb4 G1.out
      have g2 := blkN_below hb4 G2.out
      have g3 := blkN_below hb4 G3.out
      have g4 := blkN_below hb4 G4.out
      have G1 := Lib.hid g1
      have G2 := Lib.hid g2
      have G3 := Lib.hid g3
      have G4 := Lib.hid g4
      have c4_0 : w4.cell? ⟨w.heap.size, 0, none⟩ = some (.string x0) := (by rw [Lib.cell_of_heap g1]; rfl)
      have c4_1 : w4.cell? ⟨w.heap.size, 1, none⟩ = some (.int .i64 x1) := (by rw [Lib.cell_of_heap g1]; rfl)
      have c4_2 : w4.cell? ⟨w.heap.size, 2, none⟩ = some (.int .i64 x2) := (by rw [Lib.cell_of_heap g1]; rfl)
      have c4_3 : w4.cell? ⟨w.heap.size, 3, none⟩ = some (.int .i64 x3) := (by rw [Lib.cell_of_heap g1]; rfl)
      have c4_4 : w4.cell? ⟨w.heap.size, 4, none⟩ = some (.int .i64 x4) := (by rw [Lib.cell_of_heap g1]; rfl)
      have c4_5 : w4.cell? ⟨w.heap.size, 5, none⟩ = some (.int .i64 x5) := (by rw [Lib.cell_of_heap g1]; rfl)
      have c4_6 : w4.cell? ⟨w.heap.size, 6, none⟩ = some (.slice sa sl sc) := (by rw [Lib.cell_of_heap g1]; rfl)
      have v4_0 : w4.cell? ⟨w.heap.size + 1, 0, none⟩ = some (.int .i64 v0) := (by rw [Lib.cell_of_heap g2]; rfl)
      have v4_1 : w4.cell? ⟨w.heap.size + 1, 1, none⟩ = some (.int .i64 v1) := (by rw [Lib.cell_of_heap g2]; rfl)
      have v4_2 : w4.cell? ⟨w.heap.size + 1, 2, none⟩ = some (.int .i64 v2) := (by rw [Lib.cell_of_heap g2]; rfl)
      have v4_3 : w4.cell? ⟨w.heap.size + 1, 3, none⟩ = some (.int .i64 v3) := (by rw [Lib.cell_of_heap g2]; rfl)
      have l4_0 : w4.cell? ⟨w.heap.size + 1 + 1, 0, none⟩ = some (.string y0) := (by rw [Lib.cell_of_heap g3]; rfl)
      have l4_1 : w4.cell? ⟨w.heap.size + 1 + 1, 1, none⟩ = some (.int .i64 y1) := (by rw [Lib.cell_of_heap g3]; rfl)
      have l4_2 : w4.cell? ⟨w.heap.size + 1 + 1, 2, none⟩ = some (.int .i64 y2) := (by rw [Lib.cell_of_heap g3]; rfl)
      have l4_3 : w4.cell? ⟨w.heap.size + 1 + 1, 3, none⟩ = some (.int .i64 y3) := (by rw [Lib.cell_of_heap g3]; rfl)
      have l4_4 : w4.cell? ⟨w.heap.size + 1 + 1, 4, none⟩ = some (.int .i64 y4) := (by rw [Lib.cell_of_heap g3]; rfl)
      have l4_5 : w4.cell? ⟨w.heap.size + 1 + 1, 5, none⟩ = some (.int .i64 y5) := (by rw [Lib.cell_of_heap g3]; rfl)
      have l4_6 : w4.cell? ⟨w.heap.size + 1 + 1, 6, none⟩ = some (.int .i64 y6) := (by rw [Lib.cell_of_heap g3]; rfl)
      have l4_7 : w4.cell? ⟨w.heap.size + 1 + 1, 7, none⟩ = some (.int .i64 y7) := (by rw [Lib.cell_of_heap g3]; rfl)
      have l4_8 : w4.cell? ⟨w.heap.size + 1 + 1, 8, none⟩ = some (.slice ta tl tc) := (by rw [Lib.cell_of_heap g3]; rfl)
      have p4_0 : w4.cell? ⟨w.heap.size + 1 + 1 + 1, 0, none⟩ = some (.int .i64 px) := (by rw [Lib.cell_of_heap g4]; rfl)
      have p4_1 : w4.cell? ⟨w.heap.size + 1 + 1 + 1, 1, none⟩ = some (.int .i64 py) := (by rw [Lib.cell_of_heap g4]; rfl)
      clear g1 g2 g3 g4 hb4
      go_wp2_with (go_at_call 47; refine (HN.out _ HB4.out).mono ?_; rintro e w5 ⟨rfl, hb5⟩)
      go_ret2
      exact ⟨rfl, HB4.out.trans (hb5.mono HB4.out.size)⟩
    · rw [if_pos rfl]
      have hwr := HY.out (by first | exact rfl | trivial) HPP.out
      have HL := Lib.hid (HL.out (HOK.out rfl) (HOK2.out.1 rfl) (HOK3.out.1 rfl))
      have HM := Lib.hid (HM.out (HOK.out rfl) (HOK2.out.1 rfl) (HOK3.out.1 rfl) HPP.out)
      have HN := Lib.hid (HN.out (HOK2.out.1 rfl) (HOK3.out.1 rfl))
      go_enter Tryd.func18, Tryd.ntmps18
      go_wp2_with fail
      rw [HW.out]
      refine (HS.out _).mono ?_
      rintro e w2 ⟨rfl, hb2⟩
      have HB2 := Lib.hid (HB0.out.trans (hb2.mono HB0.out.size))
      have g1 := blkN_below hb2 E1.out
      have g2 := blkN_below hb2 E2.out
      have g3 := blkN_below hb2 E3.out
      have g4 := blkN_below hb2 E4.out
      have G1 := Lib.hid g1
      have G2 := Lib.hid g2
      have G3 := Lib.hid g3
      have G4 := Lib.hid g4
      have c2_0 : w2.cell? ⟨w.heap.size, 0, none⟩ = some (.string x0) := (by rw [Lib.cell_of_heap g1]; rfl)
      have c2_1 : w2.cell? ⟨w.heap.size, 1, none⟩ = some (.int .i64 x1) := (by rw [Lib.cell_of_heap g1]; rfl)
      have c2_2 : w2.cell? ⟨w.heap.size, 2, none⟩ = some (.int .i64 x2) := (by rw [Lib.cell_of_heap g1]; rfl)
      have c2_3 : w2.cell? ⟨w.heap.size, 3, none⟩ = some (.int .i64 x3) := (by rw [Lib.cell_of_heap g1]; rfl)
      have c2_4 : w2.cell? ⟨w.heap.size, 4, none⟩ = some (.int .i64 x4) := (by rw [Lib.cell_of_heap g1]; rfl)
      have c2_5 : w2.cell? ⟨w.heap.size, 5, none⟩ = some (.int .i64 x5) := (by rw [Lib.cell_of_heap g1]; rfl)
      have c2_6 : w2.cell? ⟨w.heap.size, 6, none⟩ = some (.slice sa sl sc) := (by rw [Lib.cell_of_heap g1]; rfl)
      have v2_0 : w2.cell? ⟨w.heap.size + 1, 0, none⟩ = some (.int .i64 v0) := (by rw [Lib.cell_of_heap g2]; rfl)
      have v2_1 : w2.cell? ⟨w.heap.size + 1, 1, none⟩ = some (.int .i64 v1) := (by rw [Lib.cell_of_heap g2]; rfl)
      have v2_2 : w2.cell? ⟨w.heap.size + 1, 2, none⟩ = some (.int .i64 v2) := (by rw [Lib.cell_of_heap g2]; rfl)
      have v2_3 : w2.cell? ⟨w.heap.size + 1, 3, none⟩ = some (.int .i64 v3) := (by rw [Lib.cell_of_heap g2]; rfl)
      have l2_0 : w2.cell? ⟨w.heap.size + 1 + 1, 0, none⟩ = some (.string y0) := (by rw [Lib.cell_of_heap g3]; rfl)
      have l2_1 : w2.cell? ⟨w.heap.size + 1 + 1, 1, none⟩ = some (.int .i64 y1) := (by rw [Lib.cell_of_heap g3]; rfl)
      have l2_2 : w2.cell? ⟨w.heap.size + 1 + 1, 2, none⟩ = some (.int .i64 y2) := (by rw [Lib.cell_of_heap g3]; rfl)
      have l2_3 : w2.cell? ⟨w.heap.size + 1 + 1, 3, none⟩ = some (.int .i64 y3) := (by rw [Lib.cell_of_heap g3]; rfl)
      have l2_4 : w2.cell? ⟨w.heap.size + 1 + 1, 4, none⟩ = some (.int .i64 y4) := (by rw [Lib.cell_of_heap g3]; rfl)
      have l2_5 : w2.cell? ⟨w.heap.size + 1 + 1, 5, none⟩ = some (.int .i64 y5) := (by rw [Lib.cell_of_heap g3]; rfl)
      have l2_6 : w2.cell? ⟨w.heap.size + 1 + 1, 6, none⟩ = some (.int .i64 y6) := (by rw [Lib.cell_of_heap g3]; rfl)
      have l2_7 : w2.cell? ⟨w.heap.size + 1 + 1, 7, none⟩ = some (.int .i64 y7) := (by rw [Lib.cell_of_heap g3]; rfl)
      have l2_8 : w2.cell? ⟨w.heap.size + 1 + 1, 8, none⟩ = some (.slice ta tl tc) := (by rw [Lib.cell_of_heap g3]; rfl)
      have p2_0 : w2.cell? ⟨w.heap.size + 1 + 1 + 1, 0, none⟩ = some (.int .i64 px) := (by rw [Lib.cell_of_heap g4]; rfl)
      have p2_1 : w2.cell? ⟨w.heap.size + 1 + 1 + 1, 1, none⟩ = some (.int .i64 py) := (by rw [Lib.cell_of_heap g4]; rfl)
      clear g1 g2 g3 g4 hb2
      go_wp2_with fail
      refine (HK.out _ HB2.out).mono ?_
      rintro e w3 ⟨rfl, hb3⟩
      have HB3 := Lib.hid (HB2.out.trans (hb3.mono HB2.out.size))
      have g1 := blkN_below hb3 G1.out
      have g2 := blkN_below hb3 G2.out
      have g3 := blkN_below hb3 G3.out
      have g4 := blkN_below hb3 G4.out
      have G1 := Lib.hid g1
      have G2 := Lib.hid g2
      have G3 := Lib.hid g3
      have G4 := Lib.hid g4
      have c3_0 : w3.cell? ⟨w.heap.size, 0, none⟩ = some (.string x0) := (by rw [Lib.cell_of_heap g1]; rfl)
      have c3_1 : w3.cell? ⟨w.heap.size, 1, none⟩ = some (.int .i64 x1) := (by rw [Lib.cell_of_heap g1]; rfl)
      have c3_2 : w3.cell? ⟨w.heap.size, 2, none⟩ = some (.int .i64 x2) := (by rw [Lib.cell_of_heap g1]; rfl)
      have c3_3 : w3.cell? ⟨w.heap.size, 3, none⟩ = some (.int .i64 x3) := (by rw [Lib.cell_of_heap g1]; rfl)
      have c3_4 : w3.cell? ⟨w.heap.size, 4, none⟩ = some (.int .i64 x4) := (by rw [Lib.cell_of_heap g1]; rfl)
      have c3_5 : w3.cell? ⟨w.heap.size, 5, none⟩ = some (.int .i64 x5) := (by rw [Lib.cell_of_heap g1]; rfl)
      have c3_6 : w3.cell? ⟨w.heap.size, 6, none⟩ = some (.slice sa sl sc) := (by rw [Lib.cell_of_heap g1]; rfl)
      have v3_0 : w3.cell? ⟨w.heap.size + 1, 0, none⟩ = some (.int .i64 v0) := (by rw [Lib.cell_of_heap g2]; rfl)
      have v3_1 : w3.cell? ⟨w.heap.size + 1, 1, none⟩ = some (.int .i64 v1) := (by rw [Lib.cell_of_heap g2]; rfl)
      have v3_2 : w3.cell? ⟨w.heap.size + 1, 2, none⟩ = some (.int .i64 v2) := (by rw [Lib.cell_of_heap g2]; rfl)
      have v3_3 : w3.cell? ⟨w.heap.size + 1, 3, none⟩ = some (.int .i64 v3) := (by rw [Lib.cell_of_heap g2]; rfl)
      have l3_0 : w3.cell? ⟨w.heap.size + 1 + 1, 0, none⟩ = some (.string y0) := (by rw [Lib.cell_of_heap g3]; rfl)
      have l3_1 : w3.cell? ⟨w.heap.size + 1 + 1, 1, none⟩ = some (.int .i64 y1) := (by rw [Lib.cell_of_heap g3]; rfl)
      have l3_2 : w3.cell? ⟨w.heap.size + 1 + 1, 2, none⟩ = some (.int .i64 y2) := (by rw [Lib.cell_of_heap g3]; rfl)
      have l3_3 : w3.cell? ⟨w.heap.size + 1 + 1, 3, none⟩ = some (.int .i64 y3) := (by rw [Lib.cell_of_heap g3]; rfl)
      have l3_4 : w3.cell? ⟨w.heap.size + 1 + 1, 4, none⟩ = some (.int .i64 y4) := (by rw [Lib.cell_of_heap g3]; rfl)
      have l3_5 : w3.cell? ⟨w.heap.size + 1 + 1, 5, none⟩ = some (.int .i64 y5) := (by rw [Lib.cell_of_heap g3]; rfl)
      have l3_6 : w3.cell? ⟨w.heap.size + 1 + 1, 6, none⟩ = some (.int .i64 y6) := (by rw [Lib.cell_of_heap g3]; rfl)
      have l3_7 : w3.cell? ⟨w.heap.size + 1 + 1, 7, none⟩ = some (.int .i64 y7) := (by rw [Lib.cell_of_heap g3]; rfl)
      have l3_8 : w3.cell? ⟨w.heap.size + 1 + 1, 8, none⟩ = some (.slice ta tl tc) := (by rw [Lib.cell_of_heap g3]; rfl)
      have p3_0 : w3.cell? ⟨w.heap.size + 1 + 1 + 1, 0, none⟩ = some (.int .i64 px) := (by rw [Lib.cell_of_heap g4]; rfl)
      have p3_1 : w3.cell? ⟨w.heap.size + 1 + 1 + 1, 1, none⟩ = some (.int .i64 py) := (by rw [Lib.cell_of_heap g4]; rfl)
      clear g1 g2 g3 g4 hb3
      go_wp2_with fail
      refine (HP.out _).mono ?_
      rintro e w4 ⟨rfl, hb4⟩
      have HB4 := Lib.hid (HB3.out.trans (hb4.mono HB3.out.size))
      have g1 := blkN_below hb4 G1.out
      have g2 := blkN_below hb4 G2.out
      have g3 := blkN_below hb4 G3.out
      have g4 := blkN_below hb4 G4.out
      have G1 := Lib.hid g1
      have G2 := Lib.hid g2
      have G3 := Lib.hid g3
      have G4 := Lib.hid g4
      have c4_0 : w4.cell? ⟨w.heap.size, 0, none⟩ = some (.string x0) := (by rw [Lib.cell_of_heap g1]; rfl)
      have c4_1 : w4.cell? ⟨w.heap.size, 1, none⟩ = some (.int .i64 x1) := (by rw [Lib.cell_of_heap g1]; rfl)
      have c4_2 : w4.cell? ⟨w.heap.size, 2, none⟩ = some (.int .i64 x2) := (by rw [Lib.cell_of_heap g1]; rfl)
      have c4_3 : w4.cell? ⟨w.heap.size, 3, none⟩ = some (.int .i64 x3) := (by rw [Lib.cell_of_heap g1]; rfl)
      have c4_4 : w4.cell? ⟨w.heap.size, 4, none⟩ = some (.int .i64 x4) := (by rw [Lib.cell_of_heap g1]; rfl)
      have c4_5 : w4.cell? ⟨w.heap.size, 5, none⟩ = some (.int .i64 x5) := (by rw [Lib.cell_of_heap g1]; rfl)
      have c4_6 : w4.cell? ⟨w.heap.size, 6, none⟩ = some (.slice sa sl sc) := (by rw [Lib.cell_of_heap g1]; rfl)
      have v4_0 : w4.cell? ⟨w.heap.size + 1, 0, none⟩ = some (.int .i64 v0) := (by rw [Lib.cell_of_heap g2]; rfl)
      have v4_1 : w4.cell? ⟨w.heap.size + 1, 1, none⟩ = some (.int .i64 v1) := (by rw [Lib.cell_of_heap g2]; rfl)
      have v4_2 : w4.cell? ⟨w.heap.size + 1, 2, none⟩ = some (.int .i64 v2) := (by rw [Lib.cell_of_heap g2]; rfl)
      have v4_3 : w4.cell? ⟨w.heap.size + 1, 3, none⟩ = some (.int .i64 v3) := (by rw [Lib.cell_of_heap g2]; rfl)
      have l4_0 : w4.cell? ⟨w.heap.size + 1 + 1, 0, none⟩ = some (.string y0) := (by rw [Lib.cell_of_heap g3]; rfl)
      have l4_1 : w4.cell? ⟨w.heap.size + 1 + 1, 1, none⟩ = some (.int .i64 y1) := (by rw [Lib.cell_of_heap g3]; rfl)
      have l4_2 : w4.cell? ⟨w.heap.size + 1 + 1, 2, none⟩ = some (.int .i64 y2) := (by rw [Lib.cell_of_heap g3]; rfl)
      have l4_3 : w4.cell? ⟨w.heap.size + 1 + 1, 3, none⟩ = some (.int .i64 y3) := (by rw [Lib.cell_of_heap g3]; rfl)
      have l4_4 : w4.cell? ⟨w.heap.size + 1 + 1, 4, none⟩ = some (.int .i64 y4) := (by rw [Lib.cell_of_heap g3]; rfl)
      have l4_5 : w4.cell? ⟨w.heap.size + 1 + 1, 5, none⟩ = some (.int .i64 y5) := (by rw [Lib.cell_of_heap g3]; rfl)
      have l4_6 : w4.cell? ⟨w.heap.size + 1 + 1, 6, none⟩ = some (.int .i64 y6) := (by rw [Lib.cell_of_heap g3]; rfl)
      have l4_7 : w4.cell? ⟨w.heap.size + 1 + 1, 7, none⟩ = some (.int .i64 y7) := (by rw [Lib.cell_of_heap g3]; rfl)
      have l4_8 : w4.cell? ⟨w.heap.size + 1 + 1, 8, none⟩ = some (.slice ta tl tc) := (by rw [Lib.cell_of_heap g3]; rfl)
      have p4_0 : w4.cell? ⟨w.heap.size + 1 + 1 + 1, 0, none⟩ = some (.int .i64 px) := (by rw [Lib.cell_of_heap g4]; rfl)
      have p4_1 : w4.cell? ⟨w.heap.size + 1 + 1 + 1, 1, none⟩ = some (.int .i64 py) := (by rw [Lib.cell_of_heap g4]; rfl)
      clear g1 g2 g3 g4 hb4
      go_wp2_with fail
      refine (HN.out _ HB4.out).mono ?_
      rintro e w5 ⟨rfl, hb5⟩
      have HB5 := Lib.hid (HB4.out.trans (hb5.mono HB4.out.size))
      have g1 := blkN_below hb5 G1.out
      have g2 := blkN_below hb5 G2.out
      have g3 := blkN_below hb5 G3.out
      have g4 := blkN_below hb5 G4.out
      have G1 := Lib.hid g1
      have G2 := Lib.hid g2
      have G3 := Lib.hid g3
      have G4 := Lib.hid g4
      have c5_0 : w5.cell? ⟨w.heap.size, 0, none⟩ = some (.string x0) := (by rw [Lib.cell_of_heap g1]; rfl)
      have c5_1 : w5.cell? ⟨w.heap.size, 1, none⟩ = some (.int .i64 x1) := (by rw [Lib.cell_of_heap g1]; rfl)
      have c5_2 : w5.cell? ⟨w.heap.size, 2, none⟩ = some (.int .i64 x2) := (by rw [Lib.cell_of_heap g1]; rfl)
      have c5_3 : w5.cell? ⟨w.heap.size, 3, none⟩ = some (.int .i64 x3) := (by rw [Lib.cell_of_heap g1]; rfl)
      have c5_4 : w5.cell? ⟨w.heap.size, 4, none⟩ = some (.int .i64 x4) := (by rw [Lib.cell_of_heap g1]; rfl)
      have c5_5 : w5.cell? ⟨w.heap.size, 5, none⟩ = some (.int .i64 x5) := (by rw [Lib.cell_of_heap g1]; rfl)
      have c5_6 : w5.cell? ⟨w.heap.size, 6, none⟩ = some (.slice sa sl sc) := (by rw [Lib.cell_of_heap g1]; rfl)
      have v5_0 : w5.cell? ⟨w.heap.size + 1, 0, none⟩ = some (.int .i64 v0) := (by rw [Lib.cell_of_heap g2]; rfl)
      have v5_1 : w5.cell? ⟨w.heap.size + 1, 1, none⟩ = some (.int .i64 v1) := (by rw [Lib.cell_of_heap g2]; rfl)
      have v5_2 : w5.cell? ⟨w.heap.size + 1, 2, none⟩ = some (.int .i64 v2) := (by rw [Lib.cell_of_heap g2]; rfl)
      have v5_3 : w5.cell? ⟨w.heap.size + 1, 3, none⟩ = some (.int .i64 v3) := (by rw [Lib.cell_of_heap g2]; rfl)
      have l5_0 : w5.cell? ⟨w.heap.size + 1 + 1, 0, none⟩ = some (.string y0) := (by rw [Lib.cell_of_heap g3]; rfl)
      have l5_1 : w5.cell? ⟨w.heap.size + 1 + 1, 1, none⟩ = some (.int .i64 y1) := (by rw [Lib.cell_of_heap g3]; rfl)
      have l5_2 : w5.cell? ⟨w.heap.size + 1 + 1, 2, none⟩ = some (.int .i64 y2) := (by rw [Lib.cell_of_heap g3]; rfl)
      have l5_3 : w5.cell? ⟨w.heap.size + 1 + 1, 3, none⟩ = some (.int .i64 y3) := (by rw [Lib.cell_of_heap g3]; rfl)
      have l5_4 : w5.cell? ⟨w.heap.size + 1 + 1, 4, none⟩ = some (.int .i64 y4) := (by rw [Lib.cell_of_heap g3]; rfl)
      have l5_5 : w5.cell? ⟨w.heap.size + 1 + 1, 5, none⟩ = some (.int .i64 y5) := (by rw [Lib.cell_of_heap g3]; rfl)
      have l5_6 : w5.cell? ⟨w.heap.size + 1 + 1, 6, none⟩ = some (.int .i64 y6) := (by rw [Lib.cell_of_heap g3]; rfl)
      have l5_7 : w5.cell? ⟨w.heap.size + 1 + 1, 7, none⟩ = some (.int .i64 y7) := (by rw [Lib.cell_of_heap g3]; rfl)
      have l5_8 : w5.cell? ⟨w.heap.size + 1 + 1, 8, none⟩ = some (.slice ta tl tc) := (by rw [Lib.cell_of_heap g3]; rfl)
      have p5_0 : w5.cell? ⟨w.heap.size + 1 + 1 + 1, 0, none⟩ = some (.int .i64 px) := (by rw [Lib.cell_of_heap g4]; rfl)
      have p5_1 : w5.cell? ⟨w.heap.size + 1 + 1 + 1, 1, none⟩ = some (.int .i64 py) := (by rw [Lib.cell_of_heap g4]; rfl)
      clear g1 g2 g3 g4 hb5
      go_wp2_with fail
      obtain ⟨W6, hW6⟩ : ∃ W, w5.alloc (.cells #[.string x0, .int .i64 x1, .int .i64 x2, .int .i64 x3, .int .i64 x4, .int .i64 x5, .slice sa sl sc, .int .i64 v0, .int .i64 v1, .int .i64 v2, .int .i64 v3] 94 (0, 0)) = W := ⟨_, rfl⟩
      rw [hW6]
      have hb6 : Below w5.heap.size w5 W6 := by rw [← hW6]; exact (Below.refl _ _).alloc (Nat.le_refl _) _
      have f0 := blkN_new w5 (.cells #[.string x0, .int .i64 x1, .int .i64 x2, .int .i64 x3, .int .i64 x4, .int .i64 x5, .slice sa sl sc, .int .i64 v0, .int .i64 v1, .int .i64 v2, .int .i64 v3] 94 (0, 0))
      rw [hW6] at f0
      have g3 := blkN_below hb6 G3.out
      have g4 := blkN_below hb6 G4.out
      have HB6 := Lib.hid (HB5.out.trans (hb6.mono HB5.out.size))
      have o6_0 : W6.cell? ⟨w5.heap.size, 0, none⟩ = some (.string x0) := (by rw [Lib.cell_of_heap f0]; rfl)
      have o6_1 : W6.cell? ⟨w5.heap.size, 1, none⟩ = some (.int .i64 x1) := (by rw [Lib.cell_of_heap f0]; rfl)
      have o6_2 : W6.cell? ⟨w5.heap.size, 2, none⟩ = some (.int .i64 x2) := (by rw [Lib.cell_of_heap f0]; rfl)
      have o6_3 : W6.cell? ⟨w5.heap.size, 3, none⟩ = some (.int .i64 x3) := (by rw [Lib.cell_of_heap f0]; rfl)
      have o6_4 : W6.cell? ⟨w5.heap.size, 4, none⟩ = some (.int .i64 x4) := (by rw [Lib.cell_of_heap f0]; rfl)
      have o6_5 : W6.cell? ⟨w5.heap.size, 5, none⟩ = some (.int .i64 x5) := (by rw [Lib.cell_of_heap f0]; rfl)
      have o6_6 : W6.cell? ⟨w5.heap.size, 6, none⟩ = some (.slice sa sl sc) := (by rw [Lib.cell_of_heap f0]; rfl)
      have o6_7 : W6.cell? ⟨w5.heap.size, 7, none⟩ = some (.int .i64 v0) := (by rw [Lib.cell_of_heap f0]; rfl)
      have o6_8 : W6.cell? ⟨w5.heap.size, 8, none⟩ = some (.int .i64 v1) := (by rw [Lib.cell_of_heap f0]; rfl)
      have o6_9 : W6.cell? ⟨w5.heap.size, 9, none⟩ = some (.int .i64 v2) := (by rw [Lib.cell_of_heap f0]; rfl)
      have o6_10 : W6.cell? ⟨w5.heap.size, 10, none⟩ = some (.int .i64 v3) := (by rw [Lib.cell_of_heap f0]; rfl)
      have l6_0 : W6.cell? ⟨w.heap.size + 1 + 1, 0, none⟩ = some (.string y0) := (by rw [Lib.cell_of_heap g3]; rfl)
      have l6_1 : W6.cell? ⟨w.heap.size + 1 + 1, 1, none⟩ = some (.int .i64 y1) := (by rw [Lib.cell_of_heap g3]; rfl)
      have l6_2 : W6.cell? ⟨w.heap.size + 1 + 1, 2, none⟩ = some (.int .i64 y2) := (by rw [Lib.cell_of_heap g3]; rfl)
      have l6_3 : W6.cell? ⟨w.heap.size + 1 + 1, 3, none⟩ = some (.int .i64 y3) := (by rw [Lib.cell_of_heap g3]; rfl)
      have l6_4 : W6.cell? ⟨w.heap.size + 1 + 1, 4, none⟩ = some (.int .i64 y4) := (by rw [Lib.cell_of_heap g3]; rfl)
      have l6_5 : W6.cell? ⟨w.heap.size + 1 + 1, 5, none⟩ = some (.int .i64 y5) := (by rw [Lib.cell_of_heap g3]; rfl)
      have l6_6 : W6.cell? ⟨w.heap.size + 1 + 1, 6, none⟩ = some (.int .i64 y6) := (by rw [Lib.cell_of_heap g3]; rfl)
      have l6_7 : W6.cell? ⟨w.heap.size + 1 + 1, 7, none⟩ = some (.int .i64 y7) := (by rw [Lib.cell_of_heap g3]; rfl)
      have l6_8 : W6.cell? ⟨w.heap.size + 1 + 1, 8, none⟩ = some (.slice ta tl tc) := (by rw [Lib.cell_of_heap g3]; rfl)
      have p6_0 : W6.cell? ⟨w.heap.size + 1 + 1 + 1, 0, none⟩ = some (.int .i64 px) := (by rw [Lib.cell_of_heap g4]; rfl)
      have p6_1 : W6.cell? ⟨w.heap.size + 1 + 1 + 1, 1, none⟩ = some (.int .i64 py) := (by rw [Lib.cell_of_heap g4]; rfl)
      have hq1 : w.heap.size + 1 + 1 < W6.heap.size := World.block_lt_of_cell? W6 _ l6_0
      have hq2 : w.heap.size + 1 + 1 + 1 < W6.heap.size := World.block_lt_of_cell? W6 _ p6_0
      have hq3 : w5.heap.size < W6.heap.size := World.block_lt_of_cell? W6 _ o6_0
      clear hW6 f0 g3 g4 hb6
      go_region_held3 (fun w' => (∀ b' o', b' < W6.heap.size → w'.cell? ⟨b', o', none⟩ = W6.cell? ⟨b', o', none⟩) ∧ Below W6.heap.size W6 w') (first | (refine heldB ?_; go_grown; done))
        (first
          | (go_at_call 55; (with_reducible refine (HM.out _ ?hb).mono ?_); (case hb => exact HB6.out.trans (Below.mono (B := W6.heap.size) (by go_grown) HB6.out.size)); rintro e w7 ⟨rfl, hb7'⟩; have b7 : Below W6.heap.size W6 w7 := Below.trans (by go_grown) (hb7'.mono (by go_size)); have q7 := (bcell b7).1)
          | (go_at_call 48; (with_reducible refine (HL.out _ ?hb).mono ?_); (case hb => exact HB6.out.trans (b7.mono HB6.out.size)); rintro e w8 ⟨rfl, hb8'⟩; have b8 : Below W6.heap.size W6 w8 := Below.trans b7 (hb8'.mono b7.size); have q8 := (bcell b8).1))
      go_wp2_with fail
      go_ret2
      exact ⟨rfl, HB6.out.trans (b8.mono HB6.out.size)⟩
  · rw [if_neg hp, if_neg (by omega)]
    rw [decide_eq_false hp] at hP
    have hcs' : sb = false ∨ (sb = true ∧ (cb && pb) = false) ∨ (sb = true ∧ cb = true ∧ pb = true) := by
      cases sb <;> cases cb <;> cases pb <;> simp
    clear hcs hp
    rcases hcs' with rfl | ⟨rfl, hcp⟩ | ⟨rfl, rfl, rfl⟩
    · have HS := Lib.hid hS
      have HK := Lib.hid hK
      have HP := Lib.hid hP
      clear hS hK hP hN hL hM
      go_enter Tryd.func18, Tryd.ntmps18
      go_wp2_with fail
      rw [HW.out]
      refine (HS.out _).mono ?_
      rintro e w2 ⟨rfl, hb2⟩
      have HB2 := Lib.hid (HB0.out.trans (hb2.mono HB0.out.size))
      clear hb2
      go_wp2
      go_ret2
      exact ⟨rfl, HB2.out⟩
    · rw [hcp] at hK
      have HS := Lib.hid hS
      have HK := Lib.hid hK
      have HP := Lib.hid hP
      clear hS hK hP hN hL hM hcp
      go_enter Tryd.func18, Tryd.ntmps18
      go_wp2_with fail
      rw [HW.out]
      refine (HS.out _).mono ?_
      rintro e w2 ⟨rfl, hb2⟩
      have HB2 := Lib.hid (HB0.out.trans (hb2.mono HB0.out.size))
      have g1 := blkN_below hb2 E1.out
      have g2 := blkN_below hb2 E2.out
      have g3 := blkN_below hb2 E3.out
      have g4 := blkN_below hb2 E4.out
      have G1 := Lib.hid g1
      have G2 := Lib.hid g2
      have G3 := Lib.hid g3
      have G4 := Lib.hid g4
      have c2_0 : w2.cell? ⟨w.heap.size, 0, none⟩ = some (.string x0) := (by rw [Lib.cell_of_heap g1]; rfl)
      have c2_1 : w2.cell? ⟨w.heap.size, 1, none⟩ = some (.int .i64 x1) := (by rw [Lib.cell_of_heap g1]; rfl)
      have c2_2 : w2.cell? ⟨w.heap.size, 2, none⟩ = some (.int .i64 x2) := (by rw [Lib.cell_of_heap g1]; rfl)
      have c2_3 : w2.cell? ⟨w.heap.size, 3, none⟩ = some (.int .i64 x3) := (by rw [Lib.cell_of_heap g1]; rfl)
      have c2_4 : w2.cell? ⟨w.heap.size, 4, none⟩ = some (.int .i64 x4) := (by rw [Lib.cell_of_heap g1]; rfl)
      have c2_5 : w2.cell? ⟨w.heap.size, 5, none⟩ = some (.int .i64 x5) := (by rw [Lib.cell_of_heap g1]; rfl)
      have c2_6 : w2.cell? ⟨w.heap.size, 6, none⟩ = some (.slice sa sl sc) := (by rw [Lib.cell_of_heap g1]; rfl)
      have v2_0 : w2.cell? ⟨w.heap.size + 1, 0, none⟩ = some (.int .i64 v0) := (by rw [Lib.cell_of_heap g2]; rfl)
      have v2_1 : w2.cell? ⟨w.heap.size + 1, 1, none⟩ = some (.int .i64 v1) := (by rw [Lib.cell_of_heap g2]; rfl)
      have v2_2 : w2.cell? ⟨w.heap.size + 1, 2, none⟩ = some (.int .i64 v2) := (by rw [Lib.cell_of_heap g2]; rfl)
      have v2_3 : w2.cell? ⟨w.heap.size + 1, 3, none⟩ = some (.int .i64 v3) := (by rw [Lib.cell_of_heap g2]; rfl)
      have l2_0 : w2.cell? ⟨w.heap.size + 1 + 1, 0, none⟩ = some (.string y0) := (by rw [Lib.cell_of_heap g3]; rfl)
      have l2_1 : w2.cell? ⟨w.heap.size + 1 + 1, 1, none⟩ = some (.int .i64 y1) := (by rw [Lib.cell_of_heap g3]; rfl)
      have l2_2 : w2.cell? ⟨w.heap.size + 1 + 1, 2, none⟩ = some (.int .i64 y2) := (by rw [Lib.cell_of_heap g3]; rfl)
      have l2_3 : w2.cell? ⟨w.heap.size + 1 + 1, 3, none⟩ = some (.int .i64 y3) := (by rw [Lib.cell_of_heap g3]; rfl)
      have l2_4 : w2.cell? ⟨w.heap.size + 1 + 1, 4, none⟩ = some (.int .i64 y4) := (by rw [Lib.cell_of_heap g3]; rfl)
      have l2_5 : w2.cell? ⟨w.heap.size + 1 + 1, 5, none⟩ = some (.int .i64 y5) := (by rw [Lib.cell_of_heap g3]; rfl)
      have l2_6 : w2.cell? ⟨w.heap.size + 1 + 1, 6, none⟩ = some (.int .i64 y6) := (by rw [Lib.cell_of_heap g3]; rfl)
      have l2_7 : w2.cell? ⟨w.heap.size + 1 + 1, 7, none⟩ = some (.int .i64 y7) := (by rw [Lib.cell_of_heap g3]; rfl)
      have l2_8 : w2.cell? ⟨w.heap.size + 1 + 1, 8, none⟩ = some (.slice ta tl tc) := (by rw [Lib.cell_of_heap g3]; rfl)
      have p2_0 : w2.cell? ⟨w.heap.size + 1 + 1 + 1, 0, none⟩ = some (.int .i64 px) := (by rw [Lib.cell_of_heap g4]; rfl)
      have p2_1 : w2.cell? ⟨w.heap.size + 1 + 1 + 1, 1, none⟩ = some (.int .i64 py) := (by rw [Lib.cell_of_heap g4]; rfl)
      clear g1 g2 g3 g4 hb2
      go_wp2_with (go_at_call 46; refine (HK.out _ HB2.out).mono ?_; rintro e w3 ⟨rfl, hb3⟩)
      go_ret2
      exact ⟨rfl, HB2.out.trans (hb3.mono HB2.out.size)⟩
    · have HS := Lib.hid hS
      have HK := Lib.hid hK
      have HP := Lib.hid hP
      clear hS hK hP hN hL hM
      go_enter Tryd.func18, Tryd.ntmps18
      go_wp2_with fail
      rw [HW.out]
      refine (HS.out _).mono ?_
      rintro e w2 ⟨rfl, hb2⟩
      have HB2 := Lib.hid (HB0.out.trans (hb2.mono HB0.out.size))
      have g1 := blkN_below hb2 E1.out
      have g2 := blkN_below hb2 E2.out
      have g3 := blkN_below hb2 E3.out
      have g4 := blkN_below hb2 E4.out
      have G1 := Lib.hid g1
      have G2 := Lib.hid g2
      have G3 := Lib.hid g3
      have G4 := Lib.hid g4
      have c2_0 : w2.cell? ⟨w.heap.size, 0, none⟩ = some (.string x0) := (by rw [Lib.cell_of_heap g1]; rfl)
      have c2_1 : w2.cell? ⟨w.heap.size, 1, none⟩ = some (.int .i64 x1) := (by rw [Lib.cell_of_heap g1]; rfl)
      have c2_2 : w2.cell? ⟨w.heap.size, 2, none⟩ = some (.int .i64 x2) := (by rw [Lib.cell_of_heap g1]; rfl)
      have c2_3 : w2.cell? ⟨w.heap.size, 3, none⟩ = some (.int .i64 x3) := (by rw [Lib.cell_of_heap g1]; rfl)
      have c2_4 : w2.cell? ⟨w.heap.size, 4, none⟩ = some (.int .i64 x4) := (by rw [Lib.cell_of_heap g1]; rfl)
      have c2_5 : w2.cell? ⟨w.heap.size, 5, none⟩ = some (.int .i64 x5) := (by rw [Lib.cell_of_heap g1]; rfl)
      have c2_6 : w2.cell? ⟨w.heap.size, 6, none⟩ = some (.slice sa sl sc) := (by rw [Lib.cell_of_heap g1]; rfl)
      have v2_0 : w2.cell? ⟨w.heap.size + 1, 0, none⟩ = some (.int .i64 v0) := (by rw [Lib.cell_of_heap g2]; rfl)
      have v2_1 : w2.cell? ⟨w.heap.size + 1, 1, none⟩ = some (.int .i64 v1) := (by rw [Lib.cell_of_heap g2]; rfl)
      have v2_2 : w2.cell? ⟨w.heap.size + 1, 2, none⟩ = some (.int .i64 v2) := (by rw [Lib.cell_of_heap g2]; rfl)
      have v2_3 : w2.cell? ⟨w.heap.size + 1, 3, none⟩ = some (.int .i64 v3) := (by rw [Lib.cell_of_heap g2]; rfl)
      have l2_0 : w2.cell? ⟨w.heap.size + 1 + 1, 0, none⟩ = some (.string y0) := (by rw [Lib.cell_of_heap g3]; rfl)
      have l2_1 : w2.cell? ⟨w.heap.size + 1 + 1, 1, none⟩ = some (.int .i64 y1) := (by rw [Lib.cell_of_heap g3]; rfl)
      have l2_2 : w2.cell? ⟨w.heap.size + 1 + 1, 2, none⟩ = some (.int .i64 y2) := (by rw [Lib.cell_of_heap g3]; rfl)
      have l2_3 : w2.cell? ⟨w.heap.size + 1 + 1, 3, none⟩ = some (.int .i64 y3) := (by rw [Lib.cell_of_heap g3]; rfl)
      have l2_4 : w2.cell? ⟨w.heap.size + 1 + 1, 4, none⟩ = some (.int .i64 y4) := (by rw [Lib.cell_of_heap g3]; rfl)
      have l2_5 : w2.cell? ⟨w.heap.size + 1 + 1, 5, none⟩ = some (.int .i64 y5) := (by rw [Lib.cell_of_heap g3]; rfl)
      have l2_6 : w2.cell? ⟨w.heap.size + 1 + 1, 6, none⟩ = some (.int .i64 y6) := (by rw [Lib.cell_of_heap g3]; rfl)
      have l2_7 : w2.cell? ⟨w.heap.size + 1 + 1, 7, none⟩ = some (.int .i64 y7) := (by rw [Lib.cell_of_heap g3]; rfl)
      have l2_8 : w2.cell? ⟨w.heap.size + 1 + 1, 8, none⟩ = some (.slice ta tl tc) := (by rw [Lib.cell_of_heap g3]; rfl)
      have p2_0 : w2.cell? ⟨w.heap.size + 1 + 1 + 1, 0, none⟩ = some (.int .i64 px) := (by rw [Lib.cell_of_heap g4]; rfl)
      have p2_1 : w2.cell? ⟨w.heap.size + 1 + 1 + 1, 1, none⟩ = some (.int .i64 py) := (by rw [Lib.cell_of_heap g4]; rfl)
      clear g1 g2 g3 g4 hb2
      go_wp2_with fail
      refine (HK.out _ HB2.out).mono ?_
      rintro e w3 ⟨rfl, hb3⟩
      have HB3 := Lib.hid (HB2.out.trans (hb3.mono HB2.out.size))
      have g1 := blkN_below hb3 G1.out
      have g2 := blkN_below hb3 G2.out
      have g3 := blkN_below hb3 G3.out
      have g4 := blkN_below hb3 G4.out
      have G1 := Lib.hid g1
      have G2 := Lib.hid g2
      have G3 := Lib.hid g3
      have G4 := Lib.hid g4
      have c3_0 : w3.cell? ⟨w.heap.size, 0, none⟩ = some (.string x0) := (by rw [Lib.cell_of_heap g1]; rfl)
      have c3_1 : w3.cell? ⟨w.heap.size, 1, none⟩ = some (.int .i64 x1) := (by rw [Lib.cell_of_heap g1]; rfl)
      have c3_2 : w3.cell? ⟨w.heap.size, 2, none⟩ = some (.int .i64 x2) := (by rw [Lib.cell_of_heap g1]; rfl)
      have c3_3 : w3.cell? ⟨w.heap.size, 3, none⟩ = some (.int .i64 x3) := (by rw [Lib.cell_of_heap g1]; rfl)
      have c3_4 : w3.cell? ⟨w.heap.size, 4, none⟩ = some (.int .i64 x4) := (by rw [Lib.cell_of_heap g1]; rfl)
      have c3_5 : w3.cell? ⟨w.heap.size, 5, none⟩ = some (.int .i64 x5) := (by rw [Lib.cell_of_heap g1]; rfl)
      have c3_6 : w3.cell? ⟨w.heap.size, 6, none⟩ = some (.slice sa sl sc) := (by rw [Lib.cell_of_heap g1]; rfl)
      have v3_0 : w3.cell? ⟨w.heap.size + 1, 0, none⟩ = some (.int .i64 v0) := (by rw [Lib.cell_of_heap g2]; rfl)
      have v3_1 : w3.cell? ⟨w.heap.size + 1, 1, none⟩ = some (.int .i64 v1) := (by rw [Lib.cell_of_heap g2]; rfl)
      have v3_2 : w3.cell? ⟨w.heap.size + 1, 2, none⟩ = some (.int .i64 v2) := (by rw [Lib.cell_of_heap g2]; rfl)
      have v3_3 : w3.cell? ⟨w.heap.size + 1, 3, none⟩ = some (.int .i64 v3) := (by rw [Lib.cell_of_heap g2]; rfl)
      have l3_0 : w3.cell? ⟨w.heap.size + 1 + 1, 0, none⟩ = some (.string y0) := (by rw [Lib.cell_of_heap g3]; rfl)
      have l3_1 : w3.cell? ⟨w.heap.size + 1 + 1, 1, none⟩ = some (.int .i64 y1) := (by rw [Lib.cell_of_heap g3]; rfl)
      have l3_2 : w3.cell? ⟨w.heap.size + 1 + 1, 2, none⟩ = some (.int .i64 y2) := (by rw [Lib.cell_of_heap g3]; rfl)
      have l3_3 : w3.cell? ⟨w.heap.size + 1 + 1, 3, none⟩ = some (.int .i64 y3) := (by rw [Lib.cell_of_heap g3]; rfl)
      have l3_4 : w3.cell? ⟨w.heap.size + 1 + 1, 4, none⟩ = some (.int .i64 y4) := (by rw [Lib.cell_of_heap g3]; rfl)
      have l3_5 : w3.cell? ⟨w.heap.size + 1 + 1, 5, none⟩ = some (.int .i64 y5) := (by rw [Lib.cell_of_heap g3]; rfl)
      have l3_6 : w3.cell? ⟨w.heap.size + 1 + 1, 6, none⟩ = some (.int .i64 y6) := (by rw [Lib.cell_of_heap g3]; rfl)
      have l3_7 : w3.cell? ⟨w.heap.size + 1 + 1, 7, none⟩ = some (.int .i64 y7) := (by rw [Lib.cell_of_heap g3]; rfl)
      have l3_8 : w3.cell? ⟨w.heap.size + 1 + 1, 8, none⟩ = some (.slice ta tl tc) := (by rw [Lib.cell_of_heap g3]; rfl)
      have p3_0 : w3.cell? ⟨w.heap.size + 1 + 1 + 1, 0, none⟩ = some (.int .i64 px) := (by rw [Lib.cell_of_heap g4]; rfl)
      have p3_1 : w3.cell? ⟨w.heap.size + 1 + 1 + 1, 1, none⟩ = some (.int .i64 py) := (by rw [Lib.cell_of_heap g4]; rfl)
      clear g1 g2 g3 g4 hb3
      go_wp2_with fail
      refine (HP.out _).mono ?_
      rintro e w4 ⟨rfl, hb4⟩
      have HB4 := HB3.out.trans (hb4.mono HB3.out.size)
      clear hb4
      go_wp2
      go_ret2
      exact ⟨rfl, HB4⟩
end Go.Proofs.YtdadadiipmenbaaDoor
