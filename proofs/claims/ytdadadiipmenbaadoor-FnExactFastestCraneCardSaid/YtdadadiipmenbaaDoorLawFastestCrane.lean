/- The law FnExactFastestCrane. -/
import Derived.Test.YtdadadiipmenbaaDoorFastF
import Derived.Test.YtdadadiipmenbaaDoorTSite
import Derived.Test.YtdadadiipmenbaaDoorTLiftto
import Derived.Test.YtdadadiipmenbaaDoorTLifteq
import Derived.Test.YtdadadiipmenbaaDoorTLiftsz
import Derived.Test.YtdadadiipmenbaaDoorLawS
import Derived.Handy
namespace Go.Proofs.YtdadadiipmenbaaDoor
open Go.RowKit
set_option maxRecDepth 100000 in
set_option maxHeartbeats 8000000 in
theorem law_FastestCrane {vC : Value} (L : SiteL) {vV vL : Value} (V : Spd) (rL : LiftR) (w : World) (hC : (∃ s : SV, vC = .agg #[s.v] ∧ ∃ rs, Cranes 0 w.heap.size w s.v rs L) ∧ L.wf) (hV : vV = .agg V.cells.toArray ∧ V.wf) (hL : vL = .agg rL.cells.toArray ∧ rL.f.wf ∧ ∃ l, Sl 1 intCells 0 w.heap.size w rL.s.v l ∧ ∀ x ∈ l, I64 x) (hQ : Qtr w) :
    Calls Tryd.prog 5 #[vC, vV, vL] w fun e w' => e = .returned (.bool true) ∧ Below w.heap.size w w' := by
  obtain ⟨⟨s, rfl, rs, hrC⟩, hwC⟩ := hC
  obtain ⟨rfl, -⟩ := hV
  obtain ⟨rfl, hwL, a, hrL, hwa⟩ := hL
  have hql := hQ.lt
  have HQ := Lib.hid (fun w' (hb : Below w.heap.size w w') => hQ.below hb hql)
  have hZC := fun n w' (hb : Below w.heap.size w w') h0 hn => law_szSite s rs L 0 w.heap.size n w' (hrC.ext hb) hwC h0 hn
  have hZL := fun n w' (hb : Below w.heap.size w w') h0 hn => law_szLift rL a 0 w.heap.size n w' (hrL.ext hb) hwL hwa h0 hn
  have hTC := fun (hn : L.cost ≤ 1048576) w' (hb : Below w.heap.size w w') => law_toSite s rs L 0 w.heap.size w' (hrC.ext hb) hn
  have hTL := fun (hn : a.length ≤ 1048576) w' (hb : Below w.heap.size w w') => law_toLift rL a 0 w.heap.size w' (hrL.ext hb) hn
  have hTV := fun w' => law_toSpeeds V w'
  have hEC := fun (a1 : Option Addr) (a2 a3 : Nat) (b1 : Option Addr) (b2 b3 : Nat) r1 r2 lo hi lo2 hi2 w' h h2 => law_eqSite ⟨a1, a2, a3⟩ ⟨b1, b2, b3⟩ r1 r2 L lo hi lo2 hi2 w' h h2
  have hEL := fun (a1 : Option Addr) (a2 a3 : Nat) (b1 : Option Addr) (b2 b3 : Nat) lo hi lo2 hi2 w' h h2 => law_eqLift rL.f ⟨a1, a2, a3⟩ ⟨b1, b2, b3⟩ a lo hi lo2 hi2 w' h h2
  have hnC := hwC
  have hnL : rL.f.name.size ≤ maxLen := hwL.1
  have hSp := fun (a1 : Option Addr) (a2 a3 : Nat) (b1 : Option Addr) (b2 b3 : Nat) rr lo hi w' h => spec_FastestCrane ⟨a1, a2, a3⟩ rr L V rL.f ⟨b1, b2, b3⟩ lo hi w' h hnC hnL
  have hIm := fun (a1 : Option Addr) (a2 a3 : Nat) (b1 : Option Addr) (b2 b3 : Nat) rr lo hi w' h hq => impl_FastestCrane ⟨a1, a2, a3⟩ rr L V rL.f ⟨b1, b2, b3⟩ lo hi w' h hnC hnL hq
  clear hrC hrL hwC hwL hwa hnC hnL hQ hql
  obtain ⟨sa, sl, sc⟩ := s
  obtain ⟨⟨y0, y1, y2, y3, y4, y5, y6, y7⟩, ⟨ta, tl, tc⟩⟩ := rL
  obtain ⟨v0, v1, v2, v3⟩ := V
  unfold ToN at hTL
  unfold ToSite at hTC
  unfold TriRes at hSp hIm
  simp only [SV.v, LiftR.cells, Spd.cells] at *
  generalize (fastR L ⟨v0, v1, v2, v3⟩ ⟨y0, y1, y2, y3, y4, y5, y6, y7⟩).1 = T1 at *
  generalize (fastR L ⟨v0, v1, v2, v3⟩ ⟨y0, y1, y2, y3, y4, y5, y6, y7⟩).2.1 = T2 at *
  generalize (fastR L ⟨v0, v1, v2, v3⟩ ⟨y0, y1, y2, y3, y4, y5, y6, y7⟩).2.2 = T3 at *
  generalize hn1 : (L.cost : Int) = n1 at *
  generalize hn2 : (((y0.size + a.length : Nat) : Int)) = n2 at *
  have hn10 : 0 ≤ n1 := by omega
  have hn20 : 0 ≤ n2 := by omega
  have hl1 : (L.cost : Int) ≤ n1 := by omega
  have hl2 : (a.length : Int) ≤ n2 := by omega
  clear hn1 hn2
  have HZC := Lib.hid hZC
  have HZL := Lib.hid hZL
  have HTC := Lib.hid hTC
  have HTL := Lib.hid hTL
  have HTV := Lib.hid hTV
  have HEC := Lib.hid hEC
  have HEL := Lib.hid hEL
  have HSp := Lib.hid hSp
  have HIm := Lib.hid hIm
  clear hZC hZL hTC hTL hTV hEC hEL hSp hIm
  obtain ⟨W0, hW, e1, e2, e3, hB0, hz0⟩ := three_boxes w (.cells #[.slice sa sl sc] 54 (0, 0)) (.cells #[.int .i64 v0, .int .i64 v1, .int .i64 v2, .int .i64 v3] 28 (0, 0)) (.cells #[.string y0, .int .i64 y1, .int .i64 y2, .int .i64 y3, .int .i64 y4, .int .i64 y5, .int .i64 y6, .int .i64 y7, .slice ta tl tc] 31 (0, 0))
  have HW := Lib.hid hW
  have HB := Lib.hid hB0
  have G1 := Lib.hid e1
  have G2 := Lib.hid e2
  have G3 := Lib.hid e3
  clear hW hB0 hz0 e1 e2 e3
  go_enter Tryd.func5, Tryd.ntmps5
  go_wp2_with fail
  rw [HW.out]
  refine (HZC.out _ _ HB.out (by omega) (by omega)).mono ?_
  rintro e w1 ⟨rfl, hb1⟩
  have HB := Lib.hid (HB.out.trans (hb1.mono HB.out.size))
  have g1 := blkN_below hb1 G1.out
  have G1 := Lib.hid g1
  have k1_0 : w1.cell? ⟨w.heap.size, 0, none⟩ = some (.slice sa sl sc) := (by rw [Lib.cell_of_heap g1]; rfl)
  have z1 : w.heap.size < w1.heap.size := World.block_lt_of_cell? w1 _ k1_0
  have g2 := blkN_below hb1 G2.out
  have G2 := Lib.hid g2
  have k2_0 : w1.cell? ⟨w.heap.size + 1, 0, none⟩ = some (.int .i64 v0) := (by rw [Lib.cell_of_heap g2]; rfl)
  have k2_1 : w1.cell? ⟨w.heap.size + 1, 1, none⟩ = some (.int .i64 v1) := (by rw [Lib.cell_of_heap g2]; rfl)
  have k2_2 : w1.cell? ⟨w.heap.size + 1, 2, none⟩ = some (.int .i64 v2) := (by rw [Lib.cell_of_heap g2]; rfl)
  have k2_3 : w1.cell? ⟨w.heap.size + 1, 3, none⟩ = some (.int .i64 v3) := (by rw [Lib.cell_of_heap g2]; rfl)
  have z2 : w.heap.size + 1 < w1.heap.size := World.block_lt_of_cell? w1 _ k2_0
  have g3 := blkN_below hb1 G3.out
  have G3 := Lib.hid g3
  have k3_0 : w1.cell? ⟨w.heap.size + 1 + 1, 0, none⟩ = some (.string y0) := (by rw [Lib.cell_of_heap g3]; rfl)
  have k3_1 : w1.cell? ⟨w.heap.size + 1 + 1, 1, none⟩ = some (.int .i64 y1) := (by rw [Lib.cell_of_heap g3]; rfl)
  have k3_2 : w1.cell? ⟨w.heap.size + 1 + 1, 2, none⟩ = some (.int .i64 y2) := (by rw [Lib.cell_of_heap g3]; rfl)
  have k3_3 : w1.cell? ⟨w.heap.size + 1 + 1, 3, none⟩ = some (.int .i64 y3) := (by rw [Lib.cell_of_heap g3]; rfl)
  have k3_4 : w1.cell? ⟨w.heap.size + 1 + 1, 4, none⟩ = some (.int .i64 y4) := (by rw [Lib.cell_of_heap g3]; rfl)
  have k3_5 : w1.cell? ⟨w.heap.size + 1 + 1, 5, none⟩ = some (.int .i64 y5) := (by rw [Lib.cell_of_heap g3]; rfl)
  have k3_6 : w1.cell? ⟨w.heap.size + 1 + 1, 6, none⟩ = some (.int .i64 y6) := (by rw [Lib.cell_of_heap g3]; rfl)
  have k3_7 : w1.cell? ⟨w.heap.size + 1 + 1, 7, none⟩ = some (.int .i64 y7) := (by rw [Lib.cell_of_heap g3]; rfl)
  have k3_8 : w1.cell? ⟨w.heap.size + 1 + 1, 8, none⟩ = some (.slice ta tl tc) := (by rw [Lib.cell_of_heap g3]; rfl)
  have z3 : w.heap.size + 1 + 1 < w1.heap.size := World.block_lt_of_cell? w1 _ k3_0
  clear g1 g2 g3
  by_cases hq1 : (1048576 : Int) < n1
  · rw [szRes_lt hq1]
    clear hq1 hb1
    go_wp2
    go_ret
    exact ⟨rfl, HB.out⟩
  rw [szRes_ge hq1]
  have hge : decide ((1048576 : Int) - n1 < 0) = false := decide_eq_false (by omega)
  clear hb1
  go_wp2_with fail
  refine (HZL.out _ _ HB.out (by omega) (by omega)).mono ?_
  rintro e w2 ⟨rfl, hb2⟩
  clear k1_0 k2_0 k2_1 k2_2 k2_3 k3_0 k3_1 k3_2 k3_3 k3_4 k3_5 k3_6 k3_7 k3_8 z1 z2 z3
  have HB := Lib.hid (HB.out.trans (hb2.mono HB.out.size))
  have g1 := blkN_below hb2 G1.out
  have G1 := Lib.hid g1
  have k1_0 : w2.cell? ⟨w.heap.size, 0, none⟩ = some (.slice sa sl sc) := (by rw [Lib.cell_of_heap g1]; rfl)
  have z1 : w.heap.size < w2.heap.size := World.block_lt_of_cell? w2 _ k1_0
  have g2 := blkN_below hb2 G2.out
  have G2 := Lib.hid g2
  have k2_0 : w2.cell? ⟨w.heap.size + 1, 0, none⟩ = some (.int .i64 v0) := (by rw [Lib.cell_of_heap g2]; rfl)
  have k2_1 : w2.cell? ⟨w.heap.size + 1, 1, none⟩ = some (.int .i64 v1) := (by rw [Lib.cell_of_heap g2]; rfl)
  have k2_2 : w2.cell? ⟨w.heap.size + 1, 2, none⟩ = some (.int .i64 v2) := (by rw [Lib.cell_of_heap g2]; rfl)
  have k2_3 : w2.cell? ⟨w.heap.size + 1, 3, none⟩ = some (.int .i64 v3) := (by rw [Lib.cell_of_heap g2]; rfl)
  have z2 : w.heap.size + 1 < w2.heap.size := World.block_lt_of_cell? w2 _ k2_0
  have g3 := blkN_below hb2 G3.out
  have G3 := Lib.hid g3
  have k3_0 : w2.cell? ⟨w.heap.size + 1 + 1, 0, none⟩ = some (.string y0) := (by rw [Lib.cell_of_heap g3]; rfl)
  have k3_1 : w2.cell? ⟨w.heap.size + 1 + 1, 1, none⟩ = some (.int .i64 y1) := (by rw [Lib.cell_of_heap g3]; rfl)
  have k3_2 : w2.cell? ⟨w.heap.size + 1 + 1, 2, none⟩ = some (.int .i64 y2) := (by rw [Lib.cell_of_heap g3]; rfl)
  have k3_3 : w2.cell? ⟨w.heap.size + 1 + 1, 3, none⟩ = some (.int .i64 y3) := (by rw [Lib.cell_of_heap g3]; rfl)
  have k3_4 : w2.cell? ⟨w.heap.size + 1 + 1, 4, none⟩ = some (.int .i64 y4) := (by rw [Lib.cell_of_heap g3]; rfl)
  have k3_5 : w2.cell? ⟨w.heap.size + 1 + 1, 5, none⟩ = some (.int .i64 y5) := (by rw [Lib.cell_of_heap g3]; rfl)
  have k3_6 : w2.cell? ⟨w.heap.size + 1 + 1, 6, none⟩ = some (.int .i64 y6) := (by rw [Lib.cell_of_heap g3]; rfl)
  have k3_7 : w2.cell? ⟨w.heap.size + 1 + 1, 7, none⟩ = some (.int .i64 y7) := (by rw [Lib.cell_of_heap g3]; rfl)
  have k3_8 : w2.cell? ⟨w.heap.size + 1 + 1, 8, none⟩ = some (.slice ta tl tc) := (by rw [Lib.cell_of_heap g3]; rfl)
  have z3 : w.heap.size + 1 + 1 < w2.heap.size := World.block_lt_of_cell? w2 _ k3_0
  clear g1 g2 g3
  by_cases hq2 : (1048576 : Int) - n1 < n2
  · rw [szRes_lt hq2]
    clear hq2 hb2
    go_wp2
    go_ret
    exact ⟨rfl, HB.out⟩
  rw [szRes_ge hq2]
  have hge2 : decide ((1048576 : Int) - n1 - n2 < 0) = false := decide_eq_false (by omega)
  have HTC := Lib.hid (HTC.out (by omega))
  have HTL := Lib.hid (HTL.out (by omega))
  clear hb2
  go_wp2_with fail
  go_region_held3 (fun w' => (∀ b' o', b' < w2.heap.size → w'.cell? ⟨b', o', none⟩ = w2.cell? ⟨b', o', none⟩) ∧ Below w2.heap.size w2 w') (first | (refine heldB ?_; go_grown; done))
    (first
      | (go_at_call 21; (with_reducible refine (HTC.out _ ?hb).mono ?_); (case hb => exact HB.out.trans (Below.mono (B := w2.heap.size) (by go_grown) HB.out.size)); rintro e a1 ⟨⟨ca, cn, cz⟩, rsC, rfl, hsC, hb1'⟩; have b1 : Below w2.heap.size w2 a1 := Below.trans (by go_grown) (hb1'.mono (by go_size)); have q1 := (bcell b1).1)
      | (go_at_call 11; (with_reducible refine (HTV.out _).mono ?_); rintro e a2 ⟨rfl, hb2'⟩; have b2 : Below w2.heap.size w2 a2 := Below.trans b1 (hb2'.mono b1.size); have q2 := (bcell b2).1)
      | (go_at_call 12; (with_reducible refine (HTL.out _ ?hb).mono ?_); (case hb => exact HB.out.trans (Below.mono (B := w2.heap.size) (by exact b2) HB.out.size)); rintro e a3 ⟨⟨la, ln, lz⟩, rfl, hsL, hb3'⟩; have b3 : Below w2.heap.size w2 a3 := Below.trans b2 (hb3'.mono b2.size); have q3 := (bcell b3).1)
      | (go_at_call 20; have hh := ((hsC.r.ext hb2').ext hb3'); (with_reducible refine (HSp.out ca cn cz la ln lz _ _ _ _ hh).mono ?_); clear hh; rintro e a5 ⟨rfl, hb5'⟩; have b5 : Below w2.heap.size w2 a5 := Below.trans b3 (hb5'.mono b3.size); have q5 := (bcell b5).1))
  clear hb1' hb2' hb3' hb5' hsC hsL
  go_wp2_with fail
  clear k1_0 k2_0 k2_1 k2_2 k2_3 k3_0 k3_1 k3_2 k3_3 k3_4 k3_5 k3_6 k3_7 k3_8 z1 z2 z3
  have HB := Lib.hid (HB.out.trans (b5.mono HB.out.size))
  have g1 := blkN_below b5 G1.out
  have G1 := Lib.hid g1
  have k1_0 : a5.cell? ⟨w.heap.size, 0, none⟩ = some (.slice sa sl sc) := (by rw [Lib.cell_of_heap g1]; rfl)
  have z1 : w.heap.size < a5.heap.size := World.block_lt_of_cell? a5 _ k1_0
  have g2 := blkN_below b5 G2.out
  have G2 := Lib.hid g2
  have k2_0 : a5.cell? ⟨w.heap.size + 1, 0, none⟩ = some (.int .i64 v0) := (by rw [Lib.cell_of_heap g2]; rfl)
  have k2_1 : a5.cell? ⟨w.heap.size + 1, 1, none⟩ = some (.int .i64 v1) := (by rw [Lib.cell_of_heap g2]; rfl)
  have k2_2 : a5.cell? ⟨w.heap.size + 1, 2, none⟩ = some (.int .i64 v2) := (by rw [Lib.cell_of_heap g2]; rfl)
  have k2_3 : a5.cell? ⟨w.heap.size + 1, 3, none⟩ = some (.int .i64 v3) := (by rw [Lib.cell_of_heap g2]; rfl)
  have z2 : w.heap.size + 1 < a5.heap.size := World.block_lt_of_cell? a5 _ k2_0
  have g3 := blkN_below b5 G3.out
  have G3 := Lib.hid g3
  have k3_0 : a5.cell? ⟨w.heap.size + 1 + 1, 0, none⟩ = some (.string y0) := (by rw [Lib.cell_of_heap g3]; rfl)
  have k3_1 : a5.cell? ⟨w.heap.size + 1 + 1, 1, none⟩ = some (.int .i64 y1) := (by rw [Lib.cell_of_heap g3]; rfl)
  have k3_2 : a5.cell? ⟨w.heap.size + 1 + 1, 2, none⟩ = some (.int .i64 y2) := (by rw [Lib.cell_of_heap g3]; rfl)
  have k3_3 : a5.cell? ⟨w.heap.size + 1 + 1, 3, none⟩ = some (.int .i64 y3) := (by rw [Lib.cell_of_heap g3]; rfl)
  have k3_4 : a5.cell? ⟨w.heap.size + 1 + 1, 4, none⟩ = some (.int .i64 y4) := (by rw [Lib.cell_of_heap g3]; rfl)
  have k3_5 : a5.cell? ⟨w.heap.size + 1 + 1, 5, none⟩ = some (.int .i64 y5) := (by rw [Lib.cell_of_heap g3]; rfl)
  have k3_6 : a5.cell? ⟨w.heap.size + 1 + 1, 6, none⟩ = some (.int .i64 y6) := (by rw [Lib.cell_of_heap g3]; rfl)
  have k3_7 : a5.cell? ⟨w.heap.size + 1 + 1, 7, none⟩ = some (.int .i64 y7) := (by rw [Lib.cell_of_heap g3]; rfl)
  have k3_8 : a5.cell? ⟨w.heap.size + 1 + 1, 8, none⟩ = some (.slice ta tl tc) := (by rw [Lib.cell_of_heap g3]; rfl)
  have z3 : w.heap.size + 1 + 1 < a5.heap.size := World.block_lt_of_cell? a5 _ k3_0
  clear g1 g2 g3
  clear b1 q1 b2 q2 b3 q3 b5 q5
  refine (HTC.out _ HB.out).mono ?_
  rintro e w6 ⟨⟨ca, cn, cz⟩, rsC, rfl, hsC, hb6⟩
  simp only [SV.v] at *
  clear k1_0 k2_0 k2_1 k2_2 k2_3 k3_0 k3_1 k3_2 k3_3 k3_4 k3_5 k3_6 k3_7 k3_8 z1 z2 z3
  have hsC := Lib.hid hsC.r
  have HB := Lib.hid (HB.out.trans (hb6.mono HB.out.size))
  have g1 := blkN_below hb6 G1.out
  have G1 := Lib.hid g1
  have k1_0 : w6.cell? ⟨w.heap.size, 0, none⟩ = some (.slice sa sl sc) := (by rw [Lib.cell_of_heap g1]; rfl)
  have z1 : w.heap.size < w6.heap.size := World.block_lt_of_cell? w6 _ k1_0
  have g2 := blkN_below hb6 G2.out
  have G2 := Lib.hid g2
  have k2_0 : w6.cell? ⟨w.heap.size + 1, 0, none⟩ = some (.int .i64 v0) := (by rw [Lib.cell_of_heap g2]; rfl)
  have k2_1 : w6.cell? ⟨w.heap.size + 1, 1, none⟩ = some (.int .i64 v1) := (by rw [Lib.cell_of_heap g2]; rfl)
  have k2_2 : w6.cell? ⟨w.heap.size + 1, 2, none⟩ = some (.int .i64 v2) := (by rw [Lib.cell_of_heap g2]; rfl)
  have k2_3 : w6.cell? ⟨w.heap.size + 1, 3, none⟩ = some (.int .i64 v3) := (by rw [Lib.cell_of_heap g2]; rfl)
  have z2 : w.heap.size + 1 < w6.heap.size := World.block_lt_of_cell? w6 _ k2_0
  have g3 := blkN_below hb6 G3.out
  have G3 := Lib.hid g3
  have k3_0 : w6.cell? ⟨w.heap.size + 1 + 1, 0, none⟩ = some (.string y0) := (by rw [Lib.cell_of_heap g3]; rfl)
  have k3_1 : w6.cell? ⟨w.heap.size + 1 + 1, 1, none⟩ = some (.int .i64 y1) := (by rw [Lib.cell_of_heap g3]; rfl)
  have k3_2 : w6.cell? ⟨w.heap.size + 1 + 1, 2, none⟩ = some (.int .i64 y2) := (by rw [Lib.cell_of_heap g3]; rfl)
  have k3_3 : w6.cell? ⟨w.heap.size + 1 + 1, 3, none⟩ = some (.int .i64 y3) := (by rw [Lib.cell_of_heap g3]; rfl)
  have k3_4 : w6.cell? ⟨w.heap.size + 1 + 1, 4, none⟩ = some (.int .i64 y4) := (by rw [Lib.cell_of_heap g3]; rfl)
  have k3_5 : w6.cell? ⟨w.heap.size + 1 + 1, 5, none⟩ = some (.int .i64 y5) := (by rw [Lib.cell_of_heap g3]; rfl)
  have k3_6 : w6.cell? ⟨w.heap.size + 1 + 1, 6, none⟩ = some (.int .i64 y6) := (by rw [Lib.cell_of_heap g3]; rfl)
  have k3_7 : w6.cell? ⟨w.heap.size + 1 + 1, 7, none⟩ = some (.int .i64 y7) := (by rw [Lib.cell_of_heap g3]; rfl)
  have k3_8 : w6.cell? ⟨w.heap.size + 1 + 1, 8, none⟩ = some (.slice ta tl tc) := (by rw [Lib.cell_of_heap g3]; rfl)
  have z3 : w.heap.size + 1 + 1 < w6.heap.size := World.block_lt_of_cell? w6 _ k3_0
  clear g1 g2 g3
  have hba := fun ob => Below.alloc (Below.refl w6.heap.size w6) (Nat.le_refl _) ob
  have HBA := Lib.hid hba
  clear hba hb6
  go_wp2_with fail
  obtain ⟨W7, hW7⟩ : ∃ W, w6.alloc (.cells #[.slice ca cn cz] 60 (0, 0)) = W := ⟨_, rfl⟩
  rw [hW7]
  have hb7 := HBA.out (.cells #[.slice ca cn cz] 60 (0, 0))
  rw [hW7] at hb7
  have g5 := blkN_new w6 (.cells #[.slice ca cn cz] 60 (0, 0))
  rw [hW7] at g5
  have G5 := Lib.hid g5
  have hsC := Lib.hid (hsC.out.ext hb7)
  clear HBA hW7 g5
  clear k1_0 k2_0 k2_1 k2_2 k2_3 k3_0 k3_1 k3_2 k3_3 k3_4 k3_5 k3_6 k3_7 k3_8 z1 z2 z3
  have HB := Lib.hid (HB.out.trans (hb7.mono HB.out.size))
  have g1 := blkN_below hb7 G1.out
  have G1 := Lib.hid g1
  have k1_0 : W7.cell? ⟨w.heap.size, 0, none⟩ = some (.slice sa sl sc) := (by rw [Lib.cell_of_heap g1]; rfl)
  have z1 : w.heap.size < W7.heap.size := World.block_lt_of_cell? W7 _ k1_0
  have g2 := blkN_below hb7 G2.out
  have G2 := Lib.hid g2
  have k2_0 : W7.cell? ⟨w.heap.size + 1, 0, none⟩ = some (.int .i64 v0) := (by rw [Lib.cell_of_heap g2]; rfl)
  have k2_1 : W7.cell? ⟨w.heap.size + 1, 1, none⟩ = some (.int .i64 v1) := (by rw [Lib.cell_of_heap g2]; rfl)
  have k2_2 : W7.cell? ⟨w.heap.size + 1, 2, none⟩ = some (.int .i64 v2) := (by rw [Lib.cell_of_heap g2]; rfl)
  have k2_3 : W7.cell? ⟨w.heap.size + 1, 3, none⟩ = some (.int .i64 v3) := (by rw [Lib.cell_of_heap g2]; rfl)
  have z2 : w.heap.size + 1 < W7.heap.size := World.block_lt_of_cell? W7 _ k2_0
  have g3 := blkN_below hb7 G3.out
  have G3 := Lib.hid g3
  have k3_0 : W7.cell? ⟨w.heap.size + 1 + 1, 0, none⟩ = some (.string y0) := (by rw [Lib.cell_of_heap g3]; rfl)
  have k3_1 : W7.cell? ⟨w.heap.size + 1 + 1, 1, none⟩ = some (.int .i64 y1) := (by rw [Lib.cell_of_heap g3]; rfl)
  have k3_2 : W7.cell? ⟨w.heap.size + 1 + 1, 2, none⟩ = some (.int .i64 y2) := (by rw [Lib.cell_of_heap g3]; rfl)
  have k3_3 : W7.cell? ⟨w.heap.size + 1 + 1, 3, none⟩ = some (.int .i64 y3) := (by rw [Lib.cell_of_heap g3]; rfl)
  have k3_4 : W7.cell? ⟨w.heap.size + 1 + 1, 4, none⟩ = some (.int .i64 y4) := (by rw [Lib.cell_of_heap g3]; rfl)
  have k3_5 : W7.cell? ⟨w.heap.size + 1 + 1, 5, none⟩ = some (.int .i64 y5) := (by rw [Lib.cell_of_heap g3]; rfl)
  have k3_6 : W7.cell? ⟨w.heap.size + 1 + 1, 6, none⟩ = some (.int .i64 y6) := (by rw [Lib.cell_of_heap g3]; rfl)
  have k3_7 : W7.cell? ⟨w.heap.size + 1 + 1, 7, none⟩ = some (.int .i64 y7) := (by rw [Lib.cell_of_heap g3]; rfl)
  have k3_8 : W7.cell? ⟨w.heap.size + 1 + 1, 8, none⟩ = some (.slice ta tl tc) := (by rw [Lib.cell_of_heap g3]; rfl)
  have z3 : w.heap.size + 1 + 1 < W7.heap.size := World.block_lt_of_cell? W7 _ k3_0
  clear g1 g2 g3
  clear hb7
  refine (HTL.out _ HB.out).mono ?_
  rintro e w8 ⟨⟨la, ln, lz⟩, rfl, hsL, hb8⟩
  simp only [SV.v] at *
  clear k1_0 k2_0 k2_1 k2_2 k2_3 k3_0 k3_1 k3_2 k3_3 k3_4 k3_5 k3_6 k3_7 k3_8 z1 z2 z3
  have hsL := Lib.hid hsL.1
  have hsC := Lib.hid (hsC.out.ext hb8)
  have HB := Lib.hid (HB.out.trans (hb8.mono HB.out.size))
  have g1 := blkN_below hb8 G1.out
  have G1 := Lib.hid g1
  have k1_0 : w8.cell? ⟨w.heap.size, 0, none⟩ = some (.slice sa sl sc) := (by rw [Lib.cell_of_heap g1]; rfl)
  have z1 : w.heap.size < w8.heap.size := World.block_lt_of_cell? w8 _ k1_0
  have g2 := blkN_below hb8 G2.out
  have G2 := Lib.hid g2
  have k2_0 : w8.cell? ⟨w.heap.size + 1, 0, none⟩ = some (.int .i64 v0) := (by rw [Lib.cell_of_heap g2]; rfl)
  have k2_1 : w8.cell? ⟨w.heap.size + 1, 1, none⟩ = some (.int .i64 v1) := (by rw [Lib.cell_of_heap g2]; rfl)
  have k2_2 : w8.cell? ⟨w.heap.size + 1, 2, none⟩ = some (.int .i64 v2) := (by rw [Lib.cell_of_heap g2]; rfl)
  have k2_3 : w8.cell? ⟨w.heap.size + 1, 3, none⟩ = some (.int .i64 v3) := (by rw [Lib.cell_of_heap g2]; rfl)
  have z2 : w.heap.size + 1 < w8.heap.size := World.block_lt_of_cell? w8 _ k2_0
  have g3 := blkN_below hb8 G3.out
  have G3 := Lib.hid g3
  have k3_0 : w8.cell? ⟨w.heap.size + 1 + 1, 0, none⟩ = some (.string y0) := (by rw [Lib.cell_of_heap g3]; rfl)
  have k3_1 : w8.cell? ⟨w.heap.size + 1 + 1, 1, none⟩ = some (.int .i64 y1) := (by rw [Lib.cell_of_heap g3]; rfl)
  have k3_2 : w8.cell? ⟨w.heap.size + 1 + 1, 2, none⟩ = some (.int .i64 y2) := (by rw [Lib.cell_of_heap g3]; rfl)
  have k3_3 : w8.cell? ⟨w.heap.size + 1 + 1, 3, none⟩ = some (.int .i64 y3) := (by rw [Lib.cell_of_heap g3]; rfl)
  have k3_4 : w8.cell? ⟨w.heap.size + 1 + 1, 4, none⟩ = some (.int .i64 y4) := (by rw [Lib.cell_of_heap g3]; rfl)
  have k3_5 : w8.cell? ⟨w.heap.size + 1 + 1, 5, none⟩ = some (.int .i64 y5) := (by rw [Lib.cell_of_heap g3]; rfl)
  have k3_6 : w8.cell? ⟨w.heap.size + 1 + 1, 6, none⟩ = some (.int .i64 y6) := (by rw [Lib.cell_of_heap g3]; rfl)
  have k3_7 : w8.cell? ⟨w.heap.size + 1 + 1, 7, none⟩ = some (.int .i64 y7) := (by rw [Lib.cell_of_heap g3]; rfl)
  have k3_8 : w8.cell? ⟨w.heap.size + 1 + 1, 8, none⟩ = some (.slice ta tl tc) := (by rw [Lib.cell_of_heap g3]; rfl)
  have z3 : w.heap.size + 1 + 1 < w8.heap.size := World.block_lt_of_cell? w8 _ k3_0
  have g5 := blkN_below hb8 G5.out
  have G5 := Lib.hid g5
  have k5_0 : w8.cell? ⟨w6.heap.size, 0, none⟩ = some (.slice ca cn cz) := (by rw [Lib.cell_of_heap g5]; rfl)
  have z5 : w6.heap.size < w8.heap.size := World.block_lt_of_cell? w8 _ k5_0
  clear g1 g2 g3 g5
  have hba := fun ob => Below.alloc (Below.refl w8.heap.size w8) (Nat.le_refl _) ob
  have HBA := Lib.hid hba
  clear hba hb8
  go_wp2_with fail
  obtain ⟨W9, hW9⟩ : ∃ W, w8.alloc (.cells #[.string y0, .int .i64 y1, .int .i64 y2, .int .i64 y3, .int .i64 y4, .int .i64 y5, .int .i64 y6, .int .i64 y7, .slice la ln lz] 44 (0, 0)) = W := ⟨_, rfl⟩
  rw [hW9]
  have hb9 := HBA.out (.cells #[.string y0, .int .i64 y1, .int .i64 y2, .int .i64 y3, .int .i64 y4, .int .i64 y5, .int .i64 y6, .int .i64 y7, .slice la ln lz] 44 (0, 0))
  rw [hW9] at hb9
  have g6 := blkN_new w8 (.cells #[.string y0, .int .i64 y1, .int .i64 y2, .int .i64 y3, .int .i64 y4, .int .i64 y5, .int .i64 y6, .int .i64 y7, .slice la ln lz] 44 (0, 0))
  rw [hW9] at g6
  have G6 := Lib.hid g6
  have hsC := Lib.hid (hsC.out.ext hb9)
  have hsL := Lib.hid (hsL.out.ext hb9)
  clear HBA hW9
  clear k1_0 k2_0 k2_1 k2_2 k2_3 k3_0 k3_1 k3_2 k3_3 k3_4 k3_5 k3_6 k3_7 k3_8 k5_0 z1 z2 z3 z5
  have HB := Lib.hid (HB.out.trans (hb9.mono HB.out.size))
  have g1 := blkN_below hb9 G1.out
  have G1 := Lib.hid g1
  have k1_0 : W9.cell? ⟨w.heap.size, 0, none⟩ = some (.slice sa sl sc) := (by rw [Lib.cell_of_heap g1]; rfl)
  have z1 : w.heap.size < W9.heap.size := World.block_lt_of_cell? W9 _ k1_0
  have g2 := blkN_below hb9 G2.out
  have G2 := Lib.hid g2
  have k2_0 : W9.cell? ⟨w.heap.size + 1, 0, none⟩ = some (.int .i64 v0) := (by rw [Lib.cell_of_heap g2]; rfl)
  have k2_1 : W9.cell? ⟨w.heap.size + 1, 1, none⟩ = some (.int .i64 v1) := (by rw [Lib.cell_of_heap g2]; rfl)
  have k2_2 : W9.cell? ⟨w.heap.size + 1, 2, none⟩ = some (.int .i64 v2) := (by rw [Lib.cell_of_heap g2]; rfl)
  have k2_3 : W9.cell? ⟨w.heap.size + 1, 3, none⟩ = some (.int .i64 v3) := (by rw [Lib.cell_of_heap g2]; rfl)
  have z2 : w.heap.size + 1 < W9.heap.size := World.block_lt_of_cell? W9 _ k2_0
  have g3 := blkN_below hb9 G3.out
  have G3 := Lib.hid g3
  have k3_0 : W9.cell? ⟨w.heap.size + 1 + 1, 0, none⟩ = some (.string y0) := (by rw [Lib.cell_of_heap g3]; rfl)
  have k3_1 : W9.cell? ⟨w.heap.size + 1 + 1, 1, none⟩ = some (.int .i64 y1) := (by rw [Lib.cell_of_heap g3]; rfl)
  have k3_2 : W9.cell? ⟨w.heap.size + 1 + 1, 2, none⟩ = some (.int .i64 y2) := (by rw [Lib.cell_of_heap g3]; rfl)
  have k3_3 : W9.cell? ⟨w.heap.size + 1 + 1, 3, none⟩ = some (.int .i64 y3) := (by rw [Lib.cell_of_heap g3]; rfl)
  have k3_4 : W9.cell? ⟨w.heap.size + 1 + 1, 4, none⟩ = some (.int .i64 y4) := (by rw [Lib.cell_of_heap g3]; rfl)
  have k3_5 : W9.cell? ⟨w.heap.size + 1 + 1, 5, none⟩ = some (.int .i64 y5) := (by rw [Lib.cell_of_heap g3]; rfl)
  have k3_6 : W9.cell? ⟨w.heap.size + 1 + 1, 6, none⟩ = some (.int .i64 y6) := (by rw [Lib.cell_of_heap g3]; rfl)
  have k3_7 : W9.cell? ⟨w.heap.size + 1 + 1, 7, none⟩ = some (.int .i64 y7) := (by rw [Lib.cell_of_heap g3]; rfl)
  have k3_8 : W9.cell? ⟨w.heap.size + 1 + 1, 8, none⟩ = some (.slice ta tl tc) := (by rw [Lib.cell_of_heap g3]; rfl)
  have z3 : w.heap.size + 1 + 1 < W9.heap.size := World.block_lt_of_cell? W9 _ k3_0
  have g5 := blkN_below hb9 G5.out
  have G5 := Lib.hid g5
  have k5_0 : W9.cell? ⟨w6.heap.size, 0, none⟩ = some (.slice ca cn cz) := (by rw [Lib.cell_of_heap g5]; rfl)
  have z5 : w6.heap.size < W9.heap.size := World.block_lt_of_cell? W9 _ k5_0
  clear g1 g2 g3 g5
  have k6_0 : W9.cell? ⟨w8.heap.size, 0, none⟩ = some (.string y0) := (by rw [Lib.cell_of_heap g6]; rfl)
  have k6_1 : W9.cell? ⟨w8.heap.size, 1, none⟩ = some (.int .i64 y1) := (by rw [Lib.cell_of_heap g6]; rfl)
  have k6_2 : W9.cell? ⟨w8.heap.size, 2, none⟩ = some (.int .i64 y2) := (by rw [Lib.cell_of_heap g6]; rfl)
  have k6_3 : W9.cell? ⟨w8.heap.size, 3, none⟩ = some (.int .i64 y3) := (by rw [Lib.cell_of_heap g6]; rfl)
  have k6_4 : W9.cell? ⟨w8.heap.size, 4, none⟩ = some (.int .i64 y4) := (by rw [Lib.cell_of_heap g6]; rfl)
  have k6_5 : W9.cell? ⟨w8.heap.size, 5, none⟩ = some (.int .i64 y5) := (by rw [Lib.cell_of_heap g6]; rfl)
  have k6_6 : W9.cell? ⟨w8.heap.size, 6, none⟩ = some (.int .i64 y6) := (by rw [Lib.cell_of_heap g6]; rfl)
  have k6_7 : W9.cell? ⟨w8.heap.size, 7, none⟩ = some (.int .i64 y7) := (by rw [Lib.cell_of_heap g6]; rfl)
  have k6_8 : W9.cell? ⟨w8.heap.size, 8, none⟩ = some (.slice la ln lz) := (by rw [Lib.cell_of_heap g6]; rfl)
  have z6 : w8.heap.size < W9.heap.size := World.block_lt_of_cell? W9 _ k6_0
  clear g6 hb9
  go_region_held3 (fun w' => (∀ b' o', b' < W9.heap.size → w'.cell? ⟨b', o', none⟩ = W9.cell? ⟨b', o', none⟩) ∧ Below W9.heap.size W9 w') (first | (refine heldB ?_; go_grown; done))
    (first
      | (go_at_call 11; (with_reducible refine (HTV.out _).mono ?_); rintro e a1 ⟨rfl, hb1'⟩; have b1 : Below W9.heap.size W9 a1 := Below.trans (by go_grown) (hb1'.mono (by go_size)); have q1 := (bcell b1).1)
      | (go_at_call 22; have hh := hsC.out.ext b1; have hq := HQ.out _ (HB.out.trans (b1.mono HB.out.size)); (with_reducible refine (HIm.out ca cn cz la ln lz _ _ _ _ hh hq).mono ?_); clear hh hq; rintro e a5 ⟨rfl, hb5'⟩; have b5 : Below W9.heap.size W9 a5 := Below.trans b1 (hb5'.mono b1.size); have q5 := (bcell b5).1))
  have hsC := Lib.hid (hsC.out.ext b5)
  have hsL := Lib.hid (hsL.out.ext b5)
  clear k1_0 k2_0 k2_1 k2_2 k2_3 k3_0 k3_1 k3_2 k3_3 k3_4 k3_5 k3_6 k3_7 k3_8 k5_0 k6_0 k6_1 k6_2 k6_3 k6_4 k6_5 k6_6 k6_7 k6_8 z1 z2 z3 z5 z6
  have HB := Lib.hid (HB.out.trans (b5.mono HB.out.size))
  have g1 := blkN_below b5 G1.out
  have G1 := Lib.hid g1
  have k1_0 : a5.cell? ⟨w.heap.size, 0, none⟩ = some (.slice sa sl sc) := (by rw [Lib.cell_of_heap g1]; rfl)
  have z1 : w.heap.size < a5.heap.size := World.block_lt_of_cell? a5 _ k1_0
  have g2 := blkN_below b5 G2.out
  have G2 := Lib.hid g2
  have k2_0 : a5.cell? ⟨w.heap.size + 1, 0, none⟩ = some (.int .i64 v0) := (by rw [Lib.cell_of_heap g2]; rfl)
  have k2_1 : a5.cell? ⟨w.heap.size + 1, 1, none⟩ = some (.int .i64 v1) := (by rw [Lib.cell_of_heap g2]; rfl)
  have k2_2 : a5.cell? ⟨w.heap.size + 1, 2, none⟩ = some (.int .i64 v2) := (by rw [Lib.cell_of_heap g2]; rfl)
  have k2_3 : a5.cell? ⟨w.heap.size + 1, 3, none⟩ = some (.int .i64 v3) := (by rw [Lib.cell_of_heap g2]; rfl)
  have z2 : w.heap.size + 1 < a5.heap.size := World.block_lt_of_cell? a5 _ k2_0
  have g3 := blkN_below b5 G3.out
  have G3 := Lib.hid g3
  have k3_0 : a5.cell? ⟨w.heap.size + 1 + 1, 0, none⟩ = some (.string y0) := (by rw [Lib.cell_of_heap g3]; rfl)
  have k3_1 : a5.cell? ⟨w.heap.size + 1 + 1, 1, none⟩ = some (.int .i64 y1) := (by rw [Lib.cell_of_heap g3]; rfl)
  have k3_2 : a5.cell? ⟨w.heap.size + 1 + 1, 2, none⟩ = some (.int .i64 y2) := (by rw [Lib.cell_of_heap g3]; rfl)
  have k3_3 : a5.cell? ⟨w.heap.size + 1 + 1, 3, none⟩ = some (.int .i64 y3) := (by rw [Lib.cell_of_heap g3]; rfl)
  have k3_4 : a5.cell? ⟨w.heap.size + 1 + 1, 4, none⟩ = some (.int .i64 y4) := (by rw [Lib.cell_of_heap g3]; rfl)
  have k3_5 : a5.cell? ⟨w.heap.size + 1 + 1, 5, none⟩ = some (.int .i64 y5) := (by rw [Lib.cell_of_heap g3]; rfl)
  have k3_6 : a5.cell? ⟨w.heap.size + 1 + 1, 6, none⟩ = some (.int .i64 y6) := (by rw [Lib.cell_of_heap g3]; rfl)
  have k3_7 : a5.cell? ⟨w.heap.size + 1 + 1, 7, none⟩ = some (.int .i64 y7) := (by rw [Lib.cell_of_heap g3]; rfl)
  have k3_8 : a5.cell? ⟨w.heap.size + 1 + 1, 8, none⟩ = some (.slice ta tl tc) := (by rw [Lib.cell_of_heap g3]; rfl)
  have z3 : w.heap.size + 1 + 1 < a5.heap.size := World.block_lt_of_cell? a5 _ k3_0
  have g5 := blkN_below b5 G5.out
  have G5 := Lib.hid g5
  have k5_0 : a5.cell? ⟨w6.heap.size, 0, none⟩ = some (.slice ca cn cz) := (by rw [Lib.cell_of_heap g5]; rfl)
  have z5 : w6.heap.size < a5.heap.size := World.block_lt_of_cell? a5 _ k5_0
  have g6 := blkN_below b5 G6.out
  have G6 := Lib.hid g6
  have k6_0 : a5.cell? ⟨w8.heap.size, 0, none⟩ = some (.string y0) := (by rw [Lib.cell_of_heap g6]; rfl)
  have k6_1 : a5.cell? ⟨w8.heap.size, 1, none⟩ = some (.int .i64 y1) := (by rw [Lib.cell_of_heap g6]; rfl)
  have k6_2 : a5.cell? ⟨w8.heap.size, 2, none⟩ = some (.int .i64 y2) := (by rw [Lib.cell_of_heap g6]; rfl)
  have k6_3 : a5.cell? ⟨w8.heap.size, 3, none⟩ = some (.int .i64 y3) := (by rw [Lib.cell_of_heap g6]; rfl)
  have k6_4 : a5.cell? ⟨w8.heap.size, 4, none⟩ = some (.int .i64 y4) := (by rw [Lib.cell_of_heap g6]; rfl)
  have k6_5 : a5.cell? ⟨w8.heap.size, 5, none⟩ = some (.int .i64 y5) := (by rw [Lib.cell_of_heap g6]; rfl)
  have k6_6 : a5.cell? ⟨w8.heap.size, 6, none⟩ = some (.int .i64 y6) := (by rw [Lib.cell_of_heap g6]; rfl)
  have k6_7 : a5.cell? ⟨w8.heap.size, 7, none⟩ = some (.int .i64 y7) := (by rw [Lib.cell_of_heap g6]; rfl)
  have k6_8 : a5.cell? ⟨w8.heap.size, 8, none⟩ = some (.slice la ln lz) := (by rw [Lib.cell_of_heap g6]; rfl)
  have z6 : w8.heap.size < a5.heap.size := World.block_lt_of_cell? a5 _ k6_0
  clear g1 g2 g3 g5 g6
  clear hb1' hb5' b1 q1 b5 q5
  have hT1 : (T1 != T1) = false := by simp
  have hT2 : (T2 != T2) = false := by simp
  have hT3 : (T3 != T3) = false := by simp
  go_wp2_with fail
  go_region_held3 (fun w' => (∀ b' o', b' < a5.heap.size → w'.cell? ⟨b', o', none⟩ = a5.cell? ⟨b', o', none⟩) ∧ Below a5.heap.size a5 w') (first | (refine heldB ?_; go_grown; done))
    (first
      | (go_at_call 21; (with_reducible refine (HTC.out _ ?hb).mono ?_); (case hb => exact HB.out.trans (Below.mono (B := a5.heap.size) (by go_grown) HB.out.size)); rintro e a1 ⟨⟨da, dn, dz⟩, rsD, rfl, hsD, hb1'⟩; have b1 : Below a5.heap.size a5 a1 := Below.trans (by go_grown) (hb1'.mono (by go_size)); have q1 := (bcell b1).1)
      | (go_at_call 23; have h1 := hsC.out.ext b1; have h2 := hsD.r; (with_reducible refine (HEC.out ca cn cz da dn dz _ _ _ _ _ _ _ h1 h2).mono ?_); clear h1 h2; rintro e a2 ⟨rfl, hb2'⟩; have b2 : Below a5.heap.size a5 a2 := Below.trans b1 (hb2'.mono b1.size); have q2 := (bcell b2).1))
  have hsL := Lib.hid (hsL.out.ext b2)
  clear k1_0 k2_0 k2_1 k2_2 k2_3 k3_0 k3_1 k3_2 k3_3 k3_4 k3_5 k3_6 k3_7 k3_8 k5_0 k6_0 k6_1 k6_2 k6_3 k6_4 k6_5 k6_6 k6_7 k6_8 z1 z2 z3 z5 z6
  have HB := Lib.hid (HB.out.trans (b2.mono HB.out.size))
  have g1 := blkN_below b2 G1.out
  have G1 := Lib.hid g1
  have k1_0 : a2.cell? ⟨w.heap.size, 0, none⟩ = some (.slice sa sl sc) := (by rw [Lib.cell_of_heap g1]; rfl)
  have z1 : w.heap.size < a2.heap.size := World.block_lt_of_cell? a2 _ k1_0
  have g2 := blkN_below b2 G2.out
  have G2 := Lib.hid g2
  have k2_0 : a2.cell? ⟨w.heap.size + 1, 0, none⟩ = some (.int .i64 v0) := (by rw [Lib.cell_of_heap g2]; rfl)
  have k2_1 : a2.cell? ⟨w.heap.size + 1, 1, none⟩ = some (.int .i64 v1) := (by rw [Lib.cell_of_heap g2]; rfl)
  have k2_2 : a2.cell? ⟨w.heap.size + 1, 2, none⟩ = some (.int .i64 v2) := (by rw [Lib.cell_of_heap g2]; rfl)
  have k2_3 : a2.cell? ⟨w.heap.size + 1, 3, none⟩ = some (.int .i64 v3) := (by rw [Lib.cell_of_heap g2]; rfl)
  have z2 : w.heap.size + 1 < a2.heap.size := World.block_lt_of_cell? a2 _ k2_0
  have g3 := blkN_below b2 G3.out
  have G3 := Lib.hid g3
  have k3_0 : a2.cell? ⟨w.heap.size + 1 + 1, 0, none⟩ = some (.string y0) := (by rw [Lib.cell_of_heap g3]; rfl)
  have k3_1 : a2.cell? ⟨w.heap.size + 1 + 1, 1, none⟩ = some (.int .i64 y1) := (by rw [Lib.cell_of_heap g3]; rfl)
  have k3_2 : a2.cell? ⟨w.heap.size + 1 + 1, 2, none⟩ = some (.int .i64 y2) := (by rw [Lib.cell_of_heap g3]; rfl)
  have k3_3 : a2.cell? ⟨w.heap.size + 1 + 1, 3, none⟩ = some (.int .i64 y3) := (by rw [Lib.cell_of_heap g3]; rfl)
  have k3_4 : a2.cell? ⟨w.heap.size + 1 + 1, 4, none⟩ = some (.int .i64 y4) := (by rw [Lib.cell_of_heap g3]; rfl)
  have k3_5 : a2.cell? ⟨w.heap.size + 1 + 1, 5, none⟩ = some (.int .i64 y5) := (by rw [Lib.cell_of_heap g3]; rfl)
  have k3_6 : a2.cell? ⟨w.heap.size + 1 + 1, 6, none⟩ = some (.int .i64 y6) := (by rw [Lib.cell_of_heap g3]; rfl)
  have k3_7 : a2.cell? ⟨w.heap.size + 1 + 1, 7, none⟩ = some (.int .i64 y7) := (by rw [Lib.cell_of_heap g3]; rfl)
  have k3_8 : a2.cell? ⟨w.heap.size + 1 + 1, 8, none⟩ = some (.slice ta tl tc) := (by rw [Lib.cell_of_heap g3]; rfl)
  have z3 : w.heap.size + 1 + 1 < a2.heap.size := World.block_lt_of_cell? a2 _ k3_0
  have g5 := blkN_below b2 G5.out
  have G5 := Lib.hid g5
  have k5_0 : a2.cell? ⟨w6.heap.size, 0, none⟩ = some (.slice ca cn cz) := (by rw [Lib.cell_of_heap g5]; rfl)
  have z5 : w6.heap.size < a2.heap.size := World.block_lt_of_cell? a2 _ k5_0
  have g6 := blkN_below b2 G6.out
  have G6 := Lib.hid g6
  have k6_0 : a2.cell? ⟨w8.heap.size, 0, none⟩ = some (.string y0) := (by rw [Lib.cell_of_heap g6]; rfl)
  have k6_1 : a2.cell? ⟨w8.heap.size, 1, none⟩ = some (.int .i64 y1) := (by rw [Lib.cell_of_heap g6]; rfl)
  have k6_2 : a2.cell? ⟨w8.heap.size, 2, none⟩ = some (.int .i64 y2) := (by rw [Lib.cell_of_heap g6]; rfl)
  have k6_3 : a2.cell? ⟨w8.heap.size, 3, none⟩ = some (.int .i64 y3) := (by rw [Lib.cell_of_heap g6]; rfl)
  have k6_4 : a2.cell? ⟨w8.heap.size, 4, none⟩ = some (.int .i64 y4) := (by rw [Lib.cell_of_heap g6]; rfl)
  have k6_5 : a2.cell? ⟨w8.heap.size, 5, none⟩ = some (.int .i64 y5) := (by rw [Lib.cell_of_heap g6]; rfl)
  have k6_6 : a2.cell? ⟨w8.heap.size, 6, none⟩ = some (.int .i64 y6) := (by rw [Lib.cell_of_heap g6]; rfl)
  have k6_7 : a2.cell? ⟨w8.heap.size, 7, none⟩ = some (.int .i64 y7) := (by rw [Lib.cell_of_heap g6]; rfl)
  have k6_8 : a2.cell? ⟨w8.heap.size, 8, none⟩ = some (.slice la ln lz) := (by rw [Lib.cell_of_heap g6]; rfl)
  have z6 : w8.heap.size < a2.heap.size := World.block_lt_of_cell? a2 _ k6_0
  clear g1 g2 g3 g5 g6
  clear hb1' hb2' b1 b2 q1 q2 hsD hsC
  go_wp2_with fail
  go_region_held3 (fun w' => (∀ b' o', b' < a2.heap.size → w'.cell? ⟨b', o', none⟩ = a2.cell? ⟨b', o', none⟩) ∧ Below a2.heap.size a2 w') (first | (refine heldB ?_; go_grown; done))
    (first
      | (go_at_call 12; (with_reducible refine (HTL.out _ ?hb).mono ?_); (case hb => exact HB.out.trans (Below.mono (B := a2.heap.size) (by go_grown) HB.out.size)); rintro e a3 ⟨⟨da, dn, dz⟩, rfl, hsD, hb3'⟩; have b3 : Below a2.heap.size a2 a3 := Below.trans (by go_grown) (hb3'.mono (by go_size)); have q3 := (bcell b3).1)
      | (go_at_call 15; have h1 := hsL.out.ext b3; have h2 := hsD.1; (with_reducible refine (HEL.out la ln lz da dn dz _ _ _ _ _ h1 h2).mono ?_); clear h1 h2; rintro e a4 ⟨rfl, hb4'⟩; have b4 : Below a2.heap.size a2 a4 := Below.trans b3 (hb4'.mono b3.size); have q4 := (bcell b4).1))
  go_wp2
  go_ret
  exact ⟨rfl, HB.out.trans (b4.mono HB.out.size)⟩
end Go.Proofs.YtdadadiipmenbaaDoor
