/- The law FnExactBoomsConflict. (Printed by gen_lawBooms.py.) -/
import Derived.Test.YteeigmgepahdhaaDoorSegR
import Derived.Test.YteeigmgepahdhaaDoorTCraneto
import Derived.Test.YteeigmgepahdhaaDoorTCraneeq
import Derived.Test.YteeigmgepahdhaaDoorTCranesz
import Derived.Test.YteeigmgepahdhaaDoorLawS
import Derived.Handy
namespace Go.Proofs.YteeigmgepahdhaaDoor
open Go.RowKit
theorem two_boxesC (w : World) (o p : Obj) : ∃ W, ((w.alloc o).alloc p) = W ∧ W.heap[w.heap.size]? = some o ∧ W.heap[w.heap.size + 1]? = some p ∧ Below w.heap.size w W ∧ W.heap.size = w.heap.size + 2 :=
  ⟨_, rfl, box2_0 w o p, box2_1 w o p, ((Below.refl _ _).alloc (Nat.le_refl _) _).alloc (by simp) _, by simp⟩
set_option maxRecDepth 100000 in
set_option maxHeartbeats 8000000 in
theorem law_BoomsConflict {vA vB : Value} (rC rD : CraneR) (da db n : Int) (w : World) (hC : vA = .agg rC.cells.toArray ∧ rC.f.wf ∧ ∃ l, Sl 2 Chs.cells 0 w.heap.size w rC.s.v l ∧ ∀ x ∈ l, x.wf) (hD : vB = .agg rD.cells.toArray ∧ rD.f.wf ∧ ∃ l, Sl 2 Chs.cells 0 w.heap.size w rD.s.v l ∧ ∀ x ∈ l, x.wf) (_h3 : (Lit.int .i64 da).wf = true) (_h4 : (Lit.int .i64 db).wf = true) (_h5 : (Lit.int .i64 n).wf = true) (hQ : Qtr w) :
    Calls Tryd.prog 4 #[vA, vB, .int .i64 da, .int .i64 db, .int .i64 n] w fun e w' => e = .returned (.bool true) ∧ Below w.heap.size w w' := by
  obtain ⟨rfl, hwC, l, hrC, hwl⟩ := hC
  obtain ⟨rfl, hwD, m, hrD, hwm⟩ := hD
  have hql := hQ.lt
  have HQ := Lib.hid (fun w' (hb : Below w.heap.size w w') => hQ.below hb hql)
  have hZC := fun n w' (hb : Below w.heap.size w w') h0 hn => law_szCrane rC l 0 w.heap.size n w' (hrC.ext hb) hwC hwl h0 hn
  have hZD := fun n w' (hb : Below w.heap.size w w') h0 hn => law_szCrane rD m 0 w.heap.size n w' (hrD.ext hb) hwD hwm h0 hn
  have hTC := fun (hn : l.length ≤ 1048576) w' (hb : Below w.heap.size w w') => law_toCrane rC l 0 w.heap.size w' (hrC.ext hb) hn
  have hTD := fun (hn : m.length ≤ 1048576) w' (hb : Below w.heap.size w w') => law_toCrane rD m 0 w.heap.size w' (hrD.ext hb) hn
  have hEC := fun (a1 : Option Addr) (a2 a3 : Nat) (b1 : Option Addr) (b2 b3 : Nat) lo hi lo2 hi2 w' h h2 => law_eqCrane rC.f ⟨a1, a2, a3⟩ ⟨b1, b2, b3⟩ l lo hi lo2 hi2 w' h h2
  have hED := fun (a1 : Option Addr) (a2 a3 : Nat) (b1 : Option Addr) (b2 b3 : Nat) lo hi lo2 hi2 w' h h2 => law_eqCrane rD.f ⟨a1, a2, a3⟩ ⟨b1, b2, b3⟩ m lo hi lo2 hi2 w' h h2
  have hnC : rC.f.name.size ≤ maxLen := hwC.1
  have hnD : rD.f.name.size ≤ maxLen := hwD.1
  have hSp := fun (a1 : Option Addr) (a2 a3 : Nat) (b1 : Option Addr) (b2 b3 : Nat) lo hi lo2 hi2 w' h h2 => spec_BoomsConflict rC.f rD.f a1 b1 a2 a3 b2 b3 l m lo hi lo2 hi2 da db n w' h h2 hnC hnD
  have hIm := fun (a1 : Option Addr) (a2 a3 : Nat) (b1 : Option Addr) (b2 b3 : Nat) lo hi lo2 hi2 w' hq h h2 => impl_BoomsConflict rC.f rD.f a1 b1 a2 a3 b2 b3 l m lo hi lo2 hi2 da db n w' hq h h2 hnC hnD
  clear hrC hrD hwC hwD hwl hwm hnC hnD hQ hql
  obtain ⟨⟨x0, x1, x2, x3, x4, x5⟩, ⟨sa, sl, sc⟩⟩ := rC
  obtain ⟨⟨y0, y1, y2, y3, y4, y5⟩, ⟨ta, tl, tc⟩⟩ := rD
  unfold ToN at hTC hTD
  simp only [SV.v, CraneR.cells] at *
  generalize (conR (craneB ⟨x0, x1, x2, x3, x4, x5⟩ l) (craneB ⟨y0, y1, y2, y3, y4, y5⟩ m) ⟨x0, x1, x2, x3, x4, x5⟩ ⟨y0, y1, y2, y3, y4, y5⟩ da db n).1 = T at *
  generalize (conR (craneB ⟨x0, x1, x2, x3, x4, x5⟩ l) (craneB ⟨y0, y1, y2, y3, y4, y5⟩ m) ⟨x0, x1, x2, x3, x4, x5⟩ ⟨y0, y1, y2, y3, y4, y5⟩ da db n).2 = C at *
  generalize hn1 : (((x0.size + l.length : Nat) : Int)) = n1 at *
  generalize hn2 : (((y0.size + m.length : Nat) : Int)) = n2 at *
  have hn10 : 0 ≤ n1 := by omega
  have hn20 : 0 ≤ n2 := by omega
  have hl1 : (l.length : Int) ≤ n1 := by omega
  have hl2 : (m.length : Int) ≤ n2 := by omega
  clear hn1 hn2
  have HZC := Lib.hid hZC
  have HZD := Lib.hid hZD
  have HTC := Lib.hid hTC
  have HTD := Lib.hid hTD
  have HEC := Lib.hid hEC
  have HED := Lib.hid hED
  have HSp := Lib.hid hSp
  have HIm := Lib.hid hIm
  clear hZC hZD hTC hTD hEC hED hSp hIm
  obtain ⟨W0, hW, e1, e2, hB0, hz0⟩ := two_boxesC w (.cells #[.string x0, .int .i64 x1, .int .i64 x2, .int .i64 x3, .int .i64 x4, .int .i64 x5, .slice sa sl sc] 51 (0, 0)) (.cells #[.string y0, .int .i64 y1, .int .i64 y2, .int .i64 y3, .int .i64 y4, .int .i64 y5, .slice ta tl tc] 51 (0, 0))
  have HW := Lib.hid hW
  have HB := Lib.hid hB0
  have G1 := Lib.hid e1
  have G2 := Lib.hid e2
  clear hW hB0 hz0 e1 e2
  go_enter Tryd.func4, Tryd.ntmps4
  go_wp2_with fail
  rw [HW.out]
  refine (HZC.out _ _ HB.out (by omega) (by omega)).mono ?_
  rintro e w1 ⟨rfl, hb1⟩
  have HB := Lib.hid (HB.out.trans (hb1.mono HB.out.size))
  have g1 := blkN_below hb1 G1.out
  have G1 := Lib.hid g1
  have k1_0 : w1.cell? ⟨w.heap.size, 0, none⟩ = some (.string x0) := (by rw [Lib.cell_of_heap g1]; rfl)
  have k1_1 : w1.cell? ⟨w.heap.size, 1, none⟩ = some (.int .i64 x1) := (by rw [Lib.cell_of_heap g1]; rfl)
  have k1_2 : w1.cell? ⟨w.heap.size, 2, none⟩ = some (.int .i64 x2) := (by rw [Lib.cell_of_heap g1]; rfl)
  have k1_3 : w1.cell? ⟨w.heap.size, 3, none⟩ = some (.int .i64 x3) := (by rw [Lib.cell_of_heap g1]; rfl)
  have k1_4 : w1.cell? ⟨w.heap.size, 4, none⟩ = some (.int .i64 x4) := (by rw [Lib.cell_of_heap g1]; rfl)
  have k1_5 : w1.cell? ⟨w.heap.size, 5, none⟩ = some (.int .i64 x5) := (by rw [Lib.cell_of_heap g1]; rfl)
  have k1_6 : w1.cell? ⟨w.heap.size, 6, none⟩ = some (.slice sa sl sc) := (by rw [Lib.cell_of_heap g1]; rfl)
  have z1 : w.heap.size < w1.heap.size := World.block_lt_of_cell? w1 _ k1_0
  have g2 := blkN_below hb1 G2.out
  have G2 := Lib.hid g2
  have k2_0 : w1.cell? ⟨w.heap.size + 1, 0, none⟩ = some (.string y0) := (by rw [Lib.cell_of_heap g2]; rfl)
  have k2_1 : w1.cell? ⟨w.heap.size + 1, 1, none⟩ = some (.int .i64 y1) := (by rw [Lib.cell_of_heap g2]; rfl)
  have k2_2 : w1.cell? ⟨w.heap.size + 1, 2, none⟩ = some (.int .i64 y2) := (by rw [Lib.cell_of_heap g2]; rfl)
  have k2_3 : w1.cell? ⟨w.heap.size + 1, 3, none⟩ = some (.int .i64 y3) := (by rw [Lib.cell_of_heap g2]; rfl)
  have k2_4 : w1.cell? ⟨w.heap.size + 1, 4, none⟩ = some (.int .i64 y4) := (by rw [Lib.cell_of_heap g2]; rfl)
  have k2_5 : w1.cell? ⟨w.heap.size + 1, 5, none⟩ = some (.int .i64 y5) := (by rw [Lib.cell_of_heap g2]; rfl)
  have k2_6 : w1.cell? ⟨w.heap.size + 1, 6, none⟩ = some (.slice ta tl tc) := (by rw [Lib.cell_of_heap g2]; rfl)
  have z2 : w.heap.size + 1 < w1.heap.size := World.block_lt_of_cell? w1 _ k2_0
  clear g1 g2
  by_cases hq1 : (1048576 : Int) < n1
  · rw [szRes_lt hq1]
    clear hq1 hb1
    go_wp2
    go_ret
    exact ⟨rfl, HB.out⟩
  rw [szRes_ge hq1]
  have hge : decide ((1048576 : Int) - n1 < 0) = false := decide_eq_false (by omega)
  clear hb1
  go_wp2_with fail
  refine (HZD.out _ _ HB.out (by omega) (by omega)).mono ?_
  rintro e w2 ⟨rfl, hb2⟩
  clear k1_0 k1_1 k1_2 k1_3 k1_4 k1_5 k1_6 k2_0 k2_1 k2_2 k2_3 k2_4 k2_5 k2_6 z1 z2
  have HB := Lib.hid (HB.out.trans (hb2.mono HB.out.size))
  have g1 := blkN_below hb2 G1.out
  have G1 := Lib.hid g1
  have k1_0 : w2.cell? ⟨w.heap.size, 0, none⟩ = some (.string x0) := (by rw [Lib.cell_of_heap g1]; rfl)
  have k1_1 : w2.cell? ⟨w.heap.size, 1, none⟩ = some (.int .i64 x1) := (by rw [Lib.cell_of_heap g1]; rfl)
  have k1_2 : w2.cell? ⟨w.heap.size, 2, none⟩ = some (.int .i64 x2) := (by rw [Lib.cell_of_heap g1]; rfl)
  have k1_3 : w2.cell? ⟨w.heap.size, 3, none⟩ = some (.int .i64 x3) := (by rw [Lib.cell_of_heap g1]; rfl)
  have k1_4 : w2.cell? ⟨w.heap.size, 4, none⟩ = some (.int .i64 x4) := (by rw [Lib.cell_of_heap g1]; rfl)
  have k1_5 : w2.cell? ⟨w.heap.size, 5, none⟩ = some (.int .i64 x5) := (by rw [Lib.cell_of_heap g1]; rfl)
  have k1_6 : w2.cell? ⟨w.heap.size, 6, none⟩ = some (.slice sa sl sc) := (by rw [Lib.cell_of_heap g1]; rfl)
  have z1 : w.heap.size < w2.heap.size := World.block_lt_of_cell? w2 _ k1_0
  have g2 := blkN_below hb2 G2.out
  have G2 := Lib.hid g2
  have k2_0 : w2.cell? ⟨w.heap.size + 1, 0, none⟩ = some (.string y0) := (by rw [Lib.cell_of_heap g2]; rfl)
  have k2_1 : w2.cell? ⟨w.heap.size + 1, 1, none⟩ = some (.int .i64 y1) := (by rw [Lib.cell_of_heap g2]; rfl)
  have k2_2 : w2.cell? ⟨w.heap.size + 1, 2, none⟩ = some (.int .i64 y2) := (by rw [Lib.cell_of_heap g2]; rfl)
  have k2_3 : w2.cell? ⟨w.heap.size + 1, 3, none⟩ = some (.int .i64 y3) := (by rw [Lib.cell_of_heap g2]; rfl)
  have k2_4 : w2.cell? ⟨w.heap.size + 1, 4, none⟩ = some (.int .i64 y4) := (by rw [Lib.cell_of_heap g2]; rfl)
  have k2_5 : w2.cell? ⟨w.heap.size + 1, 5, none⟩ = some (.int .i64 y5) := (by rw [Lib.cell_of_heap g2]; rfl)
  have k2_6 : w2.cell? ⟨w.heap.size + 1, 6, none⟩ = some (.slice ta tl tc) := (by rw [Lib.cell_of_heap g2]; rfl)
  have z2 : w.heap.size + 1 < w2.heap.size := World.block_lt_of_cell? w2 _ k2_0
  clear g1 g2
  by_cases hq2 : (1048576 : Int) - n1 < n2
  · rw [szRes_lt hq2]
    clear hq2 hb2
    go_wp2
    go_ret
    exact ⟨rfl, HB.out⟩
  rw [szRes_ge hq2]
  have hge2 : decide ((1048576 : Int) - n1 - n2 < 0) = false := decide_eq_false (by omega)
  have HTC := Lib.hid (HTC.out (by omega))
  have HTD := Lib.hid (HTD.out (by omega))
  clear hb2
  go_wp2_with fail
  go_region_held3 (fun w' => (∀ b' o', b' < w2.heap.size → w'.cell? ⟨b', o', none⟩ = w2.cell? ⟨b', o', none⟩) ∧ Below w2.heap.size w2 w') (first | (refine heldB ?_; go_grown; done))
    (first
      | (go_at_call 17; (with_reducible refine (HTC.out _ ?hb).mono ?_); (case hb => exact HB.out.trans (Below.mono (B := w2.heap.size) (by go_grown) HB.out.size)); rintro e a1 ⟨⟨ca, cn, cz⟩, rfl, hsC, hb1'⟩; have b1 : Below w2.heap.size w2 a1 := Below.trans (by go_grown) (hb1'.mono (by go_size)); have q1 := (bcell b1).1)
      | (go_at_call 17; (with_reducible refine (HTD.out _ ?hb).mono ?_); (case hb => exact HB.out.trans (Below.mono (B := w2.heap.size) (by exact b1) HB.out.size)); rintro e a2 ⟨⟨la, ln, lz⟩, rfl, hsD, hb2'⟩; have b2 : Below w2.heap.size w2 a2 := Below.trans b1 (hb2'.mono b1.size); have q2 := (bcell b2).1)
      | (go_at_call 16; have hh := hsC.1.ext hb2'; have hh2 := hsD.1; (with_reducible refine (HSp.out ca cn cz la ln lz _ _ _ _ _ hh hh2).mono ?_); clear hh hh2; rintro e a5 ⟨rfl, hb5'⟩; have b5 : Below w2.heap.size w2 a5 := Below.trans b2 (hb5'.mono b2.size); have q5 := (bcell b5).1))
  clear hb1' hb2' hb5' hsC hsD
  go_wp2_with fail
  clear k1_0 k1_1 k1_2 k1_3 k1_4 k1_5 k1_6 k2_0 k2_1 k2_2 k2_3 k2_4 k2_5 k2_6 z1 z2
  have HB := Lib.hid (HB.out.trans (b5.mono HB.out.size))
  have g1 := blkN_below b5 G1.out
  have G1 := Lib.hid g1
  have k1_0 : a5.cell? ⟨w.heap.size, 0, none⟩ = some (.string x0) := (by rw [Lib.cell_of_heap g1]; rfl)
  have k1_1 : a5.cell? ⟨w.heap.size, 1, none⟩ = some (.int .i64 x1) := (by rw [Lib.cell_of_heap g1]; rfl)
  have k1_2 : a5.cell? ⟨w.heap.size, 2, none⟩ = some (.int .i64 x2) := (by rw [Lib.cell_of_heap g1]; rfl)
  have k1_3 : a5.cell? ⟨w.heap.size, 3, none⟩ = some (.int .i64 x3) := (by rw [Lib.cell_of_heap g1]; rfl)
  have k1_4 : a5.cell? ⟨w.heap.size, 4, none⟩ = some (.int .i64 x4) := (by rw [Lib.cell_of_heap g1]; rfl)
  have k1_5 : a5.cell? ⟨w.heap.size, 5, none⟩ = some (.int .i64 x5) := (by rw [Lib.cell_of_heap g1]; rfl)
  have k1_6 : a5.cell? ⟨w.heap.size, 6, none⟩ = some (.slice sa sl sc) := (by rw [Lib.cell_of_heap g1]; rfl)
  have z1 : w.heap.size < a5.heap.size := World.block_lt_of_cell? a5 _ k1_0
  have g2 := blkN_below b5 G2.out
  have G2 := Lib.hid g2
  have k2_0 : a5.cell? ⟨w.heap.size + 1, 0, none⟩ = some (.string y0) := (by rw [Lib.cell_of_heap g2]; rfl)
  have k2_1 : a5.cell? ⟨w.heap.size + 1, 1, none⟩ = some (.int .i64 y1) := (by rw [Lib.cell_of_heap g2]; rfl)
  have k2_2 : a5.cell? ⟨w.heap.size + 1, 2, none⟩ = some (.int .i64 y2) := (by rw [Lib.cell_of_heap g2]; rfl)
  have k2_3 : a5.cell? ⟨w.heap.size + 1, 3, none⟩ = some (.int .i64 y3) := (by rw [Lib.cell_of_heap g2]; rfl)
  have k2_4 : a5.cell? ⟨w.heap.size + 1, 4, none⟩ = some (.int .i64 y4) := (by rw [Lib.cell_of_heap g2]; rfl)
  have k2_5 : a5.cell? ⟨w.heap.size + 1, 5, none⟩ = some (.int .i64 y5) := (by rw [Lib.cell_of_heap g2]; rfl)
  have k2_6 : a5.cell? ⟨w.heap.size + 1, 6, none⟩ = some (.slice ta tl tc) := (by rw [Lib.cell_of_heap g2]; rfl)
  have z2 : w.heap.size + 1 < a5.heap.size := World.block_lt_of_cell? a5 _ k2_0
  clear g1 g2
  clear b1 q1 b2 q2 b5 q5
  refine (HTC.out _ HB.out).mono ?_
  rintro e w6 ⟨⟨ca, cn, cz⟩, rfl, hsC, hb6⟩
  clear k1_0 k1_1 k1_2 k1_3 k1_4 k1_5 k1_6 k2_0 k2_1 k2_2 k2_3 k2_4 k2_5 k2_6 z1 z2
  have hsC := Lib.hid hsC.1
  have HB := Lib.hid (HB.out.trans (hb6.mono HB.out.size))
  have g1 := blkN_below hb6 G1.out
  have G1 := Lib.hid g1
  have k1_0 : w6.cell? ⟨w.heap.size, 0, none⟩ = some (.string x0) := (by rw [Lib.cell_of_heap g1]; rfl)
  have k1_1 : w6.cell? ⟨w.heap.size, 1, none⟩ = some (.int .i64 x1) := (by rw [Lib.cell_of_heap g1]; rfl)
  have k1_2 : w6.cell? ⟨w.heap.size, 2, none⟩ = some (.int .i64 x2) := (by rw [Lib.cell_of_heap g1]; rfl)
  have k1_3 : w6.cell? ⟨w.heap.size, 3, none⟩ = some (.int .i64 x3) := (by rw [Lib.cell_of_heap g1]; rfl)
  have k1_4 : w6.cell? ⟨w.heap.size, 4, none⟩ = some (.int .i64 x4) := (by rw [Lib.cell_of_heap g1]; rfl)
  have k1_5 : w6.cell? ⟨w.heap.size, 5, none⟩ = some (.int .i64 x5) := (by rw [Lib.cell_of_heap g1]; rfl)
  have k1_6 : w6.cell? ⟨w.heap.size, 6, none⟩ = some (.slice sa sl sc) := (by rw [Lib.cell_of_heap g1]; rfl)
  have z1 : w.heap.size < w6.heap.size := World.block_lt_of_cell? w6 _ k1_0
  have g2 := blkN_below hb6 G2.out
  have G2 := Lib.hid g2
  have k2_0 : w6.cell? ⟨w.heap.size + 1, 0, none⟩ = some (.string y0) := (by rw [Lib.cell_of_heap g2]; rfl)
  have k2_1 : w6.cell? ⟨w.heap.size + 1, 1, none⟩ = some (.int .i64 y1) := (by rw [Lib.cell_of_heap g2]; rfl)
  have k2_2 : w6.cell? ⟨w.heap.size + 1, 2, none⟩ = some (.int .i64 y2) := (by rw [Lib.cell_of_heap g2]; rfl)
  have k2_3 : w6.cell? ⟨w.heap.size + 1, 3, none⟩ = some (.int .i64 y3) := (by rw [Lib.cell_of_heap g2]; rfl)
  have k2_4 : w6.cell? ⟨w.heap.size + 1, 4, none⟩ = some (.int .i64 y4) := (by rw [Lib.cell_of_heap g2]; rfl)
  have k2_5 : w6.cell? ⟨w.heap.size + 1, 5, none⟩ = some (.int .i64 y5) := (by rw [Lib.cell_of_heap g2]; rfl)
  have k2_6 : w6.cell? ⟨w.heap.size + 1, 6, none⟩ = some (.slice ta tl tc) := (by rw [Lib.cell_of_heap g2]; rfl)
  have z2 : w.heap.size + 1 < w6.heap.size := World.block_lt_of_cell? w6 _ k2_0
  clear g1 g2
  have hba := fun ob => Below.alloc (Below.refl w6.heap.size w6) (Nat.le_refl _) ob
  have HBA := Lib.hid hba
  clear hba hb6
  go_wp2_with fail
  obtain ⟨W7, hW7⟩ : ∃ W, w6.alloc (.cells #[.string x0, .int .i64 x1, .int .i64 x2, .int .i64 x3, .int .i64 x4, .int .i64 x5, .slice ca cn cz] 28 (0, 0)) = W := ⟨_, rfl⟩
  rw [hW7]
  have hb7 := HBA.out (.cells #[.string x0, .int .i64 x1, .int .i64 x2, .int .i64 x3, .int .i64 x4, .int .i64 x5, .slice ca cn cz] 28 (0, 0))
  rw [hW7] at hb7
  have g5 := blkN_new w6 (.cells #[.string x0, .int .i64 x1, .int .i64 x2, .int .i64 x3, .int .i64 x4, .int .i64 x5, .slice ca cn cz] 28 (0, 0))
  rw [hW7] at g5
  have G5 := Lib.hid g5
  have hsC := Lib.hid (hsC.out.ext hb7)
  clear HBA hW7 g5
  clear k1_0 k1_1 k1_2 k1_3 k1_4 k1_5 k1_6 k2_0 k2_1 k2_2 k2_3 k2_4 k2_5 k2_6 z1 z2
  have HB := Lib.hid (HB.out.trans (hb7.mono HB.out.size))
  have g1 := blkN_below hb7 G1.out
  have G1 := Lib.hid g1
  have k1_0 : W7.cell? ⟨w.heap.size, 0, none⟩ = some (.string x0) := (by rw [Lib.cell_of_heap g1]; rfl)
  have k1_1 : W7.cell? ⟨w.heap.size, 1, none⟩ = some (.int .i64 x1) := (by rw [Lib.cell_of_heap g1]; rfl)
  have k1_2 : W7.cell? ⟨w.heap.size, 2, none⟩ = some (.int .i64 x2) := (by rw [Lib.cell_of_heap g1]; rfl)
  have k1_3 : W7.cell? ⟨w.heap.size, 3, none⟩ = some (.int .i64 x3) := (by rw [Lib.cell_of_heap g1]; rfl)
  have k1_4 : W7.cell? ⟨w.heap.size, 4, none⟩ = some (.int .i64 x4) := (by rw [Lib.cell_of_heap g1]; rfl)
  have k1_5 : W7.cell? ⟨w.heap.size, 5, none⟩ = some (.int .i64 x5) := (by rw [Lib.cell_of_heap g1]; rfl)
  have k1_6 : W7.cell? ⟨w.heap.size, 6, none⟩ = some (.slice sa sl sc) := (by rw [Lib.cell_of_heap g1]; rfl)
  have z1 : w.heap.size < W7.heap.size := World.block_lt_of_cell? W7 _ k1_0
  have g2 := blkN_below hb7 G2.out
  have G2 := Lib.hid g2
  have k2_0 : W7.cell? ⟨w.heap.size + 1, 0, none⟩ = some (.string y0) := (by rw [Lib.cell_of_heap g2]; rfl)
  have k2_1 : W7.cell? ⟨w.heap.size + 1, 1, none⟩ = some (.int .i64 y1) := (by rw [Lib.cell_of_heap g2]; rfl)
  have k2_2 : W7.cell? ⟨w.heap.size + 1, 2, none⟩ = some (.int .i64 y2) := (by rw [Lib.cell_of_heap g2]; rfl)
  have k2_3 : W7.cell? ⟨w.heap.size + 1, 3, none⟩ = some (.int .i64 y3) := (by rw [Lib.cell_of_heap g2]; rfl)
  have k2_4 : W7.cell? ⟨w.heap.size + 1, 4, none⟩ = some (.int .i64 y4) := (by rw [Lib.cell_of_heap g2]; rfl)
  have k2_5 : W7.cell? ⟨w.heap.size + 1, 5, none⟩ = some (.int .i64 y5) := (by rw [Lib.cell_of_heap g2]; rfl)
  have k2_6 : W7.cell? ⟨w.heap.size + 1, 6, none⟩ = some (.slice ta tl tc) := (by rw [Lib.cell_of_heap g2]; rfl)
  have z2 : w.heap.size + 1 < W7.heap.size := World.block_lt_of_cell? W7 _ k2_0
  clear g1 g2
  clear hb7
  refine (HTD.out _ HB.out).mono ?_
  rintro e w8 ⟨⟨la, ln, lz⟩, rfl, hsD, hb8⟩
  clear k1_0 k1_1 k1_2 k1_3 k1_4 k1_5 k1_6 k2_0 k2_1 k2_2 k2_3 k2_4 k2_5 k2_6 z1 z2
  have hsD := Lib.hid hsD.1
  have hsC := Lib.hid (hsC.out.ext hb8)
  have HB := Lib.hid (HB.out.trans (hb8.mono HB.out.size))
  have g1 := blkN_below hb8 G1.out
  have G1 := Lib.hid g1
  have k1_0 : w8.cell? ⟨w.heap.size, 0, none⟩ = some (.string x0) := (by rw [Lib.cell_of_heap g1]; rfl)
  have k1_1 : w8.cell? ⟨w.heap.size, 1, none⟩ = some (.int .i64 x1) := (by rw [Lib.cell_of_heap g1]; rfl)
  have k1_2 : w8.cell? ⟨w.heap.size, 2, none⟩ = some (.int .i64 x2) := (by rw [Lib.cell_of_heap g1]; rfl)
  have k1_3 : w8.cell? ⟨w.heap.size, 3, none⟩ = some (.int .i64 x3) := (by rw [Lib.cell_of_heap g1]; rfl)
  have k1_4 : w8.cell? ⟨w.heap.size, 4, none⟩ = some (.int .i64 x4) := (by rw [Lib.cell_of_heap g1]; rfl)
  have k1_5 : w8.cell? ⟨w.heap.size, 5, none⟩ = some (.int .i64 x5) := (by rw [Lib.cell_of_heap g1]; rfl)
  have k1_6 : w8.cell? ⟨w.heap.size, 6, none⟩ = some (.slice sa sl sc) := (by rw [Lib.cell_of_heap g1]; rfl)
  have z1 : w.heap.size < w8.heap.size := World.block_lt_of_cell? w8 _ k1_0
  have g2 := blkN_below hb8 G2.out
  have G2 := Lib.hid g2
  have k2_0 : w8.cell? ⟨w.heap.size + 1, 0, none⟩ = some (.string y0) := (by rw [Lib.cell_of_heap g2]; rfl)
  have k2_1 : w8.cell? ⟨w.heap.size + 1, 1, none⟩ = some (.int .i64 y1) := (by rw [Lib.cell_of_heap g2]; rfl)
  have k2_2 : w8.cell? ⟨w.heap.size + 1, 2, none⟩ = some (.int .i64 y2) := (by rw [Lib.cell_of_heap g2]; rfl)
  have k2_3 : w8.cell? ⟨w.heap.size + 1, 3, none⟩ = some (.int .i64 y3) := (by rw [Lib.cell_of_heap g2]; rfl)
  have k2_4 : w8.cell? ⟨w.heap.size + 1, 4, none⟩ = some (.int .i64 y4) := (by rw [Lib.cell_of_heap g2]; rfl)
  have k2_5 : w8.cell? ⟨w.heap.size + 1, 5, none⟩ = some (.int .i64 y5) := (by rw [Lib.cell_of_heap g2]; rfl)
  have k2_6 : w8.cell? ⟨w.heap.size + 1, 6, none⟩ = some (.slice ta tl tc) := (by rw [Lib.cell_of_heap g2]; rfl)
  have z2 : w.heap.size + 1 < w8.heap.size := World.block_lt_of_cell? w8 _ k2_0
  have g5 := blkN_below hb8 G5.out
  have G5 := Lib.hid g5
  have k5_0 : w8.cell? ⟨w6.heap.size, 0, none⟩ = some (.string x0) := (by rw [Lib.cell_of_heap g5]; rfl)
  have k5_1 : w8.cell? ⟨w6.heap.size, 1, none⟩ = some (.int .i64 x1) := (by rw [Lib.cell_of_heap g5]; rfl)
  have k5_2 : w8.cell? ⟨w6.heap.size, 2, none⟩ = some (.int .i64 x2) := (by rw [Lib.cell_of_heap g5]; rfl)
  have k5_3 : w8.cell? ⟨w6.heap.size, 3, none⟩ = some (.int .i64 x3) := (by rw [Lib.cell_of_heap g5]; rfl)
  have k5_4 : w8.cell? ⟨w6.heap.size, 4, none⟩ = some (.int .i64 x4) := (by rw [Lib.cell_of_heap g5]; rfl)
  have k5_5 : w8.cell? ⟨w6.heap.size, 5, none⟩ = some (.int .i64 x5) := (by rw [Lib.cell_of_heap g5]; rfl)
  have k5_6 : w8.cell? ⟨w6.heap.size, 6, none⟩ = some (.slice ca cn cz) := (by rw [Lib.cell_of_heap g5]; rfl)
  have z5 : w6.heap.size < w8.heap.size := World.block_lt_of_cell? w8 _ k5_0
  clear g1 g2 g5
  have hba := fun ob => Below.alloc (Below.refl w8.heap.size w8) (Nat.le_refl _) ob
  have HBA := Lib.hid hba
  clear hba hb8
  go_wp2_with fail
  obtain ⟨W9, hW9⟩ : ∃ W, w8.alloc (.cells #[.string y0, .int .i64 y1, .int .i64 y2, .int .i64 y3, .int .i64 y4, .int .i64 y5, .slice la ln lz] 28 (0, 0)) = W := ⟨_, rfl⟩
  rw [hW9]
  have hb9 := HBA.out (.cells #[.string y0, .int .i64 y1, .int .i64 y2, .int .i64 y3, .int .i64 y4, .int .i64 y5, .slice la ln lz] 28 (0, 0))
  rw [hW9] at hb9
  have g6 := blkN_new w8 (.cells #[.string y0, .int .i64 y1, .int .i64 y2, .int .i64 y3, .int .i64 y4, .int .i64 y5, .slice la ln lz] 28 (0, 0))
  rw [hW9] at g6
  have G6 := Lib.hid g6
  have hsC := Lib.hid (hsC.out.ext hb9)
  have hsD := Lib.hid (hsD.out.ext hb9)
  clear HBA hW9
  clear k1_0 k1_1 k1_2 k1_3 k1_4 k1_5 k1_6 k2_0 k2_1 k2_2 k2_3 k2_4 k2_5 k2_6 k5_0 k5_1 k5_2 k5_3 k5_4 k5_5 k5_6 z1 z2 z5
  have HB := Lib.hid (HB.out.trans (hb9.mono HB.out.size))
  have g1 := blkN_below hb9 G1.out
  have G1 := Lib.hid g1
  have k1_0 : W9.cell? ⟨w.heap.size, 0, none⟩ = some (.string x0) := (by rw [Lib.cell_of_heap g1]; rfl)
  have k1_1 : W9.cell? ⟨w.heap.size, 1, none⟩ = some (.int .i64 x1) := (by rw [Lib.cell_of_heap g1]; rfl)
  have k1_2 : W9.cell? ⟨w.heap.size, 2, none⟩ = some (.int .i64 x2) := (by rw [Lib.cell_of_heap g1]; rfl)
  have k1_3 : W9.cell? ⟨w.heap.size, 3, none⟩ = some (.int .i64 x3) := (by rw [Lib.cell_of_heap g1]; rfl)
  have k1_4 : W9.cell? ⟨w.heap.size, 4, none⟩ = some (.int .i64 x4) := (by rw [Lib.cell_of_heap g1]; rfl)
  have k1_5 : W9.cell? ⟨w.heap.size, 5, none⟩ = some (.int .i64 x5) := (by rw [Lib.cell_of_heap g1]; rfl)
  have k1_6 : W9.cell? ⟨w.heap.size, 6, none⟩ = some (.slice sa sl sc) := (by rw [Lib.cell_of_heap g1]; rfl)
  have z1 : w.heap.size < W9.heap.size := World.block_lt_of_cell? W9 _ k1_0
  have g2 := blkN_below hb9 G2.out
  have G2 := Lib.hid g2
  have k2_0 : W9.cell? ⟨w.heap.size + 1, 0, none⟩ = some (.string y0) := (by rw [Lib.cell_of_heap g2]; rfl)
  have k2_1 : W9.cell? ⟨w.heap.size + 1, 1, none⟩ = some (.int .i64 y1) := (by rw [Lib.cell_of_heap g2]; rfl)
  have k2_2 : W9.cell? ⟨w.heap.size + 1, 2, none⟩ = some (.int .i64 y2) := (by rw [Lib.cell_of_heap g2]; rfl)
  have k2_3 : W9.cell? ⟨w.heap.size + 1, 3, none⟩ = some (.int .i64 y3) := (by rw [Lib.cell_of_heap g2]; rfl)
  have k2_4 : W9.cell? ⟨w.heap.size + 1, 4, none⟩ = some (.int .i64 y4) := (by rw [Lib.cell_of_heap g2]; rfl)
  have k2_5 : W9.cell? ⟨w.heap.size + 1, 5, none⟩ = some (.int .i64 y5) := (by rw [Lib.cell_of_heap g2]; rfl)
  have k2_6 : W9.cell? ⟨w.heap.size + 1, 6, none⟩ = some (.slice ta tl tc) := (by rw [Lib.cell_of_heap g2]; rfl)
  have z2 : w.heap.size + 1 < W9.heap.size := World.block_lt_of_cell? W9 _ k2_0
  have g5 := blkN_below hb9 G5.out
  have G5 := Lib.hid g5
  have k5_0 : W9.cell? ⟨w6.heap.size, 0, none⟩ = some (.string x0) := (by rw [Lib.cell_of_heap g5]; rfl)
  have k5_1 : W9.cell? ⟨w6.heap.size, 1, none⟩ = some (.int .i64 x1) := (by rw [Lib.cell_of_heap g5]; rfl)
  have k5_2 : W9.cell? ⟨w6.heap.size, 2, none⟩ = some (.int .i64 x2) := (by rw [Lib.cell_of_heap g5]; rfl)
  have k5_3 : W9.cell? ⟨w6.heap.size, 3, none⟩ = some (.int .i64 x3) := (by rw [Lib.cell_of_heap g5]; rfl)
  have k5_4 : W9.cell? ⟨w6.heap.size, 4, none⟩ = some (.int .i64 x4) := (by rw [Lib.cell_of_heap g5]; rfl)
  have k5_5 : W9.cell? ⟨w6.heap.size, 5, none⟩ = some (.int .i64 x5) := (by rw [Lib.cell_of_heap g5]; rfl)
  have k5_6 : W9.cell? ⟨w6.heap.size, 6, none⟩ = some (.slice ca cn cz) := (by rw [Lib.cell_of_heap g5]; rfl)
  have z5 : w6.heap.size < W9.heap.size := World.block_lt_of_cell? W9 _ k5_0
  clear g1 g2 g5
  have k6_0 : W9.cell? ⟨w8.heap.size, 0, none⟩ = some (.string y0) := (by rw [Lib.cell_of_heap g6]; rfl)
  have k6_1 : W9.cell? ⟨w8.heap.size, 1, none⟩ = some (.int .i64 y1) := (by rw [Lib.cell_of_heap g6]; rfl)
  have k6_2 : W9.cell? ⟨w8.heap.size, 2, none⟩ = some (.int .i64 y2) := (by rw [Lib.cell_of_heap g6]; rfl)
  have k6_3 : W9.cell? ⟨w8.heap.size, 3, none⟩ = some (.int .i64 y3) := (by rw [Lib.cell_of_heap g6]; rfl)
  have k6_4 : W9.cell? ⟨w8.heap.size, 4, none⟩ = some (.int .i64 y4) := (by rw [Lib.cell_of_heap g6]; rfl)
  have k6_5 : W9.cell? ⟨w8.heap.size, 5, none⟩ = some (.int .i64 y5) := (by rw [Lib.cell_of_heap g6]; rfl)
  have k6_6 : W9.cell? ⟨w8.heap.size, 6, none⟩ = some (.slice la ln lz) := (by rw [Lib.cell_of_heap g6]; rfl)
  have z6 : w8.heap.size < W9.heap.size := World.block_lt_of_cell? W9 _ k6_0
  clear g6 hb9
  have hTT : (T != T) = false := by simp
  have hCC : (C != C) = false := by simp
  go_wp2_with fail
  refine (HIm.out ca cn cz la ln lz _ _ _ _ _ (HQ.out _ HB.out) hsC.out hsD.out).mono ?_
  rintro e a5 ⟨rfl, b5⟩
  have hsC := Lib.hid (hsC.out.ext b5)
  have hsD := Lib.hid (hsD.out.ext b5)
  dsimp only
  clear k1_0 k1_1 k1_2 k1_3 k1_4 k1_5 k1_6 k2_0 k2_1 k2_2 k2_3 k2_4 k2_5 k2_6 k5_0 k5_1 k5_2 k5_3 k5_4 k5_5 k5_6 k6_0 k6_1 k6_2 k6_3 k6_4 k6_5 k6_6 z1 z2 z5 z6
  have HB := Lib.hid (HB.out.trans (b5.mono HB.out.size))
  have g1 := blkN_below b5 G1.out
  have G1 := Lib.hid g1
  have k1_0 : a5.cell? ⟨w.heap.size, 0, none⟩ = some (.string x0) := (by rw [Lib.cell_of_heap g1]; rfl)
  have k1_1 : a5.cell? ⟨w.heap.size, 1, none⟩ = some (.int .i64 x1) := (by rw [Lib.cell_of_heap g1]; rfl)
  have k1_2 : a5.cell? ⟨w.heap.size, 2, none⟩ = some (.int .i64 x2) := (by rw [Lib.cell_of_heap g1]; rfl)
  have k1_3 : a5.cell? ⟨w.heap.size, 3, none⟩ = some (.int .i64 x3) := (by rw [Lib.cell_of_heap g1]; rfl)
  have k1_4 : a5.cell? ⟨w.heap.size, 4, none⟩ = some (.int .i64 x4) := (by rw [Lib.cell_of_heap g1]; rfl)
  have k1_5 : a5.cell? ⟨w.heap.size, 5, none⟩ = some (.int .i64 x5) := (by rw [Lib.cell_of_heap g1]; rfl)
  have k1_6 : a5.cell? ⟨w.heap.size, 6, none⟩ = some (.slice sa sl sc) := (by rw [Lib.cell_of_heap g1]; rfl)
  have z1 : w.heap.size < a5.heap.size := World.block_lt_of_cell? a5 _ k1_0
  have g2 := blkN_below b5 G2.out
  have G2 := Lib.hid g2
  have k2_0 : a5.cell? ⟨w.heap.size + 1, 0, none⟩ = some (.string y0) := (by rw [Lib.cell_of_heap g2]; rfl)
  have k2_1 : a5.cell? ⟨w.heap.size + 1, 1, none⟩ = some (.int .i64 y1) := (by rw [Lib.cell_of_heap g2]; rfl)
  have k2_2 : a5.cell? ⟨w.heap.size + 1, 2, none⟩ = some (.int .i64 y2) := (by rw [Lib.cell_of_heap g2]; rfl)
  have k2_3 : a5.cell? ⟨w.heap.size + 1, 3, none⟩ = some (.int .i64 y3) := (by rw [Lib.cell_of_heap g2]; rfl)
  have k2_4 : a5.cell? ⟨w.heap.size + 1, 4, none⟩ = some (.int .i64 y4) := (by rw [Lib.cell_of_heap g2]; rfl)
  have k2_5 : a5.cell? ⟨w.heap.size + 1, 5, none⟩ = some (.int .i64 y5) := (by rw [Lib.cell_of_heap g2]; rfl)
  have k2_6 : a5.cell? ⟨w.heap.size + 1, 6, none⟩ = some (.slice ta tl tc) := (by rw [Lib.cell_of_heap g2]; rfl)
  have z2 : w.heap.size + 1 < a5.heap.size := World.block_lt_of_cell? a5 _ k2_0
  have g5 := blkN_below b5 G5.out
  have G5 := Lib.hid g5
  have k5_0 : a5.cell? ⟨w6.heap.size, 0, none⟩ = some (.string x0) := (by rw [Lib.cell_of_heap g5]; rfl)
  have k5_1 : a5.cell? ⟨w6.heap.size, 1, none⟩ = some (.int .i64 x1) := (by rw [Lib.cell_of_heap g5]; rfl)
  have k5_2 : a5.cell? ⟨w6.heap.size, 2, none⟩ = some (.int .i64 x2) := (by rw [Lib.cell_of_heap g5]; rfl)
  have k5_3 : a5.cell? ⟨w6.heap.size, 3, none⟩ = some (.int .i64 x3) := (by rw [Lib.cell_of_heap g5]; rfl)
  have k5_4 : a5.cell? ⟨w6.heap.size, 4, none⟩ = some (.int .i64 x4) := (by rw [Lib.cell_of_heap g5]; rfl)
  have k5_5 : a5.cell? ⟨w6.heap.size, 5, none⟩ = some (.int .i64 x5) := (by rw [Lib.cell_of_heap g5]; rfl)
  have k5_6 : a5.cell? ⟨w6.heap.size, 6, none⟩ = some (.slice ca cn cz) := (by rw [Lib.cell_of_heap g5]; rfl)
  have z5 : w6.heap.size < a5.heap.size := World.block_lt_of_cell? a5 _ k5_0
  have g6 := blkN_below b5 G6.out
  have G6 := Lib.hid g6
  have k6_0 : a5.cell? ⟨w8.heap.size, 0, none⟩ = some (.string y0) := (by rw [Lib.cell_of_heap g6]; rfl)
  have k6_1 : a5.cell? ⟨w8.heap.size, 1, none⟩ = some (.int .i64 y1) := (by rw [Lib.cell_of_heap g6]; rfl)
  have k6_2 : a5.cell? ⟨w8.heap.size, 2, none⟩ = some (.int .i64 y2) := (by rw [Lib.cell_of_heap g6]; rfl)
  have k6_3 : a5.cell? ⟨w8.heap.size, 3, none⟩ = some (.int .i64 y3) := (by rw [Lib.cell_of_heap g6]; rfl)
  have k6_4 : a5.cell? ⟨w8.heap.size, 4, none⟩ = some (.int .i64 y4) := (by rw [Lib.cell_of_heap g6]; rfl)
  have k6_5 : a5.cell? ⟨w8.heap.size, 5, none⟩ = some (.int .i64 y5) := (by rw [Lib.cell_of_heap g6]; rfl)
  have k6_6 : a5.cell? ⟨w8.heap.size, 6, none⟩ = some (.slice la ln lz) := (by rw [Lib.cell_of_heap g6]; rfl)
  have z6 : w8.heap.size < a5.heap.size := World.block_lt_of_cell? a5 _ k6_0
  clear g1 g2 g5 g6
  clear b5
  go_wp2_with fail
  go_region_held3 (fun w' => (∀ b' o', b' < a5.heap.size → w'.cell? ⟨b', o', none⟩ = a5.cell? ⟨b', o', none⟩) ∧ Below a5.heap.size a5 w') (first | (refine heldB ?_; go_grown; done))
    (first
      | (go_at_call 17; (with_reducible refine (HTC.out _ ?hb).mono ?_); (case hb => exact HB.out.trans (Below.mono (B := a5.heap.size) (by go_grown) HB.out.size)); rintro e a1 ⟨⟨da', dn, dz⟩, rfl, hsE, hb1'⟩; have b1 : Below a5.heap.size a5 a1 := Below.trans (by go_grown) (hb1'.mono (by go_size)); have q1 := (bcell b1).1)
      | (go_at_call 18; have h1 := hsC.out.ext b1; have h2 := hsE.1; (with_reducible refine (HEC.out ca cn cz da' dn dz _ _ _ _ _ h1 h2).mono ?_); clear h1 h2; rintro e a2 ⟨rfl, hb2'⟩; have b2 : Below a5.heap.size a5 a2 := Below.trans b1 (hb2'.mono b1.size); have q2 := (bcell b2).1))
  have hsD := Lib.hid (hsD.out.ext b2)
  clear k1_0 k1_1 k1_2 k1_3 k1_4 k1_5 k1_6 k2_0 k2_1 k2_2 k2_3 k2_4 k2_5 k2_6 k5_0 k5_1 k5_2 k5_3 k5_4 k5_5 k5_6 k6_0 k6_1 k6_2 k6_3 k6_4 k6_5 k6_6 z1 z2 z5 z6
  have HB := Lib.hid (HB.out.trans (b2.mono HB.out.size))
  have g1 := blkN_below b2 G1.out
  have G1 := Lib.hid g1
  have k1_0 : a2.cell? ⟨w.heap.size, 0, none⟩ = some (.string x0) := (by rw [Lib.cell_of_heap g1]; rfl)
  have k1_1 : a2.cell? ⟨w.heap.size, 1, none⟩ = some (.int .i64 x1) := (by rw [Lib.cell_of_heap g1]; rfl)
  have k1_2 : a2.cell? ⟨w.heap.size, 2, none⟩ = some (.int .i64 x2) := (by rw [Lib.cell_of_heap g1]; rfl)
  have k1_3 : a2.cell? ⟨w.heap.size, 3, none⟩ = some (.int .i64 x3) := (by rw [Lib.cell_of_heap g1]; rfl)
  have k1_4 : a2.cell? ⟨w.heap.size, 4, none⟩ = some (.int .i64 x4) := (by rw [Lib.cell_of_heap g1]; rfl)
  have k1_5 : a2.cell? ⟨w.heap.size, 5, none⟩ = some (.int .i64 x5) := (by rw [Lib.cell_of_heap g1]; rfl)
  have k1_6 : a2.cell? ⟨w.heap.size, 6, none⟩ = some (.slice sa sl sc) := (by rw [Lib.cell_of_heap g1]; rfl)
  have z1 : w.heap.size < a2.heap.size := World.block_lt_of_cell? a2 _ k1_0
  have g2 := blkN_below b2 G2.out
  have G2 := Lib.hid g2
  have k2_0 : a2.cell? ⟨w.heap.size + 1, 0, none⟩ = some (.string y0) := (by rw [Lib.cell_of_heap g2]; rfl)
  have k2_1 : a2.cell? ⟨w.heap.size + 1, 1, none⟩ = some (.int .i64 y1) := (by rw [Lib.cell_of_heap g2]; rfl)
  have k2_2 : a2.cell? ⟨w.heap.size + 1, 2, none⟩ = some (.int .i64 y2) := (by rw [Lib.cell_of_heap g2]; rfl)
  have k2_3 : a2.cell? ⟨w.heap.size + 1, 3, none⟩ = some (.int .i64 y3) := (by rw [Lib.cell_of_heap g2]; rfl)
  have k2_4 : a2.cell? ⟨w.heap.size + 1, 4, none⟩ = some (.int .i64 y4) := (by rw [Lib.cell_of_heap g2]; rfl)
  have k2_5 : a2.cell? ⟨w.heap.size + 1, 5, none⟩ = some (.int .i64 y5) := (by rw [Lib.cell_of_heap g2]; rfl)
  have k2_6 : a2.cell? ⟨w.heap.size + 1, 6, none⟩ = some (.slice ta tl tc) := (by rw [Lib.cell_of_heap g2]; rfl)
  have z2 : w.heap.size + 1 < a2.heap.size := World.block_lt_of_cell? a2 _ k2_0
  have g5 := blkN_below b2 G5.out
  have G5 := Lib.hid g5
  have k5_0 : a2.cell? ⟨w6.heap.size, 0, none⟩ = some (.string x0) := (by rw [Lib.cell_of_heap g5]; rfl)
  have k5_1 : a2.cell? ⟨w6.heap.size, 1, none⟩ = some (.int .i64 x1) := (by rw [Lib.cell_of_heap g5]; rfl)
  have k5_2 : a2.cell? ⟨w6.heap.size, 2, none⟩ = some (.int .i64 x2) := (by rw [Lib.cell_of_heap g5]; rfl)
  have k5_3 : a2.cell? ⟨w6.heap.size, 3, none⟩ = some (.int .i64 x3) := (by rw [Lib.cell_of_heap g5]; rfl)
  have k5_4 : a2.cell? ⟨w6.heap.size, 4, none⟩ = some (.int .i64 x4) := (by rw [Lib.cell_of_heap g5]; rfl)
  have k5_5 : a2.cell? ⟨w6.heap.size, 5, none⟩ = some (.int .i64 x5) := (by rw [Lib.cell_of_heap g5]; rfl)
  have k5_6 : a2.cell? ⟨w6.heap.size, 6, none⟩ = some (.slice ca cn cz) := (by rw [Lib.cell_of_heap g5]; rfl)
  have z5 : w6.heap.size < a2.heap.size := World.block_lt_of_cell? a2 _ k5_0
  have g6 := blkN_below b2 G6.out
  have G6 := Lib.hid g6
  have k6_0 : a2.cell? ⟨w8.heap.size, 0, none⟩ = some (.string y0) := (by rw [Lib.cell_of_heap g6]; rfl)
  have k6_1 : a2.cell? ⟨w8.heap.size, 1, none⟩ = some (.int .i64 y1) := (by rw [Lib.cell_of_heap g6]; rfl)
  have k6_2 : a2.cell? ⟨w8.heap.size, 2, none⟩ = some (.int .i64 y2) := (by rw [Lib.cell_of_heap g6]; rfl)
  have k6_3 : a2.cell? ⟨w8.heap.size, 3, none⟩ = some (.int .i64 y3) := (by rw [Lib.cell_of_heap g6]; rfl)
  have k6_4 : a2.cell? ⟨w8.heap.size, 4, none⟩ = some (.int .i64 y4) := (by rw [Lib.cell_of_heap g6]; rfl)
  have k6_5 : a2.cell? ⟨w8.heap.size, 5, none⟩ = some (.int .i64 y5) := (by rw [Lib.cell_of_heap g6]; rfl)
  have k6_6 : a2.cell? ⟨w8.heap.size, 6, none⟩ = some (.slice la ln lz) := (by rw [Lib.cell_of_heap g6]; rfl)
  have z6 : w8.heap.size < a2.heap.size := World.block_lt_of_cell? a2 _ k6_0
  clear g1 g2 g5 g6
  clear hb1' hb2' b1 b2 q1 q2 hsE hsC
  go_wp2_with fail
  go_region_held3 (fun w' => (∀ b' o', b' < a2.heap.size → w'.cell? ⟨b', o', none⟩ = a2.cell? ⟨b', o', none⟩) ∧ Below a2.heap.size a2 w') (first | (refine heldB ?_; go_grown; done))
    (first
      | (go_at_call 17; (with_reducible refine (HTD.out _ ?hb).mono ?_); (case hb => exact HB.out.trans (Below.mono (B := a2.heap.size) (by go_grown) HB.out.size)); rintro e a3 ⟨⟨da', dn, dz⟩, rfl, hsE, hb3'⟩; have b3 : Below a2.heap.size a2 a3 := Below.trans (by go_grown) (hb3'.mono (by go_size)); have q3 := (bcell b3).1)
      | (go_at_call 18; have h1 := hsD.out.ext b3; have h2 := hsE.1; (with_reducible refine (HED.out la ln lz da' dn dz _ _ _ _ _ h1 h2).mono ?_); clear h1 h2; rintro e a4 ⟨rfl, hb4'⟩; have b4 : Below a2.heap.size a2 a4 := Below.trans b3 (hb4'.mono b3.size); have q4 := (bcell b4).1))
  go_wp2
  go_ret
  exact ⟨rfl, HB.out.trans (b4.mono HB.out.size)⟩
end Go.Proofs.YteeigmgepahdhaaDoor
