/- The time of a lift, in both packages. -/
import Derived.Test.YtdadadiipmenbaaDoorMove
import Derived.Test.YtdadadiipmenbaaDoorLiftW
namespace Go.Proofs.YtdadadiipmenbaaDoor
open Go.RowKit
noncomputable def liftT (f : CraneF) (v : Spd) (g : LiftF) : Int := 2 * v.hook + 2 * upI (g.height + 30) v.hoist + moveI f v g.fx g.fy g.tx g.ty
theorem liftT_lay {f : CraneF} {v : Spd} {g : LiftF} (hv : v.ok) (h0 : Pl f.x f.y) (hg : plainOk g) :
    (0 ≤ g.height + 30 ∧ g.height + 30 ≤ 2030) ∧ (IntKind.i64.wrap (g.height + 30) = g.height + 30) ∧ (IntKind.i64.wrap (2 * v.hook) = 2 * v.hook) ∧ (IntKind.i64.wrap (2 * upI (g.height + 30) v.hoist) = 2 * upI (g.height + 30) v.hoist) ∧
    (IntKind.i64.wrap (2 * v.hook + 2 * upI (g.height + 30) v.hoist) = 2 * v.hook + 2 * upI (g.height + 30) v.hoist) ∧
    (IntKind.i64.wrap (2 * v.hook + 2 * upI (g.height + 30) v.hoist + moveI f v g.fx g.fy g.tx g.ty) = 2 * v.hook + 2 * upI (g.height + 30) v.hoist + moveI f v g.fx g.fy g.tx g.ty) ∧ (0 ≤ liftT f v g ∧ liftT f v g ≤ 100000) := by
  have hh := hg.2.2.2.2.1
  obtain ⟨-, -, m1, m2⟩ := move_bd hv h0 hg.2.2.1 hg.2.2.2.1
  have hu := up_bd (n := g.height + 30) (d := v.hoist) (by omega) (by have := hv.2.2.1.1; omega)
  have hk := hv.2.2.2
  have e : liftT f v g = 2 * v.hook + 2 * upI (g.height + 30) v.hoist + moveI f v g.fx g.fy g.tx g.ty := rfl
  refine ⟨by omega, IntWalk.i64_in _ (by omega), IntWalk.i64_in _ (by omega), IntWalk.i64_in _ (by omega), IntWalk.i64_in _ (by omega), IntWalk.i64_in _ (by omega), by omega⟩
set_option maxRecDepth 100000 in
set_option maxHeartbeats 8000000 in
theorem impl_LiftT (f : CraneF) (s : SV) (v : Spd) (g : LiftF) (t : SV) (w : World) (hv : v.ok) (h0 : Pl f.x f.y) (hg : plainOk g) (hQ : Qtr w) :
    Calls Tryd.prog 48 #[.agg (CraneR.cells ⟨f, s⟩ ++ v.cells).toArray, .agg (LiftR.cells ⟨g, t⟩).toArray] w fun e w' => e = .returned (.int .i64 (liftT f v g)) ∧ Below w.heap.size w w' := by
  have hql := hQ.lt
  obtain ⟨⟨u1, u2⟩, w1, w2, w3, w4, w5, -⟩ := liftT_lay hv h0 hg
  have HM := Lib.hid (fun w' (hb : Below w.heap.size w w') => impl_Move f s v g.fx g.fy g.tx g.ty w' hv h0 hg.2.2.1 hg.2.2.2.1 (hQ.below hb hql))
  have HU := Lib.hid (fun w' => impl_Hoist v (g.height + 30) w' hv (by omega))
  unfold liftT
  obtain ⟨sa, sl, sc⟩ := s
  obtain ⟨ta, tl, tc⟩ := t
  obtain ⟨x0, x1, x2, x3, x4, x5⟩ := f
  obtain ⟨y0, y1, y2, y3, y4, y5, y6, y7⟩ := g
  obtain ⟨v0, v1, v2, v3⟩ := v
  simp only [CraneR.cells, LiftR.cells, SV.v, Spd.cells, List.cons_append, List.nil_append] at *
  clear hv h0 hg hQ hql
  generalize moveI ⟨x0, x1, x2, x3, x4, x5⟩ ⟨v0, v1, v2, v3⟩ y2 y3 y4 y5 = mv at *
  generalize upI (y6 + 30) v2 = up at *
  obtain ⟨W0, hW, e1, e2, hB0, hz0⟩ := two_boxes w (.cells #[.string x0, .int .i64 x1, .int .i64 x2, .int .i64 x3, .int .i64 x4, .int .i64 x5, .slice sa sl sc, .int .i64 v0, .int .i64 v1, .int .i64 v2, .int .i64 v3] 94 (0, 0)) (.cells #[.string y0, .int .i64 y1, .int .i64 y2, .int .i64 y3, .int .i64 y4, .int .i64 y5, .int .i64 y6, .int .i64 y7, .slice ta tl tc] 44 (0, 0))
  have HW := Lib.hid hW
  have k0 : W0.cell? ⟨w.heap.size, 0, none⟩ = some (.string x0) := by rw [Lib.cell_of_heap e1]; rfl
  have k1 : W0.cell? ⟨w.heap.size, 1, none⟩ = some (.int .i64 x1) := by rw [Lib.cell_of_heap e1]; rfl
  have k2 : W0.cell? ⟨w.heap.size, 2, none⟩ = some (.int .i64 x2) := by rw [Lib.cell_of_heap e1]; rfl
  have k3 : W0.cell? ⟨w.heap.size, 3, none⟩ = some (.int .i64 x3) := by rw [Lib.cell_of_heap e1]; rfl
  have k4 : W0.cell? ⟨w.heap.size, 4, none⟩ = some (.int .i64 x4) := by rw [Lib.cell_of_heap e1]; rfl
  have k5 : W0.cell? ⟨w.heap.size, 5, none⟩ = some (.int .i64 x5) := by rw [Lib.cell_of_heap e1]; rfl
  have k6 : W0.cell? ⟨w.heap.size, 6, none⟩ = some (.slice sa sl sc) := by rw [Lib.cell_of_heap e1]; rfl
  have k7 : W0.cell? ⟨w.heap.size, 7, none⟩ = some (.int .i64 v0) := by rw [Lib.cell_of_heap e1]; rfl
  have k8 : W0.cell? ⟨w.heap.size, 8, none⟩ = some (.int .i64 v1) := by rw [Lib.cell_of_heap e1]; rfl
  have k9 : W0.cell? ⟨w.heap.size, 9, none⟩ = some (.int .i64 v2) := by rw [Lib.cell_of_heap e1]; rfl
  have k10 : W0.cell? ⟨w.heap.size, 10, none⟩ = some (.int .i64 v3) := by rw [Lib.cell_of_heap e1]; rfl
  have l2 : W0.cell? ⟨w.heap.size + 1, 2, none⟩ = some (.int .i64 y2) := by rw [Lib.cell_of_heap e2]; rfl
  have l3 : W0.cell? ⟨w.heap.size + 1, 3, none⟩ = some (.int .i64 y3) := by rw [Lib.cell_of_heap e2]; rfl
  have l4 : W0.cell? ⟨w.heap.size + 1, 4, none⟩ = some (.int .i64 y4) := by rw [Lib.cell_of_heap e2]; rfl
  have l5 : W0.cell? ⟨w.heap.size + 1, 5, none⟩ = some (.int .i64 y5) := by rw [Lib.cell_of_heap e2]; rfl
  have l6 : W0.cell? ⟨w.heap.size + 1, 6, none⟩ = some (.int .i64 y6) := by rw [Lib.cell_of_heap e2]; rfl
  have hq0 : w.heap.size < W0.heap.size := by omega
  have hq1 : w.heap.size + 1 < W0.heap.size := by omega
  have HB0 := Lib.hid hB0
  clear hW e1 e2 hB0 hz0
  go_enter Tryd.func48, Tryd.ntmps48
  go_wp2_with fail
  rw [HW.out]
  go_region_held3 (fun w' => (∀ b' o', b' < W0.heap.size → w'.cell? ⟨b', o', none⟩ = W0.cell? ⟨b', o', none⟩) ∧ Below W0.heap.size W0 w') (first | (refine heldB ?_; go_grown; done))
    (first
      | (go_at_call 97; (with_reducible refine (HU.out _).mono ?_); rintro e w2 ⟨rfl, hb2'⟩; have b2 : Below W0.heap.size W0 w2 := Below.trans (by go_grown) (hb2'.mono (by go_size)); have q2 := (bcell b2).1)
      | (go_at_call 55; (with_reducible refine (HM.out _ ?hb).mono ?_); (case hb => exact HB0.out.trans (b2.mono HB0.out.size)); rintro e w3 ⟨rfl, hb3'⟩; have b3 : Below W0.heap.size W0 w3 := Below.trans b2 (hb3'.mono b2.size); have q3 := (bcell b3).1))
  go_wp2_with fail
  go_ret
  exact ⟨rfl, HB0.out.trans (b3.mono HB0.out.size)⟩
set_option maxRecDepth 100000 in
set_option maxHeartbeats 8000000 in
theorem spec_LiftT (b o q o2 : Nat) (f : CraneF) (sv : Value) (v : Spd) (g : LiftF) (gv : Value) (w : World) (hc : At w b o (craneC f sv)) (hl : At w q o2 (liftC g gv)) (hv : v.ok) (h0 : Pl f.x f.y) (hg : plainOk g) :
    Calls Tryd.prog 42 #[.pointer (some ⟨b, o, none⟩), .agg v.cells.toArray, .pointer (some ⟨q, o2, none⟩)] w fun e w' => e = .returned (.int .i64 (liftT f v g)) ∧ Below w.heap.size w w' := by
  obtain ⟨⟨u1, u2⟩, w1, w2, w3, w4, w5, -⟩ := liftT_lay hv h0 hg
  have HM := Lib.hid (fun w' (hb : Below w.heap.size w w') => spec_Move b o f sv v g.fx g.fy g.tx g.ty w' (hc.ext hb (by simp [craneC])) hv h0 hg.2.2.1 hg.2.2.2.1)
  have HU := Lib.hid (fun w' => spec_Up (g.height + 30) v.hoist w' u1 (by omega) (by have := hv.2.2.1.1; omega) (by have := hv.2.2.1.2; omega))
  unfold liftT
  have hbw := hc.lt (by simp [craneC])
  have hbq := hl.lt (by simp [liftC])
  obtain ⟨x0, x1, x2, x3, x4, x5⟩ := f
  obtain ⟨y0, y1, y2, y3, y4, y5, y6, y7⟩ := g
  obtain ⟨v0, v1, v2, v3⟩ := v
  have c2 := hl 2 _ rfl
  have c3 := hl 3 _ rfl
  have c4 := hl 4 _ rfl
  have c5 := hl 5 _ rfl
  have c6 := hl 6 _ rfl
  simp only [Spd.cells] at *
  clear hv h0 hg hc hl
  generalize moveI ⟨x0, x1, x2, x3, x4, x5⟩ ⟨v0, v1, v2, v3⟩ y2 y3 y4 y5 = mv at *
  generalize upI (y6 + 30) v2 = up at *
  have hba : Below w.heap.size w (w.alloc (.cells #[.int .i64 v0, .int .i64 v1, .int .i64 v2, .int .i64 v3] 41 (0, 0))) := (Below.refl _ _).alloc (Nat.le_refl _) _
  have e1 := blkN_new w (.cells #[.int .i64 v0, .int .i64 v1, .int .i64 v2, .int .i64 v3] 41 (0, 0))
  obtain ⟨W0, hW⟩ : ∃ W0, w.alloc (.cells #[.int .i64 v0, .int .i64 v1, .int .i64 v2, .int .i64 v3] 41 (0, 0)) = W0 := ⟨_, rfl⟩
  rw [hW] at hba e1
  have HW := Lib.hid hW
  have k0 : W0.cell? ⟨w.heap.size, 0, none⟩ = some (.int .i64 v0) := by rw [Lib.cell_of_heap e1]; rfl
  have k1 : W0.cell? ⟨w.heap.size, 1, none⟩ = some (.int .i64 v1) := by rw [Lib.cell_of_heap e1]; rfl
  have k2 : W0.cell? ⟨w.heap.size, 2, none⟩ = some (.int .i64 v2) := by rw [Lib.cell_of_heap e1]; rfl
  have k3 : W0.cell? ⟨w.heap.size, 3, none⟩ = some (.int .i64 v3) := by rw [Lib.cell_of_heap e1]; rfl
  have d2 := (hba.cell (p := ⟨q, o2 + 2, none⟩) hbq).trans c2
  have d3 := (hba.cell (p := ⟨q, o2 + 3, none⟩) hbq).trans c3
  have d4 := (hba.cell (p := ⟨q, o2 + 4, none⟩) hbq).trans c4
  have d5 := (hba.cell (p := ⟨q, o2 + 5, none⟩) hbq).trans c5
  have d6 := (hba.cell (p := ⟨q, o2 + 6, none⟩) hbq).trans c6
  have hq0 : w.heap.size < W0.heap.size := World.block_lt_of_cell? W0 _ k0
  have hq1 : q < W0.heap.size := by omega
  have HB0 := Lib.hid hba
  clear hW e1 hba c2 c3 c4 c5 c6
  go_enter Tryd.func42, Tryd.ntmps42
  go_wp2_with fail
  rw [HW.out]
  go_region_held3 (fun w' => (∀ b' o', b' < W0.heap.size → w'.cell? ⟨b', o', none⟩ = W0.cell? ⟨b', o', none⟩) ∧ Below W0.heap.size W0 w') (first | (refine heldB ?_; go_grown; done))
    (first
      | (go_at_call 93; (with_reducible refine (HU.out _).mono ?_); rintro e w2 ⟨rfl, rfl⟩)
      | (go_at_call 53; (with_reducible refine (HM.out _ ?hb).mono ?_); (case hb => exact HB0.out.trans (Below.mono (B := W0.heap.size) (by go_grown) HB0.out.size)); rintro e w3 ⟨rfl, hb3'⟩; have b3 : Below W0.heap.size W0 w3 := Below.trans (by go_grown) (hb3'.mono (by go_size)); have q3 := (bcell b3).1))
  go_wp2_with fail
  go_ret
  exact ⟨rfl, HB0.out.trans (b3.mono HB0.out.size)⟩
end Go.Proofs.YtdadadiipmenbaaDoor
