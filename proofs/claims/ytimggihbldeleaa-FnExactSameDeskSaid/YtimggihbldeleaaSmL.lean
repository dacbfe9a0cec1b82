/- The laws' helpers on desks. (Printed by gen_lawSameDesk.py.) -/
import Derived.Test.YtimggihbldeleaaSmD
namespace Go.Proofs.Ytimggihbldeleaa
open Go.RowKit Go.WideShapes Go.ChangeShapes Go.Deep
def DeskL.wf (D : DeskL) : Prop := D.site.wf ∧ (∀ x ∈ D.lifts, x.1.wf ∧ ∀ y ∈ x.2, I64 y) ∧ D.spd.wf
def liftsC (L : List (LiftF × List Int)) : Nat := L.length + totN (fun f : LiftF => f.name.size) L
def DeskL.cost (D : DeskL) : Nat := D.site.cost + liftsC D.lifts + D.dirs.length
theorem cellsOf_Desk : Try.prog.cellsOf 41 = 7 := by kernel_rfl
theorem cellsOf_DSite : Try.prog.cellsOf 37 = 1 := by kernel_rfl
theorem cellsOf_DLift : Try.prog.cellsOf 38 = 1 := by kernel_rfl
theorem cellsOf_DSpd : Try.prog.cellsOf 39 = 4 := by kernel_rfl
theorem cellsOf_DDirs : Try.prog.cellsOf 28 = 1 := by kernel_rfl
set_option maxRecDepth 100000 in
theorem open_Desk {H : Type} {enc : TypeId × Value → H} {W : World} {base : Nat} {spare : Nat → Bool} {held : Bool} (fuel : Nat) (cs : List Value) (y : DataW H × List MemPlace) (hy : DataW.trod enc Try.prog W base spare held fuel 41 cs = some y) :
    ∃ (s g d : SV) (D : DeskL), cs = deskC s g d D.spd ∧ DeskR W s g d D ∧ D.wf := by
  obtain ⟨xs, n, rfl, rfl, hl, hxs, hf⟩ := DataW.trod_struct Try.underlying41 hy
  rw [cellsOf_Desk] at hl
  have hxs' : xs.length = 4 := hxs
  obtain ⟨L, ⟨s, es, hs⟩, hLw⟩ := open_Site n _ _ (field_sub (i := 0) (by omega) (hf 0 _ rfl))
  have es : (cs.drop 0).take (Try.prog.cellsOf 37) = one s := es
  have hy2 := field_sub (i := 1) (by omega) (hf 1 _ rfl)
  obtain ⟨g, eg⟩ : ∃ g : SV, (cs.drop 1).take (Try.prog.cellsOf 38) = one g := by
    rcases open_slice Try.underlying38 hy2 with ⟨hcs, _⟩ | ⟨a, len, cap, m, _, D, Pl, hcs, _⟩
    · exact ⟨⟨none, 0, 0⟩, hcs⟩
    · exact ⟨⟨some a, len, cap⟩, hcs⟩
  have hy3 : DataW.trod enc Try.prog W base spare held n 38 (one g) = _ := eg ▸ hy2
  obtain ⟨G, ⟨rg, hG⟩, hGw⟩ := open_SLift' (v := g.v) ⟨n, hy3⟩ ⟨g.a, g.len, g.cap, rfl⟩
  obtain ⟨p, ep, hpw⟩ := open_Speeds n _ _ (field_sub (i := 2) (by omega) (hf 2 _ rfl))
  have ep : (cs.drop 2).take (Try.prog.cellsOf 39) = p.cells := ep
  have hy4 := field_sub (i := 3) (by omega) (hf 3 _ rfl)
  obtain ⟨d, ed⟩ : ∃ d : SV, (cs.drop 6).take (Try.prog.cellsOf 28) = one d := by
    rcases open_slice Try.underlying28 hy4 with ⟨hcs, _⟩ | ⟨a, len, cap, m, _, D, Pl, hcs, _⟩
    · exact ⟨⟨none, 0, 0⟩, hcs⟩
    · exact ⟨⟨some a, len, cap⟩, hcs⟩
  have hy5 : DataW.trod enc Try.prog W base spare held n 28 (one d) = _ := ed ▸ hy4
  obtain ⟨l, hl5, -⟩ := open_list (P := Try.prog) (v := d.v) (n := 1) (c := intCells) Try.underlying28 cellsOf_int64 (by omega) open_int64 ⟨n, hy5⟩ ⟨d.a, d.len, d.cap, rfl⟩
  refine ⟨s, g, d, ⟨L, G, p, l⟩, ?_, ⟨by obtain ⟨rs, h⟩ := hs; exact ⟨rs, _, _, h⟩, ⟨rg, _, _, hG⟩, ⟨_, _, hl5⟩⟩, hLw, hGw, hpw⟩
  have q0 := sub_at (o := 0) es (j := 0) (by rw [cellsOf_DSite]; omega)
  have q1 := sub_at (o := 1) eg (j := 0) (by rw [cellsOf_DLift]; omega)
  have q2 := sub_at (o := 2) ep (j := 0) (by rw [cellsOf_DSpd]; omega)
  have q3 := sub_at (o := 2) ep (j := 1) (by rw [cellsOf_DSpd]; omega)
  have q4 := sub_at (o := 2) ep (j := 2) (by rw [cellsOf_DSpd]; omega)
  have q5 := sub_at (o := 2) ep (j := 3) (by rw [cellsOf_DSpd]; omega)
  have q6 := sub_at (o := 6) ed (j := 0) (by rw [cellsOf_DDirs]; omega)
  refine List.ext_getElem? fun i => ?_
  match i with
  | 0 => exact q0
  | 1 => exact q1
  | 2 => exact q2
  | 3 => exact q3
  | 4 => exact q4
  | 5 => exact q5
  | 6 => exact q6
  | i + 7 => rw [List.getElem?_eq_none (by omega), List.getElem?_eq_none (by simp [deskC])]
set_option maxRecDepth 100000 in
theorem open_ADesk {H : Type} {enc : TypeId × Value → H} {W : World} {base : Nat} {v : Value} {d : DataW H} {p : List MemPlace} (hv : Value.okWide Try.prog W .any base 41 v)
    (h : DataW.Trod enc Try.prog W 0 (fun _ => true) true 41 v d p) (_hlt : ∀ x ∈ p, x.block < W.heap.size) : ∃ D : DeskL, (∃ s g d : SV, v = .agg (deskC s g d D.spd).toArray ∧ DeskR W s g d D) ∧ D.wf := by
  obtain ⟨cs, rfl, _⟩ := okWide_struct Try.underlying41 hv
  obtain ⟨fuel, hf⟩ := h
  obtain ⟨s, g, d, D, hx, hr, hw⟩ := open_Desk fuel _ _ hf
  exact ⟨D, ⟨s, g, d, by rw [← hx]; simp [Value.cells], hr⟩, hw⟩
theorem dkx1 (w : World) (o : Obj) : ∃ W, w.alloc o = W ∧ W.heap[w.heap.size]? = some o ∧ Below w.heap.size w W ∧ W.heap.size = w.heap.size + 1 := ⟨_, rfl, blkN_new w o, (Below.refl _ _).alloc (Nat.le_refl _) _, by simp⟩
theorem dkx3 (w : World) (o p q : Obj) : ∃ W, (((w.alloc o).alloc p).alloc q) = W ∧ W.heap[w.heap.size]? = some o ∧ W.heap[w.heap.size + 1]? = some p ∧ W.heap[w.heap.size + 1 + 1]? = some q ∧ Below w.heap.size w W ∧ W.heap.size = w.heap.size + 3 := by
  obtain ⟨W, h, e1, e2, hb, hz⟩ := dkx2 w o p
  refine ⟨_, by rw [h], blkN_below ((Below.refl _ _).alloc (Nat.le_refl _) q) e1, blkN_below ((Below.refl _ _).alloc (Nat.le_refl _) q) e2, ?_, hb.alloc (by omega) q, by simp; omega⟩
  have := blkN_new W q
  rwa [hz] at this
set_option maxRecDepth 100000 in
set_option maxHeartbeats 4000000 in
theorem law_szDesk (s g d : SV) (D : DeskL) (n : Int) (w : World) (h : DeskR w s g d D) (hwf : D.wf) (h0 : 0 ≤ n) (hn : n ≤ 1048576) :
    Calls Try.prog 10 #[.agg (deskC s g d D.spd).toArray, .int .i64 n] w fun e w' => e = .returned (.int .i64 (szRes n (D.cost : Int))) ∧ Below w.heap.size w w' := by
  obtain ⟨rs, lo, hi, hs⟩ := h.site
  obtain ⟨rg, lo3, hi3, hg⟩ := h.lifts
  obtain ⟨lo5, hi5, hd⟩ := h.dirs
  clear h
  have HS := Lib.hid (fun w' (hb : Below w.heap.size w w') => law_szSite s rs D.site lo hi n w' (hs.ext hb) hwf.1 h0 hn)
  have HG := Lib.hid (fun m w' (hb : Below w.heap.size w w') h0 hn => law_szLiftS g.v rg D.lifts lo3 hi3 m w' (hg.ext hb) hwf.2.1 h0 hn)
  have HD := Lib.hid (fun m w' (hb : Below w.heap.size w w') h0 hn => law_szInt64S d.v D.dirs lo5 hi5 m w' (hd.ext hb) h0 hn)
  rw [show ∀ L : List (LiftF × List Int), (L.length + totN (fun f : LiftF => f.name.size) L) = liftsC L from fun _ => rfl] at HG
  have hc : D.cost = D.site.cost + liftsC D.lifts + D.dirs.length := rfl
  clear hs hg hd hwf
  obtain ⟨pa, pl, pc⟩ := s
  obtain ⟨pe, pf, pg⟩ := g
  obtain ⟨px, py, pz⟩ := d
  obtain ⟨DS, DG, ⟨u0, u1, u2, u3⟩, DD⟩ := D
  simp only [deskC, SV.v] at *
  rw [hc]
  clear hc
  generalize DS.cost = c1 at *
  generalize liftsC DG = c2 at *
  generalize DD.length = c3 at *
  obtain ⟨WA, hWA, e1, hBA, hzA⟩ := dkx1 w (.cells #[.slice pa pl pc, .slice pe pf pg, .int .i64 u0, .int .i64 u1, .int .i64 u2, .int .i64 u3, .slice px py pz] 41 (0, 0))
  have HWA := Lib.hid hWA
  have HB0 := Lib.hid hBA
  clear hWA hBA
  have c0' : WA.cell? ⟨w.heap.size, 0, none⟩ = some (.slice pa pl pc) := by rw [Lib.cell_of_heap e1]; rfl
  have c1' : WA.cell? ⟨w.heap.size, 1, none⟩ = some (.slice pe pf pg) := by rw [Lib.cell_of_heap e1]; rfl
  have c6' : WA.cell? ⟨w.heap.size, 6, none⟩ = some (.slice px py pz) := by rw [Lib.cell_of_heap e1]; rfl
  by_cases q1 : n < (c1 : Int)
  · rw [szRes_lt (by omega)]
    rw [szRes_lt q1] at HS
    clear q1
    go_enter Try.func10, Try.ntmps10
    go_wp2_with fail
    rw [HWA.out]
    refine (HS.out _ HB0.out).mono ?_
    rintro e w1 ⟨rfl, f1⟩
    go_wp2
    go_ret
    exact ⟨rfl, HB0.out.trans (f1.mono HB0.out.size)⟩
  rw [szRes_ge q1] at HS
  have hq1 : decide (n - (c1 : Int) < 0) = false := decide_eq_false (by omega)
  by_cases q2 : n - (c1 : Int) < (c2 : Int)
  · rw [szRes_lt (by omega)]
    have HG := Lib.hid (fun w' hb h0 hn => by have := HG.out (n - (c1 : Int)) w' hb h0 hn; rwa [szRes_lt q2] at this)
    clear q2
    go_enter Try.func10, Try.ntmps10
    go_wp2_with fail
    rw [HWA.out]
    refine (HS.out _ HB0.out).mono ?_
    rintro e w1 ⟨rfl, f1⟩
    have HB1 := Lib.hid (HB0.out.trans (f1.mono HB0.out.size))
    have p1 := blkN_below f1 e1
    clear c0' c1' c6' f1
    have c1' : w1.cell? ⟨w.heap.size, 1, none⟩ = some (.slice pe pf pg) := by rw [Lib.cell_of_heap p1]; rfl
    have c6' : w1.cell? ⟨w.heap.size, 6, none⟩ = some (.slice px py pz) := by rw [Lib.cell_of_heap p1]; rfl
    go_wp2_with fail
    refine (HG.out _ HB1.out (by omega) (by omega)).mono ?_
    rintro e w2 ⟨rfl, f2⟩
    go_wp2
    go_ret
    exact ⟨rfl, HB1.out.trans (f2.mono HB1.out.size)⟩
  have HG := Lib.hid (fun w' hb h0 hn => by have := HG.out (n - (c1 : Int)) w' hb h0 hn; rwa [szRes_ge q2] at this)
  have hq2 : decide (n - (c1 : Int) - (c2 : Int) < 0) = false := decide_eq_false (by omega)
  by_cases q3 : n - (c1 : Int) - (c2 : Int) < (c3 : Int)
  · rw [szRes_lt (by omega)]
    have HD := Lib.hid (fun w' hb h0 hn => by have := HD.out (n - (c1 : Int) - (c2 : Int)) w' hb h0 hn; rwa [szRes_lt q3] at this)
    clear q3
    go_enter Try.func10, Try.ntmps10
    go_wp2_with fail
    rw [HWA.out]
    refine (HS.out _ HB0.out).mono ?_
    rintro e w1 ⟨rfl, f1⟩
    have HB1 := Lib.hid (HB0.out.trans (f1.mono HB0.out.size))
    have p1 := blkN_below f1 e1
    clear c0' c1' c6' f1
    have c1' : w1.cell? ⟨w.heap.size, 1, none⟩ = some (.slice pe pf pg) := by rw [Lib.cell_of_heap p1]; rfl
    have c6' : w1.cell? ⟨w.heap.size, 6, none⟩ = some (.slice px py pz) := by rw [Lib.cell_of_heap p1]; rfl
    go_wp2_with fail
    refine (HG.out _ HB1.out (by omega) (by omega)).mono ?_
    rintro e w2 ⟨rfl, f2⟩
    have HB2 := Lib.hid (HB1.out.trans (f2.mono HB1.out.size))
    have p2 := blkN_below f2 p1
    clear c1' c6' f2
    have c6' : w2.cell? ⟨w.heap.size, 6, none⟩ = some (.slice px py pz) := by rw [Lib.cell_of_heap p2]; rfl
    go_wp2_with fail
    refine (HD.out _ HB2.out (by omega) (by omega)).mono ?_
    rintro e w3 ⟨rfl, f3⟩
    go_wp2
    go_ret
    exact ⟨rfl, HB2.out.trans (f3.mono HB2.out.size)⟩
  · rw [szRes_ge (by omega)]
    rw [show n - ((c1 + c2 + c3 : Nat) : Int) = n - (c1 : Int) - (c2 : Int) - (c3 : Int) by omega]
    have HD := Lib.hid (fun w' hb h0 hn => by have := HD.out (n - (c1 : Int) - (c2 : Int)) w' hb h0 hn; rwa [szRes_ge q3] at this)
    have hq3 : decide (n - (c1 : Int) - (c2 : Int) - (c3 : Int) < 0) = false := decide_eq_false (by omega)
    go_enter Try.func10, Try.ntmps10
    go_wp2_with fail
    rw [HWA.out]
    refine (HS.out _ HB0.out).mono ?_
    rintro e w1 ⟨rfl, f1⟩
    have HB1 := Lib.hid (HB0.out.trans (f1.mono HB0.out.size))
    have p1 := blkN_below f1 e1
    clear c0' c1' c6' f1
    have c1' : w1.cell? ⟨w.heap.size, 1, none⟩ = some (.slice pe pf pg) := by rw [Lib.cell_of_heap p1]; rfl
    have c6' : w1.cell? ⟨w.heap.size, 6, none⟩ = some (.slice px py pz) := by rw [Lib.cell_of_heap p1]; rfl
    go_wp2_with fail
    refine (HG.out _ HB1.out (by omega) (by omega)).mono ?_
    rintro e w2 ⟨rfl, f2⟩
    have HB2 := Lib.hid (HB1.out.trans (f2.mono HB1.out.size))
    have p2 := blkN_below f2 p1
    clear c1' c6' f2
    have c6' : w2.cell? ⟨w.heap.size, 6, none⟩ = some (.slice px py pz) := by rw [Lib.cell_of_heap p2]; rfl
    go_wp2_with fail
    refine (HD.out _ HB2.out (by omega) (by omega)).mono ?_
    rintro e w3 ⟨rfl, f3⟩
    go_wp2
    go_ret
    exact ⟨rfl, HB2.out.trans (f3.mono HB2.out.size)⟩
/-- What copying a desk returns. -/
def ToDesk (D : DeskL) (w : World) (e : Ending) (w' : World) : Prop := ∃ s g d : SV, e = .returned (.agg (deskC s g d D.spd).toArray) ∧ DeskR w' s g d D ∧ Below w.heap.size w w'
set_option maxRecDepth 100000 in
set_option maxHeartbeats 8000000 in
theorem law_toDesk (s g d : SV) (D : DeskL) (w : World) (h : DeskR w s g d D) (hn : D.cost ≤ 1048576) : Calls Try.prog 12 #[.agg (deskC s g d D.spd).toArray] w (ToDesk D w) := by
  obtain ⟨rs, lo, hi, hs⟩ := h.site
  obtain ⟨rg, lo3, hi3, hg⟩ := h.lifts
  obtain ⟨lo5, hi5, hd⟩ := h.dirs
  clear h
  have hc : D.cost = D.site.cost + liftsC D.lifts + D.dirs.length := rfl
  have HS := Lib.hid (fun w' (hb : Below w.heap.size w w') => law_toSite s rs D.site lo hi w' (hs.ext hb) (by omega))
  have HG := Lib.hid (fun w' (hb : Below w.heap.size w w') => law_toLiftS g.v rg D.lifts lo3 hi3 w' (hg.ext hb) (show liftsC D.lifts ≤ 1048576 by omega))
  have HP := Lib.hid (fun w' => law_toSpeeds D.spd w')
  have HD := Lib.hid (fun w' (hb : Below w.heap.size w w') => law_toInt64S d.v D.dirs lo5 hi5 w' (hd.ext hb) (by omega))
  clear hs hg hd hn hc
  obtain ⟨pa, pl, pc⟩ := s
  obtain ⟨pe, pf, pg⟩ := g
  obtain ⟨px, py, pz⟩ := d
  unfold ToDesk
  obtain ⟨DS, DG, ⟨u0, u1, u2, u3⟩, DD⟩ := D
  simp only [deskC, SV.v, Spd.cells] at *
  obtain ⟨WA, hWA, e1, e2, e3, hBA, hzA⟩ := dkx3 w (.cells #[.slice pa pl pc, .slice pe pf pg, .int .i64 u0, .int .i64 u1, .int .i64 u2, .int .i64 u3, .slice px py pz] 41 (0, 0)) (.cells #[.slice none 0 0, .slice none 0 0, .int .i64 0, .int .i64 0, .int .i64 0, .int .i64 0, .slice none 0 0] 30 (0, 0)) (.cells #[.slice none 0 0, .slice none 0 0, .int .i64 0, .int .i64 0, .int .i64 0, .int .i64 0, .slice none 0 0] 30 (0, 0))
  have HWA := Lib.hid hWA
  have HB0 := Lib.hid hBA
  clear hWA hBA
  have c0 : WA.cell? ⟨w.heap.size, 0, none⟩ = some (.slice pa pl pc) := by rw [Lib.cell_of_heap e1]; rfl
  go_enter Try.func12, Try.ntmps12
  go_wp2_with fail
  rw [HWA.out]
  clear c0
  have hsz0 : w.heap.size + 3 ≤ WA.heap.size := by omega
  refine (HS.out _ HB0.out).mono ?_
  rintro e w1 ⟨⟨qa, ql, qc⟩, rq, rfl, hS1, f1⟩
  simp only [SV.v] at hS1 ⊢
  have k1_1 := blkN_below f1 e1
  have k2_1 := blkN_below f1 e2
  have k3_1 := blkN_below f1 e3
  have a1_1 : w1.cell? ⟨w.heap.size, 1, none⟩ = some (.slice pe pf pg) := by rw [Lib.cell_of_heap k1_1]; rfl
  have s1_0 : w1.cell? ⟨w.heap.size + 1 + 1, 0, none⟩ = some (.slice none 0 0) := by rw [Lib.cell_of_heap k3_1]; rfl
  have z1_3 : ∀ j, w1.frozen? ⟨w.heap.size + 1 + 1, j, none⟩ = false := fun j => Lib.frozen_of_heap k3_1 j
  have hz1 := f1.size
  obtain ⟨W1, hW1⟩ : ∃ W, (w1.setCell ⟨w.heap.size + 1 + 1, 0, none⟩ (.slice qa ql qc)) = W := ⟨_, rfl⟩
  have hM1 : Mod w.heap.size (w.heap.size + 3) w1 W1 := by rw [← hW1]; exact ((Mod.refl w.heap.size (w.heap.size + 3) w1).setCell (p := ⟨w.heap.size + 1 + 1, 0, none⟩) (by show w.heap.size ≤ w.heap.size + 1 + 1; omega) (by show w.heap.size + 1 + 1 < w.heap.size + 3; omega) (.slice qa ql qc))
  have hy1 := hM1.size
  have hsz1 : w.heap.size + 3 ≤ W1.heap.size := by have := hM1.size; omega
  have HB1 := Lib.hid ((HB0.out.trans (f1.mono HB0.out.size)).trans (hM1.below (Nat.le_refl _) (by omega)))
  have R1 := Lib.hid (hS1.keep (hM1.same (Nat.le_refl _) (.inr (by omega))))
  have E1_1 : W1.heap[w.heap.size]? = some (.cells #[.slice pa pl pc, .slice pe pf pg, .int .i64 u0, .int .i64 u1, .int .i64 u2, .int .i64 u3, .slice px py pz] 41 (0, 0)) := by rw [← hW1]; simp [World.setCell, Array.getElem?_modify, show ¬ (w.heap.size + 1 + 1 = w.heap.size) from by omega, k1_1]
  have E1_2 : W1.heap[w.heap.size + 1]? = some (.cells #[.slice none 0 0, .slice none 0 0, .int .i64 0, .int .i64 0, .int .i64 0, .int .i64 0, .slice none 0 0] 30 (0, 0)) := by rw [← hW1]; simp [World.setCell, Array.getElem?_modify, k2_1]
  have E1_3 : W1.heap[w.heap.size + 1 + 1]? = some (.cells #[.slice qa ql qc, .slice none 0 0, .int .i64 0, .int .i64 0, .int .i64 0, .int .i64 0, .slice none 0 0] 30 (0, 0)) := by rw [← hW1]; simp [World.setCell, Array.getElem?_modify, k3_1]
  have HW1 := Lib.hid hW1
  clear hM1 hW1 f1 hS1
  go_wp2_with fail
  rw [HW1.out]
  clear a1_1 s1_0 z1_3 k1_1 k2_1 k3_1
  refine (HG.out _ HB1.out).mono ?_
  rintro e w2 ⟨v', rq2, rfl, hG2, f2⟩
  obtain ⟨qe, qf, qg, rfl⟩ : ∃ a l c, v' = .slice a l c := by obtain ⟨⟨⟨a, cap, h, _⟩, _⟩, _⟩ := hG2; exact ⟨a, _, cap, h⟩
  have k1_2 := blkN_below f2 E1_1
  have k2_2 := blkN_below f2 E1_2
  have k3_2 := blkN_below f2 E1_3
  have a2_2 : w2.cell? ⟨w.heap.size, 2, none⟩ = some (.int .i64 u0) := by rw [Lib.cell_of_heap k1_2]; rfl
  have a2_3 : w2.cell? ⟨w.heap.size, 3, none⟩ = some (.int .i64 u1) := by rw [Lib.cell_of_heap k1_2]; rfl
  have a2_4 : w2.cell? ⟨w.heap.size, 4, none⟩ = some (.int .i64 u2) := by rw [Lib.cell_of_heap k1_2]; rfl
  have a2_5 : w2.cell? ⟨w.heap.size, 5, none⟩ = some (.int .i64 u3) := by rw [Lib.cell_of_heap k1_2]; rfl
  have s2_0 : w2.cell? ⟨w.heap.size + 1 + 1, 1, none⟩ = some (.slice none 0 0) := by rw [Lib.cell_of_heap k3_2]; rfl
  have z2_3 : ∀ j, w2.frozen? ⟨w.heap.size + 1 + 1, j, none⟩ = false := fun j => Lib.frozen_of_heap k3_2 j
  have hz2 := f2.size
  obtain ⟨W2, hW2⟩ : ∃ W, (w2.setCell ⟨w.heap.size + 1 + 1, 1, none⟩ (.slice qe qf qg)) = W := ⟨_, rfl⟩
  have hM2 : Mod w.heap.size (w.heap.size + 3) w2 W2 := by rw [← hW2]; exact ((Mod.refl w.heap.size (w.heap.size + 3) w2).setCell (p := ⟨w.heap.size + 1 + 1, 1, none⟩) (by show w.heap.size ≤ w.heap.size + 1 + 1; omega) (by show w.heap.size + 1 + 1 < w.heap.size + 3; omega) (.slice qe qf qg))
  have hy2 := hM2.size
  have hsz2 : w.heap.size + 3 ≤ W2.heap.size := by have := hM2.size; omega
  have HB2 := Lib.hid ((HB1.out.trans (f2.mono HB1.out.size)).trans (hM2.below (Nat.le_refl _) (by omega)))
  have R1 := Lib.hid ((R1.out.keep (Same.of_below f2 (by omega))).keep (hM2.same (by omega) (.inr (by omega))))
  have R2 := Lib.hid (hG2.keep (hM2.same (Nat.le_refl _) (.inr (by omega))))
  have E2_1 : W2.heap[w.heap.size]? = some (.cells #[.slice pa pl pc, .slice pe pf pg, .int .i64 u0, .int .i64 u1, .int .i64 u2, .int .i64 u3, .slice px py pz] 41 (0, 0)) := by rw [← hW2]; simp [World.setCell, Array.getElem?_modify, show ¬ (w.heap.size + 1 + 1 = w.heap.size) from by omega, k1_2]
  have E2_2 : W2.heap[w.heap.size + 1]? = some (.cells #[.slice none 0 0, .slice none 0 0, .int .i64 0, .int .i64 0, .int .i64 0, .int .i64 0, .slice none 0 0] 30 (0, 0)) := by rw [← hW2]; simp [World.setCell, Array.getElem?_modify, k2_2]
  have E2_3 : W2.heap[w.heap.size + 1 + 1]? = some (.cells #[.slice qa ql qc, .slice qe qf qg, .int .i64 0, .int .i64 0, .int .i64 0, .int .i64 0, .slice none 0 0] 30 (0, 0)) := by rw [← hW2]; simp [World.setCell, Array.getElem?_modify, k3_2]
  have HW2 := Lib.hid hW2
  clear hM2 hW2 f2 hG2
  go_wp2_with fail
  rw [HW2.out]
  clear a2_2 a2_3 a2_4 a2_5 s2_0 z2_3 k1_2 k2_2 k3_2
  refine (HP.out _).mono ?_
  rintro e w3 ⟨rfl, f3⟩
  have k1_3 := blkN_below f3 E2_1
  have k2_3 := blkN_below f3 E2_2
  have k3_3 := blkN_below f3 E2_3
  have a3_6 : w3.cell? ⟨w.heap.size, 6, none⟩ = some (.slice px py pz) := by rw [Lib.cell_of_heap k1_3]; rfl
  have s3_0 : w3.cell? ⟨w.heap.size + 1 + 1, 2, none⟩ = some (.int .i64 0) := by rw [Lib.cell_of_heap k3_3]; rfl
  have s3_1 : w3.cell? ⟨w.heap.size + 1 + 1, 3, none⟩ = some (.int .i64 0) := by rw [Lib.cell_of_heap k3_3]; rfl
  have s3_2 : w3.cell? ⟨w.heap.size + 1 + 1, 4, none⟩ = some (.int .i64 0) := by rw [Lib.cell_of_heap k3_3]; rfl
  have s3_3 : w3.cell? ⟨w.heap.size + 1 + 1, 5, none⟩ = some (.int .i64 0) := by rw [Lib.cell_of_heap k3_3]; rfl
  have z3_3 : ∀ j, w3.frozen? ⟨w.heap.size + 1 + 1, j, none⟩ = false := fun j => Lib.frozen_of_heap k3_3 j
  have hz3 := f3.size
  obtain ⟨W3, hW3⟩ : ∃ W, ((((w3.setCell ⟨w.heap.size + 1 + 1, 2, none⟩ (.int .i64 u0)).setCell ⟨w.heap.size + 1 + 1, 3, none⟩ (.int .i64 u1)).setCell ⟨w.heap.size + 1 + 1, 4, none⟩ (.int .i64 u2)).setCell ⟨w.heap.size + 1 + 1, 5, none⟩ (.int .i64 u3)) = W := ⟨_, rfl⟩
  have hM3 : Mod w.heap.size (w.heap.size + 3) w3 W3 := by rw [← hW3]; exact (((((Mod.refl w.heap.size (w.heap.size + 3) w3).setCell (p := ⟨w.heap.size + 1 + 1, 2, none⟩) (by show w.heap.size ≤ w.heap.size + 1 + 1; omega) (by show w.heap.size + 1 + 1 < w.heap.size + 3; omega) (.int .i64 u0)).setCell (p := ⟨w.heap.size + 1 + 1, 3, none⟩) (by show w.heap.size ≤ w.heap.size + 1 + 1; omega) (by show w.heap.size + 1 + 1 < w.heap.size + 3; omega) (.int .i64 u1)).setCell (p := ⟨w.heap.size + 1 + 1, 4, none⟩) (by show w.heap.size ≤ w.heap.size + 1 + 1; omega) (by show w.heap.size + 1 + 1 < w.heap.size + 3; omega) (.int .i64 u2)).setCell (p := ⟨w.heap.size + 1 + 1, 5, none⟩) (by show w.heap.size ≤ w.heap.size + 1 + 1; omega) (by show w.heap.size + 1 + 1 < w.heap.size + 3; omega) (.int .i64 u3))
  have hy3 := hM3.size
  have hsz3 : w.heap.size + 3 ≤ W3.heap.size := by have := hM3.size; omega
  have HB3 := Lib.hid ((HB2.out.trans (f3.mono HB2.out.size)).trans (hM3.below (Nat.le_refl _) (by omega)))
  have R1 := Lib.hid ((R1.out.keep (Same.of_below f3 (by omega))).keep (hM3.same (by omega) (.inr (by omega))))
  have R2 := Lib.hid ((R2.out.keep (Same.of_below f3 (by omega))).keep (hM3.same (by omega) (.inr (by omega))))
  have E3_1 : W3.heap[w.heap.size]? = some (.cells #[.slice pa pl pc, .slice pe pf pg, .int .i64 u0, .int .i64 u1, .int .i64 u2, .int .i64 u3, .slice px py pz] 41 (0, 0)) := by rw [← hW3]; simp [World.setCell, Array.getElem?_modify, show ¬ (w.heap.size + 1 + 1 = w.heap.size) from by omega, k1_3]
  have E3_2 : W3.heap[w.heap.size + 1]? = some (.cells #[.slice none 0 0, .slice none 0 0, .int .i64 0, .int .i64 0, .int .i64 0, .int .i64 0, .slice none 0 0] 30 (0, 0)) := by rw [← hW3]; simp [World.setCell, Array.getElem?_modify, k2_3]
  have E3_3 : W3.heap[w.heap.size + 1 + 1]? = some (.cells #[.slice qa ql qc, .slice qe qf qg, .int .i64 u0, .int .i64 u1, .int .i64 u2, .int .i64 u3, .slice none 0 0] 30 (0, 0)) := by rw [← hW3]; simp [World.setCell, Array.getElem?_modify, k3_3]
  have HW3 := Lib.hid hW3
  clear hM3 hW3 f3
  go_wp2_with fail
  rw [HW3.out]
  clear a3_6 s3_0 s3_1 s3_2 s3_3 z3_3 k1_3 k2_3 k3_3
  refine (HD.out _ HB3.out).mono ?_
  rintro e w4 ⟨v', rfl, hD4, f4⟩
  obtain ⟨qx, qy, qz, rfl⟩ : ∃ a l c, v' = .slice a l c := by obtain ⟨⟨a, cap, h, _⟩, _⟩ := hD4; exact ⟨a, _, cap, h⟩
  have k1_4 := blkN_below f4 E3_1
  have k2_4 := blkN_below f4 E3_2
  have k3_4 := blkN_below f4 E3_3
  have s4_0 : w4.cell? ⟨w.heap.size + 1 + 1, 6, none⟩ = some (.slice none 0 0) := by rw [Lib.cell_of_heap k3_4]; rfl
  have z4_3 : ∀ j, w4.frozen? ⟨w.heap.size + 1 + 1, j, none⟩ = false := fun j => Lib.frozen_of_heap k3_4 j
  have t0 : w4.cell? ⟨w.heap.size + 1 + 1, 0, none⟩ = some (.slice qa ql qc) := by rw [Lib.cell_of_heap k3_4]; rfl
  have t1 : w4.cell? ⟨w.heap.size + 1 + 1, 1, none⟩ = some (.slice qe qf qg) := by rw [Lib.cell_of_heap k3_4]; rfl
  have t2 : w4.cell? ⟨w.heap.size + 1 + 1, 2, none⟩ = some (.int .i64 u0) := by rw [Lib.cell_of_heap k3_4]; rfl
  have t3 : w4.cell? ⟨w.heap.size + 1 + 1, 3, none⟩ = some (.int .i64 u1) := by rw [Lib.cell_of_heap k3_4]; rfl
  have t4 : w4.cell? ⟨w.heap.size + 1 + 1, 4, none⟩ = some (.int .i64 u2) := by rw [Lib.cell_of_heap k3_4]; rfl
  have t5 : w4.cell? ⟨w.heap.size + 1 + 1, 5, none⟩ = some (.int .i64 u3) := by rw [Lib.cell_of_heap k3_4]; rfl
  have y0 : w4.cell? ⟨w.heap.size + 1, 0, none⟩ = some (.slice none 0 0) := by rw [Lib.cell_of_heap k2_4]; rfl
  have y1 : w4.cell? ⟨w.heap.size + 1, 1, none⟩ = some (.slice none 0 0) := by rw [Lib.cell_of_heap k2_4]; rfl
  have y2 : w4.cell? ⟨w.heap.size + 1, 2, none⟩ = some (.int .i64 0) := by rw [Lib.cell_of_heap k2_4]; rfl
  have y3 : w4.cell? ⟨w.heap.size + 1, 3, none⟩ = some (.int .i64 0) := by rw [Lib.cell_of_heap k2_4]; rfl
  have y4 : w4.cell? ⟨w.heap.size + 1, 4, none⟩ = some (.int .i64 0) := by rw [Lib.cell_of_heap k2_4]; rfl
  have y5 : w4.cell? ⟨w.heap.size + 1, 5, none⟩ = some (.int .i64 0) := by rw [Lib.cell_of_heap k2_4]; rfl
  have y6 : w4.cell? ⟨w.heap.size + 1, 6, none⟩ = some (.slice none 0 0) := by rw [Lib.cell_of_heap k2_4]; rfl
  have z4_2 : ∀ j, w4.frozen? ⟨w.heap.size + 1, j, none⟩ = false := fun j => Lib.frozen_of_heap k2_4 j
  have hz4 := f4.size
  obtain ⟨W4, hW4⟩ : ∃ W, ((((((((w4.setCell ⟨w.heap.size + 1 + 1, 6, none⟩ (.slice qx qy qz)).setCell ⟨w.heap.size + 1, 0, none⟩ (.slice qa ql qc)).setCell ⟨w.heap.size + 1, 1, none⟩ (.slice qe qf qg)).setCell ⟨w.heap.size + 1, 2, none⟩ (.int .i64 u0)).setCell ⟨w.heap.size + 1, 3, none⟩ (.int .i64 u1)).setCell ⟨w.heap.size + 1, 4, none⟩ (.int .i64 u2)).setCell ⟨w.heap.size + 1, 5, none⟩ (.int .i64 u3)).setCell ⟨w.heap.size + 1, 6, none⟩ (.slice qx qy qz)) = W := ⟨_, rfl⟩
  have hM4 : Mod w.heap.size (w.heap.size + 3) w4 W4 := by rw [← hW4]; exact (((((((((Mod.refl w.heap.size (w.heap.size + 3) w4).setCell (p := ⟨w.heap.size + 1 + 1, 6, none⟩) (by show w.heap.size ≤ w.heap.size + 1 + 1; omega) (by show w.heap.size + 1 + 1 < w.heap.size + 3; omega) (.slice qx qy qz)).setCell (p := ⟨w.heap.size + 1, 0, none⟩) (by show w.heap.size ≤ w.heap.size + 1; omega) (by show w.heap.size + 1 < w.heap.size + 3; omega) (.slice qa ql qc)).setCell (p := ⟨w.heap.size + 1, 1, none⟩) (by show w.heap.size ≤ w.heap.size + 1; omega) (by show w.heap.size + 1 < w.heap.size + 3; omega) (.slice qe qf qg)).setCell (p := ⟨w.heap.size + 1, 2, none⟩) (by show w.heap.size ≤ w.heap.size + 1; omega) (by show w.heap.size + 1 < w.heap.size + 3; omega) (.int .i64 u0)).setCell (p := ⟨w.heap.size + 1, 3, none⟩) (by show w.heap.size ≤ w.heap.size + 1; omega) (by show w.heap.size + 1 < w.heap.size + 3; omega) (.int .i64 u1)).setCell (p := ⟨w.heap.size + 1, 4, none⟩) (by show w.heap.size ≤ w.heap.size + 1; omega) (by show w.heap.size + 1 < w.heap.size + 3; omega) (.int .i64 u2)).setCell (p := ⟨w.heap.size + 1, 5, none⟩) (by show w.heap.size ≤ w.heap.size + 1; omega) (by show w.heap.size + 1 < w.heap.size + 3; omega) (.int .i64 u3)).setCell (p := ⟨w.heap.size + 1, 6, none⟩) (by show w.heap.size ≤ w.heap.size + 1; omega) (by show w.heap.size + 1 < w.heap.size + 3; omega) (.slice qx qy qz))
  have hy4 := hM4.size
  have hsz4 : w.heap.size + 3 ≤ W4.heap.size := by have := hM4.size; omega
  have HB4 := Lib.hid ((HB3.out.trans (f4.mono HB3.out.size)).trans (hM4.below (Nat.le_refl _) (by omega)))
  have R1 := Lib.hid ((R1.out.keep (Same.of_below f4 (by omega))).keep (hM4.same (by omega) (.inr (by omega))))
  have R2 := Lib.hid ((R2.out.keep (Same.of_below f4 (by omega))).keep (hM4.same (by omega) (.inr (by omega))))
  have R4 := Lib.hid (hD4.keep (hM4.same (Nat.le_refl _) (.inr (by omega))))
  have E4 : W4.heap[w.heap.size + 1]? = some (.cells #[.slice qa ql qc, .slice qe qf qg, .int .i64 u0, .int .i64 u1, .int .i64 u2, .int .i64 u3, .slice qx qy qz] 30 (0, 0)) := by rw [← hW4]; simp [World.setCell, Array.getElem?_modify, k2_4]
  have r0 : W4.cell? ⟨w.heap.size + 1, 0, none⟩ = some (.slice qa ql qc) := by rw [Lib.cell_of_heap E4]; rfl
  have r1 : W4.cell? ⟨w.heap.size + 1, 1, none⟩ = some (.slice qe qf qg) := by rw [Lib.cell_of_heap E4]; rfl
  have r2 : W4.cell? ⟨w.heap.size + 1, 2, none⟩ = some (.int .i64 u0) := by rw [Lib.cell_of_heap E4]; rfl
  have r3 : W4.cell? ⟨w.heap.size + 1, 3, none⟩ = some (.int .i64 u1) := by rw [Lib.cell_of_heap E4]; rfl
  have r4 : W4.cell? ⟨w.heap.size + 1, 4, none⟩ = some (.int .i64 u2) := by rw [Lib.cell_of_heap E4]; rfl
  have r5 : W4.cell? ⟨w.heap.size + 1, 5, none⟩ = some (.int .i64 u3) := by rw [Lib.cell_of_heap E4]; rfl
  have r6 : W4.cell? ⟨w.heap.size + 1, 6, none⟩ = some (.slice qx qy qz) := by rw [Lib.cell_of_heap E4]; rfl
  clear hM4 f4 hD4
  go_wp2
  try rw [hW4]
  exact bodyPost_ret (v := .agg #[.slice qa ql qc, .slice qe qf qg, .int .i64 u0, .int .i64 u1, .int .i64 u2, .int .i64 u3, .slice qx qy qz]) (by simp [results, Try.results12, go_sem, r0, r1, r2, r3, r4, r5, r6]) rfl ⟨⟨qa, ql, qc⟩, ⟨qe, qf, qg⟩, ⟨qx, qy, qz⟩, rfl, ⟨⟨_, _, _, R1.out.r⟩, ⟨_, _, _, R2.out.r⟩, ⟨_, _, R4.out.1⟩⟩, HB4.out⟩
set_option maxRecDepth 100000 in
set_option maxHeartbeats 4000000 in
theorem law_eqDesk2 (s g d s2 g2 d2 : SV) (D : DeskL) (w : World) (h : DeskR w s g d D) (h2 : DeskR w s2 g2 d2 D) :
    Calls Try.prog 7 #[.agg (deskC s g d D.spd).toArray, .agg (deskC s2 g2 d2 D.spd).toArray] w fun e w' => e = .returned (.bool true) ∧ Below w.heap.size w w' := by
  obtain ⟨rs, lo, hi, hs⟩ := h.site
  obtain ⟨rs2, lo2, hi2, hs2⟩ := h2.site
  obtain ⟨rg, lo3, hi3, hg⟩ := h.lifts
  obtain ⟨rg2, lo4, hi4, hg2⟩ := h2.lifts
  obtain ⟨lo5, hi5, hd⟩ := h.dirs
  obtain ⟨lo6, hi6, hd2⟩ := h2.dirs
  clear h h2
  have HE := Lib.hid (fun w' (hb : Below w.heap.size w w') => law_eqSite s s2 rs rs2 D.site lo hi lo2 hi2 w' (hs.ext hb) (hs2.ext hb))
  have HF := Lib.hid (fun w' (hb : Below w.heap.size w w') => law_eqLiftS g.v g2.v rg rg2 D.lifts lo3 hi3 lo4 hi4 w' (hg.ext hb) (hg2.ext hb))
  have HG := Lib.hid (fun w' (_ : Below w.heap.size w w') => law_eqSpeeds D.spd w')
  have HH := Lib.hid (fun w' (hb : Below w.heap.size w w') => law_eqInt64S d.v d2.v D.dirs lo5 hi5 lo6 hi6 w' (hd.ext hb) (hd2.ext hb))
  clear hs hs2 hg hg2 hd hd2
  obtain ⟨pa, pl, pc⟩ := s
  obtain ⟨pe, pf, pg⟩ := g
  obtain ⟨px, py, pz⟩ := d
  obtain ⟨qa, ql, qc⟩ := s2
  obtain ⟨qe, qf, qg⟩ := g2
  obtain ⟨qx, qy, qz⟩ := d2
  obtain ⟨DS, DG, ⟨u0, u1, u2, u3⟩, DD⟩ := D
  simp only [deskC, SV.v, Spd.cells] at *
  obtain ⟨WA, hWA, e1, e2, hBA, hzA⟩ := dkx2 w (.cells #[.slice pa pl pc, .slice pe pf pg, .int .i64 u0, .int .i64 u1, .int .i64 u2, .int .i64 u3, .slice px py pz] 30 (0, 0)) (.cells #[.slice qa ql qc, .slice qe qf qg, .int .i64 u0, .int .i64 u1, .int .i64 u2, .int .i64 u3, .slice qx qy qz] 30 (0, 0))
  have HWA := Lib.hid hWA
  have HB0 := Lib.hid hBA
  clear hWA hBA
  have c0 : WA.cell? ⟨w.heap.size, 0, none⟩ = some (.slice pa pl pc) := by rw [Lib.cell_of_heap e1]; rfl
  have c1 : WA.cell? ⟨w.heap.size, 1, none⟩ = some (.slice pe pf pg) := by rw [Lib.cell_of_heap e1]; rfl
  have c2 : WA.cell? ⟨w.heap.size, 2, none⟩ = some (.int .i64 u0) := by rw [Lib.cell_of_heap e1]; rfl
  have c3 : WA.cell? ⟨w.heap.size, 3, none⟩ = some (.int .i64 u1) := by rw [Lib.cell_of_heap e1]; rfl
  have c4 : WA.cell? ⟨w.heap.size, 4, none⟩ = some (.int .i64 u2) := by rw [Lib.cell_of_heap e1]; rfl
  have c5 : WA.cell? ⟨w.heap.size, 5, none⟩ = some (.int .i64 u3) := by rw [Lib.cell_of_heap e1]; rfl
  have c6 : WA.cell? ⟨w.heap.size, 6, none⟩ = some (.slice px py pz) := by rw [Lib.cell_of_heap e1]; rfl
  have d0 : WA.cell? ⟨w.heap.size + 1, 0, none⟩ = some (.slice qa ql qc) := by rw [Lib.cell_of_heap e2]; rfl
  have d1 : WA.cell? ⟨w.heap.size + 1, 1, none⟩ = some (.slice qe qf qg) := by rw [Lib.cell_of_heap e2]; rfl
  have d2 : WA.cell? ⟨w.heap.size + 1, 2, none⟩ = some (.int .i64 u0) := by rw [Lib.cell_of_heap e2]; rfl
  have d3 : WA.cell? ⟨w.heap.size + 1, 3, none⟩ = some (.int .i64 u1) := by rw [Lib.cell_of_heap e2]; rfl
  have d4 : WA.cell? ⟨w.heap.size + 1, 4, none⟩ = some (.int .i64 u2) := by rw [Lib.cell_of_heap e2]; rfl
  have d5 : WA.cell? ⟨w.heap.size + 1, 5, none⟩ = some (.int .i64 u3) := by rw [Lib.cell_of_heap e2]; rfl
  have d6 : WA.cell? ⟨w.heap.size + 1, 6, none⟩ = some (.slice qx qy qz) := by rw [Lib.cell_of_heap e2]; rfl
  go_enter Try.func7, Try.ntmps7
  go_wp2_with fail
  rw [HWA.out]
  refine (HE.out _ HB0.out).mono ?_
  rintro e w1 ⟨rfl, f1⟩
  have HB1 := Lib.hid (HB0.out.trans (f1.mono HB0.out.size))
  have p1 := blkN_below f1 e1
  have q1 := blkN_below f1 e2
  clear c0 d0 c1 d1 c2 d2 c3 d3 c4 d4 c5 d5 c6 d6
  have c0 : w1.cell? ⟨w.heap.size, 0, none⟩ = some (.slice pa pl pc) := by rw [Lib.cell_of_heap p1]; rfl
  have c1 : w1.cell? ⟨w.heap.size, 1, none⟩ = some (.slice pe pf pg) := by rw [Lib.cell_of_heap p1]; rfl
  have c2 : w1.cell? ⟨w.heap.size, 2, none⟩ = some (.int .i64 u0) := by rw [Lib.cell_of_heap p1]; rfl
  have c3 : w1.cell? ⟨w.heap.size, 3, none⟩ = some (.int .i64 u1) := by rw [Lib.cell_of_heap p1]; rfl
  have c4 : w1.cell? ⟨w.heap.size, 4, none⟩ = some (.int .i64 u2) := by rw [Lib.cell_of_heap p1]; rfl
  have c5 : w1.cell? ⟨w.heap.size, 5, none⟩ = some (.int .i64 u3) := by rw [Lib.cell_of_heap p1]; rfl
  have c6 : w1.cell? ⟨w.heap.size, 6, none⟩ = some (.slice px py pz) := by rw [Lib.cell_of_heap p1]; rfl
  have d0 : w1.cell? ⟨w.heap.size + 1, 0, none⟩ = some (.slice qa ql qc) := by rw [Lib.cell_of_heap q1]; rfl
  have d1 : w1.cell? ⟨w.heap.size + 1, 1, none⟩ = some (.slice qe qf qg) := by rw [Lib.cell_of_heap q1]; rfl
  have d2 : w1.cell? ⟨w.heap.size + 1, 2, none⟩ = some (.int .i64 u0) := by rw [Lib.cell_of_heap q1]; rfl
  have d3 : w1.cell? ⟨w.heap.size + 1, 3, none⟩ = some (.int .i64 u1) := by rw [Lib.cell_of_heap q1]; rfl
  have d4 : w1.cell? ⟨w.heap.size + 1, 4, none⟩ = some (.int .i64 u2) := by rw [Lib.cell_of_heap q1]; rfl
  have d5 : w1.cell? ⟨w.heap.size + 1, 5, none⟩ = some (.int .i64 u3) := by rw [Lib.cell_of_heap q1]; rfl
  have d6 : w1.cell? ⟨w.heap.size + 1, 6, none⟩ = some (.slice qx qy qz) := by rw [Lib.cell_of_heap q1]; rfl
  clear f1
  go_wp2_with fail
  refine (HF.out _ HB1.out).mono ?_
  rintro e w2 ⟨rfl, f2⟩
  have HB2 := Lib.hid (HB1.out.trans (f2.mono HB1.out.size))
  have p2 := blkN_below f2 p1
  have q2 := blkN_below f2 q1
  clear c0 d0 c1 d1 c2 d2 c3 d3 c4 d4 c5 d5 c6 d6
  have c0 : w2.cell? ⟨w.heap.size, 0, none⟩ = some (.slice pa pl pc) := by rw [Lib.cell_of_heap p2]; rfl
  have c1 : w2.cell? ⟨w.heap.size, 1, none⟩ = some (.slice pe pf pg) := by rw [Lib.cell_of_heap p2]; rfl
  have c2 : w2.cell? ⟨w.heap.size, 2, none⟩ = some (.int .i64 u0) := by rw [Lib.cell_of_heap p2]; rfl
  have c3 : w2.cell? ⟨w.heap.size, 3, none⟩ = some (.int .i64 u1) := by rw [Lib.cell_of_heap p2]; rfl
  have c4 : w2.cell? ⟨w.heap.size, 4, none⟩ = some (.int .i64 u2) := by rw [Lib.cell_of_heap p2]; rfl
  have c5 : w2.cell? ⟨w.heap.size, 5, none⟩ = some (.int .i64 u3) := by rw [Lib.cell_of_heap p2]; rfl
  have c6 : w2.cell? ⟨w.heap.size, 6, none⟩ = some (.slice px py pz) := by rw [Lib.cell_of_heap p2]; rfl
  have d0 : w2.cell? ⟨w.heap.size + 1, 0, none⟩ = some (.slice qa ql qc) := by rw [Lib.cell_of_heap q2]; rfl
  have d1 : w2.cell? ⟨w.heap.size + 1, 1, none⟩ = some (.slice qe qf qg) := by rw [Lib.cell_of_heap q2]; rfl
  have d2 : w2.cell? ⟨w.heap.size + 1, 2, none⟩ = some (.int .i64 u0) := by rw [Lib.cell_of_heap q2]; rfl
  have d3 : w2.cell? ⟨w.heap.size + 1, 3, none⟩ = some (.int .i64 u1) := by rw [Lib.cell_of_heap q2]; rfl
  have d4 : w2.cell? ⟨w.heap.size + 1, 4, none⟩ = some (.int .i64 u2) := by rw [Lib.cell_of_heap q2]; rfl
  have d5 : w2.cell? ⟨w.heap.size + 1, 5, none⟩ = some (.int .i64 u3) := by rw [Lib.cell_of_heap q2]; rfl
  have d6 : w2.cell? ⟨w.heap.size + 1, 6, none⟩ = some (.slice qx qy qz) := by rw [Lib.cell_of_heap q2]; rfl
  clear f2
  go_wp2_with fail
  refine (HG.out _ HB2.out).mono ?_
  rintro e w3 ⟨rfl, f3⟩
  have HB3 := Lib.hid (HB2.out.trans (f3.mono HB2.out.size))
  have p3 := blkN_below f3 p2
  have q3 := blkN_below f3 q2
  clear c0 d0 c1 d1 c2 d2 c3 d3 c4 d4 c5 d5 c6 d6
  have c0 : w3.cell? ⟨w.heap.size, 0, none⟩ = some (.slice pa pl pc) := by rw [Lib.cell_of_heap p3]; rfl
  have c1 : w3.cell? ⟨w.heap.size, 1, none⟩ = some (.slice pe pf pg) := by rw [Lib.cell_of_heap p3]; rfl
  have c2 : w3.cell? ⟨w.heap.size, 2, none⟩ = some (.int .i64 u0) := by rw [Lib.cell_of_heap p3]; rfl
  have c3 : w3.cell? ⟨w.heap.size, 3, none⟩ = some (.int .i64 u1) := by rw [Lib.cell_of_heap p3]; rfl
  have c4 : w3.cell? ⟨w.heap.size, 4, none⟩ = some (.int .i64 u2) := by rw [Lib.cell_of_heap p3]; rfl
  have c5 : w3.cell? ⟨w.heap.size, 5, none⟩ = some (.int .i64 u3) := by rw [Lib.cell_of_heap p3]; rfl
  have c6 : w3.cell? ⟨w.heap.size, 6, none⟩ = some (.slice px py pz) := by rw [Lib.cell_of_heap p3]; rfl
  have d0 : w3.cell? ⟨w.heap.size + 1, 0, none⟩ = some (.slice qa ql qc) := by rw [Lib.cell_of_heap q3]; rfl
  have d1 : w3.cell? ⟨w.heap.size + 1, 1, none⟩ = some (.slice qe qf qg) := by rw [Lib.cell_of_heap q3]; rfl
  have d2 : w3.cell? ⟨w.heap.size + 1, 2, none⟩ = some (.int .i64 u0) := by rw [Lib.cell_of_heap q3]; rfl
  have d3 : w3.cell? ⟨w.heap.size + 1, 3, none⟩ = some (.int .i64 u1) := by rw [Lib.cell_of_heap q3]; rfl
  have d4 : w3.cell? ⟨w.heap.size + 1, 4, none⟩ = some (.int .i64 u2) := by rw [Lib.cell_of_heap q3]; rfl
  have d5 : w3.cell? ⟨w.heap.size + 1, 5, none⟩ = some (.int .i64 u3) := by rw [Lib.cell_of_heap q3]; rfl
  have d6 : w3.cell? ⟨w.heap.size + 1, 6, none⟩ = some (.slice qx qy qz) := by rw [Lib.cell_of_heap q3]; rfl
  clear f3
  go_wp2_with fail
  refine (HH.out _ HB3.out).mono ?_
  rintro e w4 ⟨rfl, f4⟩
  have HB4 := Lib.hid (HB3.out.trans (f4.mono HB3.out.size))
  go_wp2
  go_ret
  exact ⟨rfl, HB4.out⟩
end Go.Proofs.Ytimggihbldeleaa
