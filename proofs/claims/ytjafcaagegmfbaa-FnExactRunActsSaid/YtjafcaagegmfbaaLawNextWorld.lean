/- The law FnExactNextWorld. -/
import Derived.Test.YtjafcaagegmfbaaNext
import Derived.Test.YtjafcaagegmfbaaOpenB
import Derived.Test.YtjafcaagegmfbaaLawS
import Derived.Handy
namespace Go.Proofs.Ytjafcaagegmfbaa
open Go.RowKit

theorem blk_below {W W' : World} {p : Nat} {o : Obj} (hb : Below W.heap.size W W') (h : W.heap[p]? = some o) : W'.heap[p]? = some o := (hb.block p (Array.getElem?_eq_some_iff.1 h).1).trans h
theorem blk_here {W : World} {o : Obj} : (W.alloc o).heap[W.heap.size]? = some o := Array.getElem?_push_size
theorem six {V wE : World} {p : Nat} {a1 a2 a3 a4 a5 a6 : Value} {T : TypeId} {fz : Nat × Nat} (hw : ((((((V.setCell ⟨p, 0, none⟩ a1).setCell ⟨p, 1, none⟩ a2).setCell ⟨p, 2, none⟩ a3).setCell ⟨p, 3, none⟩ a4).setCell ⟨p, 4, none⟩ a5).setCell ⟨p, 5, none⟩ a6) = wE)
    (h : V.heap[p]? = some (.cells #[.int .i64 0, .int .i64 0, .int .i64 0, .int .i64 0, .int .i64 0, .int .i64 0] T fz)) : wE.heap[p]? = some (.cells #[a1, a2, a3, a4, a5, a6] T fz) := by
  subst hw
  simp [World.setCell, Array.getElem?_modify, h]
set_option maxRecDepth 100000 in
set_option maxHeartbeats 8000000 in
theorem law_NextWorld {vT vV vW vX : Value} (L : List (List Bool)) (v : Wtc) (x : Wld) (y : Act1) (w : World) (hL : ∃ rows, SSr 1 boolCells 0 w.heap.size w vT rows L) (hV : vV = .agg v.cells.toArray ∧ v.wf) (hW : vW = .agg x.cells.toArray ∧ x.wf) (hX : vX = .agg y.cells.toArray ∧ y.wf) :
    Calls Try.prog 4 #[vT, vV, vW, vX] w fun e w' => e = .returned (.bool true) ∧ Below w.heap.size w w' := by
  obtain ⟨rows, h0⟩ := hL
  obtain ⟨rfl, -⟩ := hV
  obtain ⟨rfl, -⟩ := hW
  obtain ⟨rfl, -⟩ := hX
  have hsz := Lib.hid (fun w' (hb : Below w.heap.size w w') => law_szBoolSS vT rows L 0 w.heap.size 1048576 w' (h0.ext hb) (by omega) (by omega))
  have hB0 : ∀ A B C : Obj, Below w.heap.size w (((w.alloc A).alloc B).alloc C) := fun A B C => (((Below.refl _ w).alloc (Nat.le_refl _) _).alloc (by simp) _).alloc (by simp; omega) _
  have HB0 := Lib.hid hB0
  clear hB0
  have hN1 := Lib.hid (fun tv rows lo hi w h => spec_NextWorld tv rows L lo hi v x y w h)
  have hN2 := Lib.hid (fun tv rows lo hi w h => impl_NextWorld tv rows L lo hi v x y w h)
  have hV := fun w => law_toWatch v w
  have hW := fun w => law_toWorld x w
  have hX := fun w => law_toAct y w
  have hE := fun w => law_eqWorld (nextW L v x y).1 w
  generalize hR : nextW L v x y = R at *
  clear hR
  obtain ⟨⟨r1, r2, r3, r4, r5, r6⟩, rc⟩ := R
  obtain ⟨m, t⟩ := v
  obtain ⟨a, b, sa, sb, ga, gb⟩ := x
  obtain ⟨tA, tB, lA, lB⟩ := y
  simp only [Wtc.cells, Wld.cells, Act1.cells] at *
  have HV := Lib.hid hV
  have HW := Lib.hid hW
  have HX := Lib.hid hX
  have HE := Lib.hid hE
  have H0 := Lib.hid h0
  clear h0 hV hW hX hE
  go_enter Try.func4, Try.ntmps4
  go_wp2_with fail
  refine (hsz.out _ (HB0.out _ _ _)).mono ?_
  rintro e w1 ⟨rfl, b1⟩
  have B1 : Below w.heap.size w w1 := (HB0.out _ _ _).trans (b1.mono (by simp <;> omega))
  have q1 := (bcell b1).1
  have za1 : w.heap.size < w1.heap.size := Nat.lt_of_lt_of_le (by simp <;> omega) b1.size
  have zb1 : w.heap.size + 1 < w1.heap.size := Nat.lt_of_lt_of_le (by simp <;> omega) b1.size
  have zc1 : w.heap.size + 1 + 1 < w1.heap.size := Nat.lt_of_lt_of_le (by simp <;> omega) b1.size
  by_cases hq : (1048576 : Int) < ((L.length + totSS L : Nat) : Int)
  · rw [szRes_lt hq]
    clear hq
    go_wp2
    go_ret
    exact ⟨rfl, B1⟩
  rw [szRes_ge hq]
  have Hn : Hid (L.length + totSS L ≤ 1048576) := Lib.hid (by omega)
  have hge : decide ((1048576 : Int) - ((L.length + totSS L : Nat) : Int) < 0) = false := decide_eq_false (by omega)
  have HT := Lib.hid (fun w' (hb : Below w.heap.size w w') => law_toBoolSS vT rows L 0 w.heap.size w' (H0.out.ext hb) Hn.out)
  generalize ((L.length + totSS L : Nat) : Int) = nn at *
  clear hq
  go_wp2_with fail
  have c00 : w1.cell? ⟨w.heap.size, 0, none⟩ = some (.int .i64 m) := by simp [q1, go_sem]
  have c01 : w1.cell? ⟨w.heap.size, 1, none⟩ = some (.int .i64 t) := by simp [q1, go_sem]
  have c10 : w1.cell? ⟨w.heap.size + 1, 0, none⟩ = some (.int .i64 a) := by simp [q1, go_sem]
  have c11 : w1.cell? ⟨w.heap.size + 1, 1, none⟩ = some (.int .i64 b) := by simp [q1, go_sem]
  have c12 : w1.cell? ⟨w.heap.size + 1, 2, none⟩ = some (.int .i64 sa) := by simp [q1, go_sem]
  have c13 : w1.cell? ⟨w.heap.size + 1, 3, none⟩ = some (.int .i64 sb) := by simp [q1, go_sem]
  have c14 : w1.cell? ⟨w.heap.size + 1, 4, none⟩ = some (.int .i64 ga) := by simp [q1, go_sem]
  have c15 : w1.cell? ⟨w.heap.size + 1, 5, none⟩ = some (.int .i64 gb) := by simp [q1, go_sem]
  have c20 : w1.cell? ⟨w.heap.size + 1 + 1, 0, none⟩ = some (.int .i64 tA) := by simp [q1, go_sem]
  have c21 : w1.cell? ⟨w.heap.size + 1 + 1, 1, none⟩ = some (.int .i64 tB) := by simp [q1, go_sem]
  have c22 : w1.cell? ⟨w.heap.size + 1 + 1, 2, none⟩ = some (.bool lA) := by simp [q1, go_sem]
  have c23 : w1.cell? ⟨w.heap.size + 1 + 1, 3, none⟩ = some (.bool lB) := by simp [q1, go_sem]
  clear q1 b1
  rename_i Qx Kx hKx
  have key : ∀ (u1 u2 u3 u4 u8 u9 u12 u13 u14 u15 u16 u17 u18 u19 u20 u21 u22 u23 u24 u25 u26 u27 u28 u29 u30 u31 u32 u33 u34 u35 u36 u37 u38 u39 u40 u41 u42 u43 u44 u45 u46 u47 u48 u49 u50 u51 u52 u53 u54 u55 u56 u57 u58 : Value) (p : Nat) (W : World), W.heap[p]? = some (.cells #[.int .i64 r1, .int .i64 r2, .int .i64 r3, .int .i64 r4, .int .i64 r5, .int .i64 r6] 30 (0, 0)) → Below w1.heap.size w1 W → Kx { tmps := #[vT, u1, u2, u3, u4, .pointer (some ⟨w.heap.size, 0, none⟩), .pointer (some ⟨w.heap.size + 1, 0, none⟩), .pointer (some ⟨w.heap.size + 1 + 1, 0, none⟩), u8, u9, .pointer (some ⟨p, 0, none⟩), .int .i64 rc, u12, u13, u14, u15, u16, u17, u18, u19, u20, u21, u22, u23, u24, u25, u26, u27, u28, u29, u30, u31, u32, u33, u34, u35, u36, u37, u38, u39, u40, u41, u42, u43, u44, u45, u46, u47, u48, u49, u50, u51, u52, u53, u54, u55, u56, u57, u58], defers := [] } W := by
    intro u1 u2 u3 u4 u8 u9 u12 u13 u14 u15 u16 u17 u18 u19 u20 u21 u22 u23 u24 u25 u26 u27 u28 u29 u30 u31 u32 u33 u34 u35 u36 u37 u38 u39 u40 u41 u42 u43 u44 u45 u46 u47 u48 u49 u50 u51 u52 u53 u54 u55 u56 u57 u58 p W hp0 bW
    refine hKx _ _ ?_
    have BW : Below w.heap.size w W := B1.trans (bW.mono B1.size)
    go_wp2_with fail
    refine (HT.out W BW).mono ?_
    rintro e w7 ⟨v7, rows7, rfl, s7, b7'⟩
    have hp := blk_below b7' hp0
    have hpl := (Array.getElem?_eq_some_iff.1 hp).1
    have B17 : Below w1.heap.size w1 w7 := bW.trans (b7'.mono bW.size)
    have z17 := B17.size
    have c00 := (B17.cell (p := ⟨w.heap.size, 0, none⟩) za1).trans c00
    have c01 := (B17.cell (p := ⟨w.heap.size, 1, none⟩) za1).trans c01
    have c10 := (B17.cell (p := ⟨w.heap.size + 1, 0, none⟩) zb1).trans c10
    have c11 := (B17.cell (p := ⟨w.heap.size + 1, 1, none⟩) zb1).trans c11
    have c12 := (B17.cell (p := ⟨w.heap.size + 1, 2, none⟩) zb1).trans c12
    have c13 := (B17.cell (p := ⟨w.heap.size + 1, 3, none⟩) zb1).trans c13
    have c14 := (B17.cell (p := ⟨w.heap.size + 1, 4, none⟩) zb1).trans c14
    have c15 := (B17.cell (p := ⟨w.heap.size + 1, 5, none⟩) zb1).trans c15
    have c20 := (B17.cell (p := ⟨w.heap.size + 1 + 1, 0, none⟩) zc1).trans c20
    have c21 := (B17.cell (p := ⟨w.heap.size + 1 + 1, 1, none⟩) zc1).trans c21
    have c22 := (B17.cell (p := ⟨w.heap.size + 1 + 1, 2, none⟩) zc1).trans c22
    have c23 := (B17.cell (p := ⟨w.heap.size + 1 + 1, 3, none⟩) zc1).trans c23
    have Hp := Lib.hid hp
    have t7 := Lib.hid s7.r
    have bB := B1.trans (B17.mono B1.size)
    have W7 := Lib.hid b7'.size
    clear s7 b7' hp hp0 BW bW
    have y0 : w.heap.size < w7.heap.size := by omega
    have y1 : w.heap.size + 1 < w7.heap.size := by omega
    have y2 : w.heap.size + 1 + 1 < w7.heap.size := by omega
    have z7 : w7.heap.size ≤ w7.heap.size := Nat.le_refl _
    go_wp2_with fail
    rename_i Ky hKy
    have key2 : ∀ (x1 x2 x3 x4 x8 x9 x15 x16 x17 x18 x19 x20 x21 x22 x23 x24 x25 x26 x27 x28 x29 x30 x31 x32 x33 x34 x35 x36 x37 x38 x39 x40 x41 x42 x43 x44 x45 x46 x47 x48 x49 x50 x51 x52 x53 x54 x55 x56 x57 x58 : Value) (p2 : Nat) (WF : World), WF.heap[p2]? = some (.cells #[.int .i64 r1, .int .i64 r2, .int .i64 r3, .int .i64 r4, .int .i64 r5, .int .i64 r6] 30 (0, 0)) → Below w7.heap.size w7 WF → Ky { tmps := #[vT, x1, x2, x3, x4, .pointer (some ⟨w.heap.size, 0, none⟩), .pointer (some ⟨w.heap.size + 1, 0, none⟩), .pointer (some ⟨w.heap.size + 1 + 1, 0, none⟩), x8, x9, .pointer (some ⟨p, 0, none⟩), .int .i64 rc, v7, .pointer (some ⟨p2, 0, none⟩), .int .i64 rc, x15, x16, x17, x18, x19, x20, x21, x22, x23, x24, x25, x26, x27, x28, x29, x30, x31, x32, x33, x34, x35, x36, x37, x38, x39, x40, x41, x42, x43, x44, x45, x46, x47, x48, x49, x50, x51, x52, x53, x54, x55, x56, x57, x58], defers := [] } WF := by
      intro x1 x2 x3 x4 x8 x9 x15 x16 x17 x18 x19 x20 x21 x22 x23 x24 x25 x26 x27 x28 x29 x30 x31 x32 x33 x34 x35 x36 x37 x38 x39 x40 x41 x42 x43 x44 x45 x46 x47 x48 x49 x50 x51 x52 x53 x54 x55 x56 x57 x58 p2 WF g2 bF
      have g1 := (bF.block p hpl).trans Hp.out
      refine hKy _ _ ?_
      have BF : Below w.heap.size w WF := bB.trans (bF.mono bB.size)
      have e0 : WF.cell? ⟨p2, 0, none⟩ = some (.int .i64 r1) := by rw [Lib.cell_of_heap g2]; rfl
      have k0 : WF.cell? ⟨p, 0, none⟩ = some (.int .i64 r1) := by rw [Lib.cell_of_heap g1]; rfl
      have e1 : WF.cell? ⟨p2, 1, none⟩ = some (.int .i64 r2) := by rw [Lib.cell_of_heap g2]; rfl
      have k1 : WF.cell? ⟨p, 1, none⟩ = some (.int .i64 r2) := by rw [Lib.cell_of_heap g1]; rfl
      have e2 : WF.cell? ⟨p2, 2, none⟩ = some (.int .i64 r3) := by rw [Lib.cell_of_heap g2]; rfl
      have k2 : WF.cell? ⟨p, 2, none⟩ = some (.int .i64 r3) := by rw [Lib.cell_of_heap g1]; rfl
      have e3 : WF.cell? ⟨p2, 3, none⟩ = some (.int .i64 r4) := by rw [Lib.cell_of_heap g2]; rfl
      have k3 : WF.cell? ⟨p, 3, none⟩ = some (.int .i64 r4) := by rw [Lib.cell_of_heap g1]; rfl
      have e4 : WF.cell? ⟨p2, 4, none⟩ = some (.int .i64 r5) := by rw [Lib.cell_of_heap g2]; rfl
      have k4 : WF.cell? ⟨p, 4, none⟩ = some (.int .i64 r5) := by rw [Lib.cell_of_heap g1]; rfl
      have e5 : WF.cell? ⟨p2, 5, none⟩ = some (.int .i64 r6) := by rw [Lib.cell_of_heap g2]; rfl
      have k5 : WF.cell? ⟨p, 5, none⟩ = some (.int .i64 r6) := by rw [Lib.cell_of_heap g1]; rfl
      clear g1 g2
      go_wp2_with fail
      refine (HE.out _).mono ?_
      rintro e w12 ⟨rfl, b12⟩
      have B12 := BF.trans (b12.mono BF.size)
      have t12 := Lib.hid ((t7.out.below (B := w7.heap.size) bF (Nat.le_refl _)).ext b12)
      go_wp2_with fail
      refine (HT.out _ B12).mono ?_
      rintro e w13 ⟨v13, rows13, rfl, s13, b13⟩
      have B13 := B12.trans (b13.mono B12.size)
      go_wp2_with fail
      refine (law_eqBoolSS _ _ _ _ L _ _ _ _ _ (t12.out.ext b13) s13.r).mono ?_
      rintro e w14 ⟨rfl, b14⟩
      have B14 := B13.trans (b14.mono B13.size)
      go_wp2
      go_ret
      exact ⟨rfl, B14⟩
    trace "KEY2"
    go_region_held3 (fun w' => (∀ b' o', b' < w7.heap.size → w'.cell? ⟨b', o', none⟩ = w7.cell? ⟨b', o', none⟩) ∧ Below w7.heap.size w7 w') (first | (refine heldB ?_; go_grown; done))
      (first | (go_at_call 22; refine (HV.out _).mono ?_; rintro e w8 ⟨rfl, b8'⟩; have b8 : Below w7.heap.size w7 w8 := Below.trans (by go_grown) (b8'.mono (by go_size)); have z8 := b8.size; have q8 := (bcell b8').1; have f8 := (bcell b8').2; have hz8_8 := fun (k : Nat) (h : k < _) => Nat.lt_of_lt_of_le h b8'.size) | (go_at_call 23; refine (HW.out _).mono ?_; rintro e w9 ⟨rfl, b9'⟩; have b9 : Below w7.heap.size w7 w9 := Below.trans (by go_grown) (b9'.mono (by go_size)); have z9 := b9.size; have q9 := (bcell b9').1; have f9 := (bcell b9').2; have hz9_9 := fun (k : Nat) (h : k < _) => Nat.lt_of_lt_of_le h b9'.size; have m9 : w8.heap.size ≤ w9.heap.size := Nat.le_trans (by go_size) b9'.size; have hz9_8 := fun k h => Nat.lt_of_lt_of_le (hz8_8 k h) m9) | (go_at_call 24; refine (HX.out _).mono ?_; rintro e w10 ⟨rfl, b10'⟩; have b10 : Below w7.heap.size w7 w10 := Below.trans (by go_grown) (b10'.mono (by go_size)); have z10 := b10.size; have q10 := (bcell b10').1; have f10 := (bcell b10').2; have hz10_10 := fun (k : Nat) (h : k < _) => Nat.lt_of_lt_of_le h b10'.size; have m10 : w9.heap.size ≤ w10.heap.size := Nat.le_trans (by go_size) b10'.size; have hz10_8 := fun k h => Nat.lt_of_lt_of_le (hz9_8 k h) m10; have hz10_9 := fun k h => Nat.lt_of_lt_of_le (hz9_9 k h) m10) | (go_at_call 25; refine (hN2.out _ _ _ _ _ (t7.out.below (B := w7.heap.size) ?hb (Nat.le_refl _))).mono ?_; (case hb => go_grown); rintro e w11 ⟨rfl, b11'⟩; have b11 : Below w7.heap.size w7 w11 := Below.trans (by go_grown) (b11'.mono (by go_size)); have z11 := b11.size; have q11 := (bcell b11').1; have f11 := (bcell b11').2; have hz11_11 := fun (k : Nat) (h : k < _) => Nat.lt_of_lt_of_le h b11'.size; have m11 : w10.heap.size ≤ w11.heap.size := Nat.le_trans (by go_size) b11'.size; have hz11_8 := fun k h => Nat.lt_of_lt_of_le (hz10_8 k h) m11; have hz11_9 := fun k h => Nat.lt_of_lt_of_le (hz10_9 k h) m11; have hz11_10 := fun k h => Nat.lt_of_lt_of_le (hz10_10 k h) m11) | (trace_state; fail))
    · simp only [Exit.then]
      exact key2 _ _ _ _ _ _ _ _ _ _ _ _ _ _ _ _ _ _ _ _ _ _ _ _ _ _ _ _ _ _ _ _ _ _ _ _ _ _ _ _ _ _ _ _ _ _ _ _ _ _ _ _ blk_here (by go_grown)
    all_goals
      simp only [Exit.then]
      refine key2 _ _ _ _ _ _ _ _ _ _ _ _ _ _ _ _ _ _ _ _ _ _ _ _ _ _ _ _ _ _ _ _ _ _ _ _ _ _ _ _ _ _ _ _ _ _ _ _ _ _ _ _ (six rfl ?hv) ?hb
      case hv => first | exact blk_here | (refine blk_below b11' ?_; first | exact blk_here | (refine blk_below b10' ?_; first | exact blk_here | (refine blk_below b9' ?_; first | exact blk_here | (refine blk_below b8' ?_; exact blk_here))))
      case hb => go_grown
  have z1 : w1.heap.size ≤ w1.heap.size := Nat.le_refl _
  go_region_held3 (fun w' => (∀ b' o', b' < w1.heap.size → w'.cell? ⟨b', o', none⟩ = w1.cell? ⟨b', o', none⟩) ∧ Below w1.heap.size w1 w') (first | (refine heldB ?_; go_grown; done))
    (first | (go_at_call 21; refine (HT.out _ ?hb).mono ?_; (case hb => go_grown); rintro e w2 ⟨v2, rows2, rfl, s2, b2'⟩; have b2 : Below w1.heap.size w1 w2 := Below.trans (by go_grown) (b2'.mono (by go_size)); have z2 := b2.size; have q2 := (bcell b2').1; have f2 := (bcell b2').2; have hz2_2 := fun (k : Nat) (h : k < _) => Nat.lt_of_lt_of_le h b2'.size; have t2 := Lib.hid s2.r; clear s2) | (go_at_call 22; refine (HV.out _).mono ?_; rintro e w3 ⟨rfl, b3'⟩; have b3 : Below w1.heap.size w1 w3 := Below.trans (by go_grown) (b3'.mono (by go_size)); have z3 := b3.size; have q3 := (bcell b3').1; have f3 := (bcell b3').2; have hz3_3 := fun (k : Nat) (h : k < _) => Nat.lt_of_lt_of_le h b3'.size; have m3 : w2.heap.size ≤ w3.heap.size := Nat.le_trans (by go_size) b3'.size; have hz3_2 := fun k h => Nat.lt_of_lt_of_le (hz2_2 k h) m3; have d3 : Below w2.heap.size w2 w3 := Below.trans (by go_grown) (b3'.mono (by go_size)); have dz3 := d3.size) | (go_at_call 23; refine (HW.out _).mono ?_; rintro e w4 ⟨rfl, b4'⟩; have b4 : Below w1.heap.size w1 w4 := Below.trans (by go_grown) (b4'.mono (by go_size)); have z4 := b4.size; have q4 := (bcell b4').1; have f4 := (bcell b4').2; have hz4_4 := fun (k : Nat) (h : k < _) => Nat.lt_of_lt_of_le h b4'.size; have m4 : w3.heap.size ≤ w4.heap.size := Nat.le_trans (by go_size) b4'.size; have hz4_2 := fun k h => Nat.lt_of_lt_of_le (hz3_2 k h) m4; have hz4_3 := fun k h => Nat.lt_of_lt_of_le (hz3_3 k h) m4; have d4 : Below w2.heap.size w2 w4 := Below.trans (by go_grown) (b4'.mono (by go_size)); have dz4 := d4.size) | (go_at_call 24; refine (HX.out _).mono ?_; rintro e w5 ⟨rfl, b5'⟩; have b5 : Below w1.heap.size w1 w5 := Below.trans (by go_grown) (b5'.mono (by go_size)); have z5 := b5.size; have q5 := (bcell b5').1; have f5 := (bcell b5').2; have hz5_5 := fun (k : Nat) (h : k < _) => Nat.lt_of_lt_of_le h b5'.size; have m5 : w4.heap.size ≤ w5.heap.size := Nat.le_trans (by go_size) b5'.size; have hz5_2 := fun k h => Nat.lt_of_lt_of_le (hz4_2 k h) m5; have hz5_3 := fun k h => Nat.lt_of_lt_of_le (hz4_3 k h) m5; have hz5_4 := fun k h => Nat.lt_of_lt_of_le (hz4_4 k h) m5; have d5 : Below w2.heap.size w2 w5 := Below.trans (by go_grown) (b5'.mono (by go_size)); have dz5 := d5.size) | (go_at_call 17; refine (hN1.out _ _ _ _ _ (t2.out.below (B := w2.heap.size) ?hb (Nat.le_refl _))).mono ?_; (case hb => go_grown); rintro e w6 ⟨rfl, b6'⟩; have b6 : Below w1.heap.size w1 w6 := Below.trans (by go_grown) (b6'.mono (by go_size)); have z6 := b6.size; have q6 := (bcell b6').1; have f6 := (bcell b6').2; have hz6_6 := fun (k : Nat) (h : k < _) => Nat.lt_of_lt_of_le h b6'.size; have m6 : w5.heap.size ≤ w6.heap.size := Nat.le_trans (by go_size) b6'.size; have hz6_2 := fun k h => Nat.lt_of_lt_of_le (hz5_2 k h) m6; have hz6_3 := fun k h => Nat.lt_of_lt_of_le (hz5_3 k h) m6; have hz6_4 := fun k h => Nat.lt_of_lt_of_le (hz5_4 k h) m6; have hz6_5 := fun k h => Nat.lt_of_lt_of_le (hz5_5 k h) m6) | (trace_state; fail))
  · simp only [Exit.then]
    exact key _ _ _ _ _ _ _ _ _ _ _ _ _ _ _ _ _ _ _ _ _ _ _ _ _ _ _ _ _ _ _ _ _ _ _ _ _ _ _ _ _ _ _ _ _ _ _ _ _ _ _ _ _ _ _ blk_here (by go_grown)
  all_goals
    simp only [Exit.then]
    refine key _ _ _ _ _ _ _ _ _ _ _ _ _ _ _ _ _ _ _ _ _ _ _ _ _ _ _ _ _ _ _ _ _ _ _ _ _ _ _ _ _ _ _ _ _ _ _ _ _ _ _ _ _ _ _ (six rfl ?hv) ?hb
    case hv => first | exact blk_here | (refine blk_below b6' ?_; first | exact blk_here | (refine blk_below b5' ?_; first | exact blk_here | (refine blk_below b4' ?_; first | exact blk_here | (refine blk_below b3' ?_; first | exact blk_here | (refine blk_below b2' ?_; exact blk_here)))))
    case hb => go_grown
end Go.Proofs.Ytjafcaagegmfbaa
