/- The law FnExactRunActs. -/
import Derived.Test.YtjafcaagegmfbaaRunZ
import Derived.Test.YtjafcaagegmfbaaLawNextWorld
namespace Go.Proofs.Ytjafcaagegmfbaa
open Go.RowKit

set_option maxRecDepth 100000 in
set_option maxHeartbeats 16000000 in
theorem law_RunActs {vT vV vW vL : Value} (tT : List (List Bool)) (xV : Wtc) (xW : Wld) (lL : List Act1) (w : World) (hT : ∃ rows, SSr 1 boolCells 0 w.heap.size w vT rows tT) (hV : vV = .agg xV.cells.toArray ∧ xV.wf) (hW : vW = .agg xW.cells.toArray ∧ xW.wf) (hL : Sl 4 Act1.cells 0 w.heap.size w vL lL ∧ ∀ x ∈ lL, x.wf) :
    Calls Try.prog 5 #[vT, vV, vW, vL] w fun e w' => e = .returned (.bool true) ∧ Below w.heap.size w w' := by
  obtain ⟨rowsT, rT⟩ := hT
  obtain ⟨rfl, -⟩ := hV
  obtain ⟨rfl, -⟩ := hW
  obtain ⟨rL, wfL⟩ := hL
  have hB0 : ∀ A B : Obj, Below w.heap.size w ((w.alloc A).alloc B) := fun A B => (((Below.refl _ w).alloc (Nat.le_refl _) _).alloc (by simp) _)
  have HB0 := Lib.hid hB0
  clear hB0
  have hN1 := Lib.hid (fun w tv lv rows lo hi lo2 hi2 h hl hlen => spec_RunActs tv lv rows tT lo hi lo2 hi2 xV xW lL w h hl hlen)
  have hN2 := Lib.hid (fun w tv lv rows lo hi lo2 hi2 h hl hlen => impl_RunActs tv lv rows tT lo hi lo2 hi2 xV xW lL w h hl hlen)
  have hV := fun w => law_toWatch xV w
  have hW := fun w => law_toWorld xW w
  have hE := fun w => law_eqWorld (runActs tT xV xW lL).1 w
  generalize hR : runActs tT xV xW lL = R at *
  clear hR
  obtain ⟨⟨r1, r2, r3, r4, r5, r6⟩, rc1, rc2⟩ := R
  obtain ⟨vv0, vv1⟩ := xV
  obtain ⟨ww0, ww1, ww2, ww3, ww4, ww5⟩ := xW
  simp only [Wld.cells, Wtc.cells] at *
  have HV := Lib.hid hV
  have HW := Lib.hid hW
  have HE := Lib.hid hE
  have RT := Lib.hid rT
  have RL := Lib.hid rL
  have WFL := Lib.hid wfL
  clear hE hV hW rT rL wfL
  go_enter Try.func5, Try.ntmps5
  go_wp2_with fail
  refine (law_szBoolSS vT rowsT tT 0 w.heap.size (1048576) _ (RT.out.ext ?hb) (by omega) (by omega)).mono ?_
  case hb => exact (HB0.out _ _)
  rintro e w1 ⟨rfl, b1⟩
  have B1 : Below w.heap.size w w1 := (HB0.out _ _).trans (b1.mono (by simp <;> omega))
  have q1 := (bcell b1).1
  have za1_0 : w.heap.size < w1.heap.size := Nat.lt_of_lt_of_le (by simp <;> omega) b1.size
  have za1_1 : w.heap.size + 1 < w1.heap.size := Nat.lt_of_lt_of_le (by simp <;> omega) b1.size
  have c0_0 : w1.cell? ⟨w.heap.size, 0, none⟩ = some (.int .i64 vv0) := by simp [q1, go_sem]
  have c0_1 : w1.cell? ⟨w.heap.size, 1, none⟩ = some (.int .i64 vv1) := by simp [q1, go_sem]
  have c1_0 : w1.cell? ⟨w.heap.size + 1, 0, none⟩ = some (.int .i64 ww0) := by simp [q1, go_sem]
  have c1_1 : w1.cell? ⟨w.heap.size + 1, 1, none⟩ = some (.int .i64 ww1) := by simp [q1, go_sem]
  have c1_2 : w1.cell? ⟨w.heap.size + 1, 2, none⟩ = some (.int .i64 ww2) := by simp [q1, go_sem]
  have c1_3 : w1.cell? ⟨w.heap.size + 1, 3, none⟩ = some (.int .i64 ww3) := by simp [q1, go_sem]
  have c1_4 : w1.cell? ⟨w.heap.size + 1, 4, none⟩ = some (.int .i64 ww4) := by simp [q1, go_sem]
  have c1_5 : w1.cell? ⟨w.heap.size + 1, 5, none⟩ = some (.int .i64 ww5) := by simp [q1, go_sem]
  clear q1 b1
  by_cases hq1 : 1048576 < ((tT.length + totSS tT : Nat) : Int)
  · rw [szRes_lt hq1]
    clear hq1
    go_wp2
    go_ret
    exact ⟨rfl, B1⟩
  rw [szRes_ge hq1]
  have hge1 : decide (1048576 - ((tT.length + totSS tT : Nat) : Int) < 0) = false := decide_eq_false (by omega)
  go_wp2_with fail
  refine (law_szActS vL lL 0 w.heap.size (1048576 - ((tT.length + totSS tT : Nat) : Int)) _ (RL.out.ext ?hb) WFL.out (by omega) (by omega)).mono ?_
  case hb => exact B1
  rintro e w2 ⟨rfl, b2⟩
  have B2 : Below w.heap.size w w2 := B1.trans (b2.mono B1.size)
  have za2_0 : w.heap.size < w2.heap.size := Nat.lt_of_lt_of_le za1_0 b2.size
  have za2_1 : w.heap.size + 1 < w2.heap.size := Nat.lt_of_lt_of_le za1_1 b2.size
  have c0_0 := (b2.cell (p := ⟨w.heap.size, 0, none⟩) za1_0).trans c0_0
  have c0_1 := (b2.cell (p := ⟨w.heap.size, 1, none⟩) za1_0).trans c0_1
  have c1_0 := (b2.cell (p := ⟨w.heap.size + 1, 0, none⟩) za1_1).trans c1_0
  have c1_1 := (b2.cell (p := ⟨w.heap.size + 1, 1, none⟩) za1_1).trans c1_1
  have c1_2 := (b2.cell (p := ⟨w.heap.size + 1, 2, none⟩) za1_1).trans c1_2
  have c1_3 := (b2.cell (p := ⟨w.heap.size + 1, 3, none⟩) za1_1).trans c1_3
  have c1_4 := (b2.cell (p := ⟨w.heap.size + 1, 4, none⟩) za1_1).trans c1_4
  have c1_5 := (b2.cell (p := ⟨w.heap.size + 1, 5, none⟩) za1_1).trans c1_5
  clear b2
  by_cases hq2 : 1048576 - ((tT.length + totSS tT : Nat) : Int) < szAct1 lL
  · rw [szRes_lt hq2]
    clear hq2
    go_wp2
    go_ret
    exact ⟨rfl, B2⟩
  rw [szRes_ge hq2]
  have hge2 : decide (1048576 - ((tT.length + totSS tT : Nat) : Int) - szAct1 lL < 0) = false := decide_eq_false (by omega)
  have hsz2 := szAct1_len lL
  have HnT : Hid (tT.length + totSS tT ≤ 1048576) := Lib.hid (by omega)
  have HnL : Hid (lL.length ≤ 1048576) := Lib.hid (by omega)
  have HTT := Lib.hid (fun w' (hb : Below w.heap.size w w') => law_toBoolSS vT rowsT tT 0 w.heap.size w' (RT.out.ext hb) HnT.out)
  have HTL := Lib.hid (fun w' (hb : Below w.heap.size w w') => law_toActS vL lL 0 w.heap.size w' (RL.out.ext hb) HnL.out)
  clear hq1 hq2 hsz2
  generalize ((tT.length + totSS tT : Nat) : Int) = nn1 at *
  generalize szAct1 lL = nn2 at *
  go_wp2_with fail
  rename_i Qx Kx hKx
  have key : ∀ (u1 u2 u4 u7 u8 u9 u13 u14 u15 u16 u17 u18 u19 u20 u21 u22 u23 u24 u25 u26 u27 u28 u29 u30 u31 u32 u33 u34 u35 u36 u37 u38 u39 u40 u41 u42 u43 u44 u45 u46 u47 u48 u49 u50 u51 u52 u53 u54 u55 u56 u57 u58 u59 u60 u61 u62 u63 u64 u65 u66 u67 u68 u69 u70 u71 u72 u73 u74 u75 u76 u77 u78 u79 : Value) (p : Nat) (W : World), W.heap[p]? = some (.cells #[.int .i64 r1, .int .i64 r2, .int .i64 r3, .int .i64 r4, .int .i64 r5, .int .i64 r6] 30 (0, 0)) → Below w2.heap.size w2 W → Kx { tmps := #[vT, u1, u2, vL, u4, .pointer (some ⟨w.heap.size, 0, none⟩), .pointer (some ⟨w.heap.size + 1, 0, none⟩), u7, u8, u9, .pointer (some ⟨p, 0, none⟩), .int .i64 rc1, .int .i64 rc2, u13, u14, u15, u16, u17, u18, u19, u20, u21, u22, u23, u24, u25, u26, u27, u28, u29, u30, u31, u32, u33, u34, u35, u36, u37, u38, u39, u40, u41, u42, u43, u44, u45, u46, u47, u48, u49, u50, u51, u52, u53, u54, u55, u56, u57, u58, u59, u60, u61, u62, u63, u64, u65, u66, u67, u68, u69, u70, u71, u72, u73, u74, u75, u76, u77, u78, u79], defers := [] } W := by
    intro u1 u2 u4 u7 u8 u9 u13 u14 u15 u16 u17 u18 u19 u20 u21 u22 u23 u24 u25 u26 u27 u28 u29 u30 u31 u32 u33 u34 u35 u36 u37 u38 u39 u40 u41 u42 u43 u44 u45 u46 u47 u48 u49 u50 u51 u52 u53 u54 u55 u56 u57 u58 u59 u60 u61 u62 u63 u64 u65 u66 u67 u68 u69 u70 u71 u72 u73 u74 u75 u76 u77 u78 u79 p W hp0 bW
    refine hKx _ _ ?_
    have BW : Below w.heap.size w W := B2.trans (bW.mono B2.size)
    go_wp2_with fail
    refine (HTT.out W BW).mono ?_
    rintro e w3 ⟨v3, rows3, rfl, s3, b3'⟩
    have hp1 := blk_below b3' hp0
    have B13 : Below w2.heap.size w2 w3 := bW.trans (b3'.mono bW.size)
    have BB3 : Below w.heap.size w w3 := BW.trans (b3'.mono BW.size)
    have t3_3 := Lib.hid (s3.r)
    clear s3
    go_wp2_with fail
    refine (HTL.out w3 BB3).mono ?_
    rintro e w4 ⟨v4, rfl, s4, b4'⟩
    have hp2 := blk_below b4' hp1
    have B14 : Below w2.heap.size w2 w4 := B13.trans (b4'.mono B13.size)
    have BB4 : Below w.heap.size w w4 := BB3.trans (b4'.mono BB3.size)
    have t4_4 := Lib.hid (s4.1)
    have t3_4 := Lib.hid (t3_3.out.ext b4')
    clear s4
    have Hp := Lib.hid hp2
    have hpl := (Array.getElem?_eq_some_iff.1 hp2).1
    have c0_0 := (B14.cell (p := ⟨w.heap.size, 0, none⟩) za2_0).trans c0_0
    have c0_1 := (B14.cell (p := ⟨w.heap.size, 1, none⟩) za2_0).trans c0_1
    have y0 : w.heap.size < w4.heap.size := Nat.lt_of_lt_of_le za2_0 B14.size
    have c1_0 := (B14.cell (p := ⟨w.heap.size + 1, 0, none⟩) za2_1).trans c1_0
    have c1_1 := (B14.cell (p := ⟨w.heap.size + 1, 1, none⟩) za2_1).trans c1_1
    have c1_2 := (B14.cell (p := ⟨w.heap.size + 1, 2, none⟩) za2_1).trans c1_2
    have c1_3 := (B14.cell (p := ⟨w.heap.size + 1, 3, none⟩) za2_1).trans c1_3
    have c1_4 := (B14.cell (p := ⟨w.heap.size + 1, 4, none⟩) za2_1).trans c1_4
    have c1_5 := (B14.cell (p := ⟨w.heap.size + 1, 5, none⟩) za2_1).trans c1_5
    have y1 : w.heap.size + 1 < w4.heap.size := Nat.lt_of_lt_of_le za2_1 B14.size
    have zk : w4.heap.size ≤ w4.heap.size := Nat.le_refl _
    have bB := BB4
    have hrd := True.intro
    clear BW bW hp0 hp1 hp2 b3' b4' B13 B14 BB3
    go_wp2_with fail
    rename_i Ky hKy
    have key2 : ∀ (x1 x2 x4 x7 x8 x9 x18 x19 x20 x21 x22 x23 x24 x25 x26 x27 x28 x29 x30 x31 x32 x33 x34 x35 x36 x37 x38 x39 x40 x41 x42 x43 x44 x45 x46 x47 x48 x49 x50 x51 x52 x53 x54 x55 x56 x57 x58 x59 x60 x61 x62 x63 x64 x65 x66 x67 x68 x69 x70 x71 x72 x73 x74 x75 x76 x77 x78 x79 : Value) (p2 : Nat) (WF : World), WF.heap[p2]? = some (.cells #[.int .i64 r1, .int .i64 r2, .int .i64 r3, .int .i64 r4, .int .i64 r5, .int .i64 r6] 30 (0, 0)) → Below w4.heap.size w4 WF → Ky { tmps := #[vT, x1, x2, vL, x4, .pointer (some ⟨w.heap.size, 0, none⟩), .pointer (some ⟨w.heap.size + 1, 0, none⟩), x7, x8, x9, .pointer (some ⟨p, 0, none⟩), .int .i64 rc1, .int .i64 rc2, v3, v4, .pointer (some ⟨p2, 0, none⟩), .int .i64 rc1, .int .i64 rc2, x18, x19, x20, x21, x22, x23, x24, x25, x26, x27, x28, x29, x30, x31, x32, x33, x34, x35, x36, x37, x38, x39, x40, x41, x42, x43, x44, x45, x46, x47, x48, x49, x50, x51, x52, x53, x54, x55, x56, x57, x58, x59, x60, x61, x62, x63, x64, x65, x66, x67, x68, x69, x70, x71, x72, x73, x74, x75, x76, x77, x78, x79], defers := [] } WF := by
      intro x1 x2 x4 x7 x8 x9 x18 x19 x20 x21 x22 x23 x24 x25 x26 x27 x28 x29 x30 x31 x32 x33 x34 x35 x36 x37 x38 x39 x40 x41 x42 x43 x44 x45 x46 x47 x48 x49 x50 x51 x52 x53 x54 x55 x56 x57 x58 x59 x60 x61 x62 x63 x64 x65 x66 x67 x68 x69 x70 x71 x72 x73 x74 x75 x76 x77 x78 x79 p2 WF g2 bF
      have g1 := (bF.block p hpl).trans Hp.out
      refine hKy _ _ ?_
      have BF : Below w.heap.size w WF := bB.trans (bF.mono bB.size)
      have e0 : WF.cell? ⟨p2, 0, none⟩ = some (.int .i64 r1) := by rw [Lib.cell_of_heap g2]; rfl
      have k0 : WF.cell? ⟨p, 0, none⟩ = some (.int .i64 r1) := by rw [Lib.cell_of_heap g1]; rfl
      have e1 : WF.cell? ⟨p2, 1, none⟩ = some (.int .i64 r2) := by rw [Lib.cell_of_heap g2]; rfl
      have k1 : WF.cell? ⟨p, 1, none⟩ = some (.int .i64 r2) := by rw [Lib.cell_of_heap g1]; rfl
      have e2 : WF.cell? ⟨p2, 2, none⟩ = some (.int .i64 r3) := by rw [Lib.cell_of_heap g2]; rfl
      have k2 : WF.cell? ⟨p, 2, none⟩ = some (.int .i64 r3) := by rw [Lib.cell_of_heap g1]; rfl
      have e3 : WF.cell? ⟨p2, 3, none⟩ = some (.int .i64 r4) := by rw [Lib.cell_of_heap g2]; rfl
      have k3 : WF.cell? ⟨p, 3, none⟩ = some (.int .i64 r4) := by rw [Lib.cell_of_heap g1]; rfl
      have e4 : WF.cell? ⟨p2, 4, none⟩ = some (.int .i64 r5) := by rw [Lib.cell_of_heap g2]; rfl
      have k4 : WF.cell? ⟨p, 4, none⟩ = some (.int .i64 r5) := by rw [Lib.cell_of_heap g1]; rfl
      have e5 : WF.cell? ⟨p2, 5, none⟩ = some (.int .i64 r6) := by rw [Lib.cell_of_heap g2]; rfl
      have k5 : WF.cell? ⟨p, 5, none⟩ = some (.int .i64 r6) := by rw [Lib.cell_of_heap g1]; rfl
      clear g1 g2
      go_wp2_with fail
      refine (HE.out _).mono ?_
      rintro e we ⟨rfl, be⟩
      have BE := BF.trans (be.mono BF.size)
      have teT := Lib.hid ((t3_4.out.ext bF).ext be)
      have teL := Lib.hid ((t4_4.out.ext bF).ext be)
      go_wp2_with fail
      refine (HTT.out _ BE).mono ?_
      rintro e wf1 ⟨vf1, rowsf1, rfl, sf1, bf1⟩
      have Bf1 := BE.trans (bf1.mono BE.size)
      go_wp2_with fail
      refine (law_eqBoolSS _ _ _ _ tT _ _ _ _ _ (teT.out.ext bf1) sf1.r).mono ?_
      rintro e wg1 ⟨rfl, bg1⟩
      have Bg1 := Bf1.trans (bg1.mono Bf1.size)
      have teL := Lib.hid ((teL.out.ext bf1).ext bg1)
      go_wp2_with fail
      refine (HTL.out _ Bg1).mono ?_
      rintro e wf2 ⟨vf2, rfl, sf2, bf2⟩
      have Bf2 := Bg1.trans (bf2.mono Bg1.size)
      go_wp2_with fail
      refine (law_eqActS _ _ lL _ _ _ _ _ (teL.out.ext bf2) sf2.1).mono ?_
      rintro e wg2 ⟨rfl, bg2⟩
      have Bg2 := Bf2.trans (bg2.mono Bf2.size)
      go_wp2
      go_ret
      exact ⟨rfl, Bg2⟩
    go_region_held3 (fun w' => (∀ b' o', b' < w4.heap.size → w'.cell? ⟨b', o', none⟩ = w4.cell? ⟨b', o', none⟩) ∧ Below w4.heap.size w4 w') (first | (refine heldB ?_; go_grown; done))
      (first | (go_at_call 22; refine (HV.out _).mono ?_; rintro e w101 ⟨rfl, b101'⟩; have b101 : Below w4.heap.size w4 w101 := Below.trans (by go_grown) (b101'.mono (by go_size)); have z101 := b101.size; have q101 := (bcell b101').1; have f101 := (bcell b101').2; have hz101_101 := fun (n : Nat) (h : n < _) => Nat.lt_of_lt_of_le h b101'.size; have d101_4 : Below w4.heap.size w4 w101 := Below.trans (by go_grown) (b101'.mono (by go_size)); have dz101_4 := d101_4.size) | (go_at_call 23; refine (HW.out _).mono ?_; rintro e w102 ⟨rfl, b102'⟩; have b102 : Below w4.heap.size w4 w102 := Below.trans (by go_grown) (b102'.mono (by go_size)); have z102 := b102.size; have q102 := (bcell b102').1; have f102 := (bcell b102').2; have hz102_102 := fun (n : Nat) (h : n < _) => Nat.lt_of_lt_of_le h b102'.size; have m102 : w101.heap.size ≤ w102.heap.size := Nat.le_trans (by go_size) b102'.size; have hz102_101 := fun n h => Nat.lt_of_lt_of_le (hz101_101 n h) m102; have d102_4 : Below w4.heap.size w4 w102 := Below.trans (by go_grown) (b102'.mono (by go_size)); have dz102_4 := d102_4.size) | (go_at_call 30; refine (hN2.out _ _ _ _ _ _ _ _ (t3_4.out.ext ?hc0) (t4_4.out.ext ?hc1) HnL.out).mono ?_; (case hc0 => go_grown); (case hc1 => go_grown); rintro e w103 ⟨rfl, b103'⟩; have b103 : Below w4.heap.size w4 w103 := Below.trans (by go_grown) (b103'.mono (by go_size)); have z103 := b103.size; have q103 := (bcell b103').1; have f103 := (bcell b103').2; have hz103_103 := fun (n : Nat) (h : n < _) => Nat.lt_of_lt_of_le h b103'.size; have m103 : w102.heap.size ≤ w103.heap.size := Nat.le_trans (by go_size) b103'.size; have hz103_101 := fun n h => Nat.lt_of_lt_of_le (hz102_101 n h) m103; have hz103_102 := fun n h => Nat.lt_of_lt_of_le (hz102_102 n h) m103))
    · simp only [Exit.then]
      exact key2 _ _ _ _ _ _ _ _ _ _ _ _ _ _ _ _ _ _ _ _ _ _ _ _ _ _ _ _ _ _ _ _ _ _ _ _ _ _ _ _ _ _ _ _ _ _ _ _ _ _ _ _ _ _ _ _ _ _ _ _ _ _ _ _ _ _ _ _ _ _ blk_here (by go_grown)
    all_goals
      simp only [Exit.then]
      refine key2 _ _ _ _ _ _ _ _ _ _ _ _ _ _ _ _ _ _ _ _ _ _ _ _ _ _ _ _ _ _ _ _ _ _ _ _ _ _ _ _ _ _ _ _ _ _ _ _ _ _ _ _ _ _ _ _ _ _ _ _ _ _ _ _ _ _ _ _ _ _ (six rfl ?hv) ?hb
      case hv => first | exact blk_here | (refine blk_below b103' ?_; first | exact blk_here | (refine blk_below b102' ?_; first | exact blk_here | (refine blk_below b101' ?_; exact blk_here)))
      case hb => go_grown
  have zk : w2.heap.size ≤ w2.heap.size := Nat.le_refl _
  go_region_held3 (fun w' => (∀ b' o', b' < w2.heap.size → w'.cell? ⟨b', o', none⟩ = w2.cell? ⟨b', o', none⟩) ∧ Below w2.heap.size w2 w') (first | (refine heldB ?_; go_grown; done))
    (first | (go_at_call 21; refine (HTT.out _ ?hb201).mono ?_; (case hb201 => exact B2.trans (Below.mono (B := w2.heap.size) (by go_grown) B2.size)); rintro e w201 ⟨v201, rows201, rfl, s201, b201'⟩; have b201 : Below w2.heap.size w2 w201 := Below.trans (by go_grown) (b201'.mono (by go_size)); have z201 := b201.size; have q201 := (bcell b201').1; have f201 := (bcell b201').2; have hz201_201 := fun (n : Nat) (h : n < _) => Nat.lt_of_lt_of_le h b201'.size; have t201 := Lib.hid s201.r; clear s201) | (go_at_call 22; refine (HV.out _).mono ?_; rintro e w202 ⟨rfl, b202'⟩; have b202 : Below w2.heap.size w2 w202 := Below.trans (by go_grown) (b202'.mono (by go_size)); have z202 := b202.size; have q202 := (bcell b202').1; have f202 := (bcell b202').2; have hz202_202 := fun (n : Nat) (h : n < _) => Nat.lt_of_lt_of_le h b202'.size; have m202 : w201.heap.size ≤ w202.heap.size := Nat.le_trans (by go_size) b202'.size; have hz202_201 := fun n h => Nat.lt_of_lt_of_le (hz201_201 n h) m202; have d202_201 : Below w201.heap.size w201 w202 := Below.trans (by go_grown) (b202'.mono (by go_size)); have dz202_201 := d202_201.size) | (go_at_call 23; refine (HW.out _).mono ?_; rintro e w203 ⟨rfl, b203'⟩; have b203 : Below w2.heap.size w2 w203 := Below.trans (by go_grown) (b203'.mono (by go_size)); have z203 := b203.size; have q203 := (bcell b203').1; have f203 := (bcell b203').2; have hz203_203 := fun (n : Nat) (h : n < _) => Nat.lt_of_lt_of_le h b203'.size; have m203 : w202.heap.size ≤ w203.heap.size := Nat.le_trans (by go_size) b203'.size; have hz203_201 := fun n h => Nat.lt_of_lt_of_le (hz202_201 n h) m203; have hz203_202 := fun n h => Nat.lt_of_lt_of_le (hz202_202 n h) m203; have d203_201 : Below w201.heap.size w201 w203 := Below.trans (by go_grown) (b203'.mono (by go_size)); have dz203_201 := d203_201.size) | (go_at_call 29; refine (HTL.out _ ?hb204).mono ?_; (case hb204 => exact B2.trans (Below.mono (B := w2.heap.size) (by go_grown) B2.size)); rintro e w204 ⟨v204, rfl, s204, b204'⟩; have b204 : Below w2.heap.size w2 w204 := Below.trans (by go_grown) (b204'.mono (by go_size)); have z204 := b204.size; have q204 := (bcell b204').1; have f204 := (bcell b204').2; have hz204_204 := fun (n : Nat) (h : n < _) => Nat.lt_of_lt_of_le h b204'.size; have m204 : w203.heap.size ≤ w204.heap.size := Nat.le_trans (by go_size) b204'.size; have hz204_201 := fun n h => Nat.lt_of_lt_of_le (hz203_201 n h) m204; have hz204_202 := fun n h => Nat.lt_of_lt_of_le (hz203_202 n h) m204; have hz204_203 := fun n h => Nat.lt_of_lt_of_le (hz203_203 n h) m204; have t204 := Lib.hid s204.1; clear s204; have d204_201 : Below w201.heap.size w201 w204 := Below.trans (by go_grown) (b204'.mono (by go_size)); have dz204_201 := d204_201.size) | (go_at_call 16; refine (hN1.out _ _ _ _ _ _ _ _ (t201.out.ext ?hc201) (t204.out.ext ?hc204) HnL.out).mono ?_; (case hc201 => go_grown); (case hc204 => go_grown); rintro e w205 ⟨rfl, b205'⟩; have b205 : Below w2.heap.size w2 w205 := Below.trans (by go_grown) (b205'.mono (by go_size)); have z205 := b205.size; have q205 := (bcell b205').1; have f205 := (bcell b205').2; have hz205_205 := fun (n : Nat) (h : n < _) => Nat.lt_of_lt_of_le h b205'.size; have m205 : w204.heap.size ≤ w205.heap.size := Nat.le_trans (by go_size) b205'.size; have hz205_201 := fun n h => Nat.lt_of_lt_of_le (hz204_201 n h) m205; have hz205_202 := fun n h => Nat.lt_of_lt_of_le (hz204_202 n h) m205; have hz205_203 := fun n h => Nat.lt_of_lt_of_le (hz204_203 n h) m205; have hz205_204 := fun n h => Nat.lt_of_lt_of_le (hz204_204 n h) m205))
  · simp only [Exit.then]
    exact key _ _ _ _ _ _ _ _ _ _ _ _ _ _ _ _ _ _ _ _ _ _ _ _ _ _ _ _ _ _ _ _ _ _ _ _ _ _ _ _ _ _ _ _ _ _ _ _ _ _ _ _ _ _ _ _ _ _ _ _ _ _ _ _ _ _ _ _ _ _ _ _ _ _ _ blk_here (by go_grown)
  all_goals
    simp only [Exit.then]
    refine key _ _ _ _ _ _ _ _ _ _ _ _ _ _ _ _ _ _ _ _ _ _ _ _ _ _ _ _ _ _ _ _ _ _ _ _ _ _ _ _ _ _ _ _ _ _ _ _ _ _ _ _ _ _ _ _ _ _ _ _ _ _ _ _ _ _ _ _ _ _ _ _ _ _ _ (six rfl ?hv) ?hb
    case hv => first | exact blk_here | (refine blk_below b205' ?_; first | exact blk_here | (refine blk_below b204' ?_; first | exact blk_here | (refine blk_below b203' ?_; first | exact blk_here | (refine blk_below b202' ?_; first | exact blk_here | (refine blk_below b201' ?_; exact blk_here)))))
    case hb => go_grown
end Go.Proofs.Ytjafcaagegmfbaa
