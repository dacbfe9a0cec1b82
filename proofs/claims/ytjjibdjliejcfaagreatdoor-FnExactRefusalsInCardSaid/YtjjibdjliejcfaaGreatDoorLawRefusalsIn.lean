/- The law FnExactRefusalsIn. -/
import Derived.Test.YtjjibdjliejcfaaGreatDoorLgZ
import Derived.Test.YtjjibdjliejcfaaGreatDoorLawS
namespace Go.Proofs.YtjjibdjliejcfaaGreatDoor
open Go.RowKit
set_option maxRecDepth 100000 in
set_option maxHeartbeats 4000000 in
theorem law_RefusalsIn {vaList : Value} (aList : List Sgn) (aLog : ByteArray) (w : World) (haList : Sgns 0 w.heap.size w vaList aList ∧ ∀ x ∈ aList, x.wf) (_haLog : aLog.size ≤ maxLen) (hm : ML w) (h10 : P10 w) (hev : EV w) :
    Calls Tryz.prog 4 #[vaList, .string aLog] w fun e w' => e = .returned (.bool true) ∧ Below w.heap.size w w' := by
  obtain ⟨r0, hwl⟩ := haList
  have B0 := Below.refl w.heap.size w
  have Hm := Lib.hid hm
  have H10 := Lib.hid h10
  have Hev := Lib.hid hev
  clear hm h10 hev
  by_cases hbig : 1048576 < aLog.size
  · have hb : decide ((1048576 : Int) < (aLog.size : Int)) = true := decide_eq_true (by omega)
    go_enter Tryz.func4, Tryz.ntmps4
    go_wp2
    go_ret
    exact ⟨rfl, B0⟩
  have hb : decide ((1048576 : Int) < (aLog.size : Int)) = false := decide_eq_false (by omega)
  have hsz : aLog.size ≤ 1048576 := by omega
  go_enter Tryz.func4, Tryz.ntmps4
  go_wp2_with fail
  refine (law_szSignerS _ aList _ _ _ _ r0 hwl (by omega) (by omega)).mono ?_
  rintro e w1 ⟨rfl, b1⟩
  have B1 := b1
  have z1 := (b1).size
  have r1 := (r0).ext b1
  by_cases q1 : 1048576 < szSgn aList
  · rw [szRes_lt q1]
    go_wp2
    go_ret
    exact ⟨rfl, B1⟩
  rw [szRes_ge q1]
  have l_aList := szSgn_len aList
  go_wp2_with fail
  refine (law_toSignerS _ aList _ _ _ r1 (by omega)).mono ?_
  rintro e w2 ⟨v2, rfl, s2, b2⟩
  have B2 := on B1 b2
  have z2 := (b2).size
  have r2 := (r1).ext b2
  go_wp2_with fail
  refine (spec_RefusalsIn _ aList _ _ aLog _ s2.1 hwl hsz).mono ?_
  rintro e w3 ⟨es, b, hc, hle, v3, rfl, s3, b3⟩
  have Hc := Lib.hid hc
  clear hc
  have B3 := on B2 b3
  have z3 := (b3).size
  have r3 := (r2).ext b3
  go_wp2_with fail
  refine (law_toSignerS _ aList _ _ _ r3 (by omega)).mono ?_
  rintro e w4 ⟨v4, rfl, s4, b4⟩
  have B4 := on B3 b4
  have z4 := (b4).size
  have r4 := (r3).ext b4
  have W4 := (s3).ext (by omega) b4
  go_wp2_with fail
  refine (impl_RefusalsIn _ aList _ _ aLog _ s4.1 (Nat.le_refl _) hwl hsz (Hm.out.ext B4) (H10.out.ext B4) (Hev.out.ext B4)).mono ?_
  rintro e w5 ⟨es2, b2', hc2, -, v5, rfl, s5, b5⟩
  obtain ⟨rfl, rfl⟩ := Hc.out.uniq hc2
  clear hc2
  have B5 := on B4 b5
  have z5 := (b5).size
  have r5 := (r4).ext b5
  have W5 := (W4).ext (by omega) b5
  have x5 := (s4).ext (by omega) b5
  go_wp2_with fail
  refine (law_eqStringS _ _ _ _ _ _ _ _ s5.1 W5.1).mono ?_
  rintro e w6 ⟨rfl, b6⟩
  have B6 := on B5 b6
  have z6 := (b6).size
  have r6 := (r5).ext b6
  have W6 := (W5).ext (by omega) b6
  have x6 := (x5).ext (by omega) b6
  have g6 := (s5).ext (by omega) b6
  go_wp2_with fail
  refine (law_toSignerS _ aList _ _ _ r6 (by omega)).mono ?_
  rintro e w7 ⟨v7, rfl, s7, b7⟩
  have B7 := on B6 b7
  have z7 := (b7).size
  have r7 := (r6).ext b7
  have W7 := (W6).ext (by omega) b7
  have x7 := (x6).ext (by omega) b7
  have g7 := (g6).ext (by omega) b7
  go_wp2_with fail
  refine (law_eqSignerS _ _ _ _ _ _ _ _ x7.1 s7.1).mono ?_
  rintro e w8 ⟨rfl, b8⟩
  have B8 := on B7 b8
  have z8 := (b8).size
  have r8 := (r7).ext b8
  have W8 := (W7).ext (by omega) b8
  have x8 := (x7).ext (by omega) b8
  have g8 := (g7).ext (by omega) b8
  go_wp2_with fail
  refine (law_markSignerS _ _ _ _ 1 _ x8 (by omega) (by omega) (by omega)).mono ?_
  rintro e w9 ⟨rfl, s9, b9⟩
  have B9 := B8.trans (b9.below (by omega) (by omega))
  have z9 := (b9).size
  have r9 := (r8).keep (b9.same (by omega) (by omega))
  have W9 := (W8).keep (b9.same (by omega) (by omega))
  have g9 := (g8).keep (b9.same (by omega) (by omega))
  go_wp2_with fail
  refine (law_eqStringS _ _ _ _ _ _ _ _ g9.1 W9.1).mono ?_
  rintro e w10 ⟨rfl, b10⟩
  have B10 := on B9 b10
  have z10 := (b10).size
  have r10 := (r9).ext b10
  have W10 := (W9).ext (by omega) b10
  have g10 := (g9).ext (by omega) b10
  go_wp2_with fail
  refine (law_markStringS _ _ _ _ 1 _ g10 (by omega) (by omega) (by omega)).mono ?_
  rintro e w11 ⟨rfl, s11, b11⟩
  have B11 := B10.trans (b11.below (by omega) (by omega))
  have z11 := (b11).size
  have r11 := (r10).keep (b11.same (by omega) (by omega))
  have W11 := (W10).keep (b11.same (by omega) (by omega))
  go_wp2_with fail
  refine (law_heldStringS _ _ _ _ 1 _ s11.1 (by omega) (by omega)).mono ?_
  rintro e w12 ⟨rfl, b12⟩
  have B12 := on B11 b12
  have z12 := (b12).size
  have r12 := (r11).ext b12
  have W12 := (W11).ext (by omega) b12
  have g12 := (s11).ext (by omega) b12
  go_wp2_with fail
  refine (law_toSignerS _ aList _ _ _ r12 (by omega)).mono ?_
  rintro e w13 ⟨v13, rfl, s13, b13⟩
  have B13 := on B12 b13
  have z13 := (b13).size
  have W13 := (W12).ext (by omega) b13
  have g13 := (g12).ext (by omega) b13
  go_wp2_with fail
  refine (impl_RefusalsIn _ aList _ _ aLog _ s13.1 (Nat.le_refl _) hwl hsz (Hm.out.ext B13) (H10.out.ext B13) (Hev.out.ext B13)).mono ?_
  rintro e w14 ⟨es3, b3', hc3, -, v14, rfl, s14, b14⟩
  obtain ⟨rfl, rfl⟩ := Hc.out.uniq hc3
  clear hc3
  have B14 := on B13 b14
  have z14 := (b14).size
  have W14 := (W13).ext (by omega) b14
  have g14 := (g13).ext (by omega) b14
  go_wp2_with fail
  refine (law_eqStringS _ _ _ _ _ _ _ _ s14.1 W14.1).mono ?_
  rintro e w15 ⟨rfl, b15⟩
  have B15 := on B14 b15
  have z15 := (b15).size
  have g15 := (g14).ext (by omega) b15
  go_wp2_with fail
  refine (law_heldStringS _ _ _ _ 1 _ g15.1 (by omega) (by omega)).mono ?_
  rintro e w16 ⟨rfl, b16⟩
  have B16 := on B15 b16
  go_wp2
  go_ret
  exact ⟨rfl, B16⟩
end Go.Proofs.YtjjibdjliejcfaaGreatDoor
