/- The law FnExactPlanChecks. -/
import Derived.Test.YtfnmmfopbfmkaaaPlan
import Derived.Test.YtfnmmfopbfmkaaaTSS
import Derived.Test.YtfnmmfopbfmkaaaLawS
namespace Go.Proofs.Ytfnmmfopbfmkaaa
open Go.RowKit

set_option maxRecDepth 100000 in
set_option maxHeartbeats 4000000 in
theorem law_PlanChecks {vaList : Value} (aList : List Chk) (aUntil : Int) (w : World) (haList : Sl 4 Chk.cells 0 w.heap.size w vaList aList ∧ ∀ x ∈ aList, x.wf) (haUntil : (Lit.int .i64 aUntil).wf = true) :
    Calls Try.prog 12 #[vaList, .int .i64 aUntil] w fun e w' => e = .returned (.bool true) ∧ Below w.heap.size w w' := by
  obtain ⟨r_aList_0, hw_aList⟩ := haList
  have hres := plan_tot aList aUntil
  have B0 := Below.refl w.heap.size w
  go_enter Try.func12, Try.ntmps12
  go_wp2_with fail
  refine (law_szCheckS _ aList _ _ _ _ r_aList_0 hw_aList (by omega) (by omega)).mono ?_
  rintro e w1 ⟨rfl, b1⟩
  have B1 := b1
  have z1 := (b1).size
  have r_aList_1 := (r_aList_0).ext b1
  by_cases q1 : 1048576 < szChk aList
  · rw [szRes_lt q1]
    go_wp2
    go_ret
    exact ⟨rfl, B1⟩
  rw [szRes_ge q1]
  have l_aList := szChk_len aList
  go_wp2_with fail
  refine (law_toCheckS _ aList _ _ _ r_aList_1 (by omega)).mono ?_
  rintro e w2 ⟨v2, rfl, s2, b2⟩
  have B2 := on B1 b2
  have z2 := (b2).size
  have r_aList_2 := (r_aList_1).ext b2
  go_wp2_with fail
  refine (spec_PlanChecks _ aList _ _ aUntil _ s2.1 (by omega) hw_aList (i64_of_wf haUntil)).mono ?_
  rintro e w3 ⟨v3, rows3, rfl, s3, b3⟩
  have B3 := on B2 b3
  have z3 := (b3).size
  have r_aList_3 := (r_aList_2).ext b3
  have r_c2_3 := (s2).ext (by omega) b3
  go_wp2_with fail
  refine (law_toCheckS _ aList _ _ _ r_aList_3 (by omega)).mono ?_
  rintro e w4 ⟨v4, rfl, s4, b4⟩
  have B4 := on B3 b4
  have z4 := (b4).size
  have r_aList_4 := (r_aList_3).ext b4
  have r_c2_4 := (r_c2_3).ext (by omega) b4
  have r_w0_4 := (s3).ext (by omega) b4
  go_wp2_with fail
  refine (impl_PlanChecks _ aList _ _ aUntil _ s4.1 (by omega) hw_aList (i64_of_wf haUntil)).mono ?_
  rintro e w5 ⟨v5, rows5, rfl, s5, b5⟩
  have B5 := on B4 b5
  have z5 := (b5).size
  have r_aList_5 := (r_aList_4).ext b5
  have r_c2_5 := (r_c2_4).ext (by omega) b5
  have r_w0_5 := (r_w0_4).ext (by omega) b5
  have r_x0_5 := (s4).ext (by omega) b5
  go_wp2_with fail
  refine (law_eqInt64SS _ _ _ _ _ _ _ _ _ _ s5.r r_w0_5.r).mono ?_
  rintro e w6 ⟨rfl, b6⟩
  have B6 := on B5 b6
  have z6 := (b6).size
  have r_aList_6 := (r_aList_5).ext b6
  have r_c2_6 := (r_c2_5).ext (by omega) b6
  have r_w0_6 := (r_w0_5).ext (by omega) b6
  have r_x0_6 := (r_x0_5).ext (by omega) b6
  have r_g0_6 := (s5).ext (by omega) b6
  go_wp2_with fail
  refine (law_toCheckS _ aList _ _ _ r_aList_6 (by omega)).mono ?_
  rintro e w7 ⟨v7, rfl, s7, b7⟩
  have B7 := on B6 b7
  have z7 := (b7).size
  have r_aList_7 := (r_aList_6).ext b7
  have r_c2_7 := (r_c2_6).ext (by omega) b7
  have r_w0_7 := (r_w0_6).ext (by omega) b7
  have r_x0_7 := (r_x0_6).ext (by omega) b7
  have r_g0_7 := (r_g0_6).ext (by omega) b7
  go_wp2_with fail
  refine (law_eqCheckS _ _ _ _ _ _ _ _ r_x0_7.1 s7.1).mono ?_
  rintro e w8 ⟨rfl, b8⟩
  have B8 := on B7 b8
  have z8 := (b8).size
  have r_aList_8 := (r_aList_7).ext b8
  have r_c2_8 := (r_c2_7).ext (by omega) b8
  have r_w0_8 := (r_w0_7).ext (by omega) b8
  have r_x0_8 := (r_x0_7).ext (by omega) b8
  have r_g0_8 := (r_g0_7).ext (by omega) b8
  go_wp2_with fail
  refine (law_markCheckS _ _ _ _ 1 _ r_x0_8 (by omega) (by omega) (by omega)).mono ?_
  rintro e w9 ⟨rfl, s9, b9⟩
  have B9 := B8.trans (b9.below (by omega) (by omega))
  have z9 := (b9).size
  have r_aList_9 := (r_aList_8).keep (b9.same (by omega) (by omega))
  have r_c2_9 := (r_c2_8).keep (b9.same (by omega) (by omega))
  have r_w0_9 := (r_w0_8).keep (b9.same (by omega) (by omega))
  have r_g0_9 := (r_g0_8).keep (b9.same (by omega) (by omega))
  go_wp2_with fail
  refine (law_eqInt64SS _ _ _ _ _ _ _ _ _ _ r_g0_9.r r_w0_9.r).mono ?_
  rintro e w10 ⟨rfl, b10⟩
  have B10 := on B9 b10
  have z10 := (b10).size
  have r_aList_10 := (r_aList_9).ext b10
  have r_c2_10 := (r_c2_9).ext (by omega) b10
  have r_w0_10 := (r_w0_9).ext (by omega) b10
  have r_x0_10 := (s9).ext (by omega) b10
  have r_g0_10 := (r_g0_9).ext (by omega) b10
  go_wp2_with fail
  refine (law_markInt64SS _ _ _ _ _ 1 _ r_g0_10 (by omega) (by omega) (by omega)).mono ?_
  rintro e w11 ⟨rfl, s11, b11⟩
  have B11 := B10.trans (b11.below (by omega) (by omega))
  have z11 := (b11).size
  have r_aList_11 := (r_aList_10).keep (b11.same (by omega) (by omega))
  have r_c2_11 := (r_c2_10).keep (b11.same (by omega) (by omega))
  have r_w0_11 := (r_w0_10).keep (b11.same (by omega) (by omega))
  have r_x0_11 := (r_x0_10).keep (b11.same (by omega) (by omega))
  go_wp2_with fail
  refine (law_heldInt64SS _ _ _ _ _ 1 _ s11.r (by omega) (by omega)).mono ?_
  rintro e w12 ⟨rfl, b12⟩
  have B12 := on B11 b12
  have z12 := (b12).size
  have r_aList_12 := (r_aList_11).ext b12
  have r_c2_12 := (r_c2_11).ext (by omega) b12
  have r_w0_12 := (r_w0_11).ext (by omega) b12
  have r_x0_12 := (r_x0_11).ext (by omega) b12
  have r_g0_12 := (s11).ext (by omega) b12
  go_wp2_with fail
  refine (law_toCheckS _ aList _ _ _ r_aList_12 (by omega)).mono ?_
  rintro e w13 ⟨v13, rfl, s13, b13⟩
  have B13 := on B12 b13
  have z13 := (b13).size
  have r_aList_13 := (r_aList_12).ext b13
  have r_c2_13 := (r_c2_12).ext (by omega) b13
  have r_w0_13 := (r_w0_12).ext (by omega) b13
  have r_x0_13 := (r_x0_12).ext (by omega) b13
  have r_g0_13 := (r_g0_12).ext (by omega) b13
  go_wp2_with fail
  refine (impl_PlanChecks _ aList _ _ aUntil _ s13.1 (by omega) hw_aList (i64_of_wf haUntil)).mono ?_
  rintro e w14 ⟨v14, rows14, rfl, s14, b14⟩
  have B14 := on B13 b14
  have z14 := (b14).size
  have r_aList_14 := (r_aList_13).ext b14
  have r_c2_14 := (r_c2_13).ext (by omega) b14
  have r_w0_14 := (r_w0_13).ext (by omega) b14
  have r_x0_14 := (r_x0_13).ext (by omega) b14
  have r_g0_14 := (r_g0_13).ext (by omega) b14
  have r_c13_14 := (s13).ext (by omega) b14
  go_wp2_with fail
  refine (law_eqInt64SS _ _ _ _ _ _ _ _ _ _ s14.r r_w0_14.r).mono ?_
  rintro e w15 ⟨rfl, b15⟩
  have B15 := on B14 b15
  have z15 := (b15).size
  have r_aList_15 := (r_aList_14).ext b15
  have r_c2_15 := (r_c2_14).ext (by omega) b15
  have r_w0_15 := (r_w0_14).ext (by omega) b15
  have r_x0_15 := (r_x0_14).ext (by omega) b15
  have r_g0_15 := (r_g0_14).ext (by omega) b15
  have r_c13_15 := (r_c13_14).ext (by omega) b15
  have r_h0_15 := (s14).ext (by omega) b15
  go_wp2_with fail
  refine (law_heldInt64SS _ _ _ _ _ 1 _ r_g0_15.r (by omega) (by omega)).mono ?_
  rintro e w16 ⟨rfl, b16⟩
  have B16 := on B15 b16
  have z16 := (b16).size
  have r_aList_16 := (r_aList_15).ext b16
  have r_c2_16 := (r_c2_15).ext (by omega) b16
  have r_w0_16 := (r_w0_15).ext (by omega) b16
  have r_x0_16 := (r_x0_15).ext (by omega) b16
  have r_g0_16 := (r_g0_15).ext (by omega) b16
  have r_c13_16 := (r_c13_15).ext (by omega) b16
  have r_h0_16 := (r_h0_15).ext (by omega) b16
  go_wp2
  go_ret
  exact ⟨rfl, B16⟩
end Go.Proofs.Ytfnmmfopbfmkaaa
