/- The law FnExactFirstWorkDay. -/
import Derived.Test.YtfnmmfopbfmkaaaFirst
import Derived.Test.YtfnmmfopbfmkaaaLawS
namespace Go.Proofs.Ytfnmmfopbfmkaaa
open Go.RowKit

set_option maxRecDepth 100000 in
set_option maxHeartbeats 4000000 in
theorem law_FirstWorkDay {vaChecks : Value} (aChecks : List Chk) {vaFindings : Value} (aFindings : List Fnd) (aCrane : Int) (aDay : Int) (w : World) (haChecks : Sl 4 Chk.cells 0 w.heap.size w vaChecks aChecks ∧ ∀ x ∈ aChecks, x.wf) (haFindings : Sl 4 Fnd.cells 0 w.heap.size w vaFindings aFindings ∧ ∀ x ∈ aFindings, x.wf) (haCrane : (Lit.int .i64 aCrane).wf = true) (haDay : (Lit.int .i64 aDay).wf = true) :
    Calls Try.prog 14 #[vaChecks, vaFindings, .int .i64 aCrane, .int .i64 aDay] w fun e w' => e = .returned (.bool true) ∧ Below w.heap.size w w' := by
  obtain ⟨r_aChecks_0, hw_aChecks⟩ := haChecks
  obtain ⟨r_aFindings_0, hw_aFindings⟩ := haFindings
  have B0 := Below.refl w.heap.size w
  go_enter Try.func14, Try.ntmps14
  go_wp2_with fail
  refine (law_szCheckS _ aChecks _ _ _ _ r_aChecks_0 hw_aChecks (by omega) (by omega)).mono ?_
  rintro e w1 ⟨rfl, b1⟩
  have B1 := b1
  have z1 := (b1).size
  have r_aChecks_1 := (r_aChecks_0).ext b1
  have r_aFindings_1 := (r_aFindings_0).ext b1
  by_cases q1 : 1048576 < szChk aChecks
  · rw [szRes_lt q1]
    go_wp2
    go_ret
    exact ⟨rfl, B1⟩
  rw [szRes_ge q1]
  have l_aChecks := szChk_len aChecks
  go_wp2_with fail
  refine (law_szFindingS _ aFindings _ _ _ _ r_aFindings_1 hw_aFindings (by omega) (by omega)).mono ?_
  rintro e w2 ⟨rfl, b2⟩
  have B2 := on B1 b2
  have z2 := (b2).size
  have r_aChecks_2 := (r_aChecks_1).ext b2
  have r_aFindings_2 := (r_aFindings_1).ext b2
  by_cases q2 : 1048576 - szChk aChecks < szFnd aFindings
  · rw [szRes_lt q2]
    go_wp2
    go_ret
    exact ⟨rfl, B2⟩
  rw [szRes_ge q2]
  have l_aFindings := szFnd_len aFindings
  go_wp2_with fail
  refine (law_toCheckS _ aChecks _ _ _ r_aChecks_2 (by omega)).mono ?_
  rintro e w3 ⟨v3, rfl, s3, b3⟩
  have B3 := on B2 b3
  have z3 := (b3).size
  have r_aChecks_3 := (r_aChecks_2).ext b3
  have r_aFindings_3 := (r_aFindings_2).ext b3
  go_wp2_with fail
  refine (law_toFindingS _ aFindings _ _ _ r_aFindings_3 (by omega)).mono ?_
  rintro e w4 ⟨v4, rfl, s4, b4⟩
  have B4 := on B3 b4
  have z4 := (b4).size
  have r_aChecks_4 := (r_aChecks_3).ext b4
  have r_aFindings_4 := (r_aFindings_3).ext b4
  have r_c3_4 := (s3).ext (by omega) b4
  go_wp2_with fail
  refine (spec_FirstWorkDay _ aChecks _ _ _ aFindings _ _ aCrane aDay _ r_c3_4.1 (by omega) hw_aChecks s4.1 (by omega) hw_aFindings (i64_of_wf haCrane) (i64_of_wf haDay)).mono ?_
  rintro e w5 ⟨rfl, b5⟩
  have B5 := on B4 b5
  have z5 := (b5).size
  have r_aChecks_5 := (r_aChecks_4).ext b5
  have r_aFindings_5 := (r_aFindings_4).ext b5
  have r_c3_5 := (r_c3_4).ext (by omega) b5
  have r_c4_5 := (s4).ext (by omega) b5
  go_wp2_with fail
  refine (law_toCheckS _ aChecks _ _ _ r_aChecks_5 (by omega)).mono ?_
  rintro e w6 ⟨v6, rfl, s6, b6⟩
  have B6 := on B5 b6
  have z6 := (b6).size
  have r_aChecks_6 := (r_aChecks_5).ext b6
  have r_aFindings_6 := (r_aFindings_5).ext b6
  have r_c3_6 := (r_c3_5).ext (by omega) b6
  have r_c4_6 := (r_c4_5).ext (by omega) b6
  go_wp2_with fail
  refine (law_toFindingS _ aFindings _ _ _ r_aFindings_6 (by omega)).mono ?_
  rintro e w7 ⟨v7, rfl, s7, b7⟩
  have B7 := on B6 b7
  have z7 := (b7).size
  have r_aChecks_7 := (r_aChecks_6).ext b7
  have r_aFindings_7 := (r_aFindings_6).ext b7
  have r_c3_7 := (r_c3_6).ext (by omega) b7
  have r_c4_7 := (r_c4_6).ext (by omega) b7
  have r_x0_7 := (s6).ext (by omega) b7
  go_wp2_with fail
  refine (impl_FirstWorkDay _ aChecks _ _ _ aFindings _ _ aCrane aDay _ r_x0_7.1 (by omega) hw_aChecks s7.1 (by omega) hw_aFindings (i64_of_wf haCrane) (i64_of_wf haDay)).mono ?_
  rintro e w8 ⟨rfl, b8⟩
  have B8 := on B7 b8
  have z8 := (b8).size
  have r_aChecks_8 := (r_aChecks_7).ext b8
  have r_aFindings_8 := (r_aFindings_7).ext b8
  have r_c3_8 := (r_c3_7).ext (by omega) b8
  have r_c4_8 := (r_c4_7).ext (by omega) b8
  have r_x0_8 := (r_x0_7).ext (by omega) b8
  have r_x1_8 := (s7).ext (by omega) b8
  go_wp2_with fail
  refine (law_toCheckS _ aChecks _ _ _ r_aChecks_8 (by omega)).mono ?_
  rintro e w9 ⟨v9, rfl, s9, b9⟩
  have B9 := on B8 b9
  have z9 := (b9).size
  have r_aChecks_9 := (r_aChecks_8).ext b9
  have r_aFindings_9 := (r_aFindings_8).ext b9
  have r_c3_9 := (r_c3_8).ext (by omega) b9
  have r_c4_9 := (r_c4_8).ext (by omega) b9
  have r_x0_9 := (r_x0_8).ext (by omega) b9
  have r_x1_9 := (r_x1_8).ext (by omega) b9
  go_wp2_with fail
  refine (law_eqCheckS _ _ _ _ _ _ _ _ r_x0_9.1 s9.1).mono ?_
  rintro e w10 ⟨rfl, b10⟩
  have B10 := on B9 b10
  have z10 := (b10).size
  have r_aChecks_10 := (r_aChecks_9).ext b10
  have r_aFindings_10 := (r_aFindings_9).ext b10
  have r_c3_10 := (r_c3_9).ext (by omega) b10
  have r_c4_10 := (r_c4_9).ext (by omega) b10
  have r_x0_10 := (r_x0_9).ext (by omega) b10
  have r_x1_10 := (r_x1_9).ext (by omega) b10
  go_wp2_with fail
  refine (law_toFindingS _ aFindings _ _ _ r_aFindings_10 (by omega)).mono ?_
  rintro e w11 ⟨v11, rfl, s11, b11⟩
  have B11 := on B10 b11
  have z11 := (b11).size
  have r_aChecks_11 := (r_aChecks_10).ext b11
  have r_aFindings_11 := (r_aFindings_10).ext b11
  have r_c3_11 := (r_c3_10).ext (by omega) b11
  have r_c4_11 := (r_c4_10).ext (by omega) b11
  have r_x0_11 := (r_x0_10).ext (by omega) b11
  have r_x1_11 := (r_x1_10).ext (by omega) b11
  go_wp2_with fail
  refine (law_eqFindingS _ _ _ _ _ _ _ _ r_x1_11.1 s11.1).mono ?_
  rintro e w12 ⟨rfl, b12⟩
  have B12 := on B11 b12
  have z12 := (b12).size
  have r_aChecks_12 := (r_aChecks_11).ext b12
  have r_aFindings_12 := (r_aFindings_11).ext b12
  have r_c3_12 := (r_c3_11).ext (by omega) b12
  have r_c4_12 := (r_c4_11).ext (by omega) b12
  have r_x0_12 := (r_x0_11).ext (by omega) b12
  have r_x1_12 := (r_x1_11).ext (by omega) b12
  go_wp2
  go_ret
  exact ⟨rfl, B12⟩
end Go.Proofs.Ytfnmmfopbfmkaaa
