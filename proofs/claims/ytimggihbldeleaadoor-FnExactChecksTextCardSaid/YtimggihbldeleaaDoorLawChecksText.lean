/- The law FnExactChecksText. -/
import Derived.Test.YtimggihbldeleaaDoorCkI
import Derived.Test.YtimggihbldeleaaDoorLawS
namespace Go.Proofs.YtimggihbldeleaaDoor
open Go.RowKit

theorem str_refl (s : ByteArray) : (s.toList == s.toList) = true := by simp
set_option maxRecDepth 100000 in
set_option maxHeartbeats 4000000 in
theorem law_ChecksText {vaList : Value} (aList : List Chk) (w : World) (haList : Sl 4 Chk.cells 0 w.heap.size w vaList aList ∧ ∀ x ∈ aList, x.wf) (h10 : P10 w) :
    Calls Tryd.prog 3 #[vaList] w fun e w' => e = .returned (.bool true) ∧ Below w.heap.size w w' := by
  obtain ⟨r_aList_0, hw_aList⟩ := haList
  have B0 := Below.refl w.heap.size w
  have H10 := Lib.hid h10
  clear h10
  have hne := str_refl (chkTxt aList)
  go_enter Tryd.func3, Tryd.ntmps3
  go_wp2_with fail
  refine (law_szCheckS _ aList _ _ _ _ r_aList_0 hw_aList (by omega) (by omega)).mono ?_
  rintro e w1 ⟨rfl, b1⟩
  have B1 := b1
  have z1 := (b1).size
  have r_aList_1 := (r_aList_0).ext b1
  by_cases q1 : 1048576 < szChk aList
  · rw [szRes_lt q1]
    go_wp2
    go_ret
    exact ⟨rfl, B1⟩
  rw [szRes_ge q1]
  have l_aList := szChk_len aList
  go_wp2_with fail
  refine (law_toCheckS _ aList _ _ _ r_aList_1 (by omega)).mono ?_
  rintro e w2 ⟨v2, rfl, s2, b2⟩
  have B2 := on B1 b2
  have z2 := (b2).size
  have r_aList_2 := (r_aList_1).ext b2
  go_wp2_with fail
  refine (spec_ChecksText _ aList _ _ _ s2.1 hw_aList).mono ?_
  rintro e w3 ⟨rfl, b3⟩
  have B3 := on B2 b3
  have z3 := (b3).size
  have r_aList_3 := (r_aList_2).ext b3
  have r_c2_3 := (s2).ext (by omega) b3
  go_wp2_with fail
  refine (law_toCheckS _ aList _ _ _ r_aList_3 (by omega)).mono ?_
  rintro e w4 ⟨v4, rfl, s4, b4⟩
  have B4 := on B3 b4
  have z4 := (b4).size
  have r_aList_4 := (r_aList_3).ext b4
  have r_c2_4 := (r_c2_3).ext (by omega) b4
  go_wp2_with fail
  refine (impl_ChecksText _ aList _ _ _ s4.1 (by omega) hw_aList (H10.out.ext B4)).mono ?_
  rintro e w5 ⟨rfl, b5⟩
  have B5 := on B4 b5
  have z5 := (b5).size
  have r_aList_5 := (r_aList_4).ext b5
  have r_c2_5 := (r_c2_4).ext (by omega) b5
  have r_x0_5 := (s4).ext (by omega) b5
  go_wp2_with fail
  refine (law_toCheckS _ aList _ _ _ r_aList_5 (by omega)).mono ?_
  rintro e w6 ⟨v6, rfl, s6, b6⟩
  have B6 := on B5 b6
  have z6 := (b6).size
  have r_aList_6 := (r_aList_5).ext b6
  have r_c2_6 := (r_c2_5).ext (by omega) b6
  have r_x0_6 := (r_x0_5).ext (by omega) b6
  go_wp2_with fail
  refine (law_eqCheckS _ _ _ _ _ _ _ _ r_x0_6.1 s6.1).mono ?_
  rintro e w7 ⟨rfl, b7⟩
  have B7 := on B6 b7
  have z7 := (b7).size
  have r_aList_7 := (r_aList_6).ext b7
  have r_c2_7 := (r_c2_6).ext (by omega) b7
  have r_x0_7 := (r_x0_6).ext (by omega) b7
  go_wp2
  go_ret
  exact ⟨rfl, B7⟩
end Go.Proofs.YtimggihbldeleaaDoor
