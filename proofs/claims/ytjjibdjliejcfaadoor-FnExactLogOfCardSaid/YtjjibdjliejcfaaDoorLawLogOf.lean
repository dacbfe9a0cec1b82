/- The law FnExactLogOf. -/
import Derived.Test.YtjjibdjliejcfaaDoorLgU
import Derived.Test.YtjjibdjliejcfaaDoorLawS
namespace Go.Proofs.YtjjibdjliejcfaaDoor
open Go.RowKit
theorem str_refl (s : ByteArray) : (s.toList == s.toList) = true := by simp
set_option maxRecDepth 100000 in
set_option maxHeartbeats 4000000 in
theorem law_LogOf {vaList vaEntries : Value} (aList : List Sgn) (aEntries : List Ent) (w : World) (haList : Sgns 0 w.heap.size w vaList aList ∧ ∀ x ∈ aList, x.wf) (haEntries : Ents 0 w.heap.size w vaEntries aEntries ∧ ∀ x ∈ aEntries, x.wf) (h10 : P10 w) (hhd : HD w) :
    Calls Tryd.prog 4 #[vaList, vaEntries] w fun e w' => e = .returned (.bool true) ∧ Below w.heap.size w w' := by
  obtain ⟨r0, hwl⟩ := haList
  obtain ⟨e0, hwe⟩ := haEntries
  have B0 := Below.refl w.heap.size w
  have H10 := Lib.hid h10
  have Hhd := Lib.hid hhd
  clear h10 hhd
  go_enter Tryd.func4, Tryd.ntmps4
  go_wp2_with fail
  refine (law_szSignerS _ aList _ _ _ _ r0 hwl (by omega) (by omega)).mono ?_
  rintro e w1 ⟨rfl, b1⟩
  have B1 := b1
  have z1 := (b1).size
  have r1 := (r0).ext b1
  have e1 := (e0).ext b1
  by_cases q1 : 1048576 < szSgn aList
  · rw [szRes_lt q1]
    go_wp2
    go_ret
    exact ⟨rfl, B1⟩
  rw [szRes_ge q1]
  have l_aList := szSgn_len aList
  go_wp2_with fail
  refine (law_szEntryS _ aEntries _ _ _ _ e1 hwe (by omega) (by omega)).mono ?_
  rintro e w2 ⟨rfl, b2⟩
  have B2 := on B1 b2
  have z2 := (b2).size
  have r2 := (r1).ext b2
  have e2 := (e1).ext b2
  by_cases q2 : 1048576 - szSgn aList < szEnt aEntries
  · rw [szRes_lt q2]
    go_wp2
    go_ret
    exact ⟨rfl, B2⟩
  rw [szRes_ge q2]
  have l_aEntries := szEnt_len aEntries
  go_wp2_with fail
  refine (law_toSignerS _ aList _ _ _ r2 (by omega)).mono ?_
  rintro e w3 ⟨v3, rfl, s3, b3⟩
  have B3 := on B2 b3
  have z3 := (b3).size
  have r3 := (r2).ext b3
  have e3 := (e2).ext b3
  go_wp2_with fail
  refine (law_toEntryS _ aEntries _ _ _ e3 (by omega)).mono ?_
  rintro e w4 ⟨v4, rfl, s4, b4⟩
  have B4 := on B3 b4
  have z4 := (b4).size
  have r4 := (r3).ext b4
  have e4 := (e3).ext b4
  have c4 := (s3).ext (by omega) b4
  go_wp2_with fail
  refine (spec_LogOf _ _ aList aEntries _ _ _ _ _ c4.1 hwl s4.1 hwe).mono ?_
  rintro e w5 ⟨r, c, rfl, hc, b5⟩
  have Hc := Lib.hid hc
  clear hc
  have B5 := on B4 b5
  have z5 := (b5).size
  have r5 := (r4).ext b5
  have e5 := (e4).ext b5
  go_wp2_with fail
  refine (law_toSignerS _ aList _ _ _ r5 (by omega)).mono ?_
  rintro e w6 ⟨v6, rfl, s6, b6⟩
  have B6 := on B5 b6
  have z6 := (b6).size
  have r6 := (r5).ext b6
  have e6 := (e5).ext b6
  go_wp2_with fail
  refine (law_toEntryS _ aEntries _ _ _ e6 (by omega)).mono ?_
  rintro e w7 ⟨v7, rfl, s7, b7⟩
  have B7 := on B6 b7
  have z7 := (b7).size
  have r7 := (r6).ext b7
  have e7 := (e6).ext b7
  have x7 := (s6).ext (by omega) b7
  go_wp2_with fail
  refine (impl_LogOf _ _ aList aEntries _ _ _ _ _ x7.1 hwl s7.1 hwe (H10.out.ext B7) (Hhd.out.ext B7)).mono ?_
  rintro e w8 ⟨r', c', rfl, hc2, b8⟩
  obtain ⟨rfl, rfl⟩ := Hc.out.uniq hc2
  clear hc2 Hc
  have B8 := on B7 b8
  have z8 := (b8).size
  have r8 := (r7).ext b8
  have e8 := (e7).ext b8
  have x8 := (x7).ext (by omega) b8
  have y8 := (s7).ext (by omega) b8
  have hne := str_refl r
  go_wp2_with fail
  refine (law_toSignerS _ aList _ _ _ r8 (by omega)).mono ?_
  rintro e w9 ⟨v9, rfl, s9, b9⟩
  have B9 := on B8 b9
  have z9 := (b9).size
  have e9 := (e8).ext b9
  have x9 := (x8).ext (by omega) b9
  have y9 := (y8).ext (by omega) b9
  go_wp2_with fail
  refine (law_eqSignerS _ _ _ _ _ _ _ _ x9.1 s9.1).mono ?_
  rintro e w10 ⟨rfl, b10⟩
  have B10 := on B9 b10
  have z10 := (b10).size
  have e10 := (e9).ext b10
  have y10 := (y9).ext (by omega) b10
  go_wp2_with fail
  refine (law_toEntryS _ aEntries _ _ _ e10 (by omega)).mono ?_
  rintro e w11 ⟨v11, rfl, s11, b11⟩
  have B11 := on B10 b11
  have z11 := (b11).size
  have y11 := (y10).ext (by omega) b11
  go_wp2_with fail
  refine (law_eqEntryS _ _ _ _ _ _ _ _ y11.1 s11.1).mono ?_
  rintro e w12 ⟨rfl, b12⟩
  have B12 := on B11 b12
  go_wp2
  go_ret
  exact ⟨rfl, B12⟩
end Go.Proofs.YtjjibdjliejcfaaDoor
