/- The law FnExactRecoverLog. -/
import Derived.Test.YtjjibdjliejcfaaDoorLgA
import Derived.Test.YtjjibdjliejcfaaDoorLawS
namespace Go.Proofs.YtjjibdjliejcfaaDoor
open Go.RowKit
theorem str_refl (s : ByteArray) : (s.toList == s.toList) = true := by simp
set_option maxRecDepth 100000 in
set_option maxHeartbeats 4000000 in
theorem law_RecoverLog {vaList : Value} (aList : List Sgn) (aLog : ByteArray) (w : World) (haList : Sgns 0 w.heap.size w vaList aList ∧ ∀ x ∈ aList, x.wf) (haLog : aLog.size ≤ maxLen) (hm : ML w) (h10 : P10 w) (hev : EV w) :
    Calls Tryd.prog 6 #[vaList, .string aLog] w fun e w' => e = .returned (.bool true) ∧ Below w.heap.size w w' := by
  obtain ⟨r0, hwl⟩ := haList
  have B0 := Below.refl w.heap.size w
  have Hm := Lib.hid hm
  have H10 := Lib.hid h10
  have Hev := Lib.hid hev
  clear hm h10 hev
  by_cases hbig : 1048576 < aLog.size
  · have hb : decide ((1048576 : Int) < (aLog.size : Int)) = true := decide_eq_true (by omega)
    go_enter Tryd.func6, Tryd.ntmps6
    go_wp2
    go_ret
    exact ⟨rfl, B0⟩
  have hb : decide ((1048576 : Int) < (aLog.size : Int)) = false := decide_eq_false (by omega)
  have hsz : aLog.size ≤ 1048576 := by omega
  go_enter Tryd.func6, Tryd.ntmps6
  go_wp2_with fail
  refine (law_szSignerS _ aList _ _ _ _ r0 hwl (by omega) (by omega)).mono ?_
  rintro e w1 ⟨rfl, b1⟩
  have B1 := b1
  have z1 := (b1).size
  have r1 := (r0).ext b1
  by_cases q1 : 1048576 < szSgn aList
  · rw [szRes_lt q1]
    go_wp2
    go_ret
    exact ⟨rfl, B1⟩
  rw [szRes_ge q1]
  have l_aList := szSgn_len aList
  go_wp2_with fail
  refine (law_toSignerS _ aList _ _ _ r1 (by omega)).mono ?_
  rintro e w2 ⟨v2, rfl, s2, b2⟩
  have B2 := on B1 b2
  have z2 := (b2).size
  have r2 := (r1).ext b2
  go_wp2_with fail
  refine (spec_RecoverLog _ aList _ _ aLog _ s2.1 hwl hsz).mono ?_
  rintro e w3 ⟨r, a, b, rfl, hc, b3⟩
  have Hc := Lib.hid hc
  clear hc
  have B3 := on B2 b3
  have z3 := (b3).size
  have r3 := (r2).ext b3
  go_wp2_with fail
  refine (law_toSignerS _ aList _ _ _ r3 (by omega)).mono ?_
  rintro e w4 ⟨v4, rfl, s4, b4⟩
  have B4 := on B3 b4
  have z4 := (b4).size
  have r4 := (r3).ext b4
  go_wp2_with fail
  refine (impl_RecoverLog _ aList _ _ aLog _ s4.1 (Nat.le_refl _) hwl hsz (Hm.out.ext B4) (H10.out.ext B4) (Hev.out.ext B4)).mono ?_
  rintro e w5 ⟨r2, a2, b2, rfl, hc2, b5⟩
  obtain ⟨rfl, rfl, rfl⟩ := Hc.out.uniq hc2
  clear hc2 Hc
  have B5 := on B4 b5
  have z5 := (b5).size
  have r5 := (r4).ext b5
  have x5 := (s4).ext (by omega) b5
  have hne := str_refl r
  go_wp2_with fail
  refine (law_toSignerS _ aList _ _ _ r5 (by omega)).mono ?_
  rintro e w6 ⟨v6, rfl, s6, b6⟩
  have B6 := on B5 b6
  have z6 := (b6).size
  have x6 := (x5).ext (by omega) b6
  go_wp2_with fail
  refine (law_eqSignerS _ _ _ _ _ _ _ _ x6.1 s6.1).mono ?_
  rintro e w7 ⟨rfl, b7⟩
  have B7 := on B6 b7
  go_wp2
  go_ret
  exact ⟨rfl, B7⟩
end Go.Proofs.YtjjibdjliejcfaaDoor
