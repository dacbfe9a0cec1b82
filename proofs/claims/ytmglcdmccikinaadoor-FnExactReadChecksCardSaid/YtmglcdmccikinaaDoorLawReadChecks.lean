/- The law FnExactReadChecks. -/
import Derived.Test.YtmglcdmccikinaaDoorRcT
import Derived.Test.YtmglcdmccikinaaDoorRcI
import Derived.Test.YtmglcdmccikinaaDoorLawS
namespace Go.Proofs.YtmglcdmccikinaaDoor
open Go.RowKit
theorem rc_len {s : ByteArray} {l : List Chk} {b : Bool} (h : RcC s l b) : l.length ≤ 30 := by
  rcases h with ⟨-, h⟩ | ⟨-, rfl, -⟩
  · exact h.1.2
  · exact Nat.zero_le _
set_option maxRecDepth 100000 in
set_option maxHeartbeats 4000000 in
theorem law_ReadChecks (aS : ByteArray) (w : World) (_haS : aS.size ≤ maxLen) (h10 : P10 w) (hev : EV w) :
    Calls Tryd.prog 3 #[.string aS] w fun e w' => e = .returned (.bool true) ∧ Below w.heap.size w w' := by
  have B0 := Below.refl w.heap.size w
  have H10 := Lib.hid h10
  have Hev := Lib.hid hev
  clear h10 hev
  by_cases hbig : 1048576 < aS.size
  · have hb : decide ((1048576 : Int) < (aS.size : Int)) = true := decide_eq_true (by omega)
    go_enter Tryd.func3, Tryd.ntmps3
    go_wp2
    go_ret
    exact ⟨rfl, B0⟩
  have hb : decide ((1048576 : Int) < (aS.size : Int)) = false := decide_eq_false (by omega)
  have hsz : aS.size ≤ 1048576 := by omega
  go_enter Tryd.func3, Tryd.ntmps3
  go_wp2_with fail
  refine (spec_Read aS _ hsz).mono ?_
  rintro e w3 ⟨es, b, hc, v3, rfl, s3, b3⟩
  have hle := rc_len hc
  have Hc := Lib.hid hc
  clear hc
  have B3 := on B0 b3
  have z3 := (b3).size
  go_wp2_with fail
  refine (impl_ReadChecks aS _ hsz (H10.out.ext B3) (Hev.out.ext B3)).mono ?_
  rintro e w5 ⟨es2, b2', hc2, v5, rfl, s5, b5⟩
  obtain ⟨rfl, rfl⟩ := Hc.out.uniq hc2
  clear hc2
  have B5 := on B3 b5
  have z5 := (b5).size
  have W5 := (s3).ext (by omega) b5
  go_wp2_with fail
  refine (law_eqCheckS _ _ _ _ _ _ _ _ s5.1 W5.1).mono ?_
  rintro e w6 ⟨rfl, b6⟩
  have B6 := on B5 b6
  have z6 := (b6).size
  have W6 := (W5).ext (by omega) b6
  have g6 := (s5).ext (by omega) b6
  go_wp2_with fail
  refine (law_markCheckS _ _ _ _ 1 _ g6 (by omega) (by omega) (by omega)).mono ?_
  rintro e w11 ⟨rfl, s11, b11⟩
  have B11 := B6.trans (b11.below (by omega) (by omega))
  have z11 := (b11).size
  have W11 := (W6).keep (b11.same (by omega) (by omega))
  go_wp2_with fail
  refine (law_heldCheckS _ _ _ _ 1 _ s11.1 (by omega) (by omega)).mono ?_
  rintro e w12 ⟨rfl, b12⟩
  have B12 := on B11 b12
  have z12 := (b12).size
  have W12 := (W11).ext (by omega) b12
  have g12 := (s11).ext (by omega) b12
  go_wp2_with fail
  refine (impl_ReadChecks aS _ hsz (H10.out.ext B12) (Hev.out.ext B12)).mono ?_
  rintro e w14 ⟨es3, b3', hc3, v14, rfl, s14, b14⟩
  obtain ⟨rfl, rfl⟩ := Hc.out.uniq hc3
  clear hc3
  have B14 := on B12 b14
  have z14 := (b14).size
  have W14 := (W12).ext (by omega) b14
  have g14 := (g12).ext (by omega) b14
  go_wp2_with fail
  refine (law_eqCheckS _ _ _ _ _ _ _ _ s14.1 W14.1).mono ?_
  rintro e w15 ⟨rfl, b15⟩
  have B15 := on B14 b15
  have z15 := (b15).size
  have g15 := (g14).ext (by omega) b15
  go_wp2_with fail
  refine (law_heldCheckS _ _ _ _ 1 _ g15.1 (by omega) (by omega)).mono ?_
  rintro e w16 ⟨rfl, b16⟩
  have B16 := on B15 b16
  go_wp2
  go_ret
  exact ⟨rfl, B16⟩
end Go.Proofs.YtmglcdmccikinaaDoor
