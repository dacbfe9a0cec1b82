/- The law FnExactPackLifts. -/
import Derived.Test.YtgbohbjpdmgneaaPlJ
import Derived.Test.YtgbohbjpdmgneaaLawS
import Derived.Test.YtgbohbjpdmgneaaTLiftszS
import Derived.Test.YtgbohbjpdmgneaaTLifttoS
import Derived.Test.YtgbohbjpdmgneaaTLifteqS
namespace Go.Proofs.Ytgbohbjpdmgneaa
open Go.RowKit
def liftsCost (L : LiftsL) : Nat := L.length + totN (fun f : LiftF => f.name.size) L
set_option maxRecDepth 100000 in
set_option maxHeartbeats 8000000 in
theorem law_PackLifts {v : Value} (L : LiftsL) (w : World) (h : (∃ rs, Lifts 0 w.heap.size w v rs L) ∧ ∀ x ∈ L, x.1.wf ∧ ∀ y ∈ x.2, I64 y) :
    Calls Try.prog 3 #[v] w fun e w' => e = .returned (.bool true) ∧ Below w.heap.size w w' := by
  obtain ⟨⟨rs, hr⟩, hwf⟩ := h
  have hsz := Lib.hid (law_szLiftS v rs L 0 w.heap.size 1048576 w hr hwf (by omega) (by omega))
  have hT0 := Lib.hid (fun (hn : liftsCost L ≤ 1048576) w' (hb : Below w.heap.size w w') => law_toLiftS v rs L 0 w.heap.size w' (hr.ext hb) hn)
  have HW := Lib.hid (show ∀ x ∈ L, x.1.name.size ≤ maxLen from fun x hx => (hwf x hx).1.1)
  obtain ⟨⟨a, cap, rfl, -⟩, -, -⟩ := hr
  clear hwf
  go_enter Try.func3, Try.ntmps3
  rw [show L.length + totN (fun f : LiftF => f.name.size) L = liftsCost L from rfl] at hsz
  go_wp2_with fail
  refine hsz.out.mono ?_
  rintro e w1 ⟨rfl, B1⟩
  by_cases hq : (1048576 : Int) < (liftsCost L : Int)
  · rw [szRes_lt hq]
    clear hq
    go_wp2
    go_ret
    exact ⟨rfl, B1⟩
  rw [szRes_ge hq]
  have hT := Lib.hid (hT0.out (by omega))
  have hlen : L.length ≤ 1048576 := by unfold liftsCost at hq; omega
  have hge : decide ((1048576 : Int) - (liftsCost L : Int) < 0) = false := decide_eq_false (by omega)
  generalize (liftsCost L : Int) = nn at *
  clear hq hT0 hsz
  go_wp2_with fail
  refine (hT.out _ B1).mono ?_
  rintro e w2 ⟨v2, rs2, rfl, hc2, hb2⟩
  have B2 := B1.trans (hb2.mono B1.size)
  have hS := Lib.hid (spec_PackLifts v2 rs2 L _ _ w2 hc2.r HW.out hlen)
  clear hc2
  go_wp2_with fail
  refine hS.out.mono ?_
  rintro e w3 ⟨rfl, hb3⟩
  have B3 := B2.trans (hb3.mono B2.size)
  go_wp2_with fail
  refine (hT.out _ B3).mono ?_
  rintro e w4 ⟨v4, rs4, rfl, hc4, hb4⟩
  have B4 := B3.trans (hb4.mono B3.size)
  have hI := Lib.hid (impl_PackLifts v4 rs4 L _ _ w4 hc4.r HW.out hlen)
  have hE := Lib.hid (fun w' (hb : Below w4.heap.size w4 w') v2 rs2 lo hi w2 => law_eqLiftS v4 v2 rs4 rs2 L _ _ lo hi w' (hc4.r.ext hb) w2)
  clear hc4 hS
  go_wp2_with fail
  refine hI.out.mono ?_
  rintro e w6 ⟨rfl, b6⟩
  have B6 := B4.trans (b6.mono B4.size)
  clear hb2 hb3 hb4
  go_wp2_with fail
  refine (hT.out _ B6).mono ?_
  rintro e w7 ⟨v7, rs7, rfl, hc7, hb7⟩
  have hE7 := Lib.hid (hE.out w7 (b6.trans (hb7.mono b6.size)) v7 rs7 _ _ hc7.r)
  have B7 := B6.trans (hb7.mono B6.size)
  clear hc7
  go_wp2_with fail
  refine hE7.out.mono ?_
  rintro e w8 ⟨rfl, hb8⟩
  go_wp2
  go_ret
  exact ⟨rfl, B7.trans (hb8.mono B7.size)⟩
end Go.Proofs.Ytgbohbjpdmgneaa
