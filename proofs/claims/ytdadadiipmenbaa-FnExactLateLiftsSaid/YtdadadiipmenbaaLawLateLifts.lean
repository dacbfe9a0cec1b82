/- The law FnExactLateLifts. (Printed by gen_lawS.py.) -/
import Derived.Test.YtdadadiipmenbaaLateI
import Derived.Test.YtdadadiipmenbaaTLiftsz
import Derived.Test.YtdadadiipmenbaaTLiftszS
import Derived.Test.YtdadadiipmenbaaTLiftto
import Derived.Test.YtdadadiipmenbaaTLifttoS
import Derived.Test.YtdadadiipmenbaaTLifteq
import Derived.Test.YtdadadiipmenbaaTLifteqS
import Derived.Test.YtdadadiipmenbaaTLiftmark
import Derived.Test.YtdadadiipmenbaaLawS
namespace Go.Proofs.Ytdadadiipmenbaa
open Go.RowKit
theorem totM8_cost {φ α : Type} (g : φ → Nat) : ∀ (L : List (φ × List α)), totM 8 1 L ≤ 8 * (L.length + totN g L)
  | [] => by simp [totM, totN]
  | x :: r => by
    have h1 := totM8_cost g r
    simp only [totM, totN, List.length_cons]
    omega
set_option maxRecDepth 100000 in
set_option maxHeartbeats 8000000 in
theorem law_LateLifts {vaList : Value} (aList : LiftsL) {vaTasks : Value} (aTasks : List Tsk) (w : World) (haList : (∃ rs, Lifts 0 w.heap.size w vaList rs aList) ∧ ∀ x ∈ aList, x.1.wf ∧ ∀ y ∈ x.2, I64 y) (haTasks : Sl 4 Tsk.cells 0 w.heap.size w vaTasks aTasks ∧ ∀ x ∈ aTasks, x.wf) :
    Calls Try.prog 5 #[vaList, vaTasks] w fun e w' => e = .returned (.bool true) ∧ Below w.heap.size w w' := by
  obtain ⟨hraTasks, hwaTasks⟩ := haTasks
  have hszaTasks := Lib.hid (fun k w' (hb : Below w.heap.size w w') h0 hn => law_szTaskS vaTasks aTasks 0 w.heap.size k w' (hraTasks.ext hb) hwaTasks h0 hn)
  have hToaTasks := Lib.hid (fun (hn : aTasks.length ≤ 1048576) w' (hb : Below w.heap.size w w') => law_toTaskS vaTasks aTasks 0 w.heap.size w' (hraTasks.ext hb) hn)
  obtain ⟨aaTasks, caTasks, rfl, -⟩ := hraTasks
  obtain ⟨⟨rsaList, hraList⟩, hwaList⟩ := haList
  have hszaList := Lib.hid (fun k w' (hb : Below w.heap.size w w') h0 hn => law_szLiftS vaList rsaList aList 0 w.heap.size k w' (hraList.ext hb) hwaList h0 hn)
  have hToaList := Lib.hid (fun (hn : aList.length + totN (fun f : LiftF => f.name.size) aList ≤ 1048576) w' (hb : Below w.heap.size w w') => law_toLiftS vaList rsaList aList 0 w.heap.size w' (hraList.ext hb) hn)
  have HWaList := Lib.hid (show ∀ x ∈ aList, x.1.name.size ≤ maxLen from fun x hx => (hwaList x hx).1.1)
  clear hwaList
  obtain ⟨⟨aaList, caList, rfl, -⟩, -, -⟩ := hraList
  have B0 : Below w.heap.size w w := Below.refl _ _
  go_enter Try.func5, Try.ntmps5
  go_wp2_with fail
  refine (hszaList.out ((1048576 : Int)) _ B0 (by omega) (by omega)).mono ?_
  rintro e w1 ⟨rfl, f1⟩
  have z1 : w.heap.size ≤ w1.heap.size := f1.size
  have B1 := B0.trans (f1.mono B0.size)
  clear f1
  have hTaList := hToaList.out
  have hcsaList := (show totM 8 1 aList ≤ 8 * (aList.length + totN (fun f : LiftF => f.name.size) aList) from totM8_cost _ aList)
  have hlLaList : aList.length ≤ aList.length + totN (fun f : LiftF => f.name.size) aList := by omega
  generalize hcnaList : aList.length + totN (fun f : LiftF => f.name.size) aList = cnaList at *
  clear hcnaList
  by_cases hqaList : ((1048576 : Int) : Int) < (cnaList : Int)
  · rw [szRes_lt hqaList]
    clear hqaList hTaList
    go_wp2
    go_ret
    exact ⟨rfl, B1⟩
  rw [szRes_ge hqaList]
  have hgeaList : decide (((1048576 : Int) : Int) - (cnaList : Int) < 0) = false := decide_eq_false (by omega)
  have hTaList := Lib.hid (hTaList (by omega))
  have hbaList : aList.length ≤ 1048576 := by omega
  have htmaList : totM 8 1 aList ≤ 8388608 := by omega
  clear hToaList hszaList hcsaList hlLaList
  go_wp2_with fail
  refine (hszaTasks.out (((1048576 : Int) - (cnaList : Int))) _ B1 (by omega) (by omega)).mono ?_
  rintro e w2 ⟨rfl, f2⟩
  have z2 : w1.heap.size ≤ w2.heap.size := f2.size
  have B2 := B1.trans (f2.mono B1.size)
  clear f2
  have hlaTasks := szTsk_len aTasks
  by_cases hqaTasks : ((1048576 : Int) - (cnaList : Int)) < szTsk aTasks
  · rw [szRes_lt hqaTasks]
    clear hqaTasks
    go_wp2
    go_ret
    exact ⟨rfl, B2⟩
  rw [szRes_ge hqaTasks]
  have hgeaTasks : decide (((1048576 : Int) - (cnaList : Int)) - szTsk aTasks < 0) = false := decide_eq_false (by omega)
  have hTaTasks := Lib.hid (hToaTasks.out (by omega))
  have hbaTasks : aTasks.length ≤ 1048576 := by omega
  clear hToaTasks hszaTasks
  have htot : Hid ((lateR aList aTasks).1.length ≤ 1048576) := Lib.hid (lateR_len aList aTasks)
  go_wp2_with fail
  refine (hTaList.out _ B2).mono ?_
  rintro e w3 ⟨v3, rs3, rfl, q3, f3⟩
  have z3 : w2.heap.size ≤ w3.heap.size := f3.size
  have raLists3 : Hid (LiftW (w2.heap.size) w3.heap.size w3 v3 rs3 aList) := Lib.hid (by simpa using q3)
  clear q3
  have B3 := B2.trans (f3.mono B2.size)
  clear f3
  go_wp2_with fail
  refine (hTaTasks.out _ B3).mono ?_
  rintro e w4 ⟨v4, rfl, q4, f4⟩
  have z4 : w3.heap.size ≤ w4.heap.size := f4.size
  have raTaskss4 : Hid (Slw 4 Tsk.cells (w3.heap.size) w4.heap.size w4 v4 aTasks) := Lib.hid (by simpa using q4)
  clear q4
  have B4 := B3.trans (f4.mono B3.size)
  have raLists4 := Lib.hid (raLists3.out.ext (by first | omega | (simp; omega)) f4)
  clear raLists3 f4
  have hF := spec_LateLifts _ _ aList _ _ _ aTasks _ _ _ raLists4.out.r HWaList.out hbaList raTaskss4.out.1 hwaTasks
  try simp only [SV.v] at hF
  go_wp2_with fail
  refine (hF).mono ?_
  rintro e w5 ⟨v5, rfl, q5, f5⟩
  have z5 : w4.heap.size ≤ w5.heap.size := f5.size
  have rW5 : Hid (Slw 1 intCells (w4.heap.size) w5.heap.size w5 v5 (lateR aList aTasks).1) := Lib.hid (by simpa using q5)
  clear q5
  have B5 := B4.trans (f5.mono B4.size)
  have raLists5 := Lib.hid (raLists4.out.ext (by first | omega | (simp; omega)) f5)
  have raTaskss5 := Lib.hid (raTaskss4.out.ext (by first | omega | (simp; omega)) f5)
  clear raLists4 raTaskss4 f5
  clear hF
  clear raLists5
  clear raTaskss5
  go_wp2_with fail
  refine (hTaList.out _ B5).mono ?_
  rintro e w6 ⟨v6, rs6, rfl, q6, f6⟩
  have z6 : w5.heap.size ≤ w6.heap.size := f6.size
  have raListx6 : Hid (LiftW (w5.heap.size) w6.heap.size w6 v6 rs6 aList) := Lib.hid (by simpa using q6)
  clear q6
  have B6 := B5.trans (f6.mono B5.size)
  have rW6 := Lib.hid (rW5.out.ext (by first | omega | (simp; omega)) f6)
  clear rW5 f6
  go_wp2_with fail
  refine (hTaTasks.out _ B6).mono ?_
  rintro e w7 ⟨v7, rfl, q7, f7⟩
  have z7 : w6.heap.size ≤ w7.heap.size := f7.size
  have raTasksx7 : Hid (Slw 4 Tsk.cells (w6.heap.size) w7.heap.size w7 v7 aTasks) := Lib.hid (by simpa using q7)
  clear q7
  have B7 := B6.trans (f7.mono B6.size)
  have rW7 := Lib.hid (rW6.out.ext (by first | omega | (simp; omega)) f7)
  have raListx7 := Lib.hid (raListx6.out.ext (by first | omega | (simp; omega)) f7)
  clear rW6 raListx6 f7
  have hF := impl_LateLifts _ _ aList _ _ _ aTasks _ _ _ raListx7.out.r HWaList.out hbaList raTasksx7.out.1 hwaTasks
  try simp only [SV.v] at hF
  go_wp2_with fail
  refine (hF).mono ?_
  rintro e w8 ⟨v8, rfl, q8, f8⟩
  have z8 : w7.heap.size ≤ w8.heap.size := f8.size
  have rG8 : Hid (Slw 1 intCells (w7.heap.size) w8.heap.size w8 v8 (lateR aList aTasks).1) := Lib.hid (by simpa using q8)
  clear q8
  have B8 := B7.trans (f8.mono B7.size)
  have rW8 := Lib.hid (rW7.out.ext (by first | omega | (simp; omega)) f8)
  have raListx8 := Lib.hid (raListx7.out.ext (by first | omega | (simp; omega)) f8)
  have raTasksx8 := Lib.hid (raTasksx7.out.ext (by first | omega | (simp; omega)) f8)
  clear rW7 raListx7 raTasksx7 f8
  clear hF
  have hE := law_eqInt64S v8 v5 (lateR aList aTasks).1 _ _ _ _ _ rG8.out.1 rW8.out.1
  go_wp2_with fail
  refine (hE).mono ?_
  rintro e w9 ⟨rfl, f9⟩
  have z9 : w8.heap.size ≤ w9.heap.size := f9.size
  have B9 := B8.trans (f9.mono B8.size)
  have rW9 := Lib.hid (rW8.out.ext (by first | omega | (simp; omega)) f9)
  have raListx9 := Lib.hid (raListx8.out.ext (by first | omega | (simp; omega)) f9)
  have raTasksx9 := Lib.hid (raTasksx8.out.ext (by first | omega | (simp; omega)) f9)
  have rG9 := Lib.hid (rG8.out.ext (by first | omega | (simp; omega)) f9)
  clear rW8 raListx8 raTasksx8 rG8 f9
  clear hE
  go_wp2_with fail
  refine (hTaList.out _ B9).mono ?_
  rintro e w10 ⟨v10, rs10, rfl, q10, f10⟩
  have z10 : w9.heap.size ≤ w10.heap.size := f10.size
  have rY10 : Hid (LiftW (w9.heap.size) w10.heap.size w10 v10 rs10 aList) := Lib.hid (by simpa using q10)
  clear q10
  have B10 := B9.trans (f10.mono B9.size)
  have rW10 := Lib.hid (rW9.out.ext (by first | omega | (simp; omega)) f10)
  have raListx10 := Lib.hid (raListx9.out.ext (by first | omega | (simp; omega)) f10)
  have raTasksx10 := Lib.hid (raTasksx9.out.ext (by first | omega | (simp; omega)) f10)
  have rG10 := Lib.hid (rG9.out.ext (by first | omega | (simp; omega)) f10)
  clear rW9 raListx9 raTasksx9 rG9 f10
  have hE := law_eqLiftS v6 v10 _ _ aList _ _ _ _ _ raListx10.out.r rY10.out.r
  go_wp2_with fail
  refine (hE).mono ?_
  rintro e w11 ⟨rfl, f11⟩
  have z11 : w10.heap.size ≤ w11.heap.size := f11.size
  have B11 := B10.trans (f11.mono B10.size)
  have rW11 := Lib.hid (rW10.out.ext (by first | omega | (simp; omega)) f11)
  have raListx11 := Lib.hid (raListx10.out.ext (by first | omega | (simp; omega)) f11)
  have raTasksx11 := Lib.hid (raTasksx10.out.ext (by first | omega | (simp; omega)) f11)
  have rG11 := Lib.hid (rG10.out.ext (by first | omega | (simp; omega)) f11)
  have rY11 := Lib.hid (rY10.out.ext (by first | omega | (simp; omega)) f11)
  clear rW10 raListx10 raTasksx10 rG10 rY10 f11
  clear hE
  clear rY11
  go_wp2_with fail
  refine (hTaTasks.out _ B11).mono ?_
  rintro e w12 ⟨v12, rfl, q12, f12⟩
  have z12 : w11.heap.size ≤ w12.heap.size := f12.size
  have rY12 : Hid (Slw 4 Tsk.cells (w11.heap.size) w12.heap.size w12 v12 aTasks) := Lib.hid (by simpa using q12)
  clear q12
  have B12 := B11.trans (f12.mono B11.size)
  have rW12 := Lib.hid (rW11.out.ext (by first | omega | (simp; omega)) f12)
  have raListx12 := Lib.hid (raListx11.out.ext (by first | omega | (simp; omega)) f12)
  have raTasksx12 := Lib.hid (raTasksx11.out.ext (by first | omega | (simp; omega)) f12)
  have rG12 := Lib.hid (rG11.out.ext (by first | omega | (simp; omega)) f12)
  clear rW11 raListx11 raTasksx11 rG11 f12
  have hE := law_eqTaskS v7 v12 aTasks _ _ _ _ _ raTasksx12.out.1 rY12.out.1
  go_wp2_with fail
  refine (hE).mono ?_
  rintro e w13 ⟨rfl, f13⟩
  have z13 : w12.heap.size ≤ w13.heap.size := f13.size
  have B13 := B12.trans (f13.mono B12.size)
  have rW13 := Lib.hid (rW12.out.ext (by first | omega | (simp; omega)) f13)
  have raListx13 := Lib.hid (raListx12.out.ext (by first | omega | (simp; omega)) f13)
  have raTasksx13 := Lib.hid (raTasksx12.out.ext (by first | omega | (simp; omega)) f13)
  have rG13 := Lib.hid (rG12.out.ext (by first | omega | (simp; omega)) f13)
  have rY13 := Lib.hid (rY12.out.ext (by first | omega | (simp; omega)) f13)
  clear rW12 raListx12 raTasksx12 rG12 rY12 f13
  clear hE
  clear rY13
  have hM := law_markLiftS v6 _ aList _ _ (1) _ raListx13.out (by first | omega | (simp; omega)) (by omega) (by omega)
  go_wp2_with fail
  refine (hM).mono ?_
  rintro e w14 ⟨_, rfl, -, f14⟩
  have z14 : w13.heap.size ≤ w14.heap.size := f14.size
  clear hM raListx13
  have B14 := B13.trans (f14.below (B := w.heap.size) (by first | omega | (simp; omega)) B13.size)
  have rW14 := Lib.hid (rW13.out.keep (f14.same (by first | omega | (simp; omega)) (by omega)))
  have raTasksx14 := Lib.hid (raTasksx13.out.keep (f14.same (by first | omega | (simp; omega)) (by omega)))
  have rG14 := Lib.hid (rG13.out.keep (f14.same (by first | omega | (simp; omega)) (by omega)))
  clear rW13 raTasksx13 rG13 f14
  generalize hKaList : 1 + totM 8 1 aList = KaList at *
  have hM := law_markTaskS v7 aTasks _ _ (KaList) _ raTasksx14.out (by first | omega | (simp; omega)) (by omega) (by omega)
  go_wp2_with fail
  refine (hM).mono ?_
  rintro e w15 ⟨rfl, -, f15⟩
  have z15 : w14.heap.size ≤ w15.heap.size := f15.size
  clear hM raTasksx14
  have B15 := B14.trans (f15.below (B := w.heap.size) (by first | omega | (simp; omega)) B14.size)
  have rW15 := Lib.hid (rW14.out.keep (f15.same (by first | omega | (simp; omega)) (by omega)))
  have rG15 := Lib.hid (rG14.out.keep (f15.same (by first | omega | (simp; omega)) (by omega)))
  clear rW14 rG14 f15
  generalize hKaTasks : KaList + aTasks.length * 4 = KaTasks at *
  have hk0 : decide ((KaTasks : Int) < 0) = false := decide_eq_false (by omega)
  have hE := law_eqInt64S v8 v5 (lateR aList aTasks).1 _ _ _ _ _ rG15.out.1 rW15.out.1
  go_wp2_with fail
  refine (hE).mono ?_
  rintro e w16 ⟨rfl, f16⟩
  have z16 : w15.heap.size ≤ w16.heap.size := f16.size
  have B16 := B15.trans (f16.mono B15.size)
  have rW16 := Lib.hid (rW15.out.ext (by first | omega | (simp; omega)) f16)
  have rG16 := Lib.hid (rG15.out.ext (by first | omega | (simp; omega)) f16)
  clear rW15 rG15 f16
  clear hE
  have hM := law_markInt64S v8 (lateR aList aTasks).1 _ _ 1 _ rG16.out (by first | omega | (simp; omega)) (by omega) (by have := htot.out; omega)
  go_wp2_with fail
  refine (hM).mono ?_
  rintro e w17 ⟨rfl, qG, f17⟩
  have z17 : w16.heap.size ≤ w17.heap.size := f17.size
  have rG17 := Lib.hid qG
  clear hM qG rG16
  have B17 := B16.trans (f17.below (B := w.heap.size) (by first | omega | (simp; omega)) B16.size)
  have rW17 := Lib.hid (rW16.out.keep (f17.same (by first | omega | (simp; omega)) (by omega)))
  clear rW16 f17
  have hkm := htot.out
  generalize hKm : 1 + (lateR aList aTasks).1.length * 1 = Km at *
  have hm0 : decide ((Km : Int) < 0) = false := decide_eq_false (by omega)
  have hM := law_heldInt64S v8 _ _ (lateR aList aTasks).1.length 1 _ rG17.out.1 (by omega) (by have := htot.out; omega)
  try rw [hKm] at hM
  go_wp2_with fail
  refine (hM).mono ?_
  rintro e w18 ⟨rfl, f18⟩
  have z18 : w17.heap.size ≤ w18.heap.size := f18.size
  have B18 := B17.trans (f18.mono B17.size)
  have rW18 := Lib.hid (rW17.out.ext (by first | omega | (simp; omega)) f18)
  have rG18 := Lib.hid (rG17.out.ext (by first | omega | (simp; omega)) f18)
  clear rW17 rG17 f18
  clear hM
  go_wp2_with fail
  refine (hTaList.out _ B18).mono ?_
  rintro e w19 ⟨v19, rs19, rfl, q19, f19⟩
  have z19 : w18.heap.size ≤ w19.heap.size := f19.size
  have raListh19 : Hid (LiftW (w18.heap.size) w19.heap.size w19 v19 rs19 aList) := Lib.hid (by simpa using q19)
  clear q19
  have B19 := B18.trans (f19.mono B18.size)
  have rW19 := Lib.hid (rW18.out.ext (by first | omega | (simp; omega)) f19)
  have rG19 := Lib.hid (rG18.out.ext (by first | omega | (simp; omega)) f19)
  clear rW18 rG18 f19
  go_wp2_with fail
  refine (hTaTasks.out _ B19).mono ?_
  rintro e w20 ⟨v20, rfl, q20, f20⟩
  have z20 : w19.heap.size ≤ w20.heap.size := f20.size
  have raTasksh20 : Hid (Slw 4 Tsk.cells (w19.heap.size) w20.heap.size w20 v20 aTasks) := Lib.hid (by simpa using q20)
  clear q20
  have B20 := B19.trans (f20.mono B19.size)
  have rW20 := Lib.hid (rW19.out.ext (by first | omega | (simp; omega)) f20)
  have rG20 := Lib.hid (rG19.out.ext (by first | omega | (simp; omega)) f20)
  have raListh20 := Lib.hid (raListh19.out.ext (by first | omega | (simp; omega)) f20)
  clear rW19 rG19 raListh19 f20
  have hF := impl_LateLifts _ _ aList _ _ _ aTasks _ _ _ raListh20.out.r HWaList.out hbaList raTasksh20.out.1 hwaTasks
  try simp only [SV.v] at hF
  go_wp2_with fail
  refine (hF).mono ?_
  rintro e w21 ⟨v21, rfl, q21, f21⟩
  have z21 : w20.heap.size ≤ w21.heap.size := f21.size
  have rH21 : Hid (Slw 1 intCells (w20.heap.size) w21.heap.size w21 v21 (lateR aList aTasks).1) := Lib.hid (by simpa using q21)
  clear q21
  have B21 := B20.trans (f21.mono B20.size)
  have rW21 := Lib.hid (rW20.out.ext (by first | omega | (simp; omega)) f21)
  have rG21 := Lib.hid (rG20.out.ext (by first | omega | (simp; omega)) f21)
  have raListh21 := Lib.hid (raListh20.out.ext (by first | omega | (simp; omega)) f21)
  have raTasksh21 := Lib.hid (raTasksh20.out.ext (by first | omega | (simp; omega)) f21)
  clear rW20 rG20 raListh20 raTasksh20 f21
  clear hF
  clear raListh21
  clear raTasksh21
  have hE := law_eqInt64S v21 v5 (lateR aList aTasks).1 _ _ _ _ _ rH21.out.1 rW21.out.1
  go_wp2_with fail
  refine (hE).mono ?_
  rintro e w22 ⟨rfl, f22⟩
  have z22 : w21.heap.size ≤ w22.heap.size := f22.size
  have B22 := B21.trans (f22.mono B21.size)
  have rW22 := Lib.hid (rW21.out.ext (by first | omega | (simp; omega)) f22)
  have rG22 := Lib.hid (rG21.out.ext (by first | omega | (simp; omega)) f22)
  have rH22 := Lib.hid (rH21.out.ext (by first | omega | (simp; omega)) f22)
  clear rW21 rG21 rH21 f22
  clear hE
  have hM := law_heldInt64S v8 _ _ (lateR aList aTasks).1.length 1 _ rG22.out.1 (by omega) (by have := htot.out; omega)
  try rw [hKm] at hM
  go_wp2_with fail
  refine (hM).mono ?_
  rintro e w23 ⟨rfl, f23⟩
  have z23 : w22.heap.size ≤ w23.heap.size := f23.size
  have B23 := B22.trans (f23.mono B22.size)
  have rW23 := Lib.hid (rW22.out.ext (by first | omega | (simp; omega)) f23)
  have rG23 := Lib.hid (rG22.out.ext (by first | omega | (simp; omega)) f23)
  have rH23 := Lib.hid (rH22.out.ext (by first | omega | (simp; omega)) f23)
  clear rW22 rG22 rH22 f23
  clear hM
  go_wp2
  go_ret
  exact ⟨rfl, B23⟩
end Go.Proofs.Ytdadadiipmenbaa
