/- The law FnExactAbilityTable. (Printed by gen_lawS.py.) -/
import Derived.Test.YtdadadiipmenbaaAbilI
import Derived.Test.YtdadadiipmenbaaTCranesz
import Derived.Test.YtdadadiipmenbaaTCraneszS
import Derived.Test.YtdadadiipmenbaaTCraneto
import Derived.Test.YtdadadiipmenbaaTCranetoS
import Derived.Test.YtdadadiipmenbaaTCraneeq
import Derived.Test.YtdadadiipmenbaaTCraneeqS
import Derived.Test.YtdadadiipmenbaaTLiftsz
import Derived.Test.YtdadadiipmenbaaTLiftszS
import Derived.Test.YtdadadiipmenbaaTLiftto
import Derived.Test.YtdadadiipmenbaaTLifttoS
import Derived.Test.YtdadadiipmenbaaTLifteq
import Derived.Test.YtdadadiipmenbaaTLifteqS
import Derived.Test.YtdadadiipmenbaaTLiftmark
import Derived.Test.YtdadadiipmenbaaCb
import Derived.Test.YtdadadiipmenbaaTSiteM
import Derived.Test.YtdadadiipmenbaaLawS
namespace Go.Proofs.Ytdadadiipmenbaa
open Go.RowKit
theorem totM8_cost {φ α : Type} (g : φ → Nat) : ∀ (L : List (φ × List α)), totM 8 1 L ≤ 8 * (L.length + totN g L)
  | [] => by simp [totM, totN]
  | x :: r => by
    have h1 := totM8_cost g r
    simp only [totM, totN, List.length_cons]
    omega
set_option maxRecDepth 100000 in
set_option maxHeartbeats 8000000 in
theorem law_AbilityTable {vaS : Value} (L : SiteL) {vaList : Value} (aList : LiftsL) (w : World) (haS : (∃ s : SV, vaS = .agg #[s.v] ∧ ∃ rs, Cranes 0 w.heap.size w s.v rs L) ∧ L.wf) (haList : (∃ rs, Lifts 0 w.heap.size w vaList rs aList) ∧ ∀ x ∈ aList, x.1.wf ∧ ∀ y ∈ x.2, I64 y) :
    Calls Try.prog 4 #[vaS, vaList] w fun e w' => e = .returned (.bool true) ∧ Below w.heap.size w w' := by
  obtain ⟨⟨s, rfl, rs, hr⟩, hwf⟩ := haS
  have hszS := fun w' (hb : Below w.heap.size w w') => law_szSite s rs L 0 w.heap.size 1048576 w' (hr.ext hb) hwf (by omega) (by omega)
  have hTS0 := fun (hn : L.cost ≤ 1048576) w' (hb : Below w.heap.size w w') => law_toSite s rs L 0 w.heap.size w' (hr.ext hb) hn
  have HW := Lib.hid hwf
  clear hr hwf
  obtain ⟨sa, sl, sc⟩ := s
  simp only [SV.v] at *
  have hszS := Lib.hid hszS
  have hTS0 := Lib.hid hTS0
  obtain ⟨⟨rsaList, hraList⟩, hwaList⟩ := haList
  have hszaList := Lib.hid (fun k w' (hb : Below w.heap.size w w') h0 hn => law_szLiftS vaList rsaList aList 0 w.heap.size k w' (hraList.ext hb) hwaList h0 hn)
  have hToaList := Lib.hid (fun (hn : aList.length + totN (fun f : LiftF => f.name.size) aList ≤ 1048576) w' (hb : Below w.heap.size w w') => law_toLiftS vaList rsaList aList 0 w.heap.size w' (hraList.ext hb) hn)
  have HWaList := Lib.hid (show ∀ x ∈ aList, x.1.name.size ≤ maxLen from fun x hx => (hwaList x hx).1.1)
  clear hwaList
  obtain ⟨⟨aaList, caList, rfl, -⟩, -, -⟩ := hraList
  have B0 : Below w.heap.size w (w.alloc (.cells #[.slice sa sl sc] 24)) := (Below.refl _ _).alloc (Nat.le_refl _) _
  have bA0 := Lib.hid (Cb.new w (.slice sa sl sc) 24)
  have s0 : w.heap.size + 1 ≤ (w.alloc (.cells #[.slice sa sl sc] 24)).heap.size := by simp
  go_enter Try.func4, Try.ntmps4
  have cA := bA0.out.c
  have lA := bA0.out.lt
  go_wp2_with fail
  refine (hszS.out _ B0).mono ?_
  rintro e w1 ⟨rfl, f1⟩
  have z1 : w.heap.size + 1 ≤ w1.heap.size := by simpa using f1.size
  have B1 := B0.trans (f1.mono B0.size)
  have bA1 := Lib.hid (bA0.out.ext f1)
  clear bA0 f1
  by_cases hq : (1048576 : Int) < (L.cost : Int)
  · rw [szRes_lt hq]
    clear hq
    go_wp2
    go_ret
    exact ⟨rfl, B1⟩
  rw [szRes_ge hq]
  have hTS := Lib.hid (hTS0.out (by omega))
  have hcost : L.cost ≤ 1048576 := by omega
  have htc : totC L ≤ 6291456 := by have := totM_cost (fun f : CraneF => f.name.size) L; unfold SiteL.cost at hcost; unfold totC; omega
  have hge : decide ((1048576 : Int) - (L.cost : Int) < 0) = false := decide_eq_false (by omega)
  clear hszS hTS0
  generalize hnn : (L.cost : Int) = nn at *
  have hnn0 : 0 ≤ nn := by omega
  clear hnn
  clear cA lA
  have cA := bA1.out.c
  have lA := bA1.out.lt
  go_wp2_with fail
  refine (hszaList.out (1048576 - nn) _ B1 (by omega) (by omega)).mono ?_
  rintro e w2 ⟨rfl, f2⟩
  have z2 : w1.heap.size ≤ w2.heap.size := f2.size
  have B2 := B1.trans (f2.mono B1.size)
  have bA2 := Lib.hid (bA1.out.ext f2)
  clear bA1 f2
  have hTaList := hToaList.out
  have hcsaList := (show totM 8 1 aList ≤ 8 * (aList.length + totN (fun f : LiftF => f.name.size) aList) from totM8_cost _ aList)
  have hlLaList : aList.length ≤ aList.length + totN (fun f : LiftF => f.name.size) aList := by omega
  generalize hcnaList : aList.length + totN (fun f : LiftF => f.name.size) aList = cnaList at *
  clear hcnaList
  by_cases hqaList : (1048576 - nn : Int) < (cnaList : Int)
  · rw [szRes_lt hqaList]
    clear hqaList hTaList
    go_wp2
    go_ret
    exact ⟨rfl, B2⟩
  rw [szRes_ge hqaList]
  have hgeaList : decide ((1048576 - nn : Int) - (cnaList : Int) < 0) = false := decide_eq_false (by omega)
  have hTaList := Lib.hid (hTaList (by omega))
  have hbaList : aList.length ≤ 1048576 := by omega
  have htmaList : totM 8 1 aList ≤ 8388608 := by omega
  clear hToaList hszaList hcsaList hlLaList
  have htot : Hid (totSS (ablL L aList).1 ≤ 1048576) := Lib.hid (ablL_tot L aList)
  clear cA lA
  have cA := bA2.out.c
  have lA := bA2.out.lt
  go_wp2_with fail
  refine (hTS.out _ B2).mono ?_
  rintro e w3 ⟨⟨a3, t3, p3⟩, rs3, rfl, q3, f3⟩
  have z3 : w2.heap.size ≤ w3.heap.size := f3.size
  simp only [SV.v] at q3 ⊢
  have rSs3 : Hid (CraneW (w2.heap.size) w3.heap.size w3 (.slice a3 t3 p3) rs3 L) := Lib.hid (by simpa using q3)
  clear q3
  have B3 := B2.trans (f3.mono B2.size)
  have bA3 := Lib.hid (bA2.out.ext f3)
  clear bA2 f3
  clear cA lA
  have cA := bA3.out.c
  have lA := bA3.out.lt
  go_wp2_with fail
  refine (hTaList.out _ B3).mono ?_
  rintro e w4 ⟨v4, rs4, rfl, q4, f4⟩
  have z4 : w3.heap.size ≤ w4.heap.size := f4.size
  have raLists4 : Hid (LiftW (w3.heap.size) w4.heap.size w4 v4 rs4 aList) := Lib.hid (by simpa using q4)
  clear q4
  have B4 := B3.trans (f4.mono B3.size)
  have bA4 := Lib.hid (bA3.out.ext f4)
  have rSs4 := Lib.hid (rSs3.out.ext (by first | omega | (simp; omega)) f4)
  clear bA3 rSs3 f4
  have hF := spec_AbilityTable ⟨a3, t3, p3⟩ _ L _ _ _ _ aList _ _ _ rSs4.out.r HW.out raLists4.out.r HWaList.out hbaList
  simp only [SV.v] at hF
  clear cA lA
  have cA := bA4.out.c
  have lA := bA4.out.lt
  go_wp2_with fail
  refine (hF).mono ?_
  rintro e w5 ⟨v5, rs5, rfl, q5, f5⟩
  have z5 : w4.heap.size ≤ w5.heap.size := f5.size
  have rW5 : Hid (SSw 1 boolCells (w4.heap.size) w5.heap.size w5 v5 rs5 (ablL L aList).1) := Lib.hid (by simpa using q5)
  clear q5
  have B5 := B4.trans (f5.mono B4.size)
  have bA5 := Lib.hid (bA4.out.ext f5)
  have rSs5 := Lib.hid (rSs4.out.ext (by first | omega | (simp; omega)) f5)
  have raLists5 := Lib.hid (raLists4.out.ext (by first | omega | (simp; omega)) f5)
  clear bA4 rSs4 raLists4 f5
  clear hF
  clear rSs5
  clear raLists5
  clear cA lA
  have cA := bA5.out.c
  have lA := bA5.out.lt
  go_wp2_with fail
  refine (hTS.out _ B5).mono ?_
  rintro e w6 ⟨⟨a6, t6, p6⟩, rs6, rfl, q6, f6⟩
  have z6 : w5.heap.size ≤ w6.heap.size := f6.size
  simp only [SV.v] at q6 ⊢
  have rX6 : Hid (CraneW (w5.heap.size) w6.heap.size w6 (.slice a6 t6 p6) rs6 L) := Lib.hid (by simpa using q6)
  clear q6
  have B6 := B5.trans (f6.mono B5.size)
  have bA6 := Lib.hid (bA5.out.ext f6)
  have rW6 := Lib.hid (rW5.out.ext (by first | omega | (simp; omega)) f6)
  clear bA5 rW5 f6
  have g6 : Below w6.heap.size w6 (w6.alloc (.cells #[.slice a6 t6 p6] 33)) := (Below.refl _ _).alloc (Nat.le_refl _) _
  have bX6a := Lib.hid (Cb.new w6 (.slice a6 t6 p6) 33)
  have B6a := B6.trans (g6.mono B6.size)
  have bA6a := Lib.hid (bA6.out.ext g6)
  have rW6a := Lib.hid (rW6.out.ext (by first | omega | (simp; omega)) g6)
  have rX6a := Lib.hid (rX6.out.ext (by first | omega | (simp; omega)) g6)
  clear bA6 rW6 rX6 g6
  clear cA lA
  have cA := bA6a.out.c
  have lA := bA6a.out.lt
  have cX := bX6a.out.c
  have lX := bX6a.out.lt
  go_wp2_with fail
  refine (hTaList.out _ B6a).mono ?_
  rintro e w7 ⟨v7, rs7, rfl, q7, f7⟩
  have z7 : w6.heap.size + 1 ≤ w7.heap.size := by simpa using f7.size
  have raListx7 : Hid (LiftW (w6.heap.size + 1) w7.heap.size w7 v7 rs7 aList) := Lib.hid (by simpa using q7)
  clear q7
  have B7 := B6a.trans (f7.mono B6a.size)
  have bA7 := Lib.hid (bA6a.out.ext f7)
  have bX7 := Lib.hid (bX6a.out.ext f7)
  have rW7 := Lib.hid (rW6a.out.ext (by first | omega | (simp; omega)) f7)
  have rX7 := Lib.hid (rX6a.out.ext (by first | omega | (simp; omega)) f7)
  clear bA6a bX6a rW6a rX6a f7
  have hF := impl_AbilityTable ⟨a6, t6, p6⟩ _ L _ _ _ _ aList _ _ _ rX7.out.r (by first | omega | (simp; omega)) HW.out raListx7.out.r HWaList.out hbaList
  simp only [SV.v] at hF
  clear cA lA cX lX
  have cA := bA7.out.c
  have lA := bA7.out.lt
  have cX := bX7.out.c
  have lX := bX7.out.lt
  go_wp2_with fail
  refine (hF).mono ?_
  rintro e w8 ⟨v8, rs8, rfl, q8, f8⟩
  have z8 : w7.heap.size ≤ w8.heap.size := f8.size
  have rG8 : Hid (SSw 1 boolCells (w7.heap.size) w8.heap.size w8 v8 rs8 (ablL L aList).1) := Lib.hid (by simpa using q8)
  clear q8
  have B8 := B7.trans (f8.mono B7.size)
  have bA8 := Lib.hid (bA7.out.ext f8)
  have bX8 := Lib.hid (bX7.out.ext f8)
  have rW8 := Lib.hid (rW7.out.ext (by first | omega | (simp; omega)) f8)
  have rX8 := Lib.hid (rX7.out.ext (by first | omega | (simp; omega)) f8)
  have raListx8 := Lib.hid (raListx7.out.ext (by first | omega | (simp; omega)) f8)
  clear bA7 bX7 rW7 rX7 raListx7 f8
  clear hF
  have hE := law_eqBoolSS v8 v5 rs8 rs5 (ablL L aList).1 _ _ _ _ _ rG8.out.r rW8.out.r
  clear cA lA cX lX
  have cA := bA8.out.c
  have lA := bA8.out.lt
  have cX := bX8.out.c
  have lX := bX8.out.lt
  go_wp2_with fail
  refine (hE).mono ?_
  rintro e w9 ⟨rfl, f9⟩
  have z9 : w8.heap.size ≤ w9.heap.size := f9.size
  have B9 := B8.trans (f9.mono B8.size)
  have bA9 := Lib.hid (bA8.out.ext f9)
  have bX9 := Lib.hid (bX8.out.ext f9)
  have rW9 := Lib.hid (rW8.out.ext (by first | omega | (simp; omega)) f9)
  have rX9 := Lib.hid (rX8.out.ext (by first | omega | (simp; omega)) f9)
  have raListx9 := Lib.hid (raListx8.out.ext (by first | omega | (simp; omega)) f9)
  have rG9 := Lib.hid (rG8.out.ext (by first | omega | (simp; omega)) f9)
  clear bA8 bX8 rW8 rX8 raListx8 rG8 f9
  clear hE
  clear cA lA cX lX
  have cA := bA9.out.c
  have lA := bA9.out.lt
  have cX := bX9.out.c
  have lX := bX9.out.lt
  have hE := Lib.hid (fun w' (hb : Below w9.heap.size w9 w') s2 rs2 lo hi h2 => law_eqSite ⟨a6, t6, p6⟩ s2 _ rs2 L _ _ lo hi w' (rX9.out.r.ext hb) h2)
  simp only [SV.v] at hE
  go_wp2_with fail
  go_region_held3 (fun w' => (∀ b' o', b' < w9.heap.size → w'.cell? ⟨b', o', none⟩ = w9.cell? ⟨b', o', none⟩) ∧ Below w9.heap.size w9 w') (first | exact heldB (Below.refl _ _).drew | exact heldB f11 | exact heldB e10)
    (first
      | (go_at_call 9; refine (hTS.out _ (B9.trans ((Below.refl w9.heap.size w9).drew.mono B9.size))).mono ?_; rintro e w10 ⟨⟨a10, t10, p10⟩, rs10, rfl, q10, d10⟩; have e10 : Below w9.heap.size w9 w10 := (Below.refl _ _).drew.trans d10; have q10 := Lib.hid q10; simp only [SV.v])
      | (go_at_call 13; refine (hE.out _ e10 ⟨a10, t10, p10⟩ rs10 _ _ q10.out.r).mono ?_; rintro e w11 ⟨rfl, d11⟩; have f11 : Below w9.heap.size w9 w11 := e10.trans (d11.mono e10.size)))
  have z11 : w9.heap.size ≤ w11.heap.size := f11.size
  clear hE q10 d10 d11 e10
  have B11 := B9.trans (f11.mono B9.size)
  have bA11 := Lib.hid (bA9.out.ext f11)
  have bX11 := Lib.hid (bX9.out.ext f11)
  have rW11 := Lib.hid (rW9.out.ext (by first | omega | (simp; omega)) f11)
  have rX11 := Lib.hid (rX9.out.ext (by first | omega | (simp; omega)) f11)
  have raListx11 := Lib.hid (raListx9.out.ext (by first | omega | (simp; omega)) f11)
  have rG11 := Lib.hid (rG9.out.ext (by first | omega | (simp; omega)) f11)
  clear bA9 bX9 rW9 rX9 raListx9 rG9 f11
  clear cA lA cX lX
  have cA := bA11.out.c
  have lA := bA11.out.lt
  have cX := bX11.out.c
  have lX := bX11.out.lt
  go_wp2_with fail
  refine (hTaList.out _ B11).mono ?_
  rintro e w12 ⟨v12, rs12, rfl, q12, f12⟩
  have z12 : w11.heap.size ≤ w12.heap.size := f12.size
  have rY12 : Hid (LiftW (w11.heap.size) w12.heap.size w12 v12 rs12 aList) := Lib.hid (by simpa using q12)
  clear q12
  have B12 := B11.trans (f12.mono B11.size)
  have bA12 := Lib.hid (bA11.out.ext f12)
  have bX12 := Lib.hid (bX11.out.ext f12)
  have rW12 := Lib.hid (rW11.out.ext (by first | omega | (simp; omega)) f12)
  have rX12 := Lib.hid (rX11.out.ext (by first | omega | (simp; omega)) f12)
  have raListx12 := Lib.hid (raListx11.out.ext (by first | omega | (simp; omega)) f12)
  have rG12 := Lib.hid (rG11.out.ext (by first | omega | (simp; omega)) f12)
  clear bA11 bX11 rW11 rX11 raListx11 rG11 f12
  have hE := law_eqLiftS v7 v12 _ _ aList _ _ _ _ _ raListx12.out.r rY12.out.r
  clear cA lA cX lX
  have cA := bA12.out.c
  have lA := bA12.out.lt
  have cX := bX12.out.c
  have lX := bX12.out.lt
  go_wp2_with fail
  refine (hE).mono ?_
  rintro e w13 ⟨rfl, f13⟩
  have z13 : w12.heap.size ≤ w13.heap.size := f13.size
  have B13 := B12.trans (f13.mono B12.size)
  have bA13 := Lib.hid (bA12.out.ext f13)
  have bX13 := Lib.hid (bX12.out.ext f13)
  have rW13 := Lib.hid (rW12.out.ext (by first | omega | (simp; omega)) f13)
  have rX13 := Lib.hid (rX12.out.ext (by first | omega | (simp; omega)) f13)
  have raListx13 := Lib.hid (raListx12.out.ext (by first | omega | (simp; omega)) f13)
  have rG13 := Lib.hid (rG12.out.ext (by first | omega | (simp; omega)) f13)
  have rY13 := Lib.hid (rY12.out.ext (by first | omega | (simp; omega)) f13)
  clear bA12 bX12 rW12 rX12 raListx12 rG12 rY12 f13
  clear hE
  clear rY13
  have hM := law_markSite ⟨a6, t6, p6⟩ _ L _ _ (1) _ rX13.out (by first | omega | (simp; omega)) (by omega) (by omega)
  simp only [SV.v] at hM
  clear cA lA cX lX
  have cA := bA13.out.c
  have lA := bA13.out.lt
  have cX := bX13.out.c
  have lX := bX13.out.lt
  go_wp2_with fail
  refine (hM).mono ?_
  rintro e w14 ⟨_, rfl, -, f14⟩
  have z14 : w13.heap.size ≤ w14.heap.size := f14.size
  clear hM rX13
  have B14 := B13.trans (f14.below (B := w.heap.size) (by first | omega | (simp; omega)) B13.size)
  have bA14 := Lib.hid (bA13.out.mod f14 (by omega))
  have bX14 := Lib.hid (bX13.out.mod f14 (by omega))
  have rW14 := Lib.hid (rW13.out.keep (f14.same (by first | omega | (simp; omega)) (by omega)))
  have raListx14 := Lib.hid (raListx13.out.keep (f14.same (by first | omega | (simp; omega)) (by omega)))
  have rG14 := Lib.hid (rG13.out.keep (f14.same (by first | omega | (simp; omega)) (by omega)))
  clear bA13 bX13 rW13 raListx13 rG13 f14
  generalize hKaS : 1 + totC L = KaS at *
  have hM := law_markLiftS v7 _ aList _ _ (KaS) _ raListx14.out (by first | omega | (simp; omega)) (by omega) (by omega)
  clear cA lA cX lX
  have cA := bA14.out.c
  have lA := bA14.out.lt
  have cX := bX14.out.c
  have lX := bX14.out.lt
  go_wp2_with fail
  refine (hM).mono ?_
  rintro e w15 ⟨_, rfl, -, f15⟩
  have z15 : w14.heap.size ≤ w15.heap.size := f15.size
  clear hM raListx14
  have B15 := B14.trans (f15.below (B := w.heap.size) (by first | omega | (simp; omega)) B14.size)
  have bA15 := Lib.hid (bA14.out.mod f15 (by omega))
  have bX15 := Lib.hid (bX14.out.mod f15 (by omega))
  have rW15 := Lib.hid (rW14.out.keep (f15.same (by first | omega | (simp; omega)) (by omega)))
  have rG15 := Lib.hid (rG14.out.keep (f15.same (by first | omega | (simp; omega)) (by omega)))
  clear bA14 bX14 rW14 rG14 f15
  generalize hKaList : KaS + totM 8 1 aList = KaList at *
  have hk0 : decide ((KaList : Int) < 0) = false := decide_eq_false (by omega)
  have hE := law_eqBoolSS v8 v5 rs8 rs5 (ablL L aList).1 _ _ _ _ _ rG15.out.r rW15.out.r
  clear cA lA cX lX
  have cA := bA15.out.c
  have lA := bA15.out.lt
  have cX := bX15.out.c
  have lX := bX15.out.lt
  go_wp2_with fail
  refine (hE).mono ?_
  rintro e w16 ⟨rfl, f16⟩
  have z16 : w15.heap.size ≤ w16.heap.size := f16.size
  have B16 := B15.trans (f16.mono B15.size)
  have bA16 := Lib.hid (bA15.out.ext f16)
  have bX16 := Lib.hid (bX15.out.ext f16)
  have rW16 := Lib.hid (rW15.out.ext (by first | omega | (simp; omega)) f16)
  have rG16 := Lib.hid (rG15.out.ext (by first | omega | (simp; omega)) f16)
  clear bA15 bX15 rW15 rG15 f16
  clear hE
  have hM := law_markBoolSS v8 rs8 (ablL L aList).1 _ _ 1 _ rG16.out (by first | omega | (simp; omega)) (by omega) (by have := htot.out; omega)
  clear cA lA cX lX
  have cA := bA16.out.c
  have lA := bA16.out.lt
  have cX := bX16.out.c
  have lX := bX16.out.lt
  go_wp2_with fail
  refine (hM).mono ?_
  rintro e w17 ⟨rfl, qG, f17⟩
  have z17 : w16.heap.size ≤ w17.heap.size := f17.size
  have rG17 := Lib.hid qG
  clear hM qG rG16
  have B17 := B16.trans (f17.below (B := w.heap.size) (by first | omega | (simp; omega)) B16.size)
  have bA17 := Lib.hid (bA16.out.mod f17 (by omega))
  have bX17 := Lib.hid (bX16.out.mod f17 (by omega))
  have rW17 := Lib.hid (rW16.out.keep (f17.same (by first | omega | (simp; omega)) (by omega)))
  clear bA16 bX16 rW16 f17
  have hkm := htot.out
  generalize hKm : 1 + totSS (ablL L aList).1 = Km at *
  have hm0 : decide ((Km : Int) < 0) = false := decide_eq_false (by omega)
  have hM := law_heldBoolSS v8 rs8 (ablL L aList).1 _ _ 1 _ rG17.out.r (by omega) (by have := htot.out; omega)
  try rw [hKm] at hM
  clear cA lA cX lX
  have cA := bA17.out.c
  have lA := bA17.out.lt
  have cX := bX17.out.c
  have lX := bX17.out.lt
  go_wp2_with fail
  refine (hM).mono ?_
  rintro e w18 ⟨rfl, f18⟩
  have z18 : w17.heap.size ≤ w18.heap.size := f18.size
  have B18 := B17.trans (f18.mono B17.size)
  have bA18 := Lib.hid (bA17.out.ext f18)
  have bX18 := Lib.hid (bX17.out.ext f18)
  have rW18 := Lib.hid (rW17.out.ext (by first | omega | (simp; omega)) f18)
  have rG18 := Lib.hid (rG17.out.ext (by first | omega | (simp; omega)) f18)
  clear bA17 bX17 rW17 rG17 f18
  clear hM
  clear cA lA cX lX
  have cA := bA18.out.c
  have lA := bA18.out.lt
  have cX := bX18.out.c
  have lX := bX18.out.lt
  go_wp2_with fail
  refine (hTS.out _ B18).mono ?_
  rintro e w19 ⟨⟨a19, t19, p19⟩, rs19, rfl, q19, f19⟩
  have z19 : w18.heap.size ≤ w19.heap.size := f19.size
  simp only [SV.v] at q19 ⊢
  have rSh19 : Hid (CraneW (w18.heap.size) w19.heap.size w19 (.slice a19 t19 p19) rs19 L) := Lib.hid (by simpa using q19)
  clear q19
  have B19 := B18.trans (f19.mono B18.size)
  have bA19 := Lib.hid (bA18.out.ext f19)
  have bX19 := Lib.hid (bX18.out.ext f19)
  have rW19 := Lib.hid (rW18.out.ext (by first | omega | (simp; omega)) f19)
  have rG19 := Lib.hid (rG18.out.ext (by first | omega | (simp; omega)) f19)
  clear bA18 bX18 rW18 rG18 f19
  clear cA lA cX lX
  have cA := bA19.out.c
  have lA := bA19.out.lt
  have cX := bX19.out.c
  have lX := bX19.out.lt
  go_wp2_with fail
  refine (hTaList.out _ B19).mono ?_
  rintro e w20 ⟨v20, rs20, rfl, q20, f20⟩
  have z20 : w19.heap.size ≤ w20.heap.size := f20.size
  have raListh20 : Hid (LiftW (w19.heap.size) w20.heap.size w20 v20 rs20 aList) := Lib.hid (by simpa using q20)
  clear q20
  have B20 := B19.trans (f20.mono B19.size)
  have bA20 := Lib.hid (bA19.out.ext f20)
  have bX20 := Lib.hid (bX19.out.ext f20)
  have rW20 := Lib.hid (rW19.out.ext (by first | omega | (simp; omega)) f20)
  have rG20 := Lib.hid (rG19.out.ext (by first | omega | (simp; omega)) f20)
  have rSh20 := Lib.hid (rSh19.out.ext (by first | omega | (simp; omega)) f20)
  clear bA19 bX19 rW19 rG19 rSh19 f20
  have hF := impl_AbilityTable ⟨a19, t19, p19⟩ _ L _ _ _ _ aList _ _ _ rSh20.out.r (by first | omega | (simp; omega)) HW.out raListh20.out.r HWaList.out hbaList
  simp only [SV.v] at hF
  clear cA lA cX lX
  have cA := bA20.out.c
  have lA := bA20.out.lt
  have cX := bX20.out.c
  have lX := bX20.out.lt
  go_wp2_with fail
  refine (hF).mono ?_
  rintro e w21 ⟨v21, rs21, rfl, q21, f21⟩
  have z21 : w20.heap.size ≤ w21.heap.size := f21.size
  have rH21 : Hid (SSw 1 boolCells (w20.heap.size) w21.heap.size w21 v21 rs21 (ablL L aList).1) := Lib.hid (by simpa using q21)
  clear q21
  have B21 := B20.trans (f21.mono B20.size)
  have bA21 := Lib.hid (bA20.out.ext f21)
  have bX21 := Lib.hid (bX20.out.ext f21)
  have rW21 := Lib.hid (rW20.out.ext (by first | omega | (simp; omega)) f21)
  have rG21 := Lib.hid (rG20.out.ext (by first | omega | (simp; omega)) f21)
  have rSh21 := Lib.hid (rSh20.out.ext (by first | omega | (simp; omega)) f21)
  have raListh21 := Lib.hid (raListh20.out.ext (by first | omega | (simp; omega)) f21)
  clear bA20 bX20 rW20 rG20 rSh20 raListh20 f21
  clear hF
  clear rSh21
  clear raListh21
  have hE := law_eqBoolSS v21 v5 rs21 rs5 (ablL L aList).1 _ _ _ _ _ rH21.out.r rW21.out.r
  clear cA lA cX lX
  have cA := bA21.out.c
  have lA := bA21.out.lt
  have cX := bX21.out.c
  have lX := bX21.out.lt
  go_wp2_with fail
  refine (hE).mono ?_
  rintro e w22 ⟨rfl, f22⟩
  have z22 : w21.heap.size ≤ w22.heap.size := f22.size
  have B22 := B21.trans (f22.mono B21.size)
  have bA22 := Lib.hid (bA21.out.ext f22)
  have bX22 := Lib.hid (bX21.out.ext f22)
  have rW22 := Lib.hid (rW21.out.ext (by first | omega | (simp; omega)) f22)
  have rG22 := Lib.hid (rG21.out.ext (by first | omega | (simp; omega)) f22)
  have rH22 := Lib.hid (rH21.out.ext (by first | omega | (simp; omega)) f22)
  clear bA21 bX21 rW21 rG21 rH21 f22
  clear hE
  have hM := law_heldBoolSS v8 rs8 (ablL L aList).1 _ _ 1 _ rG22.out.r (by omega) (by have := htot.out; omega)
  try rw [hKm] at hM
  clear cA lA cX lX
  have cA := bA22.out.c
  have lA := bA22.out.lt
  have cX := bX22.out.c
  have lX := bX22.out.lt
  go_wp2_with fail
  refine (hM).mono ?_
  rintro e w23 ⟨rfl, f23⟩
  have z23 : w22.heap.size ≤ w23.heap.size := f23.size
  have B23 := B22.trans (f23.mono B22.size)
  have bA23 := Lib.hid (bA22.out.ext f23)
  have bX23 := Lib.hid (bX22.out.ext f23)
  have rW23 := Lib.hid (rW22.out.ext (by first | omega | (simp; omega)) f23)
  have rG23 := Lib.hid (rG22.out.ext (by first | omega | (simp; omega)) f23)
  have rH23 := Lib.hid (rH22.out.ext (by first | omega | (simp; omega)) f23)
  clear bA22 bX22 rW22 rG22 rH22 f23
  clear hM
  clear cA lA cX lX
  have cA := bA23.out.c
  have lA := bA23.out.lt
  have cX := bX23.out.c
  have lX := bX23.out.lt
  go_wp2
  go_ret
  exact ⟨rfl, B23⟩
end Go.Proofs.Ytdadadiipmenbaa
