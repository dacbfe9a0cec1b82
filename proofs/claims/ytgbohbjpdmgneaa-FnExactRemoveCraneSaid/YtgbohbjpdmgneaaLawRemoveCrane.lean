/- The law FnExactRemoveCrane. (Printed by gen_lawS.py.) -/
import Derived.Test.YtgbohbjpdmgneaaRemI
import Derived.Test.YtgbohbjpdmgneaaTSiteM
import Derived.Test.YtgbohbjpdmgneaaLawS
namespace Go.Proofs.Ytgbohbjpdmgneaa
open Go.RowKit
set_option maxRecDepth 100000 in
set_option maxHeartbeats 8000000 in
theorem law_RemoveCrane {vaS : Value} (L : SiteL) (aI : Int) (w : World) (haS : (∃ s : SV, vaS = .agg #[s.v] ∧ ∃ rs, Cranes 0 w.heap.size w s.v rs L) ∧ L.wf) (_haI : (Lit.int .i64 aI).wf = true) :
    Calls Try.prog 6 #[vaS, .int .i64 aI] w fun e w' => e = .returned (.bool true) ∧ Below w.heap.size w w' := by
  obtain ⟨⟨s, rfl, rs, hr⟩, hwf⟩ := haS
  have hszS := fun w' (hb : Below w.heap.size w w') => law_szSite s rs L 0 w.heap.size 1048576 w' (hr.ext hb) hwf (by omega) (by omega)
  have hTS0 := fun (hn : L.cost ≤ 1048576) w' (hb : Below w.heap.size w w') => law_toSite s rs L 0 w.heap.size w' (hr.ext hb) hn
  have HW := Lib.hid hwf
  clear hr hwf
  obtain ⟨sa, sl, sc⟩ := s
  simp only [SV.v] at *
  have hszS := Lib.hid hszS
  have hTS0 := Lib.hid hTS0
  have B0 : Below w.heap.size w (w.alloc (.cells #[.slice sa sl sc] 32)) := (Below.refl _ _).alloc (Nat.le_refl _) _
  have bA0 := Lib.hid (Cb.new w (.slice sa sl sc) 32)
  have s0 : w.heap.size + 1 ≤ (w.alloc (.cells #[.slice sa sl sc] 32)).heap.size := by simp
  go_enter Try.func6, Try.ntmps6
  have cA := bA0.out.c
  have lA := bA0.out.lt
  go_wp2_with fail
  refine (hszS.out _ B0).mono ?_
  rintro e w1 ⟨rfl, f1⟩
  have z1 : w.heap.size + 1 ≤ w1.heap.size := by simpa using f1.size
  have B1 := B0.trans (f1.mono B0.size)
  have bA1 := Lib.hid (bA0.out.ext f1)
  clear bA0 f1
  by_cases hq : (1048576 : Int) < (L.cost : Int)
  · rw [szRes_lt hq]
    clear hq
    go_wp2
    go_ret
    exact ⟨rfl, B1⟩
  rw [szRes_ge hq]
  have hTS := Lib.hid (hTS0.out (by omega))
  have hcost : L.cost ≤ 1048576 := by omega
  have htc : totC L ≤ 6291456 := by have := totM_cost (fun f : CraneF => f.name.size) L; unfold SiteL.cost at hcost; unfold totC; omega
  have hge : decide ((1048576 : Int) - (L.cost : Int) < 0) = false := decide_eq_false (by omega)
  clear hszS hTS0
  generalize hnn : (L.cost : Int) = nn at *
  have hnn0 : 0 ≤ nn := by omega
  clear hnn
  have htot : Hid (totC (removed L aI).1 ≤ 6291456) := Lib.hid (removed_tot L aI 6291456 htc)
  clear cA lA
  have cA := bA1.out.c
  have lA := bA1.out.lt
  go_wp2_with fail
  refine (hTS.out _ B1).mono ?_
  rintro e w2 ⟨⟨a2, t2, p2⟩, rs2, rfl, q2, f2⟩
  have z2 : w1.heap.size ≤ w2.heap.size := f2.size
  simp only [SV.v] at q2 ⊢
  have rSs2 : Hid (CraneW (w1.heap.size) w2.heap.size w2 (.slice a2 t2 p2) rs2 L) := Lib.hid (by simpa using q2)
  clear q2
  have B2 := B1.trans (f2.mono B1.size)
  have bA2 := Lib.hid (bA1.out.ext f2)
  clear bA1 f2
  have hF := spec_RemoveCrane ⟨a2, t2, p2⟩ _ L _ _ aI _ rSs2.out.r HW.out
  simp only [SV.v] at hF
  clear cA lA
  have cA := bA2.out.c
  have lA := bA2.out.lt
  go_wp2_with fail
  refine (hF).mono ?_
  rintro e w3 ⟨⟨a3, t3, p3⟩, rs3, rfl, q3, f3⟩
  have z3 : w2.heap.size ≤ w3.heap.size := f3.size
  simp only [SV.v] at q3 ⊢
  have rW3 : Hid (CraneW (w2.heap.size) w3.heap.size w3 (.slice a3 t3 p3) rs3 (removed L aI).1) := Lib.hid (by simpa using q3)
  clear q3
  have B3 := B2.trans (f3.mono B2.size)
  have bA3 := Lib.hid (bA2.out.ext f3)
  have rSs3 := Lib.hid (rSs2.out.ext (by first | omega | (simp; omega)) f3)
  clear bA2 rSs2 f3
  clear hF
  clear rSs3
  have g3 : Below w3.heap.size w3 (w3.alloc (.cells #[.slice a3 t3 p3] 37)) := (Below.refl _ _).alloc (Nat.le_refl _) _
  have bW3a := Lib.hid (Cb.new w3 (.slice a3 t3 p3) 37)
  have B3a := B3.trans (g3.mono B3.size)
  have bA3a := Lib.hid (bA3.out.ext g3)
  have rW3a := Lib.hid (rW3.out.ext (by first | omega | (simp; omega)) g3)
  clear bA3 rW3 g3
  clear cA lA
  have cA := bA3a.out.c
  have lA := bA3a.out.lt
  have cW := bW3a.out.c
  have lW := bW3a.out.lt
  go_wp2_with fail
  refine (hTS.out _ B3a).mono ?_
  rintro e w4 ⟨⟨a4, t4, p4⟩, rs4, rfl, q4, f4⟩
  have z4 : w3.heap.size + 1 ≤ w4.heap.size := by simpa using f4.size
  simp only [SV.v] at q4 ⊢
  have rX4 : Hid (CraneW (w3.heap.size + 1) w4.heap.size w4 (.slice a4 t4 p4) rs4 L) := Lib.hid (by simpa using q4)
  clear q4
  have B4 := B3a.trans (f4.mono B3a.size)
  have bA4 := Lib.hid (bA3a.out.ext f4)
  have bW4 := Lib.hid (bW3a.out.ext f4)
  have rW4 := Lib.hid (rW3a.out.ext (by first | omega | (simp; omega)) f4)
  clear bA3a bW3a rW3a f4
  have g4 : Below w4.heap.size w4 (w4.alloc (.cells #[.slice a4 t4 p4] 37)) := (Below.refl _ _).alloc (Nat.le_refl _) _
  have bX4a := Lib.hid (Cb.new w4 (.slice a4 t4 p4) 37)
  have B4a := B4.trans (g4.mono B4.size)
  have bA4a := Lib.hid (bA4.out.ext g4)
  have bW4a := Lib.hid (bW4.out.ext g4)
  have rW4a := Lib.hid (rW4.out.ext (by first | omega | (simp; omega)) g4)
  have rX4a := Lib.hid (rX4.out.ext (by first | omega | (simp; omega)) g4)
  clear bA4 bW4 rW4 rX4 g4
  have hF := impl_RemoveCrane ⟨a4, t4, p4⟩ _ L _ _ aI _ rX4a.out.r HW.out
  simp only [SV.v] at hF
  clear cA lA cW lW
  have cA := bA4a.out.c
  have lA := bA4a.out.lt
  have cW := bW4a.out.c
  have lW := bW4a.out.lt
  have cX := bX4a.out.c
  have lX := bX4a.out.lt
  go_wp2_with fail
  refine (hF).mono ?_
  rintro e w5 ⟨⟨a5, t5, p5⟩, rs5, rfl, q5, f5⟩
  have z5 : w4.heap.size + 1 ≤ w5.heap.size := by simpa using f5.size
  simp only [SV.v] at q5 ⊢
  have rG5 : Hid (CraneW (w4.heap.size + 1) w5.heap.size w5 (.slice a5 t5 p5) rs5 (removed L aI).1) := Lib.hid (by simpa using q5)
  clear q5
  have B5 := B4a.trans (f5.mono B4a.size)
  have bA5 := Lib.hid (bA4a.out.ext f5)
  have bW5 := Lib.hid (bW4a.out.ext f5)
  have bX5 := Lib.hid (bX4a.out.ext f5)
  have rW5 := Lib.hid (rW4a.out.ext (by first | omega | (simp; omega)) f5)
  have rX5 := Lib.hid (rX4a.out.ext (by first | omega | (simp; omega)) f5)
  clear bA4a bW4a bX4a rW4a rX4a f5
  clear hF
  have g5 : Below w5.heap.size w5 (w5.alloc (.cells #[.slice a5 t5 p5] 37)) := (Below.refl _ _).alloc (Nat.le_refl _) _
  have bG5a := Lib.hid (Cb.new w5 (.slice a5 t5 p5) 37)
  have B5a := B5.trans (g5.mono B5.size)
  have bA5a := Lib.hid (bA5.out.ext g5)
  have bW5a := Lib.hid (bW5.out.ext g5)
  have bX5a := Lib.hid (bX5.out.ext g5)
  have rW5a := Lib.hid (rW5.out.ext (by first | omega | (simp; omega)) g5)
  have rX5a := Lib.hid (rX5.out.ext (by first | omega | (simp; omega)) g5)
  have rG5a := Lib.hid (rG5.out.ext (by first | omega | (simp; omega)) g5)
  clear bA5 bW5 bX5 rW5 rX5 rG5 g5
  have hE := law_eqSite ⟨a5, t5, p5⟩ ⟨a3, t3, p3⟩ _ _ (removed L aI).1 _ _ _ _ _ rG5a.out.r rW5a.out.r
  simp only [SV.v] at hE
  clear cA lA cW lW cX lX
  have cA := bA5a.out.c
  have lA := bA5a.out.lt
  have cW := bW5a.out.c
  have lW := bW5a.out.lt
  have cX := bX5a.out.c
  have lX := bX5a.out.lt
  have cG := bG5a.out.c
  have lG := bG5a.out.lt
  go_wp2_with fail
  refine (hE).mono ?_
  rintro e w6 ⟨rfl, f6⟩
  have z6 : w5.heap.size + 1 ≤ w6.heap.size := by simpa using f6.size
  have B6 := B5a.trans (f6.mono B5a.size)
  have bA6 := Lib.hid (bA5a.out.ext f6)
  have bW6 := Lib.hid (bW5a.out.ext f6)
  have bX6 := Lib.hid (bX5a.out.ext f6)
  have bG6 := Lib.hid (bG5a.out.ext f6)
  have rW6 := Lib.hid (rW5a.out.ext (by first | omega | (simp; omega)) f6)
  have rX6 := Lib.hid (rX5a.out.ext (by first | omega | (simp; omega)) f6)
  have rG6 := Lib.hid (rG5a.out.ext (by first | omega | (simp; omega)) f6)
  clear bA5a bW5a bX5a bG5a rW5a rX5a rG5a f6
  clear hE
  clear cA lA cW lW cX lX cG lG
  have cA := bA6.out.c
  have lA := bA6.out.lt
  have cW := bW6.out.c
  have lW := bW6.out.lt
  have cX := bX6.out.c
  have lX := bX6.out.lt
  have cG := bG6.out.c
  have lG := bG6.out.lt
  have hE := Lib.hid (fun w' (hb : Below w6.heap.size w6 w') s2 rs2 lo hi h2 => law_eqSite ⟨a4, t4, p4⟩ s2 _ rs2 L _ _ lo hi w' (rX6.out.r.ext hb) h2)
  simp only [SV.v] at hE
  go_wp2_with fail
  go_region_held3 (fun w' => (∀ b' o', b' < w6.heap.size → w'.cell? ⟨b', o', none⟩ = w6.cell? ⟨b', o', none⟩) ∧ Below w6.heap.size w6 w') (first | exact heldB (Below.refl _ _).drew | exact heldB f8 | exact heldB e7)
    (first
      | (go_at_call 19; refine (hTS.out _ (B6.trans ((Below.refl w6.heap.size w6).drew.mono B6.size))).mono ?_; rintro e w7 ⟨⟨a7, t7, p7⟩, rs7, rfl, q7, d7⟩; have e7 : Below w6.heap.size w6 w7 := (Below.refl _ _).drew.trans d7; have q7 := Lib.hid q7; simp only [SV.v])
      | (go_at_call 21; refine (hE.out _ e7 ⟨a7, t7, p7⟩ rs7 _ _ q7.out.r).mono ?_; rintro e w8 ⟨rfl, d8⟩; have f8 : Below w6.heap.size w6 w8 := e7.trans (d8.mono e7.size)))
  have z8 : w6.heap.size ≤ w8.heap.size := f8.size
  clear hE q7 d7 d8 e7
  have B8 := B6.trans (f8.mono B6.size)
  have bA8 := Lib.hid (bA6.out.ext f8)
  have bW8 := Lib.hid (bW6.out.ext f8)
  have bX8 := Lib.hid (bX6.out.ext f8)
  have bG8 := Lib.hid (bG6.out.ext f8)
  have rW8 := Lib.hid (rW6.out.ext (by first | omega | (simp; omega)) f8)
  have rX8 := Lib.hid (rX6.out.ext (by first | omega | (simp; omega)) f8)
  have rG8 := Lib.hid (rG6.out.ext (by first | omega | (simp; omega)) f8)
  clear bA6 bW6 bX6 bG6 rW6 rX6 rG6 f8
  have hM := law_markSite ⟨a4, t4, p4⟩ _ L _ _ (1) _ rX8.out (by first | omega | (simp; omega)) (by omega) (by omega)
  simp only [SV.v] at hM
  clear cA lA cW lW cX lX cG lG
  have cA := bA8.out.c
  have lA := bA8.out.lt
  have cW := bW8.out.c
  have lW := bW8.out.lt
  have cX := bX8.out.c
  have lX := bX8.out.lt
  have cG := bG8.out.c
  have lG := bG8.out.lt
  go_wp2_with fail
  refine (hM).mono ?_
  rintro e w9 ⟨_, rfl, -, f9⟩
  have z9 : w8.heap.size ≤ w9.heap.size := f9.size
  clear hM rX8
  have B9 := B8.trans (f9.below (B := w.heap.size) (by first | omega | (simp; omega)) B8.size)
  have bA9 := Lib.hid (bA8.out.mod f9 (by omega))
  have bW9 := Lib.hid (bW8.out.mod f9 (by omega))
  have bX9 := Lib.hid (bX8.out.mod f9 (by omega))
  have bG9 := Lib.hid (bG8.out.mod f9 (by omega))
  have rW9 := Lib.hid (rW8.out.keep (f9.same (by first | omega | (simp; omega)) (by omega)))
  have rG9 := Lib.hid (rG8.out.keep (f9.same (by first | omega | (simp; omega)) (by omega)))
  clear bA8 bW8 bX8 bG8 rW8 rG8 f9
  generalize hKaS : 1 + totC L = KaS at *
  have hk0 : decide ((KaS : Int) < 0) = false := decide_eq_false (by omega)
  have hE := law_eqSite ⟨a5, t5, p5⟩ ⟨a3, t3, p3⟩ _ _ (removed L aI).1 _ _ _ _ _ rG9.out.r rW9.out.r
  simp only [SV.v] at hE
  clear cA lA cW lW cX lX cG lG
  have cA := bA9.out.c
  have lA := bA9.out.lt
  have cW := bW9.out.c
  have lW := bW9.out.lt
  have cX := bX9.out.c
  have lX := bX9.out.lt
  have cG := bG9.out.c
  have lG := bG9.out.lt
  go_wp2_with fail
  refine (hE).mono ?_
  rintro e w10 ⟨rfl, f10⟩
  have z10 : w9.heap.size ≤ w10.heap.size := f10.size
  have B10 := B9.trans (f10.mono B9.size)
  have bA10 := Lib.hid (bA9.out.ext f10)
  have bW10 := Lib.hid (bW9.out.ext f10)
  have bX10 := Lib.hid (bX9.out.ext f10)
  have bG10 := Lib.hid (bG9.out.ext f10)
  have rW10 := Lib.hid (rW9.out.ext (by first | omega | (simp; omega)) f10)
  have rG10 := Lib.hid (rG9.out.ext (by first | omega | (simp; omega)) f10)
  clear bA9 bW9 bX9 bG9 rW9 rG9 f10
  clear hE
  have hM := law_markSite ⟨a5, t5, p5⟩ _ (removed L aI).1 _ _ 1 _ rG10.out (by first | omega | (simp; omega)) (by omega) (by have := htot.out; omega)
  simp only [SV.v] at hM
  clear cA lA cW lW cX lX cG lG
  have cA := bA10.out.c
  have lA := bA10.out.lt
  have cW := bW10.out.c
  have lW := bW10.out.lt
  have cX := bX10.out.c
  have lX := bX10.out.lt
  have cG := bG10.out.c
  have lG := bG10.out.lt
  go_wp2_with fail
  refine (hM).mono ?_
  rintro e w11 ⟨_, rfl, qG, f11⟩
  have z11 : w10.heap.size ≤ w11.heap.size := f11.size
  have rG11 := Lib.hid qG
  clear hM qG rG10
  have B11 := B10.trans (f11.below (B := w.heap.size) (by first | omega | (simp; omega)) B10.size)
  have bA11 := Lib.hid (bA10.out.mod f11 (by omega))
  have bW11 := Lib.hid (bW10.out.mod f11 (by omega))
  have bX11 := Lib.hid (bX10.out.mod f11 (by omega))
  have bG11 := Lib.hid (bG10.out.mod f11 (by omega))
  have rW11 := Lib.hid (rW10.out.keep (f11.same (by first | omega | (simp; omega)) (by omega)))
  clear bA10 bW10 bX10 bG10 rW10 f11
  have hkm := htot.out
  generalize hKm : 1 + totC (removed L aI).1 = Km at *
  have hm0 : decide ((Km : Int) < 0) = false := decide_eq_false (by omega)
  have hM := law_heldSite ⟨a5, t5, p5⟩ _ (removed L aI).1 _ _ 1 _ rG11.out.r (by omega) (by have := htot.out; omega)
  simp only [SV.v] at hM
  try rw [hKm] at hM
  clear cA lA cW lW cX lX cG lG
  have cA := bA11.out.c
  have lA := bA11.out.lt
  have cW := bW11.out.c
  have lW := bW11.out.lt
  have cX := bX11.out.c
  have lX := bX11.out.lt
  have cG := bG11.out.c
  have lG := bG11.out.lt
  go_wp2_with fail
  refine (hM).mono ?_
  rintro e w12 ⟨rfl, f12⟩
  have z12 : w11.heap.size ≤ w12.heap.size := f12.size
  have B12 := B11.trans (f12.mono B11.size)
  have bA12 := Lib.hid (bA11.out.ext f12)
  have bW12 := Lib.hid (bW11.out.ext f12)
  have bX12 := Lib.hid (bX11.out.ext f12)
  have bG12 := Lib.hid (bG11.out.ext f12)
  have rW12 := Lib.hid (rW11.out.ext (by first | omega | (simp; omega)) f12)
  have rG12 := Lib.hid (rG11.out.ext (by first | omega | (simp; omega)) f12)
  clear bA11 bW11 bX11 bG11 rW11 rG11 f12
  clear hM
  clear cA lA cW lW cX lX cG lG
  have cA := bA12.out.c
  have lA := bA12.out.lt
  have cW := bW12.out.c
  have lW := bW12.out.lt
  have cX := bX12.out.c
  have lX := bX12.out.lt
  have cG := bG12.out.c
  have lG := bG12.out.lt
  go_wp2_with fail
  refine (hTS.out _ B12).mono ?_
  rintro e w13 ⟨⟨a13, t13, p13⟩, rs13, rfl, q13, f13⟩
  have z13 : w12.heap.size ≤ w13.heap.size := f13.size
  simp only [SV.v] at q13 ⊢
  have rSh13 : Hid (CraneW (w12.heap.size) w13.heap.size w13 (.slice a13 t13 p13) rs13 L) := Lib.hid (by simpa using q13)
  clear q13
  have B13 := B12.trans (f13.mono B12.size)
  have bA13 := Lib.hid (bA12.out.ext f13)
  have bW13 := Lib.hid (bW12.out.ext f13)
  have bX13 := Lib.hid (bX12.out.ext f13)
  have bG13 := Lib.hid (bG12.out.ext f13)
  have rW13 := Lib.hid (rW12.out.ext (by first | omega | (simp; omega)) f13)
  have rG13 := Lib.hid (rG12.out.ext (by first | omega | (simp; omega)) f13)
  clear bA12 bW12 bX12 bG12 rW12 rG12 f13
  have hF := impl_RemoveCrane ⟨a13, t13, p13⟩ _ L _ _ aI _ rSh13.out.r HW.out
  simp only [SV.v] at hF
  clear cA lA cW lW cX lX cG lG
  have cA := bA13.out.c
  have lA := bA13.out.lt
  have cW := bW13.out.c
  have lW := bW13.out.lt
  have cX := bX13.out.c
  have lX := bX13.out.lt
  have cG := bG13.out.c
  have lG := bG13.out.lt
  go_wp2_with fail
  refine (hF).mono ?_
  rintro e w14 ⟨⟨a14, t14, p14⟩, rs14, rfl, q14, f14⟩
  have z14 : w13.heap.size ≤ w14.heap.size := f14.size
  simp only [SV.v] at q14 ⊢
  have rH14 : Hid (CraneW (w13.heap.size) w14.heap.size w14 (.slice a14 t14 p14) rs14 (removed L aI).1) := Lib.hid (by simpa using q14)
  clear q14
  have B14 := B13.trans (f14.mono B13.size)
  have bA14 := Lib.hid (bA13.out.ext f14)
  have bW14 := Lib.hid (bW13.out.ext f14)
  have bX14 := Lib.hid (bX13.out.ext f14)
  have bG14 := Lib.hid (bG13.out.ext f14)
  have rW14 := Lib.hid (rW13.out.ext (by first | omega | (simp; omega)) f14)
  have rG14 := Lib.hid (rG13.out.ext (by first | omega | (simp; omega)) f14)
  have rSh14 := Lib.hid (rSh13.out.ext (by first | omega | (simp; omega)) f14)
  clear bA13 bW13 bX13 bG13 rW13 rG13 rSh13 f14
  clear hF
  clear rSh14
  have g14 : Below w14.heap.size w14 (w14.alloc (.cells #[.slice a14 t14 p14] 37)) := (Below.refl _ _).alloc (Nat.le_refl _) _
  have bH14a := Lib.hid (Cb.new w14 (.slice a14 t14 p14) 37)
  have B14a := B14.trans (g14.mono B14.size)
  have bA14a := Lib.hid (bA14.out.ext g14)
  have bW14a := Lib.hid (bW14.out.ext g14)
  have bX14a := Lib.hid (bX14.out.ext g14)
  have bG14a := Lib.hid (bG14.out.ext g14)
  have rW14a := Lib.hid (rW14.out.ext (by first | omega | (simp; omega)) g14)
  have rG14a := Lib.hid (rG14.out.ext (by first | omega | (simp; omega)) g14)
  have rH14a := Lib.hid (rH14.out.ext (by first | omega | (simp; omega)) g14)
  clear bA14 bW14 bX14 bG14 rW14 rG14 rH14 g14
  have hE := law_eqSite ⟨a14, t14, p14⟩ ⟨a3, t3, p3⟩ _ _ (removed L aI).1 _ _ _ _ _ rH14a.out.r rW14a.out.r
  simp only [SV.v] at hE
  clear cA lA cW lW cX lX cG lG
  have cA := bA14a.out.c
  have lA := bA14a.out.lt
  have cW := bW14a.out.c
  have lW := bW14a.out.lt
  have cX := bX14a.out.c
  have lX := bX14a.out.lt
  have cG := bG14a.out.c
  have lG := bG14a.out.lt
  have cH := bH14a.out.c
  have lH := bH14a.out.lt
  go_wp2_with fail
  refine (hE).mono ?_
  rintro e w15 ⟨rfl, f15⟩
  have z15 : w14.heap.size + 1 ≤ w15.heap.size := by simpa using f15.size
  have B15 := B14a.trans (f15.mono B14a.size)
  have bA15 := Lib.hid (bA14a.out.ext f15)
  have bW15 := Lib.hid (bW14a.out.ext f15)
  have bX15 := Lib.hid (bX14a.out.ext f15)
  have bG15 := Lib.hid (bG14a.out.ext f15)
  have bH15 := Lib.hid (bH14a.out.ext f15)
  have rW15 := Lib.hid (rW14a.out.ext (by first | omega | (simp; omega)) f15)
  have rG15 := Lib.hid (rG14a.out.ext (by first | omega | (simp; omega)) f15)
  have rH15 := Lib.hid (rH14a.out.ext (by first | omega | (simp; omega)) f15)
  clear bA14a bW14a bX14a bG14a bH14a rW14a rG14a rH14a f15
  clear hE
  have hM := law_heldSite ⟨a5, t5, p5⟩ _ (removed L aI).1 _ _ 1 _ rG15.out.r (by omega) (by have := htot.out; omega)
  simp only [SV.v] at hM
  try rw [hKm] at hM
  clear cA lA cW lW cX lX cG lG cH lH
  have cA := bA15.out.c
  have lA := bA15.out.lt
  have cW := bW15.out.c
  have lW := bW15.out.lt
  have cX := bX15.out.c
  have lX := bX15.out.lt
  have cG := bG15.out.c
  have lG := bG15.out.lt
  have cH := bH15.out.c
  have lH := bH15.out.lt
  go_wp2_with fail
  refine (hM).mono ?_
  rintro e w16 ⟨rfl, f16⟩
  have z16 : w15.heap.size ≤ w16.heap.size := f16.size
  have B16 := B15.trans (f16.mono B15.size)
  have bA16 := Lib.hid (bA15.out.ext f16)
  have bW16 := Lib.hid (bW15.out.ext f16)
  have bX16 := Lib.hid (bX15.out.ext f16)
  have bG16 := Lib.hid (bG15.out.ext f16)
  have bH16 := Lib.hid (bH15.out.ext f16)
  have rW16 := Lib.hid (rW15.out.ext (by first | omega | (simp; omega)) f16)
  have rG16 := Lib.hid (rG15.out.ext (by first | omega | (simp; omega)) f16)
  have rH16 := Lib.hid (rH15.out.ext (by first | omega | (simp; omega)) f16)
  clear bA15 bW15 bX15 bG15 bH15 rW15 rG15 rH15 f16
  clear hM
  clear cA lA cW lW cX lX cG lG cH lH
  have cA := bA16.out.c
  have lA := bA16.out.lt
  have cW := bW16.out.c
  have lW := bW16.out.lt
  have cX := bX16.out.c
  have lX := bX16.out.lt
  have cG := bG16.out.c
  have lG := bG16.out.lt
  have cH := bH16.out.c
  have lH := bH16.out.lt
  go_wp2
  go_ret
  exact ⟨rfl, B16⟩
end Go.Proofs.Ytgbohbjpdmgneaa
