/- The law FnExactAddCrane. -/
import Derived.Test.YtgbohbjpdmgneaaAddI
import Derived.Test.YtgbohbjpdmgneaaTSiteM
import Derived.Test.YtgbohbjpdmgneaaTCraneM
import Derived.Test.YtgbohbjpdmgneaaTCranesz
import Derived.Test.YtgbohbjpdmgneaaTCraneto
import Derived.Test.YtgbohbjpdmgneaaTCraneeq
import Derived.Test.YtgbohbjpdmgneaaLawS
import Derived.Handy
namespace Go.Proofs.Ytgbohbjpdmgneaa
open Go.RowKit
theorem Cb.drw {p : Nat} {w : World} {v : Value} (h : Cb p w v) : Cb p w.drew v := ⟨h.c, h.f⟩
/-- What stands behind a call whose site lies in the box p. -/
structure Fin (w2 : World) (P : SiteL) (p : Nat) (v : SV) (W : World) : Prop where
  cb : Cb p W v.v
  pl : w2.heap.size ≤ p
  rd : ∃ (rs : List CraneR) (lo hi : Nat), CraneW lo hi W v.v rs P ∧ w2.heap.size ≤ lo ∧ lo ≤ hi ∧ hi ≤ W.heap.size ∧ (p < lo ∨ hi ≤ p)
  b : Below w2.heap.size w2 W
theorem Fin.mid {w2 C w5 : World} {P : SiteL} {p : Nat} {v : SV} {rs : List CraneR} (hcb : Cb p C (.slice none 0 0)) (hpl : w2.heap.size ≤ p) (hbC : Below w2.heap.size w2 C) (h5 : CraneW C.heap.size w5.heap.size w5 v.v rs P) (hb5 : Below C.heap.size C w5) : Fin w2 P p v (w5.setCell ⟨p, 0, none⟩ v.v) := by
  have hp5 := hcb.ext hb5
  have hl := hcb.lt
  have hs := hb5.size
  refine ⟨hp5.put _, hpl, ⟨rs, C.heap.size, w5.heap.size, h5.keep ((show Mod p (p + 1) w5 (w5.setCell ⟨p, 0, none⟩ v.v) from (Mod.refl _ _ _).setCell (p := ⟨p, 0, none⟩) (Nat.le_refl _) (Nat.lt_succ_self _) _).same (Nat.le_refl _) (.inr (by omega))), hbC.size, hs, by simp, .inl hl⟩, (hbC.trans (hb5.mono hbC.size)).setCell (p := ⟨p, 0, none⟩) hpl _⟩
theorem Fin.last {w2 C w5 : World} {P : SiteL} {v : SV} {rs : List CraneR} (hbC : Below w2.heap.size w2 C) (h5 : CraneW C.heap.size w5.heap.size w5 v.v rs P) (hb5 : Below C.heap.size C w5) : Fin w2 P w5.heap.size v (w5.alloc (.cells #[v.v] 37)) := by
  have hs := hb5.size
  have hs2 := hbC.size
  exact ⟨Cb.new _ _ _, by omega, ⟨rs, C.heap.size, w5.heap.size, h5.ext (Nat.le_refl _) ((Below.refl _ _).alloc (Nat.le_refl _) _), hs2, hs, by simp, .inr (Nat.le_refl _)⟩, (hbC.trans (hb5.mono hbC.size)).alloc (by omega) _⟩
/-- A box of several cells. -/
abbrev Cc (p : Nat) (w : World) (cs : List Value) (t : TypeId) : Prop := w.heap[p]? = some (.cells cs.toArray t)
theorem ccMod {p lo hi : Nat} {w w' : World} {o : Obj} (h : w.heap[p]? = some o) (hm : Mod lo hi w w') (hp : p < lo ∨ hi ≤ p) : w'.heap[p]? = some o := (hm.block p (Array.getElem?_eq_some_iff.1 h).1 hp).trans h
set_option maxRecDepth 100000 in
set_option maxHeartbeats 8000000 in
theorem law_AddCrane {vaS vaC : Value} (L : SiteL) (rC : CraneR) (w : World) (haS : (∃ s : SV, vaS = .agg #[s.v] ∧ ∃ rs, Cranes 0 w.heap.size w s.v rs L) ∧ L.wf) (haC : vaC = .agg rC.cells.toArray ∧ rC.f.wf ∧ ∃ l, Sl 2 Chs.cells 0 w.heap.size w rC.s.v l ∧ ∀ x ∈ l, x.wf) :
    Calls Try.prog 7 #[vaS, vaC] w fun e w' => e = .returned (.bool true) ∧ Below w.heap.size w w' := by
  obtain ⟨⟨s, rfl, rs, hr⟩, hwf⟩ := haS
  obtain ⟨rfl, hwC, l, hrC, hwl⟩ := haC
  have hszS := fun w' (hb : Below w.heap.size w w') => law_szSite s rs L 0 w.heap.size 1048576 w' (hr.ext hb) hwf (by omega) (by omega)
  have hTS0 := fun (hn : L.cost ≤ 1048576) w' (hb : Below w.heap.size w w') => law_toSite s rs L 0 w.heap.size w' (hr.ext hb) hn
  have hszC := fun n w' (hb : Below w.heap.size w w') h0 hn => law_szCrane rC l 0 w.heap.size n w' (hrC.ext hb) hwC hwl h0 hn
  have hTC0 := fun (hn : l.length ≤ 1048576) w' (hb : Below w.heap.size w w') => law_toCrane rC l 0 w.heap.size w' (hrC.ext hb) hn
  have hSp := Lib.hid (fun s rs lo hi sk lo2 hi2 w h1 h2 => spec_AddCrane s rs L lo hi rC.f sk l lo2 hi2 w h1 hwf h2 ⟨hwC, hwl⟩)
  have hIm := Lib.hid (fun s rs lo hi sk lo2 hi2 w h1 h2 => impl_AddCrane s rs L lo hi rC.f sk l lo2 hi2 w h1 hwf h2 ⟨hwC, hwl⟩)
  have hEC := Lib.hid (fun s s2 lo hi lo2 hi2 w h1 h2 => law_eqCrane rC.f s s2 l lo hi lo2 hi2 w h1 h2)
  have hMC := Lib.hid (fun s lo hi k w h hhi hk hkb => law_markCrane rC.f s l lo hi k w h hhi hk hkb)
  have htot0 := Lib.hid (fun N h => added_tot L (rC.f, l) N h)
  generalize hRR : added L (rC.f, l) = R at *
  clear hRR hr hrC hwf hwC hwl
  obtain ⟨sa, sl, sc⟩ := s
  obtain ⟨⟨x0, x1, x2, x3, x4, x5⟩, ⟨sa2, sl2, sc2⟩⟩ := rC
  simp only [SV.v, CraneR.cells] at hszS hTS0 hszC hTC0 hSp hIm hEC hMC ⊢
  generalize hn2 : (((⟨⟨x0, x1, x2, x3, x4, x5⟩, ⟨sa2, sl2, sc2⟩⟩ : CraneR).f.name.size + l.length : Nat) : Int) = n2 at *
  have hn20 : 0 ≤ n2 := by omega
  have hnl : (l.length : Int) ≤ n2 := by omega
  clear hn2
  have hszS := Lib.hid hszS
  have hTS0 := Lib.hid hTS0
  have hszC := Lib.hid hszC
  have hTC0 := Lib.hid hTC0
  have B0 : Below w.heap.size w ((w.alloc (.cells #[.slice sa sl sc] 32)).alloc (.cells #[.string x0, .int .i64 x1, .int .i64 x2, .int .i64 x3, .int .i64 x4, .int .i64 x5, .slice sa2 sl2 sc2] 71)) := ((Below.refl _ _).alloc (Nat.le_refl _) _).alloc (by simp) _
  have bA0 := Lib.hid ((Cb.new w (.slice sa sl sc) 32).ext ((Below.refl _ _).alloc (Nat.le_refl _) (.cells #[.string x0, .int .i64 x1, .int .i64 x2, .int .i64 x3, .int .i64 x4, .int .i64 x5, .slice sa2 sl2 sc2] 71)))
  have bC0 : Hid (Cc (w.heap.size + 1) ((w.alloc (.cells #[.slice sa sl sc] 32)).alloc (.cells #[.string x0, .int .i64 x1, .int .i64 x2, .int .i64 x3, .int .i64 x4, .int .i64 x5, .slice sa2 sl2 sc2] 71)) [.string x0, .int .i64 x1, .int .i64 x2, .int .i64 x3, .int .i64 x4, .int .i64 x5, .slice sa2 sl2 sc2] 71) := Lib.hid (by
    show ((w.alloc _).alloc _).heap[w.heap.size + 1]? = _
    rw [show w.heap.size + 1 = (w.alloc (.cells #[.slice sa sl sc] 32)).heap.size from by simp]; exact blkN_new _ _)
  go_enter Try.func7, Try.ntmps7
  have cA := bA0.out.c
  go_wp2_with fail
  refine (hszS.out _ B0).mono ?_
  rintro e w1 ⟨rfl, f1⟩
  have z1 : w.heap.size + 2 ≤ w1.heap.size := by simpa using f1.size
  have B1 := B0.trans (f1.mono B0.size)
  have bA1 := Lib.hid (bA0.out.ext f1)
  have bC1 := Lib.hid (blkN_below f1 bC0.out)
  clear bA0 bC0 f1 cA
  by_cases hq : (1048576 : Int) < (L.cost : Int)
  · rw [szRes_lt hq]
    clear hq
    go_wp2
    go_ret
    exact ⟨rfl, B1⟩
  rw [szRes_ge hq]
  have hTS := Lib.hid (hTS0.out (by omega))
  have hcost : L.cost ≤ 1048576 := by omega
  have htc : totC L ≤ 6291456 := by have := totM_cost (fun f : CraneF => f.name.size) L; unfold SiteL.cost at hcost; unfold totC; omega
  have htot : Hid (totM 6 2 R.1 ≤ 6291502) := Lib.hid (htot0.out _ (by unfold totC at htc; omega))
  have hge : decide ((1048576 : Int) - (L.cost : Int) < 0) = false := decide_eq_false (by omega)
  clear hszS hTS0 htot0
  generalize hnn : (L.cost : Int) = nn at *
  have hnn0 : 0 ≤ nn := by omega
  clear hnn
  have k0 : w1.cell? ⟨w.heap.size + 1, 0, none⟩ = some _ := (Lib.cell_of_heap bC1.out 0).trans rfl
  have k1 : w1.cell? ⟨w.heap.size + 1, 1, none⟩ = some _ := (Lib.cell_of_heap bC1.out 1).trans rfl
  have k2 : w1.cell? ⟨w.heap.size + 1, 2, none⟩ = some _ := (Lib.cell_of_heap bC1.out 2).trans rfl
  have k3 : w1.cell? ⟨w.heap.size + 1, 3, none⟩ = some _ := (Lib.cell_of_heap bC1.out 3).trans rfl
  have k4 : w1.cell? ⟨w.heap.size + 1, 4, none⟩ = some _ := (Lib.cell_of_heap bC1.out 4).trans rfl
  have k5 : w1.cell? ⟨w.heap.size + 1, 5, none⟩ = some _ := (Lib.cell_of_heap bC1.out 5).trans rfl
  have k6 : w1.cell? ⟨w.heap.size + 1, 6, none⟩ = some _ := (Lib.cell_of_heap bC1.out 6).trans rfl
  go_wp2_with fail
  refine (hszC.out (1048576 - nn) _ B1 (by omega) (by omega)).mono ?_
  rintro e w2 ⟨rfl, f2⟩
  have z2 : w1.heap.size ≤ w2.heap.size := f2.size
  have B2 := B1.trans (f2.mono B1.size)
  have bA2 := Lib.hid (bA1.out.ext f2)
  have bC2 := Lib.hid (blkN_below f2 bC1.out)
  clear bA1 bC1 f2 k0 k1 k2 k3 k4 k5 k6
  by_cases hq2 : 1048576 - nn < n2
  · rw [szRes_lt hq2]
    clear hq2
    go_wp2
    go_ret
    exact ⟨rfl, B2⟩
  rw [szRes_ge hq2]
  have hTC := Lib.hid (hTC0.out (by omega))
  have hlb : l.length ≤ 1048576 := by omega
  have hge2 : decide (1048576 - nn - n2 < 0) = false := decide_eq_false (by omega)
  clear hTC0 hszC
  have cA := bA2.out.c
  have lA := bA2.out.lt
  have k0 : w2.cell? ⟨w.heap.size + 1, 0, none⟩ = some _ := (Lib.cell_of_heap bC2.out 0).trans rfl
  have k1 : w2.cell? ⟨w.heap.size + 1, 1, none⟩ = some _ := (Lib.cell_of_heap bC2.out 1).trans rfl
  have k2 : w2.cell? ⟨w.heap.size + 1, 2, none⟩ = some _ := (Lib.cell_of_heap bC2.out 2).trans rfl
  have k3 : w2.cell? ⟨w.heap.size + 1, 3, none⟩ = some _ := (Lib.cell_of_heap bC2.out 3).trans rfl
  have k4 : w2.cell? ⟨w.heap.size + 1, 4, none⟩ = some _ := (Lib.cell_of_heap bC2.out 4).trans rfl
  have k5 : w2.cell? ⟨w.heap.size + 1, 5, none⟩ = some _ := (Lib.cell_of_heap bC2.out 5).trans rfl
  have k6 : w2.cell? ⟨w.heap.size + 1, 6, none⟩ = some _ := (Lib.cell_of_heap bC2.out 6).trans rfl
  have lC := (Array.getElem?_eq_some_iff.1 bC2.out).1
  go_wp2_with fail
  rename_i Kx hKx
  have key : ∀ (u0 u1 u4 u5 u8 u9 u10 u11 u12 u13 u14 u15 u16 u17 u18 u19 u20 u21 u22 u23 u24 u25 u26 u27 u28 u29 u30 u31 u32 u33 u34 u35 u36 u37 u38 u39 u40 u41 u42 u43 u44 u45 u46 u47 u48 u49 u50 u51 u52 u53 u54 u55 u56 u57 u58 u59 u60 u61 u62 u63 u64 u65 u66 u67 u68 u69 u70 u71 u72 u73 u74 u75 u76 u77 u78 u79 u80 u81 u82 u83 u84 u85 u86 u87 u88 u89 u90 u91 u92 u93 u94 u95 u96 u97 u98 u99 u100 u101 u102 u103 u104 u105 u106 u107 u108 u109 u110 u111 u112 u113 u114 u115 u116 u117 u118 : Value) (pW : Nat) (v : SV) (W : World), Fin w2 R.1 pW v W → Kx { tmps := #[u0, u1, .pointer (some ⟨w.heap.size, 0, none⟩), .pointer (some ⟨w.heap.size + 1, 0, none⟩), u4, u5, .pointer (some ⟨pW, 0, none⟩), .int .i64 R.2, u8, u9, u10, u11, u12, u13, u14, u15, u16, u17, u18, u19, u20, u21, u22, u23, u24, u25, u26, u27, u28, u29, u30, u31, u32, u33, u34, u35, u36, u37, u38, u39, u40, u41, u42, u43, u44, u45, u46, u47, u48, u49, u50, u51, u52, u53, u54, u55, u56, u57, u58, u59, u60, u61, u62, u63, u64, u65, u66, u67, u68, u69, u70, u71, u72, u73, u74, u75, u76, u77, u78, u79, u80, u81, u82, u83, u84, u85, u86, u87, u88, u89, u90, u91, u92, u93, u94, u95, u96, u97, u98, u99, u100, u101, u102, u103, u104, u105, u106, u107, u108, u109, u110, u111, u112, u113, u114, u115, u116, u117, u118], defers := [] } W := by
    intro u0 u1 u4 u5 u8 u9 u10 u11 u12 u13 u14 u15 u16 u17 u18 u19 u20 u21 u22 u23 u24 u25 u26 u27 u28 u29 u30 u31 u32 u33 u34 u35 u36 u37 u38 u39 u40 u41 u42 u43 u44 u45 u46 u47 u48 u49 u50 u51 u52 u53 u54 u55 u56 u57 u58 u59 u60 u61 u62 u63 u64 u65 u66 u67 u68 u69 u70 u71 u72 u73 u74 u75 u76 u77 u78 u79 u80 u81 u82 u83 u84 u85 u86 u87 u88 u89 u90 u91 u92 u93 u94 u95 u96 u97 u98 u99 u100 u101 u102 u103 u104 u105 u106 u107 u108 u109 u110 u111 u112 u113 u114 u115 u116 u117 u118 pW v W hF
    -- REST
    obtain ⟨aW, tW, cW0⟩ := v
    obtain ⟨hcb, hpl, ⟨rsW, loW, hiW, hrW, hlo1, hlo2, hlo3, hlo4⟩, hbW⟩ := hF
    simp only [SV.v] at hcb hrW
    refine hKx _ _ ?_
    clear hKx
    have BK := B2.trans (hbW.mono B2.size)
    have bAK := Lib.hid (bA2.out.ext hbW)
    have bCK := Lib.hid (blkN_below hbW bC2.out)
    have bWK := Lib.hid hcb
    have rWK := Lib.hid hrW
    have zp := hcb.lt
    have zW := hbW.size
    clear hcb hrW hbW bA2 bC2 cA lA k0 k1 k2 k3 k4 k5 k6 lC
    have cA := bAK.out.c
    have lA := bAK.out.lt
    have cW := bWK.out.c
    have lW := bWK.out.lt
    have cC0 : W.cell? ⟨w.heap.size + 1, 0, none⟩ = some _ := (Lib.cell_of_heap bCK.out 0).trans rfl
    have cC1 : W.cell? ⟨w.heap.size + 1, 1, none⟩ = some _ := (Lib.cell_of_heap bCK.out 1).trans rfl
    have cC2 : W.cell? ⟨w.heap.size + 1, 2, none⟩ = some _ := (Lib.cell_of_heap bCK.out 2).trans rfl
    have cC3 : W.cell? ⟨w.heap.size + 1, 3, none⟩ = some _ := (Lib.cell_of_heap bCK.out 3).trans rfl
    have cC4 : W.cell? ⟨w.heap.size + 1, 4, none⟩ = some _ := (Lib.cell_of_heap bCK.out 4).trans rfl
    have cC5 : W.cell? ⟨w.heap.size + 1, 5, none⟩ = some _ := (Lib.cell_of_heap bCK.out 5).trans rfl
    have cC6 : W.cell? ⟨w.heap.size + 1, 6, none⟩ = some _ := (Lib.cell_of_heap bCK.out 6).trans rfl
    have lC := (Array.getElem?_eq_some_iff.1 bCK.out).1
    go_wp2_with fail
    refine (hTS.out _ BK).mono ?_
    rintro e w11 ⟨⟨a11, t11, p11⟩, rs11, rfl, q11, f11⟩
    have z11 : W.heap.size ≤ w11.heap.size := f11.size
    simp only [SV.v] at q11 ⊢
    have rX11 : Hid (CraneW (W.heap.size) w11.heap.size w11 (.slice a11 t11 p11) rs11 L) := Lib.hid (by simpa using q11)
    clear q11
    have B11 := BK.trans (f11.mono BK.size)
    have bA11 := Lib.hid (bAK.out.ext f11)
    have bW11 := Lib.hid (bWK.out.ext f11)
    have bC11 := Lib.hid (blkN_below f11 bCK.out)
    have rW11 := Lib.hid (rWK.out.ext (by first | omega | (simp; omega)) f11)
    clear bAK bWK bCK rWK f11
    have g11 : Below w11.heap.size w11 (w11.alloc (.cells #[.slice a11 t11 p11] 37)) := (Below.refl _ _).alloc (Nat.le_refl _) _
    have bX11a := Lib.hid (Cb.new w11 (.slice a11 t11 p11) 37)
    have B11a := B11.trans (g11.mono B11.size)
    have bA11a := Lib.hid (bA11.out.ext g11)
    have bW11a := Lib.hid (bW11.out.ext g11)
    have bC11a := Lib.hid (blkN_below g11 bC11.out)
    have rW11a := Lib.hid (rW11.out.ext (by first | omega | (simp; omega)) g11)
    have rX11a := Lib.hid (rX11.out.ext (by first | omega | (simp; omega)) g11)
    clear bA11 bW11 bC11 rW11 rX11 g11
    clear cA lA cW lW cC0 cC1 cC2 cC3 cC4 cC5 cC6 lC
    have cA := bA11a.out.c
    have lA := bA11a.out.lt
    have cW := bW11a.out.c
    have lW := bW11a.out.lt
    have cX := bX11a.out.c
    have lX := bX11a.out.lt
    have cC0 : (w11.alloc (.cells #[.slice a11 t11 p11] 37)).cell? ⟨w.heap.size + 1, 0, none⟩ = some _ := (Lib.cell_of_heap bC11a.out 0).trans rfl
    have cC1 : (w11.alloc (.cells #[.slice a11 t11 p11] 37)).cell? ⟨w.heap.size + 1, 1, none⟩ = some _ := (Lib.cell_of_heap bC11a.out 1).trans rfl
    have cC2 : (w11.alloc (.cells #[.slice a11 t11 p11] 37)).cell? ⟨w.heap.size + 1, 2, none⟩ = some _ := (Lib.cell_of_heap bC11a.out 2).trans rfl
    have cC3 : (w11.alloc (.cells #[.slice a11 t11 p11] 37)).cell? ⟨w.heap.size + 1, 3, none⟩ = some _ := (Lib.cell_of_heap bC11a.out 3).trans rfl
    have cC4 : (w11.alloc (.cells #[.slice a11 t11 p11] 37)).cell? ⟨w.heap.size + 1, 4, none⟩ = some _ := (Lib.cell_of_heap bC11a.out 4).trans rfl
    have cC5 : (w11.alloc (.cells #[.slice a11 t11 p11] 37)).cell? ⟨w.heap.size + 1, 5, none⟩ = some _ := (Lib.cell_of_heap bC11a.out 5).trans rfl
    have cC6 : (w11.alloc (.cells #[.slice a11 t11 p11] 37)).cell? ⟨w.heap.size + 1, 6, none⟩ = some _ := (Lib.cell_of_heap bC11a.out 6).trans rfl
    have lC := (Array.getElem?_eq_some_iff.1 bC11a.out).1
    go_wp2_with fail
    refine (hTC.out _ B11a).mono ?_
    rintro e w12 ⟨⟨a12, t12, p12⟩, rfl, q12, f12⟩
    have z12 : w11.heap.size + 1 ≤ w12.heap.size := by simpa using f12.size
    simp only [SV.v, CraneR.cells] at q12 ⊢
    have rY12 : Hid (Slw 2 Chs.cells (w11.heap.size + 1) w12.heap.size w12 (.slice a12 t12 p12) l) := Lib.hid (by simpa using q12)
    clear q12
    have B12 := B11a.trans (f12.mono B11a.size)
    have bA12 := Lib.hid (bA11a.out.ext f12)
    have bW12 := Lib.hid (bW11a.out.ext f12)
    have bX12 := Lib.hid (bX11a.out.ext f12)
    have bC12 := Lib.hid (blkN_below f12 bC11a.out)
    have rW12 := Lib.hid (rW11a.out.ext (by first | omega | (simp; omega)) f12)
    have rX12 := Lib.hid (rX11a.out.ext (by first | omega | (simp; omega)) f12)
    clear bA11a bW11a bX11a bC11a rW11a rX11a f12
    have g12 : Below w12.heap.size w12 (w12.alloc (.cells #[.string x0, .int .i64 x1, .int .i64 x2, .int .i64 x3, .int .i64 x4, .int .i64 x5, .slice a12 t12 p12] 51)) := (Below.refl _ _).alloc (Nat.le_refl _) _
    have bY12a : Hid (Cc w12.heap.size (w12.alloc (.cells #[.string x0, .int .i64 x1, .int .i64 x2, .int .i64 x3, .int .i64 x4, .int .i64 x5, .slice a12 t12 p12] 51)) [.string x0, .int .i64 x1, .int .i64 x2, .int .i64 x3, .int .i64 x4, .int .i64 x5, .slice a12 t12 p12] 51) := Lib.hid (blkN_new _ _)
    have B12a := B12.trans (g12.mono B12.size)
    have bA12a := Lib.hid (bA12.out.ext g12)
    have bW12a := Lib.hid (bW12.out.ext g12)
    have bX12a := Lib.hid (bX12.out.ext g12)
    have bC12a := Lib.hid (blkN_below g12 bC12.out)
    have rW12a := Lib.hid (rW12.out.ext (by first | omega | (simp; omega)) g12)
    have rX12a := Lib.hid (rX12.out.ext (by first | omega | (simp; omega)) g12)
    have rY12a := Lib.hid (rY12.out.keep (Same.of_below g12 (by first | omega | (simp; omega))))
    clear bA12 bW12 bX12 bC12 rW12 rX12 rY12 g12
    have hF := hIm.out ⟨a11, t11, p11⟩ _ _ _ ⟨a12, t12, p12⟩ _ _ _ rX12a.out.r rY12a.out.1
    simp only [SV.v] at hF
    clear cA lA cW lW cX lX cC0 cC1 cC2 cC3 cC4 cC5 cC6 lC
    have cA := bA12a.out.c
    have lA := bA12a.out.lt
    have cW := bW12a.out.c
    have lW := bW12a.out.lt
    have cX := bX12a.out.c
    have lX := bX12a.out.lt
    have cC0 : (w12.alloc (.cells #[.string x0, .int .i64 x1, .int .i64 x2, .int .i64 x3, .int .i64 x4, .int .i64 x5, .slice a12 t12 p12] 51)).cell? ⟨w.heap.size + 1, 0, none⟩ = some _ := (Lib.cell_of_heap bC12a.out 0).trans rfl
    have cC1 : (w12.alloc (.cells #[.string x0, .int .i64 x1, .int .i64 x2, .int .i64 x3, .int .i64 x4, .int .i64 x5, .slice a12 t12 p12] 51)).cell? ⟨w.heap.size + 1, 1, none⟩ = some _ := (Lib.cell_of_heap bC12a.out 1).trans rfl
    have cC2 : (w12.alloc (.cells #[.string x0, .int .i64 x1, .int .i64 x2, .int .i64 x3, .int .i64 x4, .int .i64 x5, .slice a12 t12 p12] 51)).cell? ⟨w.heap.size + 1, 2, none⟩ = some _ := (Lib.cell_of_heap bC12a.out 2).trans rfl
    have cC3 : (w12.alloc (.cells #[.string x0, .int .i64 x1, .int .i64 x2, .int .i64 x3, .int .i64 x4, .int .i64 x5, .slice a12 t12 p12] 51)).cell? ⟨w.heap.size + 1, 3, none⟩ = some _ := (Lib.cell_of_heap bC12a.out 3).trans rfl
    have cC4 : (w12.alloc (.cells #[.string x0, .int .i64 x1, .int .i64 x2, .int .i64 x3, .int .i64 x4, .int .i64 x5, .slice a12 t12 p12] 51)).cell? ⟨w.heap.size + 1, 4, none⟩ = some _ := (Lib.cell_of_heap bC12a.out 4).trans rfl
    have cC5 : (w12.alloc (.cells #[.string x0, .int .i64 x1, .int .i64 x2, .int .i64 x3, .int .i64 x4, .int .i64 x5, .slice a12 t12 p12] 51)).cell? ⟨w.heap.size + 1, 5, none⟩ = some _ := (Lib.cell_of_heap bC12a.out 5).trans rfl
    have cC6 : (w12.alloc (.cells #[.string x0, .int .i64 x1, .int .i64 x2, .int .i64 x3, .int .i64 x4, .int .i64 x5, .slice a12 t12 p12] 51)).cell? ⟨w.heap.size + 1, 6, none⟩ = some _ := (Lib.cell_of_heap bC12a.out 6).trans rfl
    have lC := (Array.getElem?_eq_some_iff.1 bC12a.out).1
    have cY0 : (w12.alloc (.cells #[.string x0, .int .i64 x1, .int .i64 x2, .int .i64 x3, .int .i64 x4, .int .i64 x5, .slice a12 t12 p12] 51)).cell? ⟨w12.heap.size, 0, none⟩ = some _ := (Lib.cell_of_heap bY12a.out 0).trans rfl
    have cY1 : (w12.alloc (.cells #[.string x0, .int .i64 x1, .int .i64 x2, .int .i64 x3, .int .i64 x4, .int .i64 x5, .slice a12 t12 p12] 51)).cell? ⟨w12.heap.size, 1, none⟩ = some _ := (Lib.cell_of_heap bY12a.out 1).trans rfl
    have cY2 : (w12.alloc (.cells #[.string x0, .int .i64 x1, .int .i64 x2, .int .i64 x3, .int .i64 x4, .int .i64 x5, .slice a12 t12 p12] 51)).cell? ⟨w12.heap.size, 2, none⟩ = some _ := (Lib.cell_of_heap bY12a.out 2).trans rfl
    have cY3 : (w12.alloc (.cells #[.string x0, .int .i64 x1, .int .i64 x2, .int .i64 x3, .int .i64 x4, .int .i64 x5, .slice a12 t12 p12] 51)).cell? ⟨w12.heap.size, 3, none⟩ = some _ := (Lib.cell_of_heap bY12a.out 3).trans rfl
    have cY4 : (w12.alloc (.cells #[.string x0, .int .i64 x1, .int .i64 x2, .int .i64 x3, .int .i64 x4, .int .i64 x5, .slice a12 t12 p12] 51)).cell? ⟨w12.heap.size, 4, none⟩ = some _ := (Lib.cell_of_heap bY12a.out 4).trans rfl
    have cY5 : (w12.alloc (.cells #[.string x0, .int .i64 x1, .int .i64 x2, .int .i64 x3, .int .i64 x4, .int .i64 x5, .slice a12 t12 p12] 51)).cell? ⟨w12.heap.size, 5, none⟩ = some _ := (Lib.cell_of_heap bY12a.out 5).trans rfl
    have cY6 : (w12.alloc (.cells #[.string x0, .int .i64 x1, .int .i64 x2, .int .i64 x3, .int .i64 x4, .int .i64 x5, .slice a12 t12 p12] 51)).cell? ⟨w12.heap.size, 6, none⟩ = some _ := (Lib.cell_of_heap bY12a.out 6).trans rfl
    have lY := (Array.getElem?_eq_some_iff.1 bY12a.out).1
    go_wp2_with fail
    refine (hF).mono ?_
    rintro e w13 ⟨⟨a13, t13, p13⟩, rs13, rfl, q13, f13⟩
    have z13 : w12.heap.size + 1 ≤ w13.heap.size := by simpa using f13.size
    simp only [SV.v] at q13 ⊢
    have rG13 : Hid (CraneW (w12.heap.size + 1) w13.heap.size w13 (.slice a13 t13 p13) rs13 R.1) := Lib.hid (by simpa using q13)
    clear q13
    have B13 := B12a.trans (f13.mono B12a.size)
    have bA13 := Lib.hid (bA12a.out.ext f13)
    have bW13 := Lib.hid (bW12a.out.ext f13)
    have bX13 := Lib.hid (bX12a.out.ext f13)
    have bC13 := Lib.hid (blkN_below f13 bC12a.out)
    have bY13 := Lib.hid (blkN_below f13 bY12a.out)
    have rW13 := Lib.hid (rW12a.out.ext (by first | omega | (simp; omega)) f13)
    have rX13 := Lib.hid (rX12a.out.ext (by first | omega | (simp; omega)) f13)
    have rY13 := Lib.hid (rY12a.out.keep (Same.of_below f13 (by first | omega | (simp; omega))))
    clear bA12a bW12a bX12a bC12a bY12a rW12a rX12a rY12a f13
    clear hF
    have g13 : Below w13.heap.size w13 (w13.alloc (.cells #[.slice a13 t13 p13] 37)) := (Below.refl _ _).alloc (Nat.le_refl _) _
    have bG13a := Lib.hid (Cb.new w13 (.slice a13 t13 p13) 37)
    have B13a := B13.trans (g13.mono B13.size)
    have bA13a := Lib.hid (bA13.out.ext g13)
    have bW13a := Lib.hid (bW13.out.ext g13)
    have bX13a := Lib.hid (bX13.out.ext g13)
    have bC13a := Lib.hid (blkN_below g13 bC13.out)
    have bY13a := Lib.hid (blkN_below g13 bY13.out)
    have rW13a := Lib.hid (rW13.out.ext (by first | omega | (simp; omega)) g13)
    have rX13a := Lib.hid (rX13.out.ext (by first | omega | (simp; omega)) g13)
    have rG13a := Lib.hid (rG13.out.ext (by first | omega | (simp; omega)) g13)
    have rY13a := Lib.hid (rY13.out.keep (Same.of_below g13 (by first | omega | (simp; omega))))
    clear bA13 bW13 bX13 bC13 bY13 rW13 rX13 rG13 rY13 g13
    have hE := law_eqSite ⟨a13, t13, p13⟩ ⟨aW, tW, cW0⟩ _ _ R.1 _ _ _ _ _ rG13a.out.r rW13a.out.r
    simp only [SV.v] at hE
    clear cA lA cW lW cX lX cC0 cC1 cC2 cC3 cC4 cC5 cC6 lC cY0 cY1 cY2 cY3 cY4 cY5 cY6 lY
    have cA := bA13a.out.c
    have lA := bA13a.out.lt
    have cW := bW13a.out.c
    have lW := bW13a.out.lt
    have cX := bX13a.out.c
    have lX := bX13a.out.lt
    have cG := bG13a.out.c
    have lG := bG13a.out.lt
    have cC0 : (w13.alloc (.cells #[.slice a13 t13 p13] 37)).cell? ⟨w.heap.size + 1, 0, none⟩ = some _ := (Lib.cell_of_heap bC13a.out 0).trans rfl
    have cC1 : (w13.alloc (.cells #[.slice a13 t13 p13] 37)).cell? ⟨w.heap.size + 1, 1, none⟩ = some _ := (Lib.cell_of_heap bC13a.out 1).trans rfl
    have cC2 : (w13.alloc (.cells #[.slice a13 t13 p13] 37)).cell? ⟨w.heap.size + 1, 2, none⟩ = some _ := (Lib.cell_of_heap bC13a.out 2).trans rfl
    have cC3 : (w13.alloc (.cells #[.slice a13 t13 p13] 37)).cell? ⟨w.heap.size + 1, 3, none⟩ = some _ := (Lib.cell_of_heap bC13a.out 3).trans rfl
    have cC4 : (w13.alloc (.cells #[.slice a13 t13 p13] 37)).cell? ⟨w.heap.size + 1, 4, none⟩ = some _ := (Lib.cell_of_heap bC13a.out 4).trans rfl
    have cC5 : (w13.alloc (.cells #[.slice a13 t13 p13] 37)).cell? ⟨w.heap.size + 1, 5, none⟩ = some _ := (Lib.cell_of_heap bC13a.out 5).trans rfl
    have cC6 : (w13.alloc (.cells #[.slice a13 t13 p13] 37)).cell? ⟨w.heap.size + 1, 6, none⟩ = some _ := (Lib.cell_of_heap bC13a.out 6).trans rfl
    have lC := (Array.getElem?_eq_some_iff.1 bC13a.out).1
    have cY0 : (w13.alloc (.cells #[.slice a13 t13 p13] 37)).cell? ⟨w12.heap.size, 0, none⟩ = some _ := (Lib.cell_of_heap bY13a.out 0).trans rfl
    have cY1 : (w13.alloc (.cells #[.slice a13 t13 p13] 37)).cell? ⟨w12.heap.size, 1, none⟩ = some _ := (Lib.cell_of_heap bY13a.out 1).trans rfl
    have cY2 : (w13.alloc (.cells #[.slice a13 t13 p13] 37)).cell? ⟨w12.heap.size, 2, none⟩ = some _ := (Lib.cell_of_heap bY13a.out 2).trans rfl
    have cY3 : (w13.alloc (.cells #[.slice a13 t13 p13] 37)).cell? ⟨w12.heap.size, 3, none⟩ = some _ := (Lib.cell_of_heap bY13a.out 3).trans rfl
    have cY4 : (w13.alloc (.cells #[.slice a13 t13 p13] 37)).cell? ⟨w12.heap.size, 4, none⟩ = some _ := (Lib.cell_of_heap bY13a.out 4).trans rfl
    have cY5 : (w13.alloc (.cells #[.slice a13 t13 p13] 37)).cell? ⟨w12.heap.size, 5, none⟩ = some _ := (Lib.cell_of_heap bY13a.out 5).trans rfl
    have cY6 : (w13.alloc (.cells #[.slice a13 t13 p13] 37)).cell? ⟨w12.heap.size, 6, none⟩ = some _ := (Lib.cell_of_heap bY13a.out 6).trans rfl
    have lY := (Array.getElem?_eq_some_iff.1 bY13a.out).1
    go_wp2_with fail
    refine (hE).mono ?_
    rintro e w14 ⟨rfl, f14⟩
    have z14 : w13.heap.size + 1 ≤ w14.heap.size := by simpa using f14.size
    have B14 := B13a.trans (f14.mono B13a.size)
    have bA14 := Lib.hid (bA13a.out.ext f14)
    have bW14 := Lib.hid (bW13a.out.ext f14)
    have bX14 := Lib.hid (bX13a.out.ext f14)
    have bG14 := Lib.hid (bG13a.out.ext f14)
    have bC14 := Lib.hid (blkN_below f14 bC13a.out)
    have bY14 := Lib.hid (blkN_below f14 bY13a.out)
    have rW14 := Lib.hid (rW13a.out.ext (by first | omega | (simp; omega)) f14)
    have rX14 := Lib.hid (rX13a.out.ext (by first | omega | (simp; omega)) f14)
    have rG14 := Lib.hid (rG13a.out.ext (by first | omega | (simp; omega)) f14)
    have rY14 := Lib.hid (rY13a.out.keep (Same.of_below f14 (by first | omega | (simp; omega))))
    clear bA13a bW13a bX13a bG13a bC13a bY13a rW13a rX13a rG13a rY13a f14
    clear hE
    clear cA lA cW lW cX lX cG lG cC0 cC1 cC2 cC3 cC4 cC5 cC6 lC cY0 cY1 cY2 cY3 cY4 cY5 cY6 lY
    have cA := bA14.out.c
    have lA := bA14.out.lt
    have cW := bW14.out.c
    have lW := bW14.out.lt
    have cX := bX14.out.c
    have lX := bX14.out.lt
    have cG := bG14.out.c
    have lG := bG14.out.lt
    have cC0 : w14.cell? ⟨w.heap.size + 1, 0, none⟩ = some _ := (Lib.cell_of_heap bC14.out 0).trans rfl
    have cC1 : w14.cell? ⟨w.heap.size + 1, 1, none⟩ = some _ := (Lib.cell_of_heap bC14.out 1).trans rfl
    have cC2 : w14.cell? ⟨w.heap.size + 1, 2, none⟩ = some _ := (Lib.cell_of_heap bC14.out 2).trans rfl
    have cC3 : w14.cell? ⟨w.heap.size + 1, 3, none⟩ = some _ := (Lib.cell_of_heap bC14.out 3).trans rfl
    have cC4 : w14.cell? ⟨w.heap.size + 1, 4, none⟩ = some _ := (Lib.cell_of_heap bC14.out 4).trans rfl
    have cC5 : w14.cell? ⟨w.heap.size + 1, 5, none⟩ = some _ := (Lib.cell_of_heap bC14.out 5).trans rfl
    have cC6 : w14.cell? ⟨w.heap.size + 1, 6, none⟩ = some _ := (Lib.cell_of_heap bC14.out 6).trans rfl
    have lC := (Array.getElem?_eq_some_iff.1 bC14.out).1
    have cY0 : w14.cell? ⟨w12.heap.size, 0, none⟩ = some _ := (Lib.cell_of_heap bY14.out 0).trans rfl
    have cY1 : w14.cell? ⟨w12.heap.size, 1, none⟩ = some _ := (Lib.cell_of_heap bY14.out 1).trans rfl
    have cY2 : w14.cell? ⟨w12.heap.size, 2, none⟩ = some _ := (Lib.cell_of_heap bY14.out 2).trans rfl
    have cY3 : w14.cell? ⟨w12.heap.size, 3, none⟩ = some _ := (Lib.cell_of_heap bY14.out 3).trans rfl
    have cY4 : w14.cell? ⟨w12.heap.size, 4, none⟩ = some _ := (Lib.cell_of_heap bY14.out 4).trans rfl
    have cY5 : w14.cell? ⟨w12.heap.size, 5, none⟩ = some _ := (Lib.cell_of_heap bY14.out 5).trans rfl
    have cY6 : w14.cell? ⟨w12.heap.size, 6, none⟩ = some _ := (Lib.cell_of_heap bY14.out 6).trans rfl
    have lY := (Array.getElem?_eq_some_iff.1 bY14.out).1
    have hE := Lib.hid (fun w' (hb : Below w14.heap.size w14 w') s2 rs2 lo hi h2 => by have := law_eqSite ⟨a11, t11, p11⟩ s2 _ rs2 L _ _ lo hi w' (rX14.out.r.ext hb) h2; simpa only [SV.v] using this)
    go_wp2_with fail
    go_region_held3 (fun w' => (∀ b' o', b' < w14.heap.size → w'.cell? ⟨b', o', none⟩ = w14.cell? ⟨b', o', none⟩) ∧ Below w14.heap.size w14 w') (first | exact heldB (Below.refl _ _).drew | exact heldB f16 | exact heldB e15)
      (first
        | (go_at_call 19; refine (hTS.out _ (B14.trans ((Below.refl w14.heap.size w14).drew.mono B14.size))).mono ?_; rintro e w15 ⟨⟨a15, t15, p15⟩, rs15, rfl, q15, d15⟩; have e15 : Below w14.heap.size w14 w15 := (Below.refl _ _).drew.trans d15; have q15 := Lib.hid q15; try simp only [SV.v, CraneR.cells])
        | (go_at_call 21; refine (hE.out _ e15 ⟨a15, t15, p15⟩ rs15 _ _ q15.out.r).mono ?_; rintro e w16 ⟨rfl, d16⟩; have f16 : Below w14.heap.size w14 w16 := e15.trans (d16.mono e15.size)))
    have z16 : w14.heap.size ≤ w16.heap.size := f16.size
    clear hE q15 d15 d16 e15
    have B16 := B14.trans (f16.mono B14.size)
    have bA16 := Lib.hid (bA14.out.ext f16)
    have bW16 := Lib.hid (bW14.out.ext f16)
    have bX16 := Lib.hid (bX14.out.ext f16)
    have bG16 := Lib.hid (bG14.out.ext f16)
    have bC16 := Lib.hid (blkN_below f16 bC14.out)
    have bY16 := Lib.hid (blkN_below f16 bY14.out)
    have rW16 := Lib.hid (rW14.out.ext (by first | omega | (simp; omega)) f16)
    have rX16 := Lib.hid (rX14.out.ext (by first | omega | (simp; omega)) f16)
    have rG16 := Lib.hid (rG14.out.ext (by first | omega | (simp; omega)) f16)
    have rY16 := Lib.hid (rY14.out.keep (Same.of_below f16 (by first | omega | (simp; omega))))
    clear bA14 bW14 bX14 bG14 bC14 bY14 rW14 rX14 rG14 rY14 f16
    clear cA lA cW lW cX lX cG lG cC0 cC1 cC2 cC3 cC4 cC5 cC6 lC cY0 cY1 cY2 cY3 cY4 cY5 cY6 lY
    have cA := bA16.out.c
    have lA := bA16.out.lt
    have cW := bW16.out.c
    have lW := bW16.out.lt
    have cX := bX16.out.c
    have lX := bX16.out.lt
    have cG := bG16.out.c
    have lG := bG16.out.lt
    have cC0 : w16.cell? ⟨w.heap.size + 1, 0, none⟩ = some _ := (Lib.cell_of_heap bC16.out 0).trans rfl
    have cC1 : w16.cell? ⟨w.heap.size + 1, 1, none⟩ = some _ := (Lib.cell_of_heap bC16.out 1).trans rfl
    have cC2 : w16.cell? ⟨w.heap.size + 1, 2, none⟩ = some _ := (Lib.cell_of_heap bC16.out 2).trans rfl
    have cC3 : w16.cell? ⟨w.heap.size + 1, 3, none⟩ = some _ := (Lib.cell_of_heap bC16.out 3).trans rfl
    have cC4 : w16.cell? ⟨w.heap.size + 1, 4, none⟩ = some _ := (Lib.cell_of_heap bC16.out 4).trans rfl
    have cC5 : w16.cell? ⟨w.heap.size + 1, 5, none⟩ = some _ := (Lib.cell_of_heap bC16.out 5).trans rfl
    have cC6 : w16.cell? ⟨w.heap.size + 1, 6, none⟩ = some _ := (Lib.cell_of_heap bC16.out 6).trans rfl
    have lC := (Array.getElem?_eq_some_iff.1 bC16.out).1
    have cY0 : w16.cell? ⟨w12.heap.size, 0, none⟩ = some _ := (Lib.cell_of_heap bY16.out 0).trans rfl
    have cY1 : w16.cell? ⟨w12.heap.size, 1, none⟩ = some _ := (Lib.cell_of_heap bY16.out 1).trans rfl
    have cY2 : w16.cell? ⟨w12.heap.size, 2, none⟩ = some _ := (Lib.cell_of_heap bY16.out 2).trans rfl
    have cY3 : w16.cell? ⟨w12.heap.size, 3, none⟩ = some _ := (Lib.cell_of_heap bY16.out 3).trans rfl
    have cY4 : w16.cell? ⟨w12.heap.size, 4, none⟩ = some _ := (Lib.cell_of_heap bY16.out 4).trans rfl
    have cY5 : w16.cell? ⟨w12.heap.size, 5, none⟩ = some _ := (Lib.cell_of_heap bY16.out 5).trans rfl
    have cY6 : w16.cell? ⟨w12.heap.size, 6, none⟩ = some _ := (Lib.cell_of_heap bY16.out 6).trans rfl
    have lY := (Array.getElem?_eq_some_iff.1 bY16.out).1
    have hE := Lib.hid (fun w' (hb : Below w16.heap.size w16 w') s2 lo hi h2 => by have := hEC.out ⟨a12, t12, p12⟩ s2 _ _ lo hi w' (rY16.out.1.ext hb) h2; simpa only [SV.v] using this)
    go_wp2_with fail
    go_region_held3 (fun w' => (∀ b' o', b' < w16.heap.size → w'.cell? ⟨b', o', none⟩ = w16.cell? ⟨b', o', none⟩) ∧ Below w16.heap.size w16 w') (first | exact heldB (Below.refl _ _).drew | exact heldB f18 | exact heldB e17)
      (first
        | (go_at_call 41; refine (hTC.out _ (B16.trans ((Below.refl w16.heap.size w16).drew.mono B16.size))).mono ?_; rintro e w17 ⟨⟨a17, t17, p17⟩, rfl, q17, d17⟩; have e17 : Below w16.heap.size w16 w17 := (Below.refl _ _).drew.trans d17; have q17 := Lib.hid q17; try simp only [SV.v, CraneR.cells])
        | (go_at_call 42; refine (hE.out _ e17 ⟨a17, t17, p17⟩ _ _ q17.out.1).mono ?_; rintro e w18 ⟨rfl, d18⟩; have f18 : Below w16.heap.size w16 w18 := e17.trans (d18.mono e17.size)))
    have z18 : w16.heap.size ≤ w18.heap.size := f18.size
    clear hE q17 d17 d18 e17
    have B18 := B16.trans (f18.mono B16.size)
    have bA18 := Lib.hid (bA16.out.ext f18)
    have bW18 := Lib.hid (bW16.out.ext f18)
    have bX18 := Lib.hid (bX16.out.ext f18)
    have bG18 := Lib.hid (bG16.out.ext f18)
    have bC18 := Lib.hid (blkN_below f18 bC16.out)
    have bY18 := Lib.hid (blkN_below f18 bY16.out)
    have rW18 := Lib.hid (rW16.out.ext (by first | omega | (simp; omega)) f18)
    have rX18 := Lib.hid (rX16.out.ext (by first | omega | (simp; omega)) f18)
    have rG18 := Lib.hid (rG16.out.ext (by first | omega | (simp; omega)) f18)
    have rY18 := Lib.hid (rY16.out.keep (Same.of_below f18 (by first | omega | (simp; omega))))
    clear bA16 bW16 bX16 bG16 bC16 bY16 rW16 rX16 rG16 rY16 f18
    have hM := law_markSite ⟨a11, t11, p11⟩ _ L _ _ 1 _ rX18.out (by first | omega | (simp; omega)) (by omega) (by omega)
    simp only [SV.v] at hM
    clear cA lA cW lW cX lX cG lG cC0 cC1 cC2 cC3 cC4 cC5 cC6 lC cY0 cY1 cY2 cY3 cY4 cY5 cY6 lY
    have cA := bA18.out.c
    have lA := bA18.out.lt
    have cW := bW18.out.c
    have lW := bW18.out.lt
    have cX := bX18.out.c
    have lX := bX18.out.lt
    have cG := bG18.out.c
    have lG := bG18.out.lt
    have cC0 : w18.cell? ⟨w.heap.size + 1, 0, none⟩ = some _ := (Lib.cell_of_heap bC18.out 0).trans rfl
    have cC1 : w18.cell? ⟨w.heap.size + 1, 1, none⟩ = some _ := (Lib.cell_of_heap bC18.out 1).trans rfl
    have cC2 : w18.cell? ⟨w.heap.size + 1, 2, none⟩ = some _ := (Lib.cell_of_heap bC18.out 2).trans rfl
    have cC3 : w18.cell? ⟨w.heap.size + 1, 3, none⟩ = some _ := (Lib.cell_of_heap bC18.out 3).trans rfl
    have cC4 : w18.cell? ⟨w.heap.size + 1, 4, none⟩ = some _ := (Lib.cell_of_heap bC18.out 4).trans rfl
    have cC5 : w18.cell? ⟨w.heap.size + 1, 5, none⟩ = some _ := (Lib.cell_of_heap bC18.out 5).trans rfl
    have cC6 : w18.cell? ⟨w.heap.size + 1, 6, none⟩ = some _ := (Lib.cell_of_heap bC18.out 6).trans rfl
    have lC := (Array.getElem?_eq_some_iff.1 bC18.out).1
    have cY0 : w18.cell? ⟨w12.heap.size, 0, none⟩ = some _ := (Lib.cell_of_heap bY18.out 0).trans rfl
    have cY1 : w18.cell? ⟨w12.heap.size, 1, none⟩ = some _ := (Lib.cell_of_heap bY18.out 1).trans rfl
    have cY2 : w18.cell? ⟨w12.heap.size, 2, none⟩ = some _ := (Lib.cell_of_heap bY18.out 2).trans rfl
    have cY3 : w18.cell? ⟨w12.heap.size, 3, none⟩ = some _ := (Lib.cell_of_heap bY18.out 3).trans rfl
    have cY4 : w18.cell? ⟨w12.heap.size, 4, none⟩ = some _ := (Lib.cell_of_heap bY18.out 4).trans rfl
    have cY5 : w18.cell? ⟨w12.heap.size, 5, none⟩ = some _ := (Lib.cell_of_heap bY18.out 5).trans rfl
    have cY6 : w18.cell? ⟨w12.heap.size, 6, none⟩ = some _ := (Lib.cell_of_heap bY18.out 6).trans rfl
    have lY := (Array.getElem?_eq_some_iff.1 bY18.out).1
    go_wp2_with fail
    refine (hM).mono ?_
    rintro e w19 ⟨_, rfl, -, f19⟩
    have z19 : w18.heap.size ≤ w19.heap.size := f19.size
    clear hM rX18
    have B19 := B18.trans (f19.below (B := w.heap.size) (by first | omega | (simp; omega)) B18.size)
    have bA19 := Lib.hid (bA18.out.mod f19 (by omega))
    have bW19 := Lib.hid (bW18.out.mod f19 (by omega))
    have bX19 := Lib.hid (bX18.out.mod f19 (by omega))
    have bG19 := Lib.hid (bG18.out.mod f19 (by omega))
    have bC19 := Lib.hid (ccMod bC18.out f19 (by omega))
    have bY19 := Lib.hid (ccMod bY18.out f19 (by omega))
    have rW19 := Lib.hid (rW18.out.keep (f19.same (by first | omega | (simp; omega)) (by omega)))
    have rG19 := Lib.hid (rG18.out.keep (f19.same (by first | omega | (simp; omega)) (by omega)))
    have rY19 := Lib.hid (rY18.out.keep (f19.same (by first | omega | (simp; omega)) (by omega)))
    clear bA18 bW18 bX18 bG18 bC18 bY18 rW18 rG18 rY18 f19
    generalize hK1 : 1 + totC L = K1 at *
    have hM := hMC.out ⟨a12, t12, p12⟩ _ _ K1 _ rY19.out (by first | omega | (simp; omega)) (by omega) (by omega)
    clear cA lA cW lW cX lX cG lG cC0 cC1 cC2 cC3 cC4 cC5 cC6 lC cY0 cY1 cY2 cY3 cY4 cY5 cY6 lY
    have cA := bA19.out.c
    have lA := bA19.out.lt
    have cW := bW19.out.c
    have lW := bW19.out.lt
    have cX := bX19.out.c
    have lX := bX19.out.lt
    have cG := bG19.out.c
    have lG := bG19.out.lt
    have cC0 : w19.cell? ⟨w.heap.size + 1, 0, none⟩ = some _ := (Lib.cell_of_heap bC19.out 0).trans rfl
    have cC1 : w19.cell? ⟨w.heap.size + 1, 1, none⟩ = some _ := (Lib.cell_of_heap bC19.out 1).trans rfl
    have cC2 : w19.cell? ⟨w.heap.size + 1, 2, none⟩ = some _ := (Lib.cell_of_heap bC19.out 2).trans rfl
    have cC3 : w19.cell? ⟨w.heap.size + 1, 3, none⟩ = some _ := (Lib.cell_of_heap bC19.out 3).trans rfl
    have cC4 : w19.cell? ⟨w.heap.size + 1, 4, none⟩ = some _ := (Lib.cell_of_heap bC19.out 4).trans rfl
    have cC5 : w19.cell? ⟨w.heap.size + 1, 5, none⟩ = some _ := (Lib.cell_of_heap bC19.out 5).trans rfl
    have cC6 : w19.cell? ⟨w.heap.size + 1, 6, none⟩ = some _ := (Lib.cell_of_heap bC19.out 6).trans rfl
    have lC := (Array.getElem?_eq_some_iff.1 bC19.out).1
    have cY0 : w19.cell? ⟨w12.heap.size, 0, none⟩ = some _ := (Lib.cell_of_heap bY19.out 0).trans rfl
    have cY1 : w19.cell? ⟨w12.heap.size, 1, none⟩ = some _ := (Lib.cell_of_heap bY19.out 1).trans rfl
    have cY2 : w19.cell? ⟨w12.heap.size, 2, none⟩ = some _ := (Lib.cell_of_heap bY19.out 2).trans rfl
    have cY3 : w19.cell? ⟨w12.heap.size, 3, none⟩ = some _ := (Lib.cell_of_heap bY19.out 3).trans rfl
    have cY4 : w19.cell? ⟨w12.heap.size, 4, none⟩ = some _ := (Lib.cell_of_heap bY19.out 4).trans rfl
    have cY5 : w19.cell? ⟨w12.heap.size, 5, none⟩ = some _ := (Lib.cell_of_heap bY19.out 5).trans rfl
    have cY6 : w19.cell? ⟨w12.heap.size, 6, none⟩ = some _ := (Lib.cell_of_heap bY19.out 6).trans rfl
    have lY := (Array.getElem?_eq_some_iff.1 bY19.out).1
    go_wp2_with fail
    refine (hM).mono ?_
    rintro e w20 ⟨rfl, f20⟩
    have z20 : w19.heap.size ≤ w20.heap.size := f20.size
    clear hM rY19
    have B20 := B19.trans (f20.below (B := w.heap.size) (by first | omega | (simp; omega)) B19.size)
    have bA20 := Lib.hid (bA19.out.mod f20 (by omega))
    have bW20 := Lib.hid (bW19.out.mod f20 (by omega))
    have bX20 := Lib.hid (bX19.out.mod f20 (by omega))
    have bG20 := Lib.hid (bG19.out.mod f20 (by omega))
    have bC20 := Lib.hid (ccMod bC19.out f20 (by omega))
    have bY20 := Lib.hid (ccMod bY19.out f20 (by omega))
    have rW20 := Lib.hid (rW19.out.keep (f20.same (by first | omega | (simp; omega)) (by omega)))
    have rG20 := Lib.hid (rG19.out.keep (f20.same (by first | omega | (simp; omega)) (by omega)))
    clear bA19 bW19 bX19 bG19 bC19 bY19 rW19 rG19 f20
    generalize hK2 : K1 + l.length * 2 = K2 at *
    have hk0 : decide ((K2 : Int) < 0) = false := decide_eq_false (by omega)
    have hE := law_eqSite ⟨a13, t13, p13⟩ ⟨aW, tW, cW0⟩ _ _ R.1 _ _ _ _ _ rG20.out.r rW20.out.r
    simp only [SV.v] at hE
    clear cA lA cW lW cX lX cG lG cC0 cC1 cC2 cC3 cC4 cC5 cC6 lC cY0 cY1 cY2 cY3 cY4 cY5 cY6 lY
    have cA := bA20.out.c
    have lA := bA20.out.lt
    have cW := bW20.out.c
    have lW := bW20.out.lt
    have cX := bX20.out.c
    have lX := bX20.out.lt
    have cG := bG20.out.c
    have lG := bG20.out.lt
    have cC0 : w20.cell? ⟨w.heap.size + 1, 0, none⟩ = some _ := (Lib.cell_of_heap bC20.out 0).trans rfl
    have cC1 : w20.cell? ⟨w.heap.size + 1, 1, none⟩ = some _ := (Lib.cell_of_heap bC20.out 1).trans rfl
    have cC2 : w20.cell? ⟨w.heap.size + 1, 2, none⟩ = some _ := (Lib.cell_of_heap bC20.out 2).trans rfl
    have cC3 : w20.cell? ⟨w.heap.size + 1, 3, none⟩ = some _ := (Lib.cell_of_heap bC20.out 3).trans rfl
    have cC4 : w20.cell? ⟨w.heap.size + 1, 4, none⟩ = some _ := (Lib.cell_of_heap bC20.out 4).trans rfl
    have cC5 : w20.cell? ⟨w.heap.size + 1, 5, none⟩ = some _ := (Lib.cell_of_heap bC20.out 5).trans rfl
    have cC6 : w20.cell? ⟨w.heap.size + 1, 6, none⟩ = some _ := (Lib.cell_of_heap bC20.out 6).trans rfl
    have lC := (Array.getElem?_eq_some_iff.1 bC20.out).1
    have cY0 : w20.cell? ⟨w12.heap.size, 0, none⟩ = some _ := (Lib.cell_of_heap bY20.out 0).trans rfl
    have cY1 : w20.cell? ⟨w12.heap.size, 1, none⟩ = some _ := (Lib.cell_of_heap bY20.out 1).trans rfl
    have cY2 : w20.cell? ⟨w12.heap.size, 2, none⟩ = some _ := (Lib.cell_of_heap bY20.out 2).trans rfl
    have cY3 : w20.cell? ⟨w12.heap.size, 3, none⟩ = some _ := (Lib.cell_of_heap bY20.out 3).trans rfl
    have cY4 : w20.cell? ⟨w12.heap.size, 4, none⟩ = some _ := (Lib.cell_of_heap bY20.out 4).trans rfl
    have cY5 : w20.cell? ⟨w12.heap.size, 5, none⟩ = some _ := (Lib.cell_of_heap bY20.out 5).trans rfl
    have cY6 : w20.cell? ⟨w12.heap.size, 6, none⟩ = some _ := (Lib.cell_of_heap bY20.out 6).trans rfl
    have lY := (Array.getElem?_eq_some_iff.1 bY20.out).1
    go_wp2_with fail
    refine (hE).mono ?_
    rintro e w21 ⟨rfl, f21⟩
    have z21 : w20.heap.size ≤ w21.heap.size := f21.size
    have B21 := B20.trans (f21.mono B20.size)
    have bA21 := Lib.hid (bA20.out.ext f21)
    have bW21 := Lib.hid (bW20.out.ext f21)
    have bX21 := Lib.hid (bX20.out.ext f21)
    have bG21 := Lib.hid (bG20.out.ext f21)
    have bC21 := Lib.hid (blkN_below f21 bC20.out)
    have bY21 := Lib.hid (blkN_below f21 bY20.out)
    have rW21 := Lib.hid (rW20.out.ext (by first | omega | (simp; omega)) f21)
    have rG21 := Lib.hid (rG20.out.ext (by first | omega | (simp; omega)) f21)
    clear bA20 bW20 bX20 bG20 bC20 bY20 rW20 rG20 f21
    clear hE
    have hM := law_markSite ⟨a13, t13, p13⟩ _ R.1 _ _ 1 _ rG21.out (by first | omega | (simp; omega)) (by omega) (by have := htot.out; unfold totC; omega)
    simp only [SV.v] at hM
    clear cA lA cW lW cX lX cG lG cC0 cC1 cC2 cC3 cC4 cC5 cC6 lC cY0 cY1 cY2 cY3 cY4 cY5 cY6 lY
    have cA := bA21.out.c
    have lA := bA21.out.lt
    have cW := bW21.out.c
    have lW := bW21.out.lt
    have cX := bX21.out.c
    have lX := bX21.out.lt
    have cG := bG21.out.c
    have lG := bG21.out.lt
    have cC0 : w21.cell? ⟨w.heap.size + 1, 0, none⟩ = some _ := (Lib.cell_of_heap bC21.out 0).trans rfl
    have cC1 : w21.cell? ⟨w.heap.size + 1, 1, none⟩ = some _ := (Lib.cell_of_heap bC21.out 1).trans rfl
    have cC2 : w21.cell? ⟨w.heap.size + 1, 2, none⟩ = some _ := (Lib.cell_of_heap bC21.out 2).trans rfl
    have cC3 : w21.cell? ⟨w.heap.size + 1, 3, none⟩ = some _ := (Lib.cell_of_heap bC21.out 3).trans rfl
    have cC4 : w21.cell? ⟨w.heap.size + 1, 4, none⟩ = some _ := (Lib.cell_of_heap bC21.out 4).trans rfl
    have cC5 : w21.cell? ⟨w.heap.size + 1, 5, none⟩ = some _ := (Lib.cell_of_heap bC21.out 5).trans rfl
    have cC6 : w21.cell? ⟨w.heap.size + 1, 6, none⟩ = some _ := (Lib.cell_of_heap bC21.out 6).trans rfl
    have lC := (Array.getElem?_eq_some_iff.1 bC21.out).1
    have cY0 : w21.cell? ⟨w12.heap.size, 0, none⟩ = some _ := (Lib.cell_of_heap bY21.out 0).trans rfl
    have cY1 : w21.cell? ⟨w12.heap.size, 1, none⟩ = some _ := (Lib.cell_of_heap bY21.out 1).trans rfl
    have cY2 : w21.cell? ⟨w12.heap.size, 2, none⟩ = some _ := (Lib.cell_of_heap bY21.out 2).trans rfl
    have cY3 : w21.cell? ⟨w12.heap.size, 3, none⟩ = some _ := (Lib.cell_of_heap bY21.out 3).trans rfl
    have cY4 : w21.cell? ⟨w12.heap.size, 4, none⟩ = some _ := (Lib.cell_of_heap bY21.out 4).trans rfl
    have cY5 : w21.cell? ⟨w12.heap.size, 5, none⟩ = some _ := (Lib.cell_of_heap bY21.out 5).trans rfl
    have cY6 : w21.cell? ⟨w12.heap.size, 6, none⟩ = some _ := (Lib.cell_of_heap bY21.out 6).trans rfl
    have lY := (Array.getElem?_eq_some_iff.1 bY21.out).1
    go_wp2_with fail
    refine (hM).mono ?_
    rintro e w22 ⟨_, rfl, qG, f22⟩
    have z22 : w21.heap.size ≤ w22.heap.size := f22.size
    have rG22 := Lib.hid qG
    clear hM qG rG21
    have B22 := B21.trans (f22.below (B := w.heap.size) (by first | omega | (simp; omega)) B21.size)
    have bA22 := Lib.hid (bA21.out.mod f22 (by omega))
    have bW22 := Lib.hid (bW21.out.mod f22 (by omega))
    have bX22 := Lib.hid (bX21.out.mod f22 (by omega))
    have bG22 := Lib.hid (bG21.out.mod f22 (by omega))
    have bC22 := Lib.hid (ccMod bC21.out f22 (by omega))
    have bY22 := Lib.hid (ccMod bY21.out f22 (by omega))
    have rW22 := Lib.hid (rW21.out.keep (f22.same (by first | omega | (simp; omega)) (by omega)))
    clear bA21 bW21 bX21 bG21 bC21 bY21 rW21 f22
    have hkm : totC R.1 ≤ 6291502 := htot.out
    generalize hKm : 1 + totC R.1 = Km at *
    have hm0 : decide ((Km : Int) < 0) = false := decide_eq_false (by omega)
    have hM := law_heldSite ⟨a13, t13, p13⟩ _ R.1 _ _ 1 _ rG22.out.r (by omega) (by omega)
    simp only [SV.v] at hM
    rw [hKm] at hM
    clear cA lA cW lW cX lX cG lG cC0 cC1 cC2 cC3 cC4 cC5 cC6 lC cY0 cY1 cY2 cY3 cY4 cY5 cY6 lY
    have cA := bA22.out.c
    have lA := bA22.out.lt
    have cW := bW22.out.c
    have lW := bW22.out.lt
    have cX := bX22.out.c
    have lX := bX22.out.lt
    have cG := bG22.out.c
    have lG := bG22.out.lt
    have cC0 : w22.cell? ⟨w.heap.size + 1, 0, none⟩ = some _ := (Lib.cell_of_heap bC22.out 0).trans rfl
    have cC1 : w22.cell? ⟨w.heap.size + 1, 1, none⟩ = some _ := (Lib.cell_of_heap bC22.out 1).trans rfl
    have cC2 : w22.cell? ⟨w.heap.size + 1, 2, none⟩ = some _ := (Lib.cell_of_heap bC22.out 2).trans rfl
    have cC3 : w22.cell? ⟨w.heap.size + 1, 3, none⟩ = some _ := (Lib.cell_of_heap bC22.out 3).trans rfl
    have cC4 : w22.cell? ⟨w.heap.size + 1, 4, none⟩ = some _ := (Lib.cell_of_heap bC22.out 4).trans rfl
    have cC5 : w22.cell? ⟨w.heap.size + 1, 5, none⟩ = some _ := (Lib.cell_of_heap bC22.out 5).trans rfl
    have cC6 : w22.cell? ⟨w.heap.size + 1, 6, none⟩ = some _ := (Lib.cell_of_heap bC22.out 6).trans rfl
    have lC := (Array.getElem?_eq_some_iff.1 bC22.out).1
    have cY0 : w22.cell? ⟨w12.heap.size, 0, none⟩ = some _ := (Lib.cell_of_heap bY22.out 0).trans rfl
    have cY1 : w22.cell? ⟨w12.heap.size, 1, none⟩ = some _ := (Lib.cell_of_heap bY22.out 1).trans rfl
    have cY2 : w22.cell? ⟨w12.heap.size, 2, none⟩ = some _ := (Lib.cell_of_heap bY22.out 2).trans rfl
    have cY3 : w22.cell? ⟨w12.heap.size, 3, none⟩ = some _ := (Lib.cell_of_heap bY22.out 3).trans rfl
    have cY4 : w22.cell? ⟨w12.heap.size, 4, none⟩ = some _ := (Lib.cell_of_heap bY22.out 4).trans rfl
    have cY5 : w22.cell? ⟨w12.heap.size, 5, none⟩ = some _ := (Lib.cell_of_heap bY22.out 5).trans rfl
    have cY6 : w22.cell? ⟨w12.heap.size, 6, none⟩ = some _ := (Lib.cell_of_heap bY22.out 6).trans rfl
    have lY := (Array.getElem?_eq_some_iff.1 bY22.out).1
    go_wp2_with fail
    refine (hM).mono ?_
    rintro e w23 ⟨rfl, f23⟩
    have z23 : w22.heap.size ≤ w23.heap.size := f23.size
    have B23 := B22.trans (f23.mono B22.size)
    have bA23 := Lib.hid (bA22.out.ext f23)
    have bW23 := Lib.hid (bW22.out.ext f23)
    have bX23 := Lib.hid (bX22.out.ext f23)
    have bG23 := Lib.hid (bG22.out.ext f23)
    have bC23 := Lib.hid (blkN_below f23 bC22.out)
    have bY23 := Lib.hid (blkN_below f23 bY22.out)
    have rW23 := Lib.hid (rW22.out.ext (by first | omega | (simp; omega)) f23)
    have rG23 := Lib.hid (rG22.out.ext (by first | omega | (simp; omega)) f23)
    clear bA22 bW22 bX22 bG22 bC22 bY22 rW22 rG22 f23
    clear hM
    clear cA lA cW lW cX lX cG lG cC0 cC1 cC2 cC3 cC4 cC5 cC6 lC cY0 cY1 cY2 cY3 cY4 cY5 cY6 lY
    have cA := bA23.out.c
    have lA := bA23.out.lt
    have cW := bW23.out.c
    have lW := bW23.out.lt
    have cX := bX23.out.c
    have lX := bX23.out.lt
    have cG := bG23.out.c
    have lG := bG23.out.lt
    have cC0 : w23.cell? ⟨w.heap.size + 1, 0, none⟩ = some _ := (Lib.cell_of_heap bC23.out 0).trans rfl
    have cC1 : w23.cell? ⟨w.heap.size + 1, 1, none⟩ = some _ := (Lib.cell_of_heap bC23.out 1).trans rfl
    have cC2 : w23.cell? ⟨w.heap.size + 1, 2, none⟩ = some _ := (Lib.cell_of_heap bC23.out 2).trans rfl
    have cC3 : w23.cell? ⟨w.heap.size + 1, 3, none⟩ = some _ := (Lib.cell_of_heap bC23.out 3).trans rfl
    have cC4 : w23.cell? ⟨w.heap.size + 1, 4, none⟩ = some _ := (Lib.cell_of_heap bC23.out 4).trans rfl
    have cC5 : w23.cell? ⟨w.heap.size + 1, 5, none⟩ = some _ := (Lib.cell_of_heap bC23.out 5).trans rfl
    have cC6 : w23.cell? ⟨w.heap.size + 1, 6, none⟩ = some _ := (Lib.cell_of_heap bC23.out 6).trans rfl
    have lC := (Array.getElem?_eq_some_iff.1 bC23.out).1
    have cY0 : w23.cell? ⟨w12.heap.size, 0, none⟩ = some _ := (Lib.cell_of_heap bY23.out 0).trans rfl
    have cY1 : w23.cell? ⟨w12.heap.size, 1, none⟩ = some _ := (Lib.cell_of_heap bY23.out 1).trans rfl
    have cY2 : w23.cell? ⟨w12.heap.size, 2, none⟩ = some _ := (Lib.cell_of_heap bY23.out 2).trans rfl
    have cY3 : w23.cell? ⟨w12.heap.size, 3, none⟩ = some _ := (Lib.cell_of_heap bY23.out 3).trans rfl
    have cY4 : w23.cell? ⟨w12.heap.size, 4, none⟩ = some _ := (Lib.cell_of_heap bY23.out 4).trans rfl
    have cY5 : w23.cell? ⟨w12.heap.size, 5, none⟩ = some _ := (Lib.cell_of_heap bY23.out 5).trans rfl
    have cY6 : w23.cell? ⟨w12.heap.size, 6, none⟩ = some _ := (Lib.cell_of_heap bY23.out 6).trans rfl
    have lY := (Array.getElem?_eq_some_iff.1 bY23.out).1
    go_wp2_with fail
    rename_i Ky hKy
    have key2 : ∀ (v0 v1 v2 v3 v4 v5 v8 v9 v11 v12 v14 v17 v18 v19 v20 v21 v22 v23 v24 v25 v26 v27 v28 v29 v30 v31 v32 v33 v34 v35 v36 v37 v38 v39 v40 v41 v42 v43 v44 v45 v46 v47 v48 v49 v50 v51 v52 v53 v54 v55 v56 v57 v58 v59 v60 v61 v62 v63 v64 v65 v66 v67 v68 v69 v70 v71 v72 v73 v74 v75 v76 v77 v78 v79 v80 v81 v82 v83 v84 v85 v86 v87 v88 v89 v90 v91 v92 v93 v94 v95 v96 v97 v98 v99 v100 v101 v102 v103 v104 v105 v106 v107 v108 v109 v110 v111 v112 v113 v114 v115 v116 v117 v118 : Value) (pH : Nat) (v : SV) (WH : World), Fin w23 R.1 pH v WH → Ky { tmps := #[v0, v1, v2, v3, v4, v5, .pointer (some ⟨pW, 0, none⟩), .int .i64 R.2, v8, v9, .pointer (some ⟨w13.heap.size, 0, none⟩), v11, v12, .int .i64 Km, v14, .pointer (some ⟨pH, 0, none⟩), .int .i64 R.2, v17, v18, v19, v20, v21, v22, v23, v24, v25, v26, v27, v28, v29, v30, v31, v32, v33, v34, v35, v36, v37, v38, v39, v40, v41, v42, v43, v44, v45, v46, v47, v48, v49, v50, v51, v52, v53, v54, v55, v56, v57, v58, v59, v60, v61, v62, v63, v64, v65, v66, v67, v68, v69, v70, v71, v72, v73, v74, v75, v76, v77, v78, v79, v80, v81, v82, v83, v84, v85, v86, v87, v88, v89, v90, v91, v92, v93, v94, v95, v96, v97, v98, v99, v100, v101, v102, v103, v104, v105, v106, v107, v108, v109, v110, v111, v112, v113, v114, v115, v116, v117, v118], defers := [] } WH := by
      intro v0 v1 v2 v3 v4 v5 v8 v9 v11 v12 v14 v17 v18 v19 v20 v21 v22 v23 v24 v25 v26 v27 v28 v29 v30 v31 v32 v33 v34 v35 v36 v37 v38 v39 v40 v41 v42 v43 v44 v45 v46 v47 v48 v49 v50 v51 v52 v53 v54 v55 v56 v57 v58 v59 v60 v61 v62 v63 v64 v65 v66 v67 v68 v69 v70 v71 v72 v73 v74 v75 v76 v77 v78 v79 v80 v81 v82 v83 v84 v85 v86 v87 v88 v89 v90 v91 v92 v93 v94 v95 v96 v97 v98 v99 v100 v101 v102 v103 v104 v105 v106 v107 v108 v109 v110 v111 v112 v113 v114 v115 v116 v117 v118 pH v WH hF
      obtain ⟨aH, tH, cH0⟩ := v
      obtain ⟨hcb, hpl2, ⟨rsH, loH, hiH, hrH, hh1, hh2, hh3, hh4⟩, hbH⟩ := hF
      simp only [SV.v] at hcb hrH
      refine hKy _ _ ?_
      clear hKy
      have zH := hbH.size
      have BH := B23.trans (hbH.mono B23.size)
      have bAH := Lib.hid (bA23.out.ext hbH)
      have bWH := Lib.hid (bW23.out.ext hbH)
      have bXH := Lib.hid (bX23.out.ext hbH)
      have bGH := Lib.hid (bG23.out.ext hbH)
      have bCH := Lib.hid (blkN_below hbH bC23.out)
      have bYH := Lib.hid (blkN_below hbH bY23.out)
      have rWH := Lib.hid (rW23.out.ext (by first | omega | (simp; omega)) hbH)
      have rGH := Lib.hid (rG23.out.ext (by first | omega | (simp; omega)) hbH)
      clear bA23 bW23 bX23 bG23 bC23 bY23 rW23 rG23 hbH
      have bHH := Lib.hid hcb
      have rHH := Lib.hid hrH
      have zq := hcb.lt
      clear hcb hrH
      clear cA lA cW lW cX lX cG lG cC0 cC1 cC2 cC3 cC4 cC5 cC6 lC cY0 cY1 cY2 cY3 cY4 cY5 cY6 lY
      have hE := law_eqSite ⟨aH, tH, cH0⟩ ⟨aW, tW, cW0⟩ _ _ R.1 _ _ _ _ _ rHH.out.r rWH.out.r
      simp only [SV.v] at hE
      have cA := bAH.out.c
      have lA := bAH.out.lt
      have cW := bWH.out.c
      have lW := bWH.out.lt
      have cX := bXH.out.c
      have lX := bXH.out.lt
      have cG := bGH.out.c
      have lG := bGH.out.lt
      have cH := bHH.out.c
      have lH := bHH.out.lt
      have cC0 : WH.cell? ⟨w.heap.size + 1, 0, none⟩ = some _ := (Lib.cell_of_heap bCH.out 0).trans rfl
      have cC1 : WH.cell? ⟨w.heap.size + 1, 1, none⟩ = some _ := (Lib.cell_of_heap bCH.out 1).trans rfl
      have cC2 : WH.cell? ⟨w.heap.size + 1, 2, none⟩ = some _ := (Lib.cell_of_heap bCH.out 2).trans rfl
      have cC3 : WH.cell? ⟨w.heap.size + 1, 3, none⟩ = some _ := (Lib.cell_of_heap bCH.out 3).trans rfl
      have cC4 : WH.cell? ⟨w.heap.size + 1, 4, none⟩ = some _ := (Lib.cell_of_heap bCH.out 4).trans rfl
      have cC5 : WH.cell? ⟨w.heap.size + 1, 5, none⟩ = some _ := (Lib.cell_of_heap bCH.out 5).trans rfl
      have cC6 : WH.cell? ⟨w.heap.size + 1, 6, none⟩ = some _ := (Lib.cell_of_heap bCH.out 6).trans rfl
      have lC := (Array.getElem?_eq_some_iff.1 bCH.out).1
      have cY0 : WH.cell? ⟨w12.heap.size, 0, none⟩ = some _ := (Lib.cell_of_heap bYH.out 0).trans rfl
      have cY1 : WH.cell? ⟨w12.heap.size, 1, none⟩ = some _ := (Lib.cell_of_heap bYH.out 1).trans rfl
      have cY2 : WH.cell? ⟨w12.heap.size, 2, none⟩ = some _ := (Lib.cell_of_heap bYH.out 2).trans rfl
      have cY3 : WH.cell? ⟨w12.heap.size, 3, none⟩ = some _ := (Lib.cell_of_heap bYH.out 3).trans rfl
      have cY4 : WH.cell? ⟨w12.heap.size, 4, none⟩ = some _ := (Lib.cell_of_heap bYH.out 4).trans rfl
      have cY5 : WH.cell? ⟨w12.heap.size, 5, none⟩ = some _ := (Lib.cell_of_heap bYH.out 5).trans rfl
      have cY6 : WH.cell? ⟨w12.heap.size, 6, none⟩ = some _ := (Lib.cell_of_heap bYH.out 6).trans rfl
      have lY := (Array.getElem?_eq_some_iff.1 bYH.out).1
      go_wp2_with fail
      refine (hE).mono ?_
      rintro e w24 ⟨rfl, f24⟩
      have z24 : WH.heap.size ≤ w24.heap.size := f24.size
      have B24 := BH.trans (f24.mono BH.size)
      have bA24 := Lib.hid (bAH.out.ext f24)
      have bW24 := Lib.hid (bWH.out.ext f24)
      have bX24 := Lib.hid (bXH.out.ext f24)
      have bG24 := Lib.hid (bGH.out.ext f24)
      have bH24 := Lib.hid (bHH.out.ext f24)
      have bC24 := Lib.hid (blkN_below f24 bCH.out)
      have bY24 := Lib.hid (blkN_below f24 bYH.out)
      have rW24 := Lib.hid (rWH.out.ext (by first | omega | (simp; omega)) f24)
      have rG24 := Lib.hid (rGH.out.ext (by first | omega | (simp; omega)) f24)
      have rH24 := Lib.hid (rHH.out.ext (by first | omega | (simp; omega)) f24)
      clear bAH bWH bXH bGH bHH bCH bYH rWH rGH rHH f24
      clear hE
      have hM := law_heldSite ⟨a13, t13, p13⟩ _ R.1 _ _ 1 _ rG24.out.r (by omega) (by omega)
      simp only [SV.v] at hM
      rw [hKm] at hM
      clear cA lA cW lW cX lX cG lG cH lH cC0 cC1 cC2 cC3 cC4 cC5 cC6 lC cY0 cY1 cY2 cY3 cY4 cY5 cY6 lY
      have cA := bA24.out.c
      have lA := bA24.out.lt
      have cW := bW24.out.c
      have lW := bW24.out.lt
      have cX := bX24.out.c
      have lX := bX24.out.lt
      have cG := bG24.out.c
      have lG := bG24.out.lt
      have cH := bH24.out.c
      have lH := bH24.out.lt
      have cC0 : w24.cell? ⟨w.heap.size + 1, 0, none⟩ = some _ := (Lib.cell_of_heap bC24.out 0).trans rfl
      have cC1 : w24.cell? ⟨w.heap.size + 1, 1, none⟩ = some _ := (Lib.cell_of_heap bC24.out 1).trans rfl
      have cC2 : w24.cell? ⟨w.heap.size + 1, 2, none⟩ = some _ := (Lib.cell_of_heap bC24.out 2).trans rfl
      have cC3 : w24.cell? ⟨w.heap.size + 1, 3, none⟩ = some _ := (Lib.cell_of_heap bC24.out 3).trans rfl
      have cC4 : w24.cell? ⟨w.heap.size + 1, 4, none⟩ = some _ := (Lib.cell_of_heap bC24.out 4).trans rfl
      have cC5 : w24.cell? ⟨w.heap.size + 1, 5, none⟩ = some _ := (Lib.cell_of_heap bC24.out 5).trans rfl
      have cC6 : w24.cell? ⟨w.heap.size + 1, 6, none⟩ = some _ := (Lib.cell_of_heap bC24.out 6).trans rfl
      have lC := (Array.getElem?_eq_some_iff.1 bC24.out).1
      have cY0 : w24.cell? ⟨w12.heap.size, 0, none⟩ = some _ := (Lib.cell_of_heap bY24.out 0).trans rfl
      have cY1 : w24.cell? ⟨w12.heap.size, 1, none⟩ = some _ := (Lib.cell_of_heap bY24.out 1).trans rfl
      have cY2 : w24.cell? ⟨w12.heap.size, 2, none⟩ = some _ := (Lib.cell_of_heap bY24.out 2).trans rfl
      have cY3 : w24.cell? ⟨w12.heap.size, 3, none⟩ = some _ := (Lib.cell_of_heap bY24.out 3).trans rfl
      have cY4 : w24.cell? ⟨w12.heap.size, 4, none⟩ = some _ := (Lib.cell_of_heap bY24.out 4).trans rfl
      have cY5 : w24.cell? ⟨w12.heap.size, 5, none⟩ = some _ := (Lib.cell_of_heap bY24.out 5).trans rfl
      have cY6 : w24.cell? ⟨w12.heap.size, 6, none⟩ = some _ := (Lib.cell_of_heap bY24.out 6).trans rfl
      have lY := (Array.getElem?_eq_some_iff.1 bY24.out).1
      go_wp2_with fail
      refine (hM).mono ?_
      rintro e w25 ⟨rfl, f25⟩
      have z25 : w24.heap.size ≤ w25.heap.size := f25.size
      have B25 := B24.trans (f25.mono B24.size)
      have bA25 := Lib.hid (bA24.out.ext f25)
      have bW25 := Lib.hid (bW24.out.ext f25)
      have bX25 := Lib.hid (bX24.out.ext f25)
      have bG25 := Lib.hid (bG24.out.ext f25)
      have bH25 := Lib.hid (bH24.out.ext f25)
      have bC25 := Lib.hid (blkN_below f25 bC24.out)
      have bY25 := Lib.hid (blkN_below f25 bY24.out)
      have rW25 := Lib.hid (rW24.out.ext (by first | omega | (simp; omega)) f25)
      have rG25 := Lib.hid (rG24.out.ext (by first | omega | (simp; omega)) f25)
      have rH25 := Lib.hid (rH24.out.ext (by first | omega | (simp; omega)) f25)
      clear bA24 bW24 bX24 bG24 bH24 bC24 bY24 rW24 rG24 rH24 f25
      clear hM
      clear cA lA cW lW cX lX cG lG cH lH cC0 cC1 cC2 cC3 cC4 cC5 cC6 lC cY0 cY1 cY2 cY3 cY4 cY5 cY6 lY
      have cA := bA25.out.c
      have lA := bA25.out.lt
      have cW := bW25.out.c
      have lW := bW25.out.lt
      have cX := bX25.out.c
      have lX := bX25.out.lt
      have cG := bG25.out.c
      have lG := bG25.out.lt
      have cH := bH25.out.c
      have lH := bH25.out.lt
      have cC0 : w25.cell? ⟨w.heap.size + 1, 0, none⟩ = some _ := (Lib.cell_of_heap bC25.out 0).trans rfl
      have cC1 : w25.cell? ⟨w.heap.size + 1, 1, none⟩ = some _ := (Lib.cell_of_heap bC25.out 1).trans rfl
      have cC2 : w25.cell? ⟨w.heap.size + 1, 2, none⟩ = some _ := (Lib.cell_of_heap bC25.out 2).trans rfl
      have cC3 : w25.cell? ⟨w.heap.size + 1, 3, none⟩ = some _ := (Lib.cell_of_heap bC25.out 3).trans rfl
      have cC4 : w25.cell? ⟨w.heap.size + 1, 4, none⟩ = some _ := (Lib.cell_of_heap bC25.out 4).trans rfl
      have cC5 : w25.cell? ⟨w.heap.size + 1, 5, none⟩ = some _ := (Lib.cell_of_heap bC25.out 5).trans rfl
      have cC6 : w25.cell? ⟨w.heap.size + 1, 6, none⟩ = some _ := (Lib.cell_of_heap bC25.out 6).trans rfl
      have lC := (Array.getElem?_eq_some_iff.1 bC25.out).1
      have cY0 : w25.cell? ⟨w12.heap.size, 0, none⟩ = some _ := (Lib.cell_of_heap bY25.out 0).trans rfl
      have cY1 : w25.cell? ⟨w12.heap.size, 1, none⟩ = some _ := (Lib.cell_of_heap bY25.out 1).trans rfl
      have cY2 : w25.cell? ⟨w12.heap.size, 2, none⟩ = some _ := (Lib.cell_of_heap bY25.out 2).trans rfl
      have cY3 : w25.cell? ⟨w12.heap.size, 3, none⟩ = some _ := (Lib.cell_of_heap bY25.out 3).trans rfl
      have cY4 : w25.cell? ⟨w12.heap.size, 4, none⟩ = some _ := (Lib.cell_of_heap bY25.out 4).trans rfl
      have cY5 : w25.cell? ⟨w12.heap.size, 5, none⟩ = some _ := (Lib.cell_of_heap bY25.out 5).trans rfl
      have cY6 : w25.cell? ⟨w12.heap.size, 6, none⟩ = some _ := (Lib.cell_of_heap bY25.out 6).trans rfl
      have lY := (Array.getElem?_eq_some_iff.1 bY25.out).1
      go_wp2
      go_ret
      exact ⟨rfl, B25⟩
    go_region_held3 (fun w' => (∀ b' o', b' < w23.heap.size → w'.cell? ⟨b', o', none⟩ = w23.cell? ⟨b', o', none⟩) ∧ Below w23.heap.size w23 w') (first | (refine heldB ?_; go_grown; done))
      (first
        | (go_at_call 19; refine (hTS.out _ (B23.trans (Below.mono (by go_grown : Below w23.heap.size w23 _) B23.size))).mono ?_; rintro e w53 ⟨⟨a53, t53, p53⟩, rs53, rfl, r53, d53⟩; have b53 : Below w23.heap.size w23 w53 := Below.trans (by go_grown) (d53.mono (by go_size)); have y53 := b53.size; have q53 := (bcell d53).1; have f53 := (bcell d53).2; have hz53_53 := fun (k : Nat) (h : k < _) => Nat.lt_of_lt_of_le h d53.size; have r53 := Lib.hid r53; try simp only [SV.v])
        | (go_at_call 41; refine (hTC.out _ (B23.trans (Below.mono (by go_grown : Below w23.heap.size w23 _) B23.size))).mono ?_; rintro e w54 ⟨⟨a54, t54, p54⟩, rfl, r54, d54⟩; have b54 : Below w23.heap.size w23 w54 := Below.trans (by go_grown) (d54.mono (by go_size)); have y54 := b54.size; have q54 := (bcell d54).1; have f54 := (bcell d54).2; have hz54_54 := fun (k : Nat) (h : k < _) => Nat.lt_of_lt_of_le h d54.size; have m54 : w53.heap.size ≤ w54.heap.size := Nat.le_trans (by go_size) d54.size; have hz54_53 := fun k h => Nat.lt_of_lt_of_le (hz53_53 k h) m54; have x53_54 : Below w53.heap.size w53 w54 := Below.trans (by go_grown) (d54.mono (by go_size)); have r54 := Lib.hid r54; try simp only [SV.v])
        | (go_at_call 25; refine (hIm.out ⟨a53, t53, p53⟩ rs53 _ _ ⟨a54, t54, p54⟩ _ _ _ (r53.out.r.ext (by go_grown)) (r54.out.1.ext (by go_grown))).mono ?_; rintro e w55 ⟨⟨a55, t55, p55⟩, rs55, rfl, r55, d55⟩; have b55 : Below w23.heap.size w23 w55 := Below.trans (by go_grown) (d55.mono (by go_size)); have y55 := b55.size; have q55 := (bcell d55).1; have f55 := (bcell d55).2; have hz55_55 := fun (k : Nat) (h : k < _) => Nat.lt_of_lt_of_le h d55.size; have m55 : w54.heap.size ≤ w55.heap.size := Nat.le_trans (by go_size) d55.size; have hz55_53 := fun k h => Nat.lt_of_lt_of_le (hz54_53 k h) m55; have hz55_54 := fun k h => Nat.lt_of_lt_of_le (hz54_54 k h) m55; have x53_55 : Below w53.heap.size w53 w55 := Below.trans (by go_grown) (d55.mono (by go_size)); have x54_55 : Below w54.heap.size w54 w55 := Below.trans (by go_grown) (d55.mono (by go_size)); have r55 := Lib.hid r55; try simp only [SV.v]))
    all_goals
      (try simp only [Exit.then])
      first
      | exact key2 _ _ _ _ _ _ _ _ _ _ _ _ _ _ _ _ _ _ _ _ _ _ _ _ _ _ _ _ _ _ _ _ _ _ _ _ _ _ _ _ _ _ _ _ _ _ _ _ _ _ _ _ _ _ _ _ _ _ _ _ _ _ _ _ _ _ _ _ _ _ _ _ _ _ _ _ _ _ _ _ _ _ _ _ _ _ _ _ _ _ _ _ _ _ _ _ _ _ _ _ _ _ _ _ _ _ _ _ _ _ _ _ _ _ ⟨a55, t55, p55⟩ _ (Fin.last (by go_grown) r55.out d55)
      | exact key2 _ _ _ _ _ _ _ _ _ _ _ _ _ _ _ _ _ _ _ _ _ _ _ _ _ _ _ _ _ _ _ _ _ _ _ _ _ _ _ _ _ _ _ _ _ _ _ _ _ _ _ _ _ _ _ _ _ _ _ _ _ _ _ _ _ _ _ _ _ _ _ _ _ _ _ _ _ _ _ _ _ _ _ _ _ _ _ _ _ _ _ _ _ _ _ _ _ _ _ _ _ _ _ _ _ _ _ _ _ _ _ _ _ _ ⟨a55, t55, p55⟩ _ (Fin.mid (Cb.new _ _ _) (by first | exact Nat.le_refl _ | omega | (simp; done)) (by go_grown) r55.out d55)
      | exact key2 _ _ _ _ _ _ _ _ _ _ _ _ _ _ _ _ _ _ _ _ _ _ _ _ _ _ _ _ _ _ _ _ _ _ _ _ _ _ _ _ _ _ _ _ _ _ _ _ _ _ _ _ _ _ _ _ _ _ _ _ _ _ _ _ _ _ _ _ _ _ _ _ _ _ _ _ _ _ _ _ _ _ _ _ _ _ _ _ _ _ _ _ _ _ _ _ _ _ _ _ _ _ _ _ _ _ _ _ _ _ _ _ _ _ ⟨a55, t55, p55⟩ _ (Fin.mid ((Cb.new _ _ _).ext d54) (by first | exact Nat.le_refl _ | omega | (simp; done)) (by go_grown) r55.out d55)
      | exact key2 _ _ _ _ _ _ _ _ _ _ _ _ _ _ _ _ _ _ _ _ _ _ _ _ _ _ _ _ _ _ _ _ _ _ _ _ _ _ _ _ _ _ _ _ _ _ _ _ _ _ _ _ _ _ _ _ _ _ _ _ _ _ _ _ _ _ _ _ _ _ _ _ _ _ _ _ _ _ _ _ _ _ _ _ _ _ _ _ _ _ _ _ _ _ _ _ _ _ _ _ _ _ _ _ _ _ _ _ _ _ _ _ _ _ ⟨a55, t55, p55⟩ _ (Fin.mid ((((Cb.new _ _ _).drw).ext d53).ext d54) (by first | exact Nat.le_refl _ | omega | (simp; done)) (by go_grown) r55.out d55)
  go_region_held3 (fun w' => (∀ b' o', b' < w2.heap.size → w'.cell? ⟨b', o', none⟩ = w2.cell? ⟨b', o', none⟩) ∧ Below w2.heap.size w2 w') (first | (refine heldB ?_; go_grown; done))
    (first
      | (go_at_call 19; refine (hTS.out _ (B2.trans (Below.mono (by go_grown : Below w2.heap.size w2 _) B2.size))).mono ?_; rintro e w3 ⟨⟨a3, t3, p3⟩, rs3, rfl, r3, d3⟩; have b3 : Below w2.heap.size w2 w3 := Below.trans (by go_grown) (d3.mono (by go_size)); have y3 := b3.size; have q3 := (bcell d3).1; have f3 := (bcell d3).2; have hz3_3 := fun (k : Nat) (h : k < _) => Nat.lt_of_lt_of_le h d3.size; have r3 := Lib.hid r3; try simp only [SV.v])
      | (go_at_call 41; refine (hTC.out _ (B2.trans (Below.mono (by go_grown : Below w2.heap.size w2 _) B2.size))).mono ?_; rintro e w4 ⟨⟨a4, t4, p4⟩, rfl, r4, d4⟩; have b4 : Below w2.heap.size w2 w4 := Below.trans (by go_grown) (d4.mono (by go_size)); have y4 := b4.size; have q4 := (bcell d4).1; have f4 := (bcell d4).2; have hz4_4 := fun (k : Nat) (h : k < _) => Nat.lt_of_lt_of_le h d4.size; have m4 : w3.heap.size ≤ w4.heap.size := Nat.le_trans (by go_size) d4.size; have hz4_3 := fun k h => Nat.lt_of_lt_of_le (hz3_3 k h) m4; have x3_4 : Below w3.heap.size w3 w4 := Below.trans (by go_grown) (d4.mono (by go_size)); have r4 := Lib.hid r4; try simp only [SV.v])
      | (go_at_call 40; refine (hSp.out ⟨a3, t3, p3⟩ rs3 _ _ ⟨a4, t4, p4⟩ _ _ _ (r3.out.r.ext (by go_grown)) (r4.out.1.ext (by go_grown))).mono ?_; rintro e w5 ⟨⟨a5, t5, p5⟩, rs5, rfl, r5, d5⟩; have b5 : Below w2.heap.size w2 w5 := Below.trans (by go_grown) (d5.mono (by go_size)); have y5 := b5.size; have q5 := (bcell d5).1; have f5 := (bcell d5).2; have hz5_5 := fun (k : Nat) (h : k < _) => Nat.lt_of_lt_of_le h d5.size; have m5 : w4.heap.size ≤ w5.heap.size := Nat.le_trans (by go_size) d5.size; have hz5_3 := fun k h => Nat.lt_of_lt_of_le (hz4_3 k h) m5; have hz5_4 := fun k h => Nat.lt_of_lt_of_le (hz4_4 k h) m5; have x3_5 : Below w3.heap.size w3 w5 := Below.trans (by go_grown) (d5.mono (by go_size)); have x4_5 : Below w4.heap.size w4 w5 := Below.trans (by go_grown) (d5.mono (by go_size)); have r5 := Lib.hid r5; try simp only [SV.v]))
  all_goals
    (try simp only [Exit.then])
    first
      | exact key _ _ _ _ _ _ _ _ _ _ _ _ _ _ _ _ _ _ _ _ _ _ _ _ _ _ _ _ _ _ _ _ _ _ _ _ _ _ _ _ _ _ _ _ _ _ _ _ _ _ _ _ _ _ _ _ _ _ _ _ _ _ _ _ _ _ _ _ _ _ _ _ _ _ _ _ _ _ _ _ _ _ _ _ _ _ _ _ _ _ _ _ _ _ _ _ _ _ _ _ _ _ _ _ _ _ _ _ _ _ _ _ _ _ _ _ ⟨a5, t5, p5⟩ _ (Fin.last (by go_grown) r5.out d5)
      | exact key _ _ _ _ _ _ _ _ _ _ _ _ _ _ _ _ _ _ _ _ _ _ _ _ _ _ _ _ _ _ _ _ _ _ _ _ _ _ _ _ _ _ _ _ _ _ _ _ _ _ _ _ _ _ _ _ _ _ _ _ _ _ _ _ _ _ _ _ _ _ _ _ _ _ _ _ _ _ _ _ _ _ _ _ _ _ _ _ _ _ _ _ _ _ _ _ _ _ _ _ _ _ _ _ _ _ _ _ _ _ _ _ _ _ _ _ ⟨a5, t5, p5⟩ _ (Fin.mid (Cb.new _ _ _) (by first | exact Nat.le_refl _ | omega | (simp; done)) (by go_grown) r5.out d5)
      | exact key _ _ _ _ _ _ _ _ _ _ _ _ _ _ _ _ _ _ _ _ _ _ _ _ _ _ _ _ _ _ _ _ _ _ _ _ _ _ _ _ _ _ _ _ _ _ _ _ _ _ _ _ _ _ _ _ _ _ _ _ _ _ _ _ _ _ _ _ _ _ _ _ _ _ _ _ _ _ _ _ _ _ _ _ _ _ _ _ _ _ _ _ _ _ _ _ _ _ _ _ _ _ _ _ _ _ _ _ _ _ _ _ _ _ _ _ ⟨a5, t5, p5⟩ _ (Fin.mid ((Cb.new _ _ _).ext d4) (by first | exact Nat.le_refl _ | omega | (simp; done)) (by go_grown) r5.out d5)
      | exact key _ _ _ _ _ _ _ _ _ _ _ _ _ _ _ _ _ _ _ _ _ _ _ _ _ _ _ _ _ _ _ _ _ _ _ _ _ _ _ _ _ _ _ _ _ _ _ _ _ _ _ _ _ _ _ _ _ _ _ _ _ _ _ _ _ _ _ _ _ _ _ _ _ _ _ _ _ _ _ _ _ _ _ _ _ _ _ _ _ _ _ _ _ _ _ _ _ _ _ _ _ _ _ _ _ _ _ _ _ _ _ _ _ _ _ _ ⟨a5, t5, p5⟩ _ (Fin.mid ((((Cb.new _ _ _).drw).ext d3).ext d4) (by first | exact Nat.le_refl _ | omega | (simp; done)) (by go_grown) r5.out d5)
end Go.Proofs.Ytgbohbjpdmgneaa
