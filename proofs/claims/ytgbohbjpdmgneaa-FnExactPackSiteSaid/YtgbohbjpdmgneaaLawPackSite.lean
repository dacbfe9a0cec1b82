/- The law FnExactPackSite. -/
import Derived.Test.YtgbohbjpdmgneaaPkJ
import Derived.Test.YtgbohbjpdmgneaaLawS
namespace Go.Proofs.Ytgbohbjpdmgneaa
open Go.RowKit
set_option maxRecDepth 100000 in
set_option maxHeartbeats 8000000 in
theorem law_PackSite {v : Value} (L : SiteL) (w : World) (h : (∃ s : SV, v = .agg #[s.v] ∧ ∃ rs, Cranes 0 w.heap.size w s.v rs L) ∧ L.wf) :
    Calls Try.prog 4 #[v] w fun e w' => e = .returned (.bool true) ∧ Below w.heap.size w w' := by
  obtain ⟨⟨s, rfl, rs, hr⟩, hwf⟩ := h
  have hsz := fun w' (hb : Below w.heap.size w w') => law_szSite s rs L 0 w.heap.size 1048576 w' (hr.ext hb) hwf (by omega) (by omega)
  have hT0 := fun (hn : L.cost ≤ 1048576) w' (hb : Below w.heap.size w w') => law_toSite s rs L 0 w.heap.size w' (hr.ext hb) hn
  have HW := Lib.hid hwf
  clear hr hwf
  obtain ⟨sa, sl, sc⟩ := s
  simp only [SV.v] at *
  have hsz := Lib.hid hsz
  have hT0 := Lib.hid hT0
  have B0 : Below w.heap.size w (w.alloc (.cells #[.slice sa sl sc] 32)) := (Below.refl _ _).alloc (Nat.le_refl _) _
  have x0 := Lib.hid (blkN_new w (.cells #[.slice sa sl sc] 32))
  go_enter Try.func4, Try.ntmps4
  go_wp2_with fail
  refine (hsz.out _ B0).mono ?_
  rintro e w1 ⟨rfl, hb1⟩
  have B1 := B0.trans ((hb1).mono B0.size)
  have x1 := Lib.hid (blkN_below hb1 x0.out)
  have s1 : w1.cell? ⟨w.heap.size, 0, none⟩ = some (.slice sa sl sc) := (Lib.cell_of_heap x1.out 0).trans rfl
  by_cases hq : (1048576 : Int) < (L.cost : Int)
  · rw [szRes_lt hq]
    clear hq
    go_wp2
    go_ret
    exact ⟨rfl, B1⟩
  rw [szRes_ge hq]
  have hT := Lib.hid (hT0.out (by omega))
  have hge : decide ((1048576 : Int) - (L.cost : Int) < 0) = false := decide_eq_false (by omega)
  generalize (L.cost : Int) = nn at *
  clear hq
  go_wp2_with fail
  refine (hT.out _ B1).mono ?_
  rintro e w2 ⟨⟨a2, l2, c2⟩, rs2, rfl, hc2, hb2⟩
  have B2 := B1.trans ((hb2).mono B1.size)
  have x2 := Lib.hid (blkN_below hb2 x1.out)
  have s2 : w2.cell? ⟨w.heap.size, 0, none⟩ = some (.slice sa sl sc) := (Lib.cell_of_heap x2.out 0).trans rfl
  have hS := spec_PackSite ⟨a2, l2, c2⟩ rs2 L _ _ w2 hc2.r HW.out
  simp only [SV.v] at hS ⊢
  have hS := Lib.hid hS
  clear hc2
  go_wp2_with fail
  refine hS.out.mono ?_
  rintro e w3 ⟨rfl, hb3⟩
  have B3 := B2.trans ((hb3).mono B2.size)
  have x3 := Lib.hid (blkN_below hb3 x2.out)
  have s3 : w3.cell? ⟨w.heap.size, 0, none⟩ = some (.slice sa sl sc) := (Lib.cell_of_heap x3.out 0).trans rfl
  go_wp2_with fail
  refine (hT.out _ B3).mono ?_
  rintro e w4 ⟨⟨a4, l4, c4⟩, rs4, rfl, hc4, hb4⟩
  have B4 := B3.trans ((hb4).mono B3.size)
  have x4 := Lib.hid (blkN_below hb4 x3.out)
  have s4 : w4.cell? ⟨w.heap.size, 0, none⟩ = some (.slice sa sl sc) := (Lib.cell_of_heap x4.out 0).trans rfl
  have hI := fun w' (hb : Below w4.heap.size w4 w') => impl_PackSite ⟨a4, l4, c4⟩ rs4 L _ _ w' (hc4.r.ext hb) HW.out
  have hE := fun w' (hb : Below w4.heap.size w4 w') s2 rs2 lo hi w2 => law_eqSite ⟨a4, l4, c4⟩ s2 rs4 rs2 L _ _ lo hi w' (hc4.r.ext hb) w2
  simp only [SV.v] at hI hE ⊢
  have hI := Lib.hid hI
  have hE := Lib.hid hE
  clear hc4 hS
  have b5 : Below w4.heap.size w4 (w4.alloc (.cells #[.slice a4 l4 c4] 37)) := (Below.refl _ _).alloc (Nat.le_refl _) _
  have y5 := Lib.hid (blkN_new w4 (.cells #[.slice a4 l4 c4] 37))
  go_wp2_with fail
  refine (hI.out _ b5).mono ?_
  rintro e w6 ⟨rfl, hb6⟩
  have b6 := b5.trans (hb6.mono b5.size)
  have B6 := B4.trans ((b6).mono B4.size)
  have x6 := Lib.hid (blkN_below b6 x4.out)
  have s6 : w6.cell? ⟨w.heap.size, 0, none⟩ = some (.slice sa sl sc) := (Lib.cell_of_heap x6.out 0).trans rfl
  have y6 := Lib.hid (blkN_below hb6 y5.out)
  have t6 : w6.cell? ⟨w4.heap.size, 0, none⟩ = some (.slice a4 l4 c4) := (Lib.cell_of_heap y6.out 0).trans rfl
  have hs6 := World.block_lt_of_cell? w6 _ s6
  have ht6 := World.block_lt_of_cell? w6 _ t6
  clear hb1 hb2 hb3 hb4 hb6 s1 s2 s3 s4 x0 x1 x2 x3 x4 y5
  go_wp2_with fail
  go_region_held3 (fun w' => (∀ b' o', b' < w6.heap.size → w'.cell? ⟨b', o', none⟩ = w6.cell? ⟨b', o', none⟩) ∧ Below w6.heap.size w6 w') (first | exact heldB (Below.refl _ _).drew | exact heldB b8 | exact heldB b7)
    (first
      | (go_at_call 19; refine (hT.out _ (B6.trans ((Below.refl w6.heap.size w6).drew.mono B6.size))).mono ?_; rintro e w7 ⟨⟨a7, l7, c7⟩, rs7, rfl, hc7, hb7⟩; have b7 : Below w6.heap.size w6 w7 := (Below.refl _ _).drew.trans hb7; have hc7 := Lib.hid hc7; simp only [SV.v])
      | (go_at_call 21; refine (hE.out _ (b6.trans (b7.mono b6.size)) ⟨a7, l7, c7⟩ rs7 _ _ hc7.out.r).mono ?_; rintro e w8 ⟨rfl, hb8⟩; have b8 : Below w6.heap.size w6 w8 := b7.trans (hb8.mono b7.size)))
  go_wp2
  go_ret
  exact ⟨rfl, B6.trans (b8.mono B6.size)⟩
end Go.Proofs.Ytgbohbjpdmgneaa
