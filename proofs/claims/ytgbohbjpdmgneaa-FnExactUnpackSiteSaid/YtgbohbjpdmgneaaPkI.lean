/- PackSite, both packages. -/
import Derived.Test.YtgbohbjpdmgneaaPkS
namespace Go.Proofs.Ytgbohbjpdmgneaa
open Go.RowKit
noncomputable def packS (L : SiteL) : List UInt8 × Int := if siteB L = true then (siteBytes L ++ endB (siteBytes L), 0) else ([], 1)
theorem packS_t {L : SiteL} (h : siteB L = true) : packS L = (siteBytes L ++ endB (siteBytes L), 0) := if_pos h
theorem packS_f {L : SiteL} (h : siteB L = false) : packS L = ([], 1) := if_neg (by simp [h])
set_option maxRecDepth 100000 in
set_option maxHeartbeats 4000000 in
theorem spec_PackSite (s : SV) (rs : List CraneR) (L : SiteL) (lo hi : Nat) (w : World) (h : Cranes lo hi w s.v rs L) (hwf : L.wf) :
    Calls Try.prog 18 #[.agg #[s.v]] w fun e w' => e = .returned (.tuple #[.string ⟨(packS L).1.toArray⟩, .int .i64 (packS L).2]) ∧ Below w.heap.size w w' := by
  have hV := fun w' (hb : Below w.heap.size w w') b0 hc => spec_SiteOk b0 s.v rs L lo hi w' hc (h.ext hb) hwf
  have hP := fun (hok : siteOk L) w' (hb : Below w.heap.size w w') b0 hc => spec_SitePack b0 s.v rs L lo hi w' hc (h.ext hb) hok
  clear h hwf
  obtain ⟨sa, sl, sc⟩ := s
  simp only [SV.v] at *
  have hba : Below w.heap.size w (w.alloc (.cells #[.slice sa sl sc] 37)) := (Below.refl _ _).alloc (Nat.le_refl _) _
  have c0 : (w.alloc (.cells #[.slice sa sl sc] 37)).cell? ⟨w.heap.size, 0, none⟩ = some (.slice sa sl sc) := by rw [Lib.cell_of_heap (blkN_new w _)]; rfl
  cases hs : siteB L
  · rw [packS_f hs]
    rw [hs] at hV
    have hv := Lib.hid (hV _ hba w.heap.size c0)
    clear hV hP hs c0
    go_enter Try.func18, Try.ntmps18
    go_wp2_with fail
    refine hv.out.mono ?_
    rintro e w1 ⟨rfl, hb1⟩
    go_wp2
    go_ret2
    exact ⟨rfl, hba.trans (hb1.mono hba.size)⟩
  · rw [packS_t hs]
    have hp := Lib.hid (hP (siteB_iff.1 hs))
    rw [hs] at hV
    have hv := Lib.hid (hV _ hba w.heap.size c0)
    clear hV hP hs
    go_enter Try.func18, Try.ntmps18
    go_wp2_with fail
    refine hv.out.mono ?_
    rintro e w1 ⟨rfl, hb1⟩
    have c1 := (hb1.cell (p := ⟨w.heap.size, 0, none⟩) (by simp)).trans c0
    have b1 := hba.trans (hb1.mono hba.size)
    go_wp2_with fail
    refine (hp.out w1 b1 w.heap.size c1).mono ?_
    rintro e w2 ⟨rfl, hb2⟩
    go_wp2
    go_ret2
    exact ⟨rfl, b1.trans (hb2.mono b1.size)⟩
end Go.Proofs.Ytgbohbjpdmgneaa
