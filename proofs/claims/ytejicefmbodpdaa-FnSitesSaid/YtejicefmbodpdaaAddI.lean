/- AddCrane, the program. -/
import Derived.Test.YtejicefmbodpdaaAddS
import Derived.Test.YtejicefmbodpdaaCpyI
namespace Go.Proofs.Ytejicefmbodpdaa
open Go.RowKit
set_option maxRecDepth 100000 in
set_option maxHeartbeats 8000000 in
theorem impl_AddCrane (s : SV) (rs : List CraneR) (L : SiteL) (lo hi : Nat) (f : CraneF) (sk : SV) (l : List Chs) (lo2 hi2 : Nat) (w : World) (h : Cranes lo hi w s.v rs L) (hwf : L.wf) (hc : Chss lo2 hi2 w sk.v l) (hfw : f.wf ∧ ∀ y ∈ l, y.wf) :
    Calls Try.prog 7 #[.agg #[s.v], .agg (CraneR.cells ⟨f, sk⟩).toArray] w (SiteRes (added L (f, l)) w) := by
  have hln : ∃ a cap, s = ⟨a, L.length, cap⟩ ∧ L.length ≤ cap ∧ cap ≤ 9223372036854775807 := by obtain ⟨a, cap, hv, hc, _⟩ := h.out; obtain ⟨sa, sl, sc⟩ := s; cases hv; rw [h.len] at hc; exact ⟨sa, sc, by rw [h.len], hc⟩
  obtain ⟨a, cap, rfl, hcp⟩ := hln
  have hbx := Lib.hid (Bx3.new w a L.length cap (CraneR.cells ⟨f, sk⟩))
  obtain ⟨sa2, sl2, sc2⟩ := sk
  have hcs := added_cases L (f, l)
  obtain ⟨x0, x1, x2, x3, x4, x5⟩ := f
  have hK := fun W (hb : Below w.heap.size w W) => impl_CraneOk ⟨x0, x1, x2, x3, x4, x5⟩ ⟨sa2, sl2, sc2⟩ l lo2 hi2 W (hc.ext hb) hfw.1.1
  have hOn := fun (hk : craneOk ⟨x0, x1, x2, x3, x4, x5⟩ l) W (hb : Below w.heap.size w W) => impl_CraneClone ⟨x0, x1, x2, x3, x4, x5⟩ ⟨sa2, sl2, sc2⟩ l lo2 hi2 W (hc.ext hb) (by have := hk.2.2.2.2.2.1.2; omega) (by have := hk.2.2.2.2.2.1.2; omega)
  simp only [CraneR.cells, SV.v] at hbx hc hK hOn ⊢
  dsimp only at hcs
  have hba : Below w.heap.size w (((w.alloc (.cells #[.slice a L.length cap] 26)).alloc (.cells #[.string x0, .int .i64 x1, .int .i64 x2, .int .i64 x3, .int .i64 x4, .int .i64 x5, .slice sa2 sl2 sc2] 35)).alloc (.cells #[.slice none 0 0] 26)) := (((Below.refl _ _).alloc (Nat.le_refl _) _).alloc (by simp) _).alloc (by simp; omega) _
  have hV := impl_SiteOk ⟨a, L.length, cap⟩ rs L lo hi _ (h.ext hba) hwf
  have hNm := fun W (hb : Below w.heap.size w W) => impl_Named ⟨a, L.length, cap⟩ rs L lo hi x0 W (h.ext hb)
  have hCp := fun (hs : siteOk L) W (hb : Below w.heap.size w W) => impl_SiteClone ⟨a, L.length, cap⟩ rs L lo hi W (h.ext hb) hs
  have hNr := Lib.hid (fun (hs : siteOk L) (hk : craneOk ⟨x0, x1, x2, x3, x4, x5⟩ l) W (hb : Below w.heap.size w W) (hq : W.cell? ⟨w.heap.size + 1, 1, none⟩ = some (.int .i64 x1)) (hq' : W.cell? ⟨w.heap.size + 1, 2, none⟩ = some (.int .i64 x2)) => impl_NearAny (.slice a L.length cap) rs L lo hi (w.heap.size + 1) ⟨x0, x1, x2, x3, x4, x5⟩ W (h.ext hb) (fun i hi => (hs.1 i hi).1.2.1) hk.2.1 hq hq')
  simp only [SV.v] at hV hNm hCp ⊢
  have hV := Lib.hid hV
  have hK := Lib.hid hK
  have hOn := Lib.hid hOn
  have hNm := Lib.hid hNm
  have hCp := Lib.hid hCp
  have hL := hcp.1
  clear h hc hwf hfw
  rcases hcs with ⟨h1, h0⟩ | ⟨h1, h2, h0⟩ | ⟨h1, h2, h3, h0⟩ | ⟨h1, h2, h3, h4, h0⟩ | ⟨h1, h2, h3, h4, h5, h0⟩ | ⟨h1, h2, h3, h4, h5, h0⟩
  · rw [h0]
    rw [h1] at hV
    clear h0 h1 hK hNm hCp hOn hNr
    go_enter Try.func7, Try.ntmps7
    go_wp2_with fail
    refine hV.out.mono ?_
    rintro e w1 ⟨rfl, hb1⟩
    have q1 := (hbx.out.ext hb1).r.c
    have f1 := (hbx.out.ext hb1).r.f
    have B1 := hba.trans (hb1.mono hba.size)
    go_wp2
    exact bodyPost_ret (v := .tuple #[.agg #[.slice none 0 0], .int .i64 1]) (by simp [results, Try.results7, go_sem, q1]) rfl ⟨⟨none, 0, 0⟩, [], rfl, nsw_nil, B1.setCell (p := ⟨w.heap.size + 2, 0, none⟩) (show w.heap.size ≤ w.heap.size + 2 by omega) _⟩
  · rw [h0]
    rw [h1] at hV
    clear h0 h1 hNm hCp hOn hNr
    go_enter Try.func7, Try.ntmps7
    go_wp2_with fail
    refine hV.out.mono ?_
    rintro e w1 ⟨rfl, hb1⟩
    have hx1 := Lib.hid (hbx.out.ext hb1)
    have B1 := hba.trans (hb1.mono hba.size)
    have s1 := hx1.out.s.c
    have k0 : w1.cell? ⟨w.heap.size + 1, 0, none⟩ = some (.string x0) := (Lib.cell_of_heap hx1.out.c 0).trans rfl
    have k1 : w1.cell? ⟨w.heap.size + 1, 1, none⟩ = some (.int .i64 x1) := (Lib.cell_of_heap hx1.out.c 1).trans rfl
    have k2 : w1.cell? ⟨w.heap.size + 1, 2, none⟩ = some (.int .i64 x2) := (Lib.cell_of_heap hx1.out.c 2).trans rfl
    have k3 : w1.cell? ⟨w.heap.size + 1, 3, none⟩ = some (.int .i64 x3) := (Lib.cell_of_heap hx1.out.c 3).trans rfl
    have k4 : w1.cell? ⟨w.heap.size + 1, 4, none⟩ = some (.int .i64 x4) := (Lib.cell_of_heap hx1.out.c 4).trans rfl
    have k5 : w1.cell? ⟨w.heap.size + 1, 5, none⟩ = some (.int .i64 x5) := (Lib.cell_of_heap hx1.out.c 5).trans rfl
    have k6 : w1.cell? ⟨w.heap.size + 1, 6, none⟩ = some (.slice sa2 sl2 sc2) := (Lib.cell_of_heap hx1.out.c 6).trans rfl
    go_wp2_with fail
    have hk := hK.out w1 B1
    rw [h2] at hk
    refine hk.mono ?_
    clear hk
    rintro e w2 ⟨rfl, hb2⟩
    have hx2 := Lib.hid (hx1.out.ext hb2)
    have B2 := B1.trans (hb2.mono B1.size)
    clear hb1 hb2 hx1 B1 s1 k0 k1 k2 k3 k4 k5 k6
    have q1 := hx2.out.r.c
    have f1 := hx2.out.r.f
    have B1 := B2
    go_wp2
    exact bodyPost_ret (v := .tuple #[.agg #[.slice none 0 0], .int .i64 1]) (by simp [results, Try.results7, go_sem, q1]) rfl ⟨⟨none, 0, 0⟩, [], rfl, nsw_nil, B1.setCell (p := ⟨w.heap.size + 2, 0, none⟩) (show w.heap.size ≤ w.heap.size + 2 by omega) _⟩
  · rw [h0]
    rw [h1] at hV
    clear h0 h1 hCp hOn hNr
    go_enter Try.func7, Try.ntmps7
    go_wp2_with fail
    refine hV.out.mono ?_
    rintro e w1 ⟨rfl, hb1⟩
    have hx1 := Lib.hid (hbx.out.ext hb1)
    have B1 := hba.trans (hb1.mono hba.size)
    have s1 := hx1.out.s.c
    have k0 : w1.cell? ⟨w.heap.size + 1, 0, none⟩ = some (.string x0) := (Lib.cell_of_heap hx1.out.c 0).trans rfl
    have k1 : w1.cell? ⟨w.heap.size + 1, 1, none⟩ = some (.int .i64 x1) := (Lib.cell_of_heap hx1.out.c 1).trans rfl
    have k2 : w1.cell? ⟨w.heap.size + 1, 2, none⟩ = some (.int .i64 x2) := (Lib.cell_of_heap hx1.out.c 2).trans rfl
    have k3 : w1.cell? ⟨w.heap.size + 1, 3, none⟩ = some (.int .i64 x3) := (Lib.cell_of_heap hx1.out.c 3).trans rfl
    have k4 : w1.cell? ⟨w.heap.size + 1, 4, none⟩ = some (.int .i64 x4) := (Lib.cell_of_heap hx1.out.c 4).trans rfl
    have k5 : w1.cell? ⟨w.heap.size + 1, 5, none⟩ = some (.int .i64 x5) := (Lib.cell_of_heap hx1.out.c 5).trans rfl
    have k6 : w1.cell? ⟨w.heap.size + 1, 6, none⟩ = some (.slice sa2 sl2 sc2) := (Lib.cell_of_heap hx1.out.c 6).trans rfl
    go_wp2_with fail
    have hk := hK.out w1 B1
    rw [h2] at hk
    refine hk.mono ?_
    clear hk
    rintro e w2 ⟨rfl, hb2⟩
    have hx2 := Lib.hid (hx1.out.ext hb2)
    have B2 := B1.trans (hb2.mono B1.size)
    clear hb1 hb2 hx1 B1 s1 k0 k1 k2 k3 k4 k5 k6
    have s1 := hx2.out.s.c
    have k0 : w2.cell? ⟨w.heap.size + 1, 0, none⟩ = some (.string x0) := (Lib.cell_of_heap hx2.out.c 0).trans rfl
    have k1 : w2.cell? ⟨w.heap.size + 1, 1, none⟩ = some (.int .i64 x1) := (Lib.cell_of_heap hx2.out.c 1).trans rfl
    have k2 : w2.cell? ⟨w.heap.size + 1, 2, none⟩ = some (.int .i64 x2) := (Lib.cell_of_heap hx2.out.c 2).trans rfl
    have k3 : w2.cell? ⟨w.heap.size + 1, 3, none⟩ = some (.int .i64 x3) := (Lib.cell_of_heap hx2.out.c 3).trans rfl
    have k4 : w2.cell? ⟨w.heap.size + 1, 4, none⟩ = some (.int .i64 x4) := (Lib.cell_of_heap hx2.out.c 4).trans rfl
    have k5 : w2.cell? ⟨w.heap.size + 1, 5, none⟩ = some (.int .i64 x5) := (Lib.cell_of_heap hx2.out.c 5).trans rfl
    have k6 : w2.cell? ⟨w.heap.size + 1, 6, none⟩ = some (.slice sa2 sl2 sc2) := (Lib.cell_of_heap hx2.out.c 6).trans rfl
    have hn2 := Lib.hid (hNm.out w2 B2)
    go_wp2_with fail
    refine hn2.out.mono ?_
    rintro e w3 ⟨⟨r, rfl, hr⟩, hb3⟩
    have hx3 := Lib.hid (hx2.out.ext hb3)
    have B3 := B2.trans (hb3.mono B2.size)
    clear hn2 hb3 hx2 B2 s1 k0 k1 k2 k3 k4 k5 k6
    have hr0 : decide (0 ≤ r) = true := by rcases hr with ⟨_, h⟩ | ⟨h, _⟩; exact h; exact absurd h3 h
    clear hr h3
    have q1 := hx3.out.r.c
    have f1 := hx3.out.r.f
    have B1 := B3
    go_wp2
    exact bodyPost_ret (v := .tuple #[.agg #[.slice none 0 0], .int .i64 4]) (by simp [results, Try.results7, go_sem, q1]) rfl ⟨⟨none, 0, 0⟩, [], rfl, nsw_nil, B1.setCell (p := ⟨w.heap.size + 2, 0, none⟩) (show w.heap.size ≤ w.heap.size + 2 by omega) _⟩
  · rw [h0]
    rw [h1] at hV
    clear h0 h1 hCp hOn hNr
    go_enter Try.func7, Try.ntmps7
    go_wp2_with fail
    refine hV.out.mono ?_
    rintro e w1 ⟨rfl, hb1⟩
    have hx1 := Lib.hid (hbx.out.ext hb1)
    have B1 := hba.trans (hb1.mono hba.size)
    have s1 := hx1.out.s.c
    have k0 : w1.cell? ⟨w.heap.size + 1, 0, none⟩ = some (.string x0) := (Lib.cell_of_heap hx1.out.c 0).trans rfl
    have k1 : w1.cell? ⟨w.heap.size + 1, 1, none⟩ = some (.int .i64 x1) := (Lib.cell_of_heap hx1.out.c 1).trans rfl
    have k2 : w1.cell? ⟨w.heap.size + 1, 2, none⟩ = some (.int .i64 x2) := (Lib.cell_of_heap hx1.out.c 2).trans rfl
    have k3 : w1.cell? ⟨w.heap.size + 1, 3, none⟩ = some (.int .i64 x3) := (Lib.cell_of_heap hx1.out.c 3).trans rfl
    have k4 : w1.cell? ⟨w.heap.size + 1, 4, none⟩ = some (.int .i64 x4) := (Lib.cell_of_heap hx1.out.c 4).trans rfl
    have k5 : w1.cell? ⟨w.heap.size + 1, 5, none⟩ = some (.int .i64 x5) := (Lib.cell_of_heap hx1.out.c 5).trans rfl
    have k6 : w1.cell? ⟨w.heap.size + 1, 6, none⟩ = some (.slice sa2 sl2 sc2) := (Lib.cell_of_heap hx1.out.c 6).trans rfl
    go_wp2_with fail
    have hk := hK.out w1 B1
    rw [h2] at hk
    refine hk.mono ?_
    clear hk
    rintro e w2 ⟨rfl, hb2⟩
    have hx2 := Lib.hid (hx1.out.ext hb2)
    have B2 := B1.trans (hb2.mono B1.size)
    clear hb1 hb2 hx1 B1 s1 k0 k1 k2 k3 k4 k5 k6
    have s1 := hx2.out.s.c
    have k0 : w2.cell? ⟨w.heap.size + 1, 0, none⟩ = some (.string x0) := (Lib.cell_of_heap hx2.out.c 0).trans rfl
    have k1 : w2.cell? ⟨w.heap.size + 1, 1, none⟩ = some (.int .i64 x1) := (Lib.cell_of_heap hx2.out.c 1).trans rfl
    have k2 : w2.cell? ⟨w.heap.size + 1, 2, none⟩ = some (.int .i64 x2) := (Lib.cell_of_heap hx2.out.c 2).trans rfl
    have k3 : w2.cell? ⟨w.heap.size + 1, 3, none⟩ = some (.int .i64 x3) := (Lib.cell_of_heap hx2.out.c 3).trans rfl
    have k4 : w2.cell? ⟨w.heap.size + 1, 4, none⟩ = some (.int .i64 x4) := (Lib.cell_of_heap hx2.out.c 4).trans rfl
    have k5 : w2.cell? ⟨w.heap.size + 1, 5, none⟩ = some (.int .i64 x5) := (Lib.cell_of_heap hx2.out.c 5).trans rfl
    have k6 : w2.cell? ⟨w.heap.size + 1, 6, none⟩ = some (.slice sa2 sl2 sc2) := (Lib.cell_of_heap hx2.out.c 6).trans rfl
    have hn2 := Lib.hid (hNm.out w2 B2)
    go_wp2_with fail
    refine hn2.out.mono ?_
    rintro e w3 ⟨⟨r, rfl, hr⟩, hb3⟩
    have hx3 := Lib.hid (hx2.out.ext hb3)
    have B3 := B2.trans (hb3.mono B2.size)
    clear hn2 hb3 hx2 B2 s1 k0 k1 k2 k3 k4 k5 k6
    have hr0 : decide (0 ≤ r) = false := by rcases hr with ⟨h, _⟩ | ⟨_, h⟩; exact absurd h h3; exact h
    clear hr h3
    have q1 := hx3.out.r.c
    have f1 := hx3.out.r.f
    have s1 := hx3.out.s.c
    have B1 := B3
    have hl6 : decide ((6 : Int) ≤ (L.length : Int)) = true := decide_eq_true (by omega)
    go_wp2
    exact bodyPost_ret (v := .tuple #[.agg #[.slice none 0 0], .int .i64 5]) (by simp [results, Try.results7, go_sem, q1]) rfl ⟨⟨none, 0, 0⟩, [], rfl, nsw_nil, B1.setCell (p := ⟨w.heap.size + 2, 0, none⟩) (show w.heap.size ≤ w.heap.size + 2 by omega) _⟩
  · rw [h0]
    rw [h1] at hV
    have hNr := Lib.hid (hNr.out (siteB_iff.1 h1) (craneB_iff.1 h2))
    clear h0 h1 hCp hOn
    go_enter Try.func7, Try.ntmps7
    go_wp2_with fail
    refine hV.out.mono ?_
    rintro e w1 ⟨rfl, hb1⟩
    have hx1 := Lib.hid (hbx.out.ext hb1)
    have B1 := hba.trans (hb1.mono hba.size)
    have s1 := hx1.out.s.c
    have k0 : w1.cell? ⟨w.heap.size + 1, 0, none⟩ = some (.string x0) := (Lib.cell_of_heap hx1.out.c 0).trans rfl
    have k1 : w1.cell? ⟨w.heap.size + 1, 1, none⟩ = some (.int .i64 x1) := (Lib.cell_of_heap hx1.out.c 1).trans rfl
    have k2 : w1.cell? ⟨w.heap.size + 1, 2, none⟩ = some (.int .i64 x2) := (Lib.cell_of_heap hx1.out.c 2).trans rfl
    have k3 : w1.cell? ⟨w.heap.size + 1, 3, none⟩ = some (.int .i64 x3) := (Lib.cell_of_heap hx1.out.c 3).trans rfl
    have k4 : w1.cell? ⟨w.heap.size + 1, 4, none⟩ = some (.int .i64 x4) := (Lib.cell_of_heap hx1.out.c 4).trans rfl
    have k5 : w1.cell? ⟨w.heap.size + 1, 5, none⟩ = some (.int .i64 x5) := (Lib.cell_of_heap hx1.out.c 5).trans rfl
    have k6 : w1.cell? ⟨w.heap.size + 1, 6, none⟩ = some (.slice sa2 sl2 sc2) := (Lib.cell_of_heap hx1.out.c 6).trans rfl
    go_wp2_with fail
    have hk := hK.out w1 B1
    rw [h2] at hk
    refine hk.mono ?_
    clear hk
    rintro e w2 ⟨rfl, hb2⟩
    have hx2 := Lib.hid (hx1.out.ext hb2)
    have B2 := B1.trans (hb2.mono B1.size)
    clear hb1 hb2 hx1 B1 s1 k0 k1 k2 k3 k4 k5 k6
    have s1 := hx2.out.s.c
    have k0 : w2.cell? ⟨w.heap.size + 1, 0, none⟩ = some (.string x0) := (Lib.cell_of_heap hx2.out.c 0).trans rfl
    have k1 : w2.cell? ⟨w.heap.size + 1, 1, none⟩ = some (.int .i64 x1) := (Lib.cell_of_heap hx2.out.c 1).trans rfl
    have k2 : w2.cell? ⟨w.heap.size + 1, 2, none⟩ = some (.int .i64 x2) := (Lib.cell_of_heap hx2.out.c 2).trans rfl
    have k3 : w2.cell? ⟨w.heap.size + 1, 3, none⟩ = some (.int .i64 x3) := (Lib.cell_of_heap hx2.out.c 3).trans rfl
    have k4 : w2.cell? ⟨w.heap.size + 1, 4, none⟩ = some (.int .i64 x4) := (Lib.cell_of_heap hx2.out.c 4).trans rfl
    have k5 : w2.cell? ⟨w.heap.size + 1, 5, none⟩ = some (.int .i64 x5) := (Lib.cell_of_heap hx2.out.c 5).trans rfl
    have k6 : w2.cell? ⟨w.heap.size + 1, 6, none⟩ = some (.slice sa2 sl2 sc2) := (Lib.cell_of_heap hx2.out.c 6).trans rfl
    have hn2 := Lib.hid (hNm.out w2 B2)
    go_wp2_with fail
    refine hn2.out.mono ?_
    rintro e w3 ⟨⟨r, rfl, hr⟩, hb3⟩
    have hx3 := Lib.hid (hx2.out.ext hb3)
    have B3 := B2.trans (hb3.mono B2.size)
    clear hn2 hb3 hx2 B2 s1 k0 k1 k2 k3 k4 k5 k6
    have hr0 : decide (0 ≤ r) = false := by rcases hr with ⟨h, _⟩ | ⟨_, h⟩; exact absurd h h3; exact h
    clear hr h3
    have s1 := hx3.out.s.c
    have k0 : w3.cell? ⟨w.heap.size + 1, 0, none⟩ = some (.string x0) := (Lib.cell_of_heap hx3.out.c 0).trans rfl
    have k1 : w3.cell? ⟨w.heap.size + 1, 1, none⟩ = some (.int .i64 x1) := (Lib.cell_of_heap hx3.out.c 1).trans rfl
    have k2 : w3.cell? ⟨w.heap.size + 1, 2, none⟩ = some (.int .i64 x2) := (Lib.cell_of_heap hx3.out.c 2).trans rfl
    have k3 : w3.cell? ⟨w.heap.size + 1, 3, none⟩ = some (.int .i64 x3) := (Lib.cell_of_heap hx3.out.c 3).trans rfl
    have k4 : w3.cell? ⟨w.heap.size + 1, 4, none⟩ = some (.int .i64 x4) := (Lib.cell_of_heap hx3.out.c 4).trans rfl
    have k5 : w3.cell? ⟨w.heap.size + 1, 5, none⟩ = some (.int .i64 x5) := (Lib.cell_of_heap hx3.out.c 5).trans rfl
    have k6 : w3.cell? ⟨w.heap.size + 1, 6, none⟩ = some (.slice sa2 sl2 sc2) := (Lib.cell_of_heap hx3.out.c 6).trans rfl
    have hl6 : decide ((6 : Int) ≤ (L.length : Int)) = false := decide_eq_false (by omega)
    go_wp2_with fail
    refine (hNr.out w3 B3 k1 k2).mono ?_
    rintro e w4 ⟨⟨hn, rfl⟩ | ⟨hn, rfl⟩, hb4⟩
    · clear hn h5
      have q1 := (hx3.out.ext hb4).r.c
      have f1 := (hx3.out.ext hb4).r.f
      have B1 := B3.trans (hb4.mono B3.size)
      clear s1 k0 k1 k2 k3 k4 k5 k6
      go_wp2
      exact bodyPost_ret (v := .tuple #[.agg #[.slice none 0 0], .int .i64 9]) (by simp [results, Try.results7, go_sem, q1]) rfl ⟨⟨none, 0, 0⟩, [], rfl, nsw_nil, B1.setCell (p := ⟨w.heap.size + 2, 0, none⟩) (show w.heap.size ≤ w.heap.size + 2 by omega) _⟩
    · exact absurd h5 hn
  · rw [h0]
    rw [h1] at hV
    have hNr := Lib.hid (hNr.out (siteB_iff.1 h1) (craneB_iff.1 h2))
    have hCp := Lib.hid (hCp.out (siteB_iff.1 h1))
    have hOn := Lib.hid (hOn.out (craneB_iff.1 h2))
    clear h0 h1
    go_enter Try.func7, Try.ntmps7
    go_wp2_with fail
    refine hV.out.mono ?_
    rintro e w1 ⟨rfl, hb1⟩
    have hx1 := Lib.hid (hbx.out.ext hb1)
    have B1 := hba.trans (hb1.mono hba.size)
    have s1 := hx1.out.s.c
    have k0 : w1.cell? ⟨w.heap.size + 1, 0, none⟩ = some (.string x0) := (Lib.cell_of_heap hx1.out.c 0).trans rfl
    have k1 : w1.cell? ⟨w.heap.size + 1, 1, none⟩ = some (.int .i64 x1) := (Lib.cell_of_heap hx1.out.c 1).trans rfl
    have k2 : w1.cell? ⟨w.heap.size + 1, 2, none⟩ = some (.int .i64 x2) := (Lib.cell_of_heap hx1.out.c 2).trans rfl
    have k3 : w1.cell? ⟨w.heap.size + 1, 3, none⟩ = some (.int .i64 x3) := (Lib.cell_of_heap hx1.out.c 3).trans rfl
    have k4 : w1.cell? ⟨w.heap.size + 1, 4, none⟩ = some (.int .i64 x4) := (Lib.cell_of_heap hx1.out.c 4).trans rfl
    have k5 : w1.cell? ⟨w.heap.size + 1, 5, none⟩ = some (.int .i64 x5) := (Lib.cell_of_heap hx1.out.c 5).trans rfl
    have k6 : w1.cell? ⟨w.heap.size + 1, 6, none⟩ = some (.slice sa2 sl2 sc2) := (Lib.cell_of_heap hx1.out.c 6).trans rfl
    go_wp2_with fail
    have hk := hK.out w1 B1
    rw [h2] at hk
    refine hk.mono ?_
    clear hk
    rintro e w2 ⟨rfl, hb2⟩
    have hx2 := Lib.hid (hx1.out.ext hb2)
    have B2 := B1.trans (hb2.mono B1.size)
    clear hb1 hb2 hx1 B1 s1 k0 k1 k2 k3 k4 k5 k6
    have s1 := hx2.out.s.c
    have k0 : w2.cell? ⟨w.heap.size + 1, 0, none⟩ = some (.string x0) := (Lib.cell_of_heap hx2.out.c 0).trans rfl
    have k1 : w2.cell? ⟨w.heap.size + 1, 1, none⟩ = some (.int .i64 x1) := (Lib.cell_of_heap hx2.out.c 1).trans rfl
    have k2 : w2.cell? ⟨w.heap.size + 1, 2, none⟩ = some (.int .i64 x2) := (Lib.cell_of_heap hx2.out.c 2).trans rfl
    have k3 : w2.cell? ⟨w.heap.size + 1, 3, none⟩ = some (.int .i64 x3) := (Lib.cell_of_heap hx2.out.c 3).trans rfl
    have k4 : w2.cell? ⟨w.heap.size + 1, 4, none⟩ = some (.int .i64 x4) := (Lib.cell_of_heap hx2.out.c 4).trans rfl
    have k5 : w2.cell? ⟨w.heap.size + 1, 5, none⟩ = some (.int .i64 x5) := (Lib.cell_of_heap hx2.out.c 5).trans rfl
    have k6 : w2.cell? ⟨w.heap.size + 1, 6, none⟩ = some (.slice sa2 sl2 sc2) := (Lib.cell_of_heap hx2.out.c 6).trans rfl
    have hn2 := Lib.hid (hNm.out w2 B2)
    go_wp2_with fail
    refine hn2.out.mono ?_
    rintro e w3 ⟨⟨r, rfl, hr⟩, hb3⟩
    have hx3 := Lib.hid (hx2.out.ext hb3)
    have B3 := B2.trans (hb3.mono B2.size)
    clear hn2 hb3 hx2 B2 s1 k0 k1 k2 k3 k4 k5 k6
    have hr0 : decide (0 ≤ r) = false := by rcases hr with ⟨h, _⟩ | ⟨_, h⟩; exact absurd h h3; exact h
    clear hr h3
    have s1 := hx3.out.s.c
    have k0 : w3.cell? ⟨w.heap.size + 1, 0, none⟩ = some (.string x0) := (Lib.cell_of_heap hx3.out.c 0).trans rfl
    have k1 : w3.cell? ⟨w.heap.size + 1, 1, none⟩ = some (.int .i64 x1) := (Lib.cell_of_heap hx3.out.c 1).trans rfl
    have k2 : w3.cell? ⟨w.heap.size + 1, 2, none⟩ = some (.int .i64 x2) := (Lib.cell_of_heap hx3.out.c 2).trans rfl
    have k3 : w3.cell? ⟨w.heap.size + 1, 3, none⟩ = some (.int .i64 x3) := (Lib.cell_of_heap hx3.out.c 3).trans rfl
    have k4 : w3.cell? ⟨w.heap.size + 1, 4, none⟩ = some (.int .i64 x4) := (Lib.cell_of_heap hx3.out.c 4).trans rfl
    have k5 : w3.cell? ⟨w.heap.size + 1, 5, none⟩ = some (.int .i64 x5) := (Lib.cell_of_heap hx3.out.c 5).trans rfl
    have k6 : w3.cell? ⟨w.heap.size + 1, 6, none⟩ = some (.slice sa2 sl2 sc2) := (Lib.cell_of_heap hx3.out.c 6).trans rfl
    have hl6 : decide ((6 : Int) ≤ (L.length : Int)) = false := decide_eq_false (by omega)
    go_wp2_with fail
    have hNn : Hid (Calls Try.prog 23 #[.slice a L.length cap, .func (.func 24) #[] #[.pointer (some ⟨w.heap.size + 1, 0, none⟩)]] w3 fun e w' => e = .returned (.bool false) ∧ Below w3.heap.size w3 w') := Lib.hid ((hNr.out w3 B3 k1 k2).mono fun e w' ⟨h, hb⟩ => ⟨h.elim (fun h => absurd h.1 h5) (fun h => h.2), hb⟩)
    refine hNn.out.mono ?_
    rintro e w4 ⟨rfl, hb4⟩
    have hx4 := Lib.hid (hx3.out.ext hb4)
    have B4 := B3.trans (hb4.mono B3.size)
    clear hNn hNr h5 hb4 hx3 B3 s1 k0 k1 k2 k3 k4 k5 k6
    have s1 := hx4.out.s.c
    have hw4 := hx4.out.lt
    go_wp2_with fail
    refine (hCp.out w4 B4).mono ?_
    rintro e w5 ⟨⟨ta, tl, tc⟩, rk, rfl, hO, hb5⟩
    simp only [SV.v] at hO ⊢
    have hx5 := hx4.out.ext hb5
    have B5 := B4.trans (hb5.mono B4.size)
    have hal : Below w5.heap.size w5 (w5.alloc (.cells #[.slice ta tl tc] 26)) := (Below.refl _ _).alloc (Nat.le_refl _) _
    have hO5 := Lib.hid (hO.below hal)
    have hx6 := Lib.hid (hx5.ext hal)
    have hy6 := Lib.hid (blkN_new w5 (.cells #[.slice ta tl tc] 26))
    have B6 := B5.trans (hal.mono B5.size)
    have hw5 := hb5.size
    have d6 : (w5.alloc (.cells #[.slice ta tl tc] 26)).drew.cell? ⟨w5.heap.size, 0, none⟩ = some (.slice ta tl tc) := (Lib.cell_of_heap hy6.out 0).trans rfl
    have hrl : rk.length ≤ 6 := by rw [hO.len]; omega
    have z6 : (w5.alloc (.cells #[.slice ta tl tc] 26)).heap.size = w5.heap.size + 1 := by simp
    have hx6d := hx6.out.ext ((Below.refl (w5.alloc (.cells #[.slice ta tl tc] 26)).heap.size _).drew)
    clear hO hb5 hx5 hal s1 hx4 B5
    go_wp2_with fail
    refine region_ph 5 (fun w' => w'.cell? ⟨w.heap.size + 1, 0, none⟩ = some (.string x0) ∧ w'.cell? ⟨w.heap.size + 1, 1, none⟩ = some (.int .i64 x1) ∧ w'.cell? ⟨w.heap.size + 1, 2, none⟩ = some (.int .i64 x2) ∧ w'.cell? ⟨w.heap.size + 1, 3, none⟩ = some (.int .i64 x3) ∧ w'.cell? ⟨w.heap.size + 1, 4, none⟩ = some (.int .i64 x4) ∧ w'.cell? ⟨w.heap.size + 1, 5, none⟩ = some (.int .i64 x5) ∧ w'.cell? ⟨w.heap.size + 1, 6, none⟩ = some (.slice sa2 sl2 sc2)) (fun w' => w'.cell? ⟨w5.heap.size, 0, none⟩ = some (.slice ta tl tc)) (by kernel_rfl) ⟨(Lib.cell_of_heap hx6d.c 0).trans rfl, (Lib.cell_of_heap hx6d.c 1).trans rfl, (Lib.cell_of_heap hx6d.c 2).trans rfl, (Lib.cell_of_heap hx6d.c 3).trans rfl, (Lib.cell_of_heap hx6d.c 4).trans rfl, (Lib.cell_of_heap hx6d.c 5).trans rfl, (Lib.cell_of_heap hx6d.c 6).trans rfl⟩ d6 (fun hp => ?_)
    clear hx6d
    refine take_ph 38 (i := 0) rfl rfl (by decide) (by kernel_rfl) (by kernel_rfl) (by kernel_rfl) (fun _ _ _ h => h) (by rfl) (fun w hSw => by (try dsimp only at hSw); go_simp; first | done | with_reducible rfl) hp (fun hp => ?_)
    try simp only [Act.put, List.setIfInBounds_toArray, List.set_cons_zero, List.set_cons_succ]
    refine take_ph1 39 (i := 1) rfl rfl (by decide) (by rfl) (by kernel_rfl) (by kernel_rfl) (by kernel_rfl) (by kernel_rfl) (fun _ _ _ h => h) (by rfl) (fun w hSw hBw => by (try dsimp only at hSw hBw); go_simp; first | done | with_reducible rfl) hp (fun hp => ?_)
    try simp only [Act.put, List.setIfInBounds_toArray, List.set_cons_zero, List.set_cons_succ]
    refine take_ph 40 (i := 2) rfl rfl (by decide) (by kernel_rfl) (by kernel_rfl) (by kernel_rfl) (fun _ _ _ h => h) (by rfl) (fun w hSw => by (try dsimp only at hSw); go_simp; first | done | with_reducible rfl) hp (fun hp => ?_)
    try simp only [Act.put, List.setIfInBounds_toArray, List.set_cons_zero, List.set_cons_succ]
    refine AnyL.one (i := 3) (by kernel_rfl) rfl (fun K hK => ?_)
    go_simp
    refine (hOn.out _ B6.drew).mono ?_
    rintro e w7 ⟨⟨tb, tm, td⟩, rfl, hown7, hb7⟩
    have b7 : Below (w5.alloc (.cells #[.slice ta tl tc] 26)).heap.size (w5.alloc (.cells #[.slice ta tl tc] 26)) w7 := (Below.refl _ _).drew.trans hb7
    have Hown7 := Lib.hid (show Own 2 Chs.cells (w5.alloc (.cells #[.slice ta tl tc] 26)).heap.size 32 w7 _ _ from hown7)
    clear hown7 hb7
    simp only [CraneR.cells, SV.v]
    have hx7 := Lib.hid (hx6.out.ext b7)
    have hy7 := Lib.hid (blkN_below b7 hy6.out)
    have d7 : w7.cell? ⟨w5.heap.size, 0, none⟩ = some (.slice ta tl tc) := (Lib.cell_of_heap hy7.out 0).trans rfl
    have hw7 := b7.size
    have B7 := B6.trans (b7.mono B6.size)
    go_wp2_with fail
    refine hK.out _ _ (ph1 ⟨(Lib.cell_of_heap hx7.out.c 0).trans rfl, (Lib.cell_of_heap hx7.out.c 1).trans rfl, (Lib.cell_of_heap hx7.out.c 2).trans rfl, (Lib.cell_of_heap hx7.out.c 3).trans rfl, (Lib.cell_of_heap hx7.out.c 4).trans rfl, (Lib.cell_of_heap hx7.out.c 5).trans rfl, (Lib.cell_of_heap hx7.out.c 6).trans rfl⟩ d7) (fun hp => ?_)
    clear hK
    try simp only [Act.put, List.setIfInBounds_toArray, List.set_cons_zero, List.set_cons_succ]
    refine AnyL.one (i := 4) (by kernel_rfl) rfl (fun K hK => ?_)
    go_simp
    have hx8 := Lib.hid (hx7.out.ext ((Below.refl _ _).alloc (Nat.le_refl _) (.cells #[.string x0, .int .i64 x1, .int .i64 x2, .int .i64 x3, .int .i64 x4, .int .i64 x5, .slice tb tm td] 35)))
    refine hK.out _ _ (ph1 ⟨(Lib.cell_of_heap hx8.out.c 0).trans rfl, (Lib.cell_of_heap hx8.out.c 1).trans rfl, (Lib.cell_of_heap hx8.out.c 2).trans rfl, (Lib.cell_of_heap hx8.out.c 3).trans rfl, (Lib.cell_of_heap hx8.out.c 4).trans rfl, (Lib.cell_of_heap hx8.out.c 5).trans rfl, (Lib.cell_of_heap hx8.out.c 6).trans rfl⟩ (by rw [World.cell?_alloc_lt _ _ _ (show w5.heap.size < _ by omega)]; exact d7)) (fun hp => ?_)
    clear hK hx8
    try simp only [Act.put, List.setIfInBounds_toArray, List.set_cons_zero, List.set_cons_succ]
    refine AnyL.one (i := 5) (by kernel_rfl) rfl (fun K hK => ?_)
    refine step_app1 (c := CraneR.cells) (bytes := 80) rfl _ _ 24 35 rfl Try.underlying24 info_impl_Crane (by omega) CraneR.len CraneR.one w4.heap.size rk ⟨⟨x0, x1, x2, x3, x4, x5⟩, ⟨tb, tm, td⟩⟩ (.slice ta tl tc) rfl w7 rfl (hO5.out.out.below b7) rfl (by omega) (by omega) (by omega) ?_
    intro v' w8 hown8 hg8
    have b8 : Below w4.heap.size w7 w8 := (hO5.out.out.below b7).app (Below.refl _ _) (Nat.le_refl _) (by omega) hg8
    have hw8 := b8.size
    have hN8 := Lib.hid (hO5.out.push (r := ⟨⟨x0, x1, x2, x3, x4, x5⟩, ⟨tb, tm, td⟩⟩) (x := (⟨x0, x1, x2, x3, x4, x5⟩, l)) TK_TC (by omega) b7 rfl Hown7.out hown8 hg8)
    have hy8 := Lib.hid (grown_block (hO5.out.out.below b7) hy7.out TS_TK hg8)
    obtain ⟨va, vc, rfl⟩ := own_sv hown8
    have hx8 := Lib.hid (hx7.out.below b8 (by omega))
    generalize (rk ++ [(⟨⟨x0, x1, x2, x3, x4, x5⟩, ⟨tb, tm, td⟩⟩ : CraneR)]) = rk5 at *
    generalize rk5.length = q5 at *
    have B8 := B7.trans (b8.mono (by omega))
    have d8 : w8.cell? ⟨w5.heap.size, 0, none⟩ = some (.slice ta tl tc) := (Lib.cell_of_heap hy8.out 0).trans rfl
    have df8 : ∀ j, w8.frozen? ⟨w5.heap.size, j, none⟩ = false := fun j => Lib.frozen_of_heap hy8.out j
    refine hK.out _ _ (ph2 rfl ⟨(Lib.cell_of_heap hx8.out.c 0).trans rfl, (Lib.cell_of_heap hx8.out.c 1).trans rfl, (Lib.cell_of_heap hx8.out.c 2).trans rfl, (Lib.cell_of_heap hx8.out.c 3).trans rfl, (Lib.cell_of_heap hx8.out.c 4).trans rfl, (Lib.cell_of_heap hx8.out.c 5).trans rfl, (Lib.cell_of_heap hx8.out.c 6).trans rfl⟩) (fun hp => ?_)
    clear hK
    try simp only [Act.put, List.setIfInBounds_toArray]
    refine take_ph 44 (i := 6) rfl rfl (by decide) (by kernel_rfl) (by kernel_rfl) (by kernel_rfl) (fun _ _ _ h => h) (by rfl) (fun w hSw => by (try dsimp only at hSw); go_simp; first | done | with_reducible rfl) hp (fun hp => ?_)
    try simp only [Act.put]
    refine AnyL.one (i := 7) (by kernel_rfl) rfl (fun K hK => ?_)
    go_simp
    have m9 : Mod w5.heap.size (w5.heap.size + 1) w8 (w8.setCell ⟨w5.heap.size, 0, none⟩ (.slice va q5 vc)) := (Mod.refl _ _ _).setCell (p := ⟨w5.heap.size, 0, none⟩) (Nat.le_refl _) (Nat.lt_succ_self _) _
    have hx9 := Lib.hid (hx8.out.below (m9.below (B := w4.heap.size) (by omega) (by omega)) (by omega))
    refine hK.out _ _ (ph2 rfl ⟨(Lib.cell_of_heap hx9.out.c 0).trans rfl, (Lib.cell_of_heap hx9.out.c 1).trans rfl, (Lib.cell_of_heap hx9.out.c 2).trans rfl, (Lib.cell_of_heap hx9.out.c 3).trans rfl, (Lib.cell_of_heap hx9.out.c 4).trans rfl, (Lib.cell_of_heap hx9.out.c 5).trans rfl, (Lib.cell_of_heap hx9.out.c 6).trans rfl⟩) (fun hp => ?_)
    clear hK
    refine AnyL.done (by kernel_rfl) ?_ _
    have hN9 := Lib.hid (hN8.out.far (o := 0) (u := .slice va q5 vc) hy8.out TS_TK TS_TC)
    have e9 : (w8.setCell ⟨w5.heap.size, 0, none⟩ (.slice va q5 vc)).cell? ⟨w5.heap.size, 0, none⟩ = some (.slice va q5 vc) := World.cell?_setCell_same _ _ _ d8
    have B9 := B8.setCell (p := ⟨w5.heap.size, 0, none⟩) (show w.heap.size ≤ w5.heap.size by omega) (.slice va q5 vc)
    have hz9 : (w8.setCell ⟨w5.heap.size, 0, none⟩ (.slice va q5 vc)).heap.size = w8.heap.size := by simp
    clear hN8 hx8 B8 m9 hx7 hy7 hy8 d7 d8 d6 hg8 hown8 df8
    generalize (w8.setCell ⟨w5.heap.size, 0, none⟩ (.slice va q5 vc)) = w9 at *
    have q1 := hx9.out.r.c
    have f1 := hx9.out.r.f
    have hN10 := Lib.hid (((hN9.out.w CraneR.len Chs.len TK_TC).keep ((show Mod (w.heap.size + 2) (w.heap.size + 3) w9 (w9.setCell ⟨w.heap.size + 2, 0, none⟩ (.slice va q5 vc)) from (Mod.refl _ _ _).setCell (p := ⟨w.heap.size + 2, 0, none⟩) (Nat.le_refl _) (Nat.lt_succ_self _) _).same (Nat.le_refl _) (.inr (by omega)))).widen (lo' := w.heap.size) (hi' := (w9.setCell ⟨w.heap.size + 2, 0, none⟩ (.slice va q5 vc)).heap.size) (by omega) (by simp))
    go_wp2
    exact bodyPost_ret (v := .tuple #[.agg #[.slice va q5 vc], .int .i64 0]) (by simp [results, Try.results7, go_sem, q1]) rfl ⟨⟨va, q5, vc⟩, rk5, rfl, hN10.out, B9.setCell (p := ⟨w.heap.size + 2, 0, none⟩) (show w.heap.size ≤ w.heap.size + 2 by omega) _⟩
end Go.Proofs.Ytejicefmbodpdaa
