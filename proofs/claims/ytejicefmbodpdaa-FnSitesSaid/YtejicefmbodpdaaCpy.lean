/- A site of its own, both packages. -/
import Derived.Test.YtejicefmbodpdaaCln
import Derived.Test.YtejicefmbodpdaaPh
import Derived.Test.YtejicefmbodpdaaSiteV
namespace Go.Proofs.Ytejicefmbodpdaa
open Go.RowKit
abbrev OwnS (lo : Nat) (w : World) (v : Value) (rs : List CraneR) (L : SiteL) : Prop := OwnN 7 CraneR.cells CraneR.f CraneR.s 2 Chs.cells lo 35 32 w v rs L
/-- What copying a site returns. -/
def CopySite (L : SiteL) (w : World) (e : Ending) (w' : World) : Prop := ∃ (s : SV) (rs : List CraneR), e = .returned (.agg #[s.v]) ∧ OwnS w.heap.size w' s.v rs L ∧ Below w.heap.size w w'
theorem TK_TC : 35 ≠ 32 := by decide
theorem siteOk_row {L : SiteL} (h : siteOk L) {k : Nat} (hk : k < L.length) : 0 < L[k].2.length ∧ L[k].2.length ≤ 1048576 := by
  have h1 := (h.1 k hk).1.2.2.2.2.2.1.2
  omega
/-- The builder's two boxes: the result's at p, the site's that grows at p + 1. -/
structure Bx (p : Nat) (w : World) (s : SV) : Prop where
  d0 : w.cell? ⟨p + 1, 0, none⟩ = some s.v
  e0 : w.cell? ⟨p, 0, none⟩ = some (.slice none 0 0)
  df : ∀ j, w.frozen? ⟨p + 1, j, none⟩ = false
  ef : ∀ j, w.frozen? ⟨p, j, none⟩ = false
theorem Bx.below {p B : Nat} {w w' : World} {s : SV} (h : Bx p w s) (hb : Below B w w') (hB : p + 2 ≤ B) : Bx p w' s :=
  ⟨(hb.cell (p := ⟨p + 1, 0, none⟩) (show p + 1 < B by omega)).trans h.d0, (hb.cell (p := ⟨p, 0, none⟩) (show p < B by omega)).trans h.e0,
   fun j => (hb.frozen (p := ⟨p + 1, j, none⟩) (show p + 1 < B by omega)).trans (h.df j), fun j => (hb.frozen (p := ⟨p, j, none⟩) (show p < B by omega)).trans (h.ef j)⟩
theorem Bx.put {p : Nat} {w : World} {s : SV} (h : Bx p w s) (s' : SV) : Bx p (w.setCell ⟨p + 1, 0, none⟩ s'.v) s' :=
  ⟨World.cell?_setCell_same _ _ _ h.d0, (World.cell?_setCell_other _ _ _ _ (by intro e; injection e with e1; omega)).trans h.e0, fun j => by rw [World.frozen?_setCell]; exact h.df j, fun j => by rw [World.frozen?_setCell]; exact h.ef j⟩
theorem Bx.lt {p : Nat} {w : World} {s : SV} (h : Bx p w s) : p + 2 ≤ w.heap.size := by have := World.block_lt_of_cell? w _ h.d0; simp at this; omega
theorem Bx.new (w : World) : Bx w.heap.size ((w.alloc (.cells #[.slice none 0 0] 26)).alloc (.cells #[.slice none 0 0] 26)) ⟨none, 0, 0⟩ := by
  have h2 : ((w.alloc (.cells #[.slice none 0 0] 26)).alloc (.cells #[.slice none 0 0] 26)).heap[w.heap.size + 1]? = some (.cells #[.slice none 0 0] 26) := by rw [show w.heap.size + 1 = (w.alloc (.cells #[.slice none 0 0] 26)).heap.size from by simp]; exact blkN_new _ _
  have h1 := blkN_below ((Below.refl _ _).alloc (Nat.le_refl _) (.cells #[.slice none 0 0] 26)) (blkN_new w (.cells #[.slice none 0 0] 26))
  exact ⟨(Lib.cell_of_heap h2 0).trans rfl, (Lib.cell_of_heap h1 0).trans rfl, fun j => Lib.frozen_of_heap h2 j, fun j => Lib.frozen_of_heap h1 j⟩
set_option maxRecDepth 100000 in
set_option maxHeartbeats 8000000 in
theorem spec_CopyW (b0 : Nat) (v : Value) (rs : List CraneR) (L : SiteL) (lo hi : Nat) (w : World) (hc0 : w.cell? ⟨b0, 0, none⟩ = some v) (h : Cranes lo hi w v rs L) (hok : ∀ k (hk : k < L.length), 0 < L[k].2.length ∧ L[k].2.length ≤ 1048576) (hL6 : L.length ≤ 6) :
    Calls Try.prog 41 #[.pointer (some ⟨b0, 0, none⟩)] w (CopySite L w) := by
  have hl1 := h.len
  have Hs := Lib.hid h
  obtain ⟨⟨a, cap, rfl, hcp, -⟩, -, -⟩ := h
  rw [hl1] at hc0 hcp
  have Hl1 := Lib.hid hl1
  have hb0 := World.block_lt_of_cell? w _ hc0
  have Hc0 := Lib.hid hc0
  have Hok := Lib.hid hok
  have hBx := Lib.hid (Bx.new w)
  clear hl1 hok hc0
  go_enter Try.func41, Try.ntmps41
  go_wp2
  go_loopw [4] (fun i wr => ∃ (k : Nat) (s : SV) (rk : List CraneR), k ≤ L.length ∧ i = .int .i64 k ∧ Below w.heap.size w wr ∧ Hid (Bx w.heap.size wr s) ∧ Hid (OwnS (w.heap.size + 2) wr s.v rk (L.take k))) (fun i _ => L.length - (intOf i).toNat)
  case atStart => exact ⟨0, ⟨none, 0, 0⟩, [], Nat.zero_le _, rfl, by go_grown, hBx, Lib.hid (ownN_nil (own_nil _ _ _))⟩
  case round =>
    clear hBx
    obtain ⟨k, ⟨sa, sl, sc⟩, rk, hk, rfl, hB, hx, hown⟩ := hrel
    have cb := (hB.cell (p := ⟨b0, 0, none⟩) hb0).trans Hc0.out
    have hBs := hB.size
    have d0 := hx.out.d0
    have e0 := hx.out.e0
    have df := hx.out.df
    have ef := hx.out.ef
    have hw2 := hx.out.lt
    simp only [SV.v] at d0
    by_cases hlt : k < L.length
    · have hk1 : k < rs.length := by rw [Hl1.out]; exact hlt
      have hs : Cranes lo hi w (.slice a L.length cap) rs L := by rw [← Hl1.out]; exact Hs.out
      obtain ⟨hfl, hrow⟩ := hs.one hlt hk1
      obtain ⟨b, off, rfl⟩ := hs.out.addr (by omega)
      have hg := hs.at hk1
      rw [show rs[k] = ⟨L[k].1, rs[k].s⟩ from by rw [← hfl]] at hg
      obtain ⟨hr0, hr1⟩ := Hok.out k hlt
      have hO := Lib.hid (fun w' (hb : Below w.heap.size w w') => spec_Own b (off + k * 7) L[k].1 rs[k].s L[k].2 lo hi w' (fun j u hu => (hb.cell (p := ⟨b, off + k * 7 + j, none⟩) (World.block_lt_of_cell? w _ (hg j u hu))).trans (hg j u hu)) (hrow.ext hb) hr0 hr1)
      have hnext := Lib.hid (List.take_succ_eq_append_getElem hlt)
      have hkl : (L.take k).length = k := by rw [List.length_take]; omega
      have hrl : rk.length = k := by rw [hown.out.len, hkl]
      clear hs hfl hrow hg hr0 hr1 hkl
      generalize L[k] = f at *
      obtain ⟨⟨x0, x1, x2, x3, x4, x5⟩, f2⟩ := f
      dsimp only at *
      have hb0r : b0 < wr.heap.size := Nat.lt_of_lt_of_le hb0 hBs
      go_wp2_with fail
      refine region_ph 10 (fun w' => w'.cell? ⟨b0, 0, none⟩ = some (.slice (some ⟨b, off, none⟩) L.length cap)) (fun w' => w'.cell? ⟨w.heap.size + 1, 0, none⟩ = some (.slice sa sl sc)) (by kernel_rfl) cb d0 (fun hp => ?_)
      refine take_ph 15 (i := 0) rfl rfl (by decide) (by kernel_rfl) (by kernel_rfl) (by kernel_rfl) (fun _ _ _ h => h) (by rfl) (fun w hSw => by (try dsimp only at hSw); go_simp; first | done | with_reducible rfl) hp (fun hp => ?_)
      try simp only [Act.put, List.setIfInBounds_toArray, List.set_cons_zero, List.set_cons_succ]
      refine take_ph1 16 (i := 1) rfl rfl (by decide) (by rfl) (by kernel_rfl) (by kernel_rfl) (by kernel_rfl) (by kernel_rfl) (fun _ _ _ h => h) (by rfl) (fun w hSw hBw => by (try dsimp only at hSw hBw); go_simp; first | done | with_reducible rfl) hp (fun hp => ?_)
      try simp only [Act.put, List.setIfInBounds_toArray, List.set_cons_zero, List.set_cons_succ]
      refine take_ph 17 (i := 2) rfl rfl (by decide) (by kernel_rfl) (by kernel_rfl) (by kernel_rfl) (fun _ _ _ h => h) (by rfl) (fun w hSw => by (try dsimp only at hSw); go_simp; first | done | with_reducible rfl) hp (fun hp => ?_)
      try simp only [Act.put, List.setIfInBounds_toArray, List.set_cons_zero, List.set_cons_succ]
      refine take_ph 18 (i := 3) rfl rfl (by decide) (by kernel_rfl) (by kernel_rfl) (by kernel_rfl) (fun _ _ _ h => h) (by rfl) (fun w hSw => by (try dsimp only at hSw); go_simp; first | done | with_reducible rfl) hp (fun hp => ?_)
      try simp only [Act.put, List.setIfInBounds_toArray, List.set_cons_zero, List.set_cons_succ]
      refine take_ph 19 (i := 4) rfl rfl (by decide) (by kernel_rfl) (by kernel_rfl) (by kernel_rfl) (fun _ _ _ h => h) (by rfl) (fun w hSw => by (try dsimp only at hSw); go_simp; first | done | with_reducible rfl) hp (fun hp => ?_)
      try simp only [Act.put, List.setIfInBounds_toArray, List.set_cons_zero, List.set_cons_succ]
      refine take_ph 20 (i := 5) rfl rfl (by decide) (by kernel_rfl) (by kernel_rfl) (by kernel_rfl) (fun _ _ _ h => h) (by rfl) (fun w hSw => by (try dsimp only at hSw); go_simp; first | done | with_reducible rfl) hp (fun hp => ?_)
      try simp only [Act.put, List.setIfInBounds_toArray, List.set_cons_zero, List.set_cons_succ]
      refine take_ph 21 (i := 6) rfl rfl (by decide) (by kernel_rfl) (by kernel_rfl) (by kernel_rfl) (fun _ _ _ h => h) (by rfl) (fun w hSw => by (try dsimp only at hSw); go_simp; first | done | with_reducible rfl) hp (fun hp => ?_)
      try simp only [Act.put, List.setIfInBounds_toArray, List.set_cons_zero, List.set_cons_succ]
      refine take_ph 22 (i := 7) rfl rfl (by decide) (by kernel_rfl) (by kernel_rfl) (by kernel_rfl) (fun _ _ _ h => h) (by rfl) (fun w hSw => by (try dsimp only at hSw); go_simp; first | done | with_reducible rfl) hp (fun hp => ?_)
      try simp only [Act.put, List.setIfInBounds_toArray, List.set_cons_zero, List.set_cons_succ]
      refine AnyL.one (i := 8) (by kernel_rfl) rfl (fun K hK => ?_)
      go_simp
      refine (hO.out _ hB.drew).mono ?_
      rintro e w3 ⟨⟨ta, tl, tc⟩, rfl, hown3, hb3⟩
      have b3 : Below wr.heap.size wr w3 := (Below.refl _ _).drew.trans hb3
      have Hown3 := Lib.hid (show Own 2 Chs.cells wr.heap.size 32 w3 _ _ from hown3)
      clear hown3 hb3
      simp only [CraneR.cells, SV.v]
      have cb3 := (b3.cell (p := ⟨b0, 0, none⟩) hb0r).trans cb
      go_wp2_with fail
      have hx3 := Lib.hid (hx.out.below b3 hw2)
      have d3 := hx3.out.d0
      simp only [SV.v] at d3
      have hw3 := b3.size
      refine hK.out _ _ (ph1 cb3 d3) (fun hp => ?_)
      clear hK
      try simp only [Act.put, List.setIfInBounds_toArray, List.set_cons_zero, List.set_cons_succ]
      refine AnyL.one (i := 9) (by kernel_rfl) rfl (fun K hK => ?_)
      go_simp
      refine hK.out _ _ (ph1 (by rw [World.cell?_alloc_lt _ _ _ (show b0 < _ by omega)]; exact cb3) (by rw [World.cell?_alloc_lt _ _ _ (show w.heap.size + 1 < _ by omega)]; exact d3)) (fun hp => ?_)
      clear hK
      try simp only [Act.put, List.setIfInBounds_toArray, List.set_cons_zero, List.set_cons_succ]
      refine AnyL.one (i := 10) (by kernel_rfl) rfl (fun K hK => ?_)
      refine step_app1 (c := CraneR.cells) (bytes := 80) rfl _ _ 24 35 rfl Try.underlying24 info_impl_Crane (by omega) CraneR.len CraneR.one (w.heap.size + 2) rk ⟨⟨x0, x1, x2, x3, x4, x5⟩, ⟨ta, tl, tc⟩⟩ (.slice sa sl sc) rfl w3 rfl (hown.out.out.below b3) rfl (by omega) (by omega) (by omega) ?_
      intro v' w4 hown4 hg4
      have b4 : Below (w.heap.size + 2) w3 w4 := (hown.out.out.below b3).app (Below.refl _ _) (Nat.le_refl _) (by omega) hg4
      have hN4 := Lib.hid (hown.out.push (r := ⟨⟨x0, x1, x2, x3, x4, x5⟩, ⟨ta, tl, tc⟩⟩) (x := (⟨x0, x1, x2, x3, x4, x5⟩, f2)) TK_TC (by omega) b3 rfl Hown3.out hown4 hg4)
      obtain ⟨va, vc, rfl⟩ := own_sv hown4
      have hx4 := Lib.hid (hx3.out.below b4 (Nat.le_refl _))
      have hl4 : (rk ++ [(⟨⟨x0, x1, x2, x3, x4, x5⟩, ⟨ta, tl, tc⟩⟩ : CraneR)]).length = k + 1 := by rw [List.length_append, hrl]; rfl
      rw [hl4] at hN4 ⊢
      have B4 : Below w.heap.size w w4 := (hB.trans (b3.mono hBs)).trans (b4.mono (by omega))
      have cb4 := (b4.cell (p := ⟨b0, 0, none⟩) (show b0 < w.heap.size + 2 by omega)).trans cb3
      have d4 := hx4.out.d0
      have df4 := hx4.out.df
      simp only [SV.v] at d4
      refine hK.out _ _ (ph2 rfl cb4) (fun hp => ?_)
      clear hK
      try simp only [Act.put, List.setIfInBounds_toArray]
      refine take_ph 26 (i := 11) rfl rfl (by decide) (by kernel_rfl) (by kernel_rfl) (by kernel_rfl) (fun _ _ _ h => h) (by rfl) (fun w hSw => by (try dsimp only at hSw); go_simp; first | done | with_reducible rfl) hp (fun hp => ?_)
      try simp only [Act.put]
      refine AnyL.one (i := 12) (by kernel_rfl) rfl (fun K hK => ?_)
      go_simp
      refine hK.out _ _ (ph2 rfl (by rw [World.cell?_setCell_other _ _ _ _ (by intro e; injection e with e1; omega)]; exact cb4)) (fun hp => ?_)
      clear hK
      try simp only [Act.put, List.setIfInBounds_toArray, List.set_cons_zero, List.set_cons_succ]
      refine AnyL.done (by kernel_rfl) ?_ _
      have hx5 := Lib.hid (hx4.out.put ⟨va, k + 1, vc⟩)
      have hN5 := Lib.hid (hN4.out.mod ((Mod.refl w.heap.size (w.heap.size + 2) w4).setCell (p := ⟨w.heap.size + 1, 0, none⟩) (Nat.le_succ _) (Nat.lt_succ_self _) (.slice va (k + 1) vc)) (Nat.le_refl _))
      go_wp2
      go_roundw
      case rel => exact ⟨k + 1, ⟨va, k + 1, vc⟩, _, by omega, by go_num, B4.setCell (p := ⟨w.heap.size + 1, 0, none⟩) (Nat.le_succ _) _, hx5, Lib.hid (by rw [hnext.out]; exact hN5.out)⟩
      case measure => simp [intOf]; omega
    · have hkk : k = L.length := by omega
      subst hkk
      rw [List.take_length] at hown
      have hN := Lib.hid (hown.out.mod ((Mod.refl w.heap.size (w.heap.size + 2) wr).setCell (p := ⟨w.heap.size, 0, none⟩) (Nat.le_refl _) (show w.heap.size < w.heap.size + 2 by omega) (.slice sa sl sc)) (Nat.le_refl _))
      go_wp2
      exact bodyPost_ret (v := .agg #[.slice sa sl sc]) (by simp [results, Try.results41, go_sem, e0]) rfl ⟨⟨sa, sl, sc⟩, rk, rfl, hN.out.lower (by omega), hB.setCell (p := ⟨w.heap.size, 0, none⟩) (Nat.le_refl _) _⟩
theorem spec_Copy (b0 : Nat) (v : Value) (rs : List CraneR) (L : SiteL) (lo hi : Nat) (w : World) (hc0 : w.cell? ⟨b0, 0, none⟩ = some v) (h : Cranes lo hi w v rs L) (hok : siteOk L) :
    Calls Try.prog 41 #[.pointer (some ⟨b0, 0, none⟩)] w (CopySite L w) := spec_CopyW b0 v rs L lo hi w hc0 h (fun _ hk => siteOk_row hok hk) hok.2.2
end Go.Proofs.Ytejicefmbodpdaa
