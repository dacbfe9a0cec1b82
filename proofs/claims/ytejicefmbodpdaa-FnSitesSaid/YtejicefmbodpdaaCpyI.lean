/- A site of its own, the program. -/
import Derived.Test.YtejicefmbodpdaaCpy
namespace Go.Proofs.Ytejicefmbodpdaa
open Go.RowKit
theorem Bx.new3 (w : World) (o : Obj) : Bx (w.heap.size + 1) (((w.alloc o).alloc (.cells #[.slice none 0 0] 26)).alloc (.cells #[.slice none 0 0] 26)) ⟨none, 0, 0⟩ := by
  have h := Bx.new (w.alloc o)
  rwa [show (w.alloc o).heap.size = w.heap.size + 1 from by simp] at h
set_option maxRecDepth 100000 in
set_option maxHeartbeats 8000000 in
theorem impl_SiteClone (s : SV) (rs : List CraneR) (L : SiteL) (lo hi : Nat) (w : World) (h : Cranes lo hi w s.v rs L) (hok : siteOk L) :
    Calls Try.prog 26 #[.agg #[s.v]] w (CopySite L w) := by
  have hl1 := h.len
  have hL6 := hok.2.2
  have Hs := Lib.hid h
  obtain ⟨⟨a, cap, hsv, hcp, -⟩, -, -⟩ := h
  rw [hl1] at hsv hcp
  generalize s.v = sv at *
  subst hsv
  have Hl1 := Lib.hid hl1
  have Hok := Lib.hid hok
  have hBx := Lib.hid (Bx.new3 w (.cells #[.slice a L.length cap] 26))
  clear hl1 hok
  go_enter Try.func26, Try.ntmps26
  go_wp2
  go_loopw [9] (fun i wr => ∃ (k : Nat) (s : SV) (rk : List CraneR), k ≤ L.length ∧ i = .int .i64 k ∧ Below w.heap.size w wr ∧ Hid (Bx (w.heap.size + 1) wr s) ∧ Hid (OwnS (w.heap.size + 3) wr s.v rk (L.take k))) (fun i _ => L.length - (intOf i).toNat)
  case atStart => exact ⟨0, ⟨none, 0, 0⟩, [], Nat.zero_le _, rfl, by go_grown, hBx, Lib.hid (ownN_nil (own_nil _ _ _))⟩
  case round =>
    clear hBx
    obtain ⟨k, ⟨sa, sl, sc⟩, rk, hk, rfl, hB, hx, hown⟩ := hrel
    have hBs := hB.size
    have hw2 := hx.out.lt
    by_cases hlt : k < L.length
    · have hk1 : k < rs.length := by rw [Hl1.out]; exact hlt
      have hs : Cranes lo hi wr (.slice a L.length cap) rs L := Hs.out.ext hB
      obtain ⟨hfl, hrow⟩ := hs.one hlt hk1
      obtain ⟨b, off, rfl⟩ := hs.out.addr (by omega)
      obtain ⟨c0, c1, c2, c3, c4, c5, c6⟩ := Cranes_at hs hk1
      rw [hfl] at c0 c1 c2 c3 c4 c5
      obtain ⟨hr0, hr1⟩ := siteOk_row Hok.out hlt
      have hO := Lib.hid (fun (f : CraneF) (sk : SV) w' (hb : Below wr.heap.size wr w') (hr : Sl 2 Chs.cells lo hi wr sk.v L[k].2) => impl_CraneClone f sk L[k].2 lo hi w' (hr.ext hb) hr0 hr1)
      have hnext := Lib.hid (List.take_succ_eq_append_getElem hlt)
      have hkl : (L.take k).length = k := by rw [List.length_take]; omega
      have hrl : rk.length = k := by rw [hown.out.len, hkl]
      clear hs hfl hr0 hr1 hkl
      generalize rs[k].s = sk at *
      obtain ⟨sa2, sl2, sc2⟩ := sk
      simp only [SV.v] at c6
      generalize L[k] = f at *
      obtain ⟨⟨x0, x1, x2, x3, x4, x5⟩, f2⟩ := f
      dsimp only at *
      have hO2 := Lib.hid (fun w' hb => hO.out ⟨x0, x1, x2, x3, x4, x5⟩ ⟨sa2, sl2, sc2⟩ w' hb hrow)
      clear hO hrow
      have hba : Below wr.heap.size wr (wr.alloc (.cells #[.string x0, .int .i64 x1, .int .i64 x2, .int .i64 x3, .int .i64 x4, .int .i64 x5, .slice sa2 sl2 sc2] 35)) := (Below.refl _ _).alloc (Nat.le_refl _) _
      have hq := Lib.hid (blkN_new wr (.cells #[.string x0, .int .i64 x1, .int .i64 x2, .int .i64 x3, .int .i64 x4, .int .i64 x5, .slice sa2 sl2 sc2] 35))
      have hN1 := Lib.hid (hown.out.below hba)
      have hx1 := Lib.hid (hx.out.below hba hw2)
      have hqo := Lib.hid (fun g (h : (Value.slice sa sl sc).ownBlock = some g) => (World.ownsRow.lt hown.out.out g h).2)
      have d0 := hx1.out.d0
      simp only [SV.v] at d0
      have hd := hba.size
      clear hown hx
      go_wp2_with fail
      have q0 : (wr.alloc (.cells #[.string x0, .int .i64 x1, .int .i64 x2, .int .i64 x3, .int .i64 x4, .int .i64 x5, .slice sa2 sl2 sc2] 35)).drew.cell? ⟨wr.heap.size, 0, none⟩ = some _ := (Lib.cell_of_heap hq.out 0).trans rfl
      have q1 : (wr.alloc (.cells #[.string x0, .int .i64 x1, .int .i64 x2, .int .i64 x3, .int .i64 x4, .int .i64 x5, .slice sa2 sl2 sc2] 35)).drew.cell? ⟨wr.heap.size, 1, none⟩ = some _ := (Lib.cell_of_heap hq.out 1).trans rfl
      have q2 : (wr.alloc (.cells #[.string x0, .int .i64 x1, .int .i64 x2, .int .i64 x3, .int .i64 x4, .int .i64 x5, .slice sa2 sl2 sc2] 35)).drew.cell? ⟨wr.heap.size, 2, none⟩ = some _ := (Lib.cell_of_heap hq.out 2).trans rfl
      have q3 : (wr.alloc (.cells #[.string x0, .int .i64 x1, .int .i64 x2, .int .i64 x3, .int .i64 x4, .int .i64 x5, .slice sa2 sl2 sc2] 35)).drew.cell? ⟨wr.heap.size, 3, none⟩ = some _ := (Lib.cell_of_heap hq.out 3).trans rfl
      have q4 : (wr.alloc (.cells #[.string x0, .int .i64 x1, .int .i64 x2, .int .i64 x3, .int .i64 x4, .int .i64 x5, .slice sa2 sl2 sc2] 35)).drew.cell? ⟨wr.heap.size, 4, none⟩ = some _ := (Lib.cell_of_heap hq.out 4).trans rfl
      have q5 : (wr.alloc (.cells #[.string x0, .int .i64 x1, .int .i64 x2, .int .i64 x3, .int .i64 x4, .int .i64 x5, .slice sa2 sl2 sc2] 35)).drew.cell? ⟨wr.heap.size, 5, none⟩ = some _ := (Lib.cell_of_heap hq.out 5).trans rfl
      have q6 : (wr.alloc (.cells #[.string x0, .int .i64 x1, .int .i64 x2, .int .i64 x3, .int .i64 x4, .int .i64 x5, .slice sa2 sl2 sc2] 35)).drew.cell? ⟨wr.heap.size, 6, none⟩ = some _ := (Lib.cell_of_heap hq.out 6).trans rfl
      refine region_ph 5 (fun w' => w'.cell? ⟨wr.heap.size, 0, none⟩ = some (.string x0) ∧ w'.cell? ⟨wr.heap.size, 1, none⟩ = some (.int .i64 x1) ∧ w'.cell? ⟨wr.heap.size, 2, none⟩ = some (.int .i64 x2) ∧ w'.cell? ⟨wr.heap.size, 3, none⟩ = some (.int .i64 x3) ∧ w'.cell? ⟨wr.heap.size, 4, none⟩ = some (.int .i64 x4) ∧ w'.cell? ⟨wr.heap.size, 5, none⟩ = some (.int .i64 x5) ∧ w'.cell? ⟨wr.heap.size, 6, none⟩ = some (.slice sa2 sl2 sc2)) (fun w' => w'.cell? ⟨w.heap.size + 1 + 1, 0, none⟩ = some (.slice sa sl sc)) (by kernel_rfl) ⟨q0, q1, q2, q3, q4, q5, q6⟩ d0 (fun hp => ?_)
      refine take_ph 13 (i := 0) rfl rfl (by decide) (by kernel_rfl) (by kernel_rfl) (by kernel_rfl) (fun _ _ _ h => h) (by rfl) (fun w hSw => by (try dsimp only at hSw); go_simp; first | done | with_reducible rfl) hp (fun hp => ?_)
      try simp only [Act.put, List.setIfInBounds_toArray, List.set_cons_zero, List.set_cons_succ]
      refine take_ph1 14 (i := 1) rfl rfl (by decide) (by rfl) (by kernel_rfl) (by kernel_rfl) (by kernel_rfl) (by kernel_rfl) (fun _ _ _ h => h) (by rfl) (fun w hSw hBw => by (try dsimp only at hSw hBw); go_simp; first | done | with_reducible rfl) hp (fun hp => ?_)
      try simp only [Act.put, List.setIfInBounds_toArray, List.set_cons_zero, List.set_cons_succ]
      refine take_ph 15 (i := 2) rfl rfl (by decide) (by kernel_rfl) (by kernel_rfl) (by kernel_rfl) (fun _ _ _ h => h) (by rfl) (fun w hSw => by (try dsimp only at hSw); go_simp; first | done | with_reducible rfl) hp (fun hp => ?_)
      try simp only [Act.put, List.setIfInBounds_toArray, List.set_cons_zero, List.set_cons_succ]
      refine AnyL.one (i := 3) (by kernel_rfl) rfl (fun K hK => ?_)
      go_simp
      refine (hO2.out _ hba.drew).mono ?_
      rintro e w3 ⟨⟨ta, tl, tc⟩, rfl, hown3, hb3⟩
      have b3 : Below (wr.alloc (.cells #[.string x0, .int .i64 x1, .int .i64 x2, .int .i64 x3, .int .i64 x4, .int .i64 x5, .slice sa2 sl2 sc2] 35)).heap.size (wr.alloc (.cells #[.string x0, .int .i64 x1, .int .i64 x2, .int .i64 x3, .int .i64 x4, .int .i64 x5, .slice sa2 sl2 sc2] 35)) w3 := (Below.refl _ _).drew.trans hb3
      have Hown3 := Lib.hid (show Own 2 Chs.cells (wr.alloc (.cells #[.string x0, .int .i64 x1, .int .i64 x2, .int .i64 x3, .int .i64 x4, .int .i64 x5, .slice sa2 sl2 sc2] 35)).heap.size 32 w3 _ _ from hown3)
      clear hown3 hb3
      simp only [CraneR.cells, SV.v]
      have hq3 := Lib.hid (blkN_below b3 hq.out)
      have hx3 := Lib.hid (hx1.out.below b3 (by omega))
      have d3 := hx3.out.d0
      simp only [SV.v] at d3
      have hw3 := b3.size
      go_wp2_with fail
      refine hK.out _ _ (ph1 ⟨(Lib.cell_of_heap hq3.out 0).trans rfl, (Lib.cell_of_heap hq3.out 1).trans rfl, (Lib.cell_of_heap hq3.out 2).trans rfl, (Lib.cell_of_heap hq3.out 3).trans rfl, (Lib.cell_of_heap hq3.out 4).trans rfl, (Lib.cell_of_heap hq3.out 5).trans rfl, (Lib.cell_of_heap hq3.out 6).trans rfl⟩ d3) (fun hp => ?_)
      clear hK
      try simp only [Act.put, List.setIfInBounds_toArray, List.set_cons_zero, List.set_cons_succ]
      refine AnyL.one (i := 4) (by kernel_rfl) rfl (fun K hK => ?_)
      go_simp
      have hq4 := Lib.hid (blkN_below ((Below.refl _ _).alloc (Nat.le_refl _) (.cells #[.string x0, .int .i64 x1, .int .i64 x2, .int .i64 x3, .int .i64 x4, .int .i64 x5, .slice ta tl tc] 35)) hq3.out)
      refine hK.out _ _ (ph1 ⟨(Lib.cell_of_heap hq4.out 0).trans rfl, (Lib.cell_of_heap hq4.out 1).trans rfl, (Lib.cell_of_heap hq4.out 2).trans rfl, (Lib.cell_of_heap hq4.out 3).trans rfl, (Lib.cell_of_heap hq4.out 4).trans rfl, (Lib.cell_of_heap hq4.out 5).trans rfl, (Lib.cell_of_heap hq4.out 6).trans rfl⟩ (by rw [World.cell?_alloc_lt _ _ _ (show w.heap.size + 1 + 1 < _ by omega)]; exact d3)) (fun hp => ?_)
      clear hK
      try simp only [Act.put, List.setIfInBounds_toArray, List.set_cons_zero, List.set_cons_succ]
      refine AnyL.one (i := 5) (by kernel_rfl) rfl (fun K hK => ?_)
      refine step_app1 (c := CraneR.cells) (bytes := 80) rfl _ _ 24 35 rfl Try.underlying24 info_impl_Crane (by omega) CraneR.len CraneR.one (w.heap.size + 3) rk ⟨⟨x0, x1, x2, x3, x4, x5⟩, ⟨ta, tl, tc⟩⟩ (.slice sa sl sc) rfl w3 rfl (hN1.out.out.below b3) rfl (by omega) (by omega) (by omega) ?_
      intro v' w4 hown4 hg4
      have b4 : Below (w.heap.size + 3) w3 w4 := (hN1.out.out.below b3).app (Below.refl _ _) (Nat.le_refl _) (by omega) hg4
      have hN4 := Lib.hid (hN1.out.push (r := ⟨⟨x0, x1, x2, x3, x4, x5⟩, ⟨ta, tl, tc⟩⟩) (x := (⟨x0, x1, x2, x3, x4, x5⟩, f2)) TK_TC (by omega) b3 rfl Hown3.out hown4 hg4)
      obtain ⟨va, vc, rfl⟩ := own_sv hown4
      have hx4 := Lib.hid (hx3.out.below b4 (Nat.le_refl _))
      have hq5 := Lib.hid ((hg4.block wr.heap.size (by simp at hd hw3 ⊢; omega) (fun e => by have := hqo.out _ e.symm; omega)).trans hq4.out)
      have hl4 : (rk ++ [(⟨⟨x0, x1, x2, x3, x4, x5⟩, ⟨ta, tl, tc⟩⟩ : CraneR)]).length = k + 1 := by rw [List.length_append, hrl]; rfl
      rw [hl4] at hN4 ⊢
      have B4 : Below w.heap.size w w4 := ((hB.alloc hBs (.cells #[.string x0, .int .i64 x1, .int .i64 x2, .int .i64 x3, .int .i64 x4, .int .i64 x5, .slice sa2 sl2 sc2] 35)).trans (b3.mono (by simp; omega))).trans (b4.mono (by omega))
      have d4 := hx4.out.d0
      have df4 := hx4.out.df
      simp only [SV.v] at d4
      refine hK.out _ _ (ph2 rfl ⟨(Lib.cell_of_heap hq5.out 0).trans rfl, (Lib.cell_of_heap hq5.out 1).trans rfl, (Lib.cell_of_heap hq5.out 2).trans rfl, (Lib.cell_of_heap hq5.out 3).trans rfl, (Lib.cell_of_heap hq5.out 4).trans rfl, (Lib.cell_of_heap hq5.out 5).trans rfl, (Lib.cell_of_heap hq5.out 6).trans rfl⟩) (fun hp => ?_)
      clear hK
      try simp only [Act.put, List.setIfInBounds_toArray]
      refine take_ph 19 (i := 6) rfl rfl (by decide) (by kernel_rfl) (by kernel_rfl) (by kernel_rfl) (fun _ _ _ h => h) (by rfl) (fun w hSw => by (try dsimp only at hSw); go_simp; first | done | with_reducible rfl) hp (fun hp => ?_)
      try simp only [Act.put]
      refine AnyL.one (i := 7) (by kernel_rfl) rfl (fun K hK => ?_)
      go_simp
      have hq6 := Lib.hid ((Below.heap_setCell w4 ⟨w.heap.size + 1 + 1, 0, none⟩ (.slice va (k + 1) vc) wr.heap.size (by simp at hw2 ⊢; omega)).trans hq5.out)
      refine hK.out _ _ (ph2 rfl ⟨(Lib.cell_of_heap hq6.out 0).trans rfl, (Lib.cell_of_heap hq6.out 1).trans rfl, (Lib.cell_of_heap hq6.out 2).trans rfl, (Lib.cell_of_heap hq6.out 3).trans rfl, (Lib.cell_of_heap hq6.out 4).trans rfl, (Lib.cell_of_heap hq6.out 5).trans rfl, (Lib.cell_of_heap hq6.out 6).trans rfl⟩) (fun hp => ?_)
      clear hK
      refine AnyL.done (by kernel_rfl) ?_ _
      have hx5 := Lib.hid (hx4.out.put ⟨va, k + 1, vc⟩)
      have hN5 := Lib.hid (hN4.out.mod ((Mod.refl w.heap.size (w.heap.size + 3) w4).setCell (p := ⟨w.heap.size + 1 + 1, 0, none⟩) (show w.heap.size ≤ w.heap.size + 1 + 1 by omega) (show w.heap.size + 1 + 1 < w.heap.size + 3 by omega) (.slice va (k + 1) vc)) (Nat.le_refl _))
      go_wp2
      go_roundw
      case rel => exact ⟨k + 1, ⟨va, k + 1, vc⟩, _, by omega, by go_num, B4.setCell (p := ⟨w.heap.size + 1 + 1, 0, none⟩) (show w.heap.size ≤ w.heap.size + 1 + 1 by omega) _, hx5, Lib.hid (by rw [hnext.out]; exact hN5.out)⟩
      case measure => simp [intOf]; omega
    · have hkk : k = L.length := by omega
      subst hkk
      rw [List.take_length] at hown
      have d0 := hx.out.d0
      have e0 := hx.out.e0
      have ef := hx.out.ef
      simp only [SV.v] at d0
      have hN := Lib.hid (hown.out.mod ((Mod.refl w.heap.size (w.heap.size + 3) wr).setCell (p := ⟨w.heap.size + 1, 0, none⟩) (Nat.le_succ _) (show w.heap.size + 1 < w.heap.size + 3 by omega) (.slice sa sl sc)) (Nat.le_refl _))
      go_wp2
      exact bodyPost_ret (v := .agg #[.slice sa sl sc]) (by simp [results, Try.results26, go_sem, e0]) rfl ⟨⟨sa, sl, sc⟩, rk, rfl, hN.out.lower (by omega), hB.setCell (p := ⟨w.heap.size + 1, 0, none⟩) (Nat.le_succ _) _⟩
end Go.Proofs.Ytejicefmbodpdaa
