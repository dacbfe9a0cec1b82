/- The program's reader: cranes. -/
import Derived.Test.YtgbohbjpdmgneaaUr
import Derived.Test.YtgbohbjpdmgneaaPkS
namespace Go.Proofs.Ytgbohbjpdmgneaa
open Go.RowKit
theorem info_ChartStep2 : (Try.prog.info? 48).map (fun i => (i.zero.map (·.cells.size), i.size, i.bytes)) = some (some 2, 2, 16) := by kernel_rfl
theorem Chs.one2 (x : Chs) : ∀ u ∈ x.cells, u.oneCell' = true := by intro u hu; simp [Chs.cells] at hu; rcases hu with rfl | rfl <;> rfl
def craneFit (x : CraneF × List Chs) : Prop := x.1.name.size ≤ 12 ∧ (F49 x.1.x ∧ F49 x.1.y) ∧ F49 x.1.height ∧ F49 x.1.jib ∧ F49 x.1.back ∧ x.2.length ≤ 20 ∧ ∀ y ∈ x.2, F49 y.radius ∧ F49 y.load
theorem craneFit_of {x : CraneF × List Chs} (h : craneOk x.1 x.2) : craneFit x := by
  obtain ⟨h1, h2, h3, h4, h5, h6, _⟩ := h
  unfold Pl at h2
  refine ⟨h1.2.1, ⟨f49_small (by omega) (by omega), f49_small (by omega) (by omega)⟩, f49_small (by omega) (by omega), f49_small (by omega) (by omega), f49_small (by omega) (by omega), h6.2.2, fun y hy => ?_⟩
  obtain ⟨i, hi, rfl⟩ := List.getElem_of_mem hy
  have := (h6.1 i hi).1
  unfold Chs.ok at this
  exact ⟨f49_small (by omega) (by omega), f49_small (by omega) (by omega)⟩
theorem i64_fit {n : Int} (h : Fit n) : I64 n := by unfold Fit at h; unfold I64; omega
def CrnI (b : Nat) (l : List UInt8) (bad : Bool) (w : World) (e : Ending) (w' : World) : Prop :=
  ∃ (f : CraneF) (s : SV) (a : List Chs) (r : List UInt8) (bad' : Bool), e = .returned (.agg (CraneR.cells ⟨f, s⟩).toArray) ∧ Own 2 Chs.cells w.heap.size 48 w' s.v a ∧ a.length ≤ 20 ∧ (f.wf ∧ ∀ y ∈ a, y.wf) ∧ Un b r bad' w' ∧ r.length ≤ 1048576 ∧
    (∀ x r0, craneFit x → l = craneBytes x ++ r0 → f = x.1 ∧ a = x.2 ∧ r = r0 ∧ bad' = bad) ∧ Mod b (b + 1) w w'
set_option maxRecDepth 100000 in
set_option maxHeartbeats 8000000 in
theorem impl_crnR (b : Nat) (l : List UInt8) (bad : Bool) (w : World) (h : Un b l bad w) (hl : l.length ≤ 1048576) : Calls Try.prog 119 #[.pointer (some ⟨b, 0, none⟩)] w (CrnI b l bad w) := by
  have hbl := h.lt
  have hba : Below w.heap.size w (w.alloc (.cells #[.string ⟨#[]⟩, .int .i64 0, .int .i64 0, .int .i64 0, .int .i64 0, .int .i64 0, .slice none 0 0] 51)) := (Below.refl _ _).alloc (Nat.le_refl _) _
  have hx0 := Lib.hid (blkN_new w (.cells #[.string ⟨#[]⟩, .int .i64 0, .int .i64 0, .int .i64 0, .int .i64 0, .int .i64 0, .slice none 0 0] 51))
  have M0 : Mod b (b + 1) w (w.alloc (.cells #[.string ⟨#[]⟩, .int .i64 0, .int .i64 0, .int .i64 0, .int .i64 0, .int .i64 0, .slice none 0 0] 51)) := Mod.of_below hba
  have hN := Lib.hid (impl_txtR b l bad _ (h.ext hba) hl)
  clear h hba
  go_enter Try.func119, Try.ntmps119
  go_wp2_with fail
  refine hN.out.mono ?_
  rintro e w1 ⟨x0, r1, bad1, rfl, hs0, hu1, hr1, hc1, hm1⟩
  have hx1 := Lib.hid ((hm1.block w.heap.size (Array.getElem?_eq_some_iff.1 hx0.out).1 (.inr (by omega))).trans hx0.out)
  have M1 := M0.trans hm1
  have Hc1 := Lib.hid hc1
  clear hc1 hm1
  have hN := Lib.hid (impl_pntR b r1 bad1 w1 hu1 hr1)
  go_wp2_with fail
  refine hN.out.mono ?_
  rintro e w2 ⟨x1, x2, r2, bad2, rfl, ⟨F1, F2⟩, hu2, hr2, hc2, hm2⟩
  have hx2 := Lib.hid ((hm2.block w.heap.size (Array.getElem?_eq_some_iff.1 hx1.out).1 (.inr (by omega))).trans hx1.out)
  have M2 := M1.trans hm2
  have Hc2 := Lib.hid hc2
  clear hc2 hm2
  have hN := Lib.hid (impl_numR b r2 bad2 w2 hu2 hr2)
  go_wp2_with fail
  refine hN.out.mono ?_
  rintro e w3 ⟨x3, r3, bad3, rfl, F3, hu3, hr3, hc3, hm3⟩
  have hx3 := Lib.hid ((hm3.block w.heap.size (Array.getElem?_eq_some_iff.1 hx2.out).1 (.inr (by omega))).trans hx2.out)
  have M3 := M2.trans hm3
  have Hc3 := Lib.hid hc3
  clear hc3 hm3
  have hN := Lib.hid (impl_numR b r3 bad3 w3 hu3 hr3)
  go_wp2_with fail
  refine hN.out.mono ?_
  rintro e w4 ⟨x4, r4, bad4, rfl, F4, hu4, hr4, hc4, hm4⟩
  have hx4 := Lib.hid ((hm4.block w.heap.size (Array.getElem?_eq_some_iff.1 hx3.out).1 (.inr (by omega))).trans hx3.out)
  have M4 := M3.trans hm4
  have Hc4 := Lib.hid hc4
  clear hc4 hm4
  have hN := Lib.hid (impl_numR b r4 bad4 w4 hu4 hr4)
  go_wp2_with fail
  refine hN.out.mono ?_
  rintro e w6 ⟨x5, r6, bad6, rfl, F5, hu6, hr6, hc6, hm6⟩
  have hx6 := Lib.hid ((hm6.block w.heap.size (Array.getElem?_eq_some_iff.1 hx4.out).1 (.inr (by omega))).trans hx4.out)
  have M6 := M4.trans hm6
  have Hc6 := Lib.hid hc6
  clear hc6 hm6
  have HF : Hid (CraneF.wf ⟨x0, x1, x2, x3, x4, x5⟩) := Lib.hid ⟨by unfold maxLen; exact Nat.le_trans hs0 (by omega), i64_fit F1, i64_fit F2, i64_fit F3, i64_fit F4, i64_fit F5⟩
  clear F1 F2 F3 F4 F5
  have hal : Below w6.heap.size w6 (w6.alloc (.cells #[.string x0, .int .i64 x1, .int .i64 x2, .int .i64 x3, .int .i64 x4, .int .i64 x5, .slice none 0 0] 51)) := (Below.refl _ _).alloc (Nat.le_refl _) _
  have hN := Lib.hid (impl_cntR b 20 r6 bad6 _ (hu6.ext hal) hr6 (by omega))
  have hy6 := Lib.hid (blkN_new w6 (.cells #[.string x0, .int .i64 x1, .int .i64 x2, .int .i64 x3, .int .i64 x4, .int .i64 x5, .slice none 0 0] 51))
  have hx6a := Lib.hid (blkN_below hal hx6.out)
  have M6a := M6.then hal
  have hP := (Array.getElem?_eq_some_iff.1 hx6.out).1
  clear hu1 hu2 hu3 hu4 hu6 hal
  generalize hPP : w6.heap.size = P at *
  go_wp2_with fail
  refine hN.out.mono ?_
  rintro e w7 ⟨n, r7, bad7, rfl, hn10, hu7, hr7, hc7, hm7⟩
  have hx7 := Lib.hid ((hm7.block w.heap.size (Array.getElem?_eq_some_iff.1 hx6a.out).1 (.inr (by omega))).trans hx6a.out)
  have hy7 := Lib.hid ((hm7.block P (by simp [hPP]) (.inr (by omega))).trans hy6.out)
  have M7 := M6a.trans hm7
  have hP7 : P + 1 ≤ w7.heap.size := by have := hm7.size; simp [hPP] at this; omega
  have Hu7 := Lib.hid hu7
  have hcomp : Hid (∀ x r0, craneFit x → l = craneBytes x ++ r0 → (⟨x0, x1, x2, x3, x4, x5⟩ : CraneF) = x.1 ∧ n = x.2.length ∧ r7 = chsB x.2 ++ r0 ∧ bad7 = bad) := Lib.hid (by
    rintro ⟨⟨y0, y1, y2, y3, y4, y5⟩, a⟩ r0 ⟨f0, f1, f2, f3, f4, f5, f6⟩ he
    unfold craneBytes craneHead at he
    simp only [List.append_assoc] at he
    dsimp only at *
    obtain ⟨rfl, g1, q1⟩ := Hc1.out _ _ f0 he
    obtain ⟨rfl, rfl, g2, q2⟩ := Hc2.out _ _ _ f1.1 f1.2 g1
    obtain ⟨rfl, g3, q3⟩ := Hc3.out _ _ f2 g2
    obtain ⟨rfl, g4, q4⟩ := Hc4.out _ _ f3 g3
    obtain ⟨rfl, g6, q6⟩ := Hc6.out _ _ f4 g4
    obtain ⟨rfl, g7, q7⟩ := hc7 a.length _ (by omega) (f49_small (by omega) (by omega)) g6
    exact ⟨rfl, rfl, g7, by rw [q7, q6, q4, q3, q2, q1]⟩)
  clear Hc1 Hc2 Hc3 Hc4 Hc6 hc7 hm7 hu7 hN hx0 hx1 hx2 hx3 hx4 hx6 hx6a hy6 M0 M1 M2 M3 M4 M6 M6a hPP hr1 hr2 hr3 hr4 hr6
  go_wp2
  go_loopw [17] (fun i wr => ∃ (k : Nat) (s : SV) (acc : List Chs) (r : List UInt8) (bd : Bool), k ≤ n ∧ i = .int .i64 k ∧ Mod b (b + 1) w wr ∧ P + 1 ≤ wr.heap.size ∧ Hid (wr.heap[w.heap.size]? = some (.cells #[.string ⟨#[]⟩, .int .i64 0, .int .i64 0, .int .i64 0, .int .i64 0, .int .i64 0, .slice none 0 0] 51)) ∧ Hid (wr.heap[P]? = some (.cells #[.string x0, .int .i64 x1, .int .i64 x2, .int .i64 x3, .int .i64 x4, .int .i64 x5, s.v] 51)) ∧ Hid (Own 2 Chs.cells (P + 1) 48 wr s.v acc) ∧ acc.length = k ∧ Hid (∀ y ∈ acc, y.wf) ∧ Hid (Un b r bd wr) ∧ r.length ≤ 1048576 ∧
    Hid (∀ x r0, craneFit x → l = craneBytes x ++ r0 → acc = x.2.take k ∧ r = chsB (x.2.drop k) ++ r0 ∧ bd = bad)) (fun i _ => n - (intOf i).toNat)
  case atStart => exact ⟨0, ⟨none, 0, 0⟩, [], r7, bad7, Nat.zero_le _, rfl, M7, hP7, hx7, hy7, Lib.hid (own_nil _ _ _), rfl, Lib.hid (fun y hy => by cases hy), Hu7, hr7, Lib.hid (fun x r0 h1 h2 => by obtain ⟨_, _, h3, h4⟩ := hcomp.out x r0 h1 h2; exact ⟨by simp, by simpa using h3, h4⟩)⟩
  case round =>
    clear M7 hP7 hx7 hy7 Hu7 hr7
    obtain ⟨k, ⟨sa, sl, sc⟩, acc, r, bd, hk, rfl, hM, hsz, hx, hy, hown, hak, hwf, hu, hr, hcp⟩ := hrel
    have d0 : wr.cell? ⟨P, 0, none⟩ = some (.string x0) := (Lib.cell_of_heap hy.out 0).trans rfl
    have d1 : wr.cell? ⟨P, 1, none⟩ = some (.int .i64 x1) := (Lib.cell_of_heap hy.out 1).trans rfl
    have d2 : wr.cell? ⟨P, 2, none⟩ = some (.int .i64 x2) := (Lib.cell_of_heap hy.out 2).trans rfl
    have d3 : wr.cell? ⟨P, 3, none⟩ = some (.int .i64 x3) := (Lib.cell_of_heap hy.out 3).trans rfl
    have d4 : wr.cell? ⟨P, 4, none⟩ = some (.int .i64 x4) := (Lib.cell_of_heap hy.out 4).trans rfl
    have d5 : wr.cell? ⟨P, 5, none⟩ = some (.int .i64 x5) := (Lib.cell_of_heap hy.out 5).trans rfl
    have d6 : wr.cell? ⟨P, 6, none⟩ = some (.slice sa sl sc) := (Lib.cell_of_heap hy.out 6).trans rfl
    have hbP : b ≠ P := by omega
    by_cases hlt : k < n
    · have hN := Lib.hid (impl_numR b r bd wr.drew hu.out hr)
      go_wp2_with fail
      refine region_ph 8 (fun _ => True) (fun w' => w'.cell? ⟨P, 6, none⟩ = some (.slice sa sl sc)) (by kernel_rfl) trivial d6 (fun hp => ?_)
      refine take_ph 19 (i := 0) rfl rfl (by decide) (by kernel_rfl) (by kernel_rfl) (by kernel_rfl) (fun _ _ _ h => h) (by rfl) (fun w hSw => by (try dsimp only at hSw); go_simp; first | done | with_reducible rfl) hp (fun hp => ?_)
      try simp only [Act.put, List.setIfInBounds_toArray, List.set_cons_zero, List.set_cons_succ]
      refine take_ph1 20 (i := 1) rfl rfl (by decide) (by rfl) (by kernel_rfl) (by kernel_rfl) (by kernel_rfl) (by kernel_rfl) (fun _ _ _ h => h) (by rfl) (fun w hSw hBw => by (try dsimp only at hSw hBw); go_simp; first | done | with_reducible rfl) hp (fun hp => ?_)
      try simp only [Act.put, List.setIfInBounds_toArray, List.set_cons_zero, List.set_cons_succ]
      refine take_ph 21 (i := 2) rfl rfl (by decide) (by kernel_rfl) (by kernel_rfl) (by kernel_rfl) (fun _ _ _ h => h) (by rfl) (fun w hSw => by (try dsimp only at hSw); go_simp; first | done | with_reducible rfl) hp (fun hp => ?_)
      try simp only [Act.put, List.setIfInBounds_toArray, List.set_cons_zero, List.set_cons_succ]
      refine take_ph 23 (i := 4) rfl rfl (by decide) (by kernel_rfl) (by kernel_rfl) (by kernel_rfl) (fun _ _ _ h => h) (by rfl) (fun w hSw => by (try dsimp only at hSw); go_simp; first | done | with_reducible rfl) hp (fun hp => ?_)
      try simp only [Act.put, List.setIfInBounds_toArray, List.set_cons_zero, List.set_cons_succ]
      refine AnyL.one (i := 3) (by kernel_rfl) rfl (fun K hK => ?_)
      go_simp
      refine hN.out.mono ?_
      rintro e w8 ⟨v, r8, bd8, rfl, Fv, hu8, hr8, hc8, hm8⟩
      have m8 : Mod b (b + 1) wr w8 := (Mod.drewN (Mod.refl _ _ _) 1).trans hm8
      have hx8 := Lib.hid ((m8.block w.heap.size (Array.getElem?_eq_some_iff.1 hx.out).1 (.inr (by omega))).trans hx.out)
      have hy8 := Lib.hid ((m8.block P (by omega) (.inr (by omega))).trans hy.out)
      have ho8 := Lib.hid (own_mod2 hown.out m8 (by omega))
      have e8 : w8.cell? ⟨P, 6, none⟩ = some (.slice sa sl sc) := (Lib.cell_of_heap hy8.out 6).trans rfl
      have hs8 := m8.size
      have hN8 := Lib.hid (impl_numR b r8 bd8 w8 hu8 hr8)
      have Hc8 := Lib.hid hc8
      clear hu8 hc8 hm8 hN
      go_wp2_with fail
      refine hK.out _ _ (ph1 trivial e8) (fun hp => ?_)
      clear hK
      try simp only [Act.put, List.setIfInBounds_toArray, List.set_cons_zero, List.set_cons_succ]
      refine AnyL.one (i := 5) (by kernel_rfl) rfl (fun K hK => ?_)
      go_simp
      refine hN8.out.mono ?_
      rintro e wv ⟨u, rv, bdv, rfl, Fu, huv, hrv, hcv, hmv⟩
      have hwf9 : Hid (∀ y ∈ acc ++ [(⟨v, u⟩ : Chs)], y.wf) := Lib.hid (fun y hy => by
        rcases List.mem_append.1 hy with h | h
        · exact hwf.out y h
        · rw [List.mem_singleton.1 h]; exact ⟨i64_fit Fv, i64_fit Fu⟩)
      clear Fv Fu
      have mv := m8.trans hmv
      have hxv := Lib.hid ((hmv.block w.heap.size (Array.getElem?_eq_some_iff.1 hx8.out).1 (.inr (by omega))).trans hx8.out)
      have hyv := Lib.hid ((hmv.block P (by omega) (.inr (by omega))).trans hy8.out)
      have hov := Lib.hid (own_mod2 ho8.out hmv (by omega))
      have ev : wv.cell? ⟨P, 6, none⟩ = some (.slice sa sl sc) := (Lib.cell_of_heap hyv.out 6).trans rfl
      have hsv := hmv.size
      have Huv := Lib.hid huv
      have Hcv := Lib.hid hcv
      clear huv hcv hmv hN8
      go_wp2_with fail
      refine hK.out _ _ (ph1 trivial ev) (fun hp => ?_)
      clear hK
      try simp only [Act.put, List.setIfInBounds_toArray, List.set_cons_zero, List.set_cons_succ]
      refine AnyL.one (i := 6) (by kernel_rfl) rfl (fun K hK => ?_)
      go_simp
      refine hK.out _ _ (ph1 trivial ev) (fun hp => ?_)
      clear hK
      try simp only [Act.put, List.setIfInBounds_toArray, List.set_cons_zero, List.set_cons_succ]
      refine AnyL.one (i := 7) (by kernel_rfl) rfl (fun K hK => ?_)
      go_simp
      refine hK.out _ _ (ph1 trivial (by rw [World.cell?_alloc_lt _ _ _ (show P < _ by omega)]; exact ev)) (fun hp => ?_)
      clear hK
      try simp only [Act.put, List.setIfInBounds_toArray, List.set_cons_zero, List.set_cons_succ]
      refine AnyL.one (i := 8) (by kernel_rfl) rfl (fun K hK => ?_)
      refine step_app1 (c := Chs.cells) (bytes := 16) rfl _ _ 49 48 rfl Try.underlying49 info_ChartStep2 (by omega) (fun _ => rfl) Chs.one2 (P + 1) acc ⟨v, u⟩ (.slice sa sl sc) rfl wv rfl hov.out rfl (by omega) (by omega) (by omega) ?_
      intro v' w9 hown9 hg9
      have b9 : Below (P + 1) wv w9 := hov.out.app (Below.refl _ _) (Nat.le_refl _) (by omega) hg9
      obtain ⟨va, vc, rfl⟩ := own_sv hown9
      have hs9 := b9.size
      have hx9 := Lib.hid ((b9.block w.heap.size (by omega)).trans hxv.out)
      have hy9 := Lib.hid ((b9.block P (by omega)).trans hyv.out)
      have hu9 := Lib.hid (show Un b rv bdv w9 from (b9.block b (by omega)).trans Huv.out)
      have m9 : Mod b (b + 1) w w9 := ⟨b9.os.trans (hM.trans mv).os, b9.tape.trans (hM.trans mv).tape, b9.output.trans (hM.trans mv).output, Nat.le_trans (hM.trans mv).size hs9, fun q hq ho => (b9.block q (by omega)).trans ((hM.trans mv).block q hq ho)⟩
      have hl9 : (acc ++ [(⟨v, u⟩ : Chs)]).length = k + 1 := by rw [List.length_append, hak]; rfl
      rw [hl9]
      have Hown9 := Lib.hid (show Own 2 Chs.cells (P + 1) 48 w9 (.slice va (k + 1) vc) (acc ++ [⟨v, u⟩]) from hl9 ▸ hown9)
      have f9 : ∀ j, w9.frozen? ⟨P, j, none⟩ = false := fun j => Lib.frozen_of_heap hy9.out j
      have e9 : w9.cell? ⟨P, 6, none⟩ = some (.slice sa sl sc) := (Lib.cell_of_heap hy9.out 6).trans rfl
      refine hK.out _ _ (ph2 rfl trivial) (fun hp => ?_)
      clear hK hown9 hg9
      try simp only [Act.put, List.setIfInBounds_toArray]
      refine take_ph 28 (i := 9) rfl rfl (by decide) (by kernel_rfl) (by kernel_rfl) (by kernel_rfl) (fun _ _ _ h => h) (by rfl) (fun w hSw => by (try dsimp only at hSw); go_simp; first | done | with_reducible rfl) hp (fun hp => ?_)
      try simp only [Act.put]
      refine AnyL.one (i := 10) (by kernel_rfl) rfl (fun K hK => ?_)
      go_simp
      refine hK.out _ _ (ph2 rfl trivial) (fun hp => ?_)
      clear hK
      refine AnyL.done (by kernel_rfl) ?_ _
      have hx10 := Lib.hid ((Below.heap_setCell w9 ⟨P, 6, none⟩ (.slice va (k + 1) vc) w.heap.size (show w.heap.size ≠ P by omega)).trans hx9.out)
      have hy10 : Hid ((w9.setCell ⟨P, 6, none⟩ (.slice va (k + 1) vc)).heap[P]? = some (.cells #[.string x0, .int .i64 x1, .int .i64 x2, .int .i64 x3, .int .i64 x4, .int .i64 x5, .slice va (k + 1) vc] 51)) := Lib.hid (by have := hy9.out; simp [World.setCell, Array.getElem?_modify, this])
      have ho10 := Lib.hid (own_mod2 Hown9.out ((Mod.refl P (P + 1) w9).setCell (p := ⟨P, 6, none⟩) (Nat.le_refl _) (Nat.lt_succ_self _) (.slice va (k + 1) vc)) (Nat.le_refl _))
      have hu10 := Lib.hid (hu9.out.far (p := ⟨P, 6, none⟩) (show P ≠ b by omega) (.slice va (k + 1) vc))
      have m10 := m9.new (p := ⟨P, 6, none⟩) (show w.heap.size ≤ P by omega) (.slice va (k + 1) vc)
      have hs10 : P + 1 ≤ (w9.setCell ⟨P, 6, none⟩ (.slice va (k + 1) vc)).heap.size := by simp; omega
      have hcp10 : Hid (∀ x r0, craneFit x → l = craneBytes x ++ r0 → acc ++ [(⟨v, u⟩ : Chs)] = x.2.take (k + 1) ∧ rv = chsB (x.2.drop (k + 1)) ++ r0 ∧ bdv = bad) := Lib.hid (fun x r0 h1 h2 => by
        obtain ⟨_, hn, _, _⟩ := hcomp.out x r0 h1 h2
        obtain ⟨g1, g2, g3⟩ := hcp.out x r0 h1 h2
        have hkx : k < x.2.length := by omega
        rw [List.drop_eq_getElem_cons hkx] at g2
        unfold chsB at g2
        rw [List.flatMap_cons, List.append_assoc] at g2
        unfold chsB1 at g2
        rw [List.append_assoc] at g2
        have hfx := h1.2.2.2.2.2.2 _ (List.getElem_mem hkx)
        obtain ⟨g4, g5, g6⟩ := Hc8.out _ _ hfx.1 g2
        obtain ⟨g7, g8, g9⟩ := Hcv.out _ _ hfx.2 g5
        exact ⟨by rw [g1, g4, g7, List.take_succ_eq_append_getElem hkx], g8, g9.trans (g6.trans g3)⟩)
      go_wp2
      go_roundw
      case rel => exact ⟨k + 1, ⟨va, k + 1, vc⟩, acc ++ [(⟨v, u⟩ : Chs)], rv, bdv, by omega, by go_num, m10, hs10, hx10, hy10, ho10, hl9, hwf9, hu10, hrv, hcp10⟩
      case measure => simp [intOf]; omega
    · have hkk : k = n := by omega
      subst hkk
      have e0 : wr.cell? ⟨w.heap.size, 0, none⟩ = some _ := (Lib.cell_of_heap hx.out 0).trans rfl
      have e1 : wr.cell? ⟨w.heap.size, 1, none⟩ = some _ := (Lib.cell_of_heap hx.out 1).trans rfl
      have e2 : wr.cell? ⟨w.heap.size, 2, none⟩ = some _ := (Lib.cell_of_heap hx.out 2).trans rfl
      have e3 : wr.cell? ⟨w.heap.size, 3, none⟩ = some _ := (Lib.cell_of_heap hx.out 3).trans rfl
      have e4 : wr.cell? ⟨w.heap.size, 4, none⟩ = some _ := (Lib.cell_of_heap hx.out 4).trans rfl
      have e5 : wr.cell? ⟨w.heap.size, 5, none⟩ = some _ := (Lib.cell_of_heap hx.out 5).trans rfl
      have e6 : wr.cell? ⟨w.heap.size, 6, none⟩ = some _ := (Lib.cell_of_heap hx.out 6).trans rfl
      have ef : ∀ j, wr.frozen? ⟨w.heap.size, j, none⟩ = false := fun j => Lib.frozen_of_heap hx.out j
      have HM := Lib.hid hM
      have Hbl := Lib.hid hbl
      have hak10 : acc.length ≤ 20 := by omega
      clear hM
      have hfin : Hid (∀ x r0, craneFit x → l = craneBytes x ++ r0 → (⟨x0, x1, x2, x3, x4, x5⟩ : CraneF) = x.1 ∧ acc = x.2 ∧ r = r0 ∧ bd = bad) := Lib.hid (fun x r0 h1 h2 => by
        obtain ⟨g0, hn, _, _⟩ := hcomp.out x r0 h1 h2
        obtain ⟨g1, g2, g3⟩ := hcp.out x r0 h1 h2
        rw [hn, List.take_length] at g1
        rw [hn, List.drop_length] at g2
        exact ⟨g0, g1, by simpa [chsB] using g2, g3⟩)
      have hend : Hid (∀ W, Mod w.heap.size (w.heap.size + 1) wr W → Own 2 Chs.cells w.heap.size 48 W (.slice sa sl sc) acc ∧ acc.length ≤ 20 ∧ (CraneF.wf ⟨x0, x1, x2, x3, x4, x5⟩ ∧ ∀ y ∈ acc, y.wf) ∧ Un b r bd W ∧ r.length ≤ 1048576 ∧ (∀ x r0, craneFit x → l = craneBytes x ++ r0 → (⟨x0, x1, x2, x3, x4, x5⟩ : CraneF) = x.1 ∧ acc = x.2 ∧ r = r0 ∧ bd = bad) ∧ Mod b (b + 1) w W) := Lib.hid (fun W hW => ⟨(own_mod2 hown.out hW (by omega)).lower (by omega), hak10, ⟨HF.out, hwf.out⟩, hu.out.mod hW (.inl Hbl.out), hr, hfin.out, ⟨hW.os.trans HM.out.os, hW.tape.trans HM.out.tape, hW.output.trans HM.out.output, Nat.le_trans HM.out.size hW.size, fun q hq ho => (hW.block q (by have := HM.out.size; omega) (.inl hq)).trans (HM.out.block q hq ho)⟩⟩)
      clear hfin hcp hcomp
      go_wp2
      refine bodyPost_ret (v := .agg #[.string x0, .int .i64 x1, .int .i64 x2, .int .i64 x3, .int .i64 x4, .int .i64 x5, .slice sa sl sc]) (by simp [results, Try.results119, go_sem, e0, e1, e2, e3, e4, e5, e6]) rfl ?_
      refine ⟨⟨x0, x1, x2, x3, x4, x5⟩, ⟨sa, sl, sc⟩, acc, r, bd, rfl, hend.out _ ?_⟩
      exact (((((((Mod.refl _ _ _).setCell (p := ⟨w.heap.size, 0, none⟩) (Nat.le_refl _) (Nat.lt_succ_self _) _).setCell (p := ⟨w.heap.size, 1, none⟩) (Nat.le_refl _) (Nat.lt_succ_self _) _).setCell (p := ⟨w.heap.size, 2, none⟩) (Nat.le_refl _) (Nat.lt_succ_self _) _).setCell (p := ⟨w.heap.size, 3, none⟩) (Nat.le_refl _) (Nat.lt_succ_self _) _).setCell (p := ⟨w.heap.size, 4, none⟩) (Nat.le_refl _) (Nat.lt_succ_self _) _).setCell (p := ⟨w.heap.size, 5, none⟩) (Nat.le_refl _) (Nat.lt_succ_self _) _).setCell (p := ⟨w.heap.size, 6, none⟩) (Nat.le_refl _) (Nat.lt_succ_self _) _
end Go.Proofs.Ytgbohbjpdmgneaa
