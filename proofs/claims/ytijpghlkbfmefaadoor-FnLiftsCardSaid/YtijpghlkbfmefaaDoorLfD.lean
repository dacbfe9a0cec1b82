/- The draws of lifts. -/
import Derived.Test.YtijpghlkbfmefaaDoorDsP
import Derived.Test.YtijpghlkbfmefaaDoorLiftsW
import Derived.Test.YtijpghlkbfmefaaDoorNX
namespace Go.Proofs.YtijpghlkbfmefaaDoor
open Go.RowKit
theorem info_impl_LiftD : (Tryd.prog.info? 31).map (fun i => (i.zero.map (·.cells.size), i.size, i.bytes)) = some (some 9, 9, 96) := by kernel_rfl
theorem LiftR.oneD (r : LiftR) : ∀ u ∈ r.cells, u.oneCell' = true := by
  intro u hu
  simp [LiftR.cells, SV.v] at hu
  rcases hu with rfl | rfl | rfl | rfl | rfl | rfl | rfl | rfl | rfl <;> rfl
theorem TL_TID : (31 : Nat) ≠ 2 := by decide
theorem info_i64d : (Tryd.prog.info? 2).map (fun i => (i.zero.map (·.cells.size), i.size, i.bytes)) = some (some 1, 1, 8) := by kernel_rfl
abbrev OwnLD (lo : Nat) (w : World) (v : Value) (rs : List LiftR) (L : LiftsL) : Prop := OwnN 9 LiftR.cells LiftR.f LiftR.s 1 intCells lo 31 2 w v rs L
/-- What a lift that is drawn is. -/
def DrL (f : LiftF) (a : List Int) (k : Nat) : Prop := (1 ≤ f.weight ∧ f.weight ≤ 50000) ∧ Pl f.fx f.fy ∧ Pl f.tx f.ty ∧ (0 ≤ f.height ∧ f.height ≤ 2000) ∧ (1 ≤ f.deadline ∧ f.deadline ≤ 1000000) ∧ rises a k ∧ a.length ≤ k
def LoOut (b A : Nat) (nm : ByteArray) (k : Nat) (w : World) (e : Ending) (w' : World) : Prop :=
  ∃ (f : LiftF) (s : SV) (a : List Int), e = .returned (.agg (LiftR.cells ⟨f, s⟩).toArray) ∧ f.name = nm ∧ DrL f a k ∧ Own 1 intCells w.heap.size 2 w' s.v a ∧ Src b A w' ∧ Mod b (b + 1) w w'
theorem own_offL {α : Type} {m lo p o : Nat} {d : α → List Value} {e t : TypeId} {fz : Nat × Nat} {cs : Array Value} {w : World} {v u : Value} {l : List α} (h : Own m d lo e w v l) (hp : w.heap[p]? = some (.cells cs t fz)) (h1 : t ≠ e) : Own m d lo e (w.setCell ⟨p, o, none⟩ u) v l := by
  refine own_keep h fun g hg => Below.heap_setCell _ _ _ _ fun e => ?_
  obtain ⟨cur, fz', hc⟩ := h.block hg
  dsimp only at e
  rw [e, hp] at hc
  cases hc; exact h1 rfl
theorem own9 {α : Type} {m lo p : Nat} {d : α → List Value} {e t : TypeId} {fz : Nat × Nat} {cs : Array Value} {w : World} {v : Value} {l : List α} (h : Own m d lo e w v l) (hp : w.heap[p]? = some (.cells cs t fz)) (h1 : t ≠ e) (a0 a1 a2 a3 a4 a5 a6 a7 a8 : Value) : Own m d lo e (((((((((w.setCell ⟨p, 0, none⟩ a0).setCell ⟨p, 1, none⟩ a1).setCell ⟨p, 2, none⟩ a2).setCell ⟨p, 3, none⟩ a3).setCell ⟨p, 4, none⟩ a4).setCell ⟨p, 5, none⟩ a5).setCell ⟨p, 6, none⟩ a6).setCell ⟨p, 7, none⟩ a7).setCell ⟨p, 8, none⟩ a8) v l := by
  refine own_keep h fun g hg => ?_
  have hne : g ≠ p := fun e => by
    obtain ⟨cur, fz', hc⟩ := h.block hg
    rw [e, hp] at hc
    cases hc; exact h1 rfl
  exact ((Below.heap_setCell _ ⟨p, 8, none⟩ a8 g hne).trans ((Below.heap_setCell _ ⟨p, 7, none⟩ a7 g hne).trans ((Below.heap_setCell _ ⟨p, 6, none⟩ a6 g hne).trans ((Below.heap_setCell _ ⟨p, 5, none⟩ a5 g hne).trans ((Below.heap_setCell _ ⟨p, 4, none⟩ a4 g hne).trans ((Below.heap_setCell _ ⟨p, 3, none⟩ a3 g hne).trans ((Below.heap_setCell _ ⟨p, 2, none⟩ a2 g hne).trans ((Below.heap_setCell _ ⟨p, 1, none⟩ a1 g hne).trans (Below.heap_setCell w ⟨p, 0, none⟩ a0 g hne)))))))))
theorem set9 {w : World} {p : Nat} {T : TypeId} {fz : Nat × Nat} {c0 c1 c2 c3 c4 c5 c6 c7 c8 : Value} (h : w.heap[p]? = some (.cells #[c0, c1, c2, c3, c4, c5, c6, c7, c8] T fz)) (a0 a1 a2 a3 a4 a5 a6 a7 a8 : Value) : (((((((((w.setCell ⟨p, 0, none⟩ a0).setCell ⟨p, 1, none⟩ a1).setCell ⟨p, 2, none⟩ a2).setCell ⟨p, 3, none⟩ a3).setCell ⟨p, 4, none⟩ a4).setCell ⟨p, 5, none⟩ a5).setCell ⟨p, 6, none⟩ a6).setCell ⟨p, 7, none⟩ a7).setCell ⟨p, 8, none⟩ a8).heap[p]? = some (.cells #[a0, a1, a2, a3, a4, a5, a6, a7, a8] T fz) := by
  simp [World.setCell, Array.getElem?_modify, h]
theorem rises_push {acc : List Int} {j : Nat} (h : rises acc j) : rises (acc ++ [(j : Int)]) ((j + 1 : Nat) : Int) := by
  intro i hi
  have hlen : (acc ++ [(j : Int)]).length = acc.length + 1 := by simp
  by_cases hl : i < acc.length
  · have := h i hl
    refine ⟨?_, fun h0 => ?_⟩
    · rw [List.getElem_append_left hl]; have := this.1; omega
    · rw [List.getElem_append_left hl, List.getElem_append_left (by omega)]; exact this.2 h0
  · have e : i = acc.length := by omega
    subst e
    refine ⟨?_, fun h0 => ?_⟩
    · rw [List.getElem_append_right (Nat.le_refl _)]; simp only [Nat.sub_self, List.getElem_singleton]; omega
    · rw [List.getElem_append_right (Nat.le_refl _), List.getElem_append_left (by omega)]
      simp only [Nat.sub_self, List.getElem_singleton]
      have := (h (acc.length - 1) (by omega)).1
      omega
theorem rises_mono {acc : List Int} {j : Nat} (h : rises acc j) : rises acc ((j + 1 : Nat) : Int) := fun i hi => by
  have := h i hi
  exact ⟨⟨this.1.1, by have := this.1.2; omega⟩, this.2⟩
set_option maxRecDepth 100000 in
set_option maxHeartbeats 8000000 in
theorem draw_LOne (b A : Nat) (nm : ByteArray) (k : Nat) (w : World) (h : Src b A w) (hA : A ≤ 90000) (hk : k ≤ 20) : Calls Tryd.prog 45 #[.pointer (some ⟨b, 0, none⟩), .string nm, .int .i64 k] w (LoOut b (A + 60) nm k w) := by
  have hp := Lib.hid (fun A w' h hA n hn => src_pick b A n w' h hA hn)
  have ho := Lib.hid (fun A w' h hA n hn => src_one b A n w' h hA hn)
  have hbl := h.lt
  have hb0 := (Below.refl w.heap.size w).alloc (Nat.le_refl _) (.cells #[.string ByteArray.empty, .int .i64 0, .int .i64 0, .int .i64 0, .int .i64 0, .int .i64 0, .int .i64 0, .int .i64 0, .slice none 0 0] 31 (0, 0))
  have hS1 := Lib.hid (h.below hb0)
  have hM1 := Lib.hid (Mod.of_below (lo := b) (hi := b + 1) hb0)
  have hX1 : Hid ((w.alloc (.cells #[.string ByteArray.empty, .int .i64 0, .int .i64 0, .int .i64 0, .int .i64 0, .int .i64 0, .int .i64 0, .int .i64 0, .slice none 0 0] 31 (0, 0))).heap[w.heap.size]? = some (.cells #[.string ByteArray.empty, .int .i64 0, .int .i64 0, .int .i64 0, .int .i64 0, .int .i64 0, .int .i64 0, .int .i64 0, .slice none 0 0] 31 (0, 0))) := Lib.hid Array.getElem?_push_size
  clear h hb0
  go_enter Tryd.func45, Tryd.ntmps45
  go_wp2_with fail
  refine (draw_PtV b _ _ hS1.out (by omega)).mono ?_
  rintro e w2 ⟨x, y, rfl, hx, hy, hs2, hm2⟩
  have hS2 := Lib.hid hs2
  have hM2 := Lib.hid (hM1.out.trans hm2)
  have hX2 := Lib.hid (blk_modV hX1.out hm2 hbl)
  clear hs2 hm2 hS1 hM1 hX1
  have hszp := hM2.out.size
  have hpl := (Array.getElem?_eq_some_iff.1 hX2.out).1
  have hb3 := (Below.refl w2.heap.size w2).alloc (Nat.le_refl _) (.cells #[.string nm, .int .i64 0, .int .i64 x, .int .i64 y, .int .i64 0, .int .i64 0, .int .i64 0, .int .i64 0, .slice none 0 0] 31 (0, 0))
  have hS := Lib.hid (hS2.out.below hb3)
  have hM := Lib.hid (hM2.out.then hb3)
  have hX := Lib.hid ((hb3.block _ hpl).trans hX2.out)
  have hQ : Hid ((w2.alloc (.cells #[.string nm, .int .i64 0, .int .i64 x, .int .i64 y, .int .i64 0, .int .i64 0, .int .i64 0, .int .i64 0, .slice none 0 0] 31 (0, 0))).heap[w2.heap.size]? = some (.cells #[.string nm, .int .i64 0, .int .i64 x, .int .i64 y, .int .i64 0, .int .i64 0, .int .i64 0, .int .i64 0, .slice none 0 0] 31 (0, 0))) := Lib.hid Array.getElem?_push_size
  clear hb3 hS2 hM2 hX2
  go_wp2_with fail
  generalize w2.alloc (.cells #[.string nm, .int .i64 0, .int .i64 x, .int .i64 y, .int .i64 0, .int .i64 0, .int .i64 0, .int .i64 0, .slice none 0 0] 31 (0, 0)) = w3 at *
  refine (draw_PtV b _ _ hS.out (by omega)).mono ?_
  rintro e w4 ⟨x2, y2, rfl, hx2, hy2, hs, hm⟩
  have hQv := blk_modV hQ.out hm (by omega)
  have hXv := blk_modV hX.out hm (by omega)
  have f4 := Lib.frozen_of_heap hQv 4
  have f5 := Lib.frozen_of_heap hQv 5
  have d4 := (Lib.cell_of_heap hQv 4).trans rfl
  have d5 := (Lib.cell_of_heap hQv 5).trans rfl
  have hS := Lib.hid (src_setV (j := 5) (q := w2.heap.size) (src_setV (j := 4) (q := w2.heap.size) hs (by omega) (.int .i64 x2)) (by omega) (.int .i64 y2))
  have hM := Lib.hid (mod_setV (j := 5) (q := w2.heap.size) (mod_setV (j := 4) (q := w2.heap.size) (hM.out.trans hm) (by omega) (.int .i64 x2)) (by omega) (.int .i64 y2))
  have hX := Lib.hid (blk_offV (j := 5) (q := w2.heap.size) (blk_offV (j := 4) (q := w2.heap.size) hXv (by omega) (.int .i64 x2)) (by omega) (.int .i64 y2))
  have hQ := Lib.hid (blk_onV (j := 5) (blk_onV (j := 4) hQv (cs' := #[.string nm, .int .i64 0, .int .i64 x, .int .i64 y, .int .i64 x2, .int .i64 0, .int .i64 0, .int .i64 0, .slice none 0 0]) (v := .int .i64 x2) rfl) (cs' := #[.string nm, .int .i64 0, .int .i64 x, .int .i64 y, .int .i64 x2, .int .i64 y2, .int .i64 0, .int .i64 0, .slice none 0 0]) (v := .int .i64 y2) rfl)
  clear hs hm hQv hXv
  go_wp2_with fail
  clear f4 f5 d4 d5
  generalize (w4.setCell ⟨w2.heap.size, 4, none⟩ (.int .i64 x2)).setCell ⟨w2.heap.size, 5, none⟩ (.int .i64 y2) = w4' at *
  refine (hp.out _ _ hS.out (by omega) 3000 (by omega)).mono ?_
  rintro e w5 ⟨k5, rfl, ⟨hk5', hk5⟩, hs, hm⟩
  clear hk5'
  replace hk5 := hk5 (by omega)
  have hQv := blk_modV hQ.out hm (by omega)
  have fk5 := Lib.frozen_of_heap hQv 1
  have dk5 := (Lib.cell_of_heap hQv 1).trans rfl
  have hS := Lib.hid (src_setV (j := 1) (q := w2.heap.size) hs (by omega) (.int .i64 (100 + (k5 : Int))))
  have hM := Lib.hid (mod_setV (j := 1) (q := w2.heap.size) (hM.out.trans hm) (by omega) (.int .i64 (100 + (k5 : Int))))
  have hX := Lib.hid (blk_offV (j := 1) (q := w2.heap.size) (blk_modV hX.out hm hbl) (by omega) (.int .i64 (100 + (k5 : Int))))
  have hQ := Lib.hid (blk_onV (j := 1) hQv (cs' := #[.string nm, .int .i64 (100 + (k5 : Int)), .int .i64 x, .int .i64 y, .int .i64 x2, .int .i64 y2, .int .i64 0, .int .i64 0, .slice none 0 0]) (v := .int .i64 (100 + (k5 : Int))) rfl)
  clear hs hm hQv
  go_wp2_with fail
  clear fk5 dk5
  generalize (w5).setCell ⟨w2.heap.size, 1, none⟩ (.int .i64 (100 + (k5 : Int))) = w5 at *
  refine (hp.out _ _ hS.out (by omega) 300 (by omega)).mono ?_
  rintro e w6 ⟨k6, rfl, ⟨hk6', hk6⟩, hs, hm⟩
  clear hk6'
  replace hk6 := hk6 (by omega)
  have hQv := blk_modV hQ.out hm (by omega)
  have fk6 := Lib.frozen_of_heap hQv 6
  have dk6 := (Lib.cell_of_heap hQv 6).trans rfl
  have hS := Lib.hid (src_setV (j := 6) (q := w2.heap.size) hs (by omega) (.int .i64 ((k6 : Int))))
  have hM := Lib.hid (mod_setV (j := 6) (q := w2.heap.size) (hM.out.trans hm) (by omega) (.int .i64 ((k6 : Int))))
  have hX := Lib.hid (blk_offV (j := 6) (q := w2.heap.size) (blk_modV hX.out hm hbl) (by omega) (.int .i64 ((k6 : Int))))
  have hQ := Lib.hid (blk_onV (j := 6) hQv (cs' := #[.string nm, .int .i64 (100 + (k5 : Int)), .int .i64 x, .int .i64 y, .int .i64 x2, .int .i64 y2, .int .i64 k6, .int .i64 0, .slice none 0 0]) (v := .int .i64 ((k6 : Int))) rfl)
  clear hs hm hQv
  go_wp2_with fail
  clear fk6 dk6
  generalize (w6).setCell ⟨w2.heap.size, 6, none⟩ (.int .i64 ((k6 : Int))) = w6 at *
  refine (hp.out _ _ hS.out (by omega) 5000 (by omega)).mono ?_
  rintro e w7 ⟨k7, rfl, ⟨hk7', hk7⟩, hs, hm⟩
  clear hk7'
  replace hk7 := hk7 (by omega)
  have hQv := blk_modV hQ.out hm (by omega)
  have fk7 := Lib.frozen_of_heap hQv 7
  have dk7 := (Lib.cell_of_heap hQv 7).trans rfl
  have hS := Lib.hid (src_setV (j := 7) (q := w2.heap.size) hs (by omega) (.int .i64 (100 + (k7 : Int))))
  have hM := Lib.hid (mod_setV (j := 7) (q := w2.heap.size) (hM.out.trans hm) (by omega) (.int .i64 (100 + (k7 : Int))))
  have hX := Lib.hid (blk_offV (j := 7) (q := w2.heap.size) (blk_modV hX.out hm hbl) (by omega) (.int .i64 (100 + (k7 : Int))))
  have hQ := Lib.hid (blk_onV (j := 7) hQv (cs' := #[.string nm, .int .i64 (100 + (k5 : Int)), .int .i64 x, .int .i64 y, .int .i64 x2, .int .i64 y2, .int .i64 k6, .int .i64 (100 + (k7 : Int)), .slice none 0 0]) (v := .int .i64 (100 + (k7 : Int))) rfl)
  clear hs hm hQv
  go_wp2_with fail
  clear fk7 dk7
  generalize (w7).setCell ⟨w2.heap.size, 7, none⟩ (.int .i64 (100 + (k7 : Int))) = w7 at *
  have Hbd := Lib.hid (show DrL ⟨nm, 100 + (k5 : Int), x, y, x2, y2, k6, 100 + (k7 : Int)⟩ [] 0 from ⟨⟨by show 1 ≤ 100 + (k5 : Int); omega, by show 100 + (k5 : Int) ≤ 50000; omega⟩, ⟨by show -10000 ≤ x ∧ x ≤ 10000; omega, by show -10000 ≤ y ∧ y ≤ 10000; omega⟩, ⟨by show -10000 ≤ x2 ∧ x2 ≤ 10000; omega, by show -10000 ≤ y2 ∧ y2 ≤ 10000; omega⟩, ⟨by show 0 ≤ (k6 : Int); omega, by show (k6 : Int) ≤ 2000; omega⟩, ⟨by show 1 ≤ 100 + (k7 : Int); omega, by show 100 + (k7 : Int) ≤ 1000000; omega⟩, fun i h => absurd h (by simp), by simp⟩)
  clear hx hy hx2 hy2 hk5 hk6 hk7
  have Hb := Lib.hid (show A ≤ 90000 ∧ k ≤ 20 ∧ b < w.heap.size ∧ w.heap.size < w2.heap.size from ⟨hA, hk, hbl, hpl⟩)
  have hbl' := Lib.hid hbl
  have hSv : Hid (Own 1 intCells w.heap.size 2 w7 (.slice none 0 0) ([] : List Int)) := Lib.hid (own_nil _ _ _)
  go_wp2_with fail
  go_loopw [8] (fun i wr => ∃ (j : Nat) (s : SV) (acc : List Int), i = .int .i64 j ∧ j ≤ k ∧ Hid (Own 1 intCells w.heap.size 2 wr s.v acc) ∧ Hid (rises acc j ∧ acc.length ≤ j) ∧ Hid (wr.heap[w2.heap.size]? = some (.cells #[.string nm, .int .i64 (100 + (k5 : Int)), .int .i64 x, .int .i64 y, .int .i64 x2, .int .i64 y2, .int .i64 k6, .int .i64 (100 + (k7 : Int)), s.v] 31 (0, 0))) ∧ Hid (wr.heap[w.heap.size]? = some (.cells #[.string ByteArray.empty, .int .i64 0, .int .i64 0, .int .i64 0, .int .i64 0, .int .i64 0, .int .i64 0, .int .i64 0, .slice none 0 0] 31 (0, 0))) ∧ Hid (Src b (A + 16 + 2 * j) wr) ∧ Hid (Mod b (b + 1) w wr)) (fun i _ => k - (intOf i).toNat)
  case atStart => exact ⟨0, ⟨none, 0, 0⟩, [], rfl, Nat.zero_le _, hSv, Lib.hid ⟨fun i h => absurd h (by simp), by simp⟩, hQ, hX, Lib.hid (hS.out.mono (by omega)), hM⟩
  case round =>
    clear hSv hQ hX hS hM hA hk hbl hszp hpl
    obtain ⟨j, ⟨sa, sl, sc⟩, acc, rfl, hj, hown, hris, hQ, hX, hS, hM⟩ := hrel
    have hszr := Lib.hid hM.out.size
    simp only [SV.v] at hown hQ
    by_cases hlt : j < k
    · have hlt' : (j : Int) < (k : Int) := by omega
      have Hj := Lib.hid (show j < k ∧ j ≤ k from ⟨hlt, hj⟩)
      clear hlt hj
      have hjw : IntKind.i64.wrap ((j : Int) + 1) = (j : Int) + 1 := IntWalk.i64_in _ (by have := Hj.out; have := Hb.out; omega)
      go_wp2_with fail
      refine (ho.out _ _ hS.out (by have := Hb.out; have := Hj.out; omega) 4 (by omega)).mono ?_
      rintro e w8 ⟨bb, rfl, hs8, hm8⟩
      have hQ := Lib.hid (blk_modV hQ.out hm8 (by have := Hb.out; omega))
      have hX := Lib.hid (blk_modV hX.out hm8 hbl'.out)
      have hM8 := Lib.hid (hM.out.trans hm8)
      have hS8 := Lib.hid hs8
      have hown := Lib.hid (hown.out.mod hm8 (by have := Hb.out; omega))
      have hz8 := Lib.hid hM8.out.size
      clear hs8 hm8 hS hM
      cases bb
      · go_wp2_with fail
        go_roundw
        case rel => exact ⟨j + 1, ⟨sa, sl, sc⟩, acc, by go_num, by have := Hj.out; omega, hown, Lib.hid ⟨rises_mono hris.out.1, by have := hris.out.2; omega⟩, hQ, hX, Lib.hid (hS8.out.mono (by omega)), hM8⟩
        case measure => have := Hj.out; simp [intOf]; omega
      · obtain ⟨ga, gc, hv⟩ := own_sv hown.out
        obtain ⟨na, hna⟩ : ∃ na, acc.length = na := ⟨_, rfl⟩
        rw [hna] at hv
        obtain rfl : na = sl := by cases hv; rfl
        clear hv
        have Hna := Lib.hid hna
        have hnj := Lib.hid (show na ≤ 20 by have := hris.out.2; have := Hb.out; have := Hj.out; omega)
        clear hna
        have c8 : w8.cell? ⟨w2.heap.size, 8, none⟩ = some (.slice sa na sc) := (Lib.cell_of_heap hQ.out 8).trans rfl
        go_wp2_with (at_builtin; refine wpList_app1 (c := intCells) (bytes := 8) rfl _ _ 29 2 rfl Tryd.underlying29 info_i64d (by omega) intCells_len intCells_one w.heap.size acc (j : Int) _ rfl w8 rfl hown.out rfl (by rw [Hna.out]; have := hnj.out; omega) (by rw [Hna.out]; have := hnj.out; omega) hz8.out ?_; intro v9 w9 hown9 hg9; obtain ⟨ga, gc, rfl⟩ := own_sv hown9; have hln : (acc ++ [(j : Int)]).length = na + 1 := (by rw [List.length_append, Hna.out]; rfl); rw [hln] at hown9 ⊢; have hB9 := hown.out.app (Below.refl w.heap.size w8) (Nat.le_refl _) hz8.out hg9; have hQ9 := Lib.hid (grown_block hown.out hQ.out (by decide) hg9); have hX9 := Lib.hid (grown_block hown.out hX.out (by decide) hg9); have f8 := Lib.frozen_of_heap hQ9.out 8; have d8 : w9.cell? ⟨w2.heap.size, 8, none⟩ = some (.slice sa na sc) := (Lib.cell_of_heap hQ9.out 8).trans rfl; have hO9 := Lib.hid hown9; clear hown9 hg9)
        go_roundw
        case rel => exact ⟨j + 1, ⟨ga, na + 1, gc⟩, acc ++ [(j : Int)], by go_num, by have := Hj.out; omega, Lib.hid (own_offL hO9.out hQ9.out (by decide)), Lib.hid ⟨rises_push hris.out.1, by rw [hln]; have := hris.out.2; have := Hna.out; omega⟩, Lib.hid (blk_onV hQ9.out rfl), Lib.hid (blk_offV hX9.out (by have := Hb.out; omega) _), Lib.hid ((src_setV (hS8.out.lo hB9 (by have := Hb.out; omega)) (by have := Hb.out; omega) _).mono (by omega)), Lib.hid (mod_setV (hM8.out.onV hB9) (by have := Hb.out; omega) _)⟩
        case measure => have := Hj.out; simp [intOf]; omega
    · have hjk : j = k := by omega
      clear hlt hj
      subst hjk
      have hlt' : ¬ (j : Int) < (j : Int) := by omega
      have c0 : wr.cell? ⟨w2.heap.size, 0, none⟩ = some (.string nm) := (Lib.cell_of_heap hQ.out 0).trans rfl
      have c1 : wr.cell? ⟨w2.heap.size, 1, none⟩ = some (.int .i64 (100 + (k5 : Int))) := (Lib.cell_of_heap hQ.out 1).trans rfl
      have c2 : wr.cell? ⟨w2.heap.size, 2, none⟩ = some (.int .i64 x) := (Lib.cell_of_heap hQ.out 2).trans rfl
      have c3 : wr.cell? ⟨w2.heap.size, 3, none⟩ = some (.int .i64 y) := (Lib.cell_of_heap hQ.out 3).trans rfl
      have c4 : wr.cell? ⟨w2.heap.size, 4, none⟩ = some (.int .i64 x2) := (Lib.cell_of_heap hQ.out 4).trans rfl
      have c5 : wr.cell? ⟨w2.heap.size, 5, none⟩ = some (.int .i64 y2) := (Lib.cell_of_heap hQ.out 5).trans rfl
      have c6 : wr.cell? ⟨w2.heap.size, 6, none⟩ = some (.int .i64 k6) := (Lib.cell_of_heap hQ.out 6).trans rfl
      have c7 : wr.cell? ⟨w2.heap.size, 7, none⟩ = some (.int .i64 (100 + (k7 : Int))) := (Lib.cell_of_heap hQ.out 7).trans rfl
      have c8 : wr.cell? ⟨w2.heap.size, 8, none⟩ = some (.slice sa sl sc) := (Lib.cell_of_heap hQ.out 8).trans rfl
      have fx := fun j => Lib.frozen_of_heap hX.out j
      have e0 : wr.cell? ⟨w.heap.size, 0, none⟩ = some (.string ByteArray.empty) := (Lib.cell_of_heap hX.out 0).trans rfl
      have e1 : wr.cell? ⟨w.heap.size, 1, none⟩ = some (.int .i64 0) := (Lib.cell_of_heap hX.out 1).trans rfl
      have e2 : wr.cell? ⟨w.heap.size, 2, none⟩ = some (.int .i64 0) := (Lib.cell_of_heap hX.out 2).trans rfl
      have e3 : wr.cell? ⟨w.heap.size, 3, none⟩ = some (.int .i64 0) := (Lib.cell_of_heap hX.out 3).trans rfl
      have e4 : wr.cell? ⟨w.heap.size, 4, none⟩ = some (.int .i64 0) := (Lib.cell_of_heap hX.out 4).trans rfl
      have e5 : wr.cell? ⟨w.heap.size, 5, none⟩ = some (.int .i64 0) := (Lib.cell_of_heap hX.out 5).trans rfl
      have e6 : wr.cell? ⟨w.heap.size, 6, none⟩ = some (.int .i64 0) := (Lib.cell_of_heap hX.out 6).trans rfl
      have e7 : wr.cell? ⟨w.heap.size, 7, none⟩ = some (.int .i64 0) := (Lib.cell_of_heap hX.out 7).trans rfl
      have e8 : wr.cell? ⟨w.heap.size, 8, none⟩ = some (.slice none 0 0) := (Lib.cell_of_heap hX.out 8).trans rfl
      have hne : w.heap.size ≠ w2.heap.size := by have := Hb.out; omega
      have hne2 : w2.heap.size ≠ w.heap.size := fun e => hne e.symm
      have hF : Hid (DrL ⟨nm, 100 + (k5 : Int), x, y, x2, y2, k6, 100 + (k7 : Int)⟩ acc j) := Lib.hid ⟨Hbd.out.1, Hbd.out.2.1, Hbd.out.2.2.1, Hbd.out.2.2.2.1, Hbd.out.2.2.2.2.1, hris.out.1, hris.out.2⟩
      have hO9 := Lib.hid (own9 hown.out hX.out (by decide) (.string nm) (.int .i64 (100 + (k5 : Int))) (.int .i64 x) (.int .i64 y) (.int .i64 x2) (.int .i64 y2) (.int .i64 k6) (.int .i64 (100 + (k7 : Int))) (.slice sa sl sc))
      have hS9 := Lib.hid (src_setV (j := 8) (q := w.heap.size) (src_setV (j := 7) (q := w.heap.size) (src_setV (j := 6) (q := w.heap.size) (src_setV (j := 5) (q := w.heap.size) (src_setV (j := 4) (q := w.heap.size) (src_setV (j := 3) (q := w.heap.size) (src_setV (j := 2) (q := w.heap.size) (src_setV (j := 1) (q := w.heap.size) (src_setV (j := 0) (q := w.heap.size) (hS.out) (by have := Hb.out; omega) (.string nm)) (by have := Hb.out; omega) (.int .i64 (100 + (k5 : Int)))) (by have := Hb.out; omega) (.int .i64 x)) (by have := Hb.out; omega) (.int .i64 y)) (by have := Hb.out; omega) (.int .i64 x2)) (by have := Hb.out; omega) (.int .i64 y2)) (by have := Hb.out; omega) (.int .i64 k6)) (by have := Hb.out; omega) (.int .i64 (100 + (k7 : Int)))) (by have := Hb.out; omega) (.slice sa sl sc))
      have hM9 := Lib.hid (mod_setV (j := 8) (q := w.heap.size) (mod_setV (j := 7) (q := w.heap.size) (mod_setV (j := 6) (q := w.heap.size) (mod_setV (j := 5) (q := w.heap.size) (mod_setV (j := 4) (q := w.heap.size) (mod_setV (j := 3) (q := w.heap.size) (mod_setV (j := 2) (q := w.heap.size) (mod_setV (j := 1) (q := w.heap.size) (mod_setV (j := 0) (q := w.heap.size) (hM.out) (Nat.le_refl _) (.string nm)) (Nat.le_refl _) (.int .i64 (100 + (k5 : Int)))) (Nat.le_refl _) (.int .i64 x)) (Nat.le_refl _) (.int .i64 y)) (Nat.le_refl _) (.int .i64 x2)) (Nat.le_refl _) (.int .i64 y2)) (Nat.le_refl _) (.int .i64 k6)) (Nat.le_refl _) (.int .i64 (100 + (k7 : Int)))) (Nat.le_refl _) (.slice sa sl sc))
      have hZ9 := set9 hX.out (.string nm) (.int .i64 (100 + (k5 : Int))) (.int .i64 x) (.int .i64 y) (.int .i64 x2) (.int .i64 y2) (.int .i64 k6) (.int .i64 (100 + (k7 : Int))) (.slice sa sl sc)
      have z0 : (((((((((wr.setCell ⟨w.heap.size, 0, none⟩ (.string nm)).setCell ⟨w.heap.size, 1, none⟩ (.int .i64 (100 + (k5 : Int)))).setCell ⟨w.heap.size, 2, none⟩ (.int .i64 x)).setCell ⟨w.heap.size, 3, none⟩ (.int .i64 y)).setCell ⟨w.heap.size, 4, none⟩ (.int .i64 x2)).setCell ⟨w.heap.size, 5, none⟩ (.int .i64 y2)).setCell ⟨w.heap.size, 6, none⟩ (.int .i64 k6)).setCell ⟨w.heap.size, 7, none⟩ (.int .i64 (100 + (k7 : Int)))).setCell ⟨w.heap.size, 8, none⟩ (.slice sa sl sc)).cell? ⟨w.heap.size, 0, none⟩ = some (.string nm) := (Lib.cell_of_heap hZ9 0).trans rfl
      have z1 : (((((((((wr.setCell ⟨w.heap.size, 0, none⟩ (.string nm)).setCell ⟨w.heap.size, 1, none⟩ (.int .i64 (100 + (k5 : Int)))).setCell ⟨w.heap.size, 2, none⟩ (.int .i64 x)).setCell ⟨w.heap.size, 3, none⟩ (.int .i64 y)).setCell ⟨w.heap.size, 4, none⟩ (.int .i64 x2)).setCell ⟨w.heap.size, 5, none⟩ (.int .i64 y2)).setCell ⟨w.heap.size, 6, none⟩ (.int .i64 k6)).setCell ⟨w.heap.size, 7, none⟩ (.int .i64 (100 + (k7 : Int)))).setCell ⟨w.heap.size, 8, none⟩ (.slice sa sl sc)).cell? ⟨w.heap.size, 1, none⟩ = some (.int .i64 (100 + (k5 : Int))) := (Lib.cell_of_heap hZ9 1).trans rfl
      have z2 : (((((((((wr.setCell ⟨w.heap.size, 0, none⟩ (.string nm)).setCell ⟨w.heap.size, 1, none⟩ (.int .i64 (100 + (k5 : Int)))).setCell ⟨w.heap.size, 2, none⟩ (.int .i64 x)).setCell ⟨w.heap.size, 3, none⟩ (.int .i64 y)).setCell ⟨w.heap.size, 4, none⟩ (.int .i64 x2)).setCell ⟨w.heap.size, 5, none⟩ (.int .i64 y2)).setCell ⟨w.heap.size, 6, none⟩ (.int .i64 k6)).setCell ⟨w.heap.size, 7, none⟩ (.int .i64 (100 + (k7 : Int)))).setCell ⟨w.heap.size, 8, none⟩ (.slice sa sl sc)).cell? ⟨w.heap.size, 2, none⟩ = some (.int .i64 x) := (Lib.cell_of_heap hZ9 2).trans rfl
      have z3 : (((((((((wr.setCell ⟨w.heap.size, 0, none⟩ (.string nm)).setCell ⟨w.heap.size, 1, none⟩ (.int .i64 (100 + (k5 : Int)))).setCell ⟨w.heap.size, 2, none⟩ (.int .i64 x)).setCell ⟨w.heap.size, 3, none⟩ (.int .i64 y)).setCell ⟨w.heap.size, 4, none⟩ (.int .i64 x2)).setCell ⟨w.heap.size, 5, none⟩ (.int .i64 y2)).setCell ⟨w.heap.size, 6, none⟩ (.int .i64 k6)).setCell ⟨w.heap.size, 7, none⟩ (.int .i64 (100 + (k7 : Int)))).setCell ⟨w.heap.size, 8, none⟩ (.slice sa sl sc)).cell? ⟨w.heap.size, 3, none⟩ = some (.int .i64 y) := (Lib.cell_of_heap hZ9 3).trans rfl
      have z4 : (((((((((wr.setCell ⟨w.heap.size, 0, none⟩ (.string nm)).setCell ⟨w.heap.size, 1, none⟩ (.int .i64 (100 + (k5 : Int)))).setCell ⟨w.heap.size, 2, none⟩ (.int .i64 x)).setCell ⟨w.heap.size, 3, none⟩ (.int .i64 y)).setCell ⟨w.heap.size, 4, none⟩ (.int .i64 x2)).setCell ⟨w.heap.size, 5, none⟩ (.int .i64 y2)).setCell ⟨w.heap.size, 6, none⟩ (.int .i64 k6)).setCell ⟨w.heap.size, 7, none⟩ (.int .i64 (100 + (k7 : Int)))).setCell ⟨w.heap.size, 8, none⟩ (.slice sa sl sc)).cell? ⟨w.heap.size, 4, none⟩ = some (.int .i64 x2) := (Lib.cell_of_heap hZ9 4).trans rfl
      have z5 : (((((((((wr.setCell ⟨w.heap.size, 0, none⟩ (.string nm)).setCell ⟨w.heap.size, 1, none⟩ (.int .i64 (100 + (k5 : Int)))).setCell ⟨w.heap.size, 2, none⟩ (.int .i64 x)).setCell ⟨w.heap.size, 3, none⟩ (.int .i64 y)).setCell ⟨w.heap.size, 4, none⟩ (.int .i64 x2)).setCell ⟨w.heap.size, 5, none⟩ (.int .i64 y2)).setCell ⟨w.heap.size, 6, none⟩ (.int .i64 k6)).setCell ⟨w.heap.size, 7, none⟩ (.int .i64 (100 + (k7 : Int)))).setCell ⟨w.heap.size, 8, none⟩ (.slice sa sl sc)).cell? ⟨w.heap.size, 5, none⟩ = some (.int .i64 y2) := (Lib.cell_of_heap hZ9 5).trans rfl
      have z6 : (((((((((wr.setCell ⟨w.heap.size, 0, none⟩ (.string nm)).setCell ⟨w.heap.size, 1, none⟩ (.int .i64 (100 + (k5 : Int)))).setCell ⟨w.heap.size, 2, none⟩ (.int .i64 x)).setCell ⟨w.heap.size, 3, none⟩ (.int .i64 y)).setCell ⟨w.heap.size, 4, none⟩ (.int .i64 x2)).setCell ⟨w.heap.size, 5, none⟩ (.int .i64 y2)).setCell ⟨w.heap.size, 6, none⟩ (.int .i64 k6)).setCell ⟨w.heap.size, 7, none⟩ (.int .i64 (100 + (k7 : Int)))).setCell ⟨w.heap.size, 8, none⟩ (.slice sa sl sc)).cell? ⟨w.heap.size, 6, none⟩ = some (.int .i64 k6) := (Lib.cell_of_heap hZ9 6).trans rfl
      have z7 : (((((((((wr.setCell ⟨w.heap.size, 0, none⟩ (.string nm)).setCell ⟨w.heap.size, 1, none⟩ (.int .i64 (100 + (k5 : Int)))).setCell ⟨w.heap.size, 2, none⟩ (.int .i64 x)).setCell ⟨w.heap.size, 3, none⟩ (.int .i64 y)).setCell ⟨w.heap.size, 4, none⟩ (.int .i64 x2)).setCell ⟨w.heap.size, 5, none⟩ (.int .i64 y2)).setCell ⟨w.heap.size, 6, none⟩ (.int .i64 k6)).setCell ⟨w.heap.size, 7, none⟩ (.int .i64 (100 + (k7 : Int)))).setCell ⟨w.heap.size, 8, none⟩ (.slice sa sl sc)).cell? ⟨w.heap.size, 7, none⟩ = some (.int .i64 (100 + (k7 : Int))) := (Lib.cell_of_heap hZ9 7).trans rfl
      have z8 : (((((((((wr.setCell ⟨w.heap.size, 0, none⟩ (.string nm)).setCell ⟨w.heap.size, 1, none⟩ (.int .i64 (100 + (k5 : Int)))).setCell ⟨w.heap.size, 2, none⟩ (.int .i64 x)).setCell ⟨w.heap.size, 3, none⟩ (.int .i64 y)).setCell ⟨w.heap.size, 4, none⟩ (.int .i64 x2)).setCell ⟨w.heap.size, 5, none⟩ (.int .i64 y2)).setCell ⟨w.heap.size, 6, none⟩ (.int .i64 k6)).setCell ⟨w.heap.size, 7, none⟩ (.int .i64 (100 + (k7 : Int)))).setCell ⟨w.heap.size, 8, none⟩ (.slice sa sl sc)).cell? ⟨w.heap.size, 8, none⟩ = some (.slice sa sl sc) := (Lib.cell_of_heap hZ9 8).trans rfl
      have hZ9 := Lib.hid hZ9
      clear hown hris hQ hX hS hM
      go_wp2_with fail
      exact bodyPost_ret (v := .agg #[.string nm, .int .i64 (100 + (k5 : Int)), .int .i64 x, .int .i64 y, .int .i64 x2, .int .i64 y2, .int .i64 k6, .int .i64 (100 + (k7 : Int)), .slice sa sl sc] ) (by simp [results, Tryd.results45, go_sem, z0, z1, z2, z3, z4, z5, z6, z7, z8]) rfl ⟨⟨nm, 100 + (k5 : Int), x, y, x2, y2, k6, 100 + (k7 : Int)⟩, ⟨sa, sl, sc⟩, acc, rfl, rfl, hF.out, hO9.out, hS9.out.mono (by have := Hb.out; omega), hM9.out⟩
def nm11 : Array Value := #[.string ⟨#[97]⟩, .string ⟨#[98]⟩, .string ⟨#[99]⟩, .string ⟨#[100]⟩, .string ⟨#[101]⟩, .string ⟨#[102]⟩, .string ⟨#[103]⟩, .string ⟨#[104]⟩, .string ⟨#[105]⟩, .string ⟨#[106]⟩, .string ⟨#[107]⟩]
def nmL (i : Nat) : ByteArray := ⟨#[UInt8.ofNat (97 + i)]⟩
theorem nm11_at (i : Nat) (h : i < 6) : nm11[i]? = some (.string (nmL i)) := by
  match i, h with
  | 0, _ => rfl
  | 1, _ => rfl
  | 2, _ => rfl
  | 3, _ => rfl
  | 4, _ => rfl
  | 5, _ => rfl
theorem nmL_ok (i : Nat) (h : i < 6) : isNm (nmL i) := by
  refine ⟨Nat.le_refl 1, show (1 : Nat) ≤ 12 by omega, fun j hj => ?_⟩
  have hj0 : j = 0 := by have : j < 1 := hj; omega
  subst hj0
  match i, h with
  | 0, _ => exact .inl (show 97 ≤ (97 : UInt8).toNat ∧ (97 : UInt8).toNat ≤ 122 by decide)
  | 1, _ => exact .inl (show 97 ≤ (98 : UInt8).toNat ∧ (98 : UInt8).toNat ≤ 122 by decide)
  | 2, _ => exact .inl (show 97 ≤ (99 : UInt8).toNat ∧ (99 : UInt8).toNat ≤ 122 by decide)
  | 3, _ => exact .inl (show 97 ≤ (100 : UInt8).toNat ∧ (100 : UInt8).toNat ≤ 122 by decide)
  | 4, _ => exact .inl (show 97 ≤ (101 : UInt8).toNat ∧ (101 : UInt8).toNat ≤ 122 by decide)
  | 5, _ => exact .inl (show 97 ≤ (102 : UInt8).toNat ∧ (102 : UInt8).toNat ≤ 122 by decide)
theorem nmL_inj {i j : Nat} (hi : i < 6) (hj : j < 6) (h : nmL i = nmL j) : i = j := by
  match i, j, hi, hj with
  | 0, 0, _, _ | 1, 1, _, _ | 2, 2, _, _ | 3, 3, _, _ | 4, 4, _, _ | 5, 5, _, _ => rfl
  | 0, 1, _, _ | 0, 2, _, _ | 0, 3, _, _ | 0, 4, _, _ | 0, 5, _, _ | 1, 0, _, _ | 1, 2, _, _ | 1, 3, _, _ | 1, 4, _, _ | 1, 5, _, _ | 2, 0, _, _ | 2, 1, _, _ | 2, 3, _, _ | 2, 4, _, _ | 2, 5, _, _ | 3, 0, _, _ | 3, 1, _, _ | 3, 2, _, _ | 3, 4, _, _ | 3, 5, _, _ | 4, 0, _, _ | 4, 1, _, _ | 4, 2, _, _ | 4, 3, _, _ | 4, 5, _, _ | 5, 0, _, _ | 5, 1, _, _ | 5, 2, _, _ | 5, 3, _, _ | 5, 4, _, _ => exact absurd h (by decide)
theorem spec_Names8 (w : World) : Calls Tryd.prog 43 #[] w fun e w' => e = .returned (.slice (some ⟨w.heap.size, 0, none⟩) 11 11) ∧ w' = w.alloc (.cells nm11 9 (0, 0)) := by
  go_enter Tryd.func43, Tryd.ntmps43
  go_wp2
  go_ret
  exact ⟨rfl, rfl⟩
/-- Lifts that are drawn. -/
def DrLs (L : LiftsL) : Prop := ∀ i (h : i < L.length), L[i].1.name = nmL i ∧ DrL L[i].1 L[i].2 i
theorem DrLs.push {L : LiftsL} {x : LiftF × List Int} (h : DrLs L) (hx : x.1.name = nmL L.length ∧ DrL x.1 x.2 L.length) : DrLs (L ++ [x]) := fun i hi => by
  by_cases hl : i < L.length
  · rw [List.getElem_append_left hl]; exact h i hl
  · have e : i = L.length := by rw [List.length_append, List.length_singleton] at hi; omega
    subst e
    rw [List.getElem_append_right (Nat.le_refl _)]
    simp only [Nat.sub_self, List.getElem_singleton]
    exact hx
theorem DrLs.ok {L : LiftsL} (h : DrLs L) (hl : L.length ≤ 6) : liftsOk L := by
  refine ⟨fun i hi => ⟨?_, fun j hj e => ?_⟩, by omega⟩
  · obtain ⟨hn, h1, h2, h3, h4, h5, h6, _⟩ := h i hi
    exact ⟨by rw [hn]; exact nmL_ok i (by omega), h1, h2, h3, h4, h5, h6⟩
  · rw [(h i hi).1, (h j (by omega)).1] at e
    have := nmL_inj (by omega) (by omega) e
    omega
def LsOut (b A : Nat) (w : World) (e : Ending) (w' : World) : Prop :=
  ∃ (v : Value) (rs : List LiftR) (L : LiftsL), e = .returned v ∧ OwnLD w.heap.size w' v rs L ∧ L.length ≤ 6 ∧ DrLs L ∧ Src b A w' ∧ Mod b (b + 1) w w'
set_option maxRecDepth 100000 in
set_option maxHeartbeats 8000000 in
theorem draw_Lifts (b A : Nat) (w : World) (h : Src b A w) (hA : A ≤ 80000) : Calls Tryd.prog 19 #[.pointer (some ⟨b, 0, none⟩), .int .i64 6] w (LsOut b (A + 400) w) := by
  have hp := Lib.hid (fun A w' h hA n hn => src_pick b A n w' h hA hn)
  have hbl := h.lt
  have hb0 := (Below.refl w.heap.size w).alloc (Nat.le_refl _) (.cells #[] 31 (0, 0))
  have hS1 := Lib.hid (h.below hb0)
  have hO1 : Own 9 LiftR.cells w.heap.size 31 (w.alloc (.cells #[] 31 (0, 0))) (.slice (some ⟨w.heap.size, 0, none⟩) 0 0) ([] : List LiftR) := own_empty w 31 w.heap.size (Nat.le_refl _)
  clear h
  go_enter Tryd.func19, Tryd.ntmps19
  go_wp2_with fail
  refine (spec_Names8 _).mono ?_
  rintro e w2 ⟨rfl, rfl⟩
  have hz1 : (w.alloc (.cells #[] 31 (0, 0))).heap.size = w.heap.size + 1 := by simp
  have hX6 := blkN_new (w.alloc (.cells #[] 31 (0, 0))) (.cells nm11 9 (0, 0))
  have hb2 := (Below.refl (w.alloc (.cells #[] 31 (0, 0))).heap.size (w.alloc (.cells #[] 31 (0, 0)))).alloc (Nat.le_refl _) (.cells nm11 9 (0, 0))
  have hS2 := Lib.hid (hS1.out.below hb2)
  have hO2 := Lib.hid (ownN_nil (fl := LiftR.f) (sv := LiftR.s) (m := 1) (d := intCells) (e := 2) (hO1.below hb2) : OwnLD w.heap.size _ _ ([] : List LiftR) ([] : LiftsL))
  have hM2 := Lib.hid (Mod.of_below (lo := b) (hi := b + 1) (hb0.trans (hb2.mono hb0.size)))
  rw [hz1] at hX6 ⊢
  have hz2 : ((w.alloc (.cells #[] 31 (0, 0))).alloc (.cells nm11 9 (0, 0))).heap.size = w.heap.size + 2 := by simp
  clear hO1 hb2 hb0 hS1
  generalize (w.alloc (.cells #[] 31 (0, 0))).alloc (.cells nm11 9 (0, 0)) = w2 at *
  have hX6 := Lib.hid hX6
  clear hz1
  go_wp2_with fail
  refine (hp.out _ _ hS2.out (by omega) 7 (by omega)).mono ?_
  rintro e w3 ⟨k0, rfl, ⟨hk0', hk0⟩, hs3, hm3⟩
  clear hk0'
  replace hk0 := hk0 (by omega)
  have hS3 := Lib.hid hs3
  have hM3 := Lib.hid (hM2.out.trans hm3)
  have hX3 := Lib.hid (blk_modV hX6.out hm3 (by omega))
  have hO3 := Lib.hid (hO2.out.mod hm3 (by omega))
  clear hs3 hm3 hS2 hM2 hX6 hO2 hz2
  go_wp2_with fail
  go_loopw [5, 7] (fun o i wr => ∃ (k : Nat) (rs : List LiftR) (L : LiftsL), i = .int .i64 k ∧ k ≤ 6 ∧ Hid (L.length + k ≤ 6) ∧ Hid (DrLs L) ∧ Hid (OwnLD w.heap.size wr o rs L) ∧ Hid (wr.heap[w.heap.size + 1]? = some (.cells nm11 9 (0, 0))) ∧ Hid (Src b (A + 2 + 60 * (6 - k)) wr) ∧ Hid (Mod b (b + 1) w wr)) (fun _ i _ => (intOf i).toNat)
  case atStart => exact ⟨k0, [], [], rfl, by omega, Lib.hid (by simp; omega), Lib.hid (fun i h => absurd h (by simp)), hO3, hX3, Lib.hid (hS3.out.mono (by omega)), hM3⟩
  case round =>
    clear hO3 hX3 hS3 hM3 hk0
    obtain ⟨k, rs, L, rfl, hk6, hlk, hdr, hO, hX, hS, hM⟩ := hrel
    by_cases hk : 0 < k
    · obtain ⟨va, vc, rfl⟩ := own_sv hO.out.out
      obtain ⟨n, hn⟩ : ∃ n, L.length = n := ⟨_, rfl⟩
      have hrn : rs.length = n := hO.out.len.trans hn
      have hn6 : n + k ≤ 6 := by have := hlk.out; omega
      rw [hrn] at hO ⊢
      have hnI : (n : Int) < 11 := by omega
      have hn0 : (0 : Int) ≤ (n : Int) := Int.natCast_nonneg _
      have cn := (Lib.cell_of_heap hX.out n).trans (nm11_at n (by omega))
      have hd := Lib.hid (draw_LOne b _ (nmL n) n wr hS.out (by omega) (by omega))
      have hkw : IntKind.i64.wrap ((k : Int) - 1) = (k : Int) - 1 := IntWalk.i64_in _ (by omega)
      have Hnat := Lib.hid (show n + k ≤ 6 ∧ rs.length = n ∧ L.length = n ∧ A ≤ 80000 ∧ k ≤ 6 ∧ 0 < k from ⟨hn6, hrn, hn, hA, hk6, hk⟩)
      clear hn6 hrn hn hk6
      go_wp2_with fail
      refine hd.out.mono ?_
      rintro e w4 ⟨f, ⟨ta, tl, tc⟩, aft, rfl, hfn, hfd, hown4, hs4, hm4⟩
      have hz4 := hm4.size
      have hzr := hM.out.size
      have hltB := hO.out.lt
      have hO4 := Lib.hid (hO.out.mod hm4 (by omega))
      have hX4 := Lib.hid (blk_modV hX.out hm4 (by omega))
      have hM4 := Lib.hid (hM.out.trans hm4)
      have hS4 := Lib.hid hs4
      have hdr4 := Lib.hid (hdr.out.push (x := (f, aft)) ⟨by rw [hfn, Hnat.out.2.2.1], by rw [Hnat.out.2.2.1]; exact hfd⟩)
      have hown4 := Lib.hid hown4
      have Hz := Lib.hid (show w.heap.size ≤ wr.heap.size ∧ wr.heap.size ≤ w4.heap.size from ⟨hzr, hz4⟩)
      have HltB := Lib.hid hltB
      obtain ⟨g0, g1, g2, g3, g4, g5, g6, g7⟩ := f
      simp only [LiftR.cells, SV.v] at hown4 ⊢
      clear hs4 hm4 hS hM hX hO hd cn hfn hfd hz4 hzr hltB hdr
      go_wp2_with (at_builtin; refine wpList_app1 (c := LiftR.cells) (bytes := 96) rfl _ _ 24 31 rfl Tryd.underlying24 info_impl_LiftD (by omega) LiftR.len LiftR.oneD w.heap.size rs ⟨⟨g0, g1, g2, g3, g4, g5, g6, g7⟩, ⟨ta, tl, tc⟩⟩ (.slice va n vc) rfl w4 rfl hO4.out.out (by first | rfl | (simp [Act.eval]; done)) (by have := Hnat.out; omega) (by have := Hnat.out; omega) (by have := Hz.out; omega) ?_; intro v9 w9 hown9 hg9; have hB9 := hO4.out.out.app (Below.refl w.heap.size w4) (Nat.le_refl _) (by have := Hz.out; omega) hg9; have hX9 := Lib.hid (grown_block hO4.out.out hX4.out (by decide) hg9); have hO9 := Lib.hid (OwnN.push2 (fl := LiftR.f) (sv := LiftR.s) (r := (⟨⟨g0, g1, g2, g3, g4, g5, g6, g7⟩, ⟨ta, tl, tc⟩⟩ : LiftR)) (x := ((⟨g0, g1, g2, g3, g4, g5, g6, g7⟩ : LiftF), aft)) TL_TID hO4.out HltB.out Hz.out.1 rfl hown4.out hown9 hg9); clear hown9 hg9)
      go_roundw
      case rel => exact ⟨k - 1, _, L ++ [(⟨g0, g1, g2, g3, g4, g5, g6, g7⟩, aft)], congrArg (Value.int .i64) (by have := Hnat.out; omega), by have := Hnat.out; omega, Lib.hid (by rw [List.length_append, List.length_singleton]; have := Hnat.out; omega), hdr4, hO9, hX9, Lib.hid ((hS4.out.lo hB9 (by omega)).mono (by have := Hnat.out; omega)), Lib.hid (hM4.out.onV hB9)⟩
      case measure => have := Hnat.out; simp [intOf]; omega
    · have hk0' : k = 0 := by omega
      subst hk0'
      go_wp2
      go_ret
      exact ⟨_, rs, L, rfl, hO.out, by have := hlk.out; omega, hdr.out, hS.out.mono (by omega), hM.out⟩
def A2LsOut (w : World) (e : Ending) (w' : World) : Prop :=
  ∃ (v : Value) (rs : List LiftR) (L : LiftsL), e = .returned v ∧ Lifts 0 w'.heap.size w' v rs L ∧ L.length ≤ 6 ∧ DrLs L ∧ Below w.heap.size w w'
set_option maxRecDepth 100000 in
set_option maxHeartbeats 2000000 in
theorem draw_A2Lifts (v : Value) (l : List UInt8) (hi : Nat) (w : World) (h : Sl 1 byteC 0 hi w v l) (hhi : hi ≤ w.heap.size) (hl : l.length ≤ 1048576) : Calls Tryd.prog 5 #[v] w (A2LsOut w) := by
  have hf := Lib.hid (src_from v l hi w h hhi hl)
  obtain ⟨a, cap, rfl, _⟩ := h
  go_enter Tryd.func5, Tryd.ntmps5
  go_wp2_with fail
  refine hf.out.mono ?_
  rintro e w1 ⟨rfl, hs1, hb1⟩
  have hd := Lib.hid (draw_Lifts w.heap.size 0 w1 hs1 (by omega))
  go_wp2_with fail
  refine hd.out.mono ?_
  rintro e w2 ⟨v, rs, L, rfl, hO, hl6, hdr, hs2, hm2⟩
  go_wp2
  go_ret
  exact ⟨v, rs, L, rfl, (hO.w LiftR.len intCells_len TL_TID).r.mono (Nat.zero_le _) (Nat.le_refl _), hl6, hdr, hb1.trans (hm2.below (Nat.le_refl _) hb1.size)⟩
end Go.Proofs.YtijpghlkbfmefaaDoor
