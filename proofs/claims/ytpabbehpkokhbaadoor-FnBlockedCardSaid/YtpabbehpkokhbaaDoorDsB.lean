/- The draws of a site: a valid crane. -/
import Derived.Test.YtpabbehpkokhbaaDoorDsA
namespace Go.Proofs.YtpabbehpkokhbaaDoor
open Go.RowKit
theorem slw_set {α : Type} {n : Nat} {c : α → List Value} {lo hi q j : Nat} {w : World} {v : Value} {l : List α} (h : Slw n c lo hi w v l) (hq : q < lo) (u : Value) : Slw n c lo hi (w.setCell ⟨q, j, none⟩ u) v l := h.keep (fun k h1 _ => Below.heap_setCell w ⟨q, j, none⟩ u k (show k ≠ q by omega))
def CrnOutV (b A : Nat) (nm : ByteArray) (w : World) (e : Ending) (w' : World) : Prop := ∃ (x y h j k : Int) (v : Value) (l : List Chs), e = .returned (.agg #[.string nm, .int .i64 x, .int .i64 y, .int .i64 h, .int .i64 j, .int .i64 k, v]) ∧ (-600 ≤ x ∧ x ≤ 600) ∧ (-600 ≤ y ∧ y ≤ 600) ∧ (200 ≤ h ∧ h ≤ 600) ∧ (200 ≤ j ∧ j ≤ 600) ∧ (0 ≤ k ∧ k ≤ 150) ∧ Slw 2 Chs.cells w.heap.size w'.heap.size w' v l ∧ stepsOk l ∧ (1 ≤ l.length ∧ l.length ≤ 5) ∧ (∀ i (h : i < l.length), l[i].radius ≤ j) ∧ Src b A w' ∧ Mod b (b + 1) w w'
set_option maxRecDepth 100000 in
set_option maxHeartbeats 4000000 in
theorem draw_CraneV (b A : Nat) (nm : ByteArray) (w : World) (h : Src b A w) (hA : A ≤ 90000) : Calls Tryd.prog 66 #[.pointer (some ⟨b, 0, none⟩), .string nm] w (CrnOutV b (A + 50) nm w) := by
  have hp := Lib.hid (fun A w' h hA n hn => src_pick b A n w' h hA hn)
  have hbl := h.lt
  have hb0 := (Below.refl w.heap.size w).alloc (Nat.le_refl _) (.cells #[.string ByteArray.empty, .int .i64 0, .int .i64 0, .int .i64 0, .int .i64 0, .int .i64 0, .slice none 0 0] 41 (0, 0))
  have hS1 := Lib.hid (h.below hb0)
  have hM1 := Lib.hid (Mod.of_below (lo := b) (hi := b + 1) hb0)
  have hX1 : Hid ((w.alloc (.cells #[.string ByteArray.empty, .int .i64 0, .int .i64 0, .int .i64 0, .int .i64 0, .int .i64 0, .slice none 0 0] 41 (0, 0))).heap[w.heap.size]? = some (.cells #[.string ByteArray.empty, .int .i64 0, .int .i64 0, .int .i64 0, .int .i64 0, .int .i64 0, .slice none 0 0] 41 (0, 0))) := Lib.hid Array.getElem?_push_size
  clear h hb0
  go_enter Tryd.func66, Tryd.ntmps66
  go_wp2_with fail
  refine (draw_PtV b _ _ hS1.out (by omega)).mono ?_
  rintro e w2 ⟨x, y, rfl, hx, hy, hs2, hm2⟩
  have hS2 := Lib.hid hs2
  have hM2 := Lib.hid (hM1.out.trans hm2)
  have hX2 := Lib.hid (blk_modV hX1.out hm2 hbl)
  clear hs2 hm2 hS1 hM1 hX1
  have hszp := hM2.out.size
  have hpl := (Array.getElem?_eq_some_iff.1 hX2.out).1
  have hb3 := (Below.refl w2.heap.size w2).alloc (Nat.le_refl _) (.cells #[.string nm, .int .i64 x, .int .i64 y, .int .i64 0, .int .i64 0, .int .i64 0, .slice none 0 0] 41 (0, 0))
  have hS := Lib.hid (hS2.out.below hb3)
  have hM := Lib.hid (hM2.out.then hb3)
  have hX := Lib.hid ((hb3.block _ hpl).trans hX2.out)
  have hQ : Hid ((w2.alloc (.cells #[.string nm, .int .i64 x, .int .i64 y, .int .i64 0, .int .i64 0, .int .i64 0, .slice none 0 0] 41 (0, 0))).heap[w2.heap.size]? = some (.cells #[.string nm, .int .i64 x, .int .i64 y, .int .i64 0, .int .i64 0, .int .i64 0, .slice none 0 0] 41 (0, 0))) := Lib.hid Array.getElem?_push_size
  clear hb3 hS2 hM2 hX2
  go_wp2_with fail
  refine (hp.out _ _ hS.out (by omega) 400 (by omega)).mono ?_
  rintro e w3 ⟨k3, rfl, ⟨_, hk3⟩, hs, hm⟩
  have hk3 := hk3 (by omega)
  have hQv := blk_modV hQ.out hm (by omega)
  have fk3 := Lib.frozen_of_heap hQv 3
  have ck3 := (Lib.cell_of_heap hQv 4).trans rfl
  have dk3 := (Lib.cell_of_heap hQv 3).trans rfl
  have hS := Lib.hid (src_setV (j := 3) (q := w2.heap.size) hs (by omega) (.int .i64 (200 + (k3 : Int))))
  have hM := Lib.hid (mod_setV (j := 3) (q := w2.heap.size) (hM.out.trans hm) (by omega) (.int .i64 (200 + (k3 : Int))))
  have hX := Lib.hid (blk_offV (j := 3) (q := w2.heap.size) (blk_modV hX.out hm hbl) (by omega) (.int .i64 (200 + (k3 : Int))))
  have hQ := Lib.hid (blk_onV (j := 3) hQv (cs' := #[.string nm, .int .i64 x, .int .i64 y, .int .i64 (200 + (k3 : Int)), .int .i64 0, .int .i64 0, .slice none 0 0]) (v := .int .i64 (200 + (k3 : Int))) rfl)
  clear hs hm hQv
  go_wp2_with fail
  clear fk3 ck3 dk3
  generalize (w3).setCell ⟨w2.heap.size, 3, none⟩ (.int .i64 (200 + (k3 : Int))) = w3 at *
  refine (hp.out _ _ hS.out (by omega) 400 (by omega)).mono ?_
  rintro e w4 ⟨k4, rfl, ⟨_, hk4⟩, hs, hm⟩
  have hk4 := hk4 (by omega)
  have hQv := blk_modV hQ.out hm (by omega)
  have fk4 := Lib.frozen_of_heap hQv 4
  have ck4 := (Lib.cell_of_heap hQv 4).trans rfl
  have dk4 := (Lib.cell_of_heap hQv 4).trans rfl
  have hS := Lib.hid (src_setV (j := 4) (q := w2.heap.size) hs (by omega) (.int .i64 (200 + (k4 : Int))))
  have hM := Lib.hid (mod_setV (j := 4) (q := w2.heap.size) (hM.out.trans hm) (by omega) (.int .i64 (200 + (k4 : Int))))
  have hX := Lib.hid (blk_offV (j := 4) (q := w2.heap.size) (blk_modV hX.out hm hbl) (by omega) (.int .i64 (200 + (k4 : Int))))
  have hQ := Lib.hid (blk_onV (j := 4) hQv (cs' := #[.string nm, .int .i64 x, .int .i64 y, .int .i64 (200 + (k3 : Int)), .int .i64 (200 + (k4 : Int)), .int .i64 0, .slice none 0 0]) (v := .int .i64 (200 + (k4 : Int))) rfl)
  clear hs hm hQv
  go_wp2_with fail
  clear fk4 ck4 dk4
  generalize (w4).setCell ⟨w2.heap.size, 4, none⟩ (.int .i64 (200 + (k4 : Int))) = w4 at *
  refine (hp.out _ _ hS.out (by omega) 150 (by omega)).mono ?_
  rintro e w5 ⟨k5, rfl, ⟨_, hk5⟩, hs, hm⟩
  have hk5 := hk5 (by omega)
  have hQv := blk_modV hQ.out hm (by omega)
  have fk5 := Lib.frozen_of_heap hQv 5
  have ck5 := (Lib.cell_of_heap hQv 4).trans rfl
  have dk5 := (Lib.cell_of_heap hQv 5).trans rfl
  have hS := Lib.hid (src_setV (j := 5) (q := w2.heap.size) hs (by omega) (.int .i64 ((k5 : Int))))
  have hM := Lib.hid (mod_setV (j := 5) (q := w2.heap.size) (hM.out.trans hm) (by omega) (.int .i64 ((k5 : Int))))
  have hX := Lib.hid (blk_offV (j := 5) (q := w2.heap.size) (blk_modV hX.out hm hbl) (by omega) (.int .i64 ((k5 : Int))))
  have hQ := Lib.hid (blk_onV (j := 5) hQv (cs' := #[.string nm, .int .i64 x, .int .i64 y, .int .i64 (200 + (k3 : Int)), .int .i64 (200 + (k4 : Int)), .int .i64 k5, .slice none 0 0]) (v := .int .i64 ((k5 : Int))) rfl)
  clear hs hm hQv
  go_wp2_with fail
  clear fk5 ck5 dk5
  generalize (w5).setCell ⟨w2.heap.size, 5, none⟩ (.int .i64 ((k5 : Int))) = w5 at *
  refine (draw_ChartV b _ _ _ hS.out (by omega) (by omega)).mono ?_
  rintro e w6 ⟨cv, lc, rfl, hsl, hst, hln, hjb, hs, hm⟩
  have hq5 := (Array.getElem?_eq_some_iff.1 hQ.out).1
  have hp5 := (Array.getElem?_eq_some_iff.1 hX.out).1
  have hz5 := hM.out.size
  obtain ⟨ca, cn, cc, rfl⟩ : ∃ ca cn cc, cv = .slice ca cn cc := by obtain ⟨⟨a, cap, hv, _⟩, _⟩ := hsl; exact ⟨a, _, cap, hv⟩
  have hSl := Lib.hid (slw_set (j := 6) (q := w.heap.size) (slw_set (j := 5) (q := w.heap.size) (slw_set (j := 4) (q := w.heap.size) (slw_set (j := 3) (q := w.heap.size) (slw_set (j := 2) (q := w.heap.size) (slw_set (j := 1) (q := w.heap.size) (slw_set (j := 0) (q := w.heap.size) (slw_set (j := 6) (q := w2.heap.size) hsl hq5 (.slice ca cn cc)) hp5 (.string nm)) hp5 (.int .i64 x)) hp5 (.int .i64 y)) hp5 (.int .i64 (200 + (k3 : Int)))) hp5 (.int .i64 (200 + (k4 : Int)))) hp5 (.int .i64 k5)) hp5 (.slice ca cn cc))
  have Hst := Lib.hid hst
  have Hjb := Lib.hid hjb
  clear hsl hst hjb
  have hQ6 := blk_modV hQ.out hm (by omega)
  have hX6 := blk_modV hX.out hm hbl
  have hS := Lib.hid hs
  have hM := Lib.hid (hM.out.trans hm)
  have q0 := (Lib.cell_of_heap hQ6 0).trans rfl
  have q1 := (Lib.cell_of_heap hQ6 1).trans rfl
  have q2 := (Lib.cell_of_heap hQ6 2).trans rfl
  have q3 := (Lib.cell_of_heap hQ6 3).trans rfl
  have q4 := (Lib.cell_of_heap hQ6 4).trans rfl
  have q5 := (Lib.cell_of_heap hQ6 5).trans rfl
  have q6 := (Lib.cell_of_heap hQ6 6).trans rfl
  have f6 := fun j => Lib.frozen_of_heap hQ6 j
  have g6 := fun j => Lib.frozen_of_heap hX6 j
  have x0 := (Lib.cell_of_heap hX6 0).trans rfl
  have x1 := (Lib.cell_of_heap hX6 1).trans rfl
  have x2 := (Lib.cell_of_heap hX6 2).trans rfl
  have x3 := (Lib.cell_of_heap hX6 3).trans rfl
  have x4 := (Lib.cell_of_heap hX6 4).trans rfl
  have x5 := (Lib.cell_of_heap hX6 5).trans rfl
  have x6 := (Lib.cell_of_heap hX6 6).trans rfl
  have hne : w.heap.size ≠ w2.heap.size := by omega
  have hne2 : w2.heap.size ≠ w.heap.size := by omega
  have hql6 := (Array.getElem?_eq_some_iff.1 hQ6).1
  have hpl6 := (Array.getElem?_eq_some_iff.1 hX6).1
  clear hs hm hQ hX hQ6 hX6
  go_wp2_with fail
  exact bodyPost_ret (v := .agg #[.string nm, .int .i64 x, .int .i64 y, .int .i64 (200 + (k3 : Int)), .int .i64 (200 + (k4 : Int)), .int .i64 (k5 : Int), .slice ca cn cc]) (by simp [results, Tryd.results66, go_sem, x0, x1, x2, x3, x4, x5, x6]) rfl
    ⟨x, y, _, _, _, _, lc, rfl, hx, hy, by omega, by omega, by omega, (hSl.out.mono' hz5).fresh (by simp), Hst.out, hln, Hjb.out, src_setV (src_setV (src_setV (src_setV (src_setV (src_setV (src_setV (src_setV (hS.out.mono (by omega)) (by omega) _) (by omega) _) (by omega) _) (by omega) _) (by omega) _) (by omega) _) (by omega) _) (by omega) _,
      mod_setV (mod_setV (mod_setV (mod_setV (mod_setV (mod_setV (mod_setV (mod_setV hM.out (by omega) _) (by omega) _) (by omega) _) (by omega) _) (by omega) _) (by omega) _) (by omega) _) (by omega) _⟩
end Go.Proofs.YtpabbehpkokhbaaDoor
