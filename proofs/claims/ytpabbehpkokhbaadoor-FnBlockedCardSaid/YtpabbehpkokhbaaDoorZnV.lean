/- Zones: draws of heights and points. Zones: the draw of a zone. -/
import Derived.Test.YtpabbehpkokhbaaDoorDsP
import Derived.Test.YtpabbehpkokhbaaDoorZnG
import Derived.Test.YtpabbehpkokhbaaDoorNX
import Derived.Test.YtpabbehpkokhbaaDoorNC
namespace Go.Proofs.YtpabbehpkokhbaaDoor
open Go.RowKit
theorem src_lit (b A : Nat) (ls : List Int) (n : Nat) (cs : Array Value) (w : World) (h : Src b A w) (hA : A ≤ 1000000) (hcs : cs = (ls.flatMap intCells).toArray) (hn : n = ls.length) (h1 : 1 ≤ ls.length ∧ ls.length ≤ 100) :
    Calls Tryd.prog 54 #[.pointer (some ⟨b, 0, none⟩), .slice (some ⟨w.heap.size, 0, none⟩) n n] (w.alloc (.cells cs 2 (0, 0))) fun e w' => ∃ x : Int, e = .returned (.int .i64 x) ∧ Src b (A + 2) w' ∧ Mod b (b + 1) w w' := by
  have hba : Below w.heap.size w (w.alloc (.cells cs 2 (0, 0))) := (Below.refl _ _).alloc (Nat.le_refl _) _
  refine (src_among b A _ ls w.heap.size (w.heap.size + 1) _ (h.below hba) (by omega) h1.1 (sl_lit intCells_len ls w 2 hcs hn (by omega)) (.inr (by have := h.lt; omega)) (by simp)).mono ?_
  rintro e w' ⟨x, -, rfl, hs, hm⟩
  exact ⟨x, rfl, hs, (Mod.of_below hba).trans hm⟩
def IntOutZ (b A : Nat) (w : World) (e : Ending) (w' : World) : Prop := ∃ x : Int, e = .returned (.int .i64 x) ∧ Src b A w' ∧ Mod b (b + 1) w w'
set_option maxRecDepth 100000 in
theorem draw_Ht (b A : Nat) (w : World) (h : Src b A w) (hA : A ≤ 900000) : Calls Tryd.prog 25 #[.pointer (some ⟨b, 0, none⟩)] w (IntOutZ b (A + 10) w) := by
  have ho := Lib.hid (src_one b A 12 w h (by omega) (by omega))
  have hp := Lib.hid (fun A w' h hA n hn => src_pick b A n w' h hA hn)
  clear h
  go_enter Tryd.func25, Tryd.ntmps25
  go_wp2_with fail
  refine ho.out.mono ?_
  rintro e w1 ⟨c, rfl, hs1, hm1⟩
  have hS1 := Lib.hid hs1
  clear hs1 ho
  cases c
  · go_wp2_with fail
    refine (hp.out _ _ hS1.out (by omega) 500 (by omega)).mono ?_
    rintro e w2 ⟨x, rfl, -, hs2, hm2⟩
    have hS2 := Lib.hid hs2
    clear hs2
    go_wp2_with fail
    go_ret
    exact ⟨_, rfl, hS2.out.mono (by omega), hm1.trans hm2⟩
  · go_wp2_with fail
    refine (src_lit b _ [-1, 0, 2000, 2001] 4 _ w1 hS1.out (by omega) rfl rfl (by simp)).mono ?_
    rintro e w2 ⟨x, rfl, hs2, hm2⟩
    have hS2 := Lib.hid hs2
    clear hs2
    go_wp2_with fail
    go_ret
    exact ⟨_, rfl, hS2.out.mono (by omega), hm1.trans hm2⟩
def PtOutB (b A : Nat) (w : World) (e : Ending) (w' : World) : Prop := ∃ x y : Int, e = .returned (.agg #[.int .i64 x, .int .i64 y]) ∧ Src b A w' ∧ Mod b (b + 1) w w'
/-- A point in one box, the result's box, and the source. -/
structure PB (b A p q : Nat) (w : World) (x y : Int) (W : World) : Prop where
  s : Src b A W
  m : Mod b (b + 1) w W
  r : W.heap[q]? = some (.cells #[.int .i64 0, .int .i64 0] 26 (0, 0))
  x : W.heap[p]? = some (.cells #[.int .i64 x, .int .i64 y] 26 (0, 0))
theorem PB.on {b A A' p q : Nat} {w W W' : World} {x y : Int} (h : PB b A p q w x y W) (hp : b < p) (hq : b < q) (hs : Src b A' W') (hm : Mod b (b + 1) W W') : PB b A' p q w x y W' :=
  ⟨hs, h.m.trans hm, blk_modV h.r hm hq, blk_modV h.x hm hp⟩
set_option maxRecDepth 100000 in
set_option maxHeartbeats 4000000 in
theorem draw_PtB (b A : Nat) (w : World) (h : Src b A w) (hA : A ≤ 90000) : Calls Tryd.prog 22 #[.pointer (some ⟨b, 0, none⟩)] w (PtOutB b (A + 20) w) := by
  have hp := Lib.hid (fun A w' h hA n hn => src_pick b A n w' h hA hn)
  have hbl := h.lt
  have hb0 := (Below.refl w.heap.size w).alloc (Nat.le_refl _) (.cells #[.int .i64 0, .int .i64 0] 26 (0, 0))
  have hS1 := Lib.hid (h.below hb0)
  have hM1 := Lib.hid (Mod.of_below (lo := b) (hi := b + 1) hb0)
  have hX1 : Hid ((w.alloc (.cells #[.int .i64 0, .int .i64 0] 26 (0, 0))).heap[w.heap.size]? = some (.cells #[.int .i64 0, .int .i64 0] 26 (0, 0))) := Lib.hid Array.getElem?_push_size
  clear h hb0
  go_enter Tryd.func22, Tryd.ntmps22
  go_wp2_with fail
  refine (draw_PtV b A _ hS1.out (by omega)).mono ?_
  rintro e w2 ⟨x, y, rfl, -, -, hs2, hm2⟩
  have hX2 := blk_modV hX1.out hm2 hbl
  have hM2 := hM1.out.trans hm2
  have hq2 := (Array.getElem?_eq_some_iff.1 hX2).1
  have hb3 := (Below.refl w2.heap.size w2).alloc (Nat.le_refl _) (.cells #[.int .i64 x, .int .i64 y] 26 (0, 0))
  have hP := Lib.hid (show PB b (A + 4) w2.heap.size w.heap.size w x y (w2.alloc (.cells #[.int .i64 x, .int .i64 y] 26 (0, 0))) from ⟨hs2.below hb3, hM2.then hb3, blkN_below hb3 hX2, blkN_new _ _⟩)
  clear hs2 hm2 hX2 hb3 hX1 hS1 hM1 hM2
  go_wp2_with fail
  generalize w2.alloc (.cells #[.int .i64 x, .int .i64 y] 26 (0, 0)) = w3 at *
  obtain ⟨p, hpe⟩ : ∃ p, w2.heap.size = p := ⟨_, rfl⟩
  rw [hpe] at hP hq2 ⊢
  clear hpe
  have Hb := Lib.hid (show b < w.heap.size ∧ w.heap.size < p from ⟨hbl, hq2⟩)
  refine (hp.out _ _ hP.out.s (by omega) 20 (by omega)).mono ?_
  rintro e w4 ⟨k, rfl, -, hs4, hm4⟩
  have hP4 := Lib.hid (hP.out.on (by have := Hb.out; omega) (by have := Hb.out; omega) hs4 hm4)
  clear hs4 hm4 hP hbl hq2
  by_cases k0 : k = 0
  · have t0 : ((k : Int) == 0) = true := by rw [beq_iff_eq]; omega
    go_wp2_with fail
    refine (src_lit b _ [-10001, -10000, 10000, 10001, -9223372036854775808] 5 _ w4 hP4.out.s (by omega) rfl rfl (by simp)).mono ?_
    rintro e w5 ⟨z, rfl, hs5, hm5⟩
    have hP5 := Lib.hid (hP4.out.on (by have := Hb.out; omega) (by have := Hb.out; omega) hs5 hm5)
    clear hs5 hm5 hP4
    have c0 := (Lib.cell_of_heap hP5.out.x 0).trans rfl
    have c1 := (Lib.cell_of_heap hP5.out.x 1).trans rfl
    have r0 := (Lib.cell_of_heap hP5.out.r 0).trans rfl
    have r1 := (Lib.cell_of_heap hP5.out.r 1).trans rfl
    have f0 := Lib.frozen_of_heap hP5.out.r 0
    have f1 := Lib.frozen_of_heap hP5.out.r 1
    have g0 := Lib.frozen_of_heap hP5.out.x 0
    have g1 := Lib.frozen_of_heap hP5.out.x 1
    have hne : w.heap.size ≠ p := by have := Hb.out; omega
    have hne2 : p ≠ w.heap.size := fun e => hne e.symm
    go_wp2
    exact bodyPost_ret (v := .agg #[.int .i64 z, .int .i64 y]) (by simp [results, Tryd.results22, go_sem, r0, r1]) rfl ⟨z, y, rfl, src_setV (src_setV (src_setV (hP5.out.s.mono (by omega)) (by have := Hb.out; omega) _) (by have := Hb.out; omega) _) (by have := Hb.out; omega) _, mod_setV (mod_setV (mod_setV hP5.out.m (by have := Hb.out; omega) _) (Nat.le_refl _) _) (Nat.le_refl _) _⟩
  · have t0 : ((k : Int) == 0) = false := by rw [beq_eq_false_iff_ne]; omega
    by_cases k1 : k = 1
    · have t1 : ((k : Int) == 1) = true := by rw [beq_iff_eq]; omega
      go_wp2_with fail
      refine (src_lit b _ [-10000, 10000, 10001, 9223372036854775807] 4 _ w4 hP4.out.s (by omega) rfl rfl (by simp)).mono ?_
      rintro e w5 ⟨z, rfl, hs5, hm5⟩
      have hP5 := Lib.hid (hP4.out.on (by have := Hb.out; omega) (by have := Hb.out; omega) hs5 hm5)
      clear hs5 hm5 hP4
      have c0 := (Lib.cell_of_heap hP5.out.x 0).trans rfl
      have c1 := (Lib.cell_of_heap hP5.out.x 1).trans rfl
      have r0 := (Lib.cell_of_heap hP5.out.r 0).trans rfl
      have r1 := (Lib.cell_of_heap hP5.out.r 1).trans rfl
      have f0 := Lib.frozen_of_heap hP5.out.r 0
      have f1 := Lib.frozen_of_heap hP5.out.r 1
      have g0 := Lib.frozen_of_heap hP5.out.x 0
      have g1 := Lib.frozen_of_heap hP5.out.x 1
      have hne : w.heap.size ≠ p := by have := Hb.out; omega
      have hne2 : p ≠ w.heap.size := fun e => hne e.symm
      go_wp2
      exact bodyPost_ret (v := .agg #[.int .i64 x, .int .i64 z]) (by simp [results, Tryd.results22, go_sem, r0, r1]) rfl ⟨x, z, rfl, src_setV (src_setV (src_setV (hP5.out.s.mono (by omega)) (by have := Hb.out; omega) _) (by have := Hb.out; omega) _) (by have := Hb.out; omega) _, mod_setV (mod_setV (mod_setV hP5.out.m (by have := Hb.out; omega) _) (Nat.le_refl _) _) (Nat.le_refl _) _⟩
    · have t1 : ((k : Int) == 1) = false := by rw [beq_eq_false_iff_ne]; omega
      by_cases k2 : k = 2
      · have t2 : ((k : Int) == 2) = true := by rw [beq_iff_eq]; omega
        have c0 := (Lib.cell_of_heap hP4.out.x 0).trans rfl
        have c1 := (Lib.cell_of_heap hP4.out.x 1).trans rfl
        have r0 := (Lib.cell_of_heap hP4.out.r 0).trans rfl
        have r1 := (Lib.cell_of_heap hP4.out.r 1).trans rfl
        have f0 := Lib.frozen_of_heap hP4.out.r 0
        have f1 := Lib.frozen_of_heap hP4.out.r 1
        have g0 := Lib.frozen_of_heap hP4.out.x 0
        have g1 := Lib.frozen_of_heap hP4.out.x 1
        have hne : w.heap.size ≠ p := by have := Hb.out; omega
        have hne2 : p ≠ w.heap.size := fun e => hne e.symm
        go_wp2
        exact bodyPost_ret (v := .agg #[.int .i64 100, .int .i64 100]) (by simp [results, Tryd.results22, go_sem, r0, r1]) rfl ⟨100, 100, rfl, src_setV (src_setV (src_setV (src_setV (hP4.out.s.mono (by omega)) (by have := Hb.out; omega) _) (by have := Hb.out; omega) _) (by have := Hb.out; omega) _) (by have := Hb.out; omega) _, mod_setV (mod_setV (mod_setV (mod_setV hP4.out.m (by have := Hb.out; omega) _) (by have := Hb.out; omega) _) (Nat.le_refl _) _) (Nat.le_refl _) _⟩
      · have t2 : ((k : Int) == 2) = false := by rw [beq_eq_false_iff_ne]; omega
        have c0 := (Lib.cell_of_heap hP4.out.x 0).trans rfl
        have c1 := (Lib.cell_of_heap hP4.out.x 1).trans rfl
        have r0 := (Lib.cell_of_heap hP4.out.r 0).trans rfl
        have r1 := (Lib.cell_of_heap hP4.out.r 1).trans rfl
        have f0 := Lib.frozen_of_heap hP4.out.r 0
        have f1 := Lib.frozen_of_heap hP4.out.r 1
        have hz := (Array.getElem?_eq_some_iff.1 hP4.out.r).1
        go_wp2
        exact bodyPost_ret (v := .agg #[.int .i64 x, .int .i64 y]) (by simp [results, Tryd.results22, go_sem, r0, r1]) rfl ⟨x, y, rfl, src_setV (src_setV (hP4.out.s.mono (by omega)) (by have := Hb.out; omega) _) (by have := Hb.out; omega) _, mod_setV (mod_setV hP4.out.m (Nat.le_refl _) _) (Nat.le_refl _) _⟩
theorem info_PntZ : (Tryd.prog.info? 26).map (fun i => (i.zero.map (·.cells.size), i.size, i.bytes)) = some (some 2, 2, 16) := by kernel_rfl
theorem Pnt.oneZ (x : Pnt) : ∀ u ∈ x.cells, u.oneCell' = true := by intro u hu; simp [Pnt.cells] at hu; rcases hu with rfl | rfl <;> rfl
theorem own_four (w : World) (lo : Nat) (a b c d : Pnt) (h : lo ≤ w.heap.size) : Own 2 Pnt.cells lo 26 (w.alloc (.cells #[.int .i64 a.x, .int .i64 a.y, .int .i64 b.x, .int .i64 b.y, .int .i64 c.x, .int .i64 c.y, .int .i64 d.x, .int .i64 d.y] 26 (0, 0))) (.slice (some ⟨w.heap.size, 0, none⟩) 4 4) [a, b, c, d] :=
  ⟨rfl, .inr ⟨w.heap.size, 4, _, rfl, h, Array.getElem?_push_size, by simp, by unfold maxLen; omega, by simp, by simp [Pnt.cells]⟩⟩
/-- A zone that has been drawn. -/
def ZnOut (b A : Nat) (w : World) (e : Ending) (w' : World) : Prop := ∃ (f : ZoneF) (s : SV) (C : List Pnt), e = .returned (.agg (ZoneR.cells ⟨f, s⟩).toArray) ∧ Slw 2 Pnt.cells w.heap.size w'.heap.size w' s.v C ∧ (2 ≤ C.length ∧ C.length ≤ 13) ∧ Src b A w' ∧ Mod b (b + 1) w w'
/-- The zone in its box, the result's box, and the source. -/
structure ZB (b A p q : Nat) (w : World) (kd st ea : Int) (v : Value) (W : World) : Prop where
  s : Src b A W
  m : Mod b (b + 1) w W
  r : W.heap[q]? = some (.cells #[.int .i64 0, .int .i64 0, .int .i64 0, .slice none 0 0] 33 (0, 0))
  z : W.heap[p]? = some (.cells #[.int .i64 kd, .int .i64 st, .int .i64 ea, v] 33 (0, 0))
theorem ZB.on {b A A' p q : Nat} {w W W' : World} {kd st ea : Int} {v : Value} (h : ZB b A p q w kd st ea v W) (hp : b < p) (hq : b < q) (hs : Src b A' W') (hm : Mod b (b + 1) W W') : ZB b A' p q w kd st ea v W' :=
  ⟨hs, h.m.trans hm, blk_modV h.r hm hq, blk_modV h.z hm hp⟩
theorem ZB.up {b A p q : Nat} {w W W' : World} {kd st ea : Int} {v : Value} (h : ZB b A p q w kd st ea v W) (hb : Below W.heap.size W W') : ZB b A p q w kd st ea v W' :=
  ⟨h.s.below hb, h.m.then hb, blkN_below hb h.r, blkN_below hb h.z⟩
theorem ZB.set {b A p q j : Nat} {w W : World} {kd st ea kd' st' ea' : Int} {v v' u : Value} (h : ZB b A p q w kd st ea v W) (hp : b < p) (hw : w.heap.size ≤ p) (hpq : q ≠ p) (hc : (#[.int .i64 kd', .int .i64 st', .int .i64 ea', v'] : Array Value) = (#[.int .i64 kd, .int .i64 st, .int .i64 ea, v] : Array Value).setIfInBounds j u) :
    ZB b A p q w kd' st' ea' v' (W.setCell ⟨p, j, none⟩ u) :=
  ⟨src_setV h.s (by omega) _, mod_setV h.m hw _, blk_offV h.r hpq _, blk_onV h.z hc⟩
theorem set4 {w : World} {lo hi p : Nat} {v : Value} {l : List Pnt} (h : Slw 2 Pnt.cells lo hi w v l) (hp : p < lo) (a0 a1 a2 a3 : Value) : Slw 2 Pnt.cells lo hi ((((w.setCell ⟨p, 0, none⟩ a0).setCell ⟨p, 1, none⟩ a1).setCell ⟨p, 2, none⟩ a2).setCell ⟨p, 3, none⟩ a3) v l :=
  h.keep (fun k h1 _ => by
    have hne : k ≠ p := by omega
    exact (Below.heap_setCell _ ⟨p, 3, none⟩ a3 k hne).trans ((Below.heap_setCell _ ⟨p, 2, none⟩ a2 k hne).trans ((Below.heap_setCell _ ⟨p, 1, none⟩ a1 k hne).trans (Below.heap_setCell w ⟨p, 0, none⟩ a0 k hne))))
theorem src4 {b A p : Nat} {w : World} (h : Src b A w) (hp : b + 1 ≤ p) (a0 a1 a2 a3 : Value) : Src b A ((((w.setCell ⟨p, 0, none⟩ a0).setCell ⟨p, 1, none⟩ a1).setCell ⟨p, 2, none⟩ a2).setCell ⟨p, 3, none⟩ a3) :=
  src_setV (src_setV (src_setV (src_setV h hp _) hp _) hp _) hp _
theorem mod4 {b p : Nat} {w w' : World} (h : Mod b (b + 1) w w') (hp : w.heap.size ≤ p) (a0 a1 a2 a3 : Value) : Mod b (b + 1) w ((((w'.setCell ⟨p, 0, none⟩ a0).setCell ⟨p, 1, none⟩ a1).setCell ⟨p, 2, none⟩ a2).setCell ⟨p, 3, none⟩ a3) :=
  mod_setV (mod_setV (mod_setV (mod_setV h hp _) hp _) hp _) hp _
theorem slw_off {w : World} {lo hi p j : Nat} {v u : Value} {l : List Pnt} (h : Slw 2 Pnt.cells lo hi w v l) (hp : p < lo) : Slw 2 Pnt.cells lo hi (w.setCell ⟨p, j, none⟩ u) v l :=
  h.keep (fun k h1 _ => Below.heap_setCell w ⟨p, j, none⟩ u k (show k ≠ p by omega))
theorem own_offZ {lo p o : Nat} {e t : TypeId} {fz : Nat × Nat} {cs : Array Value} {w : World} {v u : Value} {l : List Pnt} (h : Own 2 Pnt.cells lo e w v l) (hp : w.heap[p]? = some (.cells cs t fz)) (h1 : t ≠ e) : Own 2 Pnt.cells lo e (w.setCell ⟨p, o, none⟩ u) v l := by
  refine own_keep h fun g hg => Below.heap_setCell _ _ _ _ fun e => ?_
  obtain ⟨cur, fz', hc⟩ := h.block hg
  dsimp only at e
  rw [e, hp] at hc
  cases hc; exact h1 rfl
theorem slw_wide {lo hi lo' hi' : Nat} {w : World} {v : Value} {l : List Pnt} (h : Slw 2 Pnt.cells lo hi w v l) (h1 : lo' ≤ lo) (h2 : hi ≤ hi') : Slw 2 Pnt.cells lo' hi' w v l := ⟨h.1.mono h1 h2, h.2⟩
theorem slw_take {lo hi b off cap n k : Nat} {w : World} {l : List Pnt} (h : Slw 2 Pnt.cells lo hi w (.slice (some ⟨b, off, none⟩) n cap) l) (hk : k ≤ l.length) (hk0 : 0 < k) : Slw 2 Pnt.cells lo hi w (.slice (some ⟨b, off, none⟩) k cap) (l.take k) := by
  refine ⟨?_, fun _ b2 off2 len2 cap2 hv o => ?_⟩
  · obtain ⟨a, c, hv, hc, hh⟩ := h.1
    cases hv
    exact ⟨_, _, by rw [List.length_take, Nat.min_eq_left hk], ⟨by rw [List.length_take]; omega, hc.2⟩, fun _ => by
      obtain ⟨b', o', e, h1, h2, h3⟩ := hh (by omega)
      refine ⟨b', o', e, h1, h2, fun i hi j u hu => ?_⟩
      rw [List.length_take] at hi
      rw [List.getElem_take] at hu
      exact h3 i (by omega) j u hu⟩
  · cases hv
    exact h.2 (by omega) b off n cap rfl o
set_option maxRecDepth 100000 in
set_option maxHeartbeats 8000000 in
theorem draw_Zone (b A : Nat) (w : World) (h : Src b A w) (hA : A ≤ 90000) : Calls Tryd.prog 52 #[.pointer (some ⟨b, 0, none⟩)] w (ZnOut b (A + 30) w) := by
  have hp := Lib.hid (fun A w' h hA n hn => src_pick b A n w' h hA hn)
  have hbl := h.lt
  have hb0 := (Below.refl w.heap.size w).alloc (Nat.le_refl _) (.cells #[.int .i64 0, .int .i64 0, .int .i64 0, .slice none 0 0] 33 (0, 0))
  have hS1 := Lib.hid (h.below hb0)
  have hM1 := Lib.hid (Mod.of_below (lo := b) (hi := b + 1) hb0)
  have hX1 : Hid ((w.alloc (.cells #[.int .i64 0, .int .i64 0, .int .i64 0, .slice none 0 0] 33 (0, 0))).heap[w.heap.size]? = some (.cells #[.int .i64 0, .int .i64 0, .int .i64 0, .slice none 0 0] 33 (0, 0))) := Lib.hid Array.getElem?_push_size
  clear h hb0
  go_enter Tryd.func52, Tryd.ntmps52
  go_wp2_with fail
  refine (hp.out _ _ hS1.out (by omega) 3 (by omega)).mono ?_
  rintro e w2 ⟨k, rfl, ⟨-, hk⟩, hs2, hm2⟩
  have hk := hk (by omega)
  have hX2 := blk_modV hX1.out hm2 hbl
  have hM2 := hM1.out.trans hm2
  have hq2 := (Array.getElem?_eq_some_iff.1 hX2).1
  have hb3 := (Below.refl w2.heap.size w2).alloc (Nat.le_refl _) (.cells #[.int .i64 (1 + (k : Int)), .int .i64 0, .int .i64 0, .slice none 0 0] 33 (0, 0))
  have hP := Lib.hid (show ZB b (A + 2) w2.heap.size w.heap.size w (1 + (k : Int)) 0 0 (.slice none 0 0) (w2.alloc (.cells #[.int .i64 (1 + (k : Int)), .int .i64 0, .int .i64 0, .slice none 0 0] 33 (0, 0))) from ⟨hs2.below hb3, hM2.then hb3, blkN_below hb3 hX2, blkN_new _ _⟩)
  clear hs2 hm2 hX2 hb3 hX1 hS1 hM1 hM2
  by_cases k0 : k = 0
  · have hk1 : ((1 : Int) + (k : Int) == 1) = true := by rw [beq_iff_eq]; omega
    clear k0
    go_wp2_with fail
    generalize w2.alloc (.cells #[.int .i64 (1 + (k : Int)), .int .i64 0, .int .i64 0, .slice none 0 0] 33 (0, 0)) = w3 at *
    obtain ⟨p, hpe⟩ : ∃ p, w2.heap.size = p := ⟨_, rfl⟩
    rw [hpe] at hP hq2 ⊢
    clear hpe
    have Hb := Lib.hid (show b < w.heap.size ∧ w.heap.size < p from ⟨hbl, hq2⟩)
    refine (hp.out _ _ hP.out.s (by omega) 12 (by omega)).mono ?_
    rintro e v3 ⟨s1, rfl, ⟨-, hs1b⟩, hsv3, hmv3⟩
    have hs1b := hs1b (by omega)
    have hPa := hP.out.on (by have := Hb.out; omega) (by have := Hb.out; omega) hsv3 hmv3
    have z1 := (Lib.cell_of_heap hPa.z 1).trans rfl
    have y1 := Lib.frozen_of_heap hPa.z 1
    have hPb := Lib.hid (hPa.set (j := 1) (kd' := 1 + (k : Int)) (st' := 1 + (s1 : Int)) (ea' := 0) (v' := .slice none 0 0) (u := .int .i64 (1 + (s1 : Int))) (by have := Hb.out; omega) (by have := Hb.out; omega) (by have := Hb.out; omega) rfl)
    clear hsv3 hmv3 hPa hP
    go_wp2_with fail
    clear z1 y1
    generalize v3.setCell ⟨p, 1, none⟩ (.int .i64 (1 + (s1 : Int))) = v4 at *
    refine (hp.out _ _ hPb.out.s (by omega) 20 (by omega)).mono ?_
    rintro e v5 ⟨e1, rfl, ⟨-, he1b⟩, hsv5, hmv5⟩
    have he1b := he1b (by omega)
    have hPc := hPb.out.on (by have := Hb.out; omega) (by have := Hb.out; omega) hsv5 hmv5
    have z2 := (Lib.cell_of_heap hPc.z 2).trans rfl
    have y2 := Lib.frozen_of_heap hPc.z 2
    have hP := Lib.hid (hPc.set (j := 2) (kd' := 1 + (k : Int)) (st' := 1 + (s1 : Int)) (ea' := 25 + (e1 : Int)) (v' := .slice none 0 0) (u := .int .i64 (25 + (e1 : Int))) (by have := Hb.out; omega) (by have := Hb.out; omega) (by have := Hb.out; omega) rfl)
    clear hsv5 hmv5 hPc hPb
    go_wp2_with fail
    clear z2 y2
    generalize v5.setCell ⟨p, 2, none⟩ (.int .i64 (25 + (e1 : Int))) = w3b at *
    refine (draw_PtV b _ _ hP.out.s (by omega)).mono ?_
    rintro e w5 ⟨x, y, rfl, ⟨xa, xb⟩, ⟨ya, yb⟩, hs5, hm5⟩
    have hP5 := hP.out.on (by have := Hb.out; omega) (by have := Hb.out; omega) hs5 hm5
    have hb6 := (Below.refl w5.heap.size w5).alloc (Nat.le_refl _) (.cells #[.int .i64 x, .int .i64 y] 26 (0, 0))
    have hP6 := Lib.hid (hP5.up hb6)
    have hT6 := Lib.hid (blkN_new w5 (.cells #[.int .i64 x, .int .i64 y] 26 (0, 0)))
    have hz5 := hP5.m.size
    have hp5 := (Array.getElem?_eq_some_iff.1 hP5.z).1
    clear hs5 hm5 hP5 hb6
    go_wp2_with fail
    generalize w5.alloc (.cells #[.int .i64 x, .int .i64 y] 26 (0, 0)) = w6 at *
    obtain ⟨t, hte⟩ : ∃ t, w5.heap.size = t := ⟨_, rfl⟩
    rw [hte] at hT6 hp5 ⊢
    have Ht := Lib.hid (show p < t ∧ b < t from ⟨hp5, by have := Hb.out; omega⟩)
    clear hte hp5 hz5
    refine (hp.out _ _ hP6.out.s (by omega) 200 (by omega)).mono ?_
    rintro e w7 ⟨wd, rfl, ⟨-, hwd⟩, hs7, hm7⟩
    have hwd := hwd (by omega)
    have hP7 := Lib.hid (hP6.out.on (by have := Hb.out; omega) (by have := Hb.out; omega) hs7 hm7)
    have hT7 := Lib.hid (blk_modV hT6.out hm7 Ht.out.2)
    clear hs7 hm7 hP6 hT6
    go_wp2_with fail
    refine (hp.out _ _ hP7.out.s (by omega) 200 (by omega)).mono ?_
    rintro e w8 ⟨hg, rfl, ⟨-, hhg⟩, hs8, hm8⟩
    have hhg := hhg (by omega)
    have hP8 := Lib.hid (hP7.out.on (by have := Hb.out; omega) (by have := Hb.out; omega) hs8 hm8)
    have hT8 := blk_modV hT7.out hm8 Ht.out.2
    clear hs8 hm8 hP7 hT7
    have t0 := (Lib.cell_of_heap hT8 0).trans rfl
    have t1 := (Lib.cell_of_heap hT8 1).trans rfl
    have c3 := (Lib.cell_of_heap hP8.out.z 3).trans rfl
    have f3 := Lib.frozen_of_heap hP8.out.z 3
    have htw := (Array.getElem?_eq_some_iff.1 hT8).1
    have hpw := (Array.getElem?_eq_some_iff.1 hP8.out.z).1
    have HT8 := Lib.hid hT8
    clear hT8
    have wx : IntKind.i64.wrap (x + (20 + (wd : Int))) = x + (20 + (wd : Int)) := IntWalk.i64_in _ (by omega)
    have wy : IntKind.i64.wrap (y + (20 + (hg : Int))) = y + (20 + (hg : Int)) := IntWalk.i64_in _ (by omega)
    have w20 : IntKind.i64.wrap (20 + (wd : Int)) = 20 + (wd : Int) := IntWalk.i64_in _ (by omega)
    have h20 : IntKind.i64.wrap (20 + (hg : Int)) = 20 + (hg : Int) := IntWalk.i64_in _ (by omega)
    have hs8 := hP8.out.m.size
    have hqp : w.heap.size ≠ p := by have := Hb.out; omega
    have hqp2 : p ≠ w.heap.size := fun e => hqp e.symm
    have ht8 : t < w8.heap.size := htw
    have hsz9 : (w8.setCell ⟨p, 3, none⟩ (.slice (some ⟨w8.heap.size, 0, none⟩) 4 4)).heap.size = w8.heap.size := by simp
    have hP9a := hP8.out.set (j := 3) (kd' := 1 + (k : Int)) (st' := 1 + (s1 : Int)) (ea' := 25 + (e1 : Int)) (v' := .slice (some ⟨w8.heap.size, 0, none⟩) 4 4) (u := .slice (some ⟨w8.heap.size, 0, none⟩) 4 4) (by have := Hb.out; omega) (by have := Hb.out; omega) hqp rfl
    have hT9a := blk_offV (q := p) (j := 3) HT8.out (by have := Ht.out; omega) (.slice (some ⟨w8.heap.size, 0, none⟩) 4 4)
    have hb9 := (Below.refl (w8.setCell ⟨p, 3, none⟩ (.slice (some ⟨w8.heap.size, 0, none⟩) 4 4)).heap.size (w8.setCell ⟨p, 3, none⟩ (.slice (some ⟨w8.heap.size, 0, none⟩) 4 4))).alloc (Nat.le_refl _) (.cells #[.int .i64 x, .int .i64 y, .int .i64 (x + (20 + (wd : Int))), .int .i64 y, .int .i64 (x + (20 + (wd : Int))), .int .i64 (y + (20 + (hg : Int))), .int .i64 x, .int .i64 (y + (20 + (hg : Int)))] 26 (0, 0))
    have hO := own_four (w8.setCell ⟨p, 3, none⟩ (.slice (some ⟨w8.heap.size, 0, none⟩) 4 4)) t ⟨x, y⟩ ⟨x + (20 + (wd : Int)), y⟩ ⟨x + (20 + (wd : Int)), y + (20 + (hg : Int))⟩ ⟨x, y + (20 + (hg : Int))⟩ (by rw [hsz9]; exact Nat.le_of_lt ht8)
    rw [hsz9] at hO
    have hP9 := Lib.hid (hP9a.up hb9)
    have hO9 := Lib.hid hO
    have hT9 := Lib.hid (blkN_below hb9 hT9a)
    clear hO hP9a hb9 hT9a hsz9
    go_wp2_with fail
    generalize (w8.setCell ⟨p, 3, none⟩ (.slice (some ⟨w8.heap.size, 0, none⟩) 4 4)).alloc (.cells #[.int .i64 x, .int .i64 y, .int .i64 (x + (20 + (wd : Int))), .int .i64 y, .int .i64 (x + (20 + (wd : Int))), .int .i64 (y + (20 + (hg : Int))), .int .i64 x, .int .i64 (y + (20 + (hg : Int)))] 26 (0, 0)) = w9 at *
    clear t0 t1 c3 f3 htw hpw
    obtain ⟨g, hge⟩ : ∃ g, w8.heap.size = g := ⟨_, rfl⟩
    rw [hge] at hP9 hO9 ⊢
    refine (hp.out _ _ hP9.out.s (by omega) 4 (by omega)).mono ?_
    rintro e w10 ⟨j, rfl, -, hs10, hm10⟩
    have hP := Lib.hid (hP9.out.on (by have := Hb.out; omega) (by have := Hb.out; omega) hs10 hm10)
    have hO := Lib.hid (hO9.out.mod hm10 (by have := Ht.out; omega))
    have hT := blk_modV hT9.out hm10 Ht.out.2
    have hz10 := hP.out.m.size
    have htz : t < w10.heap.size := (Array.getElem?_eq_some_iff.1 hT).1
    have t0 := (Lib.cell_of_heap hT 0).trans rfl
    have t1 := (Lib.cell_of_heap hT 1).trans rfl
    clear hs10 hm10 hP9 hO9 hT9 HT8 hT hge
    have c0 := (Lib.cell_of_heap hP.out.z 0).trans rfl
    have c1 := (Lib.cell_of_heap hP.out.z 1).trans rfl
    have c2 := (Lib.cell_of_heap hP.out.z 2).trans rfl
    have c3 := (Lib.cell_of_heap hP.out.z 3).trans rfl
    have r0 := (Lib.cell_of_heap hP.out.r 0).trans rfl
    have r1 := (Lib.cell_of_heap hP.out.r 1).trans rfl
    have r2 := (Lib.cell_of_heap hP.out.r 2).trans rfl
    have r3 := (Lib.cell_of_heap hP.out.r 3).trans rfl
    have f0 := Lib.frozen_of_heap hP.out.r 0
    have f1 := Lib.frozen_of_heap hP.out.r 1
    have f2 := Lib.frozen_of_heap hP.out.r 2
    have f3 := Lib.frozen_of_heap hP.out.r 3
    have g3 := Lib.frozen_of_heap hP.out.z 3
    by_cases j0 : j = 0
    · have q0 : ((j : Int) == 0) = true := by rw [beq_iff_eq]; omega
      have hSl := slw_take (k := 3) (hO.out.slw Pnt.len) (by simp) (by omega)
      have HSl := Lib.hid hSl
      clear hSl
      go_wp2
      refine bodyPost_ret (v := .agg #[.int .i64 (1 + (k : Int)), .int .i64 (1 + (s1 : Int)), .int .i64 (25 + (e1 : Int)), .slice (some ⟨g, 0, none⟩) 3 4]) (by simp [results, Tryd.results52, go_sem, r0, r1, r2, r3]) rfl ?_
      exact ⟨⟨1 + (k : Int), 1 + (s1 : Int), 25 + (e1 : Int)⟩, ⟨some ⟨g, 0, none⟩, 3, 4⟩, _, rfl, slw_wide (lo := t) (hi := w10.heap.size) (set4 (slw_off HSl.out (by have := Ht.out; omega)) (by have := Hb.out; have := Ht.out; omega) _ _ _ _) (by have := Hb.out; have := Ht.out; omega) (by simp), by simp, src4 (src_setV (hP.out.s.mono (by omega)) (by have := Hb.out; omega) _) (by have := Hb.out; omega) _ _ _ _, mod4 (mod_setV hP.out.m (by have := Hb.out; omega) _) (Nat.le_refl _) _ _ _ _⟩
    · have q0 : ((j : Int) == 0) = false := by rw [beq_eq_false_iff_ne]; omega
      by_cases j1 : j = 1
      · have q1 : ((j : Int) == 1) = true := by rw [beq_iff_eq]; omega
        obtain ⟨d, hd⟩ : ∃ d, (20 + (hg : Int)).tdiv 2 = d := ⟨_, rfl⟩
        have hdb : 0 ≤ d ∧ d ≤ 120 := by rw [← hd, Int.tdiv_eq_ediv_of_nonneg (by omega)]; omega
        have wd1 : IntKind.i64.wrap d = d := IntWalk.i64_in _ (by omega)
        have wd2 : IntKind.i64.wrap (y + d) = y + d := IntWalk.i64_in _ (by omega)
        have wd3 : IntKind.i64.wrap (x - 10) = x - 10 := IntWalk.i64_in _ (by omega)
        have hpp : w.heap.size ≤ t := by have := Hb.out; have := Ht.out; omega
        clear r0 r1 r2 r3 f0 f1 f2 f3 c0 c1 c2 g3
        go_wp2_with (at_builtin; refine wpList_app1 (c := Pnt.cells) (bytes := 16) rfl _ _ 31 26 rfl Tryd.underlying31 info_PntZ (by omega) Pnt.len Pnt.oneZ t _ (⟨x - 10, y + d⟩ : Pnt) _ rfl w10 rfl hO.out rfl (by simp) (by simp) (Nat.le_of_lt htz) ?_; intro v' w11 hown11 hg11; obtain ⟨va, vc, rfl⟩ := own_sv hown11; have hB11 := hO.out.app (Below.refl t w10) (Nat.le_refl _) (Nat.le_of_lt htz) hg11; have hZ11 := grown_block hO.out hP.out.z (by decide) hg11; have hR11 := grown_block hO.out hP.out.r (by decide) hg11; have HSl := Lib.hid (hown11.slw Pnt.len); have d0 := (Lib.cell_of_heap hZ11 0).trans rfl; have d1 := (Lib.cell_of_heap hZ11 1).trans rfl; have d2 := (Lib.cell_of_heap hZ11 2).trans rfl; have d3 := (Lib.cell_of_heap hZ11 3).trans rfl; have k3 := Lib.frozen_of_heap hZ11 3; have r0 := (Lib.cell_of_heap hR11 0).trans rfl; have r1 := (Lib.cell_of_heap hR11 1).trans rfl; have r2 := (Lib.cell_of_heap hR11 2).trans rfl; have r3 := (Lib.cell_of_heap hR11 3).trans rfl; have f0 := Lib.frozen_of_heap hR11 0; have f1 := Lib.frozen_of_heap hR11 1; have f2 := Lib.frozen_of_heap hR11 2; have f3 := Lib.frozen_of_heap hR11 3; clear hown11 hg11 hZ11 hR11 c3)
        refine bodyPost_ret (v := .agg #[.int .i64 (1 + (k : Int)), .int .i64 (1 + (s1 : Int)), .int .i64 (25 + (e1 : Int)), .slice va 5 vc]) (by simp [results, Tryd.results52, go_sem, r0, r1, r2, r3]) rfl ?_
        exact ⟨⟨1 + (k : Int), 1 + (s1 : Int), 25 + (e1 : Int)⟩, ⟨va, 5, vc⟩, _, rfl, slw_wide (lo := t) (hi := w11.heap.size) (set4 (slw_off HSl.out (by have := Ht.out; omega)) (by have := Hb.out; have := Ht.out; omega) _ _ _ _) hpp (by simp), by simp, src4 (src_setV ((hP.out.s.lo hB11 (by have := Ht.out; omega)).mono (by omega)) (by have := Hb.out; omega) _) (by have := Hb.out; omega) _ _ _ _, mod4 (mod_setV (hP.out.m.onV (hB11.mono hpp)) (by have := Hb.out; omega) _) (Nat.le_refl _) _ _ _ _⟩
      · have q1 : ((j : Int) == 1) = false := by rw [beq_eq_false_iff_ne]; omega
        have HSl := Lib.hid (hO.out.slw Pnt.len)
        go_wp2
        refine bodyPost_ret (v := .agg #[.int .i64 (1 + (k : Int)), .int .i64 (1 + (s1 : Int)), .int .i64 (25 + (e1 : Int)), .slice (some ⟨g, 0, none⟩) 4 4]) (by simp [results, Tryd.results52, go_sem, r0, r1, r2, r3]) rfl ?_
        exact ⟨⟨1 + (k : Int), 1 + (s1 : Int), 25 + (e1 : Int)⟩, ⟨some ⟨g, 0, none⟩, 4, 4⟩, _, rfl, slw_wide (lo := t) (hi := w10.heap.size) (set4 HSl.out (by have := Hb.out; have := Ht.out; omega) _ _ _ _) (by have := Hb.out; have := Ht.out; omega) (by simp), by simp, src4 (hP.out.s.mono (by omega)) (by have := Hb.out; omega) _ _ _ _, mod4 hP.out.m (Nat.le_refl _) _ _ _ _⟩
  · have hk1 : ((1 : Int) + (k : Int) == 1) = false := by rw [beq_eq_false_iff_ne]; omega
    go_wp2_with fail
    generalize w2.alloc (.cells #[.int .i64 (1 + (k : Int)), .int .i64 0, .int .i64 0, .slice none 0 0] 33 (0, 0)) = w3 at *
    obtain ⟨p, hpe⟩ : ∃ p, w2.heap.size = p := ⟨_, rfl⟩
    rw [hpe] at hP hq2 ⊢
    clear hpe
    have Hb := Lib.hid (show b < w.heap.size ∧ w.heap.size < p from ⟨hbl, hq2⟩)
    clear k0
    refine (draw_PtV b _ _ hP.out.s (by omega)).mono ?_
    rintro e w5 ⟨x, y, rfl, ⟨xa, xb⟩, ⟨ya, yb⟩, hs5, hm5⟩
    have hP5 := hP.out.on (by have := Hb.out; omega) (by have := Hb.out; omega) hs5 hm5
    have hb6 := (Below.refl w5.heap.size w5).alloc (Nat.le_refl _) (.cells #[.int .i64 x, .int .i64 y] 26 (0, 0))
    have hP6 := Lib.hid (hP5.up hb6)
    have hT6 := Lib.hid (blkN_new w5 (.cells #[.int .i64 x, .int .i64 y] 26 (0, 0)))
    have hz5 := hP5.m.size
    have hp5 := (Array.getElem?_eq_some_iff.1 hP5.z).1
    clear hs5 hm5 hP5 hb6
    go_wp2_with fail
    generalize w5.alloc (.cells #[.int .i64 x, .int .i64 y] 26 (0, 0)) = w6 at *
    obtain ⟨t, hte⟩ : ∃ t, w5.heap.size = t := ⟨_, rfl⟩
    rw [hte] at hT6 hp5 ⊢
    have Ht := Lib.hid (show p < t ∧ b < t from ⟨hp5, by have := Hb.out; omega⟩)
    clear hte hp5 hz5
    refine (hp.out _ _ hP6.out.s (by omega) 200 (by omega)).mono ?_
    rintro e w7 ⟨wd, rfl, ⟨-, hwd⟩, hs7, hm7⟩
    have hwd := hwd (by omega)
    have hP7 := Lib.hid (hP6.out.on (by have := Hb.out; omega) (by have := Hb.out; omega) hs7 hm7)
    have hT7 := Lib.hid (blk_modV hT6.out hm7 Ht.out.2)
    clear hs7 hm7 hP6 hT6
    go_wp2_with fail
    refine (hp.out _ _ hP7.out.s (by omega) 200 (by omega)).mono ?_
    rintro e w8 ⟨hg, rfl, ⟨-, hhg⟩, hs8, hm8⟩
    have hhg := hhg (by omega)
    have hP8 := Lib.hid (hP7.out.on (by have := Hb.out; omega) (by have := Hb.out; omega) hs8 hm8)
    have hT8 := blk_modV hT7.out hm8 Ht.out.2
    clear hs8 hm8 hP7 hT7
    have t0 := (Lib.cell_of_heap hT8 0).trans rfl
    have t1 := (Lib.cell_of_heap hT8 1).trans rfl
    have c3 := (Lib.cell_of_heap hP8.out.z 3).trans rfl
    have f3 := Lib.frozen_of_heap hP8.out.z 3
    have htw := (Array.getElem?_eq_some_iff.1 hT8).1
    have hpw := (Array.getElem?_eq_some_iff.1 hP8.out.z).1
    have HT8 := Lib.hid hT8
    clear hT8
    have wx : IntKind.i64.wrap (x + (20 + (wd : Int))) = x + (20 + (wd : Int)) := IntWalk.i64_in _ (by omega)
    have wy : IntKind.i64.wrap (y + (20 + (hg : Int))) = y + (20 + (hg : Int)) := IntWalk.i64_in _ (by omega)
    have w20 : IntKind.i64.wrap (20 + (wd : Int)) = 20 + (wd : Int) := IntWalk.i64_in _ (by omega)
    have h20 : IntKind.i64.wrap (20 + (hg : Int)) = 20 + (hg : Int) := IntWalk.i64_in _ (by omega)
    have hs8 := hP8.out.m.size
    have hqp : w.heap.size ≠ p := by have := Hb.out; omega
    have hqp2 : p ≠ w.heap.size := fun e => hqp e.symm
    have ht8 : t < w8.heap.size := htw
    have hsz9 : (w8.setCell ⟨p, 3, none⟩ (.slice (some ⟨w8.heap.size, 0, none⟩) 4 4)).heap.size = w8.heap.size := by simp
    have hP9a := hP8.out.set (j := 3) (kd' := 1 + (k : Int)) (st' := 0) (ea' := 0) (v' := .slice (some ⟨w8.heap.size, 0, none⟩) 4 4) (u := .slice (some ⟨w8.heap.size, 0, none⟩) 4 4) (by have := Hb.out; omega) (by have := Hb.out; omega) hqp rfl
    have hT9a := blk_offV (q := p) (j := 3) HT8.out (by have := Ht.out; omega) (.slice (some ⟨w8.heap.size, 0, none⟩) 4 4)
    have hb9 := (Below.refl (w8.setCell ⟨p, 3, none⟩ (.slice (some ⟨w8.heap.size, 0, none⟩) 4 4)).heap.size (w8.setCell ⟨p, 3, none⟩ (.slice (some ⟨w8.heap.size, 0, none⟩) 4 4))).alloc (Nat.le_refl _) (.cells #[.int .i64 x, .int .i64 y, .int .i64 (x + (20 + (wd : Int))), .int .i64 y, .int .i64 (x + (20 + (wd : Int))), .int .i64 (y + (20 + (hg : Int))), .int .i64 x, .int .i64 (y + (20 + (hg : Int)))] 26 (0, 0))
    have hO := own_four (w8.setCell ⟨p, 3, none⟩ (.slice (some ⟨w8.heap.size, 0, none⟩) 4 4)) t ⟨x, y⟩ ⟨x + (20 + (wd : Int)), y⟩ ⟨x + (20 + (wd : Int)), y + (20 + (hg : Int))⟩ ⟨x, y + (20 + (hg : Int))⟩ (by rw [hsz9]; exact Nat.le_of_lt ht8)
    rw [hsz9] at hO
    have hP9 := Lib.hid (hP9a.up hb9)
    have hO9 := Lib.hid hO
    have hT9 := Lib.hid (blkN_below hb9 hT9a)
    clear hO hP9a hb9 hT9a hsz9
    go_wp2_with fail
    generalize (w8.setCell ⟨p, 3, none⟩ (.slice (some ⟨w8.heap.size, 0, none⟩) 4 4)).alloc (.cells #[.int .i64 x, .int .i64 y, .int .i64 (x + (20 + (wd : Int))), .int .i64 y, .int .i64 (x + (20 + (wd : Int))), .int .i64 (y + (20 + (hg : Int))), .int .i64 x, .int .i64 (y + (20 + (hg : Int)))] 26 (0, 0)) = w9 at *
    clear t0 t1 c3 f3 htw hpw
    obtain ⟨g, hge⟩ : ∃ g, w8.heap.size = g := ⟨_, rfl⟩
    rw [hge] at hP9 hO9 ⊢
    refine (hp.out _ _ hP9.out.s (by omega) 4 (by omega)).mono ?_
    rintro e w10 ⟨j, rfl, -, hs10, hm10⟩
    have hP := Lib.hid (hP9.out.on (by have := Hb.out; omega) (by have := Hb.out; omega) hs10 hm10)
    have hO := Lib.hid (hO9.out.mod hm10 (by have := Ht.out; omega))
    have hT := blk_modV hT9.out hm10 Ht.out.2
    have hz10 := hP.out.m.size
    have htz : t < w10.heap.size := (Array.getElem?_eq_some_iff.1 hT).1
    have t0 := (Lib.cell_of_heap hT 0).trans rfl
    have t1 := (Lib.cell_of_heap hT 1).trans rfl
    clear hs10 hm10 hP9 hO9 hT9 HT8 hT hge
    have c0 := (Lib.cell_of_heap hP.out.z 0).trans rfl
    have c1 := (Lib.cell_of_heap hP.out.z 1).trans rfl
    have c2 := (Lib.cell_of_heap hP.out.z 2).trans rfl
    have c3 := (Lib.cell_of_heap hP.out.z 3).trans rfl
    have r0 := (Lib.cell_of_heap hP.out.r 0).trans rfl
    have r1 := (Lib.cell_of_heap hP.out.r 1).trans rfl
    have r2 := (Lib.cell_of_heap hP.out.r 2).trans rfl
    have r3 := (Lib.cell_of_heap hP.out.r 3).trans rfl
    have f0 := Lib.frozen_of_heap hP.out.r 0
    have f1 := Lib.frozen_of_heap hP.out.r 1
    have f2 := Lib.frozen_of_heap hP.out.r 2
    have f3 := Lib.frozen_of_heap hP.out.r 3
    have g3 := Lib.frozen_of_heap hP.out.z 3
    by_cases j0 : j = 0
    · have q0 : ((j : Int) == 0) = true := by rw [beq_iff_eq]; omega
      have hSl := slw_take (k := 3) (hO.out.slw Pnt.len) (by simp) (by omega)
      have HSl := Lib.hid hSl
      clear hSl
      go_wp2
      refine bodyPost_ret (v := .agg #[.int .i64 (1 + (k : Int)), .int .i64 (0), .int .i64 (0), .slice (some ⟨g, 0, none⟩) 3 4]) (by simp [results, Tryd.results52, go_sem, r0, r1, r2, r3]) rfl ?_
      exact ⟨⟨1 + (k : Int), 0, 0⟩, ⟨some ⟨g, 0, none⟩, 3, 4⟩, _, rfl, slw_wide (lo := t) (hi := w10.heap.size) (set4 (slw_off HSl.out (by have := Ht.out; omega)) (by have := Hb.out; have := Ht.out; omega) _ _ _ _) (by have := Hb.out; have := Ht.out; omega) (by simp), by simp, src4 (src_setV (hP.out.s.mono (by omega)) (by have := Hb.out; omega) _) (by have := Hb.out; omega) _ _ _ _, mod4 (mod_setV hP.out.m (by have := Hb.out; omega) _) (Nat.le_refl _) _ _ _ _⟩
    · have q0 : ((j : Int) == 0) = false := by rw [beq_eq_false_iff_ne]; omega
      by_cases j1 : j = 1
      · have q1 : ((j : Int) == 1) = true := by rw [beq_iff_eq]; omega
        obtain ⟨d, hd⟩ : ∃ d, (20 + (hg : Int)).tdiv 2 = d := ⟨_, rfl⟩
        have hdb : 0 ≤ d ∧ d ≤ 120 := by rw [← hd, Int.tdiv_eq_ediv_of_nonneg (by omega)]; omega
        have wd1 : IntKind.i64.wrap d = d := IntWalk.i64_in _ (by omega)
        have wd2 : IntKind.i64.wrap (y + d) = y + d := IntWalk.i64_in _ (by omega)
        have wd3 : IntKind.i64.wrap (x - 10) = x - 10 := IntWalk.i64_in _ (by omega)
        have hpp : w.heap.size ≤ t := by have := Hb.out; have := Ht.out; omega
        clear r0 r1 r2 r3 f0 f1 f2 f3 c0 c1 c2 g3
        go_wp2_with (at_builtin; refine wpList_app1 (c := Pnt.cells) (bytes := 16) rfl _ _ 31 26 rfl Tryd.underlying31 info_PntZ (by omega) Pnt.len Pnt.oneZ t _ (⟨x - 10, y + d⟩ : Pnt) _ rfl w10 rfl hO.out rfl (by simp) (by simp) (Nat.le_of_lt htz) ?_; intro v' w11 hown11 hg11; obtain ⟨va, vc, rfl⟩ := own_sv hown11; have hB11 := hO.out.app (Below.refl t w10) (Nat.le_refl _) (Nat.le_of_lt htz) hg11; have hZ11 := grown_block hO.out hP.out.z (by decide) hg11; have hR11 := grown_block hO.out hP.out.r (by decide) hg11; have HSl := Lib.hid (hown11.slw Pnt.len); have d0 := (Lib.cell_of_heap hZ11 0).trans rfl; have d1 := (Lib.cell_of_heap hZ11 1).trans rfl; have d2 := (Lib.cell_of_heap hZ11 2).trans rfl; have d3 := (Lib.cell_of_heap hZ11 3).trans rfl; have k3 := Lib.frozen_of_heap hZ11 3; have r0 := (Lib.cell_of_heap hR11 0).trans rfl; have r1 := (Lib.cell_of_heap hR11 1).trans rfl; have r2 := (Lib.cell_of_heap hR11 2).trans rfl; have r3 := (Lib.cell_of_heap hR11 3).trans rfl; have f0 := Lib.frozen_of_heap hR11 0; have f1 := Lib.frozen_of_heap hR11 1; have f2 := Lib.frozen_of_heap hR11 2; have f3 := Lib.frozen_of_heap hR11 3; clear hown11 hg11 hZ11 hR11 c3)
        refine bodyPost_ret (v := .agg #[.int .i64 (1 + (k : Int)), .int .i64 (0), .int .i64 (0), .slice va 5 vc]) (by simp [results, Tryd.results52, go_sem, r0, r1, r2, r3]) rfl ?_
        exact ⟨⟨1 + (k : Int), 0, 0⟩, ⟨va, 5, vc⟩, _, rfl, slw_wide (lo := t) (hi := w11.heap.size) (set4 (slw_off HSl.out (by have := Ht.out; omega)) (by have := Hb.out; have := Ht.out; omega) _ _ _ _) hpp (by simp), by simp, src4 (src_setV ((hP.out.s.lo hB11 (by have := Ht.out; omega)).mono (by omega)) (by have := Hb.out; omega) _) (by have := Hb.out; omega) _ _ _ _, mod4 (mod_setV (hP.out.m.onV (hB11.mono hpp)) (by have := Hb.out; omega) _) (Nat.le_refl _) _ _ _ _⟩
      · have q1 : ((j : Int) == 1) = false := by rw [beq_eq_false_iff_ne]; omega
        have HSl := Lib.hid (hO.out.slw Pnt.len)
        go_wp2
        refine bodyPost_ret (v := .agg #[.int .i64 (1 + (k : Int)), .int .i64 (0), .int .i64 (0), .slice (some ⟨g, 0, none⟩) 4 4]) (by simp [results, Tryd.results52, go_sem, r0, r1, r2, r3]) rfl ?_
        exact ⟨⟨1 + (k : Int), 0, 0⟩, ⟨some ⟨g, 0, none⟩, 4, 4⟩, _, rfl, slw_wide (lo := t) (hi := w10.heap.size) (set4 HSl.out (by have := Hb.out; have := Ht.out; omega) _ _ _ _) (by have := Hb.out; have := Ht.out; omega) (by simp), by simp, src4 (hP.out.s.mono (by omega)) (by have := Hb.out; omega) _ _ _ _, mod4 hP.out.m (Nat.le_refl _) _ _ _ _⟩
end Go.Proofs.YtpabbehpkokhbaaDoor
