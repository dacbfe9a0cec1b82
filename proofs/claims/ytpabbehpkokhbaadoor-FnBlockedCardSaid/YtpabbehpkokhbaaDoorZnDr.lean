/- Zones: the three draws of the law. -/
import Derived.Test.YtpabbehpkokhbaaDoorZnI
import Derived.Test.YtpabbehpkokhbaaDoorZnD
import Derived.Test.YtpabbehpkokhbaaDoorZnCr
namespace Go.Proofs.YtpabbehpkokhbaaDoor
open Go.RowKit
theorem blk_offM {b p : Nat} {w w' : World} {o : Obj} (hm : Mod b (b + 1) w w') (h : w.heap[p]? = some o) (hp : p < b ∨ b < p) : w'.heap[p]? = some o := (hm.block p (Array.getElem?_eq_some_iff.1 h).1 (by omega)).trans h
theorem far7 (W : World) (q : Nat) (a0 a1 a2 a3 a4 a5 a6 : Value) (k : Nat) (hk : k ≠ q) : ((((((((W.setCell ⟨q, 0, none⟩ (a0)).setCell ⟨q, 1, none⟩ (a1)).setCell ⟨q, 2, none⟩ (a2)).setCell ⟨q, 3, none⟩ (a3)).setCell ⟨q, 4, none⟩ (a4)).setCell ⟨q, 5, none⟩ (a5)).setCell ⟨q, 6, none⟩ (a6))).heap[k]? = W.heap[k]? :=
  (Below.heap_setCell _ ⟨q, 6, none⟩ a6 k hk).trans ((Below.heap_setCell _ ⟨q, 5, none⟩ a5 k hk).trans ((Below.heap_setCell _ ⟨q, 4, none⟩ a4 k hk).trans ((Below.heap_setCell _ ⟨q, 3, none⟩ a3 k hk).trans ((Below.heap_setCell _ ⟨q, 2, none⟩ a2 k hk).trans ((Below.heap_setCell _ ⟨q, 1, none⟩ a1 k hk).trans (Below.heap_setCell W ⟨q, 0, none⟩ a0 k hk))))))
theorem at7 {W : World} {q : Nat} {T : TypeId} {fz : Nat × Nat} {c0 c1 c2 c3 c4 c5 c6 : Value} (h : W.heap[q]? = some (.cells #[c0, c1, c2, c3, c4, c5, c6] T fz)) (a0 a1 a2 a3 a4 a5 a6 : Value) : ((((((((W.setCell ⟨q, 0, none⟩ (a0)).setCell ⟨q, 1, none⟩ (a1)).setCell ⟨q, 2, none⟩ (a2)).setCell ⟨q, 3, none⟩ (a3)).setCell ⟨q, 4, none⟩ (a4)).setCell ⟨q, 5, none⟩ (a5)).setCell ⟨q, 6, none⟩ (a6))).heap[q]? = some (.cells #[a0, a1, a2, a3, a4, a5, a6] T fz) := by
  simp [World.setCell, Array.getElem?_modify, h]
theorem below7 {B q : Nat} {W V : World} (h : Below B V W) (hq : B ≤ q) (a0 a1 a2 a3 a4 a5 a6 : Value) : Below B V ((((((((W.setCell ⟨q, 0, none⟩ (a0)).setCell ⟨q, 1, none⟩ (a1)).setCell ⟨q, 2, none⟩ (a2)).setCell ⟨q, 3, none⟩ (a3)).setCell ⟨q, 4, none⟩ (a4)).setCell ⟨q, 5, none⟩ (a5)).setCell ⟨q, 6, none⟩ (a6))) :=
  (((((((h.setCell (p := ⟨q, 0, none⟩) hq _).setCell (p := ⟨q, 1, none⟩) hq _).setCell (p := ⟨q, 2, none⟩) hq _).setCell (p := ⟨q, 3, none⟩) hq _).setCell (p := ⟨q, 4, none⟩) hq _).setCell (p := ⟨q, 5, none⟩) hq _).setCell (p := ⟨q, 6, none⟩) hq _)
/-- What DrawFreeJibDirections gives. -/
def FjDraw (w : World) (e : Ending) (w' : World) : Prop := ∃ (f : CraneF) (s : SV) (l : List Chs) (v : Value) (rs : List ZoneR) (L : ZonesL), e = .returned (.tuple #[.agg (CraneR.cells ⟨f, s⟩).toArray, v]) ∧ f.name.size ≤ maxLen ∧ Chss w.heap.size w'.heap.size w' s.v l ∧ Zones w.heap.size w'.heap.size w' v rs L ∧ ZDs L ∧ L.length ≤ 11 ∧ Below w.heap.size w w'
set_option maxRecDepth 100000 in
set_option maxHeartbeats 4000000 in
theorem draw_FreeJib (v : Value) (l : List UInt8) (hi : Nat) (w : World) (h : Sl 1 byteC 0 hi w v l) (hhi : hi ≤ w.heap.size) (hl : l.length ≤ 1048576) : Calls Tryd.prog 15 #[v] w (FjDraw w) := by
  have hb0 := (Below.refl w.heap.size w).alloc (Nat.le_refl _) (.cells #[.string ByteArray.empty, .int .i64 0, .int .i64 0, .int .i64 0, .int .i64 0, .int .i64 0, .slice none 0 0] 41 (0, 0))
  have hX0 := blkN_new w (.cells #[.string ByteArray.empty, .int .i64 0, .int .i64 0, .int .i64 0, .int .i64 0, .int .i64 0, .slice none 0 0] 41 (0, 0))
  have hf := Lib.hid (src_from v l hi _ (h.below hb0 hhi) (by simp; omega) hl)
  obtain ⟨a, cap, rfl, _⟩ := h
  go_enter Tryd.func15, Tryd.ntmps15
  go_wp2_with fail
  refine hf.out.mono ?_
  rintro e w1 ⟨rfl, hs1, hb1⟩
  have hX1 := blkN_below hb1 hX0
  have hB1 := Lib.hid (hb0.trans (hb1.mono (by simp)))
  simp only [World.size_alloc] at hs1
  have hS1 := Lib.hid hs1
  have HX1 := Lib.hid hX1
  clear hb0 hb1 hX0 hX1 hs1 hf
  go_wp2_with fail
  obtain ⟨q, hq⟩ : ∃ q, w.heap.size = q := ⟨_, rfl⟩
  have Hq := Lib.hid hq
  rw [hq] at HX1 hS1 hB1 ⊢
  clear hq
  refine (draw_One (q + 1) 0 w1 hS1.out (by omega)).mono ?_
  rintro e w2 ⟨⟨nm, x, y, h, j, k⟩, ⟨sa, sl, sc⟩, ch, rfl, hn, hch, hs2, hm2⟩
  have hbl := hS1.out.lt
  have hX2 := blk_offM hm2 HX1.out (by omega)
  have hB2 := hB1.out.trans (hm2.below (show q ≤ q + 1 by omega) (by omega))
  have hb3 := (Below.refl w2.heap.size w2).alloc (Nat.le_refl _) (.cells #[.string nm, .int .i64 x, .int .i64 y, .int .i64 h, .int .i64 j, .int .i64 k, (.slice sa sl sc)] 41 (0, 0))
  have hP3 := Lib.hid (blkN_new w2 (.cells #[.string nm, .int .i64 x, .int .i64 y, .int .i64 h, .int .i64 j, .int .i64 k, (.slice sa sl sc)] 41 (0, 0)))
  have hX3 := Lib.hid (blkN_below hb3 hX2)
  have hB3 := Lib.hid (hB2.trans (hb3.mono (by rw [← Hq.out]; exact hB2.size)))
  have hS3 := Lib.hid (hs2.below hb3)
  have hC3 := Lib.hid (show Chss w1.heap.size w2.heap.size (w2.alloc (.cells #[.string nm, .int .i64 x, .int .i64 y, .int .i64 h, .int .i64 j, .int .i64 k, (.slice sa sl sc)] 41 (0, 0))) (.slice sa sl sc) ch from hch.ext hb3)
  have Hn := Lib.hid hn
  have Hz := Lib.hid (show q + 1 < w1.heap.size ∧ w1.heap.size ≤ w2.heap.size from ⟨hbl, hm2.size⟩)
  clear hch hs2 hm2 hbl hX2 hB2 hb3 HX1 hS1 hB1 hn
  simp only [CraneR.cells, SV.v]
  go_wp2_with fail
  generalize w2.alloc (.cells #[.string nm, .int .i64 x, .int .i64 y, .int .i64 h, .int .i64 j, .int .i64 k, (.slice sa sl sc)] 41 (0, 0)) = w3 at *
  obtain ⟨p, hpe⟩ : ∃ p, w2.heap.size = p := ⟨_, rfl⟩
  rw [hpe] at hP3 hC3 Hz ⊢
  clear hpe
  have c0 := (Lib.cell_of_heap hP3.out 0).trans rfl
  have c1 := (Lib.cell_of_heap hP3.out 1).trans rfl
  have c2 := (Lib.cell_of_heap hP3.out 2).trans rfl
  have c3 := (Lib.cell_of_heap hP3.out 3).trans rfl
  have c4 := (Lib.cell_of_heap hP3.out 4).trans rfl
  have c5 := (Lib.cell_of_heap hP3.out 5).trans rfl
  have c6 := (Lib.cell_of_heap hP3.out 6).trans rfl
  refine region_ph 99 (fun w' => ∀ o, w'.cell? ⟨p, o, none⟩ = w3.cell? ⟨p, o, none⟩) (fun _ => True) (by kernel_rfl) (fun _ => rfl) trivial (fun hp => ?_)
  refine take_ph 10 (i := 0) rfl rfl (by decide) (by kernel_rfl) (by kernel_rfl) (by kernel_rfl) (fun _ _ _ h => h) (by rfl) (fun w hSw => by (try dsimp only at hSw); go_simp; first | done | with_reducible rfl) hp (fun hp => ?_)
  try simp only [Act.put, List.setIfInBounds_toArray, List.set_cons_zero, List.set_cons_succ]
  refine take_ph 11 (i := 1) rfl rfl (by decide) (by kernel_rfl) (by kernel_rfl) (by kernel_rfl) (fun _ _ _ h => h) (by rfl) (fun w hSw => by (try dsimp only at hSw); go_simp; first | done | with_reducible rfl) hp (fun hp => ?_)
  try simp only [Act.put, List.setIfInBounds_toArray, List.set_cons_zero, List.set_cons_succ]
  refine AnyL.one (i := 2) (by kernel_rfl) rfl (fun K hK => ?_)
  go_simp
  clear c0 c1 c2 c3 c4 c5 c6
  have d3 := (Below.refl w3.heap.size w3).drew
  refine (draw_Some _ _ _ (hS3.out.below d3) (by omega)).mono ?_
  rintro e w4 ⟨zv, rs, L, rfl, hz4, hds, hl11, hs4, hm4⟩
  have hmm := (Mod.of_below (lo := q + 1) (hi := q + 1 + 1) d3).trans hm4
  have hp3 := (Array.getElem?_eq_some_iff.1 hP3.out).1
  have q4 : w4.heap[p]? = w3.heap[p]? := hmm.block p hp3 (.inr (by have := Hz.out; omega))
  have hX4 := blk_offM hmm hX3.out (.inl (Nat.lt_succ_self q))
  have hB4 := hB3.out.trans (hmm.below (show q ≤ q + 1 by omega) (by have := Hz.out; omega))
  have hC4 := hC3.out.keep (hmm.same (Nat.le_of_lt hp3) (.inr (by have := Hz.out; omega)))
  have hz34 : w3.heap.size ≤ w4.heap.size := hmm.size
  have hz4 : Zones w3.heap.size w4.heap.size w4 zv rs L := hz4
  refine hK.out _ _ (ph1 (fun o' => World.cell?_of_block (a := ⟨p, o', none⟩) q4) trivial) (fun hp => ?_)
  clear hK hs4 hm4 d3 hmm hX3 hB3 hC3 hS3
  try simp only [Act.put, List.setIfInBounds_toArray, List.set_cons_zero, List.set_cons_succ]
  refine AnyL.one (i := 3) (by kernel_rfl) rfl (fun K hK => ?_)
  have r0 := (Lib.cell_of_heap hX4 0).trans rfl
  have r1 := (Lib.cell_of_heap hX4 1).trans rfl
  have r2 := (Lib.cell_of_heap hX4 2).trans rfl
  have r3 := (Lib.cell_of_heap hX4 3).trans rfl
  have r4 := (Lib.cell_of_heap hX4 4).trans rfl
  have r5 := (Lib.cell_of_heap hX4 5).trans rfl
  have r6 := (Lib.cell_of_heap hX4 6).trans rfl
  have f0 := fun j => Lib.frozen_of_heap hX4 j
  go_simp
  clear r0 r1 r2 r3 r4 r5 r6 f0
  have hqp : p ≠ q := by have := Hz.out; omega
  have hX5 := at7 hX4 (.string nm) (.int .i64 x) (.int .i64 y) (.int .i64 h) (.int .i64 j) (.int .i64 k) (.slice sa sl sc)
  have hB5 := below7 hB4 (Nat.le_refl q) (.string nm) (.int .i64 x) (.int .i64 y) (.int .i64 h) (.int .i64 j) (.int .i64 k) (.slice sa sl sc)
  have hfar := far7 w4 q (.string nm) (.int .i64 x) (.int .i64 y) (.int .i64 h) (.int .i64 j) (.int .i64 k) (.slice sa sl sc)
  have hC5 := hC4.keep (w' := (((((((w4.setCell ⟨q, 0, none⟩ (.string nm)).setCell ⟨q, 1, none⟩ (.int .i64 x)).setCell ⟨q, 2, none⟩ (.int .i64 y)).setCell ⟨q, 3, none⟩ (.int .i64 h)).setCell ⟨q, 4, none⟩ (.int .i64 j)).setCell ⟨q, 5, none⟩ (.int .i64 k)).setCell ⟨q, 6, none⟩ (.slice sa sl sc))) (fun k' h1 _ => hfar k' (by have := Hz.out; omega))
  have hz5 := NSr.keep (w' := (((((((w4.setCell ⟨q, 0, none⟩ (.string nm)).setCell ⟨q, 1, none⟩ (.int .i64 x)).setCell ⟨q, 2, none⟩ (.int .i64 y)).setCell ⟨q, 3, none⟩ (.int .i64 h)).setCell ⟨q, 4, none⟩ (.int .i64 j)).setCell ⟨q, 5, none⟩ (.int .i64 k)).setCell ⟨q, 6, none⟩ (.slice sa sl sc))) hz4 (fun k' h1 _ => hfar k' (by have := Hz.out; omega))
  have hsz : ((((((((w4.setCell ⟨q, 0, none⟩ (.string nm)).setCell ⟨q, 1, none⟩ (.int .i64 x)).setCell ⟨q, 2, none⟩ (.int .i64 y)).setCell ⟨q, 3, none⟩ (.int .i64 h)).setCell ⟨q, 4, none⟩ (.int .i64 j)).setCell ⟨q, 5, none⟩ (.int .i64 k)).setCell ⟨q, 6, none⟩ (.slice sa sl sc))).heap.size = w4.heap.size := by simp only [World.size_setCell]
  have q5 := (hfar p hqp).trans q4
  refine hK.out _ _ (ph1 (fun o' => World.cell?_of_block (a := ⟨p, o', none⟩) q5) trivial) (fun hp => ?_)
  clear hK hX4 hB4 hC4 hz4 hfar q4
  try simp only [Act.put, List.setIfInBounds_toArray, List.set_cons_zero, List.set_cons_succ]
  generalize (((((((w4.setCell ⟨q, 0, none⟩ (.string nm)).setCell ⟨q, 1, none⟩ (.int .i64 x)).setCell ⟨q, 2, none⟩ (.int .i64 y)).setCell ⟨q, 3, none⟩ (.int .i64 h)).setCell ⟨q, 4, none⟩ (.int .i64 j)).setCell ⟨q, 5, none⟩ (.int .i64 k)).setCell ⟨q, 6, none⟩ (.slice sa sl sc)) = w5 at *
  refine AnyL.one (i := 4) (by kernel_rfl) rfl (fun K hK => ?_)
  go_simp
  refine hK.out _ _ (ph1 (fun o' => World.cell?_of_block (a := ⟨p, o', none⟩) q5) trivial) (fun hp => ?_)
  clear hK q5
  try simp only [Act.put, List.setIfInBounds_toArray, List.set_cons_zero, List.set_cons_succ]
  refine AnyL.done (by kernel_rfl) ?_ _
  (try simp only [Exit.then])
  clear hp
  have r0 := (Lib.cell_of_heap hX5 0).trans rfl
  have r1 := (Lib.cell_of_heap hX5 1).trans rfl
  have r2 := (Lib.cell_of_heap hX5 2).trans rfl
  have r3 := (Lib.cell_of_heap hX5 3).trans rfl
  have r4 := (Lib.cell_of_heap hX5 4).trans rfl
  have r5 := (Lib.cell_of_heap hX5 5).trans rfl
  have r6 := (Lib.cell_of_heap hX5 6).trans rfl
  go_wp2_with fail
  exact bodyPost_ret (v := .tuple #[.agg #[.string nm, .int .i64 x, .int .i64 y, .int .i64 h, .int .i64 j, .int .i64 k, .slice sa sl sc], zv]) (by simp [results, Tryd.results15, go_sem, r0, r1, r2, r3, r4, r5, r6]) rfl
    ⟨⟨nm, x, y, h, j, k⟩, ⟨sa, sl, sc⟩, ch, zv, rs, L, rfl, Hn.out, by rw [Hq.out]; exact hC5.mono (by have := Hz.out; omega) (by have := Hz.out; omega), by rw [Hq.out]; exact NSr.mono hz5 (by have := Hz.out; omega) (by omega), hds, hl11, by rw [Hq.out]; exact hB5⟩
theorem far4 (W : World) (q : Nat) (a0 a1 a2 a3 : Value) (k : Nat) (hk : k ≠ q) : (((((W.setCell ⟨q, 0, none⟩ (a0)).setCell ⟨q, 1, none⟩ (a1)).setCell ⟨q, 2, none⟩ (a2)).setCell ⟨q, 3, none⟩ (a3))).heap[k]? = W.heap[k]? :=
  (Below.heap_setCell _ ⟨q, 3, none⟩ a3 k hk).trans ((Below.heap_setCell _ ⟨q, 2, none⟩ a2 k hk).trans ((Below.heap_setCell _ ⟨q, 1, none⟩ a1 k hk).trans (Below.heap_setCell W ⟨q, 0, none⟩ a0 k hk)))
theorem at4 {W : World} {q : Nat} {T : TypeId} {fz : Nat × Nat} {c0 c1 c2 c3 : Value} (h : W.heap[q]? = some (.cells #[c0, c1, c2, c3] T fz)) (a0 a1 a2 a3 : Value) : (((((W.setCell ⟨q, 0, none⟩ (a0)).setCell ⟨q, 1, none⟩ (a1)).setCell ⟨q, 2, none⟩ (a2)).setCell ⟨q, 3, none⟩ (a3))).heap[q]? = some (.cells #[a0, a1, a2, a3] T fz) := by
  simp [World.setCell, Array.getElem?_modify, h]
theorem below4 {B q : Nat} {W V : World} (h : Below B V W) (hq : B ≤ q) (a0 a1 a2 a3 : Value) : Below B V (((((W.setCell ⟨q, 0, none⟩ (a0)).setCell ⟨q, 1, none⟩ (a1)).setCell ⟨q, 2, none⟩ (a2)).setCell ⟨q, 3, none⟩ (a3))) :=
  (((h.setCell (p := ⟨q, 0, none⟩) hq _).setCell (p := ⟨q, 1, none⟩) hq _).setCell (p := ⟨q, 2, none⟩) hq _).setCell (p := ⟨q, 3, none⟩) hq _
/-- What DrawBlocksLoad gives. -/
def BlDraw (w : World) (e : Ending) (w' : World) : Prop := ∃ (f : ZoneF) (s : SV) (C : List Pnt) (h : Int), e = .returned (.tuple #[.agg (ZoneR.cells ⟨f, s⟩).toArray, .int .i64 h]) ∧ Pnts w.heap.size w'.heap.size w' s.v C ∧ (2 ≤ C.length ∧ C.length ≤ 13) ∧ Below w.heap.size w w'
/-- The draw's two boxes and the corners. -/
structure BB (A q p : Nat) (w : World) (kd st ea : Int) (s : SV) (C : List Pnt) (W : World) : Prop where
  sr : Src (q + 1) A W
  m : Below q w W
  r : W.heap[q]? = some (.cells #[.int .i64 0, .int .i64 0, .int .i64 0, .slice none 0 0] 33 (0, 0))
  z : W.heap[p]? = some (.cells #[.int .i64 kd, .int .i64 st, .int .i64 ea, s.v] 33 (0, 0))
  c : Pnts (q + 2) p W s.v C
  o : q + 1 < p
theorem BB.on {A A' q p : Nat} {w W W' : World} {kd st ea : Int} {s : SV} {C : List Pnt} (h : BB A q p w kd st ea s C W) (hs : Src (q + 1) A' W') (hm : Mod (q + 1) (q + 1 + 1) W W') : BB A' q p w kd st ea s C W' :=
  ⟨hs, h.m.trans (hm.below (Nat.le_succ q) (by have := (Array.getElem?_eq_some_iff.1 h.r).1; omega)), blk_offM hm h.r (.inl (Nat.lt_succ_self q)), blk_modV h.z hm h.o, h.c.keep (hm.same (Nat.le_of_lt (Array.getElem?_eq_some_iff.1 h.z).1) (.inr (Nat.le_refl _))), h.o⟩
theorem BB.up {A q p : Nat} {w W W' : World} {kd st ea : Int} {s : SV} {C : List Pnt} (h : BB A q p w kd st ea s C W) (hb : Below W.heap.size W W') : BB A q p w kd st ea s C W' := h.on (h.sr.below hb) (Mod.of_below hb)
set_option maxRecDepth 100000 in
set_option maxHeartbeats 4000000 in
theorem draw_BLoad (v : Value) (l : List UInt8) (hi : Nat) (w : World) (h : Sl 1 byteC 0 hi w v l) (hhi : hi ≤ w.heap.size) (hl : l.length ≤ 1048576) : Calls Tryd.prog 8 #[v] w (BlDraw w) := by
  have hb0 := (Below.refl w.heap.size w).alloc (Nat.le_refl _) (.cells #[.int .i64 0, .int .i64 0, .int .i64 0, .slice none 0 0] 33 (0, 0))
  have hX0 := blkN_new w (.cells #[.int .i64 0, .int .i64 0, .int .i64 0, .slice none 0 0] 33 (0, 0))
  have hf := Lib.hid (src_from v l hi _ (h.below hb0 hhi) (by simp; omega) hl)
  have ho := Lib.hid (fun b A w' h hA n hn => src_one b A n w' h hA hn)
  obtain ⟨a, cap, rfl, _⟩ := h
  go_enter Tryd.func8, Tryd.ntmps8
  go_wp2_with fail
  refine hf.out.mono ?_
  rintro e w1 ⟨rfl, hs1, hb1⟩
  have hX1 := blkN_below hb1 hX0
  have hB1 := Lib.hid (hb0.trans (hb1.mono (by simp)))
  simp only [World.size_alloc] at hs1
  have hS1 := Lib.hid hs1
  have HX1 := Lib.hid hX1
  clear hb0 hb1 hX0 hX1 hs1 hf
  go_wp2_with fail
  obtain ⟨q, hq⟩ : ∃ q, w.heap.size = q := ⟨_, rfl⟩
  have Hq := Lib.hid hq
  rw [hq] at HX1 hS1 hB1 ⊢
  clear hq
  refine (draw_Bent (q + 1) 0 w1 hS1.out (by omega)).mono ?_
  rintro e w2 ⟨⟨kd, st, ea⟩, ⟨sa, sl, sc⟩, C, rfl, hc, hlen, hs2, hm2⟩
  have hbl := hS1.out.lt
  have hX2 := blk_offM hm2 HX1.out (.inl (Nat.lt_succ_self q))
  have hB2 := hB1.out.trans (hm2.below (show q ≤ q + 1 by omega) (by omega))
  have hb3 := (Below.refl w2.heap.size w2).alloc (Nat.le_refl _) (.cells #[.int .i64 kd, .int .i64 st, .int .i64 ea, (.slice sa sl sc)] 33 (0, 0))
  have hP := Lib.hid (show BB 60 q w2.heap.size w kd st ea ⟨sa, sl, sc⟩ C (w2.alloc (.cells #[.int .i64 kd, .int .i64 st, .int .i64 ea, (.slice sa sl sc)] 33 (0, 0))) from
    ⟨hs2.below hb3, hB2.trans (hb3.mono (by rw [← Hq.out]; exact hB2.size)), blkN_below hb3 hX2, blkN_new _ _, (hc.1.ext hb3).mono (by omega) (Nat.le_refl _), Nat.lt_of_lt_of_le hbl hm2.size⟩)
  have Hlen := Lib.hid hlen
  clear hc hs2 hm2 hbl hX2 hB2 hb3 HX1 hS1 hB1 hlen
  simp only [ZoneR.cells, SV.v]
  go_wp2_with fail
  generalize w2.alloc (.cells #[.int .i64 kd, .int .i64 st, .int .i64 ea, (.slice sa sl sc)] 33 (0, 0)) = w3 at *
  obtain ⟨p, hpe⟩ : ∃ p, w2.heap.size = p := ⟨_, rfl⟩
  rw [hpe] at hP ⊢
  clear hpe
  refine (spec_ZOk p 0 ⟨kd, st, ea⟩ ⟨sa, sl, sc⟩ C (q + 2) p w3 (zat_box hP.out.z) hP.out.c (by have := Hlen.out; omega)).mono ?_
  rintro e w4 ⟨rfl, hb4⟩
  have hP4 := Lib.hid (hP.out.up hb4)
  clear hb4 hP
  generalize zoneB ⟨kd, st, ea⟩ C = ok
  cases ok
  · go_wp2_with fail
    skip
    have c0 := (Lib.cell_of_heap hP4.out.z 0).trans rfl
    have c1 := (Lib.cell_of_heap hP4.out.z 1).trans rfl
    have c2 := (Lib.cell_of_heap hP4.out.z 2).trans rfl
    have c3 := (Lib.cell_of_heap hP4.out.z 3).trans rfl
    simp only [SV.v] at c3
    refine region_ph 99 (fun w' => ∀ o, w'.cell? ⟨p, o, none⟩ = w4.cell? ⟨p, o, none⟩) (fun _ => True) (by kernel_rfl) (fun _ => rfl) trivial (fun hp => ?_)
    refine take_ph 25 (i := 0) rfl rfl (by decide) (by kernel_rfl) (by kernel_rfl) (by kernel_rfl) (fun _ _ _ h => h) (by rfl) (fun w hSw => by (try dsimp only at hSw); go_simp; first | done | with_reducible rfl) hp (fun hp => ?_)
    try simp only [Act.put, List.setIfInBounds_toArray, List.set_cons_zero, List.set_cons_succ]
    refine take_ph 26 (i := 1) rfl rfl (by decide) (by kernel_rfl) (by kernel_rfl) (by kernel_rfl) (fun _ _ _ h => h) (by rfl) (fun w hSw => by (try dsimp only at hSw); go_simp; first | done | with_reducible rfl) hp (fun hp => ?_)
    try simp only [Act.put, List.setIfInBounds_toArray, List.set_cons_zero, List.set_cons_succ]
    refine AnyL.one (i := 2) (by kernel_rfl) rfl (fun K hK => ?_)
    go_simp
    refine (draw_Ht _ _ _ (hP4.out.sr.below (Below.refl w4.heap.size w4).drew) (by omega)).mono ?_
    rintro e w6 ⟨hh, rfl, hs6, hm6⟩
    have hP6 := Lib.hid ((hP4.out.up (Below.refl w4.heap.size w4).drew).on hs6 hm6)
    have q6 : w6.heap[p]? = w4.heap[p]? := hP6.out.z.trans hP4.out.z.symm
    refine hK.out _ _ (ph1 (fun o' => World.cell?_of_block (a := ⟨p, o', none⟩) q6) trivial) (fun hp => ?_)
    clear hK hs6 hm6 c0 c1 c2 c3
    try simp only [Act.put, List.setIfInBounds_toArray, List.set_cons_zero, List.set_cons_succ]
    refine AnyL.one (i := 3) (by kernel_rfl) rfl (fun K hK => ?_)
    have r0 := (Lib.cell_of_heap hP6.out.r 0).trans rfl
    have r1 := (Lib.cell_of_heap hP6.out.r 1).trans rfl
    have r2 := (Lib.cell_of_heap hP6.out.r 2).trans rfl
    have r3 := (Lib.cell_of_heap hP6.out.r 3).trans rfl
    have f0 := fun j => Lib.frozen_of_heap hP6.out.r j
    go_simp
    clear r0 r1 r2 r3 f0
    have hqp : p ≠ q := by have := hP6.out.o; omega
    have hX7 := at4 hP6.out.r (.int .i64 kd) (.int .i64 st) (.int .i64 ea) (.slice sa sl sc)
    have hB7 := below4 hP6.out.m (Nat.le_refl q) (.int .i64 kd) (.int .i64 st) (.int .i64 ea) (.slice sa sl sc)
    have hfar := far4 w6 q (.int .i64 kd) (.int .i64 st) (.int .i64 ea) (.slice sa sl sc)
    have hC7 := hP6.out.c.keep (w' := ((((w6.setCell ⟨q, 0, none⟩ (.int .i64 kd)).setCell ⟨q, 1, none⟩ (.int .i64 st)).setCell ⟨q, 2, none⟩ (.int .i64 ea)).setCell ⟨q, 3, none⟩ (.slice sa sl sc))) (fun k' h1 _ => hfar k' (by omega))
    have hz7 : p ≤ (((((w6.setCell ⟨q, 0, none⟩ (.int .i64 kd)).setCell ⟨q, 1, none⟩ (.int .i64 st)).setCell ⟨q, 2, none⟩ (.int .i64 ea)).setCell ⟨q, 3, none⟩ (.slice sa sl sc))).heap.size := by simp only [World.size_setCell]; exact Nat.le_of_lt (Array.getElem?_eq_some_iff.1 hP6.out.z).1
    have q7 := (hfar p hqp).trans q6
    refine hK.out _ _ (ph1 (fun o' => World.cell?_of_block (a := ⟨p, o', none⟩) q7) trivial) (fun hp => ?_)
    clear hK hfar q6
    try simp only [Act.put, List.setIfInBounds_toArray, List.set_cons_zero, List.set_cons_succ]
    simp only [SV.v] at hC7
    generalize ((((w6.setCell ⟨q, 0, none⟩ (.int .i64 kd)).setCell ⟨q, 1, none⟩ (.int .i64 st)).setCell ⟨q, 2, none⟩ (.int .i64 ea)).setCell ⟨q, 3, none⟩ (.slice sa sl sc)) = w7 at *
    refine AnyL.one (i := 4) (by kernel_rfl) rfl (fun K hK => ?_)
    go_simp
    refine hK.out _ _ (ph1 (fun o' => World.cell?_of_block (a := ⟨p, o', none⟩) q7) trivial) (fun hp => ?_)
    clear hK q7
    try simp only [Act.put, List.setIfInBounds_toArray, List.set_cons_zero, List.set_cons_succ]
    refine AnyL.done (by kernel_rfl) ?_ _
    (try simp only [Exit.then])
    clear hp
    have r0 := (Lib.cell_of_heap hX7 0).trans rfl
    have r1 := (Lib.cell_of_heap hX7 1).trans rfl
    have r2 := (Lib.cell_of_heap hX7 2).trans rfl
    have r3 := (Lib.cell_of_heap hX7 3).trans rfl
    go_wp2_with fail
    exact bodyPost_ret (v := .tuple #[.agg #[.int .i64 kd, .int .i64 st, .int .i64 ea, .slice sa sl sc], .int .i64 (hh)]) (by simp [results, Tryd.results8, go_sem, r0, r1, r2, r3]) rfl
      ⟨⟨kd, st, ea⟩, ⟨sa, sl, sc⟩, C, _, rfl, by rw [Hq.out]; exact hC7.mono (by omega) hz7, Hlen.out, by rw [Hq.out]; exact hB7⟩
  · go_wp2_with fail
    refine (ho.out _ _ _ hP4.out.sr (by omega) 3 (by omega)).mono ?_
    rintro e w5 ⟨c, rfl, hs5, hm5⟩
    have hP5 := Lib.hid (hP4.out.on hs5 hm5)
    clear hs5 hm5 hP4
    cases c
    · go_wp2_with fail
      skip
      have c0 := (Lib.cell_of_heap hP5.out.z 0).trans rfl
      have c1 := (Lib.cell_of_heap hP5.out.z 1).trans rfl
      have c2 := (Lib.cell_of_heap hP5.out.z 2).trans rfl
      have c3 := (Lib.cell_of_heap hP5.out.z 3).trans rfl
      simp only [SV.v] at c3
      refine region_ph 99 (fun w' => ∀ o, w'.cell? ⟨p, o, none⟩ = w5.cell? ⟨p, o, none⟩) (fun _ => True) (by kernel_rfl) (fun _ => rfl) trivial (fun hp => ?_)
      refine take_ph 25 (i := 0) rfl rfl (by decide) (by kernel_rfl) (by kernel_rfl) (by kernel_rfl) (fun _ _ _ h => h) (by rfl) (fun w hSw => by (try dsimp only at hSw); go_simp; first | done | with_reducible rfl) hp (fun hp => ?_)
      try simp only [Act.put, List.setIfInBounds_toArray, List.set_cons_zero, List.set_cons_succ]
      refine take_ph 26 (i := 1) rfl rfl (by decide) (by kernel_rfl) (by kernel_rfl) (by kernel_rfl) (fun _ _ _ h => h) (by rfl) (fun w hSw => by (try dsimp only at hSw); go_simp; first | done | with_reducible rfl) hp (fun hp => ?_)
      try simp only [Act.put, List.setIfInBounds_toArray, List.set_cons_zero, List.set_cons_succ]
      refine AnyL.one (i := 2) (by kernel_rfl) rfl (fun K hK => ?_)
      go_simp
      refine (draw_Ht _ _ _ (hP5.out.sr.below (Below.refl w5.heap.size w5).drew) (by omega)).mono ?_
      rintro e w6 ⟨hh, rfl, hs6, hm6⟩
      have hP6 := Lib.hid ((hP5.out.up (Below.refl w5.heap.size w5).drew).on hs6 hm6)
      have q6 : w6.heap[p]? = w5.heap[p]? := hP6.out.z.trans hP5.out.z.symm
      refine hK.out _ _ (ph1 (fun o' => World.cell?_of_block (a := ⟨p, o', none⟩) q6) trivial) (fun hp => ?_)
      clear hK hs6 hm6 c0 c1 c2 c3
      try simp only [Act.put, List.setIfInBounds_toArray, List.set_cons_zero, List.set_cons_succ]
      refine AnyL.one (i := 3) (by kernel_rfl) rfl (fun K hK => ?_)
      have r0 := (Lib.cell_of_heap hP6.out.r 0).trans rfl
      have r1 := (Lib.cell_of_heap hP6.out.r 1).trans rfl
      have r2 := (Lib.cell_of_heap hP6.out.r 2).trans rfl
      have r3 := (Lib.cell_of_heap hP6.out.r 3).trans rfl
      have f0 := fun j => Lib.frozen_of_heap hP6.out.r j
      go_simp
      clear r0 r1 r2 r3 f0
      have hqp : p ≠ q := by have := hP6.out.o; omega
      have hX7 := at4 hP6.out.r (.int .i64 kd) (.int .i64 st) (.int .i64 ea) (.slice sa sl sc)
      have hB7 := below4 hP6.out.m (Nat.le_refl q) (.int .i64 kd) (.int .i64 st) (.int .i64 ea) (.slice sa sl sc)
      have hfar := far4 w6 q (.int .i64 kd) (.int .i64 st) (.int .i64 ea) (.slice sa sl sc)
      have hC7 := hP6.out.c.keep (w' := ((((w6.setCell ⟨q, 0, none⟩ (.int .i64 kd)).setCell ⟨q, 1, none⟩ (.int .i64 st)).setCell ⟨q, 2, none⟩ (.int .i64 ea)).setCell ⟨q, 3, none⟩ (.slice sa sl sc))) (fun k' h1 _ => hfar k' (by omega))
      have hz7 : p ≤ (((((w6.setCell ⟨q, 0, none⟩ (.int .i64 kd)).setCell ⟨q, 1, none⟩ (.int .i64 st)).setCell ⟨q, 2, none⟩ (.int .i64 ea)).setCell ⟨q, 3, none⟩ (.slice sa sl sc))).heap.size := by simp only [World.size_setCell]; exact Nat.le_of_lt (Array.getElem?_eq_some_iff.1 hP6.out.z).1
      have q7 := (hfar p hqp).trans q6
      refine hK.out _ _ (ph1 (fun o' => World.cell?_of_block (a := ⟨p, o', none⟩) q7) trivial) (fun hp => ?_)
      clear hK hfar q6
      try simp only [Act.put, List.setIfInBounds_toArray, List.set_cons_zero, List.set_cons_succ]
      simp only [SV.v] at hC7
      generalize ((((w6.setCell ⟨q, 0, none⟩ (.int .i64 kd)).setCell ⟨q, 1, none⟩ (.int .i64 st)).setCell ⟨q, 2, none⟩ (.int .i64 ea)).setCell ⟨q, 3, none⟩ (.slice sa sl sc)) = w7 at *
      refine AnyL.one (i := 4) (by kernel_rfl) rfl (fun K hK => ?_)
      go_simp
      refine hK.out _ _ (ph1 (fun o' => World.cell?_of_block (a := ⟨p, o', none⟩) q7) trivial) (fun hp => ?_)
      clear hK q7
      try simp only [Act.put, List.setIfInBounds_toArray, List.set_cons_zero, List.set_cons_succ]
      refine AnyL.done (by kernel_rfl) ?_ _
      (try simp only [Exit.then])
      clear hp
      have r0 := (Lib.cell_of_heap hX7 0).trans rfl
      have r1 := (Lib.cell_of_heap hX7 1).trans rfl
      have r2 := (Lib.cell_of_heap hX7 2).trans rfl
      have r3 := (Lib.cell_of_heap hX7 3).trans rfl
      go_wp2_with fail
      exact bodyPost_ret (v := .tuple #[.agg #[.int .i64 kd, .int .i64 st, .int .i64 ea, .slice sa sl sc], .int .i64 (hh)]) (by simp [results, Tryd.results8, go_sem, r0, r1, r2, r3]) rfl
        ⟨⟨kd, st, ea⟩, ⟨sa, sl, sc⟩, C, _, rfl, by rw [Hq.out]; exact hC7.mono (by omega) hz7, Hlen.out, by rw [Hq.out]; exact hB7⟩
    · go_wp2_with fail
      have c0 := (Lib.cell_of_heap hP5.out.z 0).trans rfl
      have c1 := (Lib.cell_of_heap hP5.out.z 1).trans rfl
      have c2 := (Lib.cell_of_heap hP5.out.z 2).trans rfl
      have c3 := (Lib.cell_of_heap hP5.out.z 3).trans rfl
      simp only [SV.v] at c3
      refine region_ph 99 (fun w' => ∀ o, w'.cell? ⟨p, o, none⟩ = w5.cell? ⟨p, o, none⟩) (fun _ => True) (by kernel_rfl) (fun _ => rfl) trivial (fun hp => ?_)
      refine take_ph 15 (i := 0) rfl rfl (by decide) (by kernel_rfl) (by kernel_rfl) (by kernel_rfl) (fun _ _ _ h => h) (by rfl) (fun w hSw => by (try dsimp only at hSw); go_simp; first | done | with_reducible rfl) hp (fun hp => ?_)
      try simp only [Act.put, List.setIfInBounds_toArray, List.set_cons_zero, List.set_cons_succ]
      refine take_ph 16 (i := 1) rfl rfl (by decide) (by kernel_rfl) (by kernel_rfl) (by kernel_rfl) (fun _ _ _ h => h) (by rfl) (fun w hSw => by (try dsimp only at hSw); go_simp; first | done | with_reducible rfl) hp (fun hp => ?_)
      try simp only [Act.put, List.setIfInBounds_toArray, List.set_cons_zero, List.set_cons_succ]
      refine take_ph 17 (i := 2) rfl rfl (by decide) (by kernel_rfl) (by kernel_rfl) (by kernel_rfl) (fun _ _ _ h => h) (by rfl) (fun w hSw => by (try dsimp only at hSw); go_simp; first | done | with_reducible rfl) hp (fun hp => ?_)
      try simp only [Act.put, List.setIfInBounds_toArray, List.set_cons_zero, List.set_cons_succ]
      refine take_ph 18 (i := 3) rfl rfl (by decide) (by kernel_rfl) (by kernel_rfl) (by kernel_rfl) (fun _ _ _ h => h) (by rfl) (fun w hSw => by (try dsimp only at hSw); go_simp; first | done | with_reducible rfl) hp (fun hp => ?_)
      try simp only [Act.put, List.setIfInBounds_toArray, List.set_cons_zero, List.set_cons_succ]
      refine take_ph 19 (i := 4) rfl rfl (by decide) (by kernel_rfl) (by kernel_rfl) (by kernel_rfl) (fun _ _ _ h => h) (by rfl) (fun w hSw => by (try dsimp only at hSw); go_simp; first | done | with_reducible rfl) hp (fun hp => ?_)
      try simp only [Act.put, List.setIfInBounds_toArray, List.set_cons_zero, List.set_cons_succ]
      refine take_ph 20 (i := 5) rfl rfl (by decide) (by kernel_rfl) (by kernel_rfl) (by kernel_rfl) (fun _ _ _ h => h) (by rfl) (fun w hSw => by (try dsimp only at hSw); go_simp; first | done | with_reducible rfl) hp (fun hp => ?_)
      try simp only [Act.put, List.setIfInBounds_toArray, List.set_cons_zero, List.set_cons_succ]
      refine take_ph 21 (i := 6) rfl rfl (by decide) (by kernel_rfl) (by kernel_rfl) (by kernel_rfl) (fun _ _ _ h => h) (by rfl) (fun w hSw => by (try dsimp only at hSw); go_simp; first | done | with_reducible rfl) hp (fun hp => ?_)
      try simp only [Act.put, List.setIfInBounds_toArray, List.set_cons_zero, List.set_cons_succ]
      refine take_ph 22 (i := 7) rfl rfl (by decide) (by kernel_rfl) (by kernel_rfl) (by kernel_rfl) (fun _ _ _ h => h) (by rfl) (fun w hSw => by (try dsimp only at hSw); go_simp; first | done | with_reducible rfl) hp (fun hp => ?_)
      try simp only [Act.put, List.setIfInBounds_toArray, List.set_cons_zero, List.set_cons_succ]
      refine AnyL.one (i := 8) (by kernel_rfl) rfl (fun K hK => ?_)
      go_simp
      refine (src_pick _ _ 2 _ (hP5.out.sr.below (Below.refl w5.heap.size w5).drew) (by omega) (by omega)).mono ?_
      rintro e w6 ⟨k6, rfl, -, hs6, hm6⟩
      have hP6 := Lib.hid ((hP5.out.up (Below.refl w5.heap.size w5).drew).on hs6 hm6)
      have q6 : w6.heap[p]? = w5.heap[p]? := hP6.out.z.trans hP5.out.z.symm
      refine hK.out _ _ (ph1 (fun o' => World.cell?_of_block (a := ⟨p, o', none⟩) q6) trivial) (fun hp => ?_)
      clear hK hs6 hm6 c0 c1 c2 c3
      try simp only [Act.put, List.setIfInBounds_toArray, List.set_cons_zero, List.set_cons_succ]
      refine take_ph 24 (i := 9) rfl rfl (by decide) (by kernel_rfl) (by kernel_rfl) (by kernel_rfl) (fun _ _ _ h => h) (by rfl) (fun w hSw => by (try dsimp only at hSw); go_simp; first | done | with_reducible rfl) hp (fun hp => ?_)
      try simp only [Act.put, List.setIfInBounds_toArray, List.set_cons_zero, List.set_cons_succ]
      refine AnyL.one (i := 10) (by kernel_rfl) rfl (fun K hK => ?_)
      have r0 := (Lib.cell_of_heap hP6.out.r 0).trans rfl
      have r1 := (Lib.cell_of_heap hP6.out.r 1).trans rfl
      have r2 := (Lib.cell_of_heap hP6.out.r 2).trans rfl
      have r3 := (Lib.cell_of_heap hP6.out.r 3).trans rfl
      have f0 := fun j => Lib.frozen_of_heap hP6.out.r j
      go_simp
      clear r0 r1 r2 r3 f0
      have hqp : p ≠ q := by have := hP6.out.o; omega
      have hX7 := at4 hP6.out.r (.int .i64 kd) (.int .i64 st) (.int .i64 ea) (.slice sa sl sc)
      have hB7 := below4 hP6.out.m (Nat.le_refl q) (.int .i64 kd) (.int .i64 st) (.int .i64 ea) (.slice sa sl sc)
      have hfar := far4 w6 q (.int .i64 kd) (.int .i64 st) (.int .i64 ea) (.slice sa sl sc)
      have hC7 := hP6.out.c.keep (w' := ((((w6.setCell ⟨q, 0, none⟩ (.int .i64 kd)).setCell ⟨q, 1, none⟩ (.int .i64 st)).setCell ⟨q, 2, none⟩ (.int .i64 ea)).setCell ⟨q, 3, none⟩ (.slice sa sl sc))) (fun k' h1 _ => hfar k' (by omega))
      have hz7 : p ≤ (((((w6.setCell ⟨q, 0, none⟩ (.int .i64 kd)).setCell ⟨q, 1, none⟩ (.int .i64 st)).setCell ⟨q, 2, none⟩ (.int .i64 ea)).setCell ⟨q, 3, none⟩ (.slice sa sl sc))).heap.size := by simp only [World.size_setCell]; exact Nat.le_of_lt (Array.getElem?_eq_some_iff.1 hP6.out.z).1
      have q7 := (hfar p hqp).trans q6
      refine hK.out _ _ (ph1 (fun o' => World.cell?_of_block (a := ⟨p, o', none⟩) q7) trivial) (fun hp => ?_)
      clear hK hfar q6
      try simp only [Act.put, List.setIfInBounds_toArray, List.set_cons_zero, List.set_cons_succ]
      simp only [SV.v] at hC7
      generalize ((((w6.setCell ⟨q, 0, none⟩ (.int .i64 kd)).setCell ⟨q, 1, none⟩ (.int .i64 st)).setCell ⟨q, 2, none⟩ (.int .i64 ea)).setCell ⟨q, 3, none⟩ (.slice sa sl sc)) = w7 at *
      refine AnyL.one (i := 11) (by kernel_rfl) rfl (fun K hK => ?_)
      go_simp
      refine hK.out _ _ (ph1 (fun o' => World.cell?_of_block (a := ⟨p, o', none⟩) q7) trivial) (fun hp => ?_)
      clear hK q7
      try simp only [Act.put, List.setIfInBounds_toArray, List.set_cons_zero, List.set_cons_succ]
      refine AnyL.done (by kernel_rfl) ?_ _
      (try simp only [Exit.then])
      clear hp
      have r0 := (Lib.cell_of_heap hX7 0).trans rfl
      have r1 := (Lib.cell_of_heap hX7 1).trans rfl
      have r2 := (Lib.cell_of_heap hX7 2).trans rfl
      have r3 := (Lib.cell_of_heap hX7 3).trans rfl
      go_wp2_with fail
      exact bodyPost_ret (v := .tuple #[.agg #[.int .i64 kd, .int .i64 st, .int .i64 ea, .slice sa sl sc], .int .i64 (IntKind.i64.wrap (IntKind.i64.wrap (IntKind.i64.wrap (st * ea) + 20) - (k6 : Int)))]) (by simp [results, Tryd.results8, go_sem, r0, r1, r2, r3]) rfl
        ⟨⟨kd, st, ea⟩, ⟨sa, sl, sc⟩, C, _, rfl, by rw [Hq.out]; exact hC7.mono (by omega) hz7, Hlen.out, by rw [Hq.out]; exact hB7⟩
/-- What DrawFirstBlocking gives. -/
def FbDraw (w : World) (e : Ending) (w' : World) : Prop := ∃ (v : Value) (rs : List ZoneR) (L : ZonesL) (ax ay bx by_ h : Int), e = .returned (.tuple #[v, .agg #[.int .i64 ax, .int .i64 ay], .agg #[.int .i64 bx, .int .i64 by_], .int .i64 h]) ∧ Zones w.heap.size w'.heap.size w' v rs L ∧ ZDs L ∧ L.length ≤ 11 ∧ Below w.heap.size w w'
/-- The draw's boxes and the list. -/
structure FBox (A q p r : Nat) (w : World) (v : Value) (rs : List ZoneR) (L : ZonesL) (ax ay bx by_ : Int) (W : World) : Prop where
  sr : Src (q + 1 + 1) A W
  m : Below q w W
  r1 : W.heap[q]? = some (.cells #[.int .i64 0, .int .i64 0] 26 (0, 0))
  r2 : W.heap[q + 1]? = some (.cells #[.int .i64 0, .int .i64 0] 26 (0, 0))
  za : W.heap[p]? = some (.cells #[.int .i64 ax, .int .i64 ay] 26 (0, 0))
  zb : W.heap[r]? = some (.cells #[.int .i64 bx, .int .i64 by_] 26 (0, 0))
  z : Zones (q + 3) p W v rs L
  o : q + 3 ≤ p ∧ p < r
theorem FBox.on {A A' q p r : Nat} {w W W' : World} {v : Value} {rs : List ZoneR} {L : ZonesL} {ax ay bx by_ : Int} (h : FBox A q p r w v rs L ax ay bx by_ W) (hs : Src (q + 1 + 1) A' W') (hm : Mod (q + 1 + 1) (q + 1 + 1 + 1) W W') : FBox A' q p r w v rs L ax ay bx by_ W' :=
  ⟨hs, h.m.trans (hm.below (show q ≤ q + 1 + 1 by omega) (by have := (Array.getElem?_eq_some_iff.1 h.r1).1; omega)), blk_offM hm h.r1 (.inl (by omega)), blk_offM hm h.r2 (.inl (by omega)), blk_modV h.za hm (by have := h.o; omega), blk_modV h.zb hm (by have := h.o; omega), NSr.keep h.z (hm.same (Nat.le_of_lt (Array.getElem?_eq_some_iff.1 h.za).1) (.inr (Nat.le_refl _))), h.o⟩
theorem FBox.up {A q p r : Nat} {w W W' : World} {v : Value} {rs : List ZoneR} {L : ZonesL} {ax ay bx by_ : Int} (h : FBox A q p r w v rs L ax ay bx by_ W) (hb : Below W.heap.size W W') : FBox A q p r w v rs L ax ay bx by_ W' := h.on (h.sr.below hb) (Mod.of_below hb)
theorem two_far (W : World) (r : Nat) (a0 a1 : Value) (k : Nat) (hk : k ≠ r) : ((W.setCell ⟨r, 0, none⟩ a0).setCell ⟨r, 1, none⟩ a1).heap[k]? = W.heap[k]? :=
  (Below.heap_setCell _ ⟨r, 1, none⟩ a1 k hk).trans (Below.heap_setCell W ⟨r, 0, none⟩ a0 k hk)
theorem FBox.setb {A q p r : Nat} {w W : World} {v : Value} {rs : List ZoneR} {L : ZonesL} {ax ay bx by_ : Int} (h : FBox A q p r w v rs L ax ay bx by_ W) (x y : Int) : FBox A q p r w v rs L ax ay x y ((W.setCell ⟨r, 0, none⟩ (.int .i64 x)).setCell ⟨r, 1, none⟩ (.int .i64 y)) := by
  have o := h.o
  have hf := two_far W r (.int .i64 x) (.int .i64 y)
  exact ⟨src_setV (src_setV h.sr (by omega) _) (by omega) _, (h.m.setCell (p := ⟨r, 0, none⟩) (show q ≤ r by omega) _).setCell (p := ⟨r, 1, none⟩) (show q ≤ r by omega) _, (hf q (by omega)).trans h.r1, (hf (q + 1) (by omega)).trans h.r2, (hf p (by omega)).trans h.za, blk_twoP h.zb _ _, NSr.keep h.z (fun k _ h2 => hf k (by omega)), h.o⟩
set_option maxRecDepth 100000 in
set_option maxHeartbeats 8000000 in
theorem draw_First (v : Value) (l : List UInt8) (hi : Nat) (w : World) (h : Sl 1 byteC 0 hi w v l) (hhi : hi ≤ w.heap.size) (hl : l.length ≤ 1048576) : Calls Tryd.prog 5 #[v] w (FbDraw w) := by
  have hb0 : Below w.heap.size w ((w.alloc (.cells #[.int .i64 0, .int .i64 0] 26 (0, 0))).alloc (.cells #[.int .i64 0, .int .i64 0] 26 (0, 0))) := ((Below.refl _ _).alloc (Nat.le_refl _) _).alloc (by simp) _
  have hX0 : ((w.alloc (.cells #[.int .i64 0, .int .i64 0] 26 (0, 0))).alloc (.cells #[.int .i64 0, .int .i64 0] 26 (0, 0))).heap[w.heap.size]? = some (.cells #[.int .i64 0, .int .i64 0] 26 (0, 0)) := blkN_below ((Below.refl _ _).alloc (Nat.le_refl _) _) (blkN_new w _)
  have hY0 : ((w.alloc (.cells #[.int .i64 0, .int .i64 0] 26 (0, 0))).alloc (.cells #[.int .i64 0, .int .i64 0] 26 (0, 0))).heap[w.heap.size + 1]? = some (.cells #[.int .i64 0, .int .i64 0] 26 (0, 0)) := by have := blkN_new (w.alloc (.cells #[.int .i64 0, .int .i64 0] 26 (0, 0))) (.cells #[.int .i64 0, .int .i64 0] 26 (0, 0)); rwa [World.size_alloc] at this
  have hz0 : ((w.alloc (.cells #[.int .i64 0, .int .i64 0] 26 (0, 0))).alloc (.cells #[.int .i64 0, .int .i64 0] 26 (0, 0))).heap.size = w.heap.size + 1 + 1 := by simp
  have hf := Lib.hid (src_from v l hi _ (h.below hb0 hhi) (by omega) hl)
  have ho := Lib.hid (fun b A w' h hA n hn => src_one b A n w' h hA hn)
  obtain ⟨a, cap, rfl, _⟩ := h
  go_enter Tryd.func5, Tryd.ntmps5
  go_wp2_with fail
  generalize (w.alloc (.cells #[.int .i64 0, .int .i64 0] 26 (0, 0))).alloc (.cells #[.int .i64 0, .int .i64 0] 26 (0, 0)) = w0 at *
  rw [hz0] at hf
  refine hf.out.mono ?_
  rintro e w1 ⟨rfl, hs1, hb1⟩
  have hX1 := Lib.hid ((hb1.block _ (by omega)).trans hX0)
  have hY1 := Lib.hid ((hb1.block _ (by omega)).trans hY0)
  have hB1 := Lib.hid (hb0.trans (hb1.mono (by omega)))
  have hS1 := Lib.hid hs1
  clear hb0 hb1 hX0 hY0 hs1 hf hz0
  go_wp2_with fail
  obtain ⟨q, hq⟩ : ∃ q, w.heap.size = q := ⟨_, rfl⟩
  have Hq := Lib.hid hq
  rw [hq] at hX1 hY1 hS1 hB1 ⊢
  clear hq
  refine (draw_Some (q + 1 + 1) 0 w1 hS1.out (by omega)).mono ?_
  rintro e w2 ⟨zv, rs, L, rfl, hz2, hds, hl11, hs2, hm2⟩
  have hbl := hS1.out.lt
  have hX2 := Lib.hid (blk_offM hm2 hX1.out (.inl (by omega)))
  have hY2 := Lib.hid (blk_offM hm2 hY1.out (.inl (by omega)))
  have hB2 := Lib.hid (hB1.out.trans (hm2.below (show q ≤ q + 1 + 1 by omega) (by omega)))
  have hS2 := Lib.hid hs2
  have hZ2 := Lib.hid (NSr.mono hz2 (show q + 3 ≤ w1.heap.size by omega) (Nat.le_refl _))
  have Hz := Lib.hid (show q + 3 ≤ w2.heap.size by have := hm2.size; omega)
  have Hds := Lib.hid hds
  have Hl := Lib.hid hl11
  obtain ⟨n, hn⟩ : ∃ n, L.length = n := ⟨_, rfl⟩
  obtain ⟨za, zc, rfl⟩ : ∃ za zc, zv = .slice za n zc := by
    obtain ⟨za, zc, h1, _⟩ := hz2.out
    exact ⟨za, zc, by rw [h1, hz2.len, hn]⟩
  have Hn := Lib.hid hn
  clear hn
  clear hX1 hY1 hB1 hS1 hz2 hs2 hm2 hbl hds hl11
  go_wp2_with fail
  refine (draw_PtB _ _ w2 hS2.out (by omega)).mono ?_
  rintro e w3 ⟨ax, ay, rfl, hs3, hm3⟩
  have hX3 := blk_offM hm3 hX2.out (.inl (by omega))
  have hY3 := blk_offM hm3 hY2.out (.inl (by omega))
  have hB3 := hB2.out.trans (hm3.below (show q ≤ q + 1 + 1 by omega) (by have := Hz.out; omega))
  have hZ3 := NSr.keep hZ2.out (hm3.same (Nat.le_refl _) (.inr (Nat.le_refl _)))
  have hz23 : w2.heap.size ≤ w3.heap.size := hm3.size
  have hb4 := (Below.refl w3.heap.size w3).alloc (Nat.le_refl _) (.cells #[.int .i64 ax, .int .i64 ay] 26 (0, 0))
  have hA4 := Lib.hid (blkN_new w3 (.cells #[.int .i64 ax, .int .i64 ay] 26 (0, 0)))
  have hX4 := Lib.hid (blkN_below hb4 hX3)
  have hY4 := Lib.hid (blkN_below hb4 hY3)
  have hB4 := Lib.hid (hB3.trans (hb4.mono (by have := Hz.out; omega)))
  have hS4 := Lib.hid (hs3.below hb4)
  have hZ4 := Lib.hid (NSr.mono (NSr.ext hZ3 hb4) (Nat.le_refl _) hz23)
  have Hz := Lib.hid (show q + 3 ≤ w3.heap.size by have := Hz.out; omega)
  clear hX2 hY2 hB2 hS2 hZ2 hX3 hY3 hB3 hZ3 hz23 hs3 hm3 hb4
  go_wp2_with fail
  generalize w3.alloc (.cells #[.int .i64 ax, .int .i64 ay] 26 (0, 0)) = w4 at *
  obtain ⟨p, hpe⟩ : ∃ p, w3.heap.size = p := ⟨_, rfl⟩
  rw [hpe] at hA4 hZ4 Hz ⊢
  clear hpe
  refine (draw_PtB _ _ w4 hS4.out (by omega)).mono ?_
  rintro e w5 ⟨bx, by_, rfl, hs5, hm5⟩
  have hA5 := blk_modV hA4.out hm5 (by have := Hz.out; omega)
  have hp5 := (Array.getElem?_eq_some_iff.1 hA5).1
  have hX5 := blk_offM hm5 hX4.out (.inl (by omega))
  have hY5 := blk_offM hm5 hY4.out (.inl (by omega))
  have hp4 := (Array.getElem?_eq_some_iff.1 hA4.out).1
  have hB5 := hB4.out.trans (hm5.below (show q ≤ q + 1 + 1 by omega) (by have := Hz.out; omega))
  have hZ5 := NSr.keep hZ4.out (hm5.same (Nat.le_of_lt hp4) (.inr (Nat.le_refl _)))
  have hb6 := (Below.refl w5.heap.size w5).alloc (Nat.le_refl _) (.cells #[.int .i64 bx, .int .i64 by_] 26 (0, 0))
  have hP := Lib.hid (show FBox 340 q p w5.heap.size w (.slice za n zc) rs L ax ay bx by_ (w5.alloc (.cells #[.int .i64 bx, .int .i64 by_] 26 (0, 0))) from
    ⟨(hs5.below hb6).mono (by omega), hB5.trans (hb6.mono (by have := Hz.out; omega)), blkN_below hb6 hX5, blkN_below hb6 hY5, blkN_below hb6 hA5, blkN_new _ _, NSr.ext hZ5 hb6, Hz.out, hp5⟩)
  clear hA4 hX4 hY4 hB4 hS4 hZ4 hA5 hp5 hX5 hY5 hp4 hB5 hZ5 hb6 hs5 hm5
  by_cases h0 : 0 < n
  · have hn0 : (0 : Int) < (n : Int) := by omega
    have H0 := Lib.hid h0
    clear h0
    go_wp2_with fail
    generalize w5.alloc (.cells #[.int .i64 bx, .int .i64 by_] 26 (0, 0)) = w6 at *
    obtain ⟨r, hre⟩ : ∃ r, w5.heap.size = r := ⟨_, rfl⟩
    rw [hre] at hP ⊢
    refine (ho.out _ _ _ hP.out.sr (by omega) 2 (by omega)).mono ?_
    rintro e w7 ⟨c, rfl, hs7, hm7⟩
    have hP7 := Lib.hid (hP.out.on hs7 hm7)
    clear hs7 hm7 hP hre
    cases c
    · go_wp2_with fail
      have c0 := (Lib.cell_of_heap hP7.out.za 0).trans rfl
      have c1 := (Lib.cell_of_heap hP7.out.za 1).trans rfl
      have d0 := (Lib.cell_of_heap hP7.out.zb 0).trans rfl
      have d1 := (Lib.cell_of_heap hP7.out.zb 1).trans rfl
      refine region_ph 99 (fun w' => (∀ o, w'.cell? ⟨p, o, none⟩ = w7.cell? ⟨p, o, none⟩) ∧ ∀ o, w'.cell? ⟨r, o, none⟩ = w7.cell? ⟨r, o, none⟩) (fun _ => True) (by kernel_rfl) ⟨fun _ => rfl, fun _ => rfl⟩ trivial (fun hp => ?_)
      refine take_ph 29 (i := 0) rfl rfl (by decide) (by kernel_rfl) (by kernel_rfl) (by kernel_rfl) (fun _ _ _ h => h) (by rfl) (fun w hSw => by (try dsimp only at hSw); go_simp; first | done | with_reducible rfl) hp (fun hp => ?_)
      try simp only [Act.put, List.setIfInBounds_toArray, List.set_cons_zero, List.set_cons_succ]
      refine take_ph 30 (i := 1) rfl rfl (by decide) (by kernel_rfl) (by kernel_rfl) (by kernel_rfl) (fun _ _ _ h => h) (by rfl) (fun w hSw => by (try dsimp only at hSw); go_simp; first | done | with_reducible rfl) hp (fun hp => ?_)
      try simp only [Act.put, List.setIfInBounds_toArray, List.set_cons_zero, List.set_cons_succ]
      refine take_ph 31 (i := 2) rfl rfl (by decide) (by kernel_rfl) (by kernel_rfl) (by kernel_rfl) (fun _ _ _ h => h) (by rfl) (fun w hSw => by (try dsimp only at hSw); go_simp; first | done | with_reducible rfl) hp (fun hp => ?_)
      try simp only [Act.put, List.setIfInBounds_toArray, List.set_cons_zero, List.set_cons_succ]
      refine take_ph 32 (i := 3) rfl rfl (by decide) (by kernel_rfl) (by kernel_rfl) (by kernel_rfl) (fun _ _ _ h => h) (by rfl) (fun w hSw => by (try dsimp only at hSw); go_simp; first | done | with_reducible rfl) hp (fun hp => ?_)
      try simp only [Act.put, List.setIfInBounds_toArray, List.set_cons_zero, List.set_cons_succ]
      refine AnyL.one (i := 4) (by kernel_rfl) rfl (fun K hK => ?_)
      go_simp
      refine (draw_Ht _ _ _ (hP7.out.sr.below (Below.refl w7.heap.size w7).drew) (by omega)).mono ?_
      rintro e w8 ⟨hh, rfl, hs8, hm8⟩
      have hP8 := Lib.hid ((hP7.out.up (Below.refl w7.heap.size w7).drew).on hs8 hm8)
      have qa : w8.heap[p]? = w7.heap[p]? := hP8.out.za.trans hP7.out.za.symm
      have qb : w8.heap[r]? = w7.heap[r]? := hP8.out.zb.trans hP7.out.zb.symm
      refine hK.out _ _ (ph1 ⟨fun o' => World.cell?_of_block (a := ⟨p, o', none⟩) qa, fun o' => World.cell?_of_block (a := ⟨r, o', none⟩) qb⟩ trivial) (fun hp => ?_)
      clear hK hs8 hm8 c0 c1 d0 d1
      try simp only [Act.put, List.setIfInBounds_toArray, List.set_cons_zero, List.set_cons_succ]
      refine AnyL.one (i := 5) (by kernel_rfl) rfl (fun K hK => ?_)
      go_simp
      refine hK.out _ _ (ph1 ⟨fun o' => World.cell?_of_block (a := ⟨p, o', none⟩) qa, fun o' => World.cell?_of_block (a := ⟨r, o', none⟩) qb⟩ trivial) (fun hp => ?_)
      clear hK
      try simp only [Act.put, List.setIfInBounds_toArray, List.set_cons_zero, List.set_cons_succ]
      refine AnyL.one (i := 6) (by kernel_rfl) rfl (fun K hK => ?_)
      have r0 := (Lib.cell_of_heap hP8.out.r1 0).trans rfl
      have r1 := (Lib.cell_of_heap hP8.out.r1 1).trans rfl
      have f0 := fun j => Lib.frozen_of_heap hP8.out.r1 j
      go_simp
      clear r0 r1 f0
      have o8 := hP8.out.o
      have hf9 := two_far w8 q (.int .i64 ax) (.int .i64 ay)
      have hX9 := blk_twoP hP8.out.r1 (.int .i64 ax) (.int .i64 ay)
      have hY9 := (hf9 (q + 1) (by omega)).trans hP8.out.r2
      have qa9 := (hf9 p (by omega)).trans qa
      have qb9 := (hf9 r (by omega)).trans qb
      have hB9 := (hP8.out.m.setCell (p := ⟨q, 0, none⟩) (Nat.le_refl _) (.int .i64 ax)).setCell (p := ⟨q, 1, none⟩) (Nat.le_refl _) (.int .i64 ay)
      have hZ9 := NSr.keep (w' := (w8.setCell ⟨q, 0, none⟩ (.int .i64 ax)).setCell ⟨q, 1, none⟩ (.int .i64 ay)) hP8.out.z (fun k h1 _ => hf9 k (by omega))
      have hp9 := (Array.getElem?_eq_some_iff.1 (qa9.trans hP7.out.za)).1
      refine hK.out _ _ (ph1 ⟨fun o' => World.cell?_of_block (a := ⟨p, o', none⟩) qa9, fun o' => World.cell?_of_block (a := ⟨r, o', none⟩) qb9⟩ trivial) (fun hp => ?_)
      clear hK qa qb hf9
      try simp only [Act.put, List.setIfInBounds_toArray, List.set_cons_zero, List.set_cons_succ]
      generalize (w8.setCell ⟨q, 0, none⟩ (.int .i64 ax)).setCell ⟨q, 1, none⟩ (.int .i64 ay) = w9 at *
      refine AnyL.one (i := 7) (by kernel_rfl) rfl (fun K hK => ?_)
      have r0 := (Lib.cell_of_heap hY9 0).trans rfl
      have r1 := (Lib.cell_of_heap hY9 1).trans rfl
      have f0 := fun j => Lib.frozen_of_heap hY9 j
      go_simp
      clear r0 r1 f0
      have hf10 := two_far w9 (q + 1) (.int .i64 (bx)) (.int .i64 (by_))
      have hY10 := blk_twoP hY9 (.int .i64 (bx)) (.int .i64 (by_))
      have hX10 := (hf10 q (by omega)).trans hX9
      have qa10 := (hf10 p (by omega)).trans qa9
      have qb10 := (hf10 r (by omega)).trans qb9
      have hB10 := (hB9.setCell (p := ⟨q + 1, 0, none⟩) (show q ≤ q + 1 by omega) (.int .i64 (bx))).setCell (p := ⟨q + 1, 1, none⟩) (show q ≤ q + 1 by omega) (.int .i64 (by_))
      have hZ10 := NSr.keep (w' := (w9.setCell ⟨q + 1, 0, none⟩ (.int .i64 (bx))).setCell ⟨q + 1, 1, none⟩ (.int .i64 (by_))) hZ9 (fun k h1 _ => hf10 k (by omega))
      have hp10 : p ≤ ((w9.setCell ⟨q + 1, 0, none⟩ (.int .i64 (bx))).setCell ⟨q + 1, 1, none⟩ (.int .i64 (by_))).heap.size := by simp only [World.size_setCell]; exact Nat.le_of_lt hp9
      refine hK.out _ _ (ph1 ⟨fun o' => World.cell?_of_block (a := ⟨p, o', none⟩) qa10, fun o' => World.cell?_of_block (a := ⟨r, o', none⟩) qb10⟩ trivial) (fun hp => ?_)
      clear hK qa9 qb9 hf10 hX9 hY9 hB9 hZ9 hp9
      try simp only [Act.put, List.setIfInBounds_toArray, List.set_cons_zero, List.set_cons_succ]
      generalize (w9.setCell ⟨q + 1, 0, none⟩ (.int .i64 (bx))).setCell ⟨q + 1, 1, none⟩ (.int .i64 (by_)) = w10 at *
      refine AnyL.one (i := 8) (by kernel_rfl) rfl (fun K hK => ?_)
      go_simp
      refine hK.out _ _ (ph1 ⟨fun o' => World.cell?_of_block (a := ⟨p, o', none⟩) qa10, fun o' => World.cell?_of_block (a := ⟨r, o', none⟩) qb10⟩ trivial) (fun hp => ?_)
      clear hK qa10 qb10
      try simp only [Act.put, List.setIfInBounds_toArray, List.set_cons_zero, List.set_cons_succ]
      refine AnyL.done (by kernel_rfl) ?_ _
      (try simp only [Exit.then])
      clear hp
      have r0 := (Lib.cell_of_heap hX10 0).trans rfl
      have r1 := (Lib.cell_of_heap hX10 1).trans rfl
      have r2 := (Lib.cell_of_heap hY10 0).trans rfl
      have r3 := (Lib.cell_of_heap hY10 1).trans rfl
      go_wp2_with fail
      exact bodyPost_ret (v := .tuple #[.slice za n zc, .agg #[.int .i64 ax, .int .i64 ay], .agg #[.int .i64 (bx), .int .i64 (by_)], .int .i64 hh]) (by simp [results, Tryd.results5, go_sem, r0, r1, r2, r3]) rfl
        ⟨_, rs, L, ax, ay, _, _, hh, rfl, by rw [Hq.out]; exact NSr.mono hZ10 (by omega) hp10, Hds.out, Hl.out, by rw [Hq.out]; exact hB10⟩
    · have hk : 0 < L.length := by rw [Hn.out]; exact H0.out
      obtain ⟨g, o, rfl, hgl⟩ : ∃ g o, za = some ⟨g, o, none⟩ ∧ q + 3 ≤ g := by
        obtain ⟨a, cp, hv, _, hh⟩ := hP7.out.z.out
        obtain ⟨g, o, ha, h1, _⟩ := hh (by rw [hP7.out.z.len]; exact hk)
        cases hv
        exact ⟨g, o, ha, h1⟩
      obtain ⟨sz, hza, hpc, -⟩ := zones_row hP7.out.z hk
      simp only [Nat.zero_mul, Nat.add_zero] at hza
      have hds0 := Hds.out L[0] (List.getElem_mem hk)
      have hpw := Nat.le_of_lt (Array.getElem?_eq_some_iff.1 hP7.out.za).1
      generalize L[0] = x0 at *
      have Hza := Lib.hid hza
      have Hpc := Lib.hid hpc
      clear hk hza hpc
      go_wp2_with fail
      refine (draw_Near (q + 1 + 1) _ g o (q + 3) p x0.1 sz x0.2 w7 hP7.out.sr (by omega) Hza.out (by omega) Hpc.out (by omega) hpw (by omega) (by omega)).mono ?_
      rintro e w8 ⟨nx, ny, rfl, hs8, hm8⟩
      have hP8 := Lib.hid (hP7.out.on hs8 hm8)
      clear hs8 hm8 hP7 hds0 hpw Hza Hpc
      have d0 := (Lib.cell_of_heap hP8.out.zb 0).trans rfl
      have d1 := (Lib.cell_of_heap hP8.out.zb 1).trans rfl
      have f0 := fun j => Lib.frozen_of_heap hP8.out.zb j
      have hP9 := Lib.hid (hP8.out.setb nx ny)
      clear hP8
      go_wp2_with fail
      generalize (w8.setCell ⟨r, 0, none⟩ (.int .i64 nx)).setCell ⟨r, 1, none⟩ (.int .i64 ny) = w7' at *
      clear d0 d1 f0
      have c0 := (Lib.cell_of_heap hP9.out.za 0).trans rfl
      have c1 := (Lib.cell_of_heap hP9.out.za 1).trans rfl
      have d0 := (Lib.cell_of_heap hP9.out.zb 0).trans rfl
      have d1 := (Lib.cell_of_heap hP9.out.zb 1).trans rfl
      refine region_ph 99 (fun w' => (∀ o, w'.cell? ⟨p, o, none⟩ = w7'.cell? ⟨p, o, none⟩) ∧ ∀ o, w'.cell? ⟨r, o, none⟩ = w7'.cell? ⟨r, o, none⟩) (fun _ => True) (by kernel_rfl) ⟨fun _ => rfl, fun _ => rfl⟩ trivial (fun hp => ?_)
      refine take_ph 29 (i := 0) rfl rfl (by decide) (by kernel_rfl) (by kernel_rfl) (by kernel_rfl) (fun _ _ _ h => h) (by rfl) (fun w hSw => by (try dsimp only at hSw); go_simp; first | done | with_reducible rfl) hp (fun hp => ?_)
      try simp only [Act.put, List.setIfInBounds_toArray, List.set_cons_zero, List.set_cons_succ]
      refine take_ph 30 (i := 1) rfl rfl (by decide) (by kernel_rfl) (by kernel_rfl) (by kernel_rfl) (fun _ _ _ h => h) (by rfl) (fun w hSw => by (try dsimp only at hSw); go_simp; first | done | with_reducible rfl) hp (fun hp => ?_)
      try simp only [Act.put, List.setIfInBounds_toArray, List.set_cons_zero, List.set_cons_succ]
      refine take_ph 31 (i := 2) rfl rfl (by decide) (by kernel_rfl) (by kernel_rfl) (by kernel_rfl) (fun _ _ _ h => h) (by rfl) (fun w hSw => by (try dsimp only at hSw); go_simp; first | done | with_reducible rfl) hp (fun hp => ?_)
      try simp only [Act.put, List.setIfInBounds_toArray, List.set_cons_zero, List.set_cons_succ]
      refine take_ph 32 (i := 3) rfl rfl (by decide) (by kernel_rfl) (by kernel_rfl) (by kernel_rfl) (fun _ _ _ h => h) (by rfl) (fun w hSw => by (try dsimp only at hSw); go_simp; first | done | with_reducible rfl) hp (fun hp => ?_)
      try simp only [Act.put, List.setIfInBounds_toArray, List.set_cons_zero, List.set_cons_succ]
      refine AnyL.one (i := 4) (by kernel_rfl) rfl (fun K hK => ?_)
      go_simp
      refine (draw_Ht _ _ _ (hP9.out.sr.below (Below.refl w7'.heap.size w7').drew) (by omega)).mono ?_
      rintro e w8 ⟨hh, rfl, hs8, hm8⟩
      have hP8 := Lib.hid ((hP9.out.up (Below.refl w7'.heap.size w7').drew).on hs8 hm8)
      have qa : w8.heap[p]? = w7'.heap[p]? := hP8.out.za.trans hP9.out.za.symm
      have qb : w8.heap[r]? = w7'.heap[r]? := hP8.out.zb.trans hP9.out.zb.symm
      refine hK.out _ _ (ph1 ⟨fun o' => World.cell?_of_block (a := ⟨p, o', none⟩) qa, fun o' => World.cell?_of_block (a := ⟨r, o', none⟩) qb⟩ trivial) (fun hp => ?_)
      clear hK hs8 hm8 c0 c1 d0 d1
      try simp only [Act.put, List.setIfInBounds_toArray, List.set_cons_zero, List.set_cons_succ]
      refine AnyL.one (i := 5) (by kernel_rfl) rfl (fun K hK => ?_)
      go_simp
      refine hK.out _ _ (ph1 ⟨fun o' => World.cell?_of_block (a := ⟨p, o', none⟩) qa, fun o' => World.cell?_of_block (a := ⟨r, o', none⟩) qb⟩ trivial) (fun hp => ?_)
      clear hK
      try simp only [Act.put, List.setIfInBounds_toArray, List.set_cons_zero, List.set_cons_succ]
      refine AnyL.one (i := 6) (by kernel_rfl) rfl (fun K hK => ?_)
      have r0 := (Lib.cell_of_heap hP8.out.r1 0).trans rfl
      have r1 := (Lib.cell_of_heap hP8.out.r1 1).trans rfl
      have f0 := fun j => Lib.frozen_of_heap hP8.out.r1 j
      go_simp
      clear r0 r1 f0
      have o8 := hP8.out.o
      have hf9 := two_far w8 q (.int .i64 ax) (.int .i64 ay)
      have hX9 := blk_twoP hP8.out.r1 (.int .i64 ax) (.int .i64 ay)
      have hY9 := (hf9 (q + 1) (by omega)).trans hP8.out.r2
      have qa9 := (hf9 p (by omega)).trans qa
      have qb9 := (hf9 r (by omega)).trans qb
      have hB9 := (hP8.out.m.setCell (p := ⟨q, 0, none⟩) (Nat.le_refl _) (.int .i64 ax)).setCell (p := ⟨q, 1, none⟩) (Nat.le_refl _) (.int .i64 ay)
      have hZ9 := NSr.keep (w' := (w8.setCell ⟨q, 0, none⟩ (.int .i64 ax)).setCell ⟨q, 1, none⟩ (.int .i64 ay)) hP8.out.z (fun k h1 _ => hf9 k (by omega))
      have hp9 := (Array.getElem?_eq_some_iff.1 (qa9.trans hP9.out.za)).1
      refine hK.out _ _ (ph1 ⟨fun o' => World.cell?_of_block (a := ⟨p, o', none⟩) qa9, fun o' => World.cell?_of_block (a := ⟨r, o', none⟩) qb9⟩ trivial) (fun hp => ?_)
      clear hK qa qb hf9
      try simp only [Act.put, List.setIfInBounds_toArray, List.set_cons_zero, List.set_cons_succ]
      generalize (w8.setCell ⟨q, 0, none⟩ (.int .i64 ax)).setCell ⟨q, 1, none⟩ (.int .i64 ay) = w9 at *
      refine AnyL.one (i := 7) (by kernel_rfl) rfl (fun K hK => ?_)
      have r0 := (Lib.cell_of_heap hY9 0).trans rfl
      have r1 := (Lib.cell_of_heap hY9 1).trans rfl
      have f0 := fun j => Lib.frozen_of_heap hY9 j
      go_simp
      clear r0 r1 f0
      have hf10 := two_far w9 (q + 1) (.int .i64 (nx)) (.int .i64 (ny))
      have hY10 := blk_twoP hY9 (.int .i64 (nx)) (.int .i64 (ny))
      have hX10 := (hf10 q (by omega)).trans hX9
      have qa10 := (hf10 p (by omega)).trans qa9
      have qb10 := (hf10 r (by omega)).trans qb9
      have hB10 := (hB9.setCell (p := ⟨q + 1, 0, none⟩) (show q ≤ q + 1 by omega) (.int .i64 (nx))).setCell (p := ⟨q + 1, 1, none⟩) (show q ≤ q + 1 by omega) (.int .i64 (ny))
      have hZ10 := NSr.keep (w' := (w9.setCell ⟨q + 1, 0, none⟩ (.int .i64 (nx))).setCell ⟨q + 1, 1, none⟩ (.int .i64 (ny))) hZ9 (fun k h1 _ => hf10 k (by omega))
      have hp10 : p ≤ ((w9.setCell ⟨q + 1, 0, none⟩ (.int .i64 (nx))).setCell ⟨q + 1, 1, none⟩ (.int .i64 (ny))).heap.size := by simp only [World.size_setCell]; exact Nat.le_of_lt hp9
      refine hK.out _ _ (ph1 ⟨fun o' => World.cell?_of_block (a := ⟨p, o', none⟩) qa10, fun o' => World.cell?_of_block (a := ⟨r, o', none⟩) qb10⟩ trivial) (fun hp => ?_)
      clear hK qa9 qb9 hf10 hX9 hY9 hB9 hZ9 hp9
      try simp only [Act.put, List.setIfInBounds_toArray, List.set_cons_zero, List.set_cons_succ]
      generalize (w9.setCell ⟨q + 1, 0, none⟩ (.int .i64 (nx))).setCell ⟨q + 1, 1, none⟩ (.int .i64 (ny)) = w10 at *
      refine AnyL.one (i := 8) (by kernel_rfl) rfl (fun K hK => ?_)
      go_simp
      refine hK.out _ _ (ph1 ⟨fun o' => World.cell?_of_block (a := ⟨p, o', none⟩) qa10, fun o' => World.cell?_of_block (a := ⟨r, o', none⟩) qb10⟩ trivial) (fun hp => ?_)
      clear hK qa10 qb10
      try simp only [Act.put, List.setIfInBounds_toArray, List.set_cons_zero, List.set_cons_succ]
      refine AnyL.done (by kernel_rfl) ?_ _
      (try simp only [Exit.then])
      clear hp
      have r0 := (Lib.cell_of_heap hX10 0).trans rfl
      have r1 := (Lib.cell_of_heap hX10 1).trans rfl
      have r2 := (Lib.cell_of_heap hY10 0).trans rfl
      have r3 := (Lib.cell_of_heap hY10 1).trans rfl
      go_wp2_with fail
      exact bodyPost_ret (v := .tuple #[.slice (some ⟨g, o, none⟩) n zc, .agg #[.int .i64 ax, .int .i64 ay], .agg #[.int .i64 (nx), .int .i64 (ny)], .int .i64 hh]) (by simp [results, Tryd.results5, go_sem, r0, r1, r2, r3]) rfl
        ⟨_, rs, L, ax, ay, _, _, hh, rfl, by rw [Hq.out]; exact NSr.mono hZ10 (by omega) hp10, Hds.out, Hl.out, by rw [Hq.out]; exact hB10⟩
  · have hn0 : ¬ (0 : Int) < (n : Int) := by omega
    clear h0
    go_wp2_with fail
    generalize w5.alloc (.cells #[.int .i64 bx, .int .i64 by_] 26 (0, 0)) = w6 at *
    obtain ⟨r, hre⟩ : ∃ r, w5.heap.size = r := ⟨_, rfl⟩
    rw [hre] at hP ⊢
    clear hre
    have c0 := (Lib.cell_of_heap hP.out.za 0).trans rfl
    have c1 := (Lib.cell_of_heap hP.out.za 1).trans rfl
    have d0 := (Lib.cell_of_heap hP.out.zb 0).trans rfl
    have d1 := (Lib.cell_of_heap hP.out.zb 1).trans rfl
    refine region_ph 99 (fun w' => (∀ o, w'.cell? ⟨p, o, none⟩ = w6.cell? ⟨p, o, none⟩) ∧ ∀ o, w'.cell? ⟨r, o, none⟩ = w6.cell? ⟨r, o, none⟩) (fun _ => True) (by kernel_rfl) ⟨fun _ => rfl, fun _ => rfl⟩ trivial (fun hp => ?_)
    refine take_ph 29 (i := 0) rfl rfl (by decide) (by kernel_rfl) (by kernel_rfl) (by kernel_rfl) (fun _ _ _ h => h) (by rfl) (fun w hSw => by (try dsimp only at hSw); go_simp; first | done | with_reducible rfl) hp (fun hp => ?_)
    try simp only [Act.put, List.setIfInBounds_toArray, List.set_cons_zero, List.set_cons_succ]
    refine take_ph 30 (i := 1) rfl rfl (by decide) (by kernel_rfl) (by kernel_rfl) (by kernel_rfl) (fun _ _ _ h => h) (by rfl) (fun w hSw => by (try dsimp only at hSw); go_simp; first | done | with_reducible rfl) hp (fun hp => ?_)
    try simp only [Act.put, List.setIfInBounds_toArray, List.set_cons_zero, List.set_cons_succ]
    refine take_ph 31 (i := 2) rfl rfl (by decide) (by kernel_rfl) (by kernel_rfl) (by kernel_rfl) (fun _ _ _ h => h) (by rfl) (fun w hSw => by (try dsimp only at hSw); go_simp; first | done | with_reducible rfl) hp (fun hp => ?_)
    try simp only [Act.put, List.setIfInBounds_toArray, List.set_cons_zero, List.set_cons_succ]
    refine take_ph 32 (i := 3) rfl rfl (by decide) (by kernel_rfl) (by kernel_rfl) (by kernel_rfl) (fun _ _ _ h => h) (by rfl) (fun w hSw => by (try dsimp only at hSw); go_simp; first | done | with_reducible rfl) hp (fun hp => ?_)
    try simp only [Act.put, List.setIfInBounds_toArray, List.set_cons_zero, List.set_cons_succ]
    refine AnyL.one (i := 4) (by kernel_rfl) rfl (fun K hK => ?_)
    go_simp
    refine (draw_Ht _ _ _ (hP.out.sr.below (Below.refl w6.heap.size w6).drew) (by omega)).mono ?_
    rintro e w8 ⟨hh, rfl, hs8, hm8⟩
    have hP8 := Lib.hid ((hP.out.up (Below.refl w6.heap.size w6).drew).on hs8 hm8)
    have qa : w8.heap[p]? = w6.heap[p]? := hP8.out.za.trans hP.out.za.symm
    have qb : w8.heap[r]? = w6.heap[r]? := hP8.out.zb.trans hP.out.zb.symm
    refine hK.out _ _ (ph1 ⟨fun o' => World.cell?_of_block (a := ⟨p, o', none⟩) qa, fun o' => World.cell?_of_block (a := ⟨r, o', none⟩) qb⟩ trivial) (fun hp => ?_)
    clear hK hs8 hm8 c0 c1 d0 d1
    try simp only [Act.put, List.setIfInBounds_toArray, List.set_cons_zero, List.set_cons_succ]
    refine AnyL.one (i := 5) (by kernel_rfl) rfl (fun K hK => ?_)
    go_simp
    refine hK.out _ _ (ph1 ⟨fun o' => World.cell?_of_block (a := ⟨p, o', none⟩) qa, fun o' => World.cell?_of_block (a := ⟨r, o', none⟩) qb⟩ trivial) (fun hp => ?_)
    clear hK
    try simp only [Act.put, List.setIfInBounds_toArray, List.set_cons_zero, List.set_cons_succ]
    refine AnyL.one (i := 6) (by kernel_rfl) rfl (fun K hK => ?_)
    have r0 := (Lib.cell_of_heap hP8.out.r1 0).trans rfl
    have r1 := (Lib.cell_of_heap hP8.out.r1 1).trans rfl
    have f0 := fun j => Lib.frozen_of_heap hP8.out.r1 j
    go_simp
    clear r0 r1 f0
    have o8 := hP8.out.o
    have hf9 := two_far w8 q (.int .i64 ax) (.int .i64 ay)
    have hX9 := blk_twoP hP8.out.r1 (.int .i64 ax) (.int .i64 ay)
    have hY9 := (hf9 (q + 1) (by omega)).trans hP8.out.r2
    have qa9 := (hf9 p (by omega)).trans qa
    have qb9 := (hf9 r (by omega)).trans qb
    have hB9 := (hP8.out.m.setCell (p := ⟨q, 0, none⟩) (Nat.le_refl _) (.int .i64 ax)).setCell (p := ⟨q, 1, none⟩) (Nat.le_refl _) (.int .i64 ay)
    have hZ9 := NSr.keep (w' := (w8.setCell ⟨q, 0, none⟩ (.int .i64 ax)).setCell ⟨q, 1, none⟩ (.int .i64 ay)) hP8.out.z (fun k h1 _ => hf9 k (by omega))
    have hp9 := (Array.getElem?_eq_some_iff.1 (qa9.trans hP.out.za)).1
    refine hK.out _ _ (ph1 ⟨fun o' => World.cell?_of_block (a := ⟨p, o', none⟩) qa9, fun o' => World.cell?_of_block (a := ⟨r, o', none⟩) qb9⟩ trivial) (fun hp => ?_)
    clear hK qa qb hf9
    try simp only [Act.put, List.setIfInBounds_toArray, List.set_cons_zero, List.set_cons_succ]
    generalize (w8.setCell ⟨q, 0, none⟩ (.int .i64 ax)).setCell ⟨q, 1, none⟩ (.int .i64 ay) = w9 at *
    refine AnyL.one (i := 7) (by kernel_rfl) rfl (fun K hK => ?_)
    have r0 := (Lib.cell_of_heap hY9 0).trans rfl
    have r1 := (Lib.cell_of_heap hY9 1).trans rfl
    have f0 := fun j => Lib.frozen_of_heap hY9 j
    go_simp
    clear r0 r1 f0
    have hf10 := two_far w9 (q + 1) (.int .i64 (bx)) (.int .i64 (by_))
    have hY10 := blk_twoP hY9 (.int .i64 (bx)) (.int .i64 (by_))
    have hX10 := (hf10 q (by omega)).trans hX9
    have qa10 := (hf10 p (by omega)).trans qa9
    have qb10 := (hf10 r (by omega)).trans qb9
    have hB10 := (hB9.setCell (p := ⟨q + 1, 0, none⟩) (show q ≤ q + 1 by omega) (.int .i64 (bx))).setCell (p := ⟨q + 1, 1, none⟩) (show q ≤ q + 1 by omega) (.int .i64 (by_))
    have hZ10 := NSr.keep (w' := (w9.setCell ⟨q + 1, 0, none⟩ (.int .i64 (bx))).setCell ⟨q + 1, 1, none⟩ (.int .i64 (by_))) hZ9 (fun k h1 _ => hf10 k (by omega))
    have hp10 : p ≤ ((w9.setCell ⟨q + 1, 0, none⟩ (.int .i64 (bx))).setCell ⟨q + 1, 1, none⟩ (.int .i64 (by_))).heap.size := by simp only [World.size_setCell]; exact Nat.le_of_lt hp9
    refine hK.out _ _ (ph1 ⟨fun o' => World.cell?_of_block (a := ⟨p, o', none⟩) qa10, fun o' => World.cell?_of_block (a := ⟨r, o', none⟩) qb10⟩ trivial) (fun hp => ?_)
    clear hK qa9 qb9 hf10 hX9 hY9 hB9 hZ9 hp9
    try simp only [Act.put, List.setIfInBounds_toArray, List.set_cons_zero, List.set_cons_succ]
    generalize (w9.setCell ⟨q + 1, 0, none⟩ (.int .i64 (bx))).setCell ⟨q + 1, 1, none⟩ (.int .i64 (by_)) = w10 at *
    refine AnyL.one (i := 8) (by kernel_rfl) rfl (fun K hK => ?_)
    go_simp
    refine hK.out _ _ (ph1 ⟨fun o' => World.cell?_of_block (a := ⟨p, o', none⟩) qa10, fun o' => World.cell?_of_block (a := ⟨r, o', none⟩) qb10⟩ trivial) (fun hp => ?_)
    clear hK qa10 qb10
    try simp only [Act.put, List.setIfInBounds_toArray, List.set_cons_zero, List.set_cons_succ]
    refine AnyL.done (by kernel_rfl) ?_ _
    (try simp only [Exit.then])
    clear hp
    have r0 := (Lib.cell_of_heap hX10 0).trans rfl
    have r1 := (Lib.cell_of_heap hX10 1).trans rfl
    have r2 := (Lib.cell_of_heap hY10 0).trans rfl
    have r3 := (Lib.cell_of_heap hY10 1).trans rfl
    go_wp2_with fail
    exact bodyPost_ret (v := .tuple #[.slice za n zc, .agg #[.int .i64 ax, .int .i64 ay], .agg #[.int .i64 (bx), .int .i64 (by_)], .int .i64 hh]) (by simp [results, Tryd.results5, go_sem, r0, r1, r2, r3]) rfl
      ⟨_, rs, L, ax, ay, _, _, hh, rfl, by rw [Hq.out]; exact NSr.mono hZ10 (by omega) hp10, Hds.out, Hl.out, by rw [Hq.out]; exact hB10⟩
end Go.Proofs.YtpabbehpkokhbaaDoor
