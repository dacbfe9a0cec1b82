/- Zones: the draw of a zone that is seldom not valid. -/
import Derived.Test.YtpabbehpkokhbaaDoorZnV
import Derived.Test.YtpabbehpkokhbaaDoorPh
namespace Go.Proofs.YtpabbehpkokhbaaDoor
open Go.RowKit
def ManyOut (n : Nat) (w : World) (e : Ending) (w' : World) : Prop := ∃ (s : SV) (C : List Pnt), e = .returned (.agg (ZoneR.cells ⟨⟨2, 0, 0⟩, s⟩).toArray) ∧ Slw 2 Pnt.cells w.heap.size w'.heap.size w' s.v C ∧ C.length = n ∧ Below w.heap.size w w'
theorem below_set {B p j : Nat} {w w' : World} (h : Below B w w') (hp : B ≤ p) (u : Value) : Below B w (w'.setCell ⟨p, j, none⟩ u) := h.setCell (p := ⟨p, j, none⟩) hp u
set_option maxRecDepth 100000 in
set_option maxHeartbeats 4000000 in
theorem draw_Many (n : Nat) (w : World) (hn : n ≤ 20) : Calls Tryd.prog 62 #[.int .i64 n] w (ManyOut n w) := by
  have hb0 : Below w.heap.size w ((w.alloc (.cells #[.int .i64 0, .int .i64 0, .int .i64 0, .slice none 0 0] 33 (0, 0))).alloc (.cells #[.int .i64 2, .int .i64 0, .int .i64 0, .slice none 0 0] 33 (0, 0))) := ((Below.refl _ _).alloc (Nat.le_refl _) _).alloc (by simp) _
  have hX : Hid (((w.alloc (.cells #[.int .i64 0, .int .i64 0, .int .i64 0, .slice none 0 0] 33 (0, 0))).alloc (.cells #[.int .i64 2, .int .i64 0, .int .i64 0, .slice none 0 0] 33 (0, 0))).heap[w.heap.size]? = some (.cells #[.int .i64 0, .int .i64 0, .int .i64 0, .slice none 0 0] 33 (0, 0))) := Lib.hid (blkN_below ((Below.refl _ _).alloc (Nat.le_refl _) _) (blkN_new w _))
  have hY : Hid (((w.alloc (.cells #[.int .i64 0, .int .i64 0, .int .i64 0, .slice none 0 0] 33 (0, 0))).alloc (.cells #[.int .i64 2, .int .i64 0, .int .i64 0, .slice none 0 0] 33 (0, 0))).heap[w.heap.size + 1]? = some (.cells #[.int .i64 2, .int .i64 0, .int .i64 0, .slice none 0 0] 33 (0, 0))) := Lib.hid (by have := blkN_new (w.alloc (.cells #[.int .i64 0, .int .i64 0, .int .i64 0, .slice none 0 0] 33 (0, 0))) (.cells #[.int .i64 2, .int .i64 0, .int .i64 0, .slice none 0 0] 33 (0, 0)); rwa [World.size_alloc] at this)
  have hz0 : ((w.alloc (.cells #[.int .i64 0, .int .i64 0, .int .i64 0, .slice none 0 0] 33 (0, 0))).alloc (.cells #[.int .i64 2, .int .i64 0, .int .i64 0, .slice none 0 0] 33 (0, 0))).heap.size = w.heap.size + 1 + 1 := by simp
  go_enter Tryd.func62, Tryd.ntmps62
  go_wp2_with fail
  generalize (w.alloc (.cells #[.int .i64 0, .int .i64 0, .int .i64 0, .slice none 0 0] 33 (0, 0))).alloc (.cells #[.int .i64 2, .int .i64 0, .int .i64 0, .slice none 0 0] 33 (0, 0)) = w0 at *
  obtain ⟨q, hqe⟩ : ∃ q, w.heap.size = q := ⟨_, rfl⟩
  have Hq := Lib.hid hqe
  rw [hqe] at hX hY hz0 ⊢
  obtain ⟨p, hpe⟩ : ∃ p, q + 1 = p := ⟨_, rfl⟩
  rw [hpe] at hY hz0 ⊢
  have Hp := Lib.hid hpe
  have Hz0 := Lib.hid hz0
  clear hqe hpe hz0
  go_loopw [4] (fun i wr => ∃ (k : Nat) (s : SV) (acc : List Pnt), i = .int .i64 k ∧ k ≤ n ∧ Hid (Own 2 Pnt.cells w0.heap.size 26 wr s.v acc) ∧ Hid (acc.length = k) ∧ Hid (wr.heap[q]? = some (.cells #[.int .i64 0, .int .i64 0, .int .i64 0, .slice none 0 0] 33 (0, 0))) ∧ Hid (wr.heap[p]? = some (.cells #[.int .i64 2, .int .i64 0, .int .i64 0, s.v] 33 (0, 0))) ∧ Hid (Below w.heap.size w wr) ∧ Hid (w0.heap.size ≤ wr.heap.size)) (fun i _ => n - (Go.RowKit.intOf i).toNat)
  case atStart => exact ⟨0, ⟨none, 0, 0⟩, [], rfl, Nat.zero_le _, Lib.hid (own_nil _ _ _), Lib.hid rfl, hX, hY, Lib.hid hb0, Lib.hid (Nat.le_refl _)⟩
  case round =>
    clear hX hY hb0
    obtain ⟨k, ⟨sa, sl, sc⟩, acc, rfl, hk, hown, hacc, hX, hY, hB, hws⟩ := hrel
    simp only [SV.v] at hown hY
    obtain ⟨ga, gc, hv⟩ := own_sv hown.out
    rw [hacc.out] at hv
    obtain rfl : k = sl := by cases hv; rfl
    clear hv
    by_cases hlt : k < n
    · have hltI : (k : Int) < (n : Int) := by omega
      have hk0 : (0 : Int) ≤ (k : Int) := Int.natCast_nonneg _
      have c3 := (Lib.cell_of_heap hY.out 3).trans rfl
      obtain ⟨kk, hkk⟩ : ∃ kk, (k : Int) * (k : Int) = kk := ⟨_, rfl⟩
      have hkb := prod_bd (A := 20) (B := 20) (a := (k : Int)) (b := (k : Int)) (by omega) (by omega)
      rw [hkk] at hkb
      have wk : IntKind.i64.wrap kk = kk := IntWalk.i64_in _ (by omega)
      have Hk := Lib.hid (show k < n ∧ k ≤ n from ⟨hlt, hk⟩)
      clear hlt hk
      go_wp2_with (at_builtin; refine wpList_app1 (c := Pnt.cells) (bytes := 16) rfl _ _ 31 26 rfl Tryd.underlying31 info_PntZ (by omega) Pnt.len Pnt.oneZ w0.heap.size acc (⟨(k : Int), kk⟩ : Pnt) _ rfl wr rfl hown.out rfl (by have := hacc.out; have := Hk.out; omega) (by have := hacc.out; have := Hk.out; omega) hws.out ?_; intro v' w6 hown6 hg6; obtain ⟨va, vc, rfl⟩ := own_sv hown6; have hln : (acc ++ [(⟨(k : Int), kk⟩ : Pnt)]).length = k + 1 := (by rw [List.length_append, hacc.out]; rfl); rw [hln] at hown6 ⊢; have hB6 := Lib.hid (hown.out.app hB.out (by rw [Hz0.out, ← Hp.out, ← Hq.out]; omega) hB.out.size hg6); have hz6 := Lib.hid (hown.out.app (Below.refl w0.heap.size wr) (Nat.le_refl _) hws.out hg6).size; have hX6 := Lib.hid (grown_block hown.out hX.out (by decide) hg6); have hY6 := Lib.hid (grown_block hown.out hY.out (by decide) hg6); have Hown6 := Lib.hid hown6; have f3 := Lib.frozen_of_heap hY6.out 3; have d3 := (Lib.cell_of_heap hY6.out 3).trans rfl; have Hln := Lib.hid hln; clear hown6 hg6 hln)
      go_roundw
      case rel => exact ⟨k + 1, ⟨va, k + 1, vc⟩, acc ++ [(⟨(k : Int), kk⟩ : Pnt)], by go_num, by have := Hk.out; omega, Lib.hid (own_offZ Hown6.out hY6.out (by decide)), Hln, Lib.hid (blk_offV hX6.out (by have := Hp.out; omega) _), Lib.hid (blk_onV hY6.out rfl), Lib.hid (below_set hB6.out (by rw [Hq.out, ← Hp.out]; omega) _), Lib.hid (by have := hws.out; have := hz6.out; simp only [World.size_setCell]; omega)⟩
      case measure => have := Hk.out; simp [Go.RowKit.intOf]; omega
    · have hkn : k = n := by omega
      have hltI : ¬ (k : Int) < (n : Int) := by omega
      have HSl := Lib.hid (hown.out.slw Pnt.len)
      have c0 := (Lib.cell_of_heap hY.out 0).trans rfl
      have c1 := (Lib.cell_of_heap hY.out 1).trans rfl
      have c2 := (Lib.cell_of_heap hY.out 2).trans rfl
      have c3 := (Lib.cell_of_heap hY.out 3).trans rfl
      have r0 := (Lib.cell_of_heap hX.out 0).trans rfl
      have r1 := (Lib.cell_of_heap hX.out 1).trans rfl
      have r2 := (Lib.cell_of_heap hX.out 2).trans rfl
      have r3 := (Lib.cell_of_heap hX.out 3).trans rfl
      have f0 := Lib.frozen_of_heap hX.out 0
      have f1 := Lib.frozen_of_heap hX.out 1
      have f2 := Lib.frozen_of_heap hX.out 2
      have f3 := Lib.frozen_of_heap hX.out 3
      have Hkn := Lib.hid hkn
      clear hkn hk
      go_wp2
      refine bodyPost_ret (v := .agg #[.int .i64 2, .int .i64 0, .int .i64 0, .slice sa k sc]) (by simp [results, Tryd.results62, go_sem, r0, r1, r2, r3]) rfl ?_
      exact ⟨⟨sa, k, sc⟩, acc, rfl, slw_wide (lo := w0.heap.size) (hi := wr.heap.size) (set4 HSl.out (by rw [Hz0.out, ← Hp.out]; omega) _ _ _ _) (by rw [Hz0.out, ← Hp.out, Hq.out]; omega) (by simp), by rw [hacc.out, Hkn.out], below_set (below_set (below_set (below_set hB.out (by rw [Hq.out]; exact Nat.le_refl _) _) (by rw [Hq.out]; exact Nat.le_refl _) _) (by rw [Hq.out]; exact Nat.le_refl _) _) (by rw [Hq.out]; exact Nat.le_refl _) _⟩
theorem slw_hi {w : World} {lo hi p j : Nat} {v u : Value} {l : List Pnt} (h : Slw 2 Pnt.cells lo hi w v l) (hp : hi ≤ p) : Slw 2 Pnt.cells lo hi (w.setCell ⟨p, j, none⟩ u) v l :=
  h.keep (fun k _ h2 => Below.heap_setCell w ⟨p, j, none⟩ u k (show k ≠ p by omega))
theorem slw_mod {w w' : World} {lo hi b : Nat} {v : Value} {l : List Pnt} (h : Slw 2 Pnt.cells lo hi w v l) (hm : Mod b (b + 1) w w') (h1 : hi ≤ w.heap.size) (h2 : b + 1 ≤ lo) : Slw 2 Pnt.cells lo hi w' v l := h.keep (hm.same h1 (.inr h2))
/-- The zone in its box, and its corners. -/
structure ZC (b A p q lo : Nat) (w : World) (kd st ea : Int) (s : SV) (C : List Pnt) (W : World) : Prop where
  z : ZB b A p q w kd st ea s.v W
  c : Slw 2 Pnt.cells lo p W s.v C
  o : b < w.heap.size ∧ q = w.heap.size ∧ q < lo ∧ lo ≤ p
theorem ZC.on {b A A' p q lo : Nat} {w W W' : World} {kd st ea : Int} {s : SV} {C : List Pnt} (h : ZC b A p q lo w kd st ea s C W) (hs : Src b A' W') (hm : Mod b (b + 1) W W') : ZC b A' p q lo w kd st ea s C W' :=
  ⟨h.z.on (by have := h.o; omega) (by have := h.o; omega) hs hm, slw_mod h.c hm (Nat.le_of_lt (Array.getElem?_eq_some_iff.1 h.z.z).1) (by have := h.o; omega), h.o⟩
theorem ZC.set {b A p q lo j : Nat} {w W : World} {kd st ea kd' st' ea' : Int} {s : SV} {C : List Pnt} {u : Value} (h : ZC b A p q lo w kd st ea s C W) (hc : (#[.int .i64 kd', .int .i64 st', .int .i64 ea', s.v] : Array Value) = (#[.int .i64 kd, .int .i64 st, .int .i64 ea, s.v] : Array Value).setIfInBounds j u) : ZC b A p q lo w kd' st' ea' s C (W.setCell ⟨p, j, none⟩ u) :=
  ⟨h.z.set (by have := h.o; omega) (by have := h.o; omega) (by have := h.o; omega) hc, slw_hi h.c (Nat.le_refl _), h.o⟩
theorem ZC.up {b A p q lo : Nat} {w W W' : World} {kd st ea : Int} {s : SV} {C : List Pnt} (h : ZC b A p q lo w kd st ea s C W) (hb : Below W.heap.size W W') : ZC b A p q lo w kd st ea s C W' :=
  ⟨h.z.up hb, h.c.keep (Same.of_below hb (Nat.le_of_lt (Array.getElem?_eq_some_iff.1 h.z.z).1)), h.o⟩
/-- The end: the zone is handed out. -/
theorem ZC.done {b A A' p q lo : Nat} {w W : World} {kd st ea : Int} {s : SV} {C : List Pnt} (h : ZC b A p q lo w kd st ea s C W) (hA : A ≤ A') (hl : 2 ≤ C.length ∧ C.length ≤ 13) (a0 a1 a2 a3 : Value) :
    ZnOut b A' w (.returned (.agg #[.int .i64 kd, .int .i64 st, .int .i64 ea, s.v])) ((((W.setCell ⟨q, 0, none⟩ a0).setCell ⟨q, 1, none⟩ a1).setCell ⟨q, 2, none⟩ a2).setCell ⟨q, 3, none⟩ a3) :=
  ⟨⟨kd, st, ea⟩, s, C, rfl, slw_wide (lo := lo) (hi := p) (set4 h.c (by have := h.o; omega) _ _ _ _) (by have := h.o; omega) (by have := (Array.getElem?_eq_some_iff.1 h.z.z).1; simp only [World.size_setCell]; omega), hl, src4 (h.z.s.mono hA) (by have := h.o; omega) _ _ _ _, mod4 h.z.m (by have := h.o; omega) _ _ _ _⟩
set_option maxRecDepth 100000 in
set_option maxHeartbeats 8000000 in
theorem draw_Bent (b A : Nat) (w : World) (h : Src b A w) (hA : A ≤ 80000) : Calls Tryd.prog 35 #[.pointer (some ⟨b, 0, none⟩)] w (ZnOut b (A + 60) w) := by
  have hp := Lib.hid (fun A w' h hA n hn => src_pick b A n w' h hA hn)
  have hbl := h.lt
  have hb0 := (Below.refl w.heap.size w).alloc (Nat.le_refl _) (.cells #[.int .i64 0, .int .i64 0, .int .i64 0, .slice none 0 0] 33 (0, 0))
  have hS1 := Lib.hid (h.below hb0)
  have hM1 := Lib.hid (Mod.of_below (lo := b) (hi := b + 1) hb0)
  have hX1 : Hid ((w.alloc (.cells #[.int .i64 0, .int .i64 0, .int .i64 0, .slice none 0 0] 33 (0, 0))).heap[w.heap.size]? = some (.cells #[.int .i64 0, .int .i64 0, .int .i64 0, .slice none 0 0] 33 (0, 0))) := Lib.hid Array.getElem?_push_size
  have hw1 : (w.alloc (.cells #[.int .i64 0, .int .i64 0, .int .i64 0, .slice none 0 0] 33 (0, 0))).heap.size = w.heap.size + 1 := by simp
  clear h hb0
  go_enter Tryd.func35, Tryd.ntmps35
  go_wp2_with fail
  refine (draw_Zone b A _ hS1.out (by omega)).mono ?_
  rintro e w2 ⟨f, ⟨sa, sl, sc⟩, C, rfl, hsl, hlen, hs2, hm2⟩
  obtain ⟨kd, st, ea⟩ := f
  simp only [ZoneR.cells, SV.v] at *
  have hX2 := blk_modV hX1.out hm2 hbl
  have hM2 := hM1.out.trans hm2
  have hq2 := (Array.getElem?_eq_some_iff.1 hX2).1
  have hsz2 := hm2.size
  have hb3 := (Below.refl w2.heap.size w2).alloc (Nat.le_refl _) (.cells #[.int .i64 kd, .int .i64 st, .int .i64 ea, .slice sa sl sc] 33 (0, 0))
  have hP := Lib.hid (show ZC b (A + 30) w2.heap.size w.heap.size (w.alloc (.cells #[.int .i64 0, .int .i64 0, .int .i64 0, .slice none 0 0] 33 (0, 0))).heap.size w kd st ea ⟨sa, sl, sc⟩ C (w2.alloc (.cells #[.int .i64 kd, .int .i64 st, .int .i64 ea, .slice sa sl sc] 33 (0, 0))) from ⟨⟨hs2.below hb3, hM2.then hb3, blkN_below hb3 hX2, blkN_new _ _⟩, hsl.keep (Same.of_below hb3 (Nat.le_refl _)), hbl, rfl, by omega, hsz2⟩)
  clear hs2 hm2 hX2 hb3 hX1 hS1 hM1 hM2 hsl
  go_wp2_with fail
  generalize w2.alloc (.cells #[.int .i64 kd, .int .i64 st, .int .i64 ea, .slice sa sl sc] 33 (0, 0)) = w3 at *
  obtain ⟨p, hpe⟩ : ∃ p, w2.heap.size = p := ⟨_, rfl⟩
  obtain ⟨lo, hle⟩ : ∃ lo, (w.alloc (.cells #[.int .i64 0, .int .i64 0, .int .i64 0, .slice none 0 0] 33 (0, 0))).heap.size = lo := ⟨_, rfl⟩
  rw [hpe, hle] at hP
  rw [hpe]
  clear hpe hle hsz2 hq2 hw1
  refine (hp.out _ _ hP.out.z.s (by omega) 24 (by omega)).mono ?_
  rintro e w4 ⟨k, rfl, -, hs4, hm4⟩
  have hP := Lib.hid (hP.out.on hs4 hm4)
  clear hs4 hm4
  have hqp : w.heap.size ≠ p := by have := hP.out.o; omega
  have hqp2 : p ≠ w.heap.size := fun e => hqp e.symm
  by_cases k0 : k = 0
  · have t0 : ((k : Int) == 0) = true := by rw [beq_iff_eq]; omega
    go_wp2_with fail
    refine (src_lit b _ [0, 1, 2, 4, -9223372036854775808] 5 _ w4 hP.out.z.s (by omega) rfl rfl (by simp)).mono ?_
    rintro e w5 ⟨z, rfl, hs5, hm5⟩
    have hP := Lib.hid (hP.out.on hs5 hm5)
    clear hs5 hm5
    have c0 := (Lib.cell_of_heap hP.out.z.z 0).trans rfl
    have c1 := (Lib.cell_of_heap hP.out.z.z 1).trans rfl
    have c2 := (Lib.cell_of_heap hP.out.z.z 2).trans rfl
    have c3 := (Lib.cell_of_heap hP.out.z.z 3).trans rfl
    have g0 := Lib.frozen_of_heap hP.out.z.z 0
    have g1 := Lib.frozen_of_heap hP.out.z.z 1
    have g2 := Lib.frozen_of_heap hP.out.z.z 2
    have g3 := Lib.frozen_of_heap hP.out.z.z 3
    have r0 := (Lib.cell_of_heap hP.out.z.r 0).trans rfl
    have r1 := (Lib.cell_of_heap hP.out.z.r 1).trans rfl
    have r2 := (Lib.cell_of_heap hP.out.z.r 2).trans rfl
    have r3 := (Lib.cell_of_heap hP.out.z.r 3).trans rfl
    have f0 := Lib.frozen_of_heap hP.out.z.r 0
    have f1 := Lib.frozen_of_heap hP.out.z.r 1
    have f2 := Lib.frozen_of_heap hP.out.z.r 2
    have f3 := Lib.frozen_of_heap hP.out.z.r 3
    simp only [SV.v] at c3
    have hD := Lib.hid ((hP.out.set (j := 0) (kd' := z) (st' := st) (ea' := ea) (u := .int .i64 z) rfl).done (A' := A + 60) (by omega) hlen)
    go_wp2
    exact bodyPost_ret (v := .agg #[.int .i64 z, .int .i64 st, .int .i64 ea, .slice sa sl sc]) (by simp [results, Tryd.results35, go_sem, r0, r1, r2, r3]) rfl (hD.out _ _ _ _)
  · have t0 : ((k : Int) == 0) = false := by rw [beq_eq_false_iff_ne]; omega
    by_cases k1 : k = 1
    · have t1 : ((k : Int) == 1) = true := by rw [beq_iff_eq]; omega
      go_wp2_with fail
      refine (src_lit b _ [-1, 0, 1, 60, 61, 9223372036854775807] 6 _ w4 hP.out.z.s (by omega) rfl rfl (by simp)).mono ?_
      rintro e w5 ⟨z, rfl, hs5, hm5⟩
      have hP := Lib.hid (hP.out.on hs5 hm5)
      clear hs5 hm5
      have c0 := (Lib.cell_of_heap hP.out.z.z 0).trans rfl
      have c1 := (Lib.cell_of_heap hP.out.z.z 1).trans rfl
      have c2 := (Lib.cell_of_heap hP.out.z.z 2).trans rfl
      have c3 := (Lib.cell_of_heap hP.out.z.z 3).trans rfl
      have g0 := Lib.frozen_of_heap hP.out.z.z 0
      have g1 := Lib.frozen_of_heap hP.out.z.z 1
      have g2 := Lib.frozen_of_heap hP.out.z.z 2
      have g3 := Lib.frozen_of_heap hP.out.z.z 3
      have r0 := (Lib.cell_of_heap hP.out.z.r 0).trans rfl
      have r1 := (Lib.cell_of_heap hP.out.z.r 1).trans rfl
      have r2 := (Lib.cell_of_heap hP.out.z.r 2).trans rfl
      have r3 := (Lib.cell_of_heap hP.out.z.r 3).trans rfl
      have f0 := Lib.frozen_of_heap hP.out.z.r 0
      have f1 := Lib.frozen_of_heap hP.out.z.r 1
      have f2 := Lib.frozen_of_heap hP.out.z.r 2
      have f3 := Lib.frozen_of_heap hP.out.z.r 3
      simp only [SV.v] at c3
      have hD := Lib.hid ((hP.out.set (j := 1) (kd' := kd) (st' := z) (ea' := ea) (u := .int .i64 z) rfl).done (A' := A + 60) (by omega) hlen)
      go_wp2
      exact bodyPost_ret (v := .agg #[.int .i64 kd, .int .i64 z, .int .i64 ea, .slice sa sl sc]) (by simp [results, Tryd.results35, go_sem, r0, r1, r2, r3]) rfl (hD.out _ _ _ _)
    · have t1 : ((k : Int) == 1) = false := by rw [beq_eq_false_iff_ne]; omega
      by_cases k2 : k = 2
      · have t2 : ((k : Int) == 2) = true := by rw [beq_iff_eq]; omega
        go_wp2_with fail
        refine (src_lit b _ [19, 20, 60, 61] 4 _ w4 hP.out.z.s (by omega) rfl rfl (by simp)).mono ?_
        rintro e w5 ⟨z, rfl, hs5, hm5⟩
        have hP5 := Lib.hid (hP.out.on hs5 hm5)
        clear hs5 hm5 hP
        have c2 := (Lib.cell_of_heap hP5.out.z.z 2).trans rfl
        have g2 := Lib.frozen_of_heap hP5.out.z.z 2
        have hP := Lib.hid (hP5.out.set (j := 2) (kd' := kd) (st' := st) (ea' := z) (u := .int .i64 z) rfl)
        clear hP5
        have hal := src_lit b _ [33, 34, 1] 3 #[.int .i64 33, .int .i64 34, .int .i64 1] (w5.setCell ⟨p, 2, none⟩ (.int .i64 z)) hP.out.z.s (by omega) rfl rfl (by simp)
        rw [World.size_setCell] at hal
        have hal := Lib.hid hal
        go_wp2_with fail
        clear c2 g2
        refine hal.out.mono ?_
        rintro e w7 ⟨z2, rfl, hs7, hm7⟩
        have hP := Lib.hid (hP.out.on hs7 hm7)
        clear hs7 hm7
        have c0 := (Lib.cell_of_heap hP.out.z.z 0).trans rfl
        have c1 := (Lib.cell_of_heap hP.out.z.z 1).trans rfl
        have c2 := (Lib.cell_of_heap hP.out.z.z 2).trans rfl
        have c3 := (Lib.cell_of_heap hP.out.z.z 3).trans rfl
        have g0 := Lib.frozen_of_heap hP.out.z.z 0
        have g1 := Lib.frozen_of_heap hP.out.z.z 1
        have g2 := Lib.frozen_of_heap hP.out.z.z 2
        have g3 := Lib.frozen_of_heap hP.out.z.z 3
        have r0 := (Lib.cell_of_heap hP.out.z.r 0).trans rfl
        have r1 := (Lib.cell_of_heap hP.out.z.r 1).trans rfl
        have r2 := (Lib.cell_of_heap hP.out.z.r 2).trans rfl
        have r3 := (Lib.cell_of_heap hP.out.z.r 3).trans rfl
        have f0 := Lib.frozen_of_heap hP.out.z.r 0
        have f1 := Lib.frozen_of_heap hP.out.z.r 1
        have f2 := Lib.frozen_of_heap hP.out.z.r 2
        have f3 := Lib.frozen_of_heap hP.out.z.r 3
        simp only [SV.v] at c3
        have hD := Lib.hid ((hP.out.set (j := 1) (kd' := kd) (st' := z2) (ea' := z) (u := .int .i64 z2) rfl).done (A' := A + 60) (by omega) hlen)
        go_wp2
        exact bodyPost_ret (v := .agg #[.int .i64 kd, .int .i64 z2, .int .i64 z, .slice sa sl sc]) (by simp [results, Tryd.results35, go_sem, r0, r1, r2, r3]) rfl (hD.out _ _ _ _)
      · have t2 : ((k : Int) == 2) = false := by rw [beq_eq_false_iff_ne]; omega
        by_cases k3 : k = 3
        · have t3 : ((k : Int) == 3) = true := by rw [beq_iff_eq]; omega
          have hc := hP.out.c
          obtain ⟨g, o, hgo⟩ : ∃ g o, sa = some ⟨g, o, none⟩ := by obtain ⟨a, cp, hv, _, hh⟩ := hc.1; obtain ⟨g, o, ha, _⟩ := hh (by omega); cases hv; exact ⟨g, o, ha⟩
          subst hgo
          obtain ⟨n, hn⟩ : ∃ n, C.length = n := ⟨_, rfl⟩
          obtain rfl : n = sl := by obtain ⟨a, cp, hv, _⟩ := hc.1; rw [hn] at hv; cases hv; rfl
          have hg : lo ≤ g ∧ g < p := by
            obtain ⟨a, cp, hv, _, hh⟩ := hc.1
            obtain ⟨g', o', ha, h1, h2, _⟩ := hh (by omega)
            cases hv; cases ha
            exact ⟨h1, h2⟩
          have hn0 : 0 < n := by omega
          have hn1 : (0 : Int) < (n : Int) := by omega
          have hn2 : (n : Int) ≠ 0 := by omega
          have c3 := (Lib.cell_of_heap hP.out.z.z 3).trans rfl
          simp only [SV.v] at c3
          have hpw := (Array.getElem?_eq_some_iff.1 hP.out.z.z).1
          have hgw : g < w4.heap.size := by omega
          have Hn := Lib.hid hn
          clear hc hn
          go_wp2_with fail
          refine region_ph 5 (fun w' => ∀ o, w'.cell? ⟨p, o, none⟩ = w4.cell? ⟨p, o, none⟩) (fun _ => True) (by kernel_rfl) (fun _ => rfl) trivial (fun hp' => ?_)
          have hp2 := hp
          clear hp
          have hp := hp'
          refine take_ph 33 (i := 0) rfl rfl (by decide) (by kernel_rfl) (by kernel_rfl) (by kernel_rfl) (fun _ _ _ h => h) (by rfl) (fun w hSw => by (try dsimp only at hSw); go_simp; first | done | with_reducible rfl) hp (fun hp => ?_)
          try simp only [Act.put, List.setIfInBounds_toArray, List.set_cons_zero, List.set_cons_succ]
          refine take_ph 34 (i := 1) rfl rfl (by decide) (by kernel_rfl) (by kernel_rfl) (by kernel_rfl) (fun _ _ _ h => h) (by rfl) (fun w hSw => by (try dsimp only at hSw); go_simp; first | done | with_reducible rfl) hp (fun hp => ?_)
          try simp only [Act.put, List.setIfInBounds_toArray, List.set_cons_zero, List.set_cons_succ]
          refine take_ph 35 (i := 2) rfl rfl (by decide) (by kernel_rfl) (by kernel_rfl) (by kernel_rfl) (fun _ _ _ h => h) (by rfl) (fun w hSw => by (try dsimp only at hSw); go_simp; first | done | with_reducible rfl) hp (fun hp => ?_)
          try simp only [Act.put, List.setIfInBounds_toArray, List.set_cons_zero, List.set_cons_succ]
          refine AnyL.one (i := 3) (by kernel_rfl) rfl (fun K hK => ?_)
          go_simp
          refine (draw_PtB b _ _ (hP.out.z.s.below (Below.refl _ _).drew) (by omega)).mono ?_
          rintro e w5 ⟨x, y, rfl, hs5, hm5⟩
          have hmm := (Mod.of_below (lo := b) (hi := b + 1) (Below.refl w4.heap.size w4).drew).trans hm5
          have hP5 := Lib.hid (hP.out.on hs5 hmm)
          have q5 : w5.heap[p]? = w4.heap[p]? := hmm.block p hpw (.inr (by have := hP.out.o; omega))
          refine hK.out _ _ (ph1 (fun o => World.cell?_of_block (a := ⟨p, o, none⟩) q5) trivial) (fun hp => ?_)
          clear hK hs5 hm5
          try simp only [Act.put, List.setIfInBounds_toArray, List.set_cons_zero, List.set_cons_succ]
          refine take_ph 37 (i := 4) rfl rfl (by decide) (by kernel_rfl) (by kernel_rfl) (by kernel_rfl) (fun _ _ _ h => h) (by rfl) (fun w hSw => by (try dsimp only at hSw); go_simp; first | done | with_reducible rfl) hp (fun hp => ?_)
          try simp only [Act.put, List.setIfInBounds_toArray, List.set_cons_zero, List.set_cons_succ]
          have hc0 : 0 < C.length := by rw [Hn.out]; omega
          obtain ⟨d0, d1⟩ := Pnts.at hP5.out.c.1.get hc0
          have e0 := hP5.out.c.2 hc0 g o n sc rfl o
          have e1 := hP5.out.c.2 hc0 g o n sc rfl (o + 1)
          simp only [Nat.zero_mul, Nat.add_zero] at d0 d1
          refine AnyL.one (i := 5) (by kernel_rfl) rfl (fun K hK => ?_)
          go_simp
          have hpg : p ≠ g := by omega
          have hqg : w.heap.size ≠ g := by have := hP5.out.o; omega
          have w0x := hP5.out.c.store1 (k := 0) (j := 0) (o := o) (u := .int .i64 x) (x := ⟨x, C[0].y⟩) Pnt.len hc0 (by omega) (by simp [Pnt.cells]) (by omega)
          have w1x := w0x.store1 (k := 0) (j := 1) (o := o + 1) (u := .int .i64 y) (x := ⟨x, y⟩) Pnt.len (by simpa using hc0) (by omega) (by simp [Pnt.cells]) (by omega)
          have hP6 : ZC b (A + 30 + 2 + 20) p w.heap.size lo w kd st ea ⟨some ⟨g, o, none⟩, n, sc⟩ ((C.set 0 ⟨x, C[0].y⟩).set 0 ⟨x, y⟩) ((w5.setCell ⟨g, o, none⟩ (.int .i64 x)).setCell ⟨g, o + 1, none⟩ (.int .i64 y)) :=
            ⟨⟨src_setV (src_setV hP5.out.z.s (by have := hP5.out.o; omega) _) (by have := hP5.out.o; omega) _, mod_setV (mod_setV hP5.out.z.m (by have := hP5.out.o; omega) _) (by have := hP5.out.o; omega) _, blk_offV (blk_offV hP5.out.z.r hqg _) hqg _, blk_offV (blk_offV hP5.out.z.z hpg _) hpg _⟩, w1x, hP5.out.o⟩
          refine hK.out _ _ (ph2 rfl (fun o' => ?_)) (fun hp => ?_)
          · exact World.cell?_of_block (a := ⟨p, o', none⟩) ((hP6.z.z.trans hP5.out.z.z.symm).trans q5)
          clear hK
          try simp only [Act.put, List.setIfInBounds_toArray, List.set_cons_zero, List.set_cons_succ]
          refine AnyL.done (by kernel_rfl) ?_ _
          (try simp only [Exit.then])
          clear hp
          have HP6 := Lib.hid hP6
          clear hP6 w0x w1x d0 d1 e0 e1 c3 q5
          have c0 := (Lib.cell_of_heap HP6.out.z.z 0).trans rfl
          have c1 := (Lib.cell_of_heap HP6.out.z.z 1).trans rfl
          have c2 := (Lib.cell_of_heap HP6.out.z.z 2).trans rfl
          have c3 := (Lib.cell_of_heap HP6.out.z.z 3).trans rfl
          have g0 := Lib.frozen_of_heap HP6.out.z.z 0
          have g1 := Lib.frozen_of_heap HP6.out.z.z 1
          have g2 := Lib.frozen_of_heap HP6.out.z.z 2
          have g3 := Lib.frozen_of_heap HP6.out.z.z 3
          have r0 := (Lib.cell_of_heap HP6.out.z.r 0).trans rfl
          have r1 := (Lib.cell_of_heap HP6.out.z.r 1).trans rfl
          have r2 := (Lib.cell_of_heap HP6.out.z.r 2).trans rfl
          have r3 := (Lib.cell_of_heap HP6.out.z.r 3).trans rfl
          have f0 := Lib.frozen_of_heap HP6.out.z.r 0
          have f1 := Lib.frozen_of_heap HP6.out.z.r 1
          have f2 := Lib.frozen_of_heap HP6.out.z.r 2
          have f3 := Lib.frozen_of_heap HP6.out.z.r 3
          simp only [SV.v] at c3
          have hl6 : 2 ≤ ((C.set 0 ⟨x, C[0].y⟩).set 0 (⟨x, y⟩ : Pnt)).length ∧ ((C.set 0 ⟨x, C[0].y⟩).set 0 (⟨x, y⟩ : Pnt)).length ≤ 13 := by simp only [List.length_set]; exact hlen
          have hD := Lib.hid (HP6.out.done (A' := A + 60) (by omega) hl6)
          generalize (w5.setCell ⟨g, o, none⟩ (.int .i64 x)).setCell ⟨g, o + 1, none⟩ (.int .i64 y) = w6 at *
          clear hl6 hpg hqg
          go_wp2
          exact bodyPost_ret (v := .agg #[.int .i64 kd, .int .i64 st, .int .i64 ea, .slice (some ⟨g, o, none⟩) n sc]) (by simp [results, Tryd.results35, go_sem, r0, r1, r2, r3]) rfl (hD.out _ _ _ _)
        · have t3 : ((k : Int) == 3) = false := by rw [beq_eq_false_iff_ne]; omega
          by_cases k4 : k = 4
          · have t4 : ((k : Int) == 4) = true := by rw [beq_iff_eq]; omega
            go_wp2_with fail
            refine (hp.out _ _ hP.out.z.s (by omega) 2 (by omega)).mono ?_
            rintro e w5 ⟨j, rfl, ⟨-, hj⟩, hs5, hm5⟩
            have hj := hj (by omega)
            have hP := Lib.hid (hP.out.on hs5 hm5)
            clear hs5 hm5
            have hmy := draw_Many (12 + j) w5 (by omega)
            rw [show ((12 + j : Nat) : Int) = 12 + (j : Int) by omega] at hmy
            have hmy := Lib.hid hmy
            go_wp2_with fail
            refine hmy.out.mono ?_
            rintro e w6 ⟨⟨ma, ml, mc⟩, C', rfl, hslm, hlm, hbm⟩
            have hX6 := blkN_below hbm hP.out.z.r
            have r0 := (Lib.cell_of_heap hX6 0).trans rfl
            have r1 := (Lib.cell_of_heap hX6 1).trans rfl
            have r2 := (Lib.cell_of_heap hX6 2).trans rfl
            have r3 := (Lib.cell_of_heap hX6 3).trans rfl
            have f0 := Lib.frozen_of_heap hX6 0
            have f1 := Lib.frozen_of_heap hX6 1
            have f2 := Lib.frozen_of_heap hX6 2
            have f3 := Lib.frozen_of_heap hX6 3
            have HSl := Lib.hid hslm
            have hqw : w.heap.size < w5.heap.size := (Array.getElem?_eq_some_iff.1 hP.out.z.r).1
            have hS6 := Lib.hid ((hP.out.z.s.below hbm).mono (show A + 30 + 2 + 2 ≤ A + 60 by omega))
            have hM6 := Lib.hid (hP.out.z.m.then hbm)
            have hl6 : 2 ≤ C'.length ∧ C'.length ≤ 13 := by omega
            have Hl6 := Lib.hid hl6
            clear hslm hlm hbm hX6 hmy hl6
            simp only [ZoneR.cells, SV.v] at HSl ⊢
            go_wp2
            exact bodyPost_ret (v := .agg #[.int .i64 2, .int .i64 0, .int .i64 0, .slice ma ml mc]) (by simp [results, Tryd.results35, go_sem, r0, r1, r2, r3]) rfl ⟨⟨2, 0, 0⟩, ⟨ma, ml, mc⟩, C', rfl, slw_wide (lo := w5.heap.size) (hi := w6.heap.size) (set4 HSl.out hqw _ _ _ _) (Nat.le_of_lt hqw) (by simp), Hl6.out, src4 hS6.out (by have := hP.out.o; omega) _ _ _ _, mod4 hM6.out (Nat.le_refl _) _ _ _ _⟩
          · have t4 : ((k : Int) == 4) = false := by rw [beq_eq_false_iff_ne]; omega
            by_cases k5 : k = 5
            · have t5 : ((k : Int) == 5) = true := by rw [beq_iff_eq]; omega
              have hc := hP.out.c
              obtain ⟨g, o, hgo⟩ : ∃ g o, sa = some ⟨g, o, none⟩ := by obtain ⟨a, cp, hv, _, hh⟩ := hc.1; obtain ⟨g, o, ha, _⟩ := hh (by omega); cases hv; exact ⟨g, o, ha⟩
              subst hgo
              obtain ⟨n, hn⟩ : ∃ n, C.length = n := ⟨_, rfl⟩
              obtain rfl : n = sl := by obtain ⟨a, cp, hv, _⟩ := hc.1; rw [hn] at hv; cases hv; rfl
              have hg : lo ≤ g ∧ g < p := by
                obtain ⟨a, cp, hv, _, hh⟩ := hc.1
                obtain ⟨g', o', ha, h1, h2, _⟩ := hh (by omega)
                cases hv; cases ha
                exact ⟨h1, h2⟩
              have hn0 : 0 < n := by omega
              have hn1' : 1 < n := by omega
              have hn1 : (0 : Int) < (n : Int) := by omega
              have hn3 : (1 : Int) < (n : Int) := by omega
              have c3 := (Lib.cell_of_heap hP.out.z.z 3).trans rfl
              simp only [SV.v] at c3
              have hc0 : 0 < C.length := by omega
              have hc1 : 1 < C.length := by omega
              obtain ⟨d0, d1⟩ := Pnts.at hc.1.get hc0
              simp only [Nat.zero_mul, Nat.add_zero] at d0 d1
              obtain ⟨c0x, hc0x⟩ : ∃ c, C[0] = c := ⟨_, rfl⟩
              obtain ⟨c1x, hc1x⟩ : ∃ c, C[1] = c := ⟨_, rfl⟩
              rw [hc0x] at d0 d1
              have hpw := (Array.getElem?_eq_some_iff.1 hP.out.z.z).1
              have Hn := Lib.hid hn
              have hb5 := (Below.refl w4.heap.size w4).alloc (Nat.le_refl _) (.cells #[.int .i64 c0x.x, .int .i64 c0x.y] 26 (0, 0))
              have hP5 := Lib.hid (hP.out.up hb5)
              have hA5 := Lib.hid (blkN_new w4 (.cells #[.int .i64 c0x.x, .int .i64 c0x.y] 26 (0, 0)))
              clear hc hn hb5
              obtain ⟨a0, a1⟩ := c0x
              obtain ⟨b0, b1⟩ := c1x
              dsimp only at *
              go_wp2_with fail
              generalize w4.alloc (.cells #[.int .i64 a0, .int .i64 a1] 26 (0, 0)) = w5 at *
              obtain ⟨ab, hab⟩ : ∃ ab, w4.heap.size = ab := ⟨_, rfl⟩
              rw [hab] at hA5 hpw ⊢
              clear hab
              have hgp : g < p := hg.2
              have hga : g ≠ ab := by omega
              have hpg : p ≠ g := by omega
              have hqg : w.heap.size ≠ g := by have := hP5.out.o; omega
              have c3 := (Lib.cell_of_heap hP5.out.z.z 3).trans rfl
              simp only [SV.v] at c3
              obtain ⟨d0, d1⟩ := Pnts.at hP5.out.c.1.get hc0
              obtain ⟨e0, e1⟩ := Pnts.at hP5.out.c.1.get hc1
              rw [hc0x] at d0 d1
              rw [hc1x] at e0 e1
              simp only [Nat.zero_mul, Nat.add_zero, Nat.one_mul] at d0 d1 e0 e1
              have y0 := hP5.out.c.2 hc0 g o n sc rfl o
              have y1 := hP5.out.c.2 hc0 g o n sc rfl (o + 1)
              have y2 := hP5.out.c.2 hc0 g o n sc rfl (o + 2)
              have y3 := hP5.out.c.2 hc0 g o n sc rfl (o + 2 + 1)
              refine region_ph 7 (fun w' => ∀ o', w'.cell? ⟨p, o', none⟩ = w5.cell? ⟨p, o', none⟩) (fun w' => ∀ o', w'.cell? ⟨g, o', none⟩ = w5.cell? ⟨g, o', none⟩) (by kernel_rfl) (fun _ => rfl) (fun _ => rfl) (fun hp' => ?_)
              have hp2 := hp
              clear hp
              have hp := hp'
              refine take_ph 50 (i := 0) rfl rfl (by decide) (by kernel_rfl) (by kernel_rfl) (by kernel_rfl) (fun _ _ _ h => h) (by rfl) (fun w hSw => by (try dsimp only at hSw); go_simp; first | done | with_reducible rfl) hp (fun hp => ?_)
              try simp only [Act.put, List.setIfInBounds_toArray, List.set_cons_zero, List.set_cons_succ]
              refine take_ph 51 (i := 1) rfl rfl (by decide) (by kernel_rfl) (by kernel_rfl) (by kernel_rfl) (fun _ _ _ h => h) (by rfl) (fun w hSw => by (try dsimp only at hSw); go_simp; first | done | with_reducible rfl) hp (fun hp => ?_)
              try simp only [Act.put, List.setIfInBounds_toArray, List.set_cons_zero, List.set_cons_succ]
              refine take_ph 52 (i := 2) rfl rfl (by decide) (by kernel_rfl) (by kernel_rfl) (by kernel_rfl) (fun _ _ _ h => h) (by rfl) (fun w hSw => by (try dsimp only at hSw); go_simp; first | done | with_reducible rfl) hp (fun hp => ?_)
              try simp only [Act.put, List.setIfInBounds_toArray, List.set_cons_zero, List.set_cons_succ]
              refine take_ph 53 (i := 3) rfl rfl (by decide) (by kernel_rfl) (by kernel_rfl) (by kernel_rfl) (fun _ _ _ h => h) (by rfl) (fun w hSw => by (try dsimp only at hSw); go_simp; first | done | with_reducible rfl) hp (fun hp => ?_)
              try simp only [Act.put, List.setIfInBounds_toArray, List.set_cons_zero, List.set_cons_succ]
              refine take_ph 54 (i := 4) rfl rfl (by decide) (by kernel_rfl) (by kernel_rfl) (by kernel_rfl) (fun _ _ _ h => h) (by rfl) (fun w hSw => by (try dsimp only at hSw); go_simp; first | done | with_reducible rfl) hp (fun hp => ?_)
              try simp only [Act.put, List.setIfInBounds_toArray, List.set_cons_zero, List.set_cons_succ]
              refine take_ph1 55 (i := 5) rfl rfl (by decide) (by rfl) (by kernel_rfl) (by kernel_rfl) (by kernel_rfl) (by kernel_rfl) (fun _ _ _ h => h) (by rfl) (fun w hSw hBw => by (try dsimp only at hSw hBw); go_simp; first | done | with_reducible rfl) hp (fun hp => ?_)
              try simp only [Act.put, List.setIfInBounds_toArray, List.set_cons_zero, List.set_cons_succ]
              refine take_ph 56 (i := 6) rfl rfl (by decide) (by kernel_rfl) (by kernel_rfl) (by kernel_rfl) (fun _ _ _ h => h) (by rfl) (fun w hSw => by (try dsimp only at hSw); go_simp; first | done | with_reducible rfl) hp (fun hp => ?_)
              try simp only [Act.put, List.setIfInBounds_toArray, List.set_cons_zero, List.set_cons_succ]
              refine AnyL.one (i := 7) (by kernel_rfl) rfl (fun K hK => ?_)
              go_simp
              have hPd := hP5.out.up (Below.refl w5.heap.size w5).drew
              have w0x := hPd.c.store1 (k := 0) (j := 0) (o := o) (u := .int .i64 b0) (x := ⟨b0, a1⟩) Pnt.len hc0 (by omega) (by rw [hc0x]; simp [Pnt.cells]) (by omega)
              have w1x := w0x.store1 (k := 0) (j := 1) (o := o + 1) (u := .int .i64 b1) (x := ⟨b0, b1⟩) Pnt.len (by simpa using hc0) (by omega) (by simp [Pnt.cells]) (by omega)
              have hP6 : ZC b (A + 30 + 2) p w.heap.size lo w kd st ea ⟨some ⟨g, o, none⟩, n, sc⟩ ((C.set 0 ⟨b0, a1⟩).set 0 ⟨b0, b1⟩) ((w5.drew.setCell ⟨g, o, none⟩ (.int .i64 b0)).setCell ⟨g, o + 1, none⟩ (.int .i64 b1)) :=
                ⟨⟨src_setV (src_setV hPd.z.s (by have := hP5.out.o; omega) _) (by have := hP5.out.o; omega) _, mod_setV (mod_setV hPd.z.m (by have := hP5.out.o; omega) _) (by have := hP5.out.o; omega) _, blk_offV (blk_offV hPd.z.r hqg _) hqg _, blk_offV (blk_offV hPd.z.z hpg _) hpg _⟩, w1x, hP5.out.o⟩
              refine hK.out _ _ (ph2 rfl (fun o' => ?_)) (fun hp => ?_)
              · exact World.cell?_of_block (a := ⟨p, o', none⟩) (hP6.z.z.trans hP5.out.z.z.symm)
              clear hK
              try simp only [Act.put, List.setIfInBounds_toArray, List.set_cons_zero, List.set_cons_succ]
              refine AnyL.done (by kernel_rfl) ?_ _
              (try simp only [Exit.then])
              clear hp
              have hP6 : ZC b (A + 30 + 2) p w.heap.size lo w kd st ea ⟨some ⟨g, o, none⟩, n, sc⟩ ((C.set 0 ⟨b0, a1⟩).set 0 ⟨b0, b1⟩) (((w5.setCell ⟨g, o, none⟩ (.int .i64 b0)).setCell ⟨g, o + 1, none⟩ (.int .i64 b1)).drew) := hP6
              have hA6 : (((w5.setCell ⟨g, o, none⟩ (.int .i64 b0)).setCell ⟨g, o + 1, none⟩ (.int .i64 b1)).drew).heap[ab]? = some (.cells #[.int .i64 a0, .int .i64 a1] 26 (0, 0)) := blk_offV (blk_offV (blkN_below (Below.refl w5.heap.size w5).drew hA5.out) (fun e => hga e.symm) _) (fun e => hga e.symm) _
              have HP6 := Lib.hid hP6
              have hl6 : ((C.set 0 ⟨b0, a1⟩).set 0 (⟨b0, b1⟩ : Pnt)).length = C.length := by simp only [List.length_set]
              have HA6 := Lib.hid hA6
              clear hP6 w0x w1x d0 d1 e0 e1 c3 y0 y1 y2 y3 hPd hA6
              generalize ((w5.setCell ⟨g, o, none⟩ (.int .i64 b0)).setCell ⟨g, o + 1, none⟩ (.int .i64 b1)).drew = w6 at *
              generalize (C.set 0 ⟨b0, a1⟩).set 0 (⟨b0, b1⟩ : Pnt) = C6 at *
              have hc61 : 1 < C6.length := by omega
              obtain ⟨e0, e1⟩ := Pnts.at HP6.out.c.1.get hc61
              simp only [Nat.one_mul] at e0 e1
              have y2 := HP6.out.c.2 (by omega) g o n sc rfl (o + 2)
              have y3 := HP6.out.c.2 (by omega) g o n sc rfl (o + 3)
              have e3 : w6.cell? ⟨g, o + 3, none⟩ = some (.int .i64 C6[1].y) := e1
              have x0 := (Lib.cell_of_heap HA6.out 0).trans rfl
              have x1 := (Lib.cell_of_heap HA6.out 1).trans rfl
              have w0y := HP6.out.c.store1 (k := 1) (j := 0) (o := o + 2) (u := .int .i64 a0) (x := ⟨a0, C6[1].y⟩) Pnt.len hc61 (by omega) (by simp [Pnt.cells]) (by omega)
              have w1y := w0y.store1 (k := 1) (j := 1) (o := o + 3) (u := .int .i64 a1) (x := ⟨a0, a1⟩) Pnt.len (by simpa using hc61) (by omega) (by simp [Pnt.cells]) (by omega)
              have hP7 : ZC b (A + 30 + 2) p w.heap.size lo w kd st ea ⟨some ⟨g, o, none⟩, n, sc⟩ ((C6.set 1 ⟨a0, C6[1].y⟩).set 1 ⟨a0, a1⟩) ((w6.setCell ⟨g, o + 2, none⟩ (.int .i64 a0)).setCell ⟨g, o + 3, none⟩ (.int .i64 a1)) :=
                ⟨⟨src_setV (src_setV HP6.out.z.s (by have := hP5.out.o; omega) _) (by have := hP5.out.o; omega) _, mod_setV (mod_setV HP6.out.z.m (by have := hP5.out.o; omega) _) (by have := hP5.out.o; omega) _, blk_offV (blk_offV HP6.out.z.r hqg _) hqg _, blk_offV (blk_offV HP6.out.z.z hpg _) hpg _⟩, w1y, hP5.out.o⟩
              have hD := Lib.hid (hP7.done (A' := A + 60) (by omega) (by simp only [List.length_set]; omega))
              have hpg2 : g ≠ p := fun e => hpg e.symm
              have hqg2 : g ≠ w.heap.size := fun e => hqg e.symm
              clear hP7 w0y w1y
              have c0 := (Lib.cell_of_heap HP6.out.z.z 0).trans rfl
              have c1 := (Lib.cell_of_heap HP6.out.z.z 1).trans rfl
              have c2 := (Lib.cell_of_heap HP6.out.z.z 2).trans rfl
              have c3 := (Lib.cell_of_heap HP6.out.z.z 3).trans rfl
              have g0 := Lib.frozen_of_heap HP6.out.z.z 0
              have g1 := Lib.frozen_of_heap HP6.out.z.z 1
              have g2 := Lib.frozen_of_heap HP6.out.z.z 2
              have g3 := Lib.frozen_of_heap HP6.out.z.z 3
              have r0 := (Lib.cell_of_heap HP6.out.z.r 0).trans rfl
              have r1 := (Lib.cell_of_heap HP6.out.z.r 1).trans rfl
              have r2 := (Lib.cell_of_heap HP6.out.z.r 2).trans rfl
              have r3 := (Lib.cell_of_heap HP6.out.z.r 3).trans rfl
              have f0 := Lib.frozen_of_heap HP6.out.z.r 0
              have f1 := Lib.frozen_of_heap HP6.out.z.r 1
              have f2 := Lib.frozen_of_heap HP6.out.z.r 2
              have f3 := Lib.frozen_of_heap HP6.out.z.r 3
              simp only [SV.v] at c3
              go_wp2
              exact bodyPost_ret (v := .agg #[.int .i64 kd, .int .i64 st, .int .i64 ea, .slice (some ⟨g, o, none⟩) n sc]) (by simp [results, Tryd.results35, go_sem, r0, r1, r2, r3]) rfl (hD.out _ _ _ _)
            · have t5 : ((k : Int) == 5) = false := by rw [beq_eq_false_iff_ne]; omega
              have c0 := (Lib.cell_of_heap hP.out.z.z 0).trans rfl
              have c1 := (Lib.cell_of_heap hP.out.z.z 1).trans rfl
              have c2 := (Lib.cell_of_heap hP.out.z.z 2).trans rfl
              have c3 := (Lib.cell_of_heap hP.out.z.z 3).trans rfl
              have g0 := Lib.frozen_of_heap hP.out.z.z 0
              have g1 := Lib.frozen_of_heap hP.out.z.z 1
              have g2 := Lib.frozen_of_heap hP.out.z.z 2
              have g3 := Lib.frozen_of_heap hP.out.z.z 3
              have r0 := (Lib.cell_of_heap hP.out.z.r 0).trans rfl
              have r1 := (Lib.cell_of_heap hP.out.z.r 1).trans rfl
              have r2 := (Lib.cell_of_heap hP.out.z.r 2).trans rfl
              have r3 := (Lib.cell_of_heap hP.out.z.r 3).trans rfl
              have f0 := Lib.frozen_of_heap hP.out.z.r 0
              have f1 := Lib.frozen_of_heap hP.out.z.r 1
              have f2 := Lib.frozen_of_heap hP.out.z.r 2
              have f3 := Lib.frozen_of_heap hP.out.z.r 3
              simp only [SV.v] at c3
              have hD := Lib.hid (hP.out.done (A' := A + 60) (by omega) hlen)
              go_wp2
              exact bodyPost_ret (v := .agg #[.int .i64 kd, .int .i64 st, .int .i64 ea, .slice sa sl sc]) (by simp [results, Tryd.results35, go_sem, r0, r1, r2, r3]) rfl (hD.out _ _ _ _)
end Go.Proofs.YtpabbehpkokhbaaDoor
