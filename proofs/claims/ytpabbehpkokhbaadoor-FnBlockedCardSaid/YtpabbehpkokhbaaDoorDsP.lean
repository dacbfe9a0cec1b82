/- The draws of places; what else the draws share. -/
import Derived.Test.YtpabbehpkokhbaaDoorPlP
import Derived.Test.YtpabbehpkokhbaaDoorSrc
import Derived.Test.YtpabbehpkokhbaaDoorOwn
import Derived.Handy
namespace Go.Proofs.YtpabbehpkokhbaaDoor
open Go.RowKit
theorem Mod.onV {lo hi : Nat} {w a a' : World} (h : Mod lo hi w a) (hb : Below w.heap.size a a') : Mod lo hi w a' :=
  ⟨hb.os.trans h.os, hb.tape.trans h.tape, hb.output.trans h.output, Nat.le_trans h.size hb.size, fun k hk ho => (hb.block k hk).trans (h.block k hk ho)⟩
theorem src_setV {b A q j : Nat} {w : World} (h : Src b A w) (hq : b + 1 ≤ q) (v : Value) : Src b A (w.setCell ⟨q, j, none⟩ v) := h.lo ((Below.refl (b + 1) w).setCell (p := ⟨q, j, none⟩) hq v) (Nat.le_refl _)
theorem mod_setV {b q j : Nat} {w w' : World} (h : Mod b (b + 1) w w') (hq : w.heap.size ≤ q) (v : Value) : Mod b (b + 1) w (w'.setCell ⟨q, j, none⟩ v) := h.onV ((Below.refl w.heap.size w').setCell (p := ⟨q, j, none⟩) hq v)
theorem blk_offV {p q j : Nat} {w : World} {o : Obj} (h : w.heap[p]? = some o) (hq : p ≠ q) (v : Value) : (w.setCell ⟨q, j, none⟩ v).heap[p]? = some o := (Below.heap_setCell w ⟨q, j, none⟩ v p hq).trans h
theorem blk_onV {q j : Nat} {w : World} {cs cs' : Array Value} {T : TypeId} {fz : Nat × Nat} (h : w.heap[q]? = some (.cells cs T fz)) {v : Value} (hc : cs' = cs.setIfInBounds j v) : (w.setCell ⟨q, j, none⟩ v).heap[q]? = some (.cells cs' T fz) := by
  subst hc
  simp [World.setCell, Array.getElem?_modify, h]
theorem blk_modV {b p : Nat} {w w' : World} {o : Obj} (h : w.heap[p]? = some o) (hm : Mod b (b + 1) w w') (hp : b < p) : w'.heap[p]? = some o := (hm.block p (Array.getElem?_eq_some_iff.1 h).1 (by omega)).trans h
def PtOutV (b A : Nat) (w : World) (e : Ending) (w' : World) : Prop := ∃ x y : Int, e = .returned (.agg #[.int .i64 x, .int .i64 y]) ∧ (-600 ≤ x ∧ x ≤ 600) ∧ (-600 ≤ y ∧ y ≤ 600) ∧ Src b A w' ∧ Mod b (b + 1) w w'
set_option maxRecDepth 100000 in
set_option maxHeartbeats 4000000 in
theorem draw_PtV (b A : Nat) (w : World) (h : Src b A w) (hA : A ≤ 100000) : Calls Tryd.prog 53 #[.pointer (some ⟨b, 0, none⟩)] w (PtOutV b (A + 4) w) := by
  have hp := Lib.hid (fun A w' h hA n hn => src_pick b A n w' h hA hn)
  have hbl := h.lt
  have hb0 := (Below.refl w.heap.size w).alloc (Nat.le_refl _) (.cells #[.int .i64 0, .int .i64 0] 26 (0, 0))
  have hS1 := Lib.hid (h.below hb0)
  have hM1 := Lib.hid (Mod.of_below (lo := b) (hi := b + 1) hb0)
  have hX1 : Hid ((w.alloc (.cells #[.int .i64 0, .int .i64 0] 26 (0, 0))).heap[w.heap.size]? = some (.cells #[.int .i64 0, .int .i64 0] 26 (0, 0))) := Lib.hid Array.getElem?_push_size
  clear h hb0
  go_enter Tryd.func53, Tryd.ntmps53
  go_wp2_with fail
  refine (hp.out A _ hS1.out (by omega) 1201 (by omega)).mono ?_
  rintro e w2 ⟨x, rfl, ⟨_, hx⟩, hs2, hm2⟩
  have hx := hx (by omega)
  have hS2 := Lib.hid hs2
  have hM2 := Lib.hid (hM1.out.trans hm2)
  have hX2 := Lib.hid (blk_modV hX1.out hm2 hbl)
  clear hs2 hm2 hS1 hM1 hX1
  go_wp2_with fail
  refine (hp.out _ _ hS2.out (by omega) 1201 (by omega)).mono ?_
  rintro e w3 ⟨y, rfl, ⟨_, hy⟩, hs3, hm3⟩
  have hy := hy (by omega)
  have hS3 := Lib.hid hs3
  have hM3 := Lib.hid (hM2.out.trans hm3)
  have hX3 := blk_modV hX2.out hm3 hbl
  have r0 := (Lib.cell_of_heap hX3 0).trans rfl
  have r1 := (Lib.cell_of_heap hX3 1).trans rfl
  have f0 := Lib.frozen_of_heap hX3 0
  have f1 := Lib.frozen_of_heap hX3 1
  have z3 := (Array.getElem?_eq_some_iff.1 hX3).1
  clear hs3 hm3 hS2 hM2 hX2 hX3
  go_wp2
  exact bodyPost_ret (v := .agg #[.int .i64 (x - 600), .int .i64 (y - 600)]) (by simp [results, Tryd.results53, go_sem, r0, r1]) rfl ⟨_, _, rfl, by omega, by omega, src_setV (src_setV hS3.out (by omega) _) (by omega) _, mod_setV (mod_setV hM3.out (by omega) _) (by omega) _⟩
end Go.Proofs.YtpabbehpkokhbaaDoor
