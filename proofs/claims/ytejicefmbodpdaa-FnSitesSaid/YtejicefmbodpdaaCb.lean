/- A box of one cell. No program in sight. -/
import Derived.Test.YtejicefmbodpdaaNS
namespace Go.Proofs.Ytejicefmbodpdaa
open Go.RowKit
/-- A box of one cell. -/
structure Cb (p : Nat) (w : World) (v : Value) : Prop where
  c : w.cell? ⟨p, 0, none⟩ = some v
  f : ∀ j, w.frozen? ⟨p, j, none⟩ = false
theorem Cb.below {p B : Nat} {w w' : World} {v : Value} (h : Cb p w v) (hb : Below B w w') (hp : p < B) : Cb p w' v := ⟨(hb.cell (p := ⟨p, 0, none⟩) hp).trans h.c, fun j => (hb.frozen (p := ⟨p, j, none⟩) hp).trans (h.f j)⟩
theorem Cb.lt {p : Nat} {w : World} {v : Value} (h : Cb p w v) : p < w.heap.size := World.block_lt_of_cell? w _ h.c
theorem Cb.ext {p : Nat} {w w' : World} {v : Value} (h : Cb p w v) (hb : Below w.heap.size w w') : Cb p w' v := h.below hb h.lt
theorem Cb.mod {p lo hi : Nat} {w w' : World} {v : Value} (h : Cb p w v) (hm : Mod lo hi w w') (hp : p < lo ∨ hi ≤ p) : Cb p w' v :=
  ⟨(World.cell?_of_block (hm.block p h.lt hp)).trans h.c, fun j => (World.frozen?_of_block (a := ⟨p, j, none⟩) (hm.block p h.lt hp)).trans (h.f j)⟩
theorem Cb.new (w : World) (v : Value) (t : TypeId) : Cb w.heap.size (w.alloc (.cells #[v] t)) v := ⟨(Lib.cell_of_heap (blkN_new _ _) 0).trans rfl, fun j => Lib.frozen_of_heap (blkN_new _ _) j⟩
theorem Cb.put {p : Nat} {w : World} {v : Value} (h : Cb p w v) (u : Value) : Cb p (w.setCell ⟨p, 0, none⟩ u) u := ⟨World.cell?_setCell_same _ _ _ h.c, fun j => by rw [World.frozen?_setCell]; exact h.f j⟩
theorem Cb.far {p q : Nat} {w : World} {v : Value} (h : Cb p w v) (u : Value) (hq : q ≠ p) : Cb p (w.setCell ⟨q, 0, none⟩ u) v := ⟨(World.cell?_setCell_far _ _ _ _ hq).trans h.c, fun j => by rw [World.frozen?_setCell]; exact h.f j⟩
end Go.Proofs.Ytejicefmbodpdaa
