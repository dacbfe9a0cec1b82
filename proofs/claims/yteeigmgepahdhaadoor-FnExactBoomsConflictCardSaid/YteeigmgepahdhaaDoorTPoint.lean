/- Point: its reading, and the laws' helpers. -/
import Derived.Test.YteeigmgepahdhaaDoorChecked
import Derived.Test.YteeigmgepahdhaaDoorOpen
import Derived.Test.YteeigmgepahdhaaDoorMark
namespace Go.Proofs.YteeigmgepahdhaaDoor
open Go.RowKit Go.WideShapes Go.ChangeShapes
structure Pnt where
  x : Int
  y : Int
deriving DecidableEq

def Pnt.cells (x : Pnt) : List Value := [.int .i64 x.x, .int .i64 x.y]
abbrev Pnts := Sl 2 Pnt.cells
theorem Pnt.len (x : Pnt) : x.cells.length = 2 := rfl
theorem Pnts.at {w : World} {b off : Nat} {l : List Pnt} (hc : ∀ i (h : i < l.length) j u, (Pnt.cells l[i])[j]? = some u → w.cell? ⟨b, off + i * 2 + j, none⟩ = some u) {k : Nat} (hk : k < l.length) :
    w.cell? ⟨b, off + k * 2, none⟩ = some (.int .i64 l[k].x) ∧ w.cell? ⟨b, off + k * 2 + 1, none⟩ = some (.int .i64 l[k].y) :=
  ⟨hc k hk 0 _ rfl, hc k hk 1 _ rfl⟩
def Pnt.wf (x : Pnt) : Prop := I64 x.x ∧ I64 x.y
instance : Inhabited Pnt := ⟨⟨0, 0⟩⟩
theorem cellsOf_Point : Tryd.prog.cellsOf 48 = 2 := by kernel_rfl
theorem cellsOf_Point_int : Tryd.prog.cellsOf 2 = 1 := by kernel_rfl
theorem open_Point {H : Type} {enc : TypeId × Value → H} {W : World} {base : Nat} {spare : Nat → Bool} {held : Bool} (fuel : Nat) (cs : List Value) (y : DataW H × List MemPlace) (hy : DataW.trod enc Tryd.prog W base spare held fuel 48 cs = some y) :
    ∃ x : Pnt, cs = x.cells ∧ x.wf := by
  obtain ⟨xs, n, rfl, rfl, hl, hxs, hf⟩ := DataW.trod_struct Tryd.underlying48 hy
  rw [cellsOf_Point] at hl
  have hxs' : xs.length = 2 := hxs
  obtain ⟨x0, e0, w0⟩ := field_int (m := 0) (i := 0) (by omega) Tryd.underlying2 cellsOf_Point_int (hf 0 _ rfl) rfl
  obtain ⟨x1, e1, w1⟩ := field_int (m := 1) (i := 1) (by omega) Tryd.underlying2 cellsOf_Point_int (hf 1 _ rfl) rfl
  refine ⟨⟨x0, x1⟩, ?_, i64_of_wf w0, i64_of_wf w1⟩
  refine List.ext_getElem? fun i => ?_
  match i with
  | 0 => exact e0
  | 1 => exact e1
  | i + 2 => rw [List.getElem?_eq_none (by omega), List.getElem?_eq_none (by simp [Pnt.cells])]
set_option maxRecDepth 100000 in
theorem open_APoint {H : Type} {enc : TypeId × Value → H} {W : World} {base : Nat} {v : Value} {d : DataW H} {p : List MemPlace} (hv : Value.okWide Tryd.prog W .any base 48 v)
    (h : DataW.Trod enc Tryd.prog W 0 (fun _ => true) true 48 v d p) (_hlt : ∀ x ∈ p, x.block < W.heap.size) : ∃ x : Pnt, v = .agg x.cells.toArray ∧ x.wf := by
  obtain ⟨cs, rfl, _⟩ := okWide_struct Tryd.underlying48 hv
  obtain ⟨fuel, hf⟩ := h
  obtain ⟨x, hx, hw⟩ := open_Point fuel _ _ hf
  exact ⟨x, by rw [← hx]; simp [Value.cells], hw⟩
set_option maxHeartbeats 1000000 in
theorem law_toPoint (x : Pnt) (w : World) :
    Calls Tryd.prog 44 #[.agg x.cells.toArray] w fun e w' => e = .returned (.agg x.cells.toArray) ∧ Below w.heap.size w w' := by
  obtain ⟨x0, x1⟩ := x
  simp only [Pnt.cells]
  go_enter Tryd.func44, Tryd.ntmps44
  go_wp2
  exact bodyPost_ret (v := .agg #[.int .i64 x0, .int .i64 x1]) (by simp [results, Tryd.results44, go_sem]) rfl ⟨rfl, by
    refine (((Below.refl _ _).alloc (Nat.le_refl _) _).alloc (by simp) _).alloc (by simp; omega) _⟩
set_option maxHeartbeats 1000000 in
theorem law_eqPoint (x : Pnt) (w : World) :
    Calls Tryd.prog 46 #[.agg x.cells.toArray, .agg x.cells.toArray] w fun e w' => e = .returned (.bool true) ∧ Below w.heap.size w w' := by
  obtain ⟨x0, x1⟩ := x
  simp only [Pnt.cells]
  go_enter Tryd.func46, Tryd.ntmps46
  go_wp2
  go_ret
  exact ⟨rfl, ((Below.refl _ _).alloc (Nat.le_refl _) _).alloc (by simp) _⟩
end Go.Proofs.YteeigmgepahdhaaDoor
