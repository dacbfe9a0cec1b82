/- Watch: its reading, and the laws' helpers. -/
import Derived.Test.YteakogdojmgehaaChecked
import Derived.Test.YteakogdojmgehaaOpen
import Derived.Test.YteakogdojmgehaaMark
namespace Go.Proofs.Yteakogdojmgehaa
open Go.RowKit Go.WideShapes Go.ChangeShapes
structure Wtc where
  margin : Int
  lost : Int
deriving DecidableEq

def Wtc.cells (x : Wtc) : List Value := [.int .i64 x.margin, .int .i64 x.lost]
abbrev Wtcs := Sl 2 Wtc.cells
theorem Wtc.len (x : Wtc) : x.cells.length = 2 := rfl
theorem Wtcs.at {w : World} {b off : Nat} {l : List Wtc} (hc : ∀ i (h : i < l.length) j u, (Wtc.cells l[i])[j]? = some u → w.cell? ⟨b, off + i * 2 + j, none⟩ = some u) {k : Nat} (hk : k < l.length) :
    w.cell? ⟨b, off + k * 2, none⟩ = some (.int .i64 l[k].margin) ∧ w.cell? ⟨b, off + k * 2 + 1, none⟩ = some (.int .i64 l[k].lost) :=
  ⟨hc k hk 0 _ rfl, hc k hk 1 _ rfl⟩
def Wtc.wf (x : Wtc) : Prop := I64 x.margin ∧ I64 x.lost
instance : Inhabited Wtc := ⟨⟨0, 0⟩⟩
theorem cellsOf_Watch : Try.prog.cellsOf 46 = 2 := by kernel_rfl
theorem cellsOf_Watch_int : Try.prog.cellsOf 2 = 1 := by kernel_rfl
theorem open_Watch {H : Type} {enc : TypeId × Value → H} {W : World} {base : Nat} {spare : Nat → Bool} {held : Bool} (fuel : Nat) (cs : List Value) (y : DataW H × List MemPlace) (hy : DataW.trod enc Try.prog W base spare held fuel 46 cs = some y) :
    ∃ x : Wtc, cs = x.cells ∧ x.wf := by
  obtain ⟨xs, n, rfl, rfl, hl, hxs, hf⟩ := DataW.trod_struct Try.underlying46 hy
  rw [cellsOf_Watch] at hl
  have hxs' : xs.length = 2 := hxs
  obtain ⟨x0, e0, w0⟩ := field_int (m := 0) (i := 0) (by omega) Try.underlying2 cellsOf_Watch_int (hf 0 _ rfl) rfl
  obtain ⟨x1, e1, w1⟩ := field_int (m := 1) (i := 1) (by omega) Try.underlying2 cellsOf_Watch_int (hf 1 _ rfl) rfl
  refine ⟨⟨x0, x1⟩, ?_, i64_of_wf w0, i64_of_wf w1⟩
  refine List.ext_getElem? fun i => ?_
  match i with
  | 0 => exact e0
  | 1 => exact e1
  | i + 2 => rw [List.getElem?_eq_none (by omega), List.getElem?_eq_none (by simp [Wtc.cells])]
set_option maxRecDepth 100000 in
theorem open_AWatch {H : Type} {enc : TypeId × Value → H} {W : World} {base : Nat} {v : Value} {d : DataW H} {p : List MemPlace} (hv : Value.okWide Try.prog W .any base 46 v)
    (h : DataW.Trod enc Try.prog W 0 (fun _ => true) true 46 v d p) (_hlt : ∀ x ∈ p, x.block < W.heap.size) : ∃ x : Wtc, v = .agg x.cells.toArray ∧ x.wf := by
  obtain ⟨cs, rfl, _⟩ := okWide_struct Try.underlying46 hv
  obtain ⟨fuel, hf⟩ := h
  obtain ⟨x, hx, hw⟩ := open_Watch fuel _ _ hf
  exact ⟨x, by rw [← hx]; simp [Value.cells], hw⟩
set_option maxHeartbeats 1000000 in
theorem law_toWatch (x : Wtc) (w : World) :
    Calls Try.prog 26 #[.agg x.cells.toArray] w fun e w' => e = .returned (.agg x.cells.toArray) ∧ Below w.heap.size w w' := by
  obtain ⟨x0, x1⟩ := x
  simp only [Wtc.cells]
  go_enter Try.func26, Try.ntmps26
  go_wp2
  exact bodyPost_ret (v := .agg #[.int .i64 x0, .int .i64 x1]) (by simp [results, Try.results26, go_sem]) rfl ⟨rfl, by
    refine (((Below.refl _ _).alloc (Nat.le_refl _) _).alloc (by simp) _).alloc (by simp; omega) _⟩
end Go.Proofs.Yteakogdojmgehaa
