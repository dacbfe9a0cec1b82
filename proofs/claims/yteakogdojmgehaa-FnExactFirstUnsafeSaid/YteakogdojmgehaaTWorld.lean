/- World: its reading, and the laws' helpers. -/
import Derived.Test.YteakogdojmgehaaChecked
import Derived.Test.YteakogdojmgehaaOpen
import Derived.Test.YteakogdojmgehaaMark
namespace Go.Proofs.Yteakogdojmgehaa
open Go.RowKit Go.WideShapes Go.ChangeShapes
structure Wld where
  a : Int
  b : Int
  seenA : Int
  seenB : Int
  ageA : Int
  ageB : Int
deriving DecidableEq

def Wld.cells (x : Wld) : List Value := [.int .i64 x.a, .int .i64 x.b, .int .i64 x.seenA, .int .i64 x.seenB, .int .i64 x.ageA, .int .i64 x.ageB]
abbrev Wlds := Sl 6 Wld.cells
theorem Wld.len (x : Wld) : x.cells.length = 6 := rfl
theorem Wlds.at {w : World} {b off : Nat} {l : List Wld} (hc : ∀ i (h : i < l.length) j u, (Wld.cells l[i])[j]? = some u → w.cell? ⟨b, off + i * 6 + j, none⟩ = some u) {k : Nat} (hk : k < l.length) :
    w.cell? ⟨b, off + k * 6, none⟩ = some (.int .i64 l[k].a) ∧ w.cell? ⟨b, off + k * 6 + 1, none⟩ = some (.int .i64 l[k].b) ∧ w.cell? ⟨b, off + k * 6 + 2, none⟩ = some (.int .i64 l[k].seenA) ∧ w.cell? ⟨b, off + k * 6 + 3, none⟩ = some (.int .i64 l[k].seenB) ∧ w.cell? ⟨b, off + k * 6 + 4, none⟩ = some (.int .i64 l[k].ageA) ∧ w.cell? ⟨b, off + k * 6 + 5, none⟩ = some (.int .i64 l[k].ageB) :=
  ⟨hc k hk 0 _ rfl, hc k hk 1 _ rfl, hc k hk 2 _ rfl, hc k hk 3 _ rfl, hc k hk 4 _ rfl, hc k hk 5 _ rfl⟩
def Wld.wf (x : Wld) : Prop := I64 x.a ∧ I64 x.b ∧ I64 x.seenA ∧ I64 x.seenB ∧ I64 x.ageA ∧ I64 x.ageB
instance : Inhabited Wld := ⟨⟨0, 0, 0, 0, 0, 0⟩⟩
theorem cellsOf_World : Try.prog.cellsOf 48 = 6 := by kernel_rfl
theorem cellsOf_World_int : Try.prog.cellsOf 2 = 1 := by kernel_rfl
theorem open_World {H : Type} {enc : TypeId × Value → H} {W : World} {base : Nat} {spare : Nat → Bool} {held : Bool} (fuel : Nat) (cs : List Value) (y : DataW H × List MemPlace) (hy : DataW.trod enc Try.prog W base spare held fuel 48 cs = some y) :
    ∃ x : Wld, cs = x.cells ∧ x.wf := by
  obtain ⟨xs, n, rfl, rfl, hl, hxs, hf⟩ := DataW.trod_struct Try.underlying48 hy
  rw [cellsOf_World] at hl
  have hxs' : xs.length = 6 := hxs
  obtain ⟨x0, e0, w0⟩ := field_int (m := 0) (i := 0) (by omega) Try.underlying2 cellsOf_World_int (hf 0 _ rfl) rfl
  obtain ⟨x1, e1, w1⟩ := field_int (m := 1) (i := 1) (by omega) Try.underlying2 cellsOf_World_int (hf 1 _ rfl) rfl
  obtain ⟨x2, e2, w2⟩ := field_int (m := 2) (i := 2) (by omega) Try.underlying2 cellsOf_World_int (hf 2 _ rfl) rfl
  obtain ⟨x3, e3, w3⟩ := field_int (m := 3) (i := 3) (by omega) Try.underlying2 cellsOf_World_int (hf 3 _ rfl) rfl
  obtain ⟨x4, e4, w4⟩ := field_int (m := 4) (i := 4) (by omega) Try.underlying2 cellsOf_World_int (hf 4 _ rfl) rfl
  obtain ⟨x5, e5, w5⟩ := field_int (m := 5) (i := 5) (by omega) Try.underlying2 cellsOf_World_int (hf 5 _ rfl) rfl
  refine ⟨⟨x0, x1, x2, x3, x4, x5⟩, ?_, i64_of_wf w0, i64_of_wf w1, i64_of_wf w2, i64_of_wf w3, i64_of_wf w4, i64_of_wf w5⟩
  refine List.ext_getElem? fun i => ?_
  match i with
  | 0 => exact e0
  | 1 => exact e1
  | 2 => exact e2
  | 3 => exact e3
  | 4 => exact e4
  | 5 => exact e5
  | i + 6 => rw [List.getElem?_eq_none (by omega), List.getElem?_eq_none (by simp [Wld.cells])]
set_option maxRecDepth 100000 in
theorem open_AWorld {H : Type} {enc : TypeId × Value → H} {W : World} {base : Nat} {v : Value} {d : DataW H} {p : List MemPlace} (hv : Value.okWide Try.prog W .any base 48 v)
    (h : DataW.Trod enc Try.prog W 0 (fun _ => true) true 48 v d p) (_hlt : ∀ x ∈ p, x.block < W.heap.size) : ∃ x : Wld, v = .agg x.cells.toArray ∧ x.wf := by
  obtain ⟨cs, rfl, _⟩ := okWide_struct Try.underlying48 hv
  obtain ⟨fuel, hf⟩ := h
  obtain ⟨x, hx, hw⟩ := open_World fuel _ _ hf
  exact ⟨x, by rw [← hx]; simp [Value.cells], hw⟩
set_option maxHeartbeats 1000000 in
theorem law_toWorld (x : Wld) (w : World) :
    Calls Try.prog 27 #[.agg x.cells.toArray] w fun e w' => e = .returned (.agg x.cells.toArray) ∧ Below w.heap.size w w' := by
  obtain ⟨x0, x1, x2, x3, x4, x5⟩ := x
  simp only [Wld.cells]
  go_enter Try.func27, Try.ntmps27
  go_wp2
  exact bodyPost_ret (v := .agg #[.int .i64 x0, .int .i64 x1, .int .i64 x2, .int .i64 x3, .int .i64 x4, .int .i64 x5]) (by simp [results, Try.results27, go_sem]) rfl ⟨rfl, by
    refine (((Below.refl _ _).alloc (Nat.le_refl _) _).alloc (by simp) _).alloc (by simp; omega) _⟩
end Go.Proofs.Yteakogdojmgehaa
