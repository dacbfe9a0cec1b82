/- Speeds: its reading, and the laws' helpers. -/
import Derived.Test.YtimggihbldeleaaChecked
import Derived.Test.YtimggihbldeleaaOpen
import Derived.Test.YtimggihbldeleaaMark
namespace Go.Proofs.Ytimggihbldeleaa
open Go.RowKit Go.WideShapes Go.ChangeShapes
structure Spd where
  slew : Int
  trolley : Int
  hoist : Int
  hook : Int
deriving DecidableEq

def Spd.cells (x : Spd) : List Value := [.int .i64 x.slew, .int .i64 x.trolley, .int .i64 x.hoist, .int .i64 x.hook]
abbrev Spds := Sl 4 Spd.cells
theorem Spd.len (x : Spd) : x.cells.length = 4 := rfl
theorem Spds.at {w : World} {b off : Nat} {l : List Spd} (hc : ∀ i (h : i < l.length) j u, (Spd.cells l[i])[j]? = some u → w.cell? ⟨b, off + i * 4 + j, none⟩ = some u) {k : Nat} (hk : k < l.length) :
    w.cell? ⟨b, off + k * 4, none⟩ = some (.int .i64 l[k].slew) ∧ w.cell? ⟨b, off + k * 4 + 1, none⟩ = some (.int .i64 l[k].trolley) ∧ w.cell? ⟨b, off + k * 4 + 2, none⟩ = some (.int .i64 l[k].hoist) ∧ w.cell? ⟨b, off + k * 4 + 3, none⟩ = some (.int .i64 l[k].hook) :=
  ⟨hc k hk 0 _ rfl, hc k hk 1 _ rfl, hc k hk 2 _ rfl, hc k hk 3 _ rfl⟩
def Spd.wf (x : Spd) : Prop := I64 x.slew ∧ I64 x.trolley ∧ I64 x.hoist ∧ I64 x.hook
instance : Inhabited Spd := ⟨⟨0, 0, 0, 0⟩⟩
theorem cellsOf_Speeds : Try.prog.cellsOf 39 = 4 := by kernel_rfl
theorem cellsOf_Speeds_int : Try.prog.cellsOf 2 = 1 := by kernel_rfl
theorem open_Speeds {H : Type} {enc : TypeId × Value → H} {W : World} {base : Nat} {spare : Nat → Bool} {held : Bool} (fuel : Nat) (cs : List Value) (y : DataW H × List MemPlace) (hy : DataW.trod enc Try.prog W base spare held fuel 39 cs = some y) :
    ∃ x : Spd, cs = x.cells ∧ x.wf := by
  obtain ⟨xs, n, rfl, rfl, hl, hxs, hf⟩ := DataW.trod_struct Try.underlying39 hy
  rw [cellsOf_Speeds] at hl
  have hxs' : xs.length = 4 := hxs
  obtain ⟨x0, e0, w0⟩ := field_int (m := 0) (i := 0) (by omega) Try.underlying2 cellsOf_Speeds_int (hf 0 _ rfl) rfl
  obtain ⟨x1, e1, w1⟩ := field_int (m := 1) (i := 1) (by omega) Try.underlying2 cellsOf_Speeds_int (hf 1 _ rfl) rfl
  obtain ⟨x2, e2, w2⟩ := field_int (m := 2) (i := 2) (by omega) Try.underlying2 cellsOf_Speeds_int (hf 2 _ rfl) rfl
  obtain ⟨x3, e3, w3⟩ := field_int (m := 3) (i := 3) (by omega) Try.underlying2 cellsOf_Speeds_int (hf 3 _ rfl) rfl
  refine ⟨⟨x0, x1, x2, x3⟩, ?_, i64_of_wf w0, i64_of_wf w1, i64_of_wf w2, i64_of_wf w3⟩
  refine List.ext_getElem? fun i => ?_
  match i with
  | 0 => exact e0
  | 1 => exact e1
  | 2 => exact e2
  | 3 => exact e3
  | i + 4 => rw [List.getElem?_eq_none (by omega), List.getElem?_eq_none (by simp [Spd.cells])]
set_option maxRecDepth 100000 in
theorem open_ASpeeds {H : Type} {enc : TypeId × Value → H} {W : World} {base : Nat} {v : Value} {d : DataW H} {p : List MemPlace} (hv : Value.okWide Try.prog W .any base 39 v)
    (h : DataW.Trod enc Try.prog W 0 (fun _ => true) true 39 v d p) (_hlt : ∀ x ∈ p, x.block < W.heap.size) : ∃ x : Spd, v = .agg x.cells.toArray ∧ x.wf := by
  obtain ⟨cs, rfl, _⟩ := okWide_struct Try.underlying39 hv
  obtain ⟨fuel, hf⟩ := h
  obtain ⟨x, hx, hw⟩ := open_Speeds fuel _ _ hf
  exact ⟨x, by rw [← hx]; simp [Value.cells], hw⟩
set_option maxHeartbeats 1000000 in
theorem law_toSpeeds (x : Spd) (w : World) :
    Calls Try.prog 33 #[.agg x.cells.toArray] w fun e w' => e = .returned (.agg x.cells.toArray) ∧ Below w.heap.size w w' := by
  obtain ⟨x0, x1, x2, x3⟩ := x
  simp only [Spd.cells]
  go_enter Try.func33, Try.ntmps33
  go_wp2
  exact bodyPost_ret (v := .agg #[.int .i64 x0, .int .i64 x1, .int .i64 x2, .int .i64 x3]) (by simp [results, Try.results33, go_sem]) rfl ⟨rfl, by
    refine (((Below.refl _ _).alloc (Nat.le_refl _) _).alloc (by simp) _).alloc (by simp; omega) _⟩
set_option maxHeartbeats 1000000 in
theorem law_eqSpeeds (x : Spd) (w : World) :
    Calls Try.prog 17 #[.agg x.cells.toArray, .agg x.cells.toArray] w fun e w' => e = .returned (.bool true) ∧ Below w.heap.size w w' := by
  obtain ⟨x0, x1, x2, x3⟩ := x
  simp only [Spd.cells]
  go_enter Try.func17, Try.ntmps17
  go_wp2
  go_ret
  exact ⟨rfl, ((Below.refl _ _).alloc (Nat.le_refl _) _).alloc (by simp) _⟩
end Go.Proofs.Ytimggihbldeleaa
