/- The law on ValidFindings. -/
import Derived.Test.YtfnmmfopbfmkaaaHFnd
import Derived.Test.YtfnmmfopbfmkaaaOpen
namespace Go.Proofs.Ytfnmmfopbfmkaaa
open Go.RowKit Go.WideShapes Go.ChangeShapes

def Fnd.wf (x : Fnd) : Prop := I64 x.crane ∧ I64 x.day ∧ I64 x.grade ∧ I64 x.closed
instance : Inhabited Fnd := ⟨⟨0, 0, 0, 0⟩⟩
theorem cells_SFinding : Try.prog.cellsOf 74 = 4 := by kernel_rfl
theorem cells_i64 : Try.prog.cellsOf 2 = 1 := by kernel_rfl
theorem open_Finding {H : Type} {enc : TypeId × Value → H} {W : World} {base : Nat} {spare : Nat → Bool} {held : Bool} (fuel : Nat) (cs : List Value) (y : DataW H × List MemPlace) (hy : DataW.trod enc Try.prog W base spare held fuel 74 cs = some y) :
    ∃ x : Fnd, cs = x.cells ∧ x.wf := by
  obtain ⟨xs, n, rfl, rfl, hl, hxs, hf⟩ := DataW.trod_struct Try.underlying74 hy
  rw [cells_SFinding] at hl
  have hxs' : xs.length = 4 := hxs
  obtain ⟨x0, e0, w0⟩ := field_int (m := 0) (i := 0) (by omega) Try.underlying2 cells_i64 (hf 0 _ rfl) rfl
  obtain ⟨x1, e1, w1⟩ := field_int (m := 1) (i := 1) (by omega) Try.underlying2 cells_i64 (hf 1 _ rfl) rfl
  obtain ⟨x2, e2, w2⟩ := field_int (m := 2) (i := 2) (by omega) Try.underlying2 cells_i64 (hf 2 _ rfl) rfl
  obtain ⟨x3, e3, w3⟩ := field_int (m := 3) (i := 3) (by omega) Try.underlying2 cells_i64 (hf 3 _ rfl) rfl
  refine ⟨⟨x0, x1, x2, x3⟩, ?_, i64_of_wf w0, i64_of_wf w1, i64_of_wf w2, i64_of_wf w3⟩
  refine List.ext_getElem? fun i => ?_
  match i with
  | 0 => exact e0
  | 1 => exact e1
  | 2 => exact e2
  | 3 => exact e3
  | i + 4 => rw [List.getElem?_eq_none (by omega), List.getElem?_eq_none (by simp [Fnd.cells])]

set_option maxRecDepth 100000 in
theorem open_SFinding {H : Type} {enc : TypeId × Value → H} {W : World} {base : Nat} {v : Value} {d : DataW H} {p : List MemPlace} (hv : Value.okWide Try.prog W .any base 22 v)
    (h : DataW.Trod enc Try.prog W 0 (fun _ => true) true 22 v d p) (_hlt : ∀ x ∈ p, x.block < W.heap.size) : ∃ l : List Fnd, Fnds 0 W.heap.size W v l ∧ ∀ x ∈ l, x.wf :=
  open_list Try.underlying22 cells_SFinding (by omega) open_Finding h (okWide_slice Try.underlying22 hv)

set_option maxHeartbeats 1000000 in
theorem law_ValidFindings {v : Value} (l : List Fnd) (w : World) (h : Fnds 0 w.heap.size w v l ∧ ∀ x ∈ l, x.wf) :
    Calls Try.prog 3 #[v] w fun e w' => e = .returned (.bool true) ∧ Below w.heap.size w w' := by
  obtain ⟨h, _⟩ := h
  have hsl := h
  obtain ⟨a, cap, rfl, hlen, hh⟩ := h
  clear hh
  by_cases hc : 1048576 < l.length
  · go_enter Try.func3, Try.ntmps3
    go_wp2_with fail
    refine (law_szFindingS _ l 0 w.heap.size 1048576 _ hsl (by omega) (by omega)).mono ?_
    rintro e w1 ⟨rfl, rfl⟩
    rw [if_pos (by omega)]
    go_wp2
    go_ret
    exact ⟨rfl, Below.refl _ _⟩
  · go_enter Try.func3, Try.ntmps3
    go_wp2_with fail
    refine (law_szFindingS _ l 0 w.heap.size 1048576 _ hsl (by omega) (by omega)).mono ?_
    rintro e w1 ⟨rfl, rfl⟩
    rw [if_neg (by omega)]
    go_wp2_with fail
    refine (law_toFindingS _ l 0 w.heap.size _ hsl (by omega)).mono ?_
    rintro e w1 ⟨v1, rfl, hs1, hb1⟩
    go_wp2_with fail
    refine (spec_ValidFindings _ l _ _ _ hs1.1).mono ?_
    rintro e w2 ⟨rfl, hb2⟩
    have hB2 := hb1.trans (hb2.mono hb1.size)
    go_wp2_with fail
    refine (law_toFindingS _ l 0 w.heap.size _ (hsl.ext hB2) (by omega)).mono ?_
    rintro e w3 ⟨v3, rfl, hs3, hb3⟩
    have hB3 := hB2.trans (hb3.mono hB2.size)
    go_wp2_with fail
    refine (impl_ValidFindings _ l _ _ _ hs3.1).mono ?_
    rintro e w4 ⟨rfl, hb4⟩
    have hs4 := hs3.1.ext hb4
    have hB4 := hB3.trans (hb4.mono hB3.size)
    go_wp2_with fail
    refine (law_toFindingS _ l 0 w.heap.size _ (hsl.ext hB4) (by omega)).mono ?_
    rintro e w5 ⟨v5, rfl, hs5, hb5⟩
    have hB5 := hB4.trans (hb5.mono hB4.size)
    go_wp2_with fail
    refine (law_eqFindingS _ _ l _ _ _ _ _ (hs4.ext hb5) hs5.1).mono ?_
    rintro e w6 ⟨rfl, hb6⟩
    go_wp2
    go_ret
    exact ⟨rfl, hB5.trans (hb6.mono hB5.size)⟩
end Go.Proofs.Ytfnmmfopbfmkaaa
