/- Fields that are structs or slices, opened. -/
import Derived.Test.YtpabbehpkokhbaaDoorChecked
import Derived.Test.YtpabbehpkokhbaaDoorOpen
import Derived.Test.YtpabbehpkokhbaaDoorNS
namespace Go.Proofs.YtpabbehpkokhbaaDoor
open Go.RowKit Go.Deep
theorem field_sub {H : Type} {enc : TypeId × Value → H} {P : Program} {W : World} {base : Nat} {spare : Nat → Bool} {held : Bool} {t : TypeId} {n : Nat} {cs : List Value} {xs : List (DataW H × List MemPlace)} {i : Nat} (hi : i < xs.length)
    (h : DataW.trod enc P W base spare held n t cs = xs[i]?) : DataW.trod enc P W base spare held n t cs = some xs[i] := by
  rw [h, List.getElem?_eq_getElem hi]
theorem sub_at {cs l : List Value} {o k j : Nat} (h : (cs.drop o).take k = l) (hj : j < k) : cs[o + j]? = l[j]? := by
  rw [← h, List.getElem?_take, if_pos hj, List.getElem?_drop]
theorem cellsOf_int64 : Tryd.prog.cellsOf 2 = 1 := by kernel_rfl
theorem open_int64 {H : Type} {enc : TypeId × Value → H} {W : World} {base : Nat} {spare : Nat → Bool} {held : Bool} (fuel : Nat) (cs : List Value) (y : DataW H × List MemPlace) (hy : DataW.trod enc Tryd.prog W base spare held fuel 2 cs = some y) :
    ∃ x : Int, cs = intCells x ∧ I64 x := by
  obtain ⟨x, h1, _, hw⟩ := DataW.trod_int Tryd.underlying2 hy
  exact ⟨x, h1, i64_of_wf hw⟩
end Go.Proofs.YtpabbehpkokhbaaDoor
