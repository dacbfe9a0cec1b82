/- Steps that the laws share. -/
import Derived.Test.YtmkhapgkiecmaaaBase
namespace Go.Proofs.Ytmkhapgkiecmaaa
open Go.RowKit
/-- Below, one step on. -/
theorem go_on {B : Nat} {a w w' : World} (h : Below B a w) (hB : B ≤ w.heap.size) (k : Below w.heap.size w w') : Below B a w' := h.trans (k.mono hB)
theorem on {a w w' : World} (h : Below a.heap.size a w) (k : Below w.heap.size w w') : Below a.heap.size a w' := h.trans (k.mono h.size)
end Go.Proofs.Ytmkhapgkiecmaaa
