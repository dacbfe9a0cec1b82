/- Plain lemmas on lists, numbers and values, shared by all texts of this seat. No program in sight. -/
import Derived.WalkKit
import Derived.LoopTactic
import Derived.Below
import Derived.Outline
import Derived.Lib.Hide
namespace Go.Proofs.Ythdipbgeanmcgaa
open Go.RowKit

theorem ret_int {k : IntKind} {a b : Int} (h : a = b) : Ending.returned (.int k a) = .returned (.int k b) := by rw [h]
theorem ret_bool {a b : Bool} (h : a = b) : Ending.returned (.bool a) = .returned (.bool b) := by rw [h]
theorem ret_string {a b : ByteArray} (h : a = b) : Ending.returned (.string a) = .returned (.string b) := by rw [h]

end Go.Proofs.Ythdipbgeanmcgaa
