/- The law FnExactHexOf. -/
import Derived.Test.YthdipbgeanmcgaaHex
import Derived.Test.YthdipbgeanmcgaaLawS
namespace Go.Proofs.Ythdipbgeanmcgaa
open Go.RowKit
theorem law_HexOf (s : ByteArray) (w : World) (hs : s.size ≤ maxLen) :
    Calls Try.prog 4 #[.string s] w fun e w' => e = .returned (.bool true) ∧ Below w.heap.size w w' := by
  unfold maxLen at hs
  by_cases hl : 1048576 < s.size
  · go_enter Try.func4, Try.ntmps4
    go_wp2
    go_ret
    exact ⟨rfl, Below.refl _ _⟩
  · have h1 := Lib.hid (fun w' => spec_HexOf s w' (by omega))
    have h2 := Lib.hid (fun w' => impl_HexOf s w' (by omega))
    go_enter Try.func4, Try.ntmps4
    go_wp2_with fail
    refine (h1.out _).mono ?_
    rintro e w1 ⟨rfl, b1⟩
    go_wp2_with fail
    refine (h2.out _).mono ?_
    rintro e w2 ⟨rfl, b2⟩
    generalize hexL s.data.toList = L at *
    go_wp2
    go_ret
    exact ⟨rfl, on b1 b2⟩
end Go.Proofs.Ythdipbgeanmcgaa
