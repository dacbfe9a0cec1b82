/- The law FnExactUnpackNumber. -/
import Derived.Test.YthdipbgeanmcgaaUnpk
import Derived.Test.YthdipbgeanmcgaaLawS
namespace Go.Proofs.Ythdipbgeanmcgaa
open Go.RowKit
theorem law_UnpackNumber (s : ByteArray) (w : World) (hs : s.size ≤ maxLen) :
    Calls Try.prog 7 #[.string s] w fun e w' => e = .returned (.bool true) ∧ Below w.heap.size w w' := by
  unfold maxLen at hs
  by_cases hl : 1048576 < s.size
  · go_enter Try.func7, Try.ntmps7
    go_wp2
    go_ret
    exact ⟨rfl, Below.refl _ _⟩
  · have h1 := Lib.hid (fun w' => spec_UnpackNumber s w' (by omega))
    have h2 := Lib.hid (fun w' => impl_UnpackNumber s w' (by omega))
    generalize unpN s.data.toList = R at *
    obtain ⟨R1, R2⟩ := R
    go_enter Try.func7, Try.ntmps7
    go_wp2_with fail
    refine (h1.out _).mono ?_
    rintro e w1 ⟨rfl, b1⟩
    go_wp2_with fail
    refine (h2.out _).mono ?_
    rintro e w2 ⟨rfl, b2⟩
    go_wp2
    go_ret
    exact ⟨rfl, on b1 b2⟩
end Go.Proofs.Ythdipbgeanmcgaa
