/- The law FnExactPackNumber. -/
import Derived.Test.YthdipbgeanmcgaaPack
import Derived.Test.YthdipbgeanmcgaaLawS
namespace Go.Proofs.Ythdipbgeanmcgaa
open Go.RowKit
theorem law_PackNumber (n : Int) (w : World) (_hn : (Lit.int .i64 n).wf = true) :
    Calls Try.prog 5 #[.int .i64 n] w fun e w' => e = .returned (.bool true) ∧ Below w.heap.size w w' := by
  have h1 := Lib.hid (fun w' => spec_PackNumber n w')
  have h2 := Lib.hid (fun w' => impl_PackNumber n w')
  generalize packN n = R at *
  obtain ⟨R1, R2⟩ := R
  go_enter Try.func5, Try.ntmps5
  go_wp2_with fail
  refine (h1.out _).mono ?_
  rintro e w1 ⟨rfl, b1⟩
  go_wp2_with fail
  refine (h2.out _).mono ?_
  rintro e w2 ⟨rfl, b2⟩
  go_wp2
  go_ret
  exact ⟨rfl, on b1 b2⟩
end Go.Proofs.Ythdipbgeanmcgaa
