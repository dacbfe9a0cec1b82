/- PackNumber, in both packages. -/
import Derived.Test.YthdipbgeanmcgaaPut
namespace Go.Proofs.Ythdipbgeanmcgaa
open Go.RowKit

def InP (n : Int) : Prop := -1000000000000 ≤ n ∧ n ≤ 1000000000000
instance (n : Int) : Decidable (InP n) := by unfold InP; infer_instance
def packN (n : Int) : List UInt8 × Int := if InP n then (putB (sgn n), 0) else ([], 2)
theorem packN_in {n : Int} (h : InP n) : packN n = (putB (sgn n), 0) := if_pos h
theorem packN_out {n : Int} (h : ¬ InP n) : packN n = ([], 2) := if_neg h
theorem InP.fit {n : Int} (h : InP n) : Fit n := by unfold InP at h; unfold Fit; omega

set_option maxHeartbeats 1000000 in
theorem spec_PackNumber (n : Int) (w : World) :
    Calls Try.prog 13 #[.int .i64 n] w fun e w' => e = .returned (.tuple #[.string ⟨(packN n).1.toArray⟩, .int .i64 (packN n).2]) ∧ Below w.heap.size w w' := by
  by_cases hin : InP n
  case neg =>
    rw [packN_out hin]
    have hcs : (n < -1000000000000 ∧ decide (-1000000000000 ≤ n) = false) ∨ (1000000000000 < n ∧ decide (-1000000000000 ≤ n) = true ∧ decide (n ≤ 1000000000000) = false) := by
      unfold InP at hin
      simp only [decide_eq_false_iff_not, decide_eq_true_eq]
      omega
    clear hin
    rcases hcs with ⟨hc, hc1⟩ | ⟨hc, hc1, hc2⟩
    all_goals
      go_enter Try.func13, Try.ntmps13
      go_wp2
      go_ret2
      exact ⟨rfl, Below.refl _ _⟩
  rw [packN_in hin]
  have hfit := Lib.hid hin.fit
  have hpl := putB_sgn hin.fit
  obtain ⟨h1, h2⟩ := hin
  have hput := Lib.hid (fun v w' a b => spec_Put v [] w.heap.size n w' a (by simp) b hfit.out)
  generalize putB (sgn n) = L at *
  go_enter Try.func13, Try.ntmps13
  go_wp2_with (first | (go_at_call 27; fail) | (go_at_call 26; go_in) | (go_at_call 41; go_in))
  refine (hput.out _ _ (own_empty _ _ _ (Nat.le_refl _)) (by simp)).mono ?_
  rintro e w2 ⟨v', rfl, hown, hB⟩
  have hcv := bytes_str hown
  rw [List.nil_append] at hcv
  have hB2 := ((Below.refl _ w).alloc (Nat.le_refl _) _).trans hB
  clear hown
  go_wp2
  go_ret2
  exact ⟨rfl, hB2⟩
set_option maxHeartbeats 1000000 in
theorem impl_PackNumber (n : Int) (w : World) :
    Calls Try.prog 14 #[.int .i64 n] w fun e w' => e = .returned (.tuple #[.string ⟨(packN n).1.toArray⟩, .int .i64 (packN n).2]) ∧ Below w.heap.size w w' := by
  by_cases hin : InP n
  case neg =>
    rw [packN_out hin]
    have hcs : (n < -1000000000000 ∧ decide (-1000000000000 ≤ n) = false) ∨ (1000000000000 < n ∧ decide (-1000000000000 ≤ n) = true ∧ decide (n ≤ 1000000000000) = false) := by
      unfold InP at hin
      simp only [decide_eq_false_iff_not, decide_eq_true_eq]
      omega
    clear hin
    rcases hcs with ⟨hc, hc1⟩ | ⟨hc, hc1, hc2⟩
    all_goals
      go_enter Try.func14, Try.ntmps14
      go_wp2
      go_ret2
      exact ⟨rfl, Below.refl _ _⟩
  rw [packN_in hin]
  have hfit := Lib.hid hin.fit
  have hpl := putB_sgn hin.fit
  obtain ⟨h1, h2⟩ := hin
  have hput := Lib.hid (fun b w' a c => impl_number b [] w.heap.size n w' a (by simp) c hfit.out)
  generalize putB (sgn n) = L at *
  go_enter Try.func14, Try.ntmps14
  have hbd := Lib.hid (bd_new (T := 46) (Nat.le_refl w.heap.size))
  go_wp2_with (first | (go_at_call 29; fail) | (go_at_call 28; go_in))
  refine (hput.out _ _ hbd.out (by simp)).mono ?_
  rintro e w2 ⟨rfl, hbd2, hB⟩
  rw [List.nil_append] at hbd2
  have Hbd := Lib.hid hbd2
  clear hbd2
  have hB2 := ((Below.refl _ w).alloc (Nat.le_refl _) _).trans hB
  go_wp2_with fail
  refine (bd_string w.heap.size w.heap.size _ w2 Hbd.out hB2.size).mono ?_
  rintro e w3 ⟨rfl, _, hb3⟩
  go_wp2
  go_ret2
  exact ⟨rfl, hB2.trans hb3⟩
end Go.Proofs.Ythdipbgeanmcgaa
