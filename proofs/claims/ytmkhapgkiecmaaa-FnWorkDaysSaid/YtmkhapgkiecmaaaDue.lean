/- DueDays, OverdueChecks, in both packages. -/
import Derived.Test.YtmkhapgkiecmaaaChk
import Derived.Test.YtmkhapgkiecmaaaOwn
import Derived.IntWalk
namespace Go.Proofs.Ytmkhapgkiecmaaa
open Go.RowKit

theorem info_int64 : (Try.prog.info? 2).map (fun i => (i.zero.map (·.cells.size), i.size, i.bytes)) = some (some 1, 1, 8) := by kernel_rfl

theorem chksOk.row {l : List Chk} (h : chksB l = true) {k : Nat} (hk : k < l.length) : l[k].ok := ((chksB_iff.1 h).1 k hk).1

open Classical in
noncomputable def dueDays (l : List Chk) : List Int × Int := if chksB l = true then (l.map fun x => x.last + x.every, 0) else ([], 1)
theorem dueDays_t {l : List Chk} (h : chksB l = true) : dueDays l = (l.map fun x => x.last + x.every, 0) := if_pos h
theorem dueDays_f {l : List Chk} (h : chksB l = false) : dueDays l = ([], 1) := if_neg (by simp [h])
theorem dueDays_len (l : List Chk) : (dueDays l).1.length ≤ l.length := by
  cases h : chksB l
  · rw [dueDays_f h]; simp
  · rw [dueDays_t h]; simp

theorem impl_due (x : Chk) (w : World) (hb : -1000000 ≤ x.last + x.every ∧ x.last + x.every ≤ 1000000) :
    Calls Try.prog 89 #[.agg x.cells.toArray] w fun e w' => e = .returned (.int .i64 (x.last + x.every)) ∧ Below w.heap.size w w' := by
  obtain ⟨x0, x1, x2, x3⟩ := x
  simp only [Chk.cells] at *
  go_enter Try.func89, Try.ntmps89
  go_wp2
  go_ret
  exact ⟨rfl, (Below.refl _ _).alloc (Nat.le_refl _) _⟩


end Go.Proofs.Ytmkhapgkiecmaaa
