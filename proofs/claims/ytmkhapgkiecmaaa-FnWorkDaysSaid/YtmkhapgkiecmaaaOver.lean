/- OverdueChecks and OpenFindings, in both packages. -/
import Derived.Test.YtmkhapgkiecmaaaDue
import Derived.Test.YtmkhapgkiecmaaaFnd
namespace Go.Proofs.Ytmkhapgkiecmaaa
open Go.RowKit

def lateP (day : Int) (x : Chk) : Bool := decide (x.last + x.every < day)
def openP (day : Int) (x : Fnd) : Bool := decide (x.day ≤ day ∧ (x.closed < 0 ∨ day < x.closed))
open Classical in
noncomputable def overdue (l : List Chk) (day : Int) : List Int × Int := if chksB l = true then (if 0 ≤ day ∧ day ≤ 100000 then (idxTo (lateP day) l l.length, 0) else ([], 2)) else ([], 1)
theorem overdue_1 {l : List Chk} {day : Int} (h : chksB l = false) : overdue l day = ([], 1) := if_neg (by simp [h])
theorem overdue_2 {l : List Chk} {day : Int} (h : chksB l = true) (hd : ¬ (0 ≤ day ∧ day ≤ 100000)) : overdue l day = ([], 2) := by unfold overdue; rw [if_pos h, if_neg hd]
theorem overdue_3 {l : List Chk} {day : Int} (h : chksB l = true) (hd : 0 ≤ day ∧ day ≤ 100000) : overdue l day = (idxTo (lateP day) l l.length, 0) := by unfold overdue; rw [if_pos h, if_pos hd]
theorem overdue_len (l : List Chk) (day : Int) : (overdue l day).1.length ≤ l.length := by
  cases h : chksB l
  · rw [overdue_1 h]; simp
  · by_cases hd : 0 ≤ day ∧ day ≤ 100000
    · rw [overdue_3 h hd]; exact idxTo_len _ _ _
    · rw [overdue_2 h hd]; simp
open Classical in
noncomputable def openF (l : List Fnd) (day : Int) : List Int × Int := if fndsB l = true then (if 0 ≤ day ∧ day ≤ 100000 then (idxTo (openP day) l l.length, 0) else ([], 2)) else ([], 1)
theorem openF_1 {l : List Fnd} {day : Int} (h : fndsB l = false) : openF l day = ([], 1) := if_neg (by simp [h])
theorem openF_2 {l : List Fnd} {day : Int} (h : fndsB l = true) (hd : ¬ (0 ≤ day ∧ day ≤ 100000)) : openF l day = ([], 2) := by unfold openF; rw [if_pos h, if_neg hd]
theorem openF_3 {l : List Fnd} {day : Int} (h : fndsB l = true) (hd : 0 ≤ day ∧ day ≤ 100000) : openF l day = (idxTo (openP day) l l.length, 0) := by unfold openF; rw [if_pos h, if_pos hd]
theorem openF_len (l : List Fnd) (day : Int) : (openF l day).1.length ≤ l.length := by
  cases h : fndsB l
  · rw [openF_1 h]; simp
  · by_cases hd : 0 ≤ day ∧ day ≤ 100000
    · rw [openF_3 h hd]; exact idxTo_len _ _ _
    · rw [openF_2 h hd]; simp

set_option maxHeartbeats 2000000 in
theorem spec_l26Late (x : Chk) (b off : Nat) (day : Int) (w : World) (c1 : w.cell? ⟨b, off + 2, none⟩ = some (.int .i64 x.every)) (c2 : w.cell? ⟨b, off + 3, none⟩ = some (.int .i64 x.last)) (h1 : 0 ≤ x.every ∧ x.every ≤ 1000) (h2 : 0 ≤ x.last ∧ x.last ≤ 100000) :
    Calls Try.prog 91 #[.pointer (some ⟨b, off, none⟩), .int .i64 day] w fun e w' => e = .returned (.bool (lateP day x)) ∧ Below w.heap.size w w' := by
  have hsum : IntKind.i64.wrap (x.last + x.every) = x.last + x.every := IntWalk.i64_in _ (by omega)
  go_enter Try.func91, Try.ntmps91
  go_wp2_with (go_quiet (fail))
  go_ret
  exact ⟨rfl, below_dN (Below.refl _ _) _⟩



end Go.Proofs.Ytmkhapgkiecmaaa
