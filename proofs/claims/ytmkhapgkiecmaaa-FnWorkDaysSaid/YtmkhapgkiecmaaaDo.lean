/- DoCheck and CloseFinding, in both packages. -/
import Derived.Test.YtmkhapgkiecmaaaOver
import Derived.Lib.SliceRun
namespace Go.Proofs.Ytmkhapgkiecmaaa
open Go.RowKit
theorem info_impl_Check : (Try.prog.info? 106).map (fun i => (i.zero.map (·.cells.size), i.size, i.bytes)) = some (some 4, 4, 40) := by kernel_rfl
theorem info_impl_Finding : (Try.prog.info? 43).map (fun i => (i.zero.map (·.cells.size), i.size, i.bytes)) = some (some 4, 4, 32) := by kernel_rfl
theorem Chk.one (x : Chk) : ∀ u ∈ x.cells, u.oneCell' = true := by intro u hu; simp [Chk.cells] at hu; rcases hu with rfl | rfl | rfl | rfl <;> rfl
theorem Fnd.one (x : Fnd) : ∀ u ∈ x.cells, u.oneCell' = true := by intro u hu; simp [Fnd.cells] at hu; rcases hu with rfl | rfl | rfl | rfl <;> rfl

theorem impl_index_t (n m : Int) (w : World) (h : 0 ≤ n) (h2 : n < m) (h3 : m ≤ 1048576) : Calls Try.prog 54 #[.int .i64 n, .int .i64 m] w fun e w' => e = .returned (.bool true) ∧ w = w' := by
  go_enter Try.func54, Try.ntmps54
  go_wp2_with (go_at_call 59; refine (impl_within_t _ _ _ _ (by omega) (by omega)).mono ?_; rintro e w' ⟨rfl, rfl⟩)
  go_ret; exact ⟨rfl, rfl⟩
theorem impl_index_f (n m : Int) (w : World) (h : ¬ (0 ≤ n ∧ n < m)) (h3 : 0 ≤ m ∧ m ≤ 1048576) : Calls Try.prog 54 #[.int .i64 n, .int .i64 m] w fun e w' => e = .returned (.bool false) ∧ w = w' := by
  go_enter Try.func54, Try.ntmps54
  go_wp2_with (go_at_call 59; refine (impl_within_f _ _ _ _ (by omega)).mono ?_; rintro e w' ⟨rfl, rfl⟩)
  go_ret; exact ⟨rfl, rfl⟩

set_option maxHeartbeats 2000000 in
theorem impl_CloneF (l : List Fnd) (b off cap lo hi : Nat) (w : World) (h : Fnds lo hi w (.slice (some ⟨b, off, none⟩) l.length cap) l) (hl : l.length ≤ 1048576) :
    Calls Try.prog 55 #[.slice (some ⟨b, off, none⟩) l.length cap] w fun e w' => ∃ v', e = .returned v' ∧ Slw 4 Fnd.cells w.heap.size w'.heap.size w' v' l ∧ Below w.heap.size w w' := by
  have hq := fun w => Lib.run_eql_slice_nil (P := Try.prog) w 25 43 (some ⟨b, off, none⟩) l.length cap 0 0 Try.underlying25
  have hb0 := (Below.refl w.heap.size w).alloc (Nat.le_refl _) (.cells #[] 43)
  have h1 := h.ext hb0
  have hown0 : Own 4 Fnd.cells w.heap.size 43 (w.alloc (.cells #[] 43)) (.slice (some ⟨w.heap.size, 0, none⟩) 0 0) ([] : List Fnd) := own_empty w _ _ (Nat.le_refl _)
  have H1 := Lib.hid h1
  have Hown0 := Lib.hid hown0
  clear h h1 hown0
  go_enter Try.func55, Try.ntmps55
  go_wp2_with (at_builtin; refine wpList_appN (c := Fnd.cells) (bytes := 32) rfl _ _ 25 43 rfl Try.underlying25 info_impl_Finding (by omega) Fnd.len Fnd.one w.heap.size [] l _ rfl Hown0.out lo hi b off cap rfl H1.out (by simp; omega) (by simp; omega) (by simp) ?_; intro v' w3 hown3 hg3; have hB3 := Hown0.out.grows hb0 (Nat.le_refl _) (by simp) hg3; have Hown3 := Lib.hid hown3; clear hown3)
  go_ret
  exact ⟨_, rfl, by have := Hown3.out.slw Fnd.len; rwa [List.nil_append] at this, hB3⟩

def setLast (l : List Chk) (k : Nat) (day : Int) : List Chk := match l[k]? with | some x => l.set k { x with last := day } | none => l
theorem setLast_at {l : List Chk} {k : Nat} (h : k < l.length) (day : Int) : setLast l k day = l.set k { l[k] with last := day } := by unfold setLast; rw [List.getElem?_eq_getElem h]
def lastOf (l : List Chk) (k : Nat) : Int := match l[k]? with | some x => x.last | none => 0
theorem lastOf_at {l : List Chk} {k : Nat} (h : k < l.length) : lastOf l k = l[k].last := by unfold lastOf; rw [List.getElem?_eq_getElem h]
open Classical in
noncomputable def doCheck (l : List Chk) (k day : Int) : List Chk × Int :=
  if chksB l = true then (if (0 ≤ k ∧ k < l.length) ∧ (0 ≤ day ∧ day ≤ 100000) then (if day < lastOf l k.toNat then ([], 6) else (setLast l k.toNat day, 0)) else ([], 2)) else ([], 1)
theorem doCheck_1 {l : List Chk} {k day : Int} (h : chksB l = false) : doCheck l k day = ([], 1) := if_neg (by simp [h])
theorem doCheck_2 {l : List Chk} {k day : Int} (h : chksB l = true) (h2 : ¬ ((0 ≤ k ∧ k < l.length) ∧ (0 ≤ day ∧ day ≤ 100000))) : doCheck l k day = ([], 2) := by unfold doCheck; rw [if_pos h, if_neg h2]
theorem doCheck_6 {l : List Chk} {k day : Int} (h : chksB l = true) (h2 : (0 ≤ k ∧ k < l.length) ∧ (0 ≤ day ∧ day ≤ 100000)) (h3 : day < lastOf l k.toNat) : doCheck l k day = ([], 6) := by unfold doCheck; rw [if_pos h, if_pos h2, if_pos h3]
theorem doCheck_0 {l : List Chk} {k day : Int} (h : chksB l = true) (h2 : (0 ≤ k ∧ k < l.length) ∧ (0 ≤ day ∧ day ≤ 100000)) (h3 : ¬ day < lastOf l k.toNat) : doCheck l k day = (setLast l k.toNat day, 0) := by unfold doCheck; rw [if_pos h, if_pos h2, if_neg h3]
theorem setLast_len (l : List Chk) (k : Nat) (day : Int) : (setLast l k day).length = l.length := by unfold setLast; split <;> simp
theorem doCheck_len (l : List Chk) (k day : Int) : (doCheck l k day).1.length ≤ l.length := by
  unfold doCheck
  split
  · split
    · split
      · simp
      · rw [setLast_len]; exact Nat.le_refl _
    · simp
  · simp


end Go.Proofs.Ytmkhapgkiecmaaa
