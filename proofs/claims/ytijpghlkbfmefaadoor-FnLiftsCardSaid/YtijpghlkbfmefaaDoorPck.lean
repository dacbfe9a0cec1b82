/- The indices that are as asked, as a list of numbers. No program in sight. -/
import Derived.Test.YtijpghlkbfmefaaDoorOwn
namespace Go.Proofs.YtijpghlkbfmefaaDoor
open Go.RowKit
/-- The indices below n that are as asked, as numbers. -/
structure Picks (ok : Nat → Bool) (n : Nat) (l : List Int) : Prop where
  mem : ∀ x : Int, x ∈ l ↔ ∃ j : Nat, j < n ∧ x = j ∧ ok j = true
  len : l.length ≤ n
theorem Picks.zero (ok : Nat → Bool) : Picks ok 0 [] := ⟨fun x => by simp, by simp⟩
theorem Picks.yes {ok : Nat → Bool} {k : Nat} {l : List Int} (h : Picks ok k l) (hk : ok k = true) : Picks ok (k + 1) (l ++ [(k : Int)]) := by
  refine ⟨fun x => ?_, by have := h.len; simp; omega⟩
  rw [List.mem_append, List.mem_singleton, h.mem]
  constructor
  · rintro (⟨j, hj, rfl, ho⟩ | rfl)
    · exact ⟨j, by omega, rfl, ho⟩
    · exact ⟨k, by omega, rfl, hk⟩
  · rintro ⟨j, hj, rfl, ho⟩
    by_cases e : j = k
    · subst e; exact .inr rfl
    · exact .inl ⟨j, by omega, rfl, ho⟩
theorem Picks.no {ok : Nat → Bool} {k : Nat} {l : List Int} (h : Picks ok k l) (hk : ok k = false) : Picks ok (k + 1) l := by
  refine ⟨fun x => ?_, by have := h.len; omega⟩
  rw [h.mem]
  constructor
  · rintro ⟨j, hj, rfl, ho⟩
    exact ⟨j, by omega, rfl, ho⟩
  · rintro ⟨j, hj, rfl, ho⟩
    by_cases e : j = k
    · subst e; rw [hk] at ho; cases ho
    · exact ⟨j, by omega, rfl, ho⟩
theorem Picks.nat {ok : Nat → Bool} {n : Nat} {l : List Int} (h : Picks ok n l) {j : Nat} (hj : j < n) : decide ((j : Int) ∈ l) = ok j := by
  cases ho : ok j
  · refine decide_eq_false fun hm => ?_
    obtain ⟨k, hk, e, h2⟩ := (h.mem _).1 hm
    have : k = j := by omega
    subst this
    rw [ho] at h2; cases h2
  · exact decide_eq_true ((h.mem _).2 ⟨j, hj, rfl, ho⟩)
def PickOut (ok : Nat → Bool) (n : Nat) (w : World) (e : Ending) (w' : World) : Prop := ∃ v l, e = .returned v ∧ Slw 1 intCells w.heap.size w'.heap.size w' v l ∧ Picks ok n l ∧ Below w.heap.size w w'
theorem Slw.widenN {α : Type} {n : Nat} {c : α → List Value} {lo hi lo' hi' : Nat} {w : World} {v : Value} {l : List α} (h : Slw n c lo hi w v l) (h1 : lo' ≤ lo) (h2 : hi ≤ hi') : Slw n c lo' hi' w v l := ⟨h.1.mono h1 h2, h.2⟩
end Go.Proofs.YtijpghlkbfmefaaDoor
