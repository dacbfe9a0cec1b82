/- Own memory and blocks of another type. -/
import Derived.Test.YtmkhapgkiecmaaaOwn
namespace Go.Proofs.Ytmkhapgkiecmaaa
open Go.RowKit
/-- A block of another type is none of an own list's. -/
theorem own_ne {α : Type} {c : α → List Value} {n lo p : Nat} {e t : TypeId} {w : World} {v : Value} {l : List α} {cs : Array Value} {f : Nat × Nat} (h : Own n c lo e w v l) (hp : w.heap[p]? = some (.cells cs t f)) (hne : ¬ t = e) : ¬ v.ownBlock = some p := by
  intro hv
  obtain ⟨-, h2⟩ := h
  rcases h2 with ⟨rfl, -⟩ | ⟨g, cap, cur, rfl, hb, hg, -⟩
  · simp [Value.ownBlock] at hv
  · simp [Value.ownBlock] at hv
    subst hv
    rw [hg] at hp
    cases hp
    exact hne rfl
theorem own_far {α : Type} {c : α → List Value} {n lo p j : Nat} {e t : TypeId} {w : World} {v u : Value} {l : List α} {cs : Array Value} {f : Nat × Nat} (h : Own n c lo e w v l) (hp : w.heap[p]? = some (.cells cs t f)) (hne : ¬ t = e) : Own n c lo e (w.setCell ⟨p, j, none⟩ u) v l :=
  World.ownsRow.kept h (row := some p) ⟨rfl, rfl, rfl, by simp [World.setCell], fun k hk hk2 => Below.heap_setCell _ _ _ _ (fun e => hk2 (by rw [e]))⟩ (.inr (fun e => own_ne h hp hne (by simpa using e)))
theorem own_keepP {α : Type} {c : α → List Value} {n lo p j : Nat} {e t : TypeId} {w : World} {v u : Value} {l : List α} {cs : Array Value} {f : Nat × Nat} (h : Own n c lo e w v l) (hp : w.heap[p]? = some (.cells cs t f)) (hne : ¬ t = e) : Own n c lo e (w.setCell ⟨p, j, none⟩ u) v l ∧ ∃ cs', (w.setCell ⟨p, j, none⟩ u).heap[p]? = some (.cells cs' t f) ∧ cs' = cs.setIfInBounds j u :=
  ⟨own_far h hp hne, _, by simp [World.setCell, Array.getElem?_modify, hp], rfl⟩
end Go.Proofs.Ytmkhapgkiecmaaa
