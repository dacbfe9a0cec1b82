/- Slices that the call builds, kept and lowered. No program in sight. -/
import Derived.Test.YtgbohbjpdmgneaaNC
namespace Go.Proofs.Ytgbohbjpdmgneaa
open Go.RowKit
theorem own_sv {α : Type} {n : Nat} {c : α → List Value} {lo : Nat} {e : TypeId} {w : World} {v : Value} {l : List α} (h : Own n c lo e w v l) : ∃ a cap, v = .slice a l.length cap := by
  rcases h.2 with ⟨h0, h1⟩ | ⟨g, cap, cur, hv, _⟩
  · exact ⟨_, _, by rw [h1]; exact h0⟩
  · exact ⟨_, _, hv⟩
theorem own_keep {α : Type} {n : Nat} {c : α → List Value} {lo : Nat} {e : TypeId} {w w' : World} {v : Value} {l : List α} (h : Own n c lo e w v l) (hb : ∀ g, v.ownBlock = some g → w'.heap[g]? = w.heap[g]?) : Own n c lo e w' v l := by
  refine ⟨h.1, ?_⟩
  rcases h.2 with h0 | ⟨g, cap, cur, rfl, hg, hgg, rest⟩
  · exact .inl h0
  · exact .inr ⟨g, cap, cur, rfl, hg, (hb g rfl).trans hgg, rest⟩
theorem own_mod2 {α : Type} {n : Nat} {c : α → List Value} {lo p q : Nat} {e : TypeId} {w w' : World} {v : Value} {l : List α} (h : Own n c lo e w v l) (hm : Mod p q w w') (hq : q ≤ lo) : Own n c lo e w' v l :=
  own_keep h fun g hg => hm.block g (World.ownsRow.lt h g hg).2 (by have := (World.ownsRow.lt h g hg).1; omega)
theorem OwnN.mod {ρ φ α : Type} {n m : Nat} {c : ρ → List Value} {d : α → List Value} {fl : ρ → φ} {sv : ρ → SV} {lo p q : Nat} {te e : TypeId} {w w' : World} {v : Value} {rs : List ρ} {L : List (φ × List α)} (h : OwnN n c fl sv m d lo te e w v rs L) (hm : Mod p q w w') (hq : q ≤ lo) : OwnN n c fl sv m d lo te e w' v rs L :=
  ⟨own_mod2 h.out hm hq, h.len, fun i r x hr hx => ⟨(h.row i r x hr hx).1, own_mod2 (h.row i r x hr hx).2 hm hq⟩, h.apart⟩
theorem OwnN.lower {ρ φ α : Type} {n m : Nat} {c : ρ → List Value} {d : α → List Value} {fl : ρ → φ} {sv : ρ → SV} {lo lo' : Nat} {te e : TypeId} {w : World} {v : Value} {rs : List ρ} {L : List (φ × List α)} (h : OwnN n c fl sv m d lo te e w v rs L) (hl : lo' ≤ lo) : OwnN n c fl sv m d lo' te e w v rs L :=
  ⟨h.out.lower hl, h.len, fun i r x hr hx => ⟨(h.row i r x hr hx).1, (h.row i r x hr hx).2.lower hl⟩, h.apart⟩
end Go.Proofs.Ytgbohbjpdmgneaa
