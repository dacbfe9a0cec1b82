/- Slices that the call builds, kept and lowered. No program in sight. -/
import Derived.Test.YtpabbehpkokhbaaDoorNC
namespace Go.Proofs.YtpabbehpkokhbaaDoor
open Go.RowKit
theorem own_sv {α : Type} {n : Nat} {c : α → List Value} {lo : Nat} {e : TypeId} {w : World} {v : Value} {l : List α} (h : Own n c lo e w v l) : ∃ a cap, v = .slice a l.length cap := by
  rcases h.2 with ⟨h0, h1⟩ | ⟨g, cap, cur, hv, _⟩
  · exact ⟨_, _, by rw [h1]; exact h0⟩
  · exact ⟨_, _, hv⟩
theorem own_keep {α : Type} {n : Nat} {c : α → List Value} {lo : Nat} {e : TypeId} {w w' : World} {v : Value} {l : List α} (h : Own n c lo e w v l) (hb : ∀ g, v.ownBlock = some g → w'.heap[g]? = w.heap[g]?) : Own n c lo e w' v l := by
  refine ⟨h.1, ?_⟩
  rcases h.2 with h0 | ⟨g, cap, cur, rfl, hg, hgg, rest⟩
  · exact .inl h0
  · exact .inr ⟨g, cap, cur, rfl, hg, (hb g rfl).trans hgg, rest⟩
theorem own_mod2 {α : Type} {n : Nat} {c : α → List Value} {lo p q : Nat} {e : TypeId} {w w' : World} {v : Value} {l : List α} (h : Own n c lo e w v l) (hm : Mod p q w w') (hq : q ≤ lo) : Own n c lo e w' v l :=
  own_keep h fun g hg => hm.block g (World.ownsRow.lt h g hg).2 (by have := (World.ownsRow.lt h g hg).1; omega)
theorem OwnN.mod {ρ φ α : Type} {n m : Nat} {c : ρ → List Value} {d : α → List Value} {fl : ρ → φ} {sv : ρ → SV} {lo p q : Nat} {te e : TypeId} {w w' : World} {v : Value} {rs : List ρ} {L : List (φ × List α)} (h : OwnN n c fl sv m d lo te e w v rs L) (hm : Mod p q w w') (hq : q ≤ lo) : OwnN n c fl sv m d lo te e w' v rs L :=
  ⟨own_mod2 h.out hm hq, h.len, fun i r x hr hx => ⟨(h.row i r x hr hx).1, own_mod2 (h.row i r x hr hx).2 hm hq⟩, h.apart⟩
theorem OwnN.lower {ρ φ α : Type} {n m : Nat} {c : ρ → List Value} {d : α → List Value} {fl : ρ → φ} {sv : ρ → SV} {lo lo' : Nat} {te e : TypeId} {w : World} {v : Value} {rs : List ρ} {L : List (φ × List α)} (h : OwnN n c fl sv m d lo te e w v rs L) (hl : lo' ≤ lo) : OwnN n c fl sv m d lo' te e w v rs L :=
  ⟨h.out.lower hl, h.len, fun i r x hr hx => ⟨(h.row i r x hr hx).1, (h.row i r x hr hx).2.lower hl⟩, h.apart⟩
section
variable {ρ φ α : Type} {n m : Nat} {c : ρ → List Value} {d : α → List Value} {fl : ρ → φ} {sv : ρ → SV}
/-- One more, whose own memory lies behind B, where the others' lies ahead of it. -/
theorem OwnN.push2 {lo B : Nat} {te e : TypeId} (hte : te ≠ e) {w1 w2 : World} {v v' : Value} {rs : List ρ} {L : List (φ × List α)} {r : ρ} {x : φ × List α} (h1 : OwnN n c fl sv m d lo te e w1 v rs L)
    (hlt : ∀ (i : Nat) (s : ρ) (g : Nat), rs[i]? = some s → (sv s).v.ownBlock = some g → g < B) (hlo : lo ≤ B)
    (hf : fl r = x.1) (hr : Own m d B e w1 (sv r).v x.2) (hv : Own n c lo te w2 v' (rs ++ [r])) (hg : (w1.alloc (.cells (c r).toArray te)).grownBy w2 v.ownBlock) : OwnN n c fl sv m d lo te e w2 v' (rs ++ [r]) (L ++ [x]) := by
  have kept : ∀ {lo' : Nat} (s : SV) (y : List α), Own m d lo' e w1 s.v y → Own m d lo' e w2 s.v y := by
    intro lo' s y hs
    refine World.ownsRow.kept (hs.alloc _) hg ?_
    cases hsb : s.v.ownBlock with
    | none => exact .inl rfl
    | some g =>
      refine .inr fun hgv => ?_
      obtain ⟨cur, fz, hc⟩ := hs.block hsb
      obtain ⟨cur', fz', hc'⟩ := h1.out.block hgv.symm
      rw [hc] at hc'
      cases hc'
      exact hte rfl
  have at_ : ∀ (i : Nat) (s : ρ), (rs ++ [r])[i]? = some s → rs[i]? = some s ∨ (i = rs.length ∧ s = r) := by
    intro i s hs
    rw [List.getElem?_append] at hs
    by_cases hi : i < rs.length
    · rw [if_pos hi] at hs; exact .inl hs
    · rw [if_neg hi] at hs
      by_cases h0 : i - rs.length = 0
      · rw [h0] at hs; simp at hs; exact .inr ⟨by omega, hs.symm⟩
      · rw [List.getElem?_eq_none (by simp; omega)] at hs; cases hs
  refine ⟨hv, by simp [h1.len], ?_, ?_⟩
  · intro i s y hs hy
    rcases at_ i s hs with h0 | ⟨rfl, rfl⟩
    · have hi := (List.getElem?_eq_some_iff.1 h0).1
      rw [List.getElem?_append_left (by rw [← h1.len]; exact hi)] at hy
      exact ⟨(h1.row i s y h0 hy).1, kept _ _ (h1.row i s y h0 hy).2⟩
    · rw [h1.len, List.getElem?_append_right (Nat.le_refl _), Nat.sub_self] at hy
      simp at hy
      subst hy
      exact ⟨hf, kept _ _ (hr.lower hlo)⟩
  · intro i j s t g hs ht hij hsg htg
    rcases at_ i s hs with h0 | ⟨rfl, rfl⟩
    · rcases at_ j t ht with h2 | ⟨rfl, rfl⟩
      · exact h1.apart i j s t g h0 h2 hij hsg htg
      · have h3 := hlt i s g h0 hsg
        have h4 := (World.ownsRow.lt hr g htg).1
        omega
    · rcases at_ j t ht with h2 | ⟨rfl, rfl⟩
      · have h3 := hlt j t g h2 htg
        have h4 := (World.ownsRow.lt hr g hsg).1
        omega
      · exact hij rfl
end
end Go.Proofs.YtpabbehpkokhbaaDoor
