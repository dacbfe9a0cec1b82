/- Slices of structs with one slice that the call builds by append. No program in sight. -/
import Derived.Test.YtpabbehpkokhbaaDoorNS
namespace Go.Proofs.YtpabbehpkokhbaaDoor
open Go.RowKit
section
variable {ρ φ α : Type} {n m : Nat} {c : ρ → List Value} {d : α → List Value} {fl : ρ → φ} {sv : ρ → SV}
structure OwnN (n : Nat) (c : ρ → List Value) (fl : ρ → φ) (sv : ρ → SV) (m : Nat) (d : α → List Value) (lo : Nat) (te e : TypeId) (w : World) (v : Value) (rs : List ρ) (L : List (φ × List α)) : Prop where
  out : Own n c lo te w v rs
  len : rs.length = L.length
  row : ∀ (i : Nat) (r : ρ) (x : φ × List α), rs[i]? = some r → L[i]? = some x → fl r = x.1 ∧ Own m d lo e w (sv r).v x.2
  apart : ∀ (i j : Nat) (r s : ρ) (g : Nat), rs[i]? = some r → rs[j]? = some s → i ≠ j → (sv r).v.ownBlock = some g → (sv s).v.ownBlock ≠ some g
theorem OwnN.below {lo : Nat} {te e : TypeId} {w w' : World} {v : Value} {rs : List ρ} {L : List (φ × List α)} (h : OwnN n c fl sv m d lo te e w v rs L) (hb : Below w.heap.size w w') : OwnN n c fl sv m d lo te e w' v rs L :=
  ⟨h.out.below hb, h.len, fun i r x hr hx => ⟨(h.row i r x hr hx).1, (h.row i r x hr hx).2.below hb⟩, h.apart⟩
theorem OwnN.lt {lo : Nat} {te e : TypeId} {w : World} {v : Value} {rs : List ρ} {L : List (φ × List α)} (h : OwnN n c fl sv m d lo te e w v rs L) : ∀ (i : Nat) (s : ρ) (g : Nat), rs[i]? = some s → (sv s).v.ownBlock = some g → g < w.heap.size := by
  intro i s g hs hg
  have hiL : i < L.length := by rw [← h.len]; exact (List.getElem?_eq_some_iff.1 hs).1
  exact (World.ownsRow.lt (h.row i s L[i] hs (List.getElem?_eq_getElem hiL)).2 g hg).2
theorem OwnN.push {lo : Nat} {te e : TypeId} (hte : te ≠ e) {w w1 w2 : World} {v v' : Value} {rs : List ρ} {L : List (φ × List α)} {r : ρ} {x : φ × List α} (h : OwnN n c fl sv m d lo te e w v rs L) (hlo : lo ≤ w.heap.size) (hb : Below w.heap.size w w1)
    (hf : fl r = x.1) (hr : Own m d w.heap.size e w1 (sv r).v x.2) (hv : Own n c lo te w2 v' (rs ++ [r])) (hg : (w1.alloc (.cells (c r).toArray te)).grownBy w2 v.ownBlock) : OwnN n c fl sv m d lo te e w2 v' (rs ++ [r]) (L ++ [x]) := by
  have h1 := h.below hb
  have hlt := h.lt
  have kept : ∀ {lo' : Nat} (s : SV) (y : List α), Own m d lo' e w1 s.v y → Own m d lo' e w2 s.v y := by
    intro lo' s y hs
    refine World.ownsRow.kept (hs.alloc _) hg ?_
    cases hsb : s.v.ownBlock with
    | none => exact .inl rfl
    | some g =>
      refine .inr fun hgv => ?_
      obtain ⟨cur, fz, hc⟩ := hs.block hsb
      obtain ⟨cur', fz', hc'⟩ := h1.out.block hgv.symm
      rw [hc] at hc'
      cases hc'
      exact hte rfl
  have at_ : ∀ (i : Nat) (s : ρ), (rs ++ [r])[i]? = some s → rs[i]? = some s ∨ (i = rs.length ∧ s = r) := by
    intro i s hs
    rw [List.getElem?_append] at hs
    by_cases hi : i < rs.length
    · rw [if_pos hi] at hs; exact .inl hs
    · rw [if_neg hi] at hs
      by_cases h0 : i - rs.length = 0
      · rw [h0] at hs; simp at hs; exact .inr ⟨by omega, hs.symm⟩
      · rw [List.getElem?_eq_none (by simp; omega)] at hs; cases hs
  refine ⟨hv, by simp [h.len], ?_, ?_⟩
  · intro i s y hs hy
    rcases at_ i s hs with h0 | ⟨rfl, rfl⟩
    · have hi := (List.getElem?_eq_some_iff.1 h0).1
      rw [List.getElem?_append_left (by rw [← h.len]; exact hi)] at hy
      exact ⟨(h1.row i s y h0 hy).1, kept _ _ (h1.row i s y h0 hy).2⟩
    · rw [h.len, List.getElem?_append_right (Nat.le_refl _), Nat.sub_self] at hy
      simp at hy
      subst hy
      exact ⟨hf, kept _ _ (hr.lower hlo)⟩
  · intro i j s t g hs ht hij hsg htg
    rcases at_ i s hs with h0 | ⟨rfl, rfl⟩
    · rcases at_ j t ht with h2 | ⟨rfl, rfl⟩
      · exact h.apart i j s t g h0 h2 hij hsg htg
      · have h3 := hlt i s g h0 hsg
        have h4 := (World.ownsRow.lt hr g htg).1
        omega
    · rcases at_ j t ht with h2 | ⟨rfl, rfl⟩
      · have h3 := hlt j t g h2 htg
        have h4 := (World.ownsRow.lt hr g hsg).1
        omega
      · exact hij rfl
theorem ownN_nil {lo : Nat} {te e : TypeId} {w : World} {v : Value} (h : Own n c lo te w v ([] : List ρ)) : OwnN n c fl sv m d lo te e w v ([] : List ρ) ([] : List (φ × List α)) :=
  ⟨h, rfl, fun i r x hr => by simp at hr, fun i j r s g hr => by simp at hr⟩
theorem OwnN.w (hc : ∀ x, (c x).length = n) (hd : ∀ x, (d x).length = m) {lo : Nat} {te e : TypeId} (hte : te ≠ e) {w : World} {v : Value} {rs : List ρ} {L : List (φ × List α)} (h : OwnN n c fl sv m d lo te e w v rs L) : NSw n c fl sv m d lo w.heap.size w v rs L := by
  refine ⟨h.out.slw hc, h.len, fun i r x hr hx => ⟨(h.row i r x hr hx).1, (h.row i r x hr hx).2.slw hd⟩, ?_, ?_⟩
  · intro i j r s x y hr hs hx hy hij hx0 hy0 he
    obtain ⟨g, hg, _⟩ := ((h.row i r x hr hx).2.slw hd).narrow hx0
    exact h.apart i j r s g hr hs hij hg (by rw [← he, hg])
  · intro i r x hr hx hx0 he
    obtain ⟨g, hg, _⟩ := ((h.row i r x hr hx).2.slw hd).narrow hx0
    obtain ⟨cur, fz, h1⟩ := (h.row i r x hr hx).2.block hg
    obtain ⟨cur', fz', h2⟩ := h.out.block (by rw [← he, hg])
    rw [h1] at h2
    cases h2
    exact hte rfl
/-- A cell of a block of another tag stands on while the slice grows. -/
theorem grown_block {lo : Nat} {te : TypeId} {w1 w2 : World} {v : Value} {rs : List ρ} {p : Nat} {cs : Array Value} {t : TypeId} {fz : Nat × Nat} {o : Obj} (h : Own n c lo te w1 v rs) (hp : w1.heap[p]? = some (.cells cs t fz)) (ht : t ≠ te) (hg : (w1.alloc o).grownBy w2 v.ownBlock) : w2.heap[p]? = some (.cells cs t fz) := by
  have hlt := (Array.getElem?_eq_some_iff.1 hp).1
  rw [hg.block p (by simp; omega) (fun e => by
    obtain ⟨cur, fz', hc⟩ := h.block e.symm
    rw [hp] at hc; cases hc; exact ht rfl)]
  exact (((Below.refl w1.heap.size w1).alloc (Nat.le_refl _) o).block p hlt).trans hp
end
end Go.Proofs.YtpabbehpkokhbaaDoor
