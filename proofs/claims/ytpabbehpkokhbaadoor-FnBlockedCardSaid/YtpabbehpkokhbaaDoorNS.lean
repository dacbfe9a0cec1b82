/- Slices of structs of which one field is a slice: readings. No program in sight. -/
import Derived.Test.YtpabbehpkokhbaaDoorSS
namespace Go.Proofs.YtpabbehpkokhbaaDoor
open Go.RowKit

section
variable {ρ φ α : Type} {n m : Nat} {c : ρ → List Value} {d : α → List Value} {fl : ρ → φ} {sv : ρ → SV}

/-- v reads as the structs rs; the flat part of the i-th is L[i].1, its slice reads as L[i].2. -/
structure NSr (n : Nat) (c : ρ → List Value) (fl : ρ → φ) (sv : ρ → SV) (m : Nat) (d : α → List Value) (lo hi : Nat) (w : World) (v : Value) (rs : List ρ) (L : List (φ × List α)) : Prop where
  out : Sl n c lo hi w v rs
  len : rs.length = L.length
  row : ∀ (i : Nat) (r : ρ) (x : φ × List α), rs[i]? = some r → L[i]? = some x → fl r = x.1 ∧ Sl m d lo hi w (sv r).v x.2

/-- The same, of memory of the call's own; no two slices share memory. -/
structure NSw (n : Nat) (c : ρ → List Value) (fl : ρ → φ) (sv : ρ → SV) (m : Nat) (d : α → List Value) (lo hi : Nat) (w : World) (v : Value) (rs : List ρ) (L : List (φ × List α)) : Prop where
  out : Slw n c lo hi w v rs
  len : rs.length = L.length
  row : ∀ (i : Nat) (r : ρ) (x : φ × List α), rs[i]? = some r → L[i]? = some x → fl r = x.1 ∧ Slw m d lo hi w (sv r).v x.2
  apart : ∀ (i j : Nat) (r s : ρ) (x y : φ × List α), rs[i]? = some r → rs[j]? = some s → L[i]? = some x → L[j]? = some y → i ≠ j → 0 < x.2.length → 0 < y.2.length → (sv r).v.ownBlock ≠ (sv s).v.ownBlock
  away : ∀ (i : Nat) (r : ρ) (x : φ × List α), rs[i]? = some r → L[i]? = some x → 0 < x.2.length → (sv r).v.ownBlock ≠ v.ownBlock

variable {lo hi lo' hi' : Nat} {w w' : World} {v : Value} {rs : List ρ} {L : List (φ × List α)}

theorem NSw.r (h : NSw n c fl sv m d lo hi w v rs L) : NSr n c fl sv m d lo hi w v rs L :=
  ⟨h.out.1, h.len, fun i r x hr hx => ⟨(h.row i r x hr hx).1, (h.row i r x hr hx).2.1⟩⟩
theorem NSr.keep (h : NSr n c fl sv m d lo hi w v rs L) (hs : Same lo hi w w') : NSr n c fl sv m d lo hi w' v rs L :=
  ⟨h.out.keep hs, h.len, fun i r x hr hx => ⟨(h.row i r x hr hx).1, (h.row i r x hr hx).2.keep hs⟩⟩
theorem NSr.mono (h : NSr n c fl sv m d lo hi w v rs L) (h1 : lo' ≤ lo) (h2 : hi ≤ hi') : NSr n c fl sv m d lo' hi' w v rs L :=
  ⟨h.out.mono h1 h2, h.len, fun i r x hr hx => ⟨(h.row i r x hr hx).1, (h.row i r x hr hx).2.mono h1 h2⟩⟩
theorem NSr.below {B : Nat} (h : NSr n c fl sv m d lo hi w v rs L) (hb : Below B w w') (hhi : hi ≤ B) : NSr n c fl sv m d lo hi w' v rs L := h.keep (Same.of_below hb hhi)
theorem NSr.ext (h : NSr n c fl sv m d lo hi w v rs L) (hb : Below w.heap.size w w') : NSr n c fl sv m d lo hi w' v rs L :=
  ⟨h.out.ext hb, h.len, fun i r x hr hx => ⟨(h.row i r x hr hx).1, (h.row i r x hr hx).2.ext hb⟩⟩
theorem NSw.keep (h : NSw n c fl sv m d lo hi w v rs L) (hs : Same lo hi w w') : NSw n c fl sv m d lo hi w' v rs L :=
  ⟨h.out.keep hs, h.len, fun i r x hr hx => ⟨(h.row i r x hr hx).1, (h.row i r x hr hx).2.keep hs⟩, h.apart, h.away⟩
theorem NSw.ext (h : NSw n c fl sv m d lo hi w v rs L) (hhi : hi ≤ w.heap.size) (hb : Below w.heap.size w w') : NSw n c fl sv m d lo hi w' v rs L := h.keep (Same.of_below hb hhi)
theorem NSw.widen (h : NSw n c fl sv m d lo hi w v rs L) (h1 : lo' ≤ lo) (h2 : hi ≤ hi') : NSw n c fl sv m d lo' hi' w v rs L :=
  ⟨h.out.widen h1 h2, h.len, fun i r x hr hx => ⟨(h.row i r x hr hx).1, (h.row i r x hr hx).2.widen h1 h2⟩, h.apart, h.away⟩

theorem NSr.at {b off len cap : Nat} (h : NSr n c fl sv m d lo hi w (.slice (some ⟨b, off, none⟩) len cap) rs L) {k : Nat} (hk : k < rs.length) :
    ∀ j u, (c rs[k])[j]? = some u → w.cell? ⟨b, off + k * n + j, none⟩ = some u := h.out.get k hk
theorem NSr.one (h : NSr n c fl sv m d lo hi w v rs L) {k : Nat} (hk : k < L.length) (hk' : k < rs.length) : fl rs[k] = L[k].1 ∧ Sl m d lo hi w (sv rs[k]).v L[k].2 :=
  h.row k _ _ (List.getElem?_eq_getElem hk') (List.getElem?_eq_getElem hk)
theorem nsr_take {a : Option Addr} {len cap k : Nat} (h : NSr n c fl sv m d lo hi w (.slice a len cap) rs L) (hk : k ≤ L.length) : NSr n c fl sv m d lo hi w (.slice a k cap) (rs.take k) (L.take k) := by
  refine ⟨h.out.take (by rw [h.len]; exact hk), by rw [List.length_take, List.length_take, h.len], fun i r x hr hx => ?_⟩
  rw [List.getElem?_take] at hr hx
  split at hr
  · rename_i hi; rw [if_pos hi] at hx; exact h.row i r x hr hx
  · cases hr
theorem nsr_nil : NSr n c fl sv m d lo hi w (.slice none 0 0) ([] : List ρ) ([] : List (φ × List α)) :=
  ⟨⟨none, 0, rfl, ⟨by simp, by omega⟩, fun h => absurd h (by simp)⟩, rfl, fun i r x h => by simp at h⟩
theorem nsw_nil : NSw n c fl sv m d lo hi w (.slice none 0 0) ([] : List ρ) ([] : List (φ × List α)) :=
  ⟨slw_nil, rfl, fun i r x h => by simp at h, fun i j r s x y h => by simp at h, fun i r x h => by simp at h⟩

/-- Rows of structs written from the head of a row on. -/
def FillN (n : Nat) (c : ρ → List Value) (rs : List ρ) (f : Nat → Value) : Prop := ∀ i (h : i < rs.length) j u, (c rs[i])[j]? = some u → f (i * n + j) = u
theorem fillN_nil {f : Nat → Value} : FillN n c ([] : List ρ) f := fun i h => absurd h (by simp)
theorem FillN.push {f g : Nat → Value} {r : ρ} (h : FillN n c rs f) (hn : ∀ x, (c x).length = n) (hg : ∀ j, (j < rs.length * n → g j = f j) ∧ (rs.length * n ≤ j → j < rs.length * n + n → some (g j) = (c r)[j - rs.length * n]?)) : FillN n c (rs ++ [r]) g := by
  intro i hi j u hu
  have hj : j < n := by rw [← hn (rs ++ [r])[i]]; exact (List.getElem?_eq_some_iff.1 hu).1
  rw [List.getElem_append] at hu
  by_cases h1 : i < rs.length
  · rw [dif_pos h1] at hu
    have h2 : i * n + n ≤ rs.length * n := by rw [← Nat.succ_mul]; exact Nat.mul_le_mul_right _ (by omega)
    rw [(hg (i * n + j)).1 (by omega)]
    exact h i h1 j u hu
  · have : i = rs.length := by simp at hi; omega
    subst this
    rw [dif_neg h1] at hu
    have h3 := (hg (rs.length * n + j)).2 (by omega) (by omega)
    simp at hu
    rw [Nat.add_sub_cancel_left, hu] at h3
    exact Option.some.inj h3

/-- Structs whose slices have been copied: behind block B, apart from each other. -/
structure CopiedN (fl : ρ → φ) (sv : ρ → SV) (m : Nat) (d : α → List Value) (B : Nat) (w : World) (rs : List ρ) (L : List (φ × List α)) : Prop where
  row : ∀ (i : Nat) (r : ρ) (x : φ × List α), rs[i]? = some r → L[i]? = some x → fl r = x.1 ∧ Slw m d (B + 1) w.heap.size w (sv r).v x.2
  apart : ∀ (i j : Nat) (r s : ρ) (x y : φ × List α), rs[i]? = some r → rs[j]? = some s → L[i]? = some x → L[j]? = some y → i ≠ j → 0 < x.2.length → 0 < y.2.length → (sv r).v.ownBlock ≠ (sv s).v.ownBlock
theorem copiedN_nil {B : Nat} : CopiedN fl sv m d B w ([] : List ρ) L := ⟨fun i r x h => by simp at h, fun i j r s x y h => by simp at h⟩
theorem CopiedN.push {B : Nat} {w1 w2 : World} (h : CopiedN fl sv m d B w rs L) (hk : rs.length < L.length) (hB : B < w.heap.size) (hb : Below w.heap.size w w1) {r : ρ} (hr : fl r = L[rs.length].1 ∧ Slw m d w.heap.size w1.heap.size w1 (sv r).v L[rs.length].2) (hm : Mod B (B + 1) w1 w2) : CopiedN fl sv m d B w2 (rs ++ [r]) L := by
  have hsz := hb.size
  have hsz2 := hm.size
  have key : ∀ (i : Nat) (s : ρ) (x : φ × List α), (rs ++ [r])[i]? = some s → L[i]? = some x → (rs[i]? = some s ∧ fl s = x.1 ∧ Slw m d (B + 1) w.heap.size w (sv s).v x.2) ∨ (i = rs.length ∧ fl s = x.1 ∧ Slw m d w.heap.size w1.heap.size w1 (sv s).v x.2) := by
    intro i s x hs hx
    rw [List.getElem?_append] at hs
    by_cases hi : i < rs.length
    · rw [if_pos hi] at hs
      exact .inl ⟨hs, h.row i s x hs hx⟩
    · rw [if_neg hi] at hs
      by_cases h0 : i - rs.length = 0
      · have : i = rs.length := by omega
        subst this
        rw [h0] at hs; simp at hs; subst hs
        rw [List.getElem?_eq_getElem hk] at hx
        cases hx
        exact .inr ⟨rfl, hr⟩
      · rw [List.getElem?_eq_none (by simp; omega)] at hs; cases hs
  refine ⟨?_, ?_⟩
  · intro i s x hs hx
    rcases key i s x hs hx with ⟨_, h0, h1⟩ | ⟨_, h0, h1⟩
    · exact ⟨h0, (((h1.keep (Same.of_below hb (Nat.le_refl _))).keep (hm.same (by omega) (.inr (Nat.le_refl _))))).widen (Nat.le_refl _) (by omega)⟩
    · exact ⟨h0, (h1.keep (hm.same (Nat.le_refl _) (.inr (by omega)))).widen (by omega) hsz2⟩
  · intro i j s t x y hs ht hx hy hij hx0 hy0 he
    rcases key i s x hs hx with ⟨h1, _, h2⟩ | ⟨h1, _, h2⟩
    · rcases key j t y ht hy with ⟨h3, _, h4⟩ | ⟨h3, _, h4⟩
      · exact h.apart i j s t x y h1 h3 hx hy hij hx0 hy0 he
      · obtain ⟨g, hg, _, hg2, _⟩ := h2.narrow hx0
        obtain ⟨g', hg', hg3, _, _⟩ := h4.narrow hy0
        rw [hg, hg'] at he; cases he; omega
    · rcases key j t y ht hy with ⟨h3, _, h4⟩ | ⟨h3, _, h4⟩
      · obtain ⟨g, hg, hg2, _, _⟩ := h2.narrow hx0
        obtain ⟨g', hg', _, hg3, _⟩ := h4.narrow hy0
        rw [hg, hg'] at he; cases he; omega
      · omega
/-- The copy whole. -/
theorem CopiedN.whole {B : Nat} {t : TypeId} {f : Nat → Value} (h : CopiedN fl sv m d B w rs L) (hl : rs.length = L.length) (hf : w.rowIs B t (L.length * n) f) (hfill : FillN n c rs f) (hn : ∀ x, (c x).length = n) (hm : L.length ≤ 9223372036854775807) :
    NSw n c fl sv m d B w.heap.size w (.slice (some ⟨B, 0, none⟩) L.length L.length) rs L := by
  refine ⟨?_, hl, fun i r x hr hx => ⟨(h.row i r x hr hx).1, (h.row i r x hr hx).2.widen (by omega) (Nat.le_refl _)⟩, h.apart, ?_⟩
  · have := Slw.of_row (l := rs) (n := n) (c := c) (lo := B) (hi := w.heap.size) (by rw [hl]; exact hf) (fun i hi _ j u hu => hfill i hi j u hu) hn (by omega) (Nat.le_refl _) hf.lt
    rw [hl] at this
    exact this
  · intro i r x hr hx hx0 he
    obtain ⟨g, hg, hg2, _, _⟩ := (h.row i r x hr hx).2.narrow hx0
    rw [hg] at he
    simp [Value.ownBlock] at he
    omega
end

/-- What copying one struct returns: the flat part as it was, the slice in new memory. -/
def ToN {ρ α : Type} (c : ρ → List Value) (mk : SV → ρ) (m : Nat) (d : α → List Value) (l : List α) (w : World) (e : Ending) (w' : World) : Prop :=
  ∃ s : SV, e = .returned (.agg (c (mk s)).toArray) ∧ Slw m d w.heap.size w'.heap.size w' s.v l ∧ Below w.heap.size w w'
theorem modN {α : Type} {m : Nat} {d : α → List Value} {w : World} {B : Nat} {w1 w2 : World} {v : Value} {l : List α} (hB : w.heap.size + 3 ≤ B) (hs2 : w1.heap.size ≤ w2.heap.size) (h : Slw m d B w1.heap.size w1 v l) (hm : Mod w.heap.size (w.heap.size + 3) w1 w2) :
    Slw m d w.heap.size w2.heap.size w2 v l :=
  (h.keep (hm.same (Nat.le_refl _) (.inr hB))).widen (by omega) hs2

theorem blkN_new (w : World) (o : Obj) : (w.alloc o).heap[w.heap.size]? = some o := Array.getElem?_push_size
theorem blkN_below {W W' : World} {p : Nat} {o : Obj} (hb : Below W.heap.size W W') (h : W.heap[p]? = some o) : W'.heap[p]? = some o := (hb.block p (Array.getElem?_eq_some_iff.1 h).1).trans h
/-- Lengths all told. -/
def totN {φ α : Type} (g : φ → Nat) : List (φ × List α) → Nat
  | [] => 0
  | x :: r => g x.1 + x.2.length + totN g r
theorem totN_append {φ α : Type} (g : φ → Nat) : ∀ (a b : List (φ × List α)), totN g (a ++ b) = totN g a + totN g b
  | [], b => by simp [totN]
  | x :: r, b => by simp only [List.cons_append, totN, totN_append g r b]; omega
theorem totN_take {φ α : Type} (g : φ → Nat) {L : List (φ × List α)} {k : Nat} (h : k < L.length) : totN g (L.take (k + 1)) = totN g (L.take k) + (g L[k].1 + L[k].2.length) := by
  rw [List.take_succ_eq_append_getElem h, totN_append]; simp [totN]
theorem totN_le {φ α : Type} (g : φ → Nat) (L : List (φ × List α)) (k : Nat) : totN g (L.take k) ≤ totN g L := by
  have := totN_append g (L.take k) (L.drop k)
  rw [List.take_append_drop] at this
  omega
end Go.Proofs.YtpabbehpkokhbaaDoor
