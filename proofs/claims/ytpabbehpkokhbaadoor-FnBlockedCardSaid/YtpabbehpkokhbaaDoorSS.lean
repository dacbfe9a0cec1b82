/- Slices of slices: readings. No program in sight. -/
import Derived.Test.YtpabbehpkokhbaaDoorOwn
namespace Go.Proofs.YtpabbehpkokhbaaDoor
open Go.RowKit

/-- A slice as a value of its own. -/
structure SV where
  a : Option Addr
  len : Nat
  cap : Nat
def SV.v (r : SV) : Value := .slice r.a r.len r.cap
def one (r : SV) : List Value := [r.v]
theorem one_len (v : SV) : (one v).length = 1 := rfl
theorem one_one (v : SV) : ∀ u ∈ one v, u.oneCell' = true := by intro u hu; simp [one] at hu; subst hu; rfl

section
variable {α : Type} {n : Nat} {c : α → List Value}

/-- v reads as the rows, each of which reads as its list. -/
structure SSr (n : Nat) (c : α → List Value) (lo hi : Nat) (w : World) (v : Value) (rows : List SV) (L : List (List α)) : Prop where
  out : Sl 1 one lo hi w v rows
  len : rows.length = L.length
  row : ∀ (i : Nat) (r : SV) (x : List α), rows[i]? = some r → L[i]? = some x → Sl n c lo hi w r.v x

/-- The same, of memory of the call's own; no two rows share memory. -/
structure SSw (n : Nat) (c : α → List Value) (lo hi : Nat) (w : World) (v : Value) (rows : List SV) (L : List (List α)) : Prop where
  out : Slw 1 one lo hi w v rows
  len : rows.length = L.length
  row : ∀ (i : Nat) (r : SV) (x : List α), rows[i]? = some r → L[i]? = some x → Slw n c lo hi w r.v x
  apart : ∀ (i j : Nat) (r s : SV) (x y : List α), rows[i]? = some r → rows[j]? = some s → L[i]? = some x → L[j]? = some y → i ≠ j → 0 < x.length → 0 < y.length → r.v.ownBlock ≠ s.v.ownBlock
  away : ∀ (i : Nat) (r : SV) (x : List α), rows[i]? = some r → L[i]? = some x → 0 < x.length → r.v.ownBlock ≠ v.ownBlock

theorem SSw.r {lo hi : Nat} {w : World} {v : Value} {rows : List SV} {L : List (List α)} (h : SSw n c lo hi w v rows L) : SSr n c lo hi w v rows L :=
  ⟨h.out.1, h.len, fun i r x hr hx => (h.row i r x hr hx).1⟩
theorem SSr.keep {lo hi : Nat} {w w' : World} {v : Value} {rows : List SV} {L : List (List α)} (h : SSr n c lo hi w v rows L) (hs : Same lo hi w w') : SSr n c lo hi w' v rows L :=
  ⟨h.out.keep hs, h.len, fun i r x hr hx => (h.row i r x hr hx).keep hs⟩
theorem SSr.below {lo hi B : Nat} {w w' : World} {v : Value} {rows : List SV} {L : List (List α)} (h : SSr n c lo hi w v rows L) (hb : Below B w w') (hhi : hi ≤ B) : SSr n c lo hi w' v rows L := h.keep (Same.of_below hb hhi)
theorem SSr.ext {lo hi : Nat} {w w' : World} {v : Value} {rows : List SV} {L : List (List α)} (h : SSr n c lo hi w v rows L) (hb : Below w.heap.size w w') : SSr n c lo hi w' v rows L :=
  ⟨h.out.ext hb, h.len, fun i r x hr hx => (h.row i r x hr hx).ext hb⟩
theorem SSw.keep {lo hi : Nat} {w w' : World} {v : Value} {rows : List SV} {L : List (List α)} (h : SSw n c lo hi w v rows L) (hs : Same lo hi w w') : SSw n c lo hi w' v rows L :=
  ⟨h.out.keep hs, h.len, fun i r x hr hx => (h.row i r x hr hx).keep hs, h.apart, h.away⟩

theorem SSw.ext {lo hi : Nat} {w w' : World} {v : Value} {rows : List SV} {L : List (List α)} (h : SSw n c lo hi w v rows L) (hhi : hi ≤ w.heap.size) (hb : Below w.heap.size w w') : SSw n c lo hi w' v rows L := h.keep (Same.of_below hb hhi)

theorem Slw.narrow {lo hi : Nat} {w : World} {v : Value} {l : List α} (h : Slw n c lo hi w v l) (h0 : 0 < l.length) : ∃ g, v.ownBlock = some g ∧ lo ≤ g ∧ g < hi ∧ Slw n c g (g + 1) w v l := by
  obtain ⟨⟨a, cap, rfl, hcap, hh⟩, hz⟩ := h
  obtain ⟨b, off, rfl, h1, h2, hc⟩ := hh h0
  exact ⟨b, rfl, h1, h2, ⟨_, _, rfl, hcap, fun _ => ⟨b, off, rfl, Nat.le_refl _, Nat.lt_succ_self _, hc⟩⟩, hz⟩
theorem Slw.widen {lo hi lo' hi' : Nat} {w : World} {v : Value} {l : List α} (h : Slw n c lo hi w v l) (h1 : lo' ≤ lo) (h2 : hi ≤ hi') : Slw n c lo' hi' w v l := ⟨h.1.mono h1 h2, h.2⟩
theorem Slw.none {lo hi lo' hi' : Nat} {w w' : World} {v : Value} {l : List α} (h : Slw n c lo hi w v l) (h0 : ¬ 0 < l.length) : Slw n c lo' hi' w' v l := by
  obtain ⟨⟨a, cap, rfl, hcap, hh⟩, hz⟩ := h
  exact ⟨⟨_, _, rfl, hcap, fun h => absurd h h0⟩, fun h => absurd h h0⟩

/-- One row turned, the others as they were. -/
theorem SSw.turn {lo hi : Nat} {w w' : World} {v : Value} {rows : List SV} {L : List (List α)} (h : SSw n c lo hi w v rows L) (hhi : hi ≤ w.heap.size) {i : Nat} {r : SV} {x x' : List α} (hr : rows[i]? = some r) (hx : L[i]? = some x)
    (hs : ∀ k, k < w.heap.size → (0 < x.length → r.v.ownBlock ≠ some k) → w'.heap[k]? = w.heap[k]?) (hx' : Slw n c lo hi w' r.v x') (hl : x'.length = x.length) : SSw n c lo hi w' v rows (L.set i x') := by
  have hiL : i < L.length := (List.getElem?_eq_some_iff.1 hx).1
  have key : ∀ (j : Nat) (y : List α), (L.set i x')[j]? = some y → ∃ z, L[j]? = some z ∧ z.length = y.length ∧ (i ≠ j → z = y) ∧ (i = j → y = x') := by
    intro j y hy
    rw [List.getElem?_set] at hy
    by_cases hij : i = j
    · subst hij
      rw [if_pos rfl, if_pos hiL] at hy
      cases hy
      exact ⟨x, hx, hl.symm, fun h => absurd rfl h, fun _ => rfl⟩
    · rw [if_neg hij] at hy
      exact ⟨y, hy, rfl, fun _ => rfl, fun h => absurd h hij⟩
  have outer : Slw 1 one lo hi w' v rows := by
    by_cases h0 : 0 < rows.length
    · obtain ⟨g, hg, h1, h2, hn⟩ := h.out.narrow h0
      refine (hn.keep fun k hk1 hk2 => ?_).widen h1 h2
      have : k = g := by omega
      subst this
      exact hs k (by omega) fun h3 h4 => h.away i r x hr hx h3 (by rw [h4, hg])
    · exact h.out.none h0
  refine ⟨outer, by rw [List.length_set]; exact h.len, ?_, ?_, ?_⟩
  · intro j s y hsj hy
    obtain ⟨z, hz, hzl, hne, heq⟩ := key j y hy
    by_cases hij : i = j
    · subst hij
      rw [hr] at hsj
      cases hsj
      rw [heq rfl]; exact hx'
    · have := hne hij
      subst this
      by_cases h0 : 0 < z.length
      · obtain ⟨g, hg, h1, h2, hn⟩ := (h.row j s z hsj hz).narrow h0
        refine (hn.keep fun k hk1 hk2 => ?_).widen h1 h2
        have : k = g := by omega
        subst this
        exact hs k (by omega) fun h3 h4 => h.apart i j r s x z hr hsj hx hz hij h3 h0 (by rw [h4, hg])
      · exact (h.row j s z hsj hz).none h0
  · intro j k s t y z hsj htk hy hz hjk hy0 hz0
    obtain ⟨y', hy', hyl, _⟩ := key j y hy
    obtain ⟨z', hz', hzl, _⟩ := key k z hz
    exact h.apart j k s t y' z' hsj htk hy' hz' hjk (by omega) (by omega)
  · intro j s y hsj hy hy0
    obtain ⟨y', hy', hyl, _⟩ := key j y hy
    exact h.away j s y' hsj hy' (by omega)

/-- Rows that the call builds by append, in a slice that it builds by append. -/
structure OwnSS (n : Nat) (c : α → List Value) (lo : Nat) (te e : TypeId) (w : World) (v : Value) (rows : List SV) (L : List (List α)) : Prop where
  out : Own 1 one lo te w v rows
  len : rows.length = L.length
  row : ∀ (i : Nat) (r : SV) (x : List α), rows[i]? = some r → L[i]? = some x → Own n c lo e w r.v x
  apart : ∀ (i j : Nat) (r s : SV) (g : Nat), rows[i]? = some r → rows[j]? = some s → i ≠ j → r.v.ownBlock = some g → s.v.ownBlock ≠ some g

theorem Own.block {lo g : Nat} {e : TypeId} {w : World} {v : Value} {l : List α} (h : Own n c lo e w v l) (hg : v.ownBlock = some g) : ∃ cur fz, w.heap[g]? = some (.cells cur e fz) := by
  obtain ⟨_, ⟨rfl, _⟩ | ⟨g', cap, cur, rfl, _, hh, _⟩⟩ := h
  · cases hg
  · cases hg; exact ⟨_, _, hh⟩
theorem Own.lower {lo lo' : Nat} {e : TypeId} {w : World} {v : Value} {l : List α} (h : Own n c lo e w v l) (hl : lo' ≤ lo) : Own n c lo' e w v l := by
  obtain ⟨h1, h2 | ⟨g, cap, cur, h2, h3, h4⟩⟩ := h
  · exact ⟨h1, .inl h2⟩
  · exact ⟨h1, .inr ⟨g, cap, cur, h2, Nat.le_trans hl h3, h4⟩⟩
theorem OwnSS.below {lo : Nat} {te e : TypeId} {w w' : World} {v : Value} {rows : List SV} {L : List (List α)} (h : OwnSS n c lo te e w v rows L) (hb : Below w.heap.size w w') : OwnSS n c lo te e w' v rows L :=
  ⟨h.out.below hb, h.len, fun i r x hr hx => (h.row i r x hr hx).below hb, h.apart⟩
theorem OwnSS.push {lo : Nat} {te e : TypeId} (hte : te ≠ e) {w w1 w2 : World} {v v' : Value} {rows : List SV} {L : List (List α)} {r : SV} {x : List α} (h : OwnSS n c lo te e w v rows L) (hlo : lo ≤ w.heap.size) (hb : Below w.heap.size w w1) (hr : Own n c w.heap.size e w1 r.v x)
    (hv : Own 1 one lo te w2 v' (rows ++ [r])) (hg : (w1.alloc (.cells (one r).toArray te)).grownBy w2 v.ownBlock) : OwnSS n c lo te e w2 v' (rows ++ [r]) (L ++ [x]) := by
  have h1 := h.below hb
  have kept : ∀ {lo' : Nat} (s : SV) (y : List α), Own n c lo' e w1 s.v y → Own n c lo' e w2 s.v y := by
    intro lo' s y hs
    refine World.ownsRow.kept (hs.alloc _) hg ?_
    cases hsb : s.v.ownBlock with
    | none => exact .inl rfl
    | some g =>
      refine .inr fun hgv => ?_
      obtain ⟨cur, fz, hc⟩ := hs.block hsb
      obtain ⟨cur', fz', hc'⟩ := h1.out.block hgv.symm
      rw [hc] at hc'
      cases hc'
      exact hte rfl
  have hlt : ∀ (i : Nat) (s : SV) (g : Nat), rows[i]? = some s → s.v.ownBlock = some g → g < w.heap.size := by
    intro i s g hs hg
    have hiL : i < L.length := by rw [← h.len]; exact (List.getElem?_eq_some_iff.1 hs).1
    exact (World.ownsRow.lt (h.row i s L[i] hs (List.getElem?_eq_getElem hiL)) g hg).2
  refine ⟨hv, by simp [h.len], ?_, ?_⟩
  · intro i s y hs hy
    rw [List.getElem?_append] at hs hy
    by_cases hi : i < rows.length
    · rw [if_pos hi] at hs
      rw [if_pos (by rw [← h.len]; exact hi)] at hy
      exact kept s y (h1.row i s y hs hy)
    · rw [if_neg hi] at hs
      rw [if_neg (by rw [← h.len]; exact hi), ← h.len] at hy
      by_cases h0 : i - rows.length = 0
      · rw [h0] at hs hy
        simp at hs hy
        subst hs hy
        exact kept _ _ (hr.lower hlo)
      · rw [List.getElem?_eq_none (by simp; omega)] at hs
        cases hs
  · intro i j s t g hs ht hij hsg htg
    rw [List.getElem?_append] at hs ht
    by_cases hi : i < rows.length
    · rw [if_pos hi] at hs
      by_cases hj : j < rows.length
      · rw [if_pos hj] at ht
        exact h.apart i j s t g hs ht hij hsg htg
      · rw [if_neg hj] at ht
        have h2 := hlt i s g hs hsg
        by_cases h0 : j - rows.length = 0
        · rw [h0] at ht; simp at ht; subst ht
          have := (World.ownsRow.lt hr g htg).1
          omega
        · rw [List.getElem?_eq_none (by simp; omega)] at ht; cases ht
    · rw [if_neg hi] at hs
      by_cases h0 : i - rows.length = 0
      · rw [h0] at hs; simp at hs; subst hs
        have h3 := (World.ownsRow.lt hr g hsg).1
        by_cases hj : j < rows.length
        · rw [if_pos hj] at ht
          have h2 := hlt j t g ht htg
          omega
        · rw [if_neg hj] at ht
          by_cases h0' : j - rows.length = 0
          · omega
          · rw [List.getElem?_eq_none (by simp; omega)] at ht; cases ht
      · rw [List.getElem?_eq_none (by simp; omega)] at hs; cases hs
theorem ownSS_nil {lo : Nat} {te e : TypeId} {w : World} {v : Value} (h : Own 1 one lo te w v []) : OwnSS n c lo te e w v [] ([] : List (List α)) :=
  ⟨h, rfl, fun i r x hr => by simp at hr, fun i j r s g hr => by simp at hr⟩
theorem OwnSS.w (hc : ∀ x, (c x).length = n) {lo : Nat} {te e : TypeId} (hte : te ≠ e) {w : World} {v : Value} {rows : List SV} {L : List (List α)} (h : OwnSS n c lo te e w v rows L) : SSw n c lo w.heap.size w v rows L := by
  refine ⟨h.out.slw one_len, h.len, fun i r x hr hx => (h.row i r x hr hx).slw hc, ?_, ?_⟩
  · intro i j r s x y hr hs hx hy hij hx0 hy0 he
    obtain ⟨g, hg, _⟩ := ((h.row i r x hr hx).slw hc).narrow hx0
    exact h.apart i j r s g hr hs hij hg (by rw [← he, hg])
  · intro i r x hr hx hx0 he
    obtain ⟨g, hg, _⟩ := ((h.row i r x hr hx).slw hc).narrow hx0
    obtain ⟨cur, fz, h1⟩ := (h.row i r x hr hx).block hg
    obtain ⟨cur', fz', h2⟩ := h.out.block (by rw [← he, hg])
    rw [h1] at h2
    cases h2
    exact hte rfl
end

/-- Numbers in place of the elements, row by row, from k on. -/
def numSS {α β : Type} (f : Nat → Nat → List β) : Nat → List (List α) → List (List β)
  | _, [] => []
  | k, x :: r => f x.length k :: numSS f (k + x.length) r
def totSS {α : Type} : List (List α) → Nat
  | [] => 0
  | x :: r => x.length + totSS r
theorem totSS_append {α : Type} : ∀ (a b : List (List α)), totSS (a ++ b) = totSS a + totSS b
  | [], b => by simp [totSS]
  | x :: r, b => by simp only [List.cons_append, totSS, totSS_append r b]; omega
theorem numSS_append {α β : Type} (f : Nat → Nat → List β) : ∀ (k : Nat) (a b : List (List α)), numSS f k (a ++ b) = numSS f k a ++ numSS f (k + totSS a) b
  | k, [], b => by simp [numSS, totSS]
  | k, x :: r, b => by simp only [List.cons_append, numSS, totSS, numSS_append f _ r b, Nat.add_assoc]
theorem numSS_len {α β : Type} (f : Nat → Nat → List β) : ∀ (k : Nat) (a : List (List α)), (numSS f k a).length = a.length
  | _, [] => rfl
  | k, x :: r => by simp only [numSS, List.length_cons, numSS_len f _ r]
theorem totSS_take {α : Type} {L : List (List α)} {k : Nat} (h : k < L.length) : totSS (L.take (k + 1)) = totSS (L.take k) + L[k].length := by
  rw [List.take_succ_eq_append_getElem h, totSS_append]; simp [totSS]
theorem totSS_le {α : Type} (L : List (List α)) (k : Nat) : totSS (L.take k) ≤ totSS L := by
  have := totSS_append (L.take k) (L.drop k)
  rw [List.take_append_drop] at this
  omega
theorem numSS_get {α β : Type} (f : Nat → Nat → List β) {k i : Nat} {L : List (List α)} (h : i < L.length) : (numSS f k L)[i]? = some (f L[i].length (k + totSS (L.take i))) := by
  have h1 : L = L.take i ++ (L[i] :: L.drop (i + 1)) := by rw [← List.drop_eq_getElem_cons h, List.take_append_drop]
  have h2 : numSS f k L = numSS f k (L.take i) ++ numSS f (k + totSS (L.take i)) (L[i] :: L.drop (i + 1)) := by rw [← numSS_append, ← h1]
  rw [h2, List.getElem?_append_right (by rw [numSS_len, List.length_take]; omega), numSS_len, List.length_take, show i - min i L.length = 0 by omega]
  rfl
end Go.Proofs.YtpabbehpkokhbaaDoor
