/- Slices of structs with one slice: one row turned; marks. No program in sight. -/
import Derived.Test.YtijpghlkbfmefaaDoorNS
namespace Go.Proofs.YtijpghlkbfmefaaDoor
open Go.RowKit
section
variable {ρ φ α : Type} {n m : Nat} {c : ρ → List Value} {d : α → List Value} {fl : ρ → φ} {sv : ρ → SV}
variable {lo hi : Nat} {w w' : World} {v : Value} {rs : List ρ} {L : List (φ × List α)}

theorem set_key {β : Type} {L : List β} {i : Nat} {x x' : β} (hx : L[i]? = some x) (j : Nat) (y : β) (hy : (L.set i x')[j]? = some y) : ∃ z, L[j]? = some z ∧ (i ≠ j → z = y) ∧ (i = j → y = x' ∧ z = x) := by
  rw [List.getElem?_set] at hy
  by_cases hij : i = j
  · subst hij
    rw [if_pos rfl, if_pos (List.getElem?_eq_some_iff.1 hx).1] at hy
    cases hy
    exact ⟨x, hx, fun h => absurd rfl h, fun _ => ⟨rfl, rfl⟩⟩
  · rw [if_neg hij] at hy
    exact ⟨y, hy, fun _ => rfl, fun h => absurd h hij⟩

/-- One struct's slice turned, the others as they were. -/
theorem NSw.turn (h : NSw n c fl sv m d lo hi w v rs L) (hhi : hi ≤ w.heap.size) {i : Nat} {r : ρ} {x : φ × List α} {x' : List α} (hr : rs[i]? = some r) (hx : L[i]? = some x)
    (hs : ∀ k, k < w.heap.size → (0 < x.2.length → (sv r).v.ownBlock ≠ some k) → w'.heap[k]? = w.heap[k]?) (hx' : Slw m d lo hi w' (sv r).v x') (hl : x'.length = x.2.length) : NSw n c fl sv m d lo hi w' v rs (L.set i (x.1, x')) := by
  have key : ∀ (j : Nat) (y : φ × List α), (L.set i (x.1, x'))[j]? = some y → ∃ z, L[j]? = some z ∧ z.2.length = y.2.length ∧ z.1 = y.1 ∧ (i ≠ j → z = y) ∧ (i = j → y = (x.1, x')) := by
    intro j y hy
    obtain ⟨z, hz, h1, h2⟩ := set_key hx j y hy
    by_cases hij : i = j
    · obtain ⟨h3, h4⟩ := h2 hij
      subst h3 h4
      exact ⟨z, hz, hl.symm, rfl, h1, fun _ => rfl⟩
    · have := h1 hij
      subst this
      exact ⟨z, hz, rfl, rfl, fun _ => rfl, fun h => absurd h hij⟩
  have outer : Slw n c lo hi w' v rs := by
    by_cases h0 : 0 < rs.length
    · obtain ⟨g, hg, h1, h2, hn⟩ := h.out.narrow h0
      refine (hn.keep fun k hk1 hk2 => ?_).widen h1 h2
      have : k = g := by omega
      subst this
      exact hs k (by omega) fun h3 h4 => h.away i r x hr hx h3 (by rw [h4, hg])
    · exact h.out.none h0
  refine ⟨outer, by rw [List.length_set]; exact h.len, ?_, ?_, ?_⟩
  · intro j s y hsj hy
    obtain ⟨z, hz, hzl, hz1, hne, heq⟩ := key j y hy
    have h0 := h.row j s z hsj hz
    refine ⟨h0.1.trans hz1, ?_⟩
    by_cases hij : i = j
    · subst hij
      rw [hr] at hsj
      cases hsj
      rw [heq rfl]; exact hx'
    · have := hne hij
      subst this
      by_cases h0' : 0 < z.2.length
      · obtain ⟨g, hg, h1, h2, hn⟩ := h0.2.narrow h0'
        refine (hn.keep fun k hk1 hk2 => ?_).widen h1 h2
        have : k = g := by omega
        subst this
        exact hs k (by omega) fun h3 h4 => h.apart i j r s x z hr hsj hx hz hij h3 h0' (by rw [h4, hg])
      · exact h0.2.none h0'
  · intro j k s t y z hsj htk hy hz hjk hy0 hz0
    obtain ⟨y', hy', hyl, _⟩ := key j y hy
    obtain ⟨z', hz', hzl, _⟩ := key k z hz
    exact h.apart j k s t y' z' hsj htk hy' hz' hjk (by omega) (by omega)
  · intro j s y hsj hy hy0
    obtain ⟨y', hy', hyl, _⟩ := key j y hy
    exact h.away j s y' hsj hy' (by omega)

/-- One struct's flat part turned. -/
theorem NSw.flat (h : NSw n c fl sv m d lo hi w v rs L) (hhi : hi ≤ w.heap.size) {g i : Nat} {r r' : ρ} {x : φ × List α} (hg : v.ownBlock = some g) (hr : rs[i]? = some r) (hx : L[i]? = some x) (hsv : sv r' = sv r)
    (hs : ∀ k, k < w.heap.size → k ≠ g → w'.heap[k]? = w.heap[k]?) (hout : Slw n c lo hi w' v (rs.set i r')) : NSw n c fl sv m d lo hi w' v (rs.set i r') (L.set i (fl r', x.2)) := by
  have keyL : ∀ (j : Nat) (y : φ × List α), (L.set i (fl r', x.2))[j]? = some y → ∃ z, L[j]? = some z ∧ z.2 = y.2 ∧ (i ≠ j → z = y) ∧ (i = j → y = (fl r', x.2)) := by
    intro j y hy
    obtain ⟨z, hz, h1, h2⟩ := set_key hx j y hy
    by_cases hij : i = j
    · obtain ⟨h3, h4⟩ := h2 hij
      subst h3 h4
      exact ⟨z, hz, rfl, h1, fun _ => rfl⟩
    · have := h1 hij
      subst this
      exact ⟨z, hz, rfl, fun _ => rfl, fun h => absurd h hij⟩
  have keyR : ∀ (j : Nat) (s : ρ), (rs.set i r')[j]? = some s → ∃ s0, rs[j]? = some s0 ∧ sv s = sv s0 ∧ (i ≠ j → s0 = s) ∧ (i = j → s = r') := by
    intro j y hy
    obtain ⟨z, hz, h1, h2⟩ := set_key hr j y hy
    by_cases hij : i = j
    · obtain ⟨h3, h4⟩ := h2 hij
      subst h3 h4
      exact ⟨z, hz, hsv, h1, fun _ => rfl⟩
    · have := h1 hij
      subst this
      exact ⟨z, hz, rfl, fun _ => rfl, fun h => absurd h hij⟩
  refine ⟨hout, by rw [List.length_set, List.length_set]; exact h.len, ?_, ?_, ?_⟩
  · intro j s y hs' hy
    obtain ⟨z, hz, hz2, hzn, hze⟩ := keyL j y hy
    obtain ⟨s0, hs0, hsv0, hsn, hse⟩ := keyR j s hs'
    have h0 := h.row j s0 z hs0 hz
    refine ⟨?_, ?_⟩
    · by_cases hij : i = j
      · rw [hse hij, hze hij]
      · rw [← hsn hij, ← hzn hij]; exact h0.1
    · rw [hsv0, ← hz2]
      by_cases h1 : 0 < z.2.length
      · obtain ⟨g2, hg2, h3, h4, hn⟩ := h0.2.narrow h1
        refine (hn.keep fun k hk1 hk2 => ?_).widen h3 h4
        have : k = g2 := by omega
        subst this
        exact hs k (by omega) fun e => h.away j s0 z hs0 hz h1 (by rw [hg2, hg, e])
      · exact h0.2.none h1
  · intro j k s t y z hsj htk hy hz hjk hy0 hz0
    obtain ⟨y', hy', hy2, _⟩ := keyL j y hy
    obtain ⟨z', hz', hz2, _⟩ := keyL k z hz
    obtain ⟨s0, hs0, hsv0, _⟩ := keyR j s hsj
    obtain ⟨t0, ht0, htv0, _⟩ := keyR k t htk
    rw [hsv0, htv0]
    exact h.apart j k s0 t0 y' z' hs0 ht0 hy' hz' hjk (by rw [hy2]; exact hy0) (by rw [hz2]; exact hz0)
  · intro j s y hsj hy hy0
    obtain ⟨y', hy', hy2, _⟩ := keyL j y hy
    obtain ⟨s0, hs0, hsv0, _⟩ := keyR j s hsj
    rw [hsv0]
    exact h.away j s0 y' hs0 hy' (by rw [hy2]; exact hy0)

/-- One cell of a struct's flat part stored. -/
theorem NSw.put (hn : ∀ x, (c x).length = n) {b off len cap : Nat} (h : NSw n c fl sv m d lo hi w (.slice (some ⟨b, off, none⟩) len cap) rs L) (hhi : hi ≤ w.heap.size) {i j : Nat} (hiL : i < L.length) (hiR : i < rs.length) (hj : j < n) {u : Value} {r' : ρ} (hcells : c r' = (c rs[i]).set j u) (hsv : sv r' = sv rs[i]) :
    NSw n c fl sv m d lo hi (w.setCell ⟨b, off + i * n + j, none⟩ u) (.slice (some ⟨b, off, none⟩) len cap) (rs.set i r') (L.set i (fl r', L[i].2)) ∧ lo ≤ b ∧ b < hi := by
  obtain ⟨b', off', cap', hv, hcp, hraw⟩ := Raw.of h.out hn (by omega)
  cases hv
  have hs := (hraw.self (k := i) (by simpa using hiR))
  rw [List.getElem_map] at hs
  have hs := hs.store (j := j) (u := u) (by simpa using hiR) hj rfl
  refine ⟨h.flat hhi (g := b) rfl (List.getElem?_eq_getElem hiR) (List.getElem?_eq_getElem hiL) hsv (fun k _ hne => Below.heap_setCell _ _ _ _ hne) (hs.back _ (fun q hq => ?_) (by rw [List.length_set]) (by rw [List.length_set]; exact hcp)), hraw.lo, hraw.hi⟩
  rw [← hcells, ← List.map_set, List.getElem?_map, List.getElem?_eq_getElem hq]; rfl

/-- Marks: a flat part takes a numbers, an element of its slice p. -/
def numM (a : Nat) (mf : Nat → φ) (p : Nat) (mi : Nat → Nat → List α) : Nat → List (φ × List α) → List (φ × List α)
  | _, [] => []
  | k, x :: r => (mf k, mi x.2.length (k + a)) :: numM a mf p mi (k + (a + x.2.length * p)) r
def totM (a p : Nat) : List (φ × List α) → Nat
  | [] => 0
  | x :: r => (a + x.2.length * p) + totM a p r
theorem totM_append (a p : Nat) : ∀ (x y : List (φ × List α)), totM a p (x ++ y) = totM a p x + totM a p y
  | [], y => by simp [totM]
  | x :: r, y => by simp only [List.cons_append, totM, totM_append a p r y]; omega
theorem totM_take (a p : Nat) {k : Nat} (h : k < L.length) : totM a p (L.take (k + 1)) = totM a p (L.take k) + (a + L[k].2.length * p) := by
  rw [List.take_succ_eq_append_getElem h, totM_append]; simp [totM]
theorem totM_le (a p : Nat) (L : List (φ × List α)) (k : Nat) : totM a p (L.take k) ≤ totM a p L := by
  have := totM_append a p (L.take k) (L.drop k)
  rw [List.take_append_drop] at this
  omega
theorem numM_append (a : Nat) (mf : Nat → φ) (p : Nat) (mi : Nat → Nat → List α) : ∀ (x y : List (φ × List α)) (k : Nat), numM a mf p mi k (x ++ y) = numM a mf p mi k x ++ numM a mf p mi (k + totM a p x) y
  | [], y, k => by simp [numM, totM]
  | x :: r, y, k => by simp only [List.cons_append, numM, totM, numM_append a mf p mi r y]; rw [Nat.add_assoc k]
theorem numM_len (a : Nat) (mf : Nat → φ) (p : Nat) (mi : Nat → Nat → List α) : ∀ (x : List (φ × List α)) (k : Nat), (numM a mf p mi k x).length = x.length
  | [], k => rfl
  | x :: r, k => by simp [numM, numM_len a mf p mi r]
theorem numM_get (a : Nat) (mf : Nat → φ) (p : Nat) (mi : Nat → Nat → List α) {j : Nat} (k : Nat) (h : j < L.length) : (numM a mf p mi k L)[j]? = some (mf (k + totM a p (L.take j)), mi L[j].2.length (k + totM a p (L.take j) + a)) := by
  have h1 : L = L.take j ++ L[j] :: L.drop (j + 1) := by rw [← List.drop_eq_getElem_cons h, List.take_append_drop]
  have h2 : numM a mf p mi k L = numM a mf p mi k (L.take j) ++ (mf (k + totM a p (L.take j)), mi L[j].2.length (k + totM a p (L.take j) + a)) :: numM a mf p mi (k + totM a p (L.take j) + (a + L[j].2.length * p)) (L.drop (j + 1)) := by
    conv => lhs; rw [h1]
    rw [numM_append]; rfl
  rw [h2, List.getElem?_append_right (by rw [numM_len, List.length_take]; omega), numM_len, List.length_take, show j - min j L.length = 0 from by omega]
  rfl
/-- What stands after j rounds, and what a round makes of it. -/
def midM (a : Nat) (mf : Nat → φ) (p : Nat) (mi : Nat → Nat → List α) (k : Nat) (L : List (φ × List α)) (j : Nat) : List (φ × List α) := numM a mf p mi k (L.take j) ++ L.drop j
theorem midM_get (a : Nat) (mf : Nat → φ) (p : Nat) (mi : Nat → Nat → List α) (k : Nat) {j : Nat} (h : j < L.length) : (midM a mf p mi k L j)[j]? = some L[j] := by
  unfold midM
  rw [List.getElem?_append_right (by rw [numM_len, List.length_take]; omega), numM_len, List.length_take, show j - min j L.length = 0 from by omega, List.getElem?_drop, Nat.add_zero, List.getElem?_eq_getElem h]
theorem midM_next (a : Nat) (mf : Nat → φ) (p : Nat) (mi : Nat → Nat → List α) (k : Nat) {j : Nat} (h : j < L.length) (y : φ × List α) : ((midM a mf p mi k L j).set j y).set j (mf (k + totM a p (L.take j)), mi L[j].2.length (k + totM a p (L.take j) + a)) = midM a mf p mi k L (j + 1) := by
  have hn : (numM a mf p mi k (L.take j)).length = j := by rw [numM_len, List.length_take]; omega
  unfold midM
  rw [List.set_set, List.set_append_right _ _ (by omega), hn, Nat.sub_self, List.drop_eq_getElem_cons h, List.set_cons_zero, List.take_succ_eq_append_getElem h, numM_append]
  simp [numM]
theorem midM_zero (a : Nat) (mf : Nat → φ) (p : Nat) (mi : Nat → Nat → List α) (k : Nat) (L : List (φ × List α)) : midM a mf p mi k L 0 = L := by simp [midM, numM]
theorem midM_all (a : Nat) (mf : Nat → φ) (p : Nat) (mi : Nat → Nat → List α) (k : Nat) (L : List (φ × List α)) : midM a mf p mi k L L.length = numM a mf p mi k L := by simp [midM]
theorem midM_len (a : Nat) (mf : Nat → φ) (p : Nat) (mi : Nat → Nat → List α) (k : Nat) {j : Nat} (h : j ≤ L.length) : (midM a mf p mi k L j).length = L.length := by
  unfold midM; rw [List.length_append, numM_len, List.length_take, List.length_drop]; omega
end
end Go.Proofs.YtijpghlkbfmefaaDoor
