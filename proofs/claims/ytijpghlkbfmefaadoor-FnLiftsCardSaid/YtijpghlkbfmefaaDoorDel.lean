/- One struct taken out of a slice in place. -/
import Derived.Test.YtijpghlkbfmefaaDoorNM
import Derived.Test.YtijpghlkbfmefaaDoorPh
import Derived.Lib.SliceRun
import Derived.Deep.RegionLaw
import Derived.Deep.Upon
namespace Go.Proofs.YtijpghlkbfmefaaDoor
open Go.RowKit
section
variable {ρ φ α : Type} {n m : Nat} {c : ρ → List Value} {d : α → List Value} {fl : ρ → φ} {sv : ρ → SV}
theorem size_setCells' (b : Nat) : ∀ (vs : List Value) (o : Nat) (w : World), (w.setCells b o vs).heap.size = w.heap.size
  | [], _, _ => rfl
  | v :: r, o, w => by rw [World.setCells, size_setCells' b r]; simp [World.setCell]
theorem mod_setCells {lo hi b : Nat} (h1 : lo ≤ b) (h2 : b < hi) : ∀ (vs : List Value) (o : Nat) {a w : World}, Mod lo hi a w → Mod lo hi a (w.setCells b o vs)
  | [], _, _, _, h => h
  | v :: r, o, a, w, h => by rw [World.setCells]; exact mod_setCells h1 h2 r (o + 1) (h.setCell (p := ⟨b, o, none⟩) h1 h2 v)
theorem erase_at {β : Type} (l : List β) (i : Nat) {j : Nat} {y : β} (h : (l.eraseIdx i)[j]? = some y) : ∃ k, l[k]? = some y ∧ ((j < i ∧ k = j) ∨ (i ≤ j ∧ k = j + 1)) := by
  rw [List.getElem?_eraseIdx] at h
  by_cases hj : j < i
  · rw [if_pos hj] at h; exact ⟨j, h, .inl ⟨hj, rfl⟩⟩
  · rw [if_neg hj] at h; exact ⟨j + 1, h, .inr ⟨by omega, rfl⟩⟩
theorem NSw.erase {lo hi b off cap : Nat} {w W : World} {rs : List ρ} {L : List (φ × List α)} (hn : ∀ x, (c x).length = n) (h : NSw n c fl sv m d lo hi w (.slice (some ⟨b, off, none⟩) L.length cap) rs L) (hhi : hi ≤ w.heap.size) (hW : Mod lo hi w W) (hWh : W.heap = w.heap) {i : Nat} (hi' : i < L.length) (zs : List Value) :
    NSw n c fl sv m d lo hi ((W.setCells b (off + i * n) ((rs.drop (i + 1)).flatMap c)).setCells b (off + (L.length - 1) * n) zs) (.slice (some ⟨b, off, none⟩) (L.length - 1) cap) (rs.eraseIdx i) (L.eraseIdx i) ∧
    Mod lo hi w ((W.setCells b (off + i * n) ((rs.drop (i + 1)).flatMap c)).setCells b (off + (L.length - 1) * n) zs) := by
  have hl := h.len
  have hir : i < rs.length := by omega
  obtain ⟨b', off', cap', hv, hcp, hraw⟩ := Raw.of h.out hn (by omega)
  rw [hl] at hv
  cases hv
  have hbl := hraw.lo
  have hbh := hraw.hi
  have hlen : (rs.eraseIdx i).length = L.length - 1 := by rw [List.length_eraseIdx, if_pos hir, hl]
  have hcW : ∀ a, W.cell? a = w.cell? a := fun a => World.cell?_of_block (by rw [hWh])
  have hfW : ∀ a, W.frozen? a = w.frozen? a := fun a => World.frozen?_of_block (by rw [hWh])
  have hflat : ((rs.drop (i + 1)).flatMap c).length = (L.length - (i + 1)) * n := by rw [flat_len hn, List.length_drop, hl]
  have hcell : ∀ (k : Nat) (hk : k < rs.length) (j : Nat) (u : Value), (c rs[k])[j]? = some u → w.cell? ⟨b, off + k * n + j, none⟩ = some u := fun k hk j u hu => hraw.cell k (by simpa using hk) j u (by simpa using hu)
  have mulle : ∀ {x y : Nat}, x < y → x * n + n ≤ y * n := fun {x y} hxy => by rw [← Nat.succ_mul]; exact Nat.mul_le_mul_right _ hxy
  have hother : ∀ k, k < w.heap.size → k ≠ b → ((W.setCells b (off + i * n) ((rs.drop (i + 1)).flatMap c)).setCells b (off + (L.length - 1) * n) zs).heap[k]? = w.heap[k]? := fun k hk hne => by
    rw [World.heap_setCells_other _ _ _ _ (by rw [size_setCells', hWh]; exact hk) hne, World.heap_setCells_other _ _ _ _ (by rw [hWh]; exact hk) hne, hWh]
  refine ⟨⟨?_, by rw [hlen, List.length_eraseIdx, if_pos hi'], ?_, ?_, ?_⟩, mod_setCells hbl hbh _ _ (mod_setCells hbl hbh _ _ hW)⟩
  · refine ⟨⟨_, _, by rw [hlen], ⟨by omega, hcp.2⟩, fun _ => ⟨b, off, rfl, hbl, hbh, fun k hk j u hu => ?_⟩⟩, ?_⟩
    · have hk' : k < L.length - 1 := by rw [hlen] at hk; exact hk
      have hj : j < n := by have := (List.getElem?_eq_some_iff.1 hu).1; rwa [hn] at this
      have h1 := mulle hk'
      rw [World.cell?_setCells_out _ _ _ _ _ (fun _ _ => .inl (by show off + k * n + j < off + (L.length - 1) * n; omega))]
      obtain ⟨k', hk2, hcase⟩ := erase_at rs i (List.getElem?_eq_getElem hk)
      obtain ⟨hk3, hk4⟩ := List.getElem?_eq_some_iff.1 hk2
      rw [← hk4] at hu
      rcases hcase with ⟨h2, hk0⟩ | ⟨h2, hk0⟩
      · have hk0 := hk0.symm
        subst hk0
        have h3 := mulle h2
        rw [World.cell?_setCells_out _ _ _ _ _ (fun _ _ => .inl (by show off + k * n + j < off + i * n; omega)), hcW]
        exact hcell k hk3 j u hu
      · subst hk0
        have h3 : i * n ≤ k * n := Nat.mul_le_mul_right _ h2
        have h4 : (k - i) * n + n ≤ (L.length - (i + 1)) * n := mulle (show k - i < L.length - (i + 1) by omega)
        have h5 : (k - i) * n = k * n - i * n := Nat.sub_mul _ _ _
        have hlt : (k - i) * n + j < ((rs.drop (i + 1)).flatMap c).length := by rw [hflat]; omega
        have h6 := World.cell?_setCells_in b ((rs.drop (i + 1)).flatMap c) (off + i * n) W (fun q hq => by
          rw [hflat] at hq
          have hn0 : 0 < n := by omega
          have hqd : q / n < L.length - (i + 1) := Nat.div_lt_of_lt_mul (by rw [Nat.mul_comm]; exact hq)
          have hqm := Nat.div_add_mod q n
          have hqr := Nat.mod_lt q hn0
          have hx : i + q / n < rs.length := by omega
          have h7 := hcell (i + q / n) hx (q % n) _ (List.getElem?_eq_getElem (by rw [hn]; exact hqr))
          rw [hcW, show off + i * n + q = off + (i + q / n) * n + q % n by rw [Nat.add_mul, Nat.mul_comm (q / n) n]; omega, h7]; rfl) ((k - i) * n + j) hlt
        rw [show off + k * n + j = off + i * n + ((k - i) * n + j) by omega, h6]
        have h8 := flat_get hn (rs.drop (i + 1)) (k - i) (by rw [List.length_drop]; omega) j hj
        rw [List.getElem?_eq_getElem hlt] at h8
        rw [h8, List.getElem_drop]
        have h9 : i + 1 + (k - i) = k + 1 := by omega
        simp only [h9]
        exact hu
    · intro _ b2 off2 len2 cap2 hv2 j
      cases hv2
      rw [World.frozen?_setCells, World.frozen?_setCells, hfW]
      exact hraw.free j
  · intro k r x hr hx
    obtain ⟨k1, hr1, h1⟩ := erase_at rs i hr
    obtain ⟨k2, hx1, h2⟩ := erase_at L i hx
    have : k1 = k2 := by omega
    subst this
    have h0 := h.row k1 r x hr1 hx1
    refine ⟨h0.1, ?_⟩
    by_cases h3 : 0 < x.2.length
    · obtain ⟨g, hg, h4, h5, hnn⟩ := h0.2.narrow h3
      refine (hnn.keep fun q hq1 hq2 => ?_).widen h4 h5
      have : q = g := by omega
      subst this
      exact hother q (by omega) fun e => h.away k1 r x hr1 hx1 h3 (by rw [hg, e]; rfl)
    · exact h0.2.none h3
  · intro j k r s x y hr hs hx hy hjk hx0 hy0
    obtain ⟨j1, hr1, h1⟩ := erase_at rs i hr
    obtain ⟨k1, hs1, h2⟩ := erase_at rs i hs
    obtain ⟨j2, hx1, h3⟩ := erase_at L i hx
    obtain ⟨k2, hy1, h4⟩ := erase_at L i hy
    have e1 : j1 = j2 := by omega
    have e2 : k1 = k2 := by omega
    subst e1 e2
    exact h.apart j1 k1 r s x y hr1 hs1 hx1 hy1 (by omega) hx0 hy0
  · intro j r x hr hx hx0
    obtain ⟨j1, hr1, h1⟩ := erase_at rs i hr
    obtain ⟨j2, hx1, h3⟩ := erase_at L i hx
    have e1 : j1 = j2 := by omega
    subst e1
    exact h.away j1 r x hr1 hx1 hx0
end
/-- 'clear' on one struct. -/
theorem run_clear_one {P : Program} (w : World) (t e ty : TypeId) (z : Value) (zs : List Value) (ht : P.underlying t = some (.slice e)) (hv : ∀ w, (zeroValue e).run P w = .ok z w) (hz : z.cells = zs.toArray) (h1 : ∀ v ∈ zs, v.oneCell' = true) (b o c : Nat)
    (hc : ∀ j, j < zs.length → (w.cell? ⟨b, o + j, none⟩).isSome = true) (hf : ∀ j, j < zs.length → w.frozen? ⟨b, o + j, none⟩ = false) :
    (Builtin.clear_ #[t] ty #[.slice (some ⟨b, o, none⟩) 1 c]).run P w = .ok (.tuple #[]) (w.setCells b o zs) := by
  have hzc : (Builtin.zeroCells z.cells 1).toList = zs := by
    rw [hz]
    apply List.ext_getElem
    · simp [Builtin.zeroCells]
    · intro i h1 h2
      simp [Builtin.zeroCells, Nat.mod_eq_of_lt h2, h2]
  have hst := run_storeCells_cells (P := P) b o zs 0 w (by simpa using hc) (by simpa using hf) h1
  simp only [Nat.add_zero] at hst
  simp [Builtin.clear_, run_underlying ht, hv, hzc, hst]
end Go.Proofs.YtijpghlkbfmefaaDoor
