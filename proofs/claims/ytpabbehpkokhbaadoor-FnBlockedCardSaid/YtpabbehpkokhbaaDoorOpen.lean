/- Arguments opened: a slice that reads as data is a list (Sl), element by element. -/
import Derived.Test.YtpabbehpkokhbaaDoorBase
import Derived.ProofKit
import Derived.Deep.Slices
import Derived.ChangeArms
namespace Go.Proofs.YtpabbehpkokhbaaDoor
open Go.RowKit Go.Deep

section
variable {H : Type} {enc : TypeId × Value → H} {P : Program} {W : World} {base : Nat} {spare : Nat → Bool} {held : Bool}

theorem open_list {α : Type} [Inhabited α] {n : Nat} {c : α → List Value} {good : α → Prop} {t e : TypeId} {v : Value} {d : DataW H} {p : List MemPlace} (ht : P.underlying t = some (.slice e)) (hn : P.cellsOf e = n) (hn0 : 0 < n)
    (elem : ∀ fuel cs y, DataW.trod enc P W base spare held fuel e cs = some y → ∃ x : α, cs = c x ∧ good x) (h : DataW.Trod enc P W base spare held t v d p) (hv : ∃ a len cap, v = .slice a len cap) :
    ∃ l : List α, Sl n c 0 W.heap.size W v l ∧ ∀ x ∈ l, good x := by
  obtain ⟨fuel, hf⟩ := h
  obtain ⟨a0, len0, cap0, rfl⟩ := hv
  rcases open_slice ht hf with ⟨hcs, _⟩ | ⟨a, len, cap, m, _, D, Pl, hcs, hb, hl, hm, hmm, _, hx⟩
  · simp [Value.cells] at hcs
    obtain ⟨rfl, rfl, rfl⟩ := hcs
    exact ⟨[], ⟨none, 0, rfl, ⟨by simp, by omega⟩, fun h => absurd h (by simp)⟩, fun _ h => by cases h⟩
  · simp [Value.cells] at hcs
    obtain ⟨rfl, rfl, rfl⟩ := hcs
    have hle : len0 ≤ m := by rw [hmm]; split <;> omega
    rw [hn] at hx
    obtain ⟨f, hf⟩ := choose_lt (α := α) (n := len0) (p := fun i x => W.cells? base (a.add (i * n)) n = some (c x) ∧ good x) (fun i hi => by
      obtain ⟨cs', h1, h2⟩ := hx i (by omega)
      obtain ⟨x, rfl, hg⟩ := elem _ _ _ h2
      exact ⟨x, h1, hg⟩)
    refine ⟨(List.range len0).map f, ⟨some a, cap0, by simp, by simp only [List.length_map, List.length_range]; unfold maxLen at hm; exact ⟨hl, by omega⟩, fun h0 => ?_⟩, ?_⟩
    · have h0' : 0 < len0 := by simpa using h0
      obtain ⟨_, hlen, hcell⟩ := World.cells?_some (hf 0 h0').1
      have hc0 : ∃ u, W.cell? a = some u := by
        have := hcell 0 hn0
        rw [Nat.zero_mul] at this
        have e : (a.add 0).add 0 = a := by simp [Addr.add]
        rw [e] at this
        exact ⟨_, this.trans (List.getElem?_eq_getElem (by omega))⟩
      obtain ⟨u0, hu0⟩ := hc0
      obtain ⟨b, off, spot⟩ := a
      have hspot : spot = none := World.cell?_spot hu0
      subst hspot
      refine ⟨b, off, rfl, Nat.zero_le _, World.block_lt_of_cell? W _ hu0, fun i hi j u hu => ?_⟩
      have hi' : i < len0 := by simpa using hi
      have hu' : (c (f i))[j]? = some u := by simpa using hu
      obtain ⟨_, hlen', hcell'⟩ := World.cells?_some (hf i hi').1
      have hj : j < n := by rw [← hlen']; exact (List.getElem?_eq_some_iff.1 hu').1
      have h3 := hcell' j hj
      rw [add_add, hu'] at h3
      have e : (⟨b, off, none⟩ : Addr).add (i * n + j) = ⟨b, off + i * n + j, none⟩ := by
        unfold Addr.add; split
        · rename_i h; rw [show off + i * n + j = off from by omega]
        · simp only [Nat.add_assoc]
      rwa [e] at h3
    · intro x hx
      obtain ⟨i, hi, rfl⟩ := List.mem_map.1 hx
      exact (hf i (by simpa using hi)).2

theorem field_int {k : IntKind} {t : TypeId} {n o m : Nat} {cs : List Value} {xs : List (DataW H × List MemPlace)} {i : Nat} (hi : i < xs.length) (ht : P.underlying t = some (.int k)) (hc : P.cellsOf t = 1)
    (h : DataW.trod enc P W base spare held n t ((cs.drop o).take (P.cellsOf t)) = xs[i]?) (hm : m = o) : ∃ x, cs[m]? = some (.int k x) ∧ (Lit.int k x).wf = true := by
  subst hm
  rw [List.getElem?_eq_getElem hi, hc] at h
  obtain ⟨x, h1, _, hw⟩ := DataW.trod_int ht h
  refine ⟨x, ?_, hw⟩
  cases hd : cs.drop m with
  | nil => rw [hd] at h1; cases h1
  | cons y r =>
    rw [hd] at h1
    simp at h1
    have := List.getElem?_drop (xs := cs) (i := m) (j := 0)
    rw [hd, h1] at this
    simpa using this.symm

theorem field_string {t : TypeId} {n o m : Nat} {cs : List Value} {xs : List (DataW H × List MemPlace)} {i : Nat} (hi : i < xs.length) (ht : P.underlying t = some .string) (hc : P.cellsOf t = 1)
    (h : DataW.trod enc P W base spare held n t ((cs.drop o).take (P.cellsOf t)) = xs[i]?) (hm : m = o) : ∃ x, cs[m]? = some (.string x) ∧ x.size ≤ maxLen := by
  subst hm
  rw [List.getElem?_eq_getElem hi, hc] at h
  obtain ⟨x, h1, _, hw⟩ := DataW.trod_string ht h
  refine ⟨x, ?_, hw⟩
  cases hd : cs.drop m with
  | nil => rw [hd] at h1; cases h1
  | cons y r =>
    rw [hd] at h1
    simp at h1
    have := List.getElem?_drop (xs := cs) (i := m) (j := 0)
    rw [hd, h1] at this
    simpa using this.symm

theorem field_bool {t : TypeId} {n o m : Nat} {cs : List Value} {xs : List (DataW H × List MemPlace)} {i : Nat} (hi : i < xs.length) (ht : P.underlying t = some .bool) (hc : P.cellsOf t = 1)
    (h : DataW.trod enc P W base spare held n t ((cs.drop o).take (P.cellsOf t)) = xs[i]?) (hm : m = o) : ∃ x, cs[m]? = some (.bool x) := by
  subst hm
  rw [List.getElem?_eq_getElem hi, hc] at h
  obtain ⟨x, h1, _⟩ := DataW.trod_bool ht h
  refine ⟨x, ?_⟩
  cases hd : cs.drop m with
  | nil => rw [hd] at h1; cases h1
  | cons y r =>
    rw [hd] at h1
    simp at h1
    have := List.getElem?_drop (xs := cs) (i := m) (j := 0)
    rw [hd, h1] at this
    simpa using this.symm
end

theorem i64_of_wf {n : Int} (h : (Lit.int .i64 n).wf = true) : I64 n := by
  simp [Lit.wf, IntKind.min, IntKind.max, IntKind.signed, IntKind.bits] at h
  exact ⟨by omega, by omega⟩
end Go.Proofs.YtpabbehpkokhbaaDoor
