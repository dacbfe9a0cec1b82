/- Bytes in a text: in plain Lean. -/
import Derived.Lib.IndexBytes
import Derived.Lib.IndexLaws
import Derived.Test.YtmglcdmccikinaaDoorNumW
namespace Go.Proofs.YtmglcdmccikinaaDoor
open Go.RowKit
def noB (c : Nat) (s : ByteArray) : Prop := ∀ x ∈ s.data.toList, ¬ x.toNat = c
theorem noB_get {c : Nat} {s : ByteArray} (h : noB c s) {i : Nat} (hi : i < s.size) : ¬ s[i].toNat = c := h _ (List.mem_of_getElem? (getT hi))
theorem noB_of {c : Nat} {s : ByteArray} (h : ∀ i (hi : i < s.size), ¬ s[i].toNat = c) : noB c s := by
  intro x hx
  obtain ⟨i, hi, rfl⟩ := List.getElem_of_mem hx
  have hi' : i < s.size := by rw [Array.length_toList] at hi; exact hi
  have := h i hi'
  exact this
def NlAt (s : ByteArray) (at0 i : Nat) : Prop := at0 ≤ i ∧ ∃ h : i < s.size, s[i].toNat = 10 ∧ ∀ j (hj : j < s.size), at0 ≤ j → j < i → ¬ s[j].toNat = 10
theorem NlAt.uniq {s : ByteArray} {a i j : Nat} (h : NlAt s a i) (h2 : NlAt s a j) : i = j := by
  obtain ⟨ha, hi, hi1, hi2⟩ := h
  obtain ⟨hb, hj, hj1, hj2⟩ := h2
  rcases Nat.lt_trichotomy i j with h | h | h
  · exact absurd hi1 (hj2 i hi ha h)
  · exact h
  · exact absurd hj1 (hi2 j hj hb h)
/-- A line that stands at a place ends at the first newline. -/
theorem nl_line {s b : ByteArray} {at0 en : Nat} (hs : s.extract at0 en = b ++ (⟨#[10]⟩ : ByteArray)) (hen : en ≤ s.size) (hb : noB 10 b) : NlAt s at0 (at0 + b.size) ∧ en = at0 + b.size + 1 := by
  have e : (⟨#[10]⟩ : ByteArray).size = 1 := rfl
  have hsz := congrArg ByteArray.size hs
  rw [ByteArray.size_extract, ByteArray.size_append, e] at hsz
  have hen2 : en = at0 + b.size + 1 := by omega
  have get : ∀ j (hj : j < b.size + 1), (s.extract at0 en)[j]'(by rw [ByteArray.size_extract]; omega) = s[at0 + j]'(by omega) := fun j hj => ByteArray.getElem_extract _
  have gets : ∀ j (hj : j < b.size + 1) (h1 : at0 + j < s.size) (h2 : j < (b ++ (⟨#[10]⟩ : ByteArray)).size), s[at0 + j] = (b ++ (⟨#[10]⟩ : ByteArray))[j] := by
    intro j hj h1 h2
    rw [← get j hj]
    congr 1
  have h10 : b.size < (b ++ (⟨#[10]⟩ : ByteArray)).size := by rw [ByteArray.size_append, e]; omega
  refine ⟨⟨by omega, by omega, ?_, fun j hj ha hjb => ?_⟩, hen2⟩
  · rw [gets b.size (by omega) (by omega) h10, ByteArray.getElem_append_right (Nat.le_refl _)]
    simp
    rfl
  · obtain ⟨m, rfl⟩ : ∃ m, j = at0 + m := ⟨j - at0, by omega⟩
    have hm : m < b.size := by omega
    rw [gets m (by omega) hj (by rw [ByteArray.size_append]; omega), ByteArray.getElem_append_left hm]
    exact noB_get hb hm
theorem index_at {l : List UInt8} {c : UInt8} {i : Nat} (h : l[i]? = some c) (hn : ∀ k, k < i → l[k]? ≠ some c) : Lib.indexByte l c = i := by
  by_cases h1 : Lib.indexByte l c = -1
  · exact absurd h (Lib.indexByte_none h1 i)
  · have hge := Lib.indexByte_ge l c
    obtain ⟨o, ho⟩ : ∃ o : Nat, Lib.indexByte l c = o := ⟨(Lib.indexByte l c).toNat, by omega⟩
    obtain ⟨h2, h3⟩ := Lib.indexByte_some ho
    rcases Nat.lt_trichotomy o i with h | h'' | h'
    · exact absurd h2 (hn o h)
    · rw [ho, h'']
    · exact absurd h (h3 i h')
theorem index_none {l : List UInt8} {c : UInt8} (h : ∀ i : Nat, l[i]? ≠ some c) : Lib.indexByte l c = -1 := by
  have hge := Lib.indexByte_ge l c
  by_cases h1 : Lib.indexByte l c = -1
  · exact h1
  · obtain ⟨o, ho⟩ : ∃ o : Nat, Lib.indexByte l c = o := ⟨(Lib.indexByte l c).toNat, by omega⟩
    exact absurd (Lib.indexByte_some ho).1 (h o)
theorem byte_at {s : ByteArray} {i : Nat} (h : i < s.size) (c : UInt8) : s.data.toList[i]? = some c ↔ s[i].toNat = c.toNat := by
  rw [getT h]
  constructor
  · intro e; rw [Option.some.inj e]
  · intro e; rw [UInt8.toNat_inj.1 e]
theorem byte_no {s : ByteArray} {i : Nat} (h : ¬ i < s.size) (c : UInt8) : s.data.toList[i]? ≠ some c := by
  rw [List.getElem?_eq_none (by rw [Array.length_toList]; exact Nat.le_of_not_lt h)]
  exact fun e => by cases e
end Go.Proofs.YtmglcdmccikinaaDoor
