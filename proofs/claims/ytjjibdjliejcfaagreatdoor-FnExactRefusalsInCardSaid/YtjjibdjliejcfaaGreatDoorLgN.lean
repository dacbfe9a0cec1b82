/- The log: one line read, in plain Lean. -/
import Derived.Test.YtjjibdjliejcfaaGreatDoorLgC
import Derived.Test.YtjjibdjliejcfaaGreatDoorLgL
namespace Go.Proofs.YtjjibdjliejcfaaGreatDoor
open Go.RowKit
def noB (c : Nat) (s : ByteArray) : Prop := ∀ x ∈ s.data.toList, ¬ x.toNat = c
theorem noB_get {c : Nat} {s : ByteArray} (h : noB c s) {i : Nat} (hi : i < s.size) : ¬ s[i].toNat = c := h _ (List.mem_of_getElem? (getT hi))
theorem noB_of {c : Nat} {s : ByteArray} (h : ∀ i (hi : i < s.size), ¬ s[i].toNat = c) : noB c s := by
  intro x hx
  obtain ⟨i, hi, rfl⟩ := List.getElem_of_mem hx
  have hi' : i < s.size := by rw [Array.length_toList] at hi; exact hi
  have := h i hi'
  exact this
theorem noB_append {c : Nat} {s t : ByteArray} (h : noB c s) (h2 : noB c t) : noB c (s ++ t) := by
  intro x hx
  rw [ByteArray.data_append, Array.toList_append] at hx
  rcases List.mem_append.1 hx with hx | hx
  · exact h x hx
  · exact h2 x hx
theorem noB_dec {c : Nat} (n : Int) (h : c = 32 ∨ c = 10) : noB c (decStr n) := by
  intro x hx
  rw [decStr_list] at hx
  have hd : ∀ u, ∀ y ∈ Lib.decDigits u, ¬ y.toNat = c := fun u y hy => by
    have := (decDigits_val u).2 y hy
    unfold isDig at this
    omega
  unfold Lib.itoa at hx
  split at hx
  · rcases List.mem_cons.1 hx with rfl | hx
    · show ¬ (45 : UInt8).toNat = c
      have : (45 : UInt8).toNat = 45 := rfl
      omega
    · exact hd _ _ hx
  · exact hd _ _ hx
theorem noB_name {c : Nat} {s : ByteArray} (h : isNm s) (hc : c = 32 ∨ c = 10) : noB c s := noB_of fun i hi => by
  have := h.2.2 i hi
  unfold nmCh at this
  omega
theorem noB_text {s : ByteArray} (h : txOk s) : noB 10 s := noB_of fun i hi => by
  have := h.1 i hi
  unfold txCh at this
  omega
/-- The first blank is one alone. -/
theorem BlankAt.uniq {s : ByteArray} {i j : Nat} (h : BlankAt s i) (h2 : BlankAt s j) : i = j := by
  obtain ⟨hi, hi1, hi2⟩ := h
  obtain ⟨hj, hj1, hj2⟩ := h2
  rcases Nat.lt_trichotomy i j with h | h | h
  · exact absurd hi1 (hj2 i hi h)
  · exact h
  · exact absurd hj1 (hi2 j hj h)
theorem get_app_l {a b : ByteArray} {i : Nat} (h : i < (a ++ b).size) (hi : i < a.size) : (a ++ b)[i] = a[i] := ByteArray.getElem_append_left hi
theorem blank_cat {a r : ByteArray} (h : noB 32 a) : BlankAt (a ++ (⟨#[32]⟩ : ByteArray) ++ r) a.size := by
  have e : (⟨#[32]⟩ : ByteArray).size = 1 := rfl
  have h1 : a.size < (a ++ (⟨#[32]⟩ : ByteArray)).size := by rw [ByteArray.size_append, e]; omega
  have h0 : a.size < (a ++ (⟨#[32]⟩ : ByteArray) ++ r).size := by rw [ByteArray.size_append]; omega
  refine ⟨h0, ?_, fun j hj hja => ?_⟩
  · rw [ByteArray.getElem_append_left h1, ByteArray.getElem_append_right (Nat.le_refl _)]
    simp
    rfl
  · rw [ByteArray.getElem_append_left (by omega), ByteArray.getElem_append_left hja]
    exact noB_get h hja
theorem cut_cat {a r x y : ByteArray} {ok : Bool} (h : noB 32 a) (hc : CutAt (a ++ (⟨#[32]⟩ : ByteArray) ++ r) x y ok) : x = a ∧ y = r ∧ ok = true := by
  have hb := blank_cat (r := r) h
  rcases hc with ⟨i, hi, rfl, rfl, rfl⟩ | ⟨hno, -⟩
  · obtain rfl := hi.uniq hb
    have e : (⟨#[32]⟩ : ByteArray).size = 1 := rfl
    refine ⟨?_, ?_, rfl⟩
    · rw [ByteArray.append_assoc, ByteArray.extract_append_eq_left rfl]
    · have h3 := ByteArray.extract_append_eq_right (a := a ++ (⟨#[32]⟩ : ByteArray)) (b := r) (i := a.size + 1) (j := (a ++ (⟨#[32]⟩ : ByteArray) ++ r).size) (by rw [ByteArray.size_append, e]) (by rw [ByteArray.size_append (a := a ++ (⟨#[32]⟩ : ByteArray))])
      exact h3
  · obtain ⟨h1, h2, -⟩ := hb
    exact absurd h2 (hno _ h1)
/-- A line without its newline. -/
def bodyB (sg : Int) (x : Ent) : ByteArray := decStr sg ++ (⟨#[32]⟩ : ByteArray) ++ (decStr x.second ++ (⟨#[32]⟩ : ByteArray) ++ (x.who ++ (⟨#[32]⟩ : ByteArray) ++ x.what))
theorem lineB_body (sg : Int) (x : Ent) : lineB sg x = bodyB sg x ++ (⟨#[10]⟩ : ByteArray) := by
  unfold lineB bodyB
  simp only [ByteArray.append_assoc]
theorem parse_body {sg : Int} {x : Ent} (hx : x.plain) {a1 r1 a2 r2 a3 r3 : ByteArray} {o1 o2 o3 : Bool} (c1 : CutAt (bodyB sg x) a1 r1 o1) (c2 : CutAt r1 a2 r2 o2) (c3 : CutAt r2 a3 r3 o3) :
    o1 = true ∧ o2 = true ∧ o3 = true ∧ a2 = decStr x.second ∧ a3 = x.who ∧ r3 = x.what := by
  obtain ⟨-, h1, h2⟩ := hx
  obtain ⟨-, rfl, rfl⟩ := cut_cat (noB_dec sg (.inl rfl)) c1
  obtain ⟨rfl, rfl, rfl⟩ := cut_cat (noB_dec x.second (.inl rfl)) c2
  obtain ⟨rfl, rfl, rfl⟩ := cut_cat (noB_name h1 (.inl rfl)) c3
  exact ⟨rfl, rfl, rfl, rfl, rfl, rfl⟩
theorem noB_body {sg : Int} {x : Ent} (hx : x.plain) : noB 10 (bodyB sg x) := by
  have hb : noB 10 (⟨#[32]⟩ : ByteArray) := by
    intro y hy
    have hy : y = 32 := by simpa using hy
    subst hy
    decide
  unfold bodyB
  exact noB_append (noB_append (noB_dec _ (.inr rfl)) hb) (noB_append (noB_append (noB_dec _ (.inr rfl)) hb) (noB_append (noB_append (noB_name hx.2.1 (.inr rfl)) hb) (noB_text hx.2.2)))
/-- Where the first newline from a place on stands. -/
def NlAt (s : ByteArray) (at0 i : Nat) : Prop := at0 ≤ i ∧ ∃ h : i < s.size, s[i].toNat = 10 ∧ ∀ j (hj : j < s.size), at0 ≤ j → j < i → ¬ s[j].toNat = 10
theorem NlAt.uniq {s : ByteArray} {a i j : Nat} (h : NlAt s a i) (h2 : NlAt s a j) : i = j := by
  obtain ⟨ha, hi, hi1, hi2⟩ := h
  obtain ⟨hb, hj, hj1, hj2⟩ := h2
  rcases Nat.lt_trichotomy i j with h | h | h
  · exact absurd hi1 (hj2 i hi ha h)
  · exact h
  · exact absurd hj1 (hi2 j hj hb h)
/-- A line that stands at a place ends at the first newline. -/
theorem nl_line {s b : ByteArray} {at0 en : Nat} (hs : s.extract at0 en = b ++ (⟨#[10]⟩ : ByteArray)) (hen : en ≤ s.size) (hb : noB 10 b) : NlAt s at0 (at0 + b.size) ∧ en = at0 + b.size + 1 := by
  have e : (⟨#[10]⟩ : ByteArray).size = 1 := rfl
  have hsz := congrArg ByteArray.size hs
  rw [ByteArray.size_extract, ByteArray.size_append, e] at hsz
  have hen2 : en = at0 + b.size + 1 := by omega
  have get : ∀ j (hj : j < b.size + 1), (s.extract at0 en)[j]'(by rw [ByteArray.size_extract]; omega) = s[at0 + j]'(by omega) := fun j hj => ByteArray.getElem_extract _
  have gets : ∀ j (hj : j < b.size + 1) (h1 : at0 + j < s.size) (h2 : j < (b ++ (⟨#[10]⟩ : ByteArray)).size), s[at0 + j] = (b ++ (⟨#[10]⟩ : ByteArray))[j] := by
    intro j hj h1 h2
    rw [← get j hj]
    congr 1
  have h10 : b.size < (b ++ (⟨#[10]⟩ : ByteArray)).size := by rw [ByteArray.size_append, e]; omega
  refine ⟨⟨by omega, by omega, ?_, fun j hj ha hjb => ?_⟩, hen2⟩
  · rw [gets b.size (by omega) (by omega) h10, ByteArray.getElem_append_right (Nat.le_refl _)]
    simp
    rfl
  · obtain ⟨m, rfl⟩ : ∃ m, j = at0 + m := ⟨j - at0, by omega⟩
    have hm : m < b.size := by omega
    rw [gets m (by omega) hj (by rw [ByteArray.size_append]; omega), ByteArray.getElem_append_left hm]
    exact noB_get hb hm
end Go.Proofs.YtjjibdjliejcfaaGreatDoor
