/- The text of checks read: its lines and words as the program's library cuts them. In plain Lean. -/
import Derived.Test.YtmglcdmccikinaaDoorRcR
import Derived.Test.YtmglcdmccikinaaDoorLnG
import Derived.Lib.FieldsP
import Derived.Laws.RangeString
import Derived.Shelf.Strings.FieldsAny
namespace Go.Proofs.YtmglcdmccikinaaDoor
open Go.RowKit
def byteWord (b : UInt8) : Prop := 33 ≤ b.toNat ∧ b.toNat < 128
theorem byteWord_sp {b : UInt8} (h : byteWord b) : Lib.isSp b = false := by
  have key : ∀ n : Nat, n < 33 → n < 256 → b ≠ n.toUInt8 := fun n hn hn2 e => by
    subst e
    have := h.1
    rw [UInt8.toNat_ofNat_of_lt' (by simpa using hn2)] at this
    omega
  unfold Lib.isSp
  have e9 : (b == 9) = false := beq_eq_false_iff_ne.2 (key 9 (by omega) (by omega))
  have e10 : (b == 10) = false := beq_eq_false_iff_ne.2 (key 10 (by omega) (by omega))
  have e11 : (b == 11) = false := beq_eq_false_iff_ne.2 (key 11 (by omega) (by omega))
  have e12 : (b == 12) = false := beq_eq_false_iff_ne.2 (key 12 (by omega) (by omega))
  have e13 : (b == 13) = false := beq_eq_false_iff_ne.2 (key 13 (by omega) (by omega))
  have e32 : (b == 32) = false := beq_eq_false_iff_ne.2 (key 32 (by omega) (by omega))
  rw [e9, e10, e11, e12, e13, e32]
  rfl
theorem fieldsGo_word : ∀ (w cur r : List UInt8), (∀ b ∈ w, Lib.isSp b = false) → Lib.fieldsGo cur (w ++ r) = Lib.fieldsGo (cur ++ w) r
  | [], cur, r, _ => by simp
  | b :: w, cur, r, h => by
    rw [List.cons_append, Lib.fieldsGo_more cur b (w ++ r) (h b List.mem_cons_self), fieldsGo_word w _ r (fun x hx => h x (List.mem_cons_of_mem _ hx))]
    simp
theorem fields_join : ∀ ws : List (List UInt8), (∀ a ∈ ws, a ≠ [] ∧ ∀ b ∈ a, Lib.isSp b = false) → Lib.fieldsGo [] (joinL 32 ws) = ws
  | [], _ => rfl
  | [a], h => by
    obtain ⟨h1, h2⟩ := h a List.mem_cons_self
    have e := fieldsGo_word a [] [] h2
    rw [List.append_nil, List.nil_append] at e
    show Lib.fieldsGo [] a = [a]
    rw [e]
    cases a with
    | nil => exact absurd rfl h1
    | cons _ _ => rfl
  | a :: b :: t, h => by
    obtain ⟨h1, h2⟩ := h a List.mem_cons_self
    rw [joinL_cons 32 a (by simp), fieldsGo_word a [] _ h2, List.nil_append, Lib.fieldsGo_end a 32 _ (by decide) h1, fields_join (b :: t) (fun x hx => h x (List.mem_cons_of_mem _ hx))]
theorem spansFromP_congr {p q : Nat → Bool} {s : ByteArray} (h : ∀ pos, pos < s.size → p (Utf8.decode s pos).1 = q (Utf8.decode s pos).1) : ∀ (f pos : Nat) (st : Option Nat) (acc : List (Nat × Nat)), Lib.spansFromP p s f pos st acc = Lib.spansFromP q s f pos st acc
  | 0, _, _, _ => rfl
  | f + 1, pos, st, acc => by
    unfold Lib.spansFromP
    by_cases hp : pos < s.size
    · rw [if_pos hp, if_pos hp, h pos hp]
      split <;> cases st <;> exact spansFromP_congr h f _ _ _
    · rw [if_neg hp, if_neg hp]
theorem goFieldsP_congr {p q : Nat → Bool} {s : ByteArray} (h : ∀ pos, pos < s.size → p (Utf8.decode s pos).1 = q (Utf8.decode s pos).1) : Lib.goFieldsP p s = Lib.goFieldsP q s := by
  unfold Lib.goFieldsP Lib.spansOfP
  rw [spansFromP_congr h]
def isBlank (r : Nat) : Bool := r == 32
theorem itoa_word (n : Int) : Lib.itoa n ≠ [] ∧ ∀ b ∈ Lib.itoa n, byteWord b := by
  have hd : ∀ u, ∀ y ∈ Lib.decDigits u, byteWord y := fun u y hy => by
    have := (decDigits_val u).2 y hy
    unfold isDig at this
    unfold byteWord
    omega
  have hn : ∀ u, Lib.decDigits u ≠ [] := fun u e => by
    have h := Lib.decDigits_length u
    rw [e] at h
    by_cases hu : u < 10
    · rw [Lib.nDigits_small hu] at h
      cases h
    · rw [Lib.nDigits_big hu] at h
      simp at h
  unfold Lib.itoa
  split
  · refine ⟨by simp, fun b hb => ?_⟩
    rcases List.mem_cons.1 hb with rfl | hb
    · unfold byteWord; decide
    · exact hd _ _ hb
  · exact ⟨hn _, hd _⟩
theorem name_word {s : ByteArray} (h : isNm s) : s.data.toList ≠ [] ∧ ∀ b ∈ s.data.toList, byteWord b := by
  have hl : s.data.toList.length = s.size := Array.length_toList
  refine ⟨fun e => ?_, fun b hb => ?_⟩
  · rw [e] at hl
    have := h.1
    simp at hl
    omega
  · obtain ⟨i, hi, rfl⟩ := List.getElem_of_mem hb
    have hi' : i < s.size := by omega
    have h1 := h.2.2 i hi'
    have e : s.data.toList[i] = s[i] := rfl
    rw [e]
    unfold nmCh at h1
    unfold byteWord
    omega
theorem line_word {x : Chk} (h : x.ok) : ∀ a ∈ lineW x, a ≠ [] ∧ ∀ b ∈ a, byteWord b := by
  obtain ⟨h1, h2, h3, h4⟩ := h
  intro a ha
  unfold lineW at ha
  simp only [List.mem_cons, List.not_mem_nil, or_false] at ha
  rcases ha with rfl | rfl | rfl | rfl | rfl | rfl
  · exact itoa_word _
  · exact name_word h2
  · unfold byteWord; decide
  · exact itoa_word _
  · unfold byteWord; decide
  · exact itoa_word _
theorem join_chars {c : UInt8} : ∀ {ws : List (List UInt8)} {y : UInt8}, y ∈ joinL c ws → y = c ∨ ∃ a ∈ ws, y ∈ a
  | [], _, hy => by cases hy
  | [a], _, hy => .inr ⟨a, List.mem_cons_self, hy⟩
  | a :: b :: t, _, hy => by
    rw [joinL_cons c a (by simp)] at hy
    rcases List.mem_append.1 hy with hy | hy
    · exact .inr ⟨a, List.mem_cons_self, hy⟩
    · rcases List.mem_cons.1 hy with rfl | hy
      · exact .inl rfl
      · rcases join_chars hy with h | ⟨x, hx, h⟩
        · exact .inl h
        · exact .inr ⟨x, List.mem_cons_of_mem _ hx, h⟩
/-- The words of a check's line, as FieldsFunc cuts them. -/
theorem fields_line {x : Chk} (h : x.ok) {s : ByteArray} (hs : s.data.toList = lineL x) : Lib.goFieldsP isBlank s = wordsB x := by
  have hc : ∀ y ∈ s.data.toList, y = 32 ∨ byteWord y := fun y hy => by
    rw [hs] at hy
    rcases join_chars hy with e | ⟨a, ha, e⟩
    · exact .inl e
    · exact .inr ((line_word h a ha).2 y e)
  have ha : ∀ y ∈ s.data.toList, y.toNat < 128 := fun y hy => by
    rcases hc y hy with rfl | h
    · decide
    · exact h.2
  have e1 : Lib.goFieldsP isBlank s = Lib.goFieldsP Lib.isSpaceR s := goFieldsP_congr fun pos hp => by
    have hm : s[pos] ∈ s.data.toList := by
      have : s.data.toList[pos]'(by rw [Array.length_toList]; exact hp) = s[pos] := rfl
      rw [← this]
      exact List.getElem_mem _
    rw [decode_ascii s pos hp (ha _ hm)]
    dsimp only
    rcases hc _ hm with e | ⟨h1, h2⟩
    · rw [e]; decide
    · unfold isBlank Lib.isSpaceR
      generalize s[pos].toNat = n at *
      rw [Bool.eq_iff_iff]
      simp
      omega
  have e2 : (Lib.goFieldsP Lib.isSpaceR s).map (·.data.toList) = lineW x := by
    rw [Lib.goFieldsP_space, Lib.goFields_eq, Lib.fieldsD_ascii _ ha, hs]
    exact fields_join _ (fun a ha => ⟨(line_word h a ha).1, fun b hb => byteWord_sp ((line_word h a ha).2 b hb)⟩)
  rw [e1]
  have e3 : (wordsB x).map (·.data.toList) = lineW x := by
    unfold wordsB lineW
    simp only [List.map_cons, List.map_nil, decStr_list]
  have inj : ∀ l m : List ByteArray, l.map (·.data.toList) = m.map (·.data.toList) → l = m := by
    intro l
    induction l with
    | nil => intro m hm; cases m with
      | nil => rfl
      | cons _ _ => cases hm
    | cons a l ih => intro m hm; cases m with
      | nil => cases hm
      | cons b m =>
        simp only [List.map_cons, List.cons.injEq] at hm
        rw [ba_ext hm.1, ih m hm.2]
  exact inj _ _ (e2.trans e3.symm)
/-- Where the line of a check begins. -/
def offT (m : List Chk) (k : Nat) : Nat := (chkText (m.take k)).length
theorem off_next {m : List Chk} {k : Nat} (hk : k < m.length) : offT m (k + 1) = offT m k + (chkLine m[k]).size := by
  unfold offT
  rw [chkText_take hk, List.length_append, size_list]
theorem text_cut {s : ByteArray} {m : List Chk} (h : RcT s m) {k : Nat} (hk : k < m.length) : s.extract (offT m k) (offT m (k + 1)) = chkLine m[k] ∧ offT m (k + 1) ≤ s.size := by
  have e : s.data.toList = chkText (m.take k) ++ ((chkLine m[k]).data.toList ++ chkText (m.drop (k + 1))) := by
    rw [← h.2]
    conv => lhs; rw [← List.take_append_drop k m]
    rw [List.drop_eq_getElem_cons hk]
    unfold chkText
    rw [List.flatMap_append, List.flatMap_cons]
  have hn := off_next hk
  have hl : s.data.toList.length = s.size := Array.length_toList
  refine ⟨ba_ext ?_, ?_⟩
  · rw [ext_list, e]
    unfold offT at hn ⊢
    rw [List.drop_left, hn, Nat.add_sub_cancel_left, ← size_list, List.take_left]
  · rw [← hl, e, hn, List.length_append, List.length_append, size_list]
    unfold offT
    omega
theorem noB_line {x : Chk} (h : x.ok) : noB 10 (⟨(lineL x).toArray⟩ : ByteArray) := by
  intro y hy
  have := ok_ten h y hy
  intro e
  exact this (UInt8.toNat_inj.1 e)
theorem chkLine_cat (x : Chk) : chkLine x = (⟨(lineL x).toArray⟩ : ByteArray) ++ (⟨#[10]⟩ : ByteArray) := ba_ext (by rw [line_cat]; simp [ByteArray.data_append])
theorem spans_text {s : ByteArray} {m : List Chk} (h : RcT s m) : ∀ k, k ≤ m.length → (spans s 0).drop k = spans s (offT m k)
  | 0, _ => rfl
  | k + 1, hk => by
    have ih := spans_text h k (by omega)
    have hk' : k < m.length := by omega
    obtain ⟨h1, h2⟩ := text_cut h hk'
    have hx := chks_all h.1 _ (List.getElem_mem hk')
    obtain ⟨n1, n2⟩ := nl_line (h1.trans (chkLine_cat _)) h2 (noB_line hx)
    have n1c := n1
    obtain ⟨g1, g2, -⟩ := n1c
    obtain ⟨hkk, -, h4⟩ := spans_at (show offT m k < s.size by omega) ih
    rw [h4, lineEnd_nl n1, n2]
theorem spans_line {s : ByteArray} {m : List Chk} (h : RcT s m) : (spans s 0).length = m.length ∧ ∀ k (hk : k < m.length) (h2 : k < (spans s 0).length), s.extract (spans s 0)[k].1 (spans s 0)[k].2 = chkLine m[k] := by
  have hall : ∀ k (hk : k < m.length), ∃ h2 : k < (spans s 0).length, s.extract (spans s 0)[k].1 (spans s 0)[k].2 = chkLine m[k] := fun k hk => by
    obtain ⟨h1, h2⟩ := text_cut h hk
    have hx := chks_all h.1 _ (List.getElem_mem hk)
    obtain ⟨n1, n2⟩ := nl_line (h1.trans (chkLine_cat _)) h2 (noB_line hx)
    have n1c := n1
    obtain ⟨g1, g2, -⟩ := n1c
    obtain ⟨hkk, h3, -⟩ := spans_at (show offT m k < s.size by omega) (spans_text h k (by omega))
    refine ⟨hkk, ?_⟩
    rw [h3, lineEnd_nl n1, ← n2]
    exact h1
  have hend : ¬ offT m m.length < s.size := by
    unfold offT
    rw [List.take_length, h.2, Array.length_toList]
    exact Nat.lt_irrefl _
  have he := spans_text h m.length (Nat.le_refl _)
  rw [spans_end hend] at he
  have hle := List.drop_eq_nil_iff.1 he
  refine ⟨?_, fun k hk _ => (hall k hk).2⟩
  rcases Nat.lt_or_ge (spans s 0).length m.length with h1 | h1
  · exact absurd (hall _ h1).1 (Nat.lt_irrefl _)
  · omega
end Go.Proofs.YtmglcdmccikinaaDoor
