/- The text of checks read: in plain Lean. -/
import Derived.Test.YtmglcdmccikinaaDoorCkT
import Derived.Test.YtmglcdmccikinaaDoorNumS
import Derived.Lib.Fields
namespace Go.Proofs.YtmglcdmccikinaaDoor
open Go.RowKit
def splitL (c : UInt8) : List UInt8 → List (List UInt8)
  | [] => [[]]
  | x :: r => if x = c then [] :: splitL c r else (x :: (splitL c r).headD []) :: (splitL c r).tail
def joinL (c : UInt8) : List (List UInt8) → List UInt8
  | [] => []
  | [a] => a
  | a :: b :: t => a ++ c :: joinL c (b :: t)
theorem splitL_ne (c : UInt8) : ∀ l, splitL c l ≠ []
  | [] => by simp [splitL]
  | x :: r => by unfold splitL; split <;> simp
theorem joinL_cons (c : UInt8) (a : List UInt8) {t : List (List UInt8)} (h : t ≠ []) : joinL c (a :: t) = a ++ c :: joinL c t := by
  cases t with
  | nil => exact absurd rfl h
  | cons b t => rfl
theorem joinL_split (c : UInt8) : ∀ l, joinL c (splitL c l) = l
  | [] => rfl
  | x :: r => by
    have ih := joinL_split c r
    have hn := splitL_ne c r
    unfold splitL
    by_cases hx : x = c
    · rw [if_pos hx, joinL_cons c [] hn, ih, hx]; rfl
    · rw [if_neg hx]
      cases hs : splitL c r with
      | nil => exact absurd hs hn
      | cons a t =>
        rw [hs] at ih
        cases t with
        | nil => simp [joinL] at ih ⊢; exact ih
        | cons b t => simp [joinL] at ih ⊢; exact ih
theorem splitL_no {c : UInt8} : ∀ {l : List UInt8}, (∀ x ∈ l, ¬ x = c) → splitL c l = [l]
  | [], _ => rfl
  | x :: r, h => by
    have ih := splitL_no (l := r) (fun y hy => h y (List.mem_cons_of_mem _ hy))
    unfold splitL
    rw [if_neg (h x List.mem_cons_self), ih]
    rfl
theorem splitL_cat {c : UInt8} (r : List UInt8) : ∀ {a : List UInt8}, (∀ x ∈ a, ¬ x = c) → splitL c (a ++ c :: r) = a :: splitL c r
  | [], _ => by simp [splitL]
  | x :: a, h => by
    have ih := splitL_cat r (a := a) (fun y hy => h y (List.mem_cons_of_mem _ hy))
    rw [List.cons_append, splitL, if_neg (h x List.mem_cons_self), ih]
    rfl
theorem splitL_join {c : UInt8} : ∀ {ws : List (List UInt8)}, ws ≠ [] → (∀ a ∈ ws, ∀ x ∈ a, ¬ x = c) → splitL c (joinL c ws) = ws
  | [], h, _ => absurd rfl h
  | [a], _, h => splitL_no (h a List.mem_cons_self)
  | a :: b :: t, _, h => by
    have ih := splitL_join (ws := b :: t) (by simp) (fun x hx => h x (List.mem_cons_of_mem _ hx))
    rw [joinL_cons c a (by simp), splitL_cat _ (h a List.mem_cons_self), ih]
/-- The pieces of a text from a place on. -/
def splitF (s : ByteArray) (c : UInt8) (f : Nat) : List ByteArray := (splitL c (s.data.toList.drop f)).map fun l => ⟨l.toArray⟩
theorem ext_list (s : ByteArray) (a b : Nat) : (s.extract a b).data.toList = (s.data.toList.drop a).take (b - a) := by
  rw [ByteArray.data_extract, Array.toList_extract]
theorem ba_ext {s t : ByteArray} (h : s.data.toList = t.data.toList) : s = t := by
  apply ByteArray.ext
  exact Array.toList_inj.1 h
theorem take_no {s : ByteArray} {c : UInt8} {f i : Nat} (hi : i ≤ s.size) (h : ∀ j (hj : j < s.size), f ≤ j → j < i → ¬ s[j] = c) : ∀ x ∈ (s.data.toList.drop f).take (i - f), ¬ x = c := by
  intro x hx
  obtain ⟨k, hk, rfl⟩ := List.getElem_of_mem hx
  rw [List.length_take, List.length_drop] at hk
  rw [List.getElem_take, List.getElem_drop]
  exact h (f + k) (by omega) (by omega) (by omega)
theorem splitF_step {s : ByteArray} {c : UInt8} {f i : Nat} (hf : f ≤ i) (hi : i < s.size) (hc : s[i] = c) (h : ∀ j (hj : j < s.size), f ≤ j → j < i → ¬ s[j] = c) : splitF s c f = s.extract f i :: splitF s c (i + 1) := by
  have hl : s.data.toList.length = s.size := Array.length_toList
  have e : s.data.toList.drop f = (s.data.toList.drop f).take (i - f) ++ c :: s.data.toList.drop (i + 1) := by
    conv => lhs; rw [← List.take_append_drop (i - f) (s.data.toList.drop f)]
    rw [List.drop_drop, show f + (i - f) = i by omega, List.drop_eq_getElem_cons (show i < s.data.toList.length by omega)]
    have hx : s.data.toList[i] = c := hc
    rw [hx]
  unfold splitF
  rw [e, splitL_cat _ (take_no (by omega) h), List.map_cons]
  congr 1
  exact ba_ext (ext_list s f i).symm
theorem splitF_end {s : ByteArray} {c : UInt8} {f : Nat} (h : ∀ j (hj : j < s.size), f ≤ j → ¬ s[j] = c) : splitF s c f = [s.extract f s.size] := by
  have hl : s.data.toList.length = s.size := Array.length_toList
  have e : (s.data.toList.drop f).take (s.size - f) = s.data.toList.drop f := List.take_of_length_le (by rw [List.length_drop]; omega)
  have h2 := take_no (Nat.le_refl _) (fun j hj h1 _ => h j hj h1)
  rw [e] at h2
  unfold splitF
  rw [splitL_no h2, List.map_cons, List.map_nil]
  congr 1
  exact ba_ext (by rw [ext_list, e])
theorem splitL_len (c : UInt8) : ∀ l, (splitL c l).length ≤ l.length + 1
  | [] => by simp [splitL]
  | x :: r => by
    have ih := splitL_len c r
    unfold splitL
    split
    · simp; omega
    · simp; omega
theorem splitF_len (s : ByteArray) (c : UInt8) : (splitF s c 0).length ≤ s.size + 1 := by
  have hl : s.data.toList.length = s.size := Array.length_toList
  have := splitL_len c s.data.toList
  unfold splitF
  rw [List.length_map, List.drop_zero]
  omega
/-- The words of a check's line. -/
def lineW (x : Chk) : List (List UInt8) := [Lib.itoa x.crane, x.name.data.toList, [101, 118, 101, 114, 121], Lib.itoa x.every, [108, 97, 115, 116], Lib.itoa x.last]
def lineL (x : Chk) : List UInt8 := joinL 32 (lineW x)
theorem line_cat (x : Chk) : (chkLine x).data.toList = lineL x ++ [10] := by
  unfold chkLine lineL lineW
  simp only [ByteArray.data_append, Array.toList_append, decStr_list, joinL, List.append_assoc, List.cons_append, List.nil_append]
theorem chkText_line (l : List Chk) : chkText l = l.flatMap fun x => lineL x ++ [10] := by
  unfold chkText
  congr 1
  funext x
  exact line_cat x
def Fit (x : Chk) : Prop := NumOf (decStr x.crane) x.crane ∧ NumOf (decStr x.every) x.every ∧ NumOf (decStr x.last) x.last
def LineOf (s : List UInt8) (x : Chk) : Prop := splitL 32 s = lineW x ∧ Fit x
theorem LineOf.line {s : List UInt8} {x : Chk} (h : LineOf s x) : s = lineL x := by
  rw [lineL, ← h.1, joinL_split]
theorem itoa_inj {n m : Int} (h : Lib.itoa n = Lib.itoa m) : n = m := decStr_inj (ba_ext h)
theorem LineOf.uniq {s : List UInt8} {x y : Chk} (h : LineOf s x) (h2 : LineOf s y) : x = y := by
  have e := h.1.symm.trans h2.1
  obtain ⟨a, b, c, d⟩ := x
  obtain ⟨a2, b2, c2, d2⟩ := y
  unfold lineW at e
  simp only [List.cons.injEq, and_true, true_and] at e
  obtain ⟨e1, e2, e3, e4⟩ := e
  rw [itoa_inj e1, ba_ext e2, itoa_inj e3, itoa_inj e4]
theorem itoa_ch (n : Int) : ∀ x ∈ Lib.itoa n, ¬ x = 32 ∧ ¬ x = 10 := by
  have hd : ∀ u, ∀ y ∈ Lib.decDigits u, ¬ y = 32 ∧ ¬ y = 10 := fun u y hy => by
    have := (decDigits_val u).2 y hy
    unfold isDig at this
    refine ⟨fun e => ?_, fun e => ?_⟩
    · subst e
      exact absurd this.1 (by decide)
    · subst e
      exact absurd this.1 (by decide)
  intro x hx
  unfold Lib.itoa at hx
  split at hx
  · rcases List.mem_cons.1 hx with rfl | hx
    · decide
    · exact hd _ _ hx
  · exact hd _ _ hx
theorem name_ch {s : ByteArray} (h : isNm s) : ∀ x ∈ s.data.toList, ¬ x = 32 ∧ ¬ x = 10 := by
  intro x hx
  obtain ⟨i, hi, rfl⟩ := List.getElem_of_mem hx
  have hi' : i < s.size := by rw [Array.length_toList] at hi; exact hi
  have h1 := h.2.2 i hi'
  have e : s.data.toList[i] = s[i] := rfl
  rw [e]
  unfold nmCh at h1
  refine ⟨fun e => ?_, fun e => ?_⟩ <;> rw [e] at h1 <;> revert h1 <;> simp
theorem nDig_le : ∀ (k u : Nat), u < 10 ^ k → 1 ≤ k → Lib.nDigits u ≤ k
  | 0, _, _, h => absurd h (by omega)
  | k + 1, u, h, _ => by
    by_cases hu : u < 10
    · rw [Lib.nDigits_small hu]
      omega
    · rw [Lib.nDigits_big hu]
      have hk : 1 ≤ k := by
        apply Nat.pos_of_ne_zero
        intro e
        subst e
        exact hu h
      have := nDig_le k (u / 10) (by rw [Nat.pow_succ] at h; omega) hk
      omega
theorem fit_of {n : Int} (h0 : 0 ≤ n) (h1 : n ≤ 100000) : NumOf (decStr n) n := by
  refine ⟨rfl, ?_⟩
  rw [decStr_list, unS_itoa, Lib.decDigits_length]
  exact Nat.le_trans (nDig_le 6 n.natAbs (by have : (10 : Nat) ^ 6 = 1000000 := by decide
                                             omega) (by omega)) (by omega)
theorem ok_fit {x : Chk} (h : x.ok) : Fit x := by
  obtain ⟨h1, h2, h3, h4⟩ := h
  exact ⟨fit_of h1.1 (by omega), fit_of (by omega) (by omega), fit_of h4.1 h4.2⟩
theorem ok_words {x : Chk} (h : x.ok) : ∀ a ∈ lineW x, ∀ y ∈ a, ¬ y = 32 ∧ ¬ y = 10 := by
  obtain ⟨h1, h2, h3, h4⟩ := h
  intro a ha
  unfold lineW at ha
  simp only [List.mem_cons, List.not_mem_nil, or_false] at ha
  rcases ha with rfl | rfl | rfl | rfl | rfl | rfl
  · exact itoa_ch _
  · exact name_ch h2
  · decide
  · exact itoa_ch _
  · decide
  · exact itoa_ch _
theorem ok_line {x : Chk} (h : x.ok) : LineOf (lineL x) x :=
  ⟨splitL_join (by unfold lineW; simp) (fun a ha y hy => (ok_words h a ha y hy).1), ok_fit h⟩
theorem join_no {c : UInt8} (hc : ¬ c = 10) : ∀ {ws : List (List UInt8)}, (∀ a ∈ ws, ∀ y ∈ a, ¬ y = (10 : UInt8)) → ∀ y ∈ joinL c ws, ¬ y = 10
  | [], _, y, hy => by cases hy
  | [a], h, y, hy => h a List.mem_cons_self y hy
  | a :: b :: t, h, y, hy => by
    rw [joinL_cons c a (by simp)] at hy
    rcases List.mem_append.1 hy with hy | hy
    · exact h a List.mem_cons_self y hy
    · rcases List.mem_cons.1 hy with rfl | hy
      · exact hc
      · exact join_no hc (fun x hx => h x (List.mem_cons_of_mem _ hx)) y hy
theorem ok_ten {x : Chk} (h : x.ok) : ∀ y ∈ lineL x, ¬ y = 10 := join_no (by decide) (fun a ha y hy => (ok_words h a ha y hy).2)
theorem split_text : ∀ {l : List Chk}, (∀ x ∈ l, x.ok) → splitL 10 (chkText l) = l.map lineL ++ [[]]
  | [], _ => rfl
  | x :: r, h => by
    have ih := split_text (l := r) (fun y hy => h y (List.mem_cons_of_mem _ hy))
    rw [chkText_line] at ih ⊢
    rw [List.flatMap_cons, List.append_assoc, List.singleton_append, splitL_cat _ (ok_ten (h x List.mem_cons_self)), ih]
    rfl
theorem chks_all {l : List Chk} (h : chksOk l) : ∀ x ∈ l, x.ok := by
  intro x hx
  obtain ⟨i, hi, rfl⟩ := List.getElem_of_mem hx
  exact (h.1 i hi).1
/-- The checks that a text spells. -/
def RcT (s : ByteArray) (l : List Chk) : Prop := chksOk l ∧ chkText l = s.data.toList
theorem RcT.uniq {s : ByteArray} {l m : List Chk} (h : RcT s l) (h2 : RcT s m) : l = m := by
  have e1 := split_text (chks_all h.1)
  have e2 := split_text (chks_all h2.1)
  rw [h.2] at e1
  rw [h2.2] at e2
  have e := e1.symm.trans e2
  have hl : l.length = m.length := by
    have := congrArg List.length e
    simpa using this
  refine List.ext_getElem hl (fun i h1 h3 => ?_)
  have hx := ok_line ((chks_all h.1) _ (List.getElem_mem h1))
  have hy := ok_line ((chks_all h2.1) _ (List.getElem_mem h3))
  have e3 : lineL l[i] = lineL m[i] := by
    have e4 := (List.append_inj e (by simp [hl])).1
    have e5 : (l.map lineL)[i]? = (m.map lineL)[i]? := by rw [e4]
    rw [List.getElem?_map, List.getElem?_map, List.getElem?_eq_getElem h1, List.getElem?_eq_getElem h3] at e5
    simpa using e5
  rw [e3] at hx
  exact hx.uniq hy
/-- What reading answers. -/
def RcC (s : ByteArray) (l : List Chk) (b : Bool) : Prop := (b = true ∧ RcT s l) ∨ (b = false ∧ l = [] ∧ ∀ m, ¬ RcT s m)
theorem RcC.uniq {s : ByteArray} {l m : List Chk} {b c : Bool} (h : RcC s l b) (h2 : RcC s m c) : l = m ∧ b = c := by
  rcases h with ⟨rfl, h⟩ | ⟨rfl, rfl, h⟩ <;> rcases h2 with ⟨rfl, h2⟩ | ⟨rfl, rfl, h2⟩
  · exact ⟨h.uniq h2, rfl⟩
  · exact absurd h (h2 _)
  · exact absurd h2 (h _)
  · exact ⟨rfl, rfl⟩
/-- The lines, of a text that spells checks. -/
theorem rct_lines {s : ByteArray} {m : List Chk} (h : RcT s m) : splitF s 10 0 = m.map (fun x => (⟨(lineL x).toArray⟩ : ByteArray)) ++ [⟨#[]⟩] := by
  unfold splitF
  rw [List.drop_zero, ← h.2, split_text (chks_all h.1), List.map_append, List.map_map]
  rfl
/-- Lines that are checks' lines, and an empty one behind them. -/
theorem rct_of {s : ByteArray} {l : List Chk} (hok : chksOk l) (hl : (splitF s 10 0).length = l.length + 1) (h0 : ∀ h : l.length < (splitF s 10 0).length, (splitF s 10 0)[l.length] = ⟨#[]⟩)
    (h : ∀ i (h1 : i < l.length) (h2 : i < (splitF s 10 0).length), LineOf (splitF s 10 0)[i].data.toList l[i]) : RcT s l := by
  refine ⟨hok, ?_⟩
  have e : splitL 10 s.data.toList = l.map lineL ++ [[]] := by
    have hs : (splitF s 10 0).map (fun x => x.data.toList) = splitL 10 s.data.toList := by
      unfold splitF
      rw [List.map_map, List.drop_zero]
      have : ((fun x : ByteArray => x.data.toList) ∘ fun l : List UInt8 => (⟨l.toArray⟩ : ByteArray)) = id := rfl
      rw [this, List.map_id]
    rw [← hs]
    refine List.ext_getElem (by simp [hl]) (fun i h1 h2 => ?_)
    rw [List.length_map] at h1
    rw [List.getElem_map]
    by_cases hi : i < l.length
    · rw [List.getElem_append_left (by simpa using hi), List.getElem_map]
      exact (h i hi h1).line
    · have : i = l.length := by omega
      subst this
      rw [h0 h1, List.getElem_append_right (by simp)]
      simp
  have hj := joinL_split 10 s.data.toList
  rw [e] at hj
  rw [← hj, chkText_line]
  clear hj e h h0 hl hok
  induction l with
  | nil => rfl
  | cons x r ih =>
    rw [List.map_cons, List.cons_append, joinL_cons 10 _ (by simp), ← ih, List.flatMap_cons]
    simp
end Go.Proofs.YtmglcdmccikinaaDoor
