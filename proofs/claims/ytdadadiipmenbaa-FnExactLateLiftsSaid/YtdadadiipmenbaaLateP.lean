/- A list that is sorted and rid of its repeats; the late lifts. No program in sight. -/
import Derived.Test.YtdadadiipmenbaaLate
import Derived.Lib.SlicesCompact
namespace Go.Proofs.Ytdadadiipmenbaa
open Go.RowKit
theorem ss_eq : ∀ (a b : List Int), a.Pairwise (· < ·) → b.Pairwise (· < ·) → (∀ x, x ∈ a ↔ x ∈ b) → a = b
  | [], [], _, _, _ => rfl
  | [], y :: b, _, _, h => absurd ((h y).2 List.mem_cons_self) (by simp)
  | x :: a, [], _, _, h => absurd ((h x).1 List.mem_cons_self) (by simp)
  | x :: a, y :: b, ha, hb, h => by
    rw [List.pairwise_cons] at ha hb
    have hxy : x = y := by
      rcases List.mem_cons.1 ((h x).1 List.mem_cons_self) with e | hx
      · exact e
      · rcases List.mem_cons.1 ((h y).2 List.mem_cons_self) with e | hy
        · exact e.symm
        · have := ha.1 y hy; have := hb.1 x hx; omega
    subst hxy
    rw [ss_eq a b ha.2 hb.2 (fun z => by
      constructor
      · intro hz
        rcases List.mem_cons.1 ((h z).1 (List.mem_cons_of_mem _ hz)) with e | h2
        · have := ha.1 z hz; omega
        · exact h2
      · intro hz
        rcases List.mem_cons.1 ((h z).2 (List.mem_cons_of_mem _ hz)) with e | h2
        · have := hb.1 z hz; omega
        · exact h2)]
theorem compact_mem (zs : List Int) (x : Int) : x ∈ Lib.compact zs ↔ x ∈ zs := by
  unfold Lib.compact Lib.compactUpTo
  constructor
  · intro h
    obtain ⟨i, hi, rfl⟩ := List.mem_map.1 h
    have hlt := List.mem_range.1 (List.mem_filter.1 hi).1
    rw [getElem!_pos _ _ (by simpa using hlt)]
    simp
  · intro h
    obtain ⟨i, hi, rfl⟩ := List.getElem_of_mem h
    have key : ∀ i, i < zs.length → zs.toArray[i]! ∈ ((List.range zs.length).filter (Lib.keeps zs.toArray)).map (zs.toArray[·]!) := by
      intro i
      induction i with
      | zero => intro h0; exact List.mem_map.2 ⟨0, List.mem_filter.2 ⟨List.mem_range.2 h0, Lib.keeps_lt_one _ 0 (by omega)⟩, rfl⟩
      | succ i ih =>
        intro h1
        by_cases he : zs.toArray[i + 1]! = zs.toArray[i]!
        · rw [he]; exact ih (by omega)
        · exact List.mem_map.2 ⟨i + 1, List.mem_filter.2 ⟨List.mem_range.2 h1, Lib.keeps_pos he⟩, rfl⟩
    have := key i hi
    rwa [getElem!_pos _ _ (by simpa using hi), List.getElem_toArray] at this
theorem compact_sorted (zs : List Int) (h : zs.Pairwise (· ≤ ·)) : (Lib.compact zs).Pairwise (· < ·) := by
  unfold Lib.compact Lib.compactUpTo
  have hle : ∀ i j : Nat, i ≤ j → j < zs.length → zs.toArray[i]! ≤ zs.toArray[j]! := by
    intro i j hij hj
    rw [getElem!_pos zs.toArray i (by simp; omega), getElem!_pos zs.toArray j (by simpa using hj), List.getElem_toArray, List.getElem_toArray]
    by_cases e : i = j
    · subst e; exact Int.le_refl _
    · exact List.pairwise_iff_getElem.1 h i j (by omega) hj (by omega)
  rw [List.pairwise_map]
  have hr : ((List.range zs.length).filter (Lib.keeps zs.toArray)).Pairwise (fun a b : Nat => a < b) := List.Pairwise.filter _ List.pairwise_lt_range
  refine List.Pairwise.imp_of_mem (R := fun a b : Nat => a < b) ?_ hr
  intro i j hi hj hij
  have hjl := List.mem_range.1 (List.mem_filter.1 hj).1
  have hk := (List.mem_filter.1 hj).2
  have h1 := hle i (j - 1) (by omega) (by omega)
  have h2 := hle (j - 1) j (by omega) hjl
  have h3 : zs.toArray[j]! ≠ zs.toArray[j - 1]! := fun e => by rw [Lib.keeps_neg (by omega) e] at hk; cases hk
  omega
/-- What the program collects. -/
def colL (G : LiftsL) (l : List Tsk) : List Int := l.filterMap fun t => if dlAt G t.lift.toNat < t.fin then some t.lift else none
theorem colL_yes {G : LiftsL} {l : List Tsk} {k : Nat} (hk : k < l.length) {n : Nat} (hn : l[k].lift = (n : Int)) (h : dlAt G n < l[k].fin) : colL G (l.take (k + 1)) = colL G (l.take k) ++ [(n : Int)] := by
  unfold colL
  rw [List.take_succ_eq_append_getElem hk, List.filterMap_append]
  simp [hn, h]
theorem colL_no {G : LiftsL} {l : List Tsk} {k : Nat} (hk : k < l.length) {n : Nat} (hn : l[k].lift = (n : Int)) (h : ¬ dlAt G n < l[k].fin) : colL G (l.take (k + 1)) = colL G (l.take k) := by
  unfold colL
  rw [List.take_succ_eq_append_getElem hk, List.filterMap_append]
  simp [hn, h]
theorem colL_len (G : LiftsL) (l : List Tsk) (k : Nat) : (colL G (l.take k)).length ≤ l.length := by
  unfold colL
  have h1 := List.length_filterMap_le (fun t : Tsk => if dlAt G t.lift.toNat < t.fin then some t.lift else none) (l.take k)
  rw [List.length_take] at h1
  omega
theorem lateL_mem (G : LiftsL) (l : List Tsk) (x : Int) : ∀ k, x ∈ lateL G l k ↔ ∃ i, i < k ∧ x = (i : Int) ∧ lateB G l i = true
  | 0 => by simp [lateL]
  | k + 1 => by
    have ih := lateL_mem G l x k
    unfold lateL
    constructor
    · intro h
      split at h
      · rename_i hb
        rcases List.mem_append.1 h with h | h
        · obtain ⟨i, h1, h2⟩ := ih.1 h; exact ⟨i, by omega, h2⟩
        · exact ⟨k, by omega, by simpa using h, hb⟩
      · obtain ⟨i, h1, h2⟩ := ih.1 h; exact ⟨i, by omega, h2⟩
    · rintro ⟨i, h1, h2, h3⟩
      by_cases e : i = k
      · subst e
        rw [if_pos h3]
        exact List.mem_append.2 (.inr (by simp [h2]))
      · have := ih.2 ⟨i, by omega, h2, h3⟩
        split
        · exact List.mem_append.2 (.inl this)
        · exact this
theorem lateL_sorted (G : LiftsL) (l : List Tsk) : ∀ k, (lateL G l k).Pairwise (· < ·)
  | 0 => List.Pairwise.nil
  | k + 1 => by
    have ih := lateL_sorted G l k
    unfold lateL
    split
    · rw [List.pairwise_append]
      refine ⟨ih, List.pairwise_singleton _ _, ?_⟩
      intro a ha b hb
      obtain ⟨i, h1, h2, -⟩ := (lateL_mem G l a k).1 ha
      rw [List.mem_singleton] at hb
      omega
    · exact ih
theorem late_col (G : LiftsL) (l : List Tsk) (h : ∀ i (hi : i < l.length), 0 ≤ l[i].lift ∧ l[i].lift < (G.length : Int)) :
    Lib.compact ((colL G l).mergeSort fun x y => decide (x ≤ y)) = lateL G l G.length := by
  refine ss_eq _ _ (compact_sorted _ ?_) (lateL_sorted G l _) ?_
  · have := List.pairwise_mergeSort (le := fun x y : Int => decide (x ≤ y)) (fun a b c h1 h2 => by simp only [decide_eq_true_eq] at *; omega) (fun a b => by simp only [Bool.or_eq_true, decide_eq_true_eq]; omega) (colL G l)
    exact this.imp (fun h => by simpa using h)
  · intro x
    rw [compact_mem, List.mem_mergeSort, lateL_mem]
    unfold colL
    rw [List.mem_filterMap]
    constructor
    · rintro ⟨t, ht, he⟩
      split at he
      · rename_i hd
        cases he
        obtain ⟨i, hi, rfl⟩ := List.getElem_of_mem ht
        obtain ⟨h1, h2⟩ := h i hi
        refine ⟨l[i].lift.toNat, by omega, by omega, ?_⟩
        unfold lateB
        exact List.any_eq_true.2 ⟨_, ht, decide_eq_true ⟨by omega, hd⟩⟩
      · cases he
    · rintro ⟨i, hi, rfl, hb⟩
      unfold lateB at hb
      obtain ⟨t, ht, hd⟩ := List.any_eq_true.1 hb
      have hd := of_decide_eq_true hd
      exact ⟨t, ht, by rw [if_pos (by rw [hd.1, Int.toNat_natCast]; exact hd.2), hd.1]⟩
end Go.Proofs.Ytdadadiipmenbaa
