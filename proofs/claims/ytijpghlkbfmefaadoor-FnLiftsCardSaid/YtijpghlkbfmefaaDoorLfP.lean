/- Plain law of lifts: sets of indices, what can be done next, orders, levels. No program in sight. Sets of indices in a number: what the program and the reference ask of them. -/
import Derived.Test.YtijpghlkbfmefaaDoorLiftsW
import Derived.Test.YtijpghlkbfmefaaDoorPck
import Derived.Test.YtijpghlkbfmefaaDoorNX
namespace Go.Proofs.YtijpghlkbfmefaaDoor
open Go.RowKit
/-- The lift k can be done when the lifts of the set S have been done. -/
def canN (L : LiftsL) (S k : Nat) : Bool := match L[k]? with | some x => !S.testBit k && x.2.all (fun a => S.testBit a.toNat) | none => false
theorem canN_at {L : LiftsL} {S k : Nat} (hk : k < L.length) : canN L S k = (!S.testBit k && L[k].2.all (fun a => S.testBit a.toNat)) := by unfold canN; rw [List.getElem?_eq_getElem hk]
theorem canN_lt {L : LiftsL} {S k : Nat} (h : canN L S k = true) : k < L.length := by
  unfold canN at h
  by_cases hk : k < L.length
  · exact hk
  · rw [List.getElem?_eq_none (by omega)] at h; cases h
/-- How many of the numbers below n a set has. -/
def cnt (S : Nat) : Nat → Nat
  | 0 => 0
  | n + 1 => cnt S n + (if S.testBit n then 1 else 0)
theorem cnt_le (S : Nat) : ∀ n, cnt S n ≤ n
  | 0 => Nat.le_refl _
  | n + 1 => by have := cnt_le S n; unfold cnt; split <;> omega
theorem bit_or (S k j : Nat) : (S ||| 2 ^ k).testBit j = (S.testBit j || decide (k = j)) := by rw [Nat.testBit_or, Nat.testBit_two_pow]
theorem cnt_same {S k : Nat} : ∀ n, n ≤ k → cnt (S ||| 2 ^ k) n = cnt S n
  | 0, _ => rfl
  | n + 1, h => by
    unfold cnt
    rw [cnt_same n (by omega), bit_or, decide_eq_false (by omega), Bool.or_false]
theorem cnt_or {S k : Nat} (h : S.testBit k = false) : ∀ n, k < n → cnt (S ||| 2 ^ k) n = cnt S n + 1
  | 0, hk => absurd hk (by omega)
  | n + 1, hk => by
    unfold cnt
    by_cases e : k = n
    · subst e
      rw [cnt_same k (Nat.le_refl _), bit_or, h, decide_eq_true rfl]
      simp
    · rw [cnt_or h n (by omega), bit_or, decide_eq_false e, Bool.or_false]
      omega
theorem cnt_zero : ∀ n, cnt 0 n = 0
  | 0 => rfl
  | n + 1 => by unfold cnt; rw [cnt_zero n]; simp
/-- Where a number is lacking there is a least one. -/
theorem cnt_lt {S : Nat} : ∀ n, cnt S n < n → ∃ k, k < n ∧ S.testBit k = false ∧ ∀ j, j < k → S.testBit j = true
  | 0, h => absurd h (by omega)
  | n + 1, h => by
    by_cases hc : cnt S n < n
    · obtain ⟨k, hk, h1, h2⟩ := cnt_lt n hc
      exact ⟨k, by omega, h1, h2⟩
    · have he : cnt S n = n := by have := cnt_le S n; omega
      have hall : ∀ m, m ≤ n → cnt S m = m → ∀ j, j < m → S.testBit j = true := by
        intro m
        induction m with
        | zero => intro _ _ j hj; omega
        | succ m ih =>
          intro hm hcm j hj
          unfold cnt at hcm
          have hle := cnt_le S m
          cases hb : S.testBit m
          · rw [hb] at hcm; simp at hcm; omega
          · rw [hb] at hcm
            simp at hcm
            by_cases e : j = m
            · subst e; exact hb
            · exact ih (by omega) (by omega) j (by omega)
      refine ⟨n, by omega, ?_, hall n (Nat.le_refl _) he⟩
      unfold cnt at h
      cases hb : S.testBit n
      · rfl
      · rw [hb, he] at h; simp at h
theorem can_ex {L : LiftsL} {S : Nat} (hok : liftsOk L) (h : cnt S L.length < L.length) : ∃ k, k < L.length ∧ canN L S k = true := by
  obtain ⟨k, hk, h1, h2⟩ := cnt_lt L.length h
  refine ⟨k, hk, ?_⟩
  rw [canN_at hk, h1, Bool.not_false, Bool.true_and, List.all_eq_true]
  intro a ha
  obtain ⟨i, hi, rfl⟩ := List.getElem_of_mem ha
  have := ((hok.1 k hk).1.2.2.2.2.2.2 i hi).1
  exact h2 _ (by omega)
/-- The set of the numbers of a list, and what a list of indices must be to be an order (as far as it goes). -/
def setOf : List Nat → Nat
  | [] => 0
  | k :: r => setOf r ||| 2 ^ k
/-- The list is told from its end: the last one done comes first. -/
def ordRev (L : LiftsL) : List Nat → Prop
  | [] => True
  | k :: r => canN L (setOf r) k = true ∧ ordRev L r
theorem ord_cnt {L : LiftsL} : ∀ r, ordRev L r → cnt (setOf r) L.length = r.length
  | [], _ => cnt_zero _
  | k :: r, h => by
    have hk := canN_lt h.1
    have hb : (setOf r).testBit k = false := by
      have := h.1
      rw [canN_at hk, Bool.and_eq_true] at this
      simpa using this.1
    show cnt (setOf r ||| 2 ^ k) L.length = r.length + 1
    rw [cnt_or hb _ hk, ord_cnt r h.2]
theorem ord_lt {L : LiftsL} (hl : L.length ≤ 10) : ∀ r, ordRev L r → setOf r < 2 ^ L.length
  | [], _ => Nat.two_pow_pos _
  | k :: r, h => Nat.or_lt_two_pow (ord_lt hl r h.2) (Nat.pow_lt_pow_right (by omega) (canN_lt h.1))
/-- An order: the numbers of a list of indices that runs through all lifts, each when it can be done. -/
structure OrdOk (L : LiftsL) (l : List Int) (r : List Nat) : Prop where
  eq : l = (r.reverse).map (fun (k : Nat) => (k : Int))
  ok : ordRev L r
theorem OrdOk.zero (L : LiftsL) : OrdOk L [] [] := ⟨rfl, trivial⟩
theorem OrdOk.push {L : LiftsL} {l : List Int} {r : List Nat} {k : Nat} (h : OrdOk L l r) (hk : canN L (setOf r) k = true) : OrdOk L (l ++ [(k : Int)]) (k :: r) := ⟨by rw [h.eq]; simp, hk, h.ok⟩
theorem OrdOk.len {L : LiftsL} {l : List Int} {r : List Nat} (h : OrdOk L l r) : l.length = r.length := by rw [h.eq]; simp
theorem ordRev_drop {L : LiftsL} : ∀ (r : List Nat) (m : Nat), ordRev L r → ordRev L (r.drop m)
  | [], m, _ => by simp [ordRev]
  | k :: r, 0, h => h
  | k :: r, m + 1, h => by rw [List.drop_succ_cons]; exact ordRev_drop r m h.2
/-- The i-th of an order, when those ahead of it have been done. -/
theorem OrdOk.at {L : LiftsL} {l : List Int} {r : List Nat} (h : OrdOk L l r) {i : Nat} (hi : i < l.length) : ∃ k : Nat, l[i] = k ∧ r.drop (r.length - (i + 1)) = k :: r.drop (r.length - i) ∧ canN L (setOf (r.drop (r.length - i))) k = true := by
  have hr : i < r.length := by rw [← h.len]; exact hi
  have hx : r.length - (i + 1) < r.length := by omega
  refine ⟨r[r.length - (i + 1)], ?_, ?_, ?_⟩
  · have e := h.eq
    subst e
    simp only [List.getElem_map, List.getElem_reverse]
    congr 2
    omega
  · rw [List.drop_eq_getElem_cons hx]
    congr 2
    omega
  · have h2 := ordRev_drop r (r.length - (i + 1)) h.ok
    rw [List.drop_eq_getElem_cons hx] at h2
    have h3 := h2.1
    rw [show r.length - (i + 1) + 1 = r.length - i by omega] at h3
    exact h3
/-- The levels: one more than the greatest of what a lift waits for. -/
def mxL (lv : List Int) : List Int → Int → Int
  | [], m => m
  | a :: r, m => mxL lv r (max m (lv.getD a.toNat 0))
def lvlsOk (L : LiftsL) (lv : List Int) : Prop := lv.length ≤ L.length ∧ ∀ i (h : i < lv.length) (h2 : i < L.length), lv[i] = mxL lv L[i].2 0 + 1
theorem and_one_i64 (x : Nat) : bits .and .i64 (x : Int) 1 = ((x % 2 : Nat) : Int) := by
  have h1 : (BitVec.ofInt 64 1).toNat = 2 ^ 1 - 1 := by decide
  show IntKind.i64.wrap ((BitVec.ofInt 64 (x : Int) &&& BitVec.ofInt 64 1).toNat : Nat) = _
  rw [BitVec.toNat_and, h1, Nat.and_two_pow_sub_one_eq_mod, BitVec.toNat_ofInt, IntKind.wrap_i64]
  have e : ((x : Int) % ((2 ^ 64 : Nat) : Int)).toNat % 2 ^ 1 = x % 2 := by omega
  rw [e]
  omega
theorem or_i64 (a b : Nat) (ha : a < 2 ^ 62) (hb : b < 2 ^ 62) : bits .or .i64 (a : Int) (b : Int) = ((a ||| b : Nat) : Int) := by
  show IntKind.i64.wrap ((BitVec.ofInt 64 (a : Int) ||| BitVec.ofInt 64 (b : Int)).toNat : Nat) = _
  have ea : ((a : Int) % ((2 ^ 64 : Nat) : Int)).toNat = a := by omega
  have eb : ((b : Int) % ((2 ^ 64 : Nat) : Int)).toNat = b := by omega
  rw [BitVec.toNat_or, BitVec.toNat_ofInt, BitVec.toNat_ofInt, ea, eb, IntKind.wrap_i64]
  have := Nat.or_lt_two_pow ha hb
  omega
theorem bit_i64 (S k : Nat) : bits .and .i64 ((S : Int) / 2 ^ k) 1 = (((S / 2 ^ k) % 2 : Nat) : Int) := by
  have e : (S : Int) / 2 ^ k = ((S / 2 ^ k : Nat) : Int) := by rw [Int.natCast_ediv, Int.natCast_pow]; rfl
  rw [e, and_one_i64]
theorem has_t (S k : Nat) : (bits .and .i64 ((S : Int) / 2 ^ k) 1 == 1) = S.testBit k := by
  rw [bit_i64, Nat.testBit_eq_decide_div_mod_eq]
  by_cases h : S / 2 ^ k % 2 = 1
  · rw [h]; rfl
  · have h0 : S / 2 ^ k % 2 = 0 := by omega
    rw [h0]; rfl
theorem has_f (S k : Nat) : (bits .and .i64 ((S : Int) / 2 ^ k) 1 == 0) = !S.testBit k := by
  rw [bit_i64, Nat.testBit_eq_decide_div_mod_eq]
  by_cases h : S / 2 ^ k % 2 = 1
  · rw [h]; rfl
  · have h0 : S / 2 ^ k % 2 = 0 := by omega
    rw [h0]; rfl
theorem impl_Has (S k : Nat) (w : World) (hk : k ≤ 10) : Calls Tryd.prog 55 #[.int .i64 S, .int .i64 k] w fun e w' => e = .returned (.bool (S.testBit k)) ∧ w = w' := by
  have h := has_t S k
  go_enter Tryd.func55, Tryd.ntmps55
  go_wp2
  go_ret
  exact ⟨rfl, rfl⟩
theorem spec_Bit (S k : Nat) (w : World) (hk : k ≤ 10) : Calls Tryd.prog 73 #[.int .i64 S, .int .i64 k] w fun e w' => e = .returned (.bool (S.testBit k)) ∧ w = w' := by
  have h := has_t S k
  go_enter Tryd.func73, Tryd.ntmps73
  go_wp2
  go_ret
  exact ⟨rfl, rfl⟩
end Go.Proofs.YtijpghlkbfmefaaDoor
