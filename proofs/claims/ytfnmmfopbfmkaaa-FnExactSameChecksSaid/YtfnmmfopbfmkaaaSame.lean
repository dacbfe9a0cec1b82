/- SameChecks, in both packages. -/
import Derived.Test.YtfnmmfopbfmkaaaChk
namespace Go.Proofs.Ytfnmmfopbfmkaaa
open Go.RowKit

def sameB (a b : List Chk) : Bool := decide (a = b)
theorem sameB_f {a b : List Chk} (h : ¬ a = b) : sameB a b = false := decide_eq_false h
theorem sameB_t {a b : List Chk} (h : a = b) : sameB a b = true := decide_eq_true h
theorem Chk.ne_cases (x y : Chk) : (x = y) ∨ (¬ x = y ∧ ¬ x.crane = y.crane) ∨ (¬ x = y ∧ x.crane = y.crane ∧ ¬ x.name = y.name) ∨ (¬ x = y ∧ x.crane = y.crane ∧ x.name = y.name ∧ ¬ x.every = y.every) ∨
    (¬ x = y ∧ x.crane = y.crane ∧ x.name = y.name ∧ x.every = y.every ∧ ¬ x.last = y.last) := by
  cases x; cases y
  simp only [Chk.mk.injEq]
  rename_i a b c d e f g h
  by_cases h1 : a = e <;> by_cases h2 : b = f <;> by_cases h3 : c = g <;> by_cases h4 : d = h <;> simp [*]


set_option maxRecDepth 100000 in
set_option maxHeartbeats 4000000 in
theorem spec_SameChecks (v : Value) (l : List Chk) (lo hi : Nat) (v2 : Value) (l2 : List Chk) (lo2 hi2 : Nat) (w : World) (h : Chks lo hi w v l) (_hl : l.length ≤ 1048576) (_hwf : ∀ x ∈ l, x.wf) (h2 : Chks lo2 hi2 w v2 l2) (_hl2 : l2.length ≤ 1048576) (_hwf2 : ∀ x ∈ l2, x.wf) :
    Calls Try.prog 21 #[v, v2] w fun e w' => e = .returned (.bool (sameB l l2)) ∧ Below w.heap.size w w' := by
  have hsl := h
  have hsl2 := h2
  obtain ⟨a, cap, rfl, hlen, hh⟩ := h
  obtain ⟨a2, cap2, rfl, hlen2, hh2⟩ := h2
  clear hh hh2
  by_cases hne : ¬ l.length = l2.length
  · have Hd := Lib.hid (sameB_f (a := l) (b := l2) (fun e => hne (by rw [e])))
    have hb : ((l.length : Int) != (l2.length : Int)) = true := by rw [bne_iff_ne]; omega
    clear hne
    go_enter Try.func21, Try.ntmps21
    go_wp2
    go_ret
    exact ⟨ret_bool Hd.out.symm, Below.refl _ _⟩
  have hle : l.length ≤ l2.length ∧ l2.length ≤ l.length := by omega
  have hb : ((l.length : Int) != (l2.length : Int)) = false := by rw [bne_eq_false_iff_eq]; omega
  clear hne
  go_enter Try.func21, Try.ntmps21
  go_wp2
  go_loopw [5] (fun i wr => ∃ k : Nat, k ≤ l.length ∧ i = .int .i64 k ∧ Below w.heap.size w wr ∧ Hid (∀ i (h : i < l.length) (h2 : i < l2.length), i < k → l[i] = l2[i])) (fun i _ => l.length - (intOf i).toNat)
  case atStart => exact ⟨0, Nat.zero_le _, rfl, Below.refl _ _, Lib.hid (fun _ _ _ h => absurd h (by omega))⟩
  case round =>
    obtain ⟨k, hk, rfl, hB, hsame⟩ := hrel
    by_cases hlt : k < l.length
    · have hlt2 : k < l2.length := by omega
      obtain ⟨b, off, rfl⟩ := hsl.addr (by omega)
      obtain ⟨b2, off2, rfl⟩ := hsl2.addr (by omega)
      obtain ⟨c0, c1, c2, c3⟩ := Chks.at (hsl.ext hB).get hlt
      obtain ⟨d0, d1, d2, d3⟩ := Chks.at (hsl2.ext hB).get hlt2
      have Hnx : Hid (l[k] = l2[k] → ∀ i (h : i < l.length) (h2 : i < l2.length), i < k + 1 → l[i] = l2[i]) := Lib.hid (fun h i hi hi2 hij => by
        by_cases e : i < k
        · exact hsame.out i hi hi2 e
        · have : i = k := by omega
          subst this; exact h)
      have Hne : Hid (¬ l[k] = l2[k] → sameB l l2 = false) := Lib.hid (fun h => sameB_f (fun e => h (by subst e; rfl)))
      clear hsl hsl2
      generalize l[k] = x at *
      generalize l2[k] = y at *
      rcases Chk.ne_cases x y with rfl | ⟨hn, h1⟩ | ⟨hn, h1, h2⟩ | ⟨hn, h1, h2, h3⟩ | ⟨hn, h1, h2, h3, h4⟩
      · have Hn := Lib.hid (Hnx.out rfl)
        go_wp2_with (go_quiet (fail))
        go_roundw
        case rel => exact ⟨k + 1, by omega, by go_num, below_dN hB _, Hn⟩
        case measure => simp [intOf]; omega
      all_goals
        have Hd := Lib.hid (Hne.out hn)
        clear hn
        try (have q1 : (x.crane == y.crane) = true := by rw [beq_iff_eq]; exact h1)
        try (have q1 : (x.crane == y.crane) = false := by rw [beq_eq_false_iff_ne]; exact h1)
        try (have q2 := name_eq h2)
        try (have q2 := name_ne h2)
        try (have q3 : (x.every == y.every) = true := by rw [beq_iff_eq]; exact h3)
        try (have q3 : (x.every == y.every) = false := by rw [beq_eq_false_iff_ne]; exact h3)
        try (have q4 : (x.last == y.last) = false := by rw [beq_eq_false_iff_ne]; exact h4)
        clear h1
        try clear h2
        try clear h3
        try clear h4
        go_wp2_with (go_quiet (fail))
        go_ret
        exact ⟨ret_bool Hd.out.symm, below_dN hB _⟩
    · have Hd : Hid (sameB l l2 = true) := Lib.hid (sameB_t (List.ext_getElem (by omega) (fun i h1 h2 => hsame.out i h1 h2 (by omega))))
      go_wp2
      go_ret
      exact ⟨ret_bool Hd.out.symm, hB⟩

set_option maxRecDepth 100000 in
set_option maxHeartbeats 4000000 in
theorem impl_Equal (v : Value) (l : List Chk) (lo hi : Nat) (v2 : Value) (l2 : List Chk) (lo2 hi2 : Nat) (w : World) (h : Chks lo hi w v l) (h2 : Chks lo2 hi2 w v2 l2) :
    Calls Try.prog 67 #[v, v2] w fun e w' => e = .returned (.bool (sameB l l2)) ∧ Below w.heap.size w w' := by
  have hsl := h
  have hsl2 := h2
  obtain ⟨a, cap, rfl, hlen, hh⟩ := h
  obtain ⟨a2, cap2, rfl, hlen2, hh2⟩ := h2
  clear hh hh2
  by_cases hne : ¬ l.length = l2.length
  · have Hd := Lib.hid (sameB_f (a := l) (b := l2) (fun e => hne (by rw [e])))
    have hb : ((l.length : Int) != (l2.length : Int)) = true := by rw [bne_iff_ne]; omega
    clear hne
    go_enter Try.func67, Try.ntmps67
    go_wp2
    go_ret
    exact ⟨ret_bool Hd.out.symm, Below.refl _ _⟩
  have hle : l.length ≤ l2.length ∧ l2.length ≤ l.length := by omega
  have hb : ((l.length : Int) != (l2.length : Int)) = false := by rw [bne_eq_false_iff_eq]; omega
  clear hne
  go_enter Try.func67, Try.ntmps67
  go_wp2
  go_loopw [13] (fun i wr => ∃ k : Nat, k ≤ l.length ∧ i = .int .i64 k ∧ Below w.heap.size w wr ∧ Hid (∀ i (h : i < l.length) (h2 : i < l2.length), i < k → l[i] = l2[i])) (fun i _ => l.length - (intOf i).toNat)
  case atStart => exact ⟨0, Nat.zero_le _, rfl, Below.refl _ _, Lib.hid (fun _ _ _ h => absurd h (by omega))⟩
  case round =>
    obtain ⟨k, hk, rfl, hB, hsame⟩ := hrel
    by_cases hlt : k < l.length
    · have hlt2 : k < l2.length := by omega
      obtain ⟨b, off, rfl⟩ := hsl.addr (by omega)
      obtain ⟨b2, off2, rfl⟩ := hsl2.addr (by omega)
      obtain ⟨c0, c1, c2, c3⟩ := Chks.at (hsl.ext hB).get hlt
      obtain ⟨d0, d1, d2, d3⟩ := Chks.at (hsl2.ext hB).get hlt2
      have Hnx : Hid (l[k] = l2[k] → ∀ i (h : i < l.length) (h2 : i < l2.length), i < k + 1 → l[i] = l2[i]) := Lib.hid (fun h i hi hi2 hij => by
        by_cases e : i < k
        · exact hsame.out i hi hi2 e
        · have : i = k := by omega
          subst this; exact h)
      have Hne : Hid (¬ l[k] = l2[k] → sameB l l2 = false) := Lib.hid (fun h => sameB_f (fun e => h (by subst e; rfl)))
      clear hsl hsl2
      generalize l[k] = x at *
      generalize l2[k] = y at *
      rcases Chk.ne_cases x y with rfl | ⟨hn, h1⟩ | ⟨hn, h1, h2⟩ | ⟨hn, h1, h2, h3⟩ | ⟨hn, h1, h2, h3, h4⟩
      · have Hn := Lib.hid (Hnx.out rfl)
        go_wp2_with (go_quiet (fail))
        go_roundw
        case rel => exact ⟨k + 1, by omega, by go_num, below_dN hB _, Hn⟩
        case measure => simp [intOf]; omega
      all_goals
        have Hd := Lib.hid (Hne.out hn)
        clear hn
        try (have q1 : (x.crane == y.crane) = true := by rw [beq_iff_eq]; exact h1)
        try (have q1 : (x.crane == y.crane) = false := by rw [beq_eq_false_iff_ne]; exact h1)
        try (have q2 := name_eq h2)
        try (have q2 := name_ne h2)
        try (have q3 : (x.every == y.every) = true := by rw [beq_iff_eq]; exact h3)
        try (have q3 : (x.every == y.every) = false := by rw [beq_eq_false_iff_ne]; exact h3)
        try (have q4 : (x.last == y.last) = false := by rw [beq_eq_false_iff_ne]; exact h4)
        clear h1
        try clear h2
        try clear h3
        try clear h4
        go_wp2_with (go_quiet (fail))
        go_ret
        exact ⟨ret_bool Hd.out.symm, below_dN hB _⟩
    · have Hd : Hid (sameB l l2 = true) := Lib.hid (sameB_t (List.ext_getElem (by omega) (fun i h1 h2 => hsame.out i h1 h2 (by omega))))
      go_wp2
      go_ret
      exact ⟨ret_bool Hd.out.symm, hB⟩

theorem impl_SameChecks (v : Value) (l : List Chk) (lo hi : Nat) (v2 : Value) (l2 : List Chk) (lo2 hi2 : Nat) (w : World) (h : Chks lo hi w v l) (_hl : l.length ≤ 1048576) (_hwf : ∀ x ∈ l, x.wf) (h2 : Chks lo2 hi2 w v2 l2) (_hl2 : l2.length ≤ 1048576) (_hwf2 : ∀ x ∈ l2, x.wf) :
    Calls Try.prog 23 #[v, v2] w fun e w' => e = .returned (.bool (sameB l l2)) ∧ Below w.heap.size w w' := by
  have H := Lib.hid (impl_Equal v l lo hi v2 l2 lo2 hi2 w h h2)
  obtain ⟨a, cap, rfl, hlen, hh⟩ := h
  obtain ⟨a2, cap2, rfl, hlen2, hh2⟩ := h2
  clear hh hh2 _hwf _hwf2
  go_enter Try.func23, Try.ntmps23
  go_wp2_with fail
  refine H.out.mono ?_
  rintro e w1 ⟨rfl, hb1⟩
  go_wp2
  go_ret
  exact ⟨rfl, hb1⟩
end Go.Proofs.Ytfnmmfopbfmkaaa
