/- Decimal numbers, the reference's reading. -/
import Derived.Test.YtmglcdmccikinaaDoorDecS
namespace Go.Proofs.YtmglcdmccikinaaDoor
open Go.RowKit
def isDig (c : UInt8) : Prop := 48 ≤ c.toNat ∧ c.toNat ≤ 57
instance (c : UInt8) : Decidable (isDig c) := by unfold isDig; exact inferInstance
/-- What digits spell. -/
def digV (acc : Nat) (c : UInt8) : Nat := 10 * acc + (c.toNat - 48)
def valD (a : Nat) (l : List UInt8) : Nat := l.foldl digV a
theorem valD_nil (a : Nat) : valD a [] = a := rfl
theorem valD_cons (a : Nat) (c : UInt8) (r : List UInt8) : valD a (c :: r) = valD (10 * a + (c.toNat - 48)) r := by unfold valD; rw [List.foldl_cons]; simp only [digV]
theorem valD_append (a : Nat) (l m : List UInt8) : valD a (l ++ m) = valD (valD a l) m := List.foldl_append
theorem valD_bd : ∀ (l : List UInt8) (a : Nat), (∀ c ∈ l, isDig c) → valD a l < (a + 1) * 10 ^ l.length
  | [], a, _ => by rw [valD_nil]; simp
  | c :: r, a, h => by
    have h1 := h c List.mem_cons_self
    have h2 := valD_bd r (10 * a + (c.toNat - 48)) (fun x hx => h x (List.mem_cons_of_mem _ hx))
    rw [valD_cons, List.length_cons, Nat.pow_succ]
    have h3 : 10 * a + (c.toNat - 48) + 1 ≤ (a + 1) * 10 := by unfold isDig at h1; omega
    have h4 := Nat.mul_le_mul_right (10 ^ r.length) h3
    have e : (a + 1) * (10 ^ r.length * 10) = (a + 1) * 10 * 10 ^ r.length := by rw [Nat.mul_comm (10 ^ r.length) 10, Nat.mul_assoc]
    omega
theorem decDigits_val (u : Nat) : valD 0 (Lib.decDigits u) = u ∧ (∀ c ∈ Lib.decDigits u, isDig c) := by
  induction u using Nat.strongRecOn with
  | _ u ih =>
    have hd : ∀ k, k < 10 → (UInt8.ofNat (48 + k)).toNat = 48 + k := fun k hk => by rw [UInt8.toNat_ofNat']; omega
    by_cases h : u < 10
    · rw [Lib.decDigits, dif_pos h]
      refine ⟨by rw [valD_cons, valD_nil, hd u h]; omega, fun c hc => ?_⟩
      have hc := List.mem_singleton.1 hc
      subst hc
      unfold isDig
      rw [hd u h]; omega
    · obtain ⟨h1, h2⟩ := ih (u / 10) (by omega)
      rw [Lib.decDigits, dif_neg h]
      refine ⟨by rw [valD_append, h1, valD_cons, valD_nil, hd (u % 10) (by omega)]; omega, fun c hc => ?_⟩
      rcases List.mem_append.1 hc with hc | hc
      · exact h2 c hc
      · have hc := List.mem_singleton.1 hc
        subst hc
        unfold isDig
        rw [hd (u % 10) (by omega)]; omega
/-- A text without the sign ahead of it. -/
def unS (l : List UInt8) : List UInt8 := match l with | [] => [] | c :: r => if c.toNat = 45 then r else c :: r
theorem decDigits_head (u : Nat) : ∃ c r, Lib.decDigits u = c :: r ∧ ¬ c.toNat = 45 := by
  have h := Lib.nDigits_pos u
  rw [← Lib.decDigits_length] at h
  cases hl : Lib.decDigits u with
  | nil => rw [hl] at h; simp at h
  | cons c r =>
    refine ⟨c, r, rfl, fun e => ?_⟩
    have := (decDigits_val u).2 c (by rw [hl]; exact List.mem_cons_self)
    unfold isDig at this
    omega
theorem unS_itoa (n : Int) : unS (Lib.itoa n) = Lib.decDigits n.natAbs := by
  unfold Lib.itoa
  by_cases h : n < 0
  · rw [if_pos h]; unfold unS; simp
  · rw [if_neg h, show n.toNat = n.natAbs by omega]
    obtain ⟨c, r, hl, hc⟩ := decDigits_head n.natAbs
    rw [hl]; unfold unS; simp [hc]
/-- The number that a text spells, if it is the decimal form of one of at most 18 digits. -/
def NumOf (s : ByteArray) (n : Int) : Prop := decStr n = s ∧ (unS s.data.toList).length ≤ 18
theorem decStr_list (n : Int) : (decStr n).data.toList = Lib.itoa n := rfl
theorem itoa_neg_head (n : Int) : (∃ r, Lib.itoa n = 45 :: r) ↔ n < 0 := by
  constructor
  · rintro ⟨r, h⟩
    unfold Lib.itoa at h
    by_cases hn : n < 0
    · exact hn
    · rw [if_neg hn] at h
      obtain ⟨c, r2, hl, hc⟩ := decDigits_head n.toNat
      rw [hl] at h
      injection h with h1 h2
      subst h1
      exact absurd rfl hc
  · intro h
    unfold Lib.itoa
    rw [if_pos h]
    exact ⟨_, rfl⟩
theorem decStr_inj {n m : Int} (h : decStr n = decStr m) : n = m := by
  have h1 : Lib.itoa n = Lib.itoa m := by rw [← decStr_list, ← decStr_list, h]
  have h2 : n.natAbs = m.natAbs := by
    have := congrArg (fun l => valD 0 (unS l)) h1
    simp only [unS_itoa, (decDigits_val _).1] at this
    exact this
  have h3 : n < 0 ↔ m < 0 := by rw [← itoa_neg_head, ← itoa_neg_head, h1]
  omega
theorem NumOf.inj {s : ByteArray} {n m : Int} (h : NumOf s n) (h2 : NumOf s m) : n = m := decStr_inj (h.1.trans h2.1.symm)
theorem NumOf.bd {s : ByteArray} {n : Int} (h : NumOf s n) : n.natAbs < 1000000000000000000 := by
  obtain ⟨h1, h2⟩ := h
  subst h1
  rw [decStr_list, unS_itoa] at h2
  obtain ⟨h3, h4⟩ := decDigits_val n.natAbs
  have h5 := valD_bd _ 0 h4
  rw [h3] at h5
  have h6 : (10 : Nat) ^ (Lib.decDigits n.natAbs).length ≤ 10 ^ 18 := Nat.pow_le_pow_right (by omega) h2
  have h7 : (10 : Nat) ^ 18 = 1000000000000000000 := by decide
  omega
open Classical in
noncomputable def numB (s : ByteArray) : Bool := decide (∃ n, NumOf s n)
open Classical in
noncomputable def numV (s : ByteArray) : Int := if h : ∃ n, NumOf s n then h.choose else 0
theorem num_t {s : ByteArray} {n : Int} (h : NumOf s n) : numB s = true ∧ numV s = n := by
  classical
  have he : ∃ n, NumOf s n := ⟨n, h⟩
  refine ⟨decide_eq_true he, ?_⟩
  unfold numV
  rw [dif_pos he]
  exact he.choose_spec.inj h
theorem num_f {s : ByteArray} (h : ∀ n, ¬ NumOf s n) : numB s = false ∧ numV s = 0 := by
  classical
  have he : ¬ ∃ n, NumOf s n := fun ⟨n, hn⟩ => h n hn
  refine ⟨decide_eq_false he, ?_⟩
  unfold numV
  rw [dif_neg he]
end Go.Proofs.YtmglcdmccikinaaDoor
