/- Numbers read back from their bytes: the plain law. -/
import Derived.Test.YtgbohbjpdmgneaaPut
namespace Go.Proofs.Ytgbohbjpdmgneaa
open Go.RowKit

/-- The number at the head of l, at most j bytes: its value, what is left, whether its last byte is above 0. -/
def dec : Nat → List UInt8 → Option (Nat × List UInt8 × Bool)
  | 0, _ => none
  | _ + 1, [] => none
  | j + 1, b :: r => if b.toNat < 128 then some (b.toNat, r, decide (0 < b.toNat)) else (dec j r).map fun x => (b.toNat % 128 + 128 * x.1, x.2.1, x.2.2)
def plain (v : Nat) : Int := if v % 2 = 1 then -(((v : Int) + 1) / 2) else (v : Int) / 2
theorem sgn_plain (v : Nat) : sgn (plain v) = v := by
  unfold plain sgn
  split <;> split <;> omega
theorem plain_sgn (n : Int) : plain (sgn n) = n := by
  unfold plain sgn
  split <;> split <;> omega
theorem dec_lt : ∀ (j : Nat) (l : List UInt8) (v : Nat) (r : List UInt8) (c : Bool), dec j l = some (v, r, c) → v < 128 ^ j
  | 0, _, _, _, _, h => by simp [dec] at h
  | _ + 1, [], _, _, _, h => by simp [dec] at h
  | j + 1, b :: q, v, r, c, h => by
    rw [dec] at h
    rw [Nat.pow_succ]
    split at h
    · rename_i hb
      simp only [Option.some.injEq, Prod.mk.injEq] at h
      have : 1 ≤ 128 ^ j := Nat.pos_of_ne_zero (by simp)
      omega
    · obtain ⟨⟨v', r', c'⟩, h1, h2⟩ := Option.map_eq_some_iff.1 h
      have := dec_lt j q v' r' c' h1
      simp only [Prod.mk.injEq] at h2
      omega
theorem pow_div {v j : Nat} (h : v < 128 ^ (j + 2)) : v / 128 < 128 ^ (j + 1) := by
  rw [Nat.pow_succ] at h
  exact Nat.div_lt_of_lt_mul (by rw [Nat.mul_comm]; exact h)
theorem dec_put : ∀ (j v : Nat) (r : List UInt8), v < 128 ^ (j + 1) → ∃ c, dec (j + 1) (putB v ++ r) = some (v, r, c) ∧ ((c = true ∧ 0 < v) ∨ v < 128)
  | j, v, r, h => by
    by_cases h1 : v < 128
    · rw [putB_lt h1]
      refine ⟨decide (0 < v), ?_, .inr h1⟩
      have e : (UInt8.ofNat v).toNat = v := by rw [UInt8.toNat_ofNat']; omega
      rw [List.singleton_append, dec, e, if_pos h1]
    · rw [putB_ge h1]
      have e : (UInt8.ofNat (128 + v % 128)).toNat = 128 + v % 128 := by rw [UInt8.toNat_ofNat']; omega
      cases j with
      | zero => exact absurd h (by simpa using h1)
      | succ j =>
        obtain ⟨c, h2, h3⟩ := dec_put j (v / 128) r (pow_div h)
        refine ⟨c, ?_, ?_⟩
        · rw [List.cons_append, dec, e, if_neg (by omega), h2]
          simp
          omega
        · rcases h3 with ⟨h3, h4⟩ | h3
          · exact .inl ⟨h3, by omega⟩
          · by_cases hc : c = true
            · exact .inl ⟨hc, by omega⟩
            · exfalso
              have hq : 0 < v / 128 := by omega
              rw [putB_lt h3, List.singleton_append, dec] at h2
              have e2 : (UInt8.ofNat (v / 128)).toNat = v / 128 := by rw [UInt8.toNat_ofNat']; omega
              rw [e2, if_pos h3] at h2
              simp only [Option.some.injEq, Prod.mk.injEq] at h2
              exact hc (by rw [← h2.2.2]; simp; omega)
theorem dec_pos : ∀ (j : Nat) (l : List UInt8) (v : Nat) (r : List UInt8), dec j l = some (v, r, true) → 0 < v
  | 0, _, _, _, h => by simp [dec] at h
  | _ + 1, [], _, _, h => by simp [dec] at h
  | j + 1, b :: q, v, r, h => by
    rw [dec] at h
    split at h
    · simp only [Option.some.injEq, Prod.mk.injEq, decide_eq_true_eq] at h
      omega
    · obtain ⟨⟨v', r', c'⟩, h1, h2⟩ := Option.map_eq_some_iff.1 h
      simp only [Prod.mk.injEq] at h2
      obtain ⟨h3, h4, h5⟩ := h2
      have := dec_pos j q v' r' (by rw [h1, h5])
      omega
theorem dec_rest : ∀ (j : Nat) (l : List UInt8) (v : Nat) (r : List UInt8) (c : Bool), dec j l = some (v, r, c) → ∃ p, l = p ++ r ∧ 0 < p.length ∧ p.length ≤ j
  | 0, _, _, _, _, h => by simp [dec] at h
  | _ + 1, [], _, _, _, h => by simp [dec] at h
  | j + 1, b :: q, v, r, c, h => by
    rw [dec] at h
    split at h
    · simp only [Option.some.injEq, Prod.mk.injEq] at h
      exact ⟨[b], by simp [h.2.1], by simp, by simp⟩
    · obtain ⟨⟨v', r', c'⟩, h1, h2⟩ := Option.map_eq_some_iff.1 h
      simp only [Prod.mk.injEq] at h2
      obtain ⟨p, hp, h3, h4⟩ := dec_rest j q v' r' c' h1
      exact ⟨b :: p, by rw [hp, h2.2.1]; simp, by simp, by simp; omega⟩
theorem dec_back : ∀ (j : Nat) (l : List UInt8) (v : Nat) (c : Bool), dec j l = some (v, [], c) → (c = true ∨ l.length = 1) → putB v = l
  | 0, _, _, _, h, _ => by simp [dec] at h
  | _ + 1, [], _, _, h, _ => by simp [dec] at h
  | j + 1, b :: q, v, c, h, hc => by
    rw [dec] at h
    split at h
    · rename_i hb
      simp only [Option.some.injEq, Prod.mk.injEq] at h
      obtain ⟨rfl, rfl, _⟩ := h
      rw [putB_lt hb]
      simp
    · rename_i hb
      obtain ⟨⟨v', r', c'⟩, h1, h2⟩ := Option.map_eq_some_iff.1 h
      simp only [Prod.mk.injEq] at h2
      obtain ⟨rfl, rfl, rfl⟩ := h2
      obtain ⟨p, hp, hp0, _⟩ := dec_rest j q v' [] c' h1
      have hq : q.length = p.length := by rw [hp]; simp
      have hct : c' = true := by
        rcases hc with hc | hc
        · exact hc
        · rw [List.length_cons] at hc; omega
      subst hct
      have hv := dec_pos j q v' [] h1
      have hlt := b.toNat_lt
      have ih := dec_back j q v' true h1 (.inl rfl)
      rw [putB_ge (by omega), show (b.toNat % 128 + 128 * v') / 128 = v' by omega, ih]
      congr 1
      apply UInt8.toNat.inj
      rw [UInt8.toNat_ofNat']
      omega
end Go.Proofs.Ytgbohbjpdmgneaa
