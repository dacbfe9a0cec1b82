/- The first day of work: plain law. No program in sight. -/
import Derived.Test.YtmkhapgkiecmaaaWork
import Derived.Test.YtmkhapgkiecmaaaClose
namespace Go.Proofs.Ytmkhapgkiecmaaa
open Go.RowKit
/-- The first day of work is a day of work, and none before it is. -/
theorem firstW_spec {cs : List Chk} {fs : List Fnd} {crane day : Int} (h : workC cs fs crane day = 0) (h0 : (firstW cs fs crane day).2 = 0) :
    ∃ f, firstW cs fs crane day = (f, 0) ∧ day ≤ f ∧ mayB cs fs crane f = true ∧ ∀ e, day ≤ e → e < f → mayB cs fs crane e = false := by
  by_cases hno : ∀ e, day ≤ e → e ≤ 100000 → mayB cs fs crane e = false
  · rw [firstW_lost h hno] at h0
    cases h0
  · have hex : ∃ n : Nat, mayB cs fs crane (day + n) = true := by
      apply Classical.byContradiction
      intro hc
      apply hno
      intro e he he2
      cases hm : mayB cs fs crane e with
      | false => rfl
      | true =>
        refine absurd ⟨(e - day).toNat, ?_⟩ hc
        have : day + ((e - day).toNat : Int) = e := by omega
        rw [this]; exact hm
    have least : ∀ n : Nat, mayB cs fs crane (day + n) = true → ∃ m : Nat, mayB cs fs crane (day + m) = true ∧ ∀ k : Nat, k < m → mayB cs fs crane (day + k) = false := by
      intro n
      induction n using Nat.strongRecOn with
      | _ n ih =>
        intro hn
        by_cases hk : ∃ k : Nat, k < n ∧ mayB cs fs crane (day + k) = true
        · obtain ⟨k, hk, hk2⟩ := hk
          exact ih k hk hk2
        · refine ⟨n, hn, fun k hkn => ?_⟩
          cases hm : mayB cs fs crane (day + k) with
          | false => rfl
          | true => exact absurd ⟨k, hkn, hm⟩ hk
    obtain ⟨n, hn⟩ := hex
    obtain ⟨m, hm, hb⟩ := least n hn
    have hbef : ∀ e, day ≤ e → e < day + m → mayB cs fs crane e = false := fun e he he2 => by
      have := hb (e - day).toNat (by omega)
      rwa [show day + ((e - day).toNat : Int) = e by omega] at this
    exact ⟨day + m, firstW_found h (by omega) hbef hm, by omega, hm, hbef⟩
/-- Closing keeps findings valid. -/
theorem close_ok {l : List Fnd} {k day : Int} (h : (closeFinding l k day).2 = 0) : fndsB (closeFinding l k day).1 = true := by
  cases hb : fndsB l with
  | false => rw [closeFinding_1 hb] at h; cases h
  | true =>
    by_cases h2 : (0 ≤ k ∧ k < l.length) ∧ (0 ≤ day ∧ day ≤ 100000)
    · by_cases h3 : stOf l k.toNat day
      · rw [closeFinding_0 hb h2 h3]
        obtain ⟨hk, h4, h5⟩ := h3
        rw [setClosed_at hk]
        unfold fndsB at hb ⊢
        simp only [Bool.and_eq_true, List.all_eq_true, decide_eq_true_eq, List.length_set] at hb ⊢
        refine ⟨fun x hx => ?_, hb.2⟩
        rcases List.mem_or_eq_of_mem_set hx with hx | rfl
        · exact hb.1 x hx
        · have := hb.1 _ (List.getElem_mem hk)
          unfold Fnd.ok at this ⊢
          dsimp only
          omega
      · rw [closeFinding_6 hb h2 h3] at h; cases h
    · rw [closeFinding_2 hb h2] at h; cases h
end Go.Proofs.Ytmkhapgkiecmaaa
