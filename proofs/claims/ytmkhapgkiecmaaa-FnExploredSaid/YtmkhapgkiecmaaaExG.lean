/- What exploring answers: the forms. -/
import Derived.Test.YtmkhapgkiecmaaaExF
import Derived.Test.YtmkhapgkiecmaaaNext
namespace Go.Proofs.Ytmkhapgkiecmaaa
open Go.RowKit
/-- What exploring answers. -/
def ExpRes (T : Tab) (v : Wtc) (x : Wld) (a : Int) (b : Bool) (c : Int) : Prop :=
  (codeW T v x ≠ 0 ∧ a = 0 ∧ b = false ∧ c = codeW T v x) ∨ (codeW T v x = 0 ∧ c = 0 ∧ ∃ n : Nat, a = (n : Int) ∧ ExpC T v x n b)
theorem ExpRes.uniq {T : Tab} {v : Wtc} {x : Wld} {a a' : Int} {b b' : Bool} {c c' : Int} (h : ExpRes T v x a b c) (h2 : ExpRes T v x a' b' c') : a = a' ∧ b = b' ∧ c = c' := by
  rcases h with ⟨h0, rfl, rfl, rfl⟩ | ⟨h0, rfl, n, rfl, h⟩ <;> rcases h2 with ⟨k0, rfl, rfl, rfl⟩ | ⟨k0, rfl, m, rfl, h2⟩
  · exact ⟨rfl, rfl, rfl⟩
  · exact absurd k0 h0
  · exact absurd h0 k0
  · obtain ⟨rfl, rfl⟩ := h.uniq h2
    exact ⟨rfl, rfl, rfl⟩
/-- What the first unsafe act answers. -/
def FirRes (T : Tab) (v : Wtc) (x : Wld) (r : List Act1) (c : Int) : Prop := (codeW T v x ≠ 0 ∧ r = [] ∧ c = codeW T v x) ∨ (codeW T v x = 0 ∧ FirC T v x r c)
theorem FirRes.uniq {T : Tab} {v : Wtc} {x : Wld} {r r' : List Act1} {c c' : Int} (h : FirRes T v x r c) (h2 : FirRes T v x r' c') : r = r' ∧ c = c' := by
  rcases h with ⟨h0, rfl, rfl⟩ | ⟨h0, h⟩ <;> rcases h2 with ⟨k0, rfl, rfl⟩ | ⟨k0, h2⟩
  · exact ⟨rfl, rfl⟩
  · exact absurd k0 h0
  · exact absurd h0 k0
  · exact h.uniq h2
theorem path_len {v : Wtc} {l : List Vis} (h : VisOk v l) {k : Nat} {p : List Act1} (hp : PathTo l k p) : p.length ≤ k := by
  induction hp with
  | root _ _ => exact Nat.zero_le _
  | @step k j p hk hj _ ih =>
    have h0 : 0 < k := by
      rcases Nat.eq_zero_or_pos k with e | e
      · subst e
        obtain ⟨h1, h2⟩ := h.root
        omega
      · exact e
    have := (h.from_ k hk h0).2
    rw [List.length_append, List.length_singleton]
    omega
theorem PathTo.lt {l : List Vis} {k : Nat} {p : List Act1} (h : PathTo l k p) : k < l.length := by cases h <;> assumption
/-- One step back. -/
theorem PathTo.back {v : Wtc} {l : List Vis} (hl : VisOk v l) {k : Nat} {p : List Act1} (h : PathTo l k p) (hk : k < l.length) : (l[k].from_ < 0 ∧ p = [] ∧ k = 0) ∨ (∃ (j : Nat) (p' : List Act1), l[k].from_ = (j : Int) ∧ j < k ∧ PathTo l j p' ∧ p = p' ++ [l[k].act]) := by
  have h0 : l[k].from_ < 0 → k = 0 := fun h1 => by
    rcases Nat.eq_zero_or_pos k with e | e
    · exact e
    · have := (hl.from_ k hk e).1; omega
  cases h with
  | root h h1 => exact .inl ⟨h1, rfl, h0 h1⟩
  | @step _ j p' h hj hp =>
    refine .inr ⟨j, p', hj, ?_, hp, rfl⟩
    rcases Nat.eq_zero_or_pos k with e | e
    · subst e
      obtain ⟨h2, h3⟩ := hl.root
      omega
    · have := (hl.from_ k hk e).2; omega
def FirE (T : Tab) (v : Wtc) (x : Wld) (w : World) (e : Ending) (w' : World) : Prop :=
  ∃ (vr : Value) (r : List Act1) (rc : Int), e = .returned (.tuple #[vr, .int .i64 rc]) ∧ FirRes T v x r rc ∧ Slw 4 Act1.cells w.heap.size w'.heap.size w' vr r ∧ Below w.heap.size w w'
end Go.Proofs.Ytmkhapgkiecmaaa
