/- RunActs: the plain law. -/
import Derived.Test.YtmkhapgkiecmaaaNext
namespace Go.Proofs.Ytmkhapgkiecmaaa
open Go.RowKit

/-- What a possible act leaves lies within bounds. -/
theorem in_do {T : Tab} {v : Wtc} {x : Wld} {y : Act1} (hv : v.ok) (hx : x.in_) (h : canB T v x y = true) : (doW x y).in_ := by
  obtain ⟨h1, h2, h3, h4, h5, h6⟩ := hx
  have hl := hv.2
  unfold canB at h
  simp only [Bool.and_eq_true, Bool.or_eq_true, Bool.not_eq_true', decide_eq_true_eq] at h
  obtain ⟨_, ha, hb⟩ := h
  refine ⟨?_, ?_, ?_, ?_, ?_, ?_⟩
  · unfold doW Dir; dsimp only; omega
  · unfold doW Dir; dsimp only; omega
  · unfold doW Dir; dsimp only; unfold Dir at h3; split <;> omega
  · unfold doW Dir; dsimp only; unfold Dir at h4; split <;> omega
  · unfold doW; dsimp only
    split
    · rename_i hl1
      rcases ha with ha | ha
      · rw [hl1] at ha; cases ha
      · omega
    · omega
  · unfold doW; dsimp only
    split
    · rename_i hl1
      rcases hb with hb | hb
      · rw [hl1] at hb; cases hb
      · omega
    · omega

noncomputable def stepB (T : Tab) (v : Wtc) (x : Wld) (y : Act1) : Bool := decide (TrnsOk y) && canB T v x y
/-- The acts one after the other, until one isn't possible: the world and their number. -/
noncomputable def runW (T : Tab) (v : Wtc) : Wld → List Act1 → Nat → Wld × Nat
  | x, [], n => (x, n)
  | x, y :: r, n => if stepB T v x y = true then runW T v (doW x y) r (n + 1) else (x, n)
theorem runW_nil {T : Tab} {v : Wtc} {x : Wld} {n : Nat} : runW T v x [] n = (x, n) := rfl
theorem runW_go {T : Tab} {v : Wtc} {x : Wld} {y : Act1} {r : List Act1} {n : Nat} (h : stepB T v x y = true) : runW T v x (y :: r) n = runW T v (doW x y) r (n + 1) := if_pos h
theorem runW_stop {T : Tab} {v : Wtc} {x : Wld} {y : Act1} {r : List Act1} {n : Nat} (h : stepB T v x y = false) : runW T v x (y :: r) n = (x, n) := if_neg (by simp [h])
theorem runW_len {T : Tab} {v : Wtc} : ∀ (l : List Act1) (x : Wld) (n : Nat), (runW T v x l n).2 ≤ n + l.length
  | [], x, n => by rw [runW_nil]; simp
  | y :: r, x, n => by
    cases h : stepB T v x y
    · rw [runW_stop h]; simp
    · rw [runW_go h]
      have := runW_len (T := T) (v := v) r (doW x y) (n + 1)
      rw [List.length_cons]; omega
noncomputable def runActs (T : Tab) (v : Wtc) (x : Wld) (l : List Act1) : Wld × Int × Int :=
  if codeW T v x = 0 then ((runW T v x l 0).1, ((runW T v x l 0).2 : Int), 0) else (zeroW, 0, codeW T v x)
theorem runActs_code {T : Tab} {v : Wtc} {x : Wld} {l : List Act1} (h : codeW T v x ≠ 0) : runActs T v x l = (zeroW, 0, codeW T v x) := if_neg h
theorem runActs_0 {T : Tab} {v : Wtc} {x : Wld} {l : List Act1} (h : codeW T v x = 0) : runActs T v x l = ((runW T v x l 0).1, ((runW T v x l 0).2 : Int), 0) := if_pos h
end Go.Proofs.Ytmkhapgkiecmaaa
