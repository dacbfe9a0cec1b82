/- Cranes and lifts held against each other, in both packages. (Printed by gen_sm.py.) -/
import Derived.Test.YtijpghlkbfmefaaDoorSmA
import Derived.Test.YtijpghlkbfmefaaDoorTCrane
import Derived.Test.YtijpghlkbfmefaaDoorTLift
namespace Go.Proofs.YtijpghlkbfmefaaDoor
open Go.RowKit
theorem quiet_stepA {P : Program} {ops : Array Oper} {C : World → Prop} {Q : Act → Prop} {a : Act} {o : Oper} {rest l2 : List Oper}
    (h : ∀ K : Act → Prop, (∀ a, wpQuiet P ops C Q (List.append rest l2) a → K a) → if Region.wanted o (yielded ops a.tmps) then o.quiet P a C K else K (a.put o.dst undef)) : wpQuiet P ops C Q (List.append (o :: rest) l2) a :=
  h _ (fun _ h => h)
theorem quiet_nilA {P : Program} {ops : Array Oper} {C : World → Prop} {Q : Act → Prop} {a : Act} {l2 : List Oper} (h : wpQuiet P ops C Q l2 a) : wpQuiet P ops C Q (List.append [] l2) a := h
theorem sm_eq {s t : ByteArray} (h : s = t) : (s.toList == t.toList) = true := by rw [h]; simp
theorem sm_ne {s t : ByteArray} (h : ¬ s = t) : (s.toList == t.toList) = false := by
  rw [beq_eq_false_iff_ne]
  intro e
  apply h
  have e2 : s.data.toList = t.data.toList := by simpa [ByteArray.toList_eq] using e
  exact ByteArray.ext (Array.toList_inj.1 e2)
def eqP {φ α : Type} [DecidableEq φ] [DecidableEq α] (f g : φ) (a b : List α) : Bool := decide (f = g) && eqL a b
theorem eqP_f {φ α : Type} [DecidableEq φ] [DecidableEq α] {f g : φ} {a b : List α} (h : ¬ f = g) : eqP f g a b = false := by unfold eqP; rw [decide_eq_false h]; rfl
theorem eqP_t {φ α : Type} [DecidableEq φ] [DecidableEq α] (f : φ) (a b : List α) : eqP f f a b = eqL a b := by unfold eqP; rw [decide_eq_true rfl]; rfl
theorem eqP_iff {φ α : Type} [DecidableEq φ] [DecidableEq α] {x y : φ × List α} : eqP x.1 y.1 x.2 y.2 = true ↔ x = y := by
  unfold eqP eqL
  rw [Bool.and_eq_true, decide_eq_true_iff, decide_eq_true_iff]
  exact ⟨fun h => Prod.ext h.1 h.2, fun h => by rw [h]; exact ⟨rfl, rfl⟩⟩
theorem eqP_ne {φ α : Type} [DecidableEq φ] [DecidableEq α] {x y : φ × List α} (h : eqP x.1 y.1 x.2 y.2 = false) : ¬ x = y := fun e => by rw [eqP_iff.2 e] at h; cases h
theorem CraneF.ne_cases (f g : CraneF) : f = g ∨ (¬ f = g ∧ ¬ f.name = g.name) ∨ (¬ f = g ∧ f.name = g.name ∧ ¬ f.x = g.x) ∨ (¬ f = g ∧ f.name = g.name ∧ f.x = g.x ∧ ¬ f.y = g.y) ∨ (¬ f = g ∧ f.name = g.name ∧ f.x = g.x ∧ f.y = g.y ∧ ¬ f.height = g.height) ∨ (¬ f = g ∧ f.name = g.name ∧ f.x = g.x ∧ f.y = g.y ∧ f.height = g.height ∧ ¬ f.jib = g.jib) ∨ (¬ f = g ∧ f.name = g.name ∧ f.x = g.x ∧ f.y = g.y ∧ f.height = g.height ∧ f.jib = g.jib ∧ ¬ f.back = g.back) := by
  by_cases hfg : f = g
  · exact .inl hfg
  refine .inr ?_
  by_cases h0 : f.name = g.name
  case neg => exact .inl ⟨hfg, h0⟩
  refine .inr ?_
  by_cases h1 : f.x = g.x
  case neg => exact .inl ⟨hfg, h0, h1⟩
  refine .inr ?_
  by_cases h2 : f.y = g.y
  case neg => exact .inl ⟨hfg, h0, h1, h2⟩
  refine .inr ?_
  by_cases h3 : f.height = g.height
  case neg => exact .inl ⟨hfg, h0, h1, h2, h3⟩
  refine .inr ?_
  by_cases h4 : f.jib = g.jib
  case neg => exact .inl ⟨hfg, h0, h1, h2, h3, h4⟩
  refine .inr ?_
  by_cases h5 : f.back = g.back
  · exact absurd (by cases f; cases g; simp_all) hfg
  · exact ⟨hfg, h0, h1, h2, h3, h4, h5⟩
theorem LiftF.ne_cases (f g : LiftF) : f = g ∨ (¬ f = g ∧ ¬ f.name = g.name) ∨ (¬ f = g ∧ f.name = g.name ∧ ¬ f.weight = g.weight) ∨ (¬ f = g ∧ f.name = g.name ∧ f.weight = g.weight ∧ ¬ f.fx = g.fx) ∨ (¬ f = g ∧ f.name = g.name ∧ f.weight = g.weight ∧ f.fx = g.fx ∧ ¬ f.fy = g.fy) ∨ (¬ f = g ∧ f.name = g.name ∧ f.weight = g.weight ∧ f.fx = g.fx ∧ f.fy = g.fy ∧ ¬ f.tx = g.tx) ∨ (¬ f = g ∧ f.name = g.name ∧ f.weight = g.weight ∧ f.fx = g.fx ∧ f.fy = g.fy ∧ f.tx = g.tx ∧ ¬ f.ty = g.ty) ∨ (¬ f = g ∧ f.name = g.name ∧ f.weight = g.weight ∧ f.fx = g.fx ∧ f.fy = g.fy ∧ f.tx = g.tx ∧ f.ty = g.ty ∧ ¬ f.height = g.height) ∨ (¬ f = g ∧ f.name = g.name ∧ f.weight = g.weight ∧ f.fx = g.fx ∧ f.fy = g.fy ∧ f.tx = g.tx ∧ f.ty = g.ty ∧ f.height = g.height ∧ ¬ f.deadline = g.deadline) := by
  by_cases hfg : f = g
  · exact .inl hfg
  refine .inr ?_
  by_cases h0 : f.name = g.name
  case neg => exact .inl ⟨hfg, h0⟩
  refine .inr ?_
  by_cases h1 : f.weight = g.weight
  case neg => exact .inl ⟨hfg, h0, h1⟩
  refine .inr ?_
  by_cases h2 : f.fx = g.fx
  case neg => exact .inl ⟨hfg, h0, h1, h2⟩
  refine .inr ?_
  by_cases h3 : f.fy = g.fy
  case neg => exact .inl ⟨hfg, h0, h1, h2, h3⟩
  refine .inr ?_
  by_cases h4 : f.tx = g.tx
  case neg => exact .inl ⟨hfg, h0, h1, h2, h3, h4⟩
  refine .inr ?_
  by_cases h5 : f.ty = g.ty
  case neg => exact .inl ⟨hfg, h0, h1, h2, h3, h4, h5⟩
  refine .inr ?_
  by_cases h6 : f.height = g.height
  case neg => exact .inl ⟨hfg, h0, h1, h2, h3, h4, h5, h6⟩
  refine .inr ?_
  by_cases h7 : f.deadline = g.deadline
  · exact absurd (by cases f; cases g; simp_all) hfg
  · exact ⟨hfg, h0, h1, h2, h3, h4, h5, h6, h7⟩
end Go.Proofs.YtijpghlkbfmefaaDoor
