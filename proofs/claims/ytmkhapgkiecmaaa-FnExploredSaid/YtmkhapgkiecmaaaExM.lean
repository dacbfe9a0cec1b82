/- The worlds that are known: a map[World]bool that the call makes. -/
import Derived.Test.YtmkhapgkiecmaaaExF
import Derived.Test.YtmkhapgkiecmaaaTabE
import Derived.Maps.Own
import Derived.Maps.OwnOps
import Derived.Maps.Views
import Derived.DeepKeys4
import Derived.Carry
namespace Go.Proofs.Ytmkhapgkiecmaaa
open Go.RowKit Go.ChangeMaps Go.Maps Go.WideMaps

theorem laid_out : laidOutB Try.prog = true := by kernel_rfl
theorem world_wide : (match Try.prog.underlying 51 with | some (.array _ _) | some (.struct _) => true | _ => false) = true := by rw [Try.underlying51]
set_option maxRecDepth 100000 in
theorem world_law : KeyLaw Try.prog 51 := deep_law_laid laid_out (m := 2) (by omega) (of_decide_eq_true (by kernel_rfl)) (by kernel_rfl) world_wide
theorem world_keyed : Keyed Try.prog 51 := Keyed.of_law world_law
theorem world_keyType : Try.prog.keyType 51 = true := by kernel_rfl
theorem world_cells : Try.prog.cellsOf 51 = 6 := by kernel_rfl
theorem int64_cells : Try.prog.cellsOf 2 = 1 := by kernel_rfl
theorem types_pos : ∃ m, Try.prog.types.size = m + 1 := ⟨Try.prog.types.size - 1, (Nat.sub_add_cancel (of_decide_eq_true (by kernel_rfl))).symm⟩
theorem key_world (x : Wld) (h : x.in_) : ∃ l, keyOf Try.prog 51 (.agg x.cells.toArray) = some l := by
  obtain ⟨a, b, sa, sb, ga, gb⟩ := x
  obtain ⟨⟨d1, d1'⟩, ⟨d2, d2'⟩, ⟨d3, d3'⟩, ⟨d4, d4'⟩, ⟨d5, d5'⟩, ⟨d6, d6'⟩⟩ := h
  simp only at *
  obtain ⟨m, hm⟩ := types_pos
  have hf : (Value.agg (Wld.cells ⟨a, b, sa, sb, ga, gb⟩).toArray).formed Try.prog 51 = true := by simp [Value.formed, Try.underlying51, world_cells, Wld.cells]
  unfold keyOf
  simp only [Try.underlying51]
  rw [if_pos (by rw [world_keyType, hf]; rfl), hm]
  have h1 : (Lit.int .i64 a).wf = true := WalkArith.wf_i64 (by omega)
  have h2 : (Lit.int .i64 b).wf = true := WalkArith.wf_i64 (by omega)
  have h3 : (Lit.int .i64 sa).wf = true := WalkArith.wf_i64 (by omega)
  have h4 : (Lit.int .i64 sb).wf = true := WalkArith.wf_i64 (by omega)
  have h5 : (Lit.int .i64 ga).wf = true := WalkArith.wf_i64 (by omega)
  have h6 : (Lit.int .i64 gb).wf = true := WalkArith.wf_i64 (by omega)
  simp [Program.keyLits, Try.underlying51, world_cells, int64_cells, Try.underlying2, Wld.cells, Value.cells, h1, h2, h3, h4, h5, h6]
noncomputable def litW (x : Wld) : Lit := (keyOf Try.prog 51 (.agg x.cells.toArray)).getD (.bool false)
theorem key_lit {x : Wld} (h : x.in_) : keyOf Try.prog 51 (.agg x.cells.toArray) = some (litW x) := by
  obtain ⟨l, hl⟩ := key_world x h
  unfold litW
  rw [hl]; rfl
theorem litW_inj {x y : Wld} (hx : x.in_) (hy : y.in_) (h : litW x = litW y) : x = y := by
  have h1 := key_lit hx
  rw [h] at h1
  have h2 := world_keyed.inj h1 (key_lit hy)
  obtain ⟨a, b, c, d, e, f⟩ := x
  obtain ⟨a', b', c', d', e', f'⟩ := y
  simpa [Wld.cells] using h2
/-- Block b is a map that says true of the worlds of l, and of no others. -/
def SeenW (b : Nat) (l : List Wld) (w : World) : Prop :=
  ∃ D : DataW Unit, w.ownsMap Try.prog 51 (plainElem Try.prog 4) b l.length D ∧ IsMap D ∧ ∀ x : Wld, x.in_ → D.atKey (litW x) (.lit (.bool false)) = .lit (.bool (decide (x ∈ l)))
theorem SeenW.made (w : World) : SeenW w.heap.size [] (w.alloc (.map #[] 0)) :=
  ⟨.map [], World.ownsMap_made w _ _ _, ⟨[], rfl⟩, fun s _ => by rw [decide_eq_false (by simp)]; rfl⟩
theorem SeenW.lt {b : Nat} {l : List Wld} {w : World} (h : SeenW b l w) : b < w.heap.size := by
  obtain ⟨D, h, _⟩ := h; exact h.lt
theorem SeenW.kept {b : Nat} {l : List Wld} {w w' : World} {row : Option Nat} (h : SeenW b l w) (hg : w.grownBy w' row) (hne : some b ≠ row) : SeenW b l w' := by
  obtain ⟨D, h1, h2⟩ := h
  exact ⟨D, h1.kept hg hne, h2⟩
theorem SeenW.mod {b lo hi : Nat} {l : List Wld} {w w' : World} (h : SeenW b l w) (hm : Mod lo hi w w') (hb : b < lo ∨ hi ≤ b) : SeenW b l w' := by
  obtain ⟨D, ⟨es, clock, e1, e2, e3, e4⟩, h2⟩ := h
  have hlt := (Array.getElem?_eq_some_iff.1 e1).1
  exact ⟨D, ⟨es, clock, (hm.block b hlt hb).trans e1, e2, e3, e4⟩, h2⟩
theorem SeenW.below {b : Nat} {l : List Wld} {w w' : World} (h : SeenW b l w) (hb : Below w.heap.size w w') : SeenW b l w' :=
  h.kept (row := none) ⟨hb.os, hb.tape, hb.output, hb.size, fun k hk _ => hb.block k hk⟩ (by simp)
theorem elem_bool_inv {H : Type} {P : Program} {e : TypeId} (he : P.underlying e = some .bool) {v : Value} {z : DataW H × List MemPlace} (h : plainElem P e v = some z) : ∃ x, v = .bool x ∧ z = (.lit (.bool x), []) := by
  unfold plainElem at h
  rw [he] at h
  cases v <;> simp at h
  exact ⟨_, rfl, h.symm⟩
theorem info_boolW : (Try.prog.info? 4).map (fun i => i.zero) = some (some (.bool false)) := by kernel_rfl
theorem zero_boolW (w : World) : (zeroValue 4).run Try.prog w = .ok (.bool false) w := by
  obtain ⟨i, hi, hz⟩ := Option.map_eq_some_iff.1 info_boolW
  simp [zeroValue, typeInfo, hi, hz]
theorem SeenW.look {b : Nat} {l : List Wld} {w : World} (h : SeenW b l w) {x : Wld} (hx : x.in_) : (Instr.lookup 126 (.map (some b)) (.agg x.cells.toArray) false).run Try.prog w = .ok (.bool (decide (x ∈ l))) w := by
  obtain ⟨D, h1, h2, h3⟩ := h
  obtain ⟨v, ps, hrun, hv⟩ := h1.lookup world_keyed Try.underlying126 (zero_boolW w) (plainElem_bool Try.underlying4 false) (key_lit hx)
  obtain ⟨y, rfl, hy⟩ := elem_bool_inv Try.underlying4 hv
  rw [h3 x hx] at hy
  simp only [Prod.mk.injEq, DataW.lit.injEq, Lit.bool.injEq] at hy
  rw [hrun, hy.1]
set_option maxRecDepth 100000 in
theorem isKey_lit {x : Wld} (h : x.in_) : WideAt.IsKeyLit (litW x) := world_keyed.key (key_lit h)
set_option maxRecDepth 100000 in
theorem SeenW.put {b : Nat} {l : List Wld} {w' : World} {x : Wld} (hx : x.in_) {D : DataW Unit} (h2 : IsMap D) (h3 : ∀ x : Wld, x.in_ → D.atKey (litW x) (.lit (.bool false)) = .lit (.bool (decide (x ∈ l))))
    (h1 : w'.ownsMap Try.prog 51 (plainElem Try.prog 4) b (l.length + 1) (D.put (litW x) (.lit (.bool true)))) : SeenW b (l ++ [x]) w' := by
  refine ⟨_, by rw [List.length_append]; exact h1, h2.put _ _, fun t ht => ?_⟩
  by_cases hxt : t = x
  · subst hxt
    rw [atKey_put_same h2 (isKey_lit hx), decide_eq_true (show t ∈ l ++ [t] from List.mem_append_right l (List.mem_singleton.2 rfl))]
  · have hm : decide (t ∈ l ++ [x]) = decide (t ∈ l) := by simp [hxt]
    rw [hm, atKey_put_other (fun e => hxt (litW_inj ht hx e)), h3 t ht]
theorem wpList_seenW_put {w : World} {ops : Array Oper} {rest : List Oper} {o : Oper} {a : Act} {Q : Exit → Act → World → Prop} (hg : o.guard = none) (m x v : Operand) (hop : o.op = Op.mapUpdate 126 m x v)
    (b : Nat) (l : List Wld) (hm : a.eval m = .map (some b)) (h : SeenW b l w) (hl : l.length < maxLen)
    (y : Wld) (hy : y.in_) (hx : a.eval x = .agg y.cells.toArray) (hv : a.eval v = .bool true)
    (hK : ∀ w', SeenW b (l ++ [y]) w' → w.grownBy w' (some b) → wpList Try.prog ops Q rest (a.put o.dst undef) w') : wpList Try.prog ops Q (o :: rest) a w := by
  obtain ⟨D, h1, h2, h3⟩ := h
  exact wpList_mapUpdate_own w hg m x v _ hop _ 4 world_keyed Try.underlying126 _ b _ D hm h1 hl _ _ _ hx hv (key_lit hy) _ [] (plainElem_bool Try.underlying4 true) fun w' h4 h5 => hK w' (SeenW.put hy h2 h3 h4) h5
end Go.Proofs.Ytmkhapgkiecmaaa
