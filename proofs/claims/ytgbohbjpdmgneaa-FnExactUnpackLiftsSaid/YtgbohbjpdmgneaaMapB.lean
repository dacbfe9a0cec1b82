/- A set of strings: a map[string]bool that the call makes. -/
import Derived.Test.YtgbohbjpdmgneaaBase
import Derived.Maps.Own
import Derived.Maps.OwnOps
import Derived.Maps.Views
import Derived.StringKeys
namespace Go.Proofs.Ytgbohbjpdmgneaa
open Go.RowKit Go.ChangeMaps Go.Maps Go.WideMaps

open Classical in
noncomputable def memB (s : ByteArray) (l : List ByteArray) : Bool := decide (s ∈ l)
theorem memB_t {s : ByteArray} {l : List ByteArray} (h : s ∈ l) : memB s l = true := by classical exact decide_eq_true h
theorem memB_f {s : ByteArray} {l : List ByteArray} (h : ¬ s ∈ l) : memB s l = false := by classical exact decide_eq_false h
/-- Block b is a map that says true of the strings of l, and of no others. -/
def SeenM (P : Program) (ks e : TypeId) (b : Nat) (l : List ByteArray) (w : World) : Prop :=
  ∃ D : DataW Unit, w.ownsMap P ks (plainElem P e) b l.length D ∧ IsMap D ∧ ∀ s : ByteArray, D.atKey (.string s.data.toList) (.lit (.bool false)) = .lit (.bool (memB s l))
theorem SeenM.made (P : Program) (ks e : TypeId) (w : World) : SeenM P ks e w.heap.size [] (w.alloc (.map #[] 0)) :=
  ⟨.map [], World.ownsMap_made w P ks _, ⟨[], rfl⟩, fun s => by rw [memB_f (by simp)]; rfl⟩
theorem SeenM.lt {P : Program} {ks e : TypeId} {b : Nat} {l : List ByteArray} {w : World} (h : SeenM P ks e b l w) : b < w.heap.size := by
  obtain ⟨D, h, _⟩ := h; exact h.lt
theorem SeenM.below {P : Program} {ks e : TypeId} {b : Nat} {l : List ByteArray} {w w' : World} (h : SeenM P ks e b l w) (hb : Below w.heap.size w w') : SeenM P ks e b l w' := by
  obtain ⟨D, h1, h2⟩ := h
  exact ⟨D, h1.kept (row := none) ⟨hb.os, hb.tape, hb.output, hb.size, fun k hk _ => hb.block k hk⟩ (by simp), h2⟩
theorem plainElem_bool_inv {H : Type} {P : Program} {e : TypeId} (he : P.underlying e = some .bool) {v : Value} {z : DataW H × List MemPlace} (h : plainElem P e v = some z) : ∃ x, v = .bool x ∧ z = (.lit (.bool x), []) := by
  unfold plainElem at h
  rw [he] at h
  cases v <;> simp at h
  exact ⟨_, rfl, h.symm⟩
theorem SeenM.look {P : Program} {ks e t : TypeId} {b : Nat} {l : List ByteArray} {w : World} (h : SeenM P ks e b l w) (hk : P.underlying ks = some .string) (he : P.underlying e = some .bool) (ht : P.underlying t = some (.map ks e))
    (hz : (zeroValue e).run P w = .ok (.bool false) w) {s : ByteArray} (hs : s.size ≤ maxLen) : (Instr.lookup t (.map (some b)) (.string s) false).run P w = .ok (.bool (memB s l)) w := by
  obtain ⟨D, h1, h2, h3⟩ := h
  obtain ⟨v, ps, hrun, hv⟩ := h1.lookup (string_keyed hk) ht hz (plainElem_bool he false) (keyOf_string_mk hk hs)
  obtain ⟨x, rfl, hx⟩ := plainElem_bool_inv he hv
  rw [h3 s] at hx
  simp only [Prod.mk.injEq, DataW.lit.injEq, Lit.bool.injEq] at hx
  rw [hrun, hx.1]
theorem str_data_ne {s t : ByteArray} (h : ¬ s = t) : (Lit.string s.data.toList) ≠ (Lit.string t.data.toList) := by
  intro e
  injection e with e
  exact h (ByteArray.ext (Array.toList_inj.1 e))
theorem SeenM.put {P : Program} {ks e : TypeId} {b : Nat} {l : List ByteArray} {w' : World} {s : ByteArray} {D : DataW Unit} (h2 : IsMap D) (h3 : ∀ s : ByteArray, D.atKey (.string s.data.toList) (.lit (.bool false)) = .lit (.bool (memB s l)))
    (h1 : w'.ownsMap P ks (plainElem P e) b (l.length + 1) (D.put (.string s.data.toList) (.lit (.bool true)))) : SeenM P ks e b (l ++ [s]) w' := by
  refine ⟨_, by rw [List.length_append]; exact h1, h2.put _ _, fun t => ?_⟩
  by_cases ht : t = s
  · subst ht
    rw [atKey_put_same h2 (by simp [WideAt.IsKeyLit]), memB_t (by simp)]
  · have hm : memB t (l ++ [s]) = memB t l := by
      by_cases hm : t ∈ l
      · rw [memB_t hm, memB_t (by simp [hm])]
      · rw [memB_f hm, memB_f (by simp only [List.mem_append, List.mem_singleton]; exact fun h => h.elim hm ht)]
    rw [atKey_put_other (str_data_ne ht), h3 t, hm]
theorem wpList_seen_put {P : Program} {w : World} {ops : Array Oper} {rest : List Oper} {o : Oper} {a : Act} {Q : Exit → Act → World → Prop} (hg : o.guard = none) (m x v : Operand) (t : TypeId) (hop : o.op = Op.mapUpdate t m x v)
    (ks e : TypeId) (hk : P.underlying ks = some .string) (he : P.underlying e = some .bool) (ht : P.underlying t = some (.map ks e)) (b : Nat) (l : List ByteArray) (hm : a.eval m = .map (some b)) (h : SeenM P ks e b l w) (hl : l.length < maxLen)
    (s : ByteArray) (hx : a.eval x = .string s) (hv : a.eval v = .bool true) (hs : s.size ≤ maxLen)
    (hK : ∀ w', SeenM P ks e b (l ++ [s]) w' → w.grownBy w' (some b) → wpList P ops Q rest (a.put o.dst undef) w') : wpList P ops Q (o :: rest) a w := by
  obtain ⟨D, h1, h2, h3⟩ := h
  exact wpList_mapUpdate_own w hg m x v t hop ks e (string_keyed hk) ht _ b _ D hm h1 hl _ _ _ hx hv (keyOf_string_mk hk hs) _ [] (plainElem_bool he true) fun w' h4 h5 => hK w' (SeenM.put h2 h3 h4) h5
end Go.Proofs.Ytgbohbjpdmgneaa
