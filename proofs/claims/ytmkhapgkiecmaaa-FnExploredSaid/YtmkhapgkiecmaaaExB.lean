/- The reference's explorer: what its box holds. -/
import Derived.Test.YtmkhapgkiecmaaaExA
import Derived.Test.YtmkhapgkiecmaaaOwf
namespace Go.Proofs.Ytmkhapgkiecmaaa
open Go.RowKit
theorem info_WldX : (Try.prog.info? 51).map (fun i => (i.zero.map (·.cells.size), i.size, i.bytes)) = some (some 6, 6, 48) := by kernel_rfl
theorem info_IntX : (Try.prog.info? 2).map (fun i => (i.zero.map (·.cells.size), i.size, i.bytes)) = some (some 1, 1, 8) := by kernel_rfl
theorem Wld.one (x : Wld) : ∀ u ∈ x.cells, u.oneCell' = true := by
  intro u hu
  simp [Wld.cells] at hu
  rcases hu with rfl | rfl | rfl | rfl | rfl | rfl <;> rfl
section
variable {α : Type} {c : α → List Value} {n bytes : Nat} {P : Program} {o : Oper} {a : Act}
/-- An append of one element at a step of a region that draws, and where the new slice lies. -/
theorem wp_appL {w0 : World} {K : Act → World → Prop} {Q : Exit → Act → World → Prop} (s x : Operand) (t e : TypeId) (ho : o.op = .call { callee := .builtin .append, args := #[s, x], argTypes := #[t, t] }) (ht : P.underlying t = some (.slice e))
    (hinfo : (P.info? e).map (fun i => (i.zero.map (·.cells.size), i.size, i.bytes)) = some (some n, n, bytes)) (hn0 : 0 < n) (hc : ∀ x, (c x).length = n) (h1 : ∀ x, ∀ u ∈ c x, u.oneCell' = true)
    (lo : Nat) (l : List α) (y : α) (v : Value) (hs : a.eval s = v) (hown : Own n c lo e w0 v l) (hx : a.eval x = .slice (some ⟨w0.heap.size, 0, none⟩) 1 1)
    (hb : (l.length + 1) * bytes ≤ 140737488355328) (hm : l.length + 1 ≤ 9223372036854775807) (hlo : lo ≤ w0.heap.size)
    (h : ∀ g cap w', Own n c lo e w' (.slice (some ⟨g, 0, none⟩) (l.length + 1) cap) (l ++ [y]) → (w0.alloc (.cells (c y).toArray e)).grownBy w' v.ownBlock → (v.ownBlock = some g ∨ g = w0.heap.size + 1) → K (a.put o.dst (.slice (some ⟨g, 0, none⟩) (l.length + 1) cap)) w') : o.wp P a (w0.alloc (.cells (c y).toArray e)) K Q := by
  obtain ⟨i, hi, hzz⟩ := Option.map_eq_some_iff.1 hinfo
  simp only [Prod.mk.injEq] at hzz
  obtain ⟨hz, hsz, hby⟩ := hzz
  obtain ⟨z, hz, hzs⟩ := Option.map_eq_some_iff.1 hz
  refine wp_append_lies _ s x t ho lo e i z n bytes ht hi hz hsz hby hzs hn0 v l.length (l.flatMap c) hs (hown.alloc _) ⟨w0.heap.size, 0, none⟩ 1 1 (c y) hx (by rw [hc]; omega) ?_ (h1 y) (by omega) (by unfold maxLen; omega) hb (by simp; omega) (w0.heap.size + 1) (World.size_alloc _ _) ?_
  · intro j u hu
    have hadd : (⟨w0.heap.size, 0, none⟩ : Addr).add j = ⟨w0.heap.size, j, none⟩ := by unfold Addr.add; split <;> simp_all
    rw [hadd, World.cell?_alloc_mark]
    simpa using hu
  · intro g cap w' h2 h3 h4 _
    refine h g cap w' ?_ h3 h4
    show w'.ownsRow lo e n _ (l ++ [y]).length ((l ++ [y]).flatMap c)
    rw [List.length_append, List.flatMap_append, List.length_singleton, List.flatMap_singleton]
    exact h2
theorem step_appL {w : World} {ops : Array Oper} {K : Act → World → Prop} {Q : Exit → Act → World → Prop} {E : Prop} (hgd : o.guard = none) (s x : Operand) (t e : TypeId) (ho : o.op = .call { callee := .builtin .append, args := #[s, x], argTypes := #[t, t] }) (ht : P.underlying t = some (.slice e))
    (hinfo : (P.info? e).map (fun i => (i.zero.map (·.cells.size), i.size, i.bytes)) = some (some n, n, bytes)) (hn0 : 0 < n) (hc : ∀ x, (c x).length = n) (h1 : ∀ x, ∀ u ∈ c x, u.oneCell' = true)
    (lo : Nat) (l : List α) (y : α) (v : Value) (hs : a.eval s = v) (w0 : World) (hw : w = w0.alloc (.cells (c y).toArray e)) (hown : Own n c lo e w0 v l) (hx : a.eval x = .slice (some ⟨w0.heap.size, 0, none⟩) 1 1)
    (hb : (l.length + 1) * bytes ≤ 140737488355328) (hm : l.length + 1 ≤ 9223372036854775807) (hlo : lo ≤ w0.heap.size)
    (h : ∀ g cap w', Own n c lo e w' (.slice (some ⟨g, 0, none⟩) (l.length + 1) cap) (l ++ [y]) → (w0.alloc (.cells (c y).toArray e)).grownBy w' v.ownBlock → (v.ownBlock = some g ∨ g = w0.heap.size + 1) → K (a.put o.dst (.slice (some ⟨g, 0, none⟩) (l.length + 1) cap)) w') :
    if Region.wanted o (yielded ops a.tmps) = true then o.wp P a w K Q else E := by
  rw [if_pos (by simp [Region.wanted, hgd])]
  subst hw
  exact wp_appL s x t e ho ht hinfo hn0 hc h1 lo l y v hs hown hx hb hm hlo h
theorem wpList_appL {w : World} {ops : Array Oper} {rest : List Oper} {Q : Exit → Act → World → Prop} (hgd : o.guard = none) (s x : Operand) (t e : TypeId) (ho : o.op = .call { callee := .builtin .append, args := #[s, x], argTypes := #[t, t] }) (ht : P.underlying t = some (.slice e))
    (hinfo : (P.info? e).map (fun i => (i.zero.map (·.cells.size), i.size, i.bytes)) = some (some n, n, bytes)) (hn0 : 0 < n) (hc : ∀ x, (c x).length = n) (h1 : ∀ x, ∀ u ∈ c x, u.oneCell' = true)
    (lo : Nat) (l : List α) (y : α) (v : Value) (hs : a.eval s = v) (w0 : World) (hw : w = w0.alloc (.cells (c y).toArray e)) (hown : Own n c lo e w0 v l) (hx : a.eval x = .slice (some ⟨w0.heap.size, 0, none⟩) 1 1)
    (hb : (l.length + 1) * bytes ≤ 140737488355328) (hm : l.length + 1 ≤ 9223372036854775807) (hlo : lo ≤ w0.heap.size)
    (h : ∀ g cap w', Own n c lo e w' (.slice (some ⟨g, 0, none⟩) (l.length + 1) cap) (l ++ [y]) → (w0.alloc (.cells (c y).toArray e)).grownBy w' v.ownBlock → (v.ownBlock = some g ∨ g = w0.heap.size + 1) → wpList P ops Q rest (a.put o.dst (.slice (some ⟨g, 0, none⟩) (l.length + 1) cap)) w') :
    wpList P ops Q (o :: rest) a w := by
  subst hw
  exact wpList_plain hgd fun _ hK => wp_appL s x t e ho ht hinfo hn0 hc h1 lo l y v hs hown hx hb hm hlo fun g cap w' h2 h3 h4 => hK _ _ (h g cap w' h2 h3 h4)
end
/-- Own memory is kept where its block is. -/
theorem own_stay {α : Type} {n : Nat} {c : α → List Value} {lo : Nat} {e : TypeId} {w w' : World} {v : Value} {l : List α} (h : Own n c lo e w v l) (hb : ∀ g, v.ownBlock = some g → w'.heap[g]? = w.heap[g]?) : Own n c lo e w' v l := by
  obtain ⟨h1, h2⟩ := h
  refine ⟨h1, ?_⟩
  rcases h2 with h2 | ⟨g, cap, cur, rfl, hb2, hg, r⟩
  · exact .inl h2
  · exact .inr ⟨g, cap, cur, rfl, hb2, by rw [hb g rfl]; exact hg, r⟩
theorem own_val {α : Type} {n : Nat} {c : α → List Value} {lo : Nat} {e : TypeId} {w : World} {v : Value} {l : List α} (h : Own n c lo e w v l) : ∃ a cap, v = .slice a l.length cap := by
  rcases h.2 with ⟨h0, h1⟩ | ⟨g, cap, cur, hv, _⟩
  · exact ⟨_, _, by rw [h1]; exact h0⟩
  · exact ⟨_, _, hv⟩
/-- Two own lists of different types lie apart. -/
theorem own_apart {α β : Type} {n m : Nat} {c : α → List Value} {d : β → List Value} {lo lo' : Nat} {e e' : TypeId} {w : World} {v v' : Value} {l : List α} {l' : List β} (h : Own n c lo e w v l) (h' : Own m d lo' e' w v' l') (hne : ¬ e' = e) {k : Nat} (hk : v'.ownBlock = some k) : ¬ v.ownBlock = some k := by
  obtain ⟨h1, h2⟩ := h'
  rcases h2 with ⟨rfl, -⟩ | ⟨g, cap, cur, rfl, hb, hg, -⟩
  · simp [Value.ownBlock] at hk
  · simp [Value.ownBlock] at hk
    subst hk
    exact own_ne h hg hne
end Go.Proofs.Ytmkhapgkiecmaaa
