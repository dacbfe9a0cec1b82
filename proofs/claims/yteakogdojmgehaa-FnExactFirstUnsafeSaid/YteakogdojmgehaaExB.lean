/- The reference's explorer: what its box holds. -/
import Derived.Test.YteakogdojmgehaaExA
import Derived.Test.YteakogdojmgehaaOwf
namespace Go.Proofs.Yteakogdojmgehaa
open Go.RowKit
theorem info_WldX : (Try.prog.info? 55).map (fun i => (i.zero.map (·.cells.size), i.size, i.bytes)) = some (some 6, 6, 48) := by kernel_rfl
theorem info_IntX : (Try.prog.info? 2).map (fun i => (i.zero.map (·.cells.size), i.size, i.bytes)) = some (some 1, 1, 8) := by kernel_rfl
theorem Wld.one (x : Wld) : ∀ u ∈ x.cells, u.oneCell' = true := by
  intro u hu
  simp [Wld.cells] at hu
  rcases hu with rfl | rfl | rfl | rfl | rfl | rfl <;> rfl
section
variable {α : Type} {c : α → List Value} {n bytes : Nat} {P : Program} {o : Oper} {a : Act}
/-- An append of one element at a step of a region that draws, and where the new slice lies. -/
theorem wp_appL {w0 : World} {K : Act → World → Prop} {Q : Exit → Act → World → Prop} (s x : Operand) (t e : TypeId) (ho : o.op = .call { callee := .builtin .append, args := #[s, x], argTypes := #[t, t] }) (ht : P.underlying t = some (.slice e))
    (hinfo : (P.info? e).map (fun i => (i.zero.map (·.cells.size), i.size, i.bytes)) = some (some n, n, bytes)) (hn0 : 0 < n) (hc : ∀ x, (c x).length = n) (h1 : ∀ x, ∀ u ∈ c x, u.oneCell' = true)
    (lo : Nat) (l : List α) (y : α) (v : Value) (hs : a.eval s = v) (hown : Own n c lo e w0 v l) (hx : a.eval x = .slice (some ⟨w0.heap.size, 0, none⟩) 1 1)
    (hb : (l.length + 1) * bytes ≤ 140737488355328) (hm : l.length + 1 ≤ 9223372036854775807) (hlo : lo ≤ w0.heap.size)
    (h : ∀ g cap w', Own n c lo e w' (.slice (some ⟨g, 0, none⟩) (l.length + 1) cap) (l ++ [y]) → (w0.alloc (.cells (c y).toArray e)).grownBy w' v.ownBlock → (v.ownBlock = some g ∨ g = w0.heap.size + 1) → K (a.put o.dst (.slice (some ⟨g, 0, none⟩) (l.length + 1) cap)) w') : o.wp P a (w0.alloc (.cells (c y).toArray e)) K Q := by
  obtain ⟨i, hi, hzz⟩ := Option.map_eq_some_iff.1 hinfo
  simp only [Prod.mk.injEq] at hzz
  obtain ⟨hz, hsz, hby⟩ := hzz
  obtain ⟨z, hz, hzs⟩ := Option.map_eq_some_iff.1 hz
  refine wp_append_lies _ s x t ho lo e i z n bytes ht hi hz hsz hby hzs hn0 v l.length (l.flatMap c) hs (hown.alloc _) ⟨w0.heap.size, 0, none⟩ 1 1 (c y) hx (by rw [hc]; omega) ?_ (h1 y) (by omega) (by unfold maxLen; omega) hb (by simp; omega) (w0.heap.size + 1) (World.size_alloc _ _) ?_
  · intro j u hu
    have hadd : (⟨w0.heap.size, 0, none⟩ : Addr).add j = ⟨w0.heap.size, j, none⟩ := by unfold Addr.add; split <;> simp_all
    rw [hadd, World.cell?_alloc_mark]
    simpa using hu
  · intro g cap w' h2 h3 h4 _
    refine h g cap w' ?_ h3 h4
    show w'.ownsRow lo e n _ (l ++ [y]).length ((l ++ [y]).flatMap c)
    rw [List.length_append, List.flatMap_append, List.length_singleton, List.flatMap_singleton]
    exact h2
theorem step_appL {w : World} {ops : Array Oper} {K : Act → World → Prop} {Q : Exit → Act → World → Prop} {E : Prop} (hgd : o.guard = none) (s x : Operand) (t e : TypeId) (ho : o.op = .call { callee := .builtin .append, args := #[s, x], argTypes := #[t, t] }) (ht : P.underlying t = some (.slice e))
    (hinfo : (P.info? e).map (fun i => (i.zero.map (·.cells.size), i.size, i.bytes)) = some (some n, n, bytes)) (hn0 : 0 < n) (hc : ∀ x, (c x).length = n) (h1 : ∀ x, ∀ u ∈ c x, u.oneCell' = true)
    (lo : Nat) (l : List α) (y : α) (v : Value) (hs : a.eval s = v) (w0 : World) (hw : w = w0.alloc (.cells (c y).toArray e)) (hown : Own n c lo e w0 v l) (hx : a.eval x = .slice (some ⟨w0.heap.size, 0, none⟩) 1 1)
    (hb : (l.length + 1) * bytes ≤ 140737488355328) (hm : l.length + 1 ≤ 9223372036854775807) (hlo : lo ≤ w0.heap.size)
    (h : ∀ g cap w', Own n c lo e w' (.slice (some ⟨g, 0, none⟩) (l.length + 1) cap) (l ++ [y]) → (w0.alloc (.cells (c y).toArray e)).grownBy w' v.ownBlock → (v.ownBlock = some g ∨ g = w0.heap.size + 1) → K (a.put o.dst (.slice (some ⟨g, 0, none⟩) (l.length + 1) cap)) w') :
    if Region.wanted o (yielded ops a.tmps) = true then o.wp P a w K Q else E := by
  rw [if_pos (by simp [Region.wanted, hgd])]
  subst hw
  exact wp_appL s x t e ho ht hinfo hn0 hc h1 lo l y v hs hown hx hb hm hlo h
theorem wpList_appL {w : World} {ops : Array Oper} {rest : List Oper} {Q : Exit → Act → World → Prop} (hgd : o.guard = none) (s x : Operand) (t e : TypeId) (ho : o.op = .call { callee := .builtin .append, args := #[s, x], argTypes := #[t, t] }) (ht : P.underlying t = some (.slice e))
    (hinfo : (P.info? e).map (fun i => (i.zero.map (·.cells.size), i.size, i.bytes)) = some (some n, n, bytes)) (hn0 : 0 < n) (hc : ∀ x, (c x).length = n) (h1 : ∀ x, ∀ u ∈ c x, u.oneCell' = true)
    (lo : Nat) (l : List α) (y : α) (v : Value) (hs : a.eval s = v) (w0 : World) (hw : w = w0.alloc (.cells (c y).toArray e)) (hown : Own n c lo e w0 v l) (hx : a.eval x = .slice (some ⟨w0.heap.size, 0, none⟩) 1 1)
    (hb : (l.length + 1) * bytes ≤ 140737488355328) (hm : l.length + 1 ≤ 9223372036854775807) (hlo : lo ≤ w0.heap.size)
    (h : ∀ g cap w', Own n c lo e w' (.slice (some ⟨g, 0, none⟩) (l.length + 1) cap) (l ++ [y]) → (w0.alloc (.cells (c y).toArray e)).grownBy w' v.ownBlock → (v.ownBlock = some g ∨ g = w0.heap.size + 1) → wpList P ops Q rest (a.put o.dst (.slice (some ⟨g, 0, none⟩) (l.length + 1) cap)) w') :
    wpList P ops Q (o :: rest) a w := by
  subst hw
  exact wpList_plain hgd fun _ hK => wp_appL s x t e ho ht hinfo hn0 hc h1 lo l y v hs hown hx hb hm hlo fun g cap w' h2 h3 h4 => hK _ _ (h g cap w' h2 h3 h4)
end
/-- Own memory is kept where its block is. -/
theorem own_stay {α : Type} {n : Nat} {c : α → List Value} {lo : Nat} {e : TypeId} {w w' : World} {v : Value} {l : List α} (h : Own n c lo e w v l) (hb : ∀ g, v.ownBlock = some g → w'.heap[g]? = w.heap[g]?) : Own n c lo e w' v l := by
  obtain ⟨h1, h2⟩ := h
  refine ⟨h1, ?_⟩
  rcases h2 with h2 | ⟨g, cap, cur, rfl, hb2, hg, r⟩
  · exact .inl h2
  · exact .inr ⟨g, cap, cur, rfl, hb2, by rw [hb g rfl]; exact hg, r⟩
theorem own_val {α : Type} {n : Nat} {c : α → List Value} {lo : Nat} {e : TypeId} {w : World} {v : Value} {l : List α} (h : Own n c lo e w v l) : ∃ a cap, v = .slice a l.length cap := by
  rcases h.2 with ⟨h0, h1⟩ | ⟨g, cap, cur, hv, _⟩
  · exact ⟨_, _, by rw [h1]; exact h0⟩
  · exact ⟨_, _, hv⟩
/-- Two own lists of different types lie apart. -/
theorem own_apart {α β : Type} {n m : Nat} {c : α → List Value} {d : β → List Value} {lo lo' : Nat} {e e' : TypeId} {w : World} {v v' : Value} {l : List α} {l' : List β} (h : Own n c lo e w v l) (h' : Own m d lo' e' w v' l') (hne : ¬ e' = e) {k : Nat} (hk : v'.ownBlock = some k) : ¬ v.ownBlock = some k := by
  obtain ⟨h1, h2⟩ := h'
  rcases h2 with ⟨rfl, -⟩ | ⟨g, cap, cur, rfl, hb, hg, -⟩
  · simp [Value.ownBlock] at hk
  · simp [Value.ownBlock] at hk
    subst hk
    exact own_ne h hg hne
/-- The box of the reference's explorer. -/
structure XIn (sb p : Nat) (tv wv fv bv : Value) (v : Wtc) (ws : List Wld) (fs : List Int) (ys : List Act1) (f : Nat → Value) (w : World) : Prop where
  lt : sb < p
  box : w.heap[p]? = some (.cells #[tv, .int .i64 v.margin, .int .i64 v.lost, wv, fv, bv, .slice (some ⟨sb, 0, none⟩) 20736 20736] 103 (0, 0))
  wo : Own 6 Wld.cells (p + 1) 55 w wv ws
  fo : Own 1 intCells (p + 1) 2 w fv fs
  bo : Own 4 Act1.cells (p + 1) 69 w bv ys
  row : w.rowIs sb 4 20736 f
/-- A block that is no part of the explorer. -/
structure Far (sb p : Nat) (wv fv bv : Value) (w : World) (k : Nat) : Prop where
  lt : k < w.heap.size
  sb : k ≠ sb
  p : k ≠ p
  wv : ¬ wv.ownBlock = some k
  fv : ¬ fv.ownBlock = some k
  bv : ¬ bv.ownBlock = some k
section
variable {sb p : Nat} {tv wv fv bv : Value} {v : Wtc} {ws : List Wld} {fs : List Int} {ys : List Act1} {f : Nat → Value} {w : World}
theorem XIn.plt (h : XIn sb p tv wv fv bv v ws fs ys f w) : p < w.heap.size := (Array.getElem?_eq_some_iff.1 h.box).1
/-- The explorer stays while its own blocks do. -/
theorem XIn.stay {w' : World} (h : XIn sb p tv wv fv bv v ws fs ys f w) (hk : ∀ k, k < w.heap.size → ¬ Far sb p wv fv bv w k → w'.heap[k]? = w.heap[k]?) : XIn sb p tv wv fv bv v ws fs ys f w' :=
  ⟨h.lt, (hk p h.plt (fun hf => hf.p rfl)).trans h.box,
    own_stay h.wo fun g hg => hk g (World.ownsRow.lt h.wo g hg).2 (fun hf => hf.wv hg),
    own_stay h.fo fun g hg => hk g (World.ownsRow.lt h.fo g hg).2 (fun hf => hf.fv hg),
    own_stay h.bo fun g hg => hk g (World.ownsRow.lt h.bo g hg).2 (fun hf => hf.bv hg),
    h.row.of_block (hk sb (Nat.lt_trans h.lt h.plt) (fun hf => hf.sb rfl))⟩
theorem XIn.ext {w' : World} (h : XIn sb p tv wv fv bv v ws fs ys f w) (hb : Below w.heap.size w w') : XIn sb p tv wv fv bv v ws fs ys f w' := h.stay fun k hk _ => hb.block k hk
theorem Far.ext {w' : World} {k : Nat} (h : Far sb p wv fv bv w k) (hs : w.heap.size ≤ w'.heap.size) : Far sb p wv fv bv w' k := ⟨Nat.lt_of_lt_of_le h.lt hs, h.sb, h.p, h.wv, h.fv, h.bv⟩
/-- New blocks are far. -/
theorem XIn.far (h : XIn sb p tv wv fv bv v ws fs ys f w) {w' : World} {k : Nat} (h1 : w.heap.size ≤ k) (h2 : k < w'.heap.size) : Far sb p wv fv bv w' k :=
  ⟨h2, by have := h.lt; have := h.plt; omega, by have := h.plt; omega,
    fun e => by have := (World.ownsRow.lt h.wo k e).2; omega, fun e => by have := (World.ownsRow.lt h.fo k e).2; omega, fun e => by have := (World.ownsRow.lt h.bo k e).2; omega⟩
theorem XIn.see (h : XIn sb p tv wv fv bv v ws fs ys f w) (i : Nat) (u : Value) : XIn sb p tv wv fv bv v ws fs ys (fun j => if j = i then u else f j) (w.setCell ⟨sb, i, none⟩ u) := by
  have hk : ∀ k, k ≠ sb → (w.setCell ⟨sb, i, none⟩ u).heap[k]? = w.heap[k]? := fun k hk => Below.heap_setCell _ _ _ _ hk
  have hlt := h.lt
  exact ⟨h.lt, (hk p (by omega)).trans h.box,
    own_stay h.wo fun g hg => hk g (by have := (World.ownsRow.lt h.wo g hg).1; omega),
    own_stay h.fo fun g hg => hk g (by have := (World.ownsRow.lt h.fo g hg).1; omega),
    own_stay h.bo fun g hg => hk g (by have := (World.ownsRow.lt h.bo g hg).1; omega),
    h.row.set i u⟩
theorem XIn.setW (h : XIn sb p tv wv fv bv v ws fs ys f w) {w' : World} {cs : Array Value} {g cap : Nat} {ws' : List Wld} {u : Value} (hu : u = .slice (some ⟨g, 0, none⟩) ws'.length cap) (hg : (w.alloc (.cells cs 55)).grownBy w' wv.ownBlock) (ho : Own 6 Wld.cells (p + 1) 55 w' u ws') (hat : wv.ownBlock = some g ∨ g = w.heap.size + 1) :
    XIn sb p tv u fv bv v ws' fs ys f (w'.setCell ⟨p, 3, none⟩ u) ∧ ∀ k, Far sb p wv fv bv w k → Far sb p u fv bv (w'.setCell ⟨p, 3, none⟩ u) k ∧ (w'.setCell ⟨p, 3, none⟩ u).heap[k]? = w.heap[k]? := by
  have hk0 : ∀ k, k < w.heap.size → ¬ wv.ownBlock = some k → w'.heap[k]? = w.heap[k]? := fun k hk hne =>
    (hg.block k (by simp; omega) (fun e => hne e.symm)).trans (Below.heap_alloc _ _ _ hk)
  have hk1 : ∀ k, k ≠ p → (w'.setCell ⟨p, 3, none⟩ u).heap[k]? = w'.heap[k]? := fun k hk => Below.heap_setCell _ _ _ _ hk
  have hplt := h.plt
  have hlt := h.lt
  have hsz : w.heap.size + 1 ≤ w'.heap.size := by have := hg.size; simp at this; exact this
  refine ⟨⟨h.lt, ?_, own_stay ho fun k hk => hk1 k (by have := (World.ownsRow.lt ho k hk).1; omega), own_stay h.fo fun k hk => ?_, own_stay h.bo fun k hk => ?_, h.row.of_block ?_⟩, fun k hk => ⟨⟨?_, hk.sb, hk.p, ?_, hk.fv, hk.bv⟩, ?_⟩⟩
  · have := (hk0 p hplt (fun e => by have := (World.ownsRow.lt h.wo p e).1; omega)).trans h.box
    simp [World.setCell, Array.getElem?_modify, this]
  · exact (hk1 k (by have := (World.ownsRow.lt h.fo k hk).1; omega)).trans (hk0 k (World.ownsRow.lt h.fo k hk).2 (own_apart h.wo h.fo (by decide) hk))
  · exact (hk1 k (by have := (World.ownsRow.lt h.bo k hk).1; omega)).trans (hk0 k (World.ownsRow.lt h.bo k hk).2 (own_apart h.wo h.bo (by decide) hk))
  · exact (hk1 sb (by omega)).trans (hk0 sb (by omega) (fun e => by have := (World.ownsRow.lt h.wo sb e).1; omega))
  · simp [World.setCell]; have := hk.lt; omega
  · intro e
    subst hu
    simp [Value.ownBlock] at e
    subst e
    rcases hat with hat | hat
    · exact hk.wv hat
    · have := hk.lt; omega
  · exact (hk1 k hk.p).trans (hk0 k hk.lt hk.wv)
theorem XIn.setF (h : XIn sb p tv wv fv bv v ws fs ys f w) {w' : World} {cs : Array Value} {g cap : Nat} {fs' : List Int} {u : Value} (hu : u = .slice (some ⟨g, 0, none⟩) fs'.length cap) (hg : (w.alloc (.cells cs 2)).grownBy w' fv.ownBlock) (ho : Own 1 intCells (p + 1) 2 w' u fs') (hat : fv.ownBlock = some g ∨ g = w.heap.size + 1) :
    XIn sb p tv wv u bv v ws fs' ys f (w'.setCell ⟨p, 4, none⟩ u) ∧ ∀ k, Far sb p wv fv bv w k → Far sb p wv u bv (w'.setCell ⟨p, 4, none⟩ u) k ∧ (w'.setCell ⟨p, 4, none⟩ u).heap[k]? = w.heap[k]? := by
  have hk0 : ∀ k, k < w.heap.size → ¬ fv.ownBlock = some k → w'.heap[k]? = w.heap[k]? := fun k hk hne =>
    (hg.block k (by simp; omega) (fun e => hne e.symm)).trans (Below.heap_alloc _ _ _ hk)
  have hk1 : ∀ k, k ≠ p → (w'.setCell ⟨p, 4, none⟩ u).heap[k]? = w'.heap[k]? := fun k hk => Below.heap_setCell _ _ _ _ hk
  have hplt := h.plt
  have hlt := h.lt
  have hsz : w.heap.size + 1 ≤ w'.heap.size := by have := hg.size; simp at this; exact this
  refine ⟨⟨h.lt, ?_, own_stay h.wo fun k hk => ?_, own_stay ho fun k hk => hk1 k (by have := (World.ownsRow.lt ho k hk).1; omega), own_stay h.bo fun k hk => ?_, h.row.of_block ?_⟩, fun k hk => ⟨⟨?_, hk.sb, hk.p, hk.wv, ?_, hk.bv⟩, ?_⟩⟩
  · have := (hk0 p hplt (fun e => by have := (World.ownsRow.lt h.fo p e).1; omega)).trans h.box
    simp [World.setCell, Array.getElem?_modify, this]
  · exact (hk1 k (by have := (World.ownsRow.lt h.wo k hk).1; omega)).trans (hk0 k (World.ownsRow.lt h.wo k hk).2 (own_apart h.fo h.wo (by decide) hk))
  · exact (hk1 k (by have := (World.ownsRow.lt h.bo k hk).1; omega)).trans (hk0 k (World.ownsRow.lt h.bo k hk).2 (own_apart h.fo h.bo (by decide) hk))
  · exact (hk1 sb (by omega)).trans (hk0 sb (by omega) (fun e => by have := (World.ownsRow.lt h.fo sb e).1; omega))
  · simp [World.setCell]; have := hk.lt; omega
  · intro e
    subst hu
    simp [Value.ownBlock] at e
    subst e
    rcases hat with hat | hat
    · exact hk.fv hat
    · have := hk.lt; omega
  · exact (hk1 k hk.p).trans (hk0 k hk.lt hk.fv)
theorem XIn.setB (h : XIn sb p tv wv fv bv v ws fs ys f w) {w' : World} {cs : Array Value} {g cap : Nat} {ys' : List Act1} {u : Value} (hu : u = .slice (some ⟨g, 0, none⟩) ys'.length cap) (hg : (w.alloc (.cells cs 69)).grownBy w' bv.ownBlock) (ho : Own 4 Act1.cells (p + 1) 69 w' u ys') (hat : bv.ownBlock = some g ∨ g = w.heap.size + 1) :
    XIn sb p tv wv fv u v ws fs ys' f (w'.setCell ⟨p, 5, none⟩ u) ∧ ∀ k, Far sb p wv fv bv w k → Far sb p wv fv u (w'.setCell ⟨p, 5, none⟩ u) k ∧ (w'.setCell ⟨p, 5, none⟩ u).heap[k]? = w.heap[k]? := by
  have hk0 : ∀ k, k < w.heap.size → ¬ bv.ownBlock = some k → w'.heap[k]? = w.heap[k]? := fun k hk hne =>
    (hg.block k (by simp; omega) (fun e => hne e.symm)).trans (Below.heap_alloc _ _ _ hk)
  have hk1 : ∀ k, k ≠ p → (w'.setCell ⟨p, 5, none⟩ u).heap[k]? = w'.heap[k]? := fun k hk => Below.heap_setCell _ _ _ _ hk
  have hplt := h.plt
  have hlt := h.lt
  have hsz : w.heap.size + 1 ≤ w'.heap.size := by have := hg.size; simp at this; exact this
  refine ⟨⟨h.lt, ?_, own_stay h.wo fun k hk => ?_, own_stay h.fo fun k hk => ?_, own_stay ho fun k hk => hk1 k (by have := (World.ownsRow.lt ho k hk).1; omega), h.row.of_block ?_⟩, fun k hk => ⟨⟨?_, hk.sb, hk.p, hk.wv, hk.fv, ?_⟩, ?_⟩⟩
  · have := (hk0 p hplt (fun e => by have := (World.ownsRow.lt h.bo p e).1; omega)).trans h.box
    simp [World.setCell, Array.getElem?_modify, this]
  · exact (hk1 k (by have := (World.ownsRow.lt h.wo k hk).1; omega)).trans (hk0 k (World.ownsRow.lt h.wo k hk).2 (own_apart h.bo h.wo (by decide) hk))
  · exact (hk1 k (by have := (World.ownsRow.lt h.fo k hk).1; omega)).trans (hk0 k (World.ownsRow.lt h.fo k hk).2 (own_apart h.bo h.fo (by decide) hk))
  · exact (hk1 sb (by omega)).trans (hk0 sb (by omega) (fun e => by have := (World.ownsRow.lt h.bo sb e).1; omega))
  · simp [World.setCell]; have := hk.lt; omega
  · intro e
    subst hu
    simp [Value.ownBlock] at e
    subst e
    rcases hat with hat | hat
    · exact hk.bv hat
    · have := hk.lt; omega
  · exact (hk1 k hk.p).trans (hk0 k hk.lt hk.bv)
end
/-- What has been seen stands in the row. -/
def SeenF (v : Wtc) (ws : List Wld) (f : Nat → Value) : Prop := ∀ y : Wld, y.ok v → f (idxW y).toNat = .bool (decide (y ∈ ws))
theorem SeenF.push {v : Wtc} {ws : List Wld} {f : Nat → Value} {x : Wld} (h : SeenF v ws f) (hx : x.ok v) : SeenF v (ws ++ [x]) (fun j => if j = (idxW x).toNat then .bool true else f j) := by
  intro y hy
  show (if (idxW y).toNat = (idxW x).toNat then Value.bool true else f (idxW y).toNat) = _
  by_cases e : y = x
  · subst e
    rw [if_pos rfl, decide_eq_true (show y ∈ ws ++ [y] from List.mem_append_right ws (List.mem_singleton.2 rfl))]
  · have hne : ¬ (idxW y).toNat = (idxW x).toNat := fun h2 => e (idx_inj hy hx (by have := idx_lt hy; have := idx_lt hx; omega))
    rw [if_neg hne, h y hy]
    congr 1
    rw [decide_eq_decide]
    simp [e]
end Go.Proofs.Yteakogdojmgehaa
