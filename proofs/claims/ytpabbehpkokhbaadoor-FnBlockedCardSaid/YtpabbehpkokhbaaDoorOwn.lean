/- Slices of the call's own that grow by append, element by element. -/
import Derived.Test.YtpabbehpkokhbaaDoorBase
import Derived.Deep.AppendLies
namespace Go.Proofs.YtpabbehpkokhbaaDoor
open Go.RowKit

/-- v is a slice of the call's own (blocks from lo on) with the elements l. -/
abbrev Own {α : Type} (n : Nat) (c : α → List Value) (lo : Nat) (e : TypeId) (w : World) (v : Value) (l : List α) : Prop := w.ownsRow lo e n v l.length (l.flatMap c)

section
variable {α : Type} {c : α → List Value} {n bytes : Nat} {P : Program} {o : Oper} {a : Act} {w0 : World}

theorem flat_len (hc : ∀ x, (c x).length = n) : ∀ l : List α, (l.flatMap c).length = l.length * n
  | [] => by simp
  | x :: r => by simp only [List.flatMap_cons, List.length_append, flat_len hc r, hc, List.length_cons, Nat.succ_mul]; omega

theorem wp_app1 {K : Act → World → Prop} {Q : Exit → Act → World → Prop} (s x : Operand) (t e : TypeId) (ho : o.op = .call { callee := .builtin .append, args := #[s, x], argTypes := #[t, t] }) (ht : P.underlying t = some (.slice e))
    (hinfo : (P.info? e).map (fun i => (i.zero.map (·.cells.size), i.size, i.bytes)) = some (some n, n, bytes)) (hn0 : 0 < n) (hc : ∀ x, (c x).length = n) (h1 : ∀ x, ∀ u ∈ c x, u.oneCell' = true)
    (lo : Nat) (l : List α) (y : α) (v : Value) (hs : a.eval s = v) (hown : Own n c lo e w0 v l) (hx : a.eval x = .slice (some ⟨w0.heap.size, 0, none⟩) 1 1)
    (hb : (l.length + 1) * bytes ≤ 140737488355328) (hm : l.length + 1 ≤ 9223372036854775807) (hlo : lo ≤ w0.heap.size)
    (h : ∀ v' w', Own n c lo e w' v' (l ++ [y]) → (w0.alloc (.cells (c y).toArray e)).grownBy w' v.ownBlock → K (a.put o.dst v') w') : o.wp P a (w0.alloc (.cells (c y).toArray e)) K Q := by
  obtain ⟨i, hi, hzz⟩ := Option.map_eq_some_iff.1 hinfo
  simp only [Prod.mk.injEq] at hzz
  obtain ⟨hz, hsz, hby⟩ := hzz
  obtain ⟨z, hz, hzs⟩ := Option.map_eq_some_iff.1 hz
  refine wp_append_own _ s x t ho lo e i z n bytes ht hi hz hsz hby hzs hn0 v l.length (l.flatMap c) hs (hown.alloc _) ⟨w0.heap.size, 0, none⟩ 1 1 (c y) hx (by rw [hc]; omega) ?_ (h1 y) (by unfold maxLen; omega) hb (by simp; omega) ?_
  · intro j u hu
    have hadd : (⟨w0.heap.size, 0, none⟩ : Addr).add j = ⟨w0.heap.size, j, none⟩ := by unfold Addr.add; split <;> simp_all
    rw [hadd, World.cell?_alloc_mark]
    simpa using hu
  · intro v' w' h2 h3 _
    refine h v' w' ?_ h3
    show w'.ownsRow lo e n v' (l ++ [y]).length ((l ++ [y]).flatMap c)
    rw [List.length_append, List.flatMap_append, List.length_singleton, List.flatMap_singleton]
    exact h2

theorem step_app1 {w : World} {ops : Array Oper} {K : Act → World → Prop} {Q : Exit → Act → World → Prop} {E : Prop} (hgd : o.guard = none) (s x : Operand) (t e : TypeId) (ho : o.op = .call { callee := .builtin .append, args := #[s, x], argTypes := #[t, t] }) (ht : P.underlying t = some (.slice e))
    (hinfo : (P.info? e).map (fun i => (i.zero.map (·.cells.size), i.size, i.bytes)) = some (some n, n, bytes)) (hn0 : 0 < n) (hc : ∀ x, (c x).length = n) (h1 : ∀ x, ∀ u ∈ c x, u.oneCell' = true)
    (lo : Nat) (l : List α) (y : α) (v : Value) (hs : a.eval s = v) (w0 : World) (hw : w = w0.alloc (.cells (c y).toArray e)) (hown : Own n c lo e w0 v l) (hx : a.eval x = .slice (some ⟨w0.heap.size, 0, none⟩) 1 1)
    (hb : (l.length + 1) * bytes ≤ 140737488355328) (hm : l.length + 1 ≤ 9223372036854775807) (hlo : lo ≤ w0.heap.size)
    (h : ∀ v' w', Own n c lo e w' v' (l ++ [y]) → (w0.alloc (.cells (c y).toArray e)).grownBy w' v.ownBlock → K (a.put o.dst v') w') :
    if Region.wanted o (yielded ops a.tmps) = true then o.wp P a w K Q else E := by
  rw [if_pos (by simp [Region.wanted, hgd])]
  subst hw
  exact wp_app1 s x t e ho ht hinfo hn0 hc h1 lo l y v hs hown hx hb hm hlo h

theorem wpList_app1 {w : World} {ops : Array Oper} {rest : List Oper} {Q : Exit → Act → World → Prop} (hgd : o.guard = none) (s x : Operand) (t e : TypeId) (ho : o.op = .call { callee := .builtin .append, args := #[s, x], argTypes := #[t, t] }) (ht : P.underlying t = some (.slice e))
    (hinfo : (P.info? e).map (fun i => (i.zero.map (·.cells.size), i.size, i.bytes)) = some (some n, n, bytes)) (hn0 : 0 < n) (hc : ∀ x, (c x).length = n) (h1 : ∀ x, ∀ u ∈ c x, u.oneCell' = true)
    (lo : Nat) (l : List α) (y : α) (v : Value) (hs : a.eval s = v) (w0 : World) (hw : w = w0.alloc (.cells (c y).toArray e)) (hown : Own n c lo e w0 v l) (hx : a.eval x = .slice (some ⟨w0.heap.size, 0, none⟩) 1 1)
    (hb : (l.length + 1) * bytes ≤ 140737488355328) (hm : l.length + 1 ≤ 9223372036854775807) (hlo : lo ≤ w0.heap.size)
    (h : ∀ v' w', Own n c lo e w' v' (l ++ [y]) → (w0.alloc (.cells (c y).toArray e)).grownBy w' v.ownBlock → wpList P ops Q rest (a.put o.dst v') w') :
    wpList P ops Q (o :: rest) a w := by
  subst hw
  exact wpList_plain hgd fun _ hK => wp_app1 s x t e ho ht hinfo hn0 hc h1 lo l y v hs hown hx hb hm hlo fun v' w' h2 h3 => hK _ _ (h v' w' h2 h3)
end

section
variable {α : Type} {c : α → List Value} {n lo : Nat} {e : TypeId} {w : World} {v : Value} {l : List α}

theorem Own.below {w' : World} (h : Own n c lo e w v l) (hb : Below w.heap.size w w') : Own n c lo e w' v l :=
  World.ownsRow.kept h (row := none) ⟨hb.os, hb.tape, hb.output, hb.size, fun k hk _ => hb.block k hk⟩ (by cases hv : v.ownBlock <;> simp)

theorem Own.mod {w' : World} {a : Nat} (h : Own n c lo e w v l) (hm : Mod a (a + 1) w w') (ha : a + 1 ≤ lo) : Own n c lo e w' v l :=
  World.ownsRow.kept h (row := some a) ⟨hm.os, hm.tape, hm.output, hm.size, fun k hk hne => hm.block k hk (by have : k ≠ a := fun h => hne (by rw [h]); omega)⟩ (.inr fun he => by have := (World.ownsRow.lt h a he).1; omega)

theorem Own.drew (h : Own n c lo e w v l) : Own n c lo e w.drew v l := h.below (Below.refl _ _).drew

theorem Own.alloc (h : Own n c lo e w v l) (o : Obj) : Own n c lo e (w.alloc o) v l := World.ownsRow.alloc h o

theorem Own.app {W w' : World} {B : Nat} {cs : Array Value} {t : TypeId} (h : Own n c lo e w v l) (hB : Below B W w) (h0 : B ≤ lo) (hs : B ≤ w.heap.size) (hg : (w.alloc (.cells cs t)).grownBy w' v.ownBlock) : Below B W w' :=
  (hB.alloc hs _).grown hg (by simp; omega) (fun k hk => Nat.le_trans h0 (World.ownsRow.lt h k hk).1)

theorem Own.grows {w' : World} {B : Nat} {W : World} (h : Own n c lo e w v l) (hB : Below B W w) (h0 : B ≤ lo) (hs : B ≤ w.heap.size) (hg : w.grownBy w' v.ownBlock) : Below B W w' :=
  hB.grown hg hs (fun k hk => Nat.le_trans h0 (World.ownsRow.lt h k hk).1)

theorem Own.slw (h : Own n c lo e w v l) (hc : ∀ x, (c x).length = n) : Slw n c lo w.heap.size w v l := by
  obtain ⟨h1, h2⟩ := h
  rcases h2 with ⟨rfl, h0⟩ | ⟨g, cap, cur, rfl, hb, hg, hnc, hcm, hcs, htake⟩
  · refine ⟨⟨none, 0, by rw [h0], ⟨by omega, by omega⟩, fun h => absurd h (by omega)⟩, fun h => absurd h (by omega)⟩
  · have hlt : g < w.heap.size := (Array.getElem?_eq_some_iff.1 hg).1
    refine ⟨⟨_, _, rfl, ⟨hnc, by unfold maxLen at hcm; omega⟩, fun _ => ⟨g, 0, rfl, hb, hlt, ?_⟩⟩, ?_⟩
    · intro i hi j u hu
      have hj : j < n := by rw [← hc l[i]]; exact (List.getElem?_eq_some_iff.1 hu).1
      have hin : i * n + j < l.length * n := by
        have : i * n + n ≤ l.length * n := by rw [← Nat.succ_mul]; exact Nat.mul_le_mul_right _ (by omega)
        omega
      have hfl : (l.flatMap c)[i * n + j]? = some u := by
        have : ∀ (l : List α) (i : Nat) (hi : i < l.length), (c l[i])[j]? = some u → (l.flatMap c)[i * n + j]? = some u := by
          intro l
          induction l with
          | nil => intro i hi; simp at hi
          | cons x r ih =>
            intro i hi hu
            rw [List.flatMap_cons]
            cases i with
            | zero => rw [List.getElem?_append_left (by rw [hc]; omega)]; simpa using hu
            | succ i =>
              rw [List.getElem?_append_right (by rw [hc, Nat.succ_mul]; omega), hc]
              have : (i + 1) * n + j - n = i * n + j := by rw [Nat.succ_mul]; omega
              rw [this]
              exact ih i (by simpa using hi) (by simpa using hu)
        exact this l i hi hu
      rw [Nat.zero_add, cell_of_row w g _ cur e (0, 0) hg]
      rw [← htake, List.getElem?_take, if_pos hin] at hfl
      simpa using hfl
    · intro _ b off len cap' hv j
      cases hv
      exact frozen_of_row w g j cur e hg

theorem own_nil (lo : Nat) (e : TypeId) (w : World) : Own n c lo e w (.slice none 0 0) ([] : List α) := World.ownsRow_nil _ _ _ _

/-- What buildSlice of no elements lays. -/
theorem own_empty (w : World) (e : TypeId) (lo : Nat) (h : lo ≤ w.heap.size) : Own n c lo e (w.alloc (.cells #[] e)) (.slice (some ⟨w.heap.size, 0, none⟩) 0 0) ([] : List α) :=
  World.ownsRow_made w #[] 0 h (by unfold maxLen; omega) (by simp)
end

/-- For regions that draw their order: what stood below B stands on. -/
theorem heldB {B : Nat} {W w1 : World} (h : Below B W w1) : (∀ b o, b < B → w1.cell? ⟨b, o, none⟩ = W.cell? ⟨b, o, none⟩) ∧ Below B W w1 := ⟨fun _ _ hb => h.cell hb, h⟩

def intCells (n : Int) : List Value := [.int .i64 n]
theorem intCells_len (n : Int) : (intCells n).length = 1 := rfl
theorem intCells_one (n : Int) : ∀ u ∈ intCells n, u.oneCell' = true := by intro u hu; simp [intCells] at hu; subst hu; rfl
abbrev Ints := Sl 1 intCells
theorem Ints.at {w : World} {b off : Nat} {l : List Int} (hc : ∀ i (h : i < l.length) j u, (intCells l[i])[j]? = some u → w.cell? ⟨b, off + i * 1 + j, none⟩ = some u) {k : Nat} (hk : k < l.length) : w.cell? ⟨b, off + k, none⟩ = some (.int .i64 l[k]) := by
  have := hc k hk 0 _ rfl
  simpa using this

/-- The places (as numbers) among the first k at which p holds. -/
def idxTo {α : Type} (p : α → Bool) (l : List α) : Nat → List Int
  | 0 => []
  | k + 1 => idxTo p l k ++ (match l[k]? with | some x => if p x then [(k : Int)] else [] | none => [])
theorem idxTo_yes {α : Type} {p : α → Bool} {l : List α} {k : Nat} (h : k < l.length) (hp : p l[k] = true) : idxTo p l (k + 1) = idxTo p l k ++ [(k : Int)] := by
  rw [idxTo, List.getElem?_eq_getElem h]; simp [hp]
theorem idxTo_no {α : Type} {p : α → Bool} {l : List α} {k : Nat} (h : k < l.length) (hp : p l[k] = false) : idxTo p l (k + 1) = idxTo p l k := by
  rw [idxTo, List.getElem?_eq_getElem h]; simp [hp]
theorem idxTo_len {α : Type} (p : α → Bool) (l : List α) : ∀ k, (idxTo p l k).length ≤ k
  | 0 => by simp [idxTo]
  | k + 1 => by
    have := idxTo_len p l k
    rw [idxTo, List.length_append]
    split
    · split <;> simp <;> omega
    · simp; omega

def ListRes {α : Type} (c : α → List Value) (n : Nat) (w : World) (l : List α) (code : Int) (e : Ending) (w' : World) : Prop :=
  ∃ v', e = .returned (.tuple #[v', .int .i64 code]) ∧ Slw n c w.heap.size w'.heap.size w' v' l ∧ Below w.heap.size w w'
theorem slw_nil {α : Type} {n : Nat} {c : α → List Value} {lo hi : Nat} {w : World} : Slw n c lo hi w (.slice none 0 0) ([] : List α) :=
  ⟨⟨none, 0, rfl, ⟨by simp, by omega⟩, fun h => absurd h (by simp)⟩, fun h => absurd h (by simp)⟩

theorem flat_at {α : Type} {c : α → List Value} {n : Nat} (hc : ∀ x, (c x).length = n) : ∀ (l : List α) (j : Nat) (u : Value), (l.flatMap c)[j]? = some u → ∃ i jj, ∃ h : i < l.length, j = i * n + jj ∧ (c l[i])[jj]? = some u
  | [], j, u, h => by simp at h
  | x :: r, j, u, h => by
    rw [List.flatMap_cons] at h
    by_cases hj : j < n
    · rw [List.getElem?_append_left (by rw [hc]; exact hj)] at h
      exact ⟨0, j, by simp, by omega, by simpa using h⟩
    · rw [List.getElem?_append_right (by rw [hc]; omega), hc] at h
      obtain ⟨i, jj, hi, e, hu⟩ := flat_at hc r (j - n) u h
      exact ⟨i + 1, jj, by simpa using hi, by rw [Nat.succ_mul]; omega, by simpa using hu⟩

theorem wpList_appN {α : Type} {c : α → List Value} {n bytes : Nat} {P : Program} {o : Oper} {a : Act} {w : World} {ops : Array Oper} {rest : List Oper} {Q : Exit → Act → World → Prop} (hgd : o.guard = none) (s x : Operand) (t e : TypeId) (ho : o.op = .call { callee := .builtin .append, args := #[s, x], argTypes := #[t, t] }) (ht : P.underlying t = some (.slice e))
    (hinfo : (P.info? e).map (fun i => (i.zero.map (·.cells.size), i.size, i.bytes)) = some (some n, n, bytes)) (hn0 : 0 < n) (hc : ∀ x, (c x).length = n) (h1 : ∀ x, ∀ u ∈ c x, u.oneCell' = true)
    (lo : Nat) (l0 l : List α) (v : Value) (hs : a.eval s = v) (hown : Own n c lo e w v l0) (lo2 hi2 b off cap : Nat) (hx : a.eval x = .slice (some ⟨b, off, none⟩) l.length cap) (hr : Sl n c lo2 hi2 w (.slice (some ⟨b, off, none⟩) l.length cap) l)
    (hb : (l0.length + l.length) * bytes ≤ 140737488355328) (hm : l0.length + l.length ≤ 9223372036854775807) (hlo : lo ≤ w.heap.size)
    (h : ∀ v' w', Own n c lo e w' v' (l0 ++ l) → w.grownBy w' v.ownBlock → wpList P ops Q rest (a.put o.dst v') w') :
    wpList P ops Q (o :: rest) a w := by
  obtain ⟨i, hi, hzz⟩ := Option.map_eq_some_iff.1 hinfo
  simp only [Prod.mk.injEq] at hzz
  obtain ⟨hz, hsz, hby⟩ := hzz
  obtain ⟨z, hz, hzs⟩ := Option.map_eq_some_iff.1 hz
  refine wpList_plain hgd fun K hK => ?_
  refine wp_append_own _ s x t ho lo e i z n bytes ht hi hz hsz hby hzs hn0 v l0.length (l0.flatMap c) hs hown ⟨b, off, none⟩ l.length cap (l.flatMap c) hx (flat_len hc l) ?_ ?_ (by unfold maxLen; omega) hb hlo ?_
  · intro j u hu
    obtain ⟨i, jj, hi, rfl, hu'⟩ := flat_at hc l j u hu
    have := hr.get i hi jj u hu'
    have hadd : (⟨b, off, none⟩ : Addr).add (i * n + jj) = ⟨b, off + i * n + jj, none⟩ := by
      unfold Addr.add; split
      · rw [show off + i * n + jj = off from by omega]
      · simp only [Nat.add_assoc]
    rw [hadd]; exact this
  · intro u hu
    obtain ⟨x, _, hx⟩ := List.mem_flatMap.1 hu
    exact h1 x u hx
  · intro v' w' h2 h3 _
    refine hK _ _ (h v' w' ?_ h3)
    show w'.ownsRow lo e n v' (l0 ++ l).length ((l0 ++ l).flatMap c)
    rw [List.length_append, List.flatMap_append]
    exact h2

theorem flat_get {α : Type} {c : α → List Value} {n : Nat} (hc : ∀ x, (c x).length = n) : ∀ (l : List α) (i : Nat) (h : i < l.length) (j : Nat), j < n → (l.flatMap c)[i * n + j]? = (c l[i])[j]?
  | [], i, h, _, _ => absurd h (by simp)
  | x :: r, 0, _, j, hj => by rw [List.flatMap_cons, Nat.zero_mul, Nat.zero_add, List.getElem?_append_left (by rw [hc]; exact hj)]; rfl
  | x :: r, i + 1, h, j, hj => by
    rw [List.flatMap_cons, List.getElem?_append_right (by rw [hc, Nat.succ_mul]; omega), hc, show (i + 1) * n + j - n = i * n + j by rw [Nat.succ_mul]; omega]
    exact flat_get hc r i (by simpa using h) j hj
/-- A slice literal reads as its list. -/
theorem sl_lit {α : Type} {c : α → List Value} {n : Nat} (hc : ∀ x, (c x).length = n) (l : List α) (w : World) (t : TypeId) {cs : Array Value} (hcs : cs = (l.flatMap c).toArray) {m : Nat} (hm : m = l.length) (hl : l.length ≤ 9223372036854775807) :
    Sl n c w.heap.size (w.heap.size + 1) (w.alloc (.cells cs t)) (.slice (some ⟨w.heap.size, 0, none⟩) m m) l := by
  subst hcs hm
  refine ⟨_, _, rfl, ⟨Nat.le_refl _, hl⟩, fun _ => ⟨_, _, rfl, Nat.le_refl _, Nat.lt_succ_self _, fun i hi j u hu => ?_⟩⟩
  have hj : j < n := by have := (List.getElem?_eq_some_iff.1 hu).1; rw [hc] at this; exact this
  rw [World.cell?_alloc_mark]
  rw [← flat_get hc l i hi j hj] at hu
  simpa using hu

/-- One cell of one element written. -/
theorem Slw.store1 {α : Type} {c : α → List Value} {n lo hi : Nat} {w : World} {b off len cap : Nat} {l : List α} (h : Slw n c lo hi w (.slice (some ⟨b, off, none⟩) len cap) l) (hn : ∀ x, (c x).length = n)
    {k j o : Nat} (hk : k < l.length) (hj : j < n) {u : Value} {x : α} (hx : c x = (c l[k]).set j u) (ho : o = off + k * n + j) : Slw n c lo hi (w.setCell ⟨b, o, none⟩ u) (.slice (some ⟨b, off, none⟩) len cap) (l.set k x) := by
  obtain ⟨b', off', cap', hv, hcap, hraw⟩ := Raw.of h hn (by omega)
  cases hv
  have h2 := (hraw.self (k := k) (by simpa using hk)).store (j := j) (u := u) (by simpa using hk) hj ho
  refine h2.back _ (fun i hi => ?_) (by simp) (by rw [List.length_set]; exact hcap)
  have hi' : i < l.length := by simpa using hi
  rw [List.getElem?_set, List.getElem_set]
  by_cases hik : k = i
  · subst hik
    rw [if_pos rfl, if_pos (by simpa using hk), if_pos rfl, hx]
    simp
  · rw [if_neg hik, if_neg hik]
    simp [hi']
theorem Slw.mono' {α : Type} {c : α → List Value} {n lo lo' hi : Nat} {w : World} {v : Value} {l : List α} (h : Slw n c lo hi w v l) (hh : lo' ≤ lo) : Slw n c lo' hi w v l := ⟨h.1.mono hh (Nat.le_refl _), h.2⟩
theorem Slw.fresh {α : Type} {c : α → List Value} {n lo hi hi' : Nat} {w : World} {v : Value} {l : List α} (h : Slw n c lo hi w v l) (hh : hi ≤ hi') : Slw n c lo hi' w v l := ⟨h.1.mono (Nat.le_refl _) hh, h.2⟩
end Go.Proofs.YtpabbehpkokhbaaDoor
