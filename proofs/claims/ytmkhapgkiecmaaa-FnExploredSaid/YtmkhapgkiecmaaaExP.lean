/- Worlds explored: plain law. No program in sight. -/
import Derived.Test.YtmkhapgkiecmaaaTab
namespace Go.Proofs.Ytmkhapgkiecmaaa
/-- A world that has been found, the number of the one from which, and the act. -/
structure Vis where
  w : Wld
  from_ : Int
  act : Act1
deriving DecidableEq
def actOf (k : Nat) : Act1 := ⟨(k / 12 : Nat) - 1, (k / 4 % 3 : Nat) - 1, decide (k / 2 % 2 = 1), decide (k % 2 = 1)⟩
noncomputable def actsN (T : Tab) (v : Wtc) (x : Wld) (n : Nat) : List Act1 := ((List.range n).map actOf).filter (canB T v x)
noncomputable def actsW (T : Tab) (v : Wtc) (x : Wld) : List Act1 := actsN T v x 36
theorem actsN_zero (T : Tab) (v : Wtc) (x : Wld) : actsN T v x 0 = [] := rfl
theorem actsN_t {T : Tab} {v : Wtc} {x : Wld} {n : Nat} (h : canB T v x (actOf n) = true) : actsN T v x (n + 1) = actsN T v x n ++ [actOf n] := by
  unfold actsN
  rw [List.range_succ, List.map_append, List.filter_append]
  simp [h]
theorem actsN_f {T : Tab} {v : Wtc} {x : Wld} {n : Nat} (h : canB T v x (actOf n) = false) : actsN T v x (n + 1) = actsN T v x n := by
  unfold actsN
  rw [List.range_succ, List.map_append, List.filter_append]
  simp [h]
theorem actsN_len (T : Tab) (v : Wtc) (x : Wld) (n : Nat) : (actsN T v x n).length ≤ n := by
  unfold actsN
  have := List.length_filter_le (canB T v x) ((List.range n).map actOf)
  simpa using this
theorem act_trn {k : Nat} (h : k < 36) : Trn (actOf k).turnA ∧ Trn (actOf k).turnB := by
  unfold Trn actOf
  dsimp only
  omega
theorem acts_can {T : Tab} {v : Wtc} {x : Wld} {y : Act1} (h : y ∈ actsW T v x) : (Trn y.turnA ∧ Trn y.turnB) ∧ canB T v x y = true := by
  unfold actsW actsN at h
  obtain ⟨h1, h2⟩ := List.mem_filter.1 h
  obtain ⟨k, hk, rfl⟩ := List.mem_map.1 h1
  exact ⟨act_trn (List.mem_range.1 hk), h2⟩
def unsafeB (T : Tab) (x : Wld) (y : Act1) : Bool :=
  let a := ((x.a + y.turnA) % 24).toNat
  let b := ((x.b + y.turnB) % 24).toNat
  cellT T a b || (decide (¬ y.turnA = 0) && decide (¬ y.turnB = 0) && (cellT T a x.b.toNat || cellT T x.a.toNat b))
def worldsV (l : List Vis) : List Wld := l.map Vis.w
def addV (l : List Vis) (x : Vis) : List Vis := if x.w ∈ worldsV l then l else l ++ [x]
theorem addV_old {l : List Vis} {x : Vis} (h : x.w ∈ worldsV l) : addV l x = l := if_pos h
theorem addV_new {l : List Vis} {x : Vis} (h : ¬ x.w ∈ worldsV l) : addV l x = l ++ [x] := if_neg h
def foldV (x : Wld) (i : Nat) (l : List Vis) (ys : List Act1) : List Vis := ys.foldl (fun l a => addV l ⟨doW x a, i, a⟩) l
theorem foldV_snoc (x : Wld) (i : Nat) (l : List Vis) (ys : List Act1) (a : Act1) : foldV x i l (ys ++ [a]) = addV (foldV x i l ys) ⟨doW x a, i, a⟩ := by
  unfold foldV
  rw [List.foldl_append]
  rfl
theorem foldV_take {x : Wld} {i : Nat} {l : List Vis} {ys : List Act1} {k : Nat} (h : k < ys.length) : foldV x i l (ys.take (k + 1)) = addV (foldV x i l (ys.take k)) ⟨doW x ys[k], i, ys[k]⟩ := by
  rw [List.take_succ_eq_append_getElem h, foldV_snoc]
def zeroA : Act1 := ⟨0, 0, false, false⟩
/-- What has been found when the first worlds are done. -/
noncomputable def bfs (T : Tab) (v : Wtc) (x : Wld) : Nat → List Vis
  | 0 => [⟨x, -1, zeroA⟩]
  | i + 1 => match (bfs T v x i)[i]? with
    | some y => foldV y.w i (bfs T v x i) (actsW T v y.w)
    | none => bfs T v x i
theorem bfs_go {T : Tab} {v : Wtc} {x : Wld} {i : Nat} (h : i < (bfs T v x i).length) : bfs T v x (i + 1) = foldV (bfs T v x i)[i].w i (bfs T v x i) (actsW T v (bfs T v x i)[i].w) := by
  rw [bfs, List.getElem?_eq_getElem h]
theorem bfs_end {T : Tab} {v : Wtc} {x : Wld} {i : Nat} (h : ¬ i < (bfs T v x i).length) : bfs T v x (i + 1) = bfs T v x i := by
  rw [bfs, List.getElem?_eq_none (by omega)]
/-- The list only grows. -/
theorem addV_pre (l : List Vis) (x : Vis) : l <+: addV l x := by
  unfold addV
  split
  · exact List.prefix_refl l
  · exact List.prefix_append l [x]
theorem foldV_pre (x : Wld) (i : Nat) : ∀ (ys : List Act1) (l : List Vis), l <+: foldV x i l ys
  | [], l => List.prefix_refl l
  | a :: ys, l => (addV_pre l ⟨doW x a, i, a⟩).trans (foldV_pre x i ys _)
theorem bfs_pre1 (T : Tab) (v : Wtc) (x : Wld) (i : Nat) : bfs T v x i <+: bfs T v x (i + 1) := by
  by_cases h : i < (bfs T v x i).length
  · rw [bfs_go h]; exact foldV_pre _ _ _ _
  · rw [bfs_end h]; exact List.prefix_refl _
theorem bfs_pre (T : Tab) (v : Wtc) (x : Wld) (i : Nat) : ∀ j, bfs T v x i <+: bfs T v x (i + j)
  | 0 => List.prefix_refl _
  | j + 1 => (bfs_pre T v x i j).trans (bfs_pre1 T v x (i + j))
/-- All has been done. -/
def DoneV (T : Tab) (v : Wtc) (x : Wld) (n : Nat) : Prop := n = (bfs T v x n).length
theorem done_stay {T : Tab} {v : Wtc} {x : Wld} {n : Nat} (h : DoneV T v x n) : ∀ j, bfs T v x (n + j) = bfs T v x n
  | 0 => rfl
  | j + 1 => by
    have ih := done_stay h j
    have : ¬ n + j < (bfs T v x (n + j)).length := by rw [ih, ← h]; omega
    rw [← Nat.add_assoc, bfs_end this, ih]
theorem DoneV.uniq {T : Tab} {v : Wtc} {x : Wld} {n m : Nat} (h : DoneV T v x n) (h2 : DoneV T v x m) : n = m := by
  rcases Nat.le_total n m with hl | hl
  · obtain ⟨j, rfl⟩ := Nat.exists_eq_add_of_le hl
    unfold DoneV at h h2
    rw [done_stay h j] at h2
    omega
  · obtain ⟨j, rfl⟩ := Nat.exists_eq_add_of_le hl
    unfold DoneV at h h2
    rw [done_stay h2 j] at h
    omega
/-- What holds of all that is found. -/
structure VisOk (v : Wtc) (l : List Vis) : Prop where
  ok : ∀ i (h : i < l.length), l[i].w.ok v
  root : ∃ h : 0 < l.length, l[0].from_ = -1
  from_ : ∀ i (h : i < l.length), 0 < i → 0 ≤ l[i].from_ ∧ l[i].from_ < i
  nodup : (worldsV l).Nodup
theorem VisOk.add {v : Wtc} {l : List Vis} {x : Vis} (h : VisOk v l) (hx : x.w.ok v) (hf : 0 ≤ x.from_ ∧ x.from_ < l.length) : VisOk v (addV l x) := by
  by_cases hm : x.w ∈ worldsV l
  · rw [addV_old hm]; exact h
  · rw [addV_new hm]
    refine ⟨fun i hi => ?_, ?_, fun i hi h0 => ?_, ?_⟩
    · by_cases hl : i < l.length
      · rw [List.getElem_append_left hl]; exact h.ok i hl
      · rw [List.getElem_append_right (by omega)]; simpa using hx
    · obtain ⟨h1, h2⟩ := h.root
      exact ⟨by simp, by rw [List.getElem_append_left h1]; exact h2⟩
    · by_cases hl : i < l.length
      · rw [List.getElem_append_left hl]; exact h.from_ i hl h0
      · have e : i = l.length := by rw [List.length_append] at hi; simp at hi; omega
        subst e
        rw [List.getElem_append_right (Nat.le_refl _)]
        simpa using hf
    · unfold worldsV at hm ⊢
      rw [List.map_append, List.map_cons, List.map_nil, List.nodup_append]
      refine ⟨h.nodup, by simp, ?_⟩
      intro a ha b hb e
      simp at hb
      subst hb e
      exact hm ha
theorem pigeon : ∀ (n : Nat) (l : List Nat), l.Nodup → (∀ x ∈ l, x < n) → l.length ≤ n
  | 0, l, _, h => by
    cases l with
    | nil => exact Nat.le_refl _
    | cons a r => exact absurd (h a List.mem_cons_self) (by omega)
  | n + 1, l, hd, h => by
    have h1 := pigeon n (l.erase n) (hd.erase n) (fun x hx => by
      have h2 := h x (List.mem_of_mem_erase hx)
      have h3 : x ≠ n := fun e => by
        subst e
        exact hd.not_mem_erase hx
      omega)
    have h4 : l.length ≤ (l.erase n).length + 1 := by
      rw [List.length_erase]
      split <;> omega
    omega
/-- The number of a valid world. -/
def idxW (x : Wld) : Int := ((((x.a * 24 + x.b) * 3 + tb x.seenA x.a + 1) * 3 + tb x.seenB x.b + 1) * 2 + x.ageA) * 2 + x.ageB
theorem idx_lt {v : Wtc} {x : Wld} (h : x.ok v) : 0 ≤ idxW x ∧ idxW x < 20736 := by
  obtain ⟨⟨-, hv1, hv2⟩, ⟨⟨a1, a2⟩, -, ⟨a3, a4⟩, a5⟩, ⟨⟨b1, b2⟩, -, ⟨b3, b4⟩, b5⟩⟩ := h
  have h1 := absI_cases (tb x.seenA x.a)
  have h2 := absI_cases (tb x.seenB x.b)
  unfold idxW
  omega
theorem idx_inj {v : Wtc} {x y : Wld} (h : x.ok v) (h2 : y.ok v) (e : idxW x = idxW y) : x = y := by
  obtain ⟨⟨-, hv1, hv2⟩, ⟨⟨a1, a2⟩, ⟨a6, a7⟩, ⟨a3, a4⟩, a5⟩, ⟨⟨b1, b2⟩, ⟨b6, b7⟩, ⟨b3, b4⟩, b5⟩⟩ := h
  obtain ⟨-, ⟨⟨c1, c2⟩, ⟨c6, c7⟩, ⟨c3, c4⟩, c5⟩, ⟨⟨d1, d2⟩, ⟨d6, d7⟩, ⟨d3, d4⟩, d5⟩⟩ := h2
  have h1 := absI_cases (tb x.seenA x.a)
  have h2 := absI_cases (tb x.seenB x.b)
  have h3 := absI_cases (tb y.seenA y.a)
  have h4 := absI_cases (tb y.seenB y.b)
  have k1 := tb_cases x.seenA x.a
  have k2 := tb_cases x.seenB x.b
  have k3 := tb_cases y.seenA y.a
  have k4 := tb_cases y.seenB y.b
  obtain ⟨xa, xb, xc, xd, xe, xf⟩ := x
  obtain ⟨ya, yb, yc, yd, ye, yf⟩ := y
  unfold idxW at e
  dsimp only at *
  generalize tb xc xa = p at *
  generalize tb xd xb = q at *
  generalize tb yc ya = r at *
  generalize tb yd yb = s at *
  have e6 : xf = yf := by omega
  have e5 : xe = ye := by omega
  have eq2 : q = s := by omega
  have eq1 : p = r := by omega
  have e2 : xb = yb := by omega
  have e1 : xa = ya := by omega
  subst e1 e2 e5 e6 eq1 eq2
  have e3 : xc = yc := by omega
  have e4 : xd = yd := by omega
  subst e3 e4
  rfl
theorem VisOk.len {v : Wtc} {l : List Vis} (h : VisOk v l) : l.length ≤ 20736 := by
  have hm : ∀ x ∈ worldsV l, x.ok v := fun x hx => by
    unfold worldsV at hx
    obtain ⟨y, hy, rfl⟩ := List.mem_map.1 hx
    obtain ⟨i, hi, rfl⟩ := List.getElem_of_mem hy
    exact h.ok i hi
  have hn : ((worldsV l).map (fun x => (idxW x).toNat)).Nodup := by
    rw [List.nodup_iff_pairwise_ne, List.pairwise_map]
    refine List.Pairwise.imp_of_mem ?_ (List.nodup_iff_pairwise_ne.1 h.nodup)
    intro a b ha hb hab e
    have h1 := idx_lt (hm a ha)
    have h2 := idx_lt (hm b hb)
    exact hab (idx_inj (hm a ha) (hm b hb) (by omega))
  have := pigeon 20736 _ hn (fun x hx => by
    obtain ⟨y, hy, rfl⟩ := List.mem_map.1 hx
    have := idx_lt (hm y hy)
    omega)
  simpa [worldsV] using this
theorem VisOk.start {v : Wtc} {x : Wld} (h : x.ok v) : VisOk v [⟨x, -1, zeroA⟩] :=
  ⟨fun i hi => by simp at hi; subst hi; exact h, ⟨by simp, rfl⟩, fun i hi h0 => by simp at hi; omega, by simp [worldsV]⟩
end Go.Proofs.Ytmkhapgkiecmaaa
