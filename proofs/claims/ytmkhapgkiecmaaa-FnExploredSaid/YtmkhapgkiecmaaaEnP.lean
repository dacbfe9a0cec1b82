/- Worlds explored: what the law asks. Plain law, no program in sight. -/
import Derived.Test.YtmkhapgkiecmaaaExF
import Derived.Test.YtmkhapgkiecmaaaRunM
namespace Go.Proofs.Ytmkhapgkiecmaaa
/-- Each world that is found comes from an earlier one by a possible act. -/
def Steps (T : Tab) (v : Wtc) (l : List Vis) (n : Nat) : Prop := ∀ k (h : k < l.length), 0 < k → ∃ j, ∃ hj : j < l.length, l[k].from_ = (j : Int) ∧ j < n ∧ l[k].act ∈ actsW T v l[j].w ∧ l[k].w = doW l[j].w l[k].act
theorem Steps.mono {T : Tab} {v : Wtc} {l : List Vis} {n m : Nat} (h : Steps T v l n) (hm : n ≤ m) : Steps T v l m := fun k hk h0 => by
  obtain ⟨j, hj, h1, h2, h3⟩ := h k hk h0
  exact ⟨j, hj, h1, by omega, h3⟩
theorem Steps.add {T : Tab} {v : Wtc} {l : List Vis} {n i : Nat} {a : Act1} (h : Steps T v l n) (hi : i < l.length) (hin : i < n) (ha : a ∈ actsW T v l[i].w) : Steps T v (addV l ⟨doW l[i].w a, i, a⟩) n := by
  by_cases hm : doW l[i].w a ∈ worldsV l
  · rw [addV_old hm]; exact h
  · rw [addV_new hm]
    intro k hk h0
    by_cases hl : k < l.length
    · obtain ⟨j, hj, h1, h2, h3, h4⟩ := h k hl h0
      refine ⟨j, by rw [List.length_append]; omega, ?_, h2, ?_, ?_⟩
      · rw [List.getElem_append_left hl]; exact h1
      · rw [List.getElem_append_left hl, List.getElem_append_left hj]; exact h3
      · rw [List.getElem_append_left hl, List.getElem_append_left hj]; exact h4
    · have e : k = l.length := by rw [List.length_append] at hk; simp at hk; omega
      subst e
      refine ⟨i, by rw [List.length_append]; omega, ?_, hin, ?_, ?_⟩
      · rw [List.getElem_append_right (Nat.le_refl _)]; simp
      · rw [List.getElem_append_right (Nat.le_refl _), List.getElem_append_left hi]; simpa using ha
      · rw [List.getElem_append_right (Nat.le_refl _), List.getElem_append_left hi]; simp
theorem addV_get {l : List Vis} {x : Vis} {i : Nat} (hi : i < l.length) : ∃ h : i < (addV l x).length, (addV l x)[i] = l[i] := pre_get (addV_pre l x) hi
theorem Steps.fold {T : Tab} {v : Wtc} {n i : Nat} {y : Wld} (hin : i < n) : ∀ (ys : List Act1) (l : List Vis), (∀ a ∈ ys, a ∈ actsW T v y) → Steps T v l n → (∃ hi : i < l.length, l[i].w = y) → Steps T v (foldV y i l ys) n
  | [], _, _, h, _ => h
  | a :: ys, l, ha, h, ⟨hi, hy⟩ => by
    have h1 := h.add hi hin (a := a) (by rw [hy]; exact ha a List.mem_cons_self)
    rw [hy] at h1
    refine Steps.fold hin ys _ (fun b hb => ha b (List.mem_cons_of_mem _ hb)) h1 ?_
    obtain ⟨h2, h3⟩ := addV_get (x := ⟨doW y a, i, a⟩) hi
    exact ⟨h2, by rw [h3]; exact hy⟩
theorem bfs_steps (T : Tab) (v : Wtc) (x : Wld) : ∀ n, Steps T v (bfs T v x n) n
  | 0 => fun k hk h0 => by simp [bfs] at hk; omega
  | n + 1 => by
    have ih := (bfs_steps T v x n).mono (Nat.le_succ n)
    by_cases hn : n < (bfs T v x n).length
    · rw [bfs_go hn]
      exact ih.fold (Nat.lt_succ_self n) _ _ (fun a ha => ha) ⟨hn, rfl⟩
    · rw [bfs_end hn]; exact ih
theorem bfs_root (T : Tab) (v : Wtc) (x : Wld) (n : Nat) : ∃ h : 0 < (bfs T v x n).length, (bfs T v x n)[0].w = x ∧ (bfs T v x n)[0].from_ = -1 := by
  have hp := bfs_pre T v x 0 n
  rw [Nat.zero_add] at hp
  obtain ⟨h1, h2⟩ := pre_get hp (k := 0) (by simp [bfs])
  exact ⟨h1, by rw [h2]; rfl, by rw [h2]; rfl⟩
theorem bfs_stop {T : Tab} {v : Wtc} {x : Wld} {j : Nat} (h : ¬ j < (bfs T v x j).length) : ∀ m, bfs T v x (j + m) = bfs T v x j
  | 0 => rfl
  | m + 1 => by
    have ih := bfs_stop h m
    rw [← Nat.add_assoc, bfs_end (by rw [ih]; omega), ih]
/-- No act of the first worlds is unsafe. -/
theorem safe_of {T : Tab} {v : Wtc} {x : Wld} : ∀ {n : Nat}, badN T v x n = false → ∀ j (hj : j < (bfs T v x n).length), j < n → ∀ a ∈ actsW T v (bfs T v x n)[j].w, unsafeB T (bfs T v x n)[j].w a = false := by
  intro n hb j hj hjn a ha
  have hlt : j < (bfs T v x j).length := by
    apply Classical.byContradiction
    intro hc
    obtain ⟨m, rfl⟩ := Nat.exists_eq_add_of_le (Nat.le_of_lt hjn)
    rw [bfs_stop hc m] at hj
    exact hc hj
  have hb1 : badN T v x (j + 1) = false := by
    cases hc : badN T v x (j + 1) with
    | false => rfl
    | true =>
      obtain ⟨m, rfl⟩ := Nat.exists_eq_add_of_le (show j + 1 ≤ n by omega)
      rw [badN_le m hc] at hb
      cases hb
  rw [badN_go hlt, Bool.or_eq_false_iff, List.any_eq_false] at hb1
  have hp := bfs_pre T v x j (n - j)
  rw [show j + (n - j) = n by omega] at hp
  obtain ⟨h1, h2⟩ := pre_get hp hlt
  rw [h2] at ha ⊢
  have := hb1.2 a ha
  simpa using this
/-- A way of possible and safe acts from one world to another. -/
def WalkP (T : Tab) (v : Wtc) : Wld → List Act1 → Wld → Prop
  | x, [], z => z = x
  | x, y :: r, z => ((Trn y.turnA ∧ Trn y.turnB) ∧ canB T v x y = true) ∧ unsafeB T x y = false ∧ WalkP T v (doW x y) r z
theorem WalkP.snoc {T : Tab} {v : Wtc} {z : Wld} {y : Act1} (h1 : (Trn y.turnA ∧ Trn y.turnB) ∧ canB T v z y = true) (h2 : unsafeB T z y = false) : ∀ (p : List Act1) (x : Wld), WalkP T v x p z → WalkP T v x (p ++ [y]) (doW z y)
  | [], x, h => by
    obtain rfl : z = x := h
    exact ⟨h1, h2, rfl⟩
  | a :: p, x, ⟨h3, h4, h5⟩ => ⟨h3, h4, WalkP.snoc h1 h2 p _ h5⟩
theorem path_walk {T : Tab} {v : Wtc} {x : Wld} {l : List Vis} {n : Nat} (hs : Steps T v l n) (h0 : ∃ h : 0 < l.length, l[0].w = x ∧ l[0].from_ = -1) (hsafe : ∀ j (hj : j < l.length), j < n → ∀ a ∈ actsW T v l[j].w, unsafeB T l[j].w a = false) {k : Nat} {p : List Act1} (h : PathTo l k p) : ∃ hk : k < l.length, WalkP T v x p l[k].w := by
  induction h with
  | @root k h hf =>
    by_cases hk : 0 < k
    · obtain ⟨j, _, h1, _⟩ := hs k h hk
      omega
    · obtain rfl : k = 0 := by omega
      obtain ⟨_, h1, _⟩ := h0
      exact ⟨h, h1⟩
  | @step k j p h hj hp ih =>
    obtain ⟨hjl, ih⟩ := ih
    have hk : 0 < k := by
      apply Nat.pos_of_ne_zero
      intro e
      subst e
      obtain ⟨_, _, h1⟩ := h0
      omega
    obtain ⟨j', hj', h1, h2, h3, h4⟩ := hs k h hk
    have e : j = j' := by omega
    subst e
    refine ⟨h, ?_⟩
    rw [h4]
    exact WalkP.snoc (acts_can h3) (hsafe j hjl h2 _ h3) p x ih
/-- With enough margin a possible act is safe, and leads to no conflict. -/
theorem safe_step {T : Tab} {v : Wtc} {z : Wld} {y : Act1} (hz : z.ok v) (hm : v.lost + 1 ≤ v.margin) (hc : cellT T z.a.toNat z.b.toNat = false) (hy : (Trn y.turnA ∧ Trn y.turnB) ∧ canB T v z y = true) :
    unsafeB T z y = false ∧ cellT T (doW z y).a.toNat (doW z y).b.toNat = false := by
  obtain ⟨⟨hA, hB⟩, hcan⟩ := hy
  obtain ⟨-, ⟨da, dsa, ⟨-, hga⟩, hta⟩, ⟨db, dsb, ⟨-, hgb⟩, htb⟩⟩ := hz
  unfold canB at hcan
  simp only [Bool.and_eq_true, Bool.or_eq_true, decide_eq_true_eq] at hcan
  obtain ⟨⟨hfA, hfB⟩, -⟩ := hcan
  obtain ⟨za, zb, zsa, zsb, zga, zgb⟩ := z
  obtain ⟨tA, tB, lA, lB⟩ := y
  unfold Trn at hA hB
  unfold Dir at da dsa db dsb
  dsimp only at *
  have fA : tA ≠ 0 → ∀ o : Int, 0 ≤ o → o < 24 → absI (tb zsb o) ≤ v.margin → cellT T ((za + tA) % 24).toNat o.toNat = false := by
    intro h o h0 h1 h2
    rcases hfA with h3 | h3
    · exact absurd h3 h
    · unfold freeB at h3
      have h4 : Free T true ((za + tA) % 24).toNat zsb v.margin := by classical exact of_decide_eq_true h3
      exact h4 o.toNat (by omega) (by rw [show ((o.toNat : Nat) : Int) = o by omega]; exact h2)
  have fB : tB ≠ 0 → ∀ o : Int, 0 ≤ o → o < 24 → absI (tb zsa o) ≤ v.margin → cellT T o.toNat ((zb + tB) % 24).toNat = false := by
    intro h o h0 h1 h2
    rcases hfB with h3 | h3
    · exact absurd h3 h
    · unfold freeB at h3
      have h4 : Free T false ((zb + tB) % 24).toNat zsa v.margin := by classical exact of_decide_eq_true h3
      exact h4 o.toNat (by omega) (by rw [show ((o.toNat : Nat) : Int) = o by omega]; exact h2)
  have k1 := tb_cases zsb zb
  have k2 := absI_cases (tb zsb zb)
  have k3 := tb_cases zsb ((zb + tB) % 24)
  have k4 := absI_cases (tb zsb ((zb + tB) % 24))
  have k5 := tb_cases zsa za
  have k6 := absI_cases (tb zsa za)
  have k7 := tb_cases zsa ((za + tA) % 24)
  have k8 := absI_cases (tb zsa ((za + tA) % 24))
  have nb1 : absI (tb zsb zb) ≤ v.margin := by omega
  have nb2 : absI (tb zsb ((zb + tB) % 24)) ≤ v.margin := by omega
  have na1 : absI (tb zsa za) ≤ v.margin := by omega
  have na2 : absI (tb zsa ((za + tA) % 24)) ≤ v.margin := by omega
  have hab : cellT T ((za + tA) % 24).toNat ((zb + tB) % 24).toNat = false := by
    by_cases h1 : tA = 0
    · by_cases h2 : tB = 0
      · subst h1 h2
        rw [show (za + 0) % 24 = za by omega, show (zb + 0) % 24 = zb by omega]
        exact hc
      · exact fB h2 _ (by omega) (by omega) na2
    · exact fA h1 _ (by omega) (by omega) nb2
  refine ⟨?_, hab⟩
  unfold unsafeB
  dsimp only
  rw [hab, Bool.false_or]
  by_cases h1 : tA = 0
  · simp [h1]
  · by_cases h2 : tB = 0
    · simp [h2]
    · rw [fA h1 zb db.1 (by omega) nb1, fB h2 za da.1 (by omega) na1]
      simp
theorem bfs_free {T : Tab} {v : Wtc} {x : Wld} (hx : x.ok v) (hm : v.lost + 1 ≤ v.margin) (hc : cellT T x.a.toNat x.b.toNat = false) (n : Nat) : ∀ k (hk : k < (bfs T v x n).length), cellT T (bfs T v x n)[k].w.a.toNat (bfs T v x n)[k].w.b.toNat = false := by
  intro k
  induction k using Nat.strongRecOn with
  | _ k ih =>
    intro hk
    by_cases h0 : 0 < k
    · obtain ⟨j, hj, h1, h2, h3, h4⟩ := bfs_steps T v x n k hk h0
      have h5 := (bfs_ok (T := T) hx n).from_ k hk h0
      have h6 := ih j (by omega) hj
      rw [h4]
      exact (safe_step ((bfs_ok (T := T) hx n).ok j hj) hm h6 (acts_can h3)).2
    · obtain rfl : k = 0 := by omega
      obtain ⟨_, h1, _⟩ := bfs_root T v x n
      rw [h1]; exact hc
theorem bad_free {T : Tab} {v : Wtc} {x : Wld} (hx : x.ok v) (hm : v.lost + 1 ≤ v.margin) (hc : cellT T x.a.toNat x.b.toNat = false) : ∀ n, badN T v x n = false
  | 0 => rfl
  | n + 1 => by
    by_cases hn : n < (bfs T v x n).length
    · rw [badN_go hn, bad_free hx hm hc n, Bool.false_or, List.any_eq_false]
      intro a ha
      have := (safe_step ((bfs_ok (T := T) hx n).ok n hn) hm (bfs_free hx hm hc n n hn) (acts_can ha)).1
      simp [this]
    · rw [badN, List.getElem?_eq_none (by omega)]
      exact bad_free hx hm hc n
/-- All that the law asks. -/
theorem explored {T : Tab} {v : Wtc} {x : Wld} (hx : x.ok v) {n : Nat} {b : Bool} (he : ExpC T v x n b) {r : List Act1} {c : Int} (hf : FirC T v x r c) :
    1 ≤ n ∧ (b = false ∧ c = 3 ∨ b = true ∧ c = 0 ∧ ¬ (v.lost + 1 ≤ v.margin ∧ cellT T x.a.toNat x.b.toNat = false) ∧ ∃ p y z, r = p ++ [y] ∧ WalkP T v x p z ∧ z.ok v ∧ ((Trn y.turnA ∧ Trn y.turnB) ∧ canB T v z y = true) ∧ unsafeB T z y = true) := by
  obtain ⟨hd, hb⟩ := he
  refine ⟨?_, ?_⟩
  · obtain ⟨h, _⟩ := bfs_root T v x n
    unfold DoneV at hd
    omega
  · rcases hf with ⟨rfl, i, j, p, h⟩ | ⟨rfl, rfl, m, hd2, hb2⟩
    · right
      have hl := done_bad hd h.lt
      have hbt : badN T v x n = true := by
        obtain ⟨m, rfl⟩ := Nat.exists_eq_add_of_le (show i + 1 ≤ n by omega)
        exact badN_le m h.next
      refine ⟨by rw [hb, hbt], rfl, fun ⟨h1, h2⟩ => ?_, ?_⟩
      · rw [bad_free hx h1 h2 n] at hbt
        cases hbt
      · obtain ⟨hk, hw⟩ := path_walk (bfs_steps T v x i) (bfs_root T v x i) (safe_of h.before) h.path
        exact ⟨p, _, _, h.all, hw, (bfs_ok (T := T) hx i).ok i h.lt, acts_can (List.getElem_mem h.ltj), h.bad⟩
    · left
      have e := hd.uniq hd2
      subst e
      exact ⟨by rw [hb, hb2], rfl⟩
/-- The acts of such a way can be run one after the other. -/
theorem walk_run {T : Tab} {v : Wtc} {z : Wld} : ∀ (p : List Act1) (x : Wld) (n : Nat), WalkP T v x p z → runW T v x p n = (z, n + p.length)
  | [], x, n, h => by
    obtain rfl : z = x := h
    rfl
  | y :: r, x, n, ⟨⟨h1, h2⟩, _, h3⟩ => by
    rw [runW_go (by unfold stepB; rw [h2, decide_eq_true (show TrnsOk y from h1)]; rfl), walk_run r _ _ h3, List.length_cons]
    congr 1
    omega
theorem walk_at {T : Tab} {v : Wtc} {z x : Wld} {p : List Act1} {i : Nat} (h : i < p.length) (hw : WalkP T v x (p.drop i) z) : ((Trn p[i].turnA ∧ Trn p[i].turnB) ∧ canB T v x p[i] = true) ∧ unsafeB T x p[i] = false ∧ WalkP T v (doW x p[i]) (p.drop (i + 1)) z := by
  rw [List.drop_eq_getElem_cons h] at hw
  exact hw
end Go.Proofs.Ytmkhapgkiecmaaa
