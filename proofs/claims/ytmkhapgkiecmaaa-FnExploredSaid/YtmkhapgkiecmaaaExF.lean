/- Worlds explored: the way to the first unsafe act. Plain law, no program in sight. -/
import Derived.Test.YtmkhapgkiecmaaaExP
namespace Go.Proofs.Ytmkhapgkiecmaaa
inductive PathTo (l : List Vis) : Nat → List Act1 → Prop
  | root {k : Nat} (h : k < l.length) (h0 : l[k].from_ < 0) : PathTo l k []
  | step {k j : Nat} {p : List Act1} (h : k < l.length) (hj : l[k].from_ = (j : Int)) (hp : PathTo l j p) : PathTo l k (p ++ [l[k].act])
theorem PathTo.uniq {l : List Vis} {k : Nat} {p : List Act1} (h : PathTo l k p) : ∀ {q}, PathTo l k q → p = q := by
  induction h with
  | root h h0 =>
    intro q hq
    cases hq with
    | root _ _ => rfl
    | step _ hj _ => omega
  | step h hj hp ih =>
    intro q hq
    cases hq with
    | root _ h0 => omega
    | step _ hj2 hp2 =>
      have e := hj.symm.trans hj2
      have e := Int.ofNat.inj e
      subst e
      rw [ih hp2]
theorem pre_get {l l' : List Vis} (h : l <+: l') {k : Nat} (hk : k < l.length) : ∃ hk' : k < l'.length, l'[k] = l[k] := by
  obtain ⟨t, rfl⟩ := h
  exact ⟨by rw [List.length_append]; omega, List.getElem_append_left hk⟩
theorem PathTo.pre {l l' : List Vis} (hl : l <+: l') {k : Nat} {p : List Act1} (h : PathTo l k p) : PathTo l' k p := by
  induction h with
  | root h h0 =>
    obtain ⟨h1, h2⟩ := pre_get hl h
    exact .root h1 (by rw [h2]; exact h0)
  | step h hj hp ih =>
    obtain ⟨h1, h2⟩ := pre_get hl h
    rw [← h2]
    exact .step h1 (by rw [h2]; exact hj) ih
theorem path_ex {v : Wtc} {l : List Vis} (h : VisOk v l) : ∀ n k, k ≤ n → k < l.length → ∃ p, PathTo l k p
  | 0, k, hk, hl => by
    obtain rfl : k = 0 := by omega
    obtain ⟨h1, h2⟩ := h.root
    exact ⟨[], .root h1 (by omega)⟩
  | n + 1, k, hk, hl => by
    by_cases h0 : k = 0
    · subst h0
      obtain ⟨h1, h2⟩ := h.root
      exact ⟨[], .root h1 (by omega)⟩
    · obtain ⟨h1, h2⟩ := h.from_ k hl (by omega)
      obtain ⟨j, hj⟩ := Int.eq_ofNat_of_zero_le h1
      obtain ⟨p, hp⟩ := path_ex h n j (by omega) (by omega)
      exact ⟨_, .step hl hj hp⟩
/-- Whether an act of the first worlds is unsafe. -/
noncomputable def badN (T : Tab) (v : Wtc) (x : Wld) : Nat → Bool
  | 0 => false
  | i + 1 => match (bfs T v x i)[i]? with
    | some y => badN T v x i || (actsW T v y.w).any (unsafeB T y.w)
    | none => badN T v x i
theorem badN_go {T : Tab} {v : Wtc} {x : Wld} {i : Nat} (h : i < (bfs T v x i).length) : badN T v x (i + 1) = (badN T v x i || (actsW T v (bfs T v x i)[i].w).any (unsafeB T (bfs T v x i)[i].w)) := by
  rw [badN, List.getElem?_eq_getElem h]
theorem badN_le {T : Tab} {v : Wtc} {x : Wld} {i : Nat} : ∀ j, badN T v x i = true → badN T v x (i + j) = true
  | 0, h => h
  | j + 1, h => by
    have ih := badN_le j h
    rw [← Nat.add_assoc, badN]
    split
    · rw [ih]; rfl
    · exact ih
theorem any_take {α : Type} {p : α → Bool} {l : List α} {k : Nat} (h : k < l.length) : (l.take (k + 1)).any p = ((l.take k).any p || p l[k]) := by
  rw [List.take_succ_eq_append_getElem h, List.any_append]
  simp
/-- What exploring tells. -/
def ExpC (T : Tab) (v : Wtc) (x : Wld) (n : Nat) (b : Bool) : Prop := DoneV T v x n ∧ b = badN T v x n
theorem ExpC.uniq {T : Tab} {v : Wtc} {x : Wld} {n m : Nat} {b c : Bool} (h : ExpC T v x n b) (h2 : ExpC T v x m c) : n = m ∧ b = c := by
  have e := h.1.uniq h2.1
  subst e
  exact ⟨rfl, h.2.trans h2.2.symm⟩
/-- The first unsafe act, and the acts that lead to it. -/
structure FirstV (T : Tab) (v : Wtc) (x : Wld) (i j : Nat) (p : List Act1) (r : List Act1) : Prop where
  lt : i < (bfs T v x i).length
  before : badN T v x i = false
  ltj : j < (actsW T v (bfs T v x i)[i].w).length
  beforej : ((actsW T v (bfs T v x i)[i].w).take j).any (unsafeB T (bfs T v x i)[i].w) = false
  bad : unsafeB T (bfs T v x i)[i].w (actsW T v (bfs T v x i)[i].w)[j] = true
  path : PathTo (bfs T v x i) i p
  all : r = p ++ [(actsW T v (bfs T v x i)[i].w)[j]]
theorem FirstV.next {T : Tab} {v : Wtc} {x : Wld} {i j : Nat} {p r : List Act1} (h : FirstV T v x i j p r) : badN T v x (i + 1) = true := by
  rw [badN_go h.lt, h.before, Bool.false_or, List.any_eq_true]
  exact ⟨_, List.getElem_mem h.ltj, h.bad⟩
theorem FirstV.uniq {T : Tab} {v : Wtc} {x : Wld} {i j i' j' : Nat} {p r p' r' : List Act1} (h : FirstV T v x i j p r) (h2 : FirstV T v x i' j' p' r') : r = r' := by
  have key : ∀ {a b c d : Nat} {p r p' r' : List Act1}, FirstV T v x a b p r → FirstV T v x c d p' r' → ¬ a < c := fun {a b c d p r p' r'} h h2 hlt => by
    obtain ⟨m, rfl⟩ := Nat.exists_eq_add_of_le (show a + 1 ≤ c by omega)
    have := badN_le m h.next
    rw [h2.before] at this
    cases this
  have e : i = i' := by have := key h h2; have := key h2 h; omega
  subst e
  have keyj : ∀ {b d : Nat} {p r p' r' : List Act1}, FirstV T v x i b p r → FirstV T v x i d p' r' → ¬ b < d := fun {b d p r p' r'} h h2 hlt => by
    have h3 := h2.beforej
    rw [List.any_eq_false] at h3
    have hb := h.ltj
    have hm : (actsW T v ((bfs T v x i)[i]'h.lt).w)[b] ∈ (actsW T v ((bfs T v x i)[i]'h.lt).w).take d := by
      rw [List.mem_iff_getElem]
      exact ⟨b, by rw [List.length_take]; omega, by rw [List.getElem_take]⟩
    exact h3 _ hm h.bad
  have e : j = j' := by have := keyj h h2; have := keyj h2 h; omega
  subst e
  have ep := h.path.uniq h2.path
  have e1 := h.all
  have e2 := h2.all
  rw [e1, e2]
  congr 1
def FirC (T : Tab) (v : Wtc) (x : Wld) (r : List Act1) (c : Int) : Prop :=
  (c = 0 ∧ ∃ i j p, FirstV T v x i j p r) ∨ (c = 3 ∧ r = [] ∧ ∃ n, DoneV T v x n ∧ badN T v x n = false)
theorem done_bad {T : Tab} {v : Wtc} {x : Wld} {n i : Nat} (h : DoneV T v x n) (hi : i < (bfs T v x i).length) : i < n := by
  rcases Nat.lt_or_ge i n with h1 | h1
  · exact h1
  · obtain ⟨j, rfl⟩ := Nat.exists_eq_add_of_le h1
    rw [done_stay h j, ← h] at hi
    omega
theorem FirC.uniq {T : Tab} {v : Wtc} {x : Wld} {r r' : List Act1} {c c' : Int} (h : FirC T v x r c) (h2 : FirC T v x r' c') : r = r' ∧ c = c' := by
  have key : ∀ {i j p r n}, FirstV T v x i j p r → DoneV T v x n → badN T v x n = false → False := fun {i j p r n} h hd hb => by
    have hl := done_bad hd h.lt
    obtain ⟨m, rfl⟩ := Nat.exists_eq_add_of_le (show i + 1 ≤ n by omega)
    rw [badN_le m h.next] at hb
    cases hb
  rcases h with ⟨rfl, i, j, p, h⟩ | ⟨rfl, rfl, n, hd, hb⟩ <;> rcases h2 with ⟨rfl, i', j', p', h2⟩ | ⟨rfl, rfl, n', hd', hb'⟩
  · exact ⟨h.uniq h2, rfl⟩
  · exact (key h hd' hb').elim
  · exact (key h2 hd hb).elim
  · exact ⟨rfl, rfl⟩
/-- A possible act leads from a valid world to a valid one. -/
theorem ok_do {T : Tab} {v : Wtc} {x : Wld} {y : Act1} (h : x.ok v) (h1 : Trn y.turnA) (h2 : Trn y.turnB) (hc : canB T v x y = true) : (doW x y).ok v := by
  obtain ⟨hv, ⟨a1, a2, ⟨a3, a4⟩, a5⟩, ⟨b1, b2, ⟨b3, b4⟩, b5⟩⟩ := h
  have hv' := hv
  obtain ⟨-, hv1, hv2⟩ := hv
  unfold canB at hc
  simp only [Bool.and_eq_true] at hc
  obtain ⟨-, hc3, hc4⟩ := hc
  obtain ⟨xa, xb, xc, xd, xe, xf⟩ := x
  obtain ⟨ta, tb', la, lb⟩ := y
  unfold Trn at h1 h2
  unfold Dir at a1 a2 b1 b2
  dsimp only at *
  unfold doW
  refine ⟨hv', ?_, ?_⟩
  · cases la with
    | false =>
      refine ⟨?_, ?_, ?_, ?_⟩
      · unfold Dir; dsimp only; omega
      · unfold Dir; dsimp only; simp only [Bool.false_eq_true, if_false]; omega
      · dsimp only; simp only [Bool.false_eq_true, if_false]; omega
      · dsimp only
        simp only [Bool.false_eq_true, if_false]
        have k1 := tb_cases ((xa + ta) % 24) ((xa + ta) % 24)
        have k2 := absI_cases (tb ((xa + ta) % 24) ((xa + ta) % 24))
        omega
    | true =>
      have hc3 : xe < v.lost := by simpa using hc3
      refine ⟨?_, ?_, ?_, ?_⟩
      · unfold Dir; dsimp only; omega
      · unfold Dir; dsimp only; simp only [if_true]; omega
      · dsimp only; simp only [if_true]; omega
      · dsimp only
        simp only [if_true]
        have k1 := tb_cases xc ((xa + ta) % 24)
        have k2 := absI_cases (tb xc ((xa + ta) % 24))
        have k3 := tb_cases xc xa
        have k4 := absI_cases (tb xc xa)
        omega
  · cases lb with
    | false =>
      refine ⟨?_, ?_, ?_, ?_⟩
      · unfold Dir; dsimp only; omega
      · unfold Dir; dsimp only; simp only [Bool.false_eq_true, if_false]; omega
      · dsimp only; simp only [Bool.false_eq_true, if_false]; omega
      · dsimp only
        simp only [Bool.false_eq_true, if_false]
        have k1 := tb_cases ((xb + tb') % 24) ((xb + tb') % 24)
        have k2 := absI_cases (tb ((xb + tb') % 24) ((xb + tb') % 24))
        omega
    | true =>
      have hc4 : xf < v.lost := by simpa using hc4
      refine ⟨?_, ?_, ?_, ?_⟩
      · unfold Dir; dsimp only; omega
      · unfold Dir; dsimp only; simp only [if_true]; omega
      · dsimp only; simp only [if_true]; omega
      · dsimp only
        simp only [if_true]
        have k1 := tb_cases xd ((xb + tb') % 24)
        have k2 := absI_cases (tb xd ((xb + tb') % 24))
        have k3 := tb_cases xd xb
        have k4 := absI_cases (tb xd xb)
        omega
theorem foldV_ok {T : Tab} {v : Wtc} {x : Wld} {i : Nat} (hx : x.ok v) : ∀ (ys : List Act1) (l : List Vis), (∀ a ∈ ys, (Trn a.turnA ∧ Trn a.turnB) ∧ canB T v x a = true) → VisOk v l → i < l.length → VisOk v (foldV x i l ys) ∧ i < (foldV x i l ys).length
  | [], _, _, h, hi => ⟨h, hi⟩
  | a :: ys, l, ha, h, hi => by
    obtain ⟨⟨h1, h2⟩, h3⟩ := ha a List.mem_cons_self
    have hn := h.add (x := ⟨doW x a, i, a⟩) (ok_do hx h1 h2 h3) ⟨by dsimp only; omega, by dsimp only; omega⟩
    have hp := addV_pre l ⟨doW x a, i, a⟩
    exact foldV_ok hx ys _ (fun b hb => ha b (List.mem_cons_of_mem _ hb)) hn (Nat.lt_of_lt_of_le hi hp.length_le)
theorem bfs_ok {T : Tab} {v : Wtc} {x : Wld} (h : x.ok v) : ∀ n, VisOk v (bfs T v x n)
  | 0 => VisOk.start h
  | n + 1 => by
    have ih := bfs_ok h n (T := T)
    by_cases hn : n < (bfs T v x n).length
    · rw [bfs_go hn]
      exact (foldV_ok (ih.ok n hn) _ _ (fun a ha => acts_can ha) ih hn).1
    · rw [bfs_end hn]; exact ih
end Go.Proofs.Ytmkhapgkiecmaaa
