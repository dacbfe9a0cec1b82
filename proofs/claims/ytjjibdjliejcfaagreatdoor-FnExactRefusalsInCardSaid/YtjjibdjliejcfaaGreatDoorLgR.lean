/- The log: the longest beginning that is a log, in plain Lean. -/
import Derived.Test.YtjjibdjliejcfaaGreatDoorLgN
import Derived.Test.YtjjibdjliejcfaaGreatDoorLgK
namespace Go.Proofs.YtjjibdjliejcfaaGreatDoor
open Go.RowKit
theorem cutAt_cat {a r : ByteArray} (h : noB 32 a) : CutAt (a ++ (⟨#[32]⟩ : ByteArray) ++ r) a r true := by
  have hb := blank_cat (r := r) h
  have h1 : CutAt (a ++ (⟨#[32]⟩ : ByteArray) ++ r) ((a ++ (⟨#[32]⟩ : ByteArray) ++ r).extract 0 a.size) ((a ++ (⟨#[32]⟩ : ByteArray) ++ r).extract (a.size + 1) (a ++ (⟨#[32]⟩ : ByteArray) ++ r).size) true := .inl ⟨_, hb, rfl, rfl, rfl⟩
  obtain ⟨e1, e2, -⟩ := cut_cat h h1
  rw [e1, e2] at h1
  exact h1
theorem body_inj {sg sg' : Int} {x y : Ent} (hx : x.plain) (hy : y.plain) (h : bodyB sg x = bodyB sg' y) : x = y := by
  have c1 : CutAt (bodyB sg x) _ _ true := cutAt_cat (noB_dec sg (.inl rfl))
  have c2 := cutAt_cat (r := (x.who ++ (⟨#[32]⟩ : ByteArray) ++ x.what)) (noB_dec x.second (.inl rfl))
  have c3 := cutAt_cat (r := x.what) (noB_name hx.2.1 (.inl rfl))
  rw [h] at c1
  obtain ⟨-, -, -, e1, e2, e3⟩ := parse_body hy c1 c2 c3
  have e1 := decStr_inj e1
  obtain ⟨a, b, c⟩ := x
  obtain ⟨d, e, f⟩ := y
  simp only at e1 e2 e3
  subst e1 e2 e3
  rfl
/-- What has been read of a log. -/
structure LgSt where
  pos : Nat
  sign : Int
  last : Int
  es : List Ent
def lg0 : LgSt := ⟨0, 0, 0, []⟩
/-- One more line. -/
def StepL (l : List Sgn) (s : ByteArray) (t t' : LgSt) : Prop :=
  ∃ x : Ent, x.plain ∧ ¬ keyOf l x.who = 0 ∧ t.last ≤ x.second ∧ t'.sign = signE (keyOf l x.who) t.sign x ∧ t'.pos ≤ s.size ∧ s.extract t.pos t'.pos = lineB t'.sign x ∧ t'.last = x.second ∧ t'.es = t.es ++ [x]
theorem StepL.uniq {l : List Sgn} {s : ByteArray} {t u v : LgSt} (h : StepL l s t u) (h2 : StepL l s t v) : u = v := by
  obtain ⟨x, hx, -, -, hsg, hp, hl, hla, hes⟩ := h
  obtain ⟨y, hy, -, -, hsg2, hp2, hl2, hla2, hes2⟩ := h2
  have n1 := nl_line (by rw [hl, lineB_body]) hp (noB_body hx)
  have n2 := nl_line (by rw [hl2, lineB_body]) hp2 (noB_body hy)
  have hpos : u.pos = v.pos := by
    have := n1.1.uniq n2.1
    omega
  have hxy : x = y := by
    refine body_inj (sg := u.sign) (sg' := v.sign) hx hy ?_
    rw [hpos, hl2, lineB_body, lineB_body] at hl
    have h3 := congrArg (fun b : ByteArray => b.data.toList) hl
    simp only [ByteArray.data_append, Array.toList_append] at h3
    have h4 := List.append_cancel_right h3
    exact (ByteArray.ext (Array.toList_inj.1 h4)).symm
  subst hxy
  obtain ⟨a, b, c, d⟩ := u
  obtain ⟨a2, b2, c2, d2⟩ := v
  simp only at *
  subst hpos
  rw [hsg, hsg2, hla, hla2, hes, hes2]
open Classical in
noncomputable def nextL (l : List Sgn) (s : ByteArray) (t : LgSt) : Option LgSt := if h : ∃ u, StepL l s t u then some h.choose else none
theorem nextL_some {l : List Sgn} {s : ByteArray} {t u : LgSt} (h : StepL l s t u) : nextL l s t = some u := by
  classical
  have he : ∃ u, StepL l s t u := ⟨u, h⟩
  unfold nextL
  rw [dif_pos he, he.choose_spec.uniq h]
theorem nextL_none {l : List Sgn} {s : ByteArray} {t : LgSt} (h : ∀ u, ¬ StepL l s t u) : nextL l s t = none := by
  classical
  unfold nextL
  rw [dif_neg (fun ⟨u, hu⟩ => h u hu)]
noncomputable def lgN (l : List Sgn) (s : ByteArray) : Nat → Option LgSt
  | 0 => some lg0
  | n + 1 => (lgN l s n).bind (nextL l s)
/-- The reading ends so. -/
def ReadsTo (l : List Sgn) (s : ByteArray) (t : LgSt) : Prop := ∃ n, lgN l s n = some t ∧ nextL l s t = none
theorem lgN_none {l : List Sgn} {s : ByteArray} {n : Nat} (h : lgN l s n = none) : ∀ k, lgN l s (n + k) = none
  | 0 => h
  | k + 1 => by rw [← Nat.add_assoc, lgN, lgN_none h k]; rfl
theorem ReadsTo.uniq {l : List Sgn} {s : ByteArray} {t u : LgSt} (h : ReadsTo l s t) (h2 : ReadsTo l s u) : t = u := by
  obtain ⟨n, hn, hnn⟩ := h
  obtain ⟨m, hm, hmm⟩ := h2
  have e1 : lgN l s (n + 1) = none := by rw [lgN, hn]; exact hnn
  have e2 : lgN l s (m + 1) = none := by rw [lgN, hm]; exact hmm
  rcases Nat.lt_trichotomy n m with h | h | h
  · have := lgN_none e1 (m - (n + 1))
    rw [show n + 1 + (m - (n + 1)) = m by omega, hm] at this
    cases this
  · subst h
    rw [hn] at hm
    exact Option.some.inj hm
  · have := lgN_none e2 (n - (m + 1))
    rw [show m + 1 + (n - (m + 1)) = n by omega, hn] at this
    cases this
theorem lgN_pos {l : List Sgn} {s : ByteArray} : ∀ {n : Nat} {t : LgSt}, lgN l s n = some t → t.pos ≤ s.size
  | 0, t, h => by cases h; exact Nat.zero_le _
  | n + 1, t, h => by
    classical
    rw [lgN] at h
    cases hn : lgN l s n with
    | none => rw [hn] at h; cases h
    | some u =>
      rw [hn] at h
      have h : nextL l s u = some t := h
      unfold nextL at h
      split at h
      · rename_i he
        cases h
        obtain ⟨x, -, -, -, -, hp, -⟩ := he.choose_spec
        exact hp
      · cases h
theorem ReadsTo.pos_le {l : List Sgn} {s : ByteArray} {t : LgSt} (h : ReadsTo l s t) : t.pos ≤ s.size := by
  obtain ⟨n, hn, -⟩ := h
  exact lgN_pos hn
theorem num_dec {x : Ent} (hx : x.plain) : NumOf (decStr x.second) x.second := by
  refine ⟨rfl, ?_⟩
  rw [decStr_list, unS_itoa, Lib.decDigits_length]
  have h1 := hx.1
  have h2 : Lib.nDigits x.second.natAbs ≤ 18 := by
    apply Nat.le_of_not_lt
    intro h3
    have h4 : ∀ (k u : Nat), k < Lib.nDigits u → 10 ^ k ≤ u ∨ k = 0 := by
      intro k
      induction k with
      | zero => intro u _; exact .inr rfl
      | succ k ih =>
        intro u hk
        by_cases hu : u < 10
        · rw [Lib.nDigits_small hu] at hk; omega
        · rw [Lib.nDigits_big hu] at hk
          rcases ih (u / 10) (by omega) with h | h
          · refine .inl ?_
            rw [Nat.pow_succ]
            omega
          · subst h; refine .inl ?_; omega
    rcases h4 18 x.second.natAbs h3 with h | h
    · have : (10:Nat) ^ 18 = 1000000000000000000 := by decide
      omega
    · omega
  exact h2
/-- What a line that can be read looks like to whoever takes it apart. -/
theorem step_parse {l : List Sgn} {s : ByteArray} {t u : LgSt} (h : StepL l s t u) {i : Nat} (hi : NlAt s t.pos i) {a1 r1 a2 r2 a3 r3 : ByteArray} {o1 o2 o3 : Bool}
    (c1 : CutAt (s.extract t.pos i) a1 r1 o1) (c2 : CutAt r1 a2 r2 o2) (c3 : CutAt r2 a3 r3 o3) :
    o1 = true ∧ o2 = true ∧ o3 = true ∧ NumOf a2 (numV a2) ∧ numB a2 = true ∧ (⟨numV a2, a3, r3⟩ : Ent).plain ∧ ¬ keyOf l a3 = 0 ∧ t.last ≤ numV a2 ∧
      u = ⟨i + 1, signE (keyOf l a3) t.sign ⟨numV a2, a3, r3⟩, numV a2, t.es ++ [⟨numV a2, a3, r3⟩]⟩ ∧ s.extract t.pos (i + 1) = lineB u.sign ⟨numV a2, a3, r3⟩ := by
  obtain ⟨x, hx, hk, hla, hsg, hp, hl, hla2, hes⟩ := h
  obtain ⟨n1, n2⟩ := nl_line (by rw [hl, lineB_body]) hp (noB_body hx)
  have hii := hi.uniq n1
  have hpi : u.pos = i + 1 := by omega
  have hbody : s.extract t.pos i = bodyB u.sign x := by
    have e1 : (s.extract t.pos u.pos).extract 0 (bodyB u.sign x).size = bodyB u.sign x := by
      rw [hl, lineB_body, ByteArray.extract_append_eq_left rfl]
    rw [ByteArray.extract_extract] at e1
    rw [← e1]
    congr 1
    omega
  rw [hbody] at c1
  obtain ⟨rfl, rfl, rfl, rfl, rfl, rfl⟩ := parse_body hx c1 c2 c3
  have hn := num_dec hx
  obtain ⟨hn1, hn2⟩ := num_t hn
  rw [hn2]
  refine ⟨rfl, rfl, rfl, hn, hn1, hx, hk, hla, ?_, by rw [← hpi]; exact hl⟩
  obtain ⟨p, q, r, e⟩ := u
  simp only at *
  rw [hpi, hsg, hla2, hes]
theorem step_none {l : List Sgn} {s : ByteArray} {t : LgSt} (h : ∀ i, ¬ NlAt s t.pos i) : ∀ u, ¬ StepL l s t u := by
  rintro u ⟨x, hx, -, -, -, hp, hl, -, -⟩
  exact h _ (nl_line (by rw [hl, lineB_body]) hp (noB_body hx)).1
theorem numV_i64 (s : ByteArray) : I64 (numV s) := by
  by_cases h : ∃ n, NumOf s n
  · obtain ⟨n, hn⟩ := h
    rw [(num_t hn).2]
    have := hn.bd
    unfold I64
    omega
  · rw [(num_f (fun n hn => h ⟨n, hn⟩)).2]
    unfold I64
    omega
end Go.Proofs.YtjjibdjliejcfaaGreatDoor
