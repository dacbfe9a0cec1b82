/- Acts that are possible, and the world after, in both packages. -/
import Derived.Test.YtmkhapgkiecmaaaTabD
namespace Go.Proofs.Ytmkhapgkiecmaaa
open Go.RowKit

/-- The kit's quiet_of_same, in a region behind another region that draws. -/
theorem quiet2 {P : Program} {f : FuncId} {args : Array Value} {w : World} {a n : Nat} {v : Value} (h : Calls P f args (w.drewN (a + n)) fun e w' => e = .returned v ∧ w' = w.drewN (a + n)) :
    Calls P f args (w.drewN (a + n)) fun e w'' => e = .returned v ∧ ∃ m, w'' = w.drewN (a + m) :=
  h.mono fun _ _ ⟨he, hm⟩ => ⟨he, n, hm⟩

/-- Worlds within bounds. -/
def Wld.in_ (x : Wld) : Prop := Dir x.a ∧ Dir x.b ∧ Dir x.seenA ∧ Dir x.seenB ∧ (0 ≤ x.ageA ∧ x.ageA ≤ 1) ∧ (0 ≤ x.ageB ∧ x.ageB ≤ 1)
theorem Wld.ok.in_ {v : Wtc} {x : Wld} (h : x.ok v) : x.in_ := by
  obtain ⟨⟨_, h1⟩, ⟨h2, h3, h4, _⟩, ⟨h5, h6, h7, _⟩⟩ := h
  exact ⟨h2, h5, h3, h6, ⟨h4.1, by omega⟩, ⟨h7.1, by omega⟩⟩

set_option maxRecDepth 100000 in
set_option maxHeartbeats 16000000 in
theorem spec_Can (tv : Value) (rows : List SV) (T : Tab) (lo hi : Nat) (v : Wtc) (x : Wld) (y : Act1) (w : World) (h : TabR lo hi w tv rows T) (hT : TabOk T) (hv : v.ok) (hx : x.in_) (h1 : Trn y.turnA) (h2 : Trn y.turnB) :
    Calls Try.prog 81 #[tv, .agg v.cells.toArray, .agg x.cells.toArray, .agg y.cells.toArray] w fun e w' => e = .returned (.bool (canB T v x y)) ∧ Below w.heap.size w w' := by
  obtain ⟨m, t⟩ := v
  obtain ⟨a, b, sa, sb, ga, gb⟩ := x
  obtain ⟨tA, tB, lA, lB⟩ := y
  obtain ⟨⟨d1, d1'⟩, ⟨d2, d2'⟩, ⟨d3, d3'⟩, ⟨d4, d4'⟩, ⟨d5, d5'⟩, ⟨d6, d6'⟩⟩ := hx
  obtain ⟨⟨m1, m2⟩, ⟨l1, l2⟩⟩ := hv
  unfold Trn at h1 h2
  obtain ⟨t1, t1'⟩ := h1
  obtain ⟨t2, t2'⟩ := h2
  simp only at *
  have hs1 : IntKind.i64.wrap (a + tA) = a + tA := IntWalk.i64_in _ (by omega)
  have hs2 : IntKind.i64.wrap (b + tB) = b + tB := IntWalk.i64_in _ (by omega)
  have e1 : ((((a + tA) % 24).toNat : Nat) : Int) = (a + tA) % 24 := by omega
  have e2 : ((((b + tB) % 24).toNat : Nat) : Int) = (b + tB) % 24 := by omega
  have hG1 := fun w' (hb : Below w.heap.size w w') => spec_Guard tv rows T lo hi m true ((a + tA) % 24).toNat sb w' (h.ext hb) hT ⟨m1, m2⟩ (by omega) ⟨d4, d4'⟩
  have hG2 := fun w' (hb : Below w.heap.size w w') => spec_Guard tv rows T lo hi m false ((b + tB) % 24).toNat sa w' (h.ext hb) hT ⟨m1, m2⟩ (by omega) ⟨d3, d3'⟩
  rw [e1] at hG1
  rw [e2] at hG2
  have HM1 := Lib.hid (fun w => spec_Mod (a + tA) w ⟨by omega, by omega⟩)
  have HM2 := Lib.hid (fun w => spec_Mod (b + tB) w ⟨by omega, by omega⟩)
  unfold canB
  simp only [Wtc.cells, Wld.cells, Act1.cells]
  generalize freeB T true ((a + tA) % 24).toNat sb m = f1 at *
  generalize freeB T false ((b + tB) % 24).toNat sa m = f2 at *
  clear e1 e2 hT h
  have hB0 : ∀ A B C : Obj, Below w.heap.size w (((w.alloc A).alloc B).alloc C) := fun A B C => (((Below.refl _ w).alloc (Nat.le_refl _) _).alloc (by simp) _).alloc (by simp; omega) _
  have HB0 := Lib.hid hB0
  have HG1 := Lib.hid hG1
  have HG2 := Lib.hid hG2
  clear hG1 hG2 hB0
  go_enter Try.func81, Try.ntmps81
  go_wp2_with fail
  by_cases hA : tA = 0
  · have hA2 : (tA != 0) = false := by simp; exact hA
    have hA1 : (tA == 0) = true := by simp; exact hA
    have hdA := Lib.hid (decide_eq_true hA)
    clear hA
    go_quiet (first | ((first | (go_at_call 72; skip) | (go_at_call 98; skip)); first | exact Calls.quiet_of_same (Calls.turn (HM1.out _)) | exact quiet2 (Calls.turn (HM1.out _))) | ((first | (go_at_call 101; skip) | (go_at_call 74; skip)); (first | refine Calls.quiet_of_same (Calls.turn (HG1.out _ ?_)) | refine quiet2 (Calls.turn (HG1.out _ ?_))); first | exact below_dN (HB0.out _ _ _) _ | exact below_dN (below_dN (HB0.out _ _ _) _) _))
    go_wp2_with fail
    by_cases hB : tB = 0
    · have hB2 : (tB != 0) = false := by simp; exact hB
      have hB1 : (tB == 0) = true := by simp; exact hB
      have hdB := Lib.hid (decide_eq_true hB)
      clear hB
      go_quiet (first | ((first | (go_at_call 72; skip) | (go_at_call 98; skip)); first | exact Calls.quiet_of_same (Calls.turn (HM2.out _)) | exact quiet2 (Calls.turn (HM2.out _))) | ((first | (go_at_call 101; skip) | (go_at_call 74; skip)); (first | refine Calls.quiet_of_same (Calls.turn (HG2.out _ ?_)) | refine quiet2 (Calls.turn (HG2.out _ ?_))); first | exact below_dN (HB0.out _ _ _) _ | exact below_dN (below_dN (HB0.out _ _ _) _) _))
      go_wp2
      all_goals first
        | contradiction
        | (go_ret
           exact ⟨ret_bool (by have g1 := hdA.out; try have g2 := hdB.out
                               first | rfl | (simp [*]; done) | (simp [*]; intros; omega) | (simp_all; done)), by first | exact below_dN (HB0.out _ _ _) _ | exact below_dN (below_dN (HB0.out _ _ _) _) _⟩)
    · have hB1 : (tB == 0) = false := by simp; exact hB
      have hB2 : (tB != 0) = true := by simp; exact hB
      have hdB := Lib.hid (decide_eq_false hB)
      clear hB
      cases f2
      · go_quiet (first | ((first | (go_at_call 72; skip) | (go_at_call 98; skip)); first | exact Calls.quiet_of_same (Calls.turn (HM2.out _)) | exact quiet2 (Calls.turn (HM2.out _))) | ((first | (go_at_call 101; skip) | (go_at_call 74; skip)); (first | refine Calls.quiet_of_same (Calls.turn (HG2.out _ ?_)) | refine quiet2 (Calls.turn (HG2.out _ ?_))); first | exact below_dN (HB0.out _ _ _) _ | exact below_dN (below_dN (HB0.out _ _ _) _) _))
        go_wp2
        all_goals first
          | contradiction
          | (go_ret
             exact ⟨ret_bool (by have g1 := hdA.out; try have g2 := hdB.out
                                 first | rfl | (simp [*]; done) | (simp [*]; intros; omega) | (simp_all; done)), by first | exact below_dN (HB0.out _ _ _) _ | exact below_dN (below_dN (HB0.out _ _ _) _) _⟩)
      · go_quiet (first | ((first | (go_at_call 72; skip) | (go_at_call 98; skip)); first | exact Calls.quiet_of_same (Calls.turn (HM2.out _)) | exact quiet2 (Calls.turn (HM2.out _))) | ((first | (go_at_call 101; skip) | (go_at_call 74; skip)); (first | refine Calls.quiet_of_same (Calls.turn (HG2.out _ ?_)) | refine quiet2 (Calls.turn (HG2.out _ ?_))); first | exact below_dN (HB0.out _ _ _) _ | exact below_dN (below_dN (HB0.out _ _ _) _) _))
        go_wp2
        all_goals first
          | contradiction
          | (go_ret
             exact ⟨ret_bool (by have g1 := hdA.out; try have g2 := hdB.out
                                 first | rfl | (simp [*]; done) | (simp [*]; intros; omega) | (simp_all; done)), by first | exact below_dN (HB0.out _ _ _) _ | exact below_dN (below_dN (HB0.out _ _ _) _) _⟩)
  · have hA1 : (tA == 0) = false := by simp; exact hA
    have hA2 : (tA != 0) = true := by simp; exact hA
    have hdA := Lib.hid (decide_eq_false hA)
    clear hA
    cases f1
    · go_quiet (first | ((first | (go_at_call 72; skip) | (go_at_call 98; skip)); first | exact Calls.quiet_of_same (Calls.turn (HM1.out _)) | exact quiet2 (Calls.turn (HM1.out _))) | ((first | (go_at_call 101; skip) | (go_at_call 74; skip)); (first | refine Calls.quiet_of_same (Calls.turn (HG1.out _ ?_)) | refine quiet2 (Calls.turn (HG1.out _ ?_))); first | exact below_dN (HB0.out _ _ _) _ | exact below_dN (below_dN (HB0.out _ _ _) _) _))
      go_wp2
      all_goals first
        | contradiction
        | (go_ret
           exact ⟨ret_bool (by have g1 := hdA.out; try have g2 := hdB.out
                               first | rfl | (simp [*]; done) | (simp [*]; intros; omega) | (simp_all; done)), by first | exact below_dN (HB0.out _ _ _) _ | exact below_dN (below_dN (HB0.out _ _ _) _) _⟩)
    · go_quiet (first | ((first | (go_at_call 72; skip) | (go_at_call 98; skip)); first | exact Calls.quiet_of_same (Calls.turn (HM1.out _)) | exact quiet2 (Calls.turn (HM1.out _))) | ((first | (go_at_call 101; skip) | (go_at_call 74; skip)); (first | refine Calls.quiet_of_same (Calls.turn (HG1.out _ ?_)) | refine quiet2 (Calls.turn (HG1.out _ ?_))); first | exact below_dN (HB0.out _ _ _) _ | exact below_dN (below_dN (HB0.out _ _ _) _) _))
      go_wp2_with fail
      by_cases hB : tB = 0
      · have hB2 : (tB != 0) = false := by simp; exact hB
        have hB1 : (tB == 0) = true := by simp; exact hB
        have hdB := Lib.hid (decide_eq_true hB)
        clear hB
        go_quiet (first | ((first | (go_at_call 72; skip) | (go_at_call 98; skip)); first | exact Calls.quiet_of_same (Calls.turn (HM2.out _)) | exact quiet2 (Calls.turn (HM2.out _))) | ((first | (go_at_call 101; skip) | (go_at_call 74; skip)); (first | refine Calls.quiet_of_same (Calls.turn (HG2.out _ ?_)) | refine quiet2 (Calls.turn (HG2.out _ ?_))); first | exact below_dN (HB0.out _ _ _) _ | exact below_dN (below_dN (HB0.out _ _ _) _) _))
        go_wp2
        all_goals first
          | contradiction
          | (go_ret
             exact ⟨ret_bool (by have g1 := hdA.out; try have g2 := hdB.out
                                 first | rfl | (simp [*]; done) | (simp [*]; intros; omega) | (simp_all; done)), by first | exact below_dN (HB0.out _ _ _) _ | exact below_dN (below_dN (HB0.out _ _ _) _) _⟩)
      · have hB1 : (tB == 0) = false := by simp; exact hB
        have hB2 : (tB != 0) = true := by simp; exact hB
        have hdB := Lib.hid (decide_eq_false hB)
        clear hB
        cases f2
        · go_quiet (first | ((first | (go_at_call 72; skip) | (go_at_call 98; skip)); first | exact Calls.quiet_of_same (Calls.turn (HM2.out _)) | exact quiet2 (Calls.turn (HM2.out _))) | ((first | (go_at_call 101; skip) | (go_at_call 74; skip)); (first | refine Calls.quiet_of_same (Calls.turn (HG2.out _ ?_)) | refine quiet2 (Calls.turn (HG2.out _ ?_))); first | exact below_dN (HB0.out _ _ _) _ | exact below_dN (below_dN (HB0.out _ _ _) _) _))
          go_wp2
          all_goals first
            | contradiction
            | (go_ret
               exact ⟨ret_bool (by have g1 := hdA.out; try have g2 := hdB.out
                                   first | rfl | (simp [*]; done) | (simp [*]; intros; omega) | (simp_all; done)), by first | exact below_dN (HB0.out _ _ _) _ | exact below_dN (below_dN (HB0.out _ _ _) _) _⟩)
        · go_quiet (first | ((first | (go_at_call 72; skip) | (go_at_call 98; skip)); first | exact Calls.quiet_of_same (Calls.turn (HM2.out _)) | exact quiet2 (Calls.turn (HM2.out _))) | ((first | (go_at_call 101; skip) | (go_at_call 74; skip)); (first | refine Calls.quiet_of_same (Calls.turn (HG2.out _ ?_)) | refine quiet2 (Calls.turn (HG2.out _ ?_))); first | exact below_dN (HB0.out _ _ _) _ | exact below_dN (below_dN (HB0.out _ _ _) _) _))
          go_wp2
          all_goals first
            | contradiction
            | (go_ret
               exact ⟨ret_bool (by have g1 := hdA.out; try have g2 := hdB.out
                                   first | rfl | (simp [*]; done) | (simp [*]; intros; omega) | (simp_all; done)), by first | exact below_dN (HB0.out _ _ _) _ | exact below_dN (below_dN (HB0.out _ _ _) _) _⟩)
set_option maxRecDepth 100000 in
set_option maxHeartbeats 16000000 in
theorem impl_possible (tv : Value) (rows : List SV) (T : Tab) (lo hi : Nat) (v : Wtc) (x : Wld) (y : Act1) (w : World) (h : TabR lo hi w tv rows T) (hT : TabOk T) (hv : v.ok) (hx : x.in_) (h1 : Trn y.turnA) (h2 : Trn y.turnB) :
    Calls Try.prog 66 #[.agg x.cells.toArray, tv, .agg v.cells.toArray, .agg y.cells.toArray] w fun e w' => e = .returned (.bool (canB T v x y)) ∧ Below w.heap.size w w' := by
  obtain ⟨m, t⟩ := v
  obtain ⟨a, b, sa, sb, ga, gb⟩ := x
  obtain ⟨tA, tB, lA, lB⟩ := y
  obtain ⟨⟨d1, d1'⟩, ⟨d2, d2'⟩, ⟨d3, d3'⟩, ⟨d4, d4'⟩, ⟨d5, d5'⟩, ⟨d6, d6'⟩⟩ := hx
  obtain ⟨⟨m1, m2⟩, ⟨l1, l2⟩⟩ := hv
  unfold Trn at h1 h2
  obtain ⟨t1, t1'⟩ := h1
  obtain ⟨t2, t2'⟩ := h2
  simp only at *
  have hs1 : IntKind.i64.wrap (a + tA) = a + tA := IntWalk.i64_in _ (by omega)
  have hs2 : IntKind.i64.wrap (b + tB) = b + tB := IntWalk.i64_in _ (by omega)
  have e1 : ((((a + tA) % 24).toNat : Nat) : Int) = (a + tA) % 24 := by omega
  have e2 : ((((b + tB) % 24).toNat : Nat) : Int) = (b + tB) % 24 := by omega
  have hG1 := fun w' (hb : Below w.heap.size w w') => impl_clear tv rows T lo hi m true ((a + tA) % 24).toNat sb w' (h.ext hb) hT ⟨m1, m2⟩ (by omega) ⟨d4, d4'⟩
  have hG2 := fun w' (hb : Below w.heap.size w w') => impl_clear tv rows T lo hi m false ((b + tB) % 24).toNat sa w' (h.ext hb) hT ⟨m1, m2⟩ (by omega) ⟨d3, d3'⟩
  rw [e1] at hG1
  rw [e2] at hG2
  have HM1 := Lib.hid (fun w => impl_turned a tA w ⟨by omega, by omega⟩)
  have HM2 := Lib.hid (fun w => impl_turned b tB w ⟨by omega, by omega⟩)
  unfold canB
  simp only [Wtc.cells, Wld.cells, Act1.cells]
  generalize freeB T true ((a + tA) % 24).toNat sb m = f1 at *
  generalize freeB T false ((b + tB) % 24).toNat sa m = f2 at *
  clear e1 e2 hT h
  have hB0 : ∀ A B C : Obj, Below w.heap.size w (((w.alloc A).alloc B).alloc C) := fun A B C => (((Below.refl _ w).alloc (Nat.le_refl _) _).alloc (by simp) _).alloc (by simp; omega) _
  have HB0 := Lib.hid hB0
  have HG1 := Lib.hid hG1
  have HG2 := Lib.hid hG2
  clear hG1 hG2 hB0
  go_enter Try.func66, Try.ntmps66
  go_wp2_with fail
  by_cases hA : tA = 0
  · have hA2 : (tA != 0) = false := by simp; exact hA
    have hA1 : (tA == 0) = true := by simp; exact hA
    have hdA := Lib.hid (decide_eq_true hA)
    clear hA
    go_quiet (first | ((first | (go_at_call 72; skip) | (go_at_call 98; skip)); first | exact Calls.quiet_of_same (Calls.turn (HM1.out _)) | exact quiet2 (Calls.turn (HM1.out _))) | ((first | (go_at_call 101; skip) | (go_at_call 74; skip)); (first | refine Calls.quiet_of_same (Calls.turn (HG1.out _ ?_)) | refine quiet2 (Calls.turn (HG1.out _ ?_))); first | exact below_dN (HB0.out _ _ _) _ | exact below_dN (below_dN (HB0.out _ _ _) _) _))
    go_wp2_with fail
    by_cases hB : tB = 0
    · have hB2 : (tB != 0) = false := by simp; exact hB
      have hB1 : (tB == 0) = true := by simp; exact hB
      have hdB := Lib.hid (decide_eq_true hB)
      clear hB
      go_quiet (first | ((first | (go_at_call 72; skip) | (go_at_call 98; skip)); first | exact Calls.quiet_of_same (Calls.turn (HM2.out _)) | exact quiet2 (Calls.turn (HM2.out _))) | ((first | (go_at_call 101; skip) | (go_at_call 74; skip)); (first | refine Calls.quiet_of_same (Calls.turn (HG2.out _ ?_)) | refine quiet2 (Calls.turn (HG2.out _ ?_))); first | exact below_dN (HB0.out _ _ _) _ | exact below_dN (below_dN (HB0.out _ _ _) _) _))
      go_wp2
      all_goals first
        | contradiction
        | (go_ret
           exact ⟨ret_bool (by have g1 := hdA.out; try have g2 := hdB.out
                               first | rfl | (simp [*]; done) | (simp [*]; intros; omega) | (simp_all; done)), by first | exact below_dN (HB0.out _ _ _) _ | exact below_dN (below_dN (HB0.out _ _ _) _) _⟩)
    · have hB1 : (tB == 0) = false := by simp; exact hB
      have hB2 : (tB != 0) = true := by simp; exact hB
      have hdB := Lib.hid (decide_eq_false hB)
      clear hB
      cases f2
      · go_quiet (first | ((first | (go_at_call 72; skip) | (go_at_call 98; skip)); first | exact Calls.quiet_of_same (Calls.turn (HM2.out _)) | exact quiet2 (Calls.turn (HM2.out _))) | ((first | (go_at_call 101; skip) | (go_at_call 74; skip)); (first | refine Calls.quiet_of_same (Calls.turn (HG2.out _ ?_)) | refine quiet2 (Calls.turn (HG2.out _ ?_))); first | exact below_dN (HB0.out _ _ _) _ | exact below_dN (below_dN (HB0.out _ _ _) _) _))
        go_wp2
        all_goals first
          | contradiction
          | (go_ret
             exact ⟨ret_bool (by have g1 := hdA.out; try have g2 := hdB.out
                                 first | rfl | (simp [*]; done) | (simp [*]; intros; omega) | (simp_all; done)), by first | exact below_dN (HB0.out _ _ _) _ | exact below_dN (below_dN (HB0.out _ _ _) _) _⟩)
      · go_quiet (first | ((first | (go_at_call 72; skip) | (go_at_call 98; skip)); first | exact Calls.quiet_of_same (Calls.turn (HM2.out _)) | exact quiet2 (Calls.turn (HM2.out _))) | ((first | (go_at_call 101; skip) | (go_at_call 74; skip)); (first | refine Calls.quiet_of_same (Calls.turn (HG2.out _ ?_)) | refine quiet2 (Calls.turn (HG2.out _ ?_))); first | exact below_dN (HB0.out _ _ _) _ | exact below_dN (below_dN (HB0.out _ _ _) _) _))
        go_wp2
        all_goals first
          | contradiction
          | (go_ret
             exact ⟨ret_bool (by have g1 := hdA.out; try have g2 := hdB.out
                                 first | rfl | (simp [*]; done) | (simp [*]; intros; omega) | (simp_all; done)), by first | exact below_dN (HB0.out _ _ _) _ | exact below_dN (below_dN (HB0.out _ _ _) _) _⟩)
  · have hA1 : (tA == 0) = false := by simp; exact hA
    have hA2 : (tA != 0) = true := by simp; exact hA
    have hdA := Lib.hid (decide_eq_false hA)
    clear hA
    cases f1
    · go_quiet (first | ((first | (go_at_call 72; skip) | (go_at_call 98; skip)); first | exact Calls.quiet_of_same (Calls.turn (HM1.out _)) | exact quiet2 (Calls.turn (HM1.out _))) | ((first | (go_at_call 101; skip) | (go_at_call 74; skip)); (first | refine Calls.quiet_of_same (Calls.turn (HG1.out _ ?_)) | refine quiet2 (Calls.turn (HG1.out _ ?_))); first | exact below_dN (HB0.out _ _ _) _ | exact below_dN (below_dN (HB0.out _ _ _) _) _))
      go_wp2
      all_goals first
        | contradiction
        | (go_ret
           exact ⟨ret_bool (by have g1 := hdA.out; try have g2 := hdB.out
                               first | rfl | (simp [*]; done) | (simp [*]; intros; omega) | (simp_all; done)), by first | exact below_dN (HB0.out _ _ _) _ | exact below_dN (below_dN (HB0.out _ _ _) _) _⟩)
    · go_quiet (first | ((first | (go_at_call 72; skip) | (go_at_call 98; skip)); first | exact Calls.quiet_of_same (Calls.turn (HM1.out _)) | exact quiet2 (Calls.turn (HM1.out _))) | ((first | (go_at_call 101; skip) | (go_at_call 74; skip)); (first | refine Calls.quiet_of_same (Calls.turn (HG1.out _ ?_)) | refine quiet2 (Calls.turn (HG1.out _ ?_))); first | exact below_dN (HB0.out _ _ _) _ | exact below_dN (below_dN (HB0.out _ _ _) _) _))
      go_wp2_with fail
      by_cases hB : tB = 0
      · have hB2 : (tB != 0) = false := by simp; exact hB
        have hB1 : (tB == 0) = true := by simp; exact hB
        have hdB := Lib.hid (decide_eq_true hB)
        clear hB
        go_quiet (first | ((first | (go_at_call 72; skip) | (go_at_call 98; skip)); first | exact Calls.quiet_of_same (Calls.turn (HM2.out _)) | exact quiet2 (Calls.turn (HM2.out _))) | ((first | (go_at_call 101; skip) | (go_at_call 74; skip)); (first | refine Calls.quiet_of_same (Calls.turn (HG2.out _ ?_)) | refine quiet2 (Calls.turn (HG2.out _ ?_))); first | exact below_dN (HB0.out _ _ _) _ | exact below_dN (below_dN (HB0.out _ _ _) _) _))
        go_wp2
        all_goals first
          | contradiction
          | (go_ret
             exact ⟨ret_bool (by have g1 := hdA.out; try have g2 := hdB.out
                                 first | rfl | (simp [*]; done) | (simp [*]; intros; omega) | (simp_all; done)), by first | exact below_dN (HB0.out _ _ _) _ | exact below_dN (below_dN (HB0.out _ _ _) _) _⟩)
      · have hB1 : (tB == 0) = false := by simp; exact hB
        have hB2 : (tB != 0) = true := by simp; exact hB
        have hdB := Lib.hid (decide_eq_false hB)
        clear hB
        cases f2
        · go_quiet (first | ((first | (go_at_call 72; skip) | (go_at_call 98; skip)); first | exact Calls.quiet_of_same (Calls.turn (HM2.out _)) | exact quiet2 (Calls.turn (HM2.out _))) | ((first | (go_at_call 101; skip) | (go_at_call 74; skip)); (first | refine Calls.quiet_of_same (Calls.turn (HG2.out _ ?_)) | refine quiet2 (Calls.turn (HG2.out _ ?_))); first | exact below_dN (HB0.out _ _ _) _ | exact below_dN (below_dN (HB0.out _ _ _) _) _))
          go_wp2
          all_goals first
            | contradiction
            | (go_ret
               exact ⟨ret_bool (by have g1 := hdA.out; try have g2 := hdB.out
                                   first | rfl | (simp [*]; done) | (simp [*]; intros; omega) | (simp_all; done)), by first | exact below_dN (HB0.out _ _ _) _ | exact below_dN (below_dN (HB0.out _ _ _) _) _⟩)
        · go_quiet (first | ((first | (go_at_call 72; skip) | (go_at_call 98; skip)); first | exact Calls.quiet_of_same (Calls.turn (HM2.out _)) | exact quiet2 (Calls.turn (HM2.out _))) | ((first | (go_at_call 101; skip) | (go_at_call 74; skip)); (first | refine Calls.quiet_of_same (Calls.turn (HG2.out _ ?_)) | refine quiet2 (Calls.turn (HG2.out _ ?_))); first | exact below_dN (HB0.out _ _ _) _ | exact below_dN (below_dN (HB0.out _ _ _) _) _))
          go_wp2
          all_goals first
            | contradiction
            | (go_ret
               exact ⟨ret_bool (by have g1 := hdA.out; try have g2 := hdB.out
                                   first | rfl | (simp [*]; done) | (simp [*]; intros; omega) | (simp_all; done)), by first | exact below_dN (HB0.out _ _ _) _ | exact below_dN (below_dN (HB0.out _ _ _) _) _⟩)
end Go.Proofs.Ytmkhapgkiecmaaa
