/- NextWorld, in both packages. -/
import Derived.Test.YtmkhapgkiecmaaaTabG
import Derived.Handy
namespace Go.Proofs.Ytmkhapgkiecmaaa
open Go.RowKit
def TrnsOk (y : Act1) : Prop := Trn y.turnA ∧ Trn y.turnB
instance (y : Act1) : Decidable (TrnsOk y) := by unfold TrnsOk; infer_instance
theorem trns_cases (y : Act1) : (¬ TrnsOk y ∧ ¬ (-1 ≤ y.turnA ∧ y.turnA ≤ 1)) ∨ (¬ TrnsOk y ∧ -1 ≤ y.turnA ∧ y.turnA ≤ 1 ∧ ¬ (-1 ≤ y.turnB ∧ y.turnB ≤ 1)) ∨ (TrnsOk y ∧ -1 ≤ y.turnA ∧ y.turnA ≤ 1 ∧ -1 ≤ y.turnB ∧ y.turnB ≤ 1) := by
  unfold TrnsOk Trn
  omega
theorem impl_turnsOk (y : Act1) (w : World) : Calls Try.prog 65 #[.agg y.cells.toArray] w fun e w' => e = .returned (.bool (decide (TrnsOk y))) ∧ Below w.heap.size w w' := by
  have hc := trns_cases y
  obtain ⟨tA, tB, lA, lB⟩ := y
  simp only [Act1.cells]
  rcases hc with ⟨h0, h1⟩ | ⟨h0, h1, h2, h3⟩ | ⟨h0, h1, h2, h3, h4⟩
  all_goals
    first | rw [decide_eq_true h0] | rw [decide_eq_false h0]
    clear h0
    try dsimp only at *
    go_enter Try.func65, Try.ntmps65
    go_wp2_with (first | (go_at_call 80; first | (refine (spec_Trn_t _ _ (by omega) (by omega)).mono ?_; rintro e w' ⟨rfl, rfl⟩) | (refine (spec_Trn_f _ _ (by omega)).mono ?_; rintro e w' ⟨rfl, rfl⟩)) | (go_at_call 97; first | (refine (impl_isTurn_t _ _ (by omega) (by omega)).mono ?_; rintro e w' ⟨rfl, rfl⟩) | (refine (impl_isTurn_f _ _ (by omega)).mono ?_; rintro e w' ⟨rfl, rfl⟩)))
    go_ret
    exact ⟨rfl, (Below.refl _ _).alloc (Nat.le_refl _) _⟩
theorem nextW_code {T : Tab} {v : Wtc} {x : Wld} {y : Act1} (h : codeW T v x ≠ 0) : nextW T v x y = (zeroW, codeW T v x) := if_neg h
theorem nextW_2 {T : Tab} {v : Wtc} {x : Wld} {y : Act1} (h : codeW T v x = 0) (h2 : ¬ TrnsOk y) : nextW T v x y = (zeroW, 2) := by unfold nextW; rw [if_pos h]; exact if_neg h2
theorem nextW_6 {T : Tab} {v : Wtc} {x : Wld} {y : Act1} (h : codeW T v x = 0) (h2 : TrnsOk y) (h3 : canB T v x y = false) : nextW T v x y = (zeroW, 6) := by unfold nextW; rw [if_pos h]; exact (if_pos h2).trans (if_neg (by simp [h3]))
theorem nextW_0 {T : Tab} {v : Wtc} {x : Wld} {y : Act1} (h : codeW T v x = 0) (h2 : TrnsOk y) (h3 : canB T v x y = true) : nextW T v x y = (doW x y, 0) := by unfold nextW; rw [if_pos h]; exact (if_pos h2).trans (if_pos h3)

set_option maxRecDepth 100000 in
set_option maxHeartbeats 8000000 in
theorem spec_NextWorld (tv : Value) (rows : List SV) (T : Tab) (lo hi : Nat) (v : Wtc) (x : Wld) (y : Act1) (w : World) (h : TabR lo hi w tv rows T) :
    Calls Try.prog 37 #[tv, .agg v.cells.toArray, .agg x.cells.toArray, .agg y.cells.toArray] w fun e w' => e = .returned (.tuple #[.agg (nextW T v x y).1.cells.toArray, .int .i64 (nextW T v x y).2]) ∧ Below w.heap.size w w' := by
  have hC := fun w' (hb : Below w.heap.size w w') => spec_Code tv rows T lo hi v x w' (h.ext hb)
  have hB0 : ∀ A B C D : Obj, Below w.heap.size w ((((w.alloc A).alloc B).alloc C).alloc D) := fun A B C D => ((((Below.refl _ w).alloc (Nat.le_refl _) _).alloc (by simp) _).alloc (by simp; omega) _).alloc (by simp; omega) _
  have HB0 := Lib.hid hB0
  clear hB0
  rcases codeW_cases T v x with hc | hc | ⟨hc, hT, hx⟩
  · rw [nextW_code (show codeW T v x ≠ 0 by omega), hc]
    rw [hc] at hC
    clear h hc
    obtain ⟨m, t⟩ := v
    obtain ⟨a, b, sa, sb, ga, gb⟩ := x
    obtain ⟨tA, tB, lA, lB⟩ := y
    simp only [Wtc.cells, Wld.cells, Act1.cells] at *
    have HC := Lib.hid hC
    clear hC
    go_enter Try.func37, Try.ntmps37
    go_wp2_with (first | (go_at_call 79; refine (HC.out _ (HB0.out _ _ _ _)).mono ?_; rintro e w2 ⟨rfl, hb2⟩; have q2 := (bcell hb2).1; have f2 := (bcell hb2).2; have za2 : w.heap.size < w2.heap.size := Nat.lt_of_lt_of_le (by simp <;> omega) (hb2).size; have zb2 : w.heap.size + 1 < w2.heap.size := Nat.lt_of_lt_of_le (by simp <;> omega) (hb2).size; have zc2 : w.heap.size + 1 + 1 < w2.heap.size := Nat.lt_of_lt_of_le (by simp <;> omega) (hb2).size; have zd2 : w.heap.size + 1 + 1 + 1 < w2.heap.size := Nat.lt_of_lt_of_le (by simp <;> omega) (hb2).size; have B2 : Below w.heap.size w w2 := (HB0.out _ _ _ _).trans (hb2.mono (by simp <;> omega))))
    exact bodyPost_ret (v := .tuple #[.agg (zeroW).cells.toArray, .int .i64 8]) (by simp [results, Try.results37, go_sem, q2, zd2, Wld.cells, zeroW, doW]) rfl ⟨by simp [Wld.cells], by go_grown⟩
  · rw [nextW_code (show codeW T v x ≠ 0 by omega), hc]
    rw [hc] at hC
    clear h hc
    obtain ⟨m, t⟩ := v
    obtain ⟨a, b, sa, sb, ga, gb⟩ := x
    obtain ⟨tA, tB, lA, lB⟩ := y
    simp only [Wtc.cells, Wld.cells, Act1.cells] at *
    have HC := Lib.hid hC
    clear hC
    go_enter Try.func37, Try.ntmps37
    go_wp2_with (first | (go_at_call 79; refine (HC.out _ (HB0.out _ _ _ _)).mono ?_; rintro e w2 ⟨rfl, hb2⟩; have q2 := (bcell hb2).1; have f2 := (bcell hb2).2; have za2 : w.heap.size < w2.heap.size := Nat.lt_of_lt_of_le (by simp <;> omega) (hb2).size; have zb2 : w.heap.size + 1 < w2.heap.size := Nat.lt_of_lt_of_le (by simp <;> omega) (hb2).size; have zc2 : w.heap.size + 1 + 1 < w2.heap.size := Nat.lt_of_lt_of_le (by simp <;> omega) (hb2).size; have zd2 : w.heap.size + 1 + 1 + 1 < w2.heap.size := Nat.lt_of_lt_of_le (by simp <;> omega) (hb2).size; have B2 : Below w.heap.size w w2 := (HB0.out _ _ _ _).trans (hb2.mono (by simp <;> omega))))
    exact bodyPost_ret (v := .tuple #[.agg (zeroW).cells.toArray, .int .i64 1]) (by simp [results, Try.results37, go_sem, q2, zd2, Wld.cells, zeroW, doW]) rfl ⟨by simp [Wld.cells], by go_grown⟩
  · have hin := hx.in_
    by_cases hty : TrnsOk y
    case neg =>
      rw [nextW_2 hc hty]
      rw [hc] at hC
      have htc := trns_cases y
      have HK := Lib.hid (fun w => impl_turnsOk y w)
      clear h hc hx hin hT
      obtain ⟨m, t⟩ := v
      obtain ⟨a, b, sa, sb, ga, gb⟩ := x
      obtain ⟨tA, tB, lA, lB⟩ := y
      simp only [Wtc.cells, Wld.cells, Act1.cells] at *
      have HC := Lib.hid hC
      clear hC
      rw [decide_eq_false hty] at HK
      have Hty := Lib.hid hty
      clear hty
      rcases htc with ⟨h0, h1⟩ | ⟨h0, h1, h2, h3⟩ | ⟨h0, h1, h2, h3, h4⟩
      · clear h0
        go_enter Try.func37, Try.ntmps37
        go_wp2_with (first | (go_at_call 79; refine (HC.out _ (HB0.out _ _ _ _)).mono ?_; rintro e w2 ⟨rfl, hb2⟩; have q2 := (bcell hb2).1; have f2 := (bcell hb2).2; have za2 : w.heap.size < w2.heap.size := Nat.lt_of_lt_of_le (by simp <;> omega) (hb2).size; have zb2 : w.heap.size + 1 < w2.heap.size := Nat.lt_of_lt_of_le (by simp <;> omega) (hb2).size; have zc2 : w.heap.size + 1 + 1 < w2.heap.size := Nat.lt_of_lt_of_le (by simp <;> omega) (hb2).size; have zd2 : w.heap.size + 1 + 1 + 1 < w2.heap.size := Nat.lt_of_lt_of_le (by simp <;> omega) (hb2).size; have B2 : Below w.heap.size w w2 := (HB0.out _ _ _ _).trans (hb2.mono (by simp <;> omega))) | (first | (go_at_call 80; first | (refine (spec_Trn_t _ _ (by omega) (by omega)).mono ?_; rintro e w' ⟨rfl, rfl⟩) | (refine (spec_Trn_f _ _ (by omega)).mono ?_; rintro e w' ⟨rfl, rfl⟩)) | (go_at_call 97; first | (refine (impl_isTurn_t _ _ (by omega) (by omega)).mono ?_; rintro e w' ⟨rfl, rfl⟩) | (refine (impl_isTurn_f _ _ (by omega)).mono ?_; rintro e w' ⟨rfl, rfl⟩))))
        exact bodyPost_ret (v := .tuple #[.agg (zeroW).cells.toArray, .int .i64 2]) (by simp [results, Try.results37, go_sem, q2, zd2, q2, zd2, Wld.cells, zeroW, doW]) rfl ⟨by simp [Wld.cells], by go_grown⟩
      · clear h0
        go_enter Try.func37, Try.ntmps37
        go_wp2_with (first | (go_at_call 79; refine (HC.out _ (HB0.out _ _ _ _)).mono ?_; rintro e w2 ⟨rfl, hb2⟩; have q2 := (bcell hb2).1; have f2 := (bcell hb2).2; have za2 : w.heap.size < w2.heap.size := Nat.lt_of_lt_of_le (by simp <;> omega) (hb2).size; have zb2 : w.heap.size + 1 < w2.heap.size := Nat.lt_of_lt_of_le (by simp <;> omega) (hb2).size; have zc2 : w.heap.size + 1 + 1 < w2.heap.size := Nat.lt_of_lt_of_le (by simp <;> omega) (hb2).size; have zd2 : w.heap.size + 1 + 1 + 1 < w2.heap.size := Nat.lt_of_lt_of_le (by simp <;> omega) (hb2).size; have B2 : Below w.heap.size w w2 := (HB0.out _ _ _ _).trans (hb2.mono (by simp <;> omega))) | (first | (go_at_call 80; first | (refine (spec_Trn_t _ _ (by omega) (by omega)).mono ?_; rintro e w' ⟨rfl, rfl⟩) | (refine (spec_Trn_f _ _ (by omega)).mono ?_; rintro e w' ⟨rfl, rfl⟩)) | (go_at_call 97; first | (refine (impl_isTurn_t _ _ (by omega) (by omega)).mono ?_; rintro e w' ⟨rfl, rfl⟩) | (refine (impl_isTurn_f _ _ (by omega)).mono ?_; rintro e w' ⟨rfl, rfl⟩))))
        exact bodyPost_ret (v := .tuple #[.agg (zeroW).cells.toArray, .int .i64 2]) (by simp [results, Try.results37, go_sem, q2, zd2, q2, zd2, Wld.cells, zeroW, doW]) rfl ⟨by simp [Wld.cells], by go_grown⟩
      · exact absurd h0 Hty.out
    case pos =>
      have HK := Lib.hid (fun w => impl_turnsOk y w)
      have hcan := fun w' (hb : Below w.heap.size w w') => spec_Can tv rows T lo hi v x y w' (h.ext hb) hT hx.1 hin hty.1 hty.2
      have hdo := fun w => spec_Do x y w hin hty.1 hty.2
      rw [decide_eq_true hty] at HK
      rw [hc] at hC
      obtain ⟨⟨h1, h2⟩, ⟨h3, h4⟩⟩ := hty
      cases hcb : canB T v x y
      · rw [nextW_6 hc ⟨⟨h1, h2⟩, ⟨h3, h4⟩⟩ hcb]
        rw [hcb] at hcan
        clear h hc hx hin hT hdo hcb
        obtain ⟨m, t⟩ := v
        obtain ⟨a, b, sa, sb, ga, gb⟩ := x
        obtain ⟨tA, tB, lA, lB⟩ := y
        simp only [Wtc.cells, Wld.cells, Act1.cells] at *
        have HC := Lib.hid hC
        have HCan := Lib.hid hcan
        clear hC hcan
        go_enter Try.func37, Try.ntmps37
        go_wp2_with (first | (go_at_call 79; refine (HC.out _ (HB0.out _ _ _ _)).mono ?_; rintro e w2 ⟨rfl, hb2⟩; have q2 := (bcell hb2).1; have f2 := (bcell hb2).2; have za2 : w.heap.size < w2.heap.size := Nat.lt_of_lt_of_le (by simp <;> omega) (hb2).size; have zb2 : w.heap.size + 1 < w2.heap.size := Nat.lt_of_lt_of_le (by simp <;> omega) (hb2).size; have zc2 : w.heap.size + 1 + 1 < w2.heap.size := Nat.lt_of_lt_of_le (by simp <;> omega) (hb2).size; have zd2 : w.heap.size + 1 + 1 + 1 < w2.heap.size := Nat.lt_of_lt_of_le (by simp <;> omega) (hb2).size; have B2 : Below w.heap.size w w2 := (HB0.out _ _ _ _).trans (hb2.mono (by simp <;> omega))) | (first | (go_at_call 80; first | (refine (spec_Trn_t _ _ (by omega) (by omega)).mono ?_; rintro e w' ⟨rfl, rfl⟩) | (refine (spec_Trn_f _ _ (by omega)).mono ?_; rintro e w' ⟨rfl, rfl⟩)) | (go_at_call 97; first | (refine (impl_isTurn_t _ _ (by omega) (by omega)).mono ?_; rintro e w' ⟨rfl, rfl⟩) | (refine (impl_isTurn_f _ _ (by omega)).mono ?_; rintro e w' ⟨rfl, rfl⟩))) | (go_at_call 81; refine (HCan.out _ B2).mono ?_; rintro e w4 ⟨rfl, hb4⟩; have q4 := (bcell hb4).1; have f4 := (bcell hb4).2; have za4 : w.heap.size < w4.heap.size := Nat.lt_of_lt_of_le za2 (hb4).size; have zb4 : w.heap.size + 1 < w4.heap.size := Nat.lt_of_lt_of_le zb2 (hb4).size; have zc4 : w.heap.size + 1 + 1 < w4.heap.size := Nat.lt_of_lt_of_le zc2 (hb4).size; have zd4 : w.heap.size + 1 + 1 + 1 < w4.heap.size := Nat.lt_of_lt_of_le zd2 (hb4).size; have B4 := B2.trans ((hb4).mono B2.size)))
        exact bodyPost_ret (v := .tuple #[.agg (zeroW).cells.toArray, .int .i64 6]) (by simp [results, Try.results37, go_sem, q4, zd4, q2, zd2, q2, zd2, Wld.cells, zeroW, doW]) rfl ⟨by simp [Wld.cells], by go_grown⟩
      · rw [nextW_0 hc ⟨⟨h1, h2⟩, ⟨h3, h4⟩⟩ hcb]
        rw [hcb] at hcan
        clear h hc hx hin hT hcb
        obtain ⟨m, t⟩ := v
        obtain ⟨a, b, sa, sb, ga, gb⟩ := x
        obtain ⟨tA, tB, lA, lB⟩ := y
        simp only [Wtc.cells, Wld.cells, Act1.cells] at *
        simp only [doW] at *
        generalize (a + tA) % 24 = na at *
        generalize (b + tB) % 24 = nb at *
        generalize (if lA = true then sa else na) = nsa at *
        generalize (if lB = true then sb else nb) = nsb at *
        generalize (if lA = true then ga + 1 else 0) = nga at *
        generalize (if lB = true then gb + 1 else 0) = ngb at *
        have HC := Lib.hid hC
        have HCan := Lib.hid hcan
        have HDo := Lib.hid hdo
        clear hC hcan hdo
        go_enter Try.func37, Try.ntmps37
        go_wp2_with (first | (go_at_call 79; refine (HC.out _ (HB0.out _ _ _ _)).mono ?_; rintro e w2 ⟨rfl, hb2⟩; have q2 := (bcell hb2).1; have f2 := (bcell hb2).2; have za2 : w.heap.size < w2.heap.size := Nat.lt_of_lt_of_le (by simp <;> omega) (hb2).size; have zb2 : w.heap.size + 1 < w2.heap.size := Nat.lt_of_lt_of_le (by simp <;> omega) (hb2).size; have zc2 : w.heap.size + 1 + 1 < w2.heap.size := Nat.lt_of_lt_of_le (by simp <;> omega) (hb2).size; have zd2 : w.heap.size + 1 + 1 + 1 < w2.heap.size := Nat.lt_of_lt_of_le (by simp <;> omega) (hb2).size; have B2 : Below w.heap.size w w2 := (HB0.out _ _ _ _).trans (hb2.mono (by simp <;> omega))) | (first | (go_at_call 80; first | (refine (spec_Trn_t _ _ (by omega) (by omega)).mono ?_; rintro e w' ⟨rfl, rfl⟩) | (refine (spec_Trn_f _ _ (by omega)).mono ?_; rintro e w' ⟨rfl, rfl⟩)) | (go_at_call 97; first | (refine (impl_isTurn_t _ _ (by omega) (by omega)).mono ?_; rintro e w' ⟨rfl, rfl⟩) | (refine (impl_isTurn_f _ _ (by omega)).mono ?_; rintro e w' ⟨rfl, rfl⟩))) | (go_at_call 81; refine (HCan.out _ B2).mono ?_; rintro e w4 ⟨rfl, hb4⟩; have q4 := (bcell hb4).1; have f4 := (bcell hb4).2; have za4 : w.heap.size < w4.heap.size := Nat.lt_of_lt_of_le za2 (hb4).size; have zb4 : w.heap.size + 1 < w4.heap.size := Nat.lt_of_lt_of_le zb2 (hb4).size; have zc4 : w.heap.size + 1 + 1 < w4.heap.size := Nat.lt_of_lt_of_le zc2 (hb4).size; have zd4 : w.heap.size + 1 + 1 + 1 < w4.heap.size := Nat.lt_of_lt_of_le zd2 (hb4).size; have B4 := B2.trans ((hb4).mono B2.size)) | (go_at_call 82; refine (HDo.out _).mono ?_; rintro e w5 ⟨rfl, hb5⟩; have q5 := (bcell hb5).1; have f5 := (bcell hb5).2; have za5 : w.heap.size < w5.heap.size := Nat.lt_of_lt_of_le za4 (hb5).size; have zb5 : w.heap.size + 1 < w5.heap.size := Nat.lt_of_lt_of_le zb4 (hb5).size; have zc5 : w.heap.size + 1 + 1 < w5.heap.size := Nat.lt_of_lt_of_le zc4 (hb5).size; have zd5 : w.heap.size + 1 + 1 + 1 < w5.heap.size := Nat.lt_of_lt_of_le zd4 (hb5).size; have B5 := B4.trans ((hb5).mono B4.size)))
        exact bodyPost_ret (v := .tuple #[.agg ((⟨na, nb, nsa, nsb, nga, ngb⟩ : Wld)).cells.toArray, .int .i64 0]) (by simp [results, Try.results37, go_sem, q5, zd5, q4, zd4, q2, zd2, q2, zd2, Wld.cells, zeroW, doW]) rfl ⟨by simp [Wld.cells], by go_grown⟩
set_option maxRecDepth 100000 in
set_option maxHeartbeats 8000000 in
theorem impl_NextWorld (tv : Value) (rows : List SV) (T : Tab) (lo hi : Nat) (v : Wtc) (x : Wld) (y : Act1) (w : World) (h : TabR lo hi w tv rows T) :
    Calls Try.prog 27 #[tv, .agg v.cells.toArray, .agg x.cells.toArray, .agg y.cells.toArray] w fun e w' => e = .returned (.tuple #[.agg (nextW T v x y).1.cells.toArray, .int .i64 (nextW T v x y).2]) ∧ Below w.heap.size w w' := by
  have hC := fun w' (hb : Below w.heap.size w w') => impl_Code tv rows T lo hi v x w' (h.ext hb)
  have hB0 : ∀ A B C D : Obj, Below w.heap.size w ((((w.alloc A).alloc B).alloc C).alloc D) := fun A B C D => ((((Below.refl _ w).alloc (Nat.le_refl _) _).alloc (by simp) _).alloc (by simp; omega) _).alloc (by simp; omega) _
  have HB0 := Lib.hid hB0
  clear hB0
  rcases codeW_cases T v x with hc | hc | ⟨hc, hT, hx⟩
  · rw [nextW_code (show codeW T v x ≠ 0 by omega), hc]
    rw [hc] at hC
    clear h hc
    obtain ⟨m, t⟩ := v
    obtain ⟨a, b, sa, sb, ga, gb⟩ := x
    obtain ⟨tA, tB, lA, lB⟩ := y
    simp only [Wtc.cells, Wld.cells, Act1.cells] at *
    have HC := Lib.hid hC
    clear hC
    go_enter Try.func27, Try.ntmps27
    go_wp2_with (first | (go_at_call 63; refine (HC.out _ (HB0.out _ _ _ _)).mono ?_; rintro e w2 ⟨rfl, hb2⟩; have q2 := (bcell hb2).1; have f2 := (bcell hb2).2; have za2 : w.heap.size < w2.heap.size := Nat.lt_of_lt_of_le (by simp <;> omega) (hb2).size; have zb2 : w.heap.size + 1 < w2.heap.size := Nat.lt_of_lt_of_le (by simp <;> omega) (hb2).size; have zc2 : w.heap.size + 1 + 1 < w2.heap.size := Nat.lt_of_lt_of_le (by simp <;> omega) (hb2).size; have zd2 : w.heap.size + 1 + 1 + 1 < w2.heap.size := Nat.lt_of_lt_of_le (by simp <;> omega) (hb2).size; have B2 : Below w.heap.size w w2 := (HB0.out _ _ _ _).trans (hb2.mono (by simp <;> omega))))
    exact bodyPost_ret (v := .tuple #[.agg (zeroW).cells.toArray, .int .i64 8]) (by simp [results, Try.results27, go_sem, q2, zd2, Wld.cells, zeroW, doW]) rfl ⟨by simp [Wld.cells], by go_grown⟩
  · rw [nextW_code (show codeW T v x ≠ 0 by omega), hc]
    rw [hc] at hC
    clear h hc
    obtain ⟨m, t⟩ := v
    obtain ⟨a, b, sa, sb, ga, gb⟩ := x
    obtain ⟨tA, tB, lA, lB⟩ := y
    simp only [Wtc.cells, Wld.cells, Act1.cells] at *
    have HC := Lib.hid hC
    clear hC
    go_enter Try.func27, Try.ntmps27
    go_wp2_with (first | (go_at_call 63; refine (HC.out _ (HB0.out _ _ _ _)).mono ?_; rintro e w2 ⟨rfl, hb2⟩; have q2 := (bcell hb2).1; have f2 := (bcell hb2).2; have za2 : w.heap.size < w2.heap.size := Nat.lt_of_lt_of_le (by simp <;> omega) (hb2).size; have zb2 : w.heap.size + 1 < w2.heap.size := Nat.lt_of_lt_of_le (by simp <;> omega) (hb2).size; have zc2 : w.heap.size + 1 + 1 < w2.heap.size := Nat.lt_of_lt_of_le (by simp <;> omega) (hb2).size; have zd2 : w.heap.size + 1 + 1 + 1 < w2.heap.size := Nat.lt_of_lt_of_le (by simp <;> omega) (hb2).size; have B2 : Below w.heap.size w w2 := (HB0.out _ _ _ _).trans (hb2.mono (by simp <;> omega))))
    exact bodyPost_ret (v := .tuple #[.agg (zeroW).cells.toArray, .int .i64 1]) (by simp [results, Try.results27, go_sem, q2, zd2, Wld.cells, zeroW, doW]) rfl ⟨by simp [Wld.cells], by go_grown⟩
  · have hin := hx.in_
    by_cases hty : TrnsOk y
    case neg =>
      rw [nextW_2 hc hty]
      rw [hc] at hC
      have htc := trns_cases y
      have HK := Lib.hid (fun w => impl_turnsOk y w)
      clear h hc hx hin hT
      obtain ⟨m, t⟩ := v
      obtain ⟨a, b, sa, sb, ga, gb⟩ := x
      obtain ⟨tA, tB, lA, lB⟩ := y
      simp only [Wtc.cells, Wld.cells, Act1.cells] at *
      have HC := Lib.hid hC
      clear hC
      rw [decide_eq_false hty] at HK
      have Hty := Lib.hid hty
      clear hty
      rcases htc with ⟨h0, h1⟩ | ⟨h0, h1, h2, h3⟩ | ⟨h0, h1, h2, h3, h4⟩
      · clear h0
        go_enter Try.func27, Try.ntmps27
        go_wp2_with (first | (go_at_call 63; refine (HC.out _ (HB0.out _ _ _ _)).mono ?_; rintro e w2 ⟨rfl, hb2⟩; have q2 := (bcell hb2).1; have f2 := (bcell hb2).2; have za2 : w.heap.size < w2.heap.size := Nat.lt_of_lt_of_le (by simp <;> omega) (hb2).size; have zb2 : w.heap.size + 1 < w2.heap.size := Nat.lt_of_lt_of_le (by simp <;> omega) (hb2).size; have zc2 : w.heap.size + 1 + 1 < w2.heap.size := Nat.lt_of_lt_of_le (by simp <;> omega) (hb2).size; have zd2 : w.heap.size + 1 + 1 + 1 < w2.heap.size := Nat.lt_of_lt_of_le (by simp <;> omega) (hb2).size; have B2 : Below w.heap.size w w2 := (HB0.out _ _ _ _).trans (hb2.mono (by simp <;> omega))) | (go_at_call 65; refine (HK.out _).mono ?_; rintro e w3 ⟨rfl, hb3⟩; have q3 := (bcell hb3).1; have f3 := (bcell hb3).2; have za3 : w.heap.size < w3.heap.size := Nat.lt_of_lt_of_le za2 (hb3).size; have zb3 : w.heap.size + 1 < w3.heap.size := Nat.lt_of_lt_of_le zb2 (hb3).size; have zc3 : w.heap.size + 1 + 1 < w3.heap.size := Nat.lt_of_lt_of_le zc2 (hb3).size; have zd3 : w.heap.size + 1 + 1 + 1 < w3.heap.size := Nat.lt_of_lt_of_le zd2 (hb3).size; have B3 := B2.trans ((hb3).mono B2.size)))
        exact bodyPost_ret (v := .tuple #[.agg (zeroW).cells.toArray, .int .i64 2]) (by simp [results, Try.results27, go_sem, q3, zd3, q2, zd2, Wld.cells, zeroW, doW]) rfl ⟨by simp [Wld.cells], by go_grown⟩
      · clear h0
        go_enter Try.func27, Try.ntmps27
        go_wp2_with (first | (go_at_call 63; refine (HC.out _ (HB0.out _ _ _ _)).mono ?_; rintro e w2 ⟨rfl, hb2⟩; have q2 := (bcell hb2).1; have f2 := (bcell hb2).2; have za2 : w.heap.size < w2.heap.size := Nat.lt_of_lt_of_le (by simp <;> omega) (hb2).size; have zb2 : w.heap.size + 1 < w2.heap.size := Nat.lt_of_lt_of_le (by simp <;> omega) (hb2).size; have zc2 : w.heap.size + 1 + 1 < w2.heap.size := Nat.lt_of_lt_of_le (by simp <;> omega) (hb2).size; have zd2 : w.heap.size + 1 + 1 + 1 < w2.heap.size := Nat.lt_of_lt_of_le (by simp <;> omega) (hb2).size; have B2 : Below w.heap.size w w2 := (HB0.out _ _ _ _).trans (hb2.mono (by simp <;> omega))) | (go_at_call 65; refine (HK.out _).mono ?_; rintro e w3 ⟨rfl, hb3⟩; have q3 := (bcell hb3).1; have f3 := (bcell hb3).2; have za3 : w.heap.size < w3.heap.size := Nat.lt_of_lt_of_le za2 (hb3).size; have zb3 : w.heap.size + 1 < w3.heap.size := Nat.lt_of_lt_of_le zb2 (hb3).size; have zc3 : w.heap.size + 1 + 1 < w3.heap.size := Nat.lt_of_lt_of_le zc2 (hb3).size; have zd3 : w.heap.size + 1 + 1 + 1 < w3.heap.size := Nat.lt_of_lt_of_le zd2 (hb3).size; have B3 := B2.trans ((hb3).mono B2.size)))
        exact bodyPost_ret (v := .tuple #[.agg (zeroW).cells.toArray, .int .i64 2]) (by simp [results, Try.results27, go_sem, q3, zd3, q2, zd2, Wld.cells, zeroW, doW]) rfl ⟨by simp [Wld.cells], by go_grown⟩
      · exact absurd h0 Hty.out
    case pos =>
      have HK := Lib.hid (fun w => impl_turnsOk y w)
      have hcan := fun w' (hb : Below w.heap.size w w') => impl_possible tv rows T lo hi v x y w' (h.ext hb) hT hx.1 hin hty.1 hty.2
      have hdo := fun w => impl_after x y w hin hty.1 hty.2
      rw [decide_eq_true hty] at HK
      rw [hc] at hC
      obtain ⟨⟨h1, h2⟩, ⟨h3, h4⟩⟩ := hty
      cases hcb : canB T v x y
      · rw [nextW_6 hc ⟨⟨h1, h2⟩, ⟨h3, h4⟩⟩ hcb]
        rw [hcb] at hcan
        clear h hc hx hin hT hdo hcb
        obtain ⟨m, t⟩ := v
        obtain ⟨a, b, sa, sb, ga, gb⟩ := x
        obtain ⟨tA, tB, lA, lB⟩ := y
        simp only [Wtc.cells, Wld.cells, Act1.cells] at *
        have HC := Lib.hid hC
        have HCan := Lib.hid hcan
        clear hC hcan
        go_enter Try.func27, Try.ntmps27
        go_wp2_with (first | (go_at_call 63; refine (HC.out _ (HB0.out _ _ _ _)).mono ?_; rintro e w2 ⟨rfl, hb2⟩; have q2 := (bcell hb2).1; have f2 := (bcell hb2).2; have za2 : w.heap.size < w2.heap.size := Nat.lt_of_lt_of_le (by simp <;> omega) (hb2).size; have zb2 : w.heap.size + 1 < w2.heap.size := Nat.lt_of_lt_of_le (by simp <;> omega) (hb2).size; have zc2 : w.heap.size + 1 + 1 < w2.heap.size := Nat.lt_of_lt_of_le (by simp <;> omega) (hb2).size; have zd2 : w.heap.size + 1 + 1 + 1 < w2.heap.size := Nat.lt_of_lt_of_le (by simp <;> omega) (hb2).size; have B2 : Below w.heap.size w w2 := (HB0.out _ _ _ _).trans (hb2.mono (by simp <;> omega))) | (go_at_call 65; refine (HK.out _).mono ?_; rintro e w3 ⟨rfl, hb3⟩; have q3 := (bcell hb3).1; have f3 := (bcell hb3).2; have za3 : w.heap.size < w3.heap.size := Nat.lt_of_lt_of_le za2 (hb3).size; have zb3 : w.heap.size + 1 < w3.heap.size := Nat.lt_of_lt_of_le zb2 (hb3).size; have zc3 : w.heap.size + 1 + 1 < w3.heap.size := Nat.lt_of_lt_of_le zc2 (hb3).size; have zd3 : w.heap.size + 1 + 1 + 1 < w3.heap.size := Nat.lt_of_lt_of_le zd2 (hb3).size; have B3 := B2.trans ((hb3).mono B2.size)) | (go_at_call 66; refine (HCan.out _ B3).mono ?_; rintro e w4 ⟨rfl, hb4⟩; have q4 := (bcell hb4).1; have f4 := (bcell hb4).2; have za4 : w.heap.size < w4.heap.size := Nat.lt_of_lt_of_le za3 (hb4).size; have zb4 : w.heap.size + 1 < w4.heap.size := Nat.lt_of_lt_of_le zb3 (hb4).size; have zc4 : w.heap.size + 1 + 1 < w4.heap.size := Nat.lt_of_lt_of_le zc3 (hb4).size; have zd4 : w.heap.size + 1 + 1 + 1 < w4.heap.size := Nat.lt_of_lt_of_le zd3 (hb4).size; have B4 := B3.trans ((hb4).mono B3.size)))
        exact bodyPost_ret (v := .tuple #[.agg (zeroW).cells.toArray, .int .i64 6]) (by simp [results, Try.results27, go_sem, q4, zd4, q3, zd3, q2, zd2, Wld.cells, zeroW, doW]) rfl ⟨by simp [Wld.cells], by go_grown⟩
      · rw [nextW_0 hc ⟨⟨h1, h2⟩, ⟨h3, h4⟩⟩ hcb]
        rw [hcb] at hcan
        clear h hc hx hin hT hcb
        obtain ⟨m, t⟩ := v
        obtain ⟨a, b, sa, sb, ga, gb⟩ := x
        obtain ⟨tA, tB, lA, lB⟩ := y
        simp only [Wtc.cells, Wld.cells, Act1.cells] at *
        simp only [doW] at *
        generalize (a + tA) % 24 = na at *
        generalize (b + tB) % 24 = nb at *
        generalize (if lA = true then sa else na) = nsa at *
        generalize (if lB = true then sb else nb) = nsb at *
        generalize (if lA = true then ga + 1 else 0) = nga at *
        generalize (if lB = true then gb + 1 else 0) = ngb at *
        have HC := Lib.hid hC
        have HCan := Lib.hid hcan
        have HDo := Lib.hid hdo
        clear hC hcan hdo
        go_enter Try.func27, Try.ntmps27
        go_wp2_with (first | (go_at_call 63; refine (HC.out _ (HB0.out _ _ _ _)).mono ?_; rintro e w2 ⟨rfl, hb2⟩; have q2 := (bcell hb2).1; have f2 := (bcell hb2).2; have za2 : w.heap.size < w2.heap.size := Nat.lt_of_lt_of_le (by simp <;> omega) (hb2).size; have zb2 : w.heap.size + 1 < w2.heap.size := Nat.lt_of_lt_of_le (by simp <;> omega) (hb2).size; have zc2 : w.heap.size + 1 + 1 < w2.heap.size := Nat.lt_of_lt_of_le (by simp <;> omega) (hb2).size; have zd2 : w.heap.size + 1 + 1 + 1 < w2.heap.size := Nat.lt_of_lt_of_le (by simp <;> omega) (hb2).size; have B2 : Below w.heap.size w w2 := (HB0.out _ _ _ _).trans (hb2.mono (by simp <;> omega))) | (go_at_call 65; refine (HK.out _).mono ?_; rintro e w3 ⟨rfl, hb3⟩; have q3 := (bcell hb3).1; have f3 := (bcell hb3).2; have za3 : w.heap.size < w3.heap.size := Nat.lt_of_lt_of_le za2 (hb3).size; have zb3 : w.heap.size + 1 < w3.heap.size := Nat.lt_of_lt_of_le zb2 (hb3).size; have zc3 : w.heap.size + 1 + 1 < w3.heap.size := Nat.lt_of_lt_of_le zc2 (hb3).size; have zd3 : w.heap.size + 1 + 1 + 1 < w3.heap.size := Nat.lt_of_lt_of_le zd2 (hb3).size; have B3 := B2.trans ((hb3).mono B2.size)) | (go_at_call 66; refine (HCan.out _ B3).mono ?_; rintro e w4 ⟨rfl, hb4⟩; have q4 := (bcell hb4).1; have f4 := (bcell hb4).2; have za4 : w.heap.size < w4.heap.size := Nat.lt_of_lt_of_le za3 (hb4).size; have zb4 : w.heap.size + 1 < w4.heap.size := Nat.lt_of_lt_of_le zb3 (hb4).size; have zc4 : w.heap.size + 1 + 1 < w4.heap.size := Nat.lt_of_lt_of_le zc3 (hb4).size; have zd4 : w.heap.size + 1 + 1 + 1 < w4.heap.size := Nat.lt_of_lt_of_le zd3 (hb4).size; have B4 := B3.trans ((hb4).mono B3.size)) | (go_at_call 67; refine (HDo.out _).mono ?_; rintro e w5 ⟨rfl, hb5⟩; have q5 := (bcell hb5).1; have f5 := (bcell hb5).2; have za5 : w.heap.size < w5.heap.size := Nat.lt_of_lt_of_le za4 (hb5).size; have zb5 : w.heap.size + 1 < w5.heap.size := Nat.lt_of_lt_of_le zb4 (hb5).size; have zc5 : w.heap.size + 1 + 1 < w5.heap.size := Nat.lt_of_lt_of_le zc4 (hb5).size; have zd5 : w.heap.size + 1 + 1 + 1 < w5.heap.size := Nat.lt_of_lt_of_le zd4 (hb5).size; have B5 := B4.trans ((hb5).mono B4.size)))
        exact bodyPost_ret (v := .tuple #[.agg ((⟨na, nb, nsa, nsb, nga, ngb⟩ : Wld)).cells.toArray, .int .i64 0]) (by simp [results, Try.results27, go_sem, q5, zd5, q4, zd4, q3, zd3, q2, zd2, Wld.cells, zeroW, doW]) rfl ⟨by simp [Wld.cells], by go_grown⟩
end Go.Proofs.Ytmkhapgkiecmaaa
