/- The codes; NextWorld, in both packages. -/
import Derived.Test.YtmkhapgkiecmaaaTabF
namespace Go.Proofs.Ytmkhapgkiecmaaa
open Go.RowKit
set_option maxRecDepth 100000 in
set_option maxHeartbeats 4000000 in
theorem spec_Code (tv : Value) (rows : List SV) (T : Tab) (lo hi : Nat) (v : Wtc) (x : Wld) (w : World) (h : TabR lo hi w tv rows T) :
    Calls Try.prog 79 #[tv, .agg v.cells.toArray, .agg x.cells.toArray] w fun e w' => e = .returned (.int .i64 (codeW T v x)) ∧ Below w.heap.size w w' := by
  have hT := fun w' (hb : Below w.heap.size w w') => spec_TabOk tv rows T lo hi w' (h.ext hb)
  have hO := fun w => spec_Ok v x w
  have hB0 : ∀ A B : Obj, Below w.heap.size w ((w.alloc A).alloc B) := fun A B => ((Below.refl _ w).alloc (Nat.le_refl _) _).alloc (by simp) _
  have HB0 := Lib.hid hB0
  clear hB0
  by_cases ht : TabOk T
  · rw [decide_eq_true ht] at hT
    by_cases ho : x.ok v
    · rw [decide_eq_true ho] at hO
      rw [show codeW T v x = 0 by unfold codeW; rw [if_pos ht, if_pos ho]]
      obtain ⟨m, t⟩ := v
      obtain ⟨a, b, sa, sb, ga, gb⟩ := x
      simp only [Wtc.cells, Wld.cells] at *
      have HT := Lib.hid hT
      have HO := Lib.hid hO
      clear hT hO h
      go_enter Try.func79, Try.ntmps79
      go_wp2_with (first | (go_at_call 83; refine (HT.out _ (HB0.out _ _)).mono ?_; rintro e w2 ⟨rfl, hb2⟩; have q2 := (bcell hb2).1; have z2 : w.heap.size < w2.heap.size := Nat.lt_of_lt_of_le (by simp; omega) hb2.size; have y2 : w.heap.size + 1 < w2.heap.size := Nat.lt_of_lt_of_le (by simp) hb2.size; have B2 : Below w.heap.size w w2 := (((Below.refl _ w).alloc (Nat.le_refl _) _).alloc (by simp) _).trans (hb2.mono (by simp; omega))) | (go_at_call 62; refine (HO.out _).mono ?_; rintro e w3 ⟨rfl, hb3⟩; have B3 := B2.trans (hb3.mono B2.size)))
      go_ret
      first | exact ⟨rfl, B3⟩ | exact ⟨rfl, B2⟩
    · rw [decide_eq_false ho] at hO
      rw [show codeW T v x = 1 by unfold codeW; rw [if_pos ht, if_neg ho]]
      obtain ⟨m, t⟩ := v
      obtain ⟨a, b, sa, sb, ga, gb⟩ := x
      simp only [Wtc.cells, Wld.cells] at *
      have HT := Lib.hid hT
      have HO := Lib.hid hO
      clear hT hO h
      go_enter Try.func79, Try.ntmps79
      go_wp2_with (first | (go_at_call 83; refine (HT.out _ (HB0.out _ _)).mono ?_; rintro e w2 ⟨rfl, hb2⟩; have q2 := (bcell hb2).1; have z2 : w.heap.size < w2.heap.size := Nat.lt_of_lt_of_le (by simp; omega) hb2.size; have y2 : w.heap.size + 1 < w2.heap.size := Nat.lt_of_lt_of_le (by simp) hb2.size; have B2 : Below w.heap.size w w2 := (((Below.refl _ w).alloc (Nat.le_refl _) _).alloc (by simp) _).trans (hb2.mono (by simp; omega))) | (go_at_call 62; refine (HO.out _).mono ?_; rintro e w3 ⟨rfl, hb3⟩; have B3 := B2.trans (hb3.mono B2.size)))
      go_ret
      first | exact ⟨rfl, B3⟩ | exact ⟨rfl, B2⟩
  · rw [decide_eq_false ht] at hT
    rw [show codeW T v x = 8 by unfold codeW; rw [if_neg ht]]
    obtain ⟨m, t⟩ := v
    obtain ⟨a, b, sa, sb, ga, gb⟩ := x
    simp only [Wtc.cells, Wld.cells] at *
    have HT := Lib.hid hT
    have HO := Lib.hid hO
    clear hT hO h
    go_enter Try.func79, Try.ntmps79
    go_wp2_with (first | (go_at_call 83; refine (HT.out _ (HB0.out _ _)).mono ?_; rintro e w2 ⟨rfl, hb2⟩; have q2 := (bcell hb2).1; have z2 : w.heap.size < w2.heap.size := Nat.lt_of_lt_of_le (by simp; omega) hb2.size; have y2 : w.heap.size + 1 < w2.heap.size := Nat.lt_of_lt_of_le (by simp) hb2.size; have B2 : Below w.heap.size w w2 := (((Below.refl _ w).alloc (Nat.le_refl _) _).alloc (by simp) _).trans (hb2.mono (by simp; omega))) | (go_at_call 62; refine (HO.out _).mono ?_; rintro e w3 ⟨rfl, hb3⟩; have B3 := B2.trans (hb3.mono B2.size)))
    go_ret
    first | exact ⟨rfl, B3⟩ | exact ⟨rfl, B2⟩
set_option maxRecDepth 100000 in
set_option maxHeartbeats 4000000 in
theorem impl_Code (tv : Value) (rows : List SV) (T : Tab) (lo hi : Nat) (v : Wtc) (x : Wld) (w : World) (h : TabR lo hi w tv rows T) :
    Calls Try.prog 63 #[tv, .agg v.cells.toArray, .agg x.cells.toArray] w fun e w' => e = .returned (.int .i64 (codeW T v x)) ∧ Below w.heap.size w w' := by
  have hT := fun w' (hb : Below w.heap.size w w') => impl_TabOk tv rows T lo hi w' (h.ext hb)
  have hO := fun w => impl_ValidWorld v x w
  have hB0 : ∀ A B : Obj, Below w.heap.size w ((w.alloc A).alloc B) := fun A B => ((Below.refl _ w).alloc (Nat.le_refl _) _).alloc (by simp) _
  have HB0 := Lib.hid hB0
  clear hB0
  by_cases ht : TabOk T
  · rw [decide_eq_true ht] at hT
    by_cases ho : x.ok v
    · rw [decide_eq_true ho] at hO
      rw [show codeW T v x = 0 by unfold codeW; rw [if_pos ht, if_pos ho]]
      obtain ⟨m, t⟩ := v
      obtain ⟨a, b, sa, sb, ga, gb⟩ := x
      simp only [Wtc.cells, Wld.cells] at *
      have HT := Lib.hid hT
      have HO := Lib.hid hO
      clear hT hO h
      go_enter Try.func63, Try.ntmps63
      go_wp2_with (first | (go_at_call 73; refine (HT.out _ (HB0.out _ _)).mono ?_; rintro e w2 ⟨rfl, hb2⟩; have q2 := (bcell hb2).1; have z2 : w.heap.size < w2.heap.size := Nat.lt_of_lt_of_le (by simp; omega) hb2.size; have y2 : w.heap.size + 1 < w2.heap.size := Nat.lt_of_lt_of_le (by simp) hb2.size; have B2 : Below w.heap.size w w2 := (((Below.refl _ w).alloc (Nat.le_refl _) _).alloc (by simp) _).trans (hb2.mono (by simp; omega))) | (go_at_call 28; refine (HO.out _).mono ?_; rintro e w3 ⟨rfl, hb3⟩; have B3 := B2.trans (hb3.mono B2.size)))
      go_ret
      first | exact ⟨rfl, B3⟩ | exact ⟨rfl, B2⟩
    · rw [decide_eq_false ho] at hO
      rw [show codeW T v x = 1 by unfold codeW; rw [if_pos ht, if_neg ho]]
      obtain ⟨m, t⟩ := v
      obtain ⟨a, b, sa, sb, ga, gb⟩ := x
      simp only [Wtc.cells, Wld.cells] at *
      have HT := Lib.hid hT
      have HO := Lib.hid hO
      clear hT hO h
      go_enter Try.func63, Try.ntmps63
      go_wp2_with (first | (go_at_call 73; refine (HT.out _ (HB0.out _ _)).mono ?_; rintro e w2 ⟨rfl, hb2⟩; have q2 := (bcell hb2).1; have z2 : w.heap.size < w2.heap.size := Nat.lt_of_lt_of_le (by simp; omega) hb2.size; have y2 : w.heap.size + 1 < w2.heap.size := Nat.lt_of_lt_of_le (by simp) hb2.size; have B2 : Below w.heap.size w w2 := (((Below.refl _ w).alloc (Nat.le_refl _) _).alloc (by simp) _).trans (hb2.mono (by simp; omega))) | (go_at_call 28; refine (HO.out _).mono ?_; rintro e w3 ⟨rfl, hb3⟩; have B3 := B2.trans (hb3.mono B2.size)))
      go_ret
      first | exact ⟨rfl, B3⟩ | exact ⟨rfl, B2⟩
  · rw [decide_eq_false ht] at hT
    rw [show codeW T v x = 8 by unfold codeW; rw [if_neg ht]]
    obtain ⟨m, t⟩ := v
    obtain ⟨a, b, sa, sb, ga, gb⟩ := x
    simp only [Wtc.cells, Wld.cells] at *
    have HT := Lib.hid hT
    have HO := Lib.hid hO
    clear hT hO h
    go_enter Try.func63, Try.ntmps63
    go_wp2_with (first | (go_at_call 73; refine (HT.out _ (HB0.out _ _)).mono ?_; rintro e w2 ⟨rfl, hb2⟩; have q2 := (bcell hb2).1; have z2 : w.heap.size < w2.heap.size := Nat.lt_of_lt_of_le (by simp; omega) hb2.size; have y2 : w.heap.size + 1 < w2.heap.size := Nat.lt_of_lt_of_le (by simp) hb2.size; have B2 : Below w.heap.size w w2 := (((Below.refl _ w).alloc (Nat.le_refl _) _).alloc (by simp) _).trans (hb2.mono (by simp; omega))) | (go_at_call 28; refine (HO.out _).mono ?_; rintro e w3 ⟨rfl, hb3⟩; have B3 := B2.trans (hb3.mono B2.size)))
    go_ret
    first | exact ⟨rfl, B3⟩ | exact ⟨rfl, B2⟩

theorem codeW_cases (T : Tab) (v : Wtc) (x : Wld) : codeW T v x = 8 ∨ codeW T v x = 1 ∨ (codeW T v x = 0 ∧ TabOk T ∧ x.ok v) := by
  unfold codeW
  by_cases h : TabOk T
  · by_cases h2 : x.ok v
    · rw [if_pos h, if_pos h2]; exact .inr (.inr ⟨rfl, h, h2⟩)
    · rw [if_pos h, if_neg h2]; exact .inr (.inl rfl)
  · rw [if_neg h]; exact .inl rfl
end Go.Proofs.Ytmkhapgkiecmaaa
