/- Small contracts for the law on worlds explored. -/
import Derived.Test.YtmkhapgkiecmaaaWoS
import Derived.Test.YtmkhapgkiecmaaaEnP
import Derived.Test.YtmkhapgkiecmaaaExX
namespace Go.Proofs.Ytmkhapgkiecmaaa
open Go.RowKit
set_option maxHeartbeats 1000000 in
theorem spec_Fresh (a b : Int) (w : World) (ha : Dir a) (hb : Dir b) : Calls Try.prog 32 #[.int .i64 a, .int .i64 b] w fun e w' => e = .returned (.tuple #[.agg (⟨a, b, a, b, 0, 0⟩ : Wld).cells.toArray, .int .i64 0]) ∧ Below w.heap.size w w' := by
  obtain ⟨ha1, ha2⟩ := ha
  obtain ⟨hb1, hb2⟩ := hb
  go_enter Try.func32, Try.ntmps32
  go_wp2_with (go_at_call 71; refine (spec_Dir_t _ _ (by omega) (by omega)).mono ?_; rintro e w' ⟨rfl, rfl⟩)
  exact bodyPost_ret (v := .tuple #[.agg (⟨a, b, a, b, 0, 0⟩ : Wld).cells.toArray, .int .i64 0]) (by simp [results, Try.results32, go_sem, Wld.cells]) rfl ⟨by simp [Wld.cells], by go_grown⟩
theorem impl_Enough (t : Int) (w : World) (h : 0 ≤ t ∧ t ≤ 1) : Calls Try.prog 35 #[.int .i64 t] w fun e w' => e = .returned (.tuple #[.int .i64 (t + 1), .int .i64 0]) ∧ w = w' := by
  obtain ⟨h1, h2⟩ := h
  go_enter Try.func35, Try.ntmps35
  go_wp2_with (go_at_call 59; refine (impl_within_t _ _ _ _ (by omega) (by omega)).mono ?_; rintro e w' ⟨rfl, rfl⟩)
  go_ret2
  exact ⟨rfl, rfl⟩
set_option maxRecDepth 100000 in
set_option maxHeartbeats 4000000 in
theorem spec_IsU (tv : Value) (rows : List SV) (T : Tab) (lo hi : Nat) (x : Wld) (y : Act1) (w : World) (h : TabR lo hi w tv rows T) (hT : TabOk T) (hx : x.in_) (h1 : Trn y.turnA) (h2 : Trn y.turnB) :
    Calls Try.prog 39 #[tv, .agg x.cells.toArray, .agg y.cells.toArray] w fun e w' => e = .returned (.bool (unsafeB T x y)) ∧ Below w.heap.size w w' := by
  have hC := Lib.hid (fun w' (hb : Below w.heap.size w w') => spec_TabOk tv rows T lo hi w' (h.ext hb))
  have hU := Lib.hid (fun w' (hb : Below w.heap.size w w') => spec_Unsafe tv rows T lo hi x y w' (h.ext hb) hT hx h1 h2)
  rw [decide_eq_true hT] at hC
  have HB0 := Lib.hid (fun A B : Obj => ((Below.refl w.heap.size w).alloc (Nat.le_refl _) A).alloc (by simp) B)
  generalize unsafeB T x y = u at *
  obtain ⟨⟨d1, d1'⟩, ⟨d2, d2'⟩, -⟩ := hx
  obtain ⟨t1, t1'⟩ := h1
  obtain ⟨t2, t2'⟩ := h2
  clear h hT
  obtain ⟨xa, xb, xsa, xsb, xga, xgb⟩ := x
  obtain ⟨tA, tB, lA, lB⟩ := y
  simp only [Wld.cells, Act1.cells] at *
  go_enter Try.func39, Try.ntmps39
  go_wp2_with fail
  refine (hC.out _ (HB0.out _ _)).mono ?_
  rintro e w2 ⟨rfl, hb2⟩
  have q2 := (bcell hb2).1
  have z2 : w.heap.size < w2.heap.size := Nat.lt_of_lt_of_le (by simp; omega) hb2.size
  have y2 : w.heap.size + 1 < w2.heap.size := Nat.lt_of_lt_of_le (by simp) hb2.size
  have B2 : Below w.heap.size w w2 := (HB0.out _ _).trans (hb2.mono (by simp; omega))
  go_wp2_with (first | (go_at_call 71; refine (spec_Dir_t _ _ (by omega) (by omega)).mono ?_; rintro e w' ⟨rfl, rfl⟩) | (go_at_call 80; refine (spec_Trn_t _ _ (by omega) (by omega)).mono ?_; rintro e w' ⟨rfl, rfl⟩) | (go_at_call 84; refine (hU.out _ B2).mono ?_; rintro e w3 ⟨rfl, hb3⟩; have B3 := B2.trans (hb3.mono B2.size)) | fail)
  go_ret
  exact ⟨rfl, B3⟩
set_option maxRecDepth 100000 in
set_option maxHeartbeats 4000000 in
theorem impl_IsU (tv : Value) (rows : List SV) (T : Tab) (lo hi : Nat) (x : Wld) (y : Act1) (w : World) (h : TabR lo hi w tv rows T) (hT : TabOk T) (hx : x.in_) (h1 : Trn y.turnA) (h2 : Trn y.turnB) :
    Calls Try.prog 38 #[tv, .agg x.cells.toArray, .agg y.cells.toArray] w fun e w' => e = .returned (.bool (unsafeB T x y)) ∧ Below w.heap.size w w' := by
  have hC := Lib.hid (fun w' (hb : Below w.heap.size w w') => impl_TabOk tv rows T lo hi w' (h.ext hb))
  have hU := Lib.hid (fun w' (hb : Below w.heap.size w w') => impl_unsafe tv rows T lo hi x y w' (h.ext hb) hT hx h1 h2)
  have hK := Lib.hid (fun w => impl_turnsOk y w)
  rw [decide_eq_true hT] at hC
  rw [decide_eq_true (show TrnsOk y from ⟨h1, h2⟩)] at hK
  have HB0 := Lib.hid (fun A B : Obj => ((Below.refl w.heap.size w).alloc (Nat.le_refl _) A).alloc (by simp) B)
  generalize unsafeB T x y = u at *
  obtain ⟨⟨d1, d1'⟩, ⟨d2, d2'⟩, -⟩ := hx
  clear h hT h1 h2
  obtain ⟨xa, xb, xsa, xsb, xga, xgb⟩ := x
  obtain ⟨tA, tB, lA, lB⟩ := y
  simp only [Wld.cells, Act1.cells] at *
  go_enter Try.func38, Try.ntmps38
  go_wp2_with fail
  refine (hC.out _ (HB0.out _ _)).mono ?_
  rintro e w2 ⟨rfl, hb2⟩
  have q2 := (bcell hb2).1
  have z2 : w.heap.size < w2.heap.size := Nat.lt_of_lt_of_le (by simp; omega) hb2.size
  have y2 : w.heap.size + 1 < w2.heap.size := Nat.lt_of_lt_of_le (by simp) hb2.size
  have B2 : Below w.heap.size w w2 := (HB0.out _ _).trans (hb2.mono (by simp; omega))
  go_wp2_with (first | (go_at_call 61; refine (impl_isDirection_t _ _ (by omega) (by omega)).mono ?_; rintro e w' ⟨rfl, rfl⟩) | (go_at_call 65; refine (hK.out _).mono ?_; rintro e w3 ⟨rfl, hb3⟩; have q3 := (bcell hb3).1; have z3 := Nat.lt_of_lt_of_le z2 hb3.size; have y3 := Nat.lt_of_lt_of_le y2 hb3.size; have B3 := B2.trans (hb3.mono B2.size)) | (go_at_call 77; refine (hU.out _ B3).mono ?_; rintro e w4 ⟨rfl, hb4⟩; have B4 := B3.trans (hb4.mono B3.size)) | fail)
  go_ret
  exact ⟨rfl, B4⟩
end Go.Proofs.Ytmkhapgkiecmaaa
