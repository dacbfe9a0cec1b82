/- RunActs, both packages: where the table or the world isn't valid. -/
import Derived.Test.YtmkhapgkiecmaaaRun
import Derived.Handy
namespace Go.Proofs.Ytmkhapgkiecmaaa
open Go.RowKit
set_option maxRecDepth 100000 in
set_option maxHeartbeats 8000000 in
theorem spec_RunActs_code (tv lv : Value) (rows : List SV) (T : Tab) (lo hi : Nat) (v : Wtc) (x : Wld) (l : List Act1) (w : World) (h : TabR lo hi w tv rows T) (hc : codeW T v x ≠ 0) :
    Calls Try.prog 36 #[tv, .agg v.cells.toArray, .agg x.cells.toArray, lv] w fun e w' => e = .returned (.tuple #[.agg (runActs T v x l).1.cells.toArray, .int .i64 (runActs T v x l).2.1, .int .i64 (runActs T v x l).2.2]) ∧ Below w.heap.size w w' := by
  rw [runActs_code hc]
  have hC := fun w' (hb : Below w.heap.size w w') => spec_Code tv rows T lo hi v x w' (h.ext hb)
  have hB0 : ∀ A B D : Obj, Below w.heap.size w (((w.alloc A).alloc B).alloc D) := fun A B D => (((Below.refl _ w).alloc (Nat.le_refl _) _).alloc (by simp) _).alloc (by simp; omega) _
  have HB0 := Lib.hid hB0
  clear hB0 h
  have hcs := codeW_cases T v x
  obtain ⟨m, t⟩ := v
  obtain ⟨a, b, sa, sb, ga, gb⟩ := x
  generalize codeW T ⟨m, t⟩ ⟨a, b, sa, sb, ga, gb⟩ = c at *
  rcases hcs with rfl | rfl | ⟨rfl, _⟩
  · simp only [Wtc.cells, Wld.cells] at *
    have HC := Lib.hid hC
    clear hC hc
    go_enter Try.func36, Try.ntmps36
    go_wp2_with (first | (go_at_call 79; refine (HC.out _ (HB0.out _ _ _)).mono ?_; rintro e w2 ⟨rfl, hb2⟩; have q2 := (bcell hb2).1; have f2 := (bcell hb2).2; have za2 : w.heap.size < w2.heap.size := Nat.lt_of_lt_of_le (by simp <;> omega) (hb2).size; have zb2 : w.heap.size + 1 < w2.heap.size := Nat.lt_of_lt_of_le (by simp <;> omega) (hb2).size; have zc2 : w.heap.size + 1 + 1 < w2.heap.size := Nat.lt_of_lt_of_le (by simp <;> omega) (hb2).size; have B2 : Below w.heap.size w w2 := (HB0.out _ _ _).trans (hb2.mono (by simp <;> omega))))
    exact bodyPost_ret (v := .tuple #[.agg zeroW.cells.toArray, .int .i64 0, .int .i64 8]) (by simp [results, Try.results36, go_sem, q2, zc2, Wld.cells, zeroW]) rfl ⟨by simp [Wld.cells], by go_grown⟩
  · simp only [Wtc.cells, Wld.cells] at *
    have HC := Lib.hid hC
    clear hC hc
    go_enter Try.func36, Try.ntmps36
    go_wp2_with (first | (go_at_call 79; refine (HC.out _ (HB0.out _ _ _)).mono ?_; rintro e w2 ⟨rfl, hb2⟩; have q2 := (bcell hb2).1; have f2 := (bcell hb2).2; have za2 : w.heap.size < w2.heap.size := Nat.lt_of_lt_of_le (by simp <;> omega) (hb2).size; have zb2 : w.heap.size + 1 < w2.heap.size := Nat.lt_of_lt_of_le (by simp <;> omega) (hb2).size; have zc2 : w.heap.size + 1 + 1 < w2.heap.size := Nat.lt_of_lt_of_le (by simp <;> omega) (hb2).size; have B2 : Below w.heap.size w w2 := (HB0.out _ _ _).trans (hb2.mono (by simp <;> omega))))
    exact bodyPost_ret (v := .tuple #[.agg zeroW.cells.toArray, .int .i64 0, .int .i64 1]) (by simp [results, Try.results36, go_sem, q2, zc2, Wld.cells, zeroW]) rfl ⟨by simp [Wld.cells], by go_grown⟩
  · exact absurd rfl hc
set_option maxRecDepth 100000 in
set_option maxHeartbeats 8000000 in
theorem impl_RunActs_code (tv lv : Value) (rows : List SV) (T : Tab) (lo hi : Nat) (v : Wtc) (x : Wld) (l : List Act1) (w : World) (h : TabR lo hi w tv rows T) (hc : codeW T v x ≠ 0) :
    Calls Try.prog 31 #[tv, .agg v.cells.toArray, .agg x.cells.toArray, lv] w fun e w' => e = .returned (.tuple #[.agg (runActs T v x l).1.cells.toArray, .int .i64 (runActs T v x l).2.1, .int .i64 (runActs T v x l).2.2]) ∧ Below w.heap.size w w' := by
  rw [runActs_code hc]
  have hC := fun w' (hb : Below w.heap.size w w') => impl_Code tv rows T lo hi v x w' (h.ext hb)
  have hB0 : ∀ A B D : Obj, Below w.heap.size w (((w.alloc A).alloc B).alloc D) := fun A B D => (((Below.refl _ w).alloc (Nat.le_refl _) _).alloc (by simp) _).alloc (by simp; omega) _
  have HB0 := Lib.hid hB0
  clear hB0 h
  have hcs := codeW_cases T v x
  obtain ⟨m, t⟩ := v
  obtain ⟨a, b, sa, sb, ga, gb⟩ := x
  generalize codeW T ⟨m, t⟩ ⟨a, b, sa, sb, ga, gb⟩ = c at *
  rcases hcs with rfl | rfl | ⟨rfl, _⟩
  · simp only [Wtc.cells, Wld.cells] at *
    have HC := Lib.hid hC
    clear hC hc
    go_enter Try.func31, Try.ntmps31
    go_wp2_with (first | (go_at_call 63; refine (HC.out _ (HB0.out _ _ _)).mono ?_; rintro e w2 ⟨rfl, hb2⟩; have q2 := (bcell hb2).1; have f2 := (bcell hb2).2; have za2 : w.heap.size < w2.heap.size := Nat.lt_of_lt_of_le (by simp <;> omega) (hb2).size; have zb2 : w.heap.size + 1 < w2.heap.size := Nat.lt_of_lt_of_le (by simp <;> omega) (hb2).size; have zc2 : w.heap.size + 1 + 1 < w2.heap.size := Nat.lt_of_lt_of_le (by simp <;> omega) (hb2).size; have B2 : Below w.heap.size w w2 := (HB0.out _ _ _).trans (hb2.mono (by simp <;> omega))))
    exact bodyPost_ret (v := .tuple #[.agg zeroW.cells.toArray, .int .i64 0, .int .i64 8]) (by simp [results, Try.results31, go_sem, q2, zc2, Wld.cells, zeroW]) rfl ⟨by simp [Wld.cells], by go_grown⟩
  · simp only [Wtc.cells, Wld.cells] at *
    have HC := Lib.hid hC
    clear hC hc
    go_enter Try.func31, Try.ntmps31
    go_wp2_with (first | (go_at_call 63; refine (HC.out _ (HB0.out _ _ _)).mono ?_; rintro e w2 ⟨rfl, hb2⟩; have q2 := (bcell hb2).1; have f2 := (bcell hb2).2; have za2 : w.heap.size < w2.heap.size := Nat.lt_of_lt_of_le (by simp <;> omega) (hb2).size; have zb2 : w.heap.size + 1 < w2.heap.size := Nat.lt_of_lt_of_le (by simp <;> omega) (hb2).size; have zc2 : w.heap.size + 1 + 1 < w2.heap.size := Nat.lt_of_lt_of_le (by simp <;> omega) (hb2).size; have B2 : Below w.heap.size w w2 := (HB0.out _ _ _).trans (hb2.mono (by simp <;> omega))))
    exact bodyPost_ret (v := .tuple #[.agg zeroW.cells.toArray, .int .i64 0, .int .i64 1]) (by simp [results, Try.results31, go_sem, q2, zc2, Wld.cells, zeroW]) rfl ⟨by simp [Wld.cells], by go_grown⟩
  · exact absurd rfl hc
end Go.Proofs.Ytmkhapgkiecmaaa
