/- The world after an act; NextWorld, in both packages. -/
import Derived.Test.YtmkhapgkiecmaaaTabE
namespace Go.Proofs.Ytmkhapgkiecmaaa
open Go.RowKit

set_option maxRecDepth 100000 in
set_option maxHeartbeats 8000000 in
theorem spec_Do (x : Wld) (y : Act1) (w : World) (hx : x.in_) (h1 : Trn y.turnA) (h2 : Trn y.turnB) :
    Calls Try.prog 82 #[.agg x.cells.toArray, .agg y.cells.toArray] w fun e w' => e = .returned (.agg (doW x y).cells.toArray) ∧ Below w.heap.size w w' := by
  obtain ⟨a, b, sa, sb, ga, gb⟩ := x
  obtain ⟨tA, tB, lA, lB⟩ := y
  obtain ⟨⟨d1, d1'⟩, ⟨d2, d2'⟩, ⟨d3, d3'⟩, ⟨d4, d4'⟩, ⟨d5, d5'⟩, ⟨d6, d6'⟩⟩ := hx
  unfold Trn at h1 h2
  obtain ⟨t1, t1'⟩ := h1
  obtain ⟨t2, t2'⟩ := h2
  simp only [Wld.cells, Act1.cells, doW] at *
  cases lA
  · cases lB
    · go_enter Try.func82, Try.ntmps82
      go_wp2_with (first | (go_at_call 72; refine (spec_Mod _ _ ⟨by omega, by omega⟩).mono ?_; rintro e w' ⟨rfl, rfl⟩) | (go_at_call 98; refine (impl_turned _ _ _ ⟨by omega, by omega⟩).mono ?_; rintro e w' ⟨rfl, rfl⟩))
      all_goals first
        | contradiction
        | exact bodyPost_ret (v := .agg (doW ⟨a, b, sa, sb, ga, gb⟩ ⟨tA, tB, false, false⟩).cells.toArray) (by simp [results, Try.results82, go_sem, doW, Wld.cells]) rfl ⟨by simp [doW, Wld.cells], by
            first | exact ((((Below.refl _ _).alloc (Nat.le_refl _) _).alloc (by simp) _).alloc (by simp; omega) _).alloc (by simp; omega) _ | exact (((Below.refl _ _).alloc (Nat.le_refl _) _).alloc (by simp) _).alloc (by simp; omega) _⟩
    · go_enter Try.func82, Try.ntmps82
      go_wp2_with (first | (go_at_call 72; refine (spec_Mod _ _ ⟨by omega, by omega⟩).mono ?_; rintro e w' ⟨rfl, rfl⟩) | (go_at_call 98; refine (impl_turned _ _ _ ⟨by omega, by omega⟩).mono ?_; rintro e w' ⟨rfl, rfl⟩))
      all_goals first
        | contradiction
        | exact bodyPost_ret (v := .agg (doW ⟨a, b, sa, sb, ga, gb⟩ ⟨tA, tB, false, true⟩).cells.toArray) (by simp [results, Try.results82, go_sem, doW, Wld.cells]) rfl ⟨by simp [doW, Wld.cells], by
            first | exact ((((Below.refl _ _).alloc (Nat.le_refl _) _).alloc (by simp) _).alloc (by simp; omega) _).alloc (by simp; omega) _ | exact (((Below.refl _ _).alloc (Nat.le_refl _) _).alloc (by simp) _).alloc (by simp; omega) _⟩
  · cases lB
    · go_enter Try.func82, Try.ntmps82
      go_wp2_with (first | (go_at_call 72; refine (spec_Mod _ _ ⟨by omega, by omega⟩).mono ?_; rintro e w' ⟨rfl, rfl⟩) | (go_at_call 98; refine (impl_turned _ _ _ ⟨by omega, by omega⟩).mono ?_; rintro e w' ⟨rfl, rfl⟩))
      all_goals first
        | contradiction
        | exact bodyPost_ret (v := .agg (doW ⟨a, b, sa, sb, ga, gb⟩ ⟨tA, tB, true, false⟩).cells.toArray) (by simp [results, Try.results82, go_sem, doW, Wld.cells]) rfl ⟨by simp [doW, Wld.cells], by
            first | exact ((((Below.refl _ _).alloc (Nat.le_refl _) _).alloc (by simp) _).alloc (by simp; omega) _).alloc (by simp; omega) _ | exact (((Below.refl _ _).alloc (Nat.le_refl _) _).alloc (by simp) _).alloc (by simp; omega) _⟩
    · go_enter Try.func82, Try.ntmps82
      go_wp2_with (first | (go_at_call 72; refine (spec_Mod _ _ ⟨by omega, by omega⟩).mono ?_; rintro e w' ⟨rfl, rfl⟩) | (go_at_call 98; refine (impl_turned _ _ _ ⟨by omega, by omega⟩).mono ?_; rintro e w' ⟨rfl, rfl⟩))
      all_goals first
        | contradiction
        | exact bodyPost_ret (v := .agg (doW ⟨a, b, sa, sb, ga, gb⟩ ⟨tA, tB, true, true⟩).cells.toArray) (by simp [results, Try.results82, go_sem, doW, Wld.cells]) rfl ⟨by simp [doW, Wld.cells], by
            first | exact ((((Below.refl _ _).alloc (Nat.le_refl _) _).alloc (by simp) _).alloc (by simp; omega) _).alloc (by simp; omega) _ | exact (((Below.refl _ _).alloc (Nat.le_refl _) _).alloc (by simp) _).alloc (by simp; omega) _⟩
set_option maxRecDepth 100000 in
set_option maxHeartbeats 8000000 in
theorem impl_after (x : Wld) (y : Act1) (w : World) (hx : x.in_) (h1 : Trn y.turnA) (h2 : Trn y.turnB) :
    Calls Try.prog 67 #[.agg x.cells.toArray, .agg y.cells.toArray] w fun e w' => e = .returned (.agg (doW x y).cells.toArray) ∧ Below w.heap.size w w' := by
  obtain ⟨a, b, sa, sb, ga, gb⟩ := x
  obtain ⟨tA, tB, lA, lB⟩ := y
  obtain ⟨⟨d1, d1'⟩, ⟨d2, d2'⟩, ⟨d3, d3'⟩, ⟨d4, d4'⟩, ⟨d5, d5'⟩, ⟨d6, d6'⟩⟩ := hx
  unfold Trn at h1 h2
  obtain ⟨t1, t1'⟩ := h1
  obtain ⟨t2, t2'⟩ := h2
  simp only [Wld.cells, Act1.cells, doW] at *
  cases lA
  · cases lB
    · go_enter Try.func67, Try.ntmps67
      go_wp2_with (first | (go_at_call 72; refine (spec_Mod _ _ ⟨by omega, by omega⟩).mono ?_; rintro e w' ⟨rfl, rfl⟩) | (go_at_call 98; refine (impl_turned _ _ _ ⟨by omega, by omega⟩).mono ?_; rintro e w' ⟨rfl, rfl⟩))
      all_goals first
        | contradiction
        | exact bodyPost_ret (v := .agg (doW ⟨a, b, sa, sb, ga, gb⟩ ⟨tA, tB, false, false⟩).cells.toArray) (by simp [results, Try.results67, go_sem, doW, Wld.cells]) rfl ⟨by simp [doW, Wld.cells], by
            first | exact ((((Below.refl _ _).alloc (Nat.le_refl _) _).alloc (by simp) _).alloc (by simp; omega) _).alloc (by simp; omega) _ | exact (((Below.refl _ _).alloc (Nat.le_refl _) _).alloc (by simp) _).alloc (by simp; omega) _⟩
    · go_enter Try.func67, Try.ntmps67
      go_wp2_with (first | (go_at_call 72; refine (spec_Mod _ _ ⟨by omega, by omega⟩).mono ?_; rintro e w' ⟨rfl, rfl⟩) | (go_at_call 98; refine (impl_turned _ _ _ ⟨by omega, by omega⟩).mono ?_; rintro e w' ⟨rfl, rfl⟩))
      all_goals first
        | contradiction
        | exact bodyPost_ret (v := .agg (doW ⟨a, b, sa, sb, ga, gb⟩ ⟨tA, tB, false, true⟩).cells.toArray) (by simp [results, Try.results67, go_sem, doW, Wld.cells]) rfl ⟨by simp [doW, Wld.cells], by
            first | exact ((((Below.refl _ _).alloc (Nat.le_refl _) _).alloc (by simp) _).alloc (by simp; omega) _).alloc (by simp; omega) _ | exact (((Below.refl _ _).alloc (Nat.le_refl _) _).alloc (by simp) _).alloc (by simp; omega) _⟩
  · cases lB
    · go_enter Try.func67, Try.ntmps67
      go_wp2_with (first | (go_at_call 72; refine (spec_Mod _ _ ⟨by omega, by omega⟩).mono ?_; rintro e w' ⟨rfl, rfl⟩) | (go_at_call 98; refine (impl_turned _ _ _ ⟨by omega, by omega⟩).mono ?_; rintro e w' ⟨rfl, rfl⟩))
      all_goals first
        | contradiction
        | exact bodyPost_ret (v := .agg (doW ⟨a, b, sa, sb, ga, gb⟩ ⟨tA, tB, true, false⟩).cells.toArray) (by simp [results, Try.results67, go_sem, doW, Wld.cells]) rfl ⟨by simp [doW, Wld.cells], by
            first | exact ((((Below.refl _ _).alloc (Nat.le_refl _) _).alloc (by simp) _).alloc (by simp; omega) _).alloc (by simp; omega) _ | exact (((Below.refl _ _).alloc (Nat.le_refl _) _).alloc (by simp) _).alloc (by simp; omega) _⟩
    · go_enter Try.func67, Try.ntmps67
      go_wp2_with (first | (go_at_call 72; refine (spec_Mod _ _ ⟨by omega, by omega⟩).mono ?_; rintro e w' ⟨rfl, rfl⟩) | (go_at_call 98; refine (impl_turned _ _ _ ⟨by omega, by omega⟩).mono ?_; rintro e w' ⟨rfl, rfl⟩))
      all_goals first
        | contradiction
        | exact bodyPost_ret (v := .agg (doW ⟨a, b, sa, sb, ga, gb⟩ ⟨tA, tB, true, true⟩).cells.toArray) (by simp [results, Try.results67, go_sem, doW, Wld.cells]) rfl ⟨by simp [doW, Wld.cells], by
            first | exact ((((Below.refl _ _).alloc (Nat.le_refl _) _).alloc (by simp) _).alloc (by simp; omega) _).alloc (by simp; omega) _ | exact (((Below.refl _ _).alloc (Nat.le_refl _) _).alloc (by simp) _).alloc (by simp; omega) _⟩
end Go.Proofs.Ytmkhapgkiecmaaa
