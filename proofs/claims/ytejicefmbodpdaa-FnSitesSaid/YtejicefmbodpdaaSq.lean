/- Squares of distances, in both packages. -/
import Derived.Test.YtejicefmbodpdaaCraneW
namespace Go.Proofs.Ytejicefmbodpdaa
open Go.RowKit
theorem str_eq {s t : ByteArray} (h : s = t) : (s.toList == t.toList) = true := by rw [h]; simp
theorem str_ne {s t : ByteArray} (h : ¬ s = t) : (s.toList == t.toList) = false := by
  rw [beq_eq_false_iff_ne]
  intro h2
  apply h
  have h3 : s.data.toList = t.data.toList := by simpa [ByteArray.toList_eq] using h2
  exact ByteArray.ext (Array.toList_inj.1 h3)
def sq4 (a b c d : Int) : Int := (a - c) * (a - c) + (b - d) * (b - d)
theorem sq_bd (d : Int) (h : -20000 ≤ d ∧ d ≤ 20000) : 0 ≤ d * d ∧ d * d ≤ 400000000 := by
  have h1 : d * d = ((d.natAbs * d.natAbs : Nat) : Int) := by rw [← Int.natAbs_mul_self]
  have h2 : d.natAbs ≤ 20000 := by omega
  have h3 := Nat.mul_le_mul h2 h2
  omega
set_option maxHeartbeats 1000000 in
theorem spec_Sq (a b c d : Int) (w : World) (h1 : Pl a b) (h2 : Pl c d) : Calls Try.prog 54 #[.agg #[.int .i64 a, .int .i64 b], .agg #[.int .i64 c, .int .i64 d]] w fun e w' => e = .returned (.int .i64 (sq4 a b c d)) ∧ Below w.heap.size w w' := by
  have hb1 := sq_bd (a - c) (by unfold Pl at h1 h2; omega)
  have hb2 := sq_bd (b - d) (by unfold Pl at h1 h2; omega)
  obtain ⟨⟨_, _⟩, ⟨_, _⟩⟩ := h1
  obtain ⟨⟨_, _⟩, ⟨_, _⟩⟩ := h2
  obtain ⟨hb1, hb1'⟩ := hb1
  obtain ⟨hb2, hb2'⟩ := hb2
  have hw1 : IntKind.i64.wrap (a - c) = a - c := IntWalk.i64_in _ (by omega)
  have hw2 : IntKind.i64.wrap (b - d) = b - d := IntWalk.i64_in _ (by omega)
  have hw3 : IntKind.i64.wrap ((a - c) * (a - c)) = (a - c) * (a - c) := IntWalk.i64_in _ (by omega)
  have hw4 : IntKind.i64.wrap ((b - d) * (b - d)) = (b - d) * (b - d) := IntWalk.i64_in _ (by omega)
  have hw5 : IntKind.i64.wrap ((a - c) * (a - c) + (b - d) * (b - d)) = (a - c) * (a - c) + (b - d) * (b - d) := IntWalk.i64_in _ (by omega)
  unfold sq4
  go_enter Try.func54, Try.ntmps54
  go_wp2
  go_ret
  exact ⟨rfl, by first | exact ((Below.refl _ w).alloc (Nat.le_refl _) _).alloc (by simp) _ | exact below_dN (((Below.refl _ w).alloc (Nat.le_refl _) _).alloc (by simp) _) _⟩
set_option maxHeartbeats 1000000 in
theorem impl_Sq (a b c d : Int) (w : World) (h1 : Pl a b) (h2 : Pl c d) : Calls Try.prog 48 #[.agg #[.int .i64 a, .int .i64 b], .agg #[.int .i64 c, .int .i64 d]] w fun e w' => e = .returned (.int .i64 (sq4 a b c d)) ∧ Below w.heap.size w w' := by
  have hb1 := sq_bd (a - c) (by unfold Pl at h1 h2; omega)
  have hb2 := sq_bd (b - d) (by unfold Pl at h1 h2; omega)
  obtain ⟨⟨_, _⟩, ⟨_, _⟩⟩ := h1
  obtain ⟨⟨_, _⟩, ⟨_, _⟩⟩ := h2
  obtain ⟨hb1, hb1'⟩ := hb1
  obtain ⟨hb2, hb2'⟩ := hb2
  have hw1 : IntKind.i64.wrap (a - c) = a - c := IntWalk.i64_in _ (by omega)
  have hw2 : IntKind.i64.wrap (b - d) = b - d := IntWalk.i64_in _ (by omega)
  have hw3 : IntKind.i64.wrap ((a - c) * (a - c)) = (a - c) * (a - c) := IntWalk.i64_in _ (by omega)
  have hw4 : IntKind.i64.wrap ((b - d) * (b - d)) = (b - d) * (b - d) := IntWalk.i64_in _ (by omega)
  have hw5 : IntKind.i64.wrap ((a - c) * (a - c) + (b - d) * (b - d)) = (a - c) * (a - c) + (b - d) * (b - d) := IntWalk.i64_in _ (by omega)
  unfold sq4
  go_enter Try.func48, Try.ntmps48
  (go_wp2_with fail; go_quiet (fail); go_wp2)
  go_ret
  exact ⟨rfl, by first | exact ((Below.refl _ w).alloc (Nat.le_refl _) _).alloc (by simp) _ | exact below_dN (((Below.refl _ w).alloc (Nat.le_refl _) _).alloc (by simp) _) _⟩
set_option maxHeartbeats 1000000 in
theorem spec_Far (a b c d : Int) (w : World) (h1 : Pl a b) (h2 : Pl c d) : Calls Try.prog 35 #[.agg #[.int .i64 a, .int .i64 b], .agg #[.int .i64 c, .int .i64 d], .int .i64 10] w fun e w' => e = .returned (.bool (decide (100 < sq4 a b c d))) ∧ Below w.heap.size w w' := by
  have hq := Lib.hid (fun w => spec_Sq a b c d w h1 h2)
  have hb1 := sq_bd (a - c) (by unfold Pl at h1 h2; omega)
  have hb2 := sq_bd (b - d) (by unfold Pl at h1 h2; omega)
  unfold sq4 at *
  generalize (a - c) * (a - c) = p at *
  generalize (b - d) * (b - d) = q at *
  clear h1 h2
  obtain ⟨_, _⟩ := hb1
  obtain ⟨_, _⟩ := hb2
  go_enter Try.func35, Try.ntmps35
  go_wp2_with fail
  refine (hq.out _).mono ?_
  rintro e w1 ⟨rfl, hb⟩
  go_wp2
  go_ret
  exact ⟨rfl, (((Below.refl _ w).alloc (Nat.le_refl _) _).alloc (by simp) _).trans (hb.mono (by simp; omega))⟩
set_option maxHeartbeats 1000000 in
theorem impl_Near (a b c d : Int) (w : World) (h1 : Pl a b) (h2 : Pl c d) : Calls Try.prog 25 #[.agg #[.int .i64 a, .int .i64 b], .agg #[.int .i64 c, .int .i64 d], .int .i64 10] w fun e w' => e = .returned (.bool (decide (sq4 a b c d ≤ 100))) ∧ Below w.heap.size w w' := by
  have hq := Lib.hid (fun w => impl_Sq a b c d w h1 h2)
  have hb1 := sq_bd (a - c) (by unfold Pl at h1 h2; omega)
  have hb2 := sq_bd (b - d) (by unfold Pl at h1 h2; omega)
  unfold sq4 at *
  generalize (a - c) * (a - c) = p at *
  generalize (b - d) * (b - d) = q at *
  clear h1 h2
  obtain ⟨_, _⟩ := hb1
  obtain ⟨_, _⟩ := hb2
  go_enter Try.func25, Try.ntmps25
  go_wp2_with fail
  refine (hq.out _).mono ?_
  rintro e w1 ⟨rfl, hb⟩
  go_wp2
  go_ret
  exact ⟨rfl, (((Below.refl _ w).alloc (Nat.le_refl _) _).alloc (by simp) _).trans (hb.mono (by simp; omega))⟩
end Go.Proofs.Ytejicefmbodpdaa
