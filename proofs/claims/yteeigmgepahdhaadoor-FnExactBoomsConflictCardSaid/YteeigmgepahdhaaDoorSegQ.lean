/- BoomsConflict, the reference. -/
import Derived.Test.YteeigmgepahdhaaDoorSegO
import Derived.Test.YteeigmgepahdhaaDoorCraneW
namespace Go.Proofs.YteeigmgepahdhaaDoor
open Go.RowKit
theorem spec_Dir23 (n : Int) (w : World) : Calls Tryd.prog 42 #[.int .i64 n] w fun e w' => e = .returned (.bool (decide (0 ≤ n ∧ n ≤ 23))) ∧ w = w' := by
  by_cases h : 0 ≤ n ∧ n ≤ 23
  · rw [decide_eq_true h]
    have K := Lib.hid (fun w => spec_In_t n 0 23 w h.1 h.2)
    clear h
    go_enter Tryd.func42, Tryd.ntmps42
    go_wp2_with fail
    refine (K.out _).mono ?_
    rintro e w1 ⟨rfl, rfl⟩
    dsimp only
    go_wp2
    go_ret
    exact ⟨rfl, rfl⟩
  · rw [decide_eq_false h]
    have K := Lib.hid (fun w => spec_In_f n 0 23 w h)
    clear h
    go_enter Tryd.func42, Tryd.ntmps42
    go_wp2_with fail
    refine (K.out _).mono ?_
    rintro e w1 ⟨rfl, rfl⟩
    dsimp only
    go_wp2
    go_ret
    exact ⟨rfl, rfl⟩
theorem impl_Dir23 (n : Int) (w : World) : Calls Tryd.prog 33 #[.int .i64 n] w fun e w' => e = .returned (.bool (decide (0 ≤ n ∧ n ≤ 23))) ∧ w = w' := by
  by_cases h : 0 ≤ n ∧ n ≤ 23
  · rw [decide_eq_true h]
    have K := Lib.hid (fun w => impl_within_t n 0 23 w h.1 h.2)
    clear h
    go_enter Tryd.func33, Tryd.ntmps33
    go_wp2_with fail
    refine (K.out _).mono ?_
    rintro e w1 ⟨rfl, rfl⟩
    dsimp only
    go_wp2
    go_ret
    exact ⟨rfl, rfl⟩
  · rw [decide_eq_false h]
    have K := Lib.hid (fun w => impl_within_f n 0 23 w h)
    clear h
    go_enter Tryd.func33, Tryd.ntmps33
    go_wp2_with fail
    refine (K.out _).mono ?_
    rintro e w1 ⟨rfl, rfl⟩
    dsimp only
    go_wp2
    go_ret
    exact ⟨rfl, rfl⟩
theorem spec_Dist (n : Int) (w : World) : Calls Tryd.prog 72 #[.int .i64 n] w fun e w' => e = .returned (.bool (decide (0 ≤ n ∧ n ≤ 1000))) ∧ w = w' := by
  by_cases h : 0 ≤ n ∧ n ≤ 1000
  · rw [decide_eq_true h]
    have K := Lib.hid (fun w => spec_In_t n 0 1000 w h.1 h.2)
    clear h
    go_enter Tryd.func72, Tryd.ntmps72
    go_wp2_with fail
    refine (K.out _).mono ?_
    rintro e w1 ⟨rfl, rfl⟩
    dsimp only
    go_wp2
    go_ret
    exact ⟨rfl, rfl⟩
  · rw [decide_eq_false h]
    have K := Lib.hid (fun w => spec_In_f n 0 1000 w h)
    clear h
    go_enter Tryd.func72, Tryd.ntmps72
    go_wp2_with fail
    refine (K.out _).mono ?_
    rintro e w1 ⟨rfl, rfl⟩
    dsimp only
    go_wp2
    go_ret
    exact ⟨rfl, rfl⟩
def codC (b1 b2 : Bool) (n : Int) : Int := if b1 = true ∧ b2 = true then (if 0 ≤ n ∧ n ≤ 1000 then 0 else 2) else 1
theorem codC_ways (b1 b2 : Bool) (n : Int) : (b1 = false ∧ codC b1 b2 n = 1) ∨ (b1 = true ∧ b2 = false ∧ codC b1 b2 n = 1) ∨ (b1 = true ∧ b2 = true ∧ decide (0 ≤ n ∧ n ≤ 1000) = false ∧ codC b1 b2 n = 2) ∨ (b1 = true ∧ b2 = true ∧ decide (0 ≤ n ∧ n ≤ 1000) = true ∧ codC b1 b2 n = 0) := by
  unfold codC
  cases b1 <;> cases b2 <;> simp
  omega
set_option maxRecDepth 100000 in
set_option maxHeartbeats 4000000 in
theorem spec_Code (q o q2 o2 : Nat) (b1 b2 : Bool) (n : Int) (w : World) (K1 : ∀ w', Below w.heap.size w w' → Calls Tryd.prog 71 #[.pointer (some ⟨q, o, none⟩)] w' fun e w'' => e = .returned (.bool b1) ∧ Below w'.heap.size w' w'')
    (K2 : ∀ w', Below w.heap.size w w' → Calls Tryd.prog 71 #[.pointer (some ⟨q2, o2, none⟩)] w' fun e w'' => e = .returned (.bool b2) ∧ Below w'.heap.size w' w'') :
    Calls Tryd.prog 41 #[.pointer (some ⟨q, o, none⟩), .pointer (some ⟨q2, o2, none⟩), .int .i64 n] w fun e w' => e = .returned (.int .i64 (codC b1 b2 n)) ∧ Below w.heap.size w w' := by
  have K3 := Lib.hid (fun w => spec_Dist n w)
  have K1 := Lib.hid K1
  have K2 := Lib.hid K2
  rcases codC_ways b1 b2 n with ⟨rfl, hr⟩ | ⟨rfl, rfl, hr⟩ | ⟨rfl, rfl, hd, hr⟩ | ⟨rfl, rfl, hd, hr⟩
  · rw [hr]
    clear hr
    go_enter Tryd.func41, Tryd.ntmps41
    go_wp2_with fail
    refine (K1.out _ (Below.refl _ _)).mono ?_
    rintro e w1 ⟨rfl, b1⟩
    dsimp only
    go_wp2
    go_ret
    exact ⟨rfl, b1⟩
  · rw [hr]
    clear hr
    go_enter Tryd.func41, Tryd.ntmps41
    go_wp2_with fail
    refine (K1.out _ (Below.refl _ _)).mono ?_
    rintro e w1 ⟨rfl, b1⟩
    dsimp only
    go_wp2_with fail
    refine (K2.out _ b1).mono ?_
    rintro e w2 ⟨rfl, b2⟩
    dsimp only
    go_wp2
    go_ret
    exact ⟨rfl, b1.trans (b2.mono b1.size)⟩
  · rw [hr]
    rw [hd] at K3
    clear hr hd
    go_enter Tryd.func41, Tryd.ntmps41
    go_wp2_with fail
    refine (K1.out _ (Below.refl _ _)).mono ?_
    rintro e w1 ⟨rfl, b1⟩
    dsimp only
    go_wp2_with fail
    refine (K2.out _ b1).mono ?_
    rintro e w2 ⟨rfl, b2⟩
    dsimp only
    go_wp2_with fail
    refine (K3.out _).mono ?_
    rintro e w3 ⟨rfl, rfl⟩
    dsimp only
    go_wp2
    go_ret
    exact ⟨rfl, b1.trans (b2.mono b1.size)⟩
  · rw [hr]
    rw [hd] at K3
    clear hr hd
    go_enter Tryd.func41, Tryd.ntmps41
    go_wp2_with fail
    refine (K1.out _ (Below.refl _ _)).mono ?_
    rintro e w1 ⟨rfl, b1⟩
    dsimp only
    go_wp2_with fail
    refine (K2.out _ b1).mono ?_
    rintro e w2 ⟨rfl, b2⟩
    dsimp only
    go_wp2_with fail
    refine (K3.out _).mono ?_
    rintro e w3 ⟨rfl, rfl⟩
    dsimp only
    go_wp2
    go_ret
    exact ⟨rfl, b1.trans (b2.mono b1.size)⟩
end Go.Proofs.YteeigmgepahdhaaDoor
