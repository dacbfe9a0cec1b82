/- Segments, the program: which of two fractions is less; how segments meet. -/
import Derived.Test.YteeigmgepahdhaaDoorSegI
namespace Go.Proofs.YteeigmgepahdhaaDoor
open Go.RowKit
def or2 (a b : Int) : Int := if a = 0 then b else a
set_option maxHeartbeats 2000000 in
theorem impl_Or2 (a b : Int) (p : Nat) (w : World) (c0 : w.cell? ⟨p, 0, none⟩ = some (.int .i64 a)) (c1 : w.cell? ⟨p, 1, none⟩ = some (.int .i64 b)) :
    Calls Tryd.prog 114 #[.slice (some ⟨p, 0, none⟩) 2 2] w fun e w' => e = .returned (.int .i64 (or2 a b)) ∧ w = w' := by
  have C0 := Lib.hid c0
  have C1 := Lib.hid c1
  obtain ⟨r, hr⟩ : ∃ r, r = or2 a b := ⟨_, rfl⟩
  rw [← hr]
  have Hr := Lib.hid (show r = if a = 0 then b else a from hr)
  clear c0 c1 hr
  go_enter Tryd.func114, Tryd.ntmps114
  go_wp2
  go_loopw [8] (fun i wr => ∃ k : Nat, k ≤ 2 ∧ i = .int .i64 k ∧ wr = w ∧ Hid (0 < k → a = 0) ∧ Hid (1 < k → b = 0)) (fun i _ => 2 - (intOf i).toNat)
  case atStart => exact ⟨0, Nat.zero_le _, rfl, rfl, Lib.hid (fun h => absurd h (by omega)), Lib.hid (fun h => absurd h (by omega))⟩
  case round =>
    obtain ⟨k, hk, rfl, rfl, hz, hy⟩ := hrel
    rcases (by omega : k = 0 ∨ k = 1 ∨ k = 2) with rfl | rfl | rfl
    · have c0 := C0.out
      clear hz hy
      by_cases ha : a = 0
      · subst ha
        simp only [Int.natCast_zero] at *
        go_wp2
        go_roundw
        case rel => exact ⟨1, by omega, rfl, by first | rfl | trivial, Lib.hid (fun _ => by first | rfl | trivial), Lib.hid (fun h => absurd h (by omega))⟩
        case measure => simp [intOf]
      · have hb : (a != 0) = true := by simpa using ha
        have hr := Hr.out
        rw [if_neg ha] at hr
        subst hr
        clear ha Hr
        simp only [Int.natCast_zero] at *
        go_wp2
        go_ret
        exact ⟨rfl, rfl⟩
    · have c1 := C1.out
      have ha := hz.out (by omega)
      have hr := Hr.out
      rw [if_pos ha] at hr
      subst hr
      have HZ := Lib.hid ha
      clear ha Hr hz
      by_cases hb0 : r = 0
      · subst hb0
        simp only [Int.natCast_one] at *
        go_wp2
        go_roundw
        case rel => exact ⟨2, by omega, rfl, by first | rfl | trivial, Lib.hid (fun _ => HZ.out), Lib.hid (fun _ => by first | rfl | trivial)⟩
        case measure => simp [intOf]
      · have hb : (r != 0) = true := by simpa using hb0
        clear hb0
        simp only [Int.natCast_one] at *
        go_wp2
        go_ret
        exact ⟨rfl, rfl⟩
    · have ha := hz.out (by omega)
      have hb := hy.out (by omega)
      have hr := Hr.out
      rw [if_pos ha, hb] at hr
      subst hr
      clear ha hb Hr hz hy
      go_wp2
      go_ret
      exact ⟨rfl, rfl⟩
theorem cmp_less {x y : Nat} : or2 (sgnI (((x / 18446744073709551616 : Nat) : Int) - ((y / 18446744073709551616 : Nat) : Int))) (sgnI (((x % 18446744073709551616 : Nat) : Int) - ((y % 18446744073709551616 : Nat) : Int))) < 0 ↔ x < y := by
  unfold or2
  rcases sgn_cases (((x / 18446744073709551616 : Nat) : Int) - ((y / 18446744073709551616 : Nat) : Int)) with ⟨h, e⟩ | ⟨h, e⟩ | ⟨h, e⟩
  · rw [e, if_neg (by decide)]
    omega
  · rw [e, if_neg (by decide)]
    omega
  · rw [e, if_pos rfl]
    rcases sgn_cases (((x % 18446744073709551616 : Nat) : Int) - ((y % 18446744073709551616 : Nat) : Int)) with ⟨h2, e2⟩ | ⟨h2, e2⟩ | ⟨h2, e2⟩ <;> rw [e2] <;> omega
/-- What comparing answers: below zero where the first one is less. -/
def CmpRes (f g : Int × Int) (w : World) (e : Ending) (w' : World) : Prop := ∃ c : Int, e = .returned (.int .i64 c) ∧ (c < 0 ↔ ltF f g) ∧ Below w.heap.size w w'
set_option maxRecDepth 100000 in
set_option maxHeartbeats 4000000 in
theorem impl_Less (f g : Int × Int) (w : World) (h1 : 0 ≤ f.1 ∧ f.1 ≤ 9000000000000000000) (h2 : 0 < f.2 ∧ f.2 ≤ 9000000000000000000) (h3 : 0 ≤ g.1 ∧ g.1 ≤ 9000000000000000000) (h4 : 0 < g.2 ∧ g.2 ≤ 9000000000000000000) :
    Calls Tryd.prog 101 #[.agg #[.int .i64 f.1, .int .i64 f.2], .agg #[.int .i64 g.1, .int .i64 g.2]] w (CmpRes f g w) := by
  obtain ⟨f1, f2⟩ := f
  obtain ⟨g1, g2⟩ := g
  dsimp only at *
  obtain ⟨a, rfl⟩ := Int.eq_ofNat_of_zero_le h1.1
  obtain ⟨b, rfl⟩ := Int.eq_ofNat_of_zero_le (Int.le_of_lt h2.1)
  obtain ⟨c, rfl⟩ := Int.eq_ofNat_of_zero_le h3.1
  obtain ⟨d, rfl⟩ := Int.eq_ofNat_of_zero_le (Int.le_of_lt h4.1)
  have M1 := Lib.hid (fun w => (Tryd.bits_Mul64 a d (by omega) (by omega) w).mono (fun e w' h => (⟨h.1, h.2.symm⟩ : e = _ ∧ w = w')))
  have M2 := Lib.hid (fun w => (Tryd.bits_Mul64 c b (by omega) (by omega) w).mono (fun e w' h => (⟨h.1, h.2.symm⟩ : e = _ ∧ w = w')))
  have Hl := Lib.hid (show or2 (sgnI (((a * d / 18446744073709551616 : Nat) : Int) - ((c * b / 18446744073709551616 : Nat) : Int))) (sgnI (((a * d % 18446744073709551616 : Nat) : Int) - ((c * b % 18446744073709551616 : Nat) : Int))) < 0 ↔ ltF ((a : Int), (b : Int)) ((c : Int), (d : Int)) by
    rw [cmp_less]
    unfold ltF
    dsimp only
    rw [← Int.natCast_mul, ← Int.natCast_mul]
    omega)
  generalize a * d / 18446744073709551616 = p1 at *
  generalize a * d % 18446744073709551616 = p2 at *
  generalize c * b / 18446744073709551616 = q1 at *
  generalize c * b % 18446744073709551616 = q2 at *
  have C1 := Lib.hid (fun w => impl_CmpU p1 q1 w)
  have C2 := Lib.hid (fun w => impl_CmpU p2 q2 w)
  generalize sgnI ((p1 : Int) - (q1 : Int)) = s1 at *
  generalize sgnI ((p2 : Int) - (q2 : Int)) = s2 at *
  have e1 : IntKind.u64.wrap (a : Int) = a := by rw [IntKind.wrap_u64]; omega
  have e2 : IntKind.u64.wrap (b : Int) = b := by rw [IntKind.wrap_u64]; omega
  have e3 : IntKind.u64.wrap (c : Int) = c := by rw [IntKind.wrap_u64]; omega
  have e4 : IntKind.u64.wrap (d : Int) = d := by rw [IntKind.wrap_u64]; omega
  clear h1 h2 h3 h4
  go_enter Tryd.func101, Tryd.ntmps101
  go_wp2_with (first | (go_at_call_of 113 (Value.int IntKind.u64 (a : Int)); refine (M1.out _).mono ?_; rintro e w' ⟨rfl, rfl⟩) | (go_at_call_of 113 (Value.int IntKind.u64 (c : Int)); refine (M2.out _).mono ?_; rintro e w' ⟨rfl, rfl⟩) | (go_at_call_of 115 (Value.int IntKind.u64 (p1 : Int)); refine (C1.out _).mono ?_; rintro e w' ⟨rfl, rfl⟩) | (go_at_call_of 115 (Value.int IntKind.u64 (p2 : Int)); refine (C2.out _).mono ?_; rintro e w' ⟨rfl, rfl⟩) | (go_at_call 114; refine (impl_Or2 s1 s2 _ _ ((Lib.cell_of_heap (box3_2 _ _ _ _) 0).trans rfl) ((Lib.cell_of_heap (box3_2 _ _ _ _) 1).trans rfl)).mono ?_; rintro e w' ⟨rfl, rfl⟩))
  go_ret
  exact ⟨_, rfl, Hl.out, (((Below.refl _ _).alloc (Nat.le_refl _) _).alloc (by simp) _).alloc (by simp; omega) _⟩
end Go.Proofs.YteeigmgepahdhaaDoor
