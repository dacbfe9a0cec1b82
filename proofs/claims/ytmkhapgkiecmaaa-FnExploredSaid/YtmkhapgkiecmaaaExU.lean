/- Acts that are unsafe, in both packages. -/
import Derived.Test.YtmkhapgkiecmaaaExF
import Derived.Test.YtmkhapgkiecmaaaTabE
import Derived.Test.YtmkhapgkiecmaaaRunM
namespace Go.Proofs.Ytmkhapgkiecmaaa
open Go.RowKit
theorem tab_all {lo hi : Nat} {w : World} {v : Value} {rows : List SV} {T : Tab} (h : TabR lo hi w v rows T) (hT : TabOk T) :
    ∃ b off cap, v = .slice (some ⟨b, off, none⟩) 24 cap ∧ ∀ d, d < 24 → ∃ b2 off2 cap2, w.cell? ⟨b, off + d, none⟩ = some (.slice (some ⟨b2, off2, none⟩) 24 cap2) ∧ ∀ o, o < 24 → w.cell? ⟨b2, off2 + o, none⟩ = some (.bool (cellT T d o)) := by
  obtain ⟨b, off, cap, -, -, -, hv, -, -⟩ := tab_cell h hT (d := 0) (o := 0) (by omega) (by omega)
  refine ⟨b, off, cap, hv, fun d hd => ?_⟩
  obtain ⟨b1, off1, cap1, b2, off2, cap2, hv1, h1, -⟩ := tab_cell h hT hd (o := 0) (by omega)
  rw [hv] at hv1
  cases hv1
  refine ⟨b2, off2, cap2, h1, fun o ho => ?_⟩
  obtain ⟨b3, off3, cap3, b4, off4, cap4, hv3, h3, h4⟩ := tab_cell h hT hd ho
  rw [hv] at hv3
  cases hv3
  rw [h1] at h3
  cases h3
  exact h4
theorem unsafe_eq (T : Tab) {x : Wld} {y : Act1} {na nb pa pb : Nat} (h1 : (x.a + y.turnA) % 24 = na) (h2 : (x.b + y.turnB) % 24 = nb) (h3 : x.a = pa) (h4 : x.b = pb) :
    unsafeB T x y = (cellT T na nb || (decide (¬ y.turnA = 0) && decide (¬ y.turnB = 0) && (cellT T na pb || cellT T pa nb))) := by
  unfold unsafeB
  rw [h1, h2, h3, h4]
  rfl
set_option maxRecDepth 100000 in
set_option maxHeartbeats 16000000 in
theorem spec_Unsafe (tv : Value) (rows : List SV) (T : Tab) (lo hi : Nat) (x : Wld) (y : Act1) (w : World) (h : TabR lo hi w tv rows T) (hT : TabOk T) (hx : x.in_) (h1 : Trn y.turnA) (h2 : Trn y.turnB) :
    Calls Try.prog 84 #[tv, .agg x.cells.toArray, .agg y.cells.toArray] w fun e w' => e = .returned (.bool (unsafeB T x y)) ∧ Below w.heap.size w w' := by
  obtain ⟨b, off, cap, rfl, hall⟩ := tab_all h hT
  clear h hT
  obtain ⟨xa, xb, sa, sb, ga, gb⟩ := x
  obtain ⟨tA, tB, lA, lB⟩ := y
  obtain ⟨⟨d1, d1'⟩, ⟨d2, d2'⟩, -⟩ := hx
  unfold Trn at h1 h2
  obtain ⟨t1, t1'⟩ := h1
  obtain ⟨t2, t2'⟩ := h2
  simp only at *
  obtain ⟨pa, rfl⟩ : ∃ p : Nat, xa = p := ⟨xa.toNat, by omega⟩
  obtain ⟨pb, rfl⟩ : ∃ p : Nat, xb = p := ⟨xb.toNat, by omega⟩
  obtain ⟨na, hna⟩ : ∃ p : Nat, ((pa : Int) + tA) % 24 = p := ⟨(((pa : Int) + tA) % 24).toNat, by omega⟩
  obtain ⟨nb, hnb⟩ : ∃ p : Nat, ((pb : Int) + tB) % 24 = p := ⟨(((pb : Int) + tB) % 24).toNat, by omega⟩
  rw [unsafe_eq T (na := na) (nb := nb) (pa := pa) (pb := pb) hna hnb rfl rfl]
  have hna24 : na < 24 := by omega
  have hnb24 : nb < 24 := by omega
  have hpa24 : pa < 24 := by omega
  have hpb24 : pb < 24 := by omega
  obtain ⟨b1, off1, cap1, r1, hr1⟩ := hall na hna24
  obtain ⟨b2, off2, cap2, r2, hr2⟩ := hall pa hpa24
  have k1 := hr1 nb hnb24
  have k2 := hr1 pb hpb24
  have k3 := hr2 nb hnb24
  have l0 := World.block_lt_of_cell? w _ r1
  have l1 := World.block_lt_of_cell? w _ k1
  have l2 := World.block_lt_of_cell? w _ k3
  clear hr1 hr2 hall
  have hs1 : IntKind.i64.wrap ((pa : Int) + tA) = (pa : Int) + tA := IntWalk.i64_in _ (by omega)
  have hs2 : IntKind.i64.wrap ((pb : Int) + tB) = (pb : Int) + tB := IntWalk.i64_in _ (by omega)
  have HM1 := Lib.hid (fun w => spec_Mod ((pa : Int) + tA) w ⟨by omega, by omega⟩)
  have HM2 := Lib.hid (fun w => spec_Mod ((pb : Int) + tB) w ⟨by omega, by omega⟩)
  rw [hna] at HM1
  rw [hnb] at HM2
  clear hna hnb
  have hB0 : ∀ A B : Obj, Below w.heap.size w ((w.alloc A).alloc B) := fun A B => ((Below.refl _ w).alloc (Nat.le_refl _) _).alloc (by simp) _
  have HB0 := Lib.hid hB0
  clear hB0
  simp only [Wld.cells, Act1.cells]
  generalize cellT T na nb = f1 at *
  generalize cellT T na pb = f2 at *
  generalize cellT T pa nb = f3 at *
  cases f1 with
  | true =>
    rw [Bool.true_or]
    go_enter Try.func84, Try.ntmps84
    go_wp2_with (first | (go_at_call 72; first | (refine (HM1.out _).mono ?_; rintro e w' ⟨rfl, rfl⟩) | (refine (HM2.out _).mono ?_; rintro e w' ⟨rfl, rfl⟩)))
    go_wp2
    go_ret
    exact ⟨rfl, by first | exact below_dN (HB0.out _ _) _ | exact below_dN (below_dN (HB0.out _ _) _) _ | exact HB0.out _ _⟩
  | false =>
    rw [Bool.false_or]
    by_cases hA : tA = 0
    · have hA2 : (tA != 0) = false := by simp; exact hA
      rw [decide_eq_false (show ¬ ¬ tA = 0 from fun h => h hA), Bool.false_and, Bool.false_and]
      clear hA
      go_enter Try.func84, Try.ntmps84
      go_wp2_with (first | (go_at_call 72; first | (refine (HM1.out _).mono ?_; rintro e w' ⟨rfl, rfl⟩) | (refine (HM2.out _).mono ?_; rintro e w' ⟨rfl, rfl⟩)))
      go_quiet (fail)
      go_wp2
      go_ret
      exact ⟨rfl, by first | exact below_dN (HB0.out _ _) _ | exact below_dN (below_dN (HB0.out _ _) _) _ | exact HB0.out _ _⟩
    · have hA2 : (tA != 0) = true := by simp; exact hA
      rw [decide_eq_true hA, Bool.true_and]
      clear hA
      by_cases hB : tB = 0
      · have hB2 : (tB != 0) = false := by simp; exact hB
        rw [decide_eq_false (show ¬ ¬ tB = 0 from fun h => h hB), Bool.false_and]
        clear hB
        go_enter Try.func84, Try.ntmps84
        go_wp2_with (first | (go_at_call 72; first | (refine (HM1.out _).mono ?_; rintro e w' ⟨rfl, rfl⟩) | (refine (HM2.out _).mono ?_; rintro e w' ⟨rfl, rfl⟩)))
        go_quiet (fail)
        go_wp2
        go_ret
        exact ⟨rfl, by first | exact below_dN (HB0.out _ _) _ | exact below_dN (below_dN (HB0.out _ _) _) _ | exact HB0.out _ _⟩
      · have hB2 : (tB != 0) = true := by simp; exact hB
        rw [decide_eq_true hB, Bool.true_and]
        clear hB
        cases f2 with
        | true =>
          rw [Bool.true_or]
          go_enter Try.func84, Try.ntmps84
          go_wp2_with (first | (go_at_call 72; first | (refine (HM1.out _).mono ?_; rintro e w' ⟨rfl, rfl⟩) | (refine (HM2.out _).mono ?_; rintro e w' ⟨rfl, rfl⟩)))
          go_quiet (fail)
          go_wp2
          go_ret
          exact ⟨rfl, by first | exact below_dN (HB0.out _ _) _ | exact below_dN (below_dN (HB0.out _ _) _) _ | exact HB0.out _ _⟩
        | false =>
          rw [Bool.false_or]
          go_enter Try.func84, Try.ntmps84
          go_wp2_with (first | (go_at_call 72; first | (refine (HM1.out _).mono ?_; rintro e w' ⟨rfl, rfl⟩) | (refine (HM2.out _).mono ?_; rintro e w' ⟨rfl, rfl⟩)))
          go_quiet (fail)
          go_wp2
          go_ret
          exact ⟨rfl, by first | exact below_dN (HB0.out _ _) _ | exact below_dN (below_dN (HB0.out _ _) _) _ | exact HB0.out _ _⟩
set_option maxRecDepth 100000 in
set_option maxHeartbeats 16000000 in
theorem impl_unsafe (tv : Value) (rows : List SV) (T : Tab) (lo hi : Nat) (x : Wld) (y : Act1) (w : World) (h : TabR lo hi w tv rows T) (hT : TabOk T) (hx : x.in_) (h1 : Trn y.turnA) (h2 : Trn y.turnB) :
    Calls Try.prog 77 #[.agg x.cells.toArray, tv, .agg y.cells.toArray] w fun e w' => e = .returned (.bool (unsafeB T x y)) ∧ Below w.heap.size w w' := by
  obtain ⟨b, off, cap, rfl, hall⟩ := tab_all h hT
  clear h hT
  obtain ⟨xa, xb, sa, sb, ga, gb⟩ := x
  obtain ⟨tA, tB, lA, lB⟩ := y
  obtain ⟨⟨d1, d1'⟩, ⟨d2, d2'⟩, -⟩ := hx
  unfold Trn at h1 h2
  obtain ⟨t1, t1'⟩ := h1
  obtain ⟨t2, t2'⟩ := h2
  simp only at *
  obtain ⟨pa, rfl⟩ : ∃ p : Nat, xa = p := ⟨xa.toNat, by omega⟩
  obtain ⟨pb, rfl⟩ : ∃ p : Nat, xb = p := ⟨xb.toNat, by omega⟩
  obtain ⟨na, hna⟩ : ∃ p : Nat, ((pa : Int) + tA) % 24 = p := ⟨(((pa : Int) + tA) % 24).toNat, by omega⟩
  obtain ⟨nb, hnb⟩ : ∃ p : Nat, ((pb : Int) + tB) % 24 = p := ⟨(((pb : Int) + tB) % 24).toNat, by omega⟩
  rw [unsafe_eq T (na := na) (nb := nb) (pa := pa) (pb := pb) hna hnb rfl rfl]
  have hna24 : na < 24 := by omega
  have hnb24 : nb < 24 := by omega
  have hpa24 : pa < 24 := by omega
  have hpb24 : pb < 24 := by omega
  obtain ⟨b1, off1, cap1, r1, hr1⟩ := hall na hna24
  obtain ⟨b2, off2, cap2, r2, hr2⟩ := hall pa hpa24
  have k1 := hr1 nb hnb24
  have k2 := hr1 pb hpb24
  have k3 := hr2 nb hnb24
  have l0 := World.block_lt_of_cell? w _ r1
  have l1 := World.block_lt_of_cell? w _ k1
  have l2 := World.block_lt_of_cell? w _ k3
  clear hr1 hr2 hall
  have hs1 : IntKind.i64.wrap ((pa : Int) + tA) = (pa : Int) + tA := IntWalk.i64_in _ (by omega)
  have hs2 : IntKind.i64.wrap ((pb : Int) + tB) = (pb : Int) + tB := IntWalk.i64_in _ (by omega)
  have HM1 := Lib.hid (fun w => impl_turned (pa : Int) tA w ⟨by omega, by omega⟩)
  have HM2 := Lib.hid (fun w => impl_turned (pb : Int) tB w ⟨by omega, by omega⟩)
  rw [hna] at HM1
  rw [hnb] at HM2
  clear hna hnb
  have hB0 : ∀ A B : Obj, Below w.heap.size w ((w.alloc A).alloc B) := fun A B => ((Below.refl _ w).alloc (Nat.le_refl _) _).alloc (by simp) _
  have HB0 := Lib.hid hB0
  clear hB0
  simp only [Wld.cells, Act1.cells]
  generalize cellT T na nb = f1 at *
  generalize cellT T na pb = f2 at *
  generalize cellT T pa nb = f3 at *
  cases f1 with
  | true =>
    rw [Bool.true_or]
    go_enter Try.func77, Try.ntmps77
    go_wp2_with fail
    go_quiet (first | (go_at_call_of 98 tA; exact Calls.quiet_of_same (Calls.turn (HM1.out _))) | (go_at_call_of 98 tB; exact Calls.quiet_of_same (Calls.turn (HM2.out _))))
    go_wp2_with fail
    go_quiet (fail)
    go_wp2
    go_ret
    exact ⟨rfl, by first | exact below_dN (HB0.out _ _) _ | exact below_dN (below_dN (HB0.out _ _) _) _ | exact HB0.out _ _⟩
  | false =>
    rw [Bool.false_or]
    by_cases hA : tA = 0
    · have hA2 : (tA != 0) = false := by simp; exact hA
      rw [decide_eq_false (show ¬ ¬ tA = 0 from fun h => h hA), Bool.false_and, Bool.false_and]
      clear hA
      go_enter Try.func77, Try.ntmps77
      go_wp2_with fail
      go_quiet (first | (go_at_call_of 98 tA; exact Calls.quiet_of_same (Calls.turn (HM1.out _))) | (go_at_call_of 98 tB; exact Calls.quiet_of_same (Calls.turn (HM2.out _))))
      go_wp2_with fail
      go_quiet (fail)
      go_wp2
      go_ret
      exact ⟨rfl, by first | exact below_dN (HB0.out _ _) _ | exact below_dN (below_dN (HB0.out _ _) _) _ | exact HB0.out _ _⟩
    · have hA2 : (tA != 0) = true := by simp; exact hA
      rw [decide_eq_true hA, Bool.true_and]
      clear hA
      by_cases hB : tB = 0
      · have hB2 : (tB != 0) = false := by simp; exact hB
        rw [decide_eq_false (show ¬ ¬ tB = 0 from fun h => h hB), Bool.false_and]
        clear hB
        go_enter Try.func77, Try.ntmps77
        go_wp2_with fail
        go_quiet (first | (go_at_call_of 98 tA; exact Calls.quiet_of_same (Calls.turn (HM1.out _))) | (go_at_call_of 98 tB; exact Calls.quiet_of_same (Calls.turn (HM2.out _))))
        go_wp2_with fail
        go_quiet (fail)
        go_wp2
        go_ret
        exact ⟨rfl, by first | exact below_dN (HB0.out _ _) _ | exact below_dN (below_dN (HB0.out _ _) _) _ | exact HB0.out _ _⟩
      · have hB2 : (tB != 0) = true := by simp; exact hB
        rw [decide_eq_true hB, Bool.true_and]
        clear hB
        cases f2 with
        | true =>
          rw [Bool.true_or]
          go_enter Try.func77, Try.ntmps77
          go_wp2_with fail
          go_quiet (first | (go_at_call_of 98 tA; exact Calls.quiet_of_same (Calls.turn (HM1.out _))) | (go_at_call_of 98 tB; exact Calls.quiet_of_same (Calls.turn (HM2.out _))))
          go_wp2_with fail
          go_quiet (fail)
          go_wp2
          go_ret
          exact ⟨rfl, by first | exact below_dN (HB0.out _ _) _ | exact below_dN (below_dN (HB0.out _ _) _) _ | exact HB0.out _ _⟩
        | false =>
          rw [Bool.false_or]
          go_enter Try.func77, Try.ntmps77
          go_wp2_with fail
          go_quiet (first | (go_at_call_of 98 tA; exact Calls.quiet_of_same (Calls.turn (HM1.out _))) | (go_at_call_of 98 tB; exact Calls.quiet_of_same (Calls.turn (HM2.out _))))
          go_wp2_with fail
          go_quiet (fail)
          go_wp2
          go_ret
          exact ⟨rfl, by first | exact below_dN (HB0.out _ _) _ | exact below_dN (below_dN (HB0.out _ _) _) _ | exact HB0.out _ _⟩
end Go.Proofs.Ytmkhapgkiecmaaa
