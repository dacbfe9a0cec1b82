/- Segments, the reference: products, signs, squares, fractions. -/
import Derived.Test.YtmkhapgkiecmaaaSegP
import Derived.Test.YtmkhapgkiecmaaaChecked
import Derived.Test.YtmkhapgkiecmaaaBasic
import Derived.Test.YtmkhapgkiecmaaaBytes
import Derived.IntWalk
namespace Go.Proofs.Ytmkhapgkiecmaaa
open Go.RowKit
set_option maxHeartbeats 1000000 in
theorem spec_Cross (a b p : Pnt) (w : World) (ha : Crd a) (hb : Crd b) (hp : Crd p) : Calls Try.prog 134 #[.agg #[.int .i64 (a).x, .int .i64 (a).y, .int .i64 (b).x, .int .i64 (b).y], .agg #[.int .i64 (p).x, .int .i64 (p).y]] w fun e w' => e = .returned (.int .i64 (crossP a b p)) ∧ Below w.heap.size w w' := by
  obtain ⟨⟨⟨h1, h2⟩, h3, h4⟩, h5, h6⟩ := cross_bd ha hb hp
  obtain ⟨⟨_, _⟩, _, _⟩ := ha
  obtain ⟨⟨_, _⟩, _, _⟩ := hb
  obtain ⟨⟨_, _⟩, _, _⟩ := hp
  unfold crossP at h5 h6 ⊢
  obtain ⟨ax, ay⟩ := a
  obtain ⟨bx, bY⟩ := b
  obtain ⟨px, py⟩ := p
  dsimp only at *
  go_enter Try.func134, Try.ntmps134
  go_wp2
  go_ret
  exact ⟨rfl, ((Below.refl _ _).alloc (Nat.le_refl _) _).alloc (by simp) _⟩
set_option maxHeartbeats 1000000 in
theorem spec_Dot (a b p : Pnt) (w : World) (ha : Crd a) (hb : Crd b) (hp : Crd p) : Calls Try.prog 137 #[.agg #[.int .i64 (a).x, .int .i64 (a).y, .int .i64 (b).x, .int .i64 (b).y], .agg #[.int .i64 (p).x, .int .i64 (p).y]] w fun e w' => e = .returned (.int .i64 (dotP a b p)) ∧ Below w.heap.size w w' := by
  obtain ⟨⟨⟨h1, h2⟩, h3, h4⟩, h5, h6⟩ := dot_bd ha hb hp
  obtain ⟨⟨_, _⟩, _, _⟩ := ha
  obtain ⟨⟨_, _⟩, _, _⟩ := hb
  obtain ⟨⟨_, _⟩, _, _⟩ := hp
  unfold dotP at h5 h6 ⊢
  obtain ⟨ax, ay⟩ := a
  obtain ⟨bx, bY⟩ := b
  obtain ⟨px, py⟩ := p
  dsimp only at *
  go_enter Try.func137, Try.ntmps137
  go_wp2
  go_ret
  exact ⟨rfl, ((Below.refl _ _).alloc (Nat.le_refl _) _).alloc (by simp) _⟩
set_option maxHeartbeats 1000000 in
theorem spec_SqP (a b : Pnt) (w : World) (ha : Crd a) (hb : Crd b) : Calls Try.prog 136 #[.agg #[.int .i64 (a).x, .int .i64 (a).y], .agg #[.int .i64 (b).x, .int .i64 (b).y]] w fun e w' => e = .returned (.int .i64 (sqP a b)) ∧ Below w.heap.size w w' := by
  obtain ⟨⟨⟨h1, h2⟩, h3, h4⟩, h5, h6⟩ := sqP_bd ha hb
  obtain ⟨⟨_, _⟩, _, _⟩ := ha
  obtain ⟨⟨_, _⟩, _, _⟩ := hb
  unfold sqP at h5 h6 ⊢
  obtain ⟨ax, ay⟩ := a
  obtain ⟨bx, bY⟩ := b
  dsimp only at *
  go_enter Try.func136, Try.ntmps136
  go_wp2
  go_ret
  exact ⟨rfl, ((Below.refl _ _).alloc (Nat.le_refl _) _).alloc (by simp) _⟩
theorem spec_Sgn (n : Int) (w : World) : Calls Try.prog 133 #[.int .i64 n] w fun e w' => e = .returned (.int .i64 (sgnI n)) ∧ w = w' := by
  rcases sgn_cases n with ⟨h, e⟩ | ⟨h, e⟩ | ⟨rfl, e⟩
  all_goals
    rw [e]
    clear e
    go_enter Try.func133, Try.ntmps133
    go_wp2
    go_ret
    exact ⟨rfl, rfl⟩
theorem gcd_step {a b : Int} (ha : 0 ≤ a) (hb : 0 < b) : Nat.gcd b.natAbs (a.tmod b).natAbs = Nat.gcd a.natAbs b.natAbs ∧ 0 ≤ a.tmod b ∧ a.tmod b < b := by
  rw [Int.tmod_eq_emod_of_nonneg ha]
  refine ⟨?_, Int.emod_nonneg _ (by omega), Int.emod_lt_of_pos _ hb⟩
  obtain ⟨m, rfl⟩ := Int.eq_ofNat_of_zero_le ha
  obtain ⟨n, rfl⟩ := Int.eq_ofNat_of_zero_le (Int.le_of_lt hb)
  have e : ((m : Int) % (n : Int)).natAbs = m % n := by rw [← Int.natCast_emod, Int.natAbs_natCast]
  rw [e, Int.natAbs_natCast, Int.natAbs_natCast, Nat.gcd_comm n, ← Nat.gcd_rec, Nat.gcd_comm]
set_option maxHeartbeats 1000000 in
theorem spec_Gcd (a b : Int) (w : World) (ha : 0 ≤ a) (hb : 0 ≤ b) (ha2 : a ≤ 9000000000000000000) (hb2 : b ≤ 9000000000000000000) : Calls Try.prog 139 #[.int .i64 a, .int .i64 b] w fun e w' => e = .returned (.int .i64 (Nat.gcd a.natAbs b.natAbs : Int)) ∧ w = w' := by
  go_enter Try.func139, Try.ntmps139
  go_wp2
  go_loop [0, 1] (fun x y => ∃ p q : Int, x = .int .i64 p ∧ y = .int .i64 q ∧ 0 ≤ p ∧ 0 ≤ q ∧ p ≤ 9000000000000000000 ∧ q ≤ 9000000000000000000 ∧ Hid (Nat.gcd p.natAbs q.natAbs = Nat.gcd a.natAbs b.natAbs)) (fun _ y => (intOf y).toNat)
  case atStart => exact ⟨a, b, rfl, rfl, ha, hb, ha2, hb2, Lib.hid rfl⟩
  case round =>
    obtain ⟨p, q, rfl, rfl, hp, hq, hp2, hq2, hg⟩ := hrel
    by_cases h0 : q = 0
    · subst h0
      have hres : p = (Nat.gcd a.natAbs b.natAbs : Int) := by
        rw [← hg.out]
        show p = ((Nat.gcd p.natAbs 0 : Nat) : Int)
        rw [Nat.gcd_zero_right]
        omega
      have Hres := Lib.hid hres
      clear hres
      go_wp2
      go_ret
      exact ⟨ret_int Hres.out, rfl⟩
    · obtain ⟨k1, k2, k3⟩ := gcd_step hp (show 0 < q by omega)
      have hq0 : (q != 0) = true := by rw [bne_iff_ne]; exact h0
      have Hg := Lib.hid (k1.trans hg.out)
      clear hg k1
      generalize hm : p.tmod q = r at *
      go_wp2
      go_round
      case rel => exact ⟨q, r, rfl, rfl, hq, k2, hq2, by omega, Hg⟩
      case measure => simp [intOf]; omega
end Go.Proofs.Ytmkhapgkiecmaaa
