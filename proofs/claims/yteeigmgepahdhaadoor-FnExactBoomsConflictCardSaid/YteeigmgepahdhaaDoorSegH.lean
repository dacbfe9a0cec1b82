/- Segments, the program: sides, signs, squares, fractions. -/
import Derived.Test.YteeigmgepahdhaaDoorSegD
import Derived.Test.YteeigmgepahdhaaDoorShelf
namespace Go.Proofs.YteeigmgepahdhaaDoor
open Go.RowKit
set_option maxHeartbeats 1000000 in
theorem impl_Side (a b p : Pnt) (w : World) (ha : Crd a) (hb : Crd b) (hp : Crd p) : Calls Tryd.prog 111 #[.agg #[.int .i64 (a).x, .int .i64 (a).y], .agg #[.int .i64 (b).x, .int .i64 (b).y], .agg #[.int .i64 (p).x, .int .i64 (p).y]] w fun e w' => e = .returned (.int .i64 (crossP a b p)) ∧ Below w.heap.size w w' := by
  obtain ⟨⟨⟨h1, h2⟩, h3, h4⟩, h5, h6⟩ := cross_bd ha hb hp
  obtain ⟨⟨_, _⟩, _, _⟩ := ha
  obtain ⟨⟨_, _⟩, _, _⟩ := hb
  obtain ⟨⟨_, _⟩, _, _⟩ := hp
  unfold crossP at h5 h6 ⊢
  obtain ⟨ax, ay⟩ := a
  obtain ⟨bx, bY⟩ := b
  obtain ⟨px, py⟩ := p
  dsimp only at *
  go_enter Tryd.func111, Tryd.ntmps111
  go_wp2
  go_ret
  exact ⟨rfl, (((Below.refl _ _).alloc (Nat.le_refl _) _).alloc (by simp) _).alloc (by simp; omega) _⟩
theorem impl_NanI (a : Int) (w : World) : Calls Tryd.prog 126 #[.int .i64 a] w fun e w' => e = .returned (.bool false) ∧ w = w' := by
  have h : (a != a) = false := by simp
  go_enter Tryd.func126, Tryd.ntmps126
  go_wp2
  go_ret
  exact ⟨rfl, rfl⟩
theorem impl_CmpI (a b : Int) (w : World) : Calls Tryd.prog 122 #[.int .i64 a, .int .i64 b] w fun e w' => e = .returned (.int .i64 (sgnI (a - b))) ∧ w = w' := by
  rcases (by rcases sgn_cases (a - b) with ⟨h, e⟩ | ⟨h, e⟩ | ⟨h, e⟩ <;> rw [e] <;> omega : (a < b ∧ sgnI (a - b) = -1) ∨ (¬ a < b ∧ b < a ∧ sgnI (a - b) = 1) ∨ (¬ a < b ∧ ¬ b < a ∧ sgnI (a - b) = 0)) with ⟨h1, h2⟩ | ⟨h1, h1', h2⟩ | ⟨h1, h1', h2⟩
  all_goals
    rw [h2]
    clear h2
    go_enter Tryd.func122, Tryd.ntmps122
    go_wp2_with (go_at_call 126; refine (impl_NanI _ _).mono ?_; rintro e w' ⟨rfl, rfl⟩)
    go_ret
    exact ⟨rfl, rfl⟩
theorem impl_NanU (a : Int) (w : World) : Calls Tryd.prog 124 #[.int .u64 a] w fun e w' => e = .returned (.bool false) ∧ w = w' := by
  have h : (a != a) = false := by simp
  go_enter Tryd.func124, Tryd.ntmps124
  go_wp2
  go_ret
  exact ⟨rfl, rfl⟩
theorem impl_CmpU (a b : Int) (w : World) : Calls Tryd.prog 115 #[.int .u64 a, .int .u64 b] w fun e w' => e = .returned (.int .i64 (sgnI (a - b))) ∧ w = w' := by
  rcases (by rcases sgn_cases (a - b) with ⟨h, e⟩ | ⟨h, e⟩ | ⟨h, e⟩ <;> rw [e] <;> omega : (a < b ∧ sgnI (a - b) = -1) ∨ (¬ a < b ∧ b < a ∧ sgnI (a - b) = 1) ∨ (¬ a < b ∧ ¬ b < a ∧ sgnI (a - b) = 0)) with ⟨h1, h2⟩ | ⟨h1, h1', h2⟩ | ⟨h1, h1', h2⟩
  all_goals
    rw [h2]
    clear h2
    go_enter Tryd.func115, Tryd.ntmps115
    go_wp2_with (go_at_call 124; refine (impl_NanU _ _).mono ?_; rintro e w' ⟨rfl, rfl⟩)
    go_ret
    exact ⟨rfl, rfl⟩
theorem impl_Sgn (n : Int) (w : World) : Calls Tryd.prog 110 #[.int .i64 n] w fun e w' => e = .returned (.int .i64 (sgnI n)) ∧ w = w' := by
  have K := Lib.hid (fun w => impl_CmpI n 0 w)
  rw [Int.sub_zero] at K
  go_enter Tryd.func110, Tryd.ntmps110
  go_wp2_with (go_at_call 122; refine (K.out _).mono ?_; rintro e w' ⟨rfl, rfl⟩)
  go_ret
  exact ⟨rfl, rfl⟩
set_option maxHeartbeats 1000000 in
theorem impl_SqP (a b : Pnt) (w : World) (ha : Crd a) (hb : Crd b) : Calls Tryd.prog 90 #[.agg #[.int .i64 (a).x, .int .i64 (a).y], .agg #[.int .i64 (b).x, .int .i64 (b).y]] w fun e w' => e = .returned (.int .i64 (sqP a b)) ∧ Below w.heap.size w w' := by
  obtain ⟨⟨⟨h1, h2⟩, h3, h4⟩, h5, h6⟩ := sqP_bd ha hb
  obtain ⟨⟨_, _⟩, _, _⟩ := ha
  obtain ⟨⟨_, _⟩, _, _⟩ := hb
  unfold sqP at h5 h6 ⊢
  obtain ⟨ax, ay⟩ := a
  obtain ⟨bx, bY⟩ := b
  dsimp only at *
  have hw1 : IntKind.i64.wrap (ax - bx) = ax - bx := by rw [IntKind.wrap_i64]; omega
  have hw2 : IntKind.i64.wrap (ay - bY) = ay - bY := by rw [IntKind.wrap_i64]; omega
  go_enter Tryd.func90, Tryd.ntmps90
  go_wp2_with fail
  go_quiet (fail)
  go_wp2
  go_ret
  exact ⟨rfl, below_dN (((Below.refl _ _).alloc (Nat.le_refl _) _).alloc (by simp) _) _⟩
theorem dn_add (w : World) (m k : Nat) : (w.drewN m).drewN k = w.drewN (m + k) := by simp [World.drewN, Nat.add_assoc]
theorem impl_absN (n : Int) (w : World) (h : 0 ≤ n) (h2 : n ≤ 9000000000000000000) : Calls Tryd.prog 123 #[.int .i64 n] w fun e w' => e = .returned (.int .i64 n) ∧ w = w' := by
  go_enter Tryd.func123, Tryd.ntmps123
  go_wp2
  go_ret
  exact ⟨ret_int (by omega), rfl⟩
set_option maxRecDepth 100000 in
set_option maxHeartbeats 4000000 in
theorem impl_Red (n d : Int) (w : World) (hn : 0 ≤ n) (hd : 0 < d) (hn2 : n ≤ 9000000000000000000) (hd2 : d ≤ 9000000000000000000) : Calls Tryd.prog 112 #[.int .i64 n, .int .i64 d] w fun e w' => e = .returned (.agg #[.int .i64 (redF n d).1, .int .i64 (redF n d).2]) ∧ Below w.heap.size w w' := by
  have KA := Lib.hid (fun w => impl_absN n w hn hn2)
  obtain ⟨p, q, h1, h2, h3, h4, h5, h6, h7, h8⟩ := div_red hn hd rfl
  rw [h3]
  clear h3
  obtain ⟨g, hg⟩ : ∃ g, g = (Nat.gcd n.natAbs d.natAbs : Int) := ⟨_, rfl⟩
  rw [← hg] at h1 h2 h8
  have Hg := Lib.hid hg
  clear hg
  have H1 := Lib.hid h1
  have H2 := Lib.hid h2
  clear h1 h2
  go_enter Tryd.func112, Tryd.ntmps112
  go_wp2_with (go_at_call 123; refine (KA.out _).mono ?_; rintro e w1 ⟨rfl, rfl⟩)
  go_loopw [5, 6] (fun x y wr => ∃ u v : Int, x = .int .i64 u ∧ y = .int .i64 v ∧ 0 ≤ u ∧ 0 ≤ v ∧ u ≤ 9000000000000000000 ∧ v ≤ 9000000000000000000 ∧ Hid (Nat.gcd u.natAbs v.natAbs = Nat.gcd n.natAbs d.natAbs) ∧ Hid (∃ m, wr = (w.alloc (.cells #[.int .i64 0, .int .i64 0] 122)).drewN m)) (fun _ y _ => (intOf y).toNat)
  case atStart => exact ⟨n, d, rfl, rfl, hn, by omega, hn2, hd2, Lib.hid rfl, Lib.hid ⟨0, rfl⟩⟩
  case round =>
    obtain ⟨u, v, rfl, rfl, hu, hv, hu2, hv2, hgg, hwr⟩ := hrel
    obtain ⟨m, rfl⟩ := hwr.out
    clear hwr
    by_cases h0 : v = 0
    · subst h0
      have hres : u = g := by
        rw [Hg.out, ← hgg.out]
        show u = ((Nat.gcd u.natAbs 0 : Nat) : Int)
        rw [Nat.gcd_zero_right]
        omega
      subst hres
      have hg0 : ¬ u = 0 := by omega
      have h1 := H1.out
      have h2 := H2.out
      have hw1 : IntKind.i64.wrap p = p := by rw [IntKind.wrap_i64]; omega
      have hw2 : IntKind.i64.wrap q = q := by rw [IntKind.wrap_i64]; omega
      clear hgg Hg H1 H2
      go_wp2_with fail
      go_region_with (fail)
      go_wp2
      refine bodyPost_ret (v := .agg #[.int .i64 p, .int .i64 q]) (by simp [results, Tryd.results112, go_sem]) rfl ?_
      exact ⟨rfl, by go_grown; all_goals exact below_dN ((Below.refl _ _).alloc (Nat.le_refl _) _) _⟩
    · obtain ⟨k1, k2, k3⟩ := gcd_step hu (show 0 < v by omega)
      have Hgg := Lib.hid (k1.trans hgg.out)
      have hv0 : 0 < v := by omega
      clear hgg k1
      generalize hm : u.tmod v = r at *
      have hwr : IntKind.i64.wrap r = r := by rw [IntKind.wrap_i64]; omega
      go_wp2_with fail
      go_quiet (fail)
      go_wp2
      go_roundw
      case rel => exact ⟨v, r, rfl, rfl, hv, k2, hv2, by omega, Hgg, Lib.hid ⟨_, by first | rfl | exact dn_add _ _ _⟩⟩
      case measure => simp [intOf]; omega
end Go.Proofs.YteeigmgepahdhaaDoor
