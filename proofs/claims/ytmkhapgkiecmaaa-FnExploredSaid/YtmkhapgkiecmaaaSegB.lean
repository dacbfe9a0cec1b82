/- Segments, the reference: boxes, fractions. -/
import Derived.Test.YtmkhapgkiecmaaaSegA
import Derived.Test.YtmkhapgkiecmaaaVec
import Derived.Handy
namespace Go.Proofs.Ytmkhapgkiecmaaa
open Go.RowKit
theorem spec_MinI (a b : Int) (w : World) : Calls Try.prog 126 #[.int .i64 a, .int .i64 b] w fun e w' => e = .returned (.int .i64 (min a b)) ∧ w = w' := by
  rcases (by omega : (a < b ∧ min a b = a) ∨ (¬ a < b ∧ min a b = b)) with ⟨h, h2⟩ | ⟨h, h2⟩
  all_goals
    rw [h2]
    clear h2
    go_enter Try.func126, Try.ntmps126
    go_wp2
    go_ret
    exact ⟨rfl, rfl⟩
theorem spec_MaxI (a b : Int) (w : World) : Calls Try.prog 125 #[.int .i64 a, .int .i64 b] w fun e w' => e = .returned (.int .i64 (max a b)) ∧ w = w' := by
  rcases (by omega : (b < a ∧ max a b = a) ∨ (¬ b < a ∧ max a b = b)) with ⟨h, h2⟩ | ⟨h, h2⟩
  all_goals
    rw [h2]
    clear h2
    go_enter Try.func125, Try.ntmps125
    go_wp2
    go_ret
    exact ⟨rfl, rfl⟩
theorem div_red {n d g : Int} (hn : 0 ≤ n) (hd : 0 < d) (hg : g = (Nat.gcd n.natAbs d.natAbs : Int)) : ∃ p q : Int, n.tdiv g = p ∧ d.tdiv g = q ∧ redF n d = (p, q) ∧ 0 ≤ p ∧ p ≤ n ∧ 1 ≤ q ∧ q ≤ d ∧ 0 < g := by
  obtain ⟨h1, -, -, -, h2, h3, h4, h5⟩ := red_eq hg hn hd
  refine ⟨n / g, d / g, Int.tdiv_eq_ediv_of_nonneg hn, Int.tdiv_eq_ediv_of_nonneg (by omega), ?_, h2, h3, h4, h5, h1⟩
  unfold redF
  rw [← hg]
set_option maxRecDepth 100000 in
set_option maxHeartbeats 2000000 in
theorem spec_Red (n d : Int) (w : World) (hn : 0 ≤ n) (hd : 0 < d) (hn2 : n ≤ 9000000000000000000) (hd2 : d ≤ 9000000000000000000) : Calls Try.prog 138 #[.int .i64 n, .int .i64 d] w fun e w' => e = .returned (.agg #[.int .i64 (redF n d).1, .int .i64 (redF n d).2]) ∧ Below w.heap.size w w' := by
  have hG := Lib.hid (fun w => spec_Gcd n d w hn (Int.le_of_lt hd) hn2 hd2)
  obtain ⟨p, q, h1, h2, h3, h4, h5, h6, h7, h8⟩ := div_red hn hd rfl
  rw [h3]
  clear h3
  generalize (Nat.gcd n.natAbs d.natAbs : Int) = g at *
  have hg0 : ¬ g = 0 := by omega
  have hw1 : IntKind.i64.wrap p = p := by rw [IntKind.wrap_i64]; omega
  have hw2 : IntKind.i64.wrap q = q := by rw [IntKind.wrap_i64]; omega
  go_enter Try.func138, Try.ntmps138
  go_wp2_with (go_at_call 139; refine (hG.out _).mono ?_; rintro e w1 ⟨rfl, rfl⟩)
  go_region_with (fail)
  go_wp2
  exact bodyPost_ret (v := .agg #[.int .i64 p, .int .i64 q]) (by simp [results, Try.results138, go_sem]) rfl ⟨rfl, by go_grown⟩
/-- The sum of the denominators in two boxes. -/
def densOf (p q : Nat) (w : World) : Nat := match w.cell? ⟨p, 1, none⟩, w.cell? ⟨q, 1, none⟩ with | some (.int _ b), some (.int _ d) => (b + d).toNat | _, _ => 0
theorem dens_lt {p q : Nat} {w : World} {b d : Int} (h : w.cell? ⟨p, 1, none⟩ = some (.int .i64 b)) (h2 : w.cell? ⟨q, 1, none⟩ = some (.int .i64 d)) : densOf p q w = (b + d).toNat := by
  unfold densOf
  rw [h, h2]
theorem quo_rem {a b : Int} (ha : 0 ≤ a) (hb : 0 < b) : ∃ p x : Int, a.tdiv b = p ∧ a.tmod b = x ∧ a / b = p ∧ a % b = x ∧ 0 ≤ p ∧ p ≤ a ∧ 0 ≤ x ∧ x < b :=
  ⟨a / b, a % b, Int.tdiv_eq_ediv_of_nonneg ha, Int.tmod_eq_emod_of_nonneg ha, rfl, rfl, Int.ediv_nonneg ha (by omega), Int.ediv_le_self _ ha, Int.emod_nonneg _ (by omega), Int.emod_lt_of_pos _ hb⟩
set_option maxRecDepth 100000 in
set_option maxHeartbeats 4000000 in
theorem spec_Less (f g : Int × Int) (w : World) (h1 : 0 ≤ f.1 ∧ f.1 ≤ 9000000000000000000) (h2 : 0 < f.2 ∧ f.2 ≤ 9000000000000000000) (h3 : 0 ≤ g.1 ∧ g.1 ≤ 9000000000000000000) (h4 : 0 < g.2 ∧ g.2 ≤ 9000000000000000000) :
    Calls Try.prog 127 #[.agg #[.int .i64 f.1, .int .i64 f.2], .agg #[.int .i64 g.1, .int .i64 g.2]] w fun e w' => e = .returned (.bool (decide (ltF f g))) ∧ Below w.heap.size w w' := by
  obtain ⟨r, hr⟩ : ∃ r, r = decide (ltF f g) := ⟨_, rfl⟩
  have Hr := Lib.hid (show r = true ↔ ltF f g by rw [hr]; exact decide_eq_true_iff)
  rw [← hr]
  clear hr
  obtain ⟨f1, f2⟩ := f
  obtain ⟨g1, g2⟩ := g
  dsimp only at *
  obtain ⟨h1, h1'⟩ := h1
  obtain ⟨h2, h2'⟩ := h2
  obtain ⟨h3, h3'⟩ := h3
  obtain ⟨h4, h4'⟩ := h4
  go_enter Try.func127, Try.ntmps127
  go_wp2
  go_loopw [5] (fun _ wr => ∃ a b c d : Int, 0 ≤ a ∧ a ≤ 9000000000000000000 ∧ 0 < b ∧ b ≤ 9000000000000000000 ∧ 0 ≤ c ∧ c ≤ 9000000000000000000 ∧ 0 < d ∧ d ≤ 9000000000000000000 ∧ Below w.heap.size w wr ∧ Hid (wr.heap[w.heap.size]? = some (.cells #[.int .i64 a, .int .i64 b] 155 (0, 0))) ∧ Hid (wr.heap[w.heap.size + 1]? = some (.cells #[.int .i64 c, .int .i64 d] 155 (0, 0))) ∧ Hid (r = true ↔ ltF (a, b) (c, d))) (fun _ wr => densOf w.heap.size (w.heap.size + 1) wr)
  case atStart => exact ⟨f1, f2, g1, g2, h1, h1', h2, h2', h3, h3', h4, h4', ((Below.refl _ w).alloc (Nat.le_refl _) _).alloc (by simp) _, Lib.hid (box2_0 _ _ _), Lib.hid (box2_1 _ _ _), Hr⟩
  case round =>
    clear Hr h1 h1' h2 h2' h3 h3' h4 h4'
    obtain ⟨a, b, c, d, ha, ha2, hb, hb2, hc, hc2, hd, hd2, hB, g0, g1, hlt⟩ := hrel
    have a0 : wr.cell? ⟨w.heap.size, 0, none⟩ = some (.int .i64 a) := (Lib.cell_of_heap g0.out 0).trans rfl
    have a1 : wr.cell? ⟨w.heap.size, 1, none⟩ = some (.int .i64 b) := (Lib.cell_of_heap g0.out 1).trans rfl
    have c0 : wr.cell? ⟨w.heap.size + 1, 0, none⟩ = some (.int .i64 c) := (Lib.cell_of_heap g1.out 0).trans rfl
    have c1 : wr.cell? ⟨w.heap.size + 1, 1, none⟩ = some (.int .i64 d) := (Lib.cell_of_heap g1.out 1).trans rfl
    have f0 : ∀ j, wr.frozen? ⟨w.heap.size, j, none⟩ = false := fun j => Lib.frozen_of_heap g0.out j
    have f1 : ∀ j, wr.frozen? ⟨w.heap.size + 1, j, none⟩ = false := fun j => Lib.frozen_of_heap g1.out j
    have hBs := hB.size
    have hz1 := World.block_lt_of_cell? wr _ a0
    have hz2 := World.block_lt_of_cell? wr _ c0
    have Hden := Lib.hid (dens_lt a1 c1)
    obtain ⟨p, x, p1, p2, p3, p4, p5, p6, p7, p8⟩ := quo_rem ha hb
    obtain ⟨q, y, q1, q2, q3, q4, q5, q6, q7, q8⟩ := quo_rem hc hd
    have hb0 : ¬ b = 0 := by omega
    have hd0 : ¬ d = 0 := by omega
    by_cases hpq : p = q
    · subst hpq
      have hsame := (less_same (p3.trans q3.symm)).symm.trans hlt.out.symm
      rw [p4, q4] at hsame
      clear p3 p4 q3 q4 hlt
      by_cases hx0 : x = 0 ∨ y = 0
      · have hfin := (less_zero hb hd p7 q7 hx0).symm.trans hsame
        have hrr : r = (decide (x = 0) && decide (0 < y)) := by
          rw [Bool.eq_iff_iff, Bool.and_eq_true, decide_eq_true_iff, decide_eq_true_iff]
          exact hfin.symm
        have Hrr := Lib.hid hrr
        clear hfin hsame hrr
        by_cases hx : x = 0
        · subst hx
          by_cases hy : 0 < y
          · go_wp2
            go_ret
            exact ⟨ret_bool (by rw [Hrr.out]; simp [hy]), hB⟩
          · have hy0 : y = 0 := by omega
            subst hy0
            go_wp2
            go_ret
            exact ⟨ret_bool (by rw [Hrr.out]; simp), hB⟩
        · have hy0 : y = 0 := hx0.resolve_left hx
          subst hy0
          have hxx : (x == 0) = false := by rw [beq_eq_false_iff_ne]; exact hx
          go_wp2
          go_ret
          exact ⟨ret_bool (by rw [Hrr.out]; simp [hx]), hB⟩
      · have hx : ¬ x = 0 := fun h => hx0 (.inl h)
        have hy : ¬ y = 0 := fun h => hx0 (.inr h)
        have hxx : (x == 0) = false := by rw [beq_eq_false_iff_ne]; exact hx
        have hyy : (y == 0) = false := by rw [beq_eq_false_iff_ne]; exact hy
        have Hn := Lib.hid (hsame.symm.trans (less_turn b d x y))
        have hx1 : 0 < x := by omega
        have hy1 : 0 < y := by omega
        clear hsame hx0 hx hy
        go_wp2
        have k0 : ((((wr.setCell ⟨w.heap.size + 1, 0, none⟩ (.int .i64 b)).setCell ⟨w.heap.size + 1, 1, none⟩ (.int .i64 x)).setCell ⟨w.heap.size, 0, none⟩ (.int .i64 d)).setCell ⟨w.heap.size, 1, none⟩ (.int .i64 y)).heap[w.heap.size]? = _ := blk_set (blk_oth g0.out (by omega))
        have k1 : ((((wr.setCell ⟨w.heap.size + 1, 0, none⟩ (.int .i64 b)).setCell ⟨w.heap.size + 1, 1, none⟩ (.int .i64 x)).setCell ⟨w.heap.size, 0, none⟩ (.int .i64 d)).setCell ⟨w.heap.size, 1, none⟩ (.int .i64 y)).heap[w.heap.size + 1]? = _ := blk_oth (blk_set g1.out) (by omega)
        have hBW := (((hB.setCell (p := ⟨w.heap.size + 1, 0, none⟩) (Nat.le_succ _) (.int .i64 b)).setCell (p := ⟨w.heap.size + 1, 1, none⟩) (Nat.le_succ _) (.int .i64 x)).setCell (p := ⟨w.heap.size, 0, none⟩) (Nat.le_refl _) (.int .i64 d)).setCell (p := ⟨w.heap.size, 1, none⟩) (Nat.le_refl _) (.int .i64 y)
        generalize (((wr.setCell ⟨w.heap.size + 1, 0, none⟩ (.int .i64 b)).setCell ⟨w.heap.size + 1, 1, none⟩ (.int .i64 x)).setCell ⟨w.heap.size, 0, none⟩ (.int .i64 d)).setCell ⟨w.heap.size, 1, none⟩ (.int .i64 y) = WS at *
        have m0 := blkN_below ((Below.refl _ _).alloc (Nat.le_refl _) (.cells #[.int .i64 d, .int .i64 y] 155)) k0
        have m1 := blkN_below ((Below.refl _ _).alloc (Nat.le_refl _) (.cells #[.int .i64 d, .int .i64 y] 155)) k1
        go_roundw
        case rel => exact ⟨d, y, b, x, by omega, by omega, by omega, by omega, by omega, by omega, by omega, by omega, hBW.alloc hBW.size _, Lib.hid m0, Lib.hid m1, Lib.hid Hn.out⟩
        case measure =>
          rw [dens_lt ((Lib.cell_of_heap m0 1).trans rfl) ((Lib.cell_of_heap m1 1).trans rfl), Hden.out]
          omega
    · have hd2 := less_diff hb hd (show ¬ a / b = c / d by rw [p3, q3]; exact hpq)
      rw [p3, q3] at hd2
      have hrr : r = decide (p < q) := by
        rw [Bool.eq_iff_iff, decide_eq_true_iff]
        exact hlt.out.trans hd2
      have Hrr := Lib.hid hrr
      have hne : (p == q) = false := by rw [beq_eq_false_iff_ne]; exact hpq
      have hne2 : (p != q) = true := by rw [bne_iff_ne]; exact hpq
      clear hd2 hrr hlt p3 p4 q3 q4 hpq
      go_wp2
      go_ret
      exact ⟨ret_bool Hrr.out.symm, hB⟩
theorem box_cases (a b p : Pnt) : (boxP a b p ∧ (min a.x b.x ≤ p.x ∧ p.x ≤ max a.x b.x) ∧ (min a.y b.y ≤ p.y ∧ p.y ≤ max a.y b.y)) ∨ (¬ boxP a b p ∧ (min a.x b.x ≤ p.x ∧ p.x ≤ max a.x b.x) ∧ ¬ (min a.y b.y ≤ p.y ∧ p.y ≤ max a.y b.y)) ∨ (¬ boxP a b p ∧ ¬ (min a.x b.x ≤ p.x ∧ p.x ≤ max a.x b.x)) := by
  by_cases h1 : min a.x b.x ≤ p.x ∧ p.x ≤ max a.x b.x
  · by_cases h2 : min a.y b.y ≤ p.y ∧ p.y ≤ max a.y b.y
    · exact .inl ⟨⟨h1, h2⟩, h1, h2⟩
    · exact .inr (.inl ⟨fun h => h2 h.2, h1, h2⟩)
  · exact .inr (.inr ⟨fun h => h1 h.1, h1⟩)
set_option maxRecDepth 100000 in
set_option maxHeartbeats 4000000 in
theorem spec_On (a b p : Pnt) (w : World) : Calls Try.prog 135 #[.agg #[.int .i64 (a).x, .int .i64 (a).y, .int .i64 (b).x, .int .i64 (b).y], .agg #[.int .i64 (p).x, .int .i64 (p).y]] w fun e w' => e = .returned (.bool (decide (boxP a b p))) ∧ Below w.heap.size w w' := by
  rcases box_cases a b p with ⟨h, ⟨h1, h2⟩, h3, h4⟩ | ⟨h, ⟨h1, h2⟩, h3⟩ | ⟨h, h1⟩
  · rw [decide_eq_true h]
    clear h
    obtain ⟨ax, ay⟩ := a
    obtain ⟨bx, bY⟩ := b
    obtain ⟨px, py⟩ := p
    dsimp only at *
    go_enter Try.func135, Try.ntmps135
    go_wp2_with fail
    go_quiet (first | (go_at_call 126; exact Calls.quiet_of_same (Calls.turn (spec_MinI _ _ _))) | (go_at_call 125; exact Calls.quiet_of_same (Calls.turn (spec_MaxI _ _ _))) | (go_at_call 56; first | exact Calls.quiet_of_same (Calls.turn (spec_In_t _ _ _ _ (by omega) (by omega))) | exact Calls.quiet_of_same (Calls.turn (spec_In_f _ _ _ _ (by omega)))))
    go_wp2
    go_ret
    exact ⟨rfl, below_dN (((Below.refl _ _).alloc (Nat.le_refl _) _).alloc (by simp) _) _⟩
  · rw [decide_eq_false h]
    clear h
    obtain ⟨ax, ay⟩ := a
    obtain ⟨bx, bY⟩ := b
    obtain ⟨px, py⟩ := p
    dsimp only at *
    go_enter Try.func135, Try.ntmps135
    go_wp2_with fail
    go_quiet (first | (go_at_call 126; exact Calls.quiet_of_same (Calls.turn (spec_MinI _ _ _))) | (go_at_call 125; exact Calls.quiet_of_same (Calls.turn (spec_MaxI _ _ _))) | (go_at_call 56; first | exact Calls.quiet_of_same (Calls.turn (spec_In_t _ _ _ _ (by omega) (by omega))) | exact Calls.quiet_of_same (Calls.turn (spec_In_f _ _ _ _ (by omega)))))
    go_wp2
    go_ret
    exact ⟨rfl, below_dN (((Below.refl _ _).alloc (Nat.le_refl _) _).alloc (by simp) _) _⟩
  · rw [decide_eq_false h]
    clear h
    obtain ⟨ax, ay⟩ := a
    obtain ⟨bx, bY⟩ := b
    obtain ⟨px, py⟩ := p
    dsimp only at *
    go_enter Try.func135, Try.ntmps135
    go_wp2_with fail
    go_quiet (first | (go_at_call 126; exact Calls.quiet_of_same (Calls.turn (spec_MinI _ _ _))) | (go_at_call 125; exact Calls.quiet_of_same (Calls.turn (spec_MaxI _ _ _))) | (go_at_call 56; first | exact Calls.quiet_of_same (Calls.turn (spec_In_t _ _ _ _ (by omega) (by omega))) | exact Calls.quiet_of_same (Calls.turn (spec_In_f _ _ _ _ (by omega)))))
    go_wp2
    go_ret
    exact ⟨rfl, below_dN (((Below.refl _ _).alloc (Nat.le_refl _) _).alloc (by simp) _) _⟩
end Go.Proofs.Ytmkhapgkiecmaaa
