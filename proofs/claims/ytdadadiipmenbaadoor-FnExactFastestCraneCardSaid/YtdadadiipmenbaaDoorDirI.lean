/- The direction to a place, the reference. The direction to a place, 0 for the place itself, in both packages. -/
import Derived.Test.YtdadadiipmenbaaDoorVec
namespace Go.Proofs.YtdadadiipmenbaaDoor
open Go.RowKit
def mostI (F : Nat → Int) (k : Nat) : Int := if k = 0 then 0 else F (best F k)
theorem most_pos {F : Nat → Int} {k : Nat} (h : 0 < k) : mostI F k = F (best F k) := by unfold mostI; rw [if_neg (by omega)]
theorem best_lt' (F : Nat → Int) (k : Nat) (h : k ≤ 24) : best F k < 24 := by
  by_cases h0 : k = 0
  · subst h0; simp [best]
  · have := best_lt F k (by omega); omega
/-- One step: where it goes on. -/
theorem dir_cases (F : Nat → Int) (k : Nat) : (k = 0 ∧ best F (k + 1) = k ∧ mostI F (k + 1) = F k) ∨ (0 < k ∧ mostI F k < F k ∧ best F (k + 1) = k ∧ mostI F (k + 1) = F k) ∨ (0 < k ∧ F k ≤ mostI F k ∧ best F (k + 1) = best F k ∧ mostI F (k + 1) = mostI F k) := by
  by_cases h0 : k = 0
  · subst h0
    exact .inl ⟨rfl, best_one F, by rw [most_pos (by omega), best_one]⟩
  · have hp : 0 < k := by omega
    rw [most_pos hp, most_pos (show 0 < k + 1 by omega)]
    by_cases h : F (best F k) < F k
    · exact .inr (.inl ⟨hp, h, best_t h, by rw [best_t h]⟩)
    · exact .inr (.inr ⟨hp, by omega, best_f h, by rw [best_f h]⟩)
set_option maxRecDepth 100000 in
set_option maxHeartbeats 8000000 in
theorem spec_To (fx fy tx ty : Int) (w : World) (h1 : Pl fx fy) (h2 : Pl tx ty) :
    Calls Tryd.prog 139 #[.agg #[.int .i64 fx, .int .i64 fy], .agg #[.int .i64 tx, .int .i64 ty]] w fun e w' => e = .returned (.int .i64 (best (fit (tx - fx) (ty - fy)) 24)) ∧ Below w.heap.size w w' := by
  have hxb : -20000 ≤ tx - fx ∧ tx - fx ≤ 20000 := by unfold Pl at h1 h2; omega
  have hyb : -20000 ≤ ty - fy ∧ ty - fy ≤ 20000 := by unfold Pl at h1 h2; omega
  obtain ⟨⟨_, _⟩, ⟨_, _⟩⟩ := h1
  obtain ⟨⟨_, _⟩, ⟨_, _⟩⟩ := h2
  have Hfit := Lib.hid (fun d (hd : d < 24) => fit_bd hxb hyb hd)
  obtain ⟨F, hF⟩ : ∃ F, fit (tx - fx) (ty - fy) = F := ⟨_, rfl⟩
  have HFe := Lib.hid (fun d => show (vecN d).1 * (tx - fx) + (vecN d).2 * (ty - fy) = F d by rw [← hF]; rfl)
  rw [hF] at Hfit ⊢
  clear hF
  have H0 := Lib.hid (box2_0 w (.cells #[.int .i64 fx, .int .i64 fy] 36 (0, 0)) (.cells #[.int .i64 tx, .int .i64 ty] 36 (0, 0)))
  have H1 := Lib.hid (box2_1 w (.cells #[.int .i64 fx, .int .i64 fy] 36 (0, 0)) (.cells #[.int .i64 tx, .int .i64 ty] 36 (0, 0)))
  go_enter Tryd.func139, Tryd.ntmps139
  go_wp2
  go_loopw [5, 6, 7] (fun bv mv dv wr => ∃ k : Nat, k ≤ 24 ∧ dv = .int .i64 k ∧ bv = .int .i64 (best F k) ∧ mv = .int .i64 (mostI F k) ∧ Below w.heap.size w wr ∧ Hid (wr.heap[w.heap.size]? = some (.cells #[.int .i64 fx, .int .i64 fy] 36 (0, 0))) ∧ Hid (wr.heap[w.heap.size + 1]? = some (.cells #[.int .i64 tx, .int .i64 ty] 36 (0, 0)))) (fun _ _ dv _ => (24 - intOf dv).toNat)
  case atStart => exact ⟨0, by omega, rfl, rfl, rfl, ((Below.refl _ w).alloc (Nat.le_refl _) _).alloc (by simp) _, H0, H1⟩
  case round =>
    obtain ⟨k, hk, rfl, rfl, rfl, hB, h0, h1⟩ := hrel
    by_cases hlt : k < 24
    · obtain ⟨⟨p1, p2⟩, ⟨p3, p4⟩, ⟨p5, p6⟩⟩ := Hfit.out k hlt
      obtain ⟨⟨v1, v2⟩, ⟨v3, v4⟩⟩ := vec_bd k hlt
      have hcall := Lib.hid (spec_Vector k hlt wr)
      have hFk := HFe.out k
      have hcs := dir_cases F k
      generalize vecN k = V at *
      obtain ⟨a, b⟩ := V
      dsimp only at *
      rw [← hFk] at hcs p5 p6
      have Hcs := Lib.hid hcs
      clear hcs
      have Hb := Lib.hid (best_lt' F k hk)
      generalize hb1 : best F k = bb at *
      generalize hb2 : best F (k + 1) = bc at *
      generalize hm1 : mostI F k = mm at *
      generalize hm2 : mostI F (k + 1) = mc at *
      have E1 := Lib.hid hb1
      have E2 := Lib.hid hb2
      have E3 := Lib.hid hm1
      have E4 := Lib.hid hm2
      clear hb1 hb2 hm1 hm2 hFk
      rcases Hcs.out with ⟨hk0, hB1, hM1⟩ | ⟨hk0, hlm, hB1, hM1⟩ | ⟨hk0, hlm, hB1, hM1⟩
      all_goals
        have HB1 := Lib.hid hB1
        have HM1 := Lib.hid hM1
        clear hB1 hM1
      · subst hk0
        go_wp2_with fail
        refine hcall.out.mono ?_
        rintro e w2 ⟨rfl, hb2⟩
        have g0 := blkN_below hb2 h0.out
        have g1 := blkN_below hb2 h1.out
        have c0 : w2.cell? ⟨w.heap.size, 0, none⟩ = some (.int .i64 fx) := by rw [Lib.cell_of_heap g0]; rfl
        have c1 : w2.cell? ⟨w.heap.size, 1, none⟩ = some (.int .i64 fy) := by rw [Lib.cell_of_heap g0]; rfl
        have c2 : w2.cell? ⟨w.heap.size + 1, 0, none⟩ = some (.int .i64 tx) := by rw [Lib.cell_of_heap g1]; rfl
        have c3 : w2.cell? ⟨w.heap.size + 1, 1, none⟩ = some (.int .i64 ty) := by rw [Lib.cell_of_heap g1]; rfl
        have hq := World.block_lt_of_cell? w2 _ c2
        have hq0 := World.block_lt_of_cell? w2 _ c0
        have G0 := Lib.hid g0
        have G1 := Lib.hid g1
        have B2 := hB.trans (hb2.mono hB.size)
        have b3 := fun o => (Below.alloc (Below.refl w2.heap.size w2) (Nat.le_refl _) o)
        have B3 := Lib.hid (fun o => B2.alloc B2.size o)
        have B4 := Lib.hid b3
        clear b3 g0 g1 hb2
        go_wp2
        go_roundw
        case rel => exact ⟨1, by omega, by go_num, by first | (rw [E2.out, HB1.out]; done) | (rw [E2.out, HB1.out]; rfl), by first | (rw [E4.out, HM1.out]; done) | (rw [E4.out, HM1.out]; rfl), (B3.out _), Lib.hid (blkN_below (B4.out _) G0.out), Lib.hid (blkN_below (B4.out _) G1.out)⟩
        case measure => first | (simp [intOf]; done) | (simp [intOf]; omega)
      · have hkb : ((k : Int) == 0) = false := by simp; omega
        go_wp2_with fail
        refine hcall.out.mono ?_
        rintro e w2 ⟨rfl, hb2⟩
        have g0 := blkN_below hb2 h0.out
        have g1 := blkN_below hb2 h1.out
        have c0 : w2.cell? ⟨w.heap.size, 0, none⟩ = some (.int .i64 fx) := by rw [Lib.cell_of_heap g0]; rfl
        have c1 : w2.cell? ⟨w.heap.size, 1, none⟩ = some (.int .i64 fy) := by rw [Lib.cell_of_heap g0]; rfl
        have c2 : w2.cell? ⟨w.heap.size + 1, 0, none⟩ = some (.int .i64 tx) := by rw [Lib.cell_of_heap g1]; rfl
        have c3 : w2.cell? ⟨w.heap.size + 1, 1, none⟩ = some (.int .i64 ty) := by rw [Lib.cell_of_heap g1]; rfl
        have hq := World.block_lt_of_cell? w2 _ c2
        have hq0 := World.block_lt_of_cell? w2 _ c0
        have G0 := Lib.hid g0
        have G1 := Lib.hid g1
        have B2 := hB.trans (hb2.mono hB.size)
        have b3 := fun o => (Below.alloc (Below.refl w2.heap.size w2) (Nat.le_refl _) o)
        have B3 := Lib.hid (fun o => B2.alloc B2.size o)
        have B4 := Lib.hid b3
        clear b3 g0 g1 hb2
        go_wp2
        go_roundw
        case rel => exact ⟨k + 1, by omega, by go_num, by first | (rw [E2.out, HB1.out]; done) | (rw [E2.out, HB1.out]; rfl), by first | (rw [E4.out, HM1.out]; done) | (rw [E4.out, HM1.out]; rfl), (B3.out _), Lib.hid (blkN_below (B4.out _) G0.out), Lib.hid (blkN_below (B4.out _) G1.out)⟩
        case measure => first | (simp [intOf]; done) | (simp [intOf]; omega)
      · have hkb : ((k : Int) == 0) = false := by simp; omega
        have hdd : decide (mm < a * (tx - fx) + b * (ty - fy)) = false := decide_eq_false (by omega)
        go_wp2_with fail
        refine hcall.out.mono ?_
        rintro e w2 ⟨rfl, hb2⟩
        have g0 := blkN_below hb2 h0.out
        have g1 := blkN_below hb2 h1.out
        have c0 : w2.cell? ⟨w.heap.size, 0, none⟩ = some (.int .i64 fx) := by rw [Lib.cell_of_heap g0]; rfl
        have c1 : w2.cell? ⟨w.heap.size, 1, none⟩ = some (.int .i64 fy) := by rw [Lib.cell_of_heap g0]; rfl
        have c2 : w2.cell? ⟨w.heap.size + 1, 0, none⟩ = some (.int .i64 tx) := by rw [Lib.cell_of_heap g1]; rfl
        have c3 : w2.cell? ⟨w.heap.size + 1, 1, none⟩ = some (.int .i64 ty) := by rw [Lib.cell_of_heap g1]; rfl
        have hq := World.block_lt_of_cell? w2 _ c2
        have hq0 := World.block_lt_of_cell? w2 _ c0
        have G0 := Lib.hid g0
        have G1 := Lib.hid g1
        have B2 := hB.trans (hb2.mono hB.size)
        have b3 := fun o => (Below.alloc (Below.refl w2.heap.size w2) (Nat.le_refl _) o)
        have B3 := Lib.hid (fun o => B2.alloc B2.size o)
        have B4 := Lib.hid b3
        clear b3 g0 g1 hb2
        go_wp2
        go_roundw
        case rel => exact ⟨k + 1, by omega, by go_num, by first | (rw [E2.out, HB1.out]; done) | (rw [E2.out, HB1.out]; rfl), by first | (rw [E4.out, HM1.out]; done) | (rw [E4.out, HM1.out]; rfl), (B3.out _), Lib.hid (blkN_below (B4.out _) G0.out), Lib.hid (blkN_below (B4.out _) G1.out)⟩
        case measure => first | (simp [intOf]; done) | (simp [intOf]; omega)
    · have : k = 24 := by omega
      subst this
      go_wp2
      go_ret
      exact ⟨rfl, hB⟩
theorem tup2 {n m c : Int} (h : n = m) : Ending.returned (.tuple #[.int .i64 n, .int .i64 c]) = .returned (.tuple #[.int .i64 m, .int .i64 c]) := by rw [h]
theorem dir_ways (fx fy tx ty : Int) : (fx = tx ∧ fy = ty ∧ dirN (tx - fx) (ty - fy) = 0) ∨ (¬ fx = tx ∧ dirN (tx - fx) (ty - fy) = best (fit (tx - fx) (ty - fy)) 24) ∨ (fx = tx ∧ ¬ fy = ty ∧ dirN (tx - fx) (ty - fy) = best (fit (tx - fx) (ty - fy)) 24) := by
  unfold dirN
  by_cases h1 : fx = tx
  · by_cases h2 : fy = ty
    · exact .inl ⟨h1, h2, by rw [if_pos (by omega)]⟩
    · exact .inr (.inr ⟨h1, h2, by rw [if_neg (by omega)]⟩)
  · exact .inr (.inl ⟨h1, by rw [if_neg (by omega)]⟩)
set_option maxRecDepth 100000 in
set_option maxHeartbeats 2000000 in
theorem spec_Dir (fx fy tx ty : Int) (w : World) (h1 : Pl fx fy) (h2 : Pl tx ty) :
    Calls Tryd.prog 102 #[.agg #[.int .i64 fx, .int .i64 fy], .agg #[.int .i64 tx, .int .i64 ty]] w fun e w' => e = .returned (.int .i64 (dirN (tx - fx) (ty - fy))) ∧ Below w.heap.size w w' := by
  have HT := Lib.hid (fun w => spec_To fx fy tx ty w h1 h2)
  clear h1 h2
  have hcs := dir_ways fx fy tx ty
  generalize best (fit (tx - fx) (ty - fy)) 24 = bb at *
  generalize dirN (tx - fx) (ty - fy) = dd at *
  rcases hcs with ⟨rfl, rfl, hd⟩ | ⟨hx, hd⟩ | ⟨rfl, hy, hd⟩
  · rw [hd]
    clear hd HT
    go_enter Tryd.func102, Tryd.ntmps102
    go_wp2
    go_ret
    exact ⟨rfl, ((Below.refl _ w).alloc (Nat.le_refl _) _).alloc (by simp) _⟩
  all_goals
    rw [hd]
    clear hd
    go_enter Tryd.func102, Tryd.ntmps102
    go_wp2_with (go_at_call 139; refine (HT.out _).mono ?_; rintro e w2 ⟨rfl, hb2⟩)
    go_ret
    exact ⟨rfl, (((Below.refl _ w).alloc (Nat.le_refl _) _).alloc (by simp) _).trans (hb2.mono (by simp; omega))⟩
set_option maxRecDepth 100000 in
set_option maxHeartbeats 4000000 in
theorem impl_ProdFn (fx fy tx ty : Int) (d : Nat) (b1 b2 : Nat) (w : World) (hd : d < 24) (h1 : Pl fx fy) (h2 : Pl tx ty) (hQ : Qtr w) (c0 : w.cell? ⟨b2, 0, none⟩ = some (.int .i64 fx)) (c1 : w.cell? ⟨b2, 1, none⟩ = some (.int .i64 fy)) (c2 : w.cell? ⟨b1, 0, none⟩ = some (.int .i64 tx)) (c3 : w.cell? ⟨b1, 1, none⟩ = some (.int .i64 ty)) :
    Calls Tryd.prog 162 #[.int .i64 d, .pointer (some ⟨b1, 0, none⟩), .pointer (some ⟨b2, 0, none⟩)] w fun e w' => e = .returned (.int .i64 (fit (tx - fx) (ty - fy) d)) ∧ Below w.heap.size w w' := by
  have hxb : -20000 ≤ tx - fx ∧ tx - fx ≤ 20000 := by unfold Pl at h1 h2; omega
  have hyb : -20000 ≤ ty - fy ∧ ty - fy ≤ 20000 := by unfold Pl at h1 h2; omega
  obtain ⟨⟨_, _⟩, ⟨_, _⟩⟩ := h1
  obtain ⟨⟨_, _⟩, ⟨_, _⟩⟩ := h2
  obtain ⟨⟨p1, p2⟩, ⟨p3, p4⟩, ⟨p5, p6⟩⟩ := fit_bd hxb hyb hd
  obtain ⟨⟨v1, v2⟩, ⟨v3, v4⟩⟩ := vec_bd d hd
  have hcall := Lib.hid (impl_Vector d hd w hQ)
  have q0 := World.block_lt_of_cell? w _ c0
  have q2 := World.block_lt_of_cell? w _ c2
  unfold fit at *
  generalize vecN d = V at *
  obtain ⟨a, b⟩ := V
  dsimp only at *
  have C0 := Lib.hid c0
  have C1 := Lib.hid c1
  have C2 := Lib.hid c2
  have C3 := Lib.hid c3
  clear c0 c1 c2 c3 hQ
  go_enter Tryd.func162, Tryd.ntmps162
  go_wp2_with fail
  refine hcall.out.mono ?_
  rintro e w2 ⟨rfl, hb2⟩
  have c0 := (hb2.cell (p := ⟨b2, 0, none⟩) q0).trans C0.out
  have c1 := (hb2.cell (p := ⟨b2, 1, none⟩) q0).trans C1.out
  have c2 := (hb2.cell (p := ⟨b1, 0, none⟩) q2).trans C2.out
  have c3 := (hb2.cell (p := ⟨b1, 1, none⟩) q2).trans C3.out
  have q0 := World.block_lt_of_cell? w2 _ c0
  have q2 := World.block_lt_of_cell? w2 _ c2
  go_wp2
  go_ret
  exact ⟨rfl, hb2.alloc hb2.size _⟩
def TupRes (n : Int) (e : Ending) : Prop := ∃ c : Int, e = .returned (.tuple #[.int .i64 n, .int .i64 c])
set_option maxRecDepth 100000 in
set_option maxHeartbeats 8000000 in
theorem impl_DirTo (fx fy tx ty : Int) (w : World) (h1 : Pl fx fy) (h2 : Pl tx ty) (hQ : Qtr w) :
    Calls Tryd.prog 142 #[.agg #[.int .i64 fx, .int .i64 fy], .agg #[.int .i64 tx, .int .i64 ty]] w fun e w' => TupRes (dirN (tx - fx) (ty - fy)) e ∧ Below w.heap.size w w' := by
  have hP1 := impl_Pl fx fy
  have hP2 := impl_Pl tx ty
  rw [decide_eq_true h1] at hP1
  rw [decide_eq_true h2] at hP2
  have HP1 := Lib.hid hP1
  have HP2 := Lib.hid hP2
  clear hP1 hP2
  have HC := Lib.hid (fun d b1 b2 w hd hQ c0 c1 c2 c3 => impl_ProdFn fx fy tx ty d b1 b2 w hd h1 h2 hQ c0 c1 c2 c3)
  clear h1 h2
  have hql := hQ.lt
  have HQ := Lib.hid (fun w' (hb : Below w.heap.size w w') => hQ.below hb hql)
  obtain ⟨W0, hW, e1, e2, hB0, hz0⟩ := two_boxes w (.cells #[.int .i64 fx, .int .i64 fy] 36 (0, 0)) (.cells #[.int .i64 tx, .int .i64 ty] 36 (0, 0))
  have hq0 : w.heap.size < W0.heap.size := by omega
  have hq1 : w.heap.size + 1 < W0.heap.size := by omega
  have HW := Lib.hid hW
  have E1 := Lib.hid e1
  have E2 := Lib.hid e2
  have HB0 := Lib.hid hB0
  clear hW e1 e2 hB0 hz0 hQ hql
  have hcs := dir_ways fx fy tx ty
  generalize dirN (tx - fx) (ty - fy) = dd at *
  obtain ⟨F, hF⟩ : ∃ F, fit (tx - fx) (ty - fy) = F := ⟨_, rfl⟩
  rw [hF] at HC hcs
  clear hF
  rcases hcs with ⟨rfl, rfl, hd⟩ | ⟨hx, hd⟩ | ⟨rfl, hy, hd⟩
  · subst hd
    go_enter Tryd.func142, Tryd.ntmps142
    go_wp2_with fail
    rw [HW.out]
    refine (HP1.out _).mono ?_
    rintro e w2 ⟨rfl, hb2⟩
    have g1 := blkN_below hb2 E1.out
    have g2 := blkN_below hb2 E2.out
    have c0 : w2.cell? ⟨w.heap.size, 0, none⟩ = some (.int .i64 fx) := by rw [Lib.cell_of_heap g1]; rfl
    have c1 : w2.cell? ⟨w.heap.size, 1, none⟩ = some (.int .i64 fy) := by rw [Lib.cell_of_heap g1]; rfl
    have c2 : w2.cell? ⟨w.heap.size + 1, 0, none⟩ = some (.int .i64 fx) := by rw [Lib.cell_of_heap g2]; rfl
    have c3 : w2.cell? ⟨w.heap.size + 1, 1, none⟩ = some (.int .i64 fy) := by rw [Lib.cell_of_heap g2]; rfl
    have q1 := World.block_lt_of_cell? w2 _ c2
    have q0 := World.block_lt_of_cell? w2 _ c0
    have G1 := Lib.hid g1
    have G2 := Lib.hid g2
    clear g1 g2
    have B2 := HB0.out.trans (hb2.mono HB0.out.size)
    go_wp2_with (go_at_call 54; refine (HP2.out _).mono ?_; rintro e w3 ⟨rfl, hb3⟩; have g1 := blkN_below hb3 G1.out; have g2 := blkN_below hb3 G2.out; have c0 : w3.cell? ⟨w.heap.size, 0, none⟩ = some (.int .i64 fx) := (by rw [Lib.cell_of_heap g1]; rfl); have c1 : w3.cell? ⟨w.heap.size, 1, none⟩ = some (.int .i64 fy) := (by rw [Lib.cell_of_heap g1]; rfl); have c2 : w3.cell? ⟨w.heap.size + 1, 0, none⟩ = some (.int .i64 fx) := (by rw [Lib.cell_of_heap g2]; rfl); have c3 : w3.cell? ⟨w.heap.size + 1, 1, none⟩ = some (.int .i64 fy) := (by rw [Lib.cell_of_heap g2]; rfl); have q1 := World.block_lt_of_cell? w3 _ c2; have q0 := World.block_lt_of_cell? w3 _ c0; have G1 := Lib.hid g1; have G2 := Lib.hid g2; clear g1 g2)
    go_ret2
    exact ⟨⟨_, rfl⟩, B2.trans (hb3.mono B2.size)⟩
  · have Hd := Lib.hid hd
    clear hd
    go_enter Tryd.func142, Tryd.ntmps142
    go_wp2_with fail
    rw [HW.out]
    refine (HP1.out _).mono ?_
    rintro e w2 ⟨rfl, hb2⟩
    have g1 := blkN_below hb2 E1.out
    have g2 := blkN_below hb2 E2.out
    have c0 : w2.cell? ⟨w.heap.size, 0, none⟩ = some (.int .i64 fx) := by rw [Lib.cell_of_heap g1]; rfl
    have c1 : w2.cell? ⟨w.heap.size, 1, none⟩ = some (.int .i64 fy) := by rw [Lib.cell_of_heap g1]; rfl
    have c2 : w2.cell? ⟨w.heap.size + 1, 0, none⟩ = some (.int .i64 tx) := by rw [Lib.cell_of_heap g2]; rfl
    have c3 : w2.cell? ⟨w.heap.size + 1, 1, none⟩ = some (.int .i64 ty) := by rw [Lib.cell_of_heap g2]; rfl
    have q1 := World.block_lt_of_cell? w2 _ c2
    have q0 := World.block_lt_of_cell? w2 _ c0
    have G1 := Lib.hid g1
    have G2 := Lib.hid g2
    clear g1 g2
    have B2 := HB0.out.trans (hb2.mono HB0.out.size)
    go_wp2_with (go_at_call 54; refine (HP2.out _).mono ?_; rintro e w3 ⟨rfl, hb3⟩; have g1 := blkN_below hb3 G1.out; have g2 := blkN_below hb3 G2.out; have c0 : w3.cell? ⟨w.heap.size, 0, none⟩ = some (.int .i64 fx) := (by rw [Lib.cell_of_heap g1]; rfl); have c1 : w3.cell? ⟨w.heap.size, 1, none⟩ = some (.int .i64 fy) := (by rw [Lib.cell_of_heap g1]; rfl); have c2 : w3.cell? ⟨w.heap.size + 1, 0, none⟩ = some (.int .i64 tx) := (by rw [Lib.cell_of_heap g2]; rfl); have c3 : w3.cell? ⟨w.heap.size + 1, 1, none⟩ = some (.int .i64 ty) := (by rw [Lib.cell_of_heap g2]; rfl); have q1 := World.block_lt_of_cell? w3 _ c2; have q0 := World.block_lt_of_cell? w3 _ c0; have G1 := Lib.hid g1; have G2 := Lib.hid g2; clear g1 g2)
    go_loopw [7, 23] (fun bv dv wr => ∃ k : Nat, k ≤ 24 ∧ dv = .int .i64 k ∧ bv = .int .i64 (best F k) ∧ Below w.heap.size w wr ∧ Hid (wr.heap[w.heap.size]? = some (.cells #[.int .i64 fx, .int .i64 fy] 36 (0, 0))) ∧ Hid (wr.heap[w.heap.size + 1]? = some (.cells #[.int .i64 tx, .int .i64 ty] 36 (0, 0)))) (fun _ dv _ => (24 - intOf dv).toNat)
    case atStart => exact ⟨0, by omega, rfl, rfl, B2.trans (hb3.mono B2.size), G1, G2⟩
    case round =>
      clear c0 c1 c2 c3 q0 q1 G1 G2 hb3 B2
      obtain ⟨k, hk, rfl, rfl, hB, h0, h1⟩ := hrel
      by_cases hlt : k < 24
      · have hbl := best_lt' F k hk
        have c0 : wr.cell? ⟨w.heap.size, 0, none⟩ = some (.int .i64 fx) := by rw [Lib.cell_of_heap h0.out]; rfl
        have c1 : wr.cell? ⟨w.heap.size, 1, none⟩ = some (.int .i64 fy) := by rw [Lib.cell_of_heap h0.out]; rfl
        have c2 : wr.cell? ⟨w.heap.size + 1, 0, none⟩ = some (.int .i64 tx) := by rw [Lib.cell_of_heap h1.out]; rfl
        have c3 : wr.cell? ⟨w.heap.size + 1, 1, none⟩ = some (.int .i64 ty) := by rw [Lib.cell_of_heap h1.out]; rfl
        have hc1 := Lib.hid (HC.out k (w.heap.size + 1) w.heap.size wr hlt (HQ.out _ hB) c0 c1 c2 c3)
        have hc2 := Lib.hid (fun w3 (hb : Below wr.heap.size wr w3) => HC.out (best F k) (w.heap.size + 1) w.heap.size w3 hbl (HQ.out _ (hB.trans (hb.mono hB.size))) (by rw [Lib.cell_of_heap (blkN_below hb h0.out)]; rfl) (by rw [Lib.cell_of_heap (blkN_below hb h0.out)]; rfl) (by rw [Lib.cell_of_heap (blkN_below hb h1.out)]; rfl) (by rw [Lib.cell_of_heap (blkN_below hb h1.out)]; rfl))
        clear c0 c1 c2 c3
        have Ht := Lib.hid (fun h => best_t (f := F) (k := k) h)
        have Hf := Lib.hid (fun h => best_f (f := F) (k := k) h)
        generalize best F k = bb at *
        by_cases hc : F bb < F k
        · have HE := Lib.hid (Ht.out hc)
          generalize F k = Fk at *
          generalize F bb = Fb at *
          go_wp2_with fail
          refine hc1.out.mono ?_
          rintro e w3 ⟨rfl, hb3⟩
          have hb3 := hb3
          go_wp2_with fail
          refine (hc2.out _ hb3).mono ?_
          rintro e w4 ⟨rfl, hb4⟩
          have hb5 := hb3.trans (hb4.mono hb3.size)
          go_wp2
          go_roundw
          case rel => exact ⟨k + 1, by omega, by go_num, by rw [HE.out], hB.trans (hb5.mono hB.size), Lib.hid (blkN_below hb5 h0.out), Lib.hid (blkN_below hb5 h1.out)⟩
          case measure => simp [intOf]; omega
        · have HE := Lib.hid (Hf.out hc)
          generalize F k = Fk at *
          generalize F bb = Fb at *
          have hdd : decide (Fb < Fk) = false := decide_eq_false hc
          go_wp2_with fail
          refine hc1.out.mono ?_
          rintro e w3 ⟨rfl, hb3⟩
          have hb3 := hb3
          go_wp2_with fail
          refine (hc2.out _ hb3).mono ?_
          rintro e w4 ⟨rfl, hb4⟩
          have hb5 := hb3.trans (hb4.mono hb3.size)
          go_wp2
          go_roundw
          case rel => exact ⟨k + 1, by omega, by go_num, by rw [HE.out], hB.trans (hb5.mono hB.size), Lib.hid (blkN_below hb5 h0.out), Lib.hid (blkN_below hb5 h1.out)⟩
          case measure => simp [intOf]; omega
      · have : k = 24 := by omega
        subst this
        have HE := Lib.hid (congrArg (fun n : Nat => (n : Int)) Hd.out)
        generalize best F 24 = bb at *
        go_wp2
        go_ret2
        exact ⟨⟨_, tup2 HE.out.symm⟩, hB⟩
  · have Hd := Lib.hid hd
    clear hd
    go_enter Tryd.func142, Tryd.ntmps142
    go_wp2_with fail
    rw [HW.out]
    refine (HP1.out _).mono ?_
    rintro e w2 ⟨rfl, hb2⟩
    have g1 := blkN_below hb2 E1.out
    have g2 := blkN_below hb2 E2.out
    have c0 : w2.cell? ⟨w.heap.size, 0, none⟩ = some (.int .i64 fx) := by rw [Lib.cell_of_heap g1]; rfl
    have c1 : w2.cell? ⟨w.heap.size, 1, none⟩ = some (.int .i64 fy) := by rw [Lib.cell_of_heap g1]; rfl
    have c2 : w2.cell? ⟨w.heap.size + 1, 0, none⟩ = some (.int .i64 fx) := by rw [Lib.cell_of_heap g2]; rfl
    have c3 : w2.cell? ⟨w.heap.size + 1, 1, none⟩ = some (.int .i64 ty) := by rw [Lib.cell_of_heap g2]; rfl
    have q1 := World.block_lt_of_cell? w2 _ c2
    have q0 := World.block_lt_of_cell? w2 _ c0
    have G1 := Lib.hid g1
    have G2 := Lib.hid g2
    clear g1 g2
    have B2 := HB0.out.trans (hb2.mono HB0.out.size)
    go_wp2_with (go_at_call 54; refine (HP2.out _).mono ?_; rintro e w3 ⟨rfl, hb3⟩; have g1 := blkN_below hb3 G1.out; have g2 := blkN_below hb3 G2.out; have c0 : w3.cell? ⟨w.heap.size, 0, none⟩ = some (.int .i64 fx) := (by rw [Lib.cell_of_heap g1]; rfl); have c1 : w3.cell? ⟨w.heap.size, 1, none⟩ = some (.int .i64 fy) := (by rw [Lib.cell_of_heap g1]; rfl); have c2 : w3.cell? ⟨w.heap.size + 1, 0, none⟩ = some (.int .i64 fx) := (by rw [Lib.cell_of_heap g2]; rfl); have c3 : w3.cell? ⟨w.heap.size + 1, 1, none⟩ = some (.int .i64 ty) := (by rw [Lib.cell_of_heap g2]; rfl); have q1 := World.block_lt_of_cell? w3 _ c2; have q0 := World.block_lt_of_cell? w3 _ c0; have G1 := Lib.hid g1; have G2 := Lib.hid g2; clear g1 g2)
    go_loopw [7, 23] (fun bv dv wr => ∃ k : Nat, k ≤ 24 ∧ dv = .int .i64 k ∧ bv = .int .i64 (best F k) ∧ Below w.heap.size w wr ∧ Hid (wr.heap[w.heap.size]? = some (.cells #[.int .i64 fx, .int .i64 fy] 36 (0, 0))) ∧ Hid (wr.heap[w.heap.size + 1]? = some (.cells #[.int .i64 fx, .int .i64 ty] 36 (0, 0)))) (fun _ dv _ => (24 - intOf dv).toNat)
    case atStart => exact ⟨0, by omega, rfl, rfl, B2.trans (hb3.mono B2.size), G1, G2⟩
    case round =>
      clear c0 c1 c2 c3 q0 q1 G1 G2 hb3 B2
      obtain ⟨k, hk, rfl, rfl, hB, h0, h1⟩ := hrel
      by_cases hlt : k < 24
      · have hbl := best_lt' F k hk
        have c0 : wr.cell? ⟨w.heap.size, 0, none⟩ = some (.int .i64 fx) := by rw [Lib.cell_of_heap h0.out]; rfl
        have c1 : wr.cell? ⟨w.heap.size, 1, none⟩ = some (.int .i64 fy) := by rw [Lib.cell_of_heap h0.out]; rfl
        have c2 : wr.cell? ⟨w.heap.size + 1, 0, none⟩ = some (.int .i64 fx) := by rw [Lib.cell_of_heap h1.out]; rfl
        have c3 : wr.cell? ⟨w.heap.size + 1, 1, none⟩ = some (.int .i64 ty) := by rw [Lib.cell_of_heap h1.out]; rfl
        have hc1 := Lib.hid (HC.out k (w.heap.size + 1) w.heap.size wr hlt (HQ.out _ hB) c0 c1 c2 c3)
        have hc2 := Lib.hid (fun w3 (hb : Below wr.heap.size wr w3) => HC.out (best F k) (w.heap.size + 1) w.heap.size w3 hbl (HQ.out _ (hB.trans (hb.mono hB.size))) (by rw [Lib.cell_of_heap (blkN_below hb h0.out)]; rfl) (by rw [Lib.cell_of_heap (blkN_below hb h0.out)]; rfl) (by rw [Lib.cell_of_heap (blkN_below hb h1.out)]; rfl) (by rw [Lib.cell_of_heap (blkN_below hb h1.out)]; rfl))
        clear c0 c1 c2 c3
        have Ht := Lib.hid (fun h => best_t (f := F) (k := k) h)
        have Hf := Lib.hid (fun h => best_f (f := F) (k := k) h)
        generalize best F k = bb at *
        by_cases hc : F bb < F k
        · have HE := Lib.hid (Ht.out hc)
          generalize F k = Fk at *
          generalize F bb = Fb at *
          go_wp2_with fail
          refine hc1.out.mono ?_
          rintro e w3 ⟨rfl, hb3⟩
          have hb3 := hb3
          go_wp2_with fail
          refine (hc2.out _ hb3).mono ?_
          rintro e w4 ⟨rfl, hb4⟩
          have hb5 := hb3.trans (hb4.mono hb3.size)
          go_wp2
          go_roundw
          case rel => exact ⟨k + 1, by omega, by go_num, by rw [HE.out], hB.trans (hb5.mono hB.size), Lib.hid (blkN_below hb5 h0.out), Lib.hid (blkN_below hb5 h1.out)⟩
          case measure => simp [intOf]; omega
        · have HE := Lib.hid (Hf.out hc)
          generalize F k = Fk at *
          generalize F bb = Fb at *
          have hdd : decide (Fb < Fk) = false := decide_eq_false hc
          go_wp2_with fail
          refine hc1.out.mono ?_
          rintro e w3 ⟨rfl, hb3⟩
          have hb3 := hb3
          go_wp2_with fail
          refine (hc2.out _ hb3).mono ?_
          rintro e w4 ⟨rfl, hb4⟩
          have hb5 := hb3.trans (hb4.mono hb3.size)
          go_wp2
          go_roundw
          case rel => exact ⟨k + 1, by omega, by go_num, by rw [HE.out], hB.trans (hb5.mono hB.size), Lib.hid (blkN_below hb5 h0.out), Lib.hid (blkN_below hb5 h1.out)⟩
          case measure => simp [intOf]; omega
      · have : k = 24 := by omega
        subst this
        have HE := Lib.hid (congrArg (fun n : Nat => (n : Int)) Hd.out)
        generalize best F 24 = bb at *
        go_wp2
        go_ret2
        exact ⟨⟨_, tup2 HE.out.symm⟩, hB⟩
end Go.Proofs.YtdadadiipmenbaaDoor
