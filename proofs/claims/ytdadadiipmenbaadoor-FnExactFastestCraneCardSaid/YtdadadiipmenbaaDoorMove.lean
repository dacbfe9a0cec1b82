/- Times: turns, trolleys, hooks, in both packages. The time of a move, in both packages. The time of a move, the reference. -/
import Derived.Test.YtdadadiipmenbaaDoorDirI
import Derived.Test.YtdadadiipmenbaaDoorTSpeeds
namespace Go.Proofs.YtdadadiipmenbaaDoor
open Go.RowKit
def Spd.ok (v : Spd) : Prop := (1 ≤ v.slew ∧ v.slew ≤ 600) ∧ (1 ≤ v.trolley ∧ v.trolley ≤ 600) ∧ (1 ≤ v.hoist ∧ v.hoist ≤ 600) ∧ (1 ≤ v.hook ∧ v.hook ≤ 600)
theorem absI_bd {n B : Int} (h : -B ≤ n ∧ n ≤ B) : 0 ≤ absI n ∧ absI n ≤ B := by have := absI_cases n; omega
theorem absI_comm (a b : Int) : absI (a - b) = absI (b - a) := by
  have h1 := absI_cases (a - b)
  have h2 := absI_cases (b - a)
  omega
set_option maxRecDepth 100000 in
set_option maxHeartbeats 4000000 in
theorem impl_Slew (v : Spd) (a b : Int) (w : World) (hv : v.ok) (ha : Dir a) (hb : Dir b) :
    Calls Tryd.prog 106 #[.agg v.cells.toArray, .int .i64 a, .int .i64 b] w fun e w' => e = .returned (.int .i64 (absI (tb a b) * v.slew)) ∧ Below w.heap.size w w' := by
  have htb := tb_bound a b
  have hab := absI_bd (n := tb a b) (B := 12) (by omega)
  have HT := Lib.hid (fun w => impl_turnBetween a b w ha hb)
  have HA := Lib.hid (fun w => impl_abs (tb a b) w (by omega))
  have hm := mul_bd (a := absI (tb a b)) (b := v.slew) (A := 12) (B := 600) hab.1 hab.2 (by have := hv.1.1; omega) hv.1.2
  obtain ⟨hm1, hm2⟩ := hm
  have hw : IntKind.i64.wrap (absI (tb a b) * v.slew) = absI (tb a b) * v.slew := IntWalk.i64_in _ (by omega)
  clear hv ha hb htb hab
  generalize absI (tb a b) = u at *
  generalize tb a b = t at *
  obtain ⟨v0, v1, v2, v3⟩ := v
  simp only [Spd.cells] at *
  go_enter Tryd.func106, Tryd.ntmps106
  go_wp2_with fail
  go_quiet (first | (go_at_call 141; exact Calls.quiet_of_same (Calls.turn (HT.out _))) | (go_at_call 140; exact Calls.quiet_of_same (Calls.turn (HA.out _))))
  go_wp2
  go_ret
  exact ⟨rfl, below_dN ((Below.refl _ w).alloc (Nat.le_refl _) _) _⟩
set_option maxRecDepth 100000 in
set_option maxHeartbeats 4000000 in
theorem impl_Troll (v : Spd) (a b : Int) (w : World) (hv : v.ok) (ha : 0 ≤ a ∧ a ≤ 30000) (hb : 0 ≤ b ∧ b ≤ 30000) :
    Calls Tryd.prog 108 #[.agg v.cells.toArray, .int .i64 a, .int .i64 b] w fun e w' => e = .returned (.int .i64 (upI (absI (b - a)) v.trolley)) ∧ Below w.heap.size w w' := by
  have hab := absI_bd (n := b - a) (B := 30000) (by omega)
  have hA := fun w => impl_abs (a - b) w (by omega)
  rw [absI_comm] at hA
  have HA := Lib.hid hA
  have HU := Lib.hid (fun w => impl_ceil (absI (b - a)) v.trolley w hab.1 (by omega) (by have := hv.2.1.1; omega) (by have := hv.2.1.2; omega))
  have hw : IntKind.i64.wrap (a - b) = a - b := IntWalk.i64_in _ (by omega)
  clear hv ha hb hA hab
  obtain ⟨v0, v1, v2, v3⟩ := v
  simp only [Spd.cells] at *
  generalize upI (absI (b - a)) v1 = r at *
  generalize absI (b - a) = u at *
  go_enter Tryd.func108, Tryd.ntmps108
  go_wp2_with fail
  go_quiet (first | (go_at_call 137; exact Calls.quiet_of_same (Calls.turn (HU.out _))) | (go_at_call 140; exact Calls.quiet_of_same (Calls.turn (HA.out _))))
  go_wp2
  go_ret
  exact ⟨rfl, below_dN ((Below.refl _ w).alloc (Nat.le_refl _) _) _⟩
set_option maxHeartbeats 4000000 in
theorem impl_Hoist (v : Spd) (n : Int) (w : World) (hv : v.ok) (hn : 0 ≤ n ∧ n ≤ 30000) :
    Calls Tryd.prog 97 #[.agg v.cells.toArray, .int .i64 n] w fun e w' => e = .returned (.int .i64 (upI n v.hoist)) ∧ Below w.heap.size w w' := by
  have HU := Lib.hid (fun w => impl_ceil n v.hoist w hn.1 (by omega) (by have := hv.2.2.1.1; omega) (by have := hv.2.2.1.2; omega))
  clear hv
  obtain ⟨v0, v1, v2, v3⟩ := v
  simp only [Spd.cells] at *
  generalize upI n v2 = r at *
  go_enter Tryd.func97, Tryd.ntmps97
  go_wp2_with (go_at_call 137; refine (HU.out _).mono ?_; rintro e w' ⟨rfl, rfl⟩)
  go_ret
  exact ⟨rfl, (Below.refl _ w).alloc (Nat.le_refl _) _⟩
def maxI (a b : Int) : Int := if b < a then a else b
theorem maxI_cases (a b : Int) : (b < a ∧ maxI a b = a) ∨ (a ≤ b ∧ maxI a b = b) := by
  unfold maxI
  by_cases h : b < a
  · rw [if_pos h]; exact .inl ⟨h, rfl⟩
  · rw [if_neg h]; exact .inr ⟨by omega, rfl⟩
theorem spec_Max (a b : Int) (w : World) : Calls Tryd.prog 105 #[.int .i64 a, .int .i64 b] w fun e w' => e = .returned (.int .i64 (maxI a b)) ∧ w = w' := by
  rcases maxI_cases a b with ⟨h, h2⟩ | ⟨h, h2⟩
  all_goals
    rw [h2]
    clear h2
    go_enter Tryd.func105, Tryd.ntmps105
    go_wp2
    go_ret
    exact ⟨rfl, rfl⟩
theorem dir_Dir (x y : Int) : Dir (dirN x y) := by have := dirN_lt x y; unfold Dir; omega
set_option maxRecDepth 100000 in
set_option maxHeartbeats 4000000 in
theorem impl_CDir (f : CraneF) (s : SV) (x y : Int) (w : World) (h1 : Pl f.x f.y) (h2 : Pl x y) (hQ : Qtr w) :
    Calls Tryd.prog 107 #[.agg (CraneR.cells ⟨f, s⟩).toArray, .agg #[.int .i64 x, .int .i64 y]] w fun e w' => e = .returned (.int .i64 (dirN (x - f.x) (y - f.y))) ∧ Below w.heap.size w w' := by
  have hql := hQ.lt
  have HD := Lib.hid (fun w' (hb : Below w.heap.size w w') => impl_DirTo f.x f.y x y w' h1 h2 (hQ.below hb hql))
  obtain ⟨sa, sl, sc⟩ := s
  obtain ⟨x0, x1, x2, x3, x4, x5⟩ := f
  simp only [CraneR.cells, SV.v] at *
  clear h1 h2 hQ hql
  generalize dirN (x - x1) (y - x2) = d at *
  have hba := Lib.hid (((Below.refl _ w).alloc (Nat.le_refl _) (.cells #[.string x0, .int .i64 x1, .int .i64 x2, .int .i64 x3, .int .i64 x4, .int .i64 x5, .slice sa sl sc] 39 (0, 0))).alloc (by simp) (.cells #[.int .i64 x, .int .i64 y] 36 (0, 0)))
  go_enter Tryd.func107, Tryd.ntmps107
  go_wp2_with fail
  refine (HD.out _ hba.out).mono ?_
  rintro e w2 ⟨⟨c, rfl⟩, hb2⟩
  have hb3 := Lib.hid (hba.out.trans (hb2.mono hba.out.size))
  clear hb2
  go_wp2
  go_ret
  exact ⟨rfl, hb3.out⟩
set_option maxRecDepth 100000 in
set_option maxHeartbeats 4000000 in
theorem impl_CRad (f : CraneF) (s : SV) (x y : Int) (w : World) (h1 : Pl f.x f.y) (h2 : Pl x y) :
    Calls Tryd.prog 109 #[.agg (CraneR.cells ⟨f, s⟩).toArray, .agg #[.int .i64 x, .int .i64 y]] w fun e w' => e = .returned (.int .i64 (radI f x y)) ∧ Below w.heap.size w w' := by
  obtain ⟨hs1, -, -⟩ := rad_bd h1 h2
  have HS := Lib.hid (fun w => impl_Sq f.x f.y x y w h1 h2)
  have HR := Lib.hid (root_any 143 impl_Root hs1)
  unfold radI
  obtain ⟨sa, sl, sc⟩ := s
  obtain ⟨x0, x1, x2, x3, x4, x5⟩ := f
  simp only [CraneR.cells, SV.v] at *
  clear h1 h2 hs1
  generalize rootI (sq4 x1 x2 x y) = r at *
  generalize sq4 x1 x2 x y = sq at *
  have hba := Lib.hid (((Below.refl _ w).alloc (Nat.le_refl _) (.cells #[.string x0, .int .i64 x1, .int .i64 x2, .int .i64 x3, .int .i64 x4, .int .i64 x5, .slice sa sl sc] 39 (0, 0))).alloc (by simp) (.cells #[.int .i64 x, .int .i64 y] 36 (0, 0)))
  go_enter Tryd.func109, Tryd.ntmps109
  go_wp2_with fail
  refine (HS.out _).mono ?_
  rintro e w2 ⟨rfl, hb2⟩
  have hb3 := Lib.hid (hba.out.trans (hb2.mono hba.out.size))
  clear hb2
  go_wp2_with (go_at_call 143; refine (HR.out _).mono ?_; rintro e w' ⟨rfl, rfl⟩)
  go_ret
  exact ⟨rfl, hb3.out⟩
theorem max_if (a b : Int) : (if a < b then b else a) = maxI a b := by
  rcases maxI_cases a b with ⟨h, h2⟩ | ⟨h, h2⟩
  · rw [h2, if_neg (by omega)]
  · rw [h2]; split <;> omega
theorem three_boxes (w : World) (o p q : Obj) : ∃ W, (((w.alloc o).alloc p).alloc q) = W ∧ W.heap[w.heap.size]? = some o ∧ W.heap[w.heap.size + 1]? = some p ∧ W.heap[w.heap.size + 1 + 1]? = some q ∧ Below w.heap.size w W ∧ W.heap.size = w.heap.size + 3 :=
  ⟨_, rfl, box3_0 w o p q, blkN_below ((Below.refl _ _).alloc (Nat.le_refl _) q) (box2_1 w o p), box3_2 w o p q, (((Below.refl _ _).alloc (Nat.le_refl _) _).alloc (by simp) _).alloc (by simp; omega) _, by simp⟩
noncomputable def turnT (f : CraneF) (v : Spd) (x y x' y' : Int) : Int := absI (tb (dirN (x - f.x) (y - f.y)) (dirN (x' - f.x) (y' - f.y))) * v.slew
noncomputable def trolT (f : CraneF) (v : Spd) (x y x' y' : Int) : Int := upI (absI (radI f x' y' - radI f x y)) v.trolley
noncomputable def moveI (f : CraneF) (v : Spd) (x y x' y' : Int) : Int := maxI (turnT f v x y x' y') (trolT f v x y x' y')
theorem move_bd {f : CraneF} {v : Spd} {x y x' y' : Int} (hv : v.ok) (h0 : Pl f.x f.y) (h1 : Pl x y) (h2 : Pl x' y') : (0 ≤ turnT f v x y x' y' ∧ turnT f v x y x' y' ≤ 7200) ∧ (0 ≤ trolT f v x y x' y' ∧ trolT f v x y x' y' ≤ 30000) ∧ (0 ≤ moveI f v x y x' y' ∧ moveI f v x y x' y' ≤ 30000) := by
  have a1 := absI_bd (n := tb (dirN (x - f.x) (y - f.y)) (dirN (x' - f.x) (y' - f.y))) (B := 12) (by have := tb_bound (dirN (x - f.x) (y - f.y)) (dirN (x' - f.x) (y' - f.y)); omega)
  have m := mul_bd (A := 12) (B := 600) a1.1 a1.2 (show 0 ≤ v.slew by have := hv.1.1; omega) hv.1.2
  obtain ⟨-, r1, r2⟩ := rad_bd h0 h1
  obtain ⟨-, r3, r4⟩ := rad_bd h0 h2
  have a2 := absI_bd (n := radI f x' y' - radI f x y) (B := 30000) (by omega)
  have u := up_bd a2.1 (show 0 < v.trolley by have := hv.2.1.1; omega)
  have mx := maxI_cases (turnT f v x y x' y') (trolT f v x y x' y')
  unfold moveI
  have e1 : turnT f v x y x' y' = absI (tb (dirN (x - f.x) (y - f.y)) (dirN (x' - f.x) (y' - f.y))) * v.slew := rfl
  have e2 : trolT f v x y x' y' = upI (absI (radI f x' y' - radI f x y)) v.trolley := rfl
  omega
set_option maxRecDepth 100000 in
set_option maxHeartbeats 8000000 in
theorem impl_Move (f : CraneF) (s : SV) (v : Spd) (x y x' y' : Int) (w : World) (hv : v.ok) (h0 : Pl f.x f.y) (h1 : Pl x y) (h2 : Pl x' y') (hQ : Qtr w) :
    Calls Tryd.prog 55 #[.agg (CraneR.cells ⟨f, s⟩ ++ v.cells).toArray, .agg #[.int .i64 x, .int .i64 y], .agg #[.int .i64 x', .int .i64 y']] w fun e w' => e = .returned (.int .i64 (moveI f v x y x' y')) ∧ Below w.heap.size w w' := by
  have hql := hQ.lt
  have HD1 := Lib.hid (fun w' (hb : Below w.heap.size w w') => impl_CDir f s x y w' h0 h1 (hQ.below hb hql))
  have HD2 := Lib.hid (fun w' (hb : Below w.heap.size w w') => impl_CDir f s x' y' w' h0 h2 (hQ.below hb hql))
  have HR1 := Lib.hid (fun w' => impl_CRad f s x y w' h0 h1)
  have HR2 := Lib.hid (fun w' => impl_CRad f s x' y' w' h0 h2)
  have HS := Lib.hid (fun w' => impl_Slew v (dirN (x - f.x) (y - f.y)) (dirN (x' - f.x) (y' - f.y)) w' hv (dir_Dir _ _) (dir_Dir _ _))
  obtain ⟨-, r1, r2⟩ := rad_bd h0 h1
  obtain ⟨-, r3, r4⟩ := rad_bd h0 h2
  have HT := Lib.hid (fun w' => impl_Troll v (radI f x y) (radI f x' y') w' hv (by omega) (by omega))
  unfold moveI
  unfold turnT trolT at *
  obtain ⟨sa, sl, sc⟩ := s
  obtain ⟨x0, x1, x2, x3, x4, x5⟩ := f
  obtain ⟨v0, v1, v2, v3⟩ := v
  simp only [CraneR.cells, SV.v, Spd.cells, List.cons_append, List.nil_append] at *
  clear hv h0 h1 h2 hQ hql r1 r2 r3 r4
  generalize dirN (x - x1) (y - x2) = d1 at *
  generalize dirN (x' - x1) (y' - x2) = d2 at *
  generalize radI ⟨x0, x1, x2, x3, x4, x5⟩ x y = q1 at *
  generalize radI ⟨x0, x1, x2, x3, x4, x5⟩ x' y' = q2 at *
  generalize absI (tb d1 d2) * v0 = tu at *
  generalize upI (absI (q2 - q1)) v1 = tr at *
  obtain ⟨W0, hW, e1, e2, e3, hB0, hz0⟩ := three_boxes w (.cells #[.string x0, .int .i64 x1, .int .i64 x2, .int .i64 x3, .int .i64 x4, .int .i64 x5, .slice sa sl sc, .int .i64 v0, .int .i64 v1, .int .i64 v2, .int .i64 v3] 94 (0, 0)) (.cells #[.int .i64 x, .int .i64 y] 36 (0, 0)) (.cells #[.int .i64 x', .int .i64 y'] 36 (0, 0))
  have HW := Lib.hid hW
  have k0 : W0.cell? ⟨w.heap.size, 0, none⟩ = some (.string x0) := by rw [Lib.cell_of_heap e1]; rfl
  have k1 : W0.cell? ⟨w.heap.size, 1, none⟩ = some (.int .i64 x1) := by rw [Lib.cell_of_heap e1]; rfl
  have k2 : W0.cell? ⟨w.heap.size, 2, none⟩ = some (.int .i64 x2) := by rw [Lib.cell_of_heap e1]; rfl
  have k3 : W0.cell? ⟨w.heap.size, 3, none⟩ = some (.int .i64 x3) := by rw [Lib.cell_of_heap e1]; rfl
  have k4 : W0.cell? ⟨w.heap.size, 4, none⟩ = some (.int .i64 x4) := by rw [Lib.cell_of_heap e1]; rfl
  have k5 : W0.cell? ⟨w.heap.size, 5, none⟩ = some (.int .i64 x5) := by rw [Lib.cell_of_heap e1]; rfl
  have k6 : W0.cell? ⟨w.heap.size, 6, none⟩ = some (.slice sa sl sc) := by rw [Lib.cell_of_heap e1]; rfl
  have k7 : W0.cell? ⟨w.heap.size, 7, none⟩ = some (.int .i64 v0) := by rw [Lib.cell_of_heap e1]; rfl
  have k8 : W0.cell? ⟨w.heap.size, 8, none⟩ = some (.int .i64 v1) := by rw [Lib.cell_of_heap e1]; rfl
  have k9 : W0.cell? ⟨w.heap.size, 9, none⟩ = some (.int .i64 v2) := by rw [Lib.cell_of_heap e1]; rfl
  have k10 : W0.cell? ⟨w.heap.size, 10, none⟩ = some (.int .i64 v3) := by rw [Lib.cell_of_heap e1]; rfl
  have m0 : W0.cell? ⟨w.heap.size + 1, 0, none⟩ = some (.int .i64 x) := by rw [Lib.cell_of_heap e2]; rfl
  have m1 : W0.cell? ⟨w.heap.size + 1, 1, none⟩ = some (.int .i64 y) := by rw [Lib.cell_of_heap e2]; rfl
  have n0 : W0.cell? ⟨w.heap.size + 1 + 1, 0, none⟩ = some (.int .i64 x') := by rw [Lib.cell_of_heap e3]; rfl
  have n1 : W0.cell? ⟨w.heap.size + 1 + 1, 1, none⟩ = some (.int .i64 y') := by rw [Lib.cell_of_heap e3]; rfl
  have hq0 : w.heap.size < W0.heap.size := by omega
  have hq1 : w.heap.size + 1 < W0.heap.size := by omega
  have hq2 : w.heap.size + 1 + 1 < W0.heap.size := by omega
  have HB0 := Lib.hid hB0
  clear hW e1 e2 e3 hB0 hz0
  go_enter Tryd.func55, Tryd.ntmps55
  go_wp2_with fail
  rw [HW.out]
  go_region_held3 (fun w' => (∀ b' o', b' < W0.heap.size → w'.cell? ⟨b', o', none⟩ = W0.cell? ⟨b', o', none⟩) ∧ Below W0.heap.size W0 w') (first | (refine heldB ?_; go_grown; done))
      (first
        | (go_at_call 107; (with_reducible refine (HD1.out _ ?hb).mono ?_); (case hb => exact HB0.out.trans (Below.mono (B := W0.heap.size) (by go_grown) HB0.out.size)); rintro e w2 ⟨rfl, hb2'⟩; have b2 : Below W0.heap.size W0 w2 := Below.trans (by go_grown) (hb2'.mono (by go_size)); have q2 := (bcell b2).1)
        | (go_at_call 107; (with_reducible refine (HD2.out _ ?hb).mono ?_); (case hb => exact HB0.out.trans (b2.mono HB0.out.size)); rintro e w3 ⟨rfl, hb3'⟩; have b3 : Below W0.heap.size W0 w3 := Below.trans b2 (hb3'.mono b2.size); have q3 := (bcell b3).1)
        | (go_at_call 106; (with_reducible refine (HS.out _).mono ?_); rintro e w4 ⟨rfl, hb4'⟩; have b4 : Below W0.heap.size W0 w4 := Below.trans b3 (hb4'.mono b3.size); have q4 := (bcell b4).1)
        | (go_at_call 109; (with_reducible refine (HR1.out _).mono ?_); rintro e w5 ⟨rfl, hb5'⟩; have b5 : Below W0.heap.size W0 w5 := Below.trans b4 (hb5'.mono b4.size); have q5 := (bcell b5).1)
        | (go_at_call 109; (with_reducible refine (HR2.out _).mono ?_); rintro e w6 ⟨rfl, hb6'⟩; have b6 : Below W0.heap.size W0 w6 := Below.trans b5 (hb6'.mono b5.size); have q6 := (bcell b6).1)
        | (go_at_call 108; (with_reducible refine (HT.out _).mono ?_); rintro e w7 ⟨rfl, hb7'⟩; have b7 : Below W0.heap.size W0 w7 := Below.trans b6 (hb7'.mono b6.size); have q7 := (bcell b7).1))
  go_wp2_with fail
  all_goals
    have hmx := maxI_cases tu tr
    go_ret
    first
      | exact ⟨ret_int (show tu = maxI tu tr by omega), HB0.out.trans (b7.mono HB0.out.size)⟩
      | exact ⟨ret_int (show tr = maxI tu tr by omega), HB0.out.trans (b7.mono HB0.out.size)⟩
set_option maxRecDepth 100000 in
set_option maxHeartbeats 8000000 in
theorem spec_Move (b o : Nat) (f : CraneF) (sv : Value) (v : Spd) (x y x' y' : Int) (w : World) (hc : At w b o (craneC f sv)) (hv : v.ok) (h0 : Pl f.x f.y) (h1 : Pl x y) (h2 : Pl x' y') :
    Calls Tryd.prog 53 #[.pointer (some ⟨b, o, none⟩), .agg v.cells.toArray, .agg #[.int .i64 x, .int .i64 y], .agg #[.int .i64 x', .int .i64 y']] w fun e w' => e = .returned (.int .i64 (moveI f v x y x' y')) ∧ Below w.heap.size w w' := by
  have HD1 := Lib.hid (fun w' => spec_Dir f.x f.y x y w' h0 h1)
  have HD2 := Lib.hid (fun w' => spec_Dir f.x f.y x' y' w' h0 h2)
  have HT := Lib.hid (fun w' => spec_Turn (dirN (x - f.x) (y - f.y)) (dirN (x' - f.x) (y' - f.y)) w' (dir_Dir _ _) (dir_Dir _ _))
  have htb := tb_bound (dirN (x - f.x) (y - f.y)) (dirN (x' - f.x) (y' - f.y))
  have HZ := Lib.hid (fun w' => spec_Size (tb (dirN (x - f.x) (y - f.y)) (dirN (x' - f.x) (y' - f.y))) w' (by omega))
  obtain ⟨s1, r1, r2⟩ := rad_bd h0 h1
  obtain ⟨s2, r3, r4⟩ := rad_bd h0 h2
  have HS1 := Lib.hid (fun w' => spec_Sq f.x f.y x y w' h0 h1)
  have HS2 := Lib.hid (fun w' => spec_Sq f.x f.y x' y' w' h0 h2)
  have HR1 := Lib.hid (root_any 103 spec_Root s1)
  have HR2 := Lib.hid (root_any 103 spec_Root s2)
  have HZ2 := Lib.hid (fun w' => spec_Size (radI f x' y' - radI f x y) w' (by omega))
  have hz := absI_bd (n := radI f x' y' - radI f x y) (B := 30000) (by omega)
  have HU := Lib.hid (fun w' => spec_Up (absI (radI f x' y' - radI f x y)) v.trolley w' hz.1 (by omega) (by have := hv.2.1.1; omega) (by have := hv.2.1.2; omega))
  have hM := fun w' => spec_Max (turnT f v x y x' y') (trolT f v x y x' y') w'
  obtain ⟨⟨t1, t2⟩, -, -⟩ := move_bd hv h0 h1 h2
  unfold moveI
  have e1 : turnT f v x y x' y' = absI (tb (dirN (x - f.x) (y - f.y)) (dirN (x' - f.x) (y' - f.y))) * v.slew := rfl
  have e2 : trolT f v x y x' y' = upI (absI (radI f x' y' - radI f x y)) v.trolley := rfl
  rw [e1] at t1 t2 hM ⊢
  rw [e2] at hM ⊢
  have hw1 : IntKind.i64.wrap (radI f x' y' - radI f x y) = radI f x' y' - radI f x y := IntWalk.i64_in _ (by omega)
  have hw2 : IntKind.i64.wrap (absI (tb (dirN (x - f.x) (y - f.y)) (dirN (x' - f.x) (y' - f.y))) * v.slew) = absI (tb (dirN (x - f.x) (y - f.y)) (dirN (x' - f.x) (y' - f.y))) * v.slew := IntWalk.i64_in _ (by omega)
  have HM := Lib.hid hM
  have hbw := hc.lt (by simp [craneC])
  have c1 := hc 1 _ rfl
  have c2 := hc 2 _ rfl
  obtain ⟨x0, x1, x2, x3, x4, x5⟩ := f
  obtain ⟨v0, v1, v2, v3⟩ := v
  simp only [Spd.cells] at *
  clear hc hv h0 h1 h2 r1 r2 r3 r4 s1 s2 e1 e2 htb hz hM t1 t2
  unfold radI at *
  generalize dirN (x - x1) (y - x2) = d1 at *
  generalize dirN (x' - x1) (y' - x2) = d2 at *
  generalize rootI (sq4 x1 x2 x y) = q1 at *
  generalize rootI (sq4 x1 x2 x' y') = q2 at *
  generalize sq4 x1 x2 x y = s1 at *
  generalize sq4 x1 x2 x' y' = s2 at *
  generalize upI (absI (q2 - q1)) v1 = tr at *
  generalize absI (q2 - q1) = aq at *
  generalize absI (tb d1 d2) = au at *
  generalize tb d1 d2 = tt at *
  generalize maxI (au * v0) tr = mx at *
  obtain ⟨W0, hW, e1, e2, e3, hB0, hz0⟩ := three_boxes w (.cells #[.int .i64 v0, .int .i64 v1, .int .i64 v2, .int .i64 v3] 41 (0, 0)) (.cells #[.int .i64 x, .int .i64 y] 36 (0, 0)) (.cells #[.int .i64 x', .int .i64 y'] 36 (0, 0))
  have HW := Lib.hid hW
  have k0 : W0.cell? ⟨w.heap.size, 0, none⟩ = some (.int .i64 v0) := by rw [Lib.cell_of_heap e1]; rfl
  have k1 : W0.cell? ⟨w.heap.size, 1, none⟩ = some (.int .i64 v1) := by rw [Lib.cell_of_heap e1]; rfl
  have k2 : W0.cell? ⟨w.heap.size, 2, none⟩ = some (.int .i64 v2) := by rw [Lib.cell_of_heap e1]; rfl
  have k3 : W0.cell? ⟨w.heap.size, 3, none⟩ = some (.int .i64 v3) := by rw [Lib.cell_of_heap e1]; rfl
  have m0 : W0.cell? ⟨w.heap.size + 1, 0, none⟩ = some (.int .i64 x) := by rw [Lib.cell_of_heap e2]; rfl
  have m1 : W0.cell? ⟨w.heap.size + 1, 1, none⟩ = some (.int .i64 y) := by rw [Lib.cell_of_heap e2]; rfl
  have n0 : W0.cell? ⟨w.heap.size + 1 + 1, 0, none⟩ = some (.int .i64 x') := by rw [Lib.cell_of_heap e3]; rfl
  have n1 : W0.cell? ⟨w.heap.size + 1 + 1, 1, none⟩ = some (.int .i64 y') := by rw [Lib.cell_of_heap e3]; rfl
  have hc1 := (hB0.cell (p := ⟨b, o + 1, none⟩) hbw).trans c1
  have hc2 := (hB0.cell (p := ⟨b, o + 2, none⟩) hbw).trans c2
  have hq0 : w.heap.size < W0.heap.size := by omega
  have hq1 : w.heap.size + 1 < W0.heap.size := by omega
  have hq2 : w.heap.size + 1 + 1 < W0.heap.size := by omega
  have hq3 : b < W0.heap.size := by omega
  have HB0 := Lib.hid hB0
  clear hW e1 e2 e3 hB0 hz0 c1 c2
  go_enter Tryd.func53, Tryd.ntmps53
  go_wp2_with fail
  rw [HW.out]
  go_region_held3 (fun w' => (∀ b' o', b' < W0.heap.size → w'.cell? ⟨b', o', none⟩ = W0.cell? ⟨b', o', none⟩) ∧ Below W0.heap.size W0 w') (first | (refine heldB ?_; go_grown; done))
    (first
      | (go_at_call 102; (with_reducible refine (HD1.out _).mono ?_); rintro e w2 ⟨rfl, hb2'⟩; have b2 : Below W0.heap.size W0 w2 := Below.trans (by go_grown) (hb2'.mono (by go_size)); have q2 := (bcell b2).1)
      | (go_at_call 102; (with_reducible refine (HD2.out _).mono ?_); rintro e w3 ⟨rfl, hb3'⟩; have b3 : Below W0.heap.size W0 w3 := Below.trans b2 (hb3'.mono b2.size); have q3 := (bcell b3).1)
      | (go_at_call 101; (with_reducible refine (HT.out _).mono ?_); rintro e w4 ⟨rfl, rfl⟩)
      | (go_at_call 100; (with_reducible refine (HZ.out _).mono ?_); rintro e w4 ⟨rfl, rfl⟩))
  clear hb2' hb3' b2 q2
  go_wp2_with fail
  go_region_held3 (fun w' => (∀ b' o', b' < W0.heap.size → w'.cell? ⟨b', o', none⟩ = W0.cell? ⟨b', o', none⟩) ∧ Below W0.heap.size W0 w') (first | (refine heldB ?_; first | exact b3 | go_grown; done))
    (first
      | (go_at_call 104; (with_reducible refine (HS1.out _).mono ?_); rintro e w4 ⟨rfl, hb4'⟩; have b4 : Below W0.heap.size W0 w4 := Below.trans (by first | exact b3 | exact below_dN b3 _ | exact b3.drew | go_grown) (hb4'.mono (by first | exact b3.size | go_size)); have q4 := (bcell b4).1)
      | (go_at_call 103; (with_reducible refine (HR1.out _).mono ?_); rintro e w5 ⟨rfl, rfl⟩))
  go_wp2_with fail
  clear hb4' b3 q3
  go_region_held3 (fun w' => (∀ b' o', b' < W0.heap.size → w'.cell? ⟨b', o', none⟩ = W0.cell? ⟨b', o', none⟩) ∧ Below W0.heap.size W0 w') (first | (refine heldB ?_; first | exact b4 | go_grown; done))
    (first
      | (go_at_call 104; (with_reducible refine (HS2.out _).mono ?_); rintro e w5 ⟨rfl, hb5'⟩; have b5 : Below W0.heap.size W0 w5 := Below.trans (by first | exact b4 | exact below_dN b4 _ | exact b4.drew | go_grown) (hb5'.mono (by first | exact b4.size | go_size)); have q5 := (bcell b5).1)
      | (go_at_call 103; (with_reducible refine (HR2.out _).mono ?_); rintro e w6 ⟨rfl, rfl⟩))
  clear hb5' b4 q4
  go_wp2_with fail
  go_quiet (first
    | (go_at_call 100; exact Calls.quiet_of_same (Calls.turn (HZ2.out _)))
    | (go_at_call 100; exact quiet2' (Calls.turn (HZ2.out _)))
    | (go_at_call 93; exact Calls.quiet_of_same (Calls.turn (HU.out _)))
    | (go_at_call 93; exact quiet2' (Calls.turn (HU.out _)))
    | (go_at_call 105; exact Calls.quiet_of_same (Calls.turn (HM.out _)))
    | (go_at_call 105; exact quiet2' (Calls.turn (HM.out _))))
  go_wp2
  go_ret
  exact ⟨rfl, HB0.out.trans (Below.mono (B := W0.heap.size) (by first | exact below_dN b5 _ | exact b5) HB0.out.size)⟩
end Go.Proofs.YtdadadiipmenbaaDoor
