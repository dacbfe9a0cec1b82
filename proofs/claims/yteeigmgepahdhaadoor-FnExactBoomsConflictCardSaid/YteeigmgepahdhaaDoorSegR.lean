/- BoomsConflict, both packages. -/
import Derived.Test.YteeigmgepahdhaaDoorSegQ
namespace Go.Proofs.YteeigmgepahdhaaDoor
open Go.RowKit
def conR (b1 b2 : Bool) (f g : CraneF) (da db n : Int) : Bool × Int :=
  if b1 = true ∧ b2 = true then (if (0 ≤ n ∧ n ≤ 1000) ∧ (0 ≤ da ∧ da ≤ 23) ∧ (0 ≤ db ∧ db ≤ 23) then (decide (confP f g da.toNat db.toNat (n * n)), 0) else (false, 2)) else (false, 1)
/-- What is known where all is valid. -/
def AllOk (b1 b2 : Bool) (f g : CraneF) (da db n : Int) : Prop :=
  b1 = true ∧ b2 = true ∧ (0 ≤ n ∧ n ≤ 1000) ∧ ∃ d1 d2 : Nat, da = d1 ∧ db = d2 ∧ d1 < 24 ∧ d2 < 24 ∧ conR b1 b2 f g da db n = (decide (confP f g d1 d2 (n * n)), 0)
theorem con_ways (b1 b2 : Bool) (f g : CraneF) (da db n : Int) :
    (b1 = false ∧ conR b1 b2 f g da db n = (false, 1)) ∨ (b1 = true ∧ b2 = false ∧ conR b1 b2 f g da db n = (false, 1)) ∨ (b1 = true ∧ b2 = true ∧
      (((0 ≤ n ∧ n ≤ 1000) ∧ (0 ≤ da ∧ da ≤ 23) ∧ (0 ≤ db ∧ db ≤ 23) ∧ AllOk b1 b2 f g da db n) ∨ (¬ ((0 ≤ n ∧ n ≤ 1000) ∧ (0 ≤ da ∧ da ≤ 23) ∧ (0 ≤ db ∧ db ≤ 23)) ∧ conR b1 b2 f g da db n = (false, 2)))) := by
  cases b1
  · exact .inl ⟨rfl, by simp [conR]⟩
  · cases b2
    · exact .inr (.inl ⟨rfl, rfl, by simp [conR]⟩)
    · refine .inr (.inr ⟨rfl, rfl, ?_⟩)
      by_cases h : (0 ≤ n ∧ n ≤ 1000) ∧ (0 ≤ da ∧ da ≤ 23) ∧ (0 ≤ db ∧ db ≤ 23)
      · refine .inl ⟨h.1, h.2.1, h.2.2, rfl, rfl, h.1, da.toNat, db.toNat, by omega, by omega, by omega, by omega, ?_⟩
        unfold conR
        rw [if_pos ⟨rfl, rfl⟩, if_pos h]
      · refine .inr ⟨h, ?_⟩
        unfold conR
        rw [if_pos ⟨rfl, rfl⟩, if_neg h]
theorem hc_of {w : World} {q : Nat} {cs : List Value} {t : TypeId} {z : Nat × Nat} (h : w.heap[q]? = some (.cells cs.toArray t z)) : ∀ j u, cs[j]? = some u → w.cell? ⟨q, 0 + j, none⟩ = some u := by
  intro j u hj
  rw [Nat.zero_add]
  exact (Lib.cell_of_heap h j).trans (by rw [List.getElem?_toArray]; exact hj)
theorem crb_of {w : World} {q : Nat} {f : CraneF} {sv : Value} {t : TypeId} {z : Nat × Nat} (h : w.heap[q]? = some (.cells #[.string f.name, .int .i64 f.x, .int .i64 f.y, .int .i64 f.height, .int .i64 f.jib, .int .i64 f.back, sv] t z)) : CrB q 0 f w := by
  obtain ⟨-, e1, e2, e3, e4, e5, -⟩ := cells7s h
  exact ⟨e1, e2, e3, e4, e5⟩
set_option maxRecDepth 100000 in
set_option maxHeartbeats 8000000 in
theorem spec_BoomsConflict (f g : CraneF) (af ag : Option Addr) (kf cf kg cg : Nat) (l lg : List Chs) (lo hi lo2 hi2 : Nat) (da db n : Int) (w : World) (h : Chss lo hi w (.slice af kf cf) l) (h2 : Chss lo2 hi2 w (.slice ag kg cg) lg) (hwf : f.name.size ≤ maxLen) (hwg : g.name.size ≤ maxLen) :
    Calls Tryd.prog 16 #[.agg #[.string (f).name, .int .i64 (f).x, .int .i64 (f).y, .int .i64 (f).height, .int .i64 (f).jib, .int .i64 (f).back, .slice af kf cf], .agg #[.string (g).name, .int .i64 (g).x, .int .i64 (g).y, .int .i64 (g).height, .int .i64 (g).jib, .int .i64 (g).back, .slice ag kg cg], .int .i64 da, .int .i64 db, .int .i64 n] w fun e w' => e = .returned (.tuple #[.bool (conR (craneB f l) (craneB g lg) f g da db n).1, .int .i64 (conR (craneB f l) (craneB g lg) f g da db n).2]) ∧ Below w.heap.size w w' := by
  have KA := Lib.hid (fun w => spec_Dir23 da w)
  have KB := Lib.hid (fun w => spec_Dir23 db w)
  have G5 := box2_0 w (.cells #[.string (f).name, .int .i64 (f).x, .int .i64 (f).y, .int .i64 (f).height, .int .i64 (f).jib, .int .i64 (f).back, .slice af kf cf] 28) (.cells #[.string (g).name, .int .i64 (g).x, .int .i64 (g).y, .int .i64 (g).height, .int .i64 (g).jib, .int .i64 (g).back, .slice ag kg cg] 28)
  have G6 := box2_1 w (.cells #[.string (f).name, .int .i64 (f).x, .int .i64 (f).y, .int .i64 (f).height, .int .i64 (f).jib, .int .i64 (f).back, .slice af kf cf] 28) (.cells #[.string (g).name, .int .i64 (g).x, .int .i64 (g).y, .int .i64 (g).height, .int .i64 (g).jib, .int .i64 (g).back, .slice ag kg cg] 28)
  have BX : Below w.heap.size w ((w.alloc (.cells #[.string (f).name, .int .i64 (f).x, .int .i64 (f).y, .int .i64 (f).height, .int .i64 (f).jib, .int .i64 (f).back, .slice af kf cf] 28)).alloc (.cells #[.string (g).name, .int .i64 (g).x, .int .i64 (g).y, .int .i64 (g).height, .int .i64 (g).jib, .int .i64 (g).back, .slice ag kg cg] 28)) := ((Below.refl _ w).alloc (Nat.le_refl _) _).alloc (by simp) _
  have KC := spec_Code w.heap.size 0 (w.heap.size + 1) 0 (craneB f l) (craneB g lg) n _
    (fun w' hb => spec_CraneOk w.heap.size 0 f (.slice af kf cf) l lo hi w' (hc_of (blkN_below hb G5)) (h.ext (BX.trans (hb.mono BX.size))) hwf)
    (fun w' hb => spec_CraneOk (w.heap.size + 1) 0 g (.slice ag kg cg) lg lo2 hi2 w' (hc_of (blkN_below hb G6)) (h2.ext (BX.trans (hb.mono BX.size))) hwg)
  have G5 := Lib.hid G5
  have G6 := Lib.hid G6
  have BX := Lib.hid BX
  have hways := con_ways (craneB f l) (craneB g lg) f g da db n
  have hG1 : craneB f l = true → GeoOk f := fun h => (craneB_iff.1 h).geo
  have hG2 : craneB g lg = true → GeoOk g := fun h => (craneB_iff.1 h).geo
  clear h h2 hwf hwg
  generalize craneB f l = b1 at *
  generalize craneB g lg = b2 at *
  rcases hways with ⟨rfl, hr⟩ | ⟨rfl, rfl, hr⟩ | ⟨rfl, rfl, ⟨hn, ha, hb, hall⟩ | ⟨hno, hr⟩⟩
  · rw [show codC false b2 n = 1 by simp [codC]] at KC
    have KC := Lib.hid KC
    rw [hr]
    clear hr G5 G6
    go_enter Tryd.func16, Tryd.ntmps16
    go_wp2_with fail
    refine KC.out.mono ?_
    rintro e w1 ⟨rfl, c1⟩
    have B1 := BX.out.trans (c1.mono BX.out.size)
    dsimp only
    go_wp2
    go_ret2
    exact ⟨rfl, B1⟩
  · rw [show codC true false n = 1 by simp [codC]] at KC
    have KC := Lib.hid KC
    rw [hr]
    clear hr G5 G6
    go_enter Tryd.func16, Tryd.ntmps16
    go_wp2_with fail
    refine KC.out.mono ?_
    rintro e w1 ⟨rfl, c1⟩
    have B1 := BX.out.trans (c1.mono BX.out.size)
    dsimp only
    go_wp2
    go_ret2
    exact ⟨rfl, B1⟩
  · rw [show codC true true n = 0 by simp [codC, hn]] at KC
    have KC := Lib.hid KC
    rw [decide_eq_true ha] at KA
    rw [decide_eq_true hb] at KB
    obtain ⟨-, -, -, d1, d2, rfl, rfl, hd1, hd2, hr⟩ := hall
    rw [hr]
    have KF := Lib.hid (fun w p h h2 => spec_Conflict p 0 (p + 1) 0 f g d1 d2 n w h h2 (hG1 rfl) (hG2 rfl) hd1 hd2 hn)
    clear hr ha hb hd1 hd2 hn hG1 hG2
    go_enter Tryd.func16, Tryd.ntmps16
    go_wp2_with fail
    refine KC.out.mono ?_
    rintro e w1 ⟨rfl, c1⟩
    have B1 := BX.out.trans (c1.mono BX.out.size)
    dsimp only
    go_wp2_with fail
    refine (KA.out _).mono ?_
    rintro e y1 ⟨rfl, rfl⟩
    dsimp only
    go_wp2_with fail
    refine (KB.out _).mono ?_
    rintro e y2 ⟨rfl, rfl⟩
    dsimp only
    go_wp2_with fail
    refine (KF.out _ _ (crb_of (blkN_below c1 G5.out)) (crb_of (blkN_below c1 G6.out))).mono ?_
    rintro e w2 ⟨rfl, c2⟩
    have B1 := B1.trans (c2.mono B1.size)
    dsimp only
    go_wp2
    go_ret2
    exact ⟨rfl, B1⟩
  · clear hG1 hG2
    by_cases hn : 0 ≤ n ∧ n ≤ 1000
    · rw [show codC true true n = 0 by simp [codC, hn]] at KC
      have KC := Lib.hid KC
      by_cases ha : 0 ≤ da ∧ da ≤ 23
      · have hb : ¬ (0 ≤ db ∧ db ≤ 23) := fun hb => hno ⟨hn, ha, hb⟩
        rw [decide_eq_true ha] at KA
        rw [decide_eq_false hb] at KB
        clear hno hn ha hb
        rw [hr]
        clear hr G5 G6
        go_enter Tryd.func16, Tryd.ntmps16
        go_wp2_with fail
        refine KC.out.mono ?_
        rintro e w1 ⟨rfl, c1⟩
        have B1 := BX.out.trans (c1.mono BX.out.size)
        dsimp only
        go_wp2_with fail
        refine (KA.out _).mono ?_
        rintro e y1 ⟨rfl, rfl⟩
        dsimp only
        go_wp2_with fail
        refine (KB.out _).mono ?_
        rintro e y2 ⟨rfl, rfl⟩
        dsimp only
        go_wp2
        go_ret2
        exact ⟨rfl, B1⟩
      · rw [decide_eq_false ha] at KA
        clear hno hn ha
        rw [hr]
        clear hr G5 G6
        go_enter Tryd.func16, Tryd.ntmps16
        go_wp2_with fail
        refine KC.out.mono ?_
        rintro e w1 ⟨rfl, c1⟩
        have B1 := BX.out.trans (c1.mono BX.out.size)
        dsimp only
        go_wp2_with fail
        refine (KA.out _).mono ?_
        rintro e y1 ⟨rfl, rfl⟩
        dsimp only
        go_wp2
        go_ret2
        exact ⟨rfl, B1⟩
    · rw [show codC true true n = 2 by unfold codC; rw [if_pos (And.intro rfl rfl), if_neg hn]] at KC
      have KC := Lib.hid KC
      clear hno hn
      rw [hr]
      clear hr G5 G6
      go_enter Tryd.func16, Tryd.ntmps16
      go_wp2_with fail
      refine KC.out.mono ?_
      rintro e w1 ⟨rfl, c1⟩
      have B1 := BX.out.trans (c1.mono BX.out.size)
      dsimp only
      go_wp2
      go_ret2
      exact ⟨rfl, B1⟩
set_option maxRecDepth 100000 in
set_option maxHeartbeats 8000000 in
theorem impl_BoomsConflict (f g : CraneF) (af ag : Option Addr) (kf cf kg cg : Nat) (l lg : List Chs) (lo hi lo2 hi2 : Nat) (da db n : Int) (w : World) (hQ : Qtr w) (h : Chss lo hi w (.slice af kf cf) l) (h2 : Chss lo2 hi2 w (.slice ag kg cg) lg) (hwf : f.name.size ≤ maxLen) (hwg : g.name.size ≤ maxLen) :
    Calls Tryd.prog 12 #[.agg #[.string (f).name, .int .i64 (f).x, .int .i64 (f).y, .int .i64 (f).height, .int .i64 (f).jib, .int .i64 (f).back, .slice af kf cf], .agg #[.string (g).name, .int .i64 (g).x, .int .i64 (g).y, .int .i64 (g).height, .int .i64 (g).jib, .int .i64 (g).back, .slice ag kg cg], .int .i64 da, .int .i64 db, .int .i64 n] w fun e w' => e = .returned (.tuple #[.bool (conR (craneB f l) (craneB g lg) f g da db n).1, .int .i64 (conR (craneB f l) (craneB g lg) f g da db n).2]) ∧ Below w.heap.size w w' := by
  have KA := Lib.hid (fun w => impl_Dir23 da w)
  have KB := Lib.hid (fun w => impl_Dir23 db w)
  have KN1 := Lib.hid (fun (h : 0 ≤ n ∧ n ≤ 1000) w => impl_within_t n 0 1000 w h.1 h.2)
  have KN2 := Lib.hid (fun (h : ¬ (0 ≤ n ∧ n ≤ 1000)) w => impl_within_f n 0 1000 w h)
  have G5 := Lib.hid (box2_0 w (.cells #[.string (f).name, .int .i64 (f).x, .int .i64 (f).y, .int .i64 (f).height, .int .i64 (f).jib, .int .i64 (f).back, .slice af kf cf] 28) (.cells #[.string (g).name, .int .i64 (g).x, .int .i64 (g).y, .int .i64 (g).height, .int .i64 (g).jib, .int .i64 (g).back, .slice ag kg cg] 28))
  have G6 := Lib.hid (box2_1 w (.cells #[.string (f).name, .int .i64 (f).x, .int .i64 (f).y, .int .i64 (f).height, .int .i64 (f).jib, .int .i64 (f).back, .slice af kf cf] 28) (.cells #[.string (g).name, .int .i64 (g).x, .int .i64 (g).y, .int .i64 (g).height, .int .i64 (g).jib, .int .i64 (g).back, .slice ag kg cg] 28))
  have BX : Hid (Below w.heap.size w ((w.alloc (.cells #[.string (f).name, .int .i64 (f).x, .int .i64 (f).y, .int .i64 (f).height, .int .i64 (f).jib, .int .i64 (f).back, .slice af kf cf] 28)).alloc (.cells #[.string (g).name, .int .i64 (g).x, .int .i64 (g).y, .int .i64 (g).height, .int .i64 (g).jib, .int .i64 (g).back, .slice ag kg cg] 28))) := Lib.hid (((Below.refl _ w).alloc (Nat.le_refl _) _).alloc (by simp) _)
  have K1 := fun w' (hb : Below w.heap.size w w') => impl_CraneOk f ⟨af, kf, cf⟩ l lo hi w' (h.ext hb) hwf
  have K2 := fun w' (hb : Below w.heap.size w w') => impl_CraneOk g ⟨ag, kg, cg⟩ lg lo2 hi2 w' (h2.ext hb) hwg
  simp only [CraneR.cells, SV.v] at K1 K2
  have HQ := Lib.hid (fun w' (hb : Below w.heap.size w w') => hQ.ext hb)
  have hways := con_ways (craneB f l) (craneB g lg) f g da db n
  have hG1 : craneB f l = true → GeoOk f := fun h => (craneB_iff.1 h).geo
  have hG2 : craneB g lg = true → GeoOk g := fun h => (craneB_iff.1 h).geo
  clear h h2 hwf hwg hQ
  generalize craneB f l = b1 at *
  generalize craneB g lg = b2 at *
  have K1 := Lib.hid K1
  have K2 := Lib.hid K2
  rcases hways with ⟨rfl, hr⟩ | ⟨rfl, rfl, hr⟩ | ⟨rfl, rfl, ⟨hn, ha, hb, hall⟩ | ⟨hno, hr⟩⟩
  · rw [hr]
    clear hr G5 G6
    go_enter Tryd.func12, Tryd.ntmps12
    go_wp2_with fail
    refine (K1.out _ BX.out).mono ?_
    rintro e w1 ⟨rfl, c1⟩
    have B1 := BX.out.trans (c1.mono BX.out.size)
    dsimp only
    go_wp2
    go_ret2
    exact ⟨rfl, B1⟩
  · rw [hr]
    clear hr
    go_enter Tryd.func12, Tryd.ntmps12
    go_wp2_with fail
    refine (K1.out _ BX.out).mono ?_
    rintro e w1 ⟨rfl, c1⟩
    have B1 := BX.out.trans (c1.mono BX.out.size)
    have E5 := blkN_below c1 G5.out
    have E6 := blkN_below c1 G6.out
    have E5 := Lib.hid E5
    have E6 := Lib.hid E6
    clear c1
    obtain ⟨e0, e1, e2, e3, e4, e5, e6⟩ := cells7s E6.out
    dsimp only
    go_wp2_with fail
    refine (K2.out _ B1).mono ?_
    rintro e w2 ⟨rfl, c2⟩
    have B1 := B1.trans (c2.mono B1.size)
    clear e0 e1 e2 e3 e4 e5 e6
    dsimp only
    go_wp2
    go_ret2
    exact ⟨rfl, B1⟩
  · rw [decide_eq_true ha] at KA
    rw [decide_eq_true hb] at KB
    have KN := Lib.hid (KN1.out hn)
    obtain ⟨-, -, -, d1, d2, rfl, rfl, hd1, hd2, hr⟩ := hall
    rw [hr]
    have KF := Lib.hid (fun w h => impl_Conflict f g af ag kf cf kg cg d1 d2 n w h (hG1 rfl) (hG2 rfl) hd1 hd2 hn)
    clear hr ha hb hd1 hd2 hn hG1 hG2 KN1 KN2
    go_enter Tryd.func12, Tryd.ntmps12
    go_wp2_with fail
    refine (K1.out _ BX.out).mono ?_
    rintro e w1 ⟨rfl, c1⟩
    have B1 := BX.out.trans (c1.mono BX.out.size)
    have E5 := blkN_below c1 G5.out
    have E6 := blkN_below c1 G6.out
    have E5 := Lib.hid E5
    have E6 := Lib.hid E6
    clear c1
    obtain ⟨e0, e1, e2, e3, e4, e5, e6⟩ := cells7s E6.out
    dsimp only
    go_wp2_with fail
    refine (K2.out _ B1).mono ?_
    rintro e w2 ⟨rfl, c2⟩
    have B1 := B1.trans (c2.mono B1.size)
    clear e0 e1 e2 e3 e4 e5 e6
    dsimp only
    go_wp2_with fail
    refine (KA.out _).mono ?_
    rintro e y1 ⟨rfl, rfl⟩
    dsimp only
    go_wp2_with fail
    refine (KB.out _).mono ?_
    rintro e y2 ⟨rfl, rfl⟩
    dsimp only
    go_wp2_with fail
    refine (KN.out _).mono ?_
    rintro e y3 ⟨rfl, rfl⟩
    dsimp only
    obtain ⟨s0, s1, s2, s3, s4, s5, s6⟩ := cells7s (blkN_below c2 E5.out)
    obtain ⟨t0, t1, t2, t3, t4, t5, t6⟩ := cells7s (blkN_below c2 E6.out)
    go_wp2_with fail
    refine (KF.out _ (HQ.out _ B1)).mono ?_
    rintro e w3 ⟨rfl, c3⟩
    have B1 := B1.trans (c3.mono B1.size)
    dsimp only
    go_wp2
    go_ret2
    exact ⟨rfl, B1⟩
  · rw [hr]
    clear hG1 hG2 hr
    by_cases ha : 0 ≤ da ∧ da ≤ 23
    · rw [decide_eq_true ha] at KA
      by_cases hb : 0 ≤ db ∧ db ≤ 23
      · have KN := Lib.hid (KN2.out fun hn => hno ⟨hn, ha, hb⟩)
        rw [decide_eq_true hb] at KB
        clear hno ha hb KN1 KN2
        go_enter Tryd.func12, Tryd.ntmps12
        go_wp2_with fail
        refine (K1.out _ BX.out).mono ?_
        rintro e w1 ⟨rfl, c1⟩
        have B1 := BX.out.trans (c1.mono BX.out.size)
        have E5 := blkN_below c1 G5.out
        have E6 := blkN_below c1 G6.out
        have E5 := Lib.hid E5
        have E6 := Lib.hid E6
        clear c1
        obtain ⟨e0, e1, e2, e3, e4, e5, e6⟩ := cells7s E6.out
        dsimp only
        go_wp2_with fail
        refine (K2.out _ B1).mono ?_
        rintro e w2 ⟨rfl, c2⟩
        have B1 := B1.trans (c2.mono B1.size)
        clear e0 e1 e2 e3 e4 e5 e6
        dsimp only
        go_wp2_with fail
        refine (KA.out _).mono ?_
        rintro e y1 ⟨rfl, rfl⟩
        dsimp only
        go_wp2_with fail
        refine (KB.out _).mono ?_
        rintro e y2 ⟨rfl, rfl⟩
        dsimp only
        go_wp2_with fail
        refine (KN.out _).mono ?_
        rintro e y3 ⟨rfl, rfl⟩
        dsimp only
        go_wp2
        go_ret2
        exact ⟨rfl, B1⟩
      · rw [decide_eq_false hb] at KB
        clear hno ha hb KN1 KN2
        go_enter Tryd.func12, Tryd.ntmps12
        go_wp2_with fail
        refine (K1.out _ BX.out).mono ?_
        rintro e w1 ⟨rfl, c1⟩
        have B1 := BX.out.trans (c1.mono BX.out.size)
        have E5 := blkN_below c1 G5.out
        have E6 := blkN_below c1 G6.out
        have E5 := Lib.hid E5
        have E6 := Lib.hid E6
        clear c1
        obtain ⟨e0, e1, e2, e3, e4, e5, e6⟩ := cells7s E6.out
        dsimp only
        go_wp2_with fail
        refine (K2.out _ B1).mono ?_
        rintro e w2 ⟨rfl, c2⟩
        have B1 := B1.trans (c2.mono B1.size)
        clear e0 e1 e2 e3 e4 e5 e6
        dsimp only
        go_wp2_with fail
        refine (KA.out _).mono ?_
        rintro e y1 ⟨rfl, rfl⟩
        dsimp only
        go_wp2_with fail
        refine (KB.out _).mono ?_
        rintro e y2 ⟨rfl, rfl⟩
        dsimp only
        go_wp2
        go_ret2
        exact ⟨rfl, B1⟩
    · rw [decide_eq_false ha] at KA
      clear hno ha KN1 KN2
      go_enter Tryd.func12, Tryd.ntmps12
      go_wp2_with fail
      refine (K1.out _ BX.out).mono ?_
      rintro e w1 ⟨rfl, c1⟩
      have B1 := BX.out.trans (c1.mono BX.out.size)
      have E5 := blkN_below c1 G5.out
      have E6 := blkN_below c1 G6.out
      have E5 := Lib.hid E5
      have E6 := Lib.hid E6
      clear c1
      obtain ⟨e0, e1, e2, e3, e4, e5, e6⟩ := cells7s E6.out
      dsimp only
      go_wp2_with fail
      refine (K2.out _ B1).mono ?_
      rintro e w2 ⟨rfl, c2⟩
      have B1 := B1.trans (c2.mono B1.size)
      clear e0 e1 e2 e3 e4 e5 e6
      dsimp only
      go_wp2_with fail
      refine (KA.out _).mono ?_
      rintro e y1 ⟨rfl, rfl⟩
      dsimp only
      go_wp2
      go_ret2
      exact ⟨rfl, B1⟩
end Go.Proofs.YteeigmgepahdhaaDoor
