/- SameDesk, in both packages, and the laws' helpers on desks. -/
import Derived.Test.YtimggihbldeleaaSmC
import Derived.Test.YtimggihbldeleaaTSite
import Derived.Test.YtimggihbldeleaaTSpeeds
import Derived.Test.YtimggihbldeleaaTLifteqS
import Derived.Test.YtimggihbldeleaaTLiftszS
import Derived.Test.YtimggihbldeleaaTLifttoS
namespace Go.Proofs.Ytimggihbldeleaa
open Go.RowKit Go.WideShapes Go.ChangeShapes Go.Deep
structure DeskL where
  site : SiteL
  lifts : List (LiftF × List Int)
  spd : Spd
  dirs : List Int
deriving DecidableEq
def deskC (s g d : SV) (p : Spd) : List Value := [s.v, g.v, .int .i64 p.slew, .int .i64 p.trolley, .int .i64 p.hoist, .int .i64 p.hook, d.v]
/-- Three slices that read as the parts of a desk. -/
structure DeskR (w : World) (s g d : SV) (D : DeskL) : Prop where
  site : ∃ rs lo hi, Cranes lo hi w s.v rs D.site
  lifts : ∃ rs lo hi, Lifts lo hi w g.v rs D.lifts
  dirs : ∃ lo hi, Ints lo hi w d.v D.dirs
theorem DeskR.ext {w w' : World} {s g d : SV} {D : DeskL} (h : DeskR w s g d D) (hb : Below w.heap.size w w') : DeskR w' s g d D :=
  ⟨by obtain ⟨rs, lo, hi, h⟩ := h.site; exact ⟨rs, lo, hi, h.ext hb⟩, by obtain ⟨rs, lo, hi, h⟩ := h.lifts; exact ⟨rs, lo, hi, h.ext hb⟩, by obtain ⟨lo, hi, h⟩ := h.dirs; exact ⟨lo, hi, h.ext hb⟩⟩
def eqD (D E : DeskL) : Bool := decide (D = E)
theorem eqD_f {D E : DeskL} (h : ¬ D = E) : eqD D E = false := decide_eq_false h
theorem Spd.ne_cases (x y : Spd) : x = y ∨ (¬ x = y ∧ ¬ x.slew = y.slew) ∨ (¬ x = y ∧ x.slew = y.slew ∧ ¬ x.trolley = y.trolley) ∨ (¬ x = y ∧ x.slew = y.slew ∧ x.trolley = y.trolley ∧ ¬ x.hoist = y.hoist) ∨ (¬ x = y ∧ x.slew = y.slew ∧ x.trolley = y.trolley ∧ x.hoist = y.hoist ∧ ¬ x.hook = y.hook) := by
  cases x; cases y
  simp only [Spd.mk.injEq]
  rename_i a b c d e f g h
  by_cases h1 : a = e <;> by_cases h2 : b = f <;> by_cases h3 : c = g <;> by_cases h4 : d = h <;> simp [*]
theorem eqL_ff {α : Type} [DecidableEq α] {a b : List α} (h : eqL a b = false) : ¬ a = b := of_decide_eq_false h
theorem eqL_tt {α : Type} [DecidableEq α] {a b : List α} (h : eqL a b = true) : a = b := of_decide_eq_true h
theorem eqD_dirs {D E : DeskL} (h1 : D.site = E.site) (h2 : D.lifts = E.lifts) (h3 : D.spd = E.spd) : eqD D E = eqL D.dirs E.dirs := by
  obtain ⟨a, b, c, d⟩ := D
  obtain ⟨e, f, g, h⟩ := E
  simp only at h1 h2 h3
  subst h1 h2 h3
  unfold eqD eqL
  simp only [DeskL.mk.injEq, true_and]
theorem dkx2 (w : World) (o p : Obj) : ∃ W, ((w.alloc o).alloc p) = W ∧ W.heap[w.heap.size]? = some o ∧ W.heap[w.heap.size + 1]? = some p ∧ Below w.heap.size w W ∧ W.heap.size = w.heap.size + 2 := by
  refine ⟨_, rfl, blkN_below ((Below.refl _ _).alloc (Nat.le_refl _) p) (blkN_new w o), ?_, (((Below.refl _ _).alloc (Nat.le_refl _) _).alloc (by simp) _), by simp⟩
  have := blkN_new (w.alloc o) p
  rwa [show (w.alloc o).heap.size = w.heap.size + 1 by simp] at this
set_option maxRecDepth 100000 in
set_option maxHeartbeats 8000000 in
theorem impl_SameDesk (s g d s2 g2 d2 : SV) (D E : DeskL) (w : World) (h : DeskR w s g d D) (h2 : DeskR w s2 g2 d2 E) :
    Calls Try.prog 13 #[.agg (deskC s g d D.spd).toArray, .agg (deskC s2 g2 d2 E.spd).toArray] w fun e w' => e = .returned (.bool (eqD D E)) ∧ Below w.heap.size w w' := by
  obtain ⟨rs, lo, hi, hs⟩ := h.site
  obtain ⟨rs2, lo2, hi2, hs2⟩ := h2.site
  obtain ⟨rg, lo3, hi3, hg⟩ := h.lifts
  obtain ⟨rg2, lo4, hi4, hg2⟩ := h2.lifts
  obtain ⟨lo5, hi5, hd⟩ := h.dirs
  obtain ⟨lo6, hi6, hd2⟩ := h2.dirs
  clear h h2
  obtain ⟨pa, pl, pc⟩ := s
  obtain ⟨pe, pf, pg⟩ := g
  obtain ⟨px, py, pz⟩ := d
  obtain ⟨qa, ql, qc⟩ := s2
  obtain ⟨qe, qf, qg⟩ := g2
  obtain ⟨qx, qy, qz⟩ := d2
  have HT := Lib.hid (fun (h1 : D.site = E.site) (h2 : D.lifts = E.lifts) (h3 : D.spd = E.spd) => eqD_dirs h1 h2 h3)
  have HF := Lib.hid (fun h => eqD_f (D := D) (E := E) h)
  have hspd := Spd.ne_cases D.spd E.spd
  obtain ⟨DS, DG, ⟨u0, u1, u2, u3⟩, DD⟩ := D
  obtain ⟨ES, EG, ⟨v0, v1, v2, v3⟩, ED⟩ := E
  simp only [deskC, SV.v] at *
  obtain ⟨WA, hWA, e1, e2, hBA, hzA⟩ := dkx2 w (.cells #[.slice pa pl pc, .slice pe pf pg, .int .i64 u0, .int .i64 u1, .int .i64 u2, .int .i64 u3, .slice px py pz] 30 (0, 0)) (.cells #[.slice qa ql qc, .slice qe qf qg, .int .i64 v0, .int .i64 v1, .int .i64 v2, .int .i64 v3, .slice qx qy qz] 30 (0, 0))
  have HWA := Lib.hid hWA
  clear hWA
  have hS := impl_SameSite ⟨pa, pl, pc⟩ ⟨qa, ql, qc⟩ rs rs2 DS ES lo hi lo2 hi2 WA (hs.ext hBA) (hs2.ext hBA)
  have HG := Lib.hid (fun w' (hb : Below w.heap.size w w') => impl_SameLifts _ _ rg rg2 DG EG lo3 hi3 lo4 hi4 w' (hg.ext hb) (hg2.ext hb))
  have HD := Lib.hid (fun w' (hb : Below w.heap.size w w') => impl_EqInts _ _ DD ED lo5 hi5 lo6 hi6 w' (hd.ext hb) (hd2.ext hb))
  clear hs hs2 hg hg2 hd hd2
  have c0 : WA.cell? ⟨w.heap.size, 0, none⟩ = some (.slice pa pl pc) := by rw [Lib.cell_of_heap e1]; rfl
  have c1 : WA.cell? ⟨w.heap.size, 1, none⟩ = some (.slice pe pf pg) := by rw [Lib.cell_of_heap e1]; rfl
  have c2 : WA.cell? ⟨w.heap.size, 2, none⟩ = some (.int .i64 u0) := by rw [Lib.cell_of_heap e1]; rfl
  have c3 : WA.cell? ⟨w.heap.size, 3, none⟩ = some (.int .i64 u1) := by rw [Lib.cell_of_heap e1]; rfl
  have c4 : WA.cell? ⟨w.heap.size, 4, none⟩ = some (.int .i64 u2) := by rw [Lib.cell_of_heap e1]; rfl
  have c5 : WA.cell? ⟨w.heap.size, 5, none⟩ = some (.int .i64 u3) := by rw [Lib.cell_of_heap e1]; rfl
  have c6 : WA.cell? ⟨w.heap.size, 6, none⟩ = some (.slice px py pz) := by rw [Lib.cell_of_heap e1]; rfl
  have d0 : WA.cell? ⟨w.heap.size + 1, 0, none⟩ = some (.slice qa ql qc) := by rw [Lib.cell_of_heap e2]; rfl
  have d1 : WA.cell? ⟨w.heap.size + 1, 1, none⟩ = some (.slice qe qf qg) := by rw [Lib.cell_of_heap e2]; rfl
  have d2 : WA.cell? ⟨w.heap.size + 1, 2, none⟩ = some (.int .i64 v0) := by rw [Lib.cell_of_heap e2]; rfl
  have d3 : WA.cell? ⟨w.heap.size + 1, 3, none⟩ = some (.int .i64 v1) := by rw [Lib.cell_of_heap e2]; rfl
  have d4 : WA.cell? ⟨w.heap.size + 1, 4, none⟩ = some (.int .i64 v2) := by rw [Lib.cell_of_heap e2]; rfl
  have d5 : WA.cell? ⟨w.heap.size + 1, 5, none⟩ = some (.int .i64 v3) := by rw [Lib.cell_of_heap e2]; rfl
  have d6 : WA.cell? ⟨w.heap.size + 1, 6, none⟩ = some (.slice qx qy qz) := by rw [Lib.cell_of_heap e2]; rfl
  have HB0 := Lib.hid hBA
  clear hBA
  cases hq1 : eqL DS ES
  · have Hr := Lib.hid (HF.out (fun e => eqL_ff hq1 (by injection e)))
    rw [hq1] at hS
    have hS := Lib.hid hS
    clear hq1 HF HT hspd HG HD
    go_enter Try.func13, Try.ntmps13
    go_wp2_with fail
    rw [HWA.out]
    refine hS.out.mono ?_
    rintro e w1 ⟨rfl, f1⟩
    skip
    go_wp2
    go_ret
    exact ⟨ret_bool Hr.out.symm, HB0.out.trans (f1.mono HB0.out.size)⟩
  have Hq1 := Lib.hid (eqL_tt hq1)
  rw [hq1] at hS
  have hS := Lib.hid hS
  clear hq1
  cases hq2 : eqL DG EG
  · have Hr := Lib.hid (HF.out (fun e => eqL_ff hq2 (by injection e)))
    rw [hq2] at HG
    clear hq2 HF HT hspd HD
    go_enter Try.func13, Try.ntmps13
    go_wp2_with fail
    rw [HWA.out]
    refine hS.out.mono ?_
    rintro e w1 ⟨rfl, f1⟩
    skip
    have HB1 := Lib.hid (HB0.out.trans (f1.mono HB0.out.size))
    have p1 := blkN_below f1 e1
    have q1 := blkN_below f1 e2
    clear c0 c1 c2 c3 c4 c5 c6 d0 d1 d2 d3 d4 d5 d6 f1
    have c0 : w1.cell? ⟨w.heap.size, 0, none⟩ = some (.slice pa pl pc) := by rw [Lib.cell_of_heap p1]; rfl
    have c1 : w1.cell? ⟨w.heap.size, 1, none⟩ = some (.slice pe pf pg) := by rw [Lib.cell_of_heap p1]; rfl
    have c2 : w1.cell? ⟨w.heap.size, 2, none⟩ = some (.int .i64 u0) := by rw [Lib.cell_of_heap p1]; rfl
    have c3 : w1.cell? ⟨w.heap.size, 3, none⟩ = some (.int .i64 u1) := by rw [Lib.cell_of_heap p1]; rfl
    have c4 : w1.cell? ⟨w.heap.size, 4, none⟩ = some (.int .i64 u2) := by rw [Lib.cell_of_heap p1]; rfl
    have c5 : w1.cell? ⟨w.heap.size, 5, none⟩ = some (.int .i64 u3) := by rw [Lib.cell_of_heap p1]; rfl
    have c6 : w1.cell? ⟨w.heap.size, 6, none⟩ = some (.slice px py pz) := by rw [Lib.cell_of_heap p1]; rfl
    have d0 : w1.cell? ⟨w.heap.size + 1, 0, none⟩ = some (.slice qa ql qc) := by rw [Lib.cell_of_heap q1]; rfl
    have d1 : w1.cell? ⟨w.heap.size + 1, 1, none⟩ = some (.slice qe qf qg) := by rw [Lib.cell_of_heap q1]; rfl
    have d2 : w1.cell? ⟨w.heap.size + 1, 2, none⟩ = some (.int .i64 v0) := by rw [Lib.cell_of_heap q1]; rfl
    have d3 : w1.cell? ⟨w.heap.size + 1, 3, none⟩ = some (.int .i64 v1) := by rw [Lib.cell_of_heap q1]; rfl
    have d4 : w1.cell? ⟨w.heap.size + 1, 4, none⟩ = some (.int .i64 v2) := by rw [Lib.cell_of_heap q1]; rfl
    have d5 : w1.cell? ⟨w.heap.size + 1, 5, none⟩ = some (.int .i64 v3) := by rw [Lib.cell_of_heap q1]; rfl
    have d6 : w1.cell? ⟨w.heap.size + 1, 6, none⟩ = some (.slice qx qy qz) := by rw [Lib.cell_of_heap q1]; rfl
    go_wp2_with fail
    refine (HG.out _ HB1.out).mono ?_
    rintro e w2 ⟨rfl, f2⟩
    skip
    go_wp2
    go_ret
    exact ⟨ret_bool Hr.out.symm, HB1.out.trans (f2.mono HB1.out.size)⟩
  have Hq2 := Lib.hid (eqL_tt hq2)
  rw [hq2] at HG
  clear hq2
  rcases hspd with heq | ⟨hn, h1⟩ | ⟨hn, h1, h2⟩ | ⟨hn, h1, h2, h3⟩ | ⟨hn, h1, h2, h3, h4⟩
  · have Hr := Lib.hid (HT.out Hq1.out Hq2.out heq)
    injection heq with r0 r1 r2 r3
    subst r0 r1 r2 r3
    clear HF HT
    go_enter Try.func13, Try.ntmps13
    go_wp2_with fail
    rw [HWA.out]
    refine hS.out.mono ?_
    rintro e w1 ⟨rfl, f1⟩
    skip
    have HB1 := Lib.hid (HB0.out.trans (f1.mono HB0.out.size))
    have p1 := blkN_below f1 e1
    have q1 := blkN_below f1 e2
    clear c0 c1 c2 c3 c4 c5 c6 d0 d1 d2 d3 d4 d5 d6 f1
    have c0 : w1.cell? ⟨w.heap.size, 0, none⟩ = some (.slice pa pl pc) := by rw [Lib.cell_of_heap p1]; rfl
    have c1 : w1.cell? ⟨w.heap.size, 1, none⟩ = some (.slice pe pf pg) := by rw [Lib.cell_of_heap p1]; rfl
    have c2 : w1.cell? ⟨w.heap.size, 2, none⟩ = some (.int .i64 u0) := by rw [Lib.cell_of_heap p1]; rfl
    have c3 : w1.cell? ⟨w.heap.size, 3, none⟩ = some (.int .i64 u1) := by rw [Lib.cell_of_heap p1]; rfl
    have c4 : w1.cell? ⟨w.heap.size, 4, none⟩ = some (.int .i64 u2) := by rw [Lib.cell_of_heap p1]; rfl
    have c5 : w1.cell? ⟨w.heap.size, 5, none⟩ = some (.int .i64 u3) := by rw [Lib.cell_of_heap p1]; rfl
    have c6 : w1.cell? ⟨w.heap.size, 6, none⟩ = some (.slice px py pz) := by rw [Lib.cell_of_heap p1]; rfl
    have d0 : w1.cell? ⟨w.heap.size + 1, 0, none⟩ = some (.slice qa ql qc) := by rw [Lib.cell_of_heap q1]; rfl
    have d1 : w1.cell? ⟨w.heap.size + 1, 1, none⟩ = some (.slice qe qf qg) := by rw [Lib.cell_of_heap q1]; rfl
    have d2 : w1.cell? ⟨w.heap.size + 1, 2, none⟩ = some (.int .i64 u0) := by rw [Lib.cell_of_heap q1]; rfl
    have d3 : w1.cell? ⟨w.heap.size + 1, 3, none⟩ = some (.int .i64 u1) := by rw [Lib.cell_of_heap q1]; rfl
    have d4 : w1.cell? ⟨w.heap.size + 1, 4, none⟩ = some (.int .i64 u2) := by rw [Lib.cell_of_heap q1]; rfl
    have d5 : w1.cell? ⟨w.heap.size + 1, 5, none⟩ = some (.int .i64 u3) := by rw [Lib.cell_of_heap q1]; rfl
    have d6 : w1.cell? ⟨w.heap.size + 1, 6, none⟩ = some (.slice qx qy qz) := by rw [Lib.cell_of_heap q1]; rfl
    go_wp2_with fail
    refine (HG.out _ HB1.out).mono ?_
    rintro e w2 ⟨rfl, f2⟩
    skip
    have HB2 := Lib.hid (HB1.out.trans (f2.mono HB1.out.size))
    have p2 := blkN_below f2 p1
    have q2 := blkN_below f2 q1
    clear c0 c1 c2 c3 c4 c5 c6 d0 d1 d2 d3 d4 d5 d6 f2
    have c0 : w2.cell? ⟨w.heap.size, 0, none⟩ = some (.slice pa pl pc) := by rw [Lib.cell_of_heap p2]; rfl
    have c1 : w2.cell? ⟨w.heap.size, 1, none⟩ = some (.slice pe pf pg) := by rw [Lib.cell_of_heap p2]; rfl
    have c2 : w2.cell? ⟨w.heap.size, 2, none⟩ = some (.int .i64 u0) := by rw [Lib.cell_of_heap p2]; rfl
    have c3 : w2.cell? ⟨w.heap.size, 3, none⟩ = some (.int .i64 u1) := by rw [Lib.cell_of_heap p2]; rfl
    have c4 : w2.cell? ⟨w.heap.size, 4, none⟩ = some (.int .i64 u2) := by rw [Lib.cell_of_heap p2]; rfl
    have c5 : w2.cell? ⟨w.heap.size, 5, none⟩ = some (.int .i64 u3) := by rw [Lib.cell_of_heap p2]; rfl
    have c6 : w2.cell? ⟨w.heap.size, 6, none⟩ = some (.slice px py pz) := by rw [Lib.cell_of_heap p2]; rfl
    have d0 : w2.cell? ⟨w.heap.size + 1, 0, none⟩ = some (.slice qa ql qc) := by rw [Lib.cell_of_heap q2]; rfl
    have d1 : w2.cell? ⟨w.heap.size + 1, 1, none⟩ = some (.slice qe qf qg) := by rw [Lib.cell_of_heap q2]; rfl
    have d2 : w2.cell? ⟨w.heap.size + 1, 2, none⟩ = some (.int .i64 u0) := by rw [Lib.cell_of_heap q2]; rfl
    have d3 : w2.cell? ⟨w.heap.size + 1, 3, none⟩ = some (.int .i64 u1) := by rw [Lib.cell_of_heap q2]; rfl
    have d4 : w2.cell? ⟨w.heap.size + 1, 4, none⟩ = some (.int .i64 u2) := by rw [Lib.cell_of_heap q2]; rfl
    have d5 : w2.cell? ⟨w.heap.size + 1, 5, none⟩ = some (.int .i64 u3) := by rw [Lib.cell_of_heap q2]; rfl
    have d6 : w2.cell? ⟨w.heap.size + 1, 6, none⟩ = some (.slice qx qy qz) := by rw [Lib.cell_of_heap q2]; rfl
    go_wp2_with fail
    refine (HD.out _ HB2.out).mono ?_
    rintro e w3 ⟨rfl, f3⟩
    have f3 := quiet_below f3
    go_wp2
    go_ret
    exact ⟨ret_bool Hr.out.symm, HB2.out.trans (f3.mono HB2.out.size)⟩
  all_goals
    have Hr := Lib.hid (HF.out (fun e => hn (by injection e)))
    clear hn HF HT HD
    try (have k0 : (u0 == v0) = true := by rw [beq_iff_eq]; exact h1)
    try (have k0 : (u0 == v0) = false := by rw [beq_eq_false_iff_ne]; exact h1)
    try (have k1 : (u1 == v1) = true := by rw [beq_iff_eq]; exact h2)
    try (have k1 : (u1 == v1) = false := by rw [beq_eq_false_iff_ne]; exact h2)
    try (have k2 : (u2 == v2) = true := by rw [beq_iff_eq]; exact h3)
    try (have k2 : (u2 == v2) = false := by rw [beq_eq_false_iff_ne]; exact h3)
    try (have k3 : (u3 == v3) = false := by rw [beq_eq_false_iff_ne]; exact h4)
    try clear h1
    try clear h2
    try clear h3
    try clear h4
    go_enter Try.func13, Try.ntmps13
    go_wp2_with fail
    rw [HWA.out]
    refine hS.out.mono ?_
    rintro e w1 ⟨rfl, f1⟩
    skip
    have HB1 := Lib.hid (HB0.out.trans (f1.mono HB0.out.size))
    have p1 := blkN_below f1 e1
    have q1 := blkN_below f1 e2
    clear c0 c1 c2 c3 c4 c5 c6 d0 d1 d2 d3 d4 d5 d6 f1
    have c0 : w1.cell? ⟨w.heap.size, 0, none⟩ = some (.slice pa pl pc) := by rw [Lib.cell_of_heap p1]; rfl
    have c1 : w1.cell? ⟨w.heap.size, 1, none⟩ = some (.slice pe pf pg) := by rw [Lib.cell_of_heap p1]; rfl
    have c2 : w1.cell? ⟨w.heap.size, 2, none⟩ = some (.int .i64 u0) := by rw [Lib.cell_of_heap p1]; rfl
    have c3 : w1.cell? ⟨w.heap.size, 3, none⟩ = some (.int .i64 u1) := by rw [Lib.cell_of_heap p1]; rfl
    have c4 : w1.cell? ⟨w.heap.size, 4, none⟩ = some (.int .i64 u2) := by rw [Lib.cell_of_heap p1]; rfl
    have c5 : w1.cell? ⟨w.heap.size, 5, none⟩ = some (.int .i64 u3) := by rw [Lib.cell_of_heap p1]; rfl
    have c6 : w1.cell? ⟨w.heap.size, 6, none⟩ = some (.slice px py pz) := by rw [Lib.cell_of_heap p1]; rfl
    have d0 : w1.cell? ⟨w.heap.size + 1, 0, none⟩ = some (.slice qa ql qc) := by rw [Lib.cell_of_heap q1]; rfl
    have d1 : w1.cell? ⟨w.heap.size + 1, 1, none⟩ = some (.slice qe qf qg) := by rw [Lib.cell_of_heap q1]; rfl
    have d2 : w1.cell? ⟨w.heap.size + 1, 2, none⟩ = some (.int .i64 v0) := by rw [Lib.cell_of_heap q1]; rfl
    have d3 : w1.cell? ⟨w.heap.size + 1, 3, none⟩ = some (.int .i64 v1) := by rw [Lib.cell_of_heap q1]; rfl
    have d4 : w1.cell? ⟨w.heap.size + 1, 4, none⟩ = some (.int .i64 v2) := by rw [Lib.cell_of_heap q1]; rfl
    have d5 : w1.cell? ⟨w.heap.size + 1, 5, none⟩ = some (.int .i64 v3) := by rw [Lib.cell_of_heap q1]; rfl
    have d6 : w1.cell? ⟨w.heap.size + 1, 6, none⟩ = some (.slice qx qy qz) := by rw [Lib.cell_of_heap q1]; rfl
    go_wp2_with fail
    refine (HG.out _ HB1.out).mono ?_
    rintro e w2 ⟨rfl, f2⟩
    skip
    have HB2 := Lib.hid (HB1.out.trans (f2.mono HB1.out.size))
    have p2 := blkN_below f2 p1
    have q2 := blkN_below f2 q1
    clear c0 c1 c2 c3 c4 c5 c6 d0 d1 d2 d3 d4 d5 d6 f2
    have c0 : w2.cell? ⟨w.heap.size, 0, none⟩ = some (.slice pa pl pc) := by rw [Lib.cell_of_heap p2]; rfl
    have c1 : w2.cell? ⟨w.heap.size, 1, none⟩ = some (.slice pe pf pg) := by rw [Lib.cell_of_heap p2]; rfl
    have c2 : w2.cell? ⟨w.heap.size, 2, none⟩ = some (.int .i64 u0) := by rw [Lib.cell_of_heap p2]; rfl
    have c3 : w2.cell? ⟨w.heap.size, 3, none⟩ = some (.int .i64 u1) := by rw [Lib.cell_of_heap p2]; rfl
    have c4 : w2.cell? ⟨w.heap.size, 4, none⟩ = some (.int .i64 u2) := by rw [Lib.cell_of_heap p2]; rfl
    have c5 : w2.cell? ⟨w.heap.size, 5, none⟩ = some (.int .i64 u3) := by rw [Lib.cell_of_heap p2]; rfl
    have c6 : w2.cell? ⟨w.heap.size, 6, none⟩ = some (.slice px py pz) := by rw [Lib.cell_of_heap p2]; rfl
    have d0 : w2.cell? ⟨w.heap.size + 1, 0, none⟩ = some (.slice qa ql qc) := by rw [Lib.cell_of_heap q2]; rfl
    have d1 : w2.cell? ⟨w.heap.size + 1, 1, none⟩ = some (.slice qe qf qg) := by rw [Lib.cell_of_heap q2]; rfl
    have d2 : w2.cell? ⟨w.heap.size + 1, 2, none⟩ = some (.int .i64 v0) := by rw [Lib.cell_of_heap q2]; rfl
    have d3 : w2.cell? ⟨w.heap.size + 1, 3, none⟩ = some (.int .i64 v1) := by rw [Lib.cell_of_heap q2]; rfl
    have d4 : w2.cell? ⟨w.heap.size + 1, 4, none⟩ = some (.int .i64 v2) := by rw [Lib.cell_of_heap q2]; rfl
    have d5 : w2.cell? ⟨w.heap.size + 1, 5, none⟩ = some (.int .i64 v3) := by rw [Lib.cell_of_heap q2]; rfl
    have d6 : w2.cell? ⟨w.heap.size + 1, 6, none⟩ = some (.slice qx qy qz) := by rw [Lib.cell_of_heap q2]; rfl
    go_wp2
    go_ret
    exact ⟨ret_bool Hr.out.symm, HB2.out⟩
set_option maxRecDepth 100000 in
set_option maxHeartbeats 8000000 in
theorem spec_SameDesk (s g d s2 g2 d2 : SV) (D E : DeskL) (w : World) (h : DeskR w s g d D) (h2 : DeskR w s2 g2 d2 E) :
    Calls Try.prog 11 #[.agg (deskC s g d D.spd).toArray, .agg (deskC s2 g2 d2 E.spd).toArray] w fun e w' => e = .returned (.bool (eqD D E)) ∧ Below w.heap.size w w' := by
  obtain ⟨rs, lo, hi, hs⟩ := h.site
  obtain ⟨rs2, lo2, hi2, hs2⟩ := h2.site
  obtain ⟨rg, lo3, hi3, hg⟩ := h.lifts
  obtain ⟨rg2, lo4, hi4, hg2⟩ := h2.lifts
  obtain ⟨lo5, hi5, hd⟩ := h.dirs
  obtain ⟨lo6, hi6, hd2⟩ := h2.dirs
  clear h h2
  obtain ⟨pa, pl, pc⟩ := s
  obtain ⟨pe, pf, pg⟩ := g
  obtain ⟨px, py, pz⟩ := d
  obtain ⟨qa, ql, qc⟩ := s2
  obtain ⟨qe, qf, qg⟩ := g2
  obtain ⟨qx, qy, qz⟩ := d2
  have HT := Lib.hid (fun (h1 : D.site = E.site) (h2 : D.lifts = E.lifts) (h3 : D.spd = E.spd) => eqD_dirs h1 h2 h3)
  have HF := Lib.hid (fun h => eqD_f (D := D) (E := E) h)
  have hspd := Spd.ne_cases D.spd E.spd
  obtain ⟨DS, DG, ⟨u0, u1, u2, u3⟩, DD⟩ := D
  obtain ⟨ES, EG, ⟨v0, v1, v2, v3⟩, ED⟩ := E
  simp only [deskC, SV.v] at *
  obtain ⟨WA, hWA, e1, e2, hBA, hzA⟩ := dkx2 w (.cells #[.slice pa pl pc, .slice pe pf pg, .int .i64 u0, .int .i64 u1, .int .i64 u2, .int .i64 u3, .slice px py pz] 30 (0, 0)) (.cells #[.slice qa ql qc, .slice qe qf qg, .int .i64 v0, .int .i64 v1, .int .i64 v2, .int .i64 v3, .slice qx qy qz] 30 (0, 0))
  have HWA := Lib.hid hWA
  clear hWA
  have hS := spec_SameSCrane w.heap.size (w.heap.size + 1) 0 0 _ _ rs rs2 DS ES lo hi lo2 hi2 WA (by rw [Lib.cell_of_heap e1]; rfl) (by rw [Lib.cell_of_heap e2]; rfl) (hs.ext hBA) (hs2.ext hBA)
  have HG := Lib.hid (fun w' (hb : Below w.heap.size w w') => spec_SameSLift _ _ rg rg2 DG EG lo3 hi3 lo4 hi4 w' (hg.ext hb) (hg2.ext hb))
  have HD := Lib.hid (fun w' (hb : Below w.heap.size w w') => spec_Same0 _ _ DD ED lo5 hi5 lo6 hi6 w' (hd.ext hb) (hd2.ext hb))
  clear hs hs2 hg hg2 hd hd2
  have c0 : WA.cell? ⟨w.heap.size, 0, none⟩ = some (.slice pa pl pc) := by rw [Lib.cell_of_heap e1]; rfl
  have c1 : WA.cell? ⟨w.heap.size, 1, none⟩ = some (.slice pe pf pg) := by rw [Lib.cell_of_heap e1]; rfl
  have c2 : WA.cell? ⟨w.heap.size, 2, none⟩ = some (.int .i64 u0) := by rw [Lib.cell_of_heap e1]; rfl
  have c3 : WA.cell? ⟨w.heap.size, 3, none⟩ = some (.int .i64 u1) := by rw [Lib.cell_of_heap e1]; rfl
  have c4 : WA.cell? ⟨w.heap.size, 4, none⟩ = some (.int .i64 u2) := by rw [Lib.cell_of_heap e1]; rfl
  have c5 : WA.cell? ⟨w.heap.size, 5, none⟩ = some (.int .i64 u3) := by rw [Lib.cell_of_heap e1]; rfl
  have c6 : WA.cell? ⟨w.heap.size, 6, none⟩ = some (.slice px py pz) := by rw [Lib.cell_of_heap e1]; rfl
  have d0 : WA.cell? ⟨w.heap.size + 1, 0, none⟩ = some (.slice qa ql qc) := by rw [Lib.cell_of_heap e2]; rfl
  have d1 : WA.cell? ⟨w.heap.size + 1, 1, none⟩ = some (.slice qe qf qg) := by rw [Lib.cell_of_heap e2]; rfl
  have d2 : WA.cell? ⟨w.heap.size + 1, 2, none⟩ = some (.int .i64 v0) := by rw [Lib.cell_of_heap e2]; rfl
  have d3 : WA.cell? ⟨w.heap.size + 1, 3, none⟩ = some (.int .i64 v1) := by rw [Lib.cell_of_heap e2]; rfl
  have d4 : WA.cell? ⟨w.heap.size + 1, 4, none⟩ = some (.int .i64 v2) := by rw [Lib.cell_of_heap e2]; rfl
  have d5 : WA.cell? ⟨w.heap.size + 1, 5, none⟩ = some (.int .i64 v3) := by rw [Lib.cell_of_heap e2]; rfl
  have d6 : WA.cell? ⟨w.heap.size + 1, 6, none⟩ = some (.slice qx qy qz) := by rw [Lib.cell_of_heap e2]; rfl
  have HB0 := Lib.hid hBA
  clear hBA
  cases hq1 : eqL DS ES
  · have Hr := Lib.hid (HF.out (fun e => eqL_ff hq1 (by injection e)))
    rw [hq1] at hS
    have hS := Lib.hid hS
    clear hq1 HF HT hspd HG HD
    go_enter Try.func11, Try.ntmps11
    go_wp2_with fail
    rw [HWA.out]
    refine hS.out.mono ?_
    rintro e w1 ⟨rfl, f1⟩
    have f1 := quiet_below f1
    go_wp2
    go_ret
    exact ⟨ret_bool Hr.out.symm, HB0.out.trans (f1.mono HB0.out.size)⟩
  have Hq1 := Lib.hid (eqL_tt hq1)
  rw [hq1] at hS
  have hS := Lib.hid hS
  clear hq1
  cases hq2 : eqL DG EG
  · have Hr := Lib.hid (HF.out (fun e => eqL_ff hq2 (by injection e)))
    rw [hq2] at HG
    clear hq2 HF HT hspd HD
    go_enter Try.func11, Try.ntmps11
    go_wp2_with fail
    rw [HWA.out]
    refine hS.out.mono ?_
    rintro e w1 ⟨rfl, f1⟩
    have f1 := quiet_below f1
    have HB1 := Lib.hid (HB0.out.trans (f1.mono HB0.out.size))
    have p1 := blkN_below f1 e1
    have q1 := blkN_below f1 e2
    clear c0 c1 c2 c3 c4 c5 c6 d0 d1 d2 d3 d4 d5 d6 f1
    have c0 : w1.cell? ⟨w.heap.size, 0, none⟩ = some (.slice pa pl pc) := by rw [Lib.cell_of_heap p1]; rfl
    have c1 : w1.cell? ⟨w.heap.size, 1, none⟩ = some (.slice pe pf pg) := by rw [Lib.cell_of_heap p1]; rfl
    have c2 : w1.cell? ⟨w.heap.size, 2, none⟩ = some (.int .i64 u0) := by rw [Lib.cell_of_heap p1]; rfl
    have c3 : w1.cell? ⟨w.heap.size, 3, none⟩ = some (.int .i64 u1) := by rw [Lib.cell_of_heap p1]; rfl
    have c4 : w1.cell? ⟨w.heap.size, 4, none⟩ = some (.int .i64 u2) := by rw [Lib.cell_of_heap p1]; rfl
    have c5 : w1.cell? ⟨w.heap.size, 5, none⟩ = some (.int .i64 u3) := by rw [Lib.cell_of_heap p1]; rfl
    have c6 : w1.cell? ⟨w.heap.size, 6, none⟩ = some (.slice px py pz) := by rw [Lib.cell_of_heap p1]; rfl
    have d0 : w1.cell? ⟨w.heap.size + 1, 0, none⟩ = some (.slice qa ql qc) := by rw [Lib.cell_of_heap q1]; rfl
    have d1 : w1.cell? ⟨w.heap.size + 1, 1, none⟩ = some (.slice qe qf qg) := by rw [Lib.cell_of_heap q1]; rfl
    have d2 : w1.cell? ⟨w.heap.size + 1, 2, none⟩ = some (.int .i64 v0) := by rw [Lib.cell_of_heap q1]; rfl
    have d3 : w1.cell? ⟨w.heap.size + 1, 3, none⟩ = some (.int .i64 v1) := by rw [Lib.cell_of_heap q1]; rfl
    have d4 : w1.cell? ⟨w.heap.size + 1, 4, none⟩ = some (.int .i64 v2) := by rw [Lib.cell_of_heap q1]; rfl
    have d5 : w1.cell? ⟨w.heap.size + 1, 5, none⟩ = some (.int .i64 v3) := by rw [Lib.cell_of_heap q1]; rfl
    have d6 : w1.cell? ⟨w.heap.size + 1, 6, none⟩ = some (.slice qx qy qz) := by rw [Lib.cell_of_heap q1]; rfl
    go_wp2_with fail
    refine (HG.out _ HB1.out).mono ?_
    rintro e w2 ⟨rfl, f2⟩
    have f2 := quiet_below f2
    go_wp2
    go_ret
    exact ⟨ret_bool Hr.out.symm, HB1.out.trans (f2.mono HB1.out.size)⟩
  have Hq2 := Lib.hid (eqL_tt hq2)
  rw [hq2] at HG
  clear hq2
  rcases hspd with heq | ⟨hn, h1⟩ | ⟨hn, h1, h2⟩ | ⟨hn, h1, h2, h3⟩ | ⟨hn, h1, h2, h3, h4⟩
  · have Hr := Lib.hid (HT.out Hq1.out Hq2.out heq)
    injection heq with r0 r1 r2 r3
    subst r0 r1 r2 r3
    clear HF HT
    go_enter Try.func11, Try.ntmps11
    go_wp2_with fail
    rw [HWA.out]
    refine hS.out.mono ?_
    rintro e w1 ⟨rfl, f1⟩
    have f1 := quiet_below f1
    have HB1 := Lib.hid (HB0.out.trans (f1.mono HB0.out.size))
    have p1 := blkN_below f1 e1
    have q1 := blkN_below f1 e2
    clear c0 c1 c2 c3 c4 c5 c6 d0 d1 d2 d3 d4 d5 d6 f1
    have c0 : w1.cell? ⟨w.heap.size, 0, none⟩ = some (.slice pa pl pc) := by rw [Lib.cell_of_heap p1]; rfl
    have c1 : w1.cell? ⟨w.heap.size, 1, none⟩ = some (.slice pe pf pg) := by rw [Lib.cell_of_heap p1]; rfl
    have c2 : w1.cell? ⟨w.heap.size, 2, none⟩ = some (.int .i64 u0) := by rw [Lib.cell_of_heap p1]; rfl
    have c3 : w1.cell? ⟨w.heap.size, 3, none⟩ = some (.int .i64 u1) := by rw [Lib.cell_of_heap p1]; rfl
    have c4 : w1.cell? ⟨w.heap.size, 4, none⟩ = some (.int .i64 u2) := by rw [Lib.cell_of_heap p1]; rfl
    have c5 : w1.cell? ⟨w.heap.size, 5, none⟩ = some (.int .i64 u3) := by rw [Lib.cell_of_heap p1]; rfl
    have c6 : w1.cell? ⟨w.heap.size, 6, none⟩ = some (.slice px py pz) := by rw [Lib.cell_of_heap p1]; rfl
    have d0 : w1.cell? ⟨w.heap.size + 1, 0, none⟩ = some (.slice qa ql qc) := by rw [Lib.cell_of_heap q1]; rfl
    have d1 : w1.cell? ⟨w.heap.size + 1, 1, none⟩ = some (.slice qe qf qg) := by rw [Lib.cell_of_heap q1]; rfl
    have d2 : w1.cell? ⟨w.heap.size + 1, 2, none⟩ = some (.int .i64 u0) := by rw [Lib.cell_of_heap q1]; rfl
    have d3 : w1.cell? ⟨w.heap.size + 1, 3, none⟩ = some (.int .i64 u1) := by rw [Lib.cell_of_heap q1]; rfl
    have d4 : w1.cell? ⟨w.heap.size + 1, 4, none⟩ = some (.int .i64 u2) := by rw [Lib.cell_of_heap q1]; rfl
    have d5 : w1.cell? ⟨w.heap.size + 1, 5, none⟩ = some (.int .i64 u3) := by rw [Lib.cell_of_heap q1]; rfl
    have d6 : w1.cell? ⟨w.heap.size + 1, 6, none⟩ = some (.slice qx qy qz) := by rw [Lib.cell_of_heap q1]; rfl
    go_wp2_with fail
    refine (HG.out _ HB1.out).mono ?_
    rintro e w2 ⟨rfl, f2⟩
    have f2 := quiet_below f2
    have HB2 := Lib.hid (HB1.out.trans (f2.mono HB1.out.size))
    have p2 := blkN_below f2 p1
    have q2 := blkN_below f2 q1
    clear c0 c1 c2 c3 c4 c5 c6 d0 d1 d2 d3 d4 d5 d6 f2
    have c0 : w2.cell? ⟨w.heap.size, 0, none⟩ = some (.slice pa pl pc) := by rw [Lib.cell_of_heap p2]; rfl
    have c1 : w2.cell? ⟨w.heap.size, 1, none⟩ = some (.slice pe pf pg) := by rw [Lib.cell_of_heap p2]; rfl
    have c2 : w2.cell? ⟨w.heap.size, 2, none⟩ = some (.int .i64 u0) := by rw [Lib.cell_of_heap p2]; rfl
    have c3 : w2.cell? ⟨w.heap.size, 3, none⟩ = some (.int .i64 u1) := by rw [Lib.cell_of_heap p2]; rfl
    have c4 : w2.cell? ⟨w.heap.size, 4, none⟩ = some (.int .i64 u2) := by rw [Lib.cell_of_heap p2]; rfl
    have c5 : w2.cell? ⟨w.heap.size, 5, none⟩ = some (.int .i64 u3) := by rw [Lib.cell_of_heap p2]; rfl
    have c6 : w2.cell? ⟨w.heap.size, 6, none⟩ = some (.slice px py pz) := by rw [Lib.cell_of_heap p2]; rfl
    have d0 : w2.cell? ⟨w.heap.size + 1, 0, none⟩ = some (.slice qa ql qc) := by rw [Lib.cell_of_heap q2]; rfl
    have d1 : w2.cell? ⟨w.heap.size + 1, 1, none⟩ = some (.slice qe qf qg) := by rw [Lib.cell_of_heap q2]; rfl
    have d2 : w2.cell? ⟨w.heap.size + 1, 2, none⟩ = some (.int .i64 u0) := by rw [Lib.cell_of_heap q2]; rfl
    have d3 : w2.cell? ⟨w.heap.size + 1, 3, none⟩ = some (.int .i64 u1) := by rw [Lib.cell_of_heap q2]; rfl
    have d4 : w2.cell? ⟨w.heap.size + 1, 4, none⟩ = some (.int .i64 u2) := by rw [Lib.cell_of_heap q2]; rfl
    have d5 : w2.cell? ⟨w.heap.size + 1, 5, none⟩ = some (.int .i64 u3) := by rw [Lib.cell_of_heap q2]; rfl
    have d6 : w2.cell? ⟨w.heap.size + 1, 6, none⟩ = some (.slice qx qy qz) := by rw [Lib.cell_of_heap q2]; rfl
    go_wp2_with fail
    refine (HD.out _ HB2.out).mono ?_
    rintro e w3 ⟨rfl, f3⟩
    have f3 := quiet_below f3
    go_wp2
    go_ret
    exact ⟨ret_bool Hr.out.symm, HB2.out.trans (f3.mono HB2.out.size)⟩
  all_goals
    have Hr := Lib.hid (HF.out (fun e => hn (by injection e)))
    clear hn HF HT HD
    try (have k0 : (u0 == v0) = true := by rw [beq_iff_eq]; exact h1)
    try (have k0 : (u0 == v0) = false := by rw [beq_eq_false_iff_ne]; exact h1)
    try (have k1 : (u1 == v1) = true := by rw [beq_iff_eq]; exact h2)
    try (have k1 : (u1 == v1) = false := by rw [beq_eq_false_iff_ne]; exact h2)
    try (have k2 : (u2 == v2) = true := by rw [beq_iff_eq]; exact h3)
    try (have k2 : (u2 == v2) = false := by rw [beq_eq_false_iff_ne]; exact h3)
    try (have k3 : (u3 == v3) = false := by rw [beq_eq_false_iff_ne]; exact h4)
    try clear h1
    try clear h2
    try clear h3
    try clear h4
    go_enter Try.func11, Try.ntmps11
    go_wp2_with fail
    rw [HWA.out]
    refine hS.out.mono ?_
    rintro e w1 ⟨rfl, f1⟩
    have f1 := quiet_below f1
    have HB1 := Lib.hid (HB0.out.trans (f1.mono HB0.out.size))
    have p1 := blkN_below f1 e1
    have q1 := blkN_below f1 e2
    clear c0 c1 c2 c3 c4 c5 c6 d0 d1 d2 d3 d4 d5 d6 f1
    have c0 : w1.cell? ⟨w.heap.size, 0, none⟩ = some (.slice pa pl pc) := by rw [Lib.cell_of_heap p1]; rfl
    have c1 : w1.cell? ⟨w.heap.size, 1, none⟩ = some (.slice pe pf pg) := by rw [Lib.cell_of_heap p1]; rfl
    have c2 : w1.cell? ⟨w.heap.size, 2, none⟩ = some (.int .i64 u0) := by rw [Lib.cell_of_heap p1]; rfl
    have c3 : w1.cell? ⟨w.heap.size, 3, none⟩ = some (.int .i64 u1) := by rw [Lib.cell_of_heap p1]; rfl
    have c4 : w1.cell? ⟨w.heap.size, 4, none⟩ = some (.int .i64 u2) := by rw [Lib.cell_of_heap p1]; rfl
    have c5 : w1.cell? ⟨w.heap.size, 5, none⟩ = some (.int .i64 u3) := by rw [Lib.cell_of_heap p1]; rfl
    have c6 : w1.cell? ⟨w.heap.size, 6, none⟩ = some (.slice px py pz) := by rw [Lib.cell_of_heap p1]; rfl
    have d0 : w1.cell? ⟨w.heap.size + 1, 0, none⟩ = some (.slice qa ql qc) := by rw [Lib.cell_of_heap q1]; rfl
    have d1 : w1.cell? ⟨w.heap.size + 1, 1, none⟩ = some (.slice qe qf qg) := by rw [Lib.cell_of_heap q1]; rfl
    have d2 : w1.cell? ⟨w.heap.size + 1, 2, none⟩ = some (.int .i64 v0) := by rw [Lib.cell_of_heap q1]; rfl
    have d3 : w1.cell? ⟨w.heap.size + 1, 3, none⟩ = some (.int .i64 v1) := by rw [Lib.cell_of_heap q1]; rfl
    have d4 : w1.cell? ⟨w.heap.size + 1, 4, none⟩ = some (.int .i64 v2) := by rw [Lib.cell_of_heap q1]; rfl
    have d5 : w1.cell? ⟨w.heap.size + 1, 5, none⟩ = some (.int .i64 v3) := by rw [Lib.cell_of_heap q1]; rfl
    have d6 : w1.cell? ⟨w.heap.size + 1, 6, none⟩ = some (.slice qx qy qz) := by rw [Lib.cell_of_heap q1]; rfl
    go_wp2_with fail
    refine (HG.out _ HB1.out).mono ?_
    rintro e w2 ⟨rfl, f2⟩
    have f2 := quiet_below f2
    have HB2 := Lib.hid (HB1.out.trans (f2.mono HB1.out.size))
    have p2 := blkN_below f2 p1
    have q2 := blkN_below f2 q1
    clear c0 c1 c2 c3 c4 c5 c6 d0 d1 d2 d3 d4 d5 d6 f2
    have c0 : w2.cell? ⟨w.heap.size, 0, none⟩ = some (.slice pa pl pc) := by rw [Lib.cell_of_heap p2]; rfl
    have c1 : w2.cell? ⟨w.heap.size, 1, none⟩ = some (.slice pe pf pg) := by rw [Lib.cell_of_heap p2]; rfl
    have c2 : w2.cell? ⟨w.heap.size, 2, none⟩ = some (.int .i64 u0) := by rw [Lib.cell_of_heap p2]; rfl
    have c3 : w2.cell? ⟨w.heap.size, 3, none⟩ = some (.int .i64 u1) := by rw [Lib.cell_of_heap p2]; rfl
    have c4 : w2.cell? ⟨w.heap.size, 4, none⟩ = some (.int .i64 u2) := by rw [Lib.cell_of_heap p2]; rfl
    have c5 : w2.cell? ⟨w.heap.size, 5, none⟩ = some (.int .i64 u3) := by rw [Lib.cell_of_heap p2]; rfl
    have c6 : w2.cell? ⟨w.heap.size, 6, none⟩ = some (.slice px py pz) := by rw [Lib.cell_of_heap p2]; rfl
    have d0 : w2.cell? ⟨w.heap.size + 1, 0, none⟩ = some (.slice qa ql qc) := by rw [Lib.cell_of_heap q2]; rfl
    have d1 : w2.cell? ⟨w.heap.size + 1, 1, none⟩ = some (.slice qe qf qg) := by rw [Lib.cell_of_heap q2]; rfl
    have d2 : w2.cell? ⟨w.heap.size + 1, 2, none⟩ = some (.int .i64 v0) := by rw [Lib.cell_of_heap q2]; rfl
    have d3 : w2.cell? ⟨w.heap.size + 1, 3, none⟩ = some (.int .i64 v1) := by rw [Lib.cell_of_heap q2]; rfl
    have d4 : w2.cell? ⟨w.heap.size + 1, 4, none⟩ = some (.int .i64 v2) := by rw [Lib.cell_of_heap q2]; rfl
    have d5 : w2.cell? ⟨w.heap.size + 1, 5, none⟩ = some (.int .i64 v3) := by rw [Lib.cell_of_heap q2]; rfl
    have d6 : w2.cell? ⟨w.heap.size + 1, 6, none⟩ = some (.slice qx qy qz) := by rw [Lib.cell_of_heap q2]; rfl
    go_wp2
    go_ret
    exact ⟨ret_bool Hr.out.symm, HB2.out⟩
end Go.Proofs.Ytimggihbldeleaa
