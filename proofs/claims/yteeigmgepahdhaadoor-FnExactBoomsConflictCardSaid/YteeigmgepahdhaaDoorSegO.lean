/- Conflicts, the program: whether two cranes are in conflict. -/
import Derived.Test.YteeigmgepahdhaaDoorSegN
namespace Go.Proofs.YteeigmgepahdhaaDoor
open Go.RowKit
theorem low_ways {f g : CraneF} {da db : Nat} {e : Int} (h : f.height ≤ g.height) :
    (confP f g da db e ∧ g.height - f.height < 60 ∧ boomNear f g da db e) ∨
    ((¬ (g.height - f.height < 60) ∨ (g.height - f.height < 60 ∧ ¬ boomNear f g da db e)) ∧ ((f.height = g.height ∧ ¬ confP f g da db e) ∨ (¬ f.height = g.height ∧ (confP f g da db e ↔ mastNear f g da e)))) := by
  have hl := conf_low (da := da) (db := db) (e := e) h
  by_cases h1 : g.height - f.height < 60 ∧ boomNear f g da db e
  · exact .inl ⟨hl.2 (.inl h1), h1⟩
  · refine .inr ⟨?_, ?_⟩
    · by_cases h2 : g.height - f.height < 60
      · exact .inr ⟨h2, fun h => h1 ⟨h2, h⟩⟩
      · exact .inl h2
    · by_cases h3 : f.height = g.height
      · exact .inl ⟨h3, fun h2 => (hl.1 h2).elim h1 fun h4 => h4.1 h3⟩
      · exact .inr ⟨h3, fun h2 => (hl.1 h2).elim (fun h4 => absurd h4 h1) (·.2), fun h2 => hl.2 (.inr ⟨h3, h2⟩)⟩
set_option maxRecDepth 100000 in
set_option maxHeartbeats 8000000 in
theorem impl_Conflict (f g : CraneF) (af ag : Option Addr) (kf cf kg cg : Nat) (da db : Nat) (n : Int) (w : World) (hQ : Qtr w) (hf : GeoOk f) (hg : GeoOk g) (hda : da < 24) (hdb : db < 24) (hn : 0 ≤ n ∧ n ≤ 1000) :
    Calls Tryd.prog 34 #[.agg #[.string (f).name, .int .i64 (f).x, .int .i64 (f).y, .int .i64 (f).height, .int .i64 (f).jib, .int .i64 (f).back, .slice af kf cf], .agg #[.string (g).name, .int .i64 (g).x, .int .i64 (g).y, .int .i64 (g).height, .int .i64 (g).jib, .int .i64 (g).back, .slice ag kg cg], .int .i64 da, .int .i64 db, .int .i64 n] w fun e w' => e = .returned (.bool (decide (confP f g da db (n * n)))) ∧ Below w.heap.size w w' := by
  obtain ⟨r, hr⟩ : ∃ r, r = decide (confP f g da db (n * n)) := ⟨_, rfl⟩
  have Hr := Lib.hid (show r = true ↔ confP f g da db (n * n) by rw [hr]; exact decide_eq_true_iff)
  rw [← hr]
  clear hr
  have HQ := Lib.hid hQ
  clear hQ
  have G5 := box2_0 w (.cells #[.string (f).name, .int .i64 (f).x, .int .i64 (f).y, .int .i64 (f).height, .int .i64 (f).jib, .int .i64 (f).back, .slice af kf cf] 28) (.cells #[.string (g).name, .int .i64 (g).x, .int .i64 (g).y, .int .i64 (g).height, .int .i64 (g).jib, .int .i64 (g).back, .slice ag kg cg] 28)
  have G6 := box2_1 w (.cells #[.string (f).name, .int .i64 (f).x, .int .i64 (f).y, .int .i64 (f).height, .int .i64 (f).jib, .int .i64 (f).back, .slice af kf cf] 28) (.cells #[.string (g).name, .int .i64 (g).x, .int .i64 (g).y, .int .i64 (g).height, .int .i64 (g).jib, .int .i64 (g).back, .slice ag kg cg] 28)
  have BX : Below w.heap.size w ((w.alloc (.cells #[.string (f).name, .int .i64 (f).x, .int .i64 (f).y, .int .i64 (f).height, .int .i64 (f).jib, .int .i64 (f).back, .slice af kf cf] 28)).alloc (.cells #[.string (g).name, .int .i64 (g).x, .int .i64 (g).y, .int .i64 (g).height, .int .i64 (g).jib, .int .i64 (g).back, .slice ag kg cg] 28)) := ((Below.refl _ w).alloc (Nat.le_refl _) _).alloc (by simp) _
  by_cases hgt : g.height < f.height
  · have hle : g.height ≤ f.height := Int.le_of_lt hgt
    have Hr := Lib.hid (Hr.out.trans (conf_comm f g da db (n * n)))
    have HG5 := Lib.hid (box2_0 w (.cells #[.string (g).name, .int .i64 (g).x, .int .i64 (g).y, .int .i64 (g).height, .int .i64 (g).jib, .int .i64 (g).back, .slice ag kg cg] 28) (.cells #[.string (f).name, .int .i64 (f).x, .int .i64 (f).y, .int .i64 (f).height, .int .i64 (f).jib, .int .i64 (f).back, .slice af kf cf] 28))
    have HG6 := Lib.hid (box2_1 w (.cells #[.string (g).name, .int .i64 (g).x, .int .i64 (g).y, .int .i64 (g).height, .int .i64 (g).jib, .int .i64 (g).back, .slice ag kg cg] 28) (.cells #[.string (f).name, .int .i64 (f).x, .int .i64 (f).y, .int .i64 (f).height, .int .i64 (f).jib, .int .i64 (f).back, .slice af kf cf] 28))
    have HBX : Hid (Below w.heap.size w ((w.alloc (.cells #[.string (g).name, .int .i64 (g).x, .int .i64 (g).y, .int .i64 (g).height, .int .i64 (g).jib, .int .i64 (g).back, .slice ag kg cg] 28)).alloc (.cells #[.string (f).name, .int .i64 (f).x, .int .i64 (f).y, .int .i64 (f).height, .int .i64 (f).jib, .int .i64 (f).back, .slice af kf cf] 28))) := Lib.hid (((Below.refl _ w).alloc (Nat.le_refl _) _).alloc (by simp) _)
    clear G5 G6 BX
    go_enter Tryd.func34, Tryd.ntmps34
    go_wp2_with fail
    have G5 := HG5.out
    have G6 := HG6.out
    have BX := HBX.out
    clear HG5 HG6 HBX
    have KA := Lib.hid (fun w h => impl_Boom g (.slice ag kg cg) db w h hg hdb)
    have K2 := Lib.hid (fun w h => impl_Boom f (.slice af kf cf) da w h hf hda)
    have K3 := Lib.hid (fun w => impl_Nearer (backP g db) (jibP g db) (backP f da) (jibP f da) n w (back_crd hg db) (jib_crd hg hdb) (back_crd hf da) (jib_crd hf hda) hn)
    rw [show decide (nearS (backP g db) (jibP g db) (backP f da) (jibP f da) (n * n)) = decide (boomNear g f db da (n * n)) from rfl] at K3
    have K4 := Lib.hid (fun w => impl_Nearer (backP g db) (jibP g db) ⟨(f).x, (f).y⟩ ⟨(f).x, (f).y⟩ n w (back_crd hg db) (jib_crd hg hdb) (at_crd hf) (at_crd hf) hn)
    rw [show decide (nearS (backP g db) (jibP g db) ⟨(f).x, (f).y⟩ ⟨(f).x, (f).y⟩ (n * n)) = decide (mastNear g f db (n * n)) from rfl] at K4
    have hwr : IntKind.i64.wrap ((f).height - (g).height) = (f).height - (g).height := by have := (hg).2.1; have := (hf).2.1; rw [IntKind.wrap_i64]; omega
    have hways := low_ways (da := db) (db := da) (e := n * n) hle
    generalize hdv : (f).height - (g).height = dv at *
    generalize backP g db = R1 at *
    generalize jibP g db = T1 at *
    generalize backP f da = R2 at *
    generalize jibP f da = T2 at *
    refine (KA.out _ (HQ.out.ext BX)).mono ?_
    rintro e w1 ⟨rfl, b1⟩
    have B1 := BX.trans (b1.mono BX.size)
    have G51 := blkN_below b1 G5
    have G61 := blkN_below b1 G6
    clear KA BX b1 G5 G6 hle
    dsimp only
    go_wp2_with fail
    have b2 : Below w1.heap.size w1 (w1.alloc (.cells #[.int .i64 R1.x, .int .i64 R1.y, .int .i64 T1.x, .int .i64 T1.y] 72)) := (Below.refl _ _).alloc (Nat.le_refl _) _
    have H5 := blkN_below b2 G51
    have H6 := blkN_below b2 G61
    have HB := blkN_new w1 (.cells #[.int .i64 R1.x, .int .i64 R1.y, .int .i64 T1.x, .int .i64 T1.y] 72)
    have B2 := B1.trans (b2.mono B1.size)
    clear b2 G51 G61 B1
    obtain ⟨bq, hbq⟩ : ∃ bq, w1.heap.size = bq := ⟨_, rfl⟩
    obtain ⟨W, hW⟩ : ∃ W, w1.alloc (.cells #[.int .i64 R1.x, .int .i64 R1.y, .int .i64 T1.x, .int .i64 T1.y] 72) = W := ⟨_, rfl⟩
    rw [hW] at B2 H5 H6 HB ⊢
    rw [hbq] at HB ⊢
    clear hW hbq
    have HQ2 := Lib.hid (HQ.out.ext B2)
    clear HQ
    obtain ⟨e0, e1, e2, e3, e4, e5, e6⟩ := cells7s H5
    obtain ⟨g0, g1, g2, g3, g4, g5, g6⟩ := cells7s H6
    obtain ⟨q0, q1, q2, q3⟩ := cells4s HB
    have u5 := World.block_lt_of_cell? W _ e0
    have u6 := World.block_lt_of_cell? W _ g0
    have uB := World.block_lt_of_cell? W _ q0
    rcases hways with ⟨hc, ha, hbn⟩ | ⟨hno, hway⟩
    · have hr : r = true := Hr.out.2 hc
      subst hr
      rw [decide_eq_true hbn] at K3
      clear hc hbn Hr K4 H5 H6 HB
      go_region_held3 (fun w' => (∀ b' o', b' < W.heap.size → w'.cell? ⟨b', o', none⟩ = W.cell? ⟨b', o', none⟩) ∧ Below W.heap.size W w') (first | exact heldB ((Below.refl _ _).drew) | exact heldB C1 | exact heldB C2)
        (first | (go_at_call 62; refine (K2.out _ (HQ2.out.ext (Below.refl _ _).drew)).mono ?_; rintro e x1 ⟨rfl, c1⟩; have C1 : Below W.heap.size W x1 := (Below.refl _ _).drew.trans c1) | (go_at_call 63; refine (K3.out _).mono ?_; rintro e x2 ⟨rfl, c2⟩; have C2 : Below W.heap.size W x2 := C1.trans (c2.mono C1.size)))
      go_wp2
      go_ret
      exact ⟨rfl, B2.trans (C2.mono B2.size)⟩
    · rcases hno with ha | ⟨ha, hbn⟩
      · clear K2 K3
        have hdf : decide (dv < 60) = false := decide_eq_false (by omega)
        have hge : 60 ≤ dv := by omega
        clear ha
        go_quiet (fail)
        clear e0 e1 e2 e3 e4 e5 e6 g0 g1 g2 g3 g4 g5 g6 q0 q1 q2 q3 u5 u6 uB
        have Y5 := blkN_below (Below.refl W.heap.size W) H5
        have Y6 := blkN_below (Below.refl W.heap.size W) H6
        have YB := blkN_below (Below.refl W.heap.size W) HB
        have BY := Lib.hid (B2.trans ((Below.refl W.heap.size W) |>.mono B2.size))
        clear B2 H5 H6 HB
        obtain ⟨y0, y1, y2, y3, y4, y5, y6⟩ := cells7s Y5
        obtain ⟨z0, z1, z2, z3, z4, z5, z6⟩ := cells7s Y6
        obtain ⟨s0, s1, s2, s3⟩ := cells4s YB
        clear Y5 Y6 YB
        rcases hway with ⟨heq, hc⟩ | ⟨hne, hc⟩
        · have hr : r = false := by rw [← Bool.not_eq_true]; exact fun h => hc (Hr.out.1 h)
          subst hr
          clear hc Hr K4
          first
            | (exfalso; omega)
            | (rw [heq] at y3
               go_wp2
               go_ret
               first | exact ⟨rfl, BY.out⟩ | exact ⟨rfl, below_dN BY.out _⟩)
        · have hr : r = decide (mastNear g f db (n * n)) := by rw [Bool.eq_iff_iff]; exact (Hr.out.trans hc).trans decide_eq_true_iff.symm
          rw [← hr] at K4
          clear hr hc Hr
          have hbne : ((g).height != (f).height) = true := by simpa using hne
          go_wp2_with fail
          refine (K4.out _).mono ?_
          rintro e y1 ⟨rfl, m1⟩
          dsimp only
          go_wp2
          go_ret
          first | exact ⟨by simp, BY.out.trans (m1.mono BY.out.size)⟩ | exact ⟨by simp, (below_dN BY.out _).trans (m1.mono BY.out.size)⟩
      · rw [decide_eq_false hbn] at K3
        clear hbn
        go_region_held3 (fun w' => (∀ b' o', b' < W.heap.size → w'.cell? ⟨b', o', none⟩ = W.cell? ⟨b', o', none⟩) ∧ Below W.heap.size W w') (first | exact heldB ((Below.refl _ _).drew) | exact heldB C1 | exact heldB C2)
          (first | (go_at_call 62; refine (K2.out _ (HQ2.out.ext (Below.refl _ _).drew)).mono ?_; rintro e x1 ⟨rfl, c1⟩; have C1 : Below W.heap.size W x1 := (Below.refl _ _).drew.trans c1) | (go_at_call 63; refine (K3.out _).mono ?_; rintro e x2 ⟨rfl, c2⟩; have C2 : Below W.heap.size W x2 := C1.trans (c2.mono C1.size)))
        rename_i hH
        clear hH e0 e1 e2 e3 e4 e5 e6 g0 g1 g2 g3 g4 g5 g6 q0 q1 q2 q3 u5 u6 uB c1 c2 C1 K2 K3
        have Y5 := blkN_below C2 H5
        have Y6 := blkN_below C2 H6
        have YB := blkN_below C2 HB
        have BY := Lib.hid (B2.trans (C2 |>.mono B2.size))
        clear B2 H5 H6 HB
        obtain ⟨y0, y1, y2, y3, y4, y5, y6⟩ := cells7s Y5
        obtain ⟨z0, z1, z2, z3, z4, z5, z6⟩ := cells7s Y6
        obtain ⟨s0, s1, s2, s3⟩ := cells4s YB
        clear Y5 Y6 YB
        rcases hway with ⟨heq, hc⟩ | ⟨hne, hc⟩
        · have hr : r = false := by rw [← Bool.not_eq_true]; exact fun h => hc (Hr.out.1 h)
          subst hr
          clear hc Hr K4
          first
            | (exfalso; omega)
            | (rw [heq] at y3
               go_wp2
               go_ret
               first | exact ⟨rfl, BY.out⟩ | exact ⟨rfl, below_dN BY.out _⟩)
        · have hr : r = decide (mastNear g f db (n * n)) := by rw [Bool.eq_iff_iff]; exact (Hr.out.trans hc).trans decide_eq_true_iff.symm
          rw [← hr] at K4
          clear hr hc Hr
          have hbne : ((g).height != (f).height) = true := by simpa using hne
          go_wp2_with fail
          refine (K4.out _).mono ?_
          rintro e y1 ⟨rfl, m1⟩
          dsimp only
          go_wp2
          go_ret
          first | exact ⟨by simp, BY.out.trans (m1.mono BY.out.size)⟩ | exact ⟨by simp, (below_dN BY.out _).trans (m1.mono BY.out.size)⟩
  · have hle : f.height ≤ g.height := by omega
    have HG5 := Lib.hid G5
    have HG6 := Lib.hid G6
    have HBX := Lib.hid BX
    clear G5 G6 BX
    go_enter Tryd.func34, Tryd.ntmps34
    go_wp2_with fail
    have G5 := HG5.out
    have G6 := HG6.out
    have BX := HBX.out
    clear HG5 HG6 HBX
    have KA := Lib.hid (fun w h => impl_Boom f (.slice af kf cf) da w h hf hda)
    have K2 := Lib.hid (fun w h => impl_Boom g (.slice ag kg cg) db w h hg hdb)
    have K3 := Lib.hid (fun w => impl_Nearer (backP f da) (jibP f da) (backP g db) (jibP g db) n w (back_crd hf da) (jib_crd hf hda) (back_crd hg db) (jib_crd hg hdb) hn)
    rw [show decide (nearS (backP f da) (jibP f da) (backP g db) (jibP g db) (n * n)) = decide (boomNear f g da db (n * n)) from rfl] at K3
    have K4 := Lib.hid (fun w => impl_Nearer (backP f da) (jibP f da) ⟨(g).x, (g).y⟩ ⟨(g).x, (g).y⟩ n w (back_crd hf da) (jib_crd hf hda) (at_crd hg) (at_crd hg) hn)
    rw [show decide (nearS (backP f da) (jibP f da) ⟨(g).x, (g).y⟩ ⟨(g).x, (g).y⟩ (n * n)) = decide (mastNear f g da (n * n)) from rfl] at K4
    have hwr : IntKind.i64.wrap ((g).height - (f).height) = (g).height - (f).height := by have := (hf).2.1; have := (hg).2.1; rw [IntKind.wrap_i64]; omega
    have hways := low_ways (da := da) (db := db) (e := n * n) hle
    generalize hdv : (g).height - (f).height = dv at *
    generalize backP f da = R1 at *
    generalize jibP f da = T1 at *
    generalize backP g db = R2 at *
    generalize jibP g db = T2 at *
    refine (KA.out _ (HQ.out.ext BX)).mono ?_
    rintro e w1 ⟨rfl, b1⟩
    have B1 := BX.trans (b1.mono BX.size)
    have G51 := blkN_below b1 G5
    have G61 := blkN_below b1 G6
    clear KA BX b1 G5 G6 hle
    dsimp only
    go_wp2_with fail
    have b2 : Below w1.heap.size w1 (w1.alloc (.cells #[.int .i64 R1.x, .int .i64 R1.y, .int .i64 T1.x, .int .i64 T1.y] 72)) := (Below.refl _ _).alloc (Nat.le_refl _) _
    have H5 := blkN_below b2 G51
    have H6 := blkN_below b2 G61
    have HB := blkN_new w1 (.cells #[.int .i64 R1.x, .int .i64 R1.y, .int .i64 T1.x, .int .i64 T1.y] 72)
    have B2 := B1.trans (b2.mono B1.size)
    clear b2 G51 G61 B1
    obtain ⟨bq, hbq⟩ : ∃ bq, w1.heap.size = bq := ⟨_, rfl⟩
    obtain ⟨W, hW⟩ : ∃ W, w1.alloc (.cells #[.int .i64 R1.x, .int .i64 R1.y, .int .i64 T1.x, .int .i64 T1.y] 72) = W := ⟨_, rfl⟩
    rw [hW] at B2 H5 H6 HB ⊢
    rw [hbq] at HB ⊢
    clear hW hbq
    have HQ2 := Lib.hid (HQ.out.ext B2)
    clear HQ
    obtain ⟨e0, e1, e2, e3, e4, e5, e6⟩ := cells7s H5
    obtain ⟨g0, g1, g2, g3, g4, g5, g6⟩ := cells7s H6
    obtain ⟨q0, q1, q2, q3⟩ := cells4s HB
    have u5 := World.block_lt_of_cell? W _ e0
    have u6 := World.block_lt_of_cell? W _ g0
    have uB := World.block_lt_of_cell? W _ q0
    rcases hways with ⟨hc, ha, hbn⟩ | ⟨hno, hway⟩
    · have hr : r = true := Hr.out.2 hc
      subst hr
      rw [decide_eq_true hbn] at K3
      clear hc hbn Hr K4 H5 H6 HB
      go_region_held3 (fun w' => (∀ b' o', b' < W.heap.size → w'.cell? ⟨b', o', none⟩ = W.cell? ⟨b', o', none⟩) ∧ Below W.heap.size W w') (first | exact heldB ((Below.refl _ _).drew) | exact heldB C1 | exact heldB C2)
        (first | (go_at_call 62; refine (K2.out _ (HQ2.out.ext (Below.refl _ _).drew)).mono ?_; rintro e x1 ⟨rfl, c1⟩; have C1 : Below W.heap.size W x1 := (Below.refl _ _).drew.trans c1) | (go_at_call 63; refine (K3.out _).mono ?_; rintro e x2 ⟨rfl, c2⟩; have C2 : Below W.heap.size W x2 := C1.trans (c2.mono C1.size)))
      go_wp2
      go_ret
      exact ⟨rfl, B2.trans (C2.mono B2.size)⟩
    · rcases hno with ha | ⟨ha, hbn⟩
      · clear K2 K3
        have hdf : decide (dv < 60) = false := decide_eq_false (by omega)
        have hge : 60 ≤ dv := by omega
        clear ha
        go_quiet (fail)
        clear e0 e1 e2 e3 e4 e5 e6 g0 g1 g2 g3 g4 g5 g6 q0 q1 q2 q3 u5 u6 uB
        have Y5 := blkN_below (Below.refl W.heap.size W) H5
        have Y6 := blkN_below (Below.refl W.heap.size W) H6
        have YB := blkN_below (Below.refl W.heap.size W) HB
        have BY := Lib.hid (B2.trans ((Below.refl W.heap.size W) |>.mono B2.size))
        clear B2 H5 H6 HB
        obtain ⟨y0, y1, y2, y3, y4, y5, y6⟩ := cells7s Y5
        obtain ⟨z0, z1, z2, z3, z4, z5, z6⟩ := cells7s Y6
        obtain ⟨s0, s1, s2, s3⟩ := cells4s YB
        clear Y5 Y6 YB
        rcases hway with ⟨heq, hc⟩ | ⟨hne, hc⟩
        · have hr : r = false := by rw [← Bool.not_eq_true]; exact fun h => hc (Hr.out.1 h)
          subst hr
          clear hc Hr K4
          first
            | (exfalso; omega)
            | (rw [heq] at y3
               go_wp2
               go_ret
               first | exact ⟨rfl, BY.out⟩ | exact ⟨rfl, below_dN BY.out _⟩)
        · have hr : r = decide (mastNear f g da (n * n)) := by rw [Bool.eq_iff_iff]; exact (Hr.out.trans hc).trans decide_eq_true_iff.symm
          rw [← hr] at K4
          clear hr hc Hr
          have hbne : ((f).height != (g).height) = true := by simpa using hne
          go_wp2_with fail
          refine (K4.out _).mono ?_
          rintro e y1 ⟨rfl, m1⟩
          dsimp only
          go_wp2
          go_ret
          first | exact ⟨by simp, BY.out.trans (m1.mono BY.out.size)⟩ | exact ⟨by simp, (below_dN BY.out _).trans (m1.mono BY.out.size)⟩
      · rw [decide_eq_false hbn] at K3
        clear hbn
        go_region_held3 (fun w' => (∀ b' o', b' < W.heap.size → w'.cell? ⟨b', o', none⟩ = W.cell? ⟨b', o', none⟩) ∧ Below W.heap.size W w') (first | exact heldB ((Below.refl _ _).drew) | exact heldB C1 | exact heldB C2)
          (first | (go_at_call 62; refine (K2.out _ (HQ2.out.ext (Below.refl _ _).drew)).mono ?_; rintro e x1 ⟨rfl, c1⟩; have C1 : Below W.heap.size W x1 := (Below.refl _ _).drew.trans c1) | (go_at_call 63; refine (K3.out _).mono ?_; rintro e x2 ⟨rfl, c2⟩; have C2 : Below W.heap.size W x2 := C1.trans (c2.mono C1.size)))
        rename_i hH
        clear hH e0 e1 e2 e3 e4 e5 e6 g0 g1 g2 g3 g4 g5 g6 q0 q1 q2 q3 u5 u6 uB c1 c2 C1 K2 K3
        have Y5 := blkN_below C2 H5
        have Y6 := blkN_below C2 H6
        have YB := blkN_below C2 HB
        have BY := Lib.hid (B2.trans (C2 |>.mono B2.size))
        clear B2 H5 H6 HB
        obtain ⟨y0, y1, y2, y3, y4, y5, y6⟩ := cells7s Y5
        obtain ⟨z0, z1, z2, z3, z4, z5, z6⟩ := cells7s Y6
        obtain ⟨s0, s1, s2, s3⟩ := cells4s YB
        clear Y5 Y6 YB
        rcases hway with ⟨heq, hc⟩ | ⟨hne, hc⟩
        · have hr : r = false := by rw [← Bool.not_eq_true]; exact fun h => hc (Hr.out.1 h)
          subst hr
          clear hc Hr K4
          first
            | (exfalso; omega)
            | (rw [heq] at y3
               go_wp2
               go_ret
               first | exact ⟨rfl, BY.out⟩ | exact ⟨rfl, below_dN BY.out _⟩)
        · have hr : r = decide (mastNear f g da (n * n)) := by rw [Bool.eq_iff_iff]; exact (Hr.out.trans hc).trans decide_eq_true_iff.symm
          rw [← hr] at K4
          clear hr hc Hr
          have hbne : ((f).height != (g).height) = true := by simpa using hne
          go_wp2_with fail
          refine (K4.out _).mono ?_
          rintro e y1 ⟨rfl, m1⟩
          dsimp only
          go_wp2
          go_ret
          first | exact ⟨by simp, BY.out.trans (m1.mono BY.out.size)⟩ | exact ⟨by simp, (below_dN BY.out _).trans (m1.mono BY.out.size)⟩
end Go.Proofs.YteeigmgepahdhaaDoor
