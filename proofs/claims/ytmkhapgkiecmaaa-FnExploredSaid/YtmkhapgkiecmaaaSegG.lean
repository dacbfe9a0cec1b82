/- Conflicts, the reference: booms, masts, whether two cranes are in conflict. -/
import Derived.Test.YtmkhapgkiecmaaaSegF
namespace Go.Proofs.Ytmkhapgkiecmaaa
open Go.RowKit
set_option maxRecDepth 100000 in
set_option maxHeartbeats 4000000 in
theorem spec_Boom (q o : Nat) (f : CraneF) (d : Nat) (w : World) (h : CrB q o f w) (hf : GeoOk f) (hd : d < 24) : Calls Try.prog 123 #[.pointer (some ⟨q, o, none⟩), .int .i64 d] w fun e w' => e = .returned (.agg #[.int .i64 (backP f d).x, .int .i64 (backP f d).y, .int .i64 (jibP f d).x, .int .i64 (jibP f d).y]) ∧ Below w.heap.size w w' := by
  have K1 := Lib.hid (fun w h => spec_Back q o f d w h hf hd)
  have K2 := Lib.hid (fun w h => spec_Jib q o f d w h hf hd)
  have H := Lib.hid h
  generalize backP f d = R at *
  generalize jibP f d = T at *
  obtain ⟨rx, ry⟩ := R
  obtain ⟨tx, ty⟩ := T
  clear h
  dsimp only at *
  go_enter Try.func123, Try.ntmps123
  go_wp2_with fail
  have b0 : Below w.heap.size w (w.alloc (.cells #[.int .i64 0, .int .i64 0, .int .i64 0, .int .i64 0] 147)) := (Below.refl _ _).alloc (Nat.le_refl _) _
  have g0 := blkN_new w (.cells #[.int .i64 0, .int .i64 0, .int .i64 0, .int .i64 0] 147)
  obtain ⟨W, hW⟩ : ∃ W, w.alloc (.cells #[.int .i64 0, .int .i64 0, .int .i64 0, .int .i64 0] 147) = W := ⟨_, rfl⟩
  rw [hW] at b0 g0 ⊢
  clear hW
  refine (K1.out _ (H.out.below b0)).mono ?_
  rintro e w1 ⟨rfl, b1⟩
  have B1 := b0.trans (b1.mono b0.size)
  have g1 := blkN_below b1 g0
  clear b0 g0 b1
  dsimp only
  go_wp2_with fail
  refine (K2.out _ (H.out.below B1)).mono ?_
  rintro e w2 ⟨rfl, b2⟩
  have B2 := B1.trans (b2.mono B1.size)
  have g2 := blkN_below b2 g1
  obtain ⟨r0, r1, r2, r3⟩ := cells4s g2
  have fz := fun j => Lib.frozen_of_heap g2 j
  have z2 := World.block_lt_of_cell? w2 _ r0
  clear g1 B1 b2
  dsimp only
  go_wp2
  refine bodyPost_ret (v := .agg #[.int .i64 rx, .int .i64 ry, .int .i64 tx, .int .i64 ty]) (by simp [results, Try.results123, go_sem, r0, r1, r2, r3]) rfl ?_
  exact ⟨rfl, (((B2.setCell (p := ⟨w.heap.size, 0, none⟩) (Nat.le_refl _) _).setCell (p := ⟨w.heap.size, 1, none⟩) (Nat.le_refl _) _).setCell (p := ⟨w.heap.size, 2, none⟩) (Nat.le_refl _) _).setCell (p := ⟨w.heap.size, 3, none⟩) (Nat.le_refl _) _⟩
set_option maxRecDepth 100000 in
set_option maxHeartbeats 4000000 in
theorem spec_Mast (q o q2 o2 : Nat) (f g : CraneF) (d : Nat) (n : Int) (w : World) (h : CrB q o f w) (h2 : CrB q2 o2 g w) (hf : GeoOk f) (hg : GeoOk g) (hd : d < 24) (hn : 0 ≤ n ∧ n ≤ 1000) : Calls Try.prog 124 #[.pointer (some ⟨q, o, none⟩), .int .i64 d, .pointer (some ⟨q2, o2, none⟩), .int .i64 n] w fun e w' => e = .returned (.bool (decide (mastNear f g d (n * n)))) ∧ Below w.heap.size w w' := by
  have K1 := Lib.hid (fun w h => spec_Boom q o f d w h hf hd)
  have K2 := Lib.hid (fun w => spec_Near (backP f d) (jibP f d) ⟨g.x, g.y⟩ ⟨g.x, g.y⟩ n w (back_crd hf d) (jib_crd hf hd) (at_crd hg) (at_crd hg) hn)
  rw [show decide (nearS (backP f d) (jibP f d) ⟨g.x, g.y⟩ ⟨g.x, g.y⟩ (n * n)) = decide (mastNear f g d (n * n)) from rfl] at K2
  have H := Lib.hid (fun w' (hb : Below w.heap.size w w') => h.below hb)
  have hz2 := h2.lt
  obtain ⟨x2, y2, -, -, -⟩ := h2
  clear h hf hg
  generalize decide (mastNear f g d (n * n)) = r at *
  generalize backP f d = R at *
  generalize jibP f d = T at *
  obtain ⟨rx, ry⟩ := R
  obtain ⟨tx, ty⟩ := T
  obtain ⟨gn, gx, gy, gh, gj, gb⟩ := g
  dsimp only at *
  go_enter Try.func124, Try.ntmps124
  go_wp2_with fail
  go_region_held3 (fun w' => (∀ b' o', b' < w.heap.size → w'.cell? ⟨b', o', none⟩ = w.cell? ⟨b', o', none⟩) ∧ Below w.heap.size w w') (first | exact heldB ((Below.refl _ _).drew) | exact heldB C1 | exact heldB C2)
    (first | (go_at_call 123; refine (K1.out _ (H.out _ (Below.refl _ _).drew)).mono ?_; rintro e x1 ⟨rfl, c1⟩; have C1 : Below w.heap.size w x1 := (Below.refl _ _).drew.trans c1) | (go_at_call 122; refine (K2.out _).mono ?_; rintro e x2 ⟨rfl, c2⟩; have C2 : Below w.heap.size w x2 := C1.trans (c2.mono C1.size)))
  go_wp2
  go_ret
  exact ⟨rfl, C2⟩
theorem conf_ways (f g : CraneF) (da db : Nat) (e : Int) :
    (confP f g da db e ∧ absI (f.height - g.height) < 60 ∧ boomNear f g da db e) ∨
    ((¬ (absI (f.height - g.height) < 60) ∨ (absI (f.height - g.height) < 60 ∧ ¬ boomNear f g da db e)) ∧ ((f.height < g.height ∧ (confP f g da db e ↔ mastNear f g da e)) ∨ (¬ f.height < g.height ∧ g.height < f.height ∧ (confP f g da db e ↔ mastNear g f db e)) ∨ (f.height = g.height ∧ ¬ confP f g da db e))) := by
  by_cases h1 : absI (f.height - g.height) < 60 ∧ boomNear f g da db e
  · exact .inl ⟨.inl h1, h1⟩
  · refine .inr ⟨?_, ?_⟩
    · by_cases h2 : absI (f.height - g.height) < 60
      · exact .inr ⟨h2, fun h => h1 ⟨h2, h⟩⟩
      · exact .inl h2
    · unfold confP
      rcases Int.lt_trichotomy f.height g.height with h | h | h
      · refine .inl ⟨h, ⟨fun h2 => ?_, fun h2 => .inr (.inl ⟨h, h2⟩)⟩⟩
        rcases h2 with h2 | h2 | h2
        · exact absurd h2 h1
        · exact h2.2
        · omega
      · refine .inr (.inr ⟨h, fun h2 => ?_⟩)
        rcases h2 with h2 | h2 | h2
        · exact absurd h2 h1
        · omega
        · omega
      · refine .inr (.inl ⟨by omega, h, ⟨fun h2 => ?_, fun h2 => .inr (.inr ⟨h, h2⟩)⟩⟩)
        rcases h2 with h2 | h2 | h2
        · exact absurd h2 h1
        · omega
        · exact h2.2
set_option maxRecDepth 100000 in
set_option maxHeartbeats 8000000 in
theorem spec_Conflict (q o q2 o2 : Nat) (f g : CraneF) (da db : Nat) (n : Int) (w : World) (h : CrB q o f w) (h2 : CrB q2 o2 g w) (hf : GeoOk f) (hg : GeoOk g) (hda : da < 24) (hdb : db < 24) (hn : 0 ≤ n ∧ n ≤ 1000) :
    Calls Try.prog 112 #[.pointer (some ⟨q, o, none⟩), .pointer (some ⟨q2, o2, none⟩), .int .i64 da, .int .i64 db, .int .i64 n] w fun e w' => e = .returned (.bool (decide (confP f g da db (n * n)))) ∧ Below w.heap.size w w' := by
  have hways := conf_ways f g da db (n * n)
  obtain ⟨r, hr⟩ : ∃ r, r = decide (confP f g da db (n * n)) := ⟨_, rfl⟩
  have Hr := Lib.hid (show r = true ↔ confP f g da db (n * n) by rw [hr]; exact decide_eq_true_iff)
  rw [← hr]
  clear hr
  have H := Lib.hid (fun w' (hb : Below w.heap.size w w') => h.below hb)
  have H2 := Lib.hid (fun w' (hb : Below w.heap.size w w') => h2.below hb)
  have K1 := Lib.hid (fun w h => spec_Boom q o f da w h hf hda)
  have K2 := Lib.hid (fun w h => spec_Boom q2 o2 g db w h hg hdb)
  have K3 := Lib.hid (fun w => spec_Near (backP f da) (jibP f da) (backP g db) (jibP g db) n w (back_crd hf da) (jib_crd hf hda) (back_crd hg db) (jib_crd hg hdb) hn)
  rw [show decide (nearS (backP f da) (jibP f da) (backP g db) (jibP g db) (n * n)) = decide (boomNear f g da db (n * n)) from rfl] at K3
  have hh := hf.2.1
  have hh2 := hg.2.1
  have hsz : -1000000000 ≤ f.height - g.height ∧ f.height - g.height ≤ 1000000000 := by omega
  have hwr : IntKind.i64.wrap (f.height - g.height) = f.height - g.height := by rw [IntKind.wrap_i64]; omega
  have KS := Lib.hid (fun w => spec_Size (f.height - g.height) w hsz)
  have hz := h.lt
  have hz2 := h2.lt
  have x3 := h.height
  have y3 := h2.height
  clear h h2
  go_enter Try.func112, Try.ntmps112
  go_wp2_with fail
  rcases hways with ⟨hc, ha, hbn⟩ | ⟨hno, hway⟩
  · have hr : r = true := Hr.out.2 hc
    subst hr
    rw [decide_eq_true hbn] at K3
    generalize backP f da = R1 at *
    generalize jibP f da = T1 at *
    generalize backP g db = R2 at *
    generalize jibP g db = T2 at *
    clear hc hbn Hr
    generalize absI (f.height - g.height) = av at *
    go_region_held3 (fun w' => (∀ b' o', b' < w.heap.size → w'.cell? ⟨b', o', none⟩ = w.cell? ⟨b', o', none⟩) ∧ Below w.heap.size w w') (first | exact heldB ((Below.refl _ _).drew) | exact heldB C1 | exact heldB C2 | exact heldB C3)
      (first | (go_at_call 113; refine (KS.out _).mono ?_; rintro e x0 ⟨rfl, rfl⟩) | (go_at_call_of 123 (Value.int IntKind.i64 (da : Int)); refine (K1.out _ (H.out _ (Below.refl _ _).drew)).mono ?_; rintro e x1 ⟨rfl, c1⟩; have C1 : Below w.heap.size w x1 := (Below.refl _ _).drew.trans c1) | (go_at_call_of 123 (Value.int IntKind.i64 (db : Int)); refine (K2.out _ (H2.out _ C1)).mono ?_; rintro e x2 ⟨rfl, c2⟩; have C2 : Below w.heap.size w x2 := C1.trans (c2.mono C1.size)) | (go_at_call 122; refine (K3.out _).mono ?_; rintro e x4 ⟨rfl, c3⟩; have C3 : Below w.heap.size w x4 := C2.trans (c3.mono C2.size)))
    go_wp2
    go_ret
    exact ⟨rfl, C3⟩
  · rcases hno with ha | ⟨ha, hbn⟩
    · clear K1 K2 K3
      generalize hav : absI (f.height - g.height) = av at *
      clear hav
      have hdf : decide (av < 60) = false := decide_eq_false (by omega)
      have hge : 60 ≤ av := by omega
      clear ha
      go_quiet (first | (go_at_call 113; exact Calls.quiet_of_same (Calls.turn (KS.out _))))
      clear x3 y3 hz hz2
      have HX := H.out _ (Below.refl w.heap.size w)
      have HX2 := H2.out _ (Below.refl w.heap.size w)
      have HA := Lib.hid HX
      have HA2 := Lib.hid HX2
      have zx := HX.lt
      have zx2 := HX2.lt
      have BXX := Lib.hid (Below.refl w.heap.size w)
      obtain ⟨-, -, a3, -, -⟩ := HX
      obtain ⟨-, -, c3, -, -⟩ := HX2
      clear H H2
      rcases hway with ⟨hlt, hc⟩ | ⟨hnl, hgt, hc⟩ | ⟨heq, hc⟩
      · have hr : r = decide (mastNear f g da (n * n)) := by rw [Bool.eq_iff_iff]; exact (Hr.out.trans hc).trans decide_eq_true_iff.symm
        have M := Lib.hid (fun w h h2 => spec_Mast q o q2 o2 f g da n w h h2 hf hg hda hn)
        rw [← hr] at M
        clear hr hc Hr
        obtain ⟨fn, fx, fy, fh, fj, fb⟩ := f
        obtain ⟨gn, gx, gy, gh, gj, gb⟩ := g
        dsimp only at *
        go_wp2_with fail
        go_quiet (fail)
        go_wp2_with fail
        refine (M.out _ (HA.out.below (below_dN (Below.refl _ _) _)) (HA2.out.below (below_dN (Below.refl _ _) _))).mono ?_
        rintro e y1 ⟨rfl, m1⟩
        dsimp only
        go_wp2
        go_ret
        exact ⟨rfl, (below_dN BXX.out _).trans (m1.mono BXX.out.size)⟩
      · have hr : r = decide (mastNear g f db (n * n)) := by rw [Bool.eq_iff_iff]; exact (Hr.out.trans hc).trans decide_eq_true_iff.symm
        have M := Lib.hid (fun w h h2 => spec_Mast q2 o2 q o g f db n w h h2 hg hf hdb hn)
        rw [← hr] at M
        clear hr hc Hr
        obtain ⟨fn, fx, fy, fh, fj, fb⟩ := f
        obtain ⟨gn, gx, gy, gh, gj, gb⟩ := g
        dsimp only at *
        go_wp2_with fail
        go_quiet (fail)
        go_wp2_with fail
        go_quiet (fail)
        go_wp2_with fail
        refine (M.out _ (HA2.out.below (below_dN (Below.refl _ _) _)) (HA.out.below (below_dN (Below.refl _ _) _))).mono ?_
        rintro e y1 ⟨rfl, m1⟩
        dsimp only
        go_wp2
        go_ret
        exact ⟨rfl, (below_dN BXX.out _).trans (m1.mono BXX.out.size)⟩
      · have hr : r = false := by rw [← Bool.not_eq_true]; exact fun h => hc (Hr.out.1 h)
        subst hr
        clear hc Hr
        obtain ⟨fn, fx, fy, fh, fj, fb⟩ := f
        obtain ⟨gn, gx, gy, gh, gj, gb⟩ := g
        dsimp only at *
        subst heq
        go_wp2_with fail
        go_quiet (fail)
        go_wp2_with fail
        go_quiet (fail)
        go_wp2
        go_ret
        refine ⟨rfl, ?_⟩
        first | exact BXX.out | exact below_dN BXX.out _ | exact below_dN (below_dN BXX.out _) _ | exact below_dN (below_dN (below_dN BXX.out _) _) _
    · rw [decide_eq_false hbn] at K3
      generalize backP f da = R1 at *
      generalize jibP f da = T1 at *
      generalize backP g db = R2 at *
      generalize jibP g db = T2 at *
      clear hbn
      generalize hav : absI (f.height - g.height) = av at *
      clear hav
      go_region_held3 (fun w' => (∀ b' o', b' < w.heap.size → w'.cell? ⟨b', o', none⟩ = w.cell? ⟨b', o', none⟩) ∧ Below w.heap.size w w') (first | exact heldB ((Below.refl _ _).drew) | exact heldB C1 | exact heldB C2 | exact heldB C3)
        (first | (go_at_call 113; refine (KS.out _).mono ?_; rintro e x0 ⟨rfl, rfl⟩) | (go_at_call_of 123 (Value.int IntKind.i64 (da : Int)); refine (K1.out _ (H.out _ (Below.refl _ _).drew)).mono ?_; rintro e x1 ⟨rfl, c1⟩; have C1 : Below w.heap.size w x1 := (Below.refl _ _).drew.trans c1) | (go_at_call_of 123 (Value.int IntKind.i64 (db : Int)); refine (K2.out _ (H2.out _ C1)).mono ?_; rintro e x2 ⟨rfl, c2⟩; have C2 : Below w.heap.size w x2 := C1.trans (c2.mono C1.size)) | (go_at_call 122; refine (K3.out _).mono ?_; rintro e x4 ⟨rfl, c3⟩; have C3 : Below w.heap.size w x4 := C2.trans (c3.mono C2.size)))
      rename_i hH
      clear hH x3 y3 hz hz2 c1 c2 c3 K1 K2 K3 C1 C2
      have HX := H.out _ C3
      have HX2 := H2.out _ C3
      have HA := Lib.hid HX
      have HA2 := Lib.hid HX2
      have zx := HX.lt
      have zx2 := HX2.lt
      have BXX := Lib.hid C3
      obtain ⟨-, -, a3, -, -⟩ := HX
      obtain ⟨-, -, c3, -, -⟩ := HX2
      clear H H2
      rcases hway with ⟨hlt, hc⟩ | ⟨hnl, hgt, hc⟩ | ⟨heq, hc⟩
      · have hr : r = decide (mastNear f g da (n * n)) := by rw [Bool.eq_iff_iff]; exact (Hr.out.trans hc).trans decide_eq_true_iff.symm
        have M := Lib.hid (fun w h h2 => spec_Mast q o q2 o2 f g da n w h h2 hf hg hda hn)
        rw [← hr] at M
        clear hr hc Hr
        obtain ⟨fn, fx, fy, fh, fj, fb⟩ := f
        obtain ⟨gn, gx, gy, gh, gj, gb⟩ := g
        dsimp only at *
        go_wp2_with fail
        go_quiet (fail)
        go_wp2_with fail
        refine (M.out _ (HA.out.below (below_dN (Below.refl _ _) _)) (HA2.out.below (below_dN (Below.refl _ _) _))).mono ?_
        rintro e y1 ⟨rfl, m1⟩
        dsimp only
        go_wp2
        go_ret
        exact ⟨rfl, (below_dN BXX.out _).trans (m1.mono BXX.out.size)⟩
      · have hr : r = decide (mastNear g f db (n * n)) := by rw [Bool.eq_iff_iff]; exact (Hr.out.trans hc).trans decide_eq_true_iff.symm
        have M := Lib.hid (fun w h h2 => spec_Mast q2 o2 q o g f db n w h h2 hg hf hdb hn)
        rw [← hr] at M
        clear hr hc Hr
        obtain ⟨fn, fx, fy, fh, fj, fb⟩ := f
        obtain ⟨gn, gx, gy, gh, gj, gb⟩ := g
        dsimp only at *
        go_wp2_with fail
        go_quiet (fail)
        go_wp2_with fail
        go_quiet (fail)
        go_wp2_with fail
        refine (M.out _ (HA2.out.below (below_dN (Below.refl _ _) _)) (HA.out.below (below_dN (Below.refl _ _) _))).mono ?_
        rintro e y1 ⟨rfl, m1⟩
        dsimp only
        go_wp2
        go_ret
        exact ⟨rfl, (below_dN BXX.out _).trans (m1.mono BXX.out.size)⟩
      · have hr : r = false := by rw [← Bool.not_eq_true]; exact fun h => hc (Hr.out.1 h)
        subst hr
        clear hc Hr
        obtain ⟨fn, fx, fy, fh, fj, fb⟩ := f
        obtain ⟨gn, gx, gy, gh, gj, gb⟩ := g
        dsimp only at *
        subst heq
        go_wp2_with fail
        go_quiet (fail)
        go_wp2_with fail
        go_quiet (fail)
        go_wp2
        go_ret
        refine ⟨rfl, ?_⟩
        first | exact BXX.out | exact below_dN BXX.out _ | exact below_dN (below_dN BXX.out _) _ | exact below_dN (below_dN (below_dN BXX.out _) _) _
end Go.Proofs.Ytmkhapgkiecmaaa
