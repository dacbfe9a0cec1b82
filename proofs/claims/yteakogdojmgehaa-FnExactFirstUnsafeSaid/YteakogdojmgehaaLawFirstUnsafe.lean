/- The law FnExactFirstUnsafe. -/
import Derived.Test.YteakogdojmgehaaExT
import Derived.Test.YteakogdojmgehaaTBoolM
import Derived.Test.YteakogdojmgehaaOpenB
import Derived.Test.YteakogdojmgehaaLawS
import Derived.Handy
namespace Go.Proofs.Yteakogdojmgehaa
open Go.RowKit

set_option maxRecDepth 100000 in
set_option maxHeartbeats 16000000 in
theorem law_FirstUnsafe {vT vV vW : Value} (L : List (List Bool)) (v : Wtc) (x : Wld) (w : World) (hL : ∃ rows, SSr 1 boolCells 0 w.heap.size w vT rows L) (hV : vV = .agg v.cells.toArray ∧ v.wf) (hW : vW = .agg x.cells.toArray ∧ x.wf) :
    Calls Try.prog 6 #[vT, vV, vW] w fun e w' => e = .returned (.bool true) ∧ Below w.heap.size w w' := by
  obtain ⟨rows, h0⟩ := hL
  obtain ⟨rfl, -⟩ := hV
  obtain ⟨rfl, -⟩ := hW
  have hsz := Lib.hid (fun w' (hb : Below w.heap.size w w') => law_szBoolSS vT rows L 0 w.heap.size 1048576 w' (h0.ext hb) (by omega) (by omega))
  have hB0 : ∀ A B : Obj, Below w.heap.size w ((w.alloc A).alloc B) := fun A B => ((Below.refl _ w).alloc (Nat.le_refl _) _).alloc (by simp) _
  have HB0 := Lib.hid hB0
  clear hB0
  have hN1 := (fun tv rows lo hi w h hh => spec_First tv rows L lo hi v x w h hh)
  have hN2 := (fun tv rows lo hi w h hh => impl_First tv rows L lo hi v x w h hh)
  have hU := Lib.hid (fun a c a' c' (h : FirRes L v x a c) (h2 : FirRes L v x a' c') => h.uniq h2)
  have hln := Lib.hid (fun a c (h : FirRes L v x a c) => h.len)
  have hV := fun w => law_toWatch v w
  have hW := fun w => law_toWorld x w
  unfold FirE at hN1 hN2
  generalize hR : FirRes L v x = R at *
  clear hR
  obtain ⟨m, t⟩ := v
  obtain ⟨a, b, sa, sb, ga, gb⟩ := x
  simp only [Wtc.cells, Wld.cells] at *
  have HV := Lib.hid hV
  have HW := Lib.hid hW
  have HN1 := Lib.hid hN1
  have HN2 := Lib.hid hN2
  have H0 := Lib.hid h0
  clear h0 hV hW hN1 hN2
  go_enter Try.func6, Try.ntmps6
  go_wp2_with fail
  refine (hsz.out _ (HB0.out _ _)).mono ?_
  rintro e w1 ⟨rfl, b1⟩
  have B1 : Below w.heap.size w w1 := (HB0.out _ _).trans (b1.mono (by simp <;> omega))
  have q1 := (bcell b1).1
  have za : w.heap.size < w1.heap.size := Nat.lt_of_lt_of_le (by simp <;> omega) b1.size
  have zb : w.heap.size + 1 < w1.heap.size := Nat.lt_of_lt_of_le (by simp <;> omega) b1.size
  have c0 : w1.cell? ⟨w.heap.size, 0, none⟩ = some (.int .i64 m) := by simp [q1, go_sem]
  have c1 : w1.cell? ⟨w.heap.size, 1, none⟩ = some (.int .i64 t) := by simp [q1, go_sem]
  have d0 : w1.cell? ⟨w.heap.size + 1, 0, none⟩ = some (.int .i64 a) := by simp [q1, go_sem]
  have d1 : w1.cell? ⟨w.heap.size + 1, 1, none⟩ = some (.int .i64 b) := by simp [q1, go_sem]
  have d2 : w1.cell? ⟨w.heap.size + 1, 2, none⟩ = some (.int .i64 sa) := by simp [q1, go_sem]
  have d3 : w1.cell? ⟨w.heap.size + 1, 3, none⟩ = some (.int .i64 sb) := by simp [q1, go_sem]
  have d4 : w1.cell? ⟨w.heap.size + 1, 4, none⟩ = some (.int .i64 ga) := by simp [q1, go_sem]
  have d5 : w1.cell? ⟨w.heap.size + 1, 5, none⟩ = some (.int .i64 gb) := by simp [q1, go_sem]
  clear q1 b1
  by_cases hq : (1048576 : Int) < ((L.length + totSS L : Nat) : Int)
  · rw [szRes_lt hq]
    clear hq
    go_wp2
    go_ret
    exact ⟨rfl, B1⟩
  rw [szRes_ge hq]
  have Hn : Hid (L.length + totSS L ≤ 1048576) := Lib.hid (by omega)
  have hge : decide ((1048576 : Int) - ((L.length + totSS L : Nat) : Int) < 0) = false := decide_eq_false (by omega)
  have HT := Lib.hid (fun w' (hb : Below w.heap.size w w') => law_toBoolSS vT rows L 0 w.heap.size w' (H0.out.ext hb) Hn.out)
  clear hq
  generalize ((L.length + totSS L : Nat) : Int) = nn at *
  have z1 : w1.heap.size ≤ w1.heap.size := Nat.le_refl _
  go_wp2_with fail
  go_region_held3 (fun w' => (∀ b' o', b' < w1.heap.size → w'.cell? ⟨b', o', none⟩ = w1.cell? ⟨b', o', none⟩) ∧ Below w1.heap.size w1 w') (first | (refine heldB ?_; go_grown; done))
    (first
      | (go_at_call 25; refine (HT.out _ ?hb).mono ?_; (case hb => go_grown); rintro e w2 ⟨v2, rows2, rfl, s2, b2'⟩; have b2 : Below w1.heap.size w1 w2 := Below.trans (by go_grown) (b2'.mono (by go_size)); have z2 := b2.size; have t2 := Lib.hid s2.r; clear s2)
      | (go_at_call 26; refine (HV.out _).mono ?_; rintro e w3 ⟨rfl, b3'⟩; have b3 : Below w1.heap.size w1 w3 := Below.trans (by go_grown) (b3'.mono (by go_size)); have z3 := b3.size; have d3' : Below w2.heap.size w2 w3 := Below.trans (by go_grown) (b3'.mono (by go_size)); have dz3 := d3'.size)
      | (go_at_call 27; refine (HW.out _).mono ?_; rintro e w4 ⟨rfl, b4'⟩; have b4 : Below w1.heap.size w1 w4 := Below.trans (by go_grown) (b4'.mono (by go_size)); have z4 := b4.size; have d4' : Below w2.heap.size w2 w4 := Below.trans (by go_grown) (b4'.mono (by go_size)); have dz4 := d4'.size)
      | (go_at_call 41; refine (HN1.out _ _ _ _ _ (t2.out.below (B := w2.heap.size) ?hb (Nat.le_refl _)) ?hc).mono ?_; (case hb => go_grown); (case hc => go_size); rintro e w5 ⟨vr, r, rc, rfl, hres1, hrd1, b5'⟩; have b5 : Below w1.heap.size w1 w5 := Below.trans (by go_grown) (b5'.mono (by go_size)); have z5 := b5.size))
  rename_i hHeld
  clear hHeld
  have B5 := Lib.hid (B1.trans (b5.mono B1.size))
  have s5 := Lib.hid hrd1.1
  have Hln := Lib.hid (hln.out _ _ hres1)
  have c0 := (b5.cell (p := ⟨w.heap.size, 0, none⟩) za).trans c0
  have c1 := (b5.cell (p := ⟨w.heap.size, 1, none⟩) za).trans c1
  have d0 := (b5.cell (p := ⟨w.heap.size + 1, 0, none⟩) zb).trans d0
  have d1 := (b5.cell (p := ⟨w.heap.size + 1, 1, none⟩) zb).trans d1
  have d2 := (b5.cell (p := ⟨w.heap.size + 1, 2, none⟩) zb).trans d2
  have d3 := (b5.cell (p := ⟨w.heap.size + 1, 3, none⟩) zb).trans d3
  have d4 := (b5.cell (p := ⟨w.heap.size + 1, 4, none⟩) zb).trans d4
  have d5 := (b5.cell (p := ⟨w.heap.size + 1, 5, none⟩) zb).trans d5
  have za := Nat.lt_of_lt_of_le za b5.size
  have zb := Nat.lt_of_lt_of_le zb b5.size
  have y5a := za
  have y5b := zb
  clear b5 b5' b4' d4' dz4 b3' d3' dz3 b2' b2 b3 b4 z2 z3 z4 z5 t2 hrd1
  go_wp2_with fail
  refine (HT.out w5 B5.out).mono ?_
  rintro e w6 ⟨v6, rows6, rfl, s6, b6⟩
  have B6 := Lib.hid (B5.out.trans (b6.mono B5.out.size))
  have t6 := Lib.hid s6
  have s6 := Lib.hid (s5.out.ext b6)
  have c0 := (b6.cell (p := ⟨w.heap.size, 0, none⟩) za).trans c0
  have c1 := (b6.cell (p := ⟨w.heap.size, 1, none⟩) za).trans c1
  have d0 := (b6.cell (p := ⟨w.heap.size + 1, 0, none⟩) zb).trans d0
  have d1 := (b6.cell (p := ⟨w.heap.size + 1, 1, none⟩) zb).trans d1
  have d2 := (b6.cell (p := ⟨w.heap.size + 1, 2, none⟩) zb).trans d2
  have d3 := (b6.cell (p := ⟨w.heap.size + 1, 3, none⟩) zb).trans d3
  have d4 := (b6.cell (p := ⟨w.heap.size + 1, 4, none⟩) zb).trans d4
  have d5 := (b6.cell (p := ⟨w.heap.size + 1, 5, none⟩) zb).trans d5
  have za := Nat.lt_of_lt_of_le za b6.size
  have zb := Nat.lt_of_lt_of_le zb b6.size
  have hw5 := b6.size
  have z6 : w6.heap.size ≤ w6.heap.size := Nat.le_refl _
  clear b6
  go_wp2_with fail
  go_region_held3 (fun w' => (∀ b' o', b' < w6.heap.size → w'.cell? ⟨b', o', none⟩ = w6.cell? ⟨b', o', none⟩) ∧ Below w6.heap.size w6 w') (first | (refine heldB ?_; go_grown; done))
    (first
      | (go_at_call 26; refine (HV.out _).mono ?_; rintro e w7 ⟨rfl, b7'⟩; have b7 : Below w6.heap.size w6 w7 := Below.trans (by go_grown) (b7'.mono (by go_size)); have z7 := b7.size)
      | (go_at_call 27; refine (HW.out _).mono ?_; rintro e w8 ⟨rfl, b8'⟩; have b8 : Below w6.heap.size w6 w8 := Below.trans (by go_grown) (b8'.mono (by go_size)); have z8 := b8.size)
      | (go_at_call 42; refine (HN2.out _ _ _ _ _ (t6.out.r.below (B := w6.heap.size) ?hb (Nat.le_refl _)) ?hc).mono ?_; (case hb => go_grown); (case hc => go_size); rintro e w9 ⟨vg, rg, gc', rfl, hres2, hrd2, b9'⟩; have b9 : Below w6.heap.size w6 w9 := Below.trans (by go_grown) (b9'.mono (by go_size)); have z9 := b9.size))
  rename_i hHeld
  clear hHeld
  obtain ⟨rfl, rfl⟩ := hU.out _ _ _ _ hres1 hres2
  have B9 := Lib.hid (B6.out.trans (b9.mono B6.out.size))
  have c0 := (b9.cell (p := ⟨w.heap.size, 0, none⟩) za).trans c0
  have c1 := (b9.cell (p := ⟨w.heap.size, 1, none⟩) za).trans c1
  have d0 := (b9.cell (p := ⟨w.heap.size + 1, 0, none⟩) zb).trans d0
  have d1 := (b9.cell (p := ⟨w.heap.size + 1, 1, none⟩) zb).trans d1
  have d2 := (b9.cell (p := ⟨w.heap.size + 1, 2, none⟩) zb).trans d2
  have d3 := (b9.cell (p := ⟨w.heap.size + 1, 3, none⟩) zb).trans d3
  have d4 := (b9.cell (p := ⟨w.heap.size + 1, 4, none⟩) zb).trans d4
  have d5 := (b9.cell (p := ⟨w.heap.size + 1, 5, none⟩) zb).trans d5
  have za := Nat.lt_of_lt_of_le za b9.size
  have zb := Nat.lt_of_lt_of_le zb b9.size
  have hsz5 := B5.out.size
  have hsz9 := b9.size
  have r_w := s6.out.ext b9
  have r_x := t6.out.ext (Nat.le_refl _) b9
  have r_g := hrd2.widen z8 (Nat.le_refl _)
  have HR := Lib.hid hres1
  have hlen := Hln.out
  clear hres2 hres1 hrd2 b9 b9' b8' b7' b7 b8 z7 z8 z9 z6 s6 t6 s5 Hln
  go_wp2_with fail
  refine (law_eqActS _ _ _ _ _ _ _ _ r_g.1 r_w).mono ?_
  rintro e w10 ⟨rfl, b10⟩
  have B10 := B9.out.trans (b10.mono B9.out.size)
  have C10 := Lib.hid (b10.mono (B' := w5.heap.size) (by omega))
  have r_w10 := r_w.ext b10
  have r_x10 := r_x.ext (by omega) b10
  have r_g10 := r_g.ext (by omega) b10
  have z10 := b10.size
  clear b10
  go_wp2_with fail
  refine (HT.out w10 B10).mono ?_
  rintro e w11 ⟨v11, rows11, rfl, s11, b11⟩
  have B11 := B10.trans (b11.mono B10.size)
  have C11 := Lib.hid (C10.out.trans (b11.mono (by omega)))
  have r_w11 := r_w10.ext b11
  have r_x11 := r_x10.ext (by omega) b11
  have r_g11 := r_g10.ext (by omega) b11
  have z11 := b11.size
  clear b11
  go_wp2_with fail
  refine (law_eqBoolSS _ _ _ _ L _ _ _ _ _ r_x11.r s11.r).mono ?_
  rintro e w12 ⟨rfl, b12⟩
  have B12 := B11.trans (b12.mono B11.size)
  have C12 := Lib.hid (C11.out.trans (b12.mono (by omega)))
  have r_w12 := r_w11.ext b12
  have r_x12 := r_x11.ext (by omega) b12
  have r_g12 := r_g11.ext (by omega) b12
  have z12 := b12.size
  clear b12 s11
  go_wp2_with fail
  refine (law_markBoolSS _ _ L _ _ 1 _ r_x12 (by omega) (by omega) (by have := Hn.out; omega)).mono ?_
  rintro e w13 ⟨rfl, -, b13⟩
  have B13 := B12.trans (b13.below (by omega) (by omega))
  have C13 := Lib.hid (C12.out.trans (b13.below (by omega) (by omega)))
  have r_w13 := r_w12.keep (b13.same (by omega) (by omega))
  have r_g13 := r_g12.keep (b13.same (by omega) (by omega))
  have z13 := b13.size
  have hk0 : ((1 + totSS L : Nat) : Int) = (1 + totSS L : Nat) := rfl
  have hk1 : decide (((1 + totSS L : Nat) : Int) < 0) = false := decide_eq_false (by omega)
  clear b13 hk0
  generalize ((1 + totSS L : Nat) : Int) = kk at *
  go_wp2_with fail
  refine (law_eqActS _ _ _ _ _ _ _ _ r_g13.1 r_w13).mono ?_
  rintro e w14 ⟨rfl, b14⟩
  have B14 := B13.trans (b14.mono B13.size)
  have C14 := Lib.hid (C13.out.trans (b14.mono (by omega)))
  have r_w14 := r_w13.ext b14
  have r_g14 := r_g13.ext (by omega) b14
  have z14 := b14.size
  clear b14
  go_wp2_with fail
  refine (law_markActS _ _ _ _ 1 _ r_g14 (by omega) (by omega) (by omega)).mono ?_
  rintro e w15 ⟨rfl, r_g15, b15⟩
  have B15 := B14.trans (b15.below (by omega) (by omega))
  have C15 := Lib.hid (C14.out.trans (b15.below (by omega) (by omega)))
  have r_w15 := r_w14.keep (b15.same (by omega) (by omega))
  have z15 := b15.size
  obtain ⟨mm, hmm⟩ : ∃ mm : Int, ((1 + r.length * 4 : Nat) : Int) = mm := ⟨_, rfl⟩
  have hk2 : decide (mm < 0) = false := decide_eq_false (by omega)
  rw [hmm]
  have Hmm := Lib.hid hmm
  clear b15 hmm
  go_wp2_with fail
  refine (law_heldActS _ _ _ _ 1 _ r_g15.1 (by omega) (by omega)).mono ?_
  rintro e w16 ⟨rfl, b16⟩
  have B16 := B15.trans (b16.mono B15.size)
  have C16 := C15.out.trans (b16.mono (by omega))
  have r_w16 := r_w15.ext b16
  have r_g16 := r_g15.ext (by omega) b16
  have z16 := b16.size
  rw [Hmm.out]
  have za := y5a
  have zb := y5b
  have c0 := (C16.cell (p := ⟨w.heap.size, 0, none⟩) za).trans c0
  have c1 := (C16.cell (p := ⟨w.heap.size, 1, none⟩) za).trans c1
  have d0 := (C16.cell (p := ⟨w.heap.size + 1, 0, none⟩) zb).trans d0
  have d1 := (C16.cell (p := ⟨w.heap.size + 1, 1, none⟩) zb).trans d1
  have d2 := (C16.cell (p := ⟨w.heap.size + 1, 2, none⟩) zb).trans d2
  have d3 := (C16.cell (p := ⟨w.heap.size + 1, 3, none⟩) zb).trans d3
  have d4 := (C16.cell (p := ⟨w.heap.size + 1, 4, none⟩) zb).trans d4
  have d5 := (C16.cell (p := ⟨w.heap.size + 1, 5, none⟩) zb).trans d5
  have za : w.heap.size < w16.heap.size := by omega
  have zb : w.heap.size + 1 < w16.heap.size := by omega
  have HB16 := Lib.hid B16
  have HG := Lib.hid r_g16
  have HW16 := Lib.hid r_w16
  have Hl := Lib.hid hlen
  clear r_w15 r_w14 r_w13 r_w12 r_w11 r_w10 r_w r_g r_g10 r_g11 r_g12 r_g13 r_g14 r_g15 r_g16 r_w16 r_x r_x10 r_x11 r_x12 B10 B11 B12 B13 B14 B15 B16 C10 C11 C12 C13 C14 C15 C16 b16 hlen
  go_wp2_with fail
  have zz : w16.heap.size ≤ w16.heap.size := Nat.le_refl _
  go_region_held3 (fun w' => (∀ b' o', b' < w16.heap.size → w'.cell? ⟨b', o', none⟩ = w16.cell? ⟨b', o', none⟩) ∧ Below w16.heap.size w16 w') (first | (refine heldB ?_; go_grown; done))
    (first
      | (go_at_call 25; refine (HT.out _ ?hb).mono ?_; (case hb => exact HB16.out.trans (Below.mono (B := w16.heap.size) (by go_grown) HB16.out.size)); rintro e w17 ⟨v17, rows17, rfl, s17, b17'⟩; have b17 : Below w16.heap.size w16 w17 := Below.trans (by go_grown) (b17'.mono (by go_size)); have z17 := b17.size; have t17 := Lib.hid s17.r; clear s17)
      | (go_at_call 26; refine (HV.out _).mono ?_; rintro e w18 ⟨rfl, b18'⟩; have b18 : Below w16.heap.size w16 w18 := Below.trans (by go_grown) (b18'.mono (by go_size)); have z18 := b18.size; have d18' : Below w17.heap.size w17 w18 := Below.trans (by go_grown) (b18'.mono (by go_size)); have dz18 := d18'.size)
      | (go_at_call 27; refine (HW.out _).mono ?_; rintro e w19 ⟨rfl, b19'⟩; have b19 : Below w16.heap.size w16 w19 := Below.trans (by go_grown) (b19'.mono (by go_size)); have z19 := b19.size; have d19' : Below w17.heap.size w17 w19 := Below.trans (by go_grown) (b19'.mono (by go_size)); have dz19 := d19'.size)
      | (go_at_call 42; refine (HN2.out _ _ _ _ _ (t17.out.below (B := w17.heap.size) ?hb (Nat.le_refl _)) ?hc).mono ?_; (case hb => go_grown); (case hc => go_size); rintro e w20 ⟨vh, rh, hc', rfl, hres3, hrd3, b20'⟩; have b20 : Below w16.heap.size w16 w20 := Below.trans (by go_grown) (b20'.mono (by go_size)); have z20 := b20.size))
  rename_i hHeld
  clear hHeld
  obtain ⟨rfl, rfl⟩ := hU.out _ _ _ _ HR.out hres3
  have B20 := HB16.out.trans (b20.mono HB16.out.size)
  have r_w20 := HW16.out.ext b20
  have r_g20 := HG.out.ext (by omega) b20
  have hlen := Hl.out
  clear b20' b20 b19' d19' dz19 b18' d18' dz18 b17' b17 b18 b19 z17 z18 z19 t17 hres3
  go_wp2_with fail
  refine (law_eqActS _ _ _ _ _ _ _ _ hrd3.1 r_w20).mono ?_
  rintro e w21 ⟨rfl, b21⟩
  have B21 := B20.trans (b21.mono B20.size)
  have r_g21 := r_g20.ext (by omega) b21
  go_wp2_with fail
  refine (law_heldActS _ _ _ _ 1 _ r_g21.1 (by omega) (by omega)).mono ?_
  rintro e w22 ⟨rfl, b22⟩
  rw [Hmm.out]
  have B22 := B21.trans (b22.mono B21.size)
  go_wp2
  go_ret
  exact ⟨rfl, B22⟩
end Go.Proofs.Yteakogdojmgehaa
