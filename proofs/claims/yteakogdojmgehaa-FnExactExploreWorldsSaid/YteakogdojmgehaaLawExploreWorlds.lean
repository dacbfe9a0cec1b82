/- The law FnExactExploreWorlds. -/
import Derived.Test.YteakogdojmgehaaExY
import Derived.Test.YteakogdojmgehaaOpenB
import Derived.Test.YteakogdojmgehaaLawS
import Derived.Handy
namespace Go.Proofs.Yteakogdojmgehaa
open Go.RowKit

set_option maxRecDepth 100000 in
set_option maxHeartbeats 8000000 in
theorem law_ExploreWorlds {vT vV vW : Value} (L : List (List Bool)) (v : Wtc) (x : Wld) (w : World) (hL : ∃ rows, SSr 1 boolCells 0 w.heap.size w vT rows L) (hV : vV = .agg v.cells.toArray ∧ v.wf) (hW : vW = .agg x.cells.toArray ∧ x.wf) :
    Calls Try.prog 4 #[vT, vV, vW] w fun e w' => e = .returned (.bool true) ∧ Below w.heap.size w w' := by
  obtain ⟨rows, h0⟩ := hL
  obtain ⟨rfl, -⟩ := hV
  obtain ⟨rfl, -⟩ := hW
  have hsz := Lib.hid (fun w' (hb : Below w.heap.size w w') => law_szBoolSS vT rows L 0 w.heap.size 1048576 w' (h0.ext hb) (by omega) (by omega))
  have hB0 : ∀ A B : Obj, Below w.heap.size w ((w.alloc A).alloc B) := fun A B => ((Below.refl _ w).alloc (Nat.le_refl _) _).alloc (by simp) _
  have HB0 := Lib.hid hB0
  clear hB0
  have hN1 := (fun tv rows lo hi w h hh => spec_Explore tv rows L lo hi v x w h hh)
  have hN2 := (fun tv rows lo hi w h hh => impl_Explore tv rows L lo hi v x w h hh)
  have hU := Lib.hid (fun a b c a' b' c' (h : ExpRes L v x a b c) (h2 : ExpRes L v x a' b' c') => h.uniq h2)
  have hV := fun w => law_toWatch v w
  have hW := fun w => law_toWorld x w
  generalize hR : ExpRes L v x = R at *
  clear hR
  obtain ⟨m, t⟩ := v
  obtain ⟨a, b, sa, sb, ga, gb⟩ := x
  simp only [Wtc.cells, Wld.cells] at *
  have HV := Lib.hid hV
  have HW := Lib.hid hW
  have HN1 := Lib.hid hN1
  have HN2 := Lib.hid hN2
  have H0 := Lib.hid h0
  clear h0 hV hW hN1 hN2
  go_enter Try.func4, Try.ntmps4
  go_wp2_with fail
  refine (hsz.out _ (HB0.out _ _)).mono ?_
  rintro e w1 ⟨rfl, b1⟩
  have B1 : Below w.heap.size w w1 := (HB0.out _ _).trans (b1.mono (by simp <;> omega))
  have q1 := (bcell b1).1
  have za1 : w.heap.size < w1.heap.size := Nat.lt_of_lt_of_le (by simp <;> omega) b1.size
  have zb1 : w.heap.size + 1 < w1.heap.size := Nat.lt_of_lt_of_le (by simp <;> omega) b1.size
  have c0 : w1.cell? ⟨w.heap.size, 0, none⟩ = some (.int .i64 m) := by simp [q1, go_sem]
  have c1 : w1.cell? ⟨w.heap.size, 1, none⟩ = some (.int .i64 t) := by simp [q1, go_sem]
  have d0 : w1.cell? ⟨w.heap.size + 1, 0, none⟩ = some (.int .i64 a) := by simp [q1, go_sem]
  have d1 : w1.cell? ⟨w.heap.size + 1, 1, none⟩ = some (.int .i64 b) := by simp [q1, go_sem]
  have d2 : w1.cell? ⟨w.heap.size + 1, 2, none⟩ = some (.int .i64 sa) := by simp [q1, go_sem]
  have d3 : w1.cell? ⟨w.heap.size + 1, 3, none⟩ = some (.int .i64 sb) := by simp [q1, go_sem]
  have d4 : w1.cell? ⟨w.heap.size + 1, 4, none⟩ = some (.int .i64 ga) := by simp [q1, go_sem]
  have d5 : w1.cell? ⟨w.heap.size + 1, 5, none⟩ = some (.int .i64 gb) := by simp [q1, go_sem]
  clear q1 b1
  by_cases hq : (1048576 : Int) < ((L.length + totSS L : Nat) : Int)
  · rw [szRes_lt hq]
    clear hq
    go_wp2
    go_ret
    exact ⟨rfl, B1⟩
  rw [szRes_ge hq]
  have Hn : Hid (L.length + totSS L ≤ 1048576) := Lib.hid (by omega)
  have hge : decide ((1048576 : Int) - ((L.length + totSS L : Nat) : Int) < 0) = false := decide_eq_false (by omega)
  have HT := Lib.hid (fun w' (hb : Below w.heap.size w w') => law_toBoolSS vT rows L 0 w.heap.size w' (H0.out.ext hb) Hn.out)
  clear hq
  generalize ((L.length + totSS L : Nat) : Int) = nn at *
  have z1 : w1.heap.size ≤ w1.heap.size := Nat.le_refl _
  go_wp2_with fail
  go_region_held3 (fun w' => (∀ b' o', b' < w1.heap.size → w'.cell? ⟨b', o', none⟩ = w1.cell? ⟨b', o', none⟩) ∧ Below w1.heap.size w1 w') (first | (refine heldB ?_; go_grown; done))
    (first
      | (go_at_call 25; refine (HT.out _ ?hb).mono ?_; (case hb => go_grown); rintro e w2 ⟨v2, rows2, rfl, s2, b2'⟩; have b2 : Below w1.heap.size w1 w2 := Below.trans (by go_grown) (b2'.mono (by go_size)); have z2 := b2.size; have t2 := Lib.hid s2.r; clear s2)
      | (go_at_call 26; refine (HV.out _).mono ?_; rintro e w3 ⟨rfl, b3'⟩; have b3 : Below w1.heap.size w1 w3 := Below.trans (by go_grown) (b3'.mono (by go_size)); have z3 := b3.size; have d3' : Below w2.heap.size w2 w3 := Below.trans (by go_grown) (b3'.mono (by go_size)); have dz3 := d3'.size)
      | (go_at_call 27; refine (HW.out _).mono ?_; rintro e w4 ⟨rfl, b4'⟩; have b4 : Below w1.heap.size w1 w4 := Below.trans (by go_grown) (b4'.mono (by go_size)); have z4 := b4.size; have d4' : Below w2.heap.size w2 w4 := Below.trans (by go_grown) (b4'.mono (by go_size)); have dz4 := d4'.size)
      | (go_at_call 24; refine (HN1.out _ _ _ _ _ (t2.out.below (B := w2.heap.size) ?hb (Nat.le_refl _)) ?hc).mono ?_; (case hb => go_grown); (case hc => go_size); rintro e w5 ⟨ra, rb, rc, rfl, hres1, b5'⟩; have b5 : Below w1.heap.size w1 w5 := Below.trans (by go_grown) (b5'.mono (by go_size)); have z5 := b5.size))
  rename_i hHeld
  clear hHeld
  have B5 := Lib.hid (B1.trans (b5.mono B1.size))
  have c0 := (b5.cell (p := ⟨w.heap.size, 0, none⟩) za1).trans c0
  have c1 := (b5.cell (p := ⟨w.heap.size, 1, none⟩) za1).trans c1
  have d0 := (b5.cell (p := ⟨w.heap.size + 1, 0, none⟩) zb1).trans d0
  have d1 := (b5.cell (p := ⟨w.heap.size + 1, 1, none⟩) zb1).trans d1
  have d2 := (b5.cell (p := ⟨w.heap.size + 1, 2, none⟩) zb1).trans d2
  have d3 := (b5.cell (p := ⟨w.heap.size + 1, 3, none⟩) zb1).trans d3
  have d4 := (b5.cell (p := ⟨w.heap.size + 1, 4, none⟩) zb1).trans d4
  have d5 := (b5.cell (p := ⟨w.heap.size + 1, 5, none⟩) zb1).trans d5
  have za5 := Nat.lt_of_lt_of_le za1 b5.size
  have zb5 := Nat.lt_of_lt_of_le zb1 b5.size
  clear b5 b5' b4' d4' dz4 b3' d3' dz3 b2' b2 b3 b4 z2 z3 z4 z5 t2
  go_wp2_with fail
  refine (HT.out w5 B5.out).mono ?_
  rintro e w6 ⟨v6, rows6, rfl, s6, b6⟩
  have B6 := Lib.hid (B5.out.trans (b6.mono B5.out.size))
  have t6 := Lib.hid s6.r
  have c0 := (b6.cell (p := ⟨w.heap.size, 0, none⟩) za5).trans c0
  have c1 := (b6.cell (p := ⟨w.heap.size, 1, none⟩) za5).trans c1
  have d0 := (b6.cell (p := ⟨w.heap.size + 1, 0, none⟩) zb5).trans d0
  have d1 := (b6.cell (p := ⟨w.heap.size + 1, 1, none⟩) zb5).trans d1
  have d2 := (b6.cell (p := ⟨w.heap.size + 1, 2, none⟩) zb5).trans d2
  have d3 := (b6.cell (p := ⟨w.heap.size + 1, 3, none⟩) zb5).trans d3
  have d4 := (b6.cell (p := ⟨w.heap.size + 1, 4, none⟩) zb5).trans d4
  have d5 := (b6.cell (p := ⟨w.heap.size + 1, 5, none⟩) zb5).trans d5
  have za6 := Nat.lt_of_lt_of_le za5 b6.size
  have zb6 := Nat.lt_of_lt_of_le zb5 b6.size
  have z6 : w6.heap.size ≤ w6.heap.size := Nat.le_refl _
  clear s6 b6
  go_wp2_with fail
  go_region_held3 (fun w' => (∀ b' o', b' < w6.heap.size → w'.cell? ⟨b', o', none⟩ = w6.cell? ⟨b', o', none⟩) ∧ Below w6.heap.size w6 w') (first | (refine heldB ?_; go_grown; done))
    (first
      | (go_at_call 26; refine (HV.out _).mono ?_; rintro e w7 ⟨rfl, b7'⟩; have b7 : Below w6.heap.size w6 w7 := Below.trans (by go_grown) (b7'.mono (by go_size)); have z7 := b7.size)
      | (go_at_call 27; refine (HW.out _).mono ?_; rintro e w8 ⟨rfl, b8'⟩; have b8 : Below w6.heap.size w6 w8 := Below.trans (by go_grown) (b8'.mono (by go_size)); have z8 := b8.size)
      | (go_at_call 28; refine (HN2.out _ _ _ _ _ (t6.out.below (B := w6.heap.size) ?hb (Nat.le_refl _)) ?hc).mono ?_; (case hb => go_grown); (case hc => go_size); rintro e w9 ⟨ga', gb', gc', rfl, hres2, b9'⟩; have b9 : Below w6.heap.size w6 w9 := Below.trans (by go_grown) (b9'.mono (by go_size)); have z9 := b9.size))
  rename_i hHeld
  clear hHeld
  obtain ⟨rfl, rfl, rfl⟩ := hU.out _ _ _ _ _ _ hres2 hres1
  have B9 := Lib.hid (B6.out.trans (b9.mono B6.out.size))
  have t9 := Lib.hid (t6.out.below (B := w6.heap.size) b9 (Nat.le_refl _))
  clear b9 b9' b8' b8 b7' b7 z9 z8 z7 c0 c1 d0 d1 d2 d3 d4 d5 hres1 hres2 t6
  go_wp2_with fail
  refine (HT.out w9 B9.out).mono ?_
  rintro e w10 ⟨v10, rows10, rfl, s10, b10⟩
  have B10 := Lib.hid (B9.out.trans (b10.mono B9.out.size))
  have t10 := Lib.hid s10.r
  have t9' := Lib.hid (t9.out.ext b10)
  clear s10 b10
  go_wp2_with fail
  refine (law_eqBoolSS _ _ _ _ L _ _ _ _ _ t9'.out t10.out).mono ?_
  rintro e w11 ⟨rfl, b11⟩
  have B11 := Lib.hid (B10.out.trans (b11.mono B10.out.size))
  clear b11
  go_wp2
  go_ret
  exact ⟨rfl, B11.out⟩
end Go.Proofs.Yteakogdojmgehaa
