/- The law FnExactNewDesk. (Printed by gen_desk.py.) -/
import Derived.Test.YtimggihbldeleaaTDesk
import Derived.Test.YtimggihbldeleaaLawS
namespace Go.Proofs.Ytimggihbldeleaa
open Go.RowKit
theorem tot_new : totC newSite = 20 := rfl
set_option maxRecDepth 100000 in
set_option maxHeartbeats 8000000 in
theorem law_NewDesk (w : World) : Calls Try.prog 3 #[] w fun e w' => e = .returned (.bool true) ∧ Below w.heap.size w w' := by
  go_enter Try.func3, Try.ntmps3
  go_wp2_with fail
  have hw0 : w.heap.size ≤ w.heap.size := Nat.le_refl _
  refine (spec_NewDesk _).mono ?_
  rintro e w1 ⟨⟨aW, lW, cW⟩, rsW, pW, qW, dW, rfl, hS, hD, hapW, hpW, hdW, hqW, heW, f1⟩
  simp only [SV.v] at hS ⊢
  have SW1 := Lib.hid hS
  have DW1 := Lib.hid hD
  clear hS hD
  have B1 := f1
  have z1 := f1.size
  obtain ⟨U, hU, eU, gU, zU⟩ := dbx1 w1 (.cells #[.slice aW lW cW, .slice none 0 0, .int .i64 3, .int .i64 8, .int .i64 6, .int .i64 30, .slice (some ⟨dW, 0, none⟩) 2 2] 30 (0, 0))
  have HU := Lib.hid hU
  have B1 := Lib.hid (B1.trans (gU.mono z1))
  have SWU := Lib.hid (SW1.out.ext hqW gU)
  have DWU := Lib.hid (DW1.out.ext heW gU)
  clear hU SW1 DW1 gU f1
  go_wp2_with fail
  rw [HU.out]
  refine (impl_NewDesk _).mono ?_
  rintro e w2 ⟨⟨aG, lG, cG⟩, rsG, pG, qG, dG, rfl, hS, hD, hapG, hpG, hdG, hqG, heG, f2⟩
  simp only [SV.v] at hS ⊢
  have SG2 := Lib.hid hS
  have DG2 := Lib.hid hD
  clear hS hD
  have z2 := f2.size
  have B2 := Lib.hid (B1.out.trans (f2.mono (by omega)))
  have SW2 := Lib.hid (SWU.out.ext (by omega) f2)
  have DW2 := Lib.hid (DWU.out.ext (by omega) f2)
  have eW2 := blkN_below f2 eU
  clear f2 SWU DWU eU B1
  obtain ⟨V, hV, eV, gV, zV⟩ := dbx1 w2 (.cells #[.slice aG lG cG, .slice none 0 0, .int .i64 3, .int .i64 8, .int .i64 6, .int .i64 30, .slice (some ⟨dG, 0, none⟩) 2 2] 30 (0, 0))
  have HV := Lib.hid hV
  have BV := Lib.hid (B2.out.trans (gV.mono (by omega)))
  have SWV := Lib.hid (SW2.out.ext (by omega) gV)
  have DWV := Lib.hid (DW2.out.ext (by omega) gV)
  have SGV := Lib.hid (SG2.out.ext hqG gV)
  have DGV := Lib.hid (DG2.out.ext heG gV)
  have eWV := blkN_below gV eW2
  clear hV gV SW2 DW2 SG2 DG2 B2
  have kW0 : w2.cell? ⟨w1.heap.size, 0, none⟩ = some (.slice aW lW cW) := by rw [Lib.cell_of_heap eW2]; rfl
  have kW1 : w2.cell? ⟨w1.heap.size, 1, none⟩ = some (.slice none 0 0) := by rw [Lib.cell_of_heap eW2]; rfl
  have kW2 : w2.cell? ⟨w1.heap.size, 2, none⟩ = some (.int .i64 3) := by rw [Lib.cell_of_heap eW2]; rfl
  have kW3 : w2.cell? ⟨w1.heap.size, 3, none⟩ = some (.int .i64 8) := by rw [Lib.cell_of_heap eW2]; rfl
  have kW4 : w2.cell? ⟨w1.heap.size, 4, none⟩ = some (.int .i64 6) := by rw [Lib.cell_of_heap eW2]; rfl
  have kW5 : w2.cell? ⟨w1.heap.size, 5, none⟩ = some (.int .i64 30) := by rw [Lib.cell_of_heap eW2]; rfl
  have kW6 : w2.cell? ⟨w1.heap.size, 6, none⟩ = some (.slice (some ⟨dW, 0, none⟩) 2 2) := by rw [Lib.cell_of_heap eW2]; rfl
  have hWl : w1.heap.size < w2.heap.size := World.block_lt_of_cell? w2 _ kW0
  clear eW2
  go_wp2_with fail
  rw [HV.out]
  refine (law_eqDesk _ _ newSite newDirs _ _ _ _ _ _ _ _ V SGV.out.r SWV.out.r DGV.out.1 DWV.out.1).mono ?_
  rintro e w3 ⟨rfl, f3⟩
  have eGV := eV
  have z3 := f3.size
  have B3 := Lib.hid (BV.out.trans (f3.mono (by omega)))
  have SW3 := Lib.hid (SWV.out.ext (by omega) f3)
  have DW3 := Lib.hid (DWV.out.ext (by omega) f3)
  have SG3 := Lib.hid (SGV.out.ext (by omega) f3)
  have DG3 := Lib.hid (DGV.out.ext (by omega) f3)
  have eW3 := blkN_below f3 eWV
  have eG3 := blkN_below f3 eGV
  clear f3 SWV DWV SGV DGV BV eWV eGV eV
  clear kW0 kW1 kW2 kW3 kW4 kW5 kW6
  have kG0 : w3.cell? ⟨w2.heap.size, 0, none⟩ = some (.slice aG lG cG) := by rw [Lib.cell_of_heap eG3]; rfl
  have kG1 : w3.cell? ⟨w2.heap.size, 1, none⟩ = some (.slice none 0 0) := by rw [Lib.cell_of_heap eG3]; rfl
  have kG2 : w3.cell? ⟨w2.heap.size, 2, none⟩ = some (.int .i64 3) := by rw [Lib.cell_of_heap eG3]; rfl
  have kG3 : w3.cell? ⟨w2.heap.size, 3, none⟩ = some (.int .i64 8) := by rw [Lib.cell_of_heap eG3]; rfl
  have kG4 : w3.cell? ⟨w2.heap.size, 4, none⟩ = some (.int .i64 6) := by rw [Lib.cell_of_heap eG3]; rfl
  have kG5 : w3.cell? ⟨w2.heap.size, 5, none⟩ = some (.int .i64 30) := by rw [Lib.cell_of_heap eG3]; rfl
  have kG6 : w3.cell? ⟨w2.heap.size, 6, none⟩ = some (.slice (some ⟨dG, 0, none⟩) 2 2) := by rw [Lib.cell_of_heap eG3]; rfl
  go_wp2_with fail
  refine (law_markDesk _ newSite newDirs pG qG dG 1 U.heap.size w2.heap.size w3 SG3.out DG3.out hapG (by omega) (by omega) ⟨hpG, hdG⟩ ⟨hqG, heG⟩ (by omega) (by rw [tot_new]; decide)).mono ?_
  rintro e w4 ⟨rsM, rfl, hS, hD, m4⟩
  have z4 := m4.size
  have B4 := Lib.hid (B3.out.trans (m4.below (by omega) (by omega)))
  have SG4 := Lib.hid hS
  have DG4 := Lib.hid hD
  have SW4 := Lib.hid (SW3.out.keep (m4.same (by omega) (by omega)))
  have DW4 := Lib.hid (DW3.out.keep (m4.same (by omega) (by omega)))
  have eW4 := (m4.block _ (by omega) (by omega)).trans eW3
  have eG4 := (m4.block _ (by omega) (by omega)).trans eG3
  clear hS hD m4 SG3 DG3 SW3 DW3 eW3 eG3 B3
  clear kG0 kG1 kG2 kG3 kG4 kG5 kG6
  have kG0 : w4.cell? ⟨w2.heap.size, 0, none⟩ = some (.slice aG lG cG) := by rw [Lib.cell_of_heap eG4]; rfl
  have kG1 : w4.cell? ⟨w2.heap.size, 1, none⟩ = some (.slice none 0 0) := by rw [Lib.cell_of_heap eG4]; rfl
  have kG2 : w4.cell? ⟨w2.heap.size, 2, none⟩ = some (.int .i64 3) := by rw [Lib.cell_of_heap eG4]; rfl
  have kG3 : w4.cell? ⟨w2.heap.size, 3, none⟩ = some (.int .i64 8) := by rw [Lib.cell_of_heap eG4]; rfl
  have kG4 : w4.cell? ⟨w2.heap.size, 4, none⟩ = some (.int .i64 6) := by rw [Lib.cell_of_heap eG4]; rfl
  have kG5 : w4.cell? ⟨w2.heap.size, 5, none⟩ = some (.int .i64 30) := by rw [Lib.cell_of_heap eG4]; rfl
  have kG6 : w4.cell? ⟨w2.heap.size, 6, none⟩ = some (.slice (some ⟨dG, 0, none⟩) 2 2) := by rw [Lib.cell_of_heap eG4]; rfl
  have hK : (1 + 20 + newDirs.length : Nat) = 23 := rfl
  rw [tot_new, hK]
  go_wp2_with fail
  refine (law_heldDesk _ newSite newDirs.length _ _ _ _ 1 w4 SG4.out.r DG4.out.1 (by omega) (by rw [tot_new]; decide)).mono ?_
  rintro e w5 ⟨rfl, f5⟩
  rw [tot_new, hK]
  have eGx := eG4
  have z5 := f5.size
  have B5 := Lib.hid (B4.out.trans (f5.mono (by omega)))
  have SW5 := Lib.hid (SW4.out.ext (by omega) f5)
  have DW5 := Lib.hid (DW4.out.ext (by omega) f5)
  have SG5 := Lib.hid (SG4.out.ext (by omega) f5)
  have DG5 := Lib.hid (DG4.out.ext (by omega) f5)
  have eW5 := blkN_below f5 eW4
  have eG5 := blkN_below f5 eG4
  clear f5 SW4 DW4 SG4 DG4 B4 eW4 eG4 eGx
  clear kG0 kG1 kG2 kG3 kG4 kG5 kG6
  go_wp2_with fail
  refine (impl_NewDesk _).mono ?_
  rintro e w6 ⟨⟨aH, lH, cH⟩, rsH, pH, qH, dH, rfl, hS, hD, hapH, hpH, hdH, hqH, heH, f6⟩
  simp only [SV.v] at hS ⊢
  have SH6 := Lib.hid hS
  have DH6 := Lib.hid hD
  clear hS hD
  have z6 := f6.size
  have B6 := Lib.hid (B5.out.trans (f6.mono (by omega)))
  have SW6 := Lib.hid (SW5.out.ext (by omega) f6)
  have DW6 := Lib.hid (DW5.out.ext (by omega) f6)
  have SG6 := Lib.hid (SG5.out.ext (by omega) f6)
  have DG6 := Lib.hid (DG5.out.ext (by omega) f6)
  have eW6 := blkN_below f6 eW5
  have eG6 := blkN_below f6 eG5
  clear f6 SW5 DW5 SG5 DG5 B5 eW5 eG5
  obtain ⟨X, hX, eX, fX, zX⟩ := dbx1 w6 (.cells #[.slice aH lH cH, .slice none 0 0, .int .i64 3, .int .i64 8, .int .i64 6, .int .i64 30, .slice (some ⟨dH, 0, none⟩) 2 2] 30 (0, 0))
  have HX := Lib.hid hX
  have SH := Lib.hid (SH6.out.ext hqH fX)
  have DH := Lib.hid (DH6.out.ext heH fX)
  have SWX := Lib.hid (SW6.out.ext (by omega) fX)
  have DWX := Lib.hid (DW6.out.ext (by omega) fX)
  have SGX := Lib.hid (SG6.out.ext (by omega) fX)
  have DGX := Lib.hid (DG6.out.ext (by omega) fX)
  have eWX := blkN_below fX eW6
  have eGX := blkN_below fX eG6
  have BX := Lib.hid (B6.out.trans (fX.mono (by omega)))
  clear hX SW6 DW6 SG6 DG6 SH6 DH6 eG6 B6 fX
  have kW0 : w6.cell? ⟨w1.heap.size, 0, none⟩ = some (.slice aW lW cW) := by rw [Lib.cell_of_heap eW6]; rfl
  have kW1 : w6.cell? ⟨w1.heap.size, 1, none⟩ = some (.slice none 0 0) := by rw [Lib.cell_of_heap eW6]; rfl
  have kW2 : w6.cell? ⟨w1.heap.size, 2, none⟩ = some (.int .i64 3) := by rw [Lib.cell_of_heap eW6]; rfl
  have kW3 : w6.cell? ⟨w1.heap.size, 3, none⟩ = some (.int .i64 8) := by rw [Lib.cell_of_heap eW6]; rfl
  have kW4 : w6.cell? ⟨w1.heap.size, 4, none⟩ = some (.int .i64 6) := by rw [Lib.cell_of_heap eW6]; rfl
  have kW5 : w6.cell? ⟨w1.heap.size, 5, none⟩ = some (.int .i64 30) := by rw [Lib.cell_of_heap eW6]; rfl
  have kW6 : w6.cell? ⟨w1.heap.size, 6, none⟩ = some (.slice (some ⟨dW, 0, none⟩) 2 2) := by rw [Lib.cell_of_heap eW6]; rfl
  have hWl6 : w1.heap.size < w6.heap.size := World.block_lt_of_cell? w6 _ kW0
  clear eW6
  go_wp2_with fail
  rw [HX.out]
  refine (law_eqDesk _ _ newSite newDirs _ _ _ _ _ _ _ _ X SH.out.r SWX.out.r DH.out.1 DWX.out.1).mono ?_
  rintro e w7 ⟨rfl, f7⟩
  have z7 := f7.size
  have B7 := Lib.hid (BX.out.trans (f7.mono (by omega)))
  have SW7 := Lib.hid (SWX.out.ext (by omega) f7)
  have DW7 := Lib.hid (DWX.out.ext (by omega) f7)
  have SG7 := Lib.hid (SGX.out.ext (by omega) f7)
  have DG7 := Lib.hid (DGX.out.ext (by omega) f7)
  have eW7 := blkN_below f7 eWX
  have eG7 := blkN_below f7 eGX
  clear f7 SWX DWX SGX DGX BX eWX eGX eX
  clear kW0 kW1 kW2 kW3 kW4 kW5 kW6
  have kG0 : w7.cell? ⟨w2.heap.size, 0, none⟩ = some (.slice aG lG cG) := by rw [Lib.cell_of_heap eG7]; rfl
  have kG1 : w7.cell? ⟨w2.heap.size, 1, none⟩ = some (.slice none 0 0) := by rw [Lib.cell_of_heap eG7]; rfl
  have kG2 : w7.cell? ⟨w2.heap.size, 2, none⟩ = some (.int .i64 3) := by rw [Lib.cell_of_heap eG7]; rfl
  have kG3 : w7.cell? ⟨w2.heap.size, 3, none⟩ = some (.int .i64 8) := by rw [Lib.cell_of_heap eG7]; rfl
  have kG4 : w7.cell? ⟨w2.heap.size, 4, none⟩ = some (.int .i64 6) := by rw [Lib.cell_of_heap eG7]; rfl
  have kG5 : w7.cell? ⟨w2.heap.size, 5, none⟩ = some (.int .i64 30) := by rw [Lib.cell_of_heap eG7]; rfl
  have kG6 : w7.cell? ⟨w2.heap.size, 6, none⟩ = some (.slice (some ⟨dG, 0, none⟩) 2 2) := by rw [Lib.cell_of_heap eG7]; rfl
  go_wp2_with fail
  refine (law_heldDesk _ newSite newDirs.length _ _ _ _ 1 w7 SG7.out.r DG7.out.1 (by omega) (by rw [tot_new]; decide)).mono ?_
  rintro e w8 ⟨rfl, f8⟩
  rw [tot_new, hK]
  have B8 := B7.out.trans (f8.mono (by omega))
  go_wp2
  go_ret
  exact ⟨rfl, B8⟩
end Go.Proofs.Ytimggihbldeleaa
