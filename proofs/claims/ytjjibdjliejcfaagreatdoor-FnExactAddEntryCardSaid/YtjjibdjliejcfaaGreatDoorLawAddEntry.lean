/- The law FnExactAddEntry. -/
import Derived.Test.YtjjibdjliejcfaaGreatDoorLgAE
import Derived.Test.YtjjibdjliejcfaaGreatDoorLawS
namespace Go.Proofs.YtjjibdjliejcfaaGreatDoor
open Go.RowKit
theorem str_refl (s : ByteArray) : (s.toList == s.toList) = true := by simp
set_option maxRecDepth 100000 in
set_option maxHeartbeats 4000000 in
theorem law_AddEntry {vaList vaE : Value} (aList : List Sgn) (aLog : ByteArray) (aE : Ent) (w : World) (haList : Sgns 0 w.heap.size w vaList aList ∧ ∀ x ∈ aList, x.wf) (_haLog : aLog.size ≤ maxLen) (haE : vaE = .agg aE.cells.toArray ∧ aE.wf) (hm : ML w) (h10 : P10 w) (hev : EV w) (hhd : HD w) :
    Calls Tryz.prog 7 #[vaList, .string aLog, vaE] w fun e w' => e = .returned (.bool true) ∧ Below w.heap.size w w' := by
  obtain ⟨r0, hwl⟩ := haList
  obtain ⟨rfl, hwe⟩ := haE
  have hb0 : Below w.heap.size w (w.alloc (.cells #[.int .i64 aE.second, .string aE.who, .string aE.what] 44)) := (Below.refl _ _).alloc (Nat.le_refl _) _
  have hx0 := blkN_new w (.cells #[.int .i64 aE.second, .string aE.who, .string aE.what] 44)
  have Hm := Lib.hid hm
  have H10 := Lib.hid h10
  have Hev := Lib.hid hev
  have Hhd := Lib.hid hhd
  clear hm h10 hev hhd
  have HE := Lib.hid (law_toEntry aE)
  have HZ := Lib.hid (fun n w => law_szEntry aE n w hwe)
  have hS := Lib.hid (fun v lo hi w h hs => spec_AddEntry v aList lo hi aLog aE w h hwl hs hwe)
  have hI := Lib.hid (fun v lo hi w h hhi hs a b c d => impl_AddEntry v aList lo hi aLog aE w h hhi hwl hs hwe a b c d)
  have hcost : 0 ≤ aE.cost := by unfold Ent.cost; omega
  have rr := r0.ext hb0
  obtain ⟨w0, hw0⟩ : ∃ w0, w.alloc (.cells #[.int .i64 aE.second, .string aE.who, .string aE.what] 44) = w0 := ⟨_, rfl⟩
  rw [hw0] at hb0 hx0 rr
  have HW0 := Lib.hid hw0
  have Hx := Lib.hid hx0
  have B0 := hb0
  have z0 := hb0.size
  clear hw0 hx0 hb0 r0
  simp only [Ent.cells] at HE HZ hS hI ⊢
  by_cases hbig : 1048576 < aLog.size
  · have hb : decide ((1048576 : Int) < (aLog.size : Int)) = true := decide_eq_true (by omega)
    go_enter Tryz.func7, Tryz.ntmps7
    go_wp2
    rw [HW0.out]
    go_ret
    exact ⟨rfl, B0⟩
  have hb : decide ((1048576 : Int) < (aLog.size : Int)) = false := decide_eq_false (by omega)
  have hsz : aLog.size ≤ 1048576 := by omega
  go_enter Tryz.func7, Tryz.ntmps7
  go_wp2_with fail
  rw [HW0.out]
  refine (law_szSignerS _ aList _ _ _ _ rr hwl (by omega) (by omega)).mono ?_
  rintro e w1 ⟨rfl, b1⟩
  have B1 := B0.trans (b1.mono z0)
  have z1 := (b1).size
  have r1 := (rr).ext b1
  have hbx := (Below.block b1 w.heap.size (Array.getElem?_eq_some_iff.1 Hx.out).1).trans Hx.out
  have d0 : w1.cell? ⟨w.heap.size, 0, none⟩ = some (.int .i64 aE.second) := (Lib.cell_of_heap hbx 0).trans rfl
  have d1 : w1.cell? ⟨w.heap.size, 1, none⟩ = some (.string aE.who) := (Lib.cell_of_heap hbx 1).trans rfl
  have d2 : w1.cell? ⟨w.heap.size, 2, none⟩ = some (.string aE.what) := (Lib.cell_of_heap hbx 2).trans rfl
  have dl := (Array.getElem?_eq_some_iff.1 hbx).1
  clear hbx
  by_cases q1 : 1048576 < szSgn aList
  · rw [szRes_lt q1]
    go_wp2
    go_ret
    exact ⟨rfl, B1⟩
  rw [szRes_ge q1]
  have l_aList := szSgn_len aList
  go_wp2_with fail
  refine (HZ.out _ _ (by omega) (by omega)).mono ?_
  rintro e w2 ⟨rfl, b2⟩
  have B2 := B1.trans (b2.mono (by omega))
  have z2 := (b2).size
  have r2 := (r1).ext b2
  have b02 := b1.trans (b2.mono z1)
  clear d0 d1 d2 dl
  have hbx := (Below.block b02 w.heap.size (Array.getElem?_eq_some_iff.1 Hx.out).1).trans Hx.out
  have d0 : w2.cell? ⟨w.heap.size, 0, none⟩ = some (.int .i64 aE.second) := (Lib.cell_of_heap hbx 0).trans rfl
  have d1 : w2.cell? ⟨w.heap.size, 1, none⟩ = some (.string aE.who) := (Lib.cell_of_heap hbx 1).trans rfl
  have d2 : w2.cell? ⟨w.heap.size, 2, none⟩ = some (.string aE.what) := (Lib.cell_of_heap hbx 2).trans rfl
  have dl := (Array.getElem?_eq_some_iff.1 hbx).1
  clear hbx
  by_cases q2 : 1048576 - szSgn aList < aE.cost
  · rw [szRes_lt q2]
    go_wp2
    go_ret
    exact ⟨rfl, B2⟩
  rw [szRes_ge q2]
  go_wp2_with fail
  go_region_held3 (fun w' => (∀ b' o', b' < w2.heap.size → w'.cell? ⟨b', o', none⟩ = w2.cell? ⟨b', o', none⟩) ∧ Below w2.heap.size w2 w') (first | (refine heldB ?_; go_grown; done))
    (first
      | (go_at_call 10; refine (law_toSignerS _ aList _ _ _ (Sl.ext r2 ?hb) (by omega)).mono ?_; (case hb => go_grown); rintro e w3 ⟨v3, rfl, s3, b3⟩; have b3' : Below w2.heap.size w2 w3 := Below.trans (by go_grown) (b3.mono (by go_size)))
      | (go_at_call 28; refine (HE.out _).mono ?_; rintro e w4 ⟨rfl, b4⟩; have b4' : Below w2.heap.size w2 w4 := b3'.trans (b4.mono b3'.size))
      | (go_at_call 27; refine (hS.out _ _ _ _ (Sl.ext s3.1 b4) hsz).mono ?_; rintro e w5 ⟨r, c, rfl, hc, b5⟩; have b5' : Below w2.heap.size w2 w5 := b4'.trans (b5.mono b4'.size)))
  rename_i hHeld
  clear hHeld
  have Hc := Lib.hid hc
  clear hc d0 d1 d2 dl
  have B5 := B2.trans (b5'.mono (by have := B2.size; omega))
  have z5 := (b5').size
  have r5 := (r2).ext b5'
  have b05 := b02.trans (b5'.mono (by omega))
  clear b3 b4 b5 b3' b4' s3
  go_wp2_with fail
  refine (law_toSignerS _ aList _ _ _ r5 (by omega)).mono ?_
  rintro e w6 ⟨v6, rfl, s6, b6⟩
  have B6 := B5.trans (b6.mono (by have := B5.size; omega))
  have z6 := (b6).size
  have r6 := (r5).ext b6
  have b06 := b05.trans (b6.mono b05.size)
  have hbx := (Below.block b06 w.heap.size (Array.getElem?_eq_some_iff.1 Hx.out).1).trans Hx.out
  have d0 : w6.cell? ⟨w.heap.size, 0, none⟩ = some (.int .i64 aE.second) := (Lib.cell_of_heap hbx 0).trans rfl
  have d1 : w6.cell? ⟨w.heap.size, 1, none⟩ = some (.string aE.who) := (Lib.cell_of_heap hbx 1).trans rfl
  have d2 : w6.cell? ⟨w.heap.size, 2, none⟩ = some (.string aE.what) := (Lib.cell_of_heap hbx 2).trans rfl
  have dl := (Array.getElem?_eq_some_iff.1 hbx).1
  clear hbx
  go_wp2_with fail
  refine (HE.out _).mono ?_
  rintro e w7 ⟨rfl, b7⟩
  have B7 := B6.trans (b7.mono B6.size)
  have z7 := (b7).size
  have r7 := (r6).ext b7
  have x7 := (s6).ext (by omega) b7
  clear d0 d1 d2 dl
  go_wp2_with fail
  refine (hI.out _ _ _ _ x7.1 (by omega) hsz (Hm.out.ext B7) (H10.out.ext B7) (Hev.out.ext B7) (Hhd.out.ext B7)).mono ?_
  rintro e w8 ⟨r', c', rfl, hc2, b8⟩
  obtain ⟨rfl, rfl⟩ := Hc.out.uniq hc2
  clear hc2 Hc
  have B8 := B7.trans (b8.mono B7.size)
  have z8 := (b8).size
  have r8 := (r7).ext b8
  have x8 := (x7).ext (by omega) b8
  have hne := str_refl r
  go_wp2_with fail
  refine (law_toSignerS _ aList _ _ _ r8 (by omega)).mono ?_
  rintro e w9 ⟨v9, rfl, s9, b9⟩
  have B9 := B8.trans (b9.mono B8.size)
  have x9 := (x8).ext (by omega) b9
  go_wp2_with fail
  refine (law_eqSignerS _ _ _ _ _ _ _ _ x9.1 s9.1).mono ?_
  rintro e w10 ⟨rfl, b10⟩
  have B10 := B9.trans (b10.mono B9.size)
  go_wp2
  go_ret
  exact ⟨rfl, B10⟩
end Go.Proofs.YtjjibdjliejcfaaGreatDoor
