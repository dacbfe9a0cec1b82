/- The law FnExactUnpackLifts. -/
import Derived.Test.YtgbohbjpdmgneaaUnS
import Derived.Test.YtgbohbjpdmgneaaTLiftmark
import Derived.Test.YtgbohbjpdmgneaaTLifteqS
namespace Go.Proofs.Ytgbohbjpdmgneaa
open Go.RowKit
theorem unpL_ok (l : List UInt8) : liftsOk (unpL l).1 := by
  by_cases h : isPackL l
  · unfold unpL; rw [dif_pos h]; exact h.choose_spec.1
  · rw [unpL_f h]; exact ⟨fun i h => by simp at h, by simp⟩
theorem totM_bd2 {φ α : Type} (a p c : Nat) : ∀ (L : List (φ × List α)), (∀ x ∈ L, x.2.length ≤ c) → totM a p L ≤ (a + c * p) * L.length
  | [], _ => by simp [totM]
  | x :: r, h => by
    have h1 := totM_bd2 a p c r fun y hy => h y (List.mem_cons_of_mem _ hy)
    have h2 := Nat.mul_le_mul_right p (h x List.mem_cons_self)
    simp only [totM, List.length_cons, Nat.mul_succ]
    omega
theorem unpL_tot (l : List UInt8) : totM 8 1 (unpL l).1 ≤ 180 := by
  have h := unpL_ok l
  generalize (unpL l).1 = L at *
  have h2 := h.2
  have h1 := totM_bd2 8 1 10 L (fun x hx => by
    obtain ⟨i, hi, rfl⟩ := List.getElem_of_mem hx
    have := rises_len (h.1 i hi).1.2.2.2.2.2.2
    omega)
  omega
set_option maxRecDepth 100000 in
set_option maxHeartbeats 8000000 in
theorem law_UnpackLifts (s : ByteArray) (w : World) (_hs : s.size ≤ maxLen) :
    Calls Try.prog 8 #[.string s] w fun e w' => e = .returned (.bool true) ∧ Below w.heap.size w w' := by
  by_cases hbig : 1048576 < s.size
  · have hd : decide ((1048576 : Int) < (s.size : Int)) = true := decide_eq_true (by omega)
    go_enter Try.func8, Try.ntmps8
    go_wp2
    go_ret
    exact ⟨rfl, Below.refl _ _⟩
  · have hd : decide ((1048576 : Int) < (s.size : Int)) = false := decide_eq_false (by omega)
    have hS := Lib.hid (spec_UnpackLifts s w (by omega))
    have hI := Lib.hid (fun w' => impl_UnpackLifts s w' (by omega))
    have htot := unpL_tot s.data.toList
    generalize unpL s.data.toList = u at *
    obtain ⟨L, cd⟩ := u
    dsimp only at *
    clear _hs
    go_enter Try.func8, Try.ntmps8
    go_wp2_with fail
    refine hS.out.mono ?_
    rintro e w1 ⟨⟨a1, t1, p1⟩, rs1, rfl, q1, f1⟩
    simp only [SV.v] at q1 ⊢
    have B1 := f1
    have z1 := f1.size
    have rW1 := Lib.hid (q1.w LiftR.len intCells_len TL_TI)
    clear q1 f1
    go_wp2_with fail
    refine (hI.out w1).mono ?_
    rintro e w2 ⟨⟨a2, t2, p2⟩, rs2, rfl, q2, f2⟩
    simp only [SV.v] at q2 ⊢
    have z2 := f2.size
    have B2 := B1.trans (f2.mono B1.size)
    have rW2 := Lib.hid (rW1.out.ext (Nat.le_refl _) f2)
    have rG2 := Lib.hid (q2.w LiftR.len intCells_len TL_TI)
    have hE := Lib.hid (law_eqLiftS _ _ _ _ _ _ _ _ _ _ rG2.out.r rW2.out.r)
    clear q2 f2 rW1
    go_wp2_with fail
    refine hE.out.mono ?_
    rintro e w3 ⟨rfl, f3⟩
    have z3 := f3.size
    have B3 := B2.trans (f3.mono B2.size)
    have rW3 := Lib.hid (rW2.out.ext z2 f3)
    have rG3 := Lib.hid (rG2.out.ext (Nat.le_refl _) f3)
    have hM := Lib.hid (law_markLiftS _ _ _ _ _ 1 _ rG3.out z3 (by omega) (by omega))
    clear f3 rW2 rG2 hE
    go_wp2_with fail
    refine hM.out.mono ?_
    rintro e w4 ⟨rs4, rfl, qG, f4⟩
    have z4 := f4.size
    have B4 := B3.trans (f4.below (B := w.heap.size) z1 (by omega))
    have rW4 := Lib.hid (rW3.out.keep (f4.same (by omega) (.inl (Nat.le_refl _))))
    have rG4 := Lib.hid qG
    have hH := law_heldLiftS _ _ L _ _ 1 _ rG4.out.r (by omega) (by omega)
    have hH2 := Lib.hid (fun w' (hb : Below w4.heap.size w4 w') => law_heldLiftS _ _ L _ _ 1 w' (rG4.out.ext (by omega) hb).r (by omega) (by omega))
    clear f4 rW3 rG3 hM qG
    generalize 1 + totM 8 1 L = K at *
    have hk0 : decide ((K : Int) < 0) = false := decide_eq_false (by omega)
    have hH := Lib.hid hH
    go_wp2_with fail
    refine hH.out.mono ?_
    rintro e w5 ⟨rfl, f5⟩
    have z5 := f5.size
    have B5 := B4.trans (f5.mono B4.size)
    have rW5 := Lib.hid (rW4.out.ext (by omega) f5)
    clear rW4 hH
    go_wp2_with fail
    refine (hI.out w5).mono ?_
    rintro e w6 ⟨⟨a6, t6, p6⟩, rs6, rfl, q6, f6⟩
    simp only [SV.v] at q6 ⊢
    have z6 := f6.size
    have B6 := B5.trans (f6.mono B5.size)
    have rW6 := Lib.hid (rW5.out.ext (by omega) f6)
    have rH6 := Lib.hid (q6.w LiftR.len intCells_len TL_TI)
    have hE := Lib.hid (law_eqLiftS _ _ _ _ _ _ _ _ _ _ rH6.out.r rW6.out.r)
    have f46 := f5.trans (f6.mono z5)
    clear q6 f6 rW5 f5
    go_wp2_with fail
    refine hE.out.mono ?_
    rintro e w7 ⟨rfl, f7⟩
    have z7 := f7.size
    have B7 := B6.trans (f7.mono B6.size)
    have f47 := f46.trans (f7.mono f46.size)
    have hH := Lib.hid (hH2.out w7 f47)
    clear hE hH2 f46 f7 f47
    go_wp2_with fail
    refine hH.out.mono ?_
    rintro e w8 ⟨rfl, f8⟩
    have z8 := f8.size
    have B8 := B7.trans (f8.mono B7.size)
    clear hH f8
    go_wp2
    go_ret
    exact ⟨rfl, B8⟩
end Go.Proofs.Ytgbohbjpdmgneaa
