/- The law FnExactUnpackSite. -/
import Derived.Test.YtgbohbjpdmgneaaUnC
import Derived.Test.YtgbohbjpdmgneaaTSiteM
namespace Go.Proofs.Ytgbohbjpdmgneaa
open Go.RowKit
theorem unpS_ok (l : List UInt8) : siteOk (unpS l).1 ∨ (unpS l).1 = [] := by
  by_cases h : isPackS l
  · unfold unpS; rw [dif_pos h]; exact .inl h.choose_spec.1
  · rw [unpS_f h]; exact .inr rfl
theorem unpS_tot (l : List UInt8) : totC (unpS l).1 ≤ 6291456 := by
  unfold totC
  rcases unpS_ok l with h | h
  · generalize (unpS l).1 = L at *
    have h2 := h.2.2
    have h1 := totM_bd 6 2 20 L (fun x hx => by
      obtain ⟨i, hi, rfl⟩ := List.getElem_of_mem hx
      exact (h.1 i hi).1.2.2.2.2.2.1.2.2)
    omega
  · rw [h]; simp [totM]
/-- A box of one cell. -/
def Bo (p : Nat) (v : Value) (w : World) : Prop := w.heap[p]? = some (.cells #[v] 37)
theorem Bo.new (w : World) (v : Value) : Bo w.heap.size v (w.alloc (.cells #[v] 37)) := blkN_new w _
theorem Bo.lt {p : Nat} {v : Value} {w : World} (h : Bo p v w) : p < w.heap.size := (Array.getElem?_eq_some_iff.1 h).1
theorem Bo.c {p : Nat} {v : Value} {w : World} (h : Bo p v w) : w.cell? ⟨p, 0, none⟩ = some v := (Lib.cell_of_heap h 0).trans rfl
theorem Bo.ext {p : Nat} {v : Value} {w w' : World} (h : Bo p v w) (hb : Below w.heap.size w w') : Bo p v w' := (hb.block p h.lt).trans h
theorem Bo.mod {p lo hi : Nat} {v : Value} {w w' : World} (h : Bo p v w) (hm : Mod lo hi w w') (hp : p < lo ∨ hi ≤ p) : Bo p v w' := (hm.block p h.lt hp).trans h
set_option maxRecDepth 100000 in
set_option maxHeartbeats 8000000 in
theorem law_UnpackSite (s : ByteArray) (w : World) (_hs : s.size ≤ maxLen) :
    Calls Try.prog 9 #[.string s] w fun e w' => e = .returned (.bool true) ∧ Below w.heap.size w w' := by
  by_cases hbig : 1048576 < s.size
  · have hd : decide ((1048576 : Int) < (s.size : Int)) = true := decide_eq_true (by omega)
    go_enter Try.func9, Try.ntmps9
    go_wp2
    go_ret
    exact ⟨rfl, Below.refl _ _⟩
  · have hd : decide ((1048576 : Int) < (s.size : Int)) = false := decide_eq_false (by omega)
    have hS := Lib.hid (spec_UnpackSite s w (by omega))
    have hI := Lib.hid (fun w' => impl_UnpackSite s w' (by omega))
    have htot := unpS_tot s.data.toList
    generalize unpS s.data.toList = u at *
    obtain ⟨L, cd⟩ := u
    dsimp only at *
    have hc2 := Lib.hid (show ∀ x : Chs, x.cells.length = 2 from fun _ => rfl)
    clear _hs
    go_enter Try.func9, Try.ntmps9
    go_wp2_with fail
    refine hS.out.mono ?_
    rintro e w1 ⟨⟨a1, t1, p1⟩, rs1, rfl, q1, f1⟩
    simp only [SV.v] at q1 ⊢
    have z1 := f1.size
    have rW1 : Hid (CraneW w.heap.size w1.heap.size w1 (.slice a1 t1 p1) rs1 L) := Lib.hid (q1.w CraneR.len hc2.out TK_TC2)
    have g1 : Below w1.heap.size w1 (w1.alloc (.cells #[.slice a1 t1 p1] 37)) := (Below.refl _ _).alloc (Nat.le_refl _) _
    have bW1 := Lib.hid (Bo.new w1 (.slice a1 t1 p1))
    have rW1a := Lib.hid (rW1.out.ext (Nat.le_refl _) g1)
    have B1 := f1.trans (g1.mono f1.size)
    have y1 : (w1.alloc (.cells #[.slice a1 t1 p1] 37)).heap.size = w1.heap.size + 1 := by simp
    clear q1 f1 rW1 g1
    go_wp2_with fail
    refine (hI.out _).mono ?_
    rintro e w2 ⟨⟨a2, t2, p2⟩, rs2, rfl, q2, f2⟩
    simp only [SV.v] at q2 ⊢
    have z2 := f2.size
    rw [y1] at q2 z2
    have rW2 := Lib.hid (rW1a.out.ext (by omega) f2)
    have bW2 := Lib.hid (bW1.out.ext f2)
    have rG2 : Hid (CraneW (w1.heap.size + 1) w2.heap.size w2 (.slice a2 t2 p2) rs2 L) := Lib.hid (q2.w CraneR.len hc2.out TK_TC2)
    have B2 := B1.trans (f2.mono B1.size)
    have g2 : Below w2.heap.size w2 (w2.alloc (.cells #[.slice a2 t2 p2] 37)) := (Below.refl _ _).alloc (Nat.le_refl _) _
    have bG2 := Lib.hid (Bo.new w2 (.slice a2 t2 p2))
    have rW2a := Lib.hid (rW2.out.ext (by omega) g2)
    have bW2a := Lib.hid (bW2.out.ext g2)
    have rG2a := Lib.hid (rG2.out.ext (Nat.le_refl _) g2)
    have B2a := B2.trans (g2.mono B2.size)
    have y2 : (w2.alloc (.cells #[.slice a2 t2 p2] 37)).heap.size = w2.heap.size + 1 := by simp
    have hE := law_eqSite ⟨a2, t2, p2⟩ ⟨a1, t1, p1⟩ _ _ L _ _ _ _ _ rG2a.out.r rW2a.out.r
    simp only [SV.v] at hE
    have hE := Lib.hid hE
    have cW := bW2a.out.c
    have cG := bG2.out.c
    clear q2 f2 rW1a bW1 rW2 rG2 bW2 g2 B1 B2
    go_wp2_with fail
    refine hE.out.mono ?_
    rintro e w3 ⟨rfl, f3⟩
    have z3 := f3.size
    rw [y2] at z3
    have rW3 := Lib.hid (rW2a.out.ext (by omega) f3)
    have bW3 := Lib.hid (bW2a.out.ext f3)
    have rG3 := Lib.hid (rG2a.out.ext (by omega) f3)
    have bG3 := Lib.hid (bG2.out.ext f3)
    have B3 := B2a.trans (f3.mono B2a.size)
    have hM := law_markSite ⟨a2, t2, p2⟩ _ L _ _ 1 _ rG3.out (by omega) (by omega) (by omega)
    simp only [SV.v] at hM
    have hM := Lib.hid hM
    clear cW cG hE f3 rW2a bW2a rG2a bG2 B2a y1
    have cW := bW3.out.c
    have cG := bG3.out.c
    go_wp2_with fail
    refine hM.out.mono ?_
    rintro e w4 ⟨rs4, rfl, qG, f4⟩
    have z4 := f4.size
    have B4 := B3.trans (f4.below (B := w.heap.size) (by omega) (by omega))
    have rW4 := Lib.hid (rW3.out.keep (f4.same (by omega) (.inl (by omega))))
    have bW4 := Lib.hid (bW3.out.mod f4 (.inl (Nat.lt_succ_self _)))
    have bG4 := Lib.hid (bG3.out.mod f4 (.inr (Nat.le_refl _)))
    have rG4 := Lib.hid qG
    have hH := fun w' (hb : Below w4.heap.size w4 w') => law_heldSite ⟨a2, t2, p2⟩ _ L _ _ 1 w' (rG4.out.ext (by omega) hb).r (by omega) (by omega)
    simp only [SV.v] at hH
    have hH := Lib.hid hH
    clear cW cG hM f4 rW3 bW3 rG3 bG3 qG B3
    have cW := bW4.out.c
    have cG := bG4.out.c
    generalize 1 + totC L = K at *
    have hk0 : decide ((K : Int) < 0) = false := decide_eq_false (by omega)
    go_wp2_with fail
    refine (hH.out w4 (Below.refl _ _)).mono ?_
    rintro e w5 ⟨rfl, f5⟩
    have z5 := f5.size
    have B5 := B4.trans (f5.mono B4.size)
    have rW5 := Lib.hid (rW4.out.ext (by omega) f5)
    have bW5 := Lib.hid (bW4.out.ext f5)
    have bG5 := Lib.hid (bG4.out.ext f5)
    clear cW cG rW4 bW4 bG4 B4
    have cW := bW5.out.c
    have cG := bG5.out.c
    go_wp2_with fail
    refine (hI.out w5).mono ?_
    rintro e w6 ⟨⟨a6, t6, p6⟩, rs6, rfl, q6, f6⟩
    simp only [SV.v] at q6 ⊢
    have z6 := f6.size
    have rW6 := Lib.hid (rW5.out.ext (by omega) f6)
    have bW6 := Lib.hid (bW5.out.ext f6)
    have bG6 := Lib.hid (bG5.out.ext f6)
    have rH6 : Hid (CraneW w5.heap.size w6.heap.size w6 (.slice a6 t6 p6) rs6 L) := Lib.hid (q6.w CraneR.len hc2.out TK_TC2)
    have g6 : Below w6.heap.size w6 (w6.alloc (.cells #[.slice a6 t6 p6] 37)) := (Below.refl _ _).alloc (Nat.le_refl _) _
    have bH6 := Lib.hid (Bo.new w6 (.slice a6 t6 p6))
    have rW6a := Lib.hid (rW6.out.ext (by omega) g6)
    have rH6a := Lib.hid (rH6.out.ext (Nat.le_refl _) g6)
    have bW6a := Lib.hid (bW6.out.ext g6)
    have bG6a := Lib.hid (bG6.out.ext g6)
    have B6 := (B5.trans (f6.mono B5.size)).trans (g6.mono (Nat.le_trans B5.size z6))
    have f46 := f5.trans ((f6.mono z5).trans (g6.mono (Nat.le_trans z5 z6)))
    have hE := law_eqSite ⟨a6, t6, p6⟩ ⟨a1, t1, p1⟩ _ _ L _ _ _ _ _ rH6a.out.r rW6a.out.r
    simp only [SV.v] at hE
    have hE := Lib.hid hE
    clear cW cG q6 f6 f5 g6 rW5 bW5 bG5 rW6 bW6 bG6 rH6 B5
    have cW := bW6a.out.c
    have cG := bG6a.out.c
    have cH := bH6.out.c
    go_wp2_with fail
    refine hE.out.mono ?_
    rintro e w7 ⟨rfl, f7⟩
    have bG7 := Lib.hid (bG6a.out.ext f7)
    have f47 := f46.trans (f7.mono f46.size)
    have B7 := B6.trans (f7.mono B6.size)
    have hH7 := Lib.hid (hH.out w7 f47)
    clear cW cG cH hE hH f46 f7 f47 rW6a bW6a bG6a rH6a bH6 B6
    have cG := bG7.out.c
    go_wp2_with fail
    refine hH7.out.mono ?_
    rintro e w8 ⟨rfl, f8⟩
    have B8 := B7.trans (f8.mono B7.size)
    clear hH7 f8
    go_wp2
    go_ret
    exact ⟨rfl, B8⟩
end Go.Proofs.Ytgbohbjpdmgneaa
