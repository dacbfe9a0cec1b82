/- Zones, the program: what blocks, codes, heights, lines. Zones, the program: lists of zones. Zones, the program: the first that blocks a line; whether a line meets a zone. -/
import Derived.Test.YtpabbehpkokhbaaDoorZnO
import Derived.Test.YtpabbehpkokhbaaDoorZnG
import Derived.Test.YtpabbehpkokhbaaDoorZnH
namespace Go.Proofs.YtpabbehpkokhbaaDoor
open Go.RowKit
set_option maxRecDepth 100000 in
set_option maxHeartbeats 2000000 in
theorem impl_bLoad (f : ZoneF) (s : SV) (h : Int) (w : World) (ht : f.kind = 1 → tall f) :
    Calls Tryd.prog 39 #[.agg (ZoneR.cells ⟨f, s⟩).toArray, .int .i64 h] w fun e w' => e = .returned (.bool (loadB f h)) ∧ Below w.heap.size w w' := by
  have hb0 : Below w.heap.size w (w.alloc (.cells #[.int .i64 (f).kind, .int .i64 (f).storeys, .int .i64 (f).each, (s).v] 33 (0, 0))) := (Below.refl _ _).alloc (Nat.le_refl _) _
  unfold loadB
  obtain ⟨sa, sl, sc⟩ := s
  simp only [ZoneR.cells, SV.v] at *
  by_cases h1 : f.kind = 1
  · obtain ⟨-, hw1, hw2⟩ := tall_bd (ht h1)
    clear ht
    obtain ⟨x0, x1, x2⟩ := f
    dsimp only at *
    subst h1
    obtain ⟨pr, hpr⟩ : ∃ pr, x1 * x2 = pr := ⟨_, rfl⟩
    rw [hpr] at hw1 hw2 ⊢
    rw [show decide ((1 : Int) = 2 ∨ (1 : Int) = 1 ∧ h < pr + 20) = decide (h < pr + 20) from decide_eq_decide.2 ⟨fun h2 => by omega, fun h2 => .inr ⟨rfl, h2⟩⟩]
    go_enter Tryd.func39, Tryd.ntmps39
    go_wp2
    go_ret
    exact ⟨rfl, hb0⟩
  · clear ht
    obtain ⟨x0, x1, x2⟩ := f
    dsimp only at *
    have h10 : (x0 == 1) = false := by rw [beq_eq_false_iff_ne]; exact h1
    by_cases h2 : x0 = 2
    · rw [decide_eq_true (show x0 = 2 ∨ x0 = 1 ∧ h < x1 * x2 + 20 from .inl h2)]
      have h20 : (x0 == 2) = true := by rw [beq_iff_eq]; exact h2
      clear h1 h2
      go_enter Tryd.func39, Tryd.ntmps39
      go_wp2
      go_ret
      exact ⟨rfl, hb0⟩
    · rw [decide_eq_false (show ¬ (x0 = 2 ∨ x0 = 1 ∧ h < x1 * x2 + 20) from fun h3 => h3.elim h2 fun h4 => h1 h4.1)]
      have h20 : (x0 == 2) = false := by rw [beq_eq_false_iff_ne]; exact h2
      clear h1 h2
      go_enter Tryd.func39, Tryd.ntmps39
      go_wp2
      go_ret
      exact ⟨rfl, hb0⟩
set_option maxRecDepth 100000 in
set_option maxHeartbeats 2000000 in
theorem impl_bJib (f : ZoneF) (s : SV) (h : Int) (w : World) (ht : f.kind = 1 → tall f) :
    Calls Tryd.prog 41 #[.agg (ZoneR.cells ⟨f, s⟩).toArray, .int .i64 h] w fun e w' => e = .returned (.bool (jibB f h)) ∧ Below w.heap.size w w' := by
  have hb0 : Below w.heap.size w (w.alloc (.cells #[.int .i64 (f).kind, .int .i64 (f).storeys, .int .i64 (f).each, (s).v] 33 (0, 0))) := (Below.refl _ _).alloc (Nat.le_refl _) _
  unfold jibB
  obtain ⟨sa, sl, sc⟩ := s
  simp only [ZoneR.cells, SV.v] at *
  by_cases h1 : f.kind = 1
  · obtain ⟨-, hw1, hw2⟩ := tall_bd (ht h1)
    clear ht
    obtain ⟨x0, x1, x2⟩ := f
    dsimp only at *
    subst h1
    obtain ⟨pr, hpr⟩ : ∃ pr, x1 * x2 = pr := ⟨_, rfl⟩
    rw [hpr] at hw1 hw2 ⊢
    rw [show decide ((1 : Int) = 3 ∨ (1 : Int) = 1 ∧ h < pr + 20) = decide (h < pr + 20) from decide_eq_decide.2 ⟨fun h2 => by omega, fun h2 => .inr ⟨rfl, h2⟩⟩]
    go_enter Tryd.func41, Tryd.ntmps41
    go_wp2
    go_ret
    exact ⟨rfl, hb0⟩
  · clear ht
    obtain ⟨x0, x1, x2⟩ := f
    dsimp only at *
    have h10 : (x0 == 1) = false := by rw [beq_eq_false_iff_ne]; exact h1
    by_cases h2 : x0 = 3
    · rw [decide_eq_true (show x0 = 3 ∨ x0 = 1 ∧ h < x1 * x2 + 20 from .inl h2)]
      have h20 : (x0 == 3) = true := by rw [beq_iff_eq]; exact h2
      clear h1 h2
      go_enter Tryd.func41, Tryd.ntmps41
      go_wp2
      go_ret
      exact ⟨rfl, hb0⟩
    · rw [decide_eq_false (show ¬ (x0 = 3 ∨ x0 = 1 ∧ h < x1 * x2 + 20) from fun h3 => h3.elim h2 fun h4 => h1 h4.1)]
      have h20 : (x0 == 3) = false := by rw [beq_eq_false_iff_ne]; exact h2
      clear h1 h2
      go_enter Tryd.func41, Tryd.ntmps41
      go_wp2
      go_ret
      exact ⟨rfl, hb0⟩
theorem impl_High (h : Int) (w : World) : Calls Tryd.prog 28 #[.int .i64 h, .int .i64 0, .int .i64 2000] w fun e w' => e = .returned (.bool (highB h)) ∧ w = w' := by
  unfold highB
  by_cases hh : 0 ≤ h ∧ h ≤ 2000
  · rw [decide_eq_true hh]
    exact impl_within_t _ _ _ _ hh.1 hh.2
  · rw [decide_eq_false hh]
    exact impl_within_f _ _ _ _ hh
set_option maxRecDepth 100000 in
set_option maxHeartbeats 2000000 in
theorem impl_blocksL (f : ZoneF) (s : SV) (C : List Pnt) (lo hi : Nat) (h : Int) (w : World) (hh : Pnts lo hi w s.v C) (hhi : hi ≤ w.heap.size) (hl : C.length ≤ 1024) :
    Calls Tryd.prog 38 #[.agg (ZoneR.cells ⟨f, s⟩).toArray, .int .i64 h, .func (.func 39) #[] #[]] w fun e w' => e = .returned (.tuple #[.bool (codeZ f C h == 0 && loadB f h), .int .i64 (codeZ f C h)]) ∧ Below w.heap.size w w' := by
  have hb0 : Below w.heap.size w (w.alloc (.cells #[.int .i64 (f).kind, .int .i64 (f).storeys, .int .i64 (f).each, (s).v] 33 (0, 0))) := (Below.refl _ _).alloc (Nat.le_refl _) _
  have hV := impl_VZone f s C lo hi (w.alloc (.cells #[.int .i64 (f).kind, .int .i64 (f).storeys, .int .i64 (f).each, (s).v] 33 (0, 0))) (hh.ext hb0) (Nat.le_trans hhi hb0.size) hl
  have hT := fun (ht : f.kind = 1 → tall f) W => impl_bLoad f s h W ht
  have hH := impl_High h
  have hX := blkN_new w (.cells #[.int .i64 (f).kind, .int .i64 (f).storeys, .int .i64 (f).each, (s).v] 33 (0, 0))
  have hone := codeZ_cases f C h
  have Hb0 := Lib.hid hb0
  have HX := Lib.hid hX
  obtain ⟨sa, sl, sc⟩ := s
  simp only [SV.v, ZoneR.cells] at *
  clear hh hhi hl hb0 hX
  rcases hone with ⟨h1, h2, h3⟩ | ⟨h1, h2, h3⟩ | ⟨h1, h3⟩
  · have hT := hT (zoneB_iff.1 h1).one
    rw [h1] at hV; rw [h2] at hH; rw [h3]
    have HV := Lib.hid hV
    have HT := Lib.hid hT
    have HH := Lib.hid hH
    rw [show ((0 : Int) == 0 && loadB f h) = loadB f h from rfl]
    clear h1 h2 h3 hV hT hH
    generalize loadB f h = r at *
    obtain ⟨x0, x1, x2⟩ := f
    dsimp only at *
    go_enter Tryd.func38, Tryd.ntmps38
    go_wp2_with fail
    refine HV.out.mono ?_
    rintro e w1 ⟨rfl, b1⟩
    have HX1 := blkN_below b1 HX.out
    have c0 := (Lib.cell_of_heap HX1 0).trans rfl
    have c1 := (Lib.cell_of_heap HX1 1).trans rfl
    have c2 := (Lib.cell_of_heap HX1 2).trans rfl
    have c3 := (Lib.cell_of_heap HX1 3).trans rfl
    clear HX1
    go_wp2_with (first | (go_at_call 28; refine (HH.out _).mono ?_; rintro e _ ⟨rfl, rfl⟩) | fail)
    refine (HT.out _).mono ?_
    rintro e w2 ⟨rfl, b2⟩
    go_wp2_with fail
    go_ret2
    exact ⟨rfl, Hb0.out.trans ((b1.trans (b2.mono b1.size)).mono Hb0.out.size)⟩
  · rw [h1] at hV; rw [h2] at hH; rw [h3]
    have HV := Lib.hid hV
    have HH := Lib.hid hH
    rw [show ((2 : Int) == 0 && loadB f h) = false from rfl]
    clear h1 h2 h3 hV hT hH
    obtain ⟨x0, x1, x2⟩ := f
    dsimp only at *
    go_enter Tryd.func38, Tryd.ntmps38
    go_wp2_with (first | (go_at_call 43; refine HV.out.mono ?_; rintro e w1 ⟨rfl, b1⟩) | (go_at_call 28; refine (HH.out _).mono ?_; rintro e _ ⟨rfl, rfl⟩) | fail)
    go_ret2
    exact ⟨rfl, Hb0.out.trans (b1.mono Hb0.out.size)⟩
  · rw [h1] at hV; rw [h3]
    have HV := Lib.hid hV
    rw [show ((1 : Int) == 0 && loadB f h) = false from rfl]
    clear h1 h3 hV hT hH
    obtain ⟨x0, x1, x2⟩ := f
    dsimp only at *
    go_enter Tryd.func38, Tryd.ntmps38
    go_wp2_with (first | (go_at_call 43; refine HV.out.mono ?_; rintro e w1 ⟨rfl, b1⟩) | fail)
    go_ret2
    exact ⟨rfl, Hb0.out.trans (b1.mono Hb0.out.size)⟩
theorem impl_BLoad (f : ZoneF) (s : SV) (C : List Pnt) (lo hi : Nat) (h : Int) (w : World) (hh : Pnts lo hi w s.v C) (hhi : hi ≤ w.heap.size) (hl : C.length ≤ 1024) :
    Calls Tryd.prog 9 #[.agg (ZoneR.cells ⟨f, s⟩).toArray, .int .i64 h] w fun e w' => e = .returned (.tuple #[.bool (codeZ f C h == 0 && loadB f h), .int .i64 (codeZ f C h)]) ∧ Below w.heap.size w w' := by
  have hb0 : Below w.heap.size w (w.alloc (.cells #[.int .i64 (f).kind, .int .i64 (f).storeys, .int .i64 (f).each, (s).v] 33 (0, 0))) := (Below.refl _ _).alloc (Nat.le_refl _) _
  have hV := Lib.hid (impl_blocksL f s C lo hi h (w.alloc (.cells #[.int .i64 (f).kind, .int .i64 (f).storeys, .int .i64 (f).each, (s).v] 33 (0, 0))) (hh.ext hb0) (Nat.le_trans hhi hb0.size) hl)
  generalize codeZ f C h = cz at *
  generalize loadB f h = r at *
  obtain ⟨sa, sl, sc⟩ := s
  obtain ⟨x0, x1, x2⟩ := f
  simp only [SV.v, ZoneR.cells] at *
  clear hh hhi hl
  go_enter Tryd.func9, Tryd.ntmps9
  go_wp2_with fail
  refine hV.out.mono ?_
  rintro e w1 ⟨rfl, b1⟩
  go_wp2_with fail
  go_ret2
  exact ⟨rfl, hb0.trans (b1.mono hb0.size)⟩
set_option maxRecDepth 100000 in
set_option maxHeartbeats 2000000 in
theorem impl_blocksJ (f : ZoneF) (s : SV) (C : List Pnt) (lo hi : Nat) (h : Int) (w : World) (hh : Pnts lo hi w s.v C) (hhi : hi ≤ w.heap.size) (hl : C.length ≤ 1024) :
    Calls Tryd.prog 38 #[.agg (ZoneR.cells ⟨f, s⟩).toArray, .int .i64 h, .func (.func 41) #[] #[]] w fun e w' => e = .returned (.tuple #[.bool (codeZ f C h == 0 && jibB f h), .int .i64 (codeZ f C h)]) ∧ Below w.heap.size w w' := by
  have hb0 : Below w.heap.size w (w.alloc (.cells #[.int .i64 (f).kind, .int .i64 (f).storeys, .int .i64 (f).each, (s).v] 33 (0, 0))) := (Below.refl _ _).alloc (Nat.le_refl _) _
  have hV := impl_VZone f s C lo hi (w.alloc (.cells #[.int .i64 (f).kind, .int .i64 (f).storeys, .int .i64 (f).each, (s).v] 33 (0, 0))) (hh.ext hb0) (Nat.le_trans hhi hb0.size) hl
  have hT := fun (ht : f.kind = 1 → tall f) W => impl_bJib f s h W ht
  have hH := impl_High h
  have hX := blkN_new w (.cells #[.int .i64 (f).kind, .int .i64 (f).storeys, .int .i64 (f).each, (s).v] 33 (0, 0))
  have hone := codeZ_cases f C h
  have Hb0 := Lib.hid hb0
  have HX := Lib.hid hX
  obtain ⟨sa, sl, sc⟩ := s
  simp only [SV.v, ZoneR.cells] at *
  clear hh hhi hl hb0 hX
  rcases hone with ⟨h1, h2, h3⟩ | ⟨h1, h2, h3⟩ | ⟨h1, h3⟩
  · have hT := hT (zoneB_iff.1 h1).one
    rw [h1] at hV; rw [h2] at hH; rw [h3]
    have HV := Lib.hid hV
    have HT := Lib.hid hT
    have HH := Lib.hid hH
    rw [show ((0 : Int) == 0 && jibB f h) = jibB f h from rfl]
    clear h1 h2 h3 hV hT hH
    generalize jibB f h = r at *
    obtain ⟨x0, x1, x2⟩ := f
    dsimp only at *
    go_enter Tryd.func38, Tryd.ntmps38
    go_wp2_with fail
    refine HV.out.mono ?_
    rintro e w1 ⟨rfl, b1⟩
    have HX1 := blkN_below b1 HX.out
    have c0 := (Lib.cell_of_heap HX1 0).trans rfl
    have c1 := (Lib.cell_of_heap HX1 1).trans rfl
    have c2 := (Lib.cell_of_heap HX1 2).trans rfl
    have c3 := (Lib.cell_of_heap HX1 3).trans rfl
    clear HX1
    go_wp2_with (first | (go_at_call 28; refine (HH.out _).mono ?_; rintro e _ ⟨rfl, rfl⟩) | fail)
    refine (HT.out _).mono ?_
    rintro e w2 ⟨rfl, b2⟩
    go_wp2_with fail
    go_ret2
    exact ⟨rfl, Hb0.out.trans ((b1.trans (b2.mono b1.size)).mono Hb0.out.size)⟩
  · rw [h1] at hV; rw [h2] at hH; rw [h3]
    have HV := Lib.hid hV
    have HH := Lib.hid hH
    rw [show ((2 : Int) == 0 && jibB f h) = false from rfl]
    clear h1 h2 h3 hV hT hH
    obtain ⟨x0, x1, x2⟩ := f
    dsimp only at *
    go_enter Tryd.func38, Tryd.ntmps38
    go_wp2_with (first | (go_at_call 43; refine HV.out.mono ?_; rintro e w1 ⟨rfl, b1⟩) | (go_at_call 28; refine (HH.out _).mono ?_; rintro e _ ⟨rfl, rfl⟩) | fail)
    go_ret2
    exact ⟨rfl, Hb0.out.trans (b1.mono Hb0.out.size)⟩
  · rw [h1] at hV; rw [h3]
    have HV := Lib.hid hV
    rw [show ((1 : Int) == 0 && jibB f h) = false from rfl]
    clear h1 h3 hV hT hH
    obtain ⟨x0, x1, x2⟩ := f
    dsimp only at *
    go_enter Tryd.func38, Tryd.ntmps38
    go_wp2_with (first | (go_at_call 43; refine HV.out.mono ?_; rintro e w1 ⟨rfl, b1⟩) | fail)
    go_ret2
    exact ⟨rfl, Hb0.out.trans (b1.mono Hb0.out.size)⟩
theorem impl_BJib (f : ZoneF) (s : SV) (C : List Pnt) (lo hi : Nat) (h : Int) (w : World) (hh : Pnts lo hi w s.v C) (hhi : hi ≤ w.heap.size) (hl : C.length ≤ 1024) :
    Calls Tryd.prog 11 #[.agg (ZoneR.cells ⟨f, s⟩).toArray, .int .i64 h] w fun e w' => e = .returned (.tuple #[.bool (codeZ f C h == 0 && jibB f h), .int .i64 (codeZ f C h)]) ∧ Below w.heap.size w w' := by
  have hb0 : Below w.heap.size w (w.alloc (.cells #[.int .i64 (f).kind, .int .i64 (f).storeys, .int .i64 (f).each, (s).v] 33 (0, 0))) := (Below.refl _ _).alloc (Nat.le_refl _) _
  have hV := Lib.hid (impl_blocksJ f s C lo hi h (w.alloc (.cells #[.int .i64 (f).kind, .int .i64 (f).storeys, .int .i64 (f).each, (s).v] 33 (0, 0))) (hh.ext hb0) (Nat.le_trans hhi hb0.size) hl)
  generalize codeZ f C h = cz at *
  generalize jibB f h = r at *
  obtain ⟨sa, sl, sc⟩ := s
  obtain ⟨x0, x1, x2⟩ := f
  simp only [SV.v, ZoneR.cells] at *
  clear hh hhi hl
  go_enter Tryd.func11, Tryd.ntmps11
  go_wp2_with fail
  refine hV.out.mono ?_
  rintro e w1 ⟨rfl, b1⟩
  go_wp2_with fail
  go_ret2
  exact ⟨rfl, hb0.trans (b1.mono hb0.size)⟩
set_option maxRecDepth 100000 in
set_option maxHeartbeats 2000000 in
theorem impl_ZHeight (f : ZoneF) (s : SV) (C : List Pnt) (lo hi : Nat) (w : World) (hh : Pnts lo hi w s.v C) (hhi : hi ≤ w.heap.size) (hl : C.length ≤ 1024) :
    Calls Tryd.prog 13 #[.agg (ZoneR.cells ⟨f, s⟩).toArray] w fun e w' => e = .returned (.tuple #[.int .i64 (zhV f C), .int .i64 (zhC f C)]) ∧ Below w.heap.size w w' := by
  have hb0 : Below w.heap.size w (w.alloc (.cells #[.int .i64 (f).kind, .int .i64 (f).storeys, .int .i64 (f).each, (s).v] 33 (0, 0))) := (Below.refl _ _).alloc (Nat.le_refl _) _
  have hX := blkN_new w (.cells #[.int .i64 (f).kind, .int .i64 (f).storeys, .int .i64 (f).each, (s).v] 33 (0, 0))
  have hV := impl_VZone f s C lo hi _ (hh.ext hb0) (Nat.le_trans hhi hb0.size) hl
  have Hb0 := Lib.hid hb0
  have HX := Lib.hid hX
  have hw := fun (h : zoneOk f C) => zone_pr h
  unfold zhV zhC
  obtain ⟨sa, sl, sc⟩ := s
  simp only [SV.v, ZoneR.cells] at *
  clear hX hh hl hb0 hhi
  cases hz : zoneB f C
  · rw [hz] at hV
    have HV := Lib.hid hV
    clear hz hV hw
    obtain ⟨x0, x1, x2⟩ := f
    dsimp only at *
    go_enter Tryd.func13, Tryd.ntmps13
    go_wp2_with (first | (go_at_call 43; refine HV.out.mono ?_; rintro e w1 ⟨rfl, b1⟩) | fail)
    go_ret2
    exact ⟨rfl, Hb0.out.trans (b1.mono Hb0.out.size)⟩
  · rw [hz] at hV
    have hw := hw (zoneB_iff.1 hz)
    have HV := Lib.hid hV
    clear hz hV
    obtain ⟨x0, x1, x2⟩ := f
    dsimp only at *
    go_enter Tryd.func13, Tryd.ntmps13
    go_wp2_with (first | (go_at_call 43; refine HV.out.mono ?_; rintro e w1 ⟨rfl, b1⟩; have hX1 := blkN_below b1 HX.out; have c1 := (Lib.cell_of_heap hX1 1).trans rfl; have c2 := (Lib.cell_of_heap hX1 2).trans rfl; clear hX1) | fail)
    go_ret2
    exact ⟨rfl, Hb0.out.trans (b1.mono Hb0.out.size)⟩
def ZxOut (p : Nat → Bool) (n : Nat) (w : World) (e : Ending) (w' : World) : Prop := ∃ r : Int, e = .returned (.int .i64 r) ∧ FirstI p n r ∧ Below w.heap.size w w'
set_option maxRecDepth 100000 in
set_option maxHeartbeats 4000000 in
theorem impl_ZxV (v : Value) (rs : List ZoneR) (L : ZonesL) (lo hi : Nat) (_u0 : Nat) (p : Nat → Bool) (w : World) (hz : Zones lo hi w v rs L) (hln : L.length ≤ 1024)
    (hstep : ∀ k (hk : k < L.length) (s : SV), Pnts lo hi w s.v L[k].2 → ∀ W, Below w.heap.size w W → Calls Tryd.prog 55 #[.agg (ZoneR.cells ⟨L[k].1, s⟩).toArray] W fun e w' => e = .returned (.bool (p k)) ∧ Below W.heap.size W w') :
    Calls Tryd.prog 56 #[v, .func (.func 55) #[] #[]] w (ZxOut p L.length w) := by
  have hl1 := hz.len
  have Hs := Lib.hid hz
  have Hst := Lib.hid hstep
  obtain ⟨⟨a, cap, rfl, _⟩, _, _⟩ := hz
  rw [hl1] at Hs ⊢
  clear hl1 hstep
  go_enter Tryd.func56, Tryd.ntmps56
  go_wp2
  go_loopw [8] (fun i wr => ∃ k : Nat, k ≤ L.length ∧ i = .int .i64 k ∧ Hid (∀ i, i < k → p i = false) ∧ Below w.heap.size w wr) (fun i _ => L.length - (Go.RowKit.intOf i).toNat)
  case atStart => exact ⟨0, Nat.zero_le _, rfl, Lib.hid (fun i h => absurd h (by omega)), Below.refl _ _⟩
  case round =>
    obtain ⟨k, hk, rfl, hall, hB⟩ := hrel
    by_cases hlt : k < L.length
    · have hltI : (k : Int) < (L.length : Int) := by omega
      have hs := Hs.out.ext hB
      obtain ⟨b, off, rfl⟩ := hs.out.addr (by rw [hs.len]; omega)
      obtain ⟨s, -, hr0, hk1, he⟩ := zones_row Hs.out hlt
      have hS := Hst.out k hlt s hr0 wr hB
      obtain ⟨c0, c1, c2, c3⟩ := Zones_at hs hk1
      rw [he] at c0 c1 c2 c3
      clear hs hr0 he
      generalize L[k].1 = f at *
      obtain ⟨x0, x1, x2⟩ := f
      obtain ⟨sa, sl, sc⟩ := s
      simp only [ZoneR.cells, SV.v] at *
      have hall2 := Lib.hid (fun (h0 : p k = false) => (show ∀ i, i < k + 1 → p i = false from fun i hi => by
        by_cases e : i = k
        · rw [e]; exact h0
        · exact hall.out i (by omega)))
      have htr := Lib.hid (fun (h0 : p k = true) => (show FirstI p L.length (k : Int) from .inr ⟨k, hlt, rfl, h0, hall.out⟩))
      generalize p k = pk at *
      have hS := Lib.hid hS
      go_wp2_with fail
      refine hS.out.mono ?_
      rintro e w1 ⟨rfl, b1⟩
      have hB1 := hB.trans (b1.mono hB.size)
      cases pk
      · have hall3 := Lib.hid (hall2.out rfl)
        go_wp2_with fail
        go_roundw
        case rel => exact ⟨k + 1, by omega, by go_num, hall3, hB1⟩
        case measure => simp [Go.RowKit.intOf]; omega
      · have hfin := htr.out rfl
        go_wp2_with fail
        go_ret
        exact ⟨k, rfl, hfin, hB1⟩
    · have hfin : FirstI p L.length (-1) := .inl ⟨rfl, fun i hi => hall.out i (by omega)⟩
      go_wp2_with fail
      go_ret
      exact ⟨-1, rfl, hfin, hB⟩
set_option maxRecDepth 100000 in
set_option maxHeartbeats 4000000 in
theorem impl_ZxF (v : Value) (rs : List ZoneR) (L : ZonesL) (lo hi : Nat) (q0 q1 q2 : Nat) (p : Nat → Bool) (w : World) (hz : Zones lo hi w v rs L) (hln : L.length ≤ 1024)
    (hstep : ∀ k (hk : k < L.length) (s : SV), Pnts lo hi w s.v L[k].2 → ∀ W, Below w.heap.size w W → Calls Tryd.prog 57 #[.agg (ZoneR.cells ⟨L[k].1, s⟩).toArray, .pointer (some ⟨q0, 0, none⟩), .pointer (some ⟨q1, 0, none⟩), .pointer (some ⟨q2, 0, none⟩)] W fun e w' => e = .returned (.bool (p k)) ∧ Below W.heap.size W w') :
    Calls Tryd.prog 56 #[v, .func (.func 57) #[] #[.pointer (some ⟨q0, 0, none⟩), .pointer (some ⟨q1, 0, none⟩), .pointer (some ⟨q2, 0, none⟩)]] w (ZxOut p L.length w) := by
  have hl1 := hz.len
  have Hs := Lib.hid hz
  have Hst := Lib.hid hstep
  obtain ⟨⟨a, cap, rfl, _⟩, _, _⟩ := hz
  rw [hl1] at Hs ⊢
  clear hl1 hstep
  go_enter Tryd.func56, Tryd.ntmps56
  go_wp2
  go_loopw [8] (fun i wr => ∃ k : Nat, k ≤ L.length ∧ i = .int .i64 k ∧ Hid (∀ i, i < k → p i = false) ∧ Below w.heap.size w wr) (fun i _ => L.length - (Go.RowKit.intOf i).toNat)
  case atStart => exact ⟨0, Nat.zero_le _, rfl, Lib.hid (fun i h => absurd h (by omega)), Below.refl _ _⟩
  case round =>
    obtain ⟨k, hk, rfl, hall, hB⟩ := hrel
    by_cases hlt : k < L.length
    · have hltI : (k : Int) < (L.length : Int) := by omega
      have hs := Hs.out.ext hB
      obtain ⟨b, off, rfl⟩ := hs.out.addr (by rw [hs.len]; omega)
      obtain ⟨s, -, hr0, hk1, he⟩ := zones_row Hs.out hlt
      have hS := Hst.out k hlt s hr0 wr hB
      obtain ⟨c0, c1, c2, c3⟩ := Zones_at hs hk1
      rw [he] at c0 c1 c2 c3
      clear hs hr0 he
      generalize L[k].1 = f at *
      obtain ⟨x0, x1, x2⟩ := f
      obtain ⟨sa, sl, sc⟩ := s
      simp only [ZoneR.cells, SV.v] at *
      have hall2 := Lib.hid (fun (h0 : p k = false) => (show ∀ i, i < k + 1 → p i = false from fun i hi => by
        by_cases e : i = k
        · rw [e]; exact h0
        · exact hall.out i (by omega)))
      have htr := Lib.hid (fun (h0 : p k = true) => (show FirstI p L.length (k : Int) from .inr ⟨k, hlt, rfl, h0, hall.out⟩))
      generalize p k = pk at *
      have hS := Lib.hid hS
      go_wp2_with fail
      refine hS.out.mono ?_
      rintro e w1 ⟨rfl, b1⟩
      have hB1 := hB.trans (b1.mono hB.size)
      cases pk
      · have hall3 := Lib.hid (hall2.out rfl)
        go_wp2_with fail
        go_roundw
        case rel => exact ⟨k + 1, by omega, by go_num, hall3, hB1⟩
        case measure => simp [Go.RowKit.intOf]; omega
      · have hfin := htr.out rfl
        go_wp2_with fail
        go_ret
        exact ⟨k, rfl, hfin, hB1⟩
    · have hfin : FirstI p L.length (-1) := .inl ⟨rfl, fun i hi => hall.out i (by omega)⟩
      go_wp2_with fail
      go_ret
      exact ⟨-1, rfl, hfin, hB⟩
set_option maxRecDepth 100000 in
set_option maxHeartbeats 4000000 in
theorem impl_ZxJ (v : Value) (rs : List ZoneR) (L : ZonesL) (lo hi : Nat) (q0 q1 : Nat) (p : Nat → Bool) (w : World) (hz : Zones lo hi w v rs L) (hln : L.length ≤ 1024)
    (hstep : ∀ k (hk : k < L.length) (s : SV), Pnts lo hi w s.v L[k].2 → ∀ W, Below w.heap.size w W → Calls Tryd.prog 47 #[.agg (ZoneR.cells ⟨L[k].1, s⟩).toArray, .pointer (some ⟨q0, 0, none⟩), .pointer (some ⟨q1, 0, none⟩)] W fun e w' => e = .returned (.bool (p k)) ∧ Below W.heap.size W w') :
    Calls Tryd.prog 56 #[v, .func (.func 47) #[] #[.pointer (some ⟨q0, 0, none⟩), .pointer (some ⟨q1, 0, none⟩)]] w (ZxOut p L.length w) := by
  have hl1 := hz.len
  have Hs := Lib.hid hz
  have Hst := Lib.hid hstep
  obtain ⟨⟨a, cap, rfl, _⟩, _, _⟩ := hz
  rw [hl1] at Hs ⊢
  clear hl1 hstep
  go_enter Tryd.func56, Tryd.ntmps56
  go_wp2
  go_loopw [8] (fun i wr => ∃ k : Nat, k ≤ L.length ∧ i = .int .i64 k ∧ Hid (∀ i, i < k → p i = false) ∧ Below w.heap.size w wr) (fun i _ => L.length - (Go.RowKit.intOf i).toNat)
  case atStart => exact ⟨0, Nat.zero_le _, rfl, Lib.hid (fun i h => absurd h (by omega)), Below.refl _ _⟩
  case round =>
    obtain ⟨k, hk, rfl, hall, hB⟩ := hrel
    by_cases hlt : k < L.length
    · have hltI : (k : Int) < (L.length : Int) := by omega
      have hs := Hs.out.ext hB
      obtain ⟨b, off, rfl⟩ := hs.out.addr (by rw [hs.len]; omega)
      obtain ⟨s, -, hr0, hk1, he⟩ := zones_row Hs.out hlt
      have hS := Hst.out k hlt s hr0 wr hB
      obtain ⟨c0, c1, c2, c3⟩ := Zones_at hs hk1
      rw [he] at c0 c1 c2 c3
      clear hs hr0 he
      generalize L[k].1 = f at *
      obtain ⟨x0, x1, x2⟩ := f
      obtain ⟨sa, sl, sc⟩ := s
      simp only [ZoneR.cells, SV.v] at *
      have hall2 := Lib.hid (fun (h0 : p k = false) => (show ∀ i, i < k + 1 → p i = false from fun i hi => by
        by_cases e : i = k
        · rw [e]; exact h0
        · exact hall.out i (by omega)))
      have htr := Lib.hid (fun (h0 : p k = true) => (show FirstI p L.length (k : Int) from .inr ⟨k, hlt, rfl, h0, hall.out⟩))
      generalize p k = pk at *
      have hS := Lib.hid hS
      go_wp2_with fail
      refine hS.out.mono ?_
      rintro e w1 ⟨rfl, b1⟩
      have hB1 := hB.trans (b1.mono hB.size)
      cases pk
      · have hall3 := Lib.hid (hall2.out rfl)
        go_wp2_with fail
        go_roundw
        case rel => exact ⟨k + 1, by omega, by go_num, hall3, hB1⟩
        case measure => simp [Go.RowKit.intOf]; omega
      · have hfin := htr.out rfl
        go_wp2_with fail
        go_ret
        exact ⟨k, rfl, hfin, hB1⟩
    · have hfin : FirstI p L.length (-1) := .inl ⟨rfl, fun i hi => hall.out i (by omega)⟩
      go_wp2_with fail
      go_ret
      exact ⟨-1, rfl, hfin, hB⟩
/-- Some zone has it. -/
noncomputable def anyI (p : Nat → Bool) : Nat → Bool
  | 0 => false
  | n + 1 => anyI p n || p n
theorem anyI_f {p : Nat → Bool} : ∀ {n : Nat}, (∀ i, i < n → p i = false) → anyI p n = false
  | 0, _ => rfl
  | n + 1, h => by unfold anyI; rw [anyI_f (fun i hi => h i (by omega)), h n (by omega)]; rfl
theorem anyI_t {p : Nat → Bool} : ∀ {n j : Nat}, j < n → p j = true → anyI p n = true
  | 0, _, h, _ => absurd h (by omega)
  | n + 1, j, h, hp => by
    unfold anyI
    by_cases e : j = n
    · rw [← e, hp, Bool.or_true]
    · rw [anyI_t (by omega) hp, Bool.true_or]
theorem impl_AnyZ (v fv : Value) (p : Nat → Bool) (n : Nat) (w : World) (hI : Calls Tryd.prog 56 #[v, fv] w (ZxOut p n w)) :
    Calls Tryd.prog 46 #[v, fv] w fun e w' => e = .returned (.bool (anyI p n)) ∧ Below w.heap.size w w' := by
  have HI := Lib.hid hI
  clear hI
  go_enter Tryd.func46, Tryd.ntmps46
  go_wp2_with fail
  refine HI.out.mono ?_
  rintro e w1 ⟨r, rfl, hr, b1⟩
  rcases hr with ⟨rfl, hr⟩ | ⟨j, hj, rfl, hp, -⟩
  · go_wp2_with fail
    go_ret
    exact ⟨by rw [anyI_f hr]; rfl, b1⟩
  · have h2 : decide (0 ≤ (j : Int)) = true := decide_eq_true (Int.natCast_nonneg _)
    have h3 : (0 : Int) ≤ (j : Int) := Int.natCast_nonneg _
    go_wp2_with fail
    go_ret
    exact ⟨by rw [anyI_t hj hp]; rfl, b1⟩
/-- Zones that can be gone through: none longer than a bound. -/
noncomputable def badI (L : ZonesL) (k : Nat) : Bool := match L[k]? with | some x => !zoneB x.1 x.2 | none => false
theorem badI_at {L : ZonesL} {k : Nat} (hk : k < L.length) : badI L k = !zoneB L[k].1 L[k].2 := by unfold badI; rw [List.getElem?_eq_getElem hk]
set_option maxRecDepth 100000 in
theorem impl_VFn (f : ZoneF) (s : SV) (C : List Pnt) (lo hi : Nat) (w : World) (hh : Pnts lo hi w s.v C) (hhi : hi ≤ w.heap.size) (hl : C.length ≤ 1024) :
    Calls Tryd.prog 55 #[.agg (ZoneR.cells ⟨f, s⟩).toArray] w fun e w' => e = .returned (.bool (!zoneB f C)) ∧ Below w.heap.size w w' := by
  have hb0 : Below w.heap.size w (w.alloc (.cells #[.int .i64 (f).kind, .int .i64 (f).storeys, .int .i64 (f).each, (s).v] 33 (0, 0))) := (Below.refl _ _).alloc (Nat.le_refl _) _
  have hV := Lib.hid (impl_VZone f s C lo hi (w.alloc (.cells #[.int .i64 (f).kind, .int .i64 (f).storeys, .int .i64 (f).each, (s).v] 33 (0, 0))) (hh.ext hb0) (Nat.le_trans hhi hb0.size) hl)
  generalize zoneB f C = r at *
  obtain ⟨sa, sl, sc⟩ := s
  obtain ⟨x0, x1, x2⟩ := f
  simp only [SV.v, ZoneR.cells] at *
  clear hh hhi hl
  go_enter Tryd.func55, Tryd.ntmps55
  go_wp2_with fail
  refine hV.out.mono ?_
  rintro e w1 ⟨rfl, b1⟩
  go_wp2_with fail
  go_ret
  exact ⟨rfl, hb0.trans (b1.mono hb0.size)⟩
set_option maxRecDepth 100000 in
theorem impl_ZList (v : Value) (rs : List ZoneR) (L : ZonesL) (lo hi : Nat) (w : World) (hz : Zones lo hi w v rs L) (hhi : hi ≤ w.heap.size) (hsz : ZSz L) :
    Calls Tryd.prog 26 #[v] w fun e w' => e = .returned (.bool (zonesB L)) ∧ Below w.heap.size w w' := by
  obtain ⟨m, hm⟩ : ∃ m, m = zonesB L := ⟨_, rfl⟩
  have Hm := Lib.hid (show m = true ↔ zonesOk L by rw [hm]; exact zonesB_iff)
  rw [← hm]
  clear hm
  have hA := Lib.hid (impl_AnyZ v _ (badI L) L.length w (impl_ZxV v rs L lo hi 0 (badI L) w hz hsz.2 (fun k hk s hr W hb => by
    rw [badI_at hk]
    exact impl_VFn L[k].1 s L[k].2 lo hi W (hr.ext hb) (Nat.le_trans hhi hb.size) (hsz.1 _ (List.getElem_mem hk)))))
  have hl1 := hz.len
  have hln := hsz.2
  obtain ⟨⟨a, cap, rfl, _⟩, _, _⟩ := hz
  rw [hl1] at hA ⊢
  have Hany := Lib.hid (show L.length ≤ 10 → (m = !anyI (badI L) L.length) from fun h10 => by
    by_cases h : ∀ i, i < L.length → badI L i = false
    · rw [anyI_f h, Bool.not_false]
      exact Hm.out.2 ⟨fun x hx => by
        obtain ⟨i, hi, rfl⟩ := List.getElem_of_mem hx
        have := h i hi
        rw [badI_at hi] at this
        exact zoneB_iff.1 (by simpa using this), h10⟩
    · have hex : ∃ i, i < L.length ∧ badI L i = true := by
        refine Classical.byContradiction fun hno => h fun i hi => ?_
        cases hb : badI L i
        · rfl
        · exact absurd ⟨i, hi, hb⟩ hno
      obtain ⟨i, hi, hb⟩ := hex
      rw [anyI_t hi hb, Bool.not_true, ← Bool.not_eq_true]
      intro hm
      rw [badI_at hi, zoneB_t ((Hm.out.1 hm).1 _ (List.getElem_mem hi))] at hb
      cases hb)
  clear hl1 hsz hhi
  by_cases h10 : L.length ≤ 10
  · have hd : decide ((L.length : Int) ≤ 10) = true := decide_eq_true (by omega)
    have hd' : (L.length : Int) ≤ 10 := by omega
    have hm := Hany.out h10
    generalize anyI (badI L) L.length = r at *
    subst hm
    go_enter Tryd.func26, Tryd.ntmps26
    go_wp2_with fail
    refine hA.out.mono ?_
    rintro e w1 ⟨rfl, b1⟩
    go_wp2_with fail
    go_ret
    exact ⟨rfl, b1⟩
  · have hd : decide ((L.length : Int) ≤ 10) = false := decide_eq_false (by omega)
    have hd' : (10 : Int) < (L.length : Int) := by omega
    have hm : m = false := by
      rw [← Bool.not_eq_true]
      exact fun h => h10 (Hm.out.1 h).2
    subst hm
    go_enter Tryd.func26, Tryd.ntmps26
    go_wp2_with fail
    go_ret
    exact ⟨rfl, Below.refl _ _⟩
set_option maxRecDepth 100000 in
set_option maxHeartbeats 4000000 in
theorem impl_FbFn (f : ZoneF) (s : SV) (C : List Pnt) (lo hi q0 q1 q2 : Nat) (p q : Pnt) (h : Int) (w : World) (hh : Pnts lo hi w s.v C) (hhi : hi ≤ w.heap.size) (hl : C.length ≤ 1024) (hok : zoneOk f C) (hp : Crd p) (hq : Crd q)
    (h0 : w.heap[q0]? = some (.cells #[.int .i64 h] 2 (0, 0))) (h1 : w.heap[q1]? = some (.cells #[.int .i64 p.x, .int .i64 p.y] 26 (0, 0))) (h2 : w.heap[q2]? = some (.cells #[.int .i64 q.x, .int .i64 q.y] 26 (0, 0))) :
    Calls Tryd.prog 57 #[.agg (ZoneR.cells ⟨f, s⟩).toArray, .pointer (some ⟨q0, 0, none⟩), .pointer (some ⟨q1, 0, none⟩), .pointer (some ⟨q2, 0, none⟩)] w fun e w' => e = .returned (.bool (loadB f h && meetB C p q)) ∧ Below w.heap.size w w' := by
  have hb0 : Below w.heap.size w (w.alloc (.cells #[.int .i64 (f).kind, .int .i64 (f).storeys, .int .i64 (f).each, (s).v] 33 (0, 0))) := (Below.refl _ _).alloc (Nat.le_refl _) _
  have hL := Lib.hid (fun W => impl_bLoad f s h W hok.one)
  have hM := Lib.hid (fun W (hb : Below w.heap.size w W) => impl_ZMeets f s C lo hi p q W (hh.ext hb) (Nat.le_trans hhi hb.size) hl (fun c hc => pl_crd (hok.pl c hc)) hok.conv hp hq)
  have HX := Lib.hid (blkN_new w (.cells #[.int .i64 (f).kind, .int .i64 (f).storeys, .int .i64 (f).each, (s).v] 33 (0, 0)))
  have H1 := Lib.hid (blkN_below hb0 h1)
  have H2 := Lib.hid (blkN_below hb0 h2)
  have hq0 := (Array.getElem?_eq_some_iff.1 h0).1
  have g0 := (hb0.cell (p := ⟨q0, 0, none⟩) hq0).trans ((Lib.cell_of_heap h0 0).trans rfl)
  have x0 := (Lib.cell_of_heap HX.out 0).trans rfl
  have x1 := (Lib.cell_of_heap HX.out 1).trans rfl
  have x2 := (Lib.cell_of_heap HX.out 2).trans rfl
  have x3 := (Lib.cell_of_heap HX.out 3).trans rfl
  generalize loadB f h = r1 at *
  generalize meetB C p q = r2 at *
  obtain ⟨sa, sl, sc⟩ := s
  obtain ⟨y0, y1, y2⟩ := f
  obtain ⟨px, py⟩ := p
  obtain ⟨qx, qy⟩ := q
  simp only [SV.v, ZoneR.cells] at *
  clear hh hhi hl hok hp hq h0 h1 h2
  go_enter Tryd.func57, Tryd.ntmps57
  go_wp2_with fail
  refine (hL.out _).mono ?_
  rintro e w1 ⟨rfl, b1⟩
  have hB1 := hb0.trans (b1.mono hb0.size)
  cases r1
  · go_wp2_with fail
    go_ret
    exact ⟨rfl, hB1⟩
  · have HX1 := blkN_below b1 HX.out
    have H11 := blkN_below b1 H1.out
    have H21 := blkN_below b1 H2.out
    have z0 := (Lib.cell_of_heap HX1 0).trans rfl
    have z1 := (Lib.cell_of_heap HX1 1).trans rfl
    have z2 := (Lib.cell_of_heap HX1 2).trans rfl
    have z3 := (Lib.cell_of_heap HX1 3).trans rfl
    have c0 := (Lib.cell_of_heap H11 0).trans rfl
    have c1 := (Lib.cell_of_heap H11 1).trans rfl
    have d0 := (Lib.cell_of_heap H21 0).trans rfl
    have d1 := (Lib.cell_of_heap H21 1).trans rfl
    clear HX1 H11 H21 x0 x1 x2 x3 g0
    go_wp2_with fail
    refine (hM.out _ hB1).mono ?_
    rintro e w2 ⟨rfl, b2⟩
    go_wp2_with fail
    go_ret
    exact ⟨rfl, hB1.trans (b2.mono hB1.size)⟩
theorem three (w : World) (o0 o1 o2 : Obj) : ∃ W, ((w.alloc o0).alloc o1).alloc o2 = W ∧ W.heap[w.heap.size]? = some o0 ∧ W.heap[w.heap.size + 1]? = some o1 ∧ W.heap[w.heap.size + 1 + 1]? = some o2 ∧ Below w.heap.size w W := by
  have n1 := boxA_1 w o0 o1
  have n2 := boxA_1 (w.alloc o0) o1 o2
  simp only [World.size_alloc] at n2
  exact ⟨_, rfl, upA _ (upA _ (blkN_new w o0)), upA _ n1, n2, (((Below.refl _ _).alloc (Nat.le_refl _) _).alloc (by simp) _).alloc (by simp; omega) _⟩
set_option maxRecDepth 100000 in
set_option maxHeartbeats 4000000 in
theorem impl_first (v : Value) (rs : List ZoneR) (L : ZonesL) (lo hi : Nat) (p q : Pnt) (h : Int) (w : World) (hz : Zones lo hi w v rs L) (hhi : hi ≤ w.heap.size) (hsz : ZSz L) (hok : zonesOk L) (hp : Crd p) (hq : Crd q) :
    Calls Tryd.prog 29 #[v, .agg #[.int .i64 (p).x, .int .i64 (p).y], .agg #[.int .i64 (q).x, .int .i64 (q).y], .int .i64 h] w (ZxOut (blkB L p q h) L.length w) := by
  obtain ⟨W0, hW0, x0, x1, x2, hb0⟩ := three w (.cells #[.int .i64 p.x, .int .i64 p.y] 26 (0, 0)) (.cells #[.int .i64 q.x, .int .i64 q.y] 26 (0, 0)) (.cells #[.int .i64 h] 2 (0, 0))
  have hA := impl_ZxF v rs L lo hi (w.heap.size + 1 + 1) w.heap.size (w.heap.size + 1) (blkB L p q h) W0 (hz.ext hb0) hsz.2 (fun k hk s hr W hb => by
    rw [blkB_at hk]
    exact impl_FbFn L[k].1 s L[k].2 lo hi _ _ _ p q h W (hr.ext hb) (Nat.le_trans hhi (Nat.le_trans hb0.size hb.size)) (hsz.1 _ (List.getElem_mem hk)) (hok.1 _ (List.getElem_mem hk)) hp hq (blkN_below hb x2) (blkN_below hb x0) (blkN_below hb x1))
  have HA := Lib.hid hA
  have hln : ∃ a cap, v = .slice a L.length cap := by obtain ⟨a, cap, hv, _⟩ := hz.out; exact ⟨a, cap, by rw [← hz.len]; exact hv⟩
  obtain ⟨a, cap, rfl⟩ := hln
  obtain ⟨px, py⟩ := p
  obtain ⟨qx, qy⟩ := q
  dsimp only at *
  clear hz hhi hsz hok hp hq hA x0 x1 x2
  go_enter Tryd.func29, Tryd.ntmps29
  go_wp2_with fail
  (try rw [hW0])
  refine HA.out.mono ?_
  rintro e w1 ⟨r, rfl, hr, b1⟩
  go_wp2_with fail
  go_ret
  exact ⟨r, rfl, hr, hb0.trans (b1.mono hb0.size)⟩
set_option maxRecDepth 100000 in
set_option maxHeartbeats 8000000 in
theorem impl_First (v : Value) (rs : List ZoneR) (L : ZonesL) (lo hi : Nat) (p q : Pnt) (h : Int) (w : World) (hz : Zones lo hi w v rs L) (hhi : hi ≤ w.heap.size) (hsz : ZSz L) :
    Calls Tryd.prog 6 #[v, .agg #[.int .i64 (p).x, .int .i64 (p).y], .agg #[.int .i64 (q).x, .int .i64 (q).y], .int .i64 h] w (FbOut L p q h w) := by
  have HV := Lib.hid (fun W (hb : Below w.heap.size w W) => impl_ZList v rs L lo hi W (hz.ext hb) (Nat.le_trans hhi hb.size) hsz)
  have HP := Lib.hid (fun W => impl_Pl p.x p.y W)
  have HQ := Lib.hid (fun W => impl_Pl q.x q.y W)
  have HH := Lib.hid (fun W => impl_High h W)
  have HF := Lib.hid (fun (h1 : zonesOk L) (h2 : Pl p.x p.y) (h3 : Pl q.x q.y) W (hb : Below w.heap.size w W) => impl_first v rs L lo hi p q h W (hz.ext hb) (Nat.le_trans hhi hb.size) hsz h1 (pl_crd h2) (pl_crd h3))
  have hln : ∃ a cap, v = .slice a L.length cap := by obtain ⟨a, cap, hv, _⟩ := hz.out; exact ⟨a, cap, by rw [← hz.len]; exact hv⟩
  obtain ⟨a, cap, rfl⟩ := hln
  clear hz hhi hsz
  obtain ⟨px, py⟩ := p
  obtain ⟨qx, qy⟩ := q
  dsimp only at *
  have hb0 : Below w.heap.size w ((w.alloc (.cells #[.int .i64 px, .int .i64 py] 26 (0, 0))).alloc (.cells #[.int .i64 qx, .int .i64 qy] 26 (0, 0))) := ((Below.refl _ _).alloc (Nat.le_refl _) _).alloc (by simp) _
  have hX := Lib.hid (blkN_below ((Below.refl _ _).alloc (Nat.le_refl _) (.cells #[.int .i64 qx, .int .i64 qy] 26 (0, 0))) (blkN_new w (.cells #[.int .i64 px, .int .i64 py] 26 (0, 0))))
  have hY := Lib.hid (boxA_1 w (.cells #[.int .i64 px, .int .i64 py] 26 (0, 0)) (.cells #[.int .i64 qx, .int .i64 qy] 26 (0, 0)))
  go_enter Tryd.func6, Tryd.ntmps6
  go_wp2_with fail
  generalize (w.alloc (.cells #[.int .i64 px, .int .i64 py] 26 (0, 0))).alloc (.cells #[.int .i64 qx, .int .i64 qy] 26 (0, 0)) = w0 at *
  refine (HV.out _ hb0).mono ?_
  rintro e w1 ⟨rfl, hb1⟩
  have hX := Lib.hid (blkN_below hb1 hX.out)
  have hY := Lib.hid (blkN_below hb1 hY.out)
  have hB1 := hb0.trans (hb1.mono hb0.size)
  obtain ⟨e0, e1⟩ := cells2z hX.out
  clear hb1 hb0 HV
  by_cases hzs : zonesOk L
  · rw [zonesB_t hzs]
    have Hzs := Lib.hid hzs
    clear hzs
    go_wp2_with fail
    refine (HP.out _).mono ?_
    rintro e w2 ⟨rfl, hb2⟩
    have hX := Lib.hid (blkN_below hb2 hX.out)
    have hY := Lib.hid (blkN_below hb2 hY.out)
    have hB2 := hB1.trans (hb2.mono hB1.size)
    clear e0 e1
    obtain ⟨f0, f1⟩ := cells2z hY.out
    clear hb2 hB1 HP
    by_cases hpl : Pl px py
    · rw [decide_eq_true hpl]
      have Hpl := Lib.hid hpl
      clear hpl
      go_wp2_with fail
      refine (HQ.out _).mono ?_
      rintro e w3 ⟨rfl, hb3⟩
      have hX := Lib.hid (blkN_below hb3 hX.out)
      have hY := Lib.hid (blkN_below hb3 hY.out)
      have hB3 := hB2.trans (hb3.mono hB2.size)
      clear f0 f1 hb3 hB2 HQ
      by_cases hql : Pl qx qy
      · rw [decide_eq_true hql]
        have Hql := Lib.hid hql
        clear hql
        go_wp2_with fail
        refine (HH.out _).mono ?_
        rintro e _ ⟨rfl, rfl⟩
        cases hhi : highB h
        · go_wp2_with fail
          go_ret2
          exact ⟨0, 2, rfl, .inr (.inl ⟨⟨Hzs.out, Hpl.out, Hql.out⟩, hhi, rfl, rfl⟩), hB3⟩
        · have Hhi := Lib.hid hhi
          clear hhi HH
          have hF := Lib.hid (HF.out Hzs.out Hpl.out Hql.out w3 hB3)
          obtain ⟨e0, e1⟩ := cells2z hX.out
          obtain ⟨f0, f1⟩ := cells2z hY.out
          go_wp2_with fail
          refine hF.out.mono ?_
          rintro e w4 ⟨r, rfl, hr, b4⟩
          have hfin : FbR L ⟨px, py⟩ ⟨qx, qy⟩ h r 0 := .inl ⟨⟨Hzs.out, Hpl.out, Hql.out⟩, Hhi.out, rfl, hr⟩
          clear e0 e1 f0 f1
          go_wp2_with fail
          go_ret2
          exact ⟨r, 0, rfl, hfin, hB3.trans (b4.mono hB3.size)⟩
      · rw [decide_eq_false hql]
        have hno : ¬ (zonesOk L ∧ Pl px py ∧ Pl qx qy) := fun h => hql h.2.2
        clear hql
        go_wp2_with fail
        go_ret2
        exact ⟨0, 1, rfl, .inr (.inr ⟨hno, rfl, rfl⟩), hB3⟩
    · rw [decide_eq_false hpl]
      have hno : ¬ (zonesOk L ∧ Pl px py ∧ Pl qx qy) := fun h => hpl h.2.1
      clear hpl
      go_wp2_with fail
      go_ret2
      exact ⟨0, 1, rfl, .inr (.inr ⟨hno, rfl, rfl⟩), hB2⟩
  · rw [zonesB_f hzs]
    have hno : ¬ (zonesOk L ∧ Pl px py ∧ Pl qx qy) := fun h => hzs h.1
    clear hzs
    go_wp2_with fail
    go_ret2
    exact ⟨0, 1, rfl, .inr (.inr ⟨hno, rfl, rfl⟩), hB1⟩
set_option maxRecDepth 100000 in
set_option maxHeartbeats 4000000 in
theorem impl_Line (f : ZoneF) (s : SV) (C : List Pnt) (lo hi : Nat) (p q : Pnt) (w : World) (hh : Pnts lo hi w s.v C) (hhi : hi ≤ w.heap.size) (hl : C.length ≤ 1024) (hok : zoneOk f C) (hp : Pl p.x p.y) (hq : Pl q.x q.y) :
    Calls Tryd.prog 19 #[.agg (ZoneR.cells ⟨f, s⟩).toArray, .agg #[.int .i64 (p).x, .int .i64 (p).y], .agg #[.int .i64 (q).x, .int .i64 (q).y]] w fun e w' => e = .returned (.tuple #[.bool (meetB C p q), .int .i64 0]) ∧ Below w.heap.size w w' := by
  obtain ⟨W0, hW0, x0, x1, x2, hb0⟩ := three w (.cells #[.int .i64 (f).kind, .int .i64 (f).storeys, .int .i64 (f).each, (s).v] 33 (0, 0)) (.cells #[.int .i64 p.x, .int .i64 p.y] 26 (0, 0)) (.cells #[.int .i64 q.x, .int .i64 q.y] 26 (0, 0))
  have hV := impl_VZone f s C lo hi W0 (hh.ext hb0) (Nat.le_trans hhi hb0.size) hl
  rw [zoneB_t hok] at hV
  have hV := Lib.hid hV
  have hP := fun W => impl_Pl p.x p.y W
  have hQ := fun W => impl_Pl q.x q.y W
  rw [decide_eq_true hp] at hP
  rw [decide_eq_true hq] at hQ
  have hP := Lib.hid hP
  have hQ := Lib.hid hQ
  have hM := Lib.hid (fun W (hb : Below w.heap.size w W) => impl_ZMeets f s C lo hi p q W (hh.ext hb) (Nat.le_trans hhi hb.size) hl (fun c hc => pl_crd (hok.pl c hc)) hok.conv (pl_crd hp) (pl_crd hq))
  generalize meetB C p q = r at *
  have c0 := (Lib.cell_of_heap x0 0).trans rfl
  have c1 := (Lib.cell_of_heap x0 1).trans rfl
  have c2 := (Lib.cell_of_heap x0 2).trans rfl
  have c3 := (Lib.cell_of_heap x0 3).trans rfl
  have HX := Lib.hid (And.intro x0 (And.intro x1 x2))
  obtain ⟨sa, sl, sc⟩ := s
  obtain ⟨y0, y1, y2⟩ := f
  obtain ⟨px, py⟩ := p
  obtain ⟨qx, qy⟩ := q
  simp only [SV.v, ZoneR.cells] at *
  clear hh hhi hl hok hp hq x0 x1 x2
  go_enter Tryd.func19, Tryd.ntmps19
  go_wp2_with fail
  (try rw [hW0])
  refine hV.out.mono ?_
  rintro e w1 ⟨rfl, b1⟩
  have HX := Lib.hid (And.intro (blkN_below b1 HX.out.1) (And.intro (blkN_below b1 HX.out.2.1) (blkN_below b1 HX.out.2.2)))
  have hB1 := hb0.trans (b1.mono hb0.size)
  obtain ⟨e0, e1⟩ := cells2z HX.out.2.1
  clear c0 c1 c2 c3 b1 hb0
  go_wp2_with fail
  refine (hP.out _).mono ?_
  rintro e w2 ⟨rfl, b2⟩
  have HX := Lib.hid (And.intro (blkN_below b2 HX.out.1) (And.intro (blkN_below b2 HX.out.2.1) (blkN_below b2 HX.out.2.2)))
  have hB2 := hB1.trans (b2.mono hB1.size)
  clear e0 e1 b2 hB1
  obtain ⟨f0, f1⟩ := cells2z HX.out.2.2
  go_wp2_with fail
  refine (hQ.out _).mono ?_
  rintro e w3 ⟨rfl, b3⟩
  have HX := Lib.hid (And.intro (blkN_below b3 HX.out.1) (And.intro (blkN_below b3 HX.out.2.1) (blkN_below b3 HX.out.2.2)))
  have hB3 := hB2.trans (b3.mono hB2.size)
  clear f0 f1 b3 hB2
  obtain ⟨f0, f1⟩ := cells2z HX.out.2.2
  obtain ⟨e0, e1⟩ := cells2z HX.out.2.1
  have c0 := (Lib.cell_of_heap HX.out.1 0).trans rfl
  have c1 := (Lib.cell_of_heap HX.out.1 1).trans rfl
  have c2 := (Lib.cell_of_heap HX.out.1 2).trans rfl
  have c3 := (Lib.cell_of_heap HX.out.1 3).trans rfl
  go_wp2_with fail
  refine (hM.out _ hB3).mono ?_
  rintro e w4 ⟨rfl, b4⟩
  clear f0 f1 e0 e1 c0 c1 c2 c3
  go_wp2_with fail
  go_ret2
  exact ⟨rfl, hB3.trans (b4.mono hB3.size)⟩
end Go.Proofs.YtpabbehpkokhbaaDoor
