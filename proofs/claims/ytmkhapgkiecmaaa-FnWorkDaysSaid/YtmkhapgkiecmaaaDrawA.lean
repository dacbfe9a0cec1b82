/- The draws of the laws on inspections. -/
import Derived.Test.YtmkhapgkiecmaaaDrawB
import Derived.OwnWalk
namespace Go.Proofs.Ytmkhapgkiecmaaa
open Go.RowKit
theorem Sl.modA {α : Type} {n : Nat} {c : α → List Value} {lo hi b : Nat} {w w' : World} {v : Value} {l : List α} (h : Sl n c lo hi w v l) (hm : Mod b (b + 1) w w') (hhi : hi ≤ w.heap.size) (hb : b + 1 ≤ lo) : Sl n c lo w'.heap.size w' v l := (h.keep (hm.same hhi (.inr hb))).mono (Nat.le_refl _) (Nat.le_trans hhi hm.size)
theorem results_tmp4 {fn : Func} {t u v x : Tmp} (h : fn.results = #[.tmp t, .tmp u, .tmp v, .tmp x]) (tmps : Array Value) (P : Program) (w : World) :
    (results fn tmps).run P w = .ok (.tuple #[tmps.getD t undef, tmps.getD u undef, tmps.getD v undef, tmps.getD x undef]) w := by
  simp [results, h]
def AllOut (w : World) (e : Ending) (w' : World) : Prop :=
  ∃ vc lc vf lf crane day, e = .returned (.tuple #[vc, vf, .int .i64 crane, .int .i64 day]) ∧ Sl 4 Chk.cells (w.heap.size + 1) w'.heap.size w' vc lc ∧ (∀ f ∈ lc, f.wf) ∧ lc.length ≤ 40 ∧ Sl 4 Fnd.cells (w.heap.size + 1) w'.heap.size w' vf lf ∧ (∀ f ∈ lf, f.wf) ∧ lf.length ≤ 61 ∧ I64 crane ∧ I64 day ∧ Below w.heap.size w w'
set_option maxRecDepth 100000 in
set_option maxHeartbeats 8000000 in
theorem draw_All (v : Value) (l : List UInt8) (hi : Nat) (w : World) (h : Sl 1 byteC 0 hi w v l) (hhi : hi ≤ w.heap.size) (hl : l.length ≤ 1048576) : Calls Try.prog 40 #[v] w (AllOut w) := by
  have hf := Lib.hid (src_from v l hi w h hhi hl)
  have hp := Lib.hid (fun A w' h hA n hn => src_pick w.heap.size A n w' h hA hn)
  have ho := Lib.hid (fun A w' h hA n hn => src_one w.heap.size A n w' h hA hn)
  obtain ⟨a, cap, rfl, _⟩ := h
  go_enter Try.func40, Try.ntmps40
  go_wp2_with fail
  refine hf.out.mono ?_
  rintro e w1 ⟨rfl, hs1, hb1⟩
  have hd := Lib.hid (draw_Bent w.heap.size 0 w1 hs1 (by omega))
  have hB1 := Lib.hid hb1
  have hlt := hs1.lt
  clear hs1 hb1 hf
  go_wp2_with fail
  refine hd.out.mono ?_
  rintro e w2 ⟨vc, lc, rfl, hc2, hwc, hlc, hs2, hm2⟩
  have hwc := Lib.hid hwc
  have hS2 := Lib.hid hs2
  have hB2 := Lib.hid (hB1.out.trans (hm2.below (Nat.le_refl _) hB1.out.size))
  have hC2 := Lib.hid (hc2.1.mono (lo' := w.heap.size + 1) (by omega) (Nat.le_refl _))
  clear hs2 hm2 hc2 hd hB1
  go_wp2_with fail
  refine (ho.out _ _ hS2.out (by omega) 2 (by omega)).mono ?_
  rintro e w3 ⟨yes, rfl, hs3, hm3⟩
  have hS3 := Lib.hid hs3
  have hC3 := Lib.hid (hC2.out.modA hm3 (Nat.le_refl _) (Nat.le_refl _))
  have hB3 := Lib.hid (hB2.out.trans (hm3.below (Nat.le_refl _) hB2.out.size))
  have hlt3 := hs3.lt
  clear hs3 hm3 hS2 hC2 hB2
  cases yes with
  | true =>
    have hba := (Below.refl w3.heap.size w3).alloc (Nat.le_refl _) (.cells #[] 106 (0, 0))
    have hS3b := Lib.hid (hS3.out.below hba)
    have hB3b := Lib.hid (hB3.out.trans (hba.mono hB3.out.size))
    have hC3b : Hid (Sl 4 Chk.cells (w.heap.size + 1) (w3.alloc (.cells #[] 106 (0, 0))).heap.size (w3.alloc (.cells #[] 106 (0, 0))) (.slice (some ⟨w3.heap.size, 0, none⟩) 0 0) []) := Lib.hid ⟨_, _, rfl, by simp, by simp⟩
    have hwc : Hid (∀ f ∈ ([] : List Chk), f.wf) := Lib.hid (by simp)
    have hlc : ([] : List Chk).length ≤ 40 := by simp
    clear hba hS3 hB3 hC3
    have hd4 := Lib.hid (draw_Findings w.heap.size _ _ hS3b.out (by omega))
    go_wp2_with fail
    refine hd4.out.mono ?_
    rintro e w4 ⟨vf, lf, rfl, hf4, hwf, hlf, hs4, hm4⟩
    have hwf := Lib.hid hwf
    have hS4 := Lib.hid hs4
    have hC4 := Lib.hid (hC3b.out.modA hm4 (Nat.le_refl _) (Nat.le_refl _))
    have hB4 := Lib.hid (hB3b.out.trans (hm4.below (Nat.le_refl _) hB3b.out.size))
    have hF4 := Lib.hid (hf4.1.mono (lo' := w.heap.size + 1) (by have := hS3b.out.lt; omega) (Nat.le_refl _))
    clear hs4 hm4 hf4 hd4
    go_wp2_with fail
    refine (hp.out _ _ hS4.out (by omega) 2 (by omega)).mono ?_
    rintro e w5 ⟨cr, rfl, ⟨hcr, _⟩, hs5, hm5⟩
    have hS5 := Lib.hid hs5
    have hC5 := Lib.hid (hC4.out.modA hm5 (Nat.le_refl _) (Nat.le_refl _))
    have hF5 := Lib.hid (hF4.out.modA hm5 (Nat.le_refl _) (Nat.le_refl _))
    have hB5 := Lib.hid (hB4.out.trans (hm5.below (Nat.le_refl _) hB4.out.size))
    clear hs5 hm5 hS4 hC4 hF4 hB4
    go_wp2_with fail
    refine (ho.out _ _ hS5.out (by omega) 12 (by omega)).mono ?_
    rintro e w6 ⟨yy, rfl, hs6, hm6⟩
    have hS6 := Lib.hid hs6
    have hC6 := Lib.hid (hC5.out.modA hm6 (Nat.le_refl _) (Nat.le_refl _))
    have hF6 := Lib.hid (hF5.out.modA hm6 (Nat.le_refl _) (Nat.le_refl _))
    have hB6 := Lib.hid (hB5.out.trans (hm6.below (Nat.le_refl _) hB5.out.size))
    have hlt6 := hs6.lt
    clear hs6 hm6 hS5 hC5 hF5 hB5
    cases yy with
    | true =>
      have hba := (Below.refl w6.heap.size w6).alloc (Nat.le_refl _) (.cells #[.int .i64 (-1), .int .i64 5, .int .i64 6] 2)
      have hal := Lib.hid (src_among w.heap.size _ (.slice (some ⟨w6.heap.size, 0, none⟩) 3 3) [-1, 5, 6] _ _ _ (hS6.out.below hba) (by omega) (by simp) (sl_lit intCells_len _ w6 2 (cs := #[.int .i64 (-1), .int .i64 5, .int .i64 6]) rfl (m := 3) rfl (by simp)) (.inr hlt6) (by simp))
      have hC7 := Lib.hid ((hC6.out.ext hba).mono (Nat.le_refl _) hba.size)
      have hF7 := Lib.hid ((hF6.out.ext hba).mono (Nat.le_refl _) hba.size)
      have hB7 := Lib.hid (hB6.out.trans (hba.mono hB6.out.size))
      clear hba hS6 hC6 hF6 hB6
      go_wp2_with fail
      refine hal.out.mono ?_
      rintro e w8 ⟨x, hx, rfl, hs8, hm8⟩
      have hx2 : I64 x := by
        simp at hx
        unfold I64
        omega
      have hS8 := Lib.hid hs8
      have hC8 := Lib.hid (hC7.out.modA hm8 (Nat.le_refl _) (Nat.le_refl _))
      have hF8 := Lib.hid (hF7.out.modA hm8 (Nat.le_refl _) (Nat.le_refl _))
      have hB8 := Lib.hid (hB7.out.trans (hm8.below (Nat.le_refl _) hB7.out.size))
      clear hs8 hm8 hC7 hF7 hB7 hal hx
      go_wp2_with fail
      refine (draw_Day w.heap.size _ _ hS8.out (by omega)).mono ?_
      rintro e w9 ⟨dy, rfl, hdy, hs9, hm9⟩
      have hC9 := Lib.hid (hC8.out.modA hm9 (Nat.le_refl _) (Nat.le_refl _))
      have hF9 := Lib.hid (hF8.out.modA hm9 (Nat.le_refl _) (Nat.le_refl _))
      have hB9 := Lib.hid (hB8.out.trans (hm9.below (Nat.le_refl _) hB8.out.size))
      clear hs9 hm9
      go_wp2_with fail
      (try simp only [Exit.inBlock, Exit.then]); refine bodyPost_ret (results_tmp4 rfl _ _ _) rfl ?_
      exact ⟨_, _, _, _, _, _, rfl, hC9.out, hwc.out, hlc, hF9.out, hwf.out, hlf, hx2, hdy, hB9.out⟩
    | false =>
      go_wp2_with fail
      refine (draw_Day w.heap.size _ _ hS6.out (by omega)).mono ?_
      rintro e w9 ⟨dy, rfl, hdy, hs9, hm9⟩
      have hC9 := Lib.hid (hC6.out.modA hm9 (Nat.le_refl _) (Nat.le_refl _))
      have hF9 := Lib.hid (hF6.out.modA hm9 (Nat.le_refl _) (Nat.le_refl _))
      have hB9 := Lib.hid (hB6.out.trans (hm9.below (Nat.le_refl _) hB6.out.size))
      clear hs9 hm9
      go_wp2_with fail
      (try simp only [Exit.inBlock, Exit.then]); refine bodyPost_ret (results_tmp4 rfl _ _ _) rfl ?_
      exact ⟨_, _, _, _, _, _, rfl, hC9.out, hwc.out, hlc, hF9.out, hwf.out, hlf, ⟨by omega, by omega⟩, hdy, hB9.out⟩
  | false =>
    have hd4 := Lib.hid (draw_Findings w.heap.size _ _ hS3.out (by omega))
    go_wp2_with fail
    refine hd4.out.mono ?_
    rintro e w4 ⟨vf, lf, rfl, hf4, hwf, hlf, hs4, hm4⟩
    have hwf := Lib.hid hwf
    have hS4 := Lib.hid hs4
    have hC4 := Lib.hid (hC3.out.modA hm4 (Nat.le_refl _) (Nat.le_refl _))
    have hB4 := Lib.hid (hB3.out.trans (hm4.below (Nat.le_refl _) hB3.out.size))
    have hF4 := Lib.hid (hf4.1.mono (lo' := w.heap.size + 1) (by have := hS3.out.lt; omega) (Nat.le_refl _))
    clear hs4 hm4 hf4 hd4
    go_wp2_with fail
    refine (hp.out _ _ hS4.out (by omega) 2 (by omega)).mono ?_
    rintro e w5 ⟨cr, rfl, ⟨hcr, _⟩, hs5, hm5⟩
    have hS5 := Lib.hid hs5
    have hC5 := Lib.hid (hC4.out.modA hm5 (Nat.le_refl _) (Nat.le_refl _))
    have hF5 := Lib.hid (hF4.out.modA hm5 (Nat.le_refl _) (Nat.le_refl _))
    have hB5 := Lib.hid (hB4.out.trans (hm5.below (Nat.le_refl _) hB4.out.size))
    clear hs5 hm5 hS4 hC4 hF4 hB4
    go_wp2_with fail
    refine (ho.out _ _ hS5.out (by omega) 12 (by omega)).mono ?_
    rintro e w6 ⟨yy, rfl, hs6, hm6⟩
    have hS6 := Lib.hid hs6
    have hC6 := Lib.hid (hC5.out.modA hm6 (Nat.le_refl _) (Nat.le_refl _))
    have hF6 := Lib.hid (hF5.out.modA hm6 (Nat.le_refl _) (Nat.le_refl _))
    have hB6 := Lib.hid (hB5.out.trans (hm6.below (Nat.le_refl _) hB5.out.size))
    have hlt6 := hs6.lt
    clear hs6 hm6 hS5 hC5 hF5 hB5
    cases yy with
    | true =>
      have hba := (Below.refl w6.heap.size w6).alloc (Nat.le_refl _) (.cells #[.int .i64 (-1), .int .i64 5, .int .i64 6] 2)
      have hal := Lib.hid (src_among w.heap.size _ (.slice (some ⟨w6.heap.size, 0, none⟩) 3 3) [-1, 5, 6] _ _ _ (hS6.out.below hba) (by omega) (by simp) (sl_lit intCells_len _ w6 2 (cs := #[.int .i64 (-1), .int .i64 5, .int .i64 6]) rfl (m := 3) rfl (by simp)) (.inr hlt6) (by simp))
      have hC7 := Lib.hid ((hC6.out.ext hba).mono (Nat.le_refl _) hba.size)
      have hF7 := Lib.hid ((hF6.out.ext hba).mono (Nat.le_refl _) hba.size)
      have hB7 := Lib.hid (hB6.out.trans (hba.mono hB6.out.size))
      clear hba hS6 hC6 hF6 hB6
      go_wp2_with fail
      refine hal.out.mono ?_
      rintro e w8 ⟨x, hx, rfl, hs8, hm8⟩
      have hx2 : I64 x := by
        simp at hx
        unfold I64
        omega
      have hS8 := Lib.hid hs8
      have hC8 := Lib.hid (hC7.out.modA hm8 (Nat.le_refl _) (Nat.le_refl _))
      have hF8 := Lib.hid (hF7.out.modA hm8 (Nat.le_refl _) (Nat.le_refl _))
      have hB8 := Lib.hid (hB7.out.trans (hm8.below (Nat.le_refl _) hB7.out.size))
      clear hs8 hm8 hC7 hF7 hB7 hal hx
      go_wp2_with fail
      refine (draw_Day w.heap.size _ _ hS8.out (by omega)).mono ?_
      rintro e w9 ⟨dy, rfl, hdy, hs9, hm9⟩
      have hC9 := Lib.hid (hC8.out.modA hm9 (Nat.le_refl _) (Nat.le_refl _))
      have hF9 := Lib.hid (hF8.out.modA hm9 (Nat.le_refl _) (Nat.le_refl _))
      have hB9 := Lib.hid (hB8.out.trans (hm9.below (Nat.le_refl _) hB8.out.size))
      clear hs9 hm9
      go_wp2_with fail
      (try simp only [Exit.inBlock, Exit.then]); refine bodyPost_ret (results_tmp4 rfl _ _ _) rfl ?_
      exact ⟨_, _, _, _, _, _, rfl, hC9.out, hwc.out, hlc, hF9.out, hwf.out, hlf, hx2, hdy, hB9.out⟩
    | false =>
      go_wp2_with fail
      refine (draw_Day w.heap.size _ _ hS6.out (by omega)).mono ?_
      rintro e w9 ⟨dy, rfl, hdy, hs9, hm9⟩
      have hC9 := Lib.hid (hC6.out.modA hm9 (Nat.le_refl _) (Nat.le_refl _))
      have hF9 := Lib.hid (hF6.out.modA hm9 (Nat.le_refl _) (Nat.le_refl _))
      have hB9 := Lib.hid (hB6.out.trans (hm9.below (Nat.le_refl _) hB6.out.size))
      clear hs9 hm9
      go_wp2_with fail
      (try simp only [Exit.inBlock, Exit.then]); refine bodyPost_ret (results_tmp4 rfl _ _ _) rfl ?_
      exact ⟨_, _, _, _, _, _, rfl, hC9.out, hwc.out, hlc, hF9.out, hwf.out, hlf, ⟨by omega, by omega⟩, hdy, hB9.out⟩
set_option maxRecDepth 100000 in
set_option maxHeartbeats 8000000 in
theorem draw_FirstWorkDay (v : Value) (l : List UInt8) (hi : Nat) (w : World) (h : Sl 1 byteC 0 hi w v l) (hhi : hi ≤ w.heap.size) (hl : l.length ≤ 1048576) : Calls Try.prog 7 #[v] w (AllOut w) := by
  have hd := Lib.hid (draw_All v l hi w h hhi hl)
  obtain ⟨a, cap, rfl, _⟩ := h
  go_enter Try.func7, Try.ntmps7
  go_wp2_with fail
  refine hd.out.mono ?_
  rintro e w2 ⟨vc, lc, vf, lf, crane, day, rfl, h⟩
  have H := Lib.hid h
  clear h hd
  go_wp2_with fail
  (try simp only [Exit.inBlock, Exit.then]); refine bodyPost_ret (results_tmp4 rfl _ _ _) rfl ?_
  exact ⟨_, _, _, _, _, _, rfl, H.out⟩
def OpnOut (w : World) (e : Ending) (w' : World) : Prop :=
  ∃ vf lf day, e = .returned (.tuple #[vf, .int .i64 day]) ∧ Sl 4 Fnd.cells (w.heap.size + 1) w'.heap.size w' vf lf ∧ (∀ f ∈ lf, f.wf) ∧ lf.length ≤ 61 ∧ I64 day ∧ Below w.heap.size w w'
def ClsOut (w : World) (e : Ending) (w' : World) : Prop :=
  ∃ vf lf k day, e = .returned (.tuple #[vf, .int .i64 k, .int .i64 day]) ∧ Sl 4 Fnd.cells (w.heap.size + 1) w'.heap.size w' vf lf ∧ (∀ f ∈ lf, f.wf) ∧ lf.length ≤ 61 ∧ I64 k ∧ I64 day ∧ Below w.heap.size w w'
set_option maxRecDepth 100000 in
set_option maxHeartbeats 8000000 in
theorem draw_OpenFindings (v : Value) (l : List UInt8) (hi : Nat) (w : World) (h : Sl 1 byteC 0 hi w v l) (hhi : hi ≤ w.heap.size) (hl : l.length ≤ 1048576) : Calls Try.prog 12 #[v] w (OpnOut w) := by
  have hf := Lib.hid (src_from v l hi w h hhi hl)
  have hp := Lib.hid (fun A w' h hA n hn => src_pick w.heap.size A n w' h hA hn)
  obtain ⟨a, cap, rfl, _⟩ := h
  go_enter Try.func12, Try.ntmps12
  go_wp2_with fail
  refine hf.out.mono ?_
  rintro e w1 ⟨rfl, hs1, hb1⟩
  have hd := Lib.hid (draw_Findings w.heap.size 0 w1 hs1 (by omega))
  have hB1 := Lib.hid hb1
  have hlt := hs1.lt
  clear hs1 hb1 hf
  go_wp2_with fail
  refine hd.out.mono ?_
  rintro e w4 ⟨vf, lf, rfl, hf4, hwf, hlf, hs4, hm4⟩
  have hwf := Lib.hid hwf
  have hS4 := Lib.hid hs4
  have hB4 := Lib.hid (hB1.out.trans (hm4.below (Nat.le_refl _) hB1.out.size))
  have hF4 := Lib.hid (hf4.1.mono (lo' := w.heap.size + 1) (by omega) (Nat.le_refl _))
  clear hs4 hm4 hf4 hd hB1
  clear hp
  go_wp2_with fail
  refine (draw_Day w.heap.size _ _ hS4.out (by omega)).mono ?_
  rintro e w9 ⟨dy, rfl, hdy, hs9, hm9⟩
  have hF9 := Lib.hid (hF4.out.modA hm9 (Nat.le_refl _) (Nat.le_refl _))
  have hB9 := Lib.hid (hB4.out.trans (hm9.below (Nat.le_refl _) hB4.out.size))
  clear hs9 hm9
  go_wp2_with fail
  go_ret2
  exact ⟨_, _, _, rfl, hF9.out, hwf.out, hlf, hdy, hB9.out⟩
set_option maxRecDepth 100000 in
set_option maxHeartbeats 8000000 in
theorem draw_CloseFinding (v : Value) (l : List UInt8) (hi : Nat) (w : World) (h : Sl 1 byteC 0 hi w v l) (hhi : hi ≤ w.heap.size) (hl : l.length ≤ 1048576) : Calls Try.prog 15 #[v] w (ClsOut w) := by
  have hf := Lib.hid (src_from v l hi w h hhi hl)
  have hp := Lib.hid (fun A w' h hA n hn => src_pick w.heap.size A n w' h hA hn)
  obtain ⟨a, cap, rfl, _⟩ := h
  go_enter Try.func15, Try.ntmps15
  go_wp2_with fail
  refine hf.out.mono ?_
  rintro e w1 ⟨rfl, hs1, hb1⟩
  have hd := Lib.hid (draw_Findings w.heap.size 0 w1 hs1 (by omega))
  have hB1 := Lib.hid hb1
  have hlt := hs1.lt
  clear hs1 hb1 hf
  go_wp2_with fail
  refine hd.out.mono ?_
  rintro e w4 ⟨vf, lf, rfl, hf4, hwf, hlf, hs4, hm4⟩
  have hwf := Lib.hid hwf
  have hS4 := Lib.hid hs4
  have hB4 := Lib.hid (hB1.out.trans (hm4.below (Nat.le_refl _) hB1.out.size))
  have hF4 := Lib.hid (hf4.1.mono (lo' := w.heap.size + 1) (by omega) (Nat.le_refl _))
  clear hs4 hm4 hf4 hd hB1
  obtain ⟨fa, fc, fe, _⟩ := id hF4.out
  subst fe
  obtain ⟨na, hna⟩ : ∃ na, lf.length = na := ⟨_, rfl⟩
  rw [hna] at hlf hF4 ⊢
  have Hna := Lib.hid hna
  clear hna
  go_wp2_with fail
  refine (hp.out _ _ hS4.out (by omega) (na + 1) (by omega)).mono ?_
  rintro e w5 ⟨k1, rfl, ⟨hk1, _⟩, hs5, hm5⟩
  have hS5 := Lib.hid hs5
  have hF5 := Lib.hid (hF4.out.modA hm5 (Nat.le_refl _) (Nat.le_refl _))
  have hB5 := Lib.hid (hB4.out.trans (hm5.below (Nat.le_refl _) hB4.out.size))
  clear hs5 hm5 hS4 hF4 hB4
  go_wp2_with fail
  refine (hp.out _ _ hS5.out (by omega) 16 (by omega)).mono ?_
  rintro e w6 ⟨k2, rfl, ⟨hk2, _⟩, hs6, hm6⟩
  have hS6 := Lib.hid hs6
  have hF6 := Lib.hid (hF5.out.modA hm6 (Nat.le_refl _) (Nat.le_refl _))
  have hB6 := Lib.hid (hB5.out.trans (hm6.below (Nat.le_refl _) hB5.out.size))
  clear hs6 hm6 hS5 hF5 hB5
  go_wp2_with fail
  refine (draw_Day w.heap.size _ _ hS6.out (by omega)).mono ?_
  rintro e w9 ⟨dy, rfl, hdy, hs9, hm9⟩
  have hF9 := Lib.hid (hF6.out.modA hm9 (Nat.le_refl _) (Nat.le_refl _))
  have hB9 := Lib.hid (hB6.out.trans (hm9.below (Nat.le_refl _) hB6.out.size))
  clear hs9 hm9
  go_wp2_with fail
  go_ret3
  refine ⟨_, _, _, _, rfl, ?_, hwf.out, ?_, ?_, hdy, hB9.out⟩
  · exact hF9.out
  · rw [Hna.out]; exact hlf
  · unfold I64; omega
end Go.Proofs.Ytmkhapgkiecmaaa
