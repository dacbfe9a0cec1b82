/- Desks as they are made: the laws' comparing and marking. (Printed by gen_desk.py.) -/
import Derived.Test.YtimggihbldeleaaDesk
import Derived.Test.YtimggihbldeleaaTLifteqS
import Derived.Test.YtimggihbldeleaaTLiftmark
namespace Go.Proofs.Ytimggihbldeleaa
open Go.RowKit
theorem lifts_nil {lo hi : Nat} {w : World} : Lifts lo hi w (.slice none 0 0) [] [] := ⟨slw_nil.1, rfl, fun _ _ _ h => by simp at h⟩
theorem liftw_nil {lo hi : Nat} {w : World} : LiftW lo hi w (.slice none 0 0) [] [] := ⟨slw_nil, rfl, fun _ _ _ h => by simp at h, fun _ _ _ _ _ _ h => by simp at h, fun _ _ _ h => by simp at h⟩
theorem mod00 {w w' : World} (h : Mod 0 0 w w') : Below w.heap.size w w' := ⟨h.os, h.tape, h.output, h.size, fun k hk => h.block k hk (.inr (Nat.zero_le _))⟩
theorem dbx1 (w : World) (o : Obj) : ∃ W, w.alloc o = W ∧ W.heap[w.heap.size]? = some o ∧ Below w.heap.size w W ∧ W.heap.size = w.heap.size + 1 := ⟨_, rfl, blkN_new w o, (Below.refl _ _).alloc (Nat.le_refl _) _, by simp⟩
theorem dbx2 (w : World) (o p : Obj) : ∃ W, ((w.alloc o).alloc p) = W ∧ W.heap[w.heap.size]? = some o ∧ W.heap[w.heap.size + 1]? = some p ∧ Below w.heap.size w W ∧ W.heap.size = w.heap.size + 2 := by
  refine ⟨_, rfl, blkN_below ((Below.refl _ _).alloc (Nat.le_refl _) p) (blkN_new w o), ?_, (((Below.refl _ _).alloc (Nat.le_refl _) _).alloc (by simp) _), by simp⟩
  have := blkN_new (w.alloc o) p
  rwa [show (w.alloc o).heap.size = w.heap.size + 1 by simp] at this
set_option maxHeartbeats 2000000 in
theorem law_eqDesk {xa ya : Option Addr} {xl xc yl yc : Nat} {xd yd : Option Addr} {xm xe ym ye : Nat} (rs rs2 : List CraneR) (L : SiteL) (D : List Int) (lo hi lo2 hi2 lo3 hi3 lo4 hi4 : Nat) (w : World) (h : Cranes lo hi w (.slice xa xl xc) rs L) (h2 : Cranes lo2 hi2 w (.slice ya yl yc) rs2 L) (h3 : Sl 1 intCells lo3 hi3 w (.slice xd xm xe) D) (h4 : Sl 1 intCells lo4 hi4 w (.slice yd ym ye) D) :
    Calls Try.prog 7 #[.agg #[.slice xa xl xc, .slice none 0 0, .int .i64 3, .int .i64 8, .int .i64 6, .int .i64 30, .slice xd xm xe], .agg #[.slice ya yl yc, .slice none 0 0, .int .i64 3, .int .i64 8, .int .i64 6, .int .i64 30, .slice yd ym ye]] w fun e w' => e = .returned (.bool true) ∧ Below w.heap.size w w' := by
  have hE := fun w' (hb : Below w.heap.size w w') => law_eqSite ⟨xa, xl, xc⟩ ⟨ya, yl, yc⟩ rs rs2 L lo hi lo2 hi2 w' (h.ext hb) (h2.ext hb)
  have hF := fun w' => law_eqLiftS (.slice none 0 0) (.slice none 0 0) [] [] [] 0 0 0 0 w' lifts_nil lifts_nil
  have hG := fun w' => law_eqSpeeds ⟨3, 8, 6, 30⟩ w'
  have hH := fun w' (hb : Below w.heap.size w w') => law_eqInt64S _ _ D lo3 hi3 lo4 hi4 w' (h3.ext hb) (h4.ext hb)
  simp only [SV.v, Spd.cells] at hE hG
  have HE := Lib.hid hE
  have HF := Lib.hid hF
  have HG := Lib.hid hG
  have HH := Lib.hid hH
  clear hE hF hG hH h h2 h3 h4
  obtain ⟨WA, hWA, e1, e2, hBA, hzA⟩ := dbx2 w (.cells #[.slice xa xl xc, .slice none 0 0, .int .i64 3, .int .i64 8, .int .i64 6, .int .i64 30, .slice xd xm xe] 30 (0, 0)) (.cells #[.slice ya yl yc, .slice none 0 0, .int .i64 3, .int .i64 8, .int .i64 6, .int .i64 30, .slice yd ym ye] 30 (0, 0))
  have HWA := Lib.hid hWA
  clear hWA
  have c0 : WA.cell? ⟨w.heap.size, 0, none⟩ = some (.slice xa xl xc) := by rw [Lib.cell_of_heap e1]; rfl
  have c1 : WA.cell? ⟨w.heap.size, 1, none⟩ = some (.slice none 0 0) := by rw [Lib.cell_of_heap e1]; rfl
  have c2 : WA.cell? ⟨w.heap.size, 2, none⟩ = some (.int .i64 3) := by rw [Lib.cell_of_heap e1]; rfl
  have c3 : WA.cell? ⟨w.heap.size, 3, none⟩ = some (.int .i64 8) := by rw [Lib.cell_of_heap e1]; rfl
  have c4 : WA.cell? ⟨w.heap.size, 4, none⟩ = some (.int .i64 6) := by rw [Lib.cell_of_heap e1]; rfl
  have c5 : WA.cell? ⟨w.heap.size, 5, none⟩ = some (.int .i64 30) := by rw [Lib.cell_of_heap e1]; rfl
  have c6 : WA.cell? ⟨w.heap.size, 6, none⟩ = some (.slice xd xm xe) := by rw [Lib.cell_of_heap e1]; rfl
  have d0 : WA.cell? ⟨w.heap.size + 1, 0, none⟩ = some (.slice ya yl yc) := by rw [Lib.cell_of_heap e2]; rfl
  have d1 : WA.cell? ⟨w.heap.size + 1, 1, none⟩ = some (.slice none 0 0) := by rw [Lib.cell_of_heap e2]; rfl
  have d2 : WA.cell? ⟨w.heap.size + 1, 2, none⟩ = some (.int .i64 3) := by rw [Lib.cell_of_heap e2]; rfl
  have d3 : WA.cell? ⟨w.heap.size + 1, 3, none⟩ = some (.int .i64 8) := by rw [Lib.cell_of_heap e2]; rfl
  have d4 : WA.cell? ⟨w.heap.size + 1, 4, none⟩ = some (.int .i64 6) := by rw [Lib.cell_of_heap e2]; rfl
  have d5 : WA.cell? ⟨w.heap.size + 1, 5, none⟩ = some (.int .i64 30) := by rw [Lib.cell_of_heap e2]; rfl
  have d6 : WA.cell? ⟨w.heap.size + 1, 6, none⟩ = some (.slice yd ym ye) := by rw [Lib.cell_of_heap e2]; rfl
  have HB0 := Lib.hid hBA
  go_enter Try.func7, Try.ntmps7
  go_wp2_with fail
  rw [HWA.out]
  refine (HE.out _ HB0.out).mono ?_
  rintro e w1 ⟨rfl, f1⟩
  have HB1 := Lib.hid (HB0.out.trans (f1.mono HB0.out.size))
  have p1 := blkN_below f1 e1
  have q1 := blkN_below f1 e2
  clear c0 c1 c2 c3 c4 c5 c6 d0 d1 d2 d3 d4 d5 d6
  have c0 : w1.cell? ⟨w.heap.size, 0, none⟩ = some (.slice xa xl xc) := by rw [Lib.cell_of_heap p1]; rfl
  have c1 : w1.cell? ⟨w.heap.size, 1, none⟩ = some (.slice none 0 0) := by rw [Lib.cell_of_heap p1]; rfl
  have c2 : w1.cell? ⟨w.heap.size, 2, none⟩ = some (.int .i64 3) := by rw [Lib.cell_of_heap p1]; rfl
  have c3 : w1.cell? ⟨w.heap.size, 3, none⟩ = some (.int .i64 8) := by rw [Lib.cell_of_heap p1]; rfl
  have c4 : w1.cell? ⟨w.heap.size, 4, none⟩ = some (.int .i64 6) := by rw [Lib.cell_of_heap p1]; rfl
  have c5 : w1.cell? ⟨w.heap.size, 5, none⟩ = some (.int .i64 30) := by rw [Lib.cell_of_heap p1]; rfl
  have c6 : w1.cell? ⟨w.heap.size, 6, none⟩ = some (.slice xd xm xe) := by rw [Lib.cell_of_heap p1]; rfl
  have d0 : w1.cell? ⟨w.heap.size + 1, 0, none⟩ = some (.slice ya yl yc) := by rw [Lib.cell_of_heap q1]; rfl
  have d1 : w1.cell? ⟨w.heap.size + 1, 1, none⟩ = some (.slice none 0 0) := by rw [Lib.cell_of_heap q1]; rfl
  have d2 : w1.cell? ⟨w.heap.size + 1, 2, none⟩ = some (.int .i64 3) := by rw [Lib.cell_of_heap q1]; rfl
  have d3 : w1.cell? ⟨w.heap.size + 1, 3, none⟩ = some (.int .i64 8) := by rw [Lib.cell_of_heap q1]; rfl
  have d4 : w1.cell? ⟨w.heap.size + 1, 4, none⟩ = some (.int .i64 6) := by rw [Lib.cell_of_heap q1]; rfl
  have d5 : w1.cell? ⟨w.heap.size + 1, 5, none⟩ = some (.int .i64 30) := by rw [Lib.cell_of_heap q1]; rfl
  have d6 : w1.cell? ⟨w.heap.size + 1, 6, none⟩ = some (.slice yd ym ye) := by rw [Lib.cell_of_heap q1]; rfl
  clear f1
  go_wp2_with fail
  refine (HF.out _).mono ?_
  rintro e w2 ⟨rfl, f2⟩
  have HB2 := Lib.hid (HB1.out.trans (f2.mono HB1.out.size))
  have p2 := blkN_below f2 p1
  have q2 := blkN_below f2 q1
  clear c0 c1 c2 c3 c4 c5 c6 d0 d1 d2 d3 d4 d5 d6
  have c0 : w2.cell? ⟨w.heap.size, 0, none⟩ = some (.slice xa xl xc) := by rw [Lib.cell_of_heap p2]; rfl
  have c1 : w2.cell? ⟨w.heap.size, 1, none⟩ = some (.slice none 0 0) := by rw [Lib.cell_of_heap p2]; rfl
  have c2 : w2.cell? ⟨w.heap.size, 2, none⟩ = some (.int .i64 3) := by rw [Lib.cell_of_heap p2]; rfl
  have c3 : w2.cell? ⟨w.heap.size, 3, none⟩ = some (.int .i64 8) := by rw [Lib.cell_of_heap p2]; rfl
  have c4 : w2.cell? ⟨w.heap.size, 4, none⟩ = some (.int .i64 6) := by rw [Lib.cell_of_heap p2]; rfl
  have c5 : w2.cell? ⟨w.heap.size, 5, none⟩ = some (.int .i64 30) := by rw [Lib.cell_of_heap p2]; rfl
  have c6 : w2.cell? ⟨w.heap.size, 6, none⟩ = some (.slice xd xm xe) := by rw [Lib.cell_of_heap p2]; rfl
  have d0 : w2.cell? ⟨w.heap.size + 1, 0, none⟩ = some (.slice ya yl yc) := by rw [Lib.cell_of_heap q2]; rfl
  have d1 : w2.cell? ⟨w.heap.size + 1, 1, none⟩ = some (.slice none 0 0) := by rw [Lib.cell_of_heap q2]; rfl
  have d2 : w2.cell? ⟨w.heap.size + 1, 2, none⟩ = some (.int .i64 3) := by rw [Lib.cell_of_heap q2]; rfl
  have d3 : w2.cell? ⟨w.heap.size + 1, 3, none⟩ = some (.int .i64 8) := by rw [Lib.cell_of_heap q2]; rfl
  have d4 : w2.cell? ⟨w.heap.size + 1, 4, none⟩ = some (.int .i64 6) := by rw [Lib.cell_of_heap q2]; rfl
  have d5 : w2.cell? ⟨w.heap.size + 1, 5, none⟩ = some (.int .i64 30) := by rw [Lib.cell_of_heap q2]; rfl
  have d6 : w2.cell? ⟨w.heap.size + 1, 6, none⟩ = some (.slice yd ym ye) := by rw [Lib.cell_of_heap q2]; rfl
  clear f2
  go_wp2_with fail
  refine (HG.out _).mono ?_
  rintro e w3 ⟨rfl, f3⟩
  have HB3 := Lib.hid (HB2.out.trans (f3.mono HB2.out.size))
  have p3 := blkN_below f3 p2
  have q3 := blkN_below f3 q2
  clear c0 c1 c2 c3 c4 c5 c6 d0 d1 d2 d3 d4 d5 d6
  have c0 : w3.cell? ⟨w.heap.size, 0, none⟩ = some (.slice xa xl xc) := by rw [Lib.cell_of_heap p3]; rfl
  have c1 : w3.cell? ⟨w.heap.size, 1, none⟩ = some (.slice none 0 0) := by rw [Lib.cell_of_heap p3]; rfl
  have c2 : w3.cell? ⟨w.heap.size, 2, none⟩ = some (.int .i64 3) := by rw [Lib.cell_of_heap p3]; rfl
  have c3 : w3.cell? ⟨w.heap.size, 3, none⟩ = some (.int .i64 8) := by rw [Lib.cell_of_heap p3]; rfl
  have c4 : w3.cell? ⟨w.heap.size, 4, none⟩ = some (.int .i64 6) := by rw [Lib.cell_of_heap p3]; rfl
  have c5 : w3.cell? ⟨w.heap.size, 5, none⟩ = some (.int .i64 30) := by rw [Lib.cell_of_heap p3]; rfl
  have c6 : w3.cell? ⟨w.heap.size, 6, none⟩ = some (.slice xd xm xe) := by rw [Lib.cell_of_heap p3]; rfl
  have d0 : w3.cell? ⟨w.heap.size + 1, 0, none⟩ = some (.slice ya yl yc) := by rw [Lib.cell_of_heap q3]; rfl
  have d1 : w3.cell? ⟨w.heap.size + 1, 1, none⟩ = some (.slice none 0 0) := by rw [Lib.cell_of_heap q3]; rfl
  have d2 : w3.cell? ⟨w.heap.size + 1, 2, none⟩ = some (.int .i64 3) := by rw [Lib.cell_of_heap q3]; rfl
  have d3 : w3.cell? ⟨w.heap.size + 1, 3, none⟩ = some (.int .i64 8) := by rw [Lib.cell_of_heap q3]; rfl
  have d4 : w3.cell? ⟨w.heap.size + 1, 4, none⟩ = some (.int .i64 6) := by rw [Lib.cell_of_heap q3]; rfl
  have d5 : w3.cell? ⟨w.heap.size + 1, 5, none⟩ = some (.int .i64 30) := by rw [Lib.cell_of_heap q3]; rfl
  have d6 : w3.cell? ⟨w.heap.size + 1, 6, none⟩ = some (.slice yd ym ye) := by rw [Lib.cell_of_heap q3]; rfl
  clear f3
  go_wp2_with fail
  refine (HH.out _ HB3.out).mono ?_
  rintro e w4 ⟨rfl, f4⟩
  have HB4 := Lib.hid (HB3.out.trans (f4.mono HB3.out.size))
  go_wp2
  go_ret
  exact ⟨rfl, HB4.out⟩
set_option maxHeartbeats 2000000 in
theorem law_markDesk {xa : Option Addr} {xl xc : Nat} {xd : Option Addr} {xm xe : Nat} (rs : List CraneR) (L : SiteL) (D : List Int) (a b c k lo hi : Nat) (w : World) (h : CraneW a b w (.slice xa xl xc) rs L) (h3 : Slw 1 intCells c (c + 1) w (.slice xd xm xe) D) (hap : c + 1 ≤ a ∨ b ≤ c) (hb : b ≤ w.heap.size) (hc : c + 1 ≤ w.heap.size) (hlo : lo ≤ a ∧ lo ≤ c) (hhi : b ≤ hi ∧ c + 1 ≤ hi) (hk : 1 ≤ k) (hkb : k + totC L + D.length ≤ 1048576) :
    Calls Try.prog 8 #[.agg #[.slice xa xl xc, .slice none 0 0, .int .i64 3, .int .i64 8, .int .i64 6, .int .i64 30, .slice xd xm xe], .int .i64 k] w fun e w' => ∃ rs', e = .returned (.int .i64 ((k + totC L + D.length : Nat) : Int)) ∧ CraneW a b w' (.slice xa xl xc) rs' (numC k L) ∧ Slw 1 intCells c (c + 1) w' (.slice xd xm xe) (marksInt D.length (k + totC L)) ∧ Mod lo hi w w' := by
  have hE := fun w' (hb' : Below w.heap.size w w') => law_markSite ⟨xa, xl, xc⟩ rs L a b k w' (h.ext hb hb') (Nat.le_trans hb hb'.size) hk (by omega)
  simp only [SV.v] at hE
  obtain ⟨WA, hWA, e1, hBA, hzA⟩ := dbx1 w (.cells #[.slice xa xl xc, .slice none 0 0, .int .i64 3, .int .i64 8, .int .i64 6, .int .i64 30, .slice xd xm xe] 30 (0, 0))
  have HWA := Lib.hid hWA
  have HE := Lib.hid hE
  have H3 := Lib.hid (h3.ext hc hBA)
  clear hWA hE h h3
  have c0 : WA.cell? ⟨w.heap.size, 0, none⟩ = some (.slice xa xl xc) := by rw [Lib.cell_of_heap e1]; rfl
  have c1 : WA.cell? ⟨w.heap.size, 1, none⟩ = some (.slice none 0 0) := by rw [Lib.cell_of_heap e1]; rfl
  have c2 : WA.cell? ⟨w.heap.size, 2, none⟩ = some (.int .i64 3) := by rw [Lib.cell_of_heap e1]; rfl
  have c3 : WA.cell? ⟨w.heap.size, 3, none⟩ = some (.int .i64 8) := by rw [Lib.cell_of_heap e1]; rfl
  have c4 : WA.cell? ⟨w.heap.size, 4, none⟩ = some (.int .i64 6) := by rw [Lib.cell_of_heap e1]; rfl
  have c5 : WA.cell? ⟨w.heap.size, 5, none⟩ = some (.int .i64 30) := by rw [Lib.cell_of_heap e1]; rfl
  have c6 : WA.cell? ⟨w.heap.size, 6, none⟩ = some (.slice xd xm xe) := by rw [Lib.cell_of_heap e1]; rfl
  have HB0 := Lib.hid hBA
  go_enter Try.func8, Try.ntmps8
  go_wp2_with fail
  rw [HWA.out]
  refine (HE.out _ HB0.out).mono ?_
  rintro e w1 ⟨rs1, rfl, hS1, m1⟩
  have H31 := Lib.hid (H3.out.keep (m1.same (by omega) (by omega)))
  have HM1 := Lib.hid ((Mod.of_below (lo := lo) (hi := hi) hBA).trans (m1.mono hlo.1 hhi.1))
  have p1 : w1.heap[w.heap.size]? = some (.cells #[.slice xa xl xc, .slice none 0 0, .int .i64 3, .int .i64 8, .int .i64 6, .int .i64 30, .slice xd xm xe] 30 (0, 0)) := (m1.block _ (by omega) (.inr hb)).trans e1
  have z1 := m1.size
  have HS1 := Lib.hid hS1
  clear hS1 m1 H3
  clear c0 c1 c2 c3 c4 c5 c6
  have c0 : w1.cell? ⟨w.heap.size, 0, none⟩ = some (.slice xa xl xc) := by rw [Lib.cell_of_heap p1]; rfl
  have c1 : w1.cell? ⟨w.heap.size, 1, none⟩ = some (.slice none 0 0) := by rw [Lib.cell_of_heap p1]; rfl
  have c2 : w1.cell? ⟨w.heap.size, 2, none⟩ = some (.int .i64 3) := by rw [Lib.cell_of_heap p1]; rfl
  have c3 : w1.cell? ⟨w.heap.size, 3, none⟩ = some (.int .i64 8) := by rw [Lib.cell_of_heap p1]; rfl
  have c4 : w1.cell? ⟨w.heap.size, 4, none⟩ = some (.int .i64 6) := by rw [Lib.cell_of_heap p1]; rfl
  have c5 : w1.cell? ⟨w.heap.size, 5, none⟩ = some (.int .i64 30) := by rw [Lib.cell_of_heap p1]; rfl
  have c6 : w1.cell? ⟨w.heap.size, 6, none⟩ = some (.slice xd xm xe) := by rw [Lib.cell_of_heap p1]; rfl
  generalize hK1 : k + totC L = K1 at *
  have HF := Lib.hid (fun w' => law_markLiftS (.slice none 0 0) [] [] 0 0 K1 w' liftw_nil (Nat.zero_le _) (by omega) (by simp [totM]; omega))
  go_wp2_with fail
  refine (HF.out _).mono ?_
  rintro e w2 ⟨rs2, rfl, -, m2⟩
  have f2 := mod00 m2
  have H32 := Lib.hid (H31.out.ext (by omega) f2)
  have HS2 := Lib.hid (HS1.out.ext (by omega) f2)
  have HM2 := Lib.hid (HM1.out.then f2)
  have p2 := blkN_below f2 p1
  have z2 := f2.size
  clear m2 f2 HF
  clear c0 c1 c2 c3 c4 c5 c6
  have c0 : w2.cell? ⟨w.heap.size, 0, none⟩ = some (.slice xa xl xc) := by rw [Lib.cell_of_heap p2]; rfl
  have c1 : w2.cell? ⟨w.heap.size, 1, none⟩ = some (.slice none 0 0) := by rw [Lib.cell_of_heap p2]; rfl
  have c2 : w2.cell? ⟨w.heap.size, 2, none⟩ = some (.int .i64 3) := by rw [Lib.cell_of_heap p2]; rfl
  have c3 : w2.cell? ⟨w.heap.size, 3, none⟩ = some (.int .i64 8) := by rw [Lib.cell_of_heap p2]; rfl
  have c4 : w2.cell? ⟨w.heap.size, 4, none⟩ = some (.int .i64 6) := by rw [Lib.cell_of_heap p2]; rfl
  have c5 : w2.cell? ⟨w.heap.size, 5, none⟩ = some (.int .i64 30) := by rw [Lib.cell_of_heap p2]; rfl
  have c6 : w2.cell? ⟨w.heap.size, 6, none⟩ = some (.slice xd xm xe) := by rw [Lib.cell_of_heap p2]; rfl
  have HH := Lib.hid (law_markInt64S _ D c (c + 1) K1 w2 H32.out (by omega) (by omega) (by omega))
  simp only [totM, Nat.add_zero]
  go_wp2_with fail
  refine HH.out.mono ?_
  rintro e w3 ⟨rfl, hD3, m3⟩
  have HS3 := Lib.hid (HS2.out.keep (m3.same (by omega) (by omega)))
  have HD3 := Lib.hid hD3
  have HM3 := Lib.hid (HM2.out.trans (m3.mono hlo.2 hhi.2))
  clear hD3 m3
  go_wp2
  go_ret
  exact ⟨rs1, ret_int (by omega), HS3.out, by rw [hK1]; exact HD3.out, HM3.out⟩
set_option maxHeartbeats 2000000 in
theorem law_heldDesk {xa : Option Addr} {xl xc : Nat} {xd : Option Addr} {xm xe : Nat} (rs : List CraneR) (L : SiteL) (m a b c d k : Nat) (w : World) (h : Cranes a b w (.slice xa xl xc) rs (numC k L)) (h3 : Sl 1 intCells c d w (.slice xd xm xe) (marksInt m (k + totC L))) (hk : 1 ≤ k) (hkb : k + totC L + m ≤ 1048576) :
    Calls Try.prog 9 #[.agg #[.slice xa xl xc, .slice none 0 0, .int .i64 3, .int .i64 8, .int .i64 6, .int .i64 30, .slice xd xm xe], .int .i64 k] w fun e w' => e = .returned (.int .i64 ((k + totC L + m : Nat) : Int)) ∧ Below w.heap.size w w' := by
  have hE := fun w' (hb' : Below w.heap.size w w') => law_heldSite ⟨xa, xl, xc⟩ rs L a b k w' (h.ext hb') hk (by omega)
  have hH := fun w' (hb' : Below w.heap.size w w') => law_heldInt64S _ c d m (k + totC L) w' (h3.ext hb') (by omega) (by omega)
  simp only [SV.v] at hE
  obtain ⟨WA, hWA, e1, hBA, hzA⟩ := dbx1 w (.cells #[.slice xa xl xc, .slice none 0 0, .int .i64 3, .int .i64 8, .int .i64 6, .int .i64 30, .slice xd xm xe] 30 (0, 0))
  have HWA := Lib.hid hWA
  have HE := Lib.hid hE
  generalize hK1 : k + totC L = K1 at *
  have HH := Lib.hid hH
  have HF := Lib.hid (fun w' => law_heldLiftS (.slice none 0 0) [] [] 0 0 K1 w' lifts_nil (by omega) (by simp [totM]; omega))
  clear hWA hE hH h h3
  have c0 : WA.cell? ⟨w.heap.size, 0, none⟩ = some (.slice xa xl xc) := by rw [Lib.cell_of_heap e1]; rfl
  have c1 : WA.cell? ⟨w.heap.size, 1, none⟩ = some (.slice none 0 0) := by rw [Lib.cell_of_heap e1]; rfl
  have c2 : WA.cell? ⟨w.heap.size, 2, none⟩ = some (.int .i64 3) := by rw [Lib.cell_of_heap e1]; rfl
  have c3 : WA.cell? ⟨w.heap.size, 3, none⟩ = some (.int .i64 8) := by rw [Lib.cell_of_heap e1]; rfl
  have c4 : WA.cell? ⟨w.heap.size, 4, none⟩ = some (.int .i64 6) := by rw [Lib.cell_of_heap e1]; rfl
  have c5 : WA.cell? ⟨w.heap.size, 5, none⟩ = some (.int .i64 30) := by rw [Lib.cell_of_heap e1]; rfl
  have c6 : WA.cell? ⟨w.heap.size, 6, none⟩ = some (.slice xd xm xe) := by rw [Lib.cell_of_heap e1]; rfl
  have HB0 := Lib.hid hBA
  have hk1 : decide ((K1 : Int) < 0) = false := decide_eq_false (by omega)
  have hk2 : decide (((K1 + m * 1 : Nat) : Int) < 0) = false := decide_eq_false (by omega)
  go_enter Try.func9, Try.ntmps9
  go_wp2_with fail
  rw [HWA.out]
  refine (HE.out _ HB0.out).mono ?_
  rintro e w1 ⟨rfl, f1⟩
  have HB1 := Lib.hid (HB0.out.trans (f1.mono HB0.out.size))
  have p1 := blkN_below f1 e1
  clear c0 c1 c2 c3 c4 c5 c6
  have c0 : w1.cell? ⟨w.heap.size, 0, none⟩ = some (.slice xa xl xc) := by rw [Lib.cell_of_heap p1]; rfl
  have c1 : w1.cell? ⟨w.heap.size, 1, none⟩ = some (.slice none 0 0) := by rw [Lib.cell_of_heap p1]; rfl
  have c2 : w1.cell? ⟨w.heap.size, 2, none⟩ = some (.int .i64 3) := by rw [Lib.cell_of_heap p1]; rfl
  have c3 : w1.cell? ⟨w.heap.size, 3, none⟩ = some (.int .i64 8) := by rw [Lib.cell_of_heap p1]; rfl
  have c4 : w1.cell? ⟨w.heap.size, 4, none⟩ = some (.int .i64 6) := by rw [Lib.cell_of_heap p1]; rfl
  have c5 : w1.cell? ⟨w.heap.size, 5, none⟩ = some (.int .i64 30) := by rw [Lib.cell_of_heap p1]; rfl
  have c6 : w1.cell? ⟨w.heap.size, 6, none⟩ = some (.slice xd xm xe) := by rw [Lib.cell_of_heap p1]; rfl
  clear f1
  go_wp2_with fail
  refine (HF.out _).mono ?_
  rintro e w2 ⟨rfl, f2⟩
  have HB2 := Lib.hid (HB1.out.trans (f2.mono HB1.out.size))
  have p2 := blkN_below f2 p1
  clear c0 c1 c2 c3 c4 c5 c6
  have c0 : w2.cell? ⟨w.heap.size, 0, none⟩ = some (.slice xa xl xc) := by rw [Lib.cell_of_heap p2]; rfl
  have c1 : w2.cell? ⟨w.heap.size, 1, none⟩ = some (.slice none 0 0) := by rw [Lib.cell_of_heap p2]; rfl
  have c2 : w2.cell? ⟨w.heap.size, 2, none⟩ = some (.int .i64 3) := by rw [Lib.cell_of_heap p2]; rfl
  have c3 : w2.cell? ⟨w.heap.size, 3, none⟩ = some (.int .i64 8) := by rw [Lib.cell_of_heap p2]; rfl
  have c4 : w2.cell? ⟨w.heap.size, 4, none⟩ = some (.int .i64 6) := by rw [Lib.cell_of_heap p2]; rfl
  have c5 : w2.cell? ⟨w.heap.size, 5, none⟩ = some (.int .i64 30) := by rw [Lib.cell_of_heap p2]; rfl
  have c6 : w2.cell? ⟨w.heap.size, 6, none⟩ = some (.slice xd xm xe) := by rw [Lib.cell_of_heap p2]; rfl
  clear f2 HF
  simp only [totM, Nat.add_zero]
  go_wp2_with fail
  refine (HH.out _ HB2.out).mono ?_
  rintro e w3 ⟨rfl, f3⟩
  have HB3 := Lib.hid (HB2.out.trans (f3.mono HB2.out.size))
  clear f3
  go_wp2
  go_ret
  exact ⟨ret_int (by omega), HB3.out⟩
end Go.Proofs.Ytimggihbldeleaa
