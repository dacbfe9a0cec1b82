/- Crane: the laws' helpers (eq). -/
import Derived.Test.YteeigmgepahdhaaDoorTCrane
namespace Go.Proofs.YteeigmgepahdhaaDoor
open Go.RowKit Go.WideShapes Go.ChangeShapes Go.Deep
set_option maxRecDepth 100000 in
set_option maxHeartbeats 4000000 in
theorem law_eqCrane (f : CraneF) (s s2 : SV) (l : List Chs) (lo hi lo2 hi2 : Nat) (w : World) (h : Sl 2 Chs.cells lo hi w s.v l) (h2 : Sl 2 Chs.cells lo2 hi2 w s2.v l) :
    Calls Tryd.prog 18 #[.agg (CraneR.cells ⟨f, s⟩).toArray, .agg (CraneR.cells ⟨f, s2⟩).toArray] w fun e w' => e = .returned (.bool true) ∧ Below w.heap.size w w' := by
  have HT := Lib.hid (fun w' (hb : Below w.heap.size w w') => law_eqChartStepS s.v s2.v l lo hi lo2 hi2 w' (h.ext hb) (h2.ext hb))
  clear h h2
  obtain ⟨x0, x1, x2, x3, x4, x5⟩ := f
  obtain ⟨sa, sl, sc⟩ := s
  obtain ⟨ta, tl, tc⟩ := s2
  simp only [CraneR.cells, SV.v] at *
  go_enter Tryd.func18, Tryd.ntmps18
  go_wp2_with fail
  refine (law_eqPoint' _ _ _).mono ?_
  rintro e w1 ⟨rfl, hb1⟩
  have q1 := (bcell hb1).1
  have za1 : w.heap.size < w1.heap.size := Nat.lt_of_lt_of_le (by first | omega | (simp; omega) | simp) (hb1).size
  have zb1 : w.heap.size + 1 < w1.heap.size := Nat.lt_of_lt_of_le (by first | omega | (simp; omega) | simp) (hb1).size
  have b1 : Below w.heap.size w w1 := Below.trans (by go_grown) ((hb1).mono (by first | omega | (simp; omega) | simp))
  go_wp2_with fail
  refine (HT.out _ ?hb).mono ?_
  case hb => go_grown
  rintro e w2 ⟨rfl, hb2⟩
  have q2 := (bcell hb2).1
  have za2 : w.heap.size < w2.heap.size := Nat.lt_of_lt_of_le (by first | omega | (simp; omega) | simp) (hb2).size
  have zb2 : w.heap.size + 1 < w2.heap.size := Nat.lt_of_lt_of_le (by first | omega | (simp; omega) | simp) (hb2).size
  have b2 : Below w.heap.size w w2 := Below.trans (by go_grown) ((hb2).mono (by first | omega | (simp; omega) | simp))
  go_wp2
  go_ret
  exact ⟨rfl, b2⟩
end Go.Proofs.YteeigmgepahdhaaDoor
