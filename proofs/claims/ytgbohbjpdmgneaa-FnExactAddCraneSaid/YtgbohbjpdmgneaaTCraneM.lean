/- A crane: marks. -/
import Derived.Test.YtgbohbjpdmgneaaTCrane
import Derived.Test.YtgbohbjpdmgneaaTChartStep
namespace Go.Proofs.Ytgbohbjpdmgneaa
open Go.RowKit
set_option maxRecDepth 100000 in
theorem law_markCrane (f : CraneF) (s : SV) (l : List Chs) (lo hi k : Nat) (w : World) (h : Slw 2 Chs.cells lo hi w s.v l) (hhi : hi ≤ w.heap.size) (hk : 1 ≤ k) (hkb : k + l.length * 2 ≤ 1099511627776) :
    Calls Try.prog 43 #[.agg (CraneR.cells ⟨f, s⟩).toArray, .int .i64 k] w fun e w' => e = .returned (.int .i64 ((k + l.length * 2 : Nat) : Int)) ∧ Mod lo hi w w' := by
  have hb : Below w.heap.size w (w.alloc (.cells (CraneR.cells ⟨f, s⟩).toArray 51)) := (Below.refl _ _).alloc (Nat.le_refl _) _
  have hM := law_markChartStepS s.v l lo hi k _ (h.keep (Same.of_below hb hhi)) (Nat.le_trans hhi hb.size) hk hkb
  obtain ⟨sa, sl, sc⟩ := s
  obtain ⟨x0, x1, x2, x3, x4, x5⟩ := f
  simp only [SV.v, CraneR.cells] at hM hb ⊢
  have hM := Lib.hid hM
  clear h
  go_enter Try.func43, Try.ntmps43
  go_wp2_with fail
  refine hM.out.mono ?_
  rintro e w1 ⟨rfl, -, hm⟩
  go_wp2
  go_ret
  exact ⟨rfl, (Mod.of_below hb).trans hm⟩
end Go.Proofs.Ytgbohbjpdmgneaa
