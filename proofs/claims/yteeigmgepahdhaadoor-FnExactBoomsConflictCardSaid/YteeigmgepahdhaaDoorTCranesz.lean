/- Crane: the laws' helpers (sz). -/
import Derived.Test.YteeigmgepahdhaaDoorTCrane
namespace Go.Proofs.YteeigmgepahdhaaDoor
open Go.RowKit Go.WideShapes Go.ChangeShapes Go.Deep
set_option maxRecDepth 100000 in
set_option maxHeartbeats 4000000 in
theorem law_szCrane (r : CraneR) (l : List Chs) (lo hi : Nat) (n : Int) (w : World) (h : Sl 2 Chs.cells lo hi w r.s.v l) (hwf : r.f.wf) (hwl : ∀ x ∈ l, x.wf) (h0 : 0 ≤ n) (hn : n ≤ 1048576) :
    Calls Tryd.prog 15 #[.agg r.cells.toArray, .int .i64 n] w fun e w' => e = .returned (.int .i64 (szRes n ((r.f.name.size + l.length : Nat) : Int))) ∧ Below w.heap.size w w' := by
  have HT := Lib.hid (fun m w' (hb : Below w.heap.size w w') h0 hn => law_szChartStepS r.s.v l lo hi m w' (h.ext hb) hwl h0 hn)
  clear h hwl
  have hws : r.f.name.size ≤ 9223372036854775807 := by have := hwf.1; unfold maxLen at this; omega
  clear hwf
  obtain ⟨⟨x0, x1, x2, x3, x4, x5⟩, xs⟩ := r
  obtain ⟨sa, sl, sc⟩ := xs
  simp only [CraneR.cells, SV.v] at *
  by_cases hc : n < (x0.size : Int)
  · rw [szRes_lt (show n < ((x0.size + l.length : Nat) : Int) by omega)]
    go_enter Tryd.func15, Tryd.ntmps15
    go_wp2
    go_ret
    exact ⟨rfl, (Below.refl _ _).alloc (Nat.le_refl _) _⟩
  · have hcn : decide (n - (x0.size : Int) < 0) = false := decide_eq_false (by omega)
    by_cases hc2 : n - (x0.size : Int) < l.length
    · rw [szRes_lt (show n < ((x0.size + l.length : Nat) : Int) by omega)]
      go_enter Tryd.func15, Tryd.ntmps15
      go_wp2_with fail
      refine (HT.out _ _ ?hb (by omega) (by omega)).mono ?_
      case hb => exact (Below.refl _ _).alloc (Nat.le_refl _) _
      rintro e w1 ⟨rfl, hb1⟩
      rw [szRes_lt (by unfold szChs; omega)]
      go_wp2
      go_ret
      exact ⟨rfl, ((Below.refl _ _).alloc (Nat.le_refl _) _).trans (hb1.mono (by simp))⟩
    · rw [szRes_ge (show ¬ n < ((x0.size + l.length : Nat) : Int) by omega)]
      have hcm : decide (n - (x0.size : Int) - (l.length : Int) < 0) = false := decide_eq_false (by omega)
      go_enter Tryd.func15, Tryd.ntmps15
      go_wp2_with fail
      refine (HT.out _ _ ?hb (by omega) (by omega)).mono ?_
      case hb => exact (Below.refl _ _).alloc (Nat.le_refl _) _
      rintro e w1 ⟨rfl, hb1⟩
      rw [szRes_ge (by unfold szChs; omega)]
      unfold szChs
      go_wp2
      go_ret
      exact ⟨ret_int (by omega), ((Below.refl _ _).alloc (Nat.le_refl _) _).trans (hb1.mono (by simp))⟩
end Go.Proofs.YteeigmgepahdhaaDoor
