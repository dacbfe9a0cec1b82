/- Lift: the laws' helpers (sz). -/
import Derived.Test.YtimggihbldeleaaTLift
namespace Go.Proofs.Ytimggihbldeleaa
open Go.RowKit Go.WideShapes Go.ChangeShapes Go.Deep
set_option maxRecDepth 100000 in
set_option maxHeartbeats 4000000 in
theorem law_szLift (r : LiftR) (l : List Int) (lo hi : Nat) (n : Int) (w : World) (h : Sl 1 intCells lo hi w r.s.v l) (hwf : r.f.wf) (hwl : ∀ x ∈ l, I64 x) (h0 : 0 ≤ n) (hn : n ≤ 1048576) :
    Calls Try.prog 44 #[.agg r.cells.toArray, .int .i64 n] w fun e w' => e = .returned (.int .i64 (szRes n ((r.f.name.size + l.length : Nat) : Int))) ∧ Below w.heap.size w w' := by
  have HT := Lib.hid (fun m w' (hb : Below w.heap.size w w') h0 hn => law_szInt64S r.s.v l lo hi m w' (h.ext hb) h0 hn)
  clear h hwl
  have hws : r.f.name.size ≤ 9223372036854775807 := by have := hwf.1; unfold maxLen at this; omega
  clear hwf
  obtain ⟨⟨x0, x1, x2, x3, x4, x5, x6, x7⟩, xs⟩ := r
  obtain ⟨sa, sl, sc⟩ := xs
  simp only [LiftR.cells, SV.v] at *
  by_cases hc : n < (x0.size : Int)
  · rw [szRes_lt (show n < ((x0.size + l.length : Nat) : Int) by omega)]
    go_enter Try.func44, Try.ntmps44
    go_wp2
    go_ret
    exact ⟨rfl, (Below.refl _ _).alloc (Nat.le_refl _) _⟩
  · have hcn : decide (n - (x0.size : Int) < 0) = false := decide_eq_false (by omega)
    by_cases hc2 : n - (x0.size : Int) < l.length
    · rw [szRes_lt (show n < ((x0.size + l.length : Nat) : Int) by omega)]
      go_enter Try.func44, Try.ntmps44
      go_wp2_with fail
      refine (HT.out _ _ ?hb (by omega) (by omega)).mono ?_
      case hb => exact (Below.refl _ _).alloc (Nat.le_refl _) _
      rintro e w1 ⟨rfl, hb1⟩
      rw [szRes_lt (by omega)]
      go_wp2
      go_ret
      exact ⟨rfl, ((Below.refl _ _).alloc (Nat.le_refl _) _).trans (hb1.mono (by simp))⟩
    · rw [szRes_ge (show ¬ n < ((x0.size + l.length : Nat) : Int) by omega)]
      have hcm : decide (n - (x0.size : Int) - (l.length : Int) < 0) = false := decide_eq_false (by omega)
      go_enter Try.func44, Try.ntmps44
      go_wp2_with fail
      refine (HT.out _ _ ?hb (by omega) (by omega)).mono ?_
      case hb => exact (Below.refl _ _).alloc (Nat.le_refl _) _
      rintro e w1 ⟨rfl, hb1⟩
      rw [szRes_ge (by omega)]
      go_wp2
      go_ret
      exact ⟨ret_int (by omega), ((Below.refl _ _).alloc (Nat.le_refl _) _).trans (hb1.mono (by simp))⟩
end Go.Proofs.Ytimggihbldeleaa
