/- The law's helpers on findings. -/
import Derived.Test.YtfnmmfopbfmkaaaFnd
namespace Go.Proofs.Ytfnmmfopbfmkaaa
open Go.RowKit

set_option maxHeartbeats 1000000 in
theorem law_toFinding (x : Fnd) (w : World) :
    Calls Try.prog 59 #[.agg x.cells.toArray] w fun e w' => e = .returned (.agg x.cells.toArray) ∧ Below w.heap.size w w' := by
  obtain ⟨x0, x1, x2, x3⟩ := x
  simp only [Fnd.cells]
  go_enter Try.func59, Try.ntmps59
  go_wp2
  exact bodyPost_ret (v := .agg #[.int .i64 x0, .int .i64 x1, .int .i64 x2, .int .i64 x3]) (by simp [results, Try.results59, go_sem]) rfl ⟨rfl, by
    refine (((Below.refl _ _).alloc (Nat.le_refl _) _).alloc (by simp) _).alloc (by simp; omega) _⟩

set_option maxHeartbeats 1000000 in
theorem law_eqFinding (x : Fnd) (w : World) :
    Calls Try.prog 64 #[.agg x.cells.toArray, .agg x.cells.toArray] w fun e w' => e = .returned (.bool true) ∧ Below w.heap.size w w' := by
  obtain ⟨x0, x1, x2, x3⟩ := x
  simp only [Fnd.cells]
  go_enter Try.func64, Try.ntmps64
  go_wp2
  go_ret
  exact ⟨rfl, ((Below.refl _ _).alloc (Nat.le_refl _) _).alloc (by simp) _⟩

theorem info_Finding : (Try.prog.info? 53).map (fun i => (i.zero.isSome, i.size, i.bytes)) = some (true, 4, 32) := by kernel_rfl

theorem Fnd.len (x : Fnd) : x.cells.length = 4 := rfl

set_option maxHeartbeats 1000000 in
theorem law_toFindingS (v : Value) (l : List Fnd) (lo hi : Nat) (w : World) (h : Fnds lo hi w v l) (hn : l.length ≤ 1048576) :
    Calls Try.prog 17 #[v] w fun e w' => ∃ v', e = .returned v' ∧ Slw 4 Fnd.cells w.heap.size w'.heap.size w' v' l ∧ Below w.heap.size w w' := by
  obtain ⟨cs, hmk, hcs⟩ := make_rows (P := Try.prog) 25 53 4 32 (by simp) info_Finding l.length (by omega) (by omega) w
  obtain ⟨f0, hf0⟩ := rowIs_made (w := w) (t := 53) hcs
  have Hf0 := Lib.hid hf0
  clear hf0 hcs
  have hsl := h
  obtain ⟨a, cap, rfl, hlen, hh⟩ := h
  clear hh
  go_enter Try.func17, Try.ntmps17
  go_wp2
  go_loopw [4] (fun i wr => ∃ k : Nat, k ≤ l.length ∧ i = .int .i64 k ∧ Below w.heap.size w wr ∧ ∃ f, Hid (wr.rowIs w.heap.size 53 (l.length * 4) f) ∧ Fill 4 Fnd.cells l k f) (fun i _ => l.length - (intOf i).toNat)
  case atStart => exact ⟨0, Nat.zero_le _, rfl, (Below.refl _ _).alloc (Nat.le_refl _) _, f0, Hf0, Fill.zero⟩
  case round =>
    obtain ⟨k, hk, rfl, hB, f, hf, hfill⟩ := hrel
    by_cases hlt : k < l.length
    · have hlt2 := hf.out.lt
      obtain ⟨a', cap', hv, _, hh⟩ := hsl.ext hB
      cases hv
      obtain ⟨b, off, rfl, _, _, hc⟩ := hh (by omega)
      obtain ⟨c0, c1, c2, c3⟩ := Fnds.at hc hlt
      clear hc hh hsl hmk
      have Hg := Lib.hid (fun g => hfill.step hlt Fnd.len (g := g))
      generalize l[k] = x at *
      go_wp2_with fail
      refine (law_toFinding x _).mono ?_
      rintro e w1 ⟨rfl, hb1⟩
      simp only [Fnd.cells]
      have hr1 := hf.out.of_block (hb1.block _ hlt2)
      have d0 := hr1.cell (i := k * 4) (by omega)
      have d1 := hr1.cell (i := k * 4 + 1) (by omega)
      have d2 := hr1.cell (i := k * 4 + 2) (by omega)
      have d3 := hr1.cell (i := k * 4 + 3) (by omega)
      have e0 := hr1.frozen (k * 4)
      have e1 := hr1.frozen (k * 4 + 1)
      have e2 := hr1.frozen (k * 4 + 2)
      have e3 := hr1.frozen (k * 4 + 3)
      have Hr1 := Lib.hid hr1
      clear hr1
      go_wp2
      go_roundw
      case rel =>
        exact ⟨k + 1, by omega, by go_num, ((((hB.trans (hb1.mono (by omega))).setCell (Nat.le_refl _) _).setCell (Nat.le_refl _) _).setCell (Nat.le_refl _) _).setCell (Nat.le_refl _) _,
          _, Lib.hid ((((Hr1.out.set _ _).set _ _).set _ _).set _ _), Hg.out _ (upd4 _ _ _ _ _ _)⟩
      case measure => simp [intOf]; omega
    · have : k = l.length := by omega
      subst this
      go_wp2
      go_ret
      exact ⟨_, rfl, Slw.of_row hf.out hfill Fnd.len hlen (Nat.le_refl _) hf.out.lt, hB⟩

set_option maxHeartbeats 1000000 in
theorem law_eqFindingS (v v2 : Value) (l : List Fnd) (lo hi lo2 hi2 : Nat) (w : World) (h : Fnds lo hi w v l) (h2 : Fnds lo2 hi2 w v2 l) :
    Calls Try.prog 19 #[v, v2] w fun e w' => e = .returned (.bool true) ∧ Below w.heap.size w w' := by
  have hsl := h
  have hsl2 := h2
  obtain ⟨a, cap, rfl, hlen, hh⟩ := h
  obtain ⟨a2, cap2, rfl, _, hh2⟩ := h2
  clear hh hh2
  go_enter Try.func19, Try.ntmps19
  go_wp2
  go_loopw [5] (fun i wr => ∃ k : Nat, k ≤ l.length ∧ i = .int .i64 k ∧ Below w.heap.size w wr) (fun i _ => l.length - (intOf i).toNat)
  case atStart => exact ⟨0, Nat.zero_le _, rfl, Below.refl _ _⟩
  case round =>
    obtain ⟨k, hk, rfl, hB⟩ := hrel
    by_cases hlt : k < l.length
    · obtain ⟨a', cap', hv, _, hh⟩ := hsl.ext hB
      cases hv
      obtain ⟨b, off, rfl, _, _, hc⟩ := hh (by omega)
      obtain ⟨c0, c1, c2, c3⟩ := Fnds.at hc hlt
      obtain ⟨a', cap', hv, _, hh2⟩ := hsl2.ext hB
      cases hv
      obtain ⟨b2, off2, rfl, _, _, hc2⟩ := hh2 (by omega)
      obtain ⟨d0, d1, d2, d3⟩ := Fnds.at hc2 hlt
      clear hc hh hsl hc2 hh2 hsl2
      generalize l[k] = x at *
      go_wp2_with fail
      have hb0 := World.block_lt_of_cell? wr _ c0
      have hb2 := World.block_lt_of_cell? wr _ d0
      go_region_held3 (fun w' => (∀ b o, b < wr.heap.size → w'.cell? ⟨b, o, none⟩ = wr.cell? ⟨b, o, none⟩) ∧ Below wr.heap.size wr w') (first | exact held0 _ | exact heldS (w1 := wr.drew) (Below.refl _ _).drew (by assumption)) (first | (go_at_call 64; refine (law_eqFinding x _).mono ?_; rintro e w1 ⟨rfl, hb1⟩))
      go_wp2
      go_roundw
      case rel => exact ⟨k + 1, by omega, by go_num, hB.drew.trans (hb1.mono hB.size)⟩
      case measure => simp [intOf]; omega
    · go_wp2
      go_ret
      exact ⟨rfl, hB⟩

theorem law_szFindingS (v : Value) (l : List Fnd) (lo hi : Nat) (n : Int) (w : World) (h : Fnds lo hi w v l) (h0 : 0 ≤ n) (hn : n ≤ 1048576) :
    Calls Try.prog 15 #[v, .int .i64 n] w fun e w' => e = .returned (.int .i64 (if n < l.length then -1 else n - l.length)) ∧ w = w' := by
  obtain ⟨a, cap, rfl, hlen, hh⟩ := h
  clear hh
  by_cases hc : n < l.length
  · go_enter Try.func15, Try.ntmps15
    go_wp2
    go_ret
    exact ⟨by first | rfl | simp [hc], rfl⟩
  · go_enter Try.func15, Try.ntmps15
    go_wp2
    go_ret
    exact ⟨by first | rfl | simp [show ¬ n < (l.length : Int) by omega], rfl⟩
end Go.Proofs.Ytfnmmfopbfmkaaa
