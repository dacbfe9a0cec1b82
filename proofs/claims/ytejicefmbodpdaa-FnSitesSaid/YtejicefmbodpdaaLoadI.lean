/- The load of a chart at a radius, the program. -/
import Derived.Test.YtejicefmbodpdaaGeo
namespace Go.Proofs.Ytejicefmbodpdaa
open Go.RowKit
theorem quiet2' {P : Program} {f : FuncId} {args : Array Value} {w : World} {a n : Nat} {v : Value} (h : Calls P f args (w.drewN (a + n)) fun e w' => e = .returned v ∧ w' = w.drewN (a + n)) :
    Calls P f args (w.drewN (a + n)) fun e w'' => e = .returned v ∧ ∃ m, w'' = w.drewN (a + m) :=
  h.mono fun _ _ ⟨he, hm⟩ => ⟨he, n, hm⟩
set_option maxHeartbeats 1000000 in
theorem impl_StepFn (x0 x1 r : Int) (q : Nat) (w : World) (hq : w.cell? ⟨q, 0, none⟩ = some (.int .i64 r)) :
    Calls Try.prog 73 #[.agg #[.int .i64 x0, .int .i64 x1], .pointer (some ⟨q, 0, none⟩)] w fun e w' => e = .returned (.bool (decide (r ≤ x0))) ∧ Below w.heap.size w w' := by
  have hql := World.block_lt_of_cell? w _ hq
  go_enter Try.func73, Try.ntmps73
  go_wp2
  go_ret
  exact ⟨rfl, (Below.refl _ _).alloc (Nat.le_refl _) _⟩
set_option maxRecDepth 100000 in
set_option maxHeartbeats 4000000 in
theorem impl_StepIx (v : Value) (l : List Chs) (lo hi q : Nat) (r : Int) (w : World) (h : Chss lo hi w v l) (hq : w.cell? ⟨q, 0, none⟩ = some (.int .i64 r)) :
    Calls Try.prog 72 #[v, .func (.func 73) #[] #[.pointer (some ⟨q, 0, none⟩)]] w fun e w' => e = .returned (.int .i64 (findI l r)) ∧ Below w.heap.size w w' := by
  have hql := World.block_lt_of_cell? w _ hq
  have Hq := Lib.hid hq
  have hsl := h
  obtain ⟨a, cap, rfl, ⟨hcp, hcp2⟩, hh⟩ := h
  clear hh hq
  go_enter Try.func72, Try.ntmps72
  go_wp2
  go_loopw [8] (fun i wr => ∃ k : Nat, k ≤ l.length ∧ i = .int .i64 k ∧ Hid (∀ i (h : i < l.length), i < k → l[i].radius < r) ∧ Below w.heap.size w wr) (fun i _ => l.length - (intOf i).toNat)
  case atStart => exact ⟨0, Nat.zero_le _, rfl, Lib.hid (fun _ _ h => absurd h (by omega)), Below.refl _ _⟩
  case round =>
    obtain ⟨k, hk, rfl, hall, hB⟩ := hrel
    by_cases hlt : k < l.length
    · obtain ⟨b, off, rfl⟩ := hsl.addr (by omega)
      obtain ⟨c0, c1⟩ := Chss.at (hsl.ext hB).get hlt
      have Hst := Lib.hid (fun h => find_step hlt hall.out h)
      have Hyes := Lib.hid (fun (h : r ≤ l[k].radius) => findI_eq hlt hall.out h)
      have hq2 := (hB.cell (p := ⟨q, 0, none⟩) hql).trans Hq.out
      clear hsl
      generalize l[k] = x at *
      obtain ⟨x0, x1⟩ := x
      dsimp only at *
      have hcall := impl_StepFn x0 x1 r q wr hq2
      clear hq2
      by_cases hc : r ≤ x0
      · have Hd := Lib.hid (Hyes.out hc)
        rw [decide_eq_true hc] at hcall
        have hcall := Lib.hid hcall
        clear hc
        go_wp2_with fail
        refine hcall.out.mono ?_
        rintro e w1 ⟨rfl, hb1⟩
        go_wp2
        go_ret
        exact ⟨ret_int Hd.out.symm, hB.trans (hb1.mono hB.size)⟩
      · have Hd := Lib.hid (Hst.out (by omega))
        rw [decide_eq_false hc] at hcall
        have hcall := Lib.hid hcall
        clear hc
        go_wp2_with fail
        refine hcall.out.mono ?_
        rintro e w1 ⟨rfl, hb1⟩
        go_wp2
        go_roundw
        case rel => exact ⟨k + 1, by omega, by go_num, Hd, hB.trans (hb1.mono hB.size)⟩
        case measure => simp [intOf]; omega
    · have Hd := Lib.hid (findI_none (fun i h => hall.out i h (by omega)))
      go_wp2
      go_ret
      exact ⟨ret_int Hd.out.symm, hB⟩
set_option maxHeartbeats 1000000 in
theorem impl_StepFor (v : Value) (l : List Chs) (lo hi : Nat) (r : Int) (w : World) (h : Chss lo hi w v l) :
    Calls Try.prog 70 #[v, .int .i64 r] w fun e w' => e = .returned (.int .i64 (findI l r)) ∧ Below w.heap.size w w' := by
  have hba : Below w.heap.size w (w.alloc (.cells #[.int .i64 r] 2)) := (Below.refl _ _).alloc (Nat.le_refl _) _
  have hcall := Lib.hid (impl_StepIx v l lo hi w.heap.size r _ (h.ext hba) (by rw [Lib.cell_of_heap (blkN_new w _)]; rfl))
  obtain ⟨a, cap, rfl, hcp, -⟩ := h
  go_enter Try.func70, Try.ntmps70
  go_wp2_with fail
  refine hcall.out.mono ?_
  rintro e w1 ⟨rfl, hb1⟩
  go_wp2
  go_ret
  exact ⟨rfl, hba.trans (hb1.mono (by simp))⟩
/-- The load and whether there is one. -/
def loadR (l : List Chs) (r : Int) : Int := if loadI l r < 0 then 0 else loadI l r
set_option maxRecDepth 100000 in
set_option maxHeartbeats 4000000 in
theorem impl_Load (v : Value) (l : List Chs) (lo hi : Nat) (r : Int) (w : World) (h : Chss lo hi w v l) (hc : chartOk l) (_hr : -1000000 ≤ r ∧ r ≤ 1000000) :
    Calls Try.prog 64 #[v, .int .i64 r] w fun e w' => e = .returned (.tuple #[.int .i64 (loadR l r), .bool (decide (0 ≤ loadI l r))]) ∧ Below w.heap.size w w' := by
  have hF := impl_StepFor v l lo hi r w h
  have hsl := h
  obtain ⟨a, cap, rfl, ⟨hcp, hcp2⟩, hh⟩ := h
  clear hh
  rcases load_cases hc r with ⟨h1, h2, -⟩ | ⟨h0, h2, h0', h1, hb0, -⟩ | ⟨k, h2, h0, hk, hk', h1, hb0, hb1, ha, hb, e1, e2, e3, e4⟩
  · have hf : findI l r = -1 := by unfold findI; rw [h2, if_neg (by omega)]
    rw [hf] at hF
    rw [show loadR l r = 0 by unfold loadR; rw [h1]; rfl, show decide (0 ≤ loadI l r) = false by rw [h1]; rfl]
    have HF := Lib.hid hF
    clear hF hf h1 h2 hsl hc
    go_enter Try.func64, Try.ntmps64
    go_wp2_with ((go_at_call 70; refine HF.out.mono ?_; rintro e w' ⟨rfl, hb1⟩))
    go_ret2
    exact ⟨rfl, hb1⟩
  · have hf : findI l r = 0 := by unfold findI; rw [h2, if_pos h0]; rfl
    rw [hf] at hF
    rw [show loadR l r = loadI l r by unfold loadR; rw [if_neg (by omega)], show decide (0 ≤ loadI l r) = true from decide_eq_true hb0]
    rw [h1]
    have HF := Lib.hid hF
    obtain ⟨b, off, rfl⟩ := hsl.addr h0
    have Hg := Lib.hid (fun w' hb => (Chss.at (hsl.ext (w' := w') hb).get h0).2)
    clear hF hf h1 h2 hsl hc hb0
    generalize l[0] = x at *
    go_enter Try.func64, Try.ntmps64
    go_wp2_with ((go_at_call 70; refine HF.out.mono ?_; rintro e w' ⟨rfl, hb1⟩; have c1 := Hg.out _ hb1))
    go_ret2
    exact ⟨rfl, hb1⟩
  · have hf : findI l r = k := by unfold findI; rw [h2, if_pos hk]
    rw [hf] at hF
    rw [show loadR l r = loadI l r by unfold loadR; rw [if_neg (by omega)], show decide (0 ≤ loadI l r) = true from decide_eq_true hb0]
    rw [h1]
    have HF := Lib.hid hF
    obtain ⟨b, off, rfl⟩ := hsl.addr (by omega)
    have Hg := Lib.hid (fun w' hb => (Chss.at (hsl.ext (w' := w') hb).get hk))
    have Hg' := Lib.hid (fun w' hb => (Chss.at (hsl.ext (w' := w') hb).get hk'))
    obtain ⟨⟨l1, l2, l3⟩, l4, l5⟩ := btw_lay ha hb e1 e2 e3 e4
    obtain ⟨⟨p1, p2⟩, -, ⟨u1, u2⟩⟩ := btw_bd ha hb e1 e2 e3 e4
    have hup := fun w => impl_ceil _ _ w p1 (by omega) (show 0 < l[k].radius - l[k-1].radius by omega) (by have := hb.1.2; have := ha.1.1; omega)
    have hkm : ((k : Int) - 1).toNat = k - 1 := by omega
    have hkn : (0 : Int) ≤ (k : Int) - 1 := by omega
    have hk1 : (1 : Int) ≤ (k : Int) := by omega
    have hkl : ((k : Int) - 1) < (l.length : Int) := by omega
    have hkw : IntKind.i64.wrap ((k : Int) - 1) = (k : Int) - 1 := IntWalk.i64_in _ (by omega)
    have hk0 : ((k : Int) == 0) = false := by simp; omega
    clear hF hf h1 h2 hsl hc hb0 hb1 ha hb e1 e2 e3 e4 p1 p2 u1 u2
    generalize l[k] = y at *
    generalize l[k-1] = x at *
    have HU := Lib.hid hup
    clear hup _hr
    generalize hq : btw x y r = q at *
    clear hq
    go_enter Try.func64, Try.ntmps64
    go_wp2_with ((go_at_call 70; refine HF.out.mono ?_; rintro e w1 ⟨rfl, hb1⟩; obtain ⟨c0, c1⟩ := Hg.out _ hb1; obtain ⟨d0, d1⟩ := Hg'.out _ hb1; have hbw := World.block_lt_of_cell? w1 _ c0))
    go_region_held3 (fun w' => (∀ b' o', b' < w1.heap.size → w'.cell? ⟨b', o', none⟩ = w1.cell? ⟨b', o', none⟩) ∧ Below w1.heap.size w1 w') (first | (refine heldB ?_; go_grown; done)) (fail)
    all_goals
      go_wp2_with fail
      go_quiet ((go_at_call 71; first | exact Calls.quiet_of_same (Calls.turn (HU.out _)) | exact quiet2' (Calls.turn (HU.out _))))
      go_wp2
      go_ret2
      exact ⟨rfl, below_dN (hb1.trans (Below.mono (B := w1.heap.size) (by go_grown) hb1.size)) _⟩
end Go.Proofs.Ytejicefmbodpdaa
