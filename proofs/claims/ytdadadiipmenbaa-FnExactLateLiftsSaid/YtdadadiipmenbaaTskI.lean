/- Valid tasks, the program. -/
import Derived.Test.YtdadadiipmenbaaTskV
import Derived.Test.YtdadadiipmenbaaUnw
namespace Go.Proofs.Ytdadadiipmenbaa
open Go.RowKit
theorem obx1 (w : World) (o : Obj) : ∃ W, w.alloc o = W ∧ W.heap[w.heap.size]? = some o ∧ Below w.heap.size w W ∧ W.heap.size = w.heap.size + 1 := ⟨_, rfl, Array.getElem?_push_size, (Below.refl _ _).alloc (Nat.le_refl _) _, by simp⟩
theorem obx2 (w : World) (o p : Obj) : ∃ W, ((w.alloc o).alloc p) = W ∧ W.heap[w.heap.size]? = some o ∧ W.heap[w.heap.size + 1]? = some p ∧ Below w.heap.size w W ∧ W.heap.size = w.heap.size + 2 := by
  refine ⟨_, rfl, ?_, ?_, (((Below.refl _ _).alloc (Nat.le_refl _) _).alloc (by simp) _), by simp⟩
  · rw [Below.heap_alloc _ _ _ (by simp)]; exact Array.getElem?_push_size
  · have : ((w.alloc o).alloc p).heap[(w.alloc o).heap.size]? = some p := Array.getElem?_push_size
    rwa [show (w.alloc o).heap.size = w.heap.size + 1 by simp] at this
set_option maxRecDepth 100000 in
set_option maxHeartbeats 4000000 in
theorem impl_compareTasks (x y : Tsk) (w : World) : Calls Try.prog 78 #[.agg x.cells.toArray, .agg y.cells.toArray] w fun e w' => e = .returned (.int .i64 (orL [cmpI x.start y.start, cmpI x.crane y.crane, cmpI x.lift y.lift])) ∧ Below w.heap.size w w' := by
  have HC := Lib.hid (fun a b w' => impl_Compare a b w')
  have HO := Lib.hid (fun b w' hc => impl_Or b [cmpI x.start y.start, cmpI x.crane y.crane, cmpI x.lift y.lift] w' rfl hc)
  obtain ⟨x0, x1, x2, x3⟩ := x
  obtain ⟨y0, y1, y2, y3⟩ := y
  simp only [Tsk.cells] at *
  obtain ⟨W0, hW, e1, e2, hB0, hz0⟩ := obx2 w (.cells #[.int .i64 x0, .int .i64 x1, .int .i64 x2, .int .i64 x3] 92 (0, 0)) (.cells #[.int .i64 y0, .int .i64 y1, .int .i64 y2, .int .i64 y3] 92 (0, 0))
  have k0 : W0.cell? ⟨w.heap.size, 0, none⟩ = some (.int .i64 x0) := by rw [Lib.cell_of_heap e1]; rfl
  have k1 : W0.cell? ⟨w.heap.size, 1, none⟩ = some (.int .i64 x1) := by rw [Lib.cell_of_heap e1]; rfl
  have k2 : W0.cell? ⟨w.heap.size, 2, none⟩ = some (.int .i64 x2) := by rw [Lib.cell_of_heap e1]; rfl
  have l0 : W0.cell? ⟨w.heap.size + 1, 0, none⟩ = some (.int .i64 y0) := by rw [Lib.cell_of_heap e2]; rfl
  have l1 : W0.cell? ⟨w.heap.size + 1, 1, none⟩ = some (.int .i64 y1) := by rw [Lib.cell_of_heap e2]; rfl
  have l2 : W0.cell? ⟨w.heap.size + 1, 2, none⟩ = some (.int .i64 y2) := by rw [Lib.cell_of_heap e2]; rfl
  have hq0 : w.heap.size < W0.heap.size := by omega
  have hq1 : w.heap.size + 1 < W0.heap.size := by omega
  have HW := Lib.hid hW
  have HB0 := Lib.hid hB0
  clear hW e1 e2 hB0 hz0
  generalize hr : orL [cmpI x2 y2, cmpI x1 y1, cmpI x0 y0] = r at *
  go_enter Try.func78, Try.ntmps78
  go_wp2_with fail
  rw [HW.out]
  go_region_held3 (fun w' => (∀ b' o', b' < W0.heap.size → w'.cell? ⟨b', o', none⟩ = W0.cell? ⟨b', o', none⟩) ∧ Below W0.heap.size W0 w') (first | (refine heldB ?_; go_grown; done))
    (first
      | (go_at_call 100; (with_reducible refine (HC.out _ _ _).mono ?_); rintro e w2 ⟨rfl, rfl⟩)
      | (go_at_call 99; (with_reducible refine (HO.out _ _ ?hc).mono ?_); (case hc => (intro k hk; rcases k with _ | _ | _ | k <;> first | (simp; done) | omega)); rintro e w4 ⟨rfl, rfl⟩))
  all_goals
    go_wp2_with fail
    go_ret
    exact ⟨rfl, HB0.out.trans (Below.mono (B := W0.heap.size) (by go_grown) HB0.out.size)⟩
set_option maxRecDepth 100000 in
set_option maxHeartbeats 8000000 in
theorem impl_TasksOk (v : Value) (l : List Tsk) (lo hi : Nat) (w : World) (h : Tsks lo hi w v l) :
    Calls Try.prog 51 #[v] w fun e w' => e = .returned (.bool (tsksB l)) ∧ Below w.heap.size w w' := by
  have hsl := h
  obtain ⟨a, cap, rfl, hlen, hh⟩ := h
  clear hh
  go_enter Try.func51, Try.ntmps51
  go_wp2
  go_loopw [7] (fun i wr => ∃ k : Nat, k ≤ l.length ∧ i = .int .i64 k ∧ Below w.heap.size w wr ∧ Hid (∀ i, i < k → rowT l i)) (fun i _ => l.length - (intOf i).toNat)
  case atStart => exact ⟨0, Nat.zero_le _, rfl, Below.refl _ _, Lib.hid (fun i h => absurd h (by omega))⟩
  case round =>
    obtain ⟨k, hk, rfl, hB, hall⟩ := hrel
    by_cases hlt : k < l.length
    · obtain ⟨b, off, rfl⟩ := hsl.addr (by omega)
      have hs := hsl.ext hB
      obtain ⟨c0, c1, c2, c3⟩ := Tsks.at hs.get hlt
      have hbw := World.block_lt_of_cell? wr _ c0
      have hV := fun w' => impl_TValid l[k] w'
      have hbad := Lib.hid (fun h => tsks_bad (l := l) hlt h)
      have hgd := Lib.hid (getD_get hlt)
      have hBs := hB.size
      have HBw := Lib.hid hB
      by_cases h0 : k = 0
      · subst h0
        simp only [Nat.zero_mul, Nat.add_zero] at c0 c1 c2 c3
        have Hn := Lib.hid (fun hok : (l[0]).ok => (fun i hi => by
            obtain rfl : i = 0 := by omega
            exact ⟨by rw [hgd.out]; exact hok, fun h => absurd h (by omega)⟩ : ∀ i, i < 0 + 1 → rowT l i))
        have Hbd := Lib.hid (fun hok : ¬ (l[0]).ok => hbad.out (fun h => hok (by rw [← hgd.out]; exact h.1)))
        clear hsl hs hbad hgd
        generalize l[0] = x at *
        by_cases hok : x.ok
        · rw [decide_eq_true hok] at hV
          have Hn1 := Lib.hid (Hn.out hok)
          clear Hn Hbd hok
          obtain ⟨x0, x1, x2, x3⟩ := x
          simp only [Tsk.cells] at *
          have HV := Lib.hid hV
          obtain ⟨W1, hW, e1, hB1, hz1⟩ := obx1 wr (.cells #[.int .i64 x0, .int .i64 x1, .int .i64 x2, .int .i64 x3] 92 (0, 0))
          have HW := Lib.hid hW
          have HB1 := Lib.hid (HBw.out.trans (hB1.mono hBs))
          have k0 : W1.cell? ⟨wr.heap.size, 0, none⟩ = some (.int .i64 x0) := by rw [Lib.cell_of_heap e1]; rfl
          have k1 : W1.cell? ⟨wr.heap.size, 1, none⟩ = some (.int .i64 x1) := by rw [Lib.cell_of_heap e1]; rfl
          have k2 : W1.cell? ⟨wr.heap.size, 2, none⟩ = some (.int .i64 x2) := by rw [Lib.cell_of_heap e1]; rfl
          have k3 : W1.cell? ⟨wr.heap.size, 3, none⟩ = some (.int .i64 x3) := by rw [Lib.cell_of_heap e1]; rfl
          have hq0 : wr.heap.size < W1.heap.size := by omega
          clear hW e1 hB1 hV hB
          go_wp2_with fail
          rw [HW.out]
          skip
          refine wp_region_held_drew (S := (fun w' => (∀ b' o', b' < W1.heap.size → w'.cell? ⟨b', o', none⟩ = W1.cell? ⟨b', o', none⟩) ∧ Below W1.heap.size W1 w')) (by kernel_rfl) (heldB (by go_grown)) (fun hHeld => ?_)
          refine take_v 12 (i := 0) rfl rfl (by kernel_rfl) (by kernel_rfl) (by kernel_rfl) (fun _ _ _ h => h) (by rfl) (fun w hSw => by (try dsimp only at hSw); go_simp; first | done | with_reducible rfl) hHeld ?_
          try simp only [Act.put, List.setIfInBounds_toArray, List.set_cons_zero, List.set_cons_succ]
          refine wpAnyH_ready (rs := [1]) (by kernel_rfl) (by simp) ?_
          refine AllReadyH.cons rfl (fun K hK => ?_) AllReadyH.nil
          go_simp
          refine (HV.out _).mono ?_
          rintro e w3 ⟨rfl, hb3'⟩
          have b2 : Below W1.heap.size W1 w3 := Below.trans (by go_grown) (hb3'.mono (by go_size))
          go_wp2_with fail
          refine hK.out _ _ (heldB b2) (fun hHeld => ?_)
          clear hK
          try simp only [Act.put, List.setIfInBounds_toArray, List.set_cons_zero, List.set_cons_succ]
          refine take_v 14 (i := 2) rfl rfl (by kernel_rfl) (by kernel_rfl) (by kernel_rfl) (fun _ _ _ h => h) (by rfl) (fun w hSw => by (try dsimp only at hSw); go_simp; first | done | with_reducible rfl) hHeld ?_
          try simp only [Act.put, List.setIfInBounds_toArray, List.set_cons_zero, List.set_cons_succ]
          refine take_v 15 (i := 3) rfl rfl (by kernel_rfl) (by kernel_rfl) (by kernel_rfl) (fun _ _ _ h => h) (by rfl) (fun w hSw => by (try dsimp only at hSw); go_simp; first | done | with_reducible rfl) hHeld ?_
          try simp only [Act.put, List.setIfInBounds_toArray, List.set_cons_zero, List.set_cons_succ]
          refine take_v 16 (i := 4) rfl rfl (by kernel_rfl) (by kernel_rfl) (by kernel_rfl) (fun _ _ _ h => h) (by rfl) (fun w hSw => by (try dsimp only at hSw); go_simp; first | done | with_reducible rfl) hHeld ?_
          try simp only [Act.put, List.setIfInBounds_toArray, List.set_cons_zero, List.set_cons_succ]
          refine take_v 17 (i := 5) rfl rfl (by kernel_rfl) (by kernel_rfl) (by kernel_rfl) (fun _ _ _ h => h) (by rfl) (fun w hSw => by (try dsimp only at hSw); go_simp; first | done | with_reducible rfl) hHeld ?_
          try simp only [Act.put, List.setIfInBounds_toArray, List.set_cons_zero, List.set_cons_succ]
          refine take_v 18 (i := 6) rfl rfl (by kernel_rfl) (by kernel_rfl) (by kernel_rfl) (fun _ _ _ h => h) (by rfl) (fun w hSw => by (try dsimp only at hSw); go_simp; first | done | with_reducible rfl) hHeld ?_
          try simp only [Act.put, List.setIfInBounds_toArray, List.set_cons_zero, List.set_cons_succ]
          skip
          refine take_u 19 (i := 7) rfl rfl (by kernel_rfl) (by kernel_rfl) (by kernel_rfl) (fun _ _ _ h => h) (by rfl) hHeld ?_
          try simp only [Act.put, List.setIfInBounds_toArray, List.set_cons_zero, List.set_cons_succ]
          refine take_u 20 (i := 8) rfl rfl (by kernel_rfl) (by kernel_rfl) (by kernel_rfl) (fun _ _ _ h => h) (by rfl) hHeld ?_
          try simp only [Act.put, List.setIfInBounds_toArray, List.set_cons_zero, List.set_cons_succ]
          refine take_u 21 (i := 9) rfl rfl (by kernel_rfl) (by kernel_rfl) (by kernel_rfl) (fun _ _ _ h => h) (by rfl) hHeld ?_
          try simp only [Act.put, List.setIfInBounds_toArray, List.set_cons_zero, List.set_cons_succ]
          refine take_u 22 (i := 10) rfl rfl (by kernel_rfl) (by kernel_rfl) (by kernel_rfl) (fun _ _ _ h => h) (by rfl) hHeld ?_
          try simp only [Act.put, List.setIfInBounds_toArray, List.set_cons_zero, List.set_cons_succ]
          refine take_u 23 (i := 11) rfl rfl (by kernel_rfl) (by kernel_rfl) (by kernel_rfl) (fun _ _ _ h => h) (by rfl) hHeld ?_
          try simp only [Act.put, List.setIfInBounds_toArray, List.set_cons_zero, List.set_cons_succ]
          refine take_u 24 (i := 12) rfl rfl (by kernel_rfl) (by kernel_rfl) (by kernel_rfl) (fun _ _ _ h => h) (by rfl) hHeld ?_
          try simp only [Act.put, List.setIfInBounds_toArray, List.set_cons_zero, List.set_cons_succ]
          refine take_u 25 (i := 13) rfl rfl (by kernel_rfl) (by kernel_rfl) (by kernel_rfl) (fun _ _ _ h => h) (by rfl) hHeld ?_
          try simp only [Act.put, List.setIfInBounds_toArray, List.set_cons_zero, List.set_cons_succ]
          refine take_u 26 (i := 14) rfl rfl (by kernel_rfl) (by kernel_rfl) (by kernel_rfl) (fun _ _ _ h => h) (by rfl) hHeld ?_
          try simp only [Act.put, List.setIfInBounds_toArray, List.set_cons_zero, List.set_cons_succ]
          refine take_v 27 (i := 15) rfl rfl (by kernel_rfl) (by kernel_rfl) (by kernel_rfl) (fun _ _ _ h => h) (by rfl) (fun w hSw => by (try dsimp only at hSw); go_simp; first | done | with_reducible rfl) hHeld ?_
          try simp only [Act.put, List.setIfInBounds_toArray, List.set_cons_zero, List.set_cons_succ]
          refine take_v 28 (i := 16) rfl rfl (by kernel_rfl) (by kernel_rfl) (by kernel_rfl) (fun _ _ _ h => h) (by rfl) (fun w hSw => by (try dsimp only at hSw); go_simp; first | done | with_reducible rfl) hHeld ?_
          try simp only [Act.put, List.setIfInBounds_toArray, List.set_cons_zero, List.set_cons_succ]
          refine wpAnyH_done (by kernel_rfl) ?_ _
          go_wp2
          go_roundw
          case rel => exact ⟨0 + 1, by omega, by go_num, HB1.out.trans (b2.mono HB1.out.size), Hn1⟩
          case measure => simp [intOf]; omega
        · rw [decide_eq_false hok] at hV
          have Hd := Lib.hid (Hbd.out hok)
          clear Hn Hbd hok
          obtain ⟨x0, x1, x2, x3⟩ := x
          simp only [Tsk.cells] at *
          have HV := Lib.hid hV
          obtain ⟨W1, hW, e1, hB1, hz1⟩ := obx1 wr (.cells #[.int .i64 x0, .int .i64 x1, .int .i64 x2, .int .i64 x3] 92 (0, 0))
          have HW := Lib.hid hW
          have HB1 := Lib.hid (HBw.out.trans (hB1.mono hBs))
          have k0 : W1.cell? ⟨wr.heap.size, 0, none⟩ = some (.int .i64 x0) := by rw [Lib.cell_of_heap e1]; rfl
          have k1 : W1.cell? ⟨wr.heap.size, 1, none⟩ = some (.int .i64 x1) := by rw [Lib.cell_of_heap e1]; rfl
          have k2 : W1.cell? ⟨wr.heap.size, 2, none⟩ = some (.int .i64 x2) := by rw [Lib.cell_of_heap e1]; rfl
          have k3 : W1.cell? ⟨wr.heap.size, 3, none⟩ = some (.int .i64 x3) := by rw [Lib.cell_of_heap e1]; rfl
          have hq0 : wr.heap.size < W1.heap.size := by omega
          clear hW e1 hB1 hV hB
          go_wp2_with fail
          rw [HW.out]
          skip
          refine wp_region_held_drew (S := (fun w' => (∀ b' o', b' < W1.heap.size → w'.cell? ⟨b', o', none⟩ = W1.cell? ⟨b', o', none⟩) ∧ Below W1.heap.size W1 w')) (by kernel_rfl) (heldB (by go_grown)) (fun hHeld => ?_)
          refine take_v 12 (i := 0) rfl rfl (by kernel_rfl) (by kernel_rfl) (by kernel_rfl) (fun _ _ _ h => h) (by rfl) (fun w hSw => by (try dsimp only at hSw); go_simp; first | done | with_reducible rfl) hHeld ?_
          try simp only [Act.put, List.setIfInBounds_toArray, List.set_cons_zero, List.set_cons_succ]
          refine wpAnyH_ready (rs := [1]) (by kernel_rfl) (by simp) ?_
          refine AllReadyH.cons rfl (fun K hK => ?_) AllReadyH.nil
          go_simp
          refine (HV.out _).mono ?_
          rintro e w3 ⟨rfl, hb3'⟩
          have b2 : Below W1.heap.size W1 w3 := Below.trans (by go_grown) (hb3'.mono (by go_size))
          go_wp2_with fail
          refine hK.out _ _ (heldB b2) (fun hHeld => ?_)
          clear hK
          try simp only [Act.put, List.setIfInBounds_toArray, List.set_cons_zero, List.set_cons_succ]
          refine take_v 14 (i := 2) rfl rfl (by kernel_rfl) (by kernel_rfl) (by kernel_rfl) (fun _ _ _ h => h) (by rfl) (fun w hSw => by (try dsimp only at hSw); go_simp; first | done | with_reducible rfl) hHeld ?_
          try simp only [Act.put, List.setIfInBounds_toArray, List.set_cons_zero, List.set_cons_succ]
          refine take_v 15 (i := 3) rfl rfl (by kernel_rfl) (by kernel_rfl) (by kernel_rfl) (fun _ _ _ h => h) (by rfl) (fun w hSw => by (try dsimp only at hSw); go_simp; first | done | with_reducible rfl) hHeld ?_
          try simp only [Act.put, List.setIfInBounds_toArray, List.set_cons_zero, List.set_cons_succ]
          refine take_u 16 (i := 4) rfl rfl (by kernel_rfl) (by kernel_rfl) (by kernel_rfl) (fun _ _ _ h => h) (by rfl) hHeld ?_
          try simp only [Act.put, List.setIfInBounds_toArray, List.set_cons_zero, List.set_cons_succ]
          refine take_u 17 (i := 5) rfl rfl (by kernel_rfl) (by kernel_rfl) (by kernel_rfl) (fun _ _ _ h => h) (by rfl) hHeld ?_
          try simp only [Act.put, List.setIfInBounds_toArray, List.set_cons_zero, List.set_cons_succ]
          refine take_u 18 (i := 6) rfl rfl (by kernel_rfl) (by kernel_rfl) (by kernel_rfl) (fun _ _ _ h => h) (by rfl) hHeld ?_
          try simp only [Act.put, List.setIfInBounds_toArray, List.set_cons_zero, List.set_cons_succ]
          skip
          refine take_u 19 (i := 7) rfl rfl (by kernel_rfl) (by kernel_rfl) (by kernel_rfl) (fun _ _ _ h => h) (by rfl) hHeld ?_
          try simp only [Act.put, List.setIfInBounds_toArray, List.set_cons_zero, List.set_cons_succ]
          refine take_u 20 (i := 8) rfl rfl (by kernel_rfl) (by kernel_rfl) (by kernel_rfl) (fun _ _ _ h => h) (by rfl) hHeld ?_
          try simp only [Act.put, List.setIfInBounds_toArray, List.set_cons_zero, List.set_cons_succ]
          refine take_u 21 (i := 9) rfl rfl (by kernel_rfl) (by kernel_rfl) (by kernel_rfl) (fun _ _ _ h => h) (by rfl) hHeld ?_
          try simp only [Act.put, List.setIfInBounds_toArray, List.set_cons_zero, List.set_cons_succ]
          refine take_u 22 (i := 10) rfl rfl (by kernel_rfl) (by kernel_rfl) (by kernel_rfl) (fun _ _ _ h => h) (by rfl) hHeld ?_
          try simp only [Act.put, List.setIfInBounds_toArray, List.set_cons_zero, List.set_cons_succ]
          refine take_u 23 (i := 11) rfl rfl (by kernel_rfl) (by kernel_rfl) (by kernel_rfl) (fun _ _ _ h => h) (by rfl) hHeld ?_
          try simp only [Act.put, List.setIfInBounds_toArray, List.set_cons_zero, List.set_cons_succ]
          refine take_u 24 (i := 12) rfl rfl (by kernel_rfl) (by kernel_rfl) (by kernel_rfl) (fun _ _ _ h => h) (by rfl) hHeld ?_
          try simp only [Act.put, List.setIfInBounds_toArray, List.set_cons_zero, List.set_cons_succ]
          refine take_u 25 (i := 13) rfl rfl (by kernel_rfl) (by kernel_rfl) (by kernel_rfl) (fun _ _ _ h => h) (by rfl) hHeld ?_
          try simp only [Act.put, List.setIfInBounds_toArray, List.set_cons_zero, List.set_cons_succ]
          refine take_u 26 (i := 14) rfl rfl (by kernel_rfl) (by kernel_rfl) (by kernel_rfl) (fun _ _ _ h => h) (by rfl) hHeld ?_
          try simp only [Act.put, List.setIfInBounds_toArray, List.set_cons_zero, List.set_cons_succ]
          refine take_u 27 (i := 15) rfl rfl (by kernel_rfl) (by kernel_rfl) (by kernel_rfl) (fun _ _ _ h => h) (by rfl) hHeld ?_
          try simp only [Act.put, List.setIfInBounds_toArray, List.set_cons_zero, List.set_cons_succ]
          refine take_v 28 (i := 16) rfl rfl (by kernel_rfl) (by kernel_rfl) (by kernel_rfl) (fun _ _ _ h => h) (by rfl) (fun w hSw => by (try dsimp only at hSw); go_simp; first | done | with_reducible rfl) hHeld ?_
          try simp only [Act.put, List.setIfInBounds_toArray, List.set_cons_zero, List.set_cons_succ]
          refine wpAnyH_done (by kernel_rfl) ?_ _
          go_wp2
          go_ret
          rw [Hd.out]; exact ⟨rfl, HB1.out.trans (b2.mono HB1.out.size)⟩
      · obtain ⟨j, rfl⟩ : ∃ j, k = j + 1 := ⟨k - 1, by omega⟩
        have hjt : j < l.length := by omega
        obtain ⟨d0, d1, d2, d3⟩ := Tsks.at hs.get hjt
        have hP := fun w' => impl_compareTasks l[j] l[j + 1] w'
        have hgj := Lib.hid (getD_get hjt)
        have hsub : IntKind.i64.wrap (((j + 1 : Nat) : Int) - 1) = (j : Int) := by rw [show ((j + 1 : Nat) : Int) - 1 = (j : Int) by omega]; exact IntWalk.i64_in _ (by have := hlen.1; have := hlen.2; omega)
        have hjp : decide ((0 : Int) < ((j + 1 : Nat) : Int)) = true := decide_eq_true (by omega)
        have hi1 : ¬ ((j : Int) < 0) := by omega
        have hi2 : (j : Int) < (l.length : Int) := by omega
        have hwj : IntKind.i64.wrap (j : Int) = (j : Int) := IntWalk.i64_in _ (by have := hlen.1; have := hlen.2; omega)
        have hcb := cmp_bef l[j] l[j + 1]
        have Hn := Lib.hid (fun (hok : (l[j + 1]).ok) (hbf : bef l[j] l[j + 1]) => (fun i hi => by
            by_cases h : i = j + 1
            · subst h
              exact ⟨by rw [hgd.out]; exact hok, fun _ => by rw [hgd.out, show j + 1 - 1 = j from rfl, hgj.out]; exact hbf⟩
            · exact hall.out i (by omega) : ∀ i, i < j + 1 + 1 → rowT l i))
        have Hbd := Lib.hid (fun hok : ¬ (l[j + 1]).ok => hbad.out (fun h => hok (by rw [← hgd.out]; exact h.1)))
        have Hbe := Lib.hid (fun hbf : ¬ bef l[j] l[j + 1] => hbad.out (fun h => hbf (by have := h.2 (by omega); rw [hgd.out, show j + 1 - 1 = j from rfl, hgj.out] at this; exact this)))
        clear hsl hs hbad hgd hgj h0
        generalize l[j + 1] = x at *
        generalize l[j] = y at *
        generalize hoc : orL [cmpI y.start x.start, cmpI y.crane x.crane, cmpI y.lift x.lift] = oc at *
        clear hoc
        by_cases hok : x.ok
        · rw [decide_eq_true hok] at hV
          have Hn1 := Lib.hid (Hn.out hok)
          clear Hn Hbd hok
          by_cases hbf : bef y x
          · rw [decide_eq_true hbf] at hcb
            simp only [Bool.not_true] at hcb
            have Hn2 := Lib.hid (Hn1.out hbf)
            clear Hn1 Hbe hbf
            obtain ⟨x0, x1, x2, x3⟩ := x
            obtain ⟨y0, y1, y2, y3⟩ := y
            simp only [Tsk.cells] at *
            have HV := Lib.hid hV
            have HP := Lib.hid hP
            obtain ⟨W1, hW, e1, hB1, hz1⟩ := obx1 wr (.cells #[.int .i64 x0, .int .i64 x1, .int .i64 x2, .int .i64 x3] 92 (0, 0))
            have HW := Lib.hid hW
            have HB1 := Lib.hid (HBw.out.trans (hB1.mono hBs))
            have k0 : W1.cell? ⟨wr.heap.size, 0, none⟩ = some (.int .i64 x0) := by rw [Lib.cell_of_heap e1]; rfl
            have k1 : W1.cell? ⟨wr.heap.size, 1, none⟩ = some (.int .i64 x1) := by rw [Lib.cell_of_heap e1]; rfl
            have k2 : W1.cell? ⟨wr.heap.size, 2, none⟩ = some (.int .i64 x2) := by rw [Lib.cell_of_heap e1]; rfl
            have k3 : W1.cell? ⟨wr.heap.size, 3, none⟩ = some (.int .i64 x3) := by rw [Lib.cell_of_heap e1]; rfl
            have f0 := (hB1.cell (p := ⟨b, off + j * 4, none⟩) hbw).trans d0
            have f1 := (hB1.cell (p := ⟨b, off + j * 4 + 1, none⟩) hbw).trans d1
            have f2 := (hB1.cell (p := ⟨b, off + j * 4 + 2, none⟩) hbw).trans d2
            have f3 := (hB1.cell (p := ⟨b, off + j * 4 + 3, none⟩) hbw).trans d3
            have hq0 : wr.heap.size < W1.heap.size := by omega
            have hq1 : b < W1.heap.size := by omega
            clear hW e1 hB1 hV hP hB d0 d1 d2 d3
            go_wp2_with fail
            rw [HW.out]
            skip
            refine wp_region_held_drew (S := (fun w' => (∀ b' o', b' < W1.heap.size → w'.cell? ⟨b', o', none⟩ = W1.cell? ⟨b', o', none⟩) ∧ Below W1.heap.size W1 w')) (by kernel_rfl) (heldB (by go_grown)) (fun hHeld => ?_)
            refine take_v 12 (i := 0) rfl rfl (by kernel_rfl) (by kernel_rfl) (by kernel_rfl) (fun _ _ _ h => h) (by rfl) (fun w hSw => by (try dsimp only at hSw); go_simp; first | done | with_reducible rfl) hHeld ?_
            try simp only [Act.put, List.setIfInBounds_toArray, List.set_cons_zero, List.set_cons_succ]
            refine wpAnyH_ready (rs := [1]) (by kernel_rfl) (by simp) ?_
            refine AllReadyH.cons rfl (fun K hK => ?_) AllReadyH.nil
            go_simp
            refine (HV.out _).mono ?_
            rintro e w3 ⟨rfl, hb3'⟩
            have b2 : Below W1.heap.size W1 w3 := Below.trans (by go_grown) (hb3'.mono (by go_size))
            go_wp2_with fail
            refine hK.out _ _ (heldB b2) (fun hHeld => ?_)
            clear hK
            try simp only [Act.put, List.setIfInBounds_toArray, List.set_cons_zero, List.set_cons_succ]
            refine take_v 14 (i := 2) rfl rfl (by kernel_rfl) (by kernel_rfl) (by kernel_rfl) (fun _ _ _ h => h) (by rfl) (fun w hSw => by (try dsimp only at hSw); go_simp; first | done | with_reducible rfl) hHeld ?_
            try simp only [Act.put, List.setIfInBounds_toArray, List.set_cons_zero, List.set_cons_succ]
            refine take_v 15 (i := 3) rfl rfl (by kernel_rfl) (by kernel_rfl) (by kernel_rfl) (fun _ _ _ h => h) (by rfl) (fun w hSw => by (try dsimp only at hSw); go_simp; first | done | with_reducible rfl) hHeld ?_
            try simp only [Act.put, List.setIfInBounds_toArray, List.set_cons_zero, List.set_cons_succ]
            refine take_v 16 (i := 4) rfl rfl (by kernel_rfl) (by kernel_rfl) (by kernel_rfl) (fun _ _ _ h => h) (by rfl) (fun w hSw => by (try dsimp only at hSw); go_simp; first | done | with_reducible rfl) hHeld ?_
            try simp only [Act.put, List.setIfInBounds_toArray, List.set_cons_zero, List.set_cons_succ]
            refine take_v 17 (i := 5) rfl rfl (by kernel_rfl) (by kernel_rfl) (by kernel_rfl) (fun _ _ _ h => h) (by rfl) (fun w hSw => by (try dsimp only at hSw); go_simp; first | done | with_reducible rfl) hHeld ?_
            try simp only [Act.put, List.setIfInBounds_toArray, List.set_cons_zero, List.set_cons_succ]
            refine take_v 18 (i := 6) rfl rfl (by kernel_rfl) (by kernel_rfl) (by kernel_rfl) (fun _ _ _ h => h) (by rfl) (fun w hSw => by (try dsimp only at hSw); go_simp; first | done | with_reducible rfl) hHeld ?_
            try simp only [Act.put, List.setIfInBounds_toArray, List.set_cons_zero, List.set_cons_succ]
            refine take_v 19 (i := 7) rfl rfl (by kernel_rfl) (by kernel_rfl) (by kernel_rfl) (fun _ _ _ h => h) (by rfl) (fun w hSw => by (try dsimp only at hSw); go_simp; first | done | with_reducible rfl) hHeld ?_
            try simp only [Act.put, List.setIfInBounds_toArray, List.set_cons_zero, List.set_cons_succ]
            refine take_v 20 (i := 8) rfl rfl (by kernel_rfl) (by kernel_rfl) (by kernel_rfl) (fun _ _ _ h => h) (by rfl) (fun w hSw => by (try dsimp only at hSw); go_simp; first | done | with_reducible rfl) hHeld ?_
            try simp only [Act.put, List.setIfInBounds_toArray, List.set_cons_zero, List.set_cons_succ]
            refine take_v 21 (i := 9) rfl rfl (by kernel_rfl) (by kernel_rfl) (by kernel_rfl) (fun _ _ _ h => h) (by rfl) (fun w hSw => by (try dsimp only at hSw); go_simp; first | done | with_reducible rfl) hHeld ?_
            try simp only [Act.put, List.setIfInBounds_toArray, List.set_cons_zero, List.set_cons_succ]
            refine take_v 22 (i := 10) rfl rfl (by kernel_rfl) (by kernel_rfl) (by kernel_rfl) (fun _ _ _ h => h) (by rfl) (fun w hSw => by (try dsimp only at hSw); go_simp; first | done | with_reducible rfl) hHeld ?_
            try simp only [Act.put, List.setIfInBounds_toArray, List.set_cons_zero, List.set_cons_succ]
            refine take_v 23 (i := 11) rfl rfl (by kernel_rfl) (by kernel_rfl) (by kernel_rfl) (fun _ _ _ h => h) (by rfl) (fun w hSw => by (try dsimp only at hSw); go_simp; first | done | with_reducible rfl) hHeld ?_
            try simp only [Act.put, List.setIfInBounds_toArray, List.set_cons_zero, List.set_cons_succ]
            refine take_v 24 (i := 12) rfl rfl (by kernel_rfl) (by kernel_rfl) (by kernel_rfl) (fun _ _ _ h => h) (by rfl) (fun w hSw => by (try dsimp only at hSw); go_simp; first | done | with_reducible rfl) hHeld ?_
            try simp only [Act.put, List.setIfInBounds_toArray, List.set_cons_zero, List.set_cons_succ]
            refine wpAnyH_ready (rs := [13]) (by kernel_rfl) (by simp) ?_
            refine AllReadyH.cons rfl (fun K hK => ?_) AllReadyH.nil
            go_simp
            refine (HP.out _).mono ?_
            rintro e w4 ⟨rfl, hb4'⟩
            have b3 : Below W1.heap.size W1 w4 := Below.trans b2 (hb4'.mono b2.size)
            go_wp2_with fail
            refine hK.out _ _ (heldB b3) (fun hHeld => ?_)
            clear hK
            try simp only [Act.put, List.setIfInBounds_toArray, List.set_cons_zero, List.set_cons_succ]
            refine take_v 26 (i := 14) rfl rfl (by kernel_rfl) (by kernel_rfl) (by kernel_rfl) (fun _ _ _ h => h) (by rfl) (fun w hSw => by (try dsimp only at hSw); go_simp; first | done | with_reducible rfl) hHeld ?_
            try simp only [Act.put, List.setIfInBounds_toArray, List.set_cons_zero, List.set_cons_succ]
            refine take_v 27 (i := 15) rfl rfl (by kernel_rfl) (by kernel_rfl) (by kernel_rfl) (fun _ _ _ h => h) (by rfl) (fun w hSw => by (try dsimp only at hSw); go_simp; first | done | with_reducible rfl) hHeld ?_
            try simp only [Act.put, List.setIfInBounds_toArray, List.set_cons_zero, List.set_cons_succ]
            refine take_v 28 (i := 16) rfl rfl (by kernel_rfl) (by kernel_rfl) (by kernel_rfl) (fun _ _ _ h => h) (by rfl) (fun w hSw => by (try dsimp only at hSw); go_simp; first | done | with_reducible rfl) hHeld ?_
            try simp only [Act.put, List.setIfInBounds_toArray, List.set_cons_zero, List.set_cons_succ]
            refine wpAnyH_done (by kernel_rfl) ?_ _
            go_wp2
            go_roundw
            case rel => exact ⟨j + 1 + 1, by omega, by go_num, HB1.out.trans (b3.mono HB1.out.size), Hn2⟩
            case measure => simp [intOf]; omega
          · rw [decide_eq_false hbf] at hcb
            simp only [Bool.not_false] at hcb
            have Hd := Lib.hid (Hbe.out hbf)
            clear Hn1 Hbe hbf
            obtain ⟨x0, x1, x2, x3⟩ := x
            obtain ⟨y0, y1, y2, y3⟩ := y
            simp only [Tsk.cells] at *
            have HV := Lib.hid hV
            have HP := Lib.hid hP
            obtain ⟨W1, hW, e1, hB1, hz1⟩ := obx1 wr (.cells #[.int .i64 x0, .int .i64 x1, .int .i64 x2, .int .i64 x3] 92 (0, 0))
            have HW := Lib.hid hW
            have HB1 := Lib.hid (HBw.out.trans (hB1.mono hBs))
            have k0 : W1.cell? ⟨wr.heap.size, 0, none⟩ = some (.int .i64 x0) := by rw [Lib.cell_of_heap e1]; rfl
            have k1 : W1.cell? ⟨wr.heap.size, 1, none⟩ = some (.int .i64 x1) := by rw [Lib.cell_of_heap e1]; rfl
            have k2 : W1.cell? ⟨wr.heap.size, 2, none⟩ = some (.int .i64 x2) := by rw [Lib.cell_of_heap e1]; rfl
            have k3 : W1.cell? ⟨wr.heap.size, 3, none⟩ = some (.int .i64 x3) := by rw [Lib.cell_of_heap e1]; rfl
            have f0 := (hB1.cell (p := ⟨b, off + j * 4, none⟩) hbw).trans d0
            have f1 := (hB1.cell (p := ⟨b, off + j * 4 + 1, none⟩) hbw).trans d1
            have f2 := (hB1.cell (p := ⟨b, off + j * 4 + 2, none⟩) hbw).trans d2
            have f3 := (hB1.cell (p := ⟨b, off + j * 4 + 3, none⟩) hbw).trans d3
            have hq0 : wr.heap.size < W1.heap.size := by omega
            have hq1 : b < W1.heap.size := by omega
            clear hW e1 hB1 hV hP hB d0 d1 d2 d3
            go_wp2_with fail
            rw [HW.out]
            skip
            refine wp_region_held_drew (S := (fun w' => (∀ b' o', b' < W1.heap.size → w'.cell? ⟨b', o', none⟩ = W1.cell? ⟨b', o', none⟩) ∧ Below W1.heap.size W1 w')) (by kernel_rfl) (heldB (by go_grown)) (fun hHeld => ?_)
            refine take_v 12 (i := 0) rfl rfl (by kernel_rfl) (by kernel_rfl) (by kernel_rfl) (fun _ _ _ h => h) (by rfl) (fun w hSw => by (try dsimp only at hSw); go_simp; first | done | with_reducible rfl) hHeld ?_
            try simp only [Act.put, List.setIfInBounds_toArray, List.set_cons_zero, List.set_cons_succ]
            refine wpAnyH_ready (rs := [1]) (by kernel_rfl) (by simp) ?_
            refine AllReadyH.cons rfl (fun K hK => ?_) AllReadyH.nil
            go_simp
            refine (HV.out _).mono ?_
            rintro e w3 ⟨rfl, hb3'⟩
            have b2 : Below W1.heap.size W1 w3 := Below.trans (by go_grown) (hb3'.mono (by go_size))
            go_wp2_with fail
            refine hK.out _ _ (heldB b2) (fun hHeld => ?_)
            clear hK
            try simp only [Act.put, List.setIfInBounds_toArray, List.set_cons_zero, List.set_cons_succ]
            refine take_v 14 (i := 2) rfl rfl (by kernel_rfl) (by kernel_rfl) (by kernel_rfl) (fun _ _ _ h => h) (by rfl) (fun w hSw => by (try dsimp only at hSw); go_simp; first | done | with_reducible rfl) hHeld ?_
            try simp only [Act.put, List.setIfInBounds_toArray, List.set_cons_zero, List.set_cons_succ]
            refine take_v 15 (i := 3) rfl rfl (by kernel_rfl) (by kernel_rfl) (by kernel_rfl) (fun _ _ _ h => h) (by rfl) (fun w hSw => by (try dsimp only at hSw); go_simp; first | done | with_reducible rfl) hHeld ?_
            try simp only [Act.put, List.setIfInBounds_toArray, List.set_cons_zero, List.set_cons_succ]
            refine take_v 16 (i := 4) rfl rfl (by kernel_rfl) (by kernel_rfl) (by kernel_rfl) (fun _ _ _ h => h) (by rfl) (fun w hSw => by (try dsimp only at hSw); go_simp; first | done | with_reducible rfl) hHeld ?_
            try simp only [Act.put, List.setIfInBounds_toArray, List.set_cons_zero, List.set_cons_succ]
            refine take_v 17 (i := 5) rfl rfl (by kernel_rfl) (by kernel_rfl) (by kernel_rfl) (fun _ _ _ h => h) (by rfl) (fun w hSw => by (try dsimp only at hSw); go_simp; first | done | with_reducible rfl) hHeld ?_
            try simp only [Act.put, List.setIfInBounds_toArray, List.set_cons_zero, List.set_cons_succ]
            refine take_v 18 (i := 6) rfl rfl (by kernel_rfl) (by kernel_rfl) (by kernel_rfl) (fun _ _ _ h => h) (by rfl) (fun w hSw => by (try dsimp only at hSw); go_simp; first | done | with_reducible rfl) hHeld ?_
            try simp only [Act.put, List.setIfInBounds_toArray, List.set_cons_zero, List.set_cons_succ]
            refine take_v 19 (i := 7) rfl rfl (by kernel_rfl) (by kernel_rfl) (by kernel_rfl) (fun _ _ _ h => h) (by rfl) (fun w hSw => by (try dsimp only at hSw); go_simp; first | done | with_reducible rfl) hHeld ?_
            try simp only [Act.put, List.setIfInBounds_toArray, List.set_cons_zero, List.set_cons_succ]
            refine take_v 20 (i := 8) rfl rfl (by kernel_rfl) (by kernel_rfl) (by kernel_rfl) (fun _ _ _ h => h) (by rfl) (fun w hSw => by (try dsimp only at hSw); go_simp; first | done | with_reducible rfl) hHeld ?_
            try simp only [Act.put, List.setIfInBounds_toArray, List.set_cons_zero, List.set_cons_succ]
            refine take_v 21 (i := 9) rfl rfl (by kernel_rfl) (by kernel_rfl) (by kernel_rfl) (fun _ _ _ h => h) (by rfl) (fun w hSw => by (try dsimp only at hSw); go_simp; first | done | with_reducible rfl) hHeld ?_
            try simp only [Act.put, List.setIfInBounds_toArray, List.set_cons_zero, List.set_cons_succ]
            refine take_v 22 (i := 10) rfl rfl (by kernel_rfl) (by kernel_rfl) (by kernel_rfl) (fun _ _ _ h => h) (by rfl) (fun w hSw => by (try dsimp only at hSw); go_simp; first | done | with_reducible rfl) hHeld ?_
            try simp only [Act.put, List.setIfInBounds_toArray, List.set_cons_zero, List.set_cons_succ]
            refine take_v 23 (i := 11) rfl rfl (by kernel_rfl) (by kernel_rfl) (by kernel_rfl) (fun _ _ _ h => h) (by rfl) (fun w hSw => by (try dsimp only at hSw); go_simp; first | done | with_reducible rfl) hHeld ?_
            try simp only [Act.put, List.setIfInBounds_toArray, List.set_cons_zero, List.set_cons_succ]
            refine take_v 24 (i := 12) rfl rfl (by kernel_rfl) (by kernel_rfl) (by kernel_rfl) (fun _ _ _ h => h) (by rfl) (fun w hSw => by (try dsimp only at hSw); go_simp; first | done | with_reducible rfl) hHeld ?_
            try simp only [Act.put, List.setIfInBounds_toArray, List.set_cons_zero, List.set_cons_succ]
            refine wpAnyH_ready (rs := [13]) (by kernel_rfl) (by simp) ?_
            refine AllReadyH.cons rfl (fun K hK => ?_) AllReadyH.nil
            go_simp
            refine (HP.out _).mono ?_
            rintro e w4 ⟨rfl, hb4'⟩
            have b3 : Below W1.heap.size W1 w4 := Below.trans b2 (hb4'.mono b2.size)
            go_wp2_with fail
            refine hK.out _ _ (heldB b3) (fun hHeld => ?_)
            clear hK
            try simp only [Act.put, List.setIfInBounds_toArray, List.set_cons_zero, List.set_cons_succ]
            refine take_v 26 (i := 14) rfl rfl (by kernel_rfl) (by kernel_rfl) (by kernel_rfl) (fun _ _ _ h => h) (by rfl) (fun w hSw => by (try dsimp only at hSw); go_simp; first | done | with_reducible rfl) hHeld ?_
            try simp only [Act.put, List.setIfInBounds_toArray, List.set_cons_zero, List.set_cons_succ]
            refine take_v 27 (i := 15) rfl rfl (by kernel_rfl) (by kernel_rfl) (by kernel_rfl) (fun _ _ _ h => h) (by rfl) (fun w hSw => by (try dsimp only at hSw); go_simp; first | done | with_reducible rfl) hHeld ?_
            try simp only [Act.put, List.setIfInBounds_toArray, List.set_cons_zero, List.set_cons_succ]
            refine take_v 28 (i := 16) rfl rfl (by kernel_rfl) (by kernel_rfl) (by kernel_rfl) (fun _ _ _ h => h) (by rfl) (fun w hSw => by (try dsimp only at hSw); go_simp; first | done | with_reducible rfl) hHeld ?_
            try simp only [Act.put, List.setIfInBounds_toArray, List.set_cons_zero, List.set_cons_succ]
            refine wpAnyH_done (by kernel_rfl) ?_ _
            go_wp2
            go_ret
            rw [Hd.out]; exact ⟨rfl, HB1.out.trans (b3.mono HB1.out.size)⟩
        · rw [decide_eq_false hok] at hV
          have Hd := Lib.hid (Hbd.out hok)
          clear Hn Hbd hok Hbe hP hcb
          obtain ⟨x0, x1, x2, x3⟩ := x
          simp only [Tsk.cells] at *
          have HV := Lib.hid hV
          obtain ⟨W1, hW, e1, hB1, hz1⟩ := obx1 wr (.cells #[.int .i64 x0, .int .i64 x1, .int .i64 x2, .int .i64 x3] 92 (0, 0))
          have HW := Lib.hid hW
          have HB1 := Lib.hid (HBw.out.trans (hB1.mono hBs))
          have k0 : W1.cell? ⟨wr.heap.size, 0, none⟩ = some (.int .i64 x0) := by rw [Lib.cell_of_heap e1]; rfl
          have k1 : W1.cell? ⟨wr.heap.size, 1, none⟩ = some (.int .i64 x1) := by rw [Lib.cell_of_heap e1]; rfl
          have k2 : W1.cell? ⟨wr.heap.size, 2, none⟩ = some (.int .i64 x2) := by rw [Lib.cell_of_heap e1]; rfl
          have k3 : W1.cell? ⟨wr.heap.size, 3, none⟩ = some (.int .i64 x3) := by rw [Lib.cell_of_heap e1]; rfl
          have hq0 : wr.heap.size < W1.heap.size := by omega
          clear hW e1 hB1 hV hB
          go_wp2_with fail
          rw [HW.out]
          skip
          refine wp_region_held_drew (S := (fun w' => (∀ b' o', b' < W1.heap.size → w'.cell? ⟨b', o', none⟩ = W1.cell? ⟨b', o', none⟩) ∧ Below W1.heap.size W1 w')) (by kernel_rfl) (heldB (by go_grown)) (fun hHeld => ?_)
          refine take_v 12 (i := 0) rfl rfl (by kernel_rfl) (by kernel_rfl) (by kernel_rfl) (fun _ _ _ h => h) (by rfl) (fun w hSw => by (try dsimp only at hSw); go_simp; first | done | with_reducible rfl) hHeld ?_
          try simp only [Act.put, List.setIfInBounds_toArray, List.set_cons_zero, List.set_cons_succ]
          refine wpAnyH_ready (rs := [1]) (by kernel_rfl) (by simp) ?_
          refine AllReadyH.cons rfl (fun K hK => ?_) AllReadyH.nil
          go_simp
          refine (HV.out _).mono ?_
          rintro e w3 ⟨rfl, hb3'⟩
          have b2 : Below W1.heap.size W1 w3 := Below.trans (by go_grown) (hb3'.mono (by go_size))
          go_wp2_with fail
          refine hK.out _ _ (heldB b2) (fun hHeld => ?_)
          clear hK
          try simp only [Act.put, List.setIfInBounds_toArray, List.set_cons_zero, List.set_cons_succ]
          refine take_v 14 (i := 2) rfl rfl (by kernel_rfl) (by kernel_rfl) (by kernel_rfl) (fun _ _ _ h => h) (by rfl) (fun w hSw => by (try dsimp only at hSw); go_simp; first | done | with_reducible rfl) hHeld ?_
          try simp only [Act.put, List.setIfInBounds_toArray, List.set_cons_zero, List.set_cons_succ]
          refine take_v 15 (i := 3) rfl rfl (by kernel_rfl) (by kernel_rfl) (by kernel_rfl) (fun _ _ _ h => h) (by rfl) (fun w hSw => by (try dsimp only at hSw); go_simp; first | done | with_reducible rfl) hHeld ?_
          try simp only [Act.put, List.setIfInBounds_toArray, List.set_cons_zero, List.set_cons_succ]
          refine take_u 16 (i := 4) rfl rfl (by kernel_rfl) (by kernel_rfl) (by kernel_rfl) (fun _ _ _ h => h) (by rfl) hHeld ?_
          try simp only [Act.put, List.setIfInBounds_toArray, List.set_cons_zero, List.set_cons_succ]
          refine take_u 17 (i := 5) rfl rfl (by kernel_rfl) (by kernel_rfl) (by kernel_rfl) (fun _ _ _ h => h) (by rfl) hHeld ?_
          try simp only [Act.put, List.setIfInBounds_toArray, List.set_cons_zero, List.set_cons_succ]
          refine take_u 18 (i := 6) rfl rfl (by kernel_rfl) (by kernel_rfl) (by kernel_rfl) (fun _ _ _ h => h) (by rfl) hHeld ?_
          try simp only [Act.put, List.setIfInBounds_toArray, List.set_cons_zero, List.set_cons_succ]
          skip
          refine take_u 19 (i := 7) rfl rfl (by kernel_rfl) (by kernel_rfl) (by kernel_rfl) (fun _ _ _ h => h) (by rfl) hHeld ?_
          try simp only [Act.put, List.setIfInBounds_toArray, List.set_cons_zero, List.set_cons_succ]
          refine take_u 20 (i := 8) rfl rfl (by kernel_rfl) (by kernel_rfl) (by kernel_rfl) (fun _ _ _ h => h) (by rfl) hHeld ?_
          try simp only [Act.put, List.setIfInBounds_toArray, List.set_cons_zero, List.set_cons_succ]
          refine take_u 21 (i := 9) rfl rfl (by kernel_rfl) (by kernel_rfl) (by kernel_rfl) (fun _ _ _ h => h) (by rfl) hHeld ?_
          try simp only [Act.put, List.setIfInBounds_toArray, List.set_cons_zero, List.set_cons_succ]
          refine take_u 22 (i := 10) rfl rfl (by kernel_rfl) (by kernel_rfl) (by kernel_rfl) (fun _ _ _ h => h) (by rfl) hHeld ?_
          try simp only [Act.put, List.setIfInBounds_toArray, List.set_cons_zero, List.set_cons_succ]
          refine take_u 23 (i := 11) rfl rfl (by kernel_rfl) (by kernel_rfl) (by kernel_rfl) (fun _ _ _ h => h) (by rfl) hHeld ?_
          try simp only [Act.put, List.setIfInBounds_toArray, List.set_cons_zero, List.set_cons_succ]
          refine take_u 24 (i := 12) rfl rfl (by kernel_rfl) (by kernel_rfl) (by kernel_rfl) (fun _ _ _ h => h) (by rfl) hHeld ?_
          try simp only [Act.put, List.setIfInBounds_toArray, List.set_cons_zero, List.set_cons_succ]
          refine take_u 25 (i := 13) rfl rfl (by kernel_rfl) (by kernel_rfl) (by kernel_rfl) (fun _ _ _ h => h) (by rfl) hHeld ?_
          try simp only [Act.put, List.setIfInBounds_toArray, List.set_cons_zero, List.set_cons_succ]
          refine take_u 26 (i := 14) rfl rfl (by kernel_rfl) (by kernel_rfl) (by kernel_rfl) (fun _ _ _ h => h) (by rfl) hHeld ?_
          try simp only [Act.put, List.setIfInBounds_toArray, List.set_cons_zero, List.set_cons_succ]
          refine take_u 27 (i := 15) rfl rfl (by kernel_rfl) (by kernel_rfl) (by kernel_rfl) (fun _ _ _ h => h) (by rfl) hHeld ?_
          try simp only [Act.put, List.setIfInBounds_toArray, List.set_cons_zero, List.set_cons_succ]
          refine take_v 28 (i := 16) rfl rfl (by kernel_rfl) (by kernel_rfl) (by kernel_rfl) (fun _ _ _ h => h) (by rfl) (fun w hSw => by (try dsimp only at hSw); go_simp; first | done | with_reducible rfl) hHeld ?_
          try simp only [Act.put, List.setIfInBounds_toArray, List.set_cons_zero, List.set_cons_succ]
          refine wpAnyH_done (by kernel_rfl) ?_ _
          go_wp2
          go_ret
          rw [Hd.out]; exact ⟨rfl, HB1.out.trans (b2.mono HB1.out.size)⟩
    · obtain rfl : k = l.length := by omega
      have He := Lib.hid (tsks_end hall.out)
      go_wp2
      go_ret
      exact ⟨ret_bool (by rw [He.out, decide_eq_decide]; omega), hB⟩
end Go.Proofs.Ytdadadiipmenbaa
