/- Cranes: validity, the program. -/
import Derived.Test.YtpabbehpkokhbaaDoorCraneV
import Derived.Test.YtpabbehpkokhbaaDoorUnw
import Derived.Handy
namespace Go.Proofs.YtpabbehpkokhbaaDoor
open Go.RowKit
set_option maxRecDepth 100000 in
set_option maxHeartbeats 8000000 in
theorem impl_CraneOk (f : CraneF) (s : SV) (l : List Chs) (lo hi : Nat) (w : World) (h : Chss lo hi w s.v l) (hwf : f.name.size ≤ maxLen) :
    Calls Tryd.prog 45 #[.agg (CraneR.cells ⟨f, s⟩).toArray] w fun e w' => e = .returned (.bool (craneB f l)) ∧ Below w.heap.size w w' := by
  have hK := fun w' (hb : Below w.heap.size w w') => impl_Chart s.v l lo hi w' (h.ext hb)
  have hN := fun w => impl_IsName f.name w hwf
  have hP := fun w => impl_Pl f.x f.y w
  have hH := h
  obtain ⟨a, cap, hsv, hcap, -⟩ := h
  clear hwf
  obtain ⟨x0, x1, x2, x3, x4, x5⟩ := f
  simp only [CraneR.cells] at *
  generalize s.v = sv at *
  subst hsv
  rcases crane_cases ⟨x0, x1, x2, x3, x4, x5⟩ l with ⟨hr, hn⟩ | ⟨hr, hn, hp⟩ | ⟨hr, hn, hp, h3⟩ | ⟨hr, hn, hp, ⟨_, _⟩, h4⟩ | ⟨hr, hn, hp, ⟨_, _⟩, ⟨_, _⟩, h5⟩ | ⟨hr, hn, hp, ⟨_, _⟩, ⟨_, _⟩, ⟨_, _⟩, h6⟩ | ⟨hr, hn, hp, ⟨_, _⟩, ⟨_, _⟩, ⟨_, _⟩, ⟨h6, hl0, hl20⟩, h7⟩ | ⟨hr, hn, hp, ⟨_, _⟩, ⟨_, _⟩, ⟨_, _⟩, ⟨h6, hl0, hl20⟩, h7⟩
  · rw [hr]
    rw [hn] at hN
    have HN := Lib.hid hN
    clear hN hK hP hr hn hH
    go_enter Tryd.func45, Tryd.ntmps45
    go_wp2_with (first | (go_at_call 68; refine (HN.out _).mono ?_; rintro e w' ⟨rfl, rfl⟩))
    go_ret
    exact ⟨rfl, by first | exact B2 | exact (Below.refl _ _).alloc (Nat.le_refl _) _⟩
  · rw [hr]
    rw [hn] at hN
    rw [decide_eq_false hp] at hP
    have HN := Lib.hid hN
    have HP := Lib.hid hP
    clear hN hK hP hr hn hp hH
    generalize hsv : Value.slice a l.length cap = sv at *
    clear hsv
    go_enter Tryd.func45, Tryd.ntmps45
    go_wp2_with (first | (go_at_call 68; refine (HN.out _).mono ?_; rintro e w' ⟨rfl, rfl⟩) | (go_at_call 27; refine (HP.out _).mono ?_; rintro e w2 ⟨rfl, hb2⟩; have x2 := Lib.hid (blkN_below hb2 (blkN_new w _)); have B2 : Below w.heap.size w w2 := ((Below.refl _ w).alloc (Nat.le_refl _) _).trans (hb2.mono (by simp)); have hz2 : w.heap.size < w2.heap.size := Nat.lt_of_lt_of_le (by simp) hb2.size; have d3 : w2.cell? ⟨w.heap.size, 3, none⟩ = some (.int .i64 x3) := (by rw [Lib.cell_of_heap x2.out]; rfl); have d4 : w2.cell? ⟨w.heap.size, 4, none⟩ = some (.int .i64 x4) := (by rw [Lib.cell_of_heap x2.out]; rfl); have d5 : w2.cell? ⟨w.heap.size, 5, none⟩ = some (.int .i64 x5) := (by rw [Lib.cell_of_heap x2.out]; rfl); have d6 : w2.cell? ⟨w.heap.size, 6, none⟩ = some sv := (by rw [Lib.cell_of_heap x2.out]; rfl); clear hb2) | (go_at_call 28; first | (refine (impl_within_t _ _ _ _ (by omega) (by omega)).mono ?_; rintro e w' ⟨rfl, rfl⟩) | (refine (impl_within_f _ _ _ _ (by omega)).mono ?_; rintro e w' ⟨rfl, rfl⟩)))
    go_ret
    exact ⟨rfl, by first | exact B2 | exact (Below.refl _ _).alloc (Nat.le_refl _) _⟩
  iterate 3
    · rw [hr]
      rw [hn] at hN
      rw [decide_eq_true hp] at hP
      have HN := Lib.hid hN
      have HP := Lib.hid hP
      clear hN hK hP hr hn hp hH
      generalize hsv : Value.slice a l.length cap = sv at *
      clear hsv
      go_enter Tryd.func45, Tryd.ntmps45
      go_wp2_with (first | (go_at_call 68; refine (HN.out _).mono ?_; rintro e w' ⟨rfl, rfl⟩) | (go_at_call 27; refine (HP.out _).mono ?_; rintro e w2 ⟨rfl, hb2⟩; have x2 := Lib.hid (blkN_below hb2 (blkN_new w _)); have B2 : Below w.heap.size w w2 := ((Below.refl _ w).alloc (Nat.le_refl _) _).trans (hb2.mono (by simp)); have hz2 : w.heap.size < w2.heap.size := Nat.lt_of_lt_of_le (by simp) hb2.size; have d3 : w2.cell? ⟨w.heap.size, 3, none⟩ = some (.int .i64 x3) := (by rw [Lib.cell_of_heap x2.out]; rfl); have d4 : w2.cell? ⟨w.heap.size, 4, none⟩ = some (.int .i64 x4) := (by rw [Lib.cell_of_heap x2.out]; rfl); have d5 : w2.cell? ⟨w.heap.size, 5, none⟩ = some (.int .i64 x5) := (by rw [Lib.cell_of_heap x2.out]; rfl); have d6 : w2.cell? ⟨w.heap.size, 6, none⟩ = some sv := (by rw [Lib.cell_of_heap x2.out]; rfl); clear hb2) | (go_at_call 28; first | (refine (impl_within_t _ _ _ _ (by omega) (by omega)).mono ?_; rintro e w' ⟨rfl, rfl⟩) | (refine (impl_within_f _ _ _ _ (by omega)).mono ?_; rintro e w' ⟨rfl, rfl⟩)))
      go_ret
      exact ⟨rfl, by first | exact B2 | exact (Below.refl _ _).alloc (Nat.le_refl _) _⟩
  · rw [hr]
    rw [hn] at hN
    rw [h6] at hK
    rw [decide_eq_true hp] at hP
    have HN := Lib.hid hN
    have HP := Lib.hid hP
    have HK := Lib.hid hK
    clear hN hK hP hr hn hp h6 hH
    generalize hsv : Value.slice a l.length cap = sv at *
    clear hsv
    go_enter Tryd.func45, Tryd.ntmps45
    go_wp2_with (first | (go_at_call 68; refine (HN.out _).mono ?_; rintro e w' ⟨rfl, rfl⟩) | (go_at_call 27; refine (HP.out _).mono ?_; rintro e w2 ⟨rfl, hb2⟩; have x2 := Lib.hid (blkN_below hb2 (blkN_new w _)); have B2 : Below w.heap.size w w2 := ((Below.refl _ w).alloc (Nat.le_refl _) _).trans (hb2.mono (by simp)); have hz2 : w.heap.size < w2.heap.size := Nat.lt_of_lt_of_le (by simp) hb2.size; have d3 : w2.cell? ⟨w.heap.size, 3, none⟩ = some (.int .i64 x3) := (by rw [Lib.cell_of_heap x2.out]; rfl); have d4 : w2.cell? ⟨w.heap.size, 4, none⟩ = some (.int .i64 x4) := (by rw [Lib.cell_of_heap x2.out]; rfl); have d5 : w2.cell? ⟨w.heap.size, 5, none⟩ = some (.int .i64 x5) := (by rw [Lib.cell_of_heap x2.out]; rfl); have d6 : w2.cell? ⟨w.heap.size, 6, none⟩ = some sv := (by rw [Lib.cell_of_heap x2.out]; rfl); clear hb2) | (go_at_call 28; first | (refine (impl_within_t _ _ _ _ (by omega) (by omega)).mono ?_; rintro e w' ⟨rfl, rfl⟩) | (refine (impl_within_f _ _ _ _ (by omega)).mono ?_; rintro e w' ⟨rfl, rfl⟩)))
    refine wp_region_held_drew (S := (fun w' => (∀ b' o', b' < w2.heap.size → w'.cell? ⟨b', o', none⟩ = w2.cell? ⟨b', o', none⟩) ∧ Below w2.heap.size w2 w')) (by kernel_rfl) (heldB (by go_grown)) (fun hHeld => ?_)
    refine take_v 33 (i := 0) rfl rfl (by kernel_rfl) (by kernel_rfl) (by kernel_rfl) (fun _ _ _ h => h) (by rfl) (fun w hSw => by (try dsimp only at hSw); go_simp; first | done | with_reducible rfl) hHeld ?_
    try simp only [Act.put, List.setIfInBounds_toArray, List.set_cons_zero, List.set_cons_succ]
    refine take_v 34 (i := 1) rfl rfl (by kernel_rfl) (by kernel_rfl) (by kernel_rfl) (fun _ _ _ h => h) (by rfl) (fun w hSw => by (try dsimp only at hSw); go_simp; first | done | with_reducible rfl) hHeld ?_
    try simp only [Act.put, List.setIfInBounds_toArray, List.set_cons_zero, List.set_cons_succ]
    refine wpAnyH_ready (rs := [2]) (by kernel_rfl) (by simp) ?_
    refine AllReadyH.cons rfl (fun K hK => ?_) AllReadyH.nil
    go_simp
    refine (HK.out _ ?hb).mono ?_
    case hb => exact B2.trans (Below.mono (B := w2.heap.size) (by go_grown) B2.size)
    rintro e w3 ⟨rfl, hb3'⟩
    have b3 : Below w2.heap.size w2 w3 := Below.trans (by go_grown) (hb3'.mono (by go_size))
    have B3 := B2.trans (b3.mono B2.size)
    go_wp2_with fail
    refine hK.out _ _ (heldB b3) (fun hHeld => ?_)
    clear hK
    try simp only [Act.put, List.setIfInBounds_toArray, List.set_cons_zero, List.set_cons_succ]
    refine take_v 36 (i := 3) rfl rfl (by kernel_rfl) (by kernel_rfl) (by kernel_rfl) (fun _ _ _ h => h) (by rfl) (fun w hSw => by (try dsimp only at hSw); go_simp; first | done | with_reducible rfl) hHeld ?_
    try simp only [Act.put, List.setIfInBounds_toArray, List.set_cons_zero, List.set_cons_succ]
    refine take_u 37 (i := 4) rfl rfl (by kernel_rfl) (by kernel_rfl) (by kernel_rfl) (fun _ _ _ h => h) (by rfl) hHeld ?_
    try simp only [Act.put, List.setIfInBounds_toArray, List.set_cons_zero, List.set_cons_succ]
    refine take_u 38 (i := 5) rfl rfl (by kernel_rfl) (by kernel_rfl) (by kernel_rfl) (fun _ _ _ h => h) (by rfl) hHeld ?_
    try simp only [Act.put, List.setIfInBounds_toArray, List.set_cons_zero, List.set_cons_succ]
    refine take_u 39 (i := 6) rfl rfl (by kernel_rfl) (by kernel_rfl) (by kernel_rfl) (fun _ _ _ h => h) (by rfl) hHeld ?_
    try simp only [Act.put, List.setIfInBounds_toArray, List.set_cons_zero, List.set_cons_succ]
    refine take_u 40 (i := 7) rfl rfl (by kernel_rfl) (by kernel_rfl) (by kernel_rfl) (fun _ _ _ h => h) (by rfl) hHeld ?_
    try simp only [Act.put, List.setIfInBounds_toArray, List.set_cons_zero, List.set_cons_succ]
    refine take_u 41 (i := 8) rfl rfl (by kernel_rfl) (by kernel_rfl) (by kernel_rfl) (fun _ _ _ h => h) (by rfl) hHeld ?_
    try simp only [Act.put, List.setIfInBounds_toArray, List.set_cons_zero, List.set_cons_succ]
    refine take_u 42 (i := 9) rfl rfl (by kernel_rfl) (by kernel_rfl) (by kernel_rfl) (fun _ _ _ h => h) (by rfl) hHeld ?_
    try simp only [Act.put, List.setIfInBounds_toArray, List.set_cons_zero, List.set_cons_succ]
    refine take_u 43 (i := 10) rfl rfl (by kernel_rfl) (by kernel_rfl) (by kernel_rfl) (fun _ _ _ h => h) (by rfl) hHeld ?_
    try simp only [Act.put, List.setIfInBounds_toArray, List.set_cons_zero, List.set_cons_succ]
    refine take_u 44 (i := 11) rfl rfl (by kernel_rfl) (by kernel_rfl) (by kernel_rfl) (fun _ _ _ h => h) (by rfl) hHeld ?_
    try simp only [Act.put, List.setIfInBounds_toArray, List.set_cons_zero, List.set_cons_succ]
    refine take_u 45 (i := 12) rfl rfl (by kernel_rfl) (by kernel_rfl) (by kernel_rfl) (fun _ _ _ h => h) (by rfl) hHeld ?_
    try simp only [Act.put, List.setIfInBounds_toArray, List.set_cons_zero, List.set_cons_succ]
    refine take_u 46 (i := 13) rfl rfl (by kernel_rfl) (by kernel_rfl) (by kernel_rfl) (fun _ _ _ h => h) (by rfl) hHeld ?_
    try simp only [Act.put, List.setIfInBounds_toArray, List.set_cons_zero, List.set_cons_succ]
    refine take_u 47 (i := 14) rfl rfl (by kernel_rfl) (by kernel_rfl) (by kernel_rfl) (fun _ _ _ h => h) (by rfl) hHeld ?_
    try simp only [Act.put, List.setIfInBounds_toArray, List.set_cons_zero, List.set_cons_succ]
    refine take_u 48 (i := 15) rfl rfl (by kernel_rfl) (by kernel_rfl) (by kernel_rfl) (fun _ _ _ h => h) (by rfl) hHeld ?_
    try simp only [Act.put, List.setIfInBounds_toArray, List.set_cons_zero, List.set_cons_succ]
    refine take_v 49 (i := 16) rfl rfl (by kernel_rfl) (by kernel_rfl) (by kernel_rfl) (fun _ _ _ h => h) (by rfl) (fun w hSw => by (try dsimp only at hSw); go_simp; first | done | with_reducible rfl) hHeld ?_
    try simp only [Act.put, List.setIfInBounds_toArray, List.set_cons_zero, List.set_cons_succ]
    refine take_v 2 (i := 17) rfl rfl (by kernel_rfl) (by kernel_rfl) (by kernel_rfl) (fun _ _ _ h => h) (by rfl) (fun w hSw => by (try dsimp only at hSw); go_simp; first | done | with_reducible rfl) hHeld ?_
    try simp only [Act.put, List.setIfInBounds_toArray, List.set_cons_zero, List.set_cons_succ]
    refine wpAnyH_done (by kernel_rfl) ?_ _
    go_wp2
    go_ret
    exact ⟨rfl, B3⟩
  iterate 2
    · rw [hr]
      rw [hn] at hN
      rw [h6] at hK
      obtain ⟨bl, ol, rfl⟩ := hH.addr hl0
      have hHw := fun w' (hb : Below w.heap.size w w') => (Chss.at (hH.ext hb).get (show l.length - 1 < l.length by omega)).1
      rw [← lastR_eq hl0] at hHw
      rw [decide_eq_true hp] at hP
      have HN := Lib.hid hN
      have HP := Lib.hid hP
      have HK := Lib.hid hK
      have HW := Lib.hid hHw
      clear hN hK hP hr hn hp h6 hH hHw
      generalize lastR l = q at *
      generalize l.length = k at *
      have hkm : ((k : Int) - 1).toNat = k - 1 := by omega
      have hkn : (0 : Int) ≤ (k : Int) - 1 := by omega
      have hk1 : (1 : Int) ≤ (k : Int) := by omega
      have hkk : ((k : Int) - 1) < (k : Int) := by omega
      have hkw : IntKind.i64.wrap ((k : Int) - 1) = (k : Int) - 1 := IntWalk.i64_in _ (by omega)
      generalize hsv : Value.slice (some ⟨bl, ol, none⟩) k cap = sv at *
      go_enter Tryd.func45, Tryd.ntmps45
      go_wp2_with (first | (go_at_call 68; refine (HN.out _).mono ?_; rintro e w' ⟨rfl, rfl⟩) | (go_at_call 27; refine (HP.out _).mono ?_; rintro e w2 ⟨rfl, hb2⟩; have x2 := Lib.hid (blkN_below hb2 (blkN_new w _)); have B2 : Below w.heap.size w w2 := ((Below.refl _ w).alloc (Nat.le_refl _) _).trans (hb2.mono (by simp)); have hz2 : w.heap.size < w2.heap.size := Nat.lt_of_lt_of_le (by simp) hb2.size; have d3 : w2.cell? ⟨w.heap.size, 3, none⟩ = some (.int .i64 x3) := (by rw [Lib.cell_of_heap x2.out]; rfl); have d4 : w2.cell? ⟨w.heap.size, 4, none⟩ = some (.int .i64 x4) := (by rw [Lib.cell_of_heap x2.out]; rfl); have d5 : w2.cell? ⟨w.heap.size, 5, none⟩ = some (.int .i64 x5) := (by rw [Lib.cell_of_heap x2.out]; rfl); have d6 : w2.cell? ⟨w.heap.size, 6, none⟩ = some sv := (by rw [Lib.cell_of_heap x2.out]; rfl); clear hb2) | (go_at_call 28; first | (refine (impl_within_t _ _ _ _ (by omega) (by omega)).mono ?_; rintro e w' ⟨rfl, rfl⟩) | (refine (impl_within_f _ _ _ _ (by omega)).mono ?_; rintro e w' ⟨rfl, rfl⟩)))
      have dl := HW.out _ B2
      have hbl := World.block_lt_of_cell? w2 _ dl
      subst hsv
      go_region_held3 (fun w' => (∀ b' o', b' < w2.heap.size → w'.cell? ⟨b', o', none⟩ = w2.cell? ⟨b', o', none⟩) ∧ Below w2.heap.size w2 w') (first | (refine heldB ?_; go_grown; done))
        (first | (go_at_call 69; refine (HK.out _ ?hb).mono ?_; (case hb => exact B2.trans (Below.mono (B := w2.heap.size) (by go_grown) B2.size)); rintro e w3 ⟨rfl, hb3'⟩; have b3 : Below w2.heap.size w2 w3 := Below.trans (by go_grown) (hb3'.mono (by go_size)); have q3 := (bcell b3).1; have B3 := B2.trans (b3.mono B2.size)))
      go_wp2
      go_ret
      exact ⟨ret_bool (by first | exact decide_eq_true (by omega) | exact decide_eq_false (by omega) | rfl), B3⟩
end Go.Proofs.YtpabbehpkokhbaaDoor
