/- Lifts: one lift without its After, the program. -/
import Derived.Test.YtijpghlkbfmefaaDoorLiftV
namespace Go.Proofs.YtijpghlkbfmefaaDoor
open Go.RowKit
def plainOk (f : LiftF) : Prop := isNm f.name ∧ (1 ≤ f.weight ∧ f.weight ≤ 50000) ∧ Pl f.fx f.fy ∧ Pl f.tx f.ty ∧ (0 ≤ f.height ∧ f.height ≤ 2000) ∧ (1 ≤ f.deadline ∧ f.deadline ≤ 1000000)
open Classical in
noncomputable def plainB (f : LiftF) : Bool := decide (plainOk f)
theorem plainB_t {f : LiftF} (h : plainOk f) : plainB f = true := by classical exact decide_eq_true h
theorem plainB_f {f : LiftF} (h : ¬ plainOk f) : plainB f = false := by classical exact decide_eq_false h
theorem plainB_iff {f : LiftF} : plainB f = true ↔ plainOk f := ⟨fun h => by classical exact of_decide_eq_true h, plainB_t⟩
theorem plain_cases (f : LiftF) :
    (plainB f = false ∧ nmB f.name = false) ∨
    (plainB f = false ∧ nmB f.name = true ∧ ¬ (1 ≤ f.weight ∧ f.weight ≤ 50000)) ∨
    (plainB f = false ∧ nmB f.name = true ∧ (1 ≤ f.weight ∧ f.weight ≤ 50000) ∧ ¬ Pl f.fx f.fy) ∨
    (plainB f = false ∧ nmB f.name = true ∧ (1 ≤ f.weight ∧ f.weight ≤ 50000) ∧ Pl f.fx f.fy ∧ ¬ Pl f.tx f.ty) ∨
    (plainB f = false ∧ nmB f.name = true ∧ (1 ≤ f.weight ∧ f.weight ≤ 50000) ∧ Pl f.fx f.fy ∧ Pl f.tx f.ty ∧ ¬ (0 ≤ f.height ∧ f.height ≤ 2000)) ∨
    (plainB f = false ∧ nmB f.name = true ∧ (1 ≤ f.weight ∧ f.weight ≤ 50000) ∧ Pl f.fx f.fy ∧ Pl f.tx f.ty ∧ (0 ≤ f.height ∧ f.height ≤ 2000) ∧ ¬ (1 ≤ f.deadline ∧ f.deadline ≤ 1000000)) ∨
    (plainB f = true ∧ nmB f.name = true ∧ (1 ≤ f.weight ∧ f.weight ≤ 50000) ∧ Pl f.fx f.fy ∧ Pl f.tx f.ty ∧ (0 ≤ f.height ∧ f.height ≤ 2000) ∧ (1 ≤ f.deadline ∧ f.deadline ≤ 1000000)) := by
  cases h0 : nmB f.name
  · exact .inl ⟨plainB_f fun h => nmB_ff h0 h.1, rfl⟩
  refine .inr ?_
  by_cases h1 : (1 ≤ f.weight ∧ f.weight ≤ 50000)
  case neg => exact .inl ⟨plainB_f fun h => h1 h.2.1, rfl, h1⟩
  refine .inr ?_
  by_cases h2 : Pl f.fx f.fy
  case neg => exact .inl ⟨plainB_f fun h => h2 h.2.2.1, rfl, h1, h2⟩
  refine .inr ?_
  by_cases h3 : Pl f.tx f.ty
  case neg => exact .inl ⟨plainB_f fun h => h3 h.2.2.2.1, rfl, h1, h2, h3⟩
  refine .inr ?_
  by_cases h4 : (0 ≤ f.height ∧ f.height ≤ 2000)
  case neg => exact .inl ⟨plainB_f fun h => h4 h.2.2.2.2.1, rfl, h1, h2, h3, h4⟩
  refine .inr ?_
  by_cases h5 : (1 ≤ f.deadline ∧ f.deadline ≤ 1000000)
  case neg => exact .inl ⟨plainB_f fun h => h5 h.2.2.2.2.2, rfl, h1, h2, h3, h4, h5⟩
  refine .inr ?_
  exact ⟨plainB_t ⟨nmB_iff.1 h0, h1, h2, h3, h4, h5⟩, rfl, h1, h2, h3, h4, h5⟩
set_option maxRecDepth 100000 in
set_option maxHeartbeats 8000000 in
theorem impl_One (f : LiftF) (s : SV) (w : World) (hwf : f.name.size ≤ maxLen) :
    Calls Tryd.prog 46 #[.agg (LiftR.cells ⟨f, s⟩).toArray] w fun e w' => e = .returned (.bool (plainB f)) ∧ Below w.heap.size w w' := by
  have hN := fun w => impl_IsName f.name w hwf
  have hF := fun w => impl_Pl f.fx f.fy w
  have hT := fun w => impl_Pl f.tx f.ty w
  clear hwf
  have hcs := plain_cases f
  obtain ⟨x0, x1, x2, x3, x4, x5, x6, x7⟩ := f
  obtain ⟨sa, sl, sc⟩ := s
  simp only [LiftR.cells, SV.v] at *
  rcases hcs with ⟨hr, hn⟩ | ⟨hr, hn, hw⟩ | ⟨hr, hn, ⟨_, _⟩, hf⟩ | ⟨hr, hn, ⟨_, _⟩, hf, ht⟩ | ⟨hr, hn, ⟨_, _⟩, hf, ht, hh⟩ | ⟨hr, hn, ⟨_, _⟩, hf, ht, ⟨_, _⟩, hd⟩ | ⟨hr, hn, ⟨_, _⟩, hf, ht, ⟨_, _⟩, ⟨_, _⟩⟩
  · rw [hr]
    rw [hn] at hN
    have HN := Lib.hid hN
    have HF := Lib.hid hF
    have HT := Lib.hid hT
    clear hN hF hT hr hn
    go_enter Tryd.func46, Tryd.ntmps46
    go_wp2_with (first
      | (go_at_call 67; refine (HN.out _).mono ?_; rintro e w' ⟨rfl, rfl⟩)
      | (go_at_call 33; first | (refine (impl_within_t _ _ _ _ (by omega) (by omega)).mono ?_; rintro e w' ⟨rfl, rfl⟩) | (refine (impl_within_f _ _ _ _ (by omega)).mono ?_; rintro e w' ⟨rfl, rfl⟩))
      | (go_at_call_of 68 x2; refine (HF.out _).mono ?_; rintro e w2 ⟨rfl, hb2⟩; have hx2 := Lib.hid (blkN_below hb2 (blkN_new w _)); have B2 := (((Below.refl _ w).alloc (Nat.le_refl _) _).trans (hb2.mono (by simp))); have d4 : w2.cell? ⟨w.heap.size, 4, none⟩ = some (.int .i64 x4) := (Lib.cell_of_heap hx2.out 4).trans rfl; have d5 : w2.cell? ⟨w.heap.size, 5, none⟩ = some (.int .i64 x5) := (Lib.cell_of_heap hx2.out 5).trans rfl; have d6 : w2.cell? ⟨w.heap.size, 6, none⟩ = some (.int .i64 x6) := (Lib.cell_of_heap hx2.out 6).trans rfl; have d7 : w2.cell? ⟨w.heap.size, 7, none⟩ = some (.int .i64 x7) := (Lib.cell_of_heap hx2.out 7).trans rfl; clear hb2)
      | (go_at_call_of 68 x4; refine (HT.out _).mono ?_; rintro e w3 ⟨rfl, hb3⟩; have hx3 := Lib.hid (blkN_below hb3 hx2.out); have B3 := B2.trans (hb3.mono B2.size); have d4 : w3.cell? ⟨w.heap.size, 4, none⟩ = some (.int .i64 x4) := (Lib.cell_of_heap hx3.out 4).trans rfl; have d5 : w3.cell? ⟨w.heap.size, 5, none⟩ = some (.int .i64 x5) := (Lib.cell_of_heap hx3.out 5).trans rfl; have d6 : w3.cell? ⟨w.heap.size, 6, none⟩ = some (.int .i64 x6) := (Lib.cell_of_heap hx3.out 6).trans rfl; have d7 : w3.cell? ⟨w.heap.size, 7, none⟩ = some (.int .i64 x7) := (Lib.cell_of_heap hx3.out 7).trans rfl; clear hb3))
    go_ret
    exact ⟨rfl, by first | exact B3 | exact B2 | exact (Below.refl _ _).alloc (Nat.le_refl _) _⟩
  · rw [hr]
    rw [hn] at hN
    have HN := Lib.hid hN
    have HF := Lib.hid hF
    have HT := Lib.hid hT
    clear hN hF hT hr hn
    go_enter Tryd.func46, Tryd.ntmps46
    go_wp2_with (first
      | (go_at_call 67; refine (HN.out _).mono ?_; rintro e w' ⟨rfl, rfl⟩)
      | (go_at_call 33; first | (refine (impl_within_t _ _ _ _ (by omega) (by omega)).mono ?_; rintro e w' ⟨rfl, rfl⟩) | (refine (impl_within_f _ _ _ _ (by omega)).mono ?_; rintro e w' ⟨rfl, rfl⟩))
      | (go_at_call_of 68 x2; refine (HF.out _).mono ?_; rintro e w2 ⟨rfl, hb2⟩; have hx2 := Lib.hid (blkN_below hb2 (blkN_new w _)); have B2 := (((Below.refl _ w).alloc (Nat.le_refl _) _).trans (hb2.mono (by simp))); have d4 : w2.cell? ⟨w.heap.size, 4, none⟩ = some (.int .i64 x4) := (Lib.cell_of_heap hx2.out 4).trans rfl; have d5 : w2.cell? ⟨w.heap.size, 5, none⟩ = some (.int .i64 x5) := (Lib.cell_of_heap hx2.out 5).trans rfl; have d6 : w2.cell? ⟨w.heap.size, 6, none⟩ = some (.int .i64 x6) := (Lib.cell_of_heap hx2.out 6).trans rfl; have d7 : w2.cell? ⟨w.heap.size, 7, none⟩ = some (.int .i64 x7) := (Lib.cell_of_heap hx2.out 7).trans rfl; clear hb2)
      | (go_at_call_of 68 x4; refine (HT.out _).mono ?_; rintro e w3 ⟨rfl, hb3⟩; have hx3 := Lib.hid (blkN_below hb3 hx2.out); have B3 := B2.trans (hb3.mono B2.size); have d4 : w3.cell? ⟨w.heap.size, 4, none⟩ = some (.int .i64 x4) := (Lib.cell_of_heap hx3.out 4).trans rfl; have d5 : w3.cell? ⟨w.heap.size, 5, none⟩ = some (.int .i64 x5) := (Lib.cell_of_heap hx3.out 5).trans rfl; have d6 : w3.cell? ⟨w.heap.size, 6, none⟩ = some (.int .i64 x6) := (Lib.cell_of_heap hx3.out 6).trans rfl; have d7 : w3.cell? ⟨w.heap.size, 7, none⟩ = some (.int .i64 x7) := (Lib.cell_of_heap hx3.out 7).trans rfl; clear hb3))
    go_ret
    exact ⟨rfl, by first | exact B3 | exact B2 | exact (Below.refl _ _).alloc (Nat.le_refl _) _⟩
  · rw [hr]
    rw [hn] at hN
    rw [decide_eq_false hf] at hF
    have HN := Lib.hid hN
    have HF := Lib.hid hF
    have HT := Lib.hid hT
    clear hN hF hT hr hn hf
    go_enter Tryd.func46, Tryd.ntmps46
    go_wp2_with (first
      | (go_at_call 67; refine (HN.out _).mono ?_; rintro e w' ⟨rfl, rfl⟩)
      | (go_at_call 33; first | (refine (impl_within_t _ _ _ _ (by omega) (by omega)).mono ?_; rintro e w' ⟨rfl, rfl⟩) | (refine (impl_within_f _ _ _ _ (by omega)).mono ?_; rintro e w' ⟨rfl, rfl⟩))
      | (go_at_call_of 68 x2; refine (HF.out _).mono ?_; rintro e w2 ⟨rfl, hb2⟩; have hx2 := Lib.hid (blkN_below hb2 (blkN_new w _)); have B2 := (((Below.refl _ w).alloc (Nat.le_refl _) _).trans (hb2.mono (by simp))); have d4 : w2.cell? ⟨w.heap.size, 4, none⟩ = some (.int .i64 x4) := (Lib.cell_of_heap hx2.out 4).trans rfl; have d5 : w2.cell? ⟨w.heap.size, 5, none⟩ = some (.int .i64 x5) := (Lib.cell_of_heap hx2.out 5).trans rfl; have d6 : w2.cell? ⟨w.heap.size, 6, none⟩ = some (.int .i64 x6) := (Lib.cell_of_heap hx2.out 6).trans rfl; have d7 : w2.cell? ⟨w.heap.size, 7, none⟩ = some (.int .i64 x7) := (Lib.cell_of_heap hx2.out 7).trans rfl; clear hb2)
      | (go_at_call_of 68 x4; refine (HT.out _).mono ?_; rintro e w3 ⟨rfl, hb3⟩; have hx3 := Lib.hid (blkN_below hb3 hx2.out); have B3 := B2.trans (hb3.mono B2.size); have d4 : w3.cell? ⟨w.heap.size, 4, none⟩ = some (.int .i64 x4) := (Lib.cell_of_heap hx3.out 4).trans rfl; have d5 : w3.cell? ⟨w.heap.size, 5, none⟩ = some (.int .i64 x5) := (Lib.cell_of_heap hx3.out 5).trans rfl; have d6 : w3.cell? ⟨w.heap.size, 6, none⟩ = some (.int .i64 x6) := (Lib.cell_of_heap hx3.out 6).trans rfl; have d7 : w3.cell? ⟨w.heap.size, 7, none⟩ = some (.int .i64 x7) := (Lib.cell_of_heap hx3.out 7).trans rfl; clear hb3))
    go_ret
    exact ⟨rfl, by first | exact B3 | exact B2 | exact (Below.refl _ _).alloc (Nat.le_refl _) _⟩
  · rw [hr]
    rw [hn] at hN
    rw [decide_eq_true hf] at hF
    rw [decide_eq_false ht] at hT
    have HN := Lib.hid hN
    have HF := Lib.hid hF
    have HT := Lib.hid hT
    clear hN hF hT hr hn hf ht
    go_enter Tryd.func46, Tryd.ntmps46
    go_wp2_with (first
      | (go_at_call 67; refine (HN.out _).mono ?_; rintro e w' ⟨rfl, rfl⟩)
      | (go_at_call 33; first | (refine (impl_within_t _ _ _ _ (by omega) (by omega)).mono ?_; rintro e w' ⟨rfl, rfl⟩) | (refine (impl_within_f _ _ _ _ (by omega)).mono ?_; rintro e w' ⟨rfl, rfl⟩))
      | (go_at_call_of 68 x2; refine (HF.out _).mono ?_; rintro e w2 ⟨rfl, hb2⟩; have hx2 := Lib.hid (blkN_below hb2 (blkN_new w _)); have B2 := (((Below.refl _ w).alloc (Nat.le_refl _) _).trans (hb2.mono (by simp))); have d4 : w2.cell? ⟨w.heap.size, 4, none⟩ = some (.int .i64 x4) := (Lib.cell_of_heap hx2.out 4).trans rfl; have d5 : w2.cell? ⟨w.heap.size, 5, none⟩ = some (.int .i64 x5) := (Lib.cell_of_heap hx2.out 5).trans rfl; have d6 : w2.cell? ⟨w.heap.size, 6, none⟩ = some (.int .i64 x6) := (Lib.cell_of_heap hx2.out 6).trans rfl; have d7 : w2.cell? ⟨w.heap.size, 7, none⟩ = some (.int .i64 x7) := (Lib.cell_of_heap hx2.out 7).trans rfl; clear hb2)
      | (go_at_call_of 68 x4; refine (HT.out _).mono ?_; rintro e w3 ⟨rfl, hb3⟩; have hx3 := Lib.hid (blkN_below hb3 hx2.out); have B3 := B2.trans (hb3.mono B2.size); have d4 : w3.cell? ⟨w.heap.size, 4, none⟩ = some (.int .i64 x4) := (Lib.cell_of_heap hx3.out 4).trans rfl; have d5 : w3.cell? ⟨w.heap.size, 5, none⟩ = some (.int .i64 x5) := (Lib.cell_of_heap hx3.out 5).trans rfl; have d6 : w3.cell? ⟨w.heap.size, 6, none⟩ = some (.int .i64 x6) := (Lib.cell_of_heap hx3.out 6).trans rfl; have d7 : w3.cell? ⟨w.heap.size, 7, none⟩ = some (.int .i64 x7) := (Lib.cell_of_heap hx3.out 7).trans rfl; clear hb3))
    go_ret
    exact ⟨rfl, by first | exact B3 | exact B2 | exact (Below.refl _ _).alloc (Nat.le_refl _) _⟩
  · rw [hr]
    rw [hn] at hN
    rw [decide_eq_true hf] at hF
    rw [decide_eq_true ht] at hT
    have HN := Lib.hid hN
    have HF := Lib.hid hF
    have HT := Lib.hid hT
    clear hN hF hT hr hn hf ht
    go_enter Tryd.func46, Tryd.ntmps46
    go_wp2_with (first
      | (go_at_call 67; refine (HN.out _).mono ?_; rintro e w' ⟨rfl, rfl⟩)
      | (go_at_call 33; first | (refine (impl_within_t _ _ _ _ (by omega) (by omega)).mono ?_; rintro e w' ⟨rfl, rfl⟩) | (refine (impl_within_f _ _ _ _ (by omega)).mono ?_; rintro e w' ⟨rfl, rfl⟩))
      | (go_at_call_of 68 x2; refine (HF.out _).mono ?_; rintro e w2 ⟨rfl, hb2⟩; have hx2 := Lib.hid (blkN_below hb2 (blkN_new w _)); have B2 := (((Below.refl _ w).alloc (Nat.le_refl _) _).trans (hb2.mono (by simp))); have d4 : w2.cell? ⟨w.heap.size, 4, none⟩ = some (.int .i64 x4) := (Lib.cell_of_heap hx2.out 4).trans rfl; have d5 : w2.cell? ⟨w.heap.size, 5, none⟩ = some (.int .i64 x5) := (Lib.cell_of_heap hx2.out 5).trans rfl; have d6 : w2.cell? ⟨w.heap.size, 6, none⟩ = some (.int .i64 x6) := (Lib.cell_of_heap hx2.out 6).trans rfl; have d7 : w2.cell? ⟨w.heap.size, 7, none⟩ = some (.int .i64 x7) := (Lib.cell_of_heap hx2.out 7).trans rfl; clear hb2)
      | (go_at_call_of 68 x4; refine (HT.out _).mono ?_; rintro e w3 ⟨rfl, hb3⟩; have hx3 := Lib.hid (blkN_below hb3 hx2.out); have B3 := B2.trans (hb3.mono B2.size); have d4 : w3.cell? ⟨w.heap.size, 4, none⟩ = some (.int .i64 x4) := (Lib.cell_of_heap hx3.out 4).trans rfl; have d5 : w3.cell? ⟨w.heap.size, 5, none⟩ = some (.int .i64 x5) := (Lib.cell_of_heap hx3.out 5).trans rfl; have d6 : w3.cell? ⟨w.heap.size, 6, none⟩ = some (.int .i64 x6) := (Lib.cell_of_heap hx3.out 6).trans rfl; have d7 : w3.cell? ⟨w.heap.size, 7, none⟩ = some (.int .i64 x7) := (Lib.cell_of_heap hx3.out 7).trans rfl; clear hb3))
    go_ret
    exact ⟨rfl, by first | exact B3 | exact B2 | exact (Below.refl _ _).alloc (Nat.le_refl _) _⟩
  · rw [hr]
    rw [hn] at hN
    rw [decide_eq_true hf] at hF
    rw [decide_eq_true ht] at hT
    have HN := Lib.hid hN
    have HF := Lib.hid hF
    have HT := Lib.hid hT
    clear hN hF hT hr hn hf ht
    go_enter Tryd.func46, Tryd.ntmps46
    go_wp2_with (first
      | (go_at_call 67; refine (HN.out _).mono ?_; rintro e w' ⟨rfl, rfl⟩)
      | (go_at_call 33; first | (refine (impl_within_t _ _ _ _ (by omega) (by omega)).mono ?_; rintro e w' ⟨rfl, rfl⟩) | (refine (impl_within_f _ _ _ _ (by omega)).mono ?_; rintro e w' ⟨rfl, rfl⟩))
      | (go_at_call_of 68 x2; refine (HF.out _).mono ?_; rintro e w2 ⟨rfl, hb2⟩; have hx2 := Lib.hid (blkN_below hb2 (blkN_new w _)); have B2 := (((Below.refl _ w).alloc (Nat.le_refl _) _).trans (hb2.mono (by simp))); have d4 : w2.cell? ⟨w.heap.size, 4, none⟩ = some (.int .i64 x4) := (Lib.cell_of_heap hx2.out 4).trans rfl; have d5 : w2.cell? ⟨w.heap.size, 5, none⟩ = some (.int .i64 x5) := (Lib.cell_of_heap hx2.out 5).trans rfl; have d6 : w2.cell? ⟨w.heap.size, 6, none⟩ = some (.int .i64 x6) := (Lib.cell_of_heap hx2.out 6).trans rfl; have d7 : w2.cell? ⟨w.heap.size, 7, none⟩ = some (.int .i64 x7) := (Lib.cell_of_heap hx2.out 7).trans rfl; clear hb2)
      | (go_at_call_of 68 x4; refine (HT.out _).mono ?_; rintro e w3 ⟨rfl, hb3⟩; have hx3 := Lib.hid (blkN_below hb3 hx2.out); have B3 := B2.trans (hb3.mono B2.size); have d4 : w3.cell? ⟨w.heap.size, 4, none⟩ = some (.int .i64 x4) := (Lib.cell_of_heap hx3.out 4).trans rfl; have d5 : w3.cell? ⟨w.heap.size, 5, none⟩ = some (.int .i64 x5) := (Lib.cell_of_heap hx3.out 5).trans rfl; have d6 : w3.cell? ⟨w.heap.size, 6, none⟩ = some (.int .i64 x6) := (Lib.cell_of_heap hx3.out 6).trans rfl; have d7 : w3.cell? ⟨w.heap.size, 7, none⟩ = some (.int .i64 x7) := (Lib.cell_of_heap hx3.out 7).trans rfl; clear hb3))
    go_ret
    exact ⟨rfl, by first | exact B3 | exact B2 | exact (Below.refl _ _).alloc (Nat.le_refl _) _⟩
  · rw [hr]
    rw [hn] at hN
    rw [decide_eq_true hf] at hF
    rw [decide_eq_true ht] at hT
    have HN := Lib.hid hN
    have HF := Lib.hid hF
    have HT := Lib.hid hT
    clear hN hF hT hr hn hf ht
    go_enter Tryd.func46, Tryd.ntmps46
    go_wp2_with (first
      | (go_at_call 67; refine (HN.out _).mono ?_; rintro e w' ⟨rfl, rfl⟩)
      | (go_at_call 33; first | (refine (impl_within_t _ _ _ _ (by omega) (by omega)).mono ?_; rintro e w' ⟨rfl, rfl⟩) | (refine (impl_within_f _ _ _ _ (by omega)).mono ?_; rintro e w' ⟨rfl, rfl⟩))
      | (go_at_call_of 68 x2; refine (HF.out _).mono ?_; rintro e w2 ⟨rfl, hb2⟩; have hx2 := Lib.hid (blkN_below hb2 (blkN_new w _)); have B2 := (((Below.refl _ w).alloc (Nat.le_refl _) _).trans (hb2.mono (by simp))); have d4 : w2.cell? ⟨w.heap.size, 4, none⟩ = some (.int .i64 x4) := (Lib.cell_of_heap hx2.out 4).trans rfl; have d5 : w2.cell? ⟨w.heap.size, 5, none⟩ = some (.int .i64 x5) := (Lib.cell_of_heap hx2.out 5).trans rfl; have d6 : w2.cell? ⟨w.heap.size, 6, none⟩ = some (.int .i64 x6) := (Lib.cell_of_heap hx2.out 6).trans rfl; have d7 : w2.cell? ⟨w.heap.size, 7, none⟩ = some (.int .i64 x7) := (Lib.cell_of_heap hx2.out 7).trans rfl; clear hb2)
      | (go_at_call_of 68 x4; refine (HT.out _).mono ?_; rintro e w3 ⟨rfl, hb3⟩; have hx3 := Lib.hid (blkN_below hb3 hx2.out); have B3 := B2.trans (hb3.mono B2.size); have d4 : w3.cell? ⟨w.heap.size, 4, none⟩ = some (.int .i64 x4) := (Lib.cell_of_heap hx3.out 4).trans rfl; have d5 : w3.cell? ⟨w.heap.size, 5, none⟩ = some (.int .i64 x5) := (Lib.cell_of_heap hx3.out 5).trans rfl; have d6 : w3.cell? ⟨w.heap.size, 6, none⟩ = some (.int .i64 x6) := (Lib.cell_of_heap hx3.out 6).trans rfl; have d7 : w3.cell? ⟨w.heap.size, 7, none⟩ = some (.int .i64 x7) := (Lib.cell_of_heap hx3.out 7).trans rfl; clear hb3))
    go_ret
    exact ⟨rfl, by first | exact B3 | exact B2 | exact (Below.refl _ _).alloc (Nat.le_refl _) _⟩
end Go.Proofs.YtijpghlkbfmefaaDoor
