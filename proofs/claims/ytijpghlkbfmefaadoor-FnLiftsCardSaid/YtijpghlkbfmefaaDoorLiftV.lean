/- Lifts: one lift valid alone, the reference. -/
import Derived.Test.YtijpghlkbfmefaaDoorRise
import Derived.Test.YtijpghlkbfmefaaDoorTLift
namespace Go.Proofs.YtijpghlkbfmefaaDoor
open Go.RowKit
def liftOk (f : LiftF) (a : List Int) (k : Int) : Prop := isNm f.name ∧ (1 ≤ f.weight ∧ f.weight ≤ 50000) ∧ Pl f.fx f.fy ∧ Pl f.tx f.ty ∧ (0 ≤ f.height ∧ f.height ≤ 2000) ∧ (1 ≤ f.deadline ∧ f.deadline ≤ 1000000) ∧ rises a k
open Classical in
noncomputable def liftB (f : LiftF) (a : List Int) (k : Int) : Bool := decide (liftOk f a k)
theorem liftB_t {f : LiftF} {a : List Int} {k : Int} (h : liftOk f a k) : liftB f a k = true := by classical exact decide_eq_true h
theorem liftB_f {f : LiftF} {a : List Int} {k : Int} (h : ¬ liftOk f a k) : liftB f a k = false := by classical exact decide_eq_false h
theorem liftB_iff {f : LiftF} {a : List Int} {k : Int} : liftB f a k = true ↔ liftOk f a k := ⟨fun h => by classical exact of_decide_eq_true h, liftB_t⟩
theorem lift_cases (f : LiftF) (a : List Int) (k : Int) :
    (liftB f a k = false ∧ nmB f.name = false) ∨
    (liftB f a k = false ∧ nmB f.name = true ∧ ¬ (1 ≤ f.weight ∧ f.weight ≤ 50000)) ∨
    (liftB f a k = false ∧ nmB f.name = true ∧ (1 ≤ f.weight ∧ f.weight ≤ 50000) ∧ ¬ Pl f.fx f.fy) ∨
    (liftB f a k = false ∧ nmB f.name = true ∧ (1 ≤ f.weight ∧ f.weight ≤ 50000) ∧ Pl f.fx f.fy ∧ ¬ Pl f.tx f.ty) ∨
    (liftB f a k = false ∧ nmB f.name = true ∧ (1 ≤ f.weight ∧ f.weight ≤ 50000) ∧ Pl f.fx f.fy ∧ Pl f.tx f.ty ∧ ¬ (0 ≤ f.height ∧ f.height ≤ 2000)) ∨
    (liftB f a k = false ∧ nmB f.name = true ∧ (1 ≤ f.weight ∧ f.weight ≤ 50000) ∧ Pl f.fx f.fy ∧ Pl f.tx f.ty ∧ (0 ≤ f.height ∧ f.height ≤ 2000) ∧ ¬ (1 ≤ f.deadline ∧ f.deadline ≤ 1000000)) ∨
    (liftB f a k = false ∧ nmB f.name = true ∧ (1 ≤ f.weight ∧ f.weight ≤ 50000) ∧ Pl f.fx f.fy ∧ Pl f.tx f.ty ∧ (0 ≤ f.height ∧ f.height ≤ 2000) ∧ (1 ≤ f.deadline ∧ f.deadline ≤ 1000000) ∧ risesB a k = false) ∨
    (liftB f a k = true ∧ nmB f.name = true ∧ (1 ≤ f.weight ∧ f.weight ≤ 50000) ∧ Pl f.fx f.fy ∧ Pl f.tx f.ty ∧ (0 ≤ f.height ∧ f.height ≤ 2000) ∧ (1 ≤ f.deadline ∧ f.deadline ≤ 1000000) ∧ risesB a k = true) := by
  cases h0 : nmB f.name
  · exact .inl ⟨liftB_f fun h => nmB_ff h0 h.1, rfl⟩
  refine .inr ?_
  by_cases h1 : (1 ≤ f.weight ∧ f.weight ≤ 50000)
  case neg => exact .inl ⟨liftB_f fun h => h1 h.2.1, rfl, h1⟩
  refine .inr ?_
  by_cases h2 : Pl f.fx f.fy
  case neg => exact .inl ⟨liftB_f fun h => h2 h.2.2.1, rfl, h1, h2⟩
  refine .inr ?_
  by_cases h3 : Pl f.tx f.ty
  case neg => exact .inl ⟨liftB_f fun h => h3 h.2.2.2.1, rfl, h1, h2, h3⟩
  refine .inr ?_
  by_cases h4 : (0 ≤ f.height ∧ f.height ≤ 2000)
  case neg => exact .inl ⟨liftB_f fun h => h4 h.2.2.2.2.1, rfl, h1, h2, h3, h4⟩
  refine .inr ?_
  by_cases h5 : (1 ≤ f.deadline ∧ f.deadline ≤ 1000000)
  case neg => exact .inl ⟨liftB_f fun h => h5 h.2.2.2.2.2.1, rfl, h1, h2, h3, h4, h5⟩
  refine .inr ?_
  cases h6 : risesB a k
  · exact .inl ⟨liftB_f (fun h => by rw [risesB_t h.2.2.2.2.2.2] at h6; cases h6), rfl, h1, h2, h3, h4, h5, rfl⟩
  · exact .inr ⟨liftB_t ⟨nmB_iff.1 h0, h1, h2, h3, h4, h5, risesB_iff.1 h6⟩, rfl, h1, h2, h3, h4, h5, rfl⟩
set_option maxRecDepth 100000 in
set_option maxHeartbeats 8000000 in
theorem spec_One (b o : Nat) (f : LiftF) (sv : Value) (a : List Int) (k : Int) (lo hi : Nat) (w : World) (hc : ∀ j u, (([.string f.name, .int .i64 f.weight, .int .i64 f.fx, .int .i64 f.fy, .int .i64 f.tx, .int .i64 f.ty, .int .i64 f.height, .int .i64 f.deadline, sv] : List Value))[j]? = some u → w.cell? ⟨b, o + j, none⟩ = some u) (h : Ints lo hi w sv a) (hwf : f.name.size ≤ maxLen) (hk : 0 ≤ k ∧ k ≤ 2000000) :
    Calls Tryd.prog 50 #[.pointer (some ⟨b, o, none⟩), .int .i64 k] w fun e w' => e = .returned (.bool (liftB f a k)) ∧ Below w.heap.size w w' := by
  have hR := fun w' (hb : Below w.heap.size w w') => spec_Rises sv a lo hi k w' (h.ext hb) hk
  have hN := fun w => spec_IsName f.name w hwf
  have hF := fun w => spec_Pl f.fx f.fy w
  have hT := fun w => spec_Pl f.tx f.ty w
  clear h hwf hk
  have hcs := lift_cases f a k
  obtain ⟨x0, x1, x2, x3, x4, x5, x6, x7⟩ := f
  have c0 := hc 0 _ rfl
  have c1 := hc 1 _ rfl
  have c2 := hc 2 _ rfl
  have c3 := hc 3 _ rfl
  have c4 := hc 4 _ rfl
  have c5 := hc 5 _ rfl
  have c6 := hc 6 _ rfl
  have c7 := hc 7 _ rfl
  have c8 := hc 8 _ rfl
  clear hc
  simp only [Nat.add_zero] at c0
  have hbw := World.block_lt_of_cell? w _ c0
  dsimp only at *
  rcases hcs with ⟨hr, hn⟩ | ⟨hr, hn, hw⟩ | ⟨hr, hn, ⟨_, _⟩, hf⟩ | ⟨hr, hn, ⟨_, _⟩, hf, ht⟩ | ⟨hr, hn, ⟨_, _⟩, hf, ht, hh⟩ | ⟨hr, hn, ⟨_, _⟩, hf, ht, ⟨_, _⟩, hd⟩ | ⟨hr, hn, ⟨_, _⟩, hf, ht, ⟨_, _⟩, ⟨_, _⟩, hs⟩ | ⟨hr, hn, ⟨_, _⟩, hf, ht, ⟨_, _⟩, ⟨_, _⟩, hs⟩
  · rw [hr]
    rw [hn] at hN
    have HN := Lib.hid hN
    have HF := Lib.hid hF
    have HT := Lib.hid hT
    have HR := Lib.hid hR
    clear hN hF hT hR hr hn
    go_enter Tryd.func50, Tryd.ntmps50
    go_wp2_with (first
      | (go_at_call 69; refine (HN.out _).mono ?_; rintro e w' ⟨rfl, rfl⟩)
      | (go_at_call 58; first | (refine (spec_In_t _ _ _ _ (by omega) (by omega)).mono ?_; rintro e w' ⟨rfl, rfl⟩) | (refine (spec_In_f _ _ _ _ (by omega)).mono ?_; rintro e w' ⟨rfl, rfl⟩))
      | (go_at_call_of 70 x2; refine (HF.out _).mono ?_; rintro e w2 ⟨rfl, B2⟩; have e4 := (B2.cell (p := ⟨b, o + 4, none⟩) hbw).trans c4; have e5 := (B2.cell (p := ⟨b, o + 5, none⟩) hbw).trans c5)
      | (go_at_call_of 70 x4; refine (HT.out _).mono ?_; rintro e w3 ⟨rfl, hb3⟩; have B3 := B2.trans (hb3.mono B2.size); have e6 := (B3.cell (p := ⟨b, o + 6, none⟩) hbw).trans c6; have e7 := (B3.cell (p := ⟨b, o + 7, none⟩) hbw).trans c7; have e8 := (B3.cell (p := ⟨b, o + 8, none⟩) hbw).trans c8)
      | (go_at_call 71; refine (HR.out _ B3).mono ?_; rintro e w4 ⟨rfl, hb4⟩; have B4 : Below w.heap.size w w4 := (by obtain ⟨nq, h⟩ := hb4; rw [h]; exact below_dN B3 _); clear hb4))
    go_ret
    exact ⟨rfl, by first | exact B4 | exact B3 | exact B2 | exact Below.refl _ _⟩
  · rw [hr]
    rw [hn] at hN
    have HN := Lib.hid hN
    have HF := Lib.hid hF
    have HT := Lib.hid hT
    have HR := Lib.hid hR
    clear hN hF hT hR hr hn
    go_enter Tryd.func50, Tryd.ntmps50
    go_wp2_with (first
      | (go_at_call 69; refine (HN.out _).mono ?_; rintro e w' ⟨rfl, rfl⟩)
      | (go_at_call 58; first | (refine (spec_In_t _ _ _ _ (by omega) (by omega)).mono ?_; rintro e w' ⟨rfl, rfl⟩) | (refine (spec_In_f _ _ _ _ (by omega)).mono ?_; rintro e w' ⟨rfl, rfl⟩))
      | (go_at_call_of 70 x2; refine (HF.out _).mono ?_; rintro e w2 ⟨rfl, B2⟩; have e4 := (B2.cell (p := ⟨b, o + 4, none⟩) hbw).trans c4; have e5 := (B2.cell (p := ⟨b, o + 5, none⟩) hbw).trans c5)
      | (go_at_call_of 70 x4; refine (HT.out _).mono ?_; rintro e w3 ⟨rfl, hb3⟩; have B3 := B2.trans (hb3.mono B2.size); have e6 := (B3.cell (p := ⟨b, o + 6, none⟩) hbw).trans c6; have e7 := (B3.cell (p := ⟨b, o + 7, none⟩) hbw).trans c7; have e8 := (B3.cell (p := ⟨b, o + 8, none⟩) hbw).trans c8)
      | (go_at_call 71; refine (HR.out _ B3).mono ?_; rintro e w4 ⟨rfl, hb4⟩; have B4 : Below w.heap.size w w4 := (by obtain ⟨nq, h⟩ := hb4; rw [h]; exact below_dN B3 _); clear hb4))
    go_ret
    exact ⟨rfl, by first | exact B4 | exact B3 | exact B2 | exact Below.refl _ _⟩
  · rw [hr]
    rw [hn] at hN
    rw [decide_eq_false hf] at hF
    have HN := Lib.hid hN
    have HF := Lib.hid hF
    have HT := Lib.hid hT
    have HR := Lib.hid hR
    clear hN hF hT hR hr hn hf
    go_enter Tryd.func50, Tryd.ntmps50
    go_wp2_with (first
      | (go_at_call 69; refine (HN.out _).mono ?_; rintro e w' ⟨rfl, rfl⟩)
      | (go_at_call 58; first | (refine (spec_In_t _ _ _ _ (by omega) (by omega)).mono ?_; rintro e w' ⟨rfl, rfl⟩) | (refine (spec_In_f _ _ _ _ (by omega)).mono ?_; rintro e w' ⟨rfl, rfl⟩))
      | (go_at_call_of 70 x2; refine (HF.out _).mono ?_; rintro e w2 ⟨rfl, B2⟩; have e4 := (B2.cell (p := ⟨b, o + 4, none⟩) hbw).trans c4; have e5 := (B2.cell (p := ⟨b, o + 5, none⟩) hbw).trans c5)
      | (go_at_call_of 70 x4; refine (HT.out _).mono ?_; rintro e w3 ⟨rfl, hb3⟩; have B3 := B2.trans (hb3.mono B2.size); have e6 := (B3.cell (p := ⟨b, o + 6, none⟩) hbw).trans c6; have e7 := (B3.cell (p := ⟨b, o + 7, none⟩) hbw).trans c7; have e8 := (B3.cell (p := ⟨b, o + 8, none⟩) hbw).trans c8)
      | (go_at_call 71; refine (HR.out _ B3).mono ?_; rintro e w4 ⟨rfl, hb4⟩; have B4 : Below w.heap.size w w4 := (by obtain ⟨nq, h⟩ := hb4; rw [h]; exact below_dN B3 _); clear hb4))
    go_ret
    exact ⟨rfl, by first | exact B4 | exact B3 | exact B2 | exact Below.refl _ _⟩
  · rw [hr]
    rw [hn] at hN
    rw [decide_eq_true hf] at hF
    rw [decide_eq_false ht] at hT
    have HN := Lib.hid hN
    have HF := Lib.hid hF
    have HT := Lib.hid hT
    have HR := Lib.hid hR
    clear hN hF hT hR hr hn hf ht
    go_enter Tryd.func50, Tryd.ntmps50
    go_wp2_with (first
      | (go_at_call 69; refine (HN.out _).mono ?_; rintro e w' ⟨rfl, rfl⟩)
      | (go_at_call 58; first | (refine (spec_In_t _ _ _ _ (by omega) (by omega)).mono ?_; rintro e w' ⟨rfl, rfl⟩) | (refine (spec_In_f _ _ _ _ (by omega)).mono ?_; rintro e w' ⟨rfl, rfl⟩))
      | (go_at_call_of 70 x2; refine (HF.out _).mono ?_; rintro e w2 ⟨rfl, B2⟩; have e4 := (B2.cell (p := ⟨b, o + 4, none⟩) hbw).trans c4; have e5 := (B2.cell (p := ⟨b, o + 5, none⟩) hbw).trans c5)
      | (go_at_call_of 70 x4; refine (HT.out _).mono ?_; rintro e w3 ⟨rfl, hb3⟩; have B3 := B2.trans (hb3.mono B2.size); have e6 := (B3.cell (p := ⟨b, o + 6, none⟩) hbw).trans c6; have e7 := (B3.cell (p := ⟨b, o + 7, none⟩) hbw).trans c7; have e8 := (B3.cell (p := ⟨b, o + 8, none⟩) hbw).trans c8)
      | (go_at_call 71; refine (HR.out _ B3).mono ?_; rintro e w4 ⟨rfl, hb4⟩; have B4 : Below w.heap.size w w4 := (by obtain ⟨nq, h⟩ := hb4; rw [h]; exact below_dN B3 _); clear hb4))
    go_ret
    exact ⟨rfl, by first | exact B4 | exact B3 | exact B2 | exact Below.refl _ _⟩
  · rw [hr]
    rw [hn] at hN
    rw [decide_eq_true hf] at hF
    rw [decide_eq_true ht] at hT
    have HN := Lib.hid hN
    have HF := Lib.hid hF
    have HT := Lib.hid hT
    have HR := Lib.hid hR
    clear hN hF hT hR hr hn hf ht
    go_enter Tryd.func50, Tryd.ntmps50
    go_wp2_with (first
      | (go_at_call 69; refine (HN.out _).mono ?_; rintro e w' ⟨rfl, rfl⟩)
      | (go_at_call 58; first | (refine (spec_In_t _ _ _ _ (by omega) (by omega)).mono ?_; rintro e w' ⟨rfl, rfl⟩) | (refine (spec_In_f _ _ _ _ (by omega)).mono ?_; rintro e w' ⟨rfl, rfl⟩))
      | (go_at_call_of 70 x2; refine (HF.out _).mono ?_; rintro e w2 ⟨rfl, B2⟩; have e4 := (B2.cell (p := ⟨b, o + 4, none⟩) hbw).trans c4; have e5 := (B2.cell (p := ⟨b, o + 5, none⟩) hbw).trans c5)
      | (go_at_call_of 70 x4; refine (HT.out _).mono ?_; rintro e w3 ⟨rfl, hb3⟩; have B3 := B2.trans (hb3.mono B2.size); have e6 := (B3.cell (p := ⟨b, o + 6, none⟩) hbw).trans c6; have e7 := (B3.cell (p := ⟨b, o + 7, none⟩) hbw).trans c7; have e8 := (B3.cell (p := ⟨b, o + 8, none⟩) hbw).trans c8)
      | (go_at_call 71; refine (HR.out _ B3).mono ?_; rintro e w4 ⟨rfl, hb4⟩; have B4 : Below w.heap.size w w4 := (by obtain ⟨nq, h⟩ := hb4; rw [h]; exact below_dN B3 _); clear hb4))
    go_ret
    exact ⟨rfl, by first | exact B4 | exact B3 | exact B2 | exact Below.refl _ _⟩
  · rw [hr]
    rw [hn] at hN
    rw [decide_eq_true hf] at hF
    rw [decide_eq_true ht] at hT
    have HN := Lib.hid hN
    have HF := Lib.hid hF
    have HT := Lib.hid hT
    have HR := Lib.hid hR
    clear hN hF hT hR hr hn hf ht
    go_enter Tryd.func50, Tryd.ntmps50
    go_wp2_with (first
      | (go_at_call 69; refine (HN.out _).mono ?_; rintro e w' ⟨rfl, rfl⟩)
      | (go_at_call 58; first | (refine (spec_In_t _ _ _ _ (by omega) (by omega)).mono ?_; rintro e w' ⟨rfl, rfl⟩) | (refine (spec_In_f _ _ _ _ (by omega)).mono ?_; rintro e w' ⟨rfl, rfl⟩))
      | (go_at_call_of 70 x2; refine (HF.out _).mono ?_; rintro e w2 ⟨rfl, B2⟩; have e4 := (B2.cell (p := ⟨b, o + 4, none⟩) hbw).trans c4; have e5 := (B2.cell (p := ⟨b, o + 5, none⟩) hbw).trans c5)
      | (go_at_call_of 70 x4; refine (HT.out _).mono ?_; rintro e w3 ⟨rfl, hb3⟩; have B3 := B2.trans (hb3.mono B2.size); have e6 := (B3.cell (p := ⟨b, o + 6, none⟩) hbw).trans c6; have e7 := (B3.cell (p := ⟨b, o + 7, none⟩) hbw).trans c7; have e8 := (B3.cell (p := ⟨b, o + 8, none⟩) hbw).trans c8)
      | (go_at_call 71; refine (HR.out _ B3).mono ?_; rintro e w4 ⟨rfl, hb4⟩; have B4 : Below w.heap.size w w4 := (by obtain ⟨nq, h⟩ := hb4; rw [h]; exact below_dN B3 _); clear hb4))
    go_ret
    exact ⟨rfl, by first | exact B4 | exact B3 | exact B2 | exact Below.refl _ _⟩
  · rw [hr]
    rw [hn] at hN
    rw [decide_eq_true hf] at hF
    rw [decide_eq_true ht] at hT
    rw [hs] at hR
    have HN := Lib.hid hN
    have HF := Lib.hid hF
    have HT := Lib.hid hT
    have HR := Lib.hid hR
    clear hN hF hT hR hr hn hf ht hs
    go_enter Tryd.func50, Tryd.ntmps50
    go_wp2_with (first
      | (go_at_call 69; refine (HN.out _).mono ?_; rintro e w' ⟨rfl, rfl⟩)
      | (go_at_call 58; first | (refine (spec_In_t _ _ _ _ (by omega) (by omega)).mono ?_; rintro e w' ⟨rfl, rfl⟩) | (refine (spec_In_f _ _ _ _ (by omega)).mono ?_; rintro e w' ⟨rfl, rfl⟩))
      | (go_at_call_of 70 x2; refine (HF.out _).mono ?_; rintro e w2 ⟨rfl, B2⟩; have e4 := (B2.cell (p := ⟨b, o + 4, none⟩) hbw).trans c4; have e5 := (B2.cell (p := ⟨b, o + 5, none⟩) hbw).trans c5)
      | (go_at_call_of 70 x4; refine (HT.out _).mono ?_; rintro e w3 ⟨rfl, hb3⟩; have B3 := B2.trans (hb3.mono B2.size); have e6 := (B3.cell (p := ⟨b, o + 6, none⟩) hbw).trans c6; have e7 := (B3.cell (p := ⟨b, o + 7, none⟩) hbw).trans c7; have e8 := (B3.cell (p := ⟨b, o + 8, none⟩) hbw).trans c8)
      | (go_at_call 71; refine (HR.out _ B3).mono ?_; rintro e w4 ⟨rfl, hb4⟩; have B4 : Below w.heap.size w w4 := (by obtain ⟨nq, h⟩ := hb4; rw [h]; exact below_dN B3 _); clear hb4))
    go_ret
    exact ⟨rfl, by first | exact B4 | exact B3 | exact B2 | exact Below.refl _ _⟩
  · rw [hr]
    rw [hn] at hN
    rw [decide_eq_true hf] at hF
    rw [decide_eq_true ht] at hT
    rw [hs] at hR
    have HN := Lib.hid hN
    have HF := Lib.hid hF
    have HT := Lib.hid hT
    have HR := Lib.hid hR
    clear hN hF hT hR hr hn hf ht hs
    go_enter Tryd.func50, Tryd.ntmps50
    go_wp2_with (first
      | (go_at_call 69; refine (HN.out _).mono ?_; rintro e w' ⟨rfl, rfl⟩)
      | (go_at_call 58; first | (refine (spec_In_t _ _ _ _ (by omega) (by omega)).mono ?_; rintro e w' ⟨rfl, rfl⟩) | (refine (spec_In_f _ _ _ _ (by omega)).mono ?_; rintro e w' ⟨rfl, rfl⟩))
      | (go_at_call_of 70 x2; refine (HF.out _).mono ?_; rintro e w2 ⟨rfl, B2⟩; have e4 := (B2.cell (p := ⟨b, o + 4, none⟩) hbw).trans c4; have e5 := (B2.cell (p := ⟨b, o + 5, none⟩) hbw).trans c5)
      | (go_at_call_of 70 x4; refine (HT.out _).mono ?_; rintro e w3 ⟨rfl, hb3⟩; have B3 := B2.trans (hb3.mono B2.size); have e6 := (B3.cell (p := ⟨b, o + 6, none⟩) hbw).trans c6; have e7 := (B3.cell (p := ⟨b, o + 7, none⟩) hbw).trans c7; have e8 := (B3.cell (p := ⟨b, o + 8, none⟩) hbw).trans c8)
      | (go_at_call 71; refine (HR.out _ B3).mono ?_; rintro e w4 ⟨rfl, hb4⟩; have B4 : Below w.heap.size w w4 := (by obtain ⟨nq, h⟩ := hb4; rw [h]; exact below_dN B3 _); clear hb4))
    go_ret
    exact ⟨rfl, by first | exact B4 | exact B3 | exact B2 | exact Below.refl _ _⟩
end Go.Proofs.YtijpghlkbfmefaaDoor
