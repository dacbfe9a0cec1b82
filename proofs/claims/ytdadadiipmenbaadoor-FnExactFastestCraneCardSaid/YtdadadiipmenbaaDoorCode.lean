/- Speeds: validity, in both packages; plain lifts, the reference. The codes of a crane, speeds and a lift, the reference. -/
import Derived.Test.YtdadadiipmenbaaDoorLiftT
namespace Go.Proofs.YtdadadiipmenbaaDoor
open Go.RowKit
instance (v : Spd) : Decidable v.ok := by unfold Spd.ok; infer_instance
theorem spd_cases (v : Spd) : (v.ok ∧ (1 ≤ v.slew ∧ v.slew ≤ 600) ∧ (1 ≤ v.trolley ∧ v.trolley ≤ 600) ∧ (1 ≤ v.hoist ∧ v.hoist ≤ 600) ∧ (1 ≤ v.hook ∧ v.hook ≤ 600)) ∨
    (¬ v.ok ∧ ¬ (1 ≤ v.slew ∧ v.slew ≤ 600)) ∨ (¬ v.ok ∧ (1 ≤ v.slew ∧ v.slew ≤ 600) ∧ ¬ (1 ≤ v.trolley ∧ v.trolley ≤ 600)) ∨
    (¬ v.ok ∧ (1 ≤ v.slew ∧ v.slew ≤ 600) ∧ (1 ≤ v.trolley ∧ v.trolley ≤ 600) ∧ ¬ (1 ≤ v.hoist ∧ v.hoist ≤ 600)) ∨
    (¬ v.ok ∧ (1 ≤ v.slew ∧ v.slew ≤ 600) ∧ (1 ≤ v.trolley ∧ v.trolley ≤ 600) ∧ (1 ≤ v.hoist ∧ v.hoist ≤ 600) ∧ ¬ (1 ≤ v.hook ∧ v.hook ≤ 600)) := by
  unfold Spd.ok
  omega
theorem spec_Speed_t (n : Int) (w : World) (h : 1 ≤ n) (h2 : n ≤ 600) : Calls Tryd.prog 110 #[.int .i64 n] w fun e w' => e = .returned (.bool true) ∧ w = w' := by
  go_enter Tryd.func110, Tryd.ntmps110
  go_wp2_with (go_at_call 99; refine (spec_In_t _ _ _ _ h h2).mono ?_; rintro e w' ⟨rfl, rfl⟩)
  go_ret; exact ⟨rfl, rfl⟩
theorem spec_Speed_f (n : Int) (w : World) (h : ¬ (1 ≤ n ∧ n ≤ 600)) : Calls Tryd.prog 110 #[.int .i64 n] w fun e w' => e = .returned (.bool false) ∧ w = w' := by
  go_enter Tryd.func110, Tryd.ntmps110
  go_wp2_with (go_at_call 99; refine (spec_In_f _ _ _ _ h).mono ?_; rintro e w' ⟨rfl, rfl⟩)
  go_ret; exact ⟨rfl, rfl⟩
set_option maxHeartbeats 2000000 in
theorem spec_SpdOk (v : Spd) (w : World) : Calls Tryd.prog 57 #[.agg v.cells.toArray] w fun e w' => e = .returned (.bool (decide v.ok)) ∧ Below w.heap.size w w' := by
  have hcs := spd_cases v
  rcases hcs with ⟨h, ⟨_, _⟩, ⟨_, _⟩, ⟨_, _⟩, ⟨_, _⟩⟩ | ⟨h, _⟩ | ⟨h, ⟨_, _⟩, _⟩ | ⟨h, ⟨_, _⟩, ⟨_, _⟩, _⟩ | ⟨h, ⟨_, _⟩, ⟨_, _⟩, ⟨_, _⟩, _⟩
  all_goals
    first | rw [decide_eq_true h] | rw [decide_eq_false h]
    clear h
    obtain ⟨v0, v1, v2, v3⟩ := v
    simp only [Spd.cells] at *
    go_enter Tryd.func57, Tryd.ntmps57
    go_wp2_with (go_at_call 110; first | (refine (spec_Speed_t _ _ (by omega) (by omega)).mono ?_; rintro e w' ⟨rfl, rfl⟩) | (refine (spec_Speed_f _ _ (by omega)).mono ?_; rintro e w' ⟨rfl, rfl⟩))
    go_ret
    exact ⟨rfl, (Below.refl _ w).alloc (Nat.le_refl _) _⟩
set_option maxHeartbeats 2000000 in
theorem impl_SpdOk (v : Spd) (w : World) : Calls Tryd.prog 45 #[.agg v.cells.toArray] w fun e w' => e = .returned (.bool (decide v.ok)) ∧ Below w.heap.size w w' := by
  have hcs := spd_cases v
  rcases hcs with ⟨h, ⟨_, _⟩, ⟨_, _⟩, ⟨_, _⟩, ⟨_, _⟩⟩ | ⟨h, _⟩ | ⟨h, ⟨_, _⟩, _⟩ | ⟨h, ⟨_, _⟩, ⟨_, _⟩, _⟩ | ⟨h, ⟨_, _⟩, ⟨_, _⟩, ⟨_, _⟩, _⟩
  all_goals
    first | rw [decide_eq_true h] | rw [decide_eq_false h]
    clear h
    obtain ⟨v0, v1, v2, v3⟩ := v
    simp only [Spd.cells] at *
    go_enter Tryd.func45, Tryd.ntmps45
    go_wp2_with (go_at_call 81; first | (refine (impl_within_t _ _ _ _ (by omega) (by omega)).mono ?_; rintro e w' ⟨rfl, rfl⟩) | (refine (impl_within_f _ _ _ _ (by omega)).mono ?_; rintro e w' ⟨rfl, rfl⟩))
    go_ret
    exact ⟨rfl, (Below.refl _ w).alloc (Nat.le_refl _) _⟩
theorem liftB_nil (g : LiftF) : liftB g [] 0 = plainB g := by
  by_cases h : plainOk g
  · rw [plainB_t h]
    exact liftB_t ⟨h.1, h.2.1, h.2.2.1, h.2.2.2.1, h.2.2.2.2.1, h.2.2.2.2.2, fun i h => absurd h (by simp)⟩
  · rw [plainB_f h]
    exact liftB_f (fun hh => h ⟨hh.1, hh.2.1, hh.2.2.1, hh.2.2.2.1, hh.2.2.2.2.1, hh.2.2.2.2.2.1⟩)
set_option maxRecDepth 100000 in
set_option maxHeartbeats 4000000 in
theorem spec_Plain (q o2 : Nat) (g : LiftF) (t : SV) (w : World) (hl : At w q o2 (liftC g t.v)) (hwf : g.name.size ≤ maxLen) :
    Calls Tryd.prog 59 #[.pointer (some ⟨q, o2, none⟩)] w fun e w' => e = .returned (.bool (plainB g)) ∧ Below w.heap.size w w' := by
  have hbq := hl.lt (by simp [liftC])
  have HO := Lib.hid (fun w' (hl' : At w' w.heap.size 0 (liftC g (.slice none 0 0))) => spec_One w.heap.size 0 g (.slice none 0 0) [] 0 0 0 w' hl' ⟨none, 0, rfl, by simp, fun h => absurd h (by simp)⟩ hwf (by omega))
  rw [liftB_nil] at HO
  obtain ⟨ta, tl, tc⟩ := t
  simp only [SV.v] at *
  obtain ⟨y0, y1, y2, y3, y4, y5, y6, y7⟩ := g
  have c0 := hl 0 _ rfl
  simp only [Nat.add_zero] at c0
  have c1 := hl 1 _ rfl
  have c2 := hl 2 _ rfl
  have c3 := hl 3 _ rfl
  have c4 := hl 4 _ rfl
  have c5 := hl 5 _ rfl
  have c6 := hl 6 _ rfl
  have c7 := hl 7 _ rfl
  have c8 := hl 8 _ rfl
  clear hl hwf
  go_enter Tryd.func59, Tryd.ntmps59
  go_wp2_with fail
  refine (HO.out _ ?_).mono ?_
  · refine At.of (t := 44) ?_
    exact blkN_new w _
  rintro e w2 ⟨rfl, hb2⟩
  have hb3 := Lib.hid (((Below.refl _ w).alloc (Nat.le_refl _) _).trans (hb2.mono (by simp)))
  clear hb2
  go_wp2
  go_ret
  exact ⟨rfl, hb3.out⟩
theorem craneB_ff2 {f : CraneF} {l : List Chs} (h : craneB f l = false) : ¬ craneOk f l := fun h2 => by rw [craneB_t h2] at h; cases h
open Classical in
noncomputable def codeI (f : CraneF) (l : List Chs) (v : Spd) (g : LiftF) : Int := if v.ok ∧ craneOk f l ∧ plainOk g then (if canB f l g = true then 0 else 6) else 1
theorem plainB_ff {f : LiftF} (h : plainB f = false) : ¬ plainOk f := fun h2 => by rw [plainB_t h2] at h; cases h
theorem code_cases (f : CraneF) (l : List Chs) (v : Spd) (g : LiftF) :
    (codeI f l v g = 1 ∧ decide v.ok = false) ∨ (codeI f l v g = 1 ∧ decide v.ok = true ∧ craneB f l = false) ∨ (codeI f l v g = 1 ∧ decide v.ok = true ∧ craneB f l = true ∧ plainB g = false) ∨
    (codeI f l v g = 6 ∧ decide v.ok = true ∧ craneB f l = true ∧ plainB g = true ∧ canB f l g = false) ∨ (codeI f l v g = 0 ∧ decide v.ok = true ∧ craneB f l = true ∧ plainB g = true ∧ canB f l g = true) := by
  by_cases h1 : v.ok
  case neg => exact .inl ⟨by unfold codeI; rw [if_neg (fun h => h1 h.1)], decide_eq_false h1⟩
  cases h2 : craneB f l
  case false => exact .inr (.inl ⟨by unfold codeI; rw [if_neg (fun h => craneB_ff2 h2 h.2.1)], decide_eq_true h1, rfl⟩)
  cases h3 : plainB g
  case false => exact .inr (.inr (.inl ⟨by unfold codeI; rw [if_neg (fun h => plainB_ff h3 h.2.2)], decide_eq_true h1, rfl, rfl⟩))
  have hall : v.ok ∧ craneOk f l ∧ plainOk g := ⟨h1, craneB_iff.1 h2, plainB_iff.1 h3⟩
  cases h4 : canB f l g
  · exact .inr (.inr (.inr (.inl ⟨by unfold codeI; rw [if_pos hall, h4]; rfl, decide_eq_true h1, rfl, rfl, rfl⟩)))
  · exact .inr (.inr (.inr (.inr ⟨by unfold codeI; rw [if_pos hall, h4]; rfl, decide_eq_true h1, rfl, rfl, rfl⟩)))
set_option maxRecDepth 100000 in
set_option maxHeartbeats 4000000 in
theorem spec_Code09 (b o q o2 : Nat) (f : CraneF) (s : SV) (l : List Chs) (g : LiftF) (t : SV) (lo hi : Nat) (w : World) (hc : At w b o (craneC f s.v)) (hl : At w q o2 (liftC g t.v)) (h : Chss lo hi w s.v l) (hwf : f.name.size ≤ maxLen) (hwg : g.name.size ≤ maxLen) :
    Calls Tryd.prog 91 #[.pointer (some ⟨b, o, none⟩), .pointer (some ⟨q, o2, none⟩)] w fun e w' => e = .returned (.int .i64 (if craneB f l && plainB g then 0 else 1)) ∧ Below w.heap.size w w' := by
  have hC := spec_CraneOk b o f s.v l lo hi w hc h hwf
  have hP := fun w' (hb : Below w.heap.size w w') => spec_Plain q o2 g t w' (hl.ext hb (by simp [liftC])) hwg
  clear hc hl h hwf hwg
  cases h1 : craneB f l
  · rw [h1] at hC
    have HC := Lib.hid hC
    clear hC hP h1
    go_enter Tryd.func91, Tryd.ntmps91
    go_wp2_with fail
    refine HC.out.mono ?_
    rintro e w2 ⟨rfl, hb2⟩
    go_wp2
    go_ret
    exact ⟨rfl, hb2⟩
  · rw [h1] at hC
    cases h2 : plainB g
    all_goals
      rw [h2] at hP
      have HC := Lib.hid hC
      have HP := Lib.hid hP
      go_enter Tryd.func91, Tryd.ntmps91
      go_wp2_with fail
      refine HC.out.mono ?_
      rintro e w2 ⟨rfl, hb2⟩
      have HP2 := Lib.hid (HP.out _ hb2)
      clear hC hP h1 h2
      go_wp2_with (go_at_call 59; refine HP2.out.mono ?_; rintro e w3 ⟨rfl, hb3⟩)
      go_ret
      exact ⟨rfl, hb2.trans (hb3.mono hb2.size)⟩
set_option maxRecDepth 100000 in
set_option maxHeartbeats 4000000 in
theorem spec_Code10 (b o q o2 : Nat) (f : CraneF) (s : SV) (l : List Chs) (v : Spd) (g : LiftF) (t : SV) (lo hi : Nat) (w : World) (hc : At w b o (craneC f s.v)) (hl : At w q o2 (liftC g t.v)) (h : Chss lo hi w s.v l) (hwf : f.name.size ≤ maxLen) (hwg : g.name.size ≤ maxLen) :
    Calls Tryd.prog 41 #[.pointer (some ⟨b, o, none⟩), .agg v.cells.toArray, .pointer (some ⟨q, o2, none⟩)] w fun e w' => e = .returned (.int .i64 (codeI f l v g)) ∧ Below w.heap.size w w' := by
  have hS := fun w' => spec_SpdOk v w'
  have hK := fun w' (hb : Below w.heap.size w w') => spec_Code09 b o q o2 f s l g t lo hi w' (hc.ext hb (by simp [craneC])) (hl.ext hb (by simp [liftC])) (h.ext hb) hwf hwg
  have hN := fun (ho : craneOk f l) (hg : plainOk g) w' (hb : Below w.heap.size w w') => spec_CanLift b o q o2 f s.v l g t.v lo hi w' (hc.ext hb (by simp [craneC])) (hl.ext hb (by simp [liftC])) (h.ext hb) ho hg.2.2.1 hg.2.2.2.1 hg.2.2.2.2.1
  have HBA := Lib.hid (fun ob => (Below.refl w.heap.size w).alloc (Nat.le_refl _) ob)
  clear hc hl h hwf hwg
  rcases code_cases f l v g with ⟨hr, h1⟩ | ⟨hr, h1, h2⟩ | ⟨hr, h1, h2, h3⟩ | ⟨hr, h1, h2, h3, h4⟩ | ⟨hr, h1, h2, h3, h4⟩
  · rw [hr]
    rw [h1] at hS
    obtain ⟨v0, v1, v2, v3⟩ := v
    simp only [Spd.cells] at *
    have HS := Lib.hid hS
    clear hS hK hN hr h1
    go_enter Tryd.func41, Tryd.ntmps41
    go_wp2_with (go_at_call 57; refine (HS.out _).mono ?_; rintro e w2 ⟨rfl, hb2⟩)
    go_ret
    exact ⟨rfl, (HBA.out _).trans (hb2.mono (by simp))⟩
  · rw [hr]
    rw [h1] at hS
    rw [h2] at hK
    obtain ⟨v0, v1, v2, v3⟩ := v
    simp only [Spd.cells, Bool.false_and] at *
    have HS := Lib.hid hS
    have HK := Lib.hid hK
    clear hS hK hN hr h1 h2
    go_enter Tryd.func41, Tryd.ntmps41
    go_wp2_with (first | (go_at_call 57; refine (HS.out _).mono ?_; rintro e w2 ⟨rfl, hb2⟩; have B2 := (HBA.out _).trans (hb2.mono (by simp))) | (go_at_call 91; refine (HK.out _ B2).mono ?_; rintro e w3 ⟨rfl, hb3⟩))
    go_ret
    exact ⟨rfl, B2.trans (hb3.mono B2.size)⟩
  · rw [hr]
    rw [h1] at hS
    rw [h2, h3] at hK
    obtain ⟨v0, v1, v2, v3⟩ := v
    simp only [Spd.cells, Bool.and_false] at *
    have HS := Lib.hid hS
    have HK := Lib.hid hK
    clear hS hK hN hr h1 h2 h3
    go_enter Tryd.func41, Tryd.ntmps41
    go_wp2_with (first | (go_at_call 57; refine (HS.out _).mono ?_; rintro e w2 ⟨rfl, hb2⟩; have B2 := (HBA.out _).trans (hb2.mono (by simp))) | (go_at_call 91; refine (HK.out _ B2).mono ?_; rintro e w3 ⟨rfl, hb3⟩))
    go_ret
    exact ⟨rfl, B2.trans (hb3.mono B2.size)⟩
  all_goals
    rw [hr]
    have hN := hN (craneB_iff.1 h2) (plainB_iff.1 h3)
    rw [h4] at hN
    rw [h1] at hS
    rw [h2, h3] at hK
    obtain ⟨v0, v1, v2, v3⟩ := v
    simp only [Spd.cells, Bool.and_true] at *
    have HS := Lib.hid hS
    have HK := Lib.hid hK
    have HN := Lib.hid hN
    clear hS hK hN hr h1 h2 h3 h4
    go_enter Tryd.func41, Tryd.ntmps41
    go_wp2_with (first | (go_at_call 57; refine (HS.out _).mono ?_; rintro e w2 ⟨rfl, hb2⟩; have B2 := (HBA.out _).trans (hb2.mono (by simp))) | (go_at_call 91; refine (HK.out _ B2).mono ?_; rintro e w3 ⟨rfl, hb3⟩; have B3 := B2.trans (hb3.mono B2.size)) | (go_at_call 92; refine (HN.out _ B3).mono ?_; rintro e w4 ⟨rfl, hb4⟩; have B4 := B3.trans (hb4.mono B3.size)))
    go_ret
    exact ⟨rfl, B4⟩
end Go.Proofs.YtdadadiipmenbaaDoor
