/- Climbs: validity, in both packages. -/
import Derived.Test.YtgbohbjpdmgneaaTClimb
import Derived.Test.YtgbohbjpdmgneaaBasic
namespace Go.Proofs.Ytgbohbjpdmgneaa
open Go.RowKit
def Clb.ok (x : Clb) : Prop := (0 ≤ x.crane ∧ x.crane ≤ 5) ∧ x.sections ≠ 0 ∧ (-100 ≤ x.sections ∧ x.sections ≤ 100)
instance (x : Clb) : Decidable x.ok := by unfold Clb.ok; infer_instance
def clOk (l : List Clb) : Prop := (∀ i (h : i < l.length), l[i].ok) ∧ l.length ≤ 60
open Classical in
noncomputable def clB (l : List Clb) : Bool := decide (clOk l)
theorem clB_t {l : List Clb} (h : clOk l) : clB l = true := by classical exact decide_eq_true h
theorem clB_f {l : List Clb} (h : ¬ clOk l) : clB l = false := by classical exact decide_eq_false h
theorem clB_iff {l : List Clb} : clB l = true ↔ clOk l := ⟨fun h => by classical exact of_decide_eq_true h, clB_t⟩
theorem Clb.cases (x : Clb) : (x.ok ∧ (0 ≤ x.crane ∧ x.crane ≤ 5) ∧ (x.sections != 0) = true ∧ (-100 ≤ x.sections ∧ x.sections ≤ 100)) ∨ (¬ x.ok ∧ ¬ (0 ≤ x.crane ∧ x.crane ≤ 5)) ∨
    (¬ x.ok ∧ (0 ≤ x.crane ∧ x.crane ≤ 5) ∧ ¬ (-100 ≤ x.sections ∧ x.sections ≤ 100) ∧ (x.sections != 0) = true) ∨ (¬ x.ok ∧ (0 ≤ x.crane ∧ x.crane ≤ 5) ∧ (-100 ≤ x.sections ∧ x.sections ≤ 100) ∧ (x.sections != 0) = false) := by
  unfold Clb.ok
  simp only [bne_iff_ne, ne_eq, bne_eq_false_iff_eq]
  omega
theorem ok_step {l : List Clb} {k : Nat} (hlt : k < l.length) (h : ∀ i (h : i < l.length), i < k → l[i].ok) (hk : l[k].ok) : ∀ i (h : i < l.length), i < k + 1 → l[i].ok := by
  intro i hi hik
  by_cases e : i < k
  · exact h i hi e
  · have : i = k := by omega
    subst this; exact hk
set_option maxHeartbeats 2000000 in
theorem spec_ClimbOne (b o : Nat) (x : Clb) (w : World) (c0 : w.cell? ⟨b, o, none⟩ = some (.int .i64 x.crane)) (c1 : w.cell? ⟨b, o + 1, none⟩ = some (.int .i64 x.sections)) :
    Calls Try.prog 184 #[.pointer (some ⟨b, o, none⟩)] w fun e w' => e = .returned (.bool (decide x.ok)) ∧ w = w' := by
  have hcs := x.cases
  obtain ⟨a, s⟩ := x
  dsimp only at *
  rcases hcs with ⟨hok, ⟨_, _⟩, hz, ⟨_, _⟩⟩ | ⟨hok, _⟩ | ⟨hok, ⟨_, _⟩, _, hz⟩ | ⟨hok, ⟨_, _⟩, ⟨_, _⟩, hz⟩
  · rw [decide_eq_true hok]
    clear hok
    go_enter Try.func184, Try.ntmps184
    go_wp2_with (go_at_call 140; first | (refine (spec_In_t _ _ _ _ (by omega) (by omega)).mono ?_; rintro e w' ⟨rfl, rfl⟩) | (refine (spec_In_f _ _ _ _ (by omega)).mono ?_; rintro e w' ⟨rfl, rfl⟩))
    go_ret
    exact ⟨rfl, rfl⟩
  all_goals
    rw [decide_eq_false hok]
    clear hok
    go_enter Try.func184, Try.ntmps184
    go_wp2_with (go_at_call 140; first | (refine (spec_In_t _ _ _ _ (by omega) (by omega)).mono ?_; rintro e w' ⟨rfl, rfl⟩) | (refine (spec_In_f _ _ _ _ (by omega)).mono ?_; rintro e w' ⟨rfl, rfl⟩))
    go_ret
    exact ⟨rfl, rfl⟩
set_option maxHeartbeats 2000000 in
theorem impl_ClimbOne (x : Clb) (w : World) :
    Calls Try.prog 172 #[.agg x.cells.toArray] w fun e w' => e = .returned (.bool (decide x.ok)) ∧ Below w.heap.size w w' := by
  have hcs := x.cases
  obtain ⟨a, s⟩ := x
  simp only [Clb.cells] at *
  have hb : Below w.heap.size w (w.alloc (.cells #[.int .i64 a, .int .i64 s] 163)) := (Below.refl _ _).alloc (Nat.le_refl _) _
  rcases hcs with ⟨hok, ⟨_, _⟩, hz, ⟨_, _⟩⟩ | ⟨hok, _⟩ | ⟨hok, ⟨_, _⟩, _, hz⟩ | ⟨hok, ⟨_, _⟩, ⟨_, _⟩, hz⟩
  · rw [decide_eq_true hok]
    clear hok
    go_enter Try.func172, Try.ntmps172
    go_wp2_with (go_at_call 125; first | (refine (impl_within_t _ _ _ _ (by omega) (by omega)).mono ?_; rintro e w' ⟨rfl, rfl⟩) | (refine (impl_within_f _ _ _ _ (by omega)).mono ?_; rintro e w' ⟨rfl, rfl⟩))
    go_ret
    exact ⟨rfl, hb⟩
  all_goals
    rw [decide_eq_false hok]
    clear hok
    go_enter Try.func172, Try.ntmps172
    go_wp2_with (go_at_call 125; first | (refine (impl_within_t _ _ _ _ (by omega) (by omega)).mono ?_; rintro e w' ⟨rfl, rfl⟩) | (refine (impl_within_f _ _ _ _ (by omega)).mono ?_; rintro e w' ⟨rfl, rfl⟩))
    go_ret
    exact ⟨rfl, hb⟩
set_option maxHeartbeats 2000000 in
theorem spec_ClimbsOk (v : Value) (l : List Clb) (lo hi : Nat) (w : World) (h : Clbs lo hi w v l) :
    Calls Try.prog 167 #[v] w fun e w' => e = .returned (.bool (clB l)) ∧ w = w' := by
  have hsl := h
  obtain ⟨a, cap, rfl, hlen, hh⟩ := h
  clear hh
  go_enter Try.func167, Try.ntmps167
  go_wp2
  go_loop [3] (fun i => ∃ k : Nat, k ≤ l.length ∧ i = .int .i64 k ∧ Hid (∀ i (h : i < l.length), i < k → l[i].ok)) (fun i => l.length - (intOf i).toNat)
  case atStart => exact ⟨0, Nat.zero_le _, rfl, Lib.hid (fun _ _ h => absurd h (by omega))⟩
  case round =>
    obtain ⟨k, hk, rfl, hall⟩ := hrel
    by_cases hlt : k < l.length
    · obtain ⟨b, off, rfl⟩ := hsl.addr (by omega)
      obtain ⟨c0, c1⟩ := Clbs.at hsl.get hlt
      have hone := spec_ClimbOne b (off + k * 2) l[k] w c0 c1
      by_cases hok : l[k].ok
      · rw [decide_eq_true hok] at hone
        have hone := Lib.hid hone
        have Hst := Lib.hid (ok_step hlt hall.out hok)
        clear hok c0 c1 hsl
        go_wp2_with fail
        refine hone.out.mono ?_
        rintro e w1 ⟨rfl, rfl⟩
        go_wp2
        go_round
        case rel => exact ⟨k + 1, by omega, by go_num, Hst⟩
        case measure => simp [intOf]; omega
      · rw [decide_eq_false hok] at hone
        have hone := Lib.hid hone
        have Hd := Lib.hid (clB_f (l := l) (fun h => hok (h.1 k hlt)))
        clear hok c0 c1 hsl
        go_wp2_with fail
        refine hone.out.mono ?_
        rintro e w1 ⟨rfl, rfl⟩
        go_wp2
        go_ret
        rw [Hd.out]; exact ⟨rfl, rfl⟩
    · by_cases hr : l.length ≤ 60
      · have Hd := Lib.hid (clB_t (l := l) ⟨fun i h => hall.out i h (by omega), hr⟩)
        go_wp2
        go_ret
        rw [Hd.out]; exact ⟨ret_bool (by first | exact decide_eq_true (by omega) | rfl), rfl⟩
      · have Hd := Lib.hid (clB_f (l := l) (fun h => hr h.2))
        go_wp2
        go_ret
        rw [Hd.out]; exact ⟨ret_bool (by first | exact decide_eq_false (by omega) | rfl), rfl⟩
set_option maxHeartbeats 2000000 in
theorem impl_ClimbNot (x : Clb) (w : World) : Calls Try.prog 171 #[.agg x.cells.toArray] w fun e w' => e = .returned (.bool (!decide x.ok)) ∧ Below w.heap.size w w' := by
  have h := fun w => impl_ClimbOne x w
  obtain ⟨a, s⟩ := x
  simp only [Clb.cells] at *
  have H := Lib.hid h
  have hb : Below w.heap.size w (w.alloc (.cells #[.int .i64 a, .int .i64 s] 163)) := (Below.refl _ _).alloc (Nat.le_refl _) _
  clear h
  go_enter Try.func171, Try.ntmps171
  go_wp2_with fail
  refine (H.out _).mono ?_
  rintro e w1 ⟨rfl, hb1⟩
  go_wp2
  go_ret
  exact ⟨rfl, hb.trans (hb1.mono hb.size)⟩
def allOk (l : List Clb) : Prop := ∀ i (h : i < l.length), l[i].ok
set_option maxHeartbeats 2000000 in
theorem impl_ClimbIndex (v : Value) (l : List Clb) (lo hi : Nat) (w : World) (h : Clbs lo hi w v l) :
    Calls Try.prog 185 #[v, .func (.func 171) #[] #[]] w fun e w' => (∃ r : Int, e = .returned (.int .i64 r) ∧ ((allOk l ∧ decide (0 ≤ r) = false) ∨ (¬ allOk l ∧ decide (0 ≤ r) = true))) ∧ Below w.heap.size w w' := by
  have Hs := Lib.hid h
  obtain ⟨a, cap, rfl, hlen, hh⟩ := h
  clear hh
  go_enter Try.func185, Try.ntmps185
  go_wp2
  go_loopw [8] (fun i wr => ∃ k : Nat, k ≤ l.length ∧ i = .int .i64 k ∧ Hid (∀ i (h : i < l.length), i < k → l[i].ok) ∧ Below w.heap.size w wr) (fun i _ => l.length - (intOf i).toNat)
  case atStart => exact ⟨0, Nat.zero_le _, rfl, Lib.hid (fun _ _ h => absurd h (by omega)), Below.refl _ _⟩
  case round =>
    obtain ⟨k, hk, rfl, hall, hB⟩ := hrel
    by_cases hlt : k < l.length
    · have hsl := Hs.out.ext hB
      obtain ⟨b, off, rfl⟩ := hsl.addr (by omega)
      obtain ⟨c0, c1⟩ := Clbs.at hsl.get hlt
      have hcall := fun w' => impl_ClimbNot l[k] w'
      have Hst := Lib.hid (fun h => ok_step hlt hall.out h)
      have Hno := Lib.hid (fun (h : ¬ l[k].ok) (h2 : allOk l) => h (h2 k hlt))
      clear hsl
      generalize l[k] = x at *
      obtain ⟨x0, x1⟩ := x
      simp only [Clb.cells] at *
      by_cases hok : (⟨x0, x1⟩ : Clb).ok
      · have hst := Lib.hid (Hst.out hok)
        rw [decide_eq_true hok] at hcall
        have Hcall := Lib.hid hcall
        clear hcall hok
        go_wp2_with fail
        refine (Hcall.out _).mono ?_
        rintro e w1 ⟨rfl, hb1⟩
        go_wp2
        go_roundw
        case rel => exact ⟨k + 1, by omega, by go_num, hst, hB.trans (hb1.mono hB.size)⟩
        case measure => simp [intOf]; omega
      · have hno := Lib.hid (Hno.out hok)
        rw [decide_eq_false hok] at hcall
        have Hcall := Lib.hid hcall
        clear hcall hok
        go_wp2_with fail
        refine (Hcall.out _).mono ?_
        rintro e w1 ⟨rfl, hb1⟩
        go_wp2
        go_ret
        exact ⟨⟨_, rfl, .inr ⟨hno.out, decide_eq_true (Int.natCast_nonneg _)⟩⟩, hB.trans (hb1.mono hB.size)⟩
    · have h4 : Hid (allOk l) := Lib.hid (fun i h => hall.out i h (by omega))
      go_wp2
      go_ret
      exact ⟨⟨_, rfl, .inl ⟨h4.out, rfl⟩⟩, hB⟩
set_option maxHeartbeats 2000000 in
theorem impl_ClimbsOk (v : Value) (l : List Clb) (lo hi : Nat) (w : World) (h : Clbs lo hi w v l) :
    Calls Try.prog 124 #[v] w fun e w' => e = .returned (.bool (clB l)) ∧ Below w.heap.size w w' := by
  have hI := impl_ClimbIndex v l lo hi
  have hI := Lib.hid (fun w' (hb : Below w.heap.size w w') => hI w' (h.ext hb))
  obtain ⟨a, cap, rfl, hlen, -⟩ := h
  have hcont : Hid (Calls Try.prog 170 #[.slice a l.length cap, .func (.func 171) #[] #[]] w fun e w' => ((allOk l ∧ e = .returned (.bool false)) ∨ (¬ allOk l ∧ e = .returned (.bool true))) ∧ Below w.heap.size w w') := Lib.hid (by
    go_enter Try.func170, Try.ntmps170
    go_wp2_with fail
    refine (hI.out _ (Below.refl _ _)).mono ?_
    rintro e w2 ⟨⟨r, rfl, hr⟩, hb2⟩
    rcases hr with ⟨h1, h2⟩ | ⟨h1, h2⟩
    · have H1 := Lib.hid h1
      clear h1
      go_wp2
      go_ret
      exact ⟨.inl ⟨H1.out, rfl⟩, hb2⟩
    · have H1 := Lib.hid h1
      clear h1
      go_wp2
      go_ret
      exact ⟨.inr ⟨H1.out, rfl⟩, hb2⟩)
  by_cases hn : l.length ≤ 60
  · have hq : decide ((l.length : Int) ≤ 60) = true := decide_eq_true (by omega)
    have Hn := Lib.hid hn
    clear hn
    go_enter Try.func124, Try.ntmps124
    go_wp2_with fail
    refine hcont.out.mono ?_
    rintro e w2 ⟨⟨h1, rfl⟩ | ⟨h1, rfl⟩, hb2⟩
    · have Hd := Lib.hid (clB_t (l := l) ⟨h1, Hn.out⟩)
      clear h1
      go_wp2
      go_ret
      rw [Hd.out]; exact ⟨rfl, hb2⟩
    · have Hd := Lib.hid (clB_f (l := l) (fun h => h1 h.1))
      clear h1
      go_wp2
      go_ret
      rw [Hd.out]; exact ⟨rfl, hb2⟩
  · have hq : decide ((l.length : Int) ≤ 60) = false := decide_eq_false (by omega)
    have Hd := Lib.hid (clB_f (l := l) (fun h => hn h.2))
    go_enter Try.func124, Try.ntmps124
    go_wp2
    go_ret
    rw [Hd.out]; exact ⟨rfl, Below.refl _ _⟩
end Go.Proofs.Ytgbohbjpdmgneaa
