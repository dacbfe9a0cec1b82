/- Charts: validity, in both packages. -/
import Derived.Test.YtpabbehpkokhbaaDoorTChartStep
import Derived.Test.YtpabbehpkokhbaaDoorBasic
namespace Go.Proofs.YtpabbehpkokhbaaDoor
open Go.RowKit
def Chs.ok (x : Chs) : Prop := (1 ≤ x.radius ∧ x.radius ≤ 1000) ∧ (0 ≤ x.load ∧ x.load ≤ 50000)
def chsRow (l : List Chs) (i : Nat) (h : i < l.length) : Prop := l[i].ok ∧ ∀ _ : 0 < i, l[i-1].radius < l[i].radius ∧ l[i].load ≤ l[i-1].load
def chartOk (l : List Chs) : Prop := (∀ i (h : i < l.length), chsRow l i h) ∧ 1 ≤ l.length ∧ l.length ≤ 20
open Classical in
noncomputable def chartB (l : List Chs) : Bool := decide (chartOk l)
theorem chartB_t {l : List Chs} (h : chartOk l) : chartB l = true := by classical exact decide_eq_true h
theorem chartB_f {l : List Chs} (h : ¬ chartOk l) : chartB l = false := by classical exact decide_eq_false h
theorem chartB_iff {l : List Chs} : chartB l = true ↔ chartOk l := ⟨fun h => by classical exact of_decide_eq_true h, chartB_t⟩

/-- The ways of one step of a chart: x behind p (where k is not 0). -/
theorem chs_cases (x p : Chs) (k : Nat) (P : Prop) (hP : P ↔ (x.ok ∧ ∀ _ : 0 < k, p.radius < x.radius ∧ x.load ≤ p.load)) :
    (P ∧ (1 ≤ x.radius ∧ x.radius ≤ 1000) ∧ (0 ≤ x.load ∧ x.load ≤ 50000) ∧ k = 0) ∨
    (P ∧ (1 ≤ x.radius ∧ x.radius ≤ 1000) ∧ (0 ≤ x.load ∧ x.load ≤ 50000) ∧ 0 < k ∧ p.radius < x.radius ∧ x.load ≤ p.load) ∨
    (¬ P ∧ ¬ (1 ≤ x.radius ∧ x.radius ≤ 1000)) ∨
    (¬ P ∧ (1 ≤ x.radius ∧ x.radius ≤ 1000) ∧ ¬ (0 ≤ x.load ∧ x.load ≤ 50000)) ∨
    (¬ P ∧ (1 ≤ x.radius ∧ x.radius ≤ 1000) ∧ (0 ≤ x.load ∧ x.load ≤ 50000) ∧ 0 < k ∧ x.radius ≤ p.radius) ∨
    (¬ P ∧ (1 ≤ x.radius ∧ x.radius ≤ 1000) ∧ (0 ≤ x.load ∧ x.load ≤ 50000) ∧ 0 < k ∧ p.radius < x.radius ∧ p.load < x.load) := by
  by_cases hk : 0 < k
  · have h2 : P ↔ (((1 ≤ x.radius ∧ x.radius ≤ 1000) ∧ (0 ≤ x.load ∧ x.load ≤ 50000)) ∧ p.radius < x.radius ∧ x.load ≤ p.load) := by
      rw [hP]; exact ⟨fun h => ⟨h.1, h.2 hk⟩, fun h => ⟨h.1, fun _ => h.2⟩⟩
    simp only [h2]
    omega
  · have h2 : P ↔ ((1 ≤ x.radius ∧ x.radius ≤ 1000) ∧ (0 ≤ x.load ∧ x.load ≤ 50000)) := by
      rw [hP]; exact ⟨fun h => h.1, fun h => ⟨h, fun h0 => absurd h0 hk⟩⟩
    simp only [h2]
    omega

theorem chs_step {l : List Chs} {k : Nat} (hlt : k < l.length) (h : ∀ i (h : i < l.length), i < k → chsRow l i h) (hk : chsRow l k hlt) : ∀ i (h : i < l.length), i < k + 1 → chsRow l i h := by
  intro i hi hik
  by_cases e : i < k
  · exact h i hi e
  · have : i = k := by omega
    subst this; exact hk
set_option maxRecDepth 100000 in
set_option maxHeartbeats 4000000 in
theorem spec_Chart (v : Value) (l : List Chs) (lo hi : Nat) (w : World) (h : Chss lo hi w v l) :
    Calls Tryd.prog 77 #[v] w fun e w' => e = .returned (.bool (chartB l)) ∧ ∃ nq, w' = w.drewN nq := by
  have hsl := h
  obtain ⟨a, cap, rfl, hlen, hh⟩ := h
  clear hh
  go_enter Tryd.func77, Tryd.ntmps77
  go_wp2
  go_loopw [3] (fun i wr => ∃ k : Nat, k ≤ l.length ∧ i = .int .i64 k ∧ Hid (∃ nq, wr = w.drewN nq) ∧ Hid (∀ i (h : i < l.length), i < k → chsRow l i h)) (fun i _ => l.length - (intOf i).toNat)
  case atStart => exact ⟨0, Nat.zero_le _, rfl, Lib.hid ⟨0, rfl⟩, Lib.hid (fun _ _ h => absurd h (by omega))⟩
  case round =>
    obtain ⟨k, hk, rfl, hD, hall⟩ := hrel
    have hB : Below w.heap.size w wr := (by obtain ⟨nq, h⟩ := hD.out; rw [h]; exact below_dN (Below.refl _ _) nq)
    by_cases hlt : k < l.length
    · obtain ⟨b, off, rfl⟩ := hsl.addr (by omega)
      have hg := (hsl.ext hB).get
      obtain ⟨c0, c1⟩ := Chss.at hg hlt
      have hlt1 : k - 1 < l.length := by omega
      obtain ⟨d0, d1⟩ := Chss.at hg hlt1
      clear hg hsl
      have hbw := World.block_lt_of_cell? wr _ c0
      have hBs := hB.size
      have Hg := Lib.hid (chs_step hlt hall.out)
      have Hb := Lib.hid (fun (hn : ¬ chsRow l k hlt) => chartB_f (l := l) (fun h => hn (h.1 k hlt)))
      have hcs := Lib.hid (chs_cases l[k] l[k-1] k (chsRow l k hlt) Iff.rfl)
      generalize chsRow l k hlt = P at *
      generalize l[k] = x at *
      generalize l[k-1] = p at *
      rcases hcs.out with ⟨hok, ⟨_, _⟩, ⟨_, _⟩, hk0⟩ | ⟨hok, ⟨_, _⟩, ⟨_, _⟩, hk0, hp1, hp2⟩ | ⟨hok, _⟩ | ⟨hok, ⟨_, _⟩, _⟩ | ⟨hok, ⟨_, _⟩, ⟨_, _⟩, hk0, hp1⟩ | ⟨hok, ⟨_, _⟩, ⟨_, _⟩, hk0, hp1, hp2⟩
      · have Hd := Lib.hid (Hg.out hok)
        clear hok
        subst hk0
        clear d0 d1
        simp only [Nat.zero_mul, Nat.add_zero] at c0 c1
        go_wp2_with (first | (go_at_call 58; first | (refine (spec_In_t _ _ _ _ (by omega) (by omega)).mono ?_; rintro e w' ⟨rfl, rfl⟩) | (refine (spec_In_f _ _ _ _ (by omega)).mono ?_; rintro e w' ⟨rfl, rfl⟩)) | go_quiet (fail))
        go_roundw
        case rel => exact ⟨1, by omega, by go_num, (by obtain ⟨nq, h⟩ := hD.out; first | exact Lib.hid ⟨nq, h⟩ | exact ⟨nq, h⟩ | exact Lib.hid ⟨_, by rw [h, World.drewN_drewN]⟩ | exact ⟨_, by rw [h, World.drewN_drewN]⟩), Hd⟩
        case measure => simp [intOf]; omega
      · have Hd := Lib.hid (Hg.out hok)
        clear hok
        have hki : (0 : Int) < (k : Int) := by omega
        have hki2 : (1 : Int) ≤ (k : Int) := by omega
        have hkl : ((k : Int) - 1) < (l.length : Int) := by omega
        have hkm : ((k : Int) - 1).toNat = k - 1 := by omega
        have hkn : (0 : Int) ≤ (k : Int) - 1 := by omega
        have hkw : IntKind.i64.wrap ((k : Int) - 1) = (k : Int) - 1 := IntWalk.i64_in _ (by omega)
        go_wp2_with (first | (go_at_call 58; first | (refine (spec_In_t _ _ _ _ (by omega) (by omega)).mono ?_; rintro e w' ⟨rfl, rfl⟩) | (refine (spec_In_f _ _ _ _ (by omega)).mono ?_; rintro e w' ⟨rfl, rfl⟩)) | go_quiet (fail))
        go_roundw
        case rel => exact ⟨k + 1, by omega, by go_num, (by obtain ⟨nq, h⟩ := hD.out; first | exact Lib.hid ⟨nq, h⟩ | exact ⟨nq, h⟩ | exact Lib.hid ⟨_, by rw [h, World.drewN_drewN]⟩ | exact ⟨_, by rw [h, World.drewN_drewN]⟩), Hd⟩
        case measure => simp [intOf]; omega
      all_goals
        have Hd := Lib.hid (Hb.out hok)
        clear hok
        try
          have hki : (0 : Int) < (k : Int) := by omega
          have hki2 : (1 : Int) ≤ (k : Int) := by omega
          have hkl : ((k : Int) - 1) < (l.length : Int) := by omega
          have hkm : ((k : Int) - 1).toNat = k - 1 := by omega
          have hkn : (0 : Int) ≤ (k : Int) - 1 := by omega
          have hkw : IntKind.i64.wrap ((k : Int) - 1) = (k : Int) - 1 := IntWalk.i64_in _ (by omega)
        go_wp2_with (first | (go_at_call 58; first | (refine (spec_In_t _ _ _ _ (by omega) (by omega)).mono ?_; rintro e w' ⟨rfl, rfl⟩) | (refine (spec_In_f _ _ _ _ (by omega)).mono ?_; rintro e w' ⟨rfl, rfl⟩)) | go_quiet (fail))
        go_ret
        rw [Hd.out]; exact ⟨rfl, (by obtain ⟨nq, h⟩ := hD.out; first | exact Lib.hid ⟨nq, h⟩ | exact ⟨nq, h⟩ | exact Lib.hid ⟨_, by rw [h, World.drewN_drewN]⟩ | exact ⟨_, by rw [h, World.drewN_drewN]⟩)⟩
    · have hkk : k = l.length := by omega
      subst hkk
      by_cases hr : 1 ≤ l.length ∧ l.length ≤ 20
      · have Hd := Lib.hid (chartB_t ⟨fun i h => hall.out i h h, hr.1, hr.2⟩)
        obtain ⟨hr1, hr2⟩ := hr
        go_wp2_with (go_at_call 58; first | (refine (spec_In_t _ _ _ _ (by omega) (by omega)).mono ?_; rintro e w' ⟨rfl, rfl⟩) | (refine (spec_In_f _ _ _ _ (by omega)).mono ?_; rintro e w' ⟨rfl, rfl⟩))
        go_ret
        rw [Hd.out]; exact ⟨ret_bool (by first | exact decide_eq_true (by omega) | exact decide_eq_false (by omega) | rfl), (by obtain ⟨nq, h⟩ := hD.out; first | exact Lib.hid ⟨nq, h⟩ | exact ⟨nq, h⟩ | exact Lib.hid ⟨_, by rw [h, World.drewN_drewN]⟩ | exact ⟨_, by rw [h, World.drewN_drewN]⟩)⟩
      · have Hd := Lib.hid (chartB_f (l := l) (fun h => hr ⟨h.2.1, h.2.2⟩))
        have hr2 : l.length < 1 ∨ 20 < l.length := by omega
        clear hr
        rcases hr2 with hr2 | hr2
        · go_wp2_with (go_at_call 58; first | (refine (spec_In_t _ _ _ _ (by omega) (by omega)).mono ?_; rintro e w' ⟨rfl, rfl⟩) | (refine (spec_In_f _ _ _ _ (by omega)).mono ?_; rintro e w' ⟨rfl, rfl⟩))
          go_ret
          rw [Hd.out]; exact ⟨ret_bool (by first | exact decide_eq_true (by omega) | exact decide_eq_false (by omega) | rfl), (by obtain ⟨nq, h⟩ := hD.out; first | exact Lib.hid ⟨nq, h⟩ | exact ⟨nq, h⟩ | exact Lib.hid ⟨_, by rw [h, World.drewN_drewN]⟩ | exact ⟨_, by rw [h, World.drewN_drewN]⟩)⟩
        · go_wp2_with (go_at_call 58; first | (refine (spec_In_t _ _ _ _ (by omega) (by omega)).mono ?_; rintro e w' ⟨rfl, rfl⟩) | (refine (spec_In_f _ _ _ _ (by omega)).mono ?_; rintro e w' ⟨rfl, rfl⟩))
          go_ret
          rw [Hd.out]; exact ⟨ret_bool (by first | exact decide_eq_true (by omega) | exact decide_eq_false (by omega) | rfl), (by obtain ⟨nq, h⟩ := hD.out; first | exact Lib.hid ⟨nq, h⟩ | exact ⟨nq, h⟩ | exact Lib.hid ⟨_, by rw [h, World.drewN_drewN]⟩ | exact ⟨_, by rw [h, World.drewN_drewN]⟩)⟩
set_option maxRecDepth 100000 in
set_option maxHeartbeats 4000000 in
theorem impl_Chart (v : Value) (l : List Chs) (lo hi : Nat) (w : World) (h : Chss lo hi w v l) :
    Calls Tryd.prog 69 #[v] w fun e w' => e = .returned (.bool (chartB l)) ∧ Below w.heap.size w w' := by
  have hsl := h
  obtain ⟨a, cap, rfl, hlen, hh⟩ := h
  clear hh
  go_enter Tryd.func69, Tryd.ntmps69
  go_wp2
  go_loopw [7] (fun i wr => ∃ k : Nat, k ≤ l.length ∧ i = .int .i64 k ∧ Below w.heap.size w wr ∧ Hid (∀ i (h : i < l.length), i < k → chsRow l i h)) (fun i _ => l.length - (intOf i).toNat)
  case atStart => exact ⟨0, Nat.zero_le _, rfl, Below.refl _ _, Lib.hid (fun _ _ h => absurd h (by omega))⟩
  case round =>
    obtain ⟨k, hk, rfl, hB', hall⟩ := hrel
    have hB : Below w.heap.size w wr := hB'
    by_cases hlt : k < l.length
    · obtain ⟨b, off, rfl⟩ := hsl.addr (by omega)
      have hg := (hsl.ext hB).get
      obtain ⟨c0, c1⟩ := Chss.at hg hlt
      have hlt1 : k - 1 < l.length := by omega
      obtain ⟨d0, d1⟩ := Chss.at hg hlt1
      clear hg hsl
      have hbw := World.block_lt_of_cell? wr _ c0
      have hBs := hB.size
      have Hg := Lib.hid (chs_step hlt hall.out)
      have Hb := Lib.hid (fun (hn : ¬ chsRow l k hlt) => chartB_f (l := l) (fun h => hn (h.1 k hlt)))
      have hcs := Lib.hid (chs_cases l[k] l[k-1] k (chsRow l k hlt) Iff.rfl)
      generalize chsRow l k hlt = P at *
      generalize l[k] = x at *
      generalize l[k-1] = p at *
      rcases hcs.out with ⟨hok, ⟨_, _⟩, ⟨_, _⟩, hk0⟩ | ⟨hok, ⟨_, _⟩, ⟨_, _⟩, hk0, hp1, hp2⟩ | ⟨hok, _⟩ | ⟨hok, ⟨_, _⟩, _⟩ | ⟨hok, ⟨_, _⟩, ⟨_, _⟩, hk0, hp1⟩ | ⟨hok, ⟨_, _⟩, ⟨_, _⟩, hk0, hp1, hp2⟩
      · have Hd := Lib.hid (Hg.out hok)
        clear hok
        subst hk0
        clear d0 d1
        simp only [Nat.zero_mul, Nat.add_zero] at c0 c1
        go_wp2_with (first | (go_at_call 28; first | (refine (impl_within_t _ _ _ _ (by omega) (by omega)).mono ?_; rintro e w' ⟨rfl, rfl⟩) | (refine (impl_within_f _ _ _ _ (by omega)).mono ?_; rintro e w' ⟨rfl, rfl⟩)) | go_quiet (fail))
        go_roundw
        case rel => exact ⟨1, by omega, by go_num, (by first | exact hB.alloc hBs _ | exact below_dN (hB.alloc hBs _) _ | exact hB), Hd⟩
        case measure => simp [intOf]; omega
      · have Hd := Lib.hid (Hg.out hok)
        clear hok
        have hki : (0 : Int) < (k : Int) := by omega
        have hki2 : (1 : Int) ≤ (k : Int) := by omega
        have hkl : ((k : Int) - 1) < (l.length : Int) := by omega
        have hkm : ((k : Int) - 1).toNat = k - 1 := by omega
        have hkn : (0 : Int) ≤ (k : Int) - 1 := by omega
        have hkw : IntKind.i64.wrap ((k : Int) - 1) = (k : Int) - 1 := IntWalk.i64_in _ (by omega)
        go_wp2_with (first | (go_at_call 28; first | (refine (impl_within_t _ _ _ _ (by omega) (by omega)).mono ?_; rintro e w' ⟨rfl, rfl⟩) | (refine (impl_within_f _ _ _ _ (by omega)).mono ?_; rintro e w' ⟨rfl, rfl⟩)) | go_quiet (fail))
        go_roundw
        case rel => exact ⟨k + 1, by omega, by go_num, (by first | exact hB.alloc hBs _ | exact below_dN (hB.alloc hBs _) _ | exact hB), Hd⟩
        case measure => simp [intOf]; omega
      all_goals
        have Hd := Lib.hid (Hb.out hok)
        clear hok
        try
          have hki : (0 : Int) < (k : Int) := by omega
          have hki2 : (1 : Int) ≤ (k : Int) := by omega
          have hkl : ((k : Int) - 1) < (l.length : Int) := by omega
          have hkm : ((k : Int) - 1).toNat = k - 1 := by omega
          have hkn : (0 : Int) ≤ (k : Int) - 1 := by omega
          have hkw : IntKind.i64.wrap ((k : Int) - 1) = (k : Int) - 1 := IntWalk.i64_in _ (by omega)
        go_wp2_with (first | (go_at_call 28; first | (refine (impl_within_t _ _ _ _ (by omega) (by omega)).mono ?_; rintro e w' ⟨rfl, rfl⟩) | (refine (impl_within_f _ _ _ _ (by omega)).mono ?_; rintro e w' ⟨rfl, rfl⟩)) | go_quiet (fail))
        go_ret
        rw [Hd.out]; exact ⟨rfl, (by first | exact hB.alloc hBs _ | exact below_dN (hB.alloc hBs _) _ | exact hB)⟩
    · have hkk : k = l.length := by omega
      subst hkk
      by_cases hr : 1 ≤ l.length ∧ l.length ≤ 20
      · have Hd := Lib.hid (chartB_t ⟨fun i h => hall.out i h h, hr.1, hr.2⟩)
        obtain ⟨hr1, hr2⟩ := hr
        go_wp2
        go_ret
        rw [Hd.out]; exact ⟨ret_bool (by first | exact decide_eq_true (by omega) | exact decide_eq_false (by omega) | rfl), (by first | exact hB.alloc hBs _ | exact below_dN (hB.alloc hBs _) _ | exact hB)⟩
      · have Hd := Lib.hid (chartB_f (l := l) (fun h => hr ⟨h.2.1, h.2.2⟩))
        have hr2 : l.length < 1 ∨ 20 < l.length := by omega
        clear hr
        rcases hr2 with hr2 | hr2
        · go_wp2
          go_ret
          rw [Hd.out]; exact ⟨ret_bool (by first | exact decide_eq_true (by omega) | exact decide_eq_false (by omega) | rfl), (by first | exact hB.alloc hBs _ | exact below_dN (hB.alloc hBs _) _ | exact hB)⟩
        · go_wp2
          go_ret
          rw [Hd.out]; exact ⟨ret_bool (by first | exact decide_eq_true (by omega) | exact decide_eq_false (by omega) | rfl), (by first | exact hB.alloc hBs _ | exact below_dN (hB.alloc hBs _) _ | exact hB)⟩
theorem spec_Last (v : Value) (l : List Chs) (lo hi : Nat) (w : World) (h : Chss lo hi w v l) (h0 : 0 < l.length) :
    Calls Tryd.prog 78 #[v] w fun e w' => e = .returned (.int .i64 (l[l.length - 1].radius)) ∧ w = w' := by
  obtain ⟨b, off, ha⟩ : ∃ b off, ∃ cap, v = .slice (some ⟨b, off, none⟩) l.length cap ∧ l.length ≤ 9223372036854775807 := by
    have h' := h
    obtain ⟨a, cap, rfl, hcap, hh⟩ := h
    obtain ⟨b, off, rfl⟩ := Sl.addr h' h0
    exact ⟨b, off, cap, rfl, by omega⟩
  obtain ⟨cap, rfl, hcap⟩ := ha
  obtain ⟨c0, c1⟩ := Chss.at h.get (show l.length - 1 < l.length by omega)
  clear h
  generalize l[l.length - 1] = x at *
  generalize l.length = k at *
  have hkm : ((k : Int) - 1).toNat = k - 1 := by omega
  have hkn : (0 : Int) ≤ (k : Int) - 1 := by omega
  have hk1 : (1 : Int) ≤ (k : Int) := by omega
  have hkw : IntKind.i64.wrap ((k : Int) - 1) = (k : Int) - 1 := IntWalk.i64_in _ (by omega)
  go_enter Tryd.func78, Tryd.ntmps78
  go_wp2
  go_ret
  exact ⟨rfl, rfl⟩
end Go.Proofs.YtpabbehpkokhbaaDoor
