/- Cranes: validity, in both packages. -/
import Derived.Test.YtpabbehpkokhbaaDoorChart
import Derived.Test.YtpabbehpkokhbaaDoorName
import Derived.Test.YtpabbehpkokhbaaDoorPlV
import Derived.Test.YtpabbehpkokhbaaDoorTCrane
namespace Go.Proofs.YtpabbehpkokhbaaDoor
open Go.RowKit
def lastR (l : List Chs) : Int := ((l[l.length - 1]?).map Chs.radius).getD 0
theorem lastR_eq {l : List Chs} (h : 0 < l.length) : lastR l = (l[l.length - 1]'(by omega)).radius := by unfold lastR; rw [List.getElem?_eq_getElem (by omega)]; rfl
def craneOk (f : CraneF) (l : List Chs) : Prop := isNm f.name ∧ Pl f.x f.y ∧ (1 ≤ f.height ∧ f.height ≤ 2000) ∧ (1 ≤ f.jib ∧ f.jib ≤ 1000) ∧ (0 ≤ f.back ∧ f.back ≤ f.jib) ∧ chartOk l ∧ lastR l ≤ f.jib
open Classical in
noncomputable def craneB (f : CraneF) (l : List Chs) : Bool := decide (craneOk f l)
theorem craneB_t {f : CraneF} {l : List Chs} (h : craneOk f l) : craneB f l = true := by classical exact decide_eq_true h
theorem craneB_f {f : CraneF} {l : List Chs} (h : ¬ craneOk f l) : craneB f l = false := by classical exact decide_eq_false h
theorem craneB_iff {f : CraneF} {l : List Chs} : craneB f l = true ↔ craneOk f l := ⟨fun h => by classical exact of_decide_eq_true h, craneB_t⟩
theorem chartB_ff {l : List Chs} (h : chartB l = false) : ¬ chartOk l := fun h2 => by rw [chartB_t h2] at h; cases h
theorem crane_cases (f : CraneF) (l : List Chs) :
    (craneB f l = false ∧ nmB f.name = false) ∨
    (craneB f l = false ∧ nmB f.name = true ∧ ¬ Pl f.x f.y) ∨
    (craneB f l = false ∧ nmB f.name = true ∧ Pl f.x f.y ∧ ¬ (1 ≤ f.height ∧ f.height ≤ 2000)) ∨
    (craneB f l = false ∧ nmB f.name = true ∧ Pl f.x f.y ∧ (1 ≤ f.height ∧ f.height ≤ 2000) ∧ ¬ (1 ≤ f.jib ∧ f.jib ≤ 1000)) ∨
    (craneB f l = false ∧ nmB f.name = true ∧ Pl f.x f.y ∧ (1 ≤ f.height ∧ f.height ≤ 2000) ∧ (1 ≤ f.jib ∧ f.jib ≤ 1000) ∧ ¬ (0 ≤ f.back ∧ f.back ≤ f.jib)) ∨
    (craneB f l = false ∧ nmB f.name = true ∧ Pl f.x f.y ∧ (1 ≤ f.height ∧ f.height ≤ 2000) ∧ (1 ≤ f.jib ∧ f.jib ≤ 1000) ∧ (0 ≤ f.back ∧ f.back ≤ f.jib) ∧ chartB l = false) ∨
    (craneB f l = false ∧ nmB f.name = true ∧ Pl f.x f.y ∧ (1 ≤ f.height ∧ f.height ≤ 2000) ∧ (1 ≤ f.jib ∧ f.jib ≤ 1000) ∧ (0 ≤ f.back ∧ f.back ≤ f.jib) ∧ (chartB l = true ∧ 0 < l.length ∧ l.length ≤ 20) ∧ f.jib < lastR l) ∨
    (craneB f l = true ∧ nmB f.name = true ∧ Pl f.x f.y ∧ (1 ≤ f.height ∧ f.height ≤ 2000) ∧ (1 ≤ f.jib ∧ f.jib ≤ 1000) ∧ (0 ≤ f.back ∧ f.back ≤ f.jib) ∧ (chartB l = true ∧ 0 < l.length ∧ l.length ≤ 20) ∧ lastR l ≤ f.jib) := by
  cases h1 : nmB f.name
  · exact .inl ⟨craneB_f fun h => nmB_ff h1 h.1, rfl⟩
  · refine .inr ?_
    by_cases h2 : Pl f.x f.y
    case neg => exact .inl ⟨craneB_f fun h => h2 h.2.1, rfl, h2⟩
    refine .inr ?_
    by_cases h3 : 1 ≤ f.height ∧ f.height ≤ 2000
    case neg => exact .inl ⟨craneB_f fun h => h3 h.2.2.1, rfl, h2, h3⟩
    refine .inr ?_
    by_cases h4 : 1 ≤ f.jib ∧ f.jib ≤ 1000
    case neg => exact .inl ⟨craneB_f fun h => h4 h.2.2.2.1, rfl, h2, h3, h4⟩
    refine .inr ?_
    by_cases h5 : 0 ≤ f.back ∧ f.back ≤ f.jib
    case neg => exact .inl ⟨craneB_f fun h => h5 h.2.2.2.2.1, rfl, h2, h3, h4, h5⟩
    refine .inr ?_
    cases h6 : chartB l
    · exact .inl ⟨craneB_f fun h => chartB_ff h6 h.2.2.2.2.2.1, rfl, h2, h3, h4, h5, rfl⟩
    refine .inr ?_
    have h6' := chartB_iff.1 h6
    by_cases h7 : lastR l ≤ f.jib
    · exact .inr ⟨craneB_t ⟨nmB_iff.1 h1, h2, h3, h4, h5, h6', h7⟩, rfl, h2, h3, h4, h5, ⟨rfl, h6'.2.1, h6'.2.2⟩, h7⟩
    · exact .inl ⟨craneB_f fun h => h7 h.2.2.2.2.2.2, rfl, h2, h3, h4, h5, ⟨rfl, h6'.2.1, h6'.2.2⟩, by omega⟩
set_option maxRecDepth 100000 in
set_option maxHeartbeats 8000000 in
theorem spec_CraneOk (b o : Nat) (f : CraneF) (sv : Value) (l : List Chs) (lo hi : Nat) (w : World) (hc : ∀ j u, (([.string f.name, .int .i64 f.x, .int .i64 f.y, .int .i64 f.height, .int .i64 f.jib, .int .i64 f.back, sv] : List Value))[j]? = some u → w.cell? ⟨b, o + j, none⟩ = some u) (h : Chss lo hi w sv l) (hwf : f.name.size ≤ maxLen) :
    Calls Tryd.prog 50 #[.pointer (some ⟨b, o, none⟩)] w fun e w' => e = .returned (.bool (craneB f l)) ∧ Below w.heap.size w w' := by
  have hK := fun w' (hb : Below w.heap.size w w') => spec_Chart sv l lo hi w' (h.ext hb)
  have hL := fun (h0 : 0 < l.length) w' (hb : Below w.heap.size w w') => spec_Last sv l lo hi w' (h.ext hb) h0
  have hN := fun w => spec_IsName f.name w hwf
  have hP := fun w => spec_Pl f.x f.y w
  clear h hwf
  obtain ⟨x0, x1, x2, x3, x4, x5⟩ := f
  have c0 := hc 0 _ rfl
  have c1 := hc 1 _ rfl
  have c2 := hc 2 _ rfl
  have c3 := hc 3 _ rfl
  have c4 := hc 4 _ rfl
  have c5 := hc 5 _ rfl
  have c6 := hc 6 _ rfl
  clear hc
  simp only [Nat.add_zero] at c0
  have hbw := World.block_lt_of_cell? w _ c0
  dsimp only at *
  rcases crane_cases ⟨x0, x1, x2, x3, x4, x5⟩ l with ⟨hr, hn⟩ | ⟨hr, hn, hp⟩ | ⟨hr, hn, hp, h3⟩ | ⟨hr, hn, hp, ⟨_, _⟩, h4⟩ | ⟨hr, hn, hp, ⟨_, _⟩, ⟨_, _⟩, h5⟩ | ⟨hr, hn, hp, ⟨_, _⟩, ⟨_, _⟩, ⟨_, _⟩, h6⟩ | ⟨hr, hn, hp, ⟨_, _⟩, ⟨_, _⟩, ⟨_, _⟩, ⟨h6, hl0, hl20⟩, h7⟩ | ⟨hr, hn, hp, ⟨_, _⟩, ⟨_, _⟩, ⟨_, _⟩, ⟨h6, hl0, hl20⟩, h7⟩
  · rw [hr]
    rw [hn] at hN
    have HN := Lib.hid hN
    clear hN hK hL hP hr hn
    go_enter Tryd.func50, Tryd.ntmps50
    go_wp2_with (first | (go_at_call 76; refine (HN.out _).mono ?_; rintro e w' ⟨rfl, rfl⟩))
    go_ret
    exact ⟨rfl, by first | exact hb2 | exact below_dN hb2 _ | exact Below.refl _ _⟩
  · rw [hr]
    rw [hn] at hN
    rw [decide_eq_false hp] at hP
    have HN := Lib.hid hN
    have HP := Lib.hid hP
    clear hN hK hL hP hr hn hp
    have HK : Hid (∀ w', Below w.heap.size w w' → True) := Lib.hid (fun _ _ => trivial)
    have HL := HK
    go_enter Tryd.func50, Tryd.ntmps50
    go_wp2_with (first | (go_at_call 76; refine (HN.out _).mono ?_; rintro e w' ⟨rfl, rfl⟩) | (go_at_call 31; refine (HP.out _).mono ?_; rintro e w2 ⟨rfl, hb2⟩; have q2 := (bcell hb2).1; have d3 := (q2 _ _ hbw).trans c3; have d4 := (q2 _ _ hbw).trans c4; have d5 := (q2 _ _ hbw).trans c5; have d6 := (q2 _ _ hbw).trans c6; have HK2 := Lib.hid (fun n => HK.out (w2.drewN n) (below_dN hb2 _)); have HL2 := Lib.hid (fun n => HL.out (w2.drewN n) (below_dN hb2 _))) | (go_at_call 58; first | (refine (spec_In_t _ _ _ _ (by omega) (by omega)).mono ?_; rintro e w' ⟨rfl, rfl⟩) | (refine (spec_In_f _ _ _ _ (by omega)).mono ?_; rintro e w' ⟨rfl, rfl⟩)))
    go_ret
    exact ⟨rfl, by first | exact hb2 | exact below_dN hb2 _ | exact Below.refl _ _⟩
  iterate 2
    · rw [hr]
      rw [hn] at hN
      rw [decide_eq_true hp] at hP
      have HN := Lib.hid hN
      have HP := Lib.hid hP
      clear hN hK hL hP hr hn hp
      have HK : Hid (∀ w', Below w.heap.size w w' → True) := Lib.hid (fun _ _ => trivial)
      have HL := HK
      go_enter Tryd.func50, Tryd.ntmps50
      go_wp2_with (first | (go_at_call 76; refine (HN.out _).mono ?_; rintro e w' ⟨rfl, rfl⟩) | (go_at_call 31; refine (HP.out _).mono ?_; rintro e w2 ⟨rfl, hb2⟩; have q2 := (bcell hb2).1; have d3 := (q2 _ _ hbw).trans c3; have d4 := (q2 _ _ hbw).trans c4; have d5 := (q2 _ _ hbw).trans c5; have d6 := (q2 _ _ hbw).trans c6; have HK2 := Lib.hid (fun n => HK.out (w2.drewN n) (below_dN hb2 _)); have HL2 := Lib.hid (fun n => HL.out (w2.drewN n) (below_dN hb2 _))) | (go_at_call 58; first | (refine (spec_In_t _ _ _ _ (by omega) (by omega)).mono ?_; rintro e w' ⟨rfl, rfl⟩) | (refine (spec_In_f _ _ _ _ (by omega)).mono ?_; rintro e w' ⟨rfl, rfl⟩)))
      go_ret
      exact ⟨rfl, by first | exact hb2 | exact below_dN hb2 _ | exact Below.refl _ _⟩
  · rw [hr]
    rw [hn] at hN
    rw [decide_eq_true hp] at hP
    have HN := Lib.hid hN
    have HP := Lib.hid hP
    have HK := Lib.hid hK
    have HL : Hid (∀ w', Below w.heap.size w w' → True) := Lib.hid (fun _ _ => trivial)
    clear hN hK hL hP hr hn hp
    go_enter Tryd.func50, Tryd.ntmps50
    go_wp2_with (first | (go_at_call 76; refine (HN.out _).mono ?_; rintro e w' ⟨rfl, rfl⟩) | (go_at_call 31; refine (HP.out _).mono ?_; rintro e w2 ⟨rfl, hb2⟩; have q2 := (bcell hb2).1; have d3 := (q2 _ _ hbw).trans c3; have d4 := (q2 _ _ hbw).trans c4; have d5 := (q2 _ _ hbw).trans c5; have d6 := (q2 _ _ hbw).trans c6; have HK2 := Lib.hid (fun n => HK.out (w2.drewN n) (below_dN hb2 _)); have HL2 := Lib.hid (fun n => HL.out (w2.drewN n) (below_dN hb2 _))) | (go_at_call 58; first | (refine (spec_In_t _ _ _ _ (by omega) (by omega)).mono ?_; rintro e w' ⟨rfl, rfl⟩) | (refine (spec_In_f _ _ _ _ (by omega)).mono ?_; rintro e w' ⟨rfl, rfl⟩)))
    go_quiet (first | (go_at_call 58; first | exact Calls.quiet_of_same (Calls.turn (spec_In_t _ _ _ _ (by omega) (by omega))) | exact Calls.quiet_of_same (Calls.turn (spec_In_f _ _ _ _ (by omega)))) | (go_at_call 77; exact Calls.quiet_of (HK2.out _)) | (go_at_call 78; exact Calls.quiet_of_same (Calls.turn (HL2.out _))))
    go_wp2
    go_ret
    exact ⟨rfl, by first | exact hb2 | exact below_dN hb2 _ | exact Below.refl _ _⟩
  · rw [hr]
    rw [hn] at hN
    rw [h6] at hK
    rw [decide_eq_true hp] at hP
    have HN := Lib.hid hN
    have HP := Lib.hid hP
    have HK := Lib.hid hK
    have HL : Hid (∀ w', Below w.heap.size w w' → True) := Lib.hid (fun _ _ => trivial)
    clear hN hK hL hP hr hn hp h6
    go_enter Tryd.func50, Tryd.ntmps50
    go_wp2_with (first | (go_at_call 76; refine (HN.out _).mono ?_; rintro e w' ⟨rfl, rfl⟩) | (go_at_call 31; refine (HP.out _).mono ?_; rintro e w2 ⟨rfl, hb2⟩; have q2 := (bcell hb2).1; have d3 := (q2 _ _ hbw).trans c3; have d4 := (q2 _ _ hbw).trans c4; have d5 := (q2 _ _ hbw).trans c5; have d6 := (q2 _ _ hbw).trans c6; have HK2 := Lib.hid (fun n => HK.out (w2.drewN n) (below_dN hb2 _)); have HL2 := Lib.hid (fun n => HL.out (w2.drewN n) (below_dN hb2 _))) | (go_at_call 58; first | (refine (spec_In_t _ _ _ _ (by omega) (by omega)).mono ?_; rintro e w' ⟨rfl, rfl⟩) | (refine (spec_In_f _ _ _ _ (by omega)).mono ?_; rintro e w' ⟨rfl, rfl⟩)))
    go_quiet (first | (go_at_call 58; first | exact Calls.quiet_of_same (Calls.turn (spec_In_t _ _ _ _ (by omega) (by omega))) | exact Calls.quiet_of_same (Calls.turn (spec_In_f _ _ _ _ (by omega)))) | (go_at_call 77; exact Calls.quiet_of (HK2.out _)) | (go_at_call 78; exact Calls.quiet_of_same (Calls.turn (HL2.out _))))
    go_wp2
    go_ret
    exact ⟨rfl, by first | exact hb2 | exact below_dN hb2 _ | exact Below.refl _ _⟩
  iterate 2
    · rw [hr]
      rw [hn] at hN
      rw [h6] at hK
      have hL := hL hl0
      rw [← lastR_eq hl0] at hL
      rw [decide_eq_true hp] at hP
      have HN := Lib.hid hN
      have HP := Lib.hid hP
      have HK := Lib.hid hK
      have HL := Lib.hid hL
      clear hN hK hL hP hr hn hp h6 hl0 hl20
      generalize lastR l = q at *
      go_enter Tryd.func50, Tryd.ntmps50
      go_wp2_with (first | (go_at_call 76; refine (HN.out _).mono ?_; rintro e w' ⟨rfl, rfl⟩) | (go_at_call 31; refine (HP.out _).mono ?_; rintro e w2 ⟨rfl, hb2⟩; have q2 := (bcell hb2).1; have d3 := (q2 _ _ hbw).trans c3; have d4 := (q2 _ _ hbw).trans c4; have d5 := (q2 _ _ hbw).trans c5; have d6 := (q2 _ _ hbw).trans c6; have HK2 := Lib.hid (fun n => HK.out (w2.drewN n) (below_dN hb2 _)); have HL2 := Lib.hid (fun n => HL.out (w2.drewN n) (below_dN hb2 _))) | (go_at_call 58; first | (refine (spec_In_t _ _ _ _ (by omega) (by omega)).mono ?_; rintro e w' ⟨rfl, rfl⟩) | (refine (spec_In_f _ _ _ _ (by omega)).mono ?_; rintro e w' ⟨rfl, rfl⟩)))
      go_quiet (first | (go_at_call 58; first | exact Calls.quiet_of_same (Calls.turn (spec_In_t _ _ _ _ (by omega) (by omega))) | exact Calls.quiet_of_same (Calls.turn (spec_In_f _ _ _ _ (by omega)))) | (go_at_call 77; exact Calls.quiet_of (HK2.out _)) | (go_at_call 78; exact Calls.quiet_of_same (Calls.turn (HL2.out _))))
      go_wp2
      go_ret
      exact ⟨ret_bool (by first | exact decide_eq_true (by omega) | exact decide_eq_false (by omega) | rfl), by first | exact hb2 | exact below_dN hb2 _⟩
end Go.Proofs.YtpabbehpkokhbaaDoor
