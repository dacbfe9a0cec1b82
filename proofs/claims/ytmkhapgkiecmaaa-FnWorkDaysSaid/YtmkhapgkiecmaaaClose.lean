/- CloseFinding, in both packages. -/
import Derived.Test.YtmkhapgkiecmaaaDo
namespace Go.Proofs.Ytmkhapgkiecmaaa
open Go.RowKit

def setClosed (l : List Fnd) (k : Nat) (day : Int) : List Fnd := match l[k]? with | some x => l.set k { x with closed := day } | none => l
theorem setClosed_at {l : List Fnd} {k : Nat} (h : k < l.length) (day : Int) : setClosed l k day = l.set k { l[k] with closed := day } := by unfold setClosed; rw [List.getElem?_eq_getElem h]
def stOf (l : List Fnd) (k : Nat) (day : Int) : Prop := ∃ h : k < l.length, l[k].closed = -1 ∧ l[k].day ≤ day
theorem stOf_at {l : List Fnd} {k : Nat} (h : k < l.length) (day : Int) : stOf l k day ↔ (l[k].closed = -1 ∧ l[k].day ≤ day) := ⟨fun ⟨_, h⟩ => h, fun h2 => ⟨h, h2⟩⟩
theorem okAt {l : List Fnd} (h : fndsB l = true) {k : Nat} (hk : k < l.length) : l[k].ok := by
  unfold fndsB at h
  simp only [Bool.and_eq_true, List.all_eq_true, decide_eq_true_eq] at h
  exact h.1 _ (List.getElem_mem hk)
open Classical in
noncomputable def closeFinding (l : List Fnd) (k day : Int) : List Fnd × Int :=
  if fndsB l = true then (if (0 ≤ k ∧ k < l.length) ∧ (0 ≤ day ∧ day ≤ 100000) then (if ¬ stOf l k.toNat day then ([], 6) else (setClosed l k.toNat day, 0)) else ([], 2)) else ([], 1)
theorem closeFinding_1 {l : List Fnd} {k day : Int} (h : fndsB l = false) : closeFinding l k day = ([], 1) := if_neg (by simp [h])
theorem closeFinding_2 {l : List Fnd} {k day : Int} (h : fndsB l = true) (h2 : ¬ ((0 ≤ k ∧ k < l.length) ∧ (0 ≤ day ∧ day ≤ 100000))) : closeFinding l k day = ([], 2) := by unfold closeFinding; rw [if_pos h, if_neg h2]
theorem closeFinding_6 {l : List Fnd} {k day : Int} (h : fndsB l = true) (h2 : (0 ≤ k ∧ k < l.length) ∧ (0 ≤ day ∧ day ≤ 100000)) (h3 : ¬ stOf l k.toNat day) : closeFinding l k day = ([], 6) := by unfold closeFinding; rw [if_pos h, if_pos h2, if_pos h3]
theorem closeFinding_0 {l : List Fnd} {k day : Int} (h : fndsB l = true) (h2 : (0 ≤ k ∧ k < l.length) ∧ (0 ≤ day ∧ day ≤ 100000)) (h3 : stOf l k.toNat day) : closeFinding l k day = (setClosed l k.toNat day, 0) := by unfold closeFinding; rw [if_pos h, if_pos h2, if_neg (fun h => h h3)]
theorem setClosed_len (l : List Fnd) (k : Nat) (day : Int) : (setClosed l k day).length = l.length := by unfold setClosed; split <;> simp
theorem closeFinding_len (l : List Fnd) (k day : Int) : (closeFinding l k day).1.length ≤ l.length := by
  unfold closeFinding
  split
  · split
    · split
      · simp
      · rw [setClosed_len]; exact Nat.le_refl _
    · simp
  · simp


set_option maxRecDepth 100000 in
set_option maxHeartbeats 4000000 in
theorem spec_CloseFinding (v : Value) (l : List Fnd) (lo hi : Nat) (k day : Int) (w : World) (h : Fnds lo hi w v l) (hl : l.length ≤ 1048576) (hwf : ∀ x ∈ l, x.wf) (_hk : I64 k) (_hd : I64 day) :
    Calls Try.prog 17 #[v, .int .i64 k, .int .i64 day] w (ListRes Fnd.cells 4 w (closeFinding l k day).1 (closeFinding l k day).2) := by
  have hsl := h
  have Hwf := Lib.hid hwf
  unfold I64 at _hk _hd
  obtain ⟨a, cap, rfl, hlen, hh⟩ := h
  clear hh hwf
  have hc := fun w' h' => spec_l26Found (.slice a l.length cap) l lo hi w' h'
  cases hb : fndsB l
  · rw [closeFinding_1 hb]
    rw [hb] at hc
    have Hc := Lib.hid hc
    clear hc hb
    go_enter Try.func17, Try.ntmps17
    go_wp2_with fail
    refine (Hc.out w hsl).mono ?_
    rintro e w1 ⟨rfl, hb1⟩
    go_wp2
    go_ret2
    exact ⟨_, rfl, slw_nil, hb1⟩
  have Hb := Lib.hid hb
  rw [hb] at hc
  have Hc := Lib.hid hc
  clear hc hb
  by_cases hkr : 0 ≤ k ∧ k < l.length
  · by_cases hd : 0 ≤ day ∧ day ≤ 100000
    · obtain ⟨hk0, hk1⟩ := hkr
      obtain ⟨hd1, hd2⟩ := hd
      obtain ⟨kn, rfl⟩ := Int.eq_ofNat_of_zero_le hk0
      have hkn : kn < l.length := by omega
      obtain ⟨b, off, rfl⟩ := hsl.addr (by omega)
      have hlk := stOf_at hkn day
      have hokf := okAt Hb.out hkn
      unfold Fnd.ok at hokf
      by_cases h6 : ¬ (l[kn].closed = -1 ∧ l[kn].day ≤ day)
      · rw [closeFinding_6 Hb.out ⟨⟨hk0, hk1⟩, hd1, hd2⟩ (by rw [Int.toNat_natCast]; exact fun h => h6 (hlk.1 h))]
        clear hlk
        have hcase : (0 ≤ l[kn].closed ∧ (l[kn].closed != -1) = true) ∨ (l[kn].closed < 0 ∧ day < l[kn].day ∧ (l[kn].closed != -1) = false) := by
          simp only [bne_iff_ne, ne_eq, bne_eq_false_iff_eq]; omega
        clear h6 hokf
        rcases hcase with ⟨hq1, hq2⟩ | ⟨hq1, hq2, hq3⟩
        all_goals
          go_enter Try.func17, Try.ntmps17
          go_wp2_with fail
          refine (Hc.out w hsl).mono ?_
          rintro e w1 ⟨rfl, hb1⟩
          obtain ⟨c0, c1, c2, c3⟩ := Fnds.at (hsl.ext hb1).get hkn
          go_wp2_with (first | (go_at_call 56; first | (refine (spec_In_t _ _ _ _ (by omega) (by omega)).mono ?_; rintro e w' ⟨rfl, rfl⟩) | (refine (spec_In_f _ _ _ _ (by omega)).mono ?_; rintro e w' ⟨rfl, rfl⟩)) | (go_at_call 51; first | (refine (spec_Day_t _ _ (by omega) (by omega)).mono ?_; rintro e w' ⟨rfl, rfl⟩) | (refine (spec_Day_f _ _ (by omega)).mono ?_; rintro e w' ⟨rfl, rfl⟩)))
          go_ret2
          exact ⟨_, rfl, slw_nil, hb1⟩
      · rw [closeFinding_0 Hb.out ⟨⟨hk0, hk1⟩, hd1, hd2⟩ (by rw [Int.toNat_natCast]; exact hlk.2 (Classical.not_not.1 h6)), Int.toNat_natCast]
        have Hset := Lib.hid (setClosed_at hkn day)
        clear hlk
        have hcase : l[kn].closed < 0 ∧ l[kn].day ≤ day ∧ (l[kn].closed != -1) = false := by
          simp only [bne_eq_false_iff_eq]; omega
        obtain ⟨hq1, hq2, hq3⟩ := hcase
        clear h6 hokf
        go_enter Try.func17, Try.ntmps17
        go_wp2_with fail
        refine (Hc.out w hsl).mono ?_
        rintro e w1 ⟨rfl, hb1⟩
        obtain ⟨c0, c1, c2, c3⟩ := Fnds.at (hsl.ext hb1).get hkn
        have Hsl1 := Lib.hid (hsl.ext hb1)
        clear hsl
        have hbs := hb1.size
        have hown0 : Own 4 Fnd.cells w.heap.size 43 (w1.alloc (.cells #[] 43)) (.slice (some ⟨w1.heap.size, 0, none⟩) 0 0) ([] : List Fnd) := own_empty w1 _ _ hbs
        have Hown0 := Lib.hid hown0
        clear hown0
        go_wp2_with (first | (go_at_call 56; first | (refine (spec_In_t _ _ _ _ (by omega) (by omega)).mono ?_; rintro e w' ⟨rfl, rfl⟩) | (refine (spec_In_f _ _ _ _ (by omega)).mono ?_; rintro e w' ⟨rfl, rfl⟩)) | (go_at_call 51; first | (refine (spec_Day_t _ _ (by omega) (by omega)).mono ?_; rintro e w' ⟨rfl, rfl⟩) | (refine (spec_Day_f _ _ (by omega)).mono ?_; rintro e w' ⟨rfl, rfl⟩)) | (at_builtin; refine wpList_appN (c := Fnd.cells) (bytes := 32) rfl _ _ 25 43 rfl Try.underlying25 info_impl_Finding (by omega) Fnd.len Fnd.one w.heap.size [] l _ rfl Hown0.out lo hi b off cap rfl (Hsl1.out.ext ((Below.refl _ _).alloc (Nat.le_refl _) _)) (by simp; omega) (by simp; omega) (by simp; omega) ?_; intro v' w3 hown3 hg3; have hB3 := Hown0.out.grows (hb1.alloc hbs _) (Nat.le_refl _) (by simp; omega) hg3; have Hs3 := Lib.hid (hown3.slw Fnd.len); rw [List.nil_append] at Hs3; clear hown3; obtain ⟨b3, off3, cap3, hv3, _, hraw3⟩ := Raw.of Hs3.out Fnd.len (by omega); subst hv3; have d3 := Hs3.out.1.get kn hkn 3 _ rfl; have e3 := hraw3.free (off3 + kn * 4 + 3); have hlo3 := hraw3.lo; have hhi3 := hraw3.hi; clear hraw3))
        go_ret2
        refine ⟨_, rfl, ?_, hB3.trans ((Below.refl _ _).setCell (by omega) _)⟩
        rw [Hset.out]
        exact (Hs3.out.store1 (k := kn) (j := 3) Fnd.len hkn (by omega) (by simp [Fnd.cells]) rfl).fresh (by simp)
    · rw [closeFinding_2 Hb.out (fun h => hd h.2)]
      go_enter Try.func17, Try.ntmps17
      go_wp2_with fail
      refine (Hc.out w hsl).mono ?_
      rintro e w1 ⟨rfl, hb1⟩
      go_wp2_with (first | (go_at_call 56; first | (refine (spec_In_t _ _ _ _ (by omega) (by omega)).mono ?_; rintro e w' ⟨rfl, rfl⟩) | (refine (spec_In_f _ _ _ _ (by omega)).mono ?_; rintro e w' ⟨rfl, rfl⟩)) | (go_at_call 51; first | (refine (spec_Day_t _ _ (by omega) (by omega)).mono ?_; rintro e w' ⟨rfl, rfl⟩) | (refine (spec_Day_f _ _ (by omega)).mono ?_; rintro e w' ⟨rfl, rfl⟩)))
      go_ret2
      exact ⟨_, rfl, slw_nil, hb1⟩
  · rw [closeFinding_2 Hb.out (fun h => hkr h.1)]
    go_enter Try.func17, Try.ntmps17
    go_wp2_with fail
    refine (Hc.out w hsl).mono ?_
    rintro e w1 ⟨rfl, hb1⟩
    go_wp2_with (first | (go_at_call 56; first | (refine (spec_In_t _ _ _ _ (by omega) (by omega)).mono ?_; rintro e w' ⟨rfl, rfl⟩) | (refine (spec_In_f _ _ _ _ (by omega)).mono ?_; rintro e w' ⟨rfl, rfl⟩)) | (go_at_call 51; first | (refine (spec_Day_t _ _ (by omega) (by omega)).mono ?_; rintro e w' ⟨rfl, rfl⟩) | (refine (spec_Day_f _ _ (by omega)).mono ?_; rintro e w' ⟨rfl, rfl⟩)))
    go_ret2
    exact ⟨_, rfl, slw_nil, hb1⟩
set_option maxRecDepth 100000 in
set_option maxHeartbeats 4000000 in
theorem impl_CloseFinding (v : Value) (l : List Fnd) (lo hi : Nat) (k day : Int) (w : World) (h : Fnds lo hi w v l) (hl : l.length ≤ 1048576) (hwf : ∀ x ∈ l, x.wf) (_hk : I64 k) (_hd : I64 day) :
    Calls Try.prog 16 #[v, .int .i64 k, .int .i64 day] w (ListRes Fnd.cells 4 w (closeFinding l k day).1 (closeFinding l k day).2) := by
  have hsl := h
  have Hwf := Lib.hid hwf
  unfold I64 at _hk _hd
  obtain ⟨a, cap, rfl, hlen, hh⟩ := h
  clear hh hwf
  have hc := fun w' h' => impl_ValidFindings (.slice a l.length cap) l lo hi w' h'
  cases hb : fndsB l
  · rw [closeFinding_1 hb]
    rw [hb] at hc
    have Hc := Lib.hid hc
    clear hc hb
    go_enter Try.func16, Try.ntmps16
    go_wp2_with fail
    refine (Hc.out w hsl).mono ?_
    rintro e w1 ⟨rfl, hb1⟩
    go_wp2
    go_ret2
    exact ⟨_, rfl, slw_nil, hb1⟩
  have Hb := Lib.hid hb
  rw [hb] at hc
  have Hc := Lib.hid hc
  clear hc hb
  by_cases hkr : 0 ≤ k ∧ k < l.length
  · by_cases hd : 0 ≤ day ∧ day ≤ 100000
    · obtain ⟨hk0, hk1⟩ := hkr
      obtain ⟨hd1, hd2⟩ := hd
      obtain ⟨kn, rfl⟩ := Int.eq_ofNat_of_zero_le hk0
      have hkn : kn < l.length := by omega
      obtain ⟨b, off, rfl⟩ := hsl.addr (by omega)
      have hlk := stOf_at hkn day
      have hokf := okAt Hb.out hkn
      unfold Fnd.ok at hokf
      by_cases h6 : ¬ (l[kn].closed = -1 ∧ l[kn].day ≤ day)
      · rw [closeFinding_6 Hb.out ⟨⟨hk0, hk1⟩, hd1, hd2⟩ (by rw [Int.toNat_natCast]; exact fun h => h6 (hlk.1 h))]
        clear hlk
        have hcase : (0 ≤ l[kn].closed ∧ (l[kn].closed != -1) = true) ∨ (l[kn].closed < 0 ∧ day < l[kn].day ∧ (l[kn].closed != -1) = false) := by
          simp only [bne_iff_ne, ne_eq, bne_eq_false_iff_eq]; omega
        clear h6 hokf
        rcases hcase with ⟨hq1, hq2⟩ | ⟨hq1, hq2, hq3⟩
        all_goals
          go_enter Try.func16, Try.ntmps16
          go_wp2_with fail
          refine (Hc.out w hsl).mono ?_
          rintro e w1 ⟨rfl, hb1⟩
          obtain ⟨c0, c1, c2, c3⟩ := Fnds.at (hsl.ext hb1).get hkn
          go_wp2_with (first | (go_at_call 54; first | (refine (impl_index_t _ _ _ (by omega) (by omega) (by omega)).mono ?_; rintro e w' ⟨rfl, rfl⟩) | (refine (impl_index_f _ _ _ (by omega) (by omega)).mono ?_; rintro e w' ⟨rfl, rfl⟩)) | (go_at_call 48; first | (refine (impl_isDay_t _ _ (by omega) (by omega)).mono ?_; rintro e w' ⟨rfl, rfl⟩) | (refine (impl_isDay_f _ _ (by omega)).mono ?_; rintro e w' ⟨rfl, rfl⟩)))
          go_ret2
          exact ⟨_, rfl, slw_nil, hb1⟩
      · rw [closeFinding_0 Hb.out ⟨⟨hk0, hk1⟩, hd1, hd2⟩ (by rw [Int.toNat_natCast]; exact hlk.2 (Classical.not_not.1 h6)), Int.toNat_natCast]
        have Hset := Lib.hid (setClosed_at hkn day)
        clear hlk
        have hcase : l[kn].closed < 0 ∧ l[kn].day ≤ day ∧ (l[kn].closed != -1) = false := by
          simp only [bne_eq_false_iff_eq]; omega
        obtain ⟨hq1, hq2, hq3⟩ := hcase
        clear h6 hokf
        go_enter Try.func16, Try.ntmps16
        go_wp2_with fail
        refine (Hc.out w hsl).mono ?_
        rintro e w1 ⟨rfl, hb1⟩
        obtain ⟨c0, c1, c2, c3⟩ := Fnds.at (hsl.ext hb1).get hkn
        have Hsl1 := Lib.hid (hsl.ext hb1)
        clear hsl
        have hbs := hb1.size
        have hown0 : Own 4 Fnd.cells w.heap.size 43 (w1.alloc (.cells #[] 43)) (.slice (some ⟨w1.heap.size, 0, none⟩) 0 0) ([] : List Fnd) := own_empty w1 _ _ hbs
        have Hown0 := Lib.hid hown0
        clear hown0
        go_wp2_with (first | (go_at_call 54; first | (refine (impl_index_t _ _ _ (by omega) (by omega) (by omega)).mono ?_; rintro e w' ⟨rfl, rfl⟩) | (refine (impl_index_f _ _ _ (by omega) (by omega)).mono ?_; rintro e w' ⟨rfl, rfl⟩)) | (go_at_call 48; first | (refine (impl_isDay_t _ _ (by omega) (by omega)).mono ?_; rintro e w' ⟨rfl, rfl⟩) | (refine (impl_isDay_f _ _ (by omega)).mono ?_; rintro e w' ⟨rfl, rfl⟩)) | (go_at_call 55; refine (impl_CloneF l b off cap lo hi _ Hsl1.out hl).mono ?_; rintro e w3 ⟨v', rfl, hs3, hb3⟩; have hB3 := hb1.trans (hb3.mono hbs); have Hs3 := Lib.hid (Slw.mono' hs3 hbs); clear hs3; obtain ⟨b3, off3, cap3, hv3, _, hraw3⟩ := Raw.of Hs3.out Fnd.len (by omega); subst hv3; have d3 := Hs3.out.1.get kn hkn 3 _ rfl; have e3 := hraw3.free (off3 + kn * 4 + 3); have hlo3 := hraw3.lo; have hhi3 := hraw3.hi; clear hraw3))
        go_ret2
        refine ⟨_, rfl, ?_, hB3.trans ((Below.refl _ _).setCell (by omega) _)⟩
        rw [Hset.out]
        exact (Hs3.out.store1 (k := kn) (j := 3) Fnd.len hkn (by omega) (by simp [Fnd.cells]) rfl).fresh (by simp)
    · rw [closeFinding_2 Hb.out (fun h => hd h.2)]
      go_enter Try.func16, Try.ntmps16
      go_wp2_with fail
      refine (Hc.out w hsl).mono ?_
      rintro e w1 ⟨rfl, hb1⟩
      go_wp2_with (first | (go_at_call 54; first | (refine (impl_index_t _ _ _ (by omega) (by omega) (by omega)).mono ?_; rintro e w' ⟨rfl, rfl⟩) | (refine (impl_index_f _ _ _ (by omega) (by omega)).mono ?_; rintro e w' ⟨rfl, rfl⟩)) | (go_at_call 48; first | (refine (impl_isDay_t _ _ (by omega) (by omega)).mono ?_; rintro e w' ⟨rfl, rfl⟩) | (refine (impl_isDay_f _ _ (by omega)).mono ?_; rintro e w' ⟨rfl, rfl⟩)))
      go_ret2
      exact ⟨_, rfl, slw_nil, hb1⟩
  · rw [closeFinding_2 Hb.out (fun h => hkr h.1)]
    go_enter Try.func16, Try.ntmps16
    go_wp2_with fail
    refine (Hc.out w hsl).mono ?_
    rintro e w1 ⟨rfl, hb1⟩
    go_wp2_with (first | (go_at_call 54; first | (refine (impl_index_t _ _ _ (by omega) (by omega) (by omega)).mono ?_; rintro e w' ⟨rfl, rfl⟩) | (refine (impl_index_f _ _ _ (by omega) (by omega)).mono ?_; rintro e w' ⟨rfl, rfl⟩)) | (go_at_call 48; first | (refine (impl_isDay_t _ _ (by omega) (by omega)).mono ?_; rintro e w' ⟨rfl, rfl⟩) | (refine (impl_isDay_f _ _ (by omega)).mono ?_; rintro e w' ⟨rfl, rfl⟩)))
    go_ret2
    exact ⟨_, rfl, slw_nil, hb1⟩
end Go.Proofs.Ytmkhapgkiecmaaa
