/- DoCheck and CloseFinding, in both packages. -/
import Derived.Test.YtfnmmfopbfmkaaaOver
import Derived.Lib.SliceRun
namespace Go.Proofs.Ytfnmmfopbfmkaaa
open Go.RowKit
theorem info_impl_Check : (Try.prog.info? 83).map (fun i => (i.zero.map (·.cells.size), i.size, i.bytes)) = some (some 4, 4, 40) := by kernel_rfl
theorem info_impl_Finding : (Try.prog.info? 53).map (fun i => (i.zero.map (·.cells.size), i.size, i.bytes)) = some (some 4, 4, 32) := by kernel_rfl
theorem Chk.one (x : Chk) : ∀ u ∈ x.cells, u.oneCell' = true := by intro u hu; simp [Chk.cells] at hu; rcases hu with rfl | rfl | rfl | rfl <;> rfl
theorem Fnd.one (x : Fnd) : ∀ u ∈ x.cells, u.oneCell' = true := by intro u hu; simp [Fnd.cells] at hu; rcases hu with rfl | rfl | rfl | rfl <;> rfl

theorem impl_index_t (n m : Int) (w : World) (h : 0 ≤ n) (h2 : n < m) (h3 : m ≤ 1048576) : Calls Try.prog 81 #[.int .i64 n, .int .i64 m] w fun e w' => e = .returned (.bool true) ∧ w = w' := by
  go_enter Try.func81, Try.ntmps81
  go_wp2_with (go_at_call 62; refine (impl_within_t _ _ _ _ (by omega) (by omega)).mono ?_; rintro e w' ⟨rfl, rfl⟩)
  go_ret; exact ⟨rfl, rfl⟩
theorem impl_index_f (n m : Int) (w : World) (h : ¬ (0 ≤ n ∧ n < m)) (h3 : 0 ≤ m ∧ m ≤ 1048576) : Calls Try.prog 81 #[.int .i64 n, .int .i64 m] w fun e w' => e = .returned (.bool false) ∧ w = w' := by
  go_enter Try.func81, Try.ntmps81
  go_wp2_with (go_at_call 62; refine (impl_within_f _ _ _ _ (by omega)).mono ?_; rintro e w' ⟨rfl, rfl⟩)
  go_ret; exact ⟨rfl, rfl⟩

set_option maxHeartbeats 2000000 in
theorem impl_CloneC (l : List Chk) (b off cap lo hi : Nat) (w : World) (h : Chks lo hi w (.slice (some ⟨b, off, none⟩) l.length cap) l) (hl : l.length ≤ 1048576) :
    Calls Try.prog 92 #[.slice (some ⟨b, off, none⟩) l.length cap] w fun e w' => ∃ v', e = .returned v' ∧ Slw 4 Chk.cells w.heap.size w'.heap.size w' v' l ∧ Below w.heap.size w w' := by
  have hq := fun w => Lib.run_eql_slice_nil (P := Try.prog) w 32 83 (some ⟨b, off, none⟩) l.length cap 0 0 Try.underlying32
  have hb0 := (Below.refl w.heap.size w).alloc (Nat.le_refl _) (.cells #[] 83)
  have h1 := h.ext hb0
  have hown0 : Own 4 Chk.cells w.heap.size 83 (w.alloc (.cells #[] 83)) (.slice (some ⟨w.heap.size, 0, none⟩) 0 0) ([] : List Chk) := own_empty w _ _ (Nat.le_refl _)
  have H1 := Lib.hid h1
  have Hown0 := Lib.hid hown0
  clear h h1 hown0
  go_enter Try.func92, Try.ntmps92
  go_wp2_with (at_builtin; refine wpList_appN (c := Chk.cells) (bytes := 40) rfl _ _ 32 83 rfl Try.underlying32 info_impl_Check (by omega) Chk.len Chk.one w.heap.size [] l _ rfl Hown0.out lo hi b off cap rfl H1.out (by simp; omega) (by simp; omega) (by simp) ?_; intro v' w3 hown3 hg3; have hB3 := Hown0.out.grows hb0 (Nat.le_refl _) (by simp) hg3; have Hown3 := Lib.hid hown3; clear hown3)
  go_ret
  exact ⟨_, rfl, by have := Hown3.out.slw Chk.len; rwa [List.nil_append] at this, hB3⟩
set_option maxHeartbeats 2000000 in
theorem impl_CloneF (l : List Fnd) (b off cap lo hi : Nat) (w : World) (h : Fnds lo hi w (.slice (some ⟨b, off, none⟩) l.length cap) l) (hl : l.length ≤ 1048576) :
    Calls Try.prog 82 #[.slice (some ⟨b, off, none⟩) l.length cap] w fun e w' => ∃ v', e = .returned v' ∧ Slw 4 Fnd.cells w.heap.size w'.heap.size w' v' l ∧ Below w.heap.size w w' := by
  have hq := fun w => Lib.run_eql_slice_nil (P := Try.prog) w 25 53 (some ⟨b, off, none⟩) l.length cap 0 0 Try.underlying25
  have hb0 := (Below.refl w.heap.size w).alloc (Nat.le_refl _) (.cells #[] 53)
  have h1 := h.ext hb0
  have hown0 : Own 4 Fnd.cells w.heap.size 53 (w.alloc (.cells #[] 53)) (.slice (some ⟨w.heap.size, 0, none⟩) 0 0) ([] : List Fnd) := own_empty w _ _ (Nat.le_refl _)
  have H1 := Lib.hid h1
  have Hown0 := Lib.hid hown0
  clear h h1 hown0
  go_enter Try.func82, Try.ntmps82
  go_wp2_with (at_builtin; refine wpList_appN (c := Fnd.cells) (bytes := 32) rfl _ _ 25 53 rfl Try.underlying25 info_impl_Finding (by omega) Fnd.len Fnd.one w.heap.size [] l _ rfl Hown0.out lo hi b off cap rfl H1.out (by simp; omega) (by simp; omega) (by simp) ?_; intro v' w3 hown3 hg3; have hB3 := Hown0.out.grows hb0 (Nat.le_refl _) (by simp) hg3; have Hown3 := Lib.hid hown3; clear hown3)
  go_ret
  exact ⟨_, rfl, by have := Hown3.out.slw Fnd.len; rwa [List.nil_append] at this, hB3⟩

def setLast (l : List Chk) (k : Nat) (day : Int) : List Chk := match l[k]? with | some x => l.set k { x with last := day } | none => l
theorem setLast_at {l : List Chk} {k : Nat} (h : k < l.length) (day : Int) : setLast l k day = l.set k { l[k] with last := day } := by unfold setLast; rw [List.getElem?_eq_getElem h]
def lastOf (l : List Chk) (k : Nat) : Int := match l[k]? with | some x => x.last | none => 0
theorem lastOf_at {l : List Chk} {k : Nat} (h : k < l.length) : lastOf l k = l[k].last := by unfold lastOf; rw [List.getElem?_eq_getElem h]
open Classical in
noncomputable def doCheck (l : List Chk) (k day : Int) : List Chk × Int :=
  if chksB l = true then (if (0 ≤ k ∧ k < l.length) ∧ (0 ≤ day ∧ day ≤ 100000) then (if day < lastOf l k.toNat then ([], 6) else (setLast l k.toNat day, 0)) else ([], 2)) else ([], 1)
theorem doCheck_1 {l : List Chk} {k day : Int} (h : chksB l = false) : doCheck l k day = ([], 1) := if_neg (by simp [h])
theorem doCheck_2 {l : List Chk} {k day : Int} (h : chksB l = true) (h2 : ¬ ((0 ≤ k ∧ k < l.length) ∧ (0 ≤ day ∧ day ≤ 100000))) : doCheck l k day = ([], 2) := by unfold doCheck; rw [if_pos h, if_neg h2]
theorem doCheck_6 {l : List Chk} {k day : Int} (h : chksB l = true) (h2 : (0 ≤ k ∧ k < l.length) ∧ (0 ≤ day ∧ day ≤ 100000)) (h3 : day < lastOf l k.toNat) : doCheck l k day = ([], 6) := by unfold doCheck; rw [if_pos h, if_pos h2, if_pos h3]
theorem doCheck_0 {l : List Chk} {k day : Int} (h : chksB l = true) (h2 : (0 ≤ k ∧ k < l.length) ∧ (0 ≤ day ∧ day ≤ 100000)) (h3 : ¬ day < lastOf l k.toNat) : doCheck l k day = (setLast l k.toNat day, 0) := by unfold doCheck; rw [if_pos h, if_pos h2, if_neg h3]
theorem setLast_len (l : List Chk) (k : Nat) (day : Int) : (setLast l k day).length = l.length := by unfold setLast; split <;> simp
theorem doCheck_len (l : List Chk) (k day : Int) : (doCheck l k day).1.length ≤ l.length := by
  unfold doCheck
  split
  · split
    · split
      · simp
      · rw [setLast_len]; exact Nat.le_refl _
    · simp
  · simp


set_option maxRecDepth 100000 in
set_option maxHeartbeats 4000000 in
theorem spec_DoCheck (v : Value) (l : List Chk) (lo hi : Nat) (k day : Int) (w : World) (h : Chks lo hi w v l) (hl : l.length ≤ 1048576) (hwf : ∀ x ∈ l, x.wf) (_hk : I64 k) (_hd : I64 day) :
    Calls Try.prog 48 #[v, .int .i64 k, .int .i64 day] w (ListRes Chk.cells 4 w (doCheck l k day).1 (doCheck l k day).2) := by
  have hsl := h
  have Hwf := Lib.hid hwf
  unfold I64 at _hk _hd
  obtain ⟨a, cap, rfl, hlen, hh⟩ := h
  clear hh hwf
  have hc := fun w' h' => spec_l26Ok (.slice a l.length cap) l lo hi w' h' Hwf.out
  cases hb : chksB l
  · rw [doCheck_1 hb]
    rw [hb] at hc
    have Hc := Lib.hid hc
    clear hc hb
    go_enter Try.func48, Try.ntmps48
    go_wp2_with fail
    refine (Hc.out w hsl).mono ?_
    rintro e w1 ⟨rfl, hb1⟩
    go_wp2
    go_ret2
    exact ⟨_, rfl, slw_nil, hb1⟩
  have Hb := Lib.hid hb
  rw [hb] at hc
  have Hc := Lib.hid hc
  clear hc hb
  by_cases hkr : 0 ≤ k ∧ k < l.length
  · by_cases hd : 0 ≤ day ∧ day ≤ 100000
    · obtain ⟨hk0, hk1⟩ := hkr
      obtain ⟨hd1, hd2⟩ := hd
      obtain ⟨kn, rfl⟩ := Int.eq_ofNat_of_zero_le hk0
      have hkn : kn < l.length := by omega
      obtain ⟨b, off, rfl⟩ := hsl.addr (by omega)
      have hlk := lastOf_at hkn
      by_cases h6 : day < l[kn].last
      · rw [doCheck_6 Hb.out ⟨⟨hk0, hk1⟩, hd1, hd2⟩ (by rw [Int.toNat_natCast, hlk]; exact h6)]
        clear hlk
        go_enter Try.func48, Try.ntmps48
        go_wp2_with fail
        refine (Hc.out w hsl).mono ?_
        rintro e w1 ⟨rfl, hb1⟩
        obtain ⟨c0, c1, c2, c3⟩ := Chks.at (hsl.ext hb1).get hkn
        go_wp2_with (first | (go_at_call 83; first | (refine (spec_In_t _ _ _ _ (by omega) (by omega)).mono ?_; rintro e w' ⟨rfl, rfl⟩) | (refine (spec_In_f _ _ _ _ (by omega)).mono ?_; rintro e w' ⟨rfl, rfl⟩)) | (go_at_call 78; first | (refine (spec_Day_t _ _ (by omega) (by omega)).mono ?_; rintro e w' ⟨rfl, rfl⟩) | (refine (spec_Day_f _ _ (by omega)).mono ?_; rintro e w' ⟨rfl, rfl⟩)))
        go_ret2
        exact ⟨_, rfl, slw_nil, hb1⟩
      · rw [doCheck_0 Hb.out ⟨⟨hk0, hk1⟩, hd1, hd2⟩ (by rw [Int.toNat_natCast, hlk]; exact h6), Int.toNat_natCast]
        have Hset := Lib.hid (setLast_at hkn day)
        clear hlk
        go_enter Try.func48, Try.ntmps48
        go_wp2_with fail
        refine (Hc.out w hsl).mono ?_
        rintro e w1 ⟨rfl, hb1⟩
        obtain ⟨c0, c1, c2, c3⟩ := Chks.at (hsl.ext hb1).get hkn
        have Hsl1 := Lib.hid (hsl.ext hb1)
        clear hsl
        have hbs := hb1.size
        have hown0 : Own 4 Chk.cells w.heap.size 83 (w1.alloc (.cells #[] 83)) (.slice (some ⟨w1.heap.size, 0, none⟩) 0 0) ([] : List Chk) := own_empty w1 _ _ hbs
        have Hown0 := Lib.hid hown0
        clear hown0
        go_wp2_with (first | (go_at_call 83; first | (refine (spec_In_t _ _ _ _ (by omega) (by omega)).mono ?_; rintro e w' ⟨rfl, rfl⟩) | (refine (spec_In_f _ _ _ _ (by omega)).mono ?_; rintro e w' ⟨rfl, rfl⟩)) | (go_at_call 78; first | (refine (spec_Day_t _ _ (by omega) (by omega)).mono ?_; rintro e w' ⟨rfl, rfl⟩) | (refine (spec_Day_f _ _ (by omega)).mono ?_; rintro e w' ⟨rfl, rfl⟩)) | (at_builtin; refine wpList_appN (c := Chk.cells) (bytes := 40) rfl _ _ 32 83 rfl Try.underlying32 info_impl_Check (by omega) Chk.len Chk.one w.heap.size [] l _ rfl Hown0.out lo hi b off cap rfl (Hsl1.out.ext ((Below.refl _ _).alloc (Nat.le_refl _) _)) (by simp; omega) (by simp; omega) (by simp; omega) ?_; intro v' w3 hown3 hg3; have hB3 := Hown0.out.grows (hb1.alloc hbs _) (Nat.le_refl _) (by simp; omega) hg3; have Hs3 := Lib.hid (hown3.slw Chk.len); rw [List.nil_append] at Hs3; clear hown3; obtain ⟨b3, off3, cap3, hv3, _, hraw3⟩ := Raw.of Hs3.out Chk.len (by omega); subst hv3; have d3 := Hs3.out.1.get kn hkn 3 _ rfl; have e3 := hraw3.free (off3 + kn * 4 + 3); have hlo3 := hraw3.lo; have hhi3 := hraw3.hi; clear hraw3))
        go_ret2
        refine ⟨_, rfl, ?_, hB3.trans ((Below.refl _ _).setCell (by omega) _)⟩
        rw [Hset.out]
        exact (Hs3.out.store1 (k := kn) (j := 3) Chk.len hkn (by omega) (by simp [Chk.cells]) rfl).fresh (by simp)
    · rw [doCheck_2 Hb.out (fun h => hd h.2)]
      go_enter Try.func48, Try.ntmps48
      go_wp2_with fail
      refine (Hc.out w hsl).mono ?_
      rintro e w1 ⟨rfl, hb1⟩
      go_wp2_with (first | (go_at_call 83; first | (refine (spec_In_t _ _ _ _ (by omega) (by omega)).mono ?_; rintro e w' ⟨rfl, rfl⟩) | (refine (spec_In_f _ _ _ _ (by omega)).mono ?_; rintro e w' ⟨rfl, rfl⟩)) | (go_at_call 78; first | (refine (spec_Day_t _ _ (by omega) (by omega)).mono ?_; rintro e w' ⟨rfl, rfl⟩) | (refine (spec_Day_f _ _ (by omega)).mono ?_; rintro e w' ⟨rfl, rfl⟩)))
      go_ret2
      exact ⟨_, rfl, slw_nil, hb1⟩
  · rw [doCheck_2 Hb.out (fun h => hkr h.1)]
    go_enter Try.func48, Try.ntmps48
    go_wp2_with fail
    refine (Hc.out w hsl).mono ?_
    rintro e w1 ⟨rfl, hb1⟩
    go_wp2_with (first | (go_at_call 83; first | (refine (spec_In_t _ _ _ _ (by omega) (by omega)).mono ?_; rintro e w' ⟨rfl, rfl⟩) | (refine (spec_In_f _ _ _ _ (by omega)).mono ?_; rintro e w' ⟨rfl, rfl⟩)) | (go_at_call 78; first | (refine (spec_Day_t _ _ (by omega) (by omega)).mono ?_; rintro e w' ⟨rfl, rfl⟩) | (refine (spec_Day_f _ _ (by omega)).mono ?_; rintro e w' ⟨rfl, rfl⟩)))
    go_ret2
    exact ⟨_, rfl, slw_nil, hb1⟩
set_option maxRecDepth 100000 in
set_option maxHeartbeats 4000000 in
theorem impl_DoCheck (v : Value) (l : List Chk) (lo hi : Nat) (k day : Int) (w : World) (h : Chks lo hi w v l) (hl : l.length ≤ 1048576) (hwf : ∀ x ∈ l, x.wf) (_hk : I64 k) (_hd : I64 day) :
    Calls Try.prog 49 #[v, .int .i64 k, .int .i64 day] w (ListRes Chk.cells 4 w (doCheck l k day).1 (doCheck l k day).2) := by
  have hsl := h
  have Hwf := Lib.hid hwf
  unfold I64 at _hk _hd
  obtain ⟨a, cap, rfl, hlen, hh⟩ := h
  clear hh hwf
  have hc := fun w' h' => impl_ValidChecks (.slice a l.length cap) l lo hi w' h' hl Hwf.out
  cases hb : chksB l
  · rw [doCheck_1 hb]
    rw [hb] at hc
    have Hc := Lib.hid hc
    clear hc hb
    go_enter Try.func49, Try.ntmps49
    go_wp2_with fail
    refine (Hc.out w hsl).mono ?_
    rintro e w1 ⟨rfl, hb1⟩
    go_wp2
    go_ret2
    exact ⟨_, rfl, slw_nil, hb1⟩
  have Hb := Lib.hid hb
  rw [hb] at hc
  have Hc := Lib.hid hc
  clear hc hb
  by_cases hkr : 0 ≤ k ∧ k < l.length
  · by_cases hd : 0 ≤ day ∧ day ≤ 100000
    · obtain ⟨hk0, hk1⟩ := hkr
      obtain ⟨hd1, hd2⟩ := hd
      obtain ⟨kn, rfl⟩ := Int.eq_ofNat_of_zero_le hk0
      have hkn : kn < l.length := by omega
      obtain ⟨b, off, rfl⟩ := hsl.addr (by omega)
      have hlk := lastOf_at hkn
      by_cases h6 : day < l[kn].last
      · rw [doCheck_6 Hb.out ⟨⟨hk0, hk1⟩, hd1, hd2⟩ (by rw [Int.toNat_natCast, hlk]; exact h6)]
        clear hlk
        go_enter Try.func49, Try.ntmps49
        go_wp2_with fail
        refine (Hc.out w hsl).mono ?_
        rintro e w1 ⟨rfl, hb1⟩
        obtain ⟨c0, c1, c2, c3⟩ := Chks.at (hsl.ext hb1).get hkn
        go_wp2_with (first | (go_at_call 81; first | (refine (impl_index_t _ _ _ (by omega) (by omega) (by omega)).mono ?_; rintro e w' ⟨rfl, rfl⟩) | (refine (impl_index_f _ _ _ (by omega) (by omega)).mono ?_; rintro e w' ⟨rfl, rfl⟩)) | (go_at_call 63; first | (refine (impl_isDay_t _ _ (by omega) (by omega)).mono ?_; rintro e w' ⟨rfl, rfl⟩) | (refine (impl_isDay_f _ _ (by omega)).mono ?_; rintro e w' ⟨rfl, rfl⟩)))
        go_ret2
        exact ⟨_, rfl, slw_nil, hb1⟩
      · rw [doCheck_0 Hb.out ⟨⟨hk0, hk1⟩, hd1, hd2⟩ (by rw [Int.toNat_natCast, hlk]; exact h6), Int.toNat_natCast]
        have Hset := Lib.hid (setLast_at hkn day)
        clear hlk
        go_enter Try.func49, Try.ntmps49
        go_wp2_with fail
        refine (Hc.out w hsl).mono ?_
        rintro e w1 ⟨rfl, hb1⟩
        obtain ⟨c0, c1, c2, c3⟩ := Chks.at (hsl.ext hb1).get hkn
        have Hsl1 := Lib.hid (hsl.ext hb1)
        clear hsl
        have hbs := hb1.size
        have hown0 : Own 4 Chk.cells w.heap.size 83 (w1.alloc (.cells #[] 83)) (.slice (some ⟨w1.heap.size, 0, none⟩) 0 0) ([] : List Chk) := own_empty w1 _ _ hbs
        have Hown0 := Lib.hid hown0
        clear hown0
        go_wp2_with (first | (go_at_call 81; first | (refine (impl_index_t _ _ _ (by omega) (by omega) (by omega)).mono ?_; rintro e w' ⟨rfl, rfl⟩) | (refine (impl_index_f _ _ _ (by omega) (by omega)).mono ?_; rintro e w' ⟨rfl, rfl⟩)) | (go_at_call 63; first | (refine (impl_isDay_t _ _ (by omega) (by omega)).mono ?_; rintro e w' ⟨rfl, rfl⟩) | (refine (impl_isDay_f _ _ (by omega)).mono ?_; rintro e w' ⟨rfl, rfl⟩)) | (go_at_call 92; refine (impl_CloneC l b off cap lo hi _ Hsl1.out hl).mono ?_; rintro e w3 ⟨v', rfl, hs3, hb3⟩; have hB3 := hb1.trans (hb3.mono hbs); have Hs3 := Lib.hid (Slw.mono' hs3 hbs); clear hs3; obtain ⟨b3, off3, cap3, hv3, _, hraw3⟩ := Raw.of Hs3.out Chk.len (by omega); subst hv3; have d3 := Hs3.out.1.get kn hkn 3 _ rfl; have e3 := hraw3.free (off3 + kn * 4 + 3); have hlo3 := hraw3.lo; have hhi3 := hraw3.hi; clear hraw3))
        go_ret2
        refine ⟨_, rfl, ?_, hB3.trans ((Below.refl _ _).setCell (by omega) _)⟩
        rw [Hset.out]
        exact (Hs3.out.store1 (k := kn) (j := 3) Chk.len hkn (by omega) (by simp [Chk.cells]) rfl).fresh (by simp)
    · rw [doCheck_2 Hb.out (fun h => hd h.2)]
      go_enter Try.func49, Try.ntmps49
      go_wp2_with fail
      refine (Hc.out w hsl).mono ?_
      rintro e w1 ⟨rfl, hb1⟩
      go_wp2_with (first | (go_at_call 81; first | (refine (impl_index_t _ _ _ (by omega) (by omega) (by omega)).mono ?_; rintro e w' ⟨rfl, rfl⟩) | (refine (impl_index_f _ _ _ (by omega) (by omega)).mono ?_; rintro e w' ⟨rfl, rfl⟩)) | (go_at_call 63; first | (refine (impl_isDay_t _ _ (by omega) (by omega)).mono ?_; rintro e w' ⟨rfl, rfl⟩) | (refine (impl_isDay_f _ _ (by omega)).mono ?_; rintro e w' ⟨rfl, rfl⟩)))
      go_ret2
      exact ⟨_, rfl, slw_nil, hb1⟩
  · rw [doCheck_2 Hb.out (fun h => hkr h.1)]
    go_enter Try.func49, Try.ntmps49
    go_wp2_with fail
    refine (Hc.out w hsl).mono ?_
    rintro e w1 ⟨rfl, hb1⟩
    go_wp2_with (first | (go_at_call 81; first | (refine (impl_index_t _ _ _ (by omega) (by omega) (by omega)).mono ?_; rintro e w' ⟨rfl, rfl⟩) | (refine (impl_index_f _ _ _ (by omega) (by omega)).mono ?_; rintro e w' ⟨rfl, rfl⟩)) | (go_at_call 63; first | (refine (impl_isDay_t _ _ (by omega) (by omega)).mono ?_; rintro e w' ⟨rfl, rfl⟩) | (refine (impl_isDay_f _ _ (by omega)).mono ?_; rintro e w' ⟨rfl, rfl⟩)))
    go_ret2
    exact ⟨_, rfl, slw_nil, hb1⟩
end Go.Proofs.Ytfnmmfopbfmkaaa
