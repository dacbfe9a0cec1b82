/- MayWork and FirstWorkDay, in both packages. -/
import Derived.Test.YtmkhapgkiecmaaaMay
namespace Go.Proofs.Ytmkhapgkiecmaaa
open Go.RowKit

/-! ### The plain law -/
theorem mayB_iff {cs : List Chk} {fs : List Fnd} {crane day : Int} : mayB cs fs crane day = true ↔ (∀ x ∈ cs, lateC crane day x = false) ∧ (∀ x ∈ fs, badP crane day x = false) ∧ fs.countP (relP crane day) ≤ 5 := by
  unfold mayB
  simp only [Bool.and_eq_true, List.all_eq_true, Bool.not_eq_true', decide_eq_true_eq]
theorem may_change {cs : List Chk} {fs : List Fnd} {crane d : Int} (h : mayB cs fs crane d = true) (h0 : mayB cs fs crane (d - 1) = false) : ∃ f ∈ fs, f.closed = d := by
  refine Classical.byContradiction fun hn => ?_
  have hn : ∀ f ∈ fs, f.closed ≠ d := fun f hf e => hn ⟨f, hf, e⟩
  obtain ⟨h1, h2, h3⟩ := mayB_iff.1 h
  have hr : ∀ f ∈ fs, relP crane (d - 1) f = true → relP crane d f = true := by
    intro f hf
    have := hn f hf
    unfold relP openP
    simp only [Bool.and_eq_true, decide_eq_true_eq]
    omega
  have : mayB cs fs crane (d - 1) = true := by
    refine mayB_iff.2 ⟨fun x hx => ?_, fun x hx => ?_, ?_⟩
    · have := h1 x hx
      unfold lateC lateP at *
      rw [Bool.and_eq_false_iff] at *
      simp only [decide_eq_false_iff_not] at *
      omega
    · have hb := h2 x hx
      have hrx := hr x hx
      unfold badP at *
      cases hq : relP crane (d - 1) x
      · rfl
      · rw [hrx hq] at hb
        simp only [Bool.true_and, Bool.or_eq_false_iff, decide_eq_false_iff_not, Bool.and_eq_false_iff] at *
        omega
    · refine Nat.le_trans (List.countP_mono_left ?_) h3
      intro x hx hq
      exact hr x hx hq
  rw [this] at h0
  cases h0

def bestTo (cs : List Chk) (fs : List Fnd) (crane day : Int) : Nat → Int
  | 0 => -1
  | k + 1 => match fs[k]? with
    | some x => if day < x.closed ∧ (bestTo cs fs crane day k < 0 ∨ x.closed < bestTo cs fs crane day k) ∧ mayB cs fs crane x.closed = true then x.closed else bestTo cs fs crane day k
    | none => bestTo cs fs crane day k
theorem bestTo_yes {cs : List Chk} {fs : List Fnd} {crane day : Int} {k : Nat} (hk : k < fs.length) (h : day < fs[k].closed ∧ (bestTo cs fs crane day k < 0 ∨ fs[k].closed < bestTo cs fs crane day k) ∧ mayB cs fs crane fs[k].closed = true) : bestTo cs fs crane day (k + 1) = fs[k].closed := by
  rw [bestTo, List.getElem?_eq_getElem hk]; exact if_pos h
theorem bestTo_no {cs : List Chk} {fs : List Fnd} {crane day : Int} {k : Nat} (hk : k < fs.length) (h : ¬ (day < fs[k].closed ∧ (bestTo cs fs crane day k < 0 ∨ fs[k].closed < bestTo cs fs crane day k) ∧ mayB cs fs crane fs[k].closed = true)) : bestTo cs fs crane day (k + 1) = bestTo cs fs crane day k := by
  rw [bestTo, List.getElem?_eq_getElem hk]; exact if_neg h
theorem bestTo_spec (cs : List Chk) (fs : List Fnd) (crane day : Int) (hd : 0 ≤ day) : ∀ k, k ≤ fs.length → (bestTo cs fs crane day k = -1 ∧ ∀ i (h : i < fs.length), i < k → day < fs[i].closed → mayB cs fs crane fs[i].closed = false) ∨
    (day < bestTo cs fs crane day k ∧ mayB cs fs crane (bestTo cs fs crane day k) = true ∧ (∃ i, ∃ h : i < fs.length, fs[i].closed = bestTo cs fs crane day k) ∧ ∀ i (h : i < fs.length), i < k → day < fs[i].closed → mayB cs fs crane fs[i].closed = true → bestTo cs fs crane day k ≤ fs[i].closed)
  | 0, _ => .inl ⟨rfl, fun _ _ h => absurd h (by omega)⟩
  | k + 1, hk => by
    have hlt : k < fs.length := by omega
    have ih := bestTo_spec cs fs crane day hd k (by omega)
    by_cases hc : day < fs[k].closed ∧ (bestTo cs fs crane day k < 0 ∨ fs[k].closed < bestTo cs fs crane day k) ∧ mayB cs fs crane fs[k].closed = true
    · rw [bestTo_yes hlt hc]
      refine .inr ⟨hc.1, hc.2.2, ⟨k, hlt, rfl⟩, fun i h hik hdi hm => ?_⟩
      by_cases e : i = k
      · subst e; omega
      · rcases ih with ⟨hb, hno⟩ | ⟨hb, hm2, _, hmin⟩
        · have := hno i h (by omega) hdi; rw [hm] at this; cases this
        · have := hmin i h (by omega) hdi hm; omega
    · rw [bestTo_no hlt hc]
      rcases ih with ⟨hb, hno⟩ | ⟨hb, hm2, hex, hmin⟩
      · refine .inl ⟨hb, fun i h hik hdi => ?_⟩
        by_cases e : i = k
        · subst e
          cases hm : mayB cs fs crane fs[i].closed
          · rfl
          · exact absurd ⟨hdi, .inl (by omega), hm⟩ hc
        · exact hno i h (by omega) hdi
      · refine .inr ⟨hb, hm2, hex, fun i h hik hdi hm => ?_⟩
        by_cases e : i = k
        · subst e
          refine Classical.byContradiction fun hlt2 => hc ⟨hdi, .inr (by omega), hm⟩
        · exact hmin i h (by omega) hdi hm

def wcode (crane day : Int) (v1 v2 : Bool) : Int :=
  if v1 = true ∧ v2 = true then (if (0 ≤ crane ∧ crane ≤ 5) ∧ (0 ≤ day ∧ day ≤ 100000) then 0 else 2) else 1
noncomputable def workC (cs : List Chk) (fs : List Fnd) (crane day : Int) : Int := wcode crane day (chksB cs) (fndsB fs)
noncomputable def mayW (cs : List Chk) (fs : List Fnd) (crane day : Int) : Bool × Int := if workC cs fs crane day = 0 then (mayB cs fs crane day, 0) else (false, workC cs fs crane day)
noncomputable def firstW (cs : List Chk) (fs : List Fnd) (crane day : Int) : Int × Int :=
  if workC cs fs crane day = 0 then (if mayB cs fs crane day = true then (day, 0) else if bestTo cs fs crane day fs.length < 0 then (0, 3) else (bestTo cs fs crane day fs.length, 0)) else (0, workC cs fs crane day)
theorem workC_zero {cs : List Chk} {fs : List Fnd} {crane day : Int} (h : workC cs fs crane day = 0) : chksB cs = true ∧ fndsB fs = true ∧ (0 ≤ crane ∧ crane ≤ 5) ∧ (0 ≤ day ∧ day ≤ 100000) := by
  unfold workC wcode at h
  split at h
  · rename_i h1
    split at h
    · rename_i h2
      exact ⟨h1.1, h1.2, h2.1, h2.2⟩
    · cases h
  · cases h
theorem mayW_0 {cs : List Chk} {fs : List Fnd} {crane day : Int} (h : workC cs fs crane day = 0) : mayW cs fs crane day = (mayB cs fs crane day, 0) := if_pos h
theorem mayW_n {cs : List Chk} {fs : List Fnd} {crane day : Int} (h : ¬ workC cs fs crane day = 0) : mayW cs fs crane day = (false, workC cs fs crane day) := if_neg h
theorem firstW_n {cs : List Chk} {fs : List Fnd} {crane day : Int} (h : ¬ workC cs fs crane day = 0) : firstW cs fs crane day = (0, workC cs fs crane day) := if_neg h
theorem firstW_may {cs : List Chk} {fs : List Fnd} {crane day : Int} (h : workC cs fs crane day = 0) (hm : mayB cs fs crane day = true) : firstW cs fs crane day = (day, 0) := by unfold firstW; rw [if_pos h, if_pos hm]
theorem firstW_none {cs : List Chk} {fs : List Fnd} {crane day : Int} (h : workC cs fs crane day = 0) (hm : mayB cs fs crane day = false) (hb : bestTo cs fs crane day fs.length < 0) : firstW cs fs crane day = (0, 3) := by unfold firstW; rw [if_pos h, if_neg (by simp [hm]), if_pos hb]
theorem firstW_best {cs : List Chk} {fs : List Fnd} {crane day : Int} (h : workC cs fs crane day = 0) (hm : mayB cs fs crane day = false) (hb : ¬ bestTo cs fs crane day fs.length < 0) : firstW cs fs crane day = (bestTo cs fs crane day fs.length, 0) := by unfold firstW; rw [if_pos h, if_neg (by simp [hm]), if_neg hb]
/-- The first day from 'day' on, found one by one, is what 'firstW' tells. -/
theorem firstW_found {cs : List Chk} {fs : List Fnd} {crane day d : Int} (h : workC cs fs crane day = 0) (hd : day ≤ d) (hno : ∀ e, day ≤ e → e < d → mayB cs fs crane e = false) (hm : mayB cs fs crane d = true) : firstW cs fs crane day = (d, 0) := by
  obtain ⟨_, _, _, hd0, _⟩ := workC_zero h
  by_cases e : d = day
  · subst e; exact firstW_may h hm
  · obtain ⟨f, hf, hfc⟩ := may_change hm (hno (d - 1) (by omega) (by omega))
    obtain ⟨i, hi, rfl⟩ := List.mem_iff_getElem.1 hf
    rcases bestTo_spec cs fs crane day hd0 fs.length (Nat.le_refl _) with ⟨hb, hn⟩ | ⟨hb, hm2, _, hmin⟩
    · have := hn i hi hi (by omega); rw [hfc, hm] at this; cases this
    · have h1 := hmin i hi hi (by omega) (by rw [hfc]; exact hm)
      have h2 : bestTo cs fs crane day fs.length = d := by
        refine Classical.byContradiction fun hne => ?_
        have := hno _ (Int.le_of_lt hb) (by omega)
        rw [hm2] at this; cases this
      rw [firstW_best h (hno day (by omega) (by omega)) (by omega), h2]
theorem firstW_lost {cs : List Chk} {fs : List Fnd} {crane day : Int} (h : workC cs fs crane day = 0) (hno : ∀ e, day ≤ e → e ≤ 100000 → mayB cs fs crane e = false) : firstW cs fs crane day = (0, 3) := by
  obtain ⟨_, hf, _, hd0, hd1⟩ := workC_zero h
  refine firstW_none h (hno day (by omega) hd1) ?_
  rcases bestTo_spec cs fs crane day hd0 fs.length (Nat.le_refl _) with ⟨hb, _⟩ | ⟨hb, hm2, ⟨i, hi, hex⟩, _⟩
  · omega
  · have hok := okAt hf hi
    unfold Fnd.ok at hok
    have := hno _ (Int.le_of_lt hb) (by omega)
    rw [hm2] at this; cases this

/-! ### The walks -/
set_option maxHeartbeats 4000000 in
theorem spec_l26Code (v : Value) (l : List Chk) (lo hi : Nat) (v2 : Value) (l2 : List Fnd) (lo2 hi2 : Nat) (crane day : Int) (w : World) (h : Chks lo hi w v l) (hl : l.length ≤ 1048576) (hwf : ∀ x ∈ l, x.wf) (h2 : Fnds lo2 hi2 w v2 l2) :
    Calls Try.prog 43 #[v, v2, .int .i64 crane, .int .i64 day] w fun e w' => e = .returned (.int .i64 (workC l l2 crane day)) ∧ Below w.heap.size w w' := by
  have hc := fun w' h' => spec_l26Ok v l lo hi w' h' hwf
  have hf := fun w' h' => spec_l26Found v2 l2 lo2 hi2 w' h'
  have hsl := h
  have hsl2 := h2
  have Hr := Lib.hid (p := workC l l2 crane day = wcode crane day (chksB l) (fndsB l2)) rfl
  obtain ⟨a, cap, rfl, hlen, hh⟩ := h
  obtain ⟨a2, cap2, rfl, hlen2, hh2⟩ := h2
  clear hh hh2 hwf
  generalize hres : workC l l2 crane day = res at *
  clear hres
  generalize chksB l = b1 at *
  generalize fndsB l2 = b2 at *
  unfold wcode at Hr
  cases b1
  · have Hc := Lib.hid hc
    have He : Hid (res = 1) := Lib.hid (by have := Hr.out; simpa using this)
    clear hc hf Hr
    go_enter Try.func43, Try.ntmps43
    go_wp2_with fail
    refine (Hc.out w hsl).mono ?_
    rintro e w1 ⟨rfl, hb1⟩
    go_wp2
    go_ret
    exact ⟨ret_int He.out.symm, hb1⟩
  cases b2
  · have Hc := Lib.hid hc
    have Hf := Lib.hid hf
    have He : Hid (res = 1) := Lib.hid (by have := Hr.out; simpa using this)
    clear hc hf Hr
    go_enter Try.func43, Try.ntmps43
    go_wp2_with fail
    refine (Hc.out w hsl).mono ?_
    rintro e w1 ⟨rfl, hb1⟩
    go_wp2_with fail
    refine (Hf.out _ (hsl2.ext hb1)).mono ?_
    rintro e w2 ⟨rfl, hb2⟩
    have hB := hb1.trans (hb2.mono hb1.size)
    go_wp2
    go_ret
    exact ⟨ret_int He.out.symm, hB⟩
  have hcs : (0 ≤ crane ∧ crane ≤ 5 ∧ 0 ≤ day ∧ day ≤ 100000 ∧ res = 0) ∨ (¬ (0 ≤ crane ∧ crane ≤ 5) ∧ res = 2) ∨ (0 ≤ crane ∧ crane ≤ 5 ∧ ¬ (0 ≤ day ∧ day ≤ 100000) ∧ res = 2) := by
    have := Hr.out
    simp only [and_self, if_true] at this
    split at this <;> omega
  have Hc := Lib.hid hc
  have Hf := Lib.hid hf
  clear hc hf Hr
  rcases hcs with ⟨_, _, _, _, he⟩ | ⟨_, he⟩ | ⟨_, _, _, he⟩
  all_goals
    have He := Lib.hid he
    clear he
    go_enter Try.func43, Try.ntmps43
    go_wp2_with fail
    refine (Hc.out w hsl).mono ?_
    rintro e w1 ⟨rfl, hb1⟩
    go_wp2_with fail
    refine (Hf.out _ (hsl2.ext hb1)).mono ?_
    rintro e w2 ⟨rfl, hb2⟩
    have hB := hb1.trans (hb2.mono hb1.size)
    go_wp2_with (first | (go_at_call 56; first | (refine (spec_In_t _ _ _ _ (by omega) (by omega)).mono ?_; rintro e w' ⟨rfl, rfl⟩) | (refine (spec_In_f _ _ _ _ (by omega)).mono ?_; rintro e w' ⟨rfl, rfl⟩)) | (go_at_call 51; first | (refine (spec_Day_t _ _ (by omega) (by omega)).mono ?_; rintro e w' ⟨rfl, rfl⟩) | (refine (spec_Day_f _ _ (by omega)).mono ?_; rintro e w' ⟨rfl, rfl⟩)))
    go_ret
    exact ⟨ret_int He.out.symm, hB⟩
set_option maxHeartbeats 4000000 in
theorem impl_workCode (v : Value) (l : List Chk) (lo hi : Nat) (v2 : Value) (l2 : List Fnd) (lo2 hi2 : Nat) (crane day : Int) (w : World) (h : Chks lo hi w v l) (hl : l.length ≤ 1048576) (hwf : ∀ x ∈ l, x.wf) (h2 : Fnds lo2 hi2 w v2 l2) :
    Calls Try.prog 41 #[v, v2, .int .i64 crane, .int .i64 day] w fun e w' => e = .returned (.int .i64 (workC l l2 crane day)) ∧ Below w.heap.size w w' := by
  have hc := fun w' h' => impl_ValidChecks v l lo hi w' h' hl hwf
  have hf := fun w' h' => impl_ValidFindings v2 l2 lo2 hi2 w' h'
  have hsl := h
  have hsl2 := h2
  have Hr := Lib.hid (p := workC l l2 crane day = wcode crane day (chksB l) (fndsB l2)) rfl
  obtain ⟨a, cap, rfl, hlen, hh⟩ := h
  obtain ⟨a2, cap2, rfl, hlen2, hh2⟩ := h2
  clear hh hh2 hwf
  generalize hres : workC l l2 crane day = res at *
  clear hres
  generalize chksB l = b1 at *
  generalize fndsB l2 = b2 at *
  unfold wcode at Hr
  cases b1
  · have Hc := Lib.hid hc
    have He : Hid (res = 1) := Lib.hid (by have := Hr.out; simpa using this)
    clear hc hf Hr
    go_enter Try.func41, Try.ntmps41
    go_wp2_with fail
    refine (Hc.out w hsl).mono ?_
    rintro e w1 ⟨rfl, hb1⟩
    go_wp2
    go_ret
    exact ⟨ret_int He.out.symm, hb1⟩
  cases b2
  · have Hc := Lib.hid hc
    have Hf := Lib.hid hf
    have He : Hid (res = 1) := Lib.hid (by have := Hr.out; simpa using this)
    clear hc hf Hr
    go_enter Try.func41, Try.ntmps41
    go_wp2_with fail
    refine (Hc.out w hsl).mono ?_
    rintro e w1 ⟨rfl, hb1⟩
    go_wp2_with fail
    refine (Hf.out _ (hsl2.ext hb1)).mono ?_
    rintro e w2 ⟨rfl, hb2⟩
    have hB := hb1.trans (hb2.mono hb1.size)
    go_wp2
    go_ret
    exact ⟨ret_int He.out.symm, hB⟩
  have hcs : (0 ≤ crane ∧ crane ≤ 5 ∧ 0 ≤ day ∧ day ≤ 100000 ∧ res = 0) ∨ (¬ (0 ≤ crane ∧ crane ≤ 5) ∧ res = 2) ∨ (0 ≤ crane ∧ crane ≤ 5 ∧ ¬ (0 ≤ day ∧ day ≤ 100000) ∧ res = 2) := by
    have := Hr.out
    simp only [and_self, if_true] at this
    split at this <;> omega
  have Hc := Lib.hid hc
  have Hf := Lib.hid hf
  clear hc hf Hr
  rcases hcs with ⟨_, _, _, _, he⟩ | ⟨_, he⟩ | ⟨_, _, _, he⟩
  all_goals
    have He := Lib.hid he
    clear he
    go_enter Try.func41, Try.ntmps41
    go_wp2_with fail
    refine (Hc.out w hsl).mono ?_
    rintro e w1 ⟨rfl, hb1⟩
    go_wp2_with fail
    refine (Hf.out _ (hsl2.ext hb1)).mono ?_
    rintro e w2 ⟨rfl, hb2⟩
    have hB := hb1.trans (hb2.mono hb1.size)
    go_wp2_with (first | (go_at_call 59; first | (refine (impl_within_t _ _ _ _ (by omega) (by omega)).mono ?_; rintro e w' ⟨rfl, rfl⟩) | (refine (impl_within_f _ _ _ _ (by omega)).mono ?_; rintro e w' ⟨rfl, rfl⟩)) | (go_at_call 48; first | (refine (impl_isDay_t _ _ (by omega) (by omega)).mono ?_; rintro e w' ⟨rfl, rfl⟩) | (refine (impl_isDay_f _ _ (by omega)).mono ?_; rintro e w' ⟨rfl, rfl⟩)))
    go_ret
    exact ⟨ret_int He.out.symm, hB⟩

set_option maxHeartbeats 4000000 in
theorem spec_MayWork (v : Value) (l : List Chk) (lo hi : Nat) (v2 : Value) (l2 : List Fnd) (lo2 hi2 : Nat) (crane day : Int) (w : World) (h : Chks lo hi w v l) (hl : l.length ≤ 1048576) (hwf : ∀ x ∈ l, x.wf) (h2 : Fnds lo2 hi2 w v2 l2) (hl2 : l2.length ≤ 1048576) (_hwf2 : ∀ x ∈ l2, x.wf) (_hc : I64 crane) (_hd : I64 day) :
    Calls Try.prog 11 #[v, v2, .int .i64 crane, .int .i64 day] w fun e w' => e = .returned (.tuple #[.bool (mayW l l2 crane day).1, .int .i64 (mayW l l2 crane day).2]) ∧ Below w.heap.size w w' := by
  have hcode := Lib.hid (spec_l26Code v l lo hi v2 l2 lo2 hi2 crane day w h hl hwf h2)
  have hsl := h
  have hsl2 := h2
  obtain ⟨a, cap, rfl, hlen, hh⟩ := h
  obtain ⟨a2, cap2, rfl, hlen2, hh2⟩ := h2
  clear hh hh2 hwf _hwf2
  by_cases hz : workC l l2 crane day = 0
  · obtain ⟨h1, h2, h3, h4⟩ := workC_zero hz
    have hmay := Lib.hid (fun w' hw1 hw2 => spec_l26May (.slice a l.length cap) l lo hi (.slice a2 l2.length cap2) l2 lo2 hi2 crane day w' hw1 hl (fun k hk => chksOk.row h1 hk) hw2 hl2 (fun k hk => okAt h2 hk) (by omega) (by omega))
    have hcode2 := hcode.out
    rw [hz] at hcode2
    rw [mayW_0 hz]
    have Hcode := Lib.hid hcode2
    clear hcode hcode2 h1 h2 h3 h4 hz
    go_enter Try.func11, Try.ntmps11
    go_wp2_with fail
    refine Hcode.out.mono ?_
    rintro e w1 ⟨rfl, hb1⟩
    go_wp2_with fail
    refine (hmay.out _ (hsl.ext hb1) (hsl2.ext hb1)).mono ?_
    rintro e w2 ⟨rfl, hb2⟩
    have hB := hb1.trans (hb2.mono hb1.size)
    go_wp2
    go_ret2
    exact ⟨rfl, hB⟩
  · rw [mayW_n hz]
    generalize workC l l2 crane day = c at *
    have hne : (c != 0) = true := by rw [bne_iff_ne]; exact hz
    clear hz
    go_enter Try.func11, Try.ntmps11
    go_wp2_with fail
    refine hcode.out.mono ?_
    rintro e w1 ⟨rfl, hb1⟩
    go_wp2
    go_ret2
    exact ⟨rfl, hb1⟩
set_option maxHeartbeats 4000000 in
theorem impl_MayWork (v : Value) (l : List Chk) (lo hi : Nat) (v2 : Value) (l2 : List Fnd) (lo2 hi2 : Nat) (crane day : Int) (w : World) (h : Chks lo hi w v l) (hl : l.length ≤ 1048576) (hwf : ∀ x ∈ l, x.wf) (h2 : Fnds lo2 hi2 w v2 l2) (hl2 : l2.length ≤ 1048576) (_hwf2 : ∀ x ∈ l2, x.wf) (_hc : I64 crane) (_hd : I64 day) :
    Calls Try.prog 10 #[v, v2, .int .i64 crane, .int .i64 day] w fun e w' => e = .returned (.tuple #[.bool (mayW l l2 crane day).1, .int .i64 (mayW l l2 crane day).2]) ∧ Below w.heap.size w w' := by
  have hcode := Lib.hid (impl_workCode v l lo hi v2 l2 lo2 hi2 crane day w h hl hwf h2)
  have hsl := h
  have hsl2 := h2
  obtain ⟨a, cap, rfl, hlen, hh⟩ := h
  obtain ⟨a2, cap2, rfl, hlen2, hh2⟩ := h2
  clear hh hh2 hwf _hwf2
  by_cases hz : workC l l2 crane day = 0
  · obtain ⟨h1, h2, h3, h4⟩ := workC_zero hz
    have hmay := Lib.hid (fun w' hw1 hw2 => impl_mayWork (.slice a l.length cap) l lo hi (.slice a2 l2.length cap2) l2 lo2 hi2 crane day w' hw1 hl (fun k hk => chksOk.row h1 hk) hw2 hl2 (fun k hk => okAt h2 hk) (by omega) (by omega))
    have hcode2 := hcode.out
    rw [hz] at hcode2
    rw [mayW_0 hz]
    have Hcode := Lib.hid hcode2
    clear hcode hcode2 h1 h2 h3 h4 hz
    go_enter Try.func10, Try.ntmps10
    go_wp2_with fail
    refine Hcode.out.mono ?_
    rintro e w1 ⟨rfl, hb1⟩
    go_wp2_with fail
    refine (hmay.out _ (hsl.ext hb1) (hsl2.ext hb1)).mono ?_
    rintro e w2 ⟨rfl, hb2⟩
    have hB := hb1.trans (hb2.mono hb1.size)
    go_wp2
    go_ret2
    exact ⟨rfl, hB⟩
  · rw [mayW_n hz]
    generalize workC l l2 crane day = c at *
    have hne : (c != 0) = true := by rw [bne_iff_ne]; exact hz
    clear hz
    go_enter Try.func10, Try.ntmps10
    go_wp2_with fail
    refine hcode.out.mono ?_
    rintro e w1 ⟨rfl, hb1⟩
    go_wp2
    go_ret2
    exact ⟨rfl, hb1⟩

set_option maxHeartbeats 8000000 in
theorem impl_FirstWorkDay (v : Value) (l : List Chk) (lo hi : Nat) (v2 : Value) (l2 : List Fnd) (lo2 hi2 : Nat) (crane day : Int) (w : World) (h : Chks lo hi w v l) (hl : l.length ≤ 1048576) (hwf : ∀ x ∈ l, x.wf) (h2 : Fnds lo2 hi2 w v2 l2) (hl2 : l2.length ≤ 1048576) (_hwf2 : ∀ x ∈ l2, x.wf) (_hc : I64 crane) (_hd : I64 day) :
    Calls Try.prog 8 #[v, v2, .int .i64 crane, .int .i64 day] w fun e w' => e = .returned (.tuple #[.int .i64 (firstW l l2 crane day).1, .int .i64 (firstW l l2 crane day).2]) ∧ Below w.heap.size w w' := by
  have hcode := Lib.hid (impl_workCode v l lo hi v2 l2 lo2 hi2 crane day w h hl hwf h2)
  have hsl := h
  have hsl2 := h2
  obtain ⟨a, cap, rfl, hlen, hh⟩ := h
  obtain ⟨a2, cap2, rfl, hlen2, hh2⟩ := h2
  clear hh hh2 hwf _hwf2
  by_cases hz : workC l l2 crane day = 0
  case neg =>
    rw [firstW_n hz]
    generalize workC l l2 crane day = c at *
    have hne : (c != 0) = true := by rw [bne_iff_ne]; exact hz
    clear hz
    go_enter Try.func8, Try.ntmps8
    go_wp2_with fail
    refine hcode.out.mono ?_
    rintro e w1 ⟨rfl, hb1⟩
    go_wp2
    go_ret2
    exact ⟨rfl, hb1⟩
  obtain ⟨h1, h2, h3, h4⟩ := workC_zero hz
  have hmay := Lib.hid (fun w' d (hd0 : -200000 ≤ d) (hd1 : d ≤ 200000) hw1 hw2 => impl_mayWork (.slice a l.length cap) l lo hi (.slice a2 l2.length cap2) l2 lo2 hi2 crane d w' hw1 hl (fun k hk => chksOk.row h1 hk) hw2 hl2 (fun k hk => okAt h2 hk) hd0 hd1)
  have hcode2 := hcode.out
  rw [hz] at hcode2
  have Hcode := Lib.hid hcode2
  have Hz := Lib.hid hz
  obtain ⟨hd0, hd1⟩ := h4
  clear hcode hcode2 h1 h2 h3 hz
  go_enter Try.func8, Try.ntmps8
  go_wp2_with fail
  refine Hcode.out.mono ?_
  rintro e w1 ⟨rfl, hb1⟩
  go_wp2
  go_loopw [3] (fun s wr => ∃ d : Int, s = .int .i64 d ∧ day ≤ d ∧ d ≤ 100001 ∧ Below w.heap.size w wr ∧ Hid (∀ e, day ≤ e → e < d → mayB l l2 crane e = false)) (fun s _ => (100001 - intOf s).toNat)
  case atStart => exact ⟨day, rfl, by omega, by omega, hb1, Lib.hid (fun e h1 h2 => absurd h2 (by omega))⟩
  case round =>
    obtain ⟨d, rfl, hdd, hde, hB, hno⟩ := hrel
    by_cases hlt : d ≤ 100000
    · have hcall := hmay.out wr d (by omega) (by omega) (hsl.ext hB) (hsl2.ext hB)
      cases hm : mayB l l2 crane d
      · rw [hm] at hcall
        have Hcall := Lib.hid hcall
        have Hm := Lib.hid hm
        clear hcall hm
        go_wp2_with (go_at_call 42; refine Hcall.out.mono ?_; rintro e w2 ⟨rfl, hb2⟩)
        go_roundw
        case rel => exact ⟨d + 1, rfl, by omega, by omega, hB.trans (hb2.mono hB.size), Lib.hid (fun e h1 h2 => by
          by_cases he : e = d
          · rw [he]; exact Hm.out
          · exact hno.out e h1 (by omega))⟩
        case measure => simp [intOf]; omega
      · rw [hm] at hcall
        have Hcall := Lib.hid hcall
        have Hf := Lib.hid (firstW_found Hz.out hdd hno.out hm)
        clear hcall hm
        go_wp2_with (go_at_call 42; refine Hcall.out.mono ?_; rintro e w2 ⟨rfl, hb2⟩)
        go_ret2
        exact ⟨by rw [Hf.out]; rfl, hB.trans (hb2.mono hB.size)⟩
    · have Hf := Lib.hid (firstW_lost Hz.out (fun e h1 h2 => hno.out e h1 (by omega)))
      go_wp2
      go_ret2
      exact ⟨by rw [Hf.out]; rfl, hB⟩
end Go.Proofs.Ytmkhapgkiecmaaa
