/- PlanChecks, in both packages. -/
import Derived.Test.YtfnmmfopbfmkaaaDue
import Derived.Test.YtfnmmfopbfmkaaaOver
import Derived.Test.YtfnmmfopbfmkaaaSS
namespace Go.Proofs.Ytfnmmfopbfmkaaa
open Go.RowKit

def daysF (e u : Int) : Nat → Int → List Int
  | 0, _ => []
  | f + 1, d => if d ≤ u then d :: daysF e u f (d + e) else []
theorem daysF_fuel {e u : Int} (he : 1 ≤ e) : ∀ (f g : Nat) (d : Int), u - d < f → u - d < g → daysF e u f d = daysF e u g d
  | 0, g, d, hf, _ => by
    cases g with
    | zero => rfl
    | succ g => rw [daysF, daysF, if_neg (by omega)]
  | f + 1, 0, d, _, hg => by rw [daysF, daysF, if_neg (by omega)]
  | f + 1, g + 1, d, hf, hg => by
    rw [daysF, daysF]
    by_cases h : d ≤ u
    · rw [if_pos h, if_pos h, daysF_fuel he f g (d + e) (by omega) (by omega)]
    · rw [if_neg h, if_neg h]
def daysTo (e u d : Int) : List Int := daysF e u (u + 1 - d).toNat d
theorem daysTo_step {e u d : Int} (he : 1 ≤ e) (h : d ≤ u) : daysTo e u d = d :: daysTo e u (d + e) := by
  unfold daysTo
  rw [show (u + 1 - d).toNat = (u - d).toNat + 1 by omega, daysF, if_pos h, daysF_fuel he _ (u + 1 - (d + e)).toNat (d + e) (by omega) (by omega)]
theorem daysTo_end {e u d : Int} (h : u < d) : daysTo e u d = [] := by
  unfold daysTo
  rw [show (u + 1 - d).toNat = 0 by omega, daysF]
def planRow (u : Int) (x : Chk) : List Int := daysTo x.every u (x.last + x.every)
def planL (l : List Chk) (u : Int) : List (List Int) := l.map (planRow u)
open Classical in
noncomputable def plan (l : List Chk) (u : Int) : List (List Int) × Int := if chksB l = true then (if 0 ≤ u ∧ u ≤ 100000 then (if totSS (planL l u) ≤ 1000 then (planL l u, 0) else ([], 5)) else ([], 2)) else ([], 1)
theorem plan_1 {l : List Chk} {u : Int} (h : chksB l = false) : plan l u = ([], 1) := if_neg (by simp [h])
theorem plan_2 {l : List Chk} {u : Int} (h : chksB l = true) (h2 : ¬ (0 ≤ u ∧ u ≤ 100000)) : plan l u = ([], 2) := by unfold plan; rw [if_pos h, if_neg h2]
theorem plan_5 {l : List Chk} {u : Int} (h : chksB l = true) (h2 : 0 ≤ u ∧ u ≤ 100000) (h3 : ¬ totSS (planL l u) ≤ 1000) : plan l u = ([], 5) := by unfold plan; rw [if_pos h, if_pos h2, if_neg h3]
theorem plan_0 {l : List Chk} {u : Int} (h : chksB l = true) (h2 : 0 ≤ u ∧ u ≤ 100000) (h3 : totSS (planL l u) ≤ 1000) : plan l u = (planL l u, 0) := by unfold plan; rw [if_pos h, if_pos h2, if_pos h3]
theorem plan_tot (l : List Chk) (u : Int) : totSS (plan l u).1 ≤ 1000 := by
  cases h : chksB l
  · rw [plan_1 h]; simp [totSS]
  · by_cases h2 : 0 ≤ u ∧ u ≤ 100000
    · by_cases h3 : totSS (planL l u) ≤ 1000
      · rw [plan_0 h h2 h3]; exact h3
      · rw [plan_5 h h2 h3]; simp [totSS]
    · rw [plan_2 h h2]; simp [totSS]
theorem planL_take (l : List Chk) (u : Int) (k : Nat) (h : k < l.length) : (planL l u).take (k + 1) = (planL l u).take k ++ [planRow u l[k]] := by
  have h' : k < (planL l u).length := by simpa [planL] using h
  rw [List.take_succ_eq_append_getElem h']
  simp [planL]
theorem planL_len (l : List Chk) (u : Int) : (planL l u).length = l.length := by simp [planL]
theorem tot_take_row (l : List Chk) (u : Int) {k : Nat} (h : k < l.length) : totSS ((planL l u).take k) + (planRow u l[k]).length ≤ totSS (planL l u) := by
  have h1 := totSS_le (planL l u) (k + 1)
  rw [planL_take l u k h, totSS_append] at h1
  simpa [totSS] using h1

theorem daysF_len (e u : Int) : ∀ (f : Nat) (d : Int), (daysF e u f d).length ≤ f
  | 0, _ => Nat.le_refl _
  | f + 1, d => by
    rw [daysF]
    split
    · rw [List.length_cons]; have := daysF_len e u f (d + e); omega
    · simp
theorem planRow_len (u : Int) (x : Chk) (h : 0 ≤ x.last + x.every) (hu : u ≤ 100000) : (planRow u x).length ≤ 100001 := by
  have := daysF_len x.every u (u + 1 - (x.last + x.every)).toNat (x.last + x.every)
  unfold planRow daysTo
  omega

/-- A slice of slices and a code. -/
def SSRes (w : World) (L : List (List Int)) (code : Int) (e : Ending) (w' : World) : Prop :=
  ∃ v' rows, e = .returned (.tuple #[v', .int .i64 code]) ∧ SSw 1 intCells w.heap.size w'.heap.size w' v' rows L ∧ Below w.heap.size w w'
theorem ssw_nil {α : Type} {n : Nat} {c : α → List Value} {lo hi : Nat} {w : World} : SSw n c lo hi w (.slice none 0 0) [] ([] : List (List α)) :=
  ⟨slw_nil, rfl, fun _ _ _ h => by simp at h, fun _ _ _ _ _ _ h => by simp at h, fun _ _ _ h => by simp at h⟩
theorem info_SS : (Try.prog.info? 45).map (fun i => (i.zero.map (·.cells.size), i.size, i.bytes)) = some (some 1, 1, 24) := by kernel_rfl

set_option maxRecDepth 100000 in
set_option maxHeartbeats 8000000 in
theorem spec_PlanChecks (v : Value) (l : List Chk) (lo hi : Nat) (u : Int) (w : World) (h : Chks lo hi w v l) (_hl : l.length ≤ 1048576) (hwf : ∀ x ∈ l, x.wf) (_hd : I64 u) :
    Calls Try.prog 53 #[v, .int .i64 u] w (SSRes w (plan l u).1 (plan l u).2) := by
  have hsl := h
  have Hwf := Lib.hid hwf
  obtain ⟨a, cap, rfl, hlen, hh⟩ := h
  clear hh hwf
  have hc := fun w' h' => spec_l26Ok (.slice a l.length cap) l lo hi w' h' Hwf.out
  cases hb : chksB l
  · rw [plan_1 hb]
    rw [hb] at hc
    have Hc := Lib.hid hc
    clear hc hb
    go_enter Try.func53, Try.ntmps53
    go_wp2_with fail
    refine (Hc.out w hsl).mono ?_
    rintro e w1 ⟨rfl, hb1⟩
    go_wp2
    go_ret2
    exact ⟨_, _, rfl, ssw_nil, hb1⟩
  have Hb := Lib.hid hb
  rw [hb] at hc
  have Hc := Lib.hid hc
  clear hc hb
  by_cases hd : 0 ≤ u ∧ u ≤ 100000
  case neg =>
    rw [plan_2 Hb.out hd]
    go_enter Try.func53, Try.ntmps53
    go_wp2_with fail
    refine (Hc.out w hsl).mono ?_
    rintro e w1 ⟨rfl, hb1⟩
    go_wp2_with (go_at_call 78; refine (spec_Day_f _ _ (by omega)).mono ?_; rintro e w' ⟨rfl, rfl⟩)
    go_ret2
    exact ⟨_, _, rfl, ssw_nil, hb1⟩
  case pos =>
  have Hd := Lib.hid hd
  obtain ⟨hd1, hd2⟩ := hd
  have Hrow := Lib.hid (fun k (hk : k < l.length) => chksOk.row Hb.out hk)
  have Hl30 : l.length ≤ 30 := by have := (chksB_iff.1 Hb.out).2; exact this
  go_enter Try.func53, Try.ntmps53
  go_wp2_with fail
  refine (Hc.out w hsl).mono ?_
  rintro e w1 ⟨rfl, hb1⟩
  have hbs := hb1.size
  go_wp2_with (go_at_call 78; refine (spec_Day_t _ _ (by omega) (by omega)).mono ?_; rintro e w' ⟨rfl, rfl⟩)
  go_loopw [6, 7, 8] (fun o n i wr => ∃ (k N : Nat) (rows : List SV), k ≤ l.length ∧ i = .int .i64 k ∧ n = .int .i64 N ∧ N ≤ 1000 ∧ Hid (N = totSS ((planL l u).take k)) ∧ Below w.heap.size w wr ∧ Hid (OwnSS 1 intCells w.heap.size 45 2 wr o rows ((planL l u).take k))) (fun _ _ i _ => l.length - (intOf i).toNat)
  case atStart => exact ⟨0, 0, [], Nat.zero_le _, rfl, rfl, by omega, Lib.hid (by simp [totSS]), hb1.alloc hbs _, Lib.hid (by simpa using ownSS_nil (own_empty w1 _ _ hbs))⟩
  case round =>
    obtain ⟨k, N, rows, hk, rfl, rfl, hN, hNt, hB, hown⟩ := hrel
    by_cases hlt : k < l.length
    · obtain ⟨b, off, rfl⟩ := hsl.addr (by omega)
      have hok := Hrow.out k hlt
      have Ht := Lib.hid (tot_take_row l u hlt)
      have Htk := Lib.hid (planL_take l u k hlt)
      obtain ⟨_, _, ⟨h3, h4⟩, ⟨h5, h6⟩⟩ := hok
      have hsum : IntKind.i64.wrap (l[k].last + l[k].every) = l[k].last + l[k].every := IntWalk.i64_in _ (by omega)
      have hB0 := hB.alloc hB.size (.cells #[] 2)
      have hcs := Lib.hid (fun w' hB' => Chks.at (hsl.ext (w' := w') hB').get hlt)
      obtain ⟨c0, c1, c2, c3⟩ := hcs.out _ hB0
      clear hsl
      generalize l[k] = x at *
      have hrow : Hid (planRow u x = daysTo x.every u (x.last + x.every)) := Lib.hid rfl
      go_wp2_with fail
      go_quiet (fail)
      go_wp2
      have hB0q := Lib.hid hB0
      have hown0 : Hid (Own 1 intCells wr.heap.size 2 (wr.alloc (.cells #[] 2)) (.slice (some ⟨wr.heap.size, 0, none⟩) 0 0) []) := Lib.hid (own_empty wr _ _ (Nat.le_refl _))
      clear hB0 c0 c1 c2 c3
      obtain ⟨wo, rfl⟩ : ∃ wo : World, wo = wr := ⟨_, rfl⟩
      go_loopw [7, 9, 10] (fun n dx dd wr => ∃ (M : Nat) (D : List Int) (d : Int) (dv : Value), dx = dv ∧ n = .int .i64 M ∧ dd = .int .i64 d ∧ M ≤ 1000 ∧ Hid (M = N + D.length) ∧ Hid (planRow u x = D ++ daysTo x.every u d) ∧ (1 ≤ d ∧ d ≤ 101000) ∧ Below wo.heap.size wo wr ∧ Hid (Own 1 intCells wo.heap.size 2 wr dv D)) (fun _ _ dd _ => (u + 1 - intOf dd).toNat)
      case atStart => exact ⟨N, [], x.last + x.every, _, rfl, rfl, rfl, hN, Lib.hid (by simp), Lib.hid (by rw [hrow.out]; rfl), ⟨by omega, by omega⟩, below_dN ((Below.refl _ _).alloc (Nat.le_refl _) _) _, Lib.hid (hown0.out.below (below_dN (Below.refl _ _) _))⟩
      case round =>
        obtain ⟨M, D, d, dv, hdx, rfl, rfl, hM, hMD, hpr, ⟨hd3, hd4⟩, hB2, hdv⟩ := hrel
        have hdx := hdx.symm
        subst hdx
        have hDl : D.length ≤ 1000 := by have := hMD.out; omega
        have hBs2 := hB2.size
        have hB' := hB.trans (hB2.mono hB.size)
        by_cases hdu : d ≤ u
        · have hst : Hid (planRow u x = (D ++ [d]) ++ daysTo x.every u (d + x.every)) := Lib.hid (by rw [hpr.out, daysTo_step h3 hdu, List.append_assoc]; rfl)
          have hsum2 : IntKind.i64.wrap (d + x.every) = d + x.every := IntWalk.i64_in _ (by omega)
          by_cases hM1 : M + 1 ≤ 1000
          · have hMd : decide ((1000 : Int) < (M : Int) + 1) = false := decide_eq_false (by omega)
            go_wp2_with (at_builtin; refine wpList_app1 (c := intCells) (bytes := 8) rfl _ _ 45 2 rfl Try.underlying45 info_int64 (by omega) intCells_len intCells_one wo.heap.size D d _ rfl _ rfl hdv.out rfl (by omega) (by omega) hBs2 ?_; intro v' w3 hown3 hg3; have hB3 := hdv.out.app hB2 (Nat.le_refl _) hBs2 hg3; have hB3w := hB.trans (hB3.mono hB.size); obtain ⟨c0, c1, c2, c3⟩ := hcs.out _ hB3w)
            go_roundw
            case rel => exact ⟨M + 1, D ++ [d], d + x.every, _, rfl, by go_num, rfl, hM1, Lib.hid (by have := hMD.out; rw [List.length_append, List.length_singleton]; omega), hst, ⟨by omega, by omega⟩, hB3, Lib.hid hown3⟩
            case measure => simp [intOf]; omega
          · have hMd : decide ((1000 : Int) < (M : Int) + 1) = true := decide_eq_true (by omega)
            have h5 : Hid (plan l u = ([], 5)) := Lib.hid (plan_5 Hb.out Hd.out (by
              have h6 := Ht.out
              rw [hst.out, List.length_append, List.length_append, List.length_singleton] at h6
              have := hMD.out; have := hNt.out
              omega))
            go_wp2_with (at_builtin; refine wpList_app1 (c := intCells) (bytes := 8) rfl _ _ 45 2 rfl Try.underlying45 info_int64 (by omega) intCells_len intCells_one wo.heap.size D d _ rfl _ rfl hdv.out rfl (by omega) (by omega) hBs2 ?_; intro v' w3 hown3 hg3; have hB3 := hdv.out.app hB2 (Nat.le_refl _) hBs2 hg3; have hB3w := hB.trans (hB3.mono hB.size); obtain ⟨c0, c1, c2, c3⟩ := hcs.out _ hB3w)
            go_ret2
            rw [h5.out]
            exact ⟨_, _, rfl, ssw_nil, hB3w⟩
        · have hrw : Hid (planRow u x = D) := Lib.hid (by rw [hpr.out, daysTo_end (by omega), List.append_nil])
          have hl30 : rows.length ≤ 30 := by have := hown.out.len; rw [List.length_take] at this; omega
          obtain ⟨da, dn, dc, rfl⟩ : ∃ da dn dc, dv = .slice da dn dc := by
            obtain ⟨_, ⟨h, _⟩ | ⟨g, cap, cur, h, _⟩⟩ := hdv.out
            · exact ⟨_, _, _, h⟩
            · exact ⟨_, _, _, h⟩
          have hpush := Lib.hid (fun v' w3 h1 h2 => OwnSS.push (te := 45) (r := ⟨da, dn, dc⟩) (by decide) hown.out hB.size hB2 hdv.out (v' := v') (w2 := w3) h1 h2)
          have hown2 := hown.out.below hB2
          have Hown2 := Lib.hid hown2
          go_wp2_with (at_builtin; refine wpList_app1 (c := one) (bytes := 24) rfl _ _ 67 45 rfl Try.underlying67 info_SS (by omega) one_len one_one w.heap.size rows ⟨da, dn, dc⟩ _ rfl _ rfl Hown2.out.out rfl (by omega) (by omega) hB'.size ?_; intro v' w3 hown3 hg3; have hB3 := Hown2.out.out.app hB' (Nat.le_refl _) hB'.size hg3)
          have Hown3 := Lib.hid (hpush.out _ _ hown3 hg3)
          go_roundw
          case rel => exact ⟨k + 1, M, rows ++ [⟨da, dn, dc⟩], by omega, by go_num, rfl, hM, Lib.hid (by have := hMD.out; rw [Htk.out, totSS_append, hrw.out]; simp [totSS]; have := hNt.out; omega), hB3, Lib.hid (by rw [Htk.out, hrw.out]; exact Hown3.out)⟩
          case measure => simp [intOf]; omega
    · have : k = l.length := by omega
      subst this
      have Hfin := Lib.hid (hown.out.w intCells_len (by decide))
      have hpl := Lib.hid (show (planL l u).take l.length = planL l u by rw [← planL_len l u, List.take_length])
      have h0 : Hid (plan l u = (planL l u, 0)) := Lib.hid (plan_0 Hb.out Hd.out (by have := hNt.out; rw [hpl.out] at this; omega))
      go_wp2
      go_ret2
      rw [h0.out]
      exact ⟨_, _, rfl, by rw [← hpl.out]; exact Hfin.out, hB⟩
set_option maxRecDepth 100000 in
set_option maxHeartbeats 8000000 in
theorem impl_PlanChecks (v : Value) (l : List Chk) (lo hi : Nat) (u : Int) (w : World) (h : Chks lo hi w v l) (_hl : l.length ≤ 1048576) (hwf : ∀ x ∈ l, x.wf) (_hd : I64 u) :
    Calls Try.prog 54 #[v, .int .i64 u] w (SSRes w (plan l u).1 (plan l u).2) := by
  have hsl := h
  have Hwf := Lib.hid hwf
  obtain ⟨a, cap, rfl, hlen, hh⟩ := h
  clear hh hwf
  have hc := fun w' h' => impl_ValidChecks (.slice a l.length cap) l lo hi w' h' _hl Hwf.out
  cases hb : chksB l
  · rw [plan_1 hb]
    rw [hb] at hc
    have Hc := Lib.hid hc
    clear hc hb
    go_enter Try.func54, Try.ntmps54
    go_wp2_with fail
    refine (Hc.out w hsl).mono ?_
    rintro e w1 ⟨rfl, hb1⟩
    go_wp2
    go_ret2
    exact ⟨_, _, rfl, ssw_nil, hb1⟩
  have Hb := Lib.hid hb
  rw [hb] at hc
  have Hc := Lib.hid hc
  clear hc hb
  by_cases hd : 0 ≤ u ∧ u ≤ 100000
  case neg =>
    rw [plan_2 Hb.out hd]
    go_enter Try.func54, Try.ntmps54
    go_wp2_with fail
    refine (Hc.out w hsl).mono ?_
    rintro e w1 ⟨rfl, hb1⟩
    go_wp2_with (go_at_call 63; refine (impl_isDay_f _ _ (by omega)).mono ?_; rintro e w' ⟨rfl, rfl⟩)
    go_ret2
    exact ⟨_, _, rfl, ssw_nil, hb1⟩
  case pos =>
  have Hd := Lib.hid hd
  obtain ⟨hd1, hd2⟩ := hd
  have Hrow := Lib.hid (fun k (hk : k < l.length) => chksOk.row Hb.out hk)
  have Hl30 : l.length ≤ 30 := by have := (chksB_iff.1 Hb.out).2; exact this
  go_enter Try.func54, Try.ntmps54
  go_wp2_with fail
  refine (Hc.out w hsl).mono ?_
  rintro e w1 ⟨rfl, hb1⟩
  have hbs := hb1.size
  go_wp2_with (go_at_call 63; refine (impl_isDay_t _ _ (by omega) (by omega)).mono ?_; rintro e w' ⟨rfl, rfl⟩)
  go_loopw [6, 7, 22] (fun o n i wr => ∃ (k N : Nat) (rows : List SV), k ≤ l.length ∧ i = .int .i64 k ∧ n = .int .i64 N ∧ N ≤ 200000 * k ∧ Hid (N = totSS ((planL l u).take k)) ∧ Below w.heap.size w wr ∧ Hid (OwnSS 1 intCells w.heap.size 45 2 wr o rows ((planL l u).take k))) (fun _ _ i _ => l.length - (intOf i).toNat)
  case atStart => exact ⟨0, 0, [], Nat.zero_le _, rfl, rfl, by omega, Lib.hid (by simp [totSS]), hb1, Lib.hid (by simpa using ownSS_nil (own_nil _ _ _))⟩
  case round =>
    obtain ⟨k, N, rows, hk, rfl, rfl, hN, hNt, hB, hown⟩ := hrel
    by_cases hlt : k < l.length
    · obtain ⟨b, off, rfl⟩ := hsl.addr (by omega)
      have hok := Hrow.out k hlt
      have Ht := Lib.hid (tot_take_row l u hlt)
      have Htk := Lib.hid (planL_take l u k hlt)
      obtain ⟨_, _, ⟨h3, h4⟩, ⟨h5, h6⟩⟩ := hok
      obtain ⟨c0, c1, c2, c3⟩ := Chks.at (hsl.ext hB).get hlt
      clear hsl
      generalize l[k] = x at *
      have hrow : Hid (planRow u x = daysTo x.every u (x.last + x.every)) := Lib.hid rfl
      have hq := Lib.hid (fun w => impl_due x w (by omega))
      have hBs := hB.size
      go_wp2_with fail
      refine (hq.out _).mono ?_
      rintro e w2 ⟨rfl, hb2⟩
      have hBx : Below wr.heap.size wr w2 := ((Below.refl _ _).alloc (Nat.le_refl _) _).trans (hb2.mono (by simp))
      have hltx : wr.heap.size < w2.heap.size := Nat.lt_of_lt_of_le (by simp) hb2.size
      have e2 : w2.cell? ⟨wr.heap.size, 2, none⟩ = some (.int .i64 x.every) := (hb2.cell (p := ⟨wr.heap.size, 2, none⟩) (by simp)).trans (World.cell?_alloc_mark wr _ _ (0, 0) 2)
      have He2 := Lib.hid (fun w' (hB : Below w2.heap.size w2 w') => (hB.cell (p := ⟨wr.heap.size, 2, none⟩) hltx).trans e2)
      have hplen := Lib.hid (planRow_len u x (by omega) (by omega))
      clear e2 hb2 c0 c1 c2 c3
      obtain ⟨wo, rfl⟩ : ∃ wo : World, wo = wr := ⟨_, rfl⟩
      go_wp2
      go_loopw [10, 11] (fun dx dd wr => ∃ (D : List Int) (d : Int) (dv : Value), dx = dv ∧ dd = .int .i64 d ∧ Hid (planRow u x = D ++ daysTo x.every u d) ∧ (1 ≤ d ∧ d ≤ 101000) ∧ Below w2.heap.size w2 wr ∧ Hid (Own 1 intCells w2.heap.size 2 wr dv D)) (fun _ dd _ => (u + 1 - intOf dd).toNat)
      case atStart => exact ⟨[], x.last + x.every, _, rfl, rfl, Lib.hid (by rw [hrow.out]; rfl), ⟨by omega, by omega⟩, Below.refl _ _, Lib.hid (own_nil _ _ _)⟩
      case round =>
        obtain ⟨D, d, dv, hdx, rfl, hpr, ⟨hd3, hd4⟩, hB2, hdv⟩ := hrel
        have hdx := hdx.symm
        subst hdx
        have hDl : D.length ≤ 100001 := by have h1 := hplen.out; rw [hpr.out, List.length_append] at h1; omega
        have hBs2 := hB2.size
        have hBo := hBx.trans (hB2.mono hBx.size)
        have hB' := hB.trans (hBo.mono hB.size)
        have e2 := He2.out _ hB2
        by_cases hdu : d ≤ u
        · have hst : Hid (planRow u x = (D ++ [d]) ++ daysTo x.every u (d + x.every)) := Lib.hid (by rw [hpr.out, daysTo_step h3 hdu, List.append_assoc]; rfl)
          have hsum2 : IntKind.i64.wrap (d + x.every) = d + x.every := IntWalk.i64_in _ (by omega)
          go_wp2_with (at_builtin; refine wpList_app1 (c := intCells) (bytes := 8) rfl _ _ 45 2 rfl Try.underlying45 info_int64 (by omega) intCells_len intCells_one w2.heap.size D d _ rfl _ rfl hdv.out rfl (by omega) (by omega) hBs2 ?_; intro v' w3 hown3 hg3; have hB3 := hdv.out.app hB2 (Nat.le_refl _) hBs2 hg3; have e3 := He2.out _ hB3)
          go_roundw
          case rel => exact ⟨D ++ [d], d + x.every, _, rfl, rfl, hst, ⟨by omega, by omega⟩, hB3, Lib.hid hown3⟩
          case measure => simp [intOf]; omega
        · have hrw : Hid (planRow u x = D) := Lib.hid (by rw [hpr.out, daysTo_end (by omega), List.append_nil])
          have hl30 : rows.length ≤ 30 := by have := hown.out.len; rw [List.length_take] at this; omega
          obtain ⟨da, dc, rfl⟩ : ∃ da dc, dv = .slice da D.length dc := by
            obtain ⟨_, ⟨h, h0⟩ | ⟨g, cap, cur, h, _⟩⟩ := hdv.out
            · exact ⟨none, 0, by rw [h0]; exact h⟩
            · exact ⟨_, _, h⟩
          have hpush := Lib.hid (fun v' w3 h1 h2 => OwnSS.push (te := 45) (r := ⟨da, D.length, dc⟩) (by decide) hown.out hB.size hBo (hdv.out.lower (Nat.le_of_lt hltx)) (v' := v') (w2 := w3) h1 h2)
          have hown2 := hown.out.below hBo
          have Hown2 := Lib.hid hown2
          go_wp2_with (at_builtin; refine wpList_app1 (c := one) (bytes := 24) rfl _ _ 67 45 rfl Try.underlying67 info_SS (by omega) one_len one_one w.heap.size rows ⟨da, D.length, dc⟩ _ rfl _ rfl Hown2.out.out rfl (by omega) (by omega) hB'.size ?_; intro v' w3 hown3 hg3; have hB3 := Hown2.out.out.app hB' (Nat.le_refl _) hB'.size hg3)
          have Hown3 := Lib.hid (hpush.out _ _ hown3 hg3)
          go_roundw
          case rel => exact ⟨k + 1, N + D.length, rows ++ [⟨da, D.length, dc⟩], by omega, by go_num, by go_num, by omega, Lib.hid (by rw [Htk.out, totSS_append, hrw.out]; simp [totSS]; have := hNt.out; omega), hB3, Lib.hid (by rw [Htk.out, hrw.out]; exact Hown3.out)⟩
          case measure => simp [intOf]; omega
    · have : k = l.length := by omega
      subst this
      have Hfin := Lib.hid (hown.out.w intCells_len (by decide))
      have hpl := Lib.hid (show (planL l u).take l.length = planL l u by rw [← planL_len l u, List.take_length])
      have hN2 : Hid (N = totSS (planL l u)) := Lib.hid (by have := hNt.out; rw [hpl.out] at this; exact this)
      by_cases hN1 : N ≤ 1000
      · have h0 : Hid (plan l u = (planL l u, 0)) := Lib.hid (plan_0 Hb.out Hd.out (by have := hN2.out; omega))
        have hNd : decide ((1000 : Int) < (N : Int)) = false := decide_eq_false (by omega)
        go_wp2
        go_ret2
        rw [h0.out]
        exact ⟨_, _, rfl, by rw [← hpl.out]; exact Hfin.out, hB⟩
      · have h0 : Hid (plan l u = ([], 5)) := Lib.hid (plan_5 Hb.out Hd.out (by have := hN2.out; omega))
        have hNd : decide ((1000 : Int) < (N : Int)) = true := decide_eq_true (by omega)
        go_wp2
        go_ret2
        rw [h0.out]
        exact ⟨_, _, rfl, ssw_nil, hB⟩
end Go.Proofs.Ytfnmmfopbfmkaaa
