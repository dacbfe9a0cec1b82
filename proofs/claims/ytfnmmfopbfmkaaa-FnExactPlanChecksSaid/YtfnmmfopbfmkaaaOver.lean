/- OverdueChecks and OpenFindings, in both packages. -/
import Derived.Test.YtfnmmfopbfmkaaaDue
import Derived.Test.YtfnmmfopbfmkaaaFnd
namespace Go.Proofs.Ytfnmmfopbfmkaaa
open Go.RowKit

def lateP (day : Int) (x : Chk) : Bool := decide (x.last + x.every < day)
def openP (day : Int) (x : Fnd) : Bool := decide (x.day ≤ day ∧ (x.closed < 0 ∨ day < x.closed))
open Classical in
noncomputable def overdue (l : List Chk) (day : Int) : List Int × Int := if chksB l = true then (if 0 ≤ day ∧ day ≤ 100000 then (idxTo (lateP day) l l.length, 0) else ([], 2)) else ([], 1)
theorem overdue_1 {l : List Chk} {day : Int} (h : chksB l = false) : overdue l day = ([], 1) := if_neg (by simp [h])
theorem overdue_2 {l : List Chk} {day : Int} (h : chksB l = true) (hd : ¬ (0 ≤ day ∧ day ≤ 100000)) : overdue l day = ([], 2) := by unfold overdue; rw [if_pos h, if_neg hd]
theorem overdue_3 {l : List Chk} {day : Int} (h : chksB l = true) (hd : 0 ≤ day ∧ day ≤ 100000) : overdue l day = (idxTo (lateP day) l l.length, 0) := by unfold overdue; rw [if_pos h, if_pos hd]
theorem overdue_len (l : List Chk) (day : Int) : (overdue l day).1.length ≤ l.length := by
  cases h : chksB l
  · rw [overdue_1 h]; simp
  · by_cases hd : 0 ≤ day ∧ day ≤ 100000
    · rw [overdue_3 h hd]; exact idxTo_len _ _ _
    · rw [overdue_2 h hd]; simp
open Classical in
noncomputable def openF (l : List Fnd) (day : Int) : List Int × Int := if fndsB l = true then (if 0 ≤ day ∧ day ≤ 100000 then (idxTo (openP day) l l.length, 0) else ([], 2)) else ([], 1)
theorem openF_1 {l : List Fnd} {day : Int} (h : fndsB l = false) : openF l day = ([], 1) := if_neg (by simp [h])
theorem openF_2 {l : List Fnd} {day : Int} (h : fndsB l = true) (hd : ¬ (0 ≤ day ∧ day ≤ 100000)) : openF l day = ([], 2) := by unfold openF; rw [if_pos h, if_neg hd]
theorem openF_3 {l : List Fnd} {day : Int} (h : fndsB l = true) (hd : 0 ≤ day ∧ day ≤ 100000) : openF l day = (idxTo (openP day) l l.length, 0) := by unfold openF; rw [if_pos h, if_pos hd]
theorem openF_len (l : List Fnd) (day : Int) : (openF l day).1.length ≤ l.length := by
  cases h : fndsB l
  · rw [openF_1 h]; simp
  · by_cases hd : 0 ≤ day ∧ day ≤ 100000
    · rw [openF_3 h hd]; exact idxTo_len _ _ _
    · rw [openF_2 h hd]; simp

set_option maxHeartbeats 2000000 in
theorem spec_l26Late (x : Chk) (b off : Nat) (day : Int) (w : World) (c1 : w.cell? ⟨b, off + 2, none⟩ = some (.int .i64 x.every)) (c2 : w.cell? ⟨b, off + 3, none⟩ = some (.int .i64 x.last)) (h1 : 0 ≤ x.every ∧ x.every ≤ 1000) (h2 : 0 ≤ x.last ∧ x.last ≤ 100000) :
    Calls Try.prog 93 #[.pointer (some ⟨b, off, none⟩), .int .i64 day] w fun e w' => e = .returned (.bool (lateP day x)) ∧ Below w.heap.size w w' := by
  have hsum : IntKind.i64.wrap (x.last + x.every) = x.last + x.every := IntWalk.i64_in _ (by omega)
  go_enter Try.func93, Try.ntmps93
  go_wp2_with (go_quiet (fail))
  go_ret
  exact ⟨rfl, below_dN (Below.refl _ _) _⟩


set_option maxRecDepth 100000 in
set_option maxHeartbeats 4000000 in
theorem spec_OverdueChecks (v : Value) (l : List Chk) (lo hi : Nat) (day : Int) (w : World) (h : Chks lo hi w v l) (_hl : l.length ≤ 1048576) (hwf : ∀ x ∈ l, x.wf) (_hd : I64 day) :
    Calls Try.prog 51 #[v, .int .i64 day] w (ListRes intCells 1 w (overdue l day).1 (overdue l day).2) := by
  have hsl := h
  have Hwf := Lib.hid hwf
  obtain ⟨a, cap, rfl, hlen, hh⟩ := h
  clear hh hwf
  have hc := fun w' h' => spec_l26Ok (.slice a l.length cap) l lo hi w' h' Hwf.out
  cases hb : chksB l
  · rw [overdue_1 hb]
    rw [hb] at hc
    have Hc := Lib.hid hc
    clear hc hb
    go_enter Try.func51, Try.ntmps51
    go_wp2_with fail
    refine (Hc.out w hsl).mono ?_
    rintro e w1 ⟨rfl, hb1⟩
    go_wp2
    go_ret2
    exact ⟨_, rfl, slw_nil, hb1⟩
  have Hb := Lib.hid hb
  rw [hb] at hc
  have Hc := Lib.hid hc
  clear hc hb
  by_cases hd : 0 ≤ day ∧ day ≤ 100000
  · rw [overdue_3 Hb.out hd]
    obtain ⟨hd1, hd2⟩ := hd
    have Hrow := Lib.hid (fun k (hk : k < l.length) => chksOk.row Hb.out hk)
    go_enter Try.func51, Try.ntmps51
    go_wp2_with fail
    refine (Hc.out w hsl).mono ?_
    rintro e w1 ⟨rfl, hb1⟩
    have hbs := hb1.size
    go_wp2_with (go_at_call 78; refine (spec_Day_t _ _ (by omega) (by omega)).mono ?_; rintro e w' ⟨rfl, rfl⟩)
    go_loopw [6, 7] (fun o i wr => ∃ k : Nat, k ≤ l.length ∧ i = .int .i64 k ∧ Below w.heap.size w wr ∧ Hid (Own 1 intCells w.heap.size 2 wr o (idxTo (lateP day) l k))) (fun _ i _ => l.length - (intOf i).toNat)
    case atStart => exact ⟨0, Nat.zero_le _, rfl, hb1.alloc hbs _, Lib.hid (own_empty w1 _ _ hbs)⟩
    case round =>
      obtain ⟨k, hk, rfl, hB, hown⟩ := hrel
      by_cases hlt : k < l.length
      · obtain ⟨b, off, rfl⟩ := hsl.addr (by omega)
        obtain ⟨c0, c1, c2, c3⟩ := Chks.at (hsl.ext hB).get hlt
        have hok := Hrow.out k hlt
        have hll := idxTo_len (lateP day) l k
        have Hy := Lib.hid (idxTo_yes (p := lateP day) hlt)
        have Hn := Lib.hid (idxTo_no (p := lateP day) hlt)
        clear hsl
        obtain ⟨_, _, ⟨h3, h4⟩, ⟨h5, h6⟩⟩ := hok
        generalize l[k] = x at *
        generalize hlk : idxTo (lateP day) l k = lk at *
        have Hlk := Lib.hid hlk
        clear hlk
        have hBs := hB.size
        have hq := fun w h1 h2 => spec_l26Late x b (off + k * 4) day w h1 h2 ⟨by omega, h4⟩ ⟨h5, h6⟩
        cases hp : lateP day x
        · try rw [hp] at hq
          have hp2 := hp
          simp only [lateP, decide_eq_true_eq, decide_eq_false_iff_not] at hp2
          have Hq := Lib.hid hq
          have Hp := Lib.hid (Hn.out hp)
          clear hq hp
          go_wp2_with fail
          refine (Hq.out _ c2 c3).mono ?_
          rintro e w2 ⟨rfl, hb2⟩
          have hB2 := hB.trans (hb2.mono hBs)
          have hown2 := Lib.hid (hown.out.below hb2)
          go_wp2
          go_roundw
          case rel => exact ⟨k + 1, by omega, by go_num, hB2, Lib.hid (by rw [Hp.out]; exact hown2.out)⟩
          case measure => simp [intOf]; omega
        · try rw [hp] at hq
          have hp2 := hp
          simp only [lateP, decide_eq_true_eq, decide_eq_false_iff_not] at hp2
          have Hq := Lib.hid hq
          have Hp := Lib.hid (Hy.out hp)
          clear hq hp
          go_wp2_with fail
          refine (Hq.out _ c2 c3).mono ?_
          rintro e w2 ⟨rfl, hb2⟩
          have hB2 := hB.trans (hb2.mono hBs)
          have hown2 := Lib.hid (hown.out.below hb2)
          have hBs2 := hB2.size
          go_wp2_with (at_builtin; refine wpList_app1 (c := intCells) (bytes := 8) rfl _ _ 45 2 rfl Try.underlying45 info_int64 (by omega) intCells_len intCells_one w.heap.size lk (k : Int) _ rfl _ rfl hown2.out rfl (by omega) (by omega) hBs2 ?_; intro v' w3 hown3 hg3; have hB3 := hown2.out.app hB2 (Nat.le_refl _) hBs2 hg3)
          go_roundw
          case rel => exact ⟨k + 1, by omega, by go_num, hB3, Lib.hid (by rw [Hp.out]; exact hown3)⟩
          case measure => simp [intOf]; omega
      · have : k = l.length := by omega
        subst this
        have Hfin := Lib.hid (hown.out.slw intCells_len)
        go_wp2
        go_ret2
        exact ⟨_, rfl, Hfin.out, hB⟩
  · rw [overdue_2 Hb.out hd]
    go_enter Try.func51, Try.ntmps51
    go_wp2_with fail
    refine (Hc.out w hsl).mono ?_
    rintro e w1 ⟨rfl, hb1⟩
    go_wp2_with (go_at_call 78; refine (spec_Day_f _ _ (by omega)).mono ?_; rintro e w' ⟨rfl, rfl⟩)
    go_ret2
    exact ⟨_, rfl, slw_nil, hb1⟩

set_option maxRecDepth 100000 in
set_option maxHeartbeats 4000000 in
theorem impl_OverdueChecks (v : Value) (l : List Chk) (lo hi : Nat) (day : Int) (w : World) (h : Chks lo hi w v l) (_hl : l.length ≤ 1048576) (hwf : ∀ x ∈ l, x.wf) (_hd : I64 day) :
    Calls Try.prog 52 #[v, .int .i64 day] w (ListRes intCells 1 w (overdue l day).1 (overdue l day).2) := by
  have hsl := h
  have Hwf := Lib.hid hwf
  obtain ⟨a, cap, rfl, hlen, hh⟩ := h
  clear hh hwf
  have hc := fun w' h' => impl_ValidChecks (.slice a l.length cap) l lo hi w' h' _hl Hwf.out
  cases hb : chksB l
  · rw [overdue_1 hb]
    rw [hb] at hc
    have Hc := Lib.hid hc
    clear hc hb
    go_enter Try.func52, Try.ntmps52
    go_wp2_with fail
    refine (Hc.out w hsl).mono ?_
    rintro e w1 ⟨rfl, hb1⟩
    go_wp2
    go_ret2
    exact ⟨_, rfl, slw_nil, hb1⟩
  have Hb := Lib.hid hb
  rw [hb] at hc
  have Hc := Lib.hid hc
  clear hc hb
  by_cases hd : 0 ≤ day ∧ day ≤ 100000
  · rw [overdue_3 Hb.out hd]
    obtain ⟨hd1, hd2⟩ := hd
    have Hrow := Lib.hid (fun k (hk : k < l.length) => chksOk.row Hb.out hk)
    go_enter Try.func52, Try.ntmps52
    go_wp2_with fail
    refine (Hc.out w hsl).mono ?_
    rintro e w1 ⟨rfl, hb1⟩
    have hbs := hb1.size
    go_wp2_with (go_at_call 63; refine (impl_isDay_t _ _ (by omega) (by omega)).mono ?_; rintro e w' ⟨rfl, rfl⟩)
    go_loopw [6, 19] (fun o i wr => ∃ k : Nat, k ≤ l.length ∧ i = .int .i64 k ∧ Below w.heap.size w wr ∧ Hid (Own 1 intCells w.heap.size 2 wr o (idxTo (lateP day) l k))) (fun _ i _ => l.length - (intOf i).toNat)
    case atStart => exact ⟨0, Nat.zero_le _, rfl, hb1, Lib.hid (own_nil _ _ _)⟩
    case round =>
      obtain ⟨k, hk, rfl, hB, hown⟩ := hrel
      by_cases hlt : k < l.length
      · obtain ⟨b, off, rfl⟩ := hsl.addr (by omega)
        obtain ⟨c0, c1, c2, c3⟩ := Chks.at (hsl.ext hB).get hlt
        have hok := Hrow.out k hlt
        have hll := idxTo_len (lateP day) l k
        have Hy := Lib.hid (idxTo_yes (p := lateP day) hlt)
        have Hn := Lib.hid (idxTo_no (p := lateP day) hlt)
        clear hsl
        obtain ⟨_, _, ⟨h3, h4⟩, ⟨h5, h6⟩⟩ := hok
        generalize l[k] = x at *
        generalize hlk : idxTo (lateP day) l k = lk at *
        have Hlk := Lib.hid hlk
        clear hlk
        have hBs := hB.size
        have hq := fun w => impl_due x w (by omega)
        cases hp : lateP day x
        · try rw [hp] at hq
          have hp2 := hp
          simp only [lateP, decide_eq_true_eq, decide_eq_false_iff_not] at hp2
          have Hq := Lib.hid hq
          have Hp := Lib.hid (Hn.out hp)
          clear hq hp
          go_wp2_with fail
          refine (Hq.out _).mono ?_
          rintro e w2 ⟨rfl, hb2⟩
          have hB2 := (hB.alloc hBs _).trans (hb2.mono (by simp; omega))
          have hown2 := Lib.hid (Own.below (Own.alloc hown.out _) hb2)
          go_wp2
          go_roundw
          case rel => exact ⟨k + 1, by omega, by go_num, hB2, Lib.hid (by rw [Hp.out]; exact hown2.out)⟩
          case measure => simp [intOf]; omega
        · try rw [hp] at hq
          have hp2 := hp
          simp only [lateP, decide_eq_true_eq, decide_eq_false_iff_not] at hp2
          have Hq := Lib.hid hq
          have Hp := Lib.hid (Hy.out hp)
          clear hq hp
          go_wp2_with fail
          refine (Hq.out _).mono ?_
          rintro e w2 ⟨rfl, hb2⟩
          have hB2 := (hB.alloc hBs _).trans (hb2.mono (by simp; omega))
          have hown2 := Lib.hid (Own.below (Own.alloc hown.out _) hb2)
          have hBs2 := hB2.size
          go_wp2_with (at_builtin; refine wpList_app1 (c := intCells) (bytes := 8) rfl _ _ 45 2 rfl Try.underlying45 info_int64 (by omega) intCells_len intCells_one w.heap.size lk (k : Int) _ rfl _ rfl hown2.out rfl (by omega) (by omega) hBs2 ?_; intro v' w3 hown3 hg3; have hB3 := hown2.out.app hB2 (Nat.le_refl _) hBs2 hg3)
          go_roundw
          case rel => exact ⟨k + 1, by omega, by go_num, hB3, Lib.hid (by rw [Hp.out]; exact hown3)⟩
          case measure => simp [intOf]; omega
      · have : k = l.length := by omega
        subst this
        have Hfin := Lib.hid (hown.out.slw intCells_len)
        go_wp2
        go_ret2
        exact ⟨_, rfl, Hfin.out, hB⟩
  · rw [overdue_2 Hb.out hd]
    go_enter Try.func52, Try.ntmps52
    go_wp2_with fail
    refine (Hc.out w hsl).mono ?_
    rintro e w1 ⟨rfl, hb1⟩
    go_wp2_with (go_at_call 63; refine (impl_isDay_f _ _ (by omega)).mono ?_; rintro e w' ⟨rfl, rfl⟩)
    go_ret2
    exact ⟨_, rfl, slw_nil, hb1⟩
end Go.Proofs.Ytfnmmfopbfmkaaa
