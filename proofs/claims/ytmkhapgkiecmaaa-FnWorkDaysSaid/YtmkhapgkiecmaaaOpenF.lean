/- OpenFindings, in both packages. -/
import Derived.Test.YtmkhapgkiecmaaaClose
namespace Go.Proofs.Ytmkhapgkiecmaaa
open Go.RowKit


theorem open_cases (x : Fnd) (day : Int) : ((openP day x = true ∧ x.day ≤ day ∧ x.closed < 0)) ∨ (openP day x = true ∧ x.day ≤ day ∧ 0 ≤ x.closed ∧ day < x.closed) ∨ (openP day x = false ∧ day < x.day) ∨ (openP day x = false ∧ x.day ≤ day ∧ 0 ≤ x.closed ∧ x.closed ≤ day) := by
  simp only [openP, decide_eq_true_eq, decide_eq_false_iff_not]
  omega

set_option maxHeartbeats 2000000 in
theorem spec_l26Open (x : Fnd) (b off : Nat) (day : Int) (w : World) (c1 : w.cell? ⟨b, off + 1, none⟩ = some (.int .i64 x.day)) (c3 : w.cell? ⟨b, off + 3, none⟩ = some (.int .i64 x.closed)) :
    Calls Try.prog 52 #[.pointer (some ⟨b, off, none⟩), .int .i64 day] w fun e w' => e = .returned (.bool (openP day x)) ∧ Below w.heap.size w w' := by
  rcases open_cases x day with ⟨hp, h1, h2⟩ | ⟨hp, h1, h2, h3⟩ | ⟨hp, h1⟩ | ⟨hp, h1, h2, h3⟩
  all_goals
    have Hp := Lib.hid hp
    clear hp
    try (have hdf : decide (day < x.closed) = false := decide_eq_false (by omega))
    go_enter Try.func52, Try.ntmps52
    go_wp2
    go_ret
    exact ⟨ret_bool (by first | exact Hp.out.symm | (rw [Hp.out]; simp; omega)), Below.refl _ _⟩

set_option maxHeartbeats 2000000 in
theorem impl_open (x : Fnd) (day : Int) (w : World) (hok : x.ok) :
    Calls Try.prog 49 #[.agg #[.int .i64 x.crane, .int .i64 x.day, .int .i64 x.grade, .int .i64 x.closed], .int .i64 day] w fun e w' => e = .returned (.bool (openP day x)) ∧ Below w.heap.size w w' := by
  obtain ⟨x0, x1, x2, x3⟩ := x
  dsimp only
  have hc : (x3 = -1 ∨ 0 ≤ x3) := by unfold Fnd.ok at hok; dsimp only at hok; omega
  have hb : ((x3 == -1) = true ∧ x3 < 0) ∨ ((x3 == -1) = false ∧ 0 ≤ x3) := by simp only [beq_iff_eq, beq_eq_false_iff_ne]; omega
  clear hc hok
  have hcs := open_cases ⟨x0, x1, x2, x3⟩ day
  dsimp only at hcs
  rcases hcs with ⟨hp, h1, h2⟩ | ⟨hp, h1, h2, h3⟩ | ⟨hp, h1⟩ | ⟨hp, h1, h2, h3⟩
  all_goals
    have Hp := Lib.hid hp
    clear hp
    try (have hdf : decide (day < x3) = false := decide_eq_false (by omega))
    rcases hb with ⟨hb1, hb2⟩ | ⟨hb1, hb2⟩
    all_goals first
      | (exfalso; omega)
      | (go_enter Try.func49, Try.ntmps49
         go_wp2
         go_ret
         exact ⟨ret_bool (by first | exact Hp.out.symm | (rw [Hp.out]; simp; omega)), (Below.refl _ _).alloc (Nat.le_refl _) _⟩)


set_option maxRecDepth 100000 in
set_option maxHeartbeats 4000000 in
theorem spec_OpenFindings (v : Value) (l : List Fnd) (lo hi : Nat) (day : Int) (w : World) (h : Fnds lo hi w v l) (_hl : l.length ≤ 1048576) (hwf : ∀ x ∈ l, x.wf) (_hd : I64 day) :
    Calls Try.prog 14 #[v, .int .i64 day] w (ListRes intCells 1 w (openF l day).1 (openF l day).2) := by
  have hsl := h
  have Hwf := Lib.hid hwf
  obtain ⟨a, cap, rfl, hlen, hh⟩ := h
  clear hh hwf
  have hc := fun w' h' => spec_l26Found (.slice a l.length cap) l lo hi w' h'
  cases hb : fndsB l
  · rw [openF_1 hb]
    rw [hb] at hc
    have Hc := Lib.hid hc
    clear hc hb
    go_enter Try.func14, Try.ntmps14
    go_wp2_with fail
    refine (Hc.out w hsl).mono ?_
    rintro e w1 ⟨rfl, hb1⟩
    go_wp2
    go_ret2
    exact ⟨_, rfl, slw_nil, hb1⟩
  have Hb := Lib.hid hb
  rw [hb] at hc
  have Hc := Lib.hid hc
  clear hc hb
  by_cases hd : 0 ≤ day ∧ day ≤ 100000
  · rw [openF_3 Hb.out hd]
    obtain ⟨hd1, hd2⟩ := hd
    have Hrow := Lib.hid (fun k (hk : k < l.length) => okAt Hb.out hk)
    go_enter Try.func14, Try.ntmps14
    go_wp2_with fail
    refine (Hc.out w hsl).mono ?_
    rintro e w1 ⟨rfl, hb1⟩
    have hbs := hb1.size
    go_wp2_with (go_at_call 51; refine (spec_Day_t _ _ (by omega) (by omega)).mono ?_; rintro e w' ⟨rfl, rfl⟩)
    go_loopw [6, 7] (fun o i wr => ∃ k : Nat, k ≤ l.length ∧ i = .int .i64 k ∧ Below w.heap.size w wr ∧ Hid (Own 1 intCells w.heap.size 2 wr o (idxTo (openP day) l k))) (fun _ i _ => l.length - (intOf i).toNat)
    case atStart => exact ⟨0, Nat.zero_le _, rfl, hb1.alloc hbs _, Lib.hid (own_empty w1 _ _ hbs)⟩
    case round =>
      obtain ⟨k, hk, rfl, hB, hown⟩ := hrel
      by_cases hlt : k < l.length
      · obtain ⟨b, off, rfl⟩ := hsl.addr (by omega)
        obtain ⟨c0, c1, c2, c3⟩ := Fnds.at (hsl.ext hB).get hlt
        have hok := Hrow.out k hlt
        have hll := idxTo_len (openP day) l k
        have Hy := Lib.hid (idxTo_yes (p := openP day) hlt)
        have Hn := Lib.hid (idxTo_no (p := openP day) hlt)
        clear hsl
        skip
        generalize l[k] = x at *
        generalize hlk : idxTo (openP day) l k = lk at *
        have Hlk := Lib.hid hlk
        clear hlk
        have hBs := hB.size
        have hq := fun w h1 h2 => spec_l26Open x b (off + k * 4) day w h1 h2
        cases hp : openP day x
        · try rw [hp] at hq
          have hp2 := hp
          simp only [openP, decide_eq_true_eq, decide_eq_false_iff_not] at hp2
          have Hq := Lib.hid hq
          have Hp := Lib.hid (Hn.out hp)
          clear hq hp
          go_wp2_with fail
          refine (Hq.out _ c1 c3).mono ?_
          rintro e w2 ⟨rfl, hb2⟩
          have hB2 := hB.trans (hb2.mono hBs)
          have hown2 := Lib.hid (hown.out.below hb2)
          go_wp2
          go_roundw
          case rel => exact ⟨k + 1, by omega, by go_num, hB2, Lib.hid (by rw [Hp.out]; exact hown2.out)⟩
          case measure => simp [intOf]; omega
        · try rw [hp] at hq
          have hp2 := hp
          simp only [openP, decide_eq_true_eq, decide_eq_false_iff_not] at hp2
          have Hq := Lib.hid hq
          have Hp := Lib.hid (Hy.out hp)
          clear hq hp
          go_wp2_with fail
          refine (Hq.out _ c1 c3).mono ?_
          rintro e w2 ⟨rfl, hb2⟩
          have hB2 := hB.trans (hb2.mono hBs)
          have hown2 := Lib.hid (hown.out.below hb2)
          have hBs2 := hB2.size
          go_wp2_with (at_builtin; refine wpList_app1 (c := intCells) (bytes := 8) rfl _ _ 34 2 rfl Try.underlying34 info_int64 (by omega) intCells_len intCells_one w.heap.size lk (k : Int) _ rfl _ rfl hown2.out rfl (by omega) (by omega) hBs2 ?_; intro v' w3 hown3 hg3; have hB3 := hown2.out.app hB2 (Nat.le_refl _) hBs2 hg3)
          go_roundw
          case rel => exact ⟨k + 1, by omega, by go_num, hB3, Lib.hid (by rw [Hp.out]; exact hown3)⟩
          case measure => simp [intOf]; omega
      · have : k = l.length := by omega
        subst this
        have Hfin := Lib.hid (hown.out.slw intCells_len)
        go_wp2
        go_ret2
        exact ⟨_, rfl, Hfin.out, hB⟩
  · rw [openF_2 Hb.out hd]
    go_enter Try.func14, Try.ntmps14
    go_wp2_with fail
    refine (Hc.out w hsl).mono ?_
    rintro e w1 ⟨rfl, hb1⟩
    go_wp2_with (go_at_call 51; refine (spec_Day_f _ _ (by omega)).mono ?_; rintro e w' ⟨rfl, rfl⟩)
    go_ret2
    exact ⟨_, rfl, slw_nil, hb1⟩

set_option maxRecDepth 100000 in
set_option maxHeartbeats 4000000 in
theorem impl_OpenFindings (v : Value) (l : List Fnd) (lo hi : Nat) (day : Int) (w : World) (h : Fnds lo hi w v l) (_hl : l.length ≤ 1048576) (hwf : ∀ x ∈ l, x.wf) (_hd : I64 day) :
    Calls Try.prog 13 #[v, .int .i64 day] w (ListRes intCells 1 w (openF l day).1 (openF l day).2) := by
  have hsl := h
  have Hwf := Lib.hid hwf
  obtain ⟨a, cap, rfl, hlen, hh⟩ := h
  clear hh hwf
  have hc := fun w' h' => impl_ValidFindings (.slice a l.length cap) l lo hi w' h'
  cases hb : fndsB l
  · rw [openF_1 hb]
    rw [hb] at hc
    have Hc := Lib.hid hc
    clear hc hb
    go_enter Try.func13, Try.ntmps13
    go_wp2_with fail
    refine (Hc.out w hsl).mono ?_
    rintro e w1 ⟨rfl, hb1⟩
    go_wp2
    go_ret2
    exact ⟨_, rfl, slw_nil, hb1⟩
  have Hb := Lib.hid hb
  rw [hb] at hc
  have Hc := Lib.hid hc
  clear hc hb
  by_cases hd : 0 ≤ day ∧ day ≤ 100000
  · rw [openF_3 Hb.out hd]
    obtain ⟨hd1, hd2⟩ := hd
    have Hrow := Lib.hid (fun k (hk : k < l.length) => okAt Hb.out hk)
    go_enter Try.func13, Try.ntmps13
    go_wp2_with fail
    refine (Hc.out w hsl).mono ?_
    rintro e w1 ⟨rfl, hb1⟩
    have hbs := hb1.size
    go_wp2_with (go_at_call 48; refine (impl_isDay_t _ _ (by omega) (by omega)).mono ?_; rintro e w' ⟨rfl, rfl⟩)
    go_loopw [6, 19] (fun o i wr => ∃ k : Nat, k ≤ l.length ∧ i = .int .i64 k ∧ Below w.heap.size w wr ∧ Hid (Own 1 intCells w.heap.size 2 wr o (idxTo (openP day) l k))) (fun _ i _ => l.length - (intOf i).toNat)
    case atStart => exact ⟨0, Nat.zero_le _, rfl, hb1, Lib.hid (own_nil _ _ _)⟩
    case round =>
      obtain ⟨k, hk, rfl, hB, hown⟩ := hrel
      by_cases hlt : k < l.length
      · obtain ⟨b, off, rfl⟩ := hsl.addr (by omega)
        obtain ⟨c0, c1, c2, c3⟩ := Fnds.at (hsl.ext hB).get hlt
        have hok := Hrow.out k hlt
        have hll := idxTo_len (openP day) l k
        have Hy := Lib.hid (idxTo_yes (p := openP day) hlt)
        have Hn := Lib.hid (idxTo_no (p := openP day) hlt)
        clear hsl
        have Hok := Lib.hid hok
        generalize l[k] = x at *
        generalize hlk : idxTo (openP day) l k = lk at *
        have Hlk := Lib.hid hlk
        clear hlk
        have hBs := hB.size
        have hq := fun w => impl_open x day w Hok.out
        cases hp : openP day x
        · try rw [hp] at hq
          have hp2 := hp
          simp only [openP, decide_eq_true_eq, decide_eq_false_iff_not] at hp2
          have Hq := Lib.hid hq
          have Hp := Lib.hid (Hn.out hp)
          clear hq hp
          go_wp2_with fail
          refine (Hq.out _).mono ?_
          rintro e w2 ⟨rfl, hb2⟩
          have hB2 := (hB.alloc hBs _).trans (hb2.mono (by simp; omega))
          have hown2 := Lib.hid (Own.below (Own.alloc hown.out _) hb2)
          go_wp2
          go_roundw
          case rel => exact ⟨k + 1, by omega, by go_num, hB2, Lib.hid (by rw [Hp.out]; exact hown2.out)⟩
          case measure => simp [intOf]; omega
        · try rw [hp] at hq
          have hp2 := hp
          simp only [openP, decide_eq_true_eq, decide_eq_false_iff_not] at hp2
          have Hq := Lib.hid hq
          have Hp := Lib.hid (Hy.out hp)
          clear hq hp
          go_wp2_with fail
          refine (Hq.out _).mono ?_
          rintro e w2 ⟨rfl, hb2⟩
          have hB2 := (hB.alloc hBs _).trans (hb2.mono (by simp; omega))
          have hown2 := Lib.hid (Own.below (Own.alloc hown.out _) hb2)
          have hBs2 := hB2.size
          go_wp2_with (at_builtin; refine wpList_app1 (c := intCells) (bytes := 8) rfl _ _ 34 2 rfl Try.underlying34 info_int64 (by omega) intCells_len intCells_one w.heap.size lk (k : Int) _ rfl _ rfl hown2.out rfl (by omega) (by omega) hBs2 ?_; intro v' w3 hown3 hg3; have hB3 := hown2.out.app hB2 (Nat.le_refl _) hBs2 hg3)
          go_roundw
          case rel => exact ⟨k + 1, by omega, by go_num, hB3, Lib.hid (by rw [Hp.out]; exact hown3)⟩
          case measure => simp [intOf]; omega
      · have : k = l.length := by omega
        subst this
        have Hfin := Lib.hid (hown.out.slw intCells_len)
        go_wp2
        go_ret2
        exact ⟨_, rfl, Hfin.out, hB⟩
  · rw [openF_2 Hb.out hd]
    go_enter Try.func13, Try.ntmps13
    go_wp2_with fail
    refine (Hc.out w hsl).mono ?_
    rintro e w1 ⟨rfl, hb1⟩
    go_wp2_with (go_at_call 48; refine (impl_isDay_f _ _ (by omega)).mono ?_; rintro e w' ⟨rfl, rfl⟩)
    go_ret2
    exact ⟨_, rfl, slw_nil, hb1⟩
end Go.Proofs.Ytmkhapgkiecmaaa
