/- Whether a crane may work: l26May and mayWork. -/
import Derived.Test.YtmkhapgkiecmaaaOpenF
namespace Go.Proofs.Ytmkhapgkiecmaaa
open Go.RowKit

def lateC (crane day : Int) (x : Chk) : Bool := decide (x.crane = crane) && lateP day x
def relP (crane day : Int) (x : Fnd) : Bool := decide (x.crane = crane) && openP day x
def badP (crane day : Int) (x : Fnd) : Bool := relP crane day x && (decide (x.grade = 3) || (decide (x.grade = 2) && decide (x.day + 7 < day)))
def mayB (cs : List Chk) (fs : List Fnd) (crane day : Int) : Bool := cs.all (fun x => !lateC crane day x) && (fs.all (fun x => !badP crane day x) && decide (fs.countP (relP crane day) ≤ 5))
theorem mayB_late {cs : List Chk} {fs : List Fnd} {crane day : Int} {k : Nat} (hk : k < cs.length) (h : lateC crane day cs[k] = true) : mayB cs fs crane day = false := by
  unfold mayB; rw [all_false hk (by simp [h])]; rfl
theorem mayB_bad {cs : List Chk} {fs : List Fnd} {crane day : Int} {k : Nat} (hk : k < fs.length) (h : badP crane day fs[k] = true) : mayB cs fs crane day = false := by
  unfold mayB; rw [all_false hk (by simp [h])]; simp
theorem mayB_end {cs : List Chk} {fs : List Fnd} {crane day : Int} (h1 : cs.all (fun x => !lateC crane day x) = true) (h2 : fs.all (fun x => !badP crane day x) = true) : mayB cs fs crane day = decide (fs.countP (relP crane day) ≤ 5) := by
  unfold mayB; rw [h1, h2]; simp
theorem countP_take_succ {α : Type} {p : α → Bool} {l : List α} {k : Nat} (h : k < l.length) : (l.take (k + 1)).countP p = (l.take k).countP p + (if p l[k] then 1 else 0) := by
  rw [List.take_succ_eq_append_getElem h, List.countP_append]; simp [List.countP_cons]
theorem late_cases (x : Chk) (crane day : Int) : (lateC crane day x = false ∧ (x.crane == crane) = false) ∨ (lateC crane day x = false ∧ (x.crane == crane) = true ∧ lateP day x = false) ∨ (lateC crane day x = true ∧ (x.crane == crane) = true ∧ lateP day x = true) := by
  unfold lateC
  by_cases h : x.crane = crane
  · have e : (x.crane == crane) = true := by rw [beq_iff_eq]; exact h
    cases hp : lateP day x <;> simp [h, hp]
  · simp [h]
theorem find_cases (x : Fnd) (crane day : Int) :
    (badP crane day x = false ∧ relP crane day x = false ∧ (x.crane != crane) = true) ∨
    (badP crane day x = false ∧ relP crane day x = false ∧ (x.crane != crane) = false ∧ openP day x = false) ∨
    (badP crane day x = true ∧ (x.crane != crane) = false ∧ openP day x = true ∧ (x.grade == 3) = true) ∨
    (badP crane day x = true ∧ (x.crane != crane) = false ∧ openP day x = true ∧ (x.grade == 3) = false ∧ (x.grade == 2) = true ∧ x.day + 7 < day) ∨
    (badP crane day x = false ∧ relP crane day x = true ∧ (x.crane != crane) = false ∧ openP day x = true ∧ (x.grade == 3) = false ∧ (x.grade == 2) = true ∧ day ≤ x.day + 7) ∨
    (badP crane day x = false ∧ relP crane day x = true ∧ (x.crane != crane) = false ∧ openP day x = true ∧ (x.grade == 3) = false ∧ (x.grade == 2) = false) := by
  unfold badP relP
  simp only [bne_iff_ne, ne_eq, bne_eq_false_iff_eq, beq_iff_eq, beq_eq_false_iff_ne]
  by_cases h : x.crane = crane
  · by_cases h3 : x.grade = 3
    · cases hp : openP day x <;> simp [h, h3]
    · by_cases h2 : x.grade = 2
      · by_cases hd : x.day + 7 < day
        · cases hp : openP day x <;> simp [h, h2, hd]
        · cases hp : openP day x <;> simp [h, h2, hd]; omega
      · cases hp : openP day x <;> simp [h, h2, h3]
  · simp [h]

set_option maxRecDepth 100000 in
set_option maxHeartbeats 8000000 in
theorem spec_l26May (v : Value) (l : List Chk) (lo hi : Nat) (v2 : Value) (l2 : List Fnd) (lo2 hi2 : Nat) (crane day : Int) (w : World) (h : Chks lo hi w v l) (hl : l.length ≤ 1048576) (hrow : ∀ k (hk : k < l.length), l[k].ok) (h2 : Fnds lo2 hi2 w v2 l2) (hl2 : l2.length ≤ 1048576) (hrow2 : ∀ k (hk : k < l2.length), l2[k].ok) (_hd0 : -200000 ≤ day) (_hd1 : day ≤ 200000) :
    Calls Try.prog 44 #[v, v2, .int .i64 crane, .int .i64 day] w fun e w' => e = .returned (.bool (mayB l l2 crane day)) ∧ Below w.heap.size w w' := by
  have hsl := h
  have Hsl2 := Lib.hid h2
  have Hrow := Lib.hid hrow
  have Hrow2 := Lib.hid hrow2
  obtain ⟨a, cap, rfl, hlen, hh⟩ := h
  obtain ⟨a2, cap2, rfl, hlen2, hh2⟩ := h2
  clear hh hh2 hrow hrow2
  go_enter Try.func44, Try.ntmps44
  go_wp2
  go_loopw [9] (fun i wr => ∃ k : Nat, k ≤ l.length ∧ i = .int .i64 k ∧ Below w.heap.size w wr ∧ Hid ((l.take k).all (fun x => !lateC crane day x) = true)) (fun i _ => l.length - (intOf i).toNat)
  case atStart => exact ⟨0, Nat.zero_le _, rfl, Below.refl _ _, Lib.hid rfl⟩
  case round =>
    obtain ⟨k, hk, rfl, hB, hall⟩ := hrel
    have hBs := hB.size
    by_cases hlt : k < l.length
    · obtain ⟨b, off, rfl⟩ := hsl.addr (by omega)
      obtain ⟨c0, c1, c2, c3⟩ := Chks.at (hsl.ext hB).get hlt
      have hok := Hrow.out k hlt
      have Hg := Lib.hid (all_take_succ (p := fun x => !lateC crane day x) hlt hall.out)
      have Hb := Lib.hid (mayB_late (fs := l2) (crane := crane) (day := day) hlt)
      clear hsl
      obtain ⟨_, _, ⟨h3, h4⟩, ⟨h5, h6⟩⟩ := hok
      generalize l[k] = x at *
      rcases late_cases x crane day with ⟨hlc, hq⟩ | ⟨hlc, hq, hp⟩ | ⟨hlc, hq, hp⟩
      · have Hd := Lib.hid (Hg.out (by simp [hlc]))
        clear hlc
        go_wp2
        go_roundw
        case rel => exact ⟨k + 1, by omega, by go_num, hB, Hd⟩
        case measure => simp [intOf]; omega
      · have Hd := Lib.hid (Hg.out (by simp [hlc]))
        have Hp := Lib.hid hp
        clear hlc hp
        go_wp2_with fail
        refine (spec_l26Late x b (off + k * 4) day _ c2 c3 ⟨by omega, h4⟩ ⟨h5, h6⟩).mono ?_
        rintro e w2 ⟨rfl, hb2⟩
        rw [Hp.out]
        have hB2 := hB.trans (hb2.mono hBs)
        go_wp2
        go_roundw
        case rel => exact ⟨k + 1, by omega, by go_num, hB2, Hd⟩
        case measure => simp [intOf]; omega
      · have Hd := Lib.hid (Hb.out hlc)
        have Hp := Lib.hid hp
        clear hlc hp
        go_wp2_with fail
        refine (spec_l26Late x b (off + k * 4) day _ c2 c3 ⟨by omega, h4⟩ ⟨h5, h6⟩).mono ?_
        rintro e w2 ⟨rfl, hb2⟩
        rw [Hp.out]
        have hB2 := hB.trans (hb2.mono hBs)
        go_wp2
        go_ret
        exact ⟨ret_bool Hd.out.symm, hB2⟩
    · have hend := all_take_end hlt hall.out
      have Hend := Lib.hid hend
      clear hend hsl
      have hsl2 := Hsl2.out
      go_wp2
      go_loopw [10, 11] (fun m i wr => ∃ k : Nat, k ≤ l2.length ∧ i = .int .i64 k ∧ (∃ c : Nat, m = .int .i64 c ∧ c ≤ k ∧ Hid (c = (l2.take k).countP (relP crane day))) ∧ Below w.heap.size w wr ∧ Hid ((l2.take k).all (fun x => !badP crane day x) = true)) (fun _ i _ => l2.length - (intOf i).toNat)
      case atStart => exact ⟨0, Nat.zero_le _, rfl, ⟨0, rfl, Nat.le_refl _, Lib.hid rfl⟩, hB, Lib.hid rfl⟩
      case round =>
        obtain ⟨k2, hk2, rfl, ⟨c, rfl, hck, hc⟩, hB, hall2⟩ := hrel
        have hBs := hB.size
        by_cases hlt2 : k2 < l2.length
        · obtain ⟨b, off, rfl⟩ := hsl2.addr (by omega)
          obtain ⟨c0, c1, c2, c3⟩ := Fnds.at (hsl2.ext hB).get hlt2
          have hok := Hrow2.out k2 hlt2
          have Hg := Lib.hid (all_take_succ (p := fun x => !badP crane day x) hlt2 hall2.out)
          have Hb := Lib.hid (mayB_bad (cs := l) (crane := crane) (day := day) hlt2)
          have Hct := Lib.hid (countP_take_succ (p := relP crane day) hlt2)
          have Hok := Lib.hid hok
          clear hsl2 hok
          generalize l2[k2] = x at *
          have hdb : 0 ≤ x.day ∧ x.day ≤ 100000 := ⟨Hok.out.2.2.1, Hok.out.2.2.2.1⟩
          have hcx := find_cases x crane day
          rcases hcx with ⟨hb, hr, hq⟩ | ⟨hb, hr, hq, hp⟩ | ⟨hb, hq, hp, hg3⟩ | ⟨hb, hq, hp, hg3, hg2, hdd⟩ | ⟨hb, hr, hq, hp, hg3, hg2, hdd⟩ | ⟨hb, hr, hq, hp, hg3, hg2⟩
          · have Hd := Lib.hid (Hg.out (by simp [hb]))
            have Hr := Lib.hid hr
            clear hb hr
            go_wp2
            go_roundw
            case rel => exact ⟨k2 + 1, by omega, by go_num, ⟨c, rfl, by omega, Lib.hid (by rw [Hct.out, Hr.out, hc.out]; simp)⟩, hB, Hd⟩
            case measure => simp [intOf]; omega
          · have Hd := Lib.hid (Hg.out (by simp [hb]))
            have Hr := Lib.hid hr
            have Hp := Lib.hid hp
            clear hb hr hp
            go_wp2_with fail
            refine (spec_l26Open x b (off + k2 * 4) day _ c1 c3).mono ?_
            rintro e w2 ⟨rfl, hb2⟩
            rw [Hp.out]
            have hB2 := hB.trans (hb2.mono hBs)
            obtain ⟨c0', c1', c2', c3'⟩ : w2.cell? ⟨b, off + k2 * 4, none⟩ = some (.int .i64 x.crane) ∧ w2.cell? ⟨b, off + k2 * 4 + 1, none⟩ = some (.int .i64 x.day) ∧ w2.cell? ⟨b, off + k2 * 4 + 2, none⟩ = some (.int .i64 x.grade) ∧ w2.cell? ⟨b, off + k2 * 4 + 3, none⟩ = some (.int .i64 x.closed) :=
                          ⟨(hb2.cell (World.block_lt_of_cell? wr _ c0)).trans c0, (hb2.cell (World.block_lt_of_cell? wr _ c1)).trans c1, (hb2.cell (World.block_lt_of_cell? wr _ c2)).trans c2, (hb2.cell (World.block_lt_of_cell? wr _ c3)).trans c3⟩
            go_wp2
            go_roundw
            case rel => exact ⟨k2 + 1, by omega, by go_num, ⟨c, rfl, by omega, Lib.hid (by rw [Hct.out, Hr.out, hc.out]; simp)⟩, hB2, Hd⟩
            case measure => simp [intOf]; omega
          · have Hd := Lib.hid (Hb.out hb)
            have Hp := Lib.hid hp
            clear hb hp
            go_wp2_with fail
            refine (spec_l26Open x b (off + k2 * 4) day _ c1 c3).mono ?_
            rintro e w2 ⟨rfl, hb2⟩
            rw [Hp.out]
            have hB2 := hB.trans (hb2.mono hBs)
            obtain ⟨c0', c1', c2', c3'⟩ : w2.cell? ⟨b, off + k2 * 4, none⟩ = some (.int .i64 x.crane) ∧ w2.cell? ⟨b, off + k2 * 4 + 1, none⟩ = some (.int .i64 x.day) ∧ w2.cell? ⟨b, off + k2 * 4 + 2, none⟩ = some (.int .i64 x.grade) ∧ w2.cell? ⟨b, off + k2 * 4 + 3, none⟩ = some (.int .i64 x.closed) :=
                          ⟨(hb2.cell (World.block_lt_of_cell? wr _ c0)).trans c0, (hb2.cell (World.block_lt_of_cell? wr _ c1)).trans c1, (hb2.cell (World.block_lt_of_cell? wr _ c2)).trans c2, (hb2.cell (World.block_lt_of_cell? wr _ c3)).trans c3⟩
            go_wp2
            go_ret
            exact ⟨ret_bool Hd.out.symm, hB2⟩
          · have Hd := Lib.hid (Hb.out hb)
            have Hp := Lib.hid hp
            clear hb hp
            go_wp2_with fail
            refine (spec_l26Open x b (off + k2 * 4) day _ c1 c3).mono ?_
            rintro e w2 ⟨rfl, hb2⟩
            rw [Hp.out]
            have hB2 := hB.trans (hb2.mono hBs)
            obtain ⟨c0', c1', c2', c3'⟩ : w2.cell? ⟨b, off + k2 * 4, none⟩ = some (.int .i64 x.crane) ∧ w2.cell? ⟨b, off + k2 * 4 + 1, none⟩ = some (.int .i64 x.day) ∧ w2.cell? ⟨b, off + k2 * 4 + 2, none⟩ = some (.int .i64 x.grade) ∧ w2.cell? ⟨b, off + k2 * 4 + 3, none⟩ = some (.int .i64 x.closed) :=
                          ⟨(hb2.cell (World.block_lt_of_cell? wr _ c0)).trans c0, (hb2.cell (World.block_lt_of_cell? wr _ c1)).trans c1, (hb2.cell (World.block_lt_of_cell? wr _ c2)).trans c2, (hb2.cell (World.block_lt_of_cell? wr _ c3)).trans c3⟩
            go_wp2
            go_ret
            exact ⟨ret_bool Hd.out.symm, hB2⟩
          · have Hd := Lib.hid (Hg.out (by simp [hb]))
            have Hr := Lib.hid hr
            have Hp := Lib.hid hp
            clear hb hr hp
            have hdf : decide (x.day + 7 < day) = false := decide_eq_false (by omega)
            go_wp2_with fail
            refine (spec_l26Open x b (off + k2 * 4) day _ c1 c3).mono ?_
            rintro e w2 ⟨rfl, hb2⟩
            rw [Hp.out]
            have hB2 := hB.trans (hb2.mono hBs)
            obtain ⟨c0', c1', c2', c3'⟩ : w2.cell? ⟨b, off + k2 * 4, none⟩ = some (.int .i64 x.crane) ∧ w2.cell? ⟨b, off + k2 * 4 + 1, none⟩ = some (.int .i64 x.day) ∧ w2.cell? ⟨b, off + k2 * 4 + 2, none⟩ = some (.int .i64 x.grade) ∧ w2.cell? ⟨b, off + k2 * 4 + 3, none⟩ = some (.int .i64 x.closed) :=
                          ⟨(hb2.cell (World.block_lt_of_cell? wr _ c0)).trans c0, (hb2.cell (World.block_lt_of_cell? wr _ c1)).trans c1, (hb2.cell (World.block_lt_of_cell? wr _ c2)).trans c2, (hb2.cell (World.block_lt_of_cell? wr _ c3)).trans c3⟩
            go_wp2
            go_roundw
            case rel => exact ⟨k2 + 1, by omega, by go_num, ⟨c + 1, by go_num, by omega, Lib.hid (by rw [Hct.out, Hr.out, hc.out]; simp)⟩, hB2, Hd⟩
            case measure => simp [intOf]; omega
          · have Hd := Lib.hid (Hg.out (by simp [hb]))
            have Hr := Lib.hid hr
            have Hp := Lib.hid hp
            clear hb hr hp
            go_wp2_with fail
            refine (spec_l26Open x b (off + k2 * 4) day _ c1 c3).mono ?_
            rintro e w2 ⟨rfl, hb2⟩
            rw [Hp.out]
            have hB2 := hB.trans (hb2.mono hBs)
            obtain ⟨c0', c1', c2', c3'⟩ : w2.cell? ⟨b, off + k2 * 4, none⟩ = some (.int .i64 x.crane) ∧ w2.cell? ⟨b, off + k2 * 4 + 1, none⟩ = some (.int .i64 x.day) ∧ w2.cell? ⟨b, off + k2 * 4 + 2, none⟩ = some (.int .i64 x.grade) ∧ w2.cell? ⟨b, off + k2 * 4 + 3, none⟩ = some (.int .i64 x.closed) :=
                          ⟨(hb2.cell (World.block_lt_of_cell? wr _ c0)).trans c0, (hb2.cell (World.block_lt_of_cell? wr _ c1)).trans c1, (hb2.cell (World.block_lt_of_cell? wr _ c2)).trans c2, (hb2.cell (World.block_lt_of_cell? wr _ c3)).trans c3⟩
            go_wp2
            go_roundw
            case rel => exact ⟨k2 + 1, by omega, by go_num, ⟨c + 1, by go_num, by omega, Lib.hid (by rw [Hct.out, Hr.out, hc.out]; simp)⟩, hB2, Hd⟩
            case measure => simp [intOf]; omega
        · have : k2 = l2.length := by omega
          subst this
          have hc' := hc.out
          rw [List.take_length] at hc'
          have Hd := Lib.hid ((mayB_end Hend.out (all_take_end hlt2 hall2.out)).trans (by rw [← hc']))
          clear hc'
          go_wp2
          go_ret
          exact ⟨ret_bool (by rw [Hd.out]; simp; omega), hB⟩
set_option maxRecDepth 100000 in
set_option maxHeartbeats 8000000 in
theorem impl_mayWork (v : Value) (l : List Chk) (lo hi : Nat) (v2 : Value) (l2 : List Fnd) (lo2 hi2 : Nat) (crane day : Int) (w : World) (h : Chks lo hi w v l) (hl : l.length ≤ 1048576) (hrow : ∀ k (hk : k < l.length), l[k].ok) (h2 : Fnds lo2 hi2 w v2 l2) (hl2 : l2.length ≤ 1048576) (hrow2 : ∀ k (hk : k < l2.length), l2[k].ok) (_hd0 : -200000 ≤ day) (_hd1 : day ≤ 200000) :
    Calls Try.prog 42 #[v, v2, .int .i64 crane, .int .i64 day] w fun e w' => e = .returned (.bool (mayB l l2 crane day)) ∧ Below w.heap.size w w' := by
  have hsl := h
  have Hsl2 := Lib.hid h2
  have Hrow := Lib.hid hrow
  have Hrow2 := Lib.hid hrow2
  obtain ⟨a, cap, rfl, hlen, hh⟩ := h
  obtain ⟨a2, cap2, rfl, hlen2, hh2⟩ := h2
  clear hh hh2 hrow hrow2
  go_enter Try.func42, Try.ntmps42
  go_wp2
  go_loopw [16] (fun i wr => ∃ k : Nat, k ≤ l.length ∧ i = .int .i64 k ∧ Below w.heap.size w wr ∧ Hid ((l.take k).all (fun x => !lateC crane day x) = true)) (fun i _ => l.length - (intOf i).toNat)
  case atStart => exact ⟨0, Nat.zero_le _, rfl, Below.refl _ _, Lib.hid rfl⟩
  case round =>
    obtain ⟨k, hk, rfl, hB, hall⟩ := hrel
    have hBs := hB.size
    by_cases hlt : k < l.length
    · obtain ⟨b, off, rfl⟩ := hsl.addr (by omega)
      obtain ⟨c0, c1, c2, c3⟩ := Chks.at (hsl.ext hB).get hlt
      have hok := Hrow.out k hlt
      have Hg := Lib.hid (all_take_succ (p := fun x => !lateC crane day x) hlt hall.out)
      have Hb := Lib.hid (mayB_late (fs := l2) (crane := crane) (day := day) hlt)
      clear hsl
      obtain ⟨_, _, ⟨h3, h4⟩, ⟨h5, h6⟩⟩ := hok
      generalize l[k] = x at *
      rcases late_cases x crane day with ⟨hlc, hq⟩ | ⟨hlc, hq, hp⟩ | ⟨hlc, hq, hp⟩
      · have Hd := Lib.hid (Hg.out (by simp [hlc]))
        clear hlc
        go_wp2
        go_roundw
        case rel => exact ⟨k + 1, by omega, by go_num, hB.alloc hBs _, Hd⟩
        case measure => simp [intOf]; omega
      · have Hd := Lib.hid (Hg.out (by simp [hlc]))
        have Hp := Lib.hid hp
        clear hlc hp
        have hdue := fun w => impl_due x w (by omega)
        simp only [Chk.cells] at hdue
        have Hdue := Lib.hid hdue
        clear hdue
        go_wp2_with fail
        refine (Hdue.out _).mono ?_
        rintro e w2 ⟨rfl, hb2⟩
        have hB2 := (hB.alloc hBs _).trans (hb2.mono (by simp; omega))
        have hdl : decide (x.last + x.every < day) = _ := Hp.out
        go_wp2
        go_roundw
        case rel => exact ⟨k + 1, by omega, by go_num, hB2, Hd⟩
        case measure => simp [intOf]; omega
      · have Hd := Lib.hid (Hb.out hlc)
        have Hp := Lib.hid hp
        clear hlc hp
        have hdue := fun w => impl_due x w (by omega)
        simp only [Chk.cells] at hdue
        have Hdue := Lib.hid hdue
        clear hdue
        go_wp2_with fail
        refine (Hdue.out _).mono ?_
        rintro e w2 ⟨rfl, hb2⟩
        have hB2 := (hB.alloc hBs _).trans (hb2.mono (by simp; omega))
        have hdl : decide (x.last + x.every < day) = _ := Hp.out
        go_wp2
        go_ret
        exact ⟨ret_bool Hd.out.symm, hB2⟩
    · have hend := all_take_end hlt hall.out
      have Hend := Lib.hid hend
      clear hend hsl
      have hsl2 := Hsl2.out
      go_wp2
      go_loopw [11, 33] (fun m i wr => ∃ k : Nat, k ≤ l2.length ∧ i = .int .i64 k ∧ (∃ c : Nat, m = .int .i64 c ∧ c ≤ k ∧ Hid (c = (l2.take k).countP (relP crane day))) ∧ Below w.heap.size w wr ∧ Hid ((l2.take k).all (fun x => !badP crane day x) = true)) (fun _ i _ => l2.length - (intOf i).toNat)
      case atStart => exact ⟨0, Nat.zero_le _, rfl, ⟨0, rfl, Nat.le_refl _, Lib.hid rfl⟩, hB, Lib.hid rfl⟩
      case round =>
        obtain ⟨k2, hk2, rfl, ⟨c, rfl, hck, hc⟩, hB, hall2⟩ := hrel
        have hBs := hB.size
        by_cases hlt2 : k2 < l2.length
        · obtain ⟨b, off, rfl⟩ := hsl2.addr (by omega)
          obtain ⟨c0, c1, c2, c3⟩ := Fnds.at (hsl2.ext hB).get hlt2
          have hok := Hrow2.out k2 hlt2
          have Hg := Lib.hid (all_take_succ (p := fun x => !badP crane day x) hlt2 hall2.out)
          have Hb := Lib.hid (mayB_bad (cs := l) (crane := crane) (day := day) hlt2)
          have Hct := Lib.hid (countP_take_succ (p := relP crane day) hlt2)
          have Hok := Lib.hid hok
          clear hsl2 hok
          generalize l2[k2] = x at *
          have hdb : 0 ≤ x.day ∧ x.day ≤ 100000 := ⟨Hok.out.2.2.1, Hok.out.2.2.2.1⟩
          have hcx := find_cases x crane day
          rcases hcx with ⟨hb, hr, hq⟩ | ⟨hb, hr, hq, hp⟩ | ⟨hb, hq, hp, hg3⟩ | ⟨hb, hq, hp, hg3, hg2, hdd⟩ | ⟨hb, hr, hq, hp, hg3, hg2, hdd⟩ | ⟨hb, hr, hq, hp, hg3, hg2⟩
          · have Hd := Lib.hid (Hg.out (by simp [hb]))
            have Hr := Lib.hid hr
            clear hb hr
            go_wp2
            go_roundw
            case rel => exact ⟨k2 + 1, by omega, by go_num, ⟨c, rfl, by omega, Lib.hid (by rw [Hct.out, Hr.out, hc.out]; simp)⟩, hB.alloc hBs _, Hd⟩
            case measure => simp [intOf]; omega
          · have Hd := Lib.hid (Hg.out (by simp [hb]))
            have Hr := Lib.hid hr
            have Hp := Lib.hid hp
            clear hb hr hp
            go_wp2_with fail
            refine (impl_open x day _ Hok.out).mono ?_
            rintro e w2 ⟨rfl, hb2⟩
            rw [Hp.out]
            have hB2 := (hB.alloc hBs _).trans (hb2.mono (by simp; omega))
            have e0 : w2.cell? ⟨wr.heap.size, 0, none⟩ = some (.int .i64 x.crane) := (hb2.cell (p := ⟨wr.heap.size, 0, none⟩) (by simp)).trans (by simp)
            have e1 : w2.cell? ⟨wr.heap.size, 1, none⟩ = some (.int .i64 x.day) := (hb2.cell (p := ⟨wr.heap.size, 1, none⟩) (by simp)).trans (by simp)
            have e2 : w2.cell? ⟨wr.heap.size, 2, none⟩ = some (.int .i64 x.grade) := (hb2.cell (p := ⟨wr.heap.size, 2, none⟩) (by simp)).trans (by simp)
            have e3 : w2.cell? ⟨wr.heap.size, 3, none⟩ = some (.int .i64 x.closed) := (hb2.cell (p := ⟨wr.heap.size, 3, none⟩) (by simp)).trans (by simp)
            go_wp2
            go_roundw
            case rel => exact ⟨k2 + 1, by omega, by go_num, ⟨c, rfl, by omega, Lib.hid (by rw [Hct.out, Hr.out, hc.out]; simp)⟩, hB2, Hd⟩
            case measure => simp [intOf]; omega
          · have Hd := Lib.hid (Hb.out hb)
            have Hp := Lib.hid hp
            clear hb hp
            go_wp2_with fail
            refine (impl_open x day _ Hok.out).mono ?_
            rintro e w2 ⟨rfl, hb2⟩
            rw [Hp.out]
            have hB2 := (hB.alloc hBs _).trans (hb2.mono (by simp; omega))
            have e0 : w2.cell? ⟨wr.heap.size, 0, none⟩ = some (.int .i64 x.crane) := (hb2.cell (p := ⟨wr.heap.size, 0, none⟩) (by simp)).trans (by simp)
            have e1 : w2.cell? ⟨wr.heap.size, 1, none⟩ = some (.int .i64 x.day) := (hb2.cell (p := ⟨wr.heap.size, 1, none⟩) (by simp)).trans (by simp)
            have e2 : w2.cell? ⟨wr.heap.size, 2, none⟩ = some (.int .i64 x.grade) := (hb2.cell (p := ⟨wr.heap.size, 2, none⟩) (by simp)).trans (by simp)
            have e3 : w2.cell? ⟨wr.heap.size, 3, none⟩ = some (.int .i64 x.closed) := (hb2.cell (p := ⟨wr.heap.size, 3, none⟩) (by simp)).trans (by simp)
            go_wp2
            go_ret
            exact ⟨ret_bool Hd.out.symm, hB2⟩
          · have Hd := Lib.hid (Hb.out hb)
            have Hp := Lib.hid hp
            clear hb hp
            go_wp2_with fail
            refine (impl_open x day _ Hok.out).mono ?_
            rintro e w2 ⟨rfl, hb2⟩
            rw [Hp.out]
            have hB2 := (hB.alloc hBs _).trans (hb2.mono (by simp; omega))
            have e0 : w2.cell? ⟨wr.heap.size, 0, none⟩ = some (.int .i64 x.crane) := (hb2.cell (p := ⟨wr.heap.size, 0, none⟩) (by simp)).trans (by simp)
            have e1 : w2.cell? ⟨wr.heap.size, 1, none⟩ = some (.int .i64 x.day) := (hb2.cell (p := ⟨wr.heap.size, 1, none⟩) (by simp)).trans (by simp)
            have e2 : w2.cell? ⟨wr.heap.size, 2, none⟩ = some (.int .i64 x.grade) := (hb2.cell (p := ⟨wr.heap.size, 2, none⟩) (by simp)).trans (by simp)
            have e3 : w2.cell? ⟨wr.heap.size, 3, none⟩ = some (.int .i64 x.closed) := (hb2.cell (p := ⟨wr.heap.size, 3, none⟩) (by simp)).trans (by simp)
            go_wp2
            go_ret
            exact ⟨ret_bool Hd.out.symm, hB2⟩
          · have Hd := Lib.hid (Hg.out (by simp [hb]))
            have Hr := Lib.hid hr
            have Hp := Lib.hid hp
            clear hb hr hp
            have hdf : decide (x.day + 7 < day) = false := decide_eq_false (by omega)
            go_wp2_with fail
            refine (impl_open x day _ Hok.out).mono ?_
            rintro e w2 ⟨rfl, hb2⟩
            rw [Hp.out]
            have hB2 := (hB.alloc hBs _).trans (hb2.mono (by simp; omega))
            have e0 : w2.cell? ⟨wr.heap.size, 0, none⟩ = some (.int .i64 x.crane) := (hb2.cell (p := ⟨wr.heap.size, 0, none⟩) (by simp)).trans (by simp)
            have e1 : w2.cell? ⟨wr.heap.size, 1, none⟩ = some (.int .i64 x.day) := (hb2.cell (p := ⟨wr.heap.size, 1, none⟩) (by simp)).trans (by simp)
            have e2 : w2.cell? ⟨wr.heap.size, 2, none⟩ = some (.int .i64 x.grade) := (hb2.cell (p := ⟨wr.heap.size, 2, none⟩) (by simp)).trans (by simp)
            have e3 : w2.cell? ⟨wr.heap.size, 3, none⟩ = some (.int .i64 x.closed) := (hb2.cell (p := ⟨wr.heap.size, 3, none⟩) (by simp)).trans (by simp)
            go_wp2
            go_roundw
            case rel => exact ⟨k2 + 1, by omega, by go_num, ⟨c + 1, by go_num, by omega, Lib.hid (by rw [Hct.out, Hr.out, hc.out]; simp)⟩, hB2, Hd⟩
            case measure => simp [intOf]; omega
          · have Hd := Lib.hid (Hg.out (by simp [hb]))
            have Hr := Lib.hid hr
            have Hp := Lib.hid hp
            clear hb hr hp
            go_wp2_with fail
            refine (impl_open x day _ Hok.out).mono ?_
            rintro e w2 ⟨rfl, hb2⟩
            rw [Hp.out]
            have hB2 := (hB.alloc hBs _).trans (hb2.mono (by simp; omega))
            have e0 : w2.cell? ⟨wr.heap.size, 0, none⟩ = some (.int .i64 x.crane) := (hb2.cell (p := ⟨wr.heap.size, 0, none⟩) (by simp)).trans (by simp)
            have e1 : w2.cell? ⟨wr.heap.size, 1, none⟩ = some (.int .i64 x.day) := (hb2.cell (p := ⟨wr.heap.size, 1, none⟩) (by simp)).trans (by simp)
            have e2 : w2.cell? ⟨wr.heap.size, 2, none⟩ = some (.int .i64 x.grade) := (hb2.cell (p := ⟨wr.heap.size, 2, none⟩) (by simp)).trans (by simp)
            have e3 : w2.cell? ⟨wr.heap.size, 3, none⟩ = some (.int .i64 x.closed) := (hb2.cell (p := ⟨wr.heap.size, 3, none⟩) (by simp)).trans (by simp)
            go_wp2
            go_roundw
            case rel => exact ⟨k2 + 1, by omega, by go_num, ⟨c + 1, by go_num, by omega, Lib.hid (by rw [Hct.out, Hr.out, hc.out]; simp)⟩, hB2, Hd⟩
            case measure => simp [intOf]; omega
        · have : k2 = l2.length := by omega
          subst this
          have hc' := hc.out
          rw [List.take_length] at hc'
          have Hd := Lib.hid ((mayB_end Hend.out (all_take_end hlt2 hall2.out)).trans (by rw [← hc']))
          clear hc'
          go_wp2
          go_ret
          exact ⟨ret_bool (by rw [Hd.out]; simp; omega), hB⟩
end Go.Proofs.Ytmkhapgkiecmaaa
