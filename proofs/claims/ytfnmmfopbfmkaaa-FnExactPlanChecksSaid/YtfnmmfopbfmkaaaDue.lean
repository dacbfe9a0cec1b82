/- DueDays, OverdueChecks, in both packages. -/
import Derived.Test.YtfnmmfopbfmkaaaChk
import Derived.Test.YtfnmmfopbfmkaaaOwn
import Derived.IntWalk
namespace Go.Proofs.Ytfnmmfopbfmkaaa
open Go.RowKit

theorem info_int64 : (Try.prog.info? 2).map (fun i => (i.zero.map (·.cells.size), i.size, i.bytes)) = some (some 1, 1, 8) := by kernel_rfl

theorem chksOk.row {l : List Chk} (h : chksB l = true) {k : Nat} (hk : k < l.length) : l[k].ok := ((chksB_iff.1 h).1 k hk).1

open Classical in
noncomputable def dueDays (l : List Chk) : List Int × Int := if chksB l = true then (l.map fun x => x.last + x.every, 0) else ([], 1)
theorem dueDays_t {l : List Chk} (h : chksB l = true) : dueDays l = (l.map fun x => x.last + x.every, 0) := if_pos h
theorem dueDays_f {l : List Chk} (h : chksB l = false) : dueDays l = ([], 1) := if_neg (by simp [h])
theorem dueDays_len (l : List Chk) : (dueDays l).1.length ≤ l.length := by
  cases h : chksB l
  · rw [dueDays_f h]; simp
  · rw [dueDays_t h]; simp

set_option maxRecDepth 100000 in
set_option maxHeartbeats 4000000 in
theorem spec_DueDays (v : Value) (l : List Chk) (lo hi : Nat) (w : World) (h : Chks lo hi w v l) (_hl : l.length ≤ 1048576) (hwf : ∀ x ∈ l, x.wf) :
    Calls Try.prog 45 #[v] w (ListRes intCells 1 w (dueDays l).1 (dueDays l).2) := by
  have hsl := h
  have Hwf := Lib.hid hwf
  obtain ⟨a, cap, rfl, hlen, hh⟩ := h
  clear hh hwf
  cases hb : chksB l
  · rw [dueDays_f hb]
    have hc := fun w' h' => spec_l26Ok (.slice a l.length cap) l lo hi w' h' Hwf.out
    rw [hb] at hc
    have Hc := Lib.hid hc
    clear hc hb
    go_enter Try.func45, Try.ntmps45
    go_wp2_with fail
    refine (Hc.out w hsl).mono ?_
    rintro e w1 ⟨rfl, hb1⟩
    go_wp2
    go_ret2
    exact ⟨_, rfl, slw_nil, hb1⟩
  · rw [dueDays_t hb]
    have hc := fun w' h' => spec_l26Ok (.slice a l.length cap) l lo hi w' h' Hwf.out
    rw [hb] at hc
    have Hc := Lib.hid hc
    have Hrow := Lib.hid (fun k (hk : k < l.length) => chksOk.row hb hk)
    clear hc hb
    go_enter Try.func45, Try.ntmps45
    go_wp2_with fail
    refine (Hc.out w hsl).mono ?_
    rintro e w1 ⟨rfl, hb1⟩
    have hbs := hb1.size
    go_wp2
    go_loopw [4, 5] (fun o i wr => ∃ k : Nat, k ≤ l.length ∧ i = .int .i64 k ∧ Below w.heap.size w wr ∧ Hid (Own 1 intCells w.heap.size 2 wr o ((l.take k).map fun x => x.last + x.every))) (fun _ i _ => l.length - (intOf i).toNat)
    case atStart => exact ⟨0, Nat.zero_le _, rfl, hb1.alloc hbs _, Lib.hid (own_empty w1 _ _ hbs)⟩
    case round =>
      obtain ⟨k, hk, rfl, hB, hown⟩ := hrel
      by_cases hlt : k < l.length
      · obtain ⟨b, off, rfl⟩ := hsl.addr (by omega)
        obtain ⟨c0, c1, c2, c3⟩ := Chks.at (hsl.ext hB).get hlt
        have hbw := World.block_lt_of_cell? w _ (Chks.at hsl.get hlt).1
        have hok := Hrow.out k hlt
        have hts : (l.take (k + 1)).map (fun x => x.last + x.every) = (l.take k).map (fun x => x.last + x.every) ++ [l[k].last + l[k].every] := by rw [List.take_succ_eq_append_getElem hlt, List.map_append, List.map_singleton]
        have Hts := Lib.hid hts
        have hll : ((l.take k).map (fun x : Chk => x.last + x.every)).length ≤ 1048576 := by simp; omega
        clear hsl hts
        obtain ⟨_, _, ⟨h3, h4⟩, ⟨h5, h6⟩⟩ := hok
        generalize l[k] = x at *
        generalize (l.take k).map (fun x => x.last + x.every) = lk at *
        have hBs := hB.size
        have hsum : IntKind.i64.wrap (x.last + x.every) = x.last + x.every := IntWalk.i64_in _ (by omega)
        go_wp2_with fail
        go_region_held3 (fun w' => (∀ b o, b < w.heap.size → w'.cell? ⟨b, o, none⟩ = wr.cell? ⟨b, o, none⟩) ∧ Below w.heap.size wr w') (first | exact heldB (Below.refl _ _).drew | exact heldB ((Below.refl _ _).drew.alloc (by simpa using hBs) _) | exact heldB hBapp)
          (first | (refine step_app1 (c := intCells) (bytes := 8) rfl _ _ 45 2 rfl Try.underlying45 info_int64 (by omega) intCells_len intCells_one w.heap.size lk (x.last + x.every) _ rfl _ rfl hown.out.drew rfl (by omega) (by omega) (by simpa using hBs) ?_; intro v' w2 hown2 hg2; have hBapp : Below w.heap.size wr w2 := hown.out.drew.app (Below.refl _ _).drew (Nat.le_refl _) (by simpa using hBs) hg2))
        go_wp2
        go_roundw
        case rel => exact ⟨k + 1, by omega, by go_num, hB.trans hBapp, Lib.hid (by rw [Hts.out]; exact hown2)⟩
        case measure => simp [intOf]; omega
      · have : k = l.length := by omega
        subst this
        have hfin := hown.out.slw intCells_len
        rw [List.take_length] at hfin
        have Hfin := Lib.hid hfin
        clear hfin
        go_wp2
        go_ret2
        exact ⟨_, rfl, Hfin.out, hB⟩

theorem impl_due (x : Chk) (w : World) (hb : -1000000 ≤ x.last + x.every ∧ x.last + x.every ≤ 1000000) :
    Calls Try.prog 90 #[.agg x.cells.toArray] w fun e w' => e = .returned (.int .i64 (x.last + x.every)) ∧ Below w.heap.size w w' := by
  obtain ⟨x0, x1, x2, x3⟩ := x
  simp only [Chk.cells] at *
  go_enter Try.func90, Try.ntmps90
  go_wp2
  go_ret
  exact ⟨rfl, (Below.refl _ _).alloc (Nat.le_refl _) _⟩


set_option maxRecDepth 100000 in
set_option maxHeartbeats 4000000 in
theorem impl_DueDays (v : Value) (l : List Chk) (lo hi : Nat) (w : World) (h : Chks lo hi w v l) (hl : l.length ≤ 1048576) (hwf : ∀ x ∈ l, x.wf) :
    Calls Try.prog 46 #[v] w (ListRes intCells 1 w (dueDays l).1 (dueDays l).2) := by
  have hsl := h
  have Hwf := Lib.hid hwf
  obtain ⟨a, cap, rfl, hlen, hh⟩ := h
  clear hh hwf
  cases hb : chksB l
  · rw [dueDays_f hb]
    have hc := fun w' h' => impl_ValidChecks (.slice a l.length cap) l lo hi w' h' hl Hwf.out
    rw [hb] at hc
    have Hc := Lib.hid hc
    clear hc hb
    go_enter Try.func46, Try.ntmps46
    go_wp2_with fail
    refine (Hc.out w hsl).mono ?_
    rintro e w1 ⟨rfl, hb1⟩
    go_wp2
    go_ret2
    exact ⟨_, rfl, slw_nil, hb1⟩
  · rw [dueDays_t hb]
    have hc := fun w' h' => impl_ValidChecks (.slice a l.length cap) l lo hi w' h' hl Hwf.out
    rw [hb] at hc
    have Hc := Lib.hid hc
    have Hrow := Lib.hid (fun k (hk : k < l.length) => chksOk.row hb hk)
    clear hc hb
    go_enter Try.func46, Try.ntmps46
    go_wp2_with fail
    refine (Hc.out w hsl).mono ?_
    rintro e w1 ⟨rfl, hb1⟩
    have hbs := hb1.size
    go_wp2
    go_loopw [4, 12] (fun o i wr => ∃ k : Nat, k ≤ l.length ∧ i = .int .i64 k ∧ Below w.heap.size w wr ∧ Hid (Own 1 intCells w.heap.size 2 wr o ((l.take k).map fun x => x.last + x.every))) (fun _ i _ => l.length - (intOf i).toNat)
    case atStart => exact ⟨0, Nat.zero_le _, rfl, hb1, Lib.hid (own_nil _ _ _)⟩
    case round =>
      obtain ⟨k, hk, rfl, hB, hown⟩ := hrel
      by_cases hlt : k < l.length
      · obtain ⟨b, off, rfl⟩ := hsl.addr (by omega)
        obtain ⟨c0, c1, c2, c3⟩ := Chks.at (hsl.ext hB).get hlt
        have hok := Hrow.out k hlt
        have hts : (l.take (k + 1)).map (fun x => x.last + x.every) = (l.take k).map (fun x => x.last + x.every) ++ [l[k].last + l[k].every] := by rw [List.take_succ_eq_append_getElem hlt, List.map_append, List.map_singleton]
        have Hts := Lib.hid hts
        have hll : ((l.take k).map (fun x : Chk => x.last + x.every)).length ≤ 1048576 := by simp; omega
        clear hsl hts
        obtain ⟨_, _, ⟨h3, h4⟩, ⟨h5, h6⟩⟩ := hok
        generalize l[k] = x at *
        generalize (l.take k).map (fun x => x.last + x.every) = lk at *
        have hBs := hB.size
        have hdue := fun w => impl_due x w (by omega)
        simp only [Chk.cells] at hdue
        have Hdue := Lib.hid hdue
        clear hdue
        go_wp2_with fail
        refine (Hdue.out _).mono ?_
        rintro e w2 ⟨rfl, hb2⟩
        have hB2 := (hB.alloc hBs _).trans (hb2.mono (by simp; omega))
        have hown2 := Lib.hid (Own.below (Own.alloc hown.out _) hb2)
        have hBs2 := hB2.size
        go_wp2_with (at_builtin; refine wpList_app1 (c := intCells) (bytes := 8) rfl _ _ 45 2 rfl Try.underlying45 info_int64 (by omega) intCells_len intCells_one w.heap.size lk (x.last + x.every) _ rfl _ rfl hown2.out rfl (by omega) (by omega) hBs2 ?_; intro v' w3 hown3 hg3; have hB3 := hown2.out.app hB2 (Nat.le_refl _) hBs2 hg3)
        go_roundw
        case rel => exact ⟨k + 1, by omega, by go_num, hB3, Lib.hid (by rw [Hts.out]; exact hown3)⟩
        case measure => simp [intOf]; omega
      · have : k = l.length := by omega
        subst this
        have hfin := hown.out.slw intCells_len
        rw [List.take_length] at hfin
        have Hfin := Lib.hid hfin
        clear hfin
        go_wp2
        go_ret2
        exact ⟨_, rfl, Hfin.out, hB⟩
end Go.Proofs.Ytfnmmfopbfmkaaa
