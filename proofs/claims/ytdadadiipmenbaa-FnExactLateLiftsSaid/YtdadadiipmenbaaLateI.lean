/- LateLifts, the program. -/
import Derived.Test.YtdadadiipmenbaaLateP
import Derived.Test.YtdadadiipmenbaaShelf
import Derived.Sort.OwnSortedInts
namespace Go.Proofs.Ytdadadiipmenbaa
open Go.RowKit
theorem impl_index_t (n m : Int) (w : World) (h : 0 ≤ n) (h2 : n ≤ m - 1) (hm : 0 ≤ m ∧ m ≤ 1000000) : Calls Try.prog 52 #[.int .i64 n, .int .i64 m] w fun e w' => e = .returned (.bool true) ∧ w = w' := by
  have hw : IntKind.i64.wrap (m - 1) = m - 1 := IntWalk.i64_in _ (by omega)
  go_enter Try.func52, Try.ntmps52
  go_wp2_with (go_at_call 79; refine (impl_within_t _ _ _ _ h h2).mono ?_; rintro e w' ⟨rfl, rfl⟩)
  go_ret
  exact ⟨rfl, rfl⟩
theorem impl_index_f (n m : Int) (w : World) (h : ¬ (0 ≤ n ∧ n ≤ m - 1)) (hm : 0 ≤ m ∧ m ≤ 1000000) : Calls Try.prog 52 #[.int .i64 n, .int .i64 m] w fun e w' => e = .returned (.bool false) ∧ w = w' := by
  have hw : IntKind.i64.wrap (m - 1) = m - 1 := IntWalk.i64_in _ (by omega)
  go_enter Try.func52, Try.ntmps52
  go_wp2_with (go_at_call 79; refine (impl_within_f _ _ _ _ h).mono ?_; rintro e w' ⟨rfl, rfl⟩)
  go_ret
  exact ⟨rfl, rfl⟩
theorem flat_ints : ∀ l : List Int, l.flatMap intCells = l.map (Value.int .i64)
  | [] => rfl
  | x :: r => by rw [List.flatMap_cons, List.map_cons, flat_ints r]; rfl
/-- A slice of the call's own, sorted in place. -/
theorem own_sort {lo g cap n : Nat} {os : Array Obj} {w : World} {ss ts : List Int} (h : Own 1 intCells lo 2 w (.slice (some ⟨g, 0, none⟩) ss.length cap) ss) (hl : ts.length = ss.length) :
    Own 1 intCells lo 2 (Go.Sort.grow (Go.Sort.putRow (Value.int .i64) (Go.Sort.ahead w n) g 0 ts.toArray) os) (.slice (some ⟨g, 0, none⟩) ts.length cap) ts := by
  obtain ⟨h1, ⟨h2, _⟩ | ⟨g', cap', cur, h2, h3, h4, h5, h6, h7, h8⟩⟩ := h
  · cases h2
  · cases h2
    have := ownsRow_sortedI (n := n) (os := os) (ss := ss) (ts := ts) hl h3 h4 h5 h6 h7
    show World.ownsRow _ _ _ _ _ _ _
    rw [flat_ints, hl]
    exact this
theorem own_holds {lo g cap : Nat} {w : World} {ss : List Int} (h : Own 1 intCells lo 2 w (.slice (some ⟨g, 0, none⟩) ss.length cap) ss) : Go.Sort.Holds (Value.int .i64) w g 0 ss.toArray ∧ g < w.heap.size ∧ lo ≤ g ∧ ss.length ≤ cap := by
  obtain ⟨h1, ⟨h2, _⟩ | ⟨g', cap', cur, h2, h3, h4, h5, h6, h7, h8⟩⟩ := h
  · cases h2
  · cases h2
    exact ⟨holds_of_blockI h4 (by rw [flat_ints, Nat.mul_one] at h8; exact h8), (Array.getElem?_eq_some_iff.1 h4).1, h3, h5⟩
theorem own_cut {lo g cap : Nat} {w : World} {a b : List Int} (h : Own 1 intCells lo 2 w (.slice (some ⟨g, 0, none⟩) (a ++ b).length cap) (a ++ b)) : Own 1 intCells lo 2 w (.slice (some ⟨g, 0, none⟩) a.length cap) a := by
  obtain ⟨h1, ⟨h2, _⟩ | ⟨g', cap', cur, h2, h3, h4, h5, h6, h7, h8⟩⟩ := h
  · cases h2
  · cases h2
    rw [List.length_append] at h5
    refine ⟨by rw [flat_len intCells_len], .inr ⟨g, cap, cur, rfl, h3, h4, by omega, h6, h7, ?_⟩⟩
    rw [Nat.mul_one, flat_ints] at *
    have h9 : (cur.toList.take (a ++ b).length).take a.length = ((a ++ b).map (Value.int .i64)).take a.length := by rw [h8]
    rw [List.take_take, List.length_append, Nat.min_eq_left (by omega), List.map_append, List.take_left' (by simp)] at h9
    exact h9
theorem compact_len (zs : List Int) : (Lib.compact zs).length ≤ zs.length := by
  unfold Lib.compact Lib.compactUpTo
  rw [List.length_map]
  have := List.length_filter_le (Lib.keeps zs.toArray) (List.range zs.length)
  rwa [List.length_range] at this
theorem putRow_grow0 (w : World) (g n : Nat) (d : Array Int) : Go.Sort.putRow (Value.int .i64) (Go.Sort.ahead w n) g 0 d = Go.Sort.grow (Go.Sort.putRow (Value.int .i64) (Go.Sort.ahead w n) g 0 d) #[] := (Go.Sort.grow_empty _).symm
set_option maxRecDepth 100000 in
set_option maxHeartbeats 8000000 in
theorem impl_LateLifts (v2 : Value) (rg : List LiftR) (G : LiftsL) (lo2 hi2 : Nat) (v : Value) (l : List Tsk) (lo hi : Nat) (w : World) (h2 : Lifts lo2 hi2 w v2 rg G) (hwf2 : ∀ x ∈ G, x.1.name.size ≤ maxLen) (hlen2 : G.length ≤ 1048576) (h : Tsks lo hi w v l) (hwf : ∀ x ∈ l, x.wf) :
    Calls Try.prog 27 #[v2, v] w (ListRes intCells 1 w (lateR G l).1 (lateR G l).2) := by
  have Hg := Lib.hid h2
  have hl2 := h2.len
  obtain ⟨⟨a2, cap2, rfl, ⟨hc2, hc2'⟩, -⟩, -, -⟩ := h2
  rw [hl2] at hc2 Hg ⊢
  have Hl2 := Lib.hid hl2
  clear hl2
  have hsl := h
  obtain ⟨a, cap, rfl, hlen, hh⟩ := h
  clear hh
  have Hwf := Lib.hid hwf
  have hV := impl_LiftsOk _ rg G lo2 hi2 w Hg.out hwf2 hlen2
  have hT := fun w' (hb : Below w.heap.size w w') => impl_TasksOk _ l lo hi w' (hsl.ext hb)
  clear hwf2 hwf
  cases hv : liftsB G
  · rw [lateR_1 (fun hx => by rw [hv] at hx; cases hx.1)]
    rw [hv] at hV
    have HV := Lib.hid hV
    clear hV hT hv
    go_enter Try.func27, Try.ntmps27
    go_wp2_with fail
    refine HV.out.mono ?_
    rintro e w1 ⟨rfl, hb1⟩
    go_wp2
    go_ret2
    exact ⟨_, rfl, slw_nil, hb1⟩
  cases ht : tsksB l
  · rw [lateR_1 (fun hx => by rw [ht] at hx; cases hx.2)]
    rw [hv] at hV
    have HV := Lib.hid hV
    rw [ht] at hT
    have HT := Lib.hid hT
    clear hV hT hv ht
    go_enter Try.func27, Try.ntmps27
    go_wp2_with fail
    refine HV.out.mono ?_
    rintro e w1 ⟨rfl, hb1⟩
    go_wp2_with (go_at_call 51; refine (HT.out _ hb1).mono ?_; rintro e w2 ⟨rfl, hb2⟩)
    go_ret2
    exact ⟨_, rfl, slw_nil, hb1.trans (hb2.mono hb1.size)⟩
  have Hgok := Lib.hid (liftsB_iff.1 hv)
  have Htok := Lib.hid (tsksB_iff.1 ht)
  have Hvt := Lib.hid (show liftsB G = true ∧ tsksB l = true from ⟨hv, ht⟩)
  have hg10 := Hgok.out.2
  have hl40 := Htok.out.2
  rw [hv] at hV
  have HV := Lib.hid hV
  rw [ht] at hT
  have HT := Lib.hid hT
  clear hV hT hv ht
  go_enter Try.func27, Try.ntmps27
  go_wp2_with fail
  refine HV.out.mono ?_
  rintro e w1 ⟨rfl, hb1⟩
  have HB1 := Lib.hid hb1
  clear hb1
  go_wp2_with (go_at_call 51; refine (HT.out _ HB1.out).mono ?_; rintro e w2 ⟨rfl, hb2⟩)
  have HB2 := Lib.hid (HB1.out.trans (hb2.mono HB1.out.size))
  have hB2 := HB2.out.size
  clear hb2
  go_loopw [6, 19] (fun o i wr => ∃ (k : Nat) (dv : Value), o = dv ∧ k ≤ l.length ∧ i = .int .i64 k ∧ Below w2.heap.size w2 wr ∧ Hid (Own 1 intCells w2.heap.size 2 wr dv (colL G (l.take k))) ∧ Hid (∀ i (hi : i < l.length), i < k → l[i].lift < (G.length : Int))) (fun _ i _ => l.length - (intOf i).toNat)
  case atStart => exact ⟨0, _, rfl, Nat.zero_le _, rfl, Below.refl _ _, Lib.hid (by simpa [colL] using own_nil _ _ _), Lib.hid (fun i _ h => absurd h (by omega))⟩
  case round =>
    obtain ⟨k, dv, hdv, hk, rfl, hB, hown, hall⟩ := hrel
    have hdv := hdv.symm
    subst hdv
    have hBw := HB2.out.trans (hB.mono hB2)
    have hBs := hB.size
    by_cases hlt : k < l.length
    · obtain ⟨b, off, rfl⟩ := hsl.addr (by omega)
      obtain ⟨c0, c1, c2, c3⟩ := Tsks.at (hsl.ext hBw).get hlt
      have hok : (l[k]).ok := by have := (Htok.out.1 k hlt).1; rwa [getD_get hlt] at this
      obtain ⟨n, hn⟩ : ∃ n : Nat, l[k].lift = (n : Int) := ⟨l[k].lift.toNat, by have := hok.1.1; omega⟩
      have hR2 := Lib.hid (fun hx => lateR_2 Hvt.out hlt hx)
      have hY := Lib.hid (fun hd => colL_yes (G := G) hlt hn hd)
      have hN := Lib.hid (fun hd => colL_no (G := G) hlt hn hd)
      have hcl := colL_len G l k
      have hbw := World.block_lt_of_cell? wr _ c0
      have hnk : n ≤ 9 := by have := hok.1.2; omega
      rw [hn] at c0
      have hge2 := Lib.hid (fun hx : (G.length : Int) ≤ (n : Int) => hR2.out (by rw [hn]; exact hx))
      have hall2 := Lib.hid (fun hx : n < G.length => (fun i hi hik => by
          by_cases e : i < k
          · exact hall.out i hi e
          · obtain rfl : i = k := by omega
            rw [hn]; omega : ∀ i (hi : i < l.length), i < k + 1 → l[i].lift < (G.length : Int)))
      have hdl := Lib.hid (fun hx : n < G.length => dlAt_eq (G := G) hx)
      clear hsl hR2 hok hn
      generalize hfv : l[k].fin = fin at *
      generalize l[k].crane = x1 at *
      generalize l[k].start = x2 at *
      generalize hck : colL G (l.take k) = lk at *
      have Hck := Lib.hid hck
      clear hck hfv
      obtain ⟨W1, hW, e1, hB1, hz1⟩ := obx1 wr (.cells #[.int .i64 (n : Int), .int .i64 x1, .int .i64 x2, .int .i64 fin] 92 (0, 0))
      have HW := Lib.hid hW
      have HB3 := Lib.hid (hB.trans (hB1.mono hBs))
      have k0 : W1.cell? ⟨wr.heap.size, 0, none⟩ = some (.int .i64 (n : Int)) := by rw [Lib.cell_of_heap e1]; rfl
      have k3 : W1.cell? ⟨wr.heap.size, 3, none⟩ = some (.int .i64 fin) := by rw [Lib.cell_of_heap e1]; rfl
      have hown1 := Lib.hid (hown.out.below hB1)
      have HB4 := Lib.hid (HB2.out.trans (HB3.out.mono hB2))
      have hq0 : wr.heap.size < W1.heap.size := by omega
      have hBs3 := HB3.out.size
      clear hW e1 hown hB1
      by_cases hge : G.length ≤ n
      · have hr := Lib.hid (hge2.out (by omega))
        go_wp2_with fail
        rw [HW.out]
        go_wp2_with (go_at_call 52; refine (impl_index_f _ _ _ (by omega) (by omega)).mono ?_; rintro e w' ⟨rfl, rfl⟩)
        go_ret2
        rw [hr.out]
        exact ⟨_, rfl, slw_nil, HB4.out⟩
      · have hnG : n < G.length := by omega
        have hgr : Lifts lo2 hi2 W1 (.slice a2 G.length cap2) rg G := Hg.out.ext HB4.out
        have hk1 : n < rg.length := by rw [Hl2.out]; exact hnG
        obtain ⟨hfl, -⟩ := hgr.one hnG hk1
        obtain ⟨b2, off2, rfl⟩ := (show ∃ b off, a2 = some ⟨b, off, none⟩ from Sl.addr (by have := hgr.out; rw [← Hl2.out] at this; exact this) (by omega))
        have d7 := (Lifts_at hgr hk1).2.2.2.2.2.2.2.1
        rw [hfl, ← hdl.out hnG] at d7
        have hn0 : ¬ ((n : Int) < 0) := by omega
        have hnl : (n : Int) < (G.length : Int) := by omega
        have Hall := Lib.hid (hall2.out hnG)
        clear hgr hfl hdl hall2 hge2
        generalize dlAt G n = dl at *
        go_wp2_with fail
        rw [HW.out]
        by_cases hd : dl < fin
        · have hdd : decide (dl < fin) = true := decide_eq_true hd
          have hy := Lib.hid (hY.out hd)
          clear hY hN hd
          go_wp2_with fail
          refine (impl_index_t _ _ _ (by omega) (by omega) (by omega)).mono ?_
          rintro e w' ⟨rfl, rfl⟩
          go_wp2_with fail
          go_quiet (fail)
          obtain ⟨W2, hW2⟩ : ∃ W2, W1.drewN nq = W2 := ⟨_, rfl⟩
          have b12 : Below W1.heap.size W1 W2 := by rw [← hW2]; exact below_dN (Below.refl _ _) _
          rw [hW2]
          have HB5 := Lib.hid (HB3.out.trans (b12.mono hBs3))
          have hBs5 := HB5.out.size
          have m0 := (b12.cell (p := ⟨wr.heap.size, 0, none⟩) hq0).trans k0
          have hown2 := Lib.hid (hown1.out.below b12)
          have hq5 : wr.heap.size < W2.heap.size := World.block_lt_of_cell? W2 _ m0
          clear hW2 b12 k0 k3 d7 c0 c1 c2 c3
          go_wp2_with (at_builtin; refine wpList_app1 (c := intCells) (bytes := 8) rfl _ _ 28 2 rfl Try.underlying28 info_i64l (by omega) intCells_len intCells_one w2.heap.size lk (n : Int) _ rfl _ rfl hown2.out rfl (by omega) (by omega) hBs5 ?_; intro v' w4 hown4 hg4; have hB5 := hown2.out.app HB5.out (Nat.le_refl _) hBs5 hg4)
          go_roundw
          case rel => exact ⟨k + 1, _, rfl, by omega, by go_num, hB5, Lib.hid (by rw [hy.out]; exact hown4), Hall⟩
          case measure => simp [intOf]; omega
        · have hdd : decide (dl < fin) = false := decide_eq_false hd
          have hy := Lib.hid (hN.out (by omega))
          clear hY hN hd
          go_wp2_with (first | (go_at_call 52; refine (impl_index_t _ _ _ (by omega) (by omega) (by omega)).mono ?_; rintro e w' ⟨rfl, rfl⟩) | go_quiet (fail))
          go_roundw
          case rel => exact ⟨k + 1, _, rfl, by omega, by go_num, below_dN HB3.out _, Lib.hid (by rw [hy.out]; exact hown1.out.below (below_dN (Below.refl _ _) _)), Hall⟩
          case measure => simp [intOf]; omega
    · obtain rfl : k = l.length := by omega
      have hr := Lib.hid (lateR_0 Hvt.out (fun i hi => hall.out i hi hi))
      have hco := late_col G l (fun i hi => ⟨by have := (Htok.out.1 i hi).1; rw [getD_get hi] at this; exact this.1.1, hall.out i hi hi⟩)
      have hown1 := hown.out
      rw [List.take_length] at hown1
      have hcl : (colL G l).length ≤ 40 := by have := colL_len G l l.length; rw [List.take_length] at this; omega
      generalize colL G l = zs at *
      have hlz : (zs.mergeSort fun x y => decide (x ≤ y)).length = zs.length := List.length_mergeSort _
      generalize hts : zs.mergeSort (fun x y => decide (x ≤ y)) = ts at *
      have Hts := Lib.hid hts
      clear hts
      have Hco := Lib.hid hco
      have hown2 := hown1
      obtain ⟨-, ⟨rfl, hz⟩ | ⟨g, cap3, cur, rfl, -⟩⟩ := hown1
      · have he : ts = [] := List.eq_nil_of_length_eq_zero (by omega)
        subst he
        clear hown hown2 hsl hco
        go_wp2_with (first | (go_at_call 53; refine (Try.slices_Sort_int_none _ _ _).mono ?_; rintro e w' ⟨rfl, rfl⟩) | (go_at_call 54; refine (Try.slices_Compact_int_empty _ _ _).mono ?_; rintro e w' ⟨rfl, rfl⟩))
        go_ret2
        rw [hr.out, ← Hco.out]
        exact ⟨_, rfl, slw_nil, hBw⟩
      · obtain ⟨hH, hgl, hgb, -⟩ := own_holds hown2
        have HH := Lib.hid hH
        have Hown2 := Lib.hid hown2
        have Hlz := Lib.hid hlz
        have HBw := Lib.hid hBw
        have HB := Lib.hid hB
        clear hown hown2 hH hsl hco hlz hBw hB
        go_wp2_with fail
        refine (Try.slices_Sort_int g 0 cap3 zs wr HH.out hgl (by omega)).mono ?_
        rintro e w3 ⟨rfl, n3, os3, hw3⟩
        rw [Hts.out] at hw3
        have hown3 : Own 1 intCells w2.heap.size 2 w3 (.slice (some ⟨g, 0, none⟩) ts.length cap3) ts := by rw [hw3]; exact own_sort Hown2.out Hlz.out
        have hg3 : wr.grownBy w3 (some g) := by rw [hw3]; exact grownBy_sortedI _
        have HB3 := Lib.hid (HB.out.grown hg3 hBs (fun k e => by cases e; exact hgb))
        obtain ⟨hH3, hgl3, -, hcap3⟩ := own_holds hown3
        have hzl : ts.length ≤ 40 := by rw [Hlz.out]; exact hcl
        have hC := Try.slices_Compact_int g 0 cap3 ts w3 hH3 (by omega) hcap3
        rw [Hlz.out] at hC
        have HC := Lib.hid hC
        have Hown3 := Lib.hid hown3
        have HBs3 := HB3.out.size
        clear hw3 hown3 hg3 hH3 hC
        go_wp2_with fail
        refine HC.out.mono ?_
        rintro e w4 ⟨rfl, q4, hw4⟩
        have hcml := compact_len ts
        have hown4 : Own 1 intCells w2.heap.size 2 w4 (.slice (some ⟨g, 0, none⟩) (Lib.compact ts ++ List.replicate (zs.length - (Lib.compact ts).length) 0).length cap3) (Lib.compact ts ++ List.replicate (zs.length - (Lib.compact ts).length) 0) := by
          rw [hw4, putRow_grow0]
          exact own_sort Hown3.out (by rw [List.length_append, List.length_replicate, ← Hlz.out]; omega)
        have hg4 : w3.grownBy w4 (some g) := by rw [hw4, putRow_grow0]; exact grownBy_sortedI _
        have HB4 := Lib.hid (HB3.out.grown hg4 HBs3 (fun k e => by cases e; exact hgb))
        have Hfin := Lib.hid (((own_cut hown4).slw intCells_len).widen (lo' := w.heap.size) (hi' := w4.heap.size) hB2 (Nat.le_refl _))
        clear hw4 hown4 hg4
        go_wp2
        go_ret2
        rw [hr.out, ← Hco.out]
        exact ⟨_, rfl, Hfin.out, HB2.out.trans (HB4.out.mono hB2)⟩
end Go.Proofs.Ytdadadiipmenbaa
