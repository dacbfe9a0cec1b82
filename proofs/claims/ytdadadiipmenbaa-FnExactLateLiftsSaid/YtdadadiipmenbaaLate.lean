/- LateLifts: what it gives; the reference. -/
import Derived.Test.YtdadadiipmenbaaTskI
import Derived.Test.YtdadadiipmenbaaLiftsW
import Derived.Test.YtdadadiipmenbaaPh
import Derived.Deep.OwnRows
namespace Go.Proofs.Ytdadadiipmenbaa
open Go.RowKit
section
variable {P : Program} {ops : Array Oper} {Q : Exit → Act → World → Prop} {md : Region.Mode}
theorem take_phu {k : Nat} {S B : World → Prop} (d : Tmp) {i : Nat} {oi : Oper} {fuel : Nat} {listed : Array Bool} {a : Act} {w : World} (hi : ops[i]? = some oi) (hd : oi.dst = some d) (hik : i ≠ k)
    (hs : Region.noSelect ops = true) (hf : Region.free md ops listed i = true) (hr : (Region.ready md ops listed).contains i = true)
    (hQ : ∀ c a w, Q (.panic c) (a.put (some d) undef) w → Q (.panic c) a w) (hw : Region.wanted oi (yielded ops a.tmps) = false) (hp : Ph k S B listed w)
    (h : Ph k S B (listed.setIfInBounds i true) w → AnyL P md ops Q (Ph k S B) fuel (listed.setIfInBounds i true) (a.put (some d) undef) w) : AnyL P md ops Q (Ph k S B) (fuel + 1) listed a w :=
  AnyL.first (T := S) (I := fun _ => True) hi (Region.noSelect_spec hs) (by rw [hd]; exact hQ) (fun _ _ _ _ _ _ _ => trivial)
    (fun l w _ hp => hp.1) (fun l w => ph_set hik S B l w)
    fuel listed a w trivial (Region.free_spec hi hf) (by simpa using hr) (Or.inr ⟨hw, rfl⟩) hp (by rw [hd]; exact h ((ph_set hik S B listed w).2 hp))
end
theorem info_i64l : (Try.prog.info? 2).map (fun i => (i.zero.map (·.cells.size), i.size, i.bytes)) = some (some 1, 1, 8) := by kernel_rfl
theorem info_bool0 : (Try.prog.info? 4).map (fun i => (i.zero, i.size, i.bytes)) = some (some (.bool false), 1, 1) := by kernel_rfl
/-- The deadline of a lift by its index. -/
def dlAt (G : LiftsL) (k : Nat) : Int := match G[k]? with | none => 0 | some x => x.1.deadline
theorem dlAt_eq {G : LiftsL} {k : Nat} (h : k < G.length) : dlAt G k = G[k].1.deadline := by unfold dlAt; rw [List.getElem?_eq_getElem h]
def lateT (G : LiftsL) (t : Tsk) (i : Nat) : Bool := decide (t.lift = (i : Int) ∧ dlAt G i < t.fin)
def lateB (G : LiftsL) (l : List Tsk) (i : Nat) : Bool := l.any fun t => lateT G t i
theorem lateB_snoc (G : LiftsL) (l : List Tsk) (t : Tsk) (i : Nat) : lateB G (l ++ [t]) i = (lateB G l i || lateT G t i) := by simp [lateB]
def lateL (G : LiftsL) (l : List Tsk) : Nat → List Int
  | 0 => []
  | k + 1 => if lateB G l k then lateL G l k ++ [(k : Int)] else lateL G l k
theorem lateL_len (G : LiftsL) (l : List Tsk) : ∀ k, (lateL G l k).length ≤ k
  | 0 => Nat.le_refl _
  | k + 1 => by
    have := lateL_len G l k
    unfold lateL
    split
    · rw [List.length_append, List.length_singleton]; omega
    · omega
open Classical in
noncomputable def lateR (G : LiftsL) (l : List Tsk) : List Int × Int := if liftsB G = true ∧ tsksB l = true then (if ∀ t ∈ l, t.lift < (G.length : Int) then (lateL G l G.length, 0) else ([], 2)) else ([], 1)
theorem lateR_1 {G : LiftsL} {l : List Tsk} (h : ¬ (liftsB G = true ∧ tsksB l = true)) : lateR G l = ([], 1) := by unfold lateR; rw [if_neg h]
theorem lateR_2 {G : LiftsL} {l : List Tsk} (h : liftsB G = true ∧ tsksB l = true) {k : Nat} (hk : k < l.length) (h2 : (G.length : Int) ≤ l[k].lift) : lateR G l = ([], 2) := by
  unfold lateR
  rw [if_pos h, if_neg]
  intro ha
  have := ha _ (List.getElem_mem hk)
  omega
theorem lateR_0 {G : LiftsL} {l : List Tsk} (h : liftsB G = true ∧ tsksB l = true) (h2 : ∀ i (hi : i < l.length), l[i].lift < (G.length : Int)) : lateR G l = (lateL G l G.length, 0) := by
  unfold lateR
  rw [if_pos h, if_pos]
  intro t ht
  obtain ⟨i, hi, rfl⟩ := List.getElem_of_mem ht
  exact h2 i hi
theorem lateR_len (G : LiftsL) (l : List Tsk) : (lateR G l).1.length ≤ 1048576 := by
  unfold lateR
  split
  · rename_i h
    split
    · have h1 := lateL_len G l G.length
      have h2 := (liftsB_iff.1 h.1).2
      show (lateL G l G.length).length ≤ _
      omega
    · exact Nat.zero_le _
  · exact Nat.zero_le _
/-- The row of truths when the first tasks have come. -/
def lateF (G : LiftsL) (l : List Tsk) (i : Nat) : Value := .bool (lateB G l i)
theorem lateF_put (G : LiftsL) (l : List Tsk) (t : Tsk) (n : Nat) (h : t.lift = (n : Int)) (i : Nat) : lateF G (l ++ [t]) i = if i = n then .bool (lateB G l n || decide (dlAt G n < t.fin)) else lateF G l i := by
  unfold lateF
  rw [lateB_snoc]
  by_cases hi : i = n
  · subst hi
    rw [if_pos rfl]
    simp [lateT, h]
  · rw [if_neg hi]
    have : lateT G t i = false := decide_eq_false (by rintro ⟨h1, -⟩; rw [h] at h1; omega)
    rw [this, Bool.or_false]
set_option maxRecDepth 100000 in
set_option maxHeartbeats 8000000 in
theorem spec_LateLifts (v2 : Value) (rg : List LiftR) (G : LiftsL) (lo2 hi2 : Nat) (v : Value) (l : List Tsk) (lo hi : Nat) (w : World) (h2 : Lifts lo2 hi2 w v2 rg G) (hwf2 : ∀ x ∈ G, x.1.name.size ≤ maxLen) (hlen2 : G.length ≤ 1048576) (h : Tsks lo hi w v l) (hwf : ∀ x ∈ l, x.wf) :
    Calls Try.prog 25 #[v2, v] w (ListRes intCells 1 w (lateR G l).1 (lateR G l).2) := by
  have Hg := Lib.hid h2
  have hl2 := h2.len
  obtain ⟨⟨a2, cap2, rfl, ⟨hc2, hc2'⟩, -⟩, -, -⟩ := h2
  rw [hl2] at hc2 Hg ⊢
  have Hl2 := Lib.hid hl2
  clear hl2
  have hsl := h
  obtain ⟨a, cap, rfl, hlen, hh⟩ := h
  clear hh
  have Hwf := Lib.hid hwf
  have hV := spec_LiftsOk _ rg G lo2 hi2 w Hg.out hwf2 hlen2
  have hT := fun w' (hb : Below w.heap.size w w') => spec_TasksOk _ l lo hi w' (hsl.ext hb)
  clear hwf2 hwf
  cases hv : liftsB G
  · rw [lateR_1 (fun hx => by rw [hv] at hx; cases hx.1)]
    rw [hv] at hV
    have HV := Lib.hid hV
    clear hV hT hv
    go_enter Try.func25, Try.ntmps25
    go_wp2_with fail
    refine HV.out.mono ?_
    rintro e w1 ⟨rfl, hb1⟩
    go_wp2
    go_ret2
    exact ⟨_, rfl, slw_nil, hb1⟩
  cases ht : tsksB l
  · rw [lateR_1 (fun hx => by rw [ht] at hx; cases hx.2)]
    rw [hv] at hV
    have HV := Lib.hid hV
    rw [ht] at hT
    have HT := Lib.hid hT
    clear hV hT hv ht
    go_enter Try.func25, Try.ntmps25
    go_wp2_with fail
    refine HV.out.mono ?_
    rintro e w1 ⟨rfl, hb1⟩
    go_wp2_with (go_at_call 49; refine (HT.out _ hb1).mono ?_; rintro e w2 ⟨rfl, hb2⟩)
    go_ret2
    exact ⟨_, rfl, slw_nil, hb1.trans (hb2.mono hb1.size)⟩
  have Hgok := Lib.hid (liftsB_iff.1 hv)
  have Htok := Lib.hid (tsksB_iff.1 ht)
  have Hvt := Lib.hid (show liftsB G = true ∧ tsksB l = true from ⟨hv, ht⟩)
  have hg10 := Hgok.out.2
  have hl40 := Htok.out.2
  rw [hv] at hV
  have HV := Lib.hid hV
  rw [ht] at hT
  have HT := Lib.hid hT
  clear hV hT hv ht
  go_enter Try.func25, Try.ntmps25
  go_wp2_with fail
  refine HV.out.mono ?_
  rintro e w1 ⟨rfl, hb1⟩
  have HB1 := Lib.hid hb1
  clear hb1
  go_wp2_with (go_at_call 49; refine (HT.out _ HB1.out).mono ?_; rintro e w2 ⟨rfl, hb2⟩; have hmake := run_make_row' (P := Try.prog) 79 4 (.bool false) 1 Try.underlying79 info_bool0 rfl .i64 .i64 G.length (by omega) (by omega) w2)
  have HB2 := Lib.hid (HB1.out.trans (hb2.mono HB1.out.size))
  have hrow0 : Hid ((w2.alloc (.cells (madeCells #[.bool false] G.length) 4)).rowIs w2.heap.size 4 G.length (lateF G [])) := Lib.hid ((World.rowIs_made w2 (.bool false) G.length 4).congr (fun i _ => by simp [lateF, lateB]))
  have hB2 := HB2.out.size
  clear hb2 hmake
  go_loopw [7] (fun i wr => ∃ k : Nat, k ≤ l.length ∧ i = .int .i64 k ∧ Below w2.heap.size w2 wr ∧ Hid (wr.rowIs w2.heap.size 4 G.length (lateF G (l.take k))) ∧ Hid (∀ i (hi : i < l.length), i < k → l[i].lift < (G.length : Int))) (fun i _ => l.length - (intOf i).toNat)
  case atStart => exact ⟨0, Nat.zero_le _, rfl, (Below.refl _ _).alloc (Nat.le_refl _) _, by simpa using hrow0, Lib.hid (fun i _ h => absurd h (by omega))⟩
  case round =>
    obtain ⟨k, hk, rfl, hB, hrow, hall⟩ := hrel
    have hBw := HB2.out.trans (hB.mono hB2)
    have hBs := hB.size
    have hlP := hrow.out.lt
    by_cases hlt : k < l.length
    · obtain ⟨b, off, rfl⟩ := hsl.addr (by omega)
      have hbw0 : b < w.heap.size := World.block_lt_of_cell? w _ (Tsks.at hsl.get hlt).1
      obtain ⟨c0, c1, c2, c3⟩ := Tsks.at (hsl.ext hBw).get hlt
      have hrow2 := Htok.out.1 k hlt
      have hok : (l[k]).ok := by have := hrow2.1; rwa [getD_get hlt] at this
      obtain ⟨⟨n, hn⟩, -⟩ : (∃ n : Nat, l[k].lift = (n : Int)) ∧ True := ⟨⟨l[k].lift.toNat, by have := hok.1.1; omega⟩, trivial⟩
      have hR2 := Lib.hid (fun hx => lateR_2 Hvt.out hlt hx)
      by_cases hge : G.length ≤ n
      · have hr := Lib.hid (hR2.out (by rw [hn]; omega))
        have hgd : decide ((G.length : Int) ≤ (n : Int)) = true := decide_eq_true (by omega)
        rw [hn] at c0
        clear hsl hR2 hrow2 hok hn
        go_wp2
        go_ret2
        rw [hr.out]
        exact ⟨_, rfl, slw_nil, hBw⟩
      · have hnG : n < G.length := by omega
        have hgd : decide ((G.length : Int) ≤ (n : Int)) = false := decide_eq_false (by omega)
        have hgr : Lifts lo2 hi2 wr (.slice a2 G.length cap2) rg G := Hg.out.ext hBw
        have hk1 : n < rg.length := by rw [Hl2.out]; exact hnG
        obtain ⟨hfl, -⟩ := hgr.one hnG hk1
        obtain ⟨b2, off2, rfl⟩ := (show ∃ b off, a2 = some ⟨b, off, none⟩ from Sl.addr (by have := hgr.out; rw [← Hl2.out] at this; exact this) (by omega))
        have d7 := (Lifts_at hgr hk1).2.2.2.2.2.2.2.1
        have hb2w0 : b2 < w.heap.size := World.block_lt_of_cell? w _ (Lifts_at Hg.out hk1).2.2.2.2.2.2.2.1
        rw [hfl, ← dlAt_eq hnG] at d7
        have hput := Lib.hid (lateF_put G (l.take k) l[k] n hn)
        have htk := Lib.hid (List.take_succ_eq_append_getElem hlt)
        have hall2 : Hid (∀ i (hi : i < l.length), i < k + 1 → l[i].lift < (G.length : Int)) := Lib.hid (fun i hi hik => by
          by_cases e : i < k
          · exact hall.out i hi e
          · obtain rfl : i = k := by omega
            rw [hn]; omega)
        have e0 := hrow.out.cell hnG
        have f0 := hrow.out.frozen n
        have hset := Lib.hid (fun u => hrow.out.set n u)
        rw [hn] at c0
        unfold lateF at e0
        clear hsl hR2 hrow2 hok hn hgr hfl
        generalize l[k].fin = fin at *
        generalize dlAt G n = dl at *
        generalize lateB G (l.take k) n = old at *
        have hbP : b ≠ w2.heap.size := by omega
        have hb2P : b2 ≠ w2.heap.size := by omega
        have hbr : b < wr.heap.size := by omega
        have hb2r : b2 < wr.heap.size := by omega
        have hn0 : (0 : Int) ≤ (n : Int) := by omega
        have hnl : (n : Int) < (G.length : Int) := by omega
        have hdd : Hid (wr.drew.cell? ⟨w2.heap.size, n, none⟩ = some (.bool old)) := Lib.hid e0
        cases old
        · go_wp2_with fail
          refine region_ph 20 (fun w' => ∀ b' o', b' ≠ w2.heap.size → b' < wr.heap.size → w'.cell? ⟨b', o', none⟩ = wr.cell? ⟨b', o', none⟩) (fun w' => w'.cell? ⟨w2.heap.size, n, none⟩ = some (.bool false)) (by kernel_rfl) (fun _ _ _ _ => rfl) hdd.out (fun hp => ?_)
          refine take_ph 37 (i := 0) rfl rfl (by decide) (by kernel_rfl) (by kernel_rfl) (by kernel_rfl) (fun _ _ _ h => h) (by rfl) (fun w hSw => by (try dsimp only at hSw); go_simp; first | done | with_reducible rfl) hp (fun hp => ?_)
          try simp only [Act.put, List.setIfInBounds_toArray, List.set_cons_zero, List.set_cons_succ]
          refine take_ph 38 (i := 1) rfl rfl (by decide) (by kernel_rfl) (by kernel_rfl) (by kernel_rfl) (fun _ _ _ h => h) (by rfl) (fun w hSw => by (try dsimp only at hSw); go_simp; first | done | with_reducible rfl) hp (fun hp => ?_)
          try simp only [Act.put, List.setIfInBounds_toArray, List.set_cons_zero, List.set_cons_succ]
          refine take_ph 39 (i := 2) rfl rfl (by decide) (by kernel_rfl) (by kernel_rfl) (by kernel_rfl) (fun _ _ _ h => h) (by rfl) (fun w hSw => by (try dsimp only at hSw); go_simp; first | done | with_reducible rfl) hp (fun hp => ?_)
          try simp only [Act.put, List.setIfInBounds_toArray, List.set_cons_zero, List.set_cons_succ]
          refine take_ph 40 (i := 3) rfl rfl (by decide) (by kernel_rfl) (by kernel_rfl) (by kernel_rfl) (fun _ _ _ h => h) (by rfl) (fun w hSw => by (try dsimp only at hSw); go_simp; first | done | with_reducible rfl) hp (fun hp => ?_)
          try simp only [Act.put, List.setIfInBounds_toArray, List.set_cons_zero, List.set_cons_succ]
          refine take_ph 41 (i := 4) rfl rfl (by decide) (by kernel_rfl) (by kernel_rfl) (by kernel_rfl) (fun _ _ _ h => h) (by rfl) (fun w hSw => by (try dsimp only at hSw); go_simp; first | done | with_reducible rfl) hp (fun hp => ?_)
          try simp only [Act.put, List.setIfInBounds_toArray, List.set_cons_zero, List.set_cons_succ]
          refine take_ph1 42 (i := 5) rfl rfl (by decide) (by rfl) (by kernel_rfl) (by kernel_rfl) (by kernel_rfl) (by kernel_rfl) (fun _ _ _ h => h) (by rfl) (fun w hSw hBw => by (try dsimp only at hSw hBw); go_simp; first | done | with_reducible rfl) hp (fun hp => ?_)
          try simp only [Act.put, List.setIfInBounds_toArray, List.set_cons_zero, List.set_cons_succ]
          refine take_ph 43 (i := 6) rfl rfl (by decide) (by kernel_rfl) (by kernel_rfl) (by kernel_rfl) (fun _ _ _ h => h) (by rfl) (fun w hSw => by (try dsimp only at hSw); go_simp; first | done | with_reducible rfl) hp (fun hp => ?_)
          try simp only [Act.put, List.setIfInBounds_toArray, List.set_cons_zero, List.set_cons_succ]
          refine take_ph 44 (i := 7) rfl rfl (by decide) (by kernel_rfl) (by kernel_rfl) (by kernel_rfl) (fun _ _ _ h => h) (by rfl) (fun w hSw => by (try dsimp only at hSw); go_simp; first | done | with_reducible rfl) hp (fun hp => ?_)
          try simp only [Act.put, List.setIfInBounds_toArray, List.set_cons_zero, List.set_cons_succ]
          refine take_ph 45 (i := 8) rfl rfl (by decide) (by kernel_rfl) (by kernel_rfl) (by kernel_rfl) (fun _ _ _ h => h) (by rfl) (fun w hSw => by (try dsimp only at hSw); go_simp; first | done | with_reducible rfl) hp (fun hp => ?_)
          try simp only [Act.put, List.setIfInBounds_toArray, List.set_cons_zero, List.set_cons_succ]
          refine take_ph 46 (i := 9) rfl rfl (by decide) (by kernel_rfl) (by kernel_rfl) (by kernel_rfl) (fun _ _ _ h => h) (by rfl) (fun w hSw => by (try dsimp only at hSw); go_simp; first | done | with_reducible rfl) hp (fun hp => ?_)
          try simp only [Act.put, List.setIfInBounds_toArray, List.set_cons_zero, List.set_cons_succ]
          refine take_ph 47 (i := 10) rfl rfl (by decide) (by kernel_rfl) (by kernel_rfl) (by kernel_rfl) (fun _ _ _ h => h) (by rfl) (fun w hSw => by (try dsimp only at hSw); go_simp; first | done | with_reducible rfl) hp (fun hp => ?_)
          try simp only [Act.put, List.setIfInBounds_toArray, List.set_cons_zero, List.set_cons_succ]
          refine take_ph 48 (i := 11) rfl rfl (by decide) (by kernel_rfl) (by kernel_rfl) (by kernel_rfl) (fun _ _ _ h => h) (by rfl) (fun w hSw => by (try dsimp only at hSw); go_simp; first | done | with_reducible rfl) hp (fun hp => ?_)
          try simp only [Act.put, List.setIfInBounds_toArray, List.set_cons_zero, List.set_cons_succ]
          refine take_ph 49 (i := 12) rfl rfl (by decide) (by kernel_rfl) (by kernel_rfl) (by kernel_rfl) (fun _ _ _ h => h) (by rfl) (fun w hSw => by (try dsimp only at hSw); go_simp; first | done | with_reducible rfl) hp (fun hp => ?_)
          try simp only [Act.put, List.setIfInBounds_toArray, List.set_cons_zero, List.set_cons_succ]
          refine take_ph 50 (i := 13) rfl rfl (by decide) (by kernel_rfl) (by kernel_rfl) (by kernel_rfl) (fun _ _ _ h => h) (by rfl) (fun w hSw => by (try dsimp only at hSw); go_simp; first | done | with_reducible rfl) hp (fun hp => ?_)
          try simp only [Act.put, List.setIfInBounds_toArray, List.set_cons_zero, List.set_cons_succ]
          refine take_ph 51 (i := 14) rfl rfl (by decide) (by kernel_rfl) (by kernel_rfl) (by kernel_rfl) (fun _ _ _ h => h) (by rfl) (fun w hSw => by (try dsimp only at hSw); go_simp; first | done | with_reducible rfl) hp (fun hp => ?_)
          try simp only [Act.put, List.setIfInBounds_toArray, List.set_cons_zero, List.set_cons_succ]
          refine take_ph 52 (i := 15) rfl rfl (by decide) (by kernel_rfl) (by kernel_rfl) (by kernel_rfl) (fun _ _ _ h => h) (by rfl) (fun w hSw => by (try dsimp only at hSw); go_simp; first | done | with_reducible rfl) hp (fun hp => ?_)
          try simp only [Act.put, List.setIfInBounds_toArray, List.set_cons_zero, List.set_cons_succ]
          refine take_ph 53 (i := 16) rfl rfl (by decide) (by kernel_rfl) (by kernel_rfl) (by kernel_rfl) (fun _ _ _ h => h) (by rfl) (fun w hSw => by (try dsimp only at hSw); go_simp; first | done | with_reducible rfl) hp (fun hp => ?_)
          try simp only [Act.put, List.setIfInBounds_toArray, List.set_cons_zero, List.set_cons_succ]
          refine take_ph 54 (i := 17) rfl rfl (by decide) (by kernel_rfl) (by kernel_rfl) (by kernel_rfl) (fun _ _ _ h => h) (by rfl) (fun w hSw => by (try dsimp only at hSw); go_simp; first | done | with_reducible rfl) hp (fun hp => ?_)
          try simp only [Act.put, List.setIfInBounds_toArray, List.set_cons_zero, List.set_cons_succ]
          refine take_ph 55 (i := 18) rfl rfl (by decide) (by kernel_rfl) (by kernel_rfl) (by kernel_rfl) (fun _ _ _ h => h) (by rfl) (fun w hSw => by (try dsimp only at hSw); go_simp; first | done | with_reducible rfl) hp (fun hp => ?_)
          try simp only [Act.put, List.setIfInBounds_toArray, List.set_cons_zero, List.set_cons_succ]
          refine take_ph 56 (i := 19) rfl rfl (by decide) (by kernel_rfl) (by kernel_rfl) (by kernel_rfl) (fun _ _ _ h => h) (by rfl) (fun w hSw => by (try dsimp only at hSw); go_simp; first | done | with_reducible rfl) hp (fun hp => ?_)
          try simp only [Act.put, List.setIfInBounds_toArray, List.set_cons_zero, List.set_cons_succ]
          refine AnyL.one (i := 20) (by kernel_rfl) rfl (fun K hK => ?_)
          go_simp
          refine hK.out _ _ (ph2 rfl (fun b' o' h1 h2 => World.cell?_setCell_far _ _ _ _ (Ne.symm h1))) (fun hp => ?_)
          clear hK
          refine AnyL.done (by kernel_rfl) ?_ _
          go_wp2
          go_roundw
          case rel => exact ⟨k + 1, by omega, by go_num, (below_dN hB 1).setCell (p := ⟨w2.heap.size, n, none⟩) (Nat.le_refl _) _, Lib.hid (by rw [htk.out]; exact ((hset.out _).congr (fun i _ => (hput.out i).symm))), hall2⟩
          case measure => simp [intOf]; omega
        · go_wp2_with fail
          refine region_ph 20 (fun w' => ∀ b' o', b' ≠ w2.heap.size → b' < wr.heap.size → w'.cell? ⟨b', o', none⟩ = wr.cell? ⟨b', o', none⟩) (fun w' => w'.cell? ⟨w2.heap.size, n, none⟩ = some (.bool true)) (by kernel_rfl) (fun _ _ _ _ => rfl) hdd.out (fun hp => ?_)
          refine take_ph 37 (i := 0) rfl rfl (by decide) (by kernel_rfl) (by kernel_rfl) (by kernel_rfl) (fun _ _ _ h => h) (by rfl) (fun w hSw => by (try dsimp only at hSw); go_simp; first | done | with_reducible rfl) hp (fun hp => ?_)
          try simp only [Act.put, List.setIfInBounds_toArray, List.set_cons_zero, List.set_cons_succ]
          refine take_ph 38 (i := 1) rfl rfl (by decide) (by kernel_rfl) (by kernel_rfl) (by kernel_rfl) (fun _ _ _ h => h) (by rfl) (fun w hSw => by (try dsimp only at hSw); go_simp; first | done | with_reducible rfl) hp (fun hp => ?_)
          try simp only [Act.put, List.setIfInBounds_toArray, List.set_cons_zero, List.set_cons_succ]
          refine take_ph 39 (i := 2) rfl rfl (by decide) (by kernel_rfl) (by kernel_rfl) (by kernel_rfl) (fun _ _ _ h => h) (by rfl) (fun w hSw => by (try dsimp only at hSw); go_simp; first | done | with_reducible rfl) hp (fun hp => ?_)
          try simp only [Act.put, List.setIfInBounds_toArray, List.set_cons_zero, List.set_cons_succ]
          refine take_ph 40 (i := 3) rfl rfl (by decide) (by kernel_rfl) (by kernel_rfl) (by kernel_rfl) (fun _ _ _ h => h) (by rfl) (fun w hSw => by (try dsimp only at hSw); go_simp; first | done | with_reducible rfl) hp (fun hp => ?_)
          try simp only [Act.put, List.setIfInBounds_toArray, List.set_cons_zero, List.set_cons_succ]
          refine take_ph 41 (i := 4) rfl rfl (by decide) (by kernel_rfl) (by kernel_rfl) (by kernel_rfl) (fun _ _ _ h => h) (by rfl) (fun w hSw => by (try dsimp only at hSw); go_simp; first | done | with_reducible rfl) hp (fun hp => ?_)
          try simp only [Act.put, List.setIfInBounds_toArray, List.set_cons_zero, List.set_cons_succ]
          refine take_ph1 42 (i := 5) rfl rfl (by decide) (by rfl) (by kernel_rfl) (by kernel_rfl) (by kernel_rfl) (by kernel_rfl) (fun _ _ _ h => h) (by rfl) (fun w hSw hBw => by (try dsimp only at hSw hBw); go_simp; first | done | with_reducible rfl) hp (fun hp => ?_)
          try simp only [Act.put, List.setIfInBounds_toArray, List.set_cons_zero, List.set_cons_succ]
          refine take_ph 43 (i := 6) rfl rfl (by decide) (by kernel_rfl) (by kernel_rfl) (by kernel_rfl) (fun _ _ _ h => h) (by rfl) (fun w hSw => by (try dsimp only at hSw); go_simp; first | done | with_reducible rfl) hp (fun hp => ?_)
          try simp only [Act.put, List.setIfInBounds_toArray, List.set_cons_zero, List.set_cons_succ]
          refine take_phu 44 (i := 7) rfl rfl (by decide) (by kernel_rfl) (by kernel_rfl) (by kernel_rfl) (fun _ _ _ h => h) (by rfl) hp (fun hp => ?_)
          try simp only [Act.put, List.setIfInBounds_toArray, List.set_cons_zero, List.set_cons_succ]
          refine take_phu 45 (i := 8) rfl rfl (by decide) (by kernel_rfl) (by kernel_rfl) (by kernel_rfl) (fun _ _ _ h => h) (by rfl) hp (fun hp => ?_)
          try simp only [Act.put, List.setIfInBounds_toArray, List.set_cons_zero, List.set_cons_succ]
          refine take_phu 46 (i := 9) rfl rfl (by decide) (by kernel_rfl) (by kernel_rfl) (by kernel_rfl) (fun _ _ _ h => h) (by rfl) hp (fun hp => ?_)
          try simp only [Act.put, List.setIfInBounds_toArray, List.set_cons_zero, List.set_cons_succ]
          refine take_phu 47 (i := 10) rfl rfl (by decide) (by kernel_rfl) (by kernel_rfl) (by kernel_rfl) (fun _ _ _ h => h) (by rfl) hp (fun hp => ?_)
          try simp only [Act.put, List.setIfInBounds_toArray, List.set_cons_zero, List.set_cons_succ]
          refine take_phu 48 (i := 11) rfl rfl (by decide) (by kernel_rfl) (by kernel_rfl) (by kernel_rfl) (fun _ _ _ h => h) (by rfl) hp (fun hp => ?_)
          try simp only [Act.put, List.setIfInBounds_toArray, List.set_cons_zero, List.set_cons_succ]
          refine take_phu 49 (i := 12) rfl rfl (by decide) (by kernel_rfl) (by kernel_rfl) (by kernel_rfl) (fun _ _ _ h => h) (by rfl) hp (fun hp => ?_)
          try simp only [Act.put, List.setIfInBounds_toArray, List.set_cons_zero, List.set_cons_succ]
          refine take_phu 50 (i := 13) rfl rfl (by decide) (by kernel_rfl) (by kernel_rfl) (by kernel_rfl) (fun _ _ _ h => h) (by rfl) hp (fun hp => ?_)
          try simp only [Act.put, List.setIfInBounds_toArray, List.set_cons_zero, List.set_cons_succ]
          refine take_phu 51 (i := 14) rfl rfl (by decide) (by kernel_rfl) (by kernel_rfl) (by kernel_rfl) (fun _ _ _ h => h) (by rfl) hp (fun hp => ?_)
          try simp only [Act.put, List.setIfInBounds_toArray, List.set_cons_zero, List.set_cons_succ]
          refine take_phu 52 (i := 15) rfl rfl (by decide) (by kernel_rfl) (by kernel_rfl) (by kernel_rfl) (fun _ _ _ h => h) (by rfl) hp (fun hp => ?_)
          try simp only [Act.put, List.setIfInBounds_toArray, List.set_cons_zero, List.set_cons_succ]
          refine take_phu 53 (i := 16) rfl rfl (by decide) (by kernel_rfl) (by kernel_rfl) (by kernel_rfl) (fun _ _ _ h => h) (by rfl) hp (fun hp => ?_)
          try simp only [Act.put, List.setIfInBounds_toArray, List.set_cons_zero, List.set_cons_succ]
          refine take_phu 54 (i := 17) rfl rfl (by decide) (by kernel_rfl) (by kernel_rfl) (by kernel_rfl) (fun _ _ _ h => h) (by rfl) hp (fun hp => ?_)
          try simp only [Act.put, List.setIfInBounds_toArray, List.set_cons_zero, List.set_cons_succ]
          refine take_ph 55 (i := 18) rfl rfl (by decide) (by kernel_rfl) (by kernel_rfl) (by kernel_rfl) (fun _ _ _ h => h) (by rfl) (fun w hSw => by (try dsimp only at hSw); go_simp; first | done | with_reducible rfl) hp (fun hp => ?_)
          try simp only [Act.put, List.setIfInBounds_toArray, List.set_cons_zero, List.set_cons_succ]
          refine take_ph 56 (i := 19) rfl rfl (by decide) (by kernel_rfl) (by kernel_rfl) (by kernel_rfl) (fun _ _ _ h => h) (by rfl) (fun w hSw => by (try dsimp only at hSw); go_simp; first | done | with_reducible rfl) hp (fun hp => ?_)
          try simp only [Act.put, List.setIfInBounds_toArray, List.set_cons_zero, List.set_cons_succ]
          refine AnyL.one (i := 20) (by kernel_rfl) rfl (fun K hK => ?_)
          go_simp
          refine hK.out _ _ (ph2 rfl (fun b' o' h1 h2 => World.cell?_setCell_far _ _ _ _ (Ne.symm h1))) (fun hp => ?_)
          clear hK
          refine AnyL.done (by kernel_rfl) ?_ _
          go_wp2
          go_roundw
          case rel => exact ⟨k + 1, by omega, by go_num, (below_dN hB 1).setCell (p := ⟨w2.heap.size, n, none⟩) (Nat.le_refl _) _, Lib.hid (by rw [htk.out]; exact ((hset.out _).congr (fun i _ => (hput.out i).symm))), hall2⟩
          case measure => simp [intOf]; omega
    · obtain rfl : k = l.length := by omega
      have hr := Lib.hid (lateR_0 Hvt.out (fun i hi => hall.out i hi hi))
      have hrow2 : Hid (wr.rowIs w2.heap.size 4 G.length (lateF G l)) := Lib.hid (by have := hrow.out; rwa [List.take_length] at this)
      obtain ⟨wo, hwo⟩ : ∃ wo : World, wo = wr := ⟨_, rfl⟩
      subst hwo
      have hbase : w.heap.size ≤ wo.heap.size := by omega
      have HBw := Lib.hid hBw
      clear hBw hsl
      go_wp2
      go_loopw [9, 10] (fun o i wr => ∃ (j : Nat) (dv : Value), o = dv ∧ j ≤ G.length ∧ i = .int .i64 j ∧ Below wo.heap.size wo wr ∧ Hid (Own 1 intCells wo.heap.size 2 wr dv (lateL G l j))) (fun _ i _ => G.length - (intOf i).toNat)
      case atStart => exact ⟨0, _, rfl, Nat.zero_le _, rfl, (Below.refl _ _).alloc (Nat.le_refl _) _, Lib.hid (own_empty wo _ _ (Nat.le_refl _))⟩
      case round =>
        obtain ⟨j, dv, hdv, hj, rfl, hBq, hown⟩ := hrel
        have hdv := hdv.symm
        subst hdv
        have hBqs := hBq.size
        by_cases hjt : j < G.length
        · have e0 := (hBq.cell (p := ⟨w2.heap.size, j, none⟩) hlP).trans (hrow2.out.cell hjt)
          unfold lateF at e0
          have hll := lateL_len G l j
          have Hst : Hid (lateL G l (j + 1) = if lateB G l j then lateL G l j ++ [(j : Int)] else lateL G l j) := Lib.hid rfl
          generalize lateB G l j = lb at *
          generalize lateL G l j = lk at *
          have hPr : w2.heap.size < wr.heap.size := by omega
          cases lb
          · have Hst2 := Lib.hid (Hst.out.trans (if_neg (by simp)))
            clear Hst
            go_wp2
            go_roundw
            case rel => exact ⟨j + 1, _, rfl, by omega, by go_num, hBq, Lib.hid (by rw [Hst2.out]; exact hown.out)⟩
            case measure => simp [intOf]; omega
          · have Hst2 := Lib.hid (Hst.out.trans (if_pos rfl))
            clear Hst
            go_wp2_with (at_builtin; refine wpList_app1 (c := intCells) (bytes := 8) rfl _ _ 28 2 rfl Try.underlying28 info_i64l (by omega) intCells_len intCells_one wo.heap.size lk (j : Int) _ rfl _ rfl hown.out rfl (by omega) (by omega) hBqs ?_; intro v' w4 hown4 hg4; have hB4 := hown.out.app hBq (Nat.le_refl _) hBqs hg4)
            go_roundw
            case rel => exact ⟨j + 1, _, rfl, by omega, by go_num, hB4, Lib.hid (by rw [Hst2.out]; exact hown4)⟩
            case measure => simp [intOf]; omega
        · obtain rfl : j = G.length := by omega
          have Hfin := Lib.hid ((hown.out.slw intCells_len).widen (lo' := w.heap.size) (hi' := wr.heap.size) hbase (Nat.le_refl _))
          go_wp2
          go_ret2
          rw [hr.out]
          exact ⟨_, rfl, Hfin.out, HBw.out.trans (hBq.mono hbase)⟩
end Go.Proofs.Ytdadadiipmenbaa
