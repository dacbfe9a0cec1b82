/- The times of a lift by all cranes of a site, in both packages; the fastest crane. The times of a lift by all cranes of a site, the program. (Printed by gen_fast.py.) FastestCrane, in both packages. (Printed by gen_fastF.py.) -/
import Derived.Test.YtdadadiipmenbaaDoorLiftT
import Derived.Test.YtdadadiipmenbaaDoorCode
import Derived.Test.YtdadadiipmenbaaDoorSiteW
import Derived.Test.YtdadadiipmenbaaDoorSS
import Derived.OwnWalk
namespace Go.Proofs.YtdadadiipmenbaaDoor
open Go.RowKit
theorem info_i64f : (Tryd.prog.info? 2).map (fun i => (i.zero.map (·.cells.size), i.size, i.bytes)) = some (some 1, 1, 8) := by kernel_rfl
theorem info_SSf : (Tryd.prog.info? 29).map (fun i => (i.zero.map (·.cells.size), i.size, i.bytes)) = some (some 1, 1, 24) := by kernel_rfl
theorem SSw.wider {α : Type} {n : Nat} {c : α → List Value} {lo lo' hi : Nat} {w : World} {v : Value} {rows : List SV} {L : List (List α)} (h : SSw n c lo hi w v rows L) (hl : lo' ≤ lo) : SSw n c lo' hi w v rows L :=
  ⟨h.out.widen hl (Nat.le_refl _), h.len, fun i r x hr hx => (h.row i r x hr hx).widen hl (Nat.le_refl _), h.apart, h.away⟩
noncomputable def tmAt (L : SiteL) (v : Spd) (g : LiftF) (i : Nat) : Int := match L[i]? with | none => -1 | some x => if canB x.1 x.2 g = true then liftT x.1 v g else -1
theorem tmAt_t {L : SiteL} {v : Spd} {g : LiftF} {k : Nat} (h : k < L.length) (hc : canB L[k].1 L[k].2 g = true) : tmAt L v g k = liftT L[k].1 v g := by
  unfold tmAt; rw [List.getElem?_eq_getElem h]; exact if_pos hc
theorem tmAt_f {L : SiteL} {v : Spd} {g : LiftF} {k : Nat} (h : k < L.length) (hc : canB L[k].1 L[k].2 g = false) : tmAt L v g k = -1 := by
  unfold tmAt; rw [List.getElem?_eq_getElem h]; exact if_neg (by rw [hc]; simp)
noncomputable def tmRow (L : SiteL) (v : Spd) (g : LiftF) (k : Nat) : List Int := (List.range k).map (tmAt L v g)
theorem tmRow_step (L : SiteL) (v : Spd) (g : LiftF) (k : Nat) : tmRow L v g (k + 1) = tmRow L v g k ++ [tmAt L v g k] := by unfold tmRow; rw [List.range_succ, List.map_append]; rfl
theorem tmRow_len (L : SiteL) (v : Spd) (g : LiftF) (k : Nat) : (tmRow L v g k).length = k := by simp [tmRow]
/-- The index of the least time, up to an index; -1 if there is none. -/
def bestS (row : List Int) (k : Nat) (b : Int) : Int := if 0 ≤ row.getD k 0 ∧ (b < 0 ∨ row.getD k 0 < row.getD b.toNat 0) then (k : Int) else b
def bestTo (row : List Int) : Nat → Int
  | 0 => -1
  | k + 1 => bestS row k (bestTo row k)
theorem bestTo_bd (row : List Int) : ∀ k, -1 ≤ bestTo row k ∧ bestTo row k < k
  | 0 => by simp [bestTo]
  | k + 1 => by
    have ih := bestTo_bd row k
    show -1 ≤ bestS row k (bestTo row k) ∧ bestS row k (bestTo row k) < ((k + 1 : Nat) : Int)
    unfold bestS
    split <;> omega
open Classical in
noncomputable def fastR (L : SiteL) (v : Spd) (g : LiftF) : Int × Int × Int :=
  if v.ok ∧ siteOk L ∧ plainOk g then (if bestTo (tmRow L v g L.length) L.length < 0 then (0, 0, 3) else (bestTo (tmRow L v g L.length) L.length, (tmRow L v g L.length).getD (bestTo (tmRow L v g L.length) L.length).toNat 0, 0)) else (0, 0, 1)
def RowRes (w : World) (l : List Int) (e : Ending) (w' : World) : Prop := ∃ v' r, e = .returned v' ∧ SSw 1 intCells w.heap.size w'.heap.size w' v' [r] [l] ∧ Below w.heap.size w w'
theorem one_box (w : World) (o : Obj) : ∃ W, w.alloc o = W ∧ W.heap[w.heap.size]? = some o ∧ Below w.heap.size w W ∧ W.heap.size = w.heap.size + 1 := ⟨_, rfl, blkN_new w o, (Below.refl _ _).alloc (Nat.le_refl _) _, by simp⟩
set_option maxRecDepth 100000 in
set_option maxHeartbeats 8000000 in
theorem spec_Table (p q : Nat) (sv : Value) (rs : List CraneR) (L : SiteL) (v : Spd) (g : LiftF) (gv : Value) (lo hi : Nat) (w : World) (hc0 : w.cell? ⟨p, 0, none⟩ = some sv) (hl : At w q 0 (liftC g gv)) (h : Cranes lo hi w sv rs L) (hok : siteOk L) (hg : plainOk g) (hv : v.ok) :
    Calls Tryd.prog 60 #[.pointer (some ⟨p, 0, none⟩), .agg v.cells.toArray, .slice (some ⟨q, 0, none⟩) 1 1] w (RowRes w (tmRow L v g L.length)) := by
  have hl1 := h.len
  have hl6 := hok.2.2
  have Hs := Lib.hid h
  obtain ⟨⟨a, cap, rfl, _⟩, _, _⟩ := h
  rw [hl1] at hc0 Hs
  have Hl1 := Lib.hid hl1
  have hb0 := World.block_lt_of_cell? w _ hc0
  have hbq := hl.lt (by simp [liftC])
  have Hc0 := Lib.hid hc0
  have Hl := Lib.hid hl
  have Hok := Lib.hid hok
  have Hg := Lib.hid hg
  have Hv := Lib.hid hv
  clear hl1 hc0 hl hok hg hv
  obtain ⟨v0, v1, v2, v3⟩ := v
  simp only [Spd.cells] at *
  obtain ⟨WA, hWA, e1, hBA, hzA⟩ := one_box w (.cells #[.int .i64 v0, .int .i64 v1, .int .i64 v2, .int .i64 v3] 41 (0, 0))
  have HWA := Lib.hid hWA
  have HE1 := Lib.hid e1
  clear hWA e1
  go_enter Tryd.func60, Tryd.ntmps60
  go_wp2_with fail
  rw [HWA.out]
  go_loopw [7, 8] (fun o i wr => ∃ (k : Nat) (rows : List SV), k ≤ 1 ∧ i = .int .i64 k ∧ Below WA.heap.size WA wr ∧ Hid (OwnSS 1 intCells WA.heap.size 29 2 wr o rows (([tmRow L ⟨v0, v1, v2, v3⟩ g L.length]).take k))) (fun _ i _ => 1 - (intOf i).toNat)
  case atStart => exact ⟨0, [], by omega, rfl, (Below.refl _ _).alloc (Nat.le_refl _) _, Lib.hid (by have h9 : OwnSS 1 intCells WA.heap.size 29 2 _ _ [] [] := ownSS_nil (own_empty (n := 1) (c := one) WA 29 WA.heap.size (Nat.le_refl _)); rw [hzA] at h9 ⊢; simpa using h9)⟩
  case round =>
    obtain ⟨k, rows, hk, rfl, hB, hown⟩ := hrel
    have hBs := hB.size
    by_cases hlt : k < 1
    · obtain rfl : k = 0 := by omega
      simp only [show ((0 : Nat) : Int) = 0 from rfl]
      have hrl : rows.length = 0 := by have := hown.out.len; rw [this]; rfl
      have Hown := Lib.hid hown.out
      clear hown
      obtain ⟨wo, hwo⟩ : ∃ wo : World, wo = wr := ⟨_, rfl⟩
      subst hwo
      have hown0 : Hid (Own 1 intCells wo.heap.size 2 (wo.alloc (.cells #[] 2)) (.slice (some ⟨wo.heap.size, 0, none⟩) 0 0) []) := Lib.hid (own_empty wo _ _ (Nat.le_refl _))
      go_wp2
      go_loopw [9, 10] (fun o2 i2 wr => ∃ (j : Nat) (dv : Value), o2 = dv ∧ j ≤ L.length ∧ i2 = .int .i64 j ∧ Below wo.heap.size wo wr ∧ Hid (Own 1 intCells wo.heap.size 2 wr dv (tmRow L ⟨v0, v1, v2, v3⟩ g j))) (fun _ i2 _ => L.length - (intOf i2).toNat)
      case atStart => exact ⟨0, _, rfl, Nat.zero_le _, rfl, (Below.refl _ _).alloc (Nat.le_refl _) _, hown0⟩
      case round =>
        obtain ⟨j, dv, hdv, hj, rfl, hB2, hrow⟩ := hrel
        have hdv := hdv.symm
        subst hdv
        have hBs2 := hB2.size
        have hBo := hB.trans (hB2.mono hBs)
        have HBW := Lib.hid (hBA.trans (hBo.mono hBA.size))
        have hcs := (HBW.out.cell (p := ⟨p, 0, none⟩) hb0).trans Hc0.out
        by_cases hjt : j < L.length
        · have hj1 : j < rs.length := by rw [Hl1.out]; exact hjt
          have hs : Cranes lo hi wr (.slice a L.length cap) rs L := Hs.out.ext HBW.out
          obtain ⟨hfl, hrw⟩ := hs.one hjt hj1
          obtain ⟨b2, off2, rfl⟩ := (show ∃ b off, a = some ⟨b, off, none⟩ from Sl.addr (by have := hs.out; rw [← Hl1.out] at this; exact this) (by omega))
          have hcc : At wr b2 (off2 + j * 7) (craneC L[j].1 rs[j].s.v) := by
            have := hs.at hj1
            rw [show CraneR.cells rs[j] = craneC L[j].1 rs[j].s.v by unfold CraneR.cells craneC; rw [hfl]] at this
            exact this
          have hll : At wr q 0 (liftC g gv) := Hl.out.ext HBW.out (by simp [liftC])
          have hcok := (Hok.out.1 j hjt).1
          have hq := Lib.hid (fun w' (hb : Below wr.heap.size wr w') => spec_CanLift b2 (off2 + j * 7) q 0 L[j].1 rs[j].s.v L[j].2 g gv lo hi w' (hcc.ext hb (by simp [craneC])) (hll.ext hb (by simp [liftC])) (hrw.ext hb) hcok Hg.out.2.2.1 Hg.out.2.2.2.1 Hg.out.2.2.2.2.1)
          have hT := Lib.hid (fun w' (hb : Below wr.heap.size wr w') => spec_LiftT b2 (off2 + j * 7) q 0 L[j].1 rs[j].s.v ⟨v0, v1, v2, v3⟩ g gv w' (hcc.ext hb (by simp [craneC])) (hll.ext hb (by simp [liftC])) Hv.out hcok.2.1 Hg.out)
          have Hst := Lib.hid (tmRow_step L ⟨v0, v1, v2, v3⟩ g j)
          have hlen := tmRow_len L ⟨v0, v1, v2, v3⟩ g j
          have Ht := Lib.hid (fun h => tmAt_t (v := ⟨v0, v1, v2, v3⟩) (g := g) hjt h)
          have Hf := Lib.hid (fun h => tmAt_f (v := ⟨v0, v1, v2, v3⟩) (g := g) hjt h)
          have hbb2 := hcc.lt (by simp [craneC])
          have hbqr := hll.lt (by simp [liftC])
          have hblt := World.block_lt_of_cell? wr _ hcs
          have g1 := blkN_below (hBo) HE1.out
          have k0 : wr.cell? ⟨w.heap.size, 0, none⟩ = some (.int .i64 v0) := by rw [Lib.cell_of_heap g1]; rfl
          have k1 : wr.cell? ⟨w.heap.size, 1, none⟩ = some (.int .i64 v1) := by rw [Lib.cell_of_heap g1]; rfl
          have k2 : wr.cell? ⟨w.heap.size, 2, none⟩ = some (.int .i64 v2) := by rw [Lib.cell_of_heap g1]; rfl
          have k3 : wr.cell? ⟨w.heap.size, 3, none⟩ = some (.int .i64 v3) := by rw [Lib.cell_of_heap g1]; rfl
          have hkl := World.block_lt_of_cell? wr _ k0
          clear hs hfl hrw hcc hll hcok g1
          generalize hlk : tmRow L ⟨v0, v1, v2, v3⟩ g j = lk at *
          have Hlk := Lib.hid hlk
          clear hlk
          simp only [Spd.cells] at *
          cases hc : canB L[j].1 L[j].2 g
          · rw [hc] at hq
            have Hy := Lib.hid (Hf.out hc)
            clear hc hT Ht Hf
            go_wp2_with fail
            go_region_held3 (fun w' => (∀ b' o', b' < wr.heap.size → w'.cell? ⟨b', o', none⟩ = wr.cell? ⟨b', o', none⟩) ∧ Below wr.heap.size wr w') (first | (refine heldB ?_; go_grown; done))
              (first
                | (go_at_call 92; (with_reducible refine (hq.out _ ?hb).mono ?_); (case hb => go_grown); rintro e w3 ⟨rfl, hb3'⟩; have b3 : Below wr.heap.size wr w3 := Below.trans (by go_grown) (hb3'.mono (by go_size)); have q3 := (bcell b3).1))
            have hrow3 := Lib.hid (hrow.out.below b3)
            have hB3 := hB2.trans (b3.mono hBs2)
            have hBs3 := hB3.size
            clear b3 q3 hb3'
            go_wp2_with (at_builtin; refine wpList_app1 (c := intCells) (bytes := 8) rfl _ _ 29 2 rfl Tryd.underlying29 info_i64f (by omega) intCells_len intCells_one wo.heap.size lk (-1) _ rfl _ rfl hrow3.out rfl (by omega) (by omega) hBs3 ?_; intro v' w4 hrow4 hg4; have hB4 := hrow3.out.app hB3 (Nat.le_refl _) hBs3 hg4)
            go_roundw
            case rel => exact ⟨j + 1, _, rfl, by omega, by go_num, hB4, Lib.hid (by rw [Hst.out, Hy.out]; exact hrow4)⟩
            case measure => simp [intOf]; omega
          · rw [hc] at hq
            have Hy := Lib.hid (Ht.out hc)
            clear hc Ht Hf
            go_wp2_with fail
            go_region_held3 (fun w' => (∀ b' o', b' < wr.heap.size → w'.cell? ⟨b', o', none⟩ = wr.cell? ⟨b', o', none⟩) ∧ Below wr.heap.size wr w') (first | (refine heldB ?_; go_grown; done))
              (first
                | (go_at_call 92; (with_reducible refine (hq.out _ ?hb).mono ?_); (case hb => go_grown); rintro e w3 ⟨rfl, hb3'⟩; have b3 : Below wr.heap.size wr w3 := Below.trans (by go_grown) (hb3'.mono (by go_size)); have q3 := (bcell b3).1))
            have HB3 := Lib.hid b3
            have c3 := (b3.cell (p := ⟨p, 0, none⟩) hblt).trans hcs
            have k30 := (b3.cell (p := ⟨w.heap.size, 0, none⟩) hkl).trans k0
            have k31 := (b3.cell (p := ⟨w.heap.size, 1, none⟩) hkl).trans k1
            have k32 := (b3.cell (p := ⟨w.heap.size, 2, none⟩) hkl).trans k2
            have k33 := (b3.cell (p := ⟨w.heap.size, 3, none⟩) hkl).trans k3
            have hz3 := b3.size
            have hrow3 := Lib.hid (hrow.out.below b3)
            have hl3 : p < w3.heap.size := by omega
            have hkl3 : w.heap.size < w3.heap.size := by omega
            have hT3 := Lib.hid (fun w' (hb : Below w3.heap.size w3 w') => hT.out w' (HB3.out.trans (hb.mono hz3)))
            clear b3 q3 hb3' hT
            go_wp2_with fail
            go_region_held3 (fun w' => (∀ b' o', b' < w3.heap.size → w'.cell? ⟨b', o', none⟩ = w3.cell? ⟨b', o', none⟩) ∧ Below w3.heap.size w3 w') (first | (refine heldB ?_; go_grown; done))
              (first
                | (go_at_call 42; (with_reducible refine (hT3.out _ ?hb).mono ?_); (case hb => go_grown); rintro e w4 ⟨rfl, hb4'⟩; have b4 : Below w3.heap.size w3 w4 := Below.trans (by go_grown) (hb4'.mono (by go_size)); have q4 := (bcell b4).1))
            have hrow4 := Lib.hid (hrow3.out.below b4)
            have hB4 := hB2.trans ((HB3.out.trans (b4.mono hz3)).mono hBs2)
            have hBs4 := hB4.size
            clear b4 q4 hb4'
            go_wp2_with (at_builtin; refine wpList_app1 (c := intCells) (bytes := 8) rfl _ _ 29 2 rfl Tryd.underlying29 info_i64f (by omega) intCells_len intCells_one wo.heap.size lk (liftT L[j].1 ⟨v0, v1, v2, v3⟩ g) _ rfl _ rfl hrow4.out rfl (by omega) (by omega) hBs4 ?_; intro v' w5 hrow5 hg5; have hB5 := hrow4.out.app hB4 (Nat.le_refl _) hBs4 hg5)
            go_roundw
            case rel => exact ⟨j + 1, _, rfl, by omega, by go_num, hB5, Lib.hid (by rw [Hst.out, Hy.out]; exact hrow5)⟩
            case measure => simp [intOf]; omega
        · obtain rfl : j = L.length := by omega
          obtain ⟨da, dn, dc, rfl⟩ : ∃ da dn dc, dv = .slice da dn dc := by
            obtain ⟨_, ⟨h, _⟩ | ⟨g, cap, cur, h, _⟩⟩ := hrow.out
            · exact ⟨_, _, _, h⟩
            · exact ⟨_, _, _, h⟩
          have hpush := Lib.hid (fun v' w3 h1 h2 => OwnSS.push (te := 29) (r := ⟨da, dn, dc⟩) (by decide) Hown.out hBs hB2 hrow.out (v' := v') (w2 := w3) h1 h2)
          have Hown2 := Lib.hid (Hown.out.below hB2)
          go_wp2_with (at_builtin; refine wpList_app1 (c := one) (bytes := 24) rfl _ _ 106 29 rfl Tryd.underlying106 info_SSf (by omega) one_len one_one WA.heap.size rows ⟨da, dn, dc⟩ _ rfl _ rfl Hown2.out.out rfl (by omega) (by omega) hBo.size ?_; intro v' w3 hown3 hg3; have hB3 := Hown2.out.out.app hBo (Nat.le_refl _) hBo.size hg3)
          have Hown3 := Lib.hid (hpush.out _ _ hown3 hg3)
          go_roundw
          case rel => exact ⟨1, rows ++ [⟨da, dn, dc⟩], by omega, by go_num, hB3, Lib.hid (by simpa using Hown3.out)⟩
          case measure => simp [intOf]
    · have : k = 1 := by omega
      subst this
      have Hfin := Lib.hid ((hown.out.w intCells_len (by decide)).wider (lo' := w.heap.size) (by omega))
      have hlen := hown.out.len
      simp only [List.take_succ_cons, List.take_zero, List.length_singleton] at hlen
      obtain ⟨r, rfl⟩ := List.length_eq_one_iff.1 hlen
      go_wp2
      go_ret
      exact ⟨_, r, rfl, by simpa using Hfin.out, hBA.trans (hB.mono hBA.size)⟩
set_option maxRecDepth 100000 in
set_option maxHeartbeats 8000000 in
theorem impl_Table (s : SV) (rs : List CraneR) (L : SiteL) (v : Spd) (g : LiftF) (t : SV) (q lo hi : Nat) (w : World) (hl : At w q 0 (liftC g t.v)) (h : Cranes lo hi w s.v rs L) (hok : siteOk L) (hg : plainOk g) (hv : v.ok) (hQ : Qtr w) :
    Calls Tryd.prog 64 #[.agg #[s.v], .agg v.cells.toArray, .slice (some ⟨q, 0, none⟩) 1 1] w (RowRes w (tmRow L v g L.length)) := by
  have hl1 := h.len
  have hl6 := hok.2.2
  have Hs := Lib.hid h
  obtain ⟨⟨a, cap, hsv, _⟩, _, _⟩ := h
  generalize s.v = sv at *
  subst hsv
  rw [hl1] at Hs
  rw [hl1]
  have Hl1 := Lib.hid hl1
  have hbq := hl.lt (by simp [liftC])
  have Hl := Lib.hid hl
  have Hok := Lib.hid hok
  have Hg := Lib.hid hg
  have Hv := Lib.hid hv
  have HQ := Lib.hid hQ
  clear hl1 hl hok hg hv hQ
  obtain ⟨v0, v1, v2, v3⟩ := v
  obtain ⟨y0, y1, y2, y3, y4, y5, y6, y7⟩ := g
  obtain ⟨ta, tl, tc⟩ := t
  simp only [Spd.cells, SV.v, liftC] at *
  obtain ⟨WA, hWA, e0, e1, hBA, hzA⟩ := two_boxes w (.cells #[.slice a L.length cap] 60 (0, 0)) (.cells #[.int .i64 v0, .int .i64 v1, .int .i64 v2, .int .i64 v3] 41 (0, 0))
  have HWA := Lib.hid hWA
  have HE0 := Lib.hid e0
  have HE1 := Lib.hid e1
  clear hWA e0 e1
  have hT0 : Hid (tmRow L ⟨v0, v1, v2, v3⟩ ⟨y0, y1, y2, y3, y4, y5, y6, y7⟩ L.length = tmRow L ⟨v0, v1, v2, v3⟩ ⟨y0, y1, y2, y3, y4, y5, y6, y7⟩ L.length) := Lib.hid rfl
  clear hT0
  go_enter Tryd.func64, Tryd.ntmps64
  go_wp2_with fail
  rw [HWA.out]
  go_loopw [7, 16] (fun o i wr => ∃ (k : Nat) (rows : List SV), k ≤ 1 ∧ i = .int .i64 k ∧ Below WA.heap.size WA wr ∧ Hid (OwnSS 1 intCells WA.heap.size 29 2 wr o rows (([tmRow L ⟨v0, v1, v2, v3⟩ ⟨y0, y1, y2, y3, y4, y5, y6, y7⟩ L.length]).take k))) (fun _ i _ => 1 - (intOf i).toNat)
  case atStart => exact ⟨0, [], by omega, rfl, Below.refl _ _, Lib.hid (by simpa using ownSS_nil (own_nil _ _ _))⟩
  case round =>
    obtain ⟨k, rows, hk, rfl, hB, hown⟩ := hrel
    have hBs := hB.size
    by_cases hlt : k < 1
    · obtain rfl : k = 0 := by omega
      obtain ⟨wo, hwo⟩ : ∃ wo : World, wo = wr := ⟨_, rfl⟩
      subst hwo
      simp only [show ((0 : Nat) : Int) = 0 from rfl]
      have hrl : rows.length = 0 := by have := hown.out.len; rw [this]; rfl
      have Hown := Lib.hid hown.out
      clear hown
      have HBW0 := Lib.hid (hBA.trans (hB.mono hBA.size))
      have hll := (Hl.out.ext HBW0.out (by simp))
      have d0 := hll 0 _ rfl
      simp only [Nat.add_zero] at d0
      have d1 := hll 1 _ rfl
      have d2 := hll 2 _ rfl
      have d3 := hll 3 _ rfl
      have d4 := hll 4 _ rfl
      have d5 := hll 5 _ rfl
      have d6 := hll 6 _ rfl
      have d7 := hll 7 _ rfl
      have d8 := hll 8 _ rfl
      simp only [Nat.zero_add] at d1 d2 d3 d4 d5 d6 d7 d8
      have hqr : q < wo.heap.size := World.block_lt_of_cell? wo _ d0
      have f0 := blkN_below hB HE0.out
      have fs0 : wo.cell? ⟨w.heap.size, 0, none⟩ = some (.slice a L.length cap) := by rw [Lib.cell_of_heap f0]; rfl
      have hwz := World.block_lt_of_cell? wo _ fs0
      clear f0 hll
      obtain ⟨WB, hWB, e2, hBB, hzB⟩ := one_box wo (.cells #[.string y0, .int .i64 y1, .int .i64 y2, .int .i64 y3, .int .i64 y4, .int .i64 y5, .int .i64 y6, .int .i64 y7, .slice ta tl tc] 44 (0, 0))
      have HWB := Lib.hid hWB
      have HE2 := Lib.hid e2
      have HBo := Lib.hid hB
      clear hWB e2 hB
      go_wp2_with fail
      rw [HWB.out]
      have fs1 := (hBB.cell (p := ⟨w.heap.size, 0, none⟩) hwz).trans fs0
      clear d0 d1 d2 d3 d4 d5 d6 d7 d8 fs0
      have HBB := Lib.hid hBB
      clear hBB
      go_wp2_with fail
      go_loopw [10, 23] (fun o2 i2 wr => ∃ (j : Nat) (dv : Value), o2 = dv ∧ j ≤ L.length ∧ i2 = .int .i64 j ∧ Below WB.heap.size WB wr ∧ Hid (Own 1 intCells WB.heap.size 2 wr dv (tmRow L ⟨v0, v1, v2, v3⟩ ⟨y0, y1, y2, y3, y4, y5, y6, y7⟩ j))) (fun _ i2 _ => L.length - (intOf i2).toNat)
      case atStart => exact ⟨0, _, rfl, Nat.zero_le _, rfl, Below.refl _ _, Lib.hid (by simpa [tmRow] using own_nil _ _ _)⟩
      case round =>
        obtain ⟨j, dv, hdv, hj, rfl, hB2, hrow⟩ := hrel
        have hdv := hdv.symm
        subst hdv
        have hBs2 := hB2.size
        have HB2 := Lib.hid hB2
        have HBx := Lib.hid (HBB.out.trans (hB2.mono HBB.out.size))
        have HBA := Lib.hid (HBo.out.trans (HBx.out.mono HBo.out.size))
        have HBW := Lib.hid (hBA.trans (HBA.out.mono hBA.size))
        by_cases hjt : j < L.length
        · have hj1 : j < rs.length := by rw [Hl1.out]; exact hjt
          have hs : Cranes lo hi wr (.slice a L.length cap) rs L := Hs.out.ext HBW.out
          obtain ⟨hfl, hrw⟩ := hs.one hjt hj1
          obtain ⟨b2, off2, rfl⟩ := (show ∃ b off, a = some ⟨b, off, none⟩ from Sl.addr (by have := hs.out; rw [← Hl1.out] at this; exact this) (by omega))
          obtain ⟨c0, c1, c2, c3, c4, c5, c6⟩ := Cranes_at hs hj1
          rw [hfl] at c0 c1 c2 c3 c4 c5
          have hb2x := World.block_lt_of_cell? wr _ c0
          have hcok := (Hok.out.1 j hjt).1
          have hQl := HQ.out.lt
          have hq := fun w' (hb : Below wr.heap.size wr w') => impl_Can L[j].1 rs[j].s L[j].2 ⟨y0, y1, y2, y3, y4, y5, y6, y7⟩ ⟨ta, tl, tc⟩ lo hi w' (hrw.ext hb) hcok Hg.out.2.2.1 Hg.out.2.2.2.1 Hg.out.2.1.1 Hg.out.2.2.2.2.1
          have hT := fun w' (hb : Below wr.heap.size wr w') => impl_LiftT L[j].1 rs[j].s ⟨v0, v1, v2, v3⟩ ⟨y0, y1, y2, y3, y4, y5, y6, y7⟩ ⟨ta, tl, tc⟩ w' Hv.out hcok.2.1 Hg.out (HQ.out.below (HBW.out.trans (hb.mono HBW.out.size)) hQl)
          have Hst := Lib.hid (tmRow_step L ⟨v0, v1, v2, v3⟩ ⟨y0, y1, y2, y3, y4, y5, y6, y7⟩ j)
          have hlen := tmRow_len L ⟨v0, v1, v2, v3⟩ ⟨y0, y1, y2, y3, y4, y5, y6, y7⟩ j
          have Ht := Lib.hid (fun h => tmAt_t (v := ⟨v0, v1, v2, v3⟩) (g := ⟨y0, y1, y2, y3, y4, y5, y6, y7⟩) hjt h)
          have Hf := Lib.hid (fun h => tmAt_f (v := ⟨v0, v1, v2, v3⟩) (g := ⟨y0, y1, y2, y3, y4, y5, y6, y7⟩) hjt h)
          clear hs hfl hrw hcok
          generalize hlk : tmRow L ⟨v0, v1, v2, v3⟩ ⟨y0, y1, y2, y3, y4, y5, y6, y7⟩ j = lk at *
          have Hlk := Lib.hid hlk
          clear hlk hQl
          generalize hTm : liftT L[j].1 ⟨v0, v1, v2, v3⟩ ⟨y0, y1, y2, y3, y4, y5, y6, y7⟩ = tm at *
          generalize hcb : canB L[j].1 L[j].2 ⟨y0, y1, y2, y3, y4, y5, y6, y7⟩ = cb at *
          clear hTm hcb
          generalize rs[j].s = sk at *
          generalize L[j].1 = f at *
          obtain ⟨sa, sl, sc⟩ := sk
          obtain ⟨x0, x1, x2, x3, x4, x5⟩ := f
          simp only [SV.v, CraneR.cells, LiftR.cells, Spd.cells, List.cons_append, List.nil_append] at *
          have Hq := Lib.hid hq
          have HT := Lib.hid hT
          clear hq hT
          have g2 := blkN_below HB2.out HE2.out
          have d0 : wr.cell? ⟨wo.heap.size, 0, none⟩ = some (.string y0) := by rw [Lib.cell_of_heap g2]; rfl
          have d1 : wr.cell? ⟨wo.heap.size, 1, none⟩ = some (.int .i64 y1) := by rw [Lib.cell_of_heap g2]; rfl
          have d2 : wr.cell? ⟨wo.heap.size, 2, none⟩ = some (.int .i64 y2) := by rw [Lib.cell_of_heap g2]; rfl
          have d3 : wr.cell? ⟨wo.heap.size, 3, none⟩ = some (.int .i64 y3) := by rw [Lib.cell_of_heap g2]; rfl
          have d4 : wr.cell? ⟨wo.heap.size, 4, none⟩ = some (.int .i64 y4) := by rw [Lib.cell_of_heap g2]; rfl
          have d5 : wr.cell? ⟨wo.heap.size, 5, none⟩ = some (.int .i64 y5) := by rw [Lib.cell_of_heap g2]; rfl
          have d6 : wr.cell? ⟨wo.heap.size, 6, none⟩ = some (.int .i64 y6) := by rw [Lib.cell_of_heap g2]; rfl
          have d7 : wr.cell? ⟨wo.heap.size, 7, none⟩ = some (.int .i64 y7) := by rw [Lib.cell_of_heap g2]; rfl
          have d8 : wr.cell? ⟨wo.heap.size, 8, none⟩ = some (.slice ta tl tc) := by rw [Lib.cell_of_heap g2]; rfl
          have hdz := World.block_lt_of_cell? wr _ d0
          clear g2
          obtain ⟨WC, hWC, e3, hBC, hzC⟩ := one_box wr (.cells #[.string x0, .int .i64 x1, .int .i64 x2, .int .i64 x3, .int .i64 x4, .int .i64 x5, .slice sa sl sc] 39 (0, 0))
          have HWC := Lib.hid hWC
          have HE3 := Lib.hid e3
          have HBC := Lib.hid hBC
          clear hWC
          have hbx := World.block_lt_of_cell? wr _ c0
          have HDL : Hid (∀ w', Below WC.heap.size WC w' → w'.heap[wo.heap.size]? = some (.cells #[.string y0, .int .i64 y1, .int .i64 y2, .int .i64 y3, .int .i64 y4, .int .i64 y5, .int .i64 y6, .int .i64 y7, .slice ta tl tc] 44 (0, 0))) := Lib.hid (fun w' hb => blkN_below (HB2.out.trans ((HBC.out.trans (hb.mono HBC.out.size)).mono HB2.out.size)) HE2.out)
          have HDV : Hid (∀ w', Below WC.heap.size WC w' → w'.heap[w.heap.size + 1]? = some (.cells #[.int .i64 v0, .int .i64 v1, .int .i64 v2, .int .i64 v3] 41 (0, 0))) := Lib.hid (fun w' hb => blkN_below (HBA.out.trans ((HBC.out.trans (hb.mono HBC.out.size)).mono HBA.out.size)) HE1.out)
          go_wp2_with fail
          rw [HWC.out]
          clear c0 c1 c2 c3 c4 c5 c6 d0 d1 d2 d3 d4 d5 d6 d7 d8
          have c0 : WC.cell? ⟨wr.heap.size, 0, none⟩ = some (.string x0) := by rw [Lib.cell_of_heap e3]; rfl
          have c1 : WC.cell? ⟨wr.heap.size, 1, none⟩ = some (.int .i64 x1) := by rw [Lib.cell_of_heap e3]; rfl
          have c2 : WC.cell? ⟨wr.heap.size, 2, none⟩ = some (.int .i64 x2) := by rw [Lib.cell_of_heap e3]; rfl
          have c3 : WC.cell? ⟨wr.heap.size, 3, none⟩ = some (.int .i64 x3) := by rw [Lib.cell_of_heap e3]; rfl
          have c4 : WC.cell? ⟨wr.heap.size, 4, none⟩ = some (.int .i64 x4) := by rw [Lib.cell_of_heap e3]; rfl
          have c5 : WC.cell? ⟨wr.heap.size, 5, none⟩ = some (.int .i64 x5) := by rw [Lib.cell_of_heap e3]; rfl
          have c6 : WC.cell? ⟨wr.heap.size, 6, none⟩ = some (.slice sa sl sc) := by rw [Lib.cell_of_heap e3]; rfl
          have g2 := HDL.out WC (Below.refl _ _)
          have d0 : WC.cell? ⟨wo.heap.size, 0, none⟩ = some (.string y0) := by rw [Lib.cell_of_heap g2]; rfl
          have d1 : WC.cell? ⟨wo.heap.size, 1, none⟩ = some (.int .i64 y1) := by rw [Lib.cell_of_heap g2]; rfl
          have d2 : WC.cell? ⟨wo.heap.size, 2, none⟩ = some (.int .i64 y2) := by rw [Lib.cell_of_heap g2]; rfl
          have d3 : WC.cell? ⟨wo.heap.size, 3, none⟩ = some (.int .i64 y3) := by rw [Lib.cell_of_heap g2]; rfl
          have d4 : WC.cell? ⟨wo.heap.size, 4, none⟩ = some (.int .i64 y4) := by rw [Lib.cell_of_heap g2]; rfl
          have d5 : WC.cell? ⟨wo.heap.size, 5, none⟩ = some (.int .i64 y5) := by rw [Lib.cell_of_heap g2]; rfl
          have d6 : WC.cell? ⟨wo.heap.size, 6, none⟩ = some (.int .i64 y6) := by rw [Lib.cell_of_heap g2]; rfl
          have d7 : WC.cell? ⟨wo.heap.size, 7, none⟩ = some (.int .i64 y7) := by rw [Lib.cell_of_heap g2]; rfl
          have d8 : WC.cell? ⟨wo.heap.size, 8, none⟩ = some (.slice ta tl tc) := by rw [Lib.cell_of_heap g2]; rfl
          have hz1 : wr.heap.size < WC.heap.size := by omega
          have hz2 : wo.heap.size < WC.heap.size := by omega
          clear e3 g2
          cases cb
          · have Hy := Lib.hid (Hf.out rfl)
            clear Ht Hf HT
            go_wp2_with fail
            refine (Hq.out _ HBC.out).mono ?_
            rintro e w3 ⟨rfl, hb3⟩
            have b3 : Below wr.heap.size wr w3 := HBC.out.trans (hb3.mono HBC.out.size)
            have hrow3 := Lib.hid (hrow.out.below b3)
            have hB3 := HB2.out.trans (b3.mono hBs2)
            have hBs3 := hB3.size
            clear b3 hb3
            go_wp2_with (at_builtin; refine wpList_app1 (c := intCells) (bytes := 8) rfl _ _ 29 2 rfl Tryd.underlying29 info_i64f (by omega) intCells_len intCells_one WB.heap.size lk (-1) _ rfl _ rfl hrow3.out rfl (by omega) (by omega) hBs3 ?_; intro v' w4 hrow4 hg4; have hB4 := hrow3.out.app hB3 (Nat.le_refl _) hBs3 hg4)
            go_roundw
            case rel => exact ⟨j + 1, _, rfl, by omega, by go_num, hB4, Lib.hid (by rw [Hst.out, Hy.out]; exact hrow4)⟩
            case measure => simp [intOf]; omega
          · have Hy := Lib.hid (Ht.out rfl)
            clear Ht Hf
            go_wp2_with fail
            refine (Hq.out _ HBC.out).mono ?_
            rintro e w3 ⟨rfl, hb3⟩
            have HB3 := Lib.hid hb3
            have b3 : Below wr.heap.size wr w3 := HBC.out.trans (hb3.mono HBC.out.size)
            have H3 := Lib.hid b3
            have hrow3 := Lib.hid (hrow.out.below b3)
            have g3 := blkN_below hb3 HE3.out
            have g2 := HDL.out w3 hb3
            have g1 := HDV.out w3 hb3
            clear c0 c1 c2 c3 c4 c5 c6 d0 d1 d2 d3 d4 d5 d6 d7 d8 hb3
            have c0 : w3.cell? ⟨wr.heap.size, 0, none⟩ = some (.string x0) := by rw [Lib.cell_of_heap g3]; rfl
            have c1 : w3.cell? ⟨wr.heap.size, 1, none⟩ = some (.int .i64 x1) := by rw [Lib.cell_of_heap g3]; rfl
            have c2 : w3.cell? ⟨wr.heap.size, 2, none⟩ = some (.int .i64 x2) := by rw [Lib.cell_of_heap g3]; rfl
            have c3 : w3.cell? ⟨wr.heap.size, 3, none⟩ = some (.int .i64 x3) := by rw [Lib.cell_of_heap g3]; rfl
            have c4 : w3.cell? ⟨wr.heap.size, 4, none⟩ = some (.int .i64 x4) := by rw [Lib.cell_of_heap g3]; rfl
            have c5 : w3.cell? ⟨wr.heap.size, 5, none⟩ = some (.int .i64 x5) := by rw [Lib.cell_of_heap g3]; rfl
            have c6 : w3.cell? ⟨wr.heap.size, 6, none⟩ = some (.slice sa sl sc) := by rw [Lib.cell_of_heap g3]; rfl
            have d0 : w3.cell? ⟨wo.heap.size, 0, none⟩ = some (.string y0) := by rw [Lib.cell_of_heap g2]; rfl
            have d1 : w3.cell? ⟨wo.heap.size, 1, none⟩ = some (.int .i64 y1) := by rw [Lib.cell_of_heap g2]; rfl
            have d2 : w3.cell? ⟨wo.heap.size, 2, none⟩ = some (.int .i64 y2) := by rw [Lib.cell_of_heap g2]; rfl
            have d3 : w3.cell? ⟨wo.heap.size, 3, none⟩ = some (.int .i64 y3) := by rw [Lib.cell_of_heap g2]; rfl
            have d4 : w3.cell? ⟨wo.heap.size, 4, none⟩ = some (.int .i64 y4) := by rw [Lib.cell_of_heap g2]; rfl
            have d5 : w3.cell? ⟨wo.heap.size, 5, none⟩ = some (.int .i64 y5) := by rw [Lib.cell_of_heap g2]; rfl
            have d6 : w3.cell? ⟨wo.heap.size, 6, none⟩ = some (.int .i64 y6) := by rw [Lib.cell_of_heap g2]; rfl
            have d7 : w3.cell? ⟨wo.heap.size, 7, none⟩ = some (.int .i64 y7) := by rw [Lib.cell_of_heap g2]; rfl
            have d8 : w3.cell? ⟨wo.heap.size, 8, none⟩ = some (.slice ta tl tc) := by rw [Lib.cell_of_heap g2]; rfl
            have k0 : w3.cell? ⟨w.heap.size + 1, 0, none⟩ = some (.int .i64 v0) := by rw [Lib.cell_of_heap g1]; rfl
            have k1 : w3.cell? ⟨w.heap.size + 1, 1, none⟩ = some (.int .i64 v1) := by rw [Lib.cell_of_heap g1]; rfl
            have k2 : w3.cell? ⟨w.heap.size + 1, 2, none⟩ = some (.int .i64 v2) := by rw [Lib.cell_of_heap g1]; rfl
            have k3 : w3.cell? ⟨w.heap.size + 1, 3, none⟩ = some (.int .i64 v3) := by rw [Lib.cell_of_heap g1]; rfl
            have hz31 := World.block_lt_of_cell? w3 _ c0
            have hz32 := World.block_lt_of_cell? w3 _ d0
            have hz33 := World.block_lt_of_cell? w3 _ k0
            clear g1 g2 g3 b3
            go_wp2_with fail
            refine (HT.out _ H3.out).mono ?_
            rintro e w4 ⟨rfl, hb4⟩
            have b4 : Below wr.heap.size wr w4 := H3.out.trans (hb4.mono H3.out.size)
            have hrow4 := Lib.hid (hrow.out.below b4)
            have hB4 := HB2.out.trans (b4.mono hBs2)
            have hBs4 := hB4.size
            clear b4 hb4 c0 c1 c2 c3 c4 c5 c6 d0 d1 d2 d3 d4 d5 d6 d7 d8 k0 k1 k2 k3
            go_wp2_with (at_builtin; refine wpList_app1 (c := intCells) (bytes := 8) rfl _ _ 29 2 rfl Tryd.underlying29 info_i64f (by omega) intCells_len intCells_one WB.heap.size lk tm _ rfl _ rfl hrow4.out rfl (by omega) (by omega) hBs4 ?_; intro v' w5 hrow5 hg5; have hB5 := hrow4.out.app hB4 (Nat.le_refl _) hBs4 hg5)
            go_roundw
            case rel => exact ⟨j + 1, _, rfl, by omega, by go_num, hB5, Lib.hid (by rw [Hst.out, Hy.out]; exact hrow5)⟩
            case measure => simp [intOf]; omega
        · obtain rfl : j = L.length := by omega
          obtain ⟨da, dn, dc, rfl⟩ : ∃ da dn dc, dv = .slice da dn dc := by
            obtain ⟨_, ⟨h, _⟩ | ⟨g, cap, cur, h, _⟩⟩ := hrow.out
            · exact ⟨_, _, _, h⟩
            · exact ⟨_, _, _, h⟩
          have hpush := Lib.hid (fun v' w3 h1 h2 => OwnSS.push (te := 29) (r := ⟨da, dn, dc⟩) (by decide) Hown.out hBs HBx.out (hrow.out.lower HBB.out.size) (v' := v') (w2 := w3) h1 h2)
          have Hown2 := Lib.hid (Hown.out.below HBx.out)
          have hBAs := HBA.out.size
          go_wp2_with (at_builtin; refine wpList_app1 (c := one) (bytes := 24) rfl _ _ 106 29 rfl Tryd.underlying106 info_SSf (by omega) one_len one_one WA.heap.size rows ⟨da, dn, dc⟩ _ rfl _ rfl Hown2.out.out rfl (by omega) (by omega) hBAs ?_; intro v' w3 hown3 hg3; have hB3 := Hown2.out.out.app HBA.out (Nat.le_refl _) hBAs hg3)
          have Hown3 := Lib.hid (hpush.out _ _ hown3 hg3)
          go_roundw
          case rel => exact ⟨1, rows ++ [⟨da, dn, dc⟩], by omega, by go_num, hB3, Lib.hid (by simpa using Hown3.out)⟩
          case measure => simp [intOf]
    · have : k = 1 := by omega
      subst this
      have Hfin := Lib.hid ((hown.out.w intCells_len (by decide)).wider (lo' := w.heap.size) (by omega))
      have hlen := hown.out.len
      simp only [List.take_succ_cons, List.take_zero, List.length_singleton] at hlen
      obtain ⟨r, rfl⟩ := List.length_eq_one_iff.1 hlen
      go_wp2
      go_ret
      exact ⟨_, r, rfl, by simpa using Hfin.out, hBA.trans (hB.mono hBA.size)⟩
abbrev IntsS (lo hi : Nat) (w : World) (v : Value) (l : List Int) : Prop := Sl 1 intCells lo hi w v l
theorem ints_at {w : World} {b off : Nat} {l : List Int} (hc : ∀ i (h : i < l.length) j u, (intCells l[i])[j]? = some u → w.cell? ⟨b, off + i * 1 + j, none⟩ = some u) {k : Nat} (hk : k < l.length) : w.cell? ⟨b, off + k, none⟩ = some (.int .i64 (l.getD k 0)) := by
  have := hc k hk 0 (.int .i64 l[k]) rfl
  rw [List.getD_eq_getElem?_getD, List.getElem?_eq_getElem hk]
  simpa using this
theorem best_a {l : List Int} {k : Nat} {b : Int} (h : l.getD k 0 < 0) : bestS l k b = b := if_neg (by omega)
theorem best_b {l : List Int} {k : Nat} (h : 0 ≤ l.getD k 0) : bestS l k (-1) = k := if_pos ⟨h, .inl (by omega)⟩
theorem best_c {l : List Int} {k n : Nat} (h : 0 ≤ l.getD k 0) (h2 : l.getD k 0 < l.getD n 0) : bestS l k (n : Int) = k := if_pos ⟨h, .inr h2⟩
theorem best_d {l : List Int} {k n : Nat} (h2 : ¬ l.getD k 0 < l.getD n 0) : bestS l k (n : Int) = n := if_neg (by rintro ⟨_, h | h⟩; omega; exact h2 h)
theorem fast_bad {L : SiteL} {v : Spd} {g : LiftF} (h : ¬ (v.ok ∧ siteOk L ∧ plainOk g)) : fastR L v g = (0, 0, 1) := by unfold fastR; rw [if_neg h]
theorem fast_none {L : SiteL} {v : Spd} {g : LiftF} (h : v.ok ∧ siteOk L ∧ plainOk g) (h2 : bestTo (tmRow L v g L.length) L.length < 0) : fastR L v g = (0, 0, 3) := by unfold fastR; rw [if_pos h, if_pos h2]
theorem fast_some {L : SiteL} {v : Spd} {g : LiftF} (h : v.ok ∧ siteOk L ∧ plainOk g) {n : Nat} (h2 : bestTo (tmRow L v g L.length) L.length = (n : Int)) : fastR L v g = ((n : Int), (tmRow L v g L.length).getD n 0, 0) := by unfold fastR; rw [if_pos h, if_neg (by omega), h2]; rfl
theorem siteB_ffF {L : SiteL} (h : siteB L = false) : ¬ siteOk L := fun h2 => by rw [siteB_t h2] at h; cases h
set_option maxRecDepth 100000 in
set_option maxHeartbeats 8000000 in
theorem impl_least (v : Value) (l : List Int) (lo hi : Nat) (w : World) (h : IntsS lo hi w v l) :
    Calls Tryd.prog 65 #[v] w fun e w' => e = .returned (.int .i64 (bestTo l l.length)) ∧ Below w.heap.size w w' := by
  have hsl := h
  obtain ⟨a, cap, rfl, hlen, hh⟩ := h
  clear hh
  go_enter Tryd.func65, Tryd.ntmps65
  go_wp2
  go_loopw [3, 8] (fun b i wr => ∃ k : Nat, k ≤ l.length ∧ i = .int .i64 k ∧ b = .int .i64 (bestTo l k) ∧ Below w.heap.size w wr) (fun _ i _ => l.length - (intOf i).toNat)
  case atStart => exact ⟨0, Nat.zero_le _, rfl, rfl, Below.refl _ _⟩
  case round =>
    obtain ⟨k, hk, rfl, rfl, hB⟩ := hrel
    by_cases hlt : k < l.length
    · obtain ⟨b, off, rfl⟩ := hsl.addr (by omega)
      have hs := hsl.ext hB
      have c0 := ints_at hs.get hlt
      have hbd := bestTo_bd l k
      have hst : Hid (bestTo l (k + 1) = bestS l k (bestTo l k)) := Lib.hid rfl
      generalize hbv : bestTo l k = bv at *
      clear hbv
      by_cases h0 : l.getD k 0 < 0
      · have hr := Lib.hid (best_a (b := bv) h0)
        have h1 : decide (0 ≤ l.getD k 0) = false := decide_eq_false (by omega)
        clear hsl hs
        generalize l.getD k 0 = x at *
        go_wp2
        all_goals
          go_roundw
          case rel => exact ⟨k + 1, by omega, by go_num, by rw [hst.out, hr.out], hB⟩
          case measure => simp [intOf]; omega
      · have h1 : decide (0 ≤ l.getD k 0) = true := decide_eq_true (by omega)
        have hp : 0 ≤ l.getD k 0 := by omega
        by_cases hb0 : bv < 0
        · obtain rfl : bv = -1 := by omega
          have hr := Lib.hid (best_b (l := l) (k := k) hp)
          clear hsl hs
          generalize l.getD k 0 = x at *
          go_wp2
          all_goals
            go_roundw
            case rel => exact ⟨k + 1, by omega, by go_num, by rw [hst.out, hr.out], hB⟩
            case measure => simp [intOf]; omega
        · obtain ⟨n, rfl⟩ : ∃ n : Nat, bv = (n : Int) := ⟨bv.toNat, by omega⟩
          have hn : n < l.length := by omega
          have c1 := ints_at hs.get hn
          have hbf : decide ((n : Int) < 0) = false := decide_eq_false (by omega)
          by_cases hl : l.getD k 0 < l.getD n 0
          · have hr := Lib.hid (best_c hp hl)
            have h2 : decide (l.getD k 0 < l.getD n 0) = true := decide_eq_true hl
            clear hsl hs
            generalize l.getD k 0 = x at *
            generalize l.getD n 0 = y at *
            go_wp2
            all_goals
              go_roundw
              case rel => exact ⟨k + 1, by omega, by go_num, by rw [hst.out, hr.out], hB⟩
              case measure => simp [intOf]; omega
          · have hr := Lib.hid (best_d hl)
            have h2 : decide (l.getD k 0 < l.getD n 0) = false := decide_eq_false hl
            clear hsl hs
            generalize l.getD k 0 = x at *
            generalize l.getD n 0 = y at *
            go_wp2
            all_goals
              go_roundw
              case rel => exact ⟨k + 1, by omega, by go_num, by rw [hst.out, hr.out], hB⟩
              case measure => simp [intOf]; omega
    · obtain rfl : k = l.length := by omega
      go_wp2
      go_ret
      exact ⟨rfl, hB⟩
theorem three_bx (w : World) (o p q : Obj) : ∃ W, (((w.alloc o).alloc p).alloc q) = W ∧ W.heap[w.heap.size]? = some o ∧ W.heap[w.heap.size + 1]? = some p ∧ W.heap[w.heap.size + 1 + 1]? = some q ∧ Below w.heap.size w W ∧ W.heap.size = w.heap.size + 3 := by
  refine ⟨_, rfl, ?_, ?_, ?_, ((((Below.refl _ _).alloc (Nat.le_refl _) _).alloc (by simp) _).alloc (by simp; omega) _), by simp⟩
  · refine blkN_below ((Below.refl _ _).alloc (Nat.le_refl _) q) (blkN_below ((Below.refl _ _).alloc (Nat.le_refl _) p) (blkN_new w o))
  · refine blkN_below ((Below.refl _ _).alloc (Nat.le_refl _) q) ?_
    have := blkN_new (w.alloc o) p
    rwa [show (w.alloc o).heap.size = w.heap.size + 1 by simp] at this
  · have := blkN_new ((w.alloc o).alloc p) q
    rwa [show ((w.alloc o).alloc p).heap.size = w.heap.size + 1 + 1 by simp] at this
def TriRes (x : Int × Int × Int) (e : Ending) : Prop := e = .returned (.tuple #[.int .i64 x.1, .int .i64 x.2.1, .int .i64 x.2.2])
set_option maxRecDepth 100000 in
set_option maxHeartbeats 8000000 in
theorem spec_FastestCrane (s : SV) (rs : List CraneR) (L : SiteL) (v : Spd) (g : LiftF) (t : SV) (lo hi : Nat) (w : World) (h : Cranes lo hi w s.v rs L) (hwf : L.wf) (hwg : g.name.size ≤ maxLen) :
    Calls Tryd.prog 20 #[.agg #[s.v], .agg v.cells.toArray, .agg (LiftR.cells ⟨g, t⟩).toArray] w fun e w' => TriRes (fastR L v g) e ∧ Below w.heap.size w w' := by
  have Hs := Lib.hid h
  have hl1 := h.len
  obtain ⟨⟨a, cap, hsv, _⟩, _, _⟩ := h
  obtain ⟨sa, sl, sc⟩ := s
  simp only [SV.v] at hsv Hs ⊢
  cases hsv
  rw [hl1] at Hs ⊢
  clear hl1
  obtain ⟨WA, hWA, e0, e1, e2, hBA, hzA⟩ := three_bx w (.cells #[.slice a L.length cap] 60 (0, 0)) (.cells #[.int .i64 v.slew, .int .i64 v.trolley, .int .i64 v.hoist, .int .i64 v.hook] 41 (0, 0)) (.cells #[.string g.name, .int .i64 g.weight, .int .i64 g.fx, .int .i64 g.fy, .int .i64 g.tx, .int .i64 g.ty, .int .i64 g.height, .int .i64 g.deadline, .slice t.a t.len t.cap] 44 (0, 0))
  have hA2 : At WA (w.heap.size + 1 + 1) 0 (liftC g t.v) := At.of (t := 44) (by rw [e2]; rfl)
  have s0 : WA.cell? ⟨w.heap.size, 0, none⟩ = some (.slice a L.length cap) := by rw [Lib.cell_of_heap e0]; rfl
  have hV := fun w' => spec_SpdOk v w'
  have hS := fun w' (hb : Below WA.heap.size WA w') => spec_SiteOk w.heap.size _ rs L lo hi w' ((hb.cell (p := ⟨w.heap.size, 0, none⟩) (show w.heap.size < _ by omega)).trans s0) (Hs.out.ext (hBA.trans (hb.mono hBA.size))) hwf
  have hP := fun w' (hb : Below WA.heap.size WA w') => spec_Plain (w.heap.size + 1 + 1) 0 g t w' (hA2.ext hb (by simp [liftC])) hwg
  have HWA := Lib.hid hWA
  have HA2 := Lib.hid hA2
  have HE0 := Lib.hid e0
  have HE1 := Lib.hid e1
  have HE2 := Lib.hid e2
  clear hWA hA2 e0 e1 e2 s0 hwf hwg
  have HT := Lib.hid (fun q w' hc hl hs hok hg hv => spec_Table w.heap.size q (.slice a L.length cap) rs L v g t.v lo hi w' hc hl hs hok hg hv)
  have hfr := Lib.hid (fun h => fast_bad (L := L) (v := v) (g := g) h)
  have hfn := Lib.hid (fun h h2 => fast_none (L := L) (v := v) (g := g) h h2)
  have hfs := Lib.hid (fun h (n : Nat) h2 => fast_some (L := L) (v := v) (g := g) h (n := n) h2)
  obtain ⟨v0, v1, v2, v3⟩ := v
  obtain ⟨y0, y1, y2, y3, y4, y5, y6, y7⟩ := g
  obtain ⟨ta, tl, tc⟩ := t
  simp only [Spd.cells, SV.v, LiftR.cells] at *
  by_cases hv : (⟨v0, v1, v2, v3⟩ : Spd).ok
  case neg =>
    simp only [decide_eq_false hv] at hV
    have HV := Lib.hid hV
    have HS := Lib.hid hS
    have HP := Lib.hid hP
    clear hV hS hP
    go_enter Tryd.func20, Tryd.ntmps20
    go_wp2_with fail
    rw [HWA.out]
    have g1 := HE1.out
    have k0 : WA.cell? ⟨w.heap.size + 1, 0, none⟩ = some (.int .i64 v0) := by rw [Lib.cell_of_heap g1]; rfl
    have k1 : WA.cell? ⟨w.heap.size + 1, 1, none⟩ = some (.int .i64 v1) := by rw [Lib.cell_of_heap g1]; rfl
    have k2 : WA.cell? ⟨w.heap.size + 1, 2, none⟩ = some (.int .i64 v2) := by rw [Lib.cell_of_heap g1]; rfl
    have k3 : WA.cell? ⟨w.heap.size + 1, 3, none⟩ = some (.int .i64 v3) := by rw [Lib.cell_of_heap g1]; rfl
    clear g1
    go_wp2_with (first | (go_at_call 57; refine (HV.out _).mono ?_; rintro e w1 ⟨rfl, hb1⟩; have HB1 := Lib.hid hb1))
    go_ret3
    refine ⟨?_, hBA.trans (HB1.out.mono hBA.size)⟩
    rw [hfr.out (by rintro ⟨h1, h2, h3⟩; exact hv h1)]
    rfl
  cases hs : siteB L
  case false =>
    simp only [decide_eq_true hv] at hV
    simp only [hs] at hS
    have HV := Lib.hid hV
    have HS := Lib.hid hS
    have HP := Lib.hid hP
    clear hV hS hP
    go_enter Tryd.func20, Tryd.ntmps20
    go_wp2_with fail
    rw [HWA.out]
    have g1 := HE1.out
    have k0 : WA.cell? ⟨w.heap.size + 1, 0, none⟩ = some (.int .i64 v0) := by rw [Lib.cell_of_heap g1]; rfl
    have k1 : WA.cell? ⟨w.heap.size + 1, 1, none⟩ = some (.int .i64 v1) := by rw [Lib.cell_of_heap g1]; rfl
    have k2 : WA.cell? ⟨w.heap.size + 1, 2, none⟩ = some (.int .i64 v2) := by rw [Lib.cell_of_heap g1]; rfl
    have k3 : WA.cell? ⟨w.heap.size + 1, 3, none⟩ = some (.int .i64 v3) := by rw [Lib.cell_of_heap g1]; rfl
    clear g1
    go_wp2_with (first | (go_at_call 57; refine (HV.out _).mono ?_; rintro e w1 ⟨rfl, hb1⟩; have HB1 := Lib.hid hb1) | (go_at_call 58; refine (HS.out _ HB1.out).mono ?_; rintro e w2 ⟨rfl, hb2⟩; have HB2 := Lib.hid (HB1.out.trans (hb2.mono HB1.out.size))))
    go_ret3
    refine ⟨?_, hBA.trans (HB2.out.mono hBA.size)⟩
    rw [hfr.out (by rintro ⟨h1, h2, h3⟩; exact siteB_ffF hs h2)]
    rfl
  cases hp : plainB ⟨y0, y1, y2, y3, y4, y5, y6, y7⟩
  case false =>
    simp only [decide_eq_true hv] at hV
    simp only [hs] at hS
    simp only [hp] at hP
    have HV := Lib.hid hV
    have HS := Lib.hid hS
    have HP := Lib.hid hP
    clear hV hS hP
    go_enter Tryd.func20, Tryd.ntmps20
    go_wp2_with fail
    rw [HWA.out]
    have g1 := HE1.out
    have k0 : WA.cell? ⟨w.heap.size + 1, 0, none⟩ = some (.int .i64 v0) := by rw [Lib.cell_of_heap g1]; rfl
    have k1 : WA.cell? ⟨w.heap.size + 1, 1, none⟩ = some (.int .i64 v1) := by rw [Lib.cell_of_heap g1]; rfl
    have k2 : WA.cell? ⟨w.heap.size + 1, 2, none⟩ = some (.int .i64 v2) := by rw [Lib.cell_of_heap g1]; rfl
    have k3 : WA.cell? ⟨w.heap.size + 1, 3, none⟩ = some (.int .i64 v3) := by rw [Lib.cell_of_heap g1]; rfl
    clear g1
    go_wp2_with (first | (go_at_call 57; refine (HV.out _).mono ?_; rintro e w1 ⟨rfl, hb1⟩; have HB1 := Lib.hid hb1) | (go_at_call 58; refine (HS.out _ HB1.out).mono ?_; rintro e w2 ⟨rfl, hb2⟩; have HB2 := Lib.hid (HB1.out.trans (hb2.mono HB1.out.size))) | (go_at_call 59; refine (HP.out _ HB2.out).mono ?_; rintro e w3 ⟨rfl, hb3⟩; have HB3 := Lib.hid (HB2.out.trans (hb3.mono HB2.out.size))))
    go_ret3
    refine ⟨?_, hBA.trans (HB3.out.mono hBA.size)⟩
    rw [hfr.out (by rintro ⟨h1, h2, h3⟩; exact plainB_ff hp h3)]
    rfl
  have Hv := Lib.hid hv
  have Hsok := Lib.hid (siteB_iff.1 hs)
  have Hg := Lib.hid (show plainOk ⟨y0, y1, y2, y3, y4, y5, y6, y7⟩ from Classical.byContradiction fun h => by rw [plainB_f h] at hp; cases hp)
  have Hall := Lib.hid (show _ ∧ _ ∧ _ from ⟨Hv.out, Hsok.out, Hg.out⟩)
  simp only [decide_eq_true hv] at hV
  simp only [hs] at hS
  simp only [hp] at hP
  have HV := Lib.hid hV
  have HS := Lib.hid hS
  have HP := Lib.hid hP
  clear hV hS hP hv hs hp
  go_enter Tryd.func20, Tryd.ntmps20
  go_wp2_with fail
  rw [HWA.out]
  have g1 := HE1.out
  have k0 : WA.cell? ⟨w.heap.size + 1, 0, none⟩ = some (.int .i64 v0) := by rw [Lib.cell_of_heap g1]; rfl
  have k1 : WA.cell? ⟨w.heap.size + 1, 1, none⟩ = some (.int .i64 v1) := by rw [Lib.cell_of_heap g1]; rfl
  have k2 : WA.cell? ⟨w.heap.size + 1, 2, none⟩ = some (.int .i64 v2) := by rw [Lib.cell_of_heap g1]; rfl
  have k3 : WA.cell? ⟨w.heap.size + 1, 3, none⟩ = some (.int .i64 v3) := by rw [Lib.cell_of_heap g1]; rfl
  clear g1
  go_wp2_with (first | (go_at_call 57; refine (HV.out _).mono ?_; rintro e w1 ⟨rfl, hb1⟩; have HB1 := Lib.hid hb1) | (go_at_call 58; refine (HS.out _ HB1.out).mono ?_; rintro e w2 ⟨rfl, hb2⟩; have HB2 := Lib.hid (HB1.out.trans (hb2.mono HB1.out.size))))
  refine (HP.out _ HB2.out).mono ?_
  rintro e w3 ⟨rfl, hb3⟩
  have HB3 := Lib.hid (HB2.out.trans (hb3.mono HB2.out.size))
  clear k0 k1 k2 k3 hb1 hb2 hb3
  have g0 := blkN_below HB3.out HE0.out
  have g1 := blkN_below HB3.out HE1.out
  have g2 := blkN_below HB3.out HE2.out
  have s0 : w3.cell? ⟨w.heap.size, 0, none⟩ = some (.slice a L.length cap) := by rw [Lib.cell_of_heap g0]; rfl
  have k0 : w3.cell? ⟨w.heap.size + 1, 0, none⟩ = some (.int .i64 v0) := by rw [Lib.cell_of_heap g1]; rfl
  have k1 : w3.cell? ⟨w.heap.size + 1, 1, none⟩ = some (.int .i64 v1) := by rw [Lib.cell_of_heap g1]; rfl
  have k2 : w3.cell? ⟨w.heap.size + 1, 2, none⟩ = some (.int .i64 v2) := by rw [Lib.cell_of_heap g1]; rfl
  have k3 : w3.cell? ⟨w.heap.size + 1, 3, none⟩ = some (.int .i64 v3) := by rw [Lib.cell_of_heap g1]; rfl
  have d0 : w3.cell? ⟨w.heap.size + 1 + 1, 0, none⟩ = some (.string y0) := by rw [Lib.cell_of_heap g2]; rfl
  have d1 : w3.cell? ⟨w.heap.size + 1 + 1, 1, none⟩ = some (.int .i64 y1) := by rw [Lib.cell_of_heap g2]; rfl
  have d2 : w3.cell? ⟨w.heap.size + 1 + 1, 2, none⟩ = some (.int .i64 y2) := by rw [Lib.cell_of_heap g2]; rfl
  have d3 : w3.cell? ⟨w.heap.size + 1 + 1, 3, none⟩ = some (.int .i64 y3) := by rw [Lib.cell_of_heap g2]; rfl
  have d4 : w3.cell? ⟨w.heap.size + 1 + 1, 4, none⟩ = some (.int .i64 y4) := by rw [Lib.cell_of_heap g2]; rfl
  have d5 : w3.cell? ⟨w.heap.size + 1 + 1, 5, none⟩ = some (.int .i64 y5) := by rw [Lib.cell_of_heap g2]; rfl
  have d6 : w3.cell? ⟨w.heap.size + 1 + 1, 6, none⟩ = some (.int .i64 y6) := by rw [Lib.cell_of_heap g2]; rfl
  have d7 : w3.cell? ⟨w.heap.size + 1 + 1, 7, none⟩ = some (.int .i64 y7) := by rw [Lib.cell_of_heap g2]; rfl
  have d8 : w3.cell? ⟨w.heap.size + 1 + 1, 8, none⟩ = some (.slice ta tl tc) := by rw [Lib.cell_of_heap g2]; rfl
  have hsz : w.heap.size < w3.heap.size := World.block_lt_of_cell? w3 _ s0
  clear g0 g1 g2
  obtain ⟨WB, hWB, e4, hBB, hzB⟩ := one_box w3 (.cells #[.string y0, .int .i64 y1, .int .i64 y2, .int .i64 y3, .int .i64 y4, .int .i64 y5, .int .i64 y6, .int .i64 y7, .slice ta tl tc] 44 (0, 0))
  have hA4 : At WB w3.heap.size 0 (liftC ⟨y0, y1, y2, y3, y4, y5, y6, y7⟩ (.slice ta tl tc)) := At.of (t := 44) (by rw [e4]; rfl)
  have hB3 := hBA.trans (HB3.out.mono hBA.size)
  have hB4 := hB3.trans (hBB.mono hB3.size)
  have hT := HT.out w3.heap.size WB ((hBB.cell (p := ⟨w.heap.size, 0, none⟩) hsz).trans s0) hA4 (Hs.out.ext hB4) Hsok.out Hg.out Hv.out
  (try simp only [Spd.cells, SV.v] at hT)
  have Hrl := Lib.hid (tmRow_len L ⟨v0, v1, v2, v3⟩ ⟨y0, y1, y2, y3, y4, y5, y6, y7⟩ L.length)
  generalize hrow : tmRow L ⟨v0, v1, v2, v3⟩ ⟨y0, y1, y2, y3, y4, y5, y6, y7⟩ L.length = row at *
  have HTT := Lib.hid hT
  have HWB := Lib.hid hWB
  have HB4 := Lib.hid hB4
  have HR := Lib.hid hrow
  clear hT hWB e4 hA4 hB3 hB4 hBB hrow HT
  go_wp2_with fail
  rw [HWB.out]
  refine HTT.out.mono ?_
  rintro e w4 ⟨v', r, rfl, hss, hb4⟩
  have HB5 := Lib.hid (HB4.out.trans (hb4.mono HB4.out.size))
  obtain ⟨⟨a4, cap4, rfl, hlen4, hh4⟩, -⟩ := hss.out
  obtain ⟨b4, off4, rfl, -, -, -⟩ := hh4 (by simp)
  have c4 : w4.cell? ⟨b4, off4, none⟩ = some r.v := by simpa using hss.r.out.get 0 (by simp) 0 r.v rfl
  have hrw := hss.r.row 0 r row rfl rfl
  obtain ⟨ra, rn, rc⟩ := r
  simp only [SV.v, List.getElem_cons_zero, Nat.add_zero, List.length_singleton] at c4 hrw ⊢
  obtain ⟨ra2, rc2, hreq, hrlen, -⟩ := id hrw
  cases hreq
  clear hss hh4 hlen4 hb4 s0 k0 k1 k2 k3 d0 d1 d2 d3 d4 d5 d6 d7 d8
  have hsl := hrw
  have Hrw := Lib.hid hrw
  clear hrw
  go_wp2
  go_loopw [10, 11] (fun b i wr => ∃ k : Nat, k ≤ row.length ∧ i = .int .i64 k ∧ b = .int .i64 (bestTo row k) ∧ Below w4.heap.size w4 wr) (fun _ i _ => row.length - (intOf i).toNat)
  case atStart => exact ⟨0, Nat.zero_le _, rfl, rfl, Below.refl _ _⟩
  case round =>
    obtain ⟨k, hk, rfl, rfl, hB⟩ := hrel
    by_cases hlt : k < row.length
    · obtain ⟨b, off, rfl⟩ := hsl.addr (by omega)
      have hs := hsl.ext hB
      have c0 := ints_at hs.get hlt
      have hbd := bestTo_bd row k
      have hst : Hid (bestTo row (k + 1) = bestS row k (bestTo row k)) := Lib.hid rfl
      generalize hbv : bestTo row k = bv at *
      clear hbv
      by_cases h0 : row.getD k 0 < 0
      · have h1 : decide (0 ≤ row.getD k 0) = false := decide_eq_false (by omega)
        have hr := Lib.hid (best_a (b := bv) h0)
        clear hsl hs
        generalize row.getD k 0 = x at *
        go_wp2_with (go_quiet (fail))
        all_goals
          go_roundw
          case rel => exact ⟨k + 1, by omega, by go_num, by rw [hst.out, hr.out], below_dN hB _⟩
          case measure => simp [intOf]; omega
      · have h1 : decide (0 ≤ row.getD k 0) = true := decide_eq_true (by omega)
        have hp : 0 ≤ row.getD k 0 := by omega
        by_cases hb0 : bv < 0
        · obtain rfl : bv = -1 := by omega
          have hr := Lib.hid (best_b (l := row) (k := k) hp)
          clear hsl hs
          generalize row.getD k 0 = x at *
          go_wp2_with (go_quiet (fail))
          all_goals
            go_roundw
            case rel => exact ⟨k + 1, by omega, by go_num, by rw [hst.out, hr.out], below_dN hB _⟩
            case measure => simp [intOf]; omega
        · obtain ⟨n, rfl⟩ : ∃ n : Nat, bv = (n : Int) := ⟨bv.toNat, by omega⟩
          have hn : n < row.length := by omega
          have c1 := ints_at hs.get hn
          have hbf : decide ((n : Int) < 0) = false := decide_eq_false (by omega)
          by_cases hl : row.getD k 0 < row.getD n 0
          · have h2 : decide (row.getD k 0 < row.getD n 0) = true := decide_eq_true hl
            have hr := Lib.hid (best_c hp hl)
            skip
            clear hsl hs
            generalize row.getD k 0 = x at *
            generalize row.getD n 0 = y at *
            go_wp2_with (go_quiet (fail))
            all_goals
              go_roundw
              case rel => exact ⟨k + 1, by omega, by go_num, by rw [hst.out, hr.out], below_dN hB _⟩
              case measure => simp [intOf]; omega
          · have h2 : decide (row.getD k 0 < row.getD n 0) = false := decide_eq_false hl
            have hr := Lib.hid (best_d (k := k) (n := n) hl)
            skip
            clear hsl hs
            generalize row.getD k 0 = x at *
            generalize row.getD n 0 = y at *
            go_wp2_with (go_quiet (fail))
            all_goals
              go_roundw
              case rel => exact ⟨k + 1, by omega, by go_num, by rw [hst.out, hr.out], below_dN hB _⟩
              case measure => simp [intOf]; omega
    · obtain rfl : k = row.length := by omega
      have hbd := bestTo_bd row row.length
      have HBB := Lib.hid (HB5.out.trans (hB.mono HB5.out.size))
      have hs := hsl.ext hB
      generalize hbv : bestTo row row.length = bv at *
      have hbv2 : bestTo row L.length = bv := by rw [← Hrl.out]; exact hbv
      clear hbv
      by_cases hb0 : bv < 0
      · have hf := hfn.out Hall.out (by rw [hbv2]; exact hb0)
        obtain rfl : bv = -1 := by omega
        clear hbv2 hsl hs
        go_wp2
        go_ret3
        refine ⟨?_, HBB.out⟩
        rw [hf]
        rfl
      · obtain ⟨n, rfl⟩ : ∃ n : Nat, bv = (n : Int) := ⟨bv.toNat, by omega⟩
        have hn : n < row.length := by omega
        have hf := hfs.out Hall.out n hbv2
        have Hf := Lib.hid hf
        obtain ⟨b, off, rfl⟩ := hsl.addr (by omega)
        have c1 := ints_at hs.get hn
        have hbf : decide ((n : Int) < 0) = false := decide_eq_false (by omega)
        clear hbv2 hf hsl hs
        generalize row.getD n 0 = y at *
        go_wp2_with (go_quiet (fail))
        all_goals
          go_ret3
          refine ⟨?_, below_dN HBB.out _⟩
          rw [Hf.out]
          rfl
set_option maxRecDepth 100000 in
set_option maxHeartbeats 8000000 in
theorem impl_FastestCrane (s : SV) (rs : List CraneR) (L : SiteL) (v : Spd) (g : LiftF) (t : SV) (lo hi : Nat) (w : World) (h : Cranes lo hi w s.v rs L) (hwf : L.wf) (hwg : g.name.size ≤ maxLen) (hQ : Qtr w) :
    Calls Tryd.prog 22 #[.agg #[s.v], .agg v.cells.toArray, .agg (LiftR.cells ⟨g, t⟩).toArray] w fun e w' => TriRes (fastR L v g) e ∧ Below w.heap.size w w' := by
  have Hs := Lib.hid h
  have hl1 := h.len
  obtain ⟨⟨a, cap, hsv, _⟩, _, _⟩ := h
  obtain ⟨sa, sl, sc⟩ := s
  simp only [SV.v] at hsv Hs ⊢
  cases hsv
  rw [hl1] at Hs ⊢
  clear hl1
  have hql := hQ.lt
  have HQ := Lib.hid (fun w' (hb : Below w.heap.size w w') => hQ.below hb hql)
  clear hQ hql
  obtain ⟨WA, hWA, e0, e1, e2, hBA, hzA⟩ := three_bx w (.cells #[.slice a L.length cap] 60 (0, 0)) (.cells #[.int .i64 v.slew, .int .i64 v.trolley, .int .i64 v.hoist, .int .i64 v.hook] 41 (0, 0)) (.cells #[.string g.name, .int .i64 g.weight, .int .i64 g.fx, .int .i64 g.fy, .int .i64 g.tx, .int .i64 g.ty, .int .i64 g.height, .int .i64 g.deadline, .slice t.a t.len t.cap] 44 (0, 0))
  have hA2 : At WA (w.heap.size + 1 + 1) 0 (liftC g t.v) := At.of (t := 44) (by rw [e2]; rfl)
  have s0 : WA.cell? ⟨w.heap.size, 0, none⟩ = some (.slice a L.length cap) := by rw [Lib.cell_of_heap e0]; rfl
  have hV := fun w' => impl_SpdOk v w'
  have hS := fun w' (hb : Below WA.heap.size WA w') => impl_SiteOk ⟨a, L.length, cap⟩ rs L lo hi w' (Hs.out.ext (hBA.trans (hb.mono hBA.size))) hwf
  have hP := fun w' => impl_One g t w' hwg
  simp only [SV.v] at hS
  have HWA := Lib.hid hWA
  have HA2 := Lib.hid hA2
  have HE0 := Lib.hid e0
  have HE1 := Lib.hid e1
  have HE2 := Lib.hid e2
  clear hWA hA2 e0 e1 e2 s0 hwf hwg
  have HT := Lib.hid (fun q w' hl hs hok hg hv hq => impl_Table ⟨a, L.length, cap⟩ rs L v g t q lo hi w'  hl hs hok hg hv hq)
  have hfr := Lib.hid (fun h => fast_bad (L := L) (v := v) (g := g) h)
  have hfn := Lib.hid (fun h h2 => fast_none (L := L) (v := v) (g := g) h h2)
  have hfs := Lib.hid (fun h (n : Nat) h2 => fast_some (L := L) (v := v) (g := g) h (n := n) h2)
  obtain ⟨v0, v1, v2, v3⟩ := v
  obtain ⟨y0, y1, y2, y3, y4, y5, y6, y7⟩ := g
  obtain ⟨ta, tl, tc⟩ := t
  simp only [Spd.cells, SV.v, LiftR.cells] at *
  cases hs : siteB L
  case false =>
    simp only [hs] at hS
    have HV := Lib.hid hV
    have HS := Lib.hid hS
    have HP := Lib.hid hP
    clear hV hS hP
    go_enter Tryd.func22, Tryd.ntmps22
    go_wp2_with fail
    rw [HWA.out]
    have g0 := HE0.out
    have s0 : WA.cell? ⟨w.heap.size, 0, none⟩ = some (.slice a L.length cap) := by rw [Lib.cell_of_heap g0]; rfl
    clear g0
    go_wp2_with fail
    refine (HS.out _ (Below.refl _ _)).mono ?_
    rintro e w1 ⟨rfl, hb1⟩
    have HB1 := Lib.hid hb1
    clear s0
    go_wp2
    go_ret3
    refine ⟨?_, hBA.trans (HB1.out.mono hBA.size)⟩
    rw [hfr.out (by rintro ⟨h1, h2, h3⟩; exact siteB_ffF hs h2)]
    rfl
  by_cases hv : (⟨v0, v1, v2, v3⟩ : Spd).ok
  case neg =>
    simp only [hs] at hS
    simp only [decide_eq_false hv] at hV
    have HV := Lib.hid hV
    have HS := Lib.hid hS
    have HP := Lib.hid hP
    clear hV hS hP
    go_enter Tryd.func22, Tryd.ntmps22
    go_wp2_with fail
    rw [HWA.out]
    have g0 := HE0.out
    have s0 : WA.cell? ⟨w.heap.size, 0, none⟩ = some (.slice a L.length cap) := by rw [Lib.cell_of_heap g0]; rfl
    clear g0
    go_wp2_with fail
    refine (HS.out _ (Below.refl _ _)).mono ?_
    rintro e w1 ⟨rfl, hb1⟩
    have HB1 := Lib.hid hb1
    clear s0
    have g1 := blkN_below hb1 HE1.out
    have k0 : w1.cell? ⟨w.heap.size + 1, 0, none⟩ = some (.int .i64 v0) := by rw [Lib.cell_of_heap g1]; rfl
    have k1 : w1.cell? ⟨w.heap.size + 1, 1, none⟩ = some (.int .i64 v1) := by rw [Lib.cell_of_heap g1]; rfl
    have k2 : w1.cell? ⟨w.heap.size + 1, 2, none⟩ = some (.int .i64 v2) := by rw [Lib.cell_of_heap g1]; rfl
    have k3 : w1.cell? ⟨w.heap.size + 1, 3, none⟩ = some (.int .i64 v3) := by rw [Lib.cell_of_heap g1]; rfl
    clear g1 hb1
    go_wp2_with fail
    refine (HV.out _).mono ?_
    rintro e w2 ⟨rfl, hb2⟩
    have HB2 := Lib.hid (HB1.out.trans (hb2.mono HB1.out.size))
    clear k0 k1 k2 k3 hb2
    go_wp2
    go_ret3
    refine ⟨?_, hBA.trans (HB2.out.mono hBA.size)⟩
    rw [hfr.out (by rintro ⟨h1, h2, h3⟩; exact hv h1)]
    rfl
  cases hp : plainB ⟨y0, y1, y2, y3, y4, y5, y6, y7⟩
  case false =>
    simp only [hs] at hS
    simp only [decide_eq_true hv] at hV
    simp only [hp] at hP
    have HV := Lib.hid hV
    have HS := Lib.hid hS
    have HP := Lib.hid hP
    clear hV hS hP
    go_enter Tryd.func22, Tryd.ntmps22
    go_wp2_with fail
    rw [HWA.out]
    have g0 := HE0.out
    have s0 : WA.cell? ⟨w.heap.size, 0, none⟩ = some (.slice a L.length cap) := by rw [Lib.cell_of_heap g0]; rfl
    clear g0
    go_wp2_with fail
    refine (HS.out _ (Below.refl _ _)).mono ?_
    rintro e w1 ⟨rfl, hb1⟩
    have HB1 := Lib.hid hb1
    clear s0
    have g1 := blkN_below hb1 HE1.out
    have k0 : w1.cell? ⟨w.heap.size + 1, 0, none⟩ = some (.int .i64 v0) := by rw [Lib.cell_of_heap g1]; rfl
    have k1 : w1.cell? ⟨w.heap.size + 1, 1, none⟩ = some (.int .i64 v1) := by rw [Lib.cell_of_heap g1]; rfl
    have k2 : w1.cell? ⟨w.heap.size + 1, 2, none⟩ = some (.int .i64 v2) := by rw [Lib.cell_of_heap g1]; rfl
    have k3 : w1.cell? ⟨w.heap.size + 1, 3, none⟩ = some (.int .i64 v3) := by rw [Lib.cell_of_heap g1]; rfl
    clear g1 hb1
    go_wp2_with fail
    refine (HV.out _).mono ?_
    rintro e w2 ⟨rfl, hb2⟩
    have HB2 := Lib.hid (HB1.out.trans (hb2.mono HB1.out.size))
    clear k0 k1 k2 k3 hb2
    have g2 := blkN_below HB2.out HE2.out
    have d0 : w2.cell? ⟨w.heap.size + 1 + 1, 0, none⟩ = some (.string y0) := by rw [Lib.cell_of_heap g2]; rfl
    have d1 : w2.cell? ⟨w.heap.size + 1 + 1, 1, none⟩ = some (.int .i64 y1) := by rw [Lib.cell_of_heap g2]; rfl
    have d2 : w2.cell? ⟨w.heap.size + 1 + 1, 2, none⟩ = some (.int .i64 y2) := by rw [Lib.cell_of_heap g2]; rfl
    have d3 : w2.cell? ⟨w.heap.size + 1 + 1, 3, none⟩ = some (.int .i64 y3) := by rw [Lib.cell_of_heap g2]; rfl
    have d4 : w2.cell? ⟨w.heap.size + 1 + 1, 4, none⟩ = some (.int .i64 y4) := by rw [Lib.cell_of_heap g2]; rfl
    have d5 : w2.cell? ⟨w.heap.size + 1 + 1, 5, none⟩ = some (.int .i64 y5) := by rw [Lib.cell_of_heap g2]; rfl
    have d6 : w2.cell? ⟨w.heap.size + 1 + 1, 6, none⟩ = some (.int .i64 y6) := by rw [Lib.cell_of_heap g2]; rfl
    have d7 : w2.cell? ⟨w.heap.size + 1 + 1, 7, none⟩ = some (.int .i64 y7) := by rw [Lib.cell_of_heap g2]; rfl
    have d8 : w2.cell? ⟨w.heap.size + 1 + 1, 8, none⟩ = some (.slice ta tl tc) := by rw [Lib.cell_of_heap g2]; rfl
    clear g2
    go_wp2_with fail
    refine (HP.out _).mono ?_
    rintro e w3 ⟨rfl, hb3⟩
    have HB3 := Lib.hid (HB2.out.trans (hb3.mono HB2.out.size))
    clear d0 d1 d2 d3 d4 d5 d6 d7 d8 hb3
    go_wp2
    go_ret3
    refine ⟨?_, hBA.trans (HB3.out.mono hBA.size)⟩
    rw [hfr.out (by rintro ⟨h1, h2, h3⟩; exact plainB_ff hp h3)]
    rfl
  have Hv := Lib.hid hv
  have Hsok := Lib.hid (siteB_iff.1 hs)
  have Hg := Lib.hid (show plainOk ⟨y0, y1, y2, y3, y4, y5, y6, y7⟩ from Classical.byContradiction fun h => by rw [plainB_f h] at hp; cases hp)
  have Hall := Lib.hid (show _ ∧ _ ∧ _ from ⟨Hv.out, Hsok.out, Hg.out⟩)
  simp only [decide_eq_true hv] at hV
  simp only [hs] at hS
  simp only [hp] at hP
  have HV := Lib.hid hV
  have HS := Lib.hid hS
  have HP := Lib.hid hP
  clear hV hS hP hv hs hp
  go_enter Tryd.func22, Tryd.ntmps22
  go_wp2_with fail
  rw [HWA.out]
  have g0 := HE0.out
  have s0 : WA.cell? ⟨w.heap.size, 0, none⟩ = some (.slice a L.length cap) := by rw [Lib.cell_of_heap g0]; rfl
  clear g0
  go_wp2_with fail
  refine (HS.out _ (Below.refl _ _)).mono ?_
  rintro e w1 ⟨rfl, hb1⟩
  have HB1 := Lib.hid hb1
  clear s0
  have g1 := blkN_below hb1 HE1.out
  have k0 : w1.cell? ⟨w.heap.size + 1, 0, none⟩ = some (.int .i64 v0) := by rw [Lib.cell_of_heap g1]; rfl
  have k1 : w1.cell? ⟨w.heap.size + 1, 1, none⟩ = some (.int .i64 v1) := by rw [Lib.cell_of_heap g1]; rfl
  have k2 : w1.cell? ⟨w.heap.size + 1, 2, none⟩ = some (.int .i64 v2) := by rw [Lib.cell_of_heap g1]; rfl
  have k3 : w1.cell? ⟨w.heap.size + 1, 3, none⟩ = some (.int .i64 v3) := by rw [Lib.cell_of_heap g1]; rfl
  clear g1 hb1
  go_wp2_with fail
  refine (HV.out _).mono ?_
  rintro e w2 ⟨rfl, hb2⟩
  have HB2 := Lib.hid (HB1.out.trans (hb2.mono HB1.out.size))
  clear k0 k1 k2 k3 hb2
  have g2 := blkN_below HB2.out HE2.out
  have d0 : w2.cell? ⟨w.heap.size + 1 + 1, 0, none⟩ = some (.string y0) := by rw [Lib.cell_of_heap g2]; rfl
  have d1 : w2.cell? ⟨w.heap.size + 1 + 1, 1, none⟩ = some (.int .i64 y1) := by rw [Lib.cell_of_heap g2]; rfl
  have d2 : w2.cell? ⟨w.heap.size + 1 + 1, 2, none⟩ = some (.int .i64 y2) := by rw [Lib.cell_of_heap g2]; rfl
  have d3 : w2.cell? ⟨w.heap.size + 1 + 1, 3, none⟩ = some (.int .i64 y3) := by rw [Lib.cell_of_heap g2]; rfl
  have d4 : w2.cell? ⟨w.heap.size + 1 + 1, 4, none⟩ = some (.int .i64 y4) := by rw [Lib.cell_of_heap g2]; rfl
  have d5 : w2.cell? ⟨w.heap.size + 1 + 1, 5, none⟩ = some (.int .i64 y5) := by rw [Lib.cell_of_heap g2]; rfl
  have d6 : w2.cell? ⟨w.heap.size + 1 + 1, 6, none⟩ = some (.int .i64 y6) := by rw [Lib.cell_of_heap g2]; rfl
  have d7 : w2.cell? ⟨w.heap.size + 1 + 1, 7, none⟩ = some (.int .i64 y7) := by rw [Lib.cell_of_heap g2]; rfl
  have d8 : w2.cell? ⟨w.heap.size + 1 + 1, 8, none⟩ = some (.slice ta tl tc) := by rw [Lib.cell_of_heap g2]; rfl
  clear g2
  go_wp2_with fail
  refine (HP.out _).mono ?_
  rintro e w3 ⟨rfl, hb3⟩
  have HB3 := Lib.hid (HB2.out.trans (hb3.mono HB2.out.size))
  clear d0 d1 d2 d3 d4 d5 d6 d7 d8 hb3
  have g0 := blkN_below HB3.out HE0.out
  have g1 := blkN_below HB3.out HE1.out
  have g2 := blkN_below HB3.out HE2.out
  have s0 : w3.cell? ⟨w.heap.size, 0, none⟩ = some (.slice a L.length cap) := by rw [Lib.cell_of_heap g0]; rfl
  have k0 : w3.cell? ⟨w.heap.size + 1, 0, none⟩ = some (.int .i64 v0) := by rw [Lib.cell_of_heap g1]; rfl
  have k1 : w3.cell? ⟨w.heap.size + 1, 1, none⟩ = some (.int .i64 v1) := by rw [Lib.cell_of_heap g1]; rfl
  have k2 : w3.cell? ⟨w.heap.size + 1, 2, none⟩ = some (.int .i64 v2) := by rw [Lib.cell_of_heap g1]; rfl
  have k3 : w3.cell? ⟨w.heap.size + 1, 3, none⟩ = some (.int .i64 v3) := by rw [Lib.cell_of_heap g1]; rfl
  have d0 : w3.cell? ⟨w.heap.size + 1 + 1, 0, none⟩ = some (.string y0) := by rw [Lib.cell_of_heap g2]; rfl
  have d1 : w3.cell? ⟨w.heap.size + 1 + 1, 1, none⟩ = some (.int .i64 y1) := by rw [Lib.cell_of_heap g2]; rfl
  have d2 : w3.cell? ⟨w.heap.size + 1 + 1, 2, none⟩ = some (.int .i64 y2) := by rw [Lib.cell_of_heap g2]; rfl
  have d3 : w3.cell? ⟨w.heap.size + 1 + 1, 3, none⟩ = some (.int .i64 y3) := by rw [Lib.cell_of_heap g2]; rfl
  have d4 : w3.cell? ⟨w.heap.size + 1 + 1, 4, none⟩ = some (.int .i64 y4) := by rw [Lib.cell_of_heap g2]; rfl
  have d5 : w3.cell? ⟨w.heap.size + 1 + 1, 5, none⟩ = some (.int .i64 y5) := by rw [Lib.cell_of_heap g2]; rfl
  have d6 : w3.cell? ⟨w.heap.size + 1 + 1, 6, none⟩ = some (.int .i64 y6) := by rw [Lib.cell_of_heap g2]; rfl
  have d7 : w3.cell? ⟨w.heap.size + 1 + 1, 7, none⟩ = some (.int .i64 y7) := by rw [Lib.cell_of_heap g2]; rfl
  have d8 : w3.cell? ⟨w.heap.size + 1 + 1, 8, none⟩ = some (.slice ta tl tc) := by rw [Lib.cell_of_heap g2]; rfl
  have hsz : w.heap.size < w3.heap.size := World.block_lt_of_cell? w3 _ s0
  clear g0 g1 g2
  obtain ⟨WB, hWB, e4, hBB, hzB⟩ := one_box w3 (.cells #[.string y0, .int .i64 y1, .int .i64 y2, .int .i64 y3, .int .i64 y4, .int .i64 y5, .int .i64 y6, .int .i64 y7, .slice ta tl tc] 44 (0, 0))
  have hA4 : At WB w3.heap.size 0 (liftC ⟨y0, y1, y2, y3, y4, y5, y6, y7⟩ (.slice ta tl tc)) := At.of (t := 44) (by rw [e4]; rfl)
  have hB3 := hBA.trans (HB3.out.mono hBA.size)
  have hB4 := hB3.trans (hBB.mono hB3.size)
  have hT := HT.out w3.heap.size WB hA4 (Hs.out.ext hB4) Hsok.out Hg.out Hv.out (HQ.out _ hB4)
  (try simp only [Spd.cells, SV.v] at hT)
  have Hrl := Lib.hid (tmRow_len L ⟨v0, v1, v2, v3⟩ ⟨y0, y1, y2, y3, y4, y5, y6, y7⟩ L.length)
  generalize hrow : tmRow L ⟨v0, v1, v2, v3⟩ ⟨y0, y1, y2, y3, y4, y5, y6, y7⟩ L.length = row at *
  have HTT := Lib.hid hT
  have HWB := Lib.hid hWB
  have HB4 := Lib.hid hB4
  have HR := Lib.hid hrow
  clear hT hWB e4 hA4 hB3 hB4 hBB hrow HT
  go_wp2_with fail
  rw [HWB.out]
  refine HTT.out.mono ?_
  rintro e w4 ⟨v', r, rfl, hss, hb4⟩
  have HB5 := Lib.hid (HB4.out.trans (hb4.mono HB4.out.size))
  obtain ⟨⟨a4, cap4, rfl, hlen4, hh4⟩, -⟩ := hss.out
  obtain ⟨b4, off4, rfl, -, -, -⟩ := hh4 (by simp)
  have c4 : w4.cell? ⟨b4, off4, none⟩ = some r.v := by simpa using hss.r.out.get 0 (by simp) 0 r.v rfl
  have hrw := hss.r.row 0 r row rfl rfl
  obtain ⟨ra, rn, rc⟩ := r
  simp only [SV.v, List.getElem_cons_zero, Nat.add_zero, List.length_singleton] at c4 hrw ⊢
  obtain ⟨ra2, rc2, hreq, hrlen, -⟩ := id hrw
  cases hreq
  clear hss hh4 hlen4 hb4 s0 k0 k1 k2 k3 d0 d1 d2 d3 d4 d5 d6 d7 d8
  have hsl := hrw
  have Hrw := Lib.hid hrw
  clear hrw
  have hle := impl_least _ _ _ _ _ hsl
  have HL := Lib.hid hle
  clear hle
  go_wp2_with fail
  refine HL.out.mono ?_
  rintro e wr ⟨rfl, hB⟩
  have hbd := bestTo_bd row row.length
  have HBB := Lib.hid (HB5.out.trans (hB.mono HB5.out.size))
  have hs := hsl.ext hB
  generalize hbv : bestTo row row.length = bv at *
  have hbv2 : bestTo row L.length = bv := by rw [← Hrl.out]; exact hbv
  clear hbv
  by_cases hb0 : bv < 0
  · have hf := hfn.out Hall.out (by rw [hbv2]; exact hb0)
    obtain rfl : bv = -1 := by omega
    clear hbv2 hsl hs
    go_wp2
    go_ret3
    refine ⟨?_, HBB.out⟩
    rw [hf]
    rfl
  · obtain ⟨n, rfl⟩ : ∃ n : Nat, bv = (n : Int) := ⟨bv.toNat, by omega⟩
    have hn : n < row.length := by omega
    have hf := hfs.out Hall.out n hbv2
    have Hf := Lib.hid hf
    obtain ⟨b, off, rfl⟩ := hsl.addr (by omega)
    have c1 := ints_at hs.get hn
    have hbf : decide ((n : Int) < 0) = false := decide_eq_false (by omega)
    clear hbv2 hf hsl hs
    generalize row.getD n 0 = y at *
    go_wp2_with (go_quiet (fail))
    all_goals
      go_ret3
      refine ⟨?_, below_dN HBB.out _⟩
      rw [Hf.out]
      rfl
end Go.Proofs.YtdadadiipmenbaaDoor
