/- Crane: marks on slices of it. (Printed by gen_mark.py.) -/
import Derived.Test.YtimggihbldeleaaTCrane
import Derived.Test.YtimggihbldeleaaNM
import Derived.Test.YtimggihbldeleaaMarkT
import Derived.Test.YtimggihbldeleaaTChartStep
namespace Go.Proofs.Ytimggihbldeleaa
open Go.RowKit
def mkCraneF (k : Nat) : CraneF := ⟨markB k, ((k + 1 : Nat) : Int), ((k + 2 : Nat) : Int), ((k + 3 : Nat) : Int), ((k + 4 : Nat) : Int), ((k + 5 : Nat) : Int)⟩
set_option maxRecDepth 100000 in
set_option maxHeartbeats 4000000 in
theorem law_markCraneS (v : Value) (rs : List CraneR) (L : List (CraneF × List Chs)) (lo hi k : Nat) (w : World) (h : CraneW lo hi w v rs L) (hhi : hi ≤ w.heap.size) (hk : 1 ≤ k) (hkb : k + totM 6 2 L ≤ 1099511627776) :
    Calls Try.prog 40 #[v, .int .i64 k] w fun e w' => ∃ rs', e = .returned (.int .i64 ((k + totM 6 2 L : Nat) : Int)) ∧ CraneW lo hi w' v rs' (numM 6 mkCraneF 2 marksChs k L) ∧ Mod lo hi w w' := by
  have hl1 := h.len
  have hcap : rs.length ≤ 9223372036854775807 := by obtain ⟨a, cap, _, hc, _⟩ := h.out.1; omega
  have Hs := Lib.hid h
  obtain ⟨⟨⟨a, cap, rfl, _⟩, _⟩, _, _, _, _⟩ := h
  rw [hl1] at hcap ⊢
  have Hl1 := Lib.hid hl1
  clear hl1
  go_enter Try.func40, Try.ntmps40
  go_wp2
  go_loopw [1, 5] (fun s i wr => ∃ (j : Nat) (rj : List CraneR), j ≤ L.length ∧ i = .int .i64 j ∧ s = .int .i64 ((k + totM 6 2 (L.take j) : Nat) : Int) ∧ Mod lo hi w wr ∧ Hid (CraneW lo hi wr (.slice a L.length cap) rj (midM 6 mkCraneF 2 marksChs k L j))) (fun _ i _ => L.length - (intOf i).toNat)
  case atStart => exact ⟨0, rs, Nat.zero_le _, rfl, by simp [totM], Mod.refl _ _ _, Lib.hid (by rw [midM_zero, ← Hl1.out]; exact Hs.out)⟩
  case round =>
    obtain ⟨j, rj, hj, rfl, rfl, hM, hss⟩ := hrel
    have hszw := hM.size
    by_cases hlt : j < L.length
    · have hrl : rj.length = L.length := by rw [hss.out.len, midM_len _ _ _ _ _ hj]
      have hjr : j < rj.length := by omega
      have htt := totM_take 6 2 hlt
      have htl := totM_le 6 2 L (j + 1)
      have hgL := Lib.hid (midM_get 6 mkCraneF 2 marksChs k hlt)
      have hgR := Lib.hid (List.getElem?_eq_getElem hjr)
      have Hnext := Lib.hid (midM_next 6 mkCraneF 2 marksChs k hlt (mkCraneF (k + totM 6 2 (L.take j)), L[j].2))
      have hln : (midM 6 mkCraneF 2 marksChs k L j).length = L.length := midM_len _ _ _ _ _ hj
      obtain ⟨b, off, cap', hv, hcp, hraw⟩ := Raw.of hss.out.out CraneR.len (by omega)
      rw [hrl] at hv
      cases hv
      have hlo := hraw.lo
      have hhb := hraw.hi
      have hRaw := hraw.self (k := j) (by simpa using hjr)
      rw [List.getElem_map] at hRaw
      obtain ⟨f, ⟨sa, sl, sc⟩, hrj⟩ : ∃ f s, rj[j] = ⟨f, s⟩ := ⟨_, _, rfl⟩
      rw [hrj] at hRaw hgR
      obtain ⟨x0, x1, x2, x3, x4, x5⟩ := f
      simp only [CraneR.cells, SV.v] at hRaw
      -- the inner slice's marks, in whatever world the flat part has been marked
      have hcall : Hid (∀ w2, Hid (CraneW lo hi w2 (.slice (some ⟨b, off, none⟩) L.length cap) (rj.set j ⟨mkCraneF (k + totM 6 2 (L.take j)), ⟨sa, sl, sc⟩⟩) ((midM 6 mkCraneF 2 marksChs k L j).set j (mkCraneF (k + totM 6 2 (L.take j)), L[j].2))) → hi ≤ w2.heap.size → Calls Try.prog 55 #[.slice sa sl sc, .int .i64 ((k + totM 6 2 (L.take j) + 6 : Nat) : Int)] w2 fun e w' => e = .returned (.int .i64 ((k + totM 6 2 (L.take (j + 1)) : Nat) : Int)) ∧ Hid (CraneW lo hi w' (.slice (some ⟨b, off, none⟩) L.length cap) (rj.set j ⟨mkCraneF (k + totM 6 2 (L.take j)), ⟨sa, sl, sc⟩⟩) (midM 6 mkCraneF 2 marksChs k L (j + 1))) ∧ Mod lo hi w2 w') := Lib.hid (by
        intro w2 hs hw2
        have hs := hs.out
        have hr2 : (rj.set j (⟨mkCraneF (k + totM 6 2 (L.take j)), ⟨sa, sl, sc⟩⟩ : CraneR))[j]? = some ⟨mkCraneF (k + totM 6 2 (L.take j)), ⟨sa, sl, sc⟩⟩ := by rw [List.getElem?_set, if_pos rfl, if_pos hjr]
        have hx2 : ((midM 6 mkCraneF 2 marksChs k L j).set j (mkCraneF (k + totM 6 2 (L.take j)), L[j].2))[j]? = some (mkCraneF (k + totM 6 2 (L.take j)), L[j].2) := by rw [List.getElem?_set, if_pos rfl, if_pos (by omega)]
        have hrow := (hs.row j _ _ hr2 hx2).2
        simp only [SV.v] at hrow
        rw [show ((k + totM 6 2 (L.take (j + 1)) : Nat) : Int) = ((k + totM 6 2 (L.take j) + 6 + L[j].2.length * 2 : Nat) : Int) from by rw [htt]; omega]
        by_cases h0 : 0 < L[j].2.length
        · obtain ⟨g, hg, h1, h2, hn⟩ := hrow.narrow h0
          refine (law_markChartStepS _ L[j].2 g (g + 1) (k + totM 6 2 (L.take j) + 6) w2 hn (by omega) (by omega) (by omega)).mono ?_
          rintro e w' ⟨rfl, hsl, hm⟩
          refine ⟨rfl, Lib.hid ?_, hm.mono h1 (by omega)⟩
          rw [← Hnext.out]
          refine hs.turn (by omega) hr2 hx2 (fun q hq hne => hm.block q hq ?_) (hsl.widen h1 (by omega)) (by rw [marksChs_len])
          have : q ≠ g := fun h => hne h0 (by simp only [SV.v]; rw [hg, h])
          omega
        · refine (law_markChartStepS _ L[j].2 0 0 (k + totM 6 2 (L.take j) + 6) w2 (hrow.none h0) (Nat.zero_le _) (by omega) (by omega)).mono ?_
          rintro e w' ⟨rfl, hsl, hm⟩
          refine ⟨rfl, Lib.hid ?_, ⟨hm.os, hm.tape, hm.output, hm.size, fun q hq _ => hm.block q hq (.inr (Nat.zero_le _))⟩⟩
          rw [← Hnext.out]
          exact hs.turn (by omega) hr2 hx2 (fun q hq _ => hm.block q hq (by omega)) (hsl.none (by rw [marksChs_len]; exact h0)) (by rw [marksChs_len]))
      have hflat : Hid (∀ w1 w2, Below wr.heap.size wr w1 → Mod b (b + 1) w1 w2 → Raw 7 lo hi w2 b off ((rj.map CraneR.cells).set j [.string (markB (k + totM 6 2 (L.take j))), .int .i64 ((k + totM 6 2 (L.take j) + 1 : Nat) : Int), .int .i64 ((k + totM 6 2 (L.take j) + 2 : Nat) : Int), .int .i64 ((k + totM 6 2 (L.take j) + 3 : Nat) : Int), .int .i64 ((k + totM 6 2 (L.take j) + 4 : Nat) : Int), .int .i64 ((k + totM 6 2 (L.take j) + 5 : Nat) : Int), .slice sa sl sc]) → Hid (CraneW lo hi w2 (.slice (some ⟨b, off, none⟩) L.length cap) (rj.set j ⟨mkCraneF (k + totM 6 2 (L.take j)), ⟨sa, sl, sc⟩⟩) ((midM 6 mkCraneF 2 marksChs k L j).set j (mkCraneF (k + totM 6 2 (L.take j)), L[j].2)))) := Lib.hid (by
        intro w1 w2 hb1 hm hr
        have hb1s := hb1.size
        refine Lib.hid ((hss.out.ext (by omega) hb1).flat (by omega) (g := b) rfl hgR.out hgL.out rfl (fun q hq hne => hm.block q hq (by omega)) (hr.back _ (fun i hi => ?_) (by rw [List.length_set, hrl]) (by rw [List.length_set]; exact hcp)))
        have e : [.string (markB (k + totM 6 2 (L.take j))), .int .i64 ((k + totM 6 2 (L.take j) + 1 : Nat) : Int), .int .i64 ((k + totM 6 2 (L.take j) + 2 : Nat) : Int), .int .i64 ((k + totM 6 2 (L.take j) + 3 : Nat) : Int), .int .i64 ((k + totM 6 2 (L.take j) + 4 : Nat) : Int), .int .i64 ((k + totM 6 2 (L.take j) + 5 : Nat) : Int), .slice sa sl sc] = CraneR.cells ⟨mkCraneF (k + totM 6 2 (L.take j)), ⟨sa, sl, sc⟩⟩ := rfl
        rw [e, ← List.map_set, List.getElem?_map, List.getElem?_eq_getElem hi]; rfl)
      have c0 := hRaw.cell j (by simpa using hjr) 0 _ (by simp; rfl)
      simp only [Nat.add_zero] at c0
      have cz := hRaw.free
      have HR := Lib.hid hRaw
      have hjm : j < (rj.map CraneR.cells).length := by simpa using hjr
      clear hraw hRaw hss hgL hgR Hnext hrj
      generalize totM 6 2 (L.take j) = tj at *
      generalize hT1 : totM 6 2 (L.take (j + 1)) = tj1 at *
      have HT1 := Lib.hid hT1
      clear hT1
      generalize rj.map CraneR.cells = RC at *
      go_wp2_with fail
      refine (law_markText (k + tj) _ (by omega) (by omega)).mono ?_
      rintro e w1 ⟨rfl, hb1⟩
      have hRaw := HR.out.ext (by omega) hb1
      have hM1 := hM.then hb1
      have hb1s := hb1.size
      clear HR cz c0
      have c0 := hRaw.cell j (by simpa using hjm) 0 _ (by simp; rfl)
      have c1 := hRaw.cell j (by simpa using hjm) 1 _ (by simp; rfl)
      have c2 := hRaw.cell j (by simpa using hjm) 2 _ (by simp; rfl)
      have c3 := hRaw.cell j (by simpa using hjm) 3 _ (by simp; rfl)
      have c4 := hRaw.cell j (by simpa using hjm) 4 _ (by simp; rfl)
      have c5 := hRaw.cell j (by simpa using hjm) 5 _ (by simp; rfl)
      have c6 := hRaw.cell j (by simpa using hjm) 6 _ (by simp; rfl)
      simp only [Nat.add_zero] at c0
      have cz := hRaw.free
      have HR := Lib.hid hRaw
      clear hRaw
      go_wp2_with fail
      refine (hcall.out _ (hflat.out w1 _ hb1 (((((((Mod.refl b (b + 1) w1).setCell (Nat.le_refl _) (Nat.lt_succ_self _) _).setCell (Nat.le_refl _) (Nat.lt_succ_self _) _).setCell (Nat.le_refl _) (Nat.lt_succ_self _) _).setCell (Nat.le_refl _) (Nat.lt_succ_self _) _).setCell (Nat.le_refl _) (Nat.lt_succ_self _) _).setCell (Nat.le_refl _) (Nat.lt_succ_self _) _) (by rw [show ((k + tj + 1 : Nat) : Int) = (k : Int) + (tj : Int) + 1 from by omega, show ((k + tj + 2 : Nat) : Int) = (k : Int) + (tj : Int) + 1 + 1 from by omega, show ((k + tj + 3 : Nat) : Int) = (k : Int) + (tj : Int) + 1 + 1 + 1 from by omega, show ((k + tj + 4 : Nat) : Int) = (k : Int) + (tj : Int) + 1 + 1 + 1 + 1 from by omega, show ((k + tj + 5 : Nat) : Int) = (k : Int) + (tj : Int) + 1 + 1 + 1 + 1 + 1 from by omega]; simpa [Nat.add_assoc] using ((((((HR.out.store (j := 0) hjm (by omega) (by omega)).store (j := 1) hjm (by omega) (by omega)).store (j := 2) hjm (by omega) (by omega)).store (j := 3) hjm (by omega) (by omega)).store (j := 4) hjm (by omega) (by omega)).store (j := 5) hjm (by omega) (by omega)))) (by simp; omega)).mono ?_
      rintro e w3 ⟨rfl, hs3, hm3⟩
      go_wp2
      go_roundw
      case rel => exact ⟨j + 1, _, by omega, by go_num, by rw [HT1.out]; go_num, ((((((hM1.setCell hlo hhb _).setCell hlo hhb _).setCell hlo hhb _).setCell hlo hhb _).setCell hlo hhb _).setCell hlo hhb _).trans hm3, hs3⟩
      case measure => simp [intOf]; omega
    · have : j = L.length := by omega
      subst this
      have Hfin : Hid (CraneW lo hi wr (.slice a L.length cap) rj (numM 6 mkCraneF 2 marksChs k L)) := Lib.hid (by
        have := hss.out
        rw [midM_all] at this
        exact this)
      rw [List.take_length]
      go_wp2
      go_ret
      exact ⟨_, rfl, Hfin.out, hM⟩
set_option maxRecDepth 100000 in
set_option maxHeartbeats 4000000 in
theorem law_heldCraneS (v : Value) (rs : List CraneR) (L : List (CraneF × List Chs)) (lo hi k : Nat) (w : World) (h : Cranes lo hi w v rs (numM 6 mkCraneF 2 marksChs k L)) (hk : 1 ≤ k) (hkb : k + totM 6 2 L ≤ 1099511627776) :
    Calls Try.prog 42 #[v, .int .i64 k] w fun e w' => e = .returned (.int .i64 ((k + totM 6 2 L : Nat) : Int)) ∧ Below w.heap.size w w' := by
  have hl1 := h.len
  rw [numM_len] at hl1
  have hcap : rs.length ≤ 9223372036854775807 := by obtain ⟨a, cap, _, hc, _⟩ := h.out; omega
  have Hs := Lib.hid h
  obtain ⟨⟨a, cap, rfl, _⟩, _, _⟩ := h
  rw [hl1] at hcap ⊢
  have Hl1 := Lib.hid hl1
  clear hl1
  go_enter Try.func42, Try.ntmps42
  go_wp2
  go_loopw [1, 5] (fun s i wr => ∃ j : Nat, j ≤ L.length ∧ i = .int .i64 j ∧ s = .int .i64 ((k + totM 6 2 (L.take j) : Nat) : Int) ∧ Below w.heap.size w wr) (fun _ i _ => L.length - (intOf i).toNat)
  case atStart => exact ⟨0, Nat.zero_le _, rfl, by simp [totM], Below.refl _ _⟩
  case round =>
    obtain ⟨j, hj, rfl, rfl, hB⟩ := hrel
    by_cases hlt : j < L.length
    · have hk1 : j < rs.length := by rw [Hl1.out]; exact hlt
      have hs : Cranes lo hi wr (.slice a L.length cap) rs (numM 6 mkCraneF 2 marksChs k L) := by rw [← Hl1.out]; exact Hs.out.ext hB
      have htt := totM_take 6 2 hlt
      have htl := totM_le 6 2 L (j + 1)
      have htl0 := totM_le 6 2 L j
      obtain ⟨hfl, hrow⟩ := hs.row j rs[j] _ (List.getElem?_eq_getElem hk1) (numM_get _ _ _ _ k hlt)
      dsimp only at hfl hrow
      obtain ⟨b, off, rfl⟩ := hs.out.addr (by omega)
      obtain ⟨c0, c1, c2, c3, c4, c5, c6⟩ := Cranes_at hs hk1
      rw [hfl] at c0 c1 c2 c3 c4 c5
      simp only [mkCraneF] at c0 c1 c2 c3 c4 c5
      have hcall : Hid (∀ w2, Below wr.heap.size wr w2 → Calls Try.prog 56 #[rs[j].s.v, .int .i64 ((k + totM 6 2 (L.take j) + 6 : Nat) : Int)] w2 fun e w' => e = .returned (.int .i64 ((k + totM 6 2 (L.take (j + 1)) : Nat) : Int)) ∧ Below w2.heap.size w2 w') := Lib.hid (by
        intro w2 hb
        refine (law_heldChartStepS _ lo hi L[j].2.length (k + totM 6 2 (L.take j) + 6) w2 (hrow.ext hb) (by omega) (by omega)).mono ?_
        rintro e w' ⟨rfl, hb⟩
        exact ⟨ret_int (by rw [htt]; omega), hb⟩)
      have hb0 := World.block_lt_of_cell? wr _ c0
      have hBs := hB.size
      clear hs hrow htt hfl
      generalize rs[j].s.v = r at *
      generalize totM 6 2 (L.take j) = tj at *
      generalize hT1 : totM 6 2 (L.take (j + 1)) = tj1 at *
      have HT1 := Lib.hid hT1
      clear hT1
      have hmt := Lib.hid (fun w => law_markText (k + tj) w (by omega) (by omega))
      rw [show ((k + tj + 1 : Nat) : Int) = (k : Int) + (tj : Int) + 1 from by omega] at c1
      rw [show ((k + tj + 2 : Nat) : Int) = (k : Int) + (tj : Int) + 1 + 1 from by omega] at c2
      rw [show ((k + tj + 3 : Nat) : Int) = (k : Int) + (tj : Int) + 1 + 1 + 1 from by omega] at c3
      rw [show ((k + tj + 4 : Nat) : Int) = (k : Int) + (tj : Int) + 1 + 1 + 1 + 1 from by omega] at c4
      rw [show ((k + tj + 5 : Nat) : Int) = (k : Int) + (tj : Int) + 1 + 1 + 1 + 1 + 1 from by omega] at c5
      go_wp2_with fail
      go_region_held3 (fun w' => (∀ b' o', b' < wr.heap.size → w'.cell? ⟨b', o', none⟩ = wr.cell? ⟨b', o', none⟩) ∧ Below wr.heap.size wr w') (first | exact heldB (Below.refl _ _).drew | exact heldB hB1)
        (first | (go_at_call 41; refine (hmt.out _).mono ?_; rintro e w1 ⟨rfl, hb1⟩; have hB1 : Below wr.heap.size wr w1 := (Below.refl wr.heap.size wr).drew.trans hb1))
      have d1 := (hB1.cell (p := ⟨b, off + j * 7 + 1, none⟩) hb0).trans c1
      have d2 := (hB1.cell (p := ⟨b, off + j * 7 + 2, none⟩) hb0).trans c2
      have d3 := (hB1.cell (p := ⟨b, off + j * 7 + 3, none⟩) hb0).trans c3
      have d4 := (hB1.cell (p := ⟨b, off + j * 7 + 4, none⟩) hb0).trans c4
      have d5 := (hB1.cell (p := ⟨b, off + j * 7 + 5, none⟩) hb0).trans c5
      have d6 := (hB1.cell (p := ⟨b, off + j * 7 + 6, none⟩) hb0).trans c6
      clear c0
      go_wp2_with fail
      refine (hcall.out _ hB1).mono ?_
      rintro e w3 ⟨rfl, hb3⟩
      have hB3 := hB1.trans (hb3.mono hB1.size)
      go_wp2
      go_roundw
      case rel => exact ⟨j + 1, by omega, by go_num, by rw [HT1.out]; go_num, hB.trans (hB3.mono hB.size)⟩
      case measure => simp [intOf]; omega
    · have : j = L.length := by omega
      subst this
      rw [List.take_length]
      go_wp2
      go_ret
      exact ⟨rfl, hB⟩
end Go.Proofs.Ytimggihbldeleaa
