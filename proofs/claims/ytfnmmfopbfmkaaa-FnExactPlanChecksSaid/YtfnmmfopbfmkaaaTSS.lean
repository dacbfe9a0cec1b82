/- [][]int64: the laws' helpers. -/
import Derived.Test.YtfnmmfopbfmkaaaSS
import Derived.Test.YtfnmmfopbfmkaaaTInt
import Derived.Test.YtfnmmfopbfmkaaaLawS
namespace Go.Proofs.Ytfnmmfopbfmkaaa
open Go.RowKit

theorem SSr.at {α : Type} {n : Nat} {c : α → List Value} {lo hi b off len cap : Nat} {w : World} {rows : List SV} {L : List (List α)} (h : SSr n c lo hi w (.slice (some ⟨b, off, none⟩) len cap) rows L) {k : Nat} (hk : k < rows.length) : w.cell? ⟨b, off + k, none⟩ = some rows[k].v := by
  simpa using h.out.get k hk 0 rows[k].v rfl

set_option maxHeartbeats 2000000 in
theorem law_eqInt64SS (v v2 : Value) (rows rows2 : List SV) (L : List (List Int)) (lo hi lo2 hi2 : Nat) (w : World) (h : SSr 1 intCells lo hi w v rows L) (h2 : SSr 1 intCells lo2 hi2 w v2 rows2 L) :
    Calls Try.prog 55 #[v, v2] w fun e w' => e = .returned (.bool true) ∧ Below w.heap.size w w' := by
  have hl1 := h.len
  have hl2 := h2.len
  have hcap : rows.length ≤ 9223372036854775807 := by obtain ⟨a, cap, _, hc, _⟩ := h.out; omega
  have hrow := Lib.hid (fun (k : Nat) (hk : k < L.length) (h1 : k < rows.length) (h2' : k < rows2.length) w' (hb : Below w.heap.size w w') => law_eqInt64S rows[k].v rows2[k].v L[k] lo hi lo2 hi2 w' ((h.ext hb).row k _ _ (List.getElem?_eq_getElem h1) (List.getElem?_eq_getElem hk)) ((h2.ext hb).row k _ _ (List.getElem?_eq_getElem h2') (List.getElem?_eq_getElem hk)))
  have hs := h
  have hs2 := h2
  obtain ⟨⟨a, cap, rfl, _⟩, _, _⟩ := h
  obtain ⟨⟨a2, cap2, rfl, _⟩, _, _⟩ := h2
  have Hs := Lib.hid hs
  have Hs2 := Lib.hid hs2
  clear hs hs2
  rw [hl2, hl1]
  rw [hl1] at hcap
  have Hl1 := Lib.hid hl1
  have Hl2 := Lib.hid hl2
  clear hl1 hl2
  go_enter Try.func55, Try.ntmps55
  go_wp2
  go_loopw [5] (fun i wr => ∃ k : Nat, k ≤ L.length ∧ i = .int .i64 k ∧ Below w.heap.size w wr) (fun i _ => L.length - (intOf i).toNat)
  case atStart => exact ⟨0, Nat.zero_le _, rfl, Below.refl _ _⟩
  case round =>
    obtain ⟨k, hk, rfl, hB⟩ := hrel
    by_cases hlt : k < L.length
    · have hk1 : k < rows.length := by rw [Hl1.out]; exact hlt
      have hk2 : k < rows2.length := by rw [Hl2.out]; exact hlt
      have hs := Hs.out
      have hs2 := Hs2.out
      have hcall := Lib.hid (hrow.out k hlt hk1 hk2)
      obtain ⟨b, off, rfl⟩ := hs.out.addr (by omega)
      obtain ⟨b2, off2, rfl⟩ := hs2.out.addr (by omega)
      have c0 := (hs.ext hB).at hk1
      have d0 := (hs2.ext hB).at hk2
      have hbw := World.block_lt_of_cell? wr _ c0
      have hbw2 := World.block_lt_of_cell? wr _ d0
      clear hs hs2
      generalize rows[k].v = r at *
      generalize rows2[k].v = r2 at *
      go_wp2_with fail
      go_region_held3 (fun w' => (∀ b' o', b' < wr.heap.size → w'.cell? ⟨b', o', none⟩ = wr.cell? ⟨b', o', none⟩) ∧ Below wr.heap.size wr w') (first | exact heldB (Below.refl _ _).drew | exact heldB hBc)
        (first | (go_at_call 42; refine (hcall.out _ hB.drew).mono ?_; rintro e w3 ⟨rfl, hB3⟩; have hBc : Below wr.heap.size wr w3 := (Below.refl _ wr).drew.trans hB3))
      go_wp2
      go_roundw
      case rel => exact ⟨k + 1, by omega, by go_num, hB.trans (hBc.mono hB.size)⟩
      case measure => simp [intOf]; omega
    · go_wp2
      go_ret
      exact ⟨rfl, hB⟩

set_option maxHeartbeats 2000000 in
theorem law_markInt64SS (v : Value) (rows : List SV) (L : List (List Int)) (lo hi k : Nat) (w : World) (h : SSw 1 intCells lo hi w v rows L) (hhi : hi ≤ w.heap.size) (hk : 1 ≤ k) (hkb : k + totSS L ≤ 1099511627776) :
    Calls Try.prog 56 #[v, .int .i64 k] w fun e w' => e = .returned (.int .i64 ((k + totSS L : Nat) : Int)) ∧ SSw 1 intCells lo hi w' v rows (numSS marksInt k L) ∧ Mod lo hi w w' := by
  have hl1 := h.len
  have hcap : rows.length ≤ 9223372036854775807 := by obtain ⟨a, cap, _, hc, _⟩ := h.out.1; omega
  have Hs := Lib.hid h
  obtain ⟨⟨⟨a, cap, rfl, _⟩, _⟩, _, _, _, _⟩ := h
  rw [hl1]
  rw [hl1] at hcap
  have Hl1 := Lib.hid hl1
  clear hl1
  go_enter Try.func56, Try.ntmps56
  go_wp2
  go_loopw [1, 5] (fun s i wr => ∃ j : Nat, j ≤ L.length ∧ i = .int .i64 j ∧ s = .int .i64 ((k + totSS (L.take j) : Nat) : Int) ∧ Mod lo hi w wr ∧ Hid (SSw 1 intCells lo hi wr (.slice a L.length cap) rows (numSS marksInt k (L.take j) ++ L.drop j))) (fun _ i _ => L.length - (intOf i).toNat)
  case atStart => exact ⟨0, Nat.zero_le _, rfl, by simp [totSS], Mod.refl _ _ _, Lib.hid (by rw [← Hl1.out]; simpa [numSS] using Hs.out)⟩
  case round =>
    obtain ⟨j, hj, rfl, rfl, hM, hss⟩ := hrel
    have hszw := hM.size
    by_cases hlt : j < L.length
    · have hk1 : j < rows.length := by rw [Hl1.out]; exact hlt
      have hs := hss.out
      have hnl : (numSS marksInt k (L.take j)).length = j := by rw [numSS_len, List.length_take]; omega
      have hget : (numSS marksInt k (L.take j) ++ L.drop j)[j]? = some L[j] := by
        rw [List.getElem?_append_right (by omega), hnl, Nat.sub_self, List.getElem?_drop, Nat.add_zero, List.getElem?_eq_getElem hlt]
      have hnext : (numSS marksInt k (L.take j) ++ L.drop j).set j (marksInt L[j].length (k + totSS (L.take j))) = numSS marksInt k (L.take (j + 1)) ++ L.drop (j + 1) := by
        rw [List.set_append_right _ _ (by omega), hnl, Nat.sub_self, List.drop_eq_getElem_cons hlt, List.set_cons_zero, List.take_succ_eq_append_getElem hlt, numSS_append]
        simp [numSS]
      have hrow := hs.row j rows[j] L[j] (List.getElem?_eq_getElem hk1) hget
      have htt := totSS_take hlt
      have htl := totSS_le L (j + 1)
      obtain ⟨b, off, rfl⟩ := hs.out.1.addr (by omega)
      have c0 := hs.r.at hk1
      have hcall : Hid (Calls Try.prog 43 #[rows[j].v, .int .i64 ((k + totSS (L.take j) : Nat) : Int)] wr fun e w' => e = .returned (.int .i64 ((k + totSS (L.take (j + 1)) : Nat) : Int)) ∧ SSw 1 intCells lo hi w' (.slice (some ⟨b, off, none⟩) L.length cap) rows (numSS marksInt k (L.take (j + 1)) ++ L.drop (j + 1)) ∧ Mod lo hi wr w') := Lib.hid (by
        by_cases h0 : 0 < L[j].length
        · obtain ⟨g, hg, h1, h2, hn⟩ := hrow.narrow h0
          refine (law_markInt64S rows[j].v L[j] g (g + 1) (k + totSS (L.take j)) wr hn (by omega) (by omega) (by omega)).mono ?_
          rintro e w' ⟨rfl, hsl, hm⟩
          refine ⟨ret_int (by rw [htt]; omega), ?_, hm.mono h1 (by omega)⟩
          rw [← hnext]
          refine hs.turn (by omega) (List.getElem?_eq_getElem hk1) hget (fun q hq hne => hm.block q hq ?_) (hsl.widen h1 (by omega)) (by rw [marksInt_len])
          have : q ≠ g := fun h => hne h0 (by rw [hg, h])
          omega
        · refine (law_markInt64S rows[j].v L[j] 0 0 (k + totSS (L.take j)) wr (hrow.none h0) (Nat.zero_le _) (by omega) (by omega)).mono ?_
          rintro e w' ⟨rfl, hsl, hm⟩
          refine ⟨ret_int (by rw [htt]; omega), ?_, ⟨hm.os, hm.tape, hm.output, hm.size, fun q hq _ => hm.block q hq (.inr (Nat.zero_le _))⟩⟩
          rw [← hnext]
          exact hs.turn (by omega) (List.getElem?_eq_getElem hk1) hget (fun q hq _ => hm.block q hq (by omega)) (hsl.none (by rw [marksInt_len]; exact h0)) (by rw [marksInt_len]))
      clear hs hrow hget hnext htt
      generalize rows[j].v = r at *
      generalize totSS (L.take j) = tj at *
      generalize hT1 : totSS (L.take (j + 1)) = tj1 at *
      have HT1 := Lib.hid hT1
      clear hT1
      go_wp2_with fail
      refine hcall.out.mono ?_
      rintro e w3 ⟨rfl, hs3, hm3⟩
      have Hs3 := Lib.hid hs3
      clear hs3
      go_wp2
      go_roundw
      case rel => exact ⟨j + 1, by omega, by go_num, by rw [HT1.out]; go_num, hM.trans hm3, Hs3⟩
      case measure => simp [intOf]; omega
    · have : j = L.length := by omega
      subst this
      have Hfin : Hid (SSw 1 intCells lo hi wr (.slice a L.length cap) rows (numSS marksInt k L)) := Lib.hid (by
        have := hss.out
        rw [List.take_length, List.drop_length, List.append_nil] at this
        exact this)
      rw [List.take_length]
      go_wp2
      go_ret
      exact ⟨rfl, Hfin.out, hM⟩

set_option maxHeartbeats 2000000 in
theorem law_heldInt64SS (v : Value) (rows : List SV) (L : List (List Int)) (lo hi k : Nat) (w : World) (h : SSr 1 intCells lo hi w v rows (numSS marksInt k L)) (hk : 1 ≤ k) (hkb : k + totSS L ≤ 1099511627776) :
    Calls Try.prog 57 #[v, .int .i64 k] w fun e w' => e = .returned (.int .i64 ((k + totSS L : Nat) : Int)) ∧ Below w.heap.size w w' := by
  have hl1 := h.len
  rw [numSS_len] at hl1
  have hcap : rows.length ≤ 9223372036854775807 := by obtain ⟨a, cap, _, hc, _⟩ := h.out; omega
  have Hs := Lib.hid h
  obtain ⟨⟨a, cap, rfl, _⟩, _, _⟩ := h
  rw [hl1]
  rw [hl1] at hcap
  have Hl1 := Lib.hid hl1
  clear hl1
  go_enter Try.func57, Try.ntmps57
  go_wp2
  go_loopw [1, 5] (fun s i wr => ∃ j : Nat, j ≤ L.length ∧ i = .int .i64 j ∧ s = .int .i64 ((k + totSS (L.take j) : Nat) : Int) ∧ Below w.heap.size w wr) (fun _ i _ => L.length - (intOf i).toNat)
  case atStart => exact ⟨0, Nat.zero_le _, rfl, by simp [totSS], Below.refl _ _⟩
  case round =>
    obtain ⟨j, hj, rfl, rfl, hB⟩ := hrel
    by_cases hlt : j < L.length
    · have hk1 : j < rows.length := by rw [Hl1.out]; exact hlt
      have hs : SSr 1 intCells lo hi wr (.slice a L.length cap) rows (numSS marksInt k L) := by rw [← Hl1.out]; exact Hs.out.ext hB
      have hrow := hs.row j rows[j] _ (List.getElem?_eq_getElem hk1) (numSS_get marksInt hlt)
      have htt := totSS_take hlt
      have htl := totSS_le L (j + 1)
      obtain ⟨b, off, rfl⟩ := hs.out.addr (by omega)
      have c0 := hs.at hk1
      have hcall : Hid (Calls Try.prog 44 #[rows[j].v, .int .i64 ((k + totSS (L.take j) : Nat) : Int)] wr fun e w' => e = .returned (.int .i64 ((k + totSS (L.take (j + 1)) : Nat) : Int)) ∧ Below wr.heap.size wr w') := Lib.hid (by
        refine (law_heldInt64S rows[j].v lo hi L[j].length (k + totSS (L.take j)) wr hrow (by omega) (by omega)).mono ?_
        rintro e w' ⟨rfl, hb⟩
        exact ⟨ret_int (by rw [htt]; omega), hb⟩)
      clear hs hrow htt
      generalize rows[j].v = r at *
      generalize totSS (L.take j) = tj at *
      generalize hT1 : totSS (L.take (j + 1)) = tj1 at *
      have HT1 := Lib.hid hT1
      clear hT1
      go_wp2_with fail
      refine hcall.out.mono ?_
      rintro e w3 ⟨rfl, hb3⟩
      go_wp2
      go_roundw
      case rel => exact ⟨j + 1, by omega, by go_num, by rw [HT1.out]; go_num, hB.trans (hb3.mono hB.size)⟩
      case measure => simp [intOf]; omega
    · have : j = L.length := by omega
      subst this
      rw [List.take_length]
      go_wp2
      go_ret
      exact ⟨rfl, hB⟩
end Go.Proofs.Ytfnmmfopbfmkaaa
