/- Marks in lists of truths and in tables. -/
import Derived.Test.YteakogdojmgehaaTBool
import Derived.Test.YteakogdojmgehaaTAct
namespace Go.Proofs.Yteakogdojmgehaa
open Go.RowKit
def markBool (k : Nat) : Bool := decide (k % 3 = 0)
def marksBool (n k : Nat) : List Bool := (List.range n).map fun i => markBool (k + i * 1)
theorem marksBool_len (n k : Nat) : (marksBool n k).length = n := by simp [marksBool]
theorem marksBool_get {n k i : Nat} (h : i < (marksBool n k).length) : (marksBool n k)[i] = markBool (k + i * 1) := by simp [marksBool]
set_option maxHeartbeats 1000000 in
theorem law_markBoolS (v : Value) (l : List Bool) (lo hi k : Nat) (w : World) (h : Slw 1 boolCells lo hi w v l) (hhi : hi ≤ w.heap.size) (hk : 1 ≤ k) (hkb : k + l.length * 1 ≤ 1099511627776) :
    Calls Try.prog 99 #[v, .int .i64 k] w fun e w' => e = .returned (.int .i64 ((k + l.length * 1 : Nat) : Int)) ∧ Slw 1 boolCells lo hi w' v (marksBool l.length k) ∧ Mod lo hi w w' := by
  by_cases h0 : 0 < l.length
  · obtain ⟨b, off, cap, rfl, hcap, hraw⟩ := Raw.of h boolCells_len h0
    have hlen : l.length ≤ 1099511627776 := by omega
    have Hr0 := Lib.hid hraw
    have hlo := hraw.lo
    have hhb := hraw.hi
    clear hraw h
    go_enter Try.func99, Try.ntmps99
    go_wp2
    go_loopw [1, 5] (fun s i wr => ∃ j : Nat, j ≤ l.length ∧ i = .int .i64 j ∧ s = .int .i64 ((k : Int) + j) ∧ Mod lo hi w wr ∧ ∃ rows, Hid (rows.length = l.length) ∧ Hid (Raw 1 lo hi wr b off rows) ∧ Hid (∀ i, i < j → rows[i]? = some (boolCells (markBool (k + i * 1))))) (fun _ i _ => l.length - (intOf i).toNat)
    case atStart => exact ⟨0, Nat.zero_le _, rfl, by go_num, Mod.refl _ _ _, _, Lib.hid (by simp), Hr0, Lib.hid (fun i hi => absurd hi (by omega))⟩
    case round =>
      obtain ⟨j, hj, rfl, rfl, hM, rows, hrl, hrw, hdone⟩ := hrel
      by_cases hlt : j < l.length
      · have hjr : j < rows.length := by rw [hrl.out]; exact hlt
        have hRaw := hrw.out.self hjr
        obtain ⟨r0, hrow⟩ : ∃ r0, rows[j] = [r0] := by
          have h4 := hrw.out.len j hjr
          match rows[j], h4 with
          | [r0], _ => exact ⟨_, rfl⟩
        rw [hrow] at hRaw
        clear hrow Hr0
        have c0 := hRaw.cell j (by simpa using hjr) 0 r0 (by simp)
        simp only [Nat.add_zero, Nat.mul_one] at c0
        have cz := hRaw.free
        have HR := Lib.hid hRaw
        clear hRaw
        go_wp2
        go_roundw
        case rel =>
          refine ⟨j + 1, by omega, by go_num, by go_num, hM.setCell hlo hhb _, _, Lib.hid (by rw [List.length_set]; exact hrl.out), Lib.hid (HR.out.store (j := 0) hjr (by omega) (by omega)), Lib.hid ?_⟩
          intro i hi
          rw [List.getElem?_set]
          by_cases hij : j = i
          · subst hij
            rw [if_pos rfl, if_pos hjr]
            simp only [List.set_cons_zero, boolCells, markBool]
            congr
            all_goals first | rfl | omega | (rw [Bool.eq_iff_iff]; simp; omega) | skip
          · rw [if_neg hij]
            exact hdone.out i (by omega)
        case measure => simp [intOf]; omega
      · have : j = l.length := by omega
        subst this
        have Hfin : Hid (Slw 1 boolCells lo hi wr (.slice (some ⟨b, off, none⟩) l.length cap) (marksBool l.length k)) := Lib.hid (hrw.out.back _ (fun i hi => by
          rw [marksBool_get hi]; exact hdone.out i (by rw [marksBool_len] at hi; exact hi)) (by rw [marksBool_len]) (by rw [marksBool_len]; exact hcap))
        go_wp2
        go_ret
        exact ⟨ret_int (by omega), Hfin.out, hM⟩
  · have he : l = [] := by cases l with | nil => rfl | cons x r => simp at h0
    subst he
    have hS := Lib.hid h
    obtain ⟨⟨a, cap, rfl, hlen, hh⟩, hz⟩ := h
    clear hh hz
    go_enter Try.func99, Try.ntmps99
    go_wp2
    go_loopw [1, 5] (fun s i wr => i = .int .i64 0 ∧ s = .int .i64 k ∧ wr = w) (fun _ i _ => 0)
    case atStart => exact ⟨rfl, rfl, rfl⟩
    case round =>
      obtain ⟨rfl, rfl, rfl⟩ := hrel
      go_wp2
      go_ret
      exact ⟨ret_int (by simp), hS.out, Mod.refl _ _ _⟩

set_option maxHeartbeats 2000000 in
theorem law_markBoolSS (v : Value) (rows : List SV) (L : List (List Bool)) (lo hi k : Nat) (w : World) (h : SSw 1 boolCells lo hi w v rows L) (hhi : hi ≤ w.heap.size) (hk : 1 ≤ k) (hkb : k + totSS L ≤ 1099511627776) :
    Calls Try.prog 44 #[v, .int .i64 k] w fun e w' => e = .returned (.int .i64 ((k + totSS L : Nat) : Int)) ∧ SSw 1 boolCells lo hi w' v rows (numSS marksBool k L) ∧ Mod lo hi w w' := by
  have hl1 := h.len
  have hcap : rows.length ≤ 9223372036854775807 := by obtain ⟨a, cap, _, hc, _⟩ := h.out.1; omega
  have Hs := Lib.hid h
  obtain ⟨⟨⟨a, cap, rfl, _⟩, _⟩, _, _, _, _⟩ := h
  rw [hl1]
  rw [hl1] at hcap
  have Hl1 := Lib.hid hl1
  clear hl1
  go_enter Try.func44, Try.ntmps44
  go_wp2
  go_loopw [1, 5] (fun s i wr => ∃ j : Nat, j ≤ L.length ∧ i = .int .i64 j ∧ s = .int .i64 ((k + totSS (L.take j) : Nat) : Int) ∧ Mod lo hi w wr ∧ Hid (SSw 1 boolCells lo hi wr (.slice a L.length cap) rows (numSS marksBool k (L.take j) ++ L.drop j))) (fun _ i _ => L.length - (intOf i).toNat)
  case atStart => exact ⟨0, Nat.zero_le _, rfl, by simp [totSS], Mod.refl _ _ _, Lib.hid (by rw [← Hl1.out]; simpa [numSS] using Hs.out)⟩
  case round =>
    obtain ⟨j, hj, rfl, rfl, hM, hss⟩ := hrel
    have hszw := hM.size
    by_cases hlt : j < L.length
    · have hk1 : j < rows.length := by rw [Hl1.out]; exact hlt
      have hs := hss.out
      have hnl : (numSS marksBool k (L.take j)).length = j := by rw [numSS_len, List.length_take]; omega
      have hget : (numSS marksBool k (L.take j) ++ L.drop j)[j]? = some L[j] := by
        rw [List.getElem?_append_right (by omega), hnl, Nat.sub_self, List.getElem?_drop, Nat.add_zero, List.getElem?_eq_getElem hlt]
      have hnext : (numSS marksBool k (L.take j) ++ L.drop j).set j (marksBool L[j].length (k + totSS (L.take j))) = numSS marksBool k (L.take (j + 1)) ++ L.drop (j + 1) := by
        rw [List.set_append_right _ _ (by omega), hnl, Nat.sub_self, List.drop_eq_getElem_cons hlt, List.set_cons_zero, List.take_succ_eq_append_getElem hlt, numSS_append]
        simp [numSS]
      have hrow := hs.row j rows[j] L[j] (List.getElem?_eq_getElem hk1) hget
      have htt := totSS_take hlt
      have htl := totSS_le L (j + 1)
      obtain ⟨b, off, rfl⟩ := hs.out.1.addr (by omega)
      have c0 := hs.r.at hk1
      have hcall : Hid (Calls Try.prog 99 #[rows[j].v, .int .i64 ((k + totSS (L.take j) : Nat) : Int)] wr fun e w' => e = .returned (.int .i64 ((k + totSS (L.take (j + 1)) : Nat) : Int)) ∧ SSw 1 boolCells lo hi w' (.slice (some ⟨b, off, none⟩) L.length cap) rows (numSS marksBool k (L.take (j + 1)) ++ L.drop (j + 1)) ∧ Mod lo hi wr w') := Lib.hid (by
        by_cases h0 : 0 < L[j].length
        · obtain ⟨g, hg, h1, h2, hn⟩ := hrow.narrow h0
          refine (law_markBoolS rows[j].v L[j] g (g + 1) (k + totSS (L.take j)) wr hn (by omega) (by omega) (by omega)).mono ?_
          rintro e w' ⟨rfl, hsl, hm⟩
          refine ⟨ret_int (by rw [htt]; omega), ?_, hm.mono h1 (by omega)⟩
          rw [← hnext]
          refine hs.turn (by omega) (List.getElem?_eq_getElem hk1) hget (fun q hq hne => hm.block q hq ?_) (hsl.widen h1 (by omega)) (by rw [marksBool_len])
          have : q ≠ g := fun h => hne h0 (by rw [hg, h])
          omega
        · refine (law_markBoolS rows[j].v L[j] 0 0 (k + totSS (L.take j)) wr (hrow.none h0) (Nat.zero_le _) (by omega) (by omega)).mono ?_
          rintro e w' ⟨rfl, hsl, hm⟩
          refine ⟨ret_int (by rw [htt]; omega), ?_, ⟨hm.os, hm.tape, hm.output, hm.size, fun q hq _ => hm.block q hq (.inr (Nat.zero_le _))⟩⟩
          rw [← hnext]
          exact hs.turn (by omega) (List.getElem?_eq_getElem hk1) hget (fun q hq _ => hm.block q hq (by omega)) (hsl.none (by rw [marksBool_len]; exact h0)) (by rw [marksBool_len]))
      clear hs hrow hget hnext htt
      generalize rows[j].v = r at *
      generalize totSS (L.take j) = tj at *
      generalize hT1 : totSS (L.take (j + 1)) = tj1 at *
      have HT1 := Lib.hid hT1
      clear hT1
      go_wp2_with fail
      refine hcall.out.mono ?_
      rintro e w3 ⟨rfl, hs3, hm3⟩
      have Hs3 := Lib.hid hs3
      clear hs3
      go_wp2
      go_roundw
      case rel => exact ⟨j + 1, by omega, by go_num, by rw [HT1.out]; go_num, hM.trans hm3, Hs3⟩
      case measure => simp [intOf]; omega
    · have : j = L.length := by omega
      subst this
      have Hfin : Hid (SSw 1 boolCells lo hi wr (.slice a L.length cap) rows (numSS marksBool k L)) := Lib.hid (by
        have := hss.out
        rw [List.take_length, List.drop_length, List.append_nil] at this
        exact this)
      rw [List.take_length]
      go_wp2
      go_ret
      exact ⟨rfl, Hfin.out, hM⟩

end Go.Proofs.Yteakogdojmgehaa
