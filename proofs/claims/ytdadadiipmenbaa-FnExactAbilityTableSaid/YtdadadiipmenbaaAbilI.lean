/- [][]bool: the laws' marks. The cranes that can do a lift, as an iterator of the program's over indices: its contract. AbilityTable, in both packages. AbilityTable, the program: a range over a function in a loop. -/
import Derived.Test.YtdadadiipmenbaaTBool
import Derived.RangeFuncNested
import Derived.RangeFuncBound
import Derived.RangeFuncCalls
import Derived.RangeFuncLeaves
import Derived.Shelf.Abstract
import Derived.Shelf.RegionOpen
import Derived.OwnWalkIn
import Derived.TacticsInMore
import Derived.LoopNIn
import Derived.LoopIn
import Derived.Test.YtdadadiipmenbaaCanI
import Derived.Test.YtdadadiipmenbaaSiteW
import Derived.Test.YtdadadiipmenbaaLiftW
import Derived.RangeFuncFrom
import Derived.Test.YtdadadiipmenbaaOwn
import Derived.Test.YtdadadiipmenbaaLiftsW
namespace Go.Proofs.Ytdadadiipmenbaa
open Go.RowKit
def mkb (n : Nat) : Bool := ((n : Int) % 3 == 0)
theorem mkb_eq (k j : Nat) : mkb (k + j * 1) = (((k : Int) + (j : Int)) % 3 == 0) := by unfold mkb; rw [show ((k + j * 1 : Nat) : Int) = (k : Int) + (j : Int) by omega]
def marksBool (n k : Nat) : List Bool := (List.range n).map fun i => mkb (k + i * 1)
theorem marksBool_len (n k : Nat) : (marksBool n k).length = n := by simp [marksBool]
theorem marksBool_get {n k i : Nat} (h : i < (marksBool n k).length) : (marksBool n k)[i] = mkb (k + i * 1) := by simp [marksBool]
set_option maxHeartbeats 1000000 in
theorem law_markBoolS (v : Value) (l : List Bool) (lo hi k : Nat) (w : World) (h : Slw 1 boolCells lo hi w v l) (hhi : hi ≤ w.heap.size) (hk : 1 ≤ k) (hkb : k + l.length * 1 ≤ 1099511627776) :
    Calls Try.prog 47 #[v, .int .i64 k] w fun e w' => e = .returned (.int .i64 ((k + l.length * 1 : Nat) : Int)) ∧ Slw 1 boolCells lo hi w' v (marksBool l.length k) ∧ Mod lo hi w w' := by
  by_cases h0 : 0 < l.length
  · obtain ⟨b, off, cap, rfl, hcap, hraw⟩ := Raw.of h boolCells_len h0
    have hlen : l.length ≤ 1099511627776 := by omega
    have Hr0 := Lib.hid hraw
    have hlo := hraw.lo
    have hhb := hraw.hi
    clear hraw h
    go_enter Try.func47, Try.ntmps47
    go_wp2
    go_loopw [1, 5] (fun s i wr => ∃ j : Nat, j ≤ l.length ∧ i = .int .i64 j ∧ s = .int .i64 ((k : Int) + j) ∧ Mod lo hi w wr ∧ ∃ rows, Hid (rows.length = l.length) ∧ Hid (Raw 1 lo hi wr b off rows) ∧ Hid (∀ i, i < j → rows[i]? = some (boolCells (mkb (k + i * 1))))) (fun _ i _ => l.length - (intOf i).toNat)
    case atStart => exact ⟨0, Nat.zero_le _, rfl, by go_num, Mod.refl _ _ _, _, Lib.hid (by simp), Hr0, Lib.hid (fun i hi => absurd hi (by omega))⟩
    case round =>
      obtain ⟨j, hj, rfl, rfl, hM, rows, hrl, hrw, hdone⟩ := hrel
      by_cases hlt : j < l.length
      · have hjr : j < rows.length := by rw [hrl.out]; exact hlt
        have hRaw := hrw.out.self hjr
        obtain ⟨r0, hrow⟩ : ∃ r0, rows[j] = [r0] := by
          have h4 := hrw.out.len j hjr
          match rows[j], h4 with
          | [r0], _ => exact ⟨_, rfl⟩
        rw [hrow] at hRaw
        clear hrow Hr0
        have c0 := hRaw.cell j (by simpa using hjr) 0 r0 (by simp)
        simp only [Nat.add_zero, Nat.mul_one] at c0
        have cz := hRaw.free
        have HR := Lib.hid hRaw
        clear hRaw
        go_wp2
        go_roundw
        case rel =>
          refine ⟨j + 1, by omega, by go_num, by go_num, hM.setCell hlo hhb _, _, Lib.hid (by rw [List.length_set]; exact hrl.out), Lib.hid (HR.out.store (j := 0) hjr (by omega) (by omega)), Lib.hid ?_⟩
          intro i hi
          rw [List.getElem?_set]
          by_cases hij : j = i
          · subst hij
            rw [if_pos rfl, if_pos hjr]
            simp only [List.set_cons_zero, boolCells]
            rw [mkb_eq]
          · rw [if_neg hij]
            exact hdone.out i (by omega)
        case measure => simp [intOf]; omega
      · have : j = l.length := by omega
        subst this
        have Hfin : Hid (Slw 1 boolCells lo hi wr (.slice (some ⟨b, off, none⟩) l.length cap) (marksBool l.length k)) := Lib.hid (hrw.out.back _ (fun i hi => by
          rw [marksBool_get hi]; exact hdone.out i (by rw [marksBool_len] at hi; exact hi)) (by rw [marksBool_len]) (by rw [marksBool_len]; exact hcap))
        go_wp2
        go_ret
        exact ⟨ret_int (by omega), Hfin.out, hM⟩
  · have he : l = [] := by cases l with | nil => rfl | cons x r => simp at h0
    subst he
    have hS := Lib.hid h
    obtain ⟨⟨a, cap, rfl, hlen, hh⟩, hz⟩ := h
    clear hh hz
    go_enter Try.func47, Try.ntmps47
    go_wp2
    go_loopw [1, 5] (fun s i wr => i = .int .i64 0 ∧ s = .int .i64 k ∧ wr = w) (fun _ i _ => 0)
    case atStart => exact ⟨rfl, rfl, rfl⟩
    case round =>
      obtain ⟨rfl, rfl, rfl⟩ := hrel
      go_wp2
      go_ret
      exact ⟨ret_int (by simp), hS.out, Mod.refl _ _ _⟩

set_option maxHeartbeats 1000000 in
theorem law_heldBoolS (v : Value) (lo hi m k : Nat) (w : World) (h : Bools lo hi w v (marksBool m k)) (hk : 1 ≤ k) (hkb : k + m * 1 ≤ 1099511627776) :
    Calls Try.prog 48 #[v, .int .i64 k] w fun e w' => e = .returned (.int .i64 ((k + m * 1 : Nat) : Int)) ∧ Below w.heap.size w w' := by
  have hsl := h
  obtain ⟨a, cap, rfl, hlen, hh⟩ := h
  clear hh
  have hml := marksBool_len m k
  rw [hml]
  have Hml := Lib.hid hml
  clear hml hlen
  have hmb : m ≤ 1099511627776 := by omega
  go_enter Try.func48, Try.ntmps48
  go_wp2
  go_loopw [1, 5] (fun s i wr => ∃ j : Nat, j ≤ m ∧ i = .int .i64 j ∧ s = .int .i64 ((k : Int) + j) ∧ Below w.heap.size w wr) (fun _ i _ => m - (intOf i).toNat)
  case atStart => exact ⟨0, Nat.zero_le _, rfl, by go_num, Below.refl _ _⟩
  case round =>
    obtain ⟨j, hj, rfl, rfl, hB⟩ := hrel
    by_cases hlt : j < m
    · have hlt2 : j < (marksBool m k).length := by rw [Hml.out]; exact hlt
      obtain ⟨b, off, rfl⟩ := hsl.addr (by omega)
      have c0 := Bools.at (hsl.ext hB).get hlt2
      rw [marksBool_get, mkb_eq] at c0
      clear hsl
      go_wp2
      go_roundw
      case rel => exact ⟨j + 1, by omega, by go_num, by go_num, hB⟩
      case measure => simp [intOf]; omega
    · have : j = m := by omega
      subst this
      go_wp2
      go_ret
      exact ⟨ret_int (by omega), hB⟩

set_option maxHeartbeats 2000000 in
theorem law_markBoolSS (v : Value) (rows : List SV) (L : List (List Bool)) (lo hi k : Nat) (w : World) (h : SSw 1 boolCells lo hi w v rows L) (hhi : hi ≤ w.heap.size) (hk : 1 ≤ k) (hkb : k + totSS L ≤ 1099511627776) :
    Calls Try.prog 22 #[v, .int .i64 k] w fun e w' => e = .returned (.int .i64 ((k + totSS L : Nat) : Int)) ∧ SSw 1 boolCells lo hi w' v rows (numSS marksBool k L) ∧ Mod lo hi w w' := by
  have hl1 := h.len
  have hcap : rows.length ≤ 9223372036854775807 := by obtain ⟨a, cap, _, hc, _⟩ := h.out.1; omega
  have Hs := Lib.hid h
  obtain ⟨⟨⟨a, cap, rfl, _⟩, _⟩, _, _, _, _⟩ := h
  rw [hl1]
  rw [hl1] at hcap
  have Hl1 := Lib.hid hl1
  clear hl1
  go_enter Try.func22, Try.ntmps22
  go_wp2
  go_loopw [1, 5] (fun s i wr => ∃ j : Nat, j ≤ L.length ∧ i = .int .i64 j ∧ s = .int .i64 ((k + totSS (L.take j) : Nat) : Int) ∧ Mod lo hi w wr ∧ Hid (SSw 1 boolCells lo hi wr (.slice a L.length cap) rows (numSS marksBool k (L.take j) ++ L.drop j))) (fun _ i _ => L.length - (intOf i).toNat)
  case atStart => exact ⟨0, Nat.zero_le _, rfl, by simp [totSS], Mod.refl _ _ _, Lib.hid (by rw [← Hl1.out]; simpa [numSS] using Hs.out)⟩
  case round =>
    obtain ⟨j, hj, rfl, rfl, hM, hss⟩ := hrel
    have hszw := hM.size
    by_cases hlt : j < L.length
    · have hk1 : j < rows.length := by rw [Hl1.out]; exact hlt
      have hs := hss.out
      have hnl : (numSS marksBool k (L.take j)).length = j := by rw [numSS_len, List.length_take]; omega
      have hget : (numSS marksBool k (L.take j) ++ L.drop j)[j]? = some L[j] := by
        rw [List.getElem?_append_right (by omega), hnl, Nat.sub_self, List.getElem?_drop, Nat.add_zero, List.getElem?_eq_getElem hlt]
      have hnext : (numSS marksBool k (L.take j) ++ L.drop j).set j (marksBool L[j].length (k + totSS (L.take j))) = numSS marksBool k (L.take (j + 1)) ++ L.drop (j + 1) := by
        rw [List.set_append_right _ _ (by omega), hnl, Nat.sub_self, List.drop_eq_getElem_cons hlt, List.set_cons_zero, List.take_succ_eq_append_getElem hlt, numSS_append]
        simp [numSS]
      have hrow := hs.row j rows[j] L[j] (List.getElem?_eq_getElem hk1) hget
      have htt := totSS_take hlt
      have htl := totSS_le L (j + 1)
      obtain ⟨b, off, rfl⟩ := hs.out.1.addr (by omega)
      have c0 := hs.r.at hk1
      have hcall : Hid (Calls Try.prog 47 #[rows[j].v, .int .i64 ((k + totSS (L.take j) : Nat) : Int)] wr fun e w' => e = .returned (.int .i64 ((k + totSS (L.take (j + 1)) : Nat) : Int)) ∧ SSw 1 boolCells lo hi w' (.slice (some ⟨b, off, none⟩) L.length cap) rows (numSS marksBool k (L.take (j + 1)) ++ L.drop (j + 1)) ∧ Mod lo hi wr w') := Lib.hid (by
        by_cases h0 : 0 < L[j].length
        · obtain ⟨g, hg, h1, h2, hn⟩ := hrow.narrow h0
          refine (law_markBoolS rows[j].v L[j] g (g + 1) (k + totSS (L.take j)) wr hn (by omega) (by omega) (by omega)).mono ?_
          rintro e w' ⟨rfl, hsl, hm⟩
          refine ⟨ret_int (by rw [htt]; omega), ?_, hm.mono h1 (by omega)⟩
          rw [← hnext]
          refine hs.turn (by omega) (List.getElem?_eq_getElem hk1) hget (fun q hq hne => hm.block q hq ?_) (hsl.widen h1 (by omega)) (by rw [marksBool_len])
          have : q ≠ g := fun h => hne h0 (by rw [hg, h])
          omega
        · refine (law_markBoolS rows[j].v L[j] 0 0 (k + totSS (L.take j)) wr (hrow.none h0) (Nat.zero_le _) (by omega) (by omega)).mono ?_
          rintro e w' ⟨rfl, hsl, hm⟩
          refine ⟨ret_int (by rw [htt]; omega), ?_, ⟨hm.os, hm.tape, hm.output, hm.size, fun q hq _ => hm.block q hq (.inr (Nat.zero_le _))⟩⟩
          rw [← hnext]
          exact hs.turn (by omega) (List.getElem?_eq_getElem hk1) hget (fun q hq _ => hm.block q hq (by omega)) (hsl.none (by rw [marksBool_len]; exact h0)) (by rw [marksBool_len]))
      clear hs hrow hget hnext htt
      generalize rows[j].v = r at *
      generalize totSS (L.take j) = tj at *
      generalize hT1 : totSS (L.take (j + 1)) = tj1 at *
      have HT1 := Lib.hid hT1
      clear hT1
      go_wp2_with fail
      refine hcall.out.mono ?_
      rintro e w3 ⟨rfl, hs3, hm3⟩
      have Hs3 := Lib.hid hs3
      clear hs3
      go_wp2
      go_roundw
      case rel => exact ⟨j + 1, by omega, by go_num, by rw [HT1.out]; go_num, hM.trans hm3, Hs3⟩
      case measure => simp [intOf]; omega
    · have : j = L.length := by omega
      subst this
      have Hfin : Hid (SSw 1 boolCells lo hi wr (.slice a L.length cap) rows (numSS marksBool k L)) := Lib.hid (by
        have := hss.out
        rw [List.take_length, List.drop_length, List.append_nil] at this
        exact this)
      rw [List.take_length]
      go_wp2
      go_ret
      exact ⟨rfl, Hfin.out, hM⟩

set_option maxHeartbeats 2000000 in
theorem law_heldBoolSS (v : Value) (rows : List SV) (L : List (List Bool)) (lo hi k : Nat) (w : World) (h : SSr 1 boolCells lo hi w v rows (numSS marksBool k L)) (hk : 1 ≤ k) (hkb : k + totSS L ≤ 1099511627776) :
    Calls Try.prog 23 #[v, .int .i64 k] w fun e w' => e = .returned (.int .i64 ((k + totSS L : Nat) : Int)) ∧ Below w.heap.size w w' := by
  have hl1 := h.len
  rw [numSS_len] at hl1
  have hcap : rows.length ≤ 9223372036854775807 := by obtain ⟨a, cap, _, hc, _⟩ := h.out; omega
  have Hs := Lib.hid h
  obtain ⟨⟨a, cap, rfl, _⟩, _, _⟩ := h
  rw [hl1]
  rw [hl1] at hcap
  have Hl1 := Lib.hid hl1
  clear hl1
  go_enter Try.func23, Try.ntmps23
  go_wp2
  go_loopw [1, 5] (fun s i wr => ∃ j : Nat, j ≤ L.length ∧ i = .int .i64 j ∧ s = .int .i64 ((k + totSS (L.take j) : Nat) : Int) ∧ Below w.heap.size w wr) (fun _ i _ => L.length - (intOf i).toNat)
  case atStart => exact ⟨0, Nat.zero_le _, rfl, by simp [totSS], Below.refl _ _⟩
  case round =>
    obtain ⟨j, hj, rfl, rfl, hB⟩ := hrel
    by_cases hlt : j < L.length
    · have hk1 : j < rows.length := by rw [Hl1.out]; exact hlt
      have hs : SSr 1 boolCells lo hi wr (.slice a L.length cap) rows (numSS marksBool k L) := by rw [← Hl1.out]; exact Hs.out.ext hB
      have hrow := hs.row j rows[j] _ (List.getElem?_eq_getElem hk1) (numSS_get marksBool hlt)
      have htt := totSS_take hlt
      have htl := totSS_le L (j + 1)
      obtain ⟨b, off, rfl⟩ := hs.out.addr (by omega)
      have c0 := hs.at hk1
      have hcall : Hid (Calls Try.prog 48 #[rows[j].v, .int .i64 ((k + totSS (L.take j) : Nat) : Int)] wr fun e w' => e = .returned (.int .i64 ((k + totSS (L.take (j + 1)) : Nat) : Int)) ∧ Below wr.heap.size wr w') := Lib.hid (by
        refine (law_heldBoolS rows[j].v lo hi L[j].length (k + totSS (L.take j)) wr hrow (by omega) (by omega)).mono ?_
        rintro e w' ⟨rfl, hb⟩
        exact ⟨ret_int (by rw [htt]; omega), hb⟩)
      clear hs hrow htt
      generalize rows[j].v = r at *
      generalize totSS (L.take j) = tj at *
      generalize hT1 : totSS (L.take (j + 1)) = tj1 at *
      have HT1 := Lib.hid hT1
      clear hT1
      go_wp2_with fail
      refine hcall.out.mono ?_
      rintro e w3 ⟨rfl, hb3⟩
      go_wp2
      go_roundw
      case rel => exact ⟨j + 1, by omega, by go_num, by rw [HT1.out]; go_num, hB.trans (hb3.mono hB.size)⟩
      case measure => simp [intOf]; omega
    · have : j = L.length := by omega
      subst this
      rw [List.take_length]
      go_wp2
      go_ret
      exact ⟨rfl, hB⟩
section
open Go.RowKit Go.Shelf
attribute [local go_sem] Oper.semAt_some
/-- Whether the crane with an index can do a lift; those that can, up to an index. -/
noncomputable def canAt (L : SiteL) (g : LiftF) (i : Nat) : Bool := match L[i]? with | none => false | some x => canB x.1 x.2 g
theorem canAt_eq {L : SiteL} {g : LiftF} {k : Nat} (h : k < L.length) : canAt L g k = canB L[k].1 L[k].2 g := by unfold canAt; rw [List.getElem?_eq_getElem h]
noncomputable def canFx (L : SiteL) (g : LiftF) (k : Nat) : List (Fin L.length) := (List.range k).filterMap fun i => if h : i < L.length then (if canAt L g i then some ⟨i, h⟩ else none) else none
theorem canFx_t {L : SiteL} {g : LiftF} {k : Nat} (hk : k < L.length) (h : canAt L g k = true) : canFx L g (k + 1) = canFx L g k ++ [⟨k, hk⟩] := by unfold canFx; rw [List.range_succ, List.filterMap_append]; simp [h, hk]
theorem canFx_f {L : SiteL} {g : LiftF} {k : Nat} (hk : k < L.length) (h : canAt L g k = false) : canFx L g (k + 1) = canFx L g k := by unfold canFx; rw [List.range_succ, List.filterMap_append]; simp [h, hk]
theorem canFx_pre (L : SiteL) (g : LiftF) {k n : Nat} (h : k ≤ n) : canFx L g k <+: canFx L g n := by
  obtain ⟨m, rfl⟩ := Nat.le.dest h
  unfold canFx
  rw [List.range_add, List.filterMap_append]
  exact List.prefix_append _ _
theorem canFx_len (L : SiteL) (g : LiftF) (k : Nat) : (canFx L g k).length ≤ k := by
  unfold canFx
  have := List.length_filterMap_le (fun i => if h : i < L.length then (if canAt L g i then some (⟨i, h⟩ : Fin L.length) else none) else none) (List.range k)
  rwa [List.length_range] at this
theorem canFx_mem (L : SiteL) (g : LiftF) (i : Fin L.length) : i ∈ canFx L g L.length ↔ canAt L g i.1 = true := by
  unfold canFx
  rw [List.mem_filterMap]
  constructor
  · rintro ⟨j, hj, h⟩
    split at h
    · split at h
      · cases h; assumption
      · cases h
    · cases h
  · intro h
    exact ⟨i.1, List.mem_range.2 i.2, by rw [dif_pos i.2, if_pos h]⟩
/-- What the loop's body keeps: all that lay below n₀, and two boxes. -/
def KpA (n₀ p q : Nat) (A B : World) : Prop := Below n₀ A B ∧ (∀ c t f, A.heap[p]? = some (Obj.cells c t f) → B.heap[p]? = some (Obj.cells c t f)) ∧ (∀ c t f, A.heap[q]? = some (Obj.cells c t f) → B.heap[q]? = some (Obj.cells c t f))
theorem KpA.t {n₀ p q : Nat} {A B C : World} (h : KpA n₀ p q A B) (k : KpA n₀ p q B C) : KpA n₀ p q A C :=
  ⟨h.1.trans k.1, fun c t f e => k.2.1 c t f (h.2.1 c t f e), fun c t f e => k.2.2 c t f (h.2.2 c t f e)⟩
theorem KpA.refl (n₀ p q : Nat) (A : World) : KpA n₀ p q A A := ⟨Below.refl _ _, fun _ _ _ e => e, fun _ _ _ e => e⟩
theorem KpA.of {n₀ p q : Nat} {A B : World} (h : Below A.heap.size A B) (hn : n₀ ≤ A.heap.size) : KpA n₀ p q A B :=
  ⟨h.mono hn, fun _ _ _ e => (h.block _ (Array.getElem?_eq_some_iff.1 e).1).trans e, fun _ _ _ e => (h.block _ (Array.getElem?_eq_some_iff.1 e).1).trans e⟩
theorem KpA.b {n₀ p q : Nat} {w : World} (hn : n₀ ≤ w.heap.size) (W : World) (l : Nat) (o o' : Obj) (hl : w.heap.size ≤ l) (h : W.heap[l]? = some o) (ho : o.isCells = false) (hw : o.isWalk = false) : KpA n₀ p q W (W.putObj l o') := by
  have key : ∀ (r : Nat) c t f, W.heap[r]? = some (Obj.cells c t f) → (W.putObj l o').heap[r]? = some (Obj.cells c t f) := by
    intro r c t f e
    have hne : r ≠ l := by
      intro e2
      subst e2
      rw [h] at e
      cases e
      simp [Obj.isCells] at ho
    exact (World.putObj_heap_other hne).trans e
  exact ⟨belowK_b hn W l o o' hl h ho hw, fun c t f e => key p c t f e, fun c t f e => key q c t f e⟩
theorem grown_of {A B : World} (h : Below A.heap.size A B) : A.grownBy B none := ⟨h.os, h.tape, h.output, h.size, fun k hk _ => h.block k hk⟩
theorem abides {α : Type} {J : List α → World → Prop} {B0 : Nat} (hJ : AbidesFrom B0 J) {s : List α} {A B : World} (h : J s A) (hb : Below A.heap.size A B) : J s B := hJ s A B none h (grown_of hb) (fun r e => by cases e)
set_option maxRecDepth 100000 in
set_option maxHeartbeats 8000000 in
theorem abl_stopsF (n : Nat) (hn : 1 ≤ n) (p q n₀ : Nat) (a : Option Addr) (cap : Nat) (rs : List CraneR) (L : SiteL) (lo hi : Nat) (g : LiftF) (t : SV) (w : World) (hn₀ : n₀ ≤ w.heap.size) (hhi : hi ≤ n₀)
    (hp : w.heap[p]? = some (.cells #[.slice a L.length cap] 33 (0, 0))) (hq : w.heap[q]? = some (.cells (LiftR.cells ⟨g, t⟩).toArray 70 (0, 0)))
    (hr : Cranes lo hi w (.slice a L.length cap) rs L) (hok : siteOk L) (hg : plainOk g) :
    SeqStopsK Fence.wide n Try.prog 73 #[.pointer (some ⟨p, 0, none⟩), .pointer (some ⟨q, 0, none⟩)] (fun i : Fin L.length => #[Value.int .i64 ((i.1 : Nat) : Int)]) (KpA n₀ p q) (fun ys => ys = canFx L g L.length) (fun pre => pre <+: canFx L g L.length) L.length w := fun lid J Jx W hW hJ hJx hY h0 => by
  have hp0 := (hW.block _ (Array.getElem?_eq_some_iff.1 hp).1).trans hp
  have hq0 := (hW.block _ (Array.getElem?_eq_some_iff.1 hq).1).trans hq
  have hr0 := hr.ext hW
  have hn0 : n₀ ≤ W.heap.size := Nat.le_trans hn₀ hW.size
  clear hp hq hr hW hn₀ w
  have hcap : L.length ≤ 9223372036854775807 := by obtain ⟨_, _, he, hc, _⟩ := hr0.out; rw [← hr0.len]; omega
  have HR := Lib.hid hr0
  have HP := Lib.hid hp0
  have HQ := Lib.hid hq0
  have HJ := Lib.hid (fun s A B (h : J s A) (hb : Below A.heap.size A B) => abides hJ h hb)
  have cp0 : W.cell? ⟨p, 0, none⟩ = some (.slice a L.length cap) := by rw [Lib.cell_of_heap hp0]; rfl
  have hpl := World.block_lt_of_cell? W _ cp0
  clear hr0 hp0 hq0 hJ hJx
  refine callsIn_of_wp Try.func73 rfl trivial ?_ rfl
  simp only [Try.ntmps73, List.size_toArray, List.length_cons, List.length_nil, Nat.reduceAdd, Nat.reduceSub, Array.replicate_succ, Array.replicate_zero, List.push_toArray, List.append_toArray, List.nil_append, List.cons_append]
  gi_wp2
  gi_loopw [9] (fun i wr => ∃ k : Nat, k ≤ L.length ∧ i = .int .i64 k ∧ J (canFx L g k) wr ∧ KpA n₀ p q W wr ∧ W.heap.size ≤ wr.heap.size) (fun i _ => L.length - (intOf i).toNat)
  case atStart => exact ⟨0, Nat.zero_le _, rfl, h0, KpA.refl _ _ _ _, Nat.le_refl _⟩
  case round =>
    obtain ⟨k, hk, rfl, hJs, hK, hsz⟩ := hrel
    by_cases hlt : k < L.length
    · have hk1 : k < rs.length := by rw [HR.out.len]; exact hlt
      have hs : Cranes lo hi wr (.slice a L.length cap) rs L := HR.out.below hK.1 hhi
      obtain ⟨hfl, hrow⟩ := hs.one hlt hk1
      obtain ⟨b, off, rfl⟩ := (show ∃ b off, a = some ⟨b, off, none⟩ from Sl.addr (by have := hs.out; rw [← hs.len] at this; exact this) (by omega))
      obtain ⟨c0, c1, c2, c3, c4, c5, c6⟩ := Cranes_at hs hk1
      rw [hfl] at c0 c1 c2 c3 c4 c5
      have hbw := World.block_lt_of_cell? wr _ c0
      have hcok := (hok.1 k hlt).1
      have hcall := fun w' (hb : Below wr.heap.size wr w') => impl_Can L[k].1 rs[k].s L[k].2 g t lo hi w' (hrow.ext hb) hcok hg.2.2.1 hg.2.2.2.1 hg.2.1.1 hg.2.2.2.2.1
      rw [← canAt_eq hlt] at hcall
      have hqr := hK.2.2 _ _ _ HQ.out
      have HIt := Lib.hid (fun h => canFx_t (L := L) (g := g) hlt h)
      have HIf := Lib.hid (fun h => canFx_f (L := L) (g := g) hlt h)
      clear hs hrow hfl hcok
      generalize rs[k].s = sk at *
      generalize L[k].1 = f at *
      obtain ⟨sa, sl, sc⟩ := sk
      obtain ⟨x0, x1, x2, x3, x4, x5⟩ := f
      obtain ⟨ta, tl, tc⟩ := t
      simp only [SV.v, CraneR.cells, LiftR.cells] at *
      cases hcb : canAt L g k
      · rw [hcb] at hcall
        have HC := Lib.hid hcall
        have Hd := Lib.hid (HIf.out hcb)
        clear hcall hcb
        have d0 : wr.cell? ⟨q, 0, none⟩ = some (.string g.name) := by rw [Lib.cell_of_heap hqr]; rfl
        have d1 : wr.cell? ⟨q, 1, none⟩ = some (.int .i64 g.weight) := by rw [Lib.cell_of_heap hqr]; rfl
        have d2 : wr.cell? ⟨q, 2, none⟩ = some (.int .i64 g.fx) := by rw [Lib.cell_of_heap hqr]; rfl
        have d3 : wr.cell? ⟨q, 3, none⟩ = some (.int .i64 g.fy) := by rw [Lib.cell_of_heap hqr]; rfl
        have d4 : wr.cell? ⟨q, 4, none⟩ = some (.int .i64 g.tx) := by rw [Lib.cell_of_heap hqr]; rfl
        have d5 : wr.cell? ⟨q, 5, none⟩ = some (.int .i64 g.ty) := by rw [Lib.cell_of_heap hqr]; rfl
        have d6 : wr.cell? ⟨q, 6, none⟩ = some (.int .i64 g.height) := by rw [Lib.cell_of_heap hqr]; rfl
        have d7 : wr.cell? ⟨q, 7, none⟩ = some (.int .i64 g.deadline) := by rw [Lib.cell_of_heap hqr]; rfl
        have d8 : wr.cell? ⟨q, 8, none⟩ = some (.slice ta tl tc) := by rw [Lib.cell_of_heap hqr]; rfl
        have hql := World.block_lt_of_cell? wr _ d0
        have HK := Lib.hid hK
        clear hqr
        gi_wp2_with (refine ⟨trivial, ?_⟩; gi_at_call 74; refine (callsIn_wide.2 (HC.out _ ((Below.refl _ wr).alloc (Nat.le_refl _) _))).mono ?_; rintro e w5 ⟨rfl, hb5⟩; have b5 : Below wr.heap.size wr w5 := ((Below.refl _ wr).alloc (Nat.le_refl _) _).trans (hb5.mono (by simp)))
        refine ⟨fun _ h => (by cases h), ?_⟩
        gi_wp2
        go_roundw
        case rel => exact ⟨k + 1, by omega, by simp, by rw [Hd.out]; exact HJ.out _ _ _ hJs b5, HK.out.t (KpA.of b5 (by omega)), Nat.le_trans hsz b5.size⟩
        case measure => simp [intOf]; omega
      · rw [hcb] at hcall
        have HC := Lib.hid hcall
        have Hd := Lib.hid (HIt.out hcb)
        clear hcall hcb
        have d0 : wr.cell? ⟨q, 0, none⟩ = some (.string g.name) := by rw [Lib.cell_of_heap hqr]; rfl
        have d1 : wr.cell? ⟨q, 1, none⟩ = some (.int .i64 g.weight) := by rw [Lib.cell_of_heap hqr]; rfl
        have d2 : wr.cell? ⟨q, 2, none⟩ = some (.int .i64 g.fx) := by rw [Lib.cell_of_heap hqr]; rfl
        have d3 : wr.cell? ⟨q, 3, none⟩ = some (.int .i64 g.fy) := by rw [Lib.cell_of_heap hqr]; rfl
        have d4 : wr.cell? ⟨q, 4, none⟩ = some (.int .i64 g.tx) := by rw [Lib.cell_of_heap hqr]; rfl
        have d5 : wr.cell? ⟨q, 5, none⟩ = some (.int .i64 g.ty) := by rw [Lib.cell_of_heap hqr]; rfl
        have d6 : wr.cell? ⟨q, 6, none⟩ = some (.int .i64 g.height) := by rw [Lib.cell_of_heap hqr]; rfl
        have d7 : wr.cell? ⟨q, 7, none⟩ = some (.int .i64 g.deadline) := by rw [Lib.cell_of_heap hqr]; rfl
        have d8 : wr.cell? ⟨q, 8, none⟩ = some (.slice ta tl tc) := by rw [Lib.cell_of_heap hqr]; rfl
        have hql := World.block_lt_of_cell? wr _ d0
        have HK := Lib.hid hK
        clear hqr
        gi_wp2_with (refine ⟨trivial, ?_⟩; gi_at_call 74; refine (callsIn_wide.2 (HC.out _ ((Below.refl _ wr).alloc (Nat.le_refl _) _))).mono ?_; rintro e w5 ⟨rfl, hb5⟩; have b5 : Below wr.heap.size wr w5 := ((Below.refl _ wr).alloc (Nat.le_refl _) _).trans (hb5.mono (by simp)); obtain ⟨fn, tmps, assign, body, hy, hR⟩ := hY (canFx L g k) ⟨k, hlt⟩ w5 (HJ.out _ _ _ hJs b5) (Nat.lt_of_le_of_lt (canFx_len L g k) hlt); dsimp only at hy)
        refine hR.mono ?_
        rintro e W3 (⟨rfl, hJ3, hk3⟩ | ⟨rfl, hJx3⟩)
        · gi_wp2
          go_roundw
          case rel => exact ⟨k + 1, by omega, by simp, by rw [Hd.out]; exact hJ3, (HK.out.t (KpA.of b5 (by omega))).t hk3, Nat.le_trans hsz (Nat.le_trans b5.size hk3.1.size)⟩
          case measure => simp [intOf]; omega
        · gi_wp2
          refine bodyPost_ret (results_none rfl _ _ _) rfl ?_
          exact ⟨⟨_, rfl⟩, .inr ⟨_, by rw [← Hd.out]; exact canFx_pre L g (by omega), hJx3⟩⟩
    · obtain rfl : k = L.length := by omega
      gi_wp2
      go_end0
      exact ⟨⟨_, rfl⟩, .inl ⟨_, rfl, hJs⟩⟩
end
section
open Go.RowKit Go.Shelf
attribute [local go_sem] Oper.semAt_some
set_option maxRecDepth 100000 in
set_option maxHeartbeats 2000000 in
theorem impl_Ables (v : Value) (g : LiftF) (t : SV) (w : World) :
    Calls Try.prog 45 #[.agg #[v], .agg (LiftR.cells ⟨g, t⟩).toArray] w fun e w' => e = .returned (.func (.func 73) #[] #[.pointer (some ⟨w.heap.size, 0, none⟩), .pointer (some ⟨w.heap.size + 1, 0, none⟩)]) ∧ w' = (w.alloc (.cells #[v] 33 (0, 0))).alloc (.cells (LiftR.cells ⟨g, t⟩).toArray 70 (0, 0)) := by
  obtain ⟨ta, tl, tc⟩ := t
  simp only [LiftR.cells, SV.v]
  go_enter Try.func45, Try.ntmps45
  go_wp2
  go_ret
  exact ⟨rfl, rfl⟩
end
theorem plain_of {G : LiftsL} (h : liftsOk G) {k : Nat} (hk : k < G.length) : plainOk G[k].1 := by
  have := (h.1 k hk).1
  exact ⟨this.1, this.2.1, this.2.2.1, this.2.2.2.1, this.2.2.2.2.1, this.2.2.2.2.2.1⟩
theorem info_boola : (Try.prog.info? 4).map (fun i => (i.zero.map (·.cells.size), i.size, i.bytes)) = some (some 1, 1, 1) := by kernel_rfl
theorem info_SBa : (Try.prog.info? 79).map (fun i => (i.zero.map (·.cells.size), i.size, i.bytes)) = some (some 1, 1, 24) := by kernel_rfl
theorem SSw.wider {α : Type} {n : Nat} {c : α → List Value} {lo lo' hi : Nat} {w : World} {v : Value} {rows : List SV} {L : List (List α)} (h : SSw n c lo hi w v rows L) (hl : lo' ≤ lo) : SSw n c lo' hi w v rows L :=
  ⟨h.out.widen hl (Nat.le_refl _), h.len, fun i r x hr hx => (h.row i r x hr hx).widen hl (Nat.le_refl _), h.apart, h.away⟩
/-- The row of a lift, up to a crane. -/
noncomputable def ablRow (L : SiteL) (g : LiftF) (k : Nat) : List Bool := (List.range k).map (canAt L g)
theorem ablRow_step (L : SiteL) (g : LiftF) (k : Nat) : ablRow L g (k + 1) = ablRow L g k ++ [canAt L g k] := by unfold ablRow; rw [List.range_succ, List.map_append]; rfl
theorem ablRow_len (L : SiteL) (g : LiftF) (k : Nat) : (ablRow L g k).length = k := by simp [ablRow]
noncomputable def ablRows (L : SiteL) (G : LiftsL) : List (List Bool) := G.map fun x => ablRow L x.1 L.length
theorem ablRows_len (L : SiteL) (G : LiftsL) : (ablRows L G).length = G.length := by simp [ablRows]
theorem ablRows_take (L : SiteL) (G : LiftsL) (k : Nat) (h : k < G.length) : (ablRows L G).take (k + 1) = (ablRows L G).take k ++ [ablRow L G[k].1 L.length] := by
  have h' : k < (ablRows L G).length := by simpa [ablRows] using h
  rw [List.take_succ_eq_append_getElem h']
  simp [ablRows]
noncomputable def ablL (L : SiteL) (G : LiftsL) : List (List Bool) × Int := if siteB L && liftsB G then (ablRows L G, 0) else ([], 1)
theorem ablL_t {L : SiteL} {G : LiftsL} (h1 : siteB L = true) (h2 : liftsB G = true) : ablL L G = (ablRows L G, 0) := by unfold ablL; rw [h1, h2]; rfl
theorem ablL_f {L : SiteL} {G : LiftsL} (h1 : siteB L = false) : ablL L G = ([], 1) := by unfold ablL; rw [h1]; rfl
theorem ablL_g {L : SiteL} {G : LiftsL} (h1 : siteB L = true) (h2 : liftsB G = false) : ablL L G = ([], 1) := by unfold ablL; rw [h1, h2]; rfl
theorem ablTot (L : SiteL) : ∀ G : LiftsL, totSS (ablRows L G) = G.length * L.length
  | [] => by simp [ablRows, totSS]
  | x :: r => by
    have := ablTot L r
    simp only [ablRows, List.map_cons, totSS, ablRow_len, List.length_cons, Nat.succ_mul] at *
    omega
theorem ablL_tot (L : SiteL) (G : LiftsL) : totSS (ablL L G).1 ≤ 1048576 := by
  cases h1 : siteB L
  · rw [ablL_f h1]; simp [totSS]
  · cases h2 : liftsB G
    · rw [ablL_g h1 h2]; simp [totSS]
    · rw [ablL_t h1 h2, ablTot]
      have h3 := (siteB_iff.1 h1).2.2
      have h4 := (liftsB_iff.1 h2).2
      exact Nat.le_trans (Nat.mul_le_mul h4 h3) (by omega)
/-- A slice of slices of truths and a code. -/
def SBRes (w : World) (L : List (List Bool)) (code : Int) (e : Ending) (w' : World) : Prop :=
  ∃ v' rows, e = .returned (.tuple #[v', .int .i64 code]) ∧ SSw 1 boolCells w.heap.size w'.heap.size w' v' rows L ∧ Below w.heap.size w w'
theorem ssw_nilB {α : Type} {n : Nat} {c : α → List Value} {lo hi : Nat} {w : World} : SSw n c lo hi w (.slice none 0 0) [] ([] : List (List α)) :=
  ⟨slw_nil, rfl, fun _ _ _ h => by simp at h, fun _ _ _ _ _ _ h => by simp at h, fun _ _ _ h => by simp at h⟩
set_option maxRecDepth 100000 in
set_option maxHeartbeats 8000000 in
theorem spec_AbilityTable (s : SV) (rs : List CraneR) (L : SiteL) (lo hi : Nat) (v2 : Value) (rg : List LiftR) (G : LiftsL) (lo2 hi2 : Nat) (w : World) (h : Cranes lo hi w s.v rs L) (hwf : L.wf) (h2 : Lifts lo2 hi2 w v2 rg G) (hwf2 : ∀ x ∈ G, x.1.name.size ≤ maxLen) (hlen : G.length ≤ 1048576) :
    Calls Try.prog 19 #[.agg #[s.v], v2] w (SBRes w (ablL L G).1 (ablL L G).2) := by
  have Hs := Lib.hid h
  have Hg := Lib.hid h2
  have hl1 := h.len
  have hl2 := h2.len
  obtain ⟨⟨a, cap, hsv, hcp, -⟩, -, -⟩ := h
  obtain ⟨⟨a2, cap2, rfl, ⟨hc2, hc2'⟩, -⟩, -, -⟩ := h2
  generalize s.v = sv at *
  subst hsv
  rw [hl1] at hcp Hs ⊢
  rw [hl2] at hc2 Hg ⊢
  have Hl1 := Lib.hid hl1
  have Hl2 := Lib.hid hl2
  clear hl1 hl2
  have hba : Below w.heap.size w (w.alloc (.cells #[.slice a L.length cap] 33 (0, 0))) := (Below.refl _ _).alloc (Nat.le_refl _) _
  have hc0 : (w.alloc (.cells #[.slice a L.length cap] 33 (0, 0))).cell? ⟨w.heap.size, 0, none⟩ = some (.slice a L.length cap) := by rw [Lib.cell_of_heap (blkN_new w _)]; rfl
  have hS := spec_SiteOk w.heap.size _ rs L lo hi _ hc0 (Hs.out.ext hba) hwf
  have hV := fun w' (hb : Below w.heap.size w w') => spec_LiftsOk _ rg G lo2 hi2 w' (Hg.out.ext hb) hwf2 hlen
  clear hwf hwf2
  cases hs : siteB L
  · rw [ablL_f hs]
    rw [hs] at hS
    have HS := Lib.hid hS
    clear hS hV hs hc0
    go_enter Try.func19, Try.ntmps19
    go_wp2_with fail
    refine HS.out.mono ?_
    rintro e w1 ⟨rfl, hb1⟩
    have B1 := hba.trans (hb1.mono hba.size)
    clear hba hb1
    go_wp2
    go_ret2
    exact ⟨_, _, rfl, ssw_nilB, B1⟩
  have Hsok := Lib.hid (siteB_iff.1 hs)
  cases hv : liftsB G
  · rw [ablL_g hs hv]
    rw [hs] at hS
    rw [hv] at hV
    have HS := Lib.hid hS
    have HV := Lib.hid hV
    clear hS hV hs hv hc0
    go_enter Try.func19, Try.ntmps19
    go_wp2_with fail
    refine HS.out.mono ?_
    rintro e w1 ⟨rfl, hb1⟩
    have HB1 := Lib.hid (hba.trans (hb1.mono hba.size))
    clear hba hb1
    go_wp2_with (go_at_call 33; refine (HV.out _ HB1.out).mono ?_; rintro e w2 ⟨rfl, hb2⟩)
    go_ret2
    exact ⟨_, _, rfl, ssw_nilB, HB1.out.trans (hb2.mono HB1.out.size)⟩
  rw [ablL_t hs hv]
  have Hgok := Lib.hid (liftsB_iff.1 hv)
  have hg10 := Hgok.out.2
  have hs6 := Hsok.out.2.2
  rw [hs] at hS
  rw [hv] at hV
  have HS := Lib.hid hS
  have HV := Lib.hid hV
  have HC0 := Lib.hid hc0
  clear hS hV hs hv hc0
  go_enter Try.func19, Try.ntmps19
  go_wp2_with fail
  refine HS.out.mono ?_
  rintro e w1 ⟨rfl, hb1⟩
  have HB1 := Lib.hid (hba.trans (hb1.mono hba.size))
  have hlt0 : w.heap.size < w1.heap.size := Nat.lt_of_lt_of_le (by simp) hb1.size
  have HC1 := Lib.hid ((hb1.cell (p := ⟨w.heap.size, 0, none⟩) (by simp)).trans HC0.out)
  clear hba hb1
  go_wp2_with (go_at_call 33; refine (HV.out _ HB1.out).mono ?_; rintro e w2 ⟨rfl, hb2⟩)
  have HB2 := Lib.hid (HB1.out.trans (hb2.mono HB1.out.size))
  have HC2 := Lib.hid ((hb2.cell (p := ⟨w.heap.size, 0, none⟩) hlt0).trans HC1.out)
  have hs12 := hb2.size
  have hbase : w.heap.size ≤ w2.heap.size := by omega
  have hlt2 : w.heap.size < w2.heap.size := by omega
  clear hb2
  go_loopw [6, 7] (fun o i wr => ∃ (k : Nat) (rows : List SV), k ≤ G.length ∧ i = .int .i64 k ∧ Below w2.heap.size w2 wr ∧ Hid (OwnSS 1 boolCells w2.heap.size 79 4 wr o rows ((ablRows L G).take k))) (fun _ i _ => G.length - (intOf i).toNat)
  case atStart => exact ⟨0, [], Nat.zero_le _, rfl, (Below.refl _ _).alloc (Nat.le_refl _) _, Lib.hid (by simpa using ownSS_nil (own_empty w2 _ _ (Nat.le_refl _)))⟩
  case round =>
    obtain ⟨k, rows, hk, rfl, hB, hown⟩ := hrel
    have HBw := Lib.hid (HB2.out.trans (hB.mono HB2.out.size))
    have hBs := hB.size
    have hcs := (hB.cell (p := ⟨w.heap.size, 0, none⟩) hlt2).trans HC2.out
    by_cases hlt : k < G.length
    · have hk1 : k < rg.length := by rw [Hl2.out]; exact hlt
      have hgr : Lifts lo2 hi2 wr (.slice a2 G.length cap2) rg G := Hg.out.ext HBw.out
      obtain ⟨hfl, -⟩ := hgr.one hlt hk1
      obtain ⟨b, off, rfl⟩ := (show ∃ b off, a2 = some ⟨b, off, none⟩ from Sl.addr (by have := hgr.out; rw [← Hl2.out] at this; exact this) (by omega))
      have hcc : At wr b (off + k * 9) (liftC G[k].1 rg[k].s.v) := by
        have := hgr.at hk1
        rw [show LiftR.cells rg[k] = liftC G[k].1 rg[k].s.v by unfold LiftR.cells liftC; rw [hfl]] at this
        exact this
      have hpo := Lib.hid (plain_of Hgok.out hlt)
      have Htk := Lib.hid (ablRows_take L G k hlt)
      have hrl : rows.length ≤ 10 := by have := hown.out.len; rw [List.length_take] at this; omega
      have Hcc := Lib.hid hcc
      have Hcs := Lib.hid hcs
      clear hgr hfl hcc hcs
      generalize rg[k].s.v = gv at *
      generalize G[k] = x at *
      obtain ⟨g, ga⟩ := x
      have Hown := Lib.hid hown.out
      clear hown
      obtain ⟨wo, hwo⟩ : ∃ wo : World, wo = wr := ⟨_, rfl⟩
      subst hwo
      have HR0 := Lib.hid (Hs.out.ext HBw.out)
      have hown0 : Hid (Own 1 boolCells wo.heap.size 4 (wo.alloc (.cells #[] 4)) (.slice (some ⟨wo.heap.size, 0, none⟩) 0 0) []) := Lib.hid (own_empty wo _ _ (Nat.le_refl _))
      go_wp2
      go_loopw [8, 9] (fun o2 i2 wr => ∃ (j : Nat) (dv : Value), o2 = dv ∧ j ≤ L.length ∧ i2 = .int .i64 j ∧ Below wo.heap.size wo wr ∧ Hid (Own 1 boolCells wo.heap.size 4 wr dv (ablRow L g j))) (fun _ i2 _ => L.length - (intOf i2).toNat)
      case atStart => exact ⟨0, _, rfl, Nat.zero_le _, rfl, (Below.refl _ _).alloc (Nat.le_refl _) _, hown0⟩
      case round =>
        obtain ⟨j, dv, hdv, hj, rfl, hB2, hrow⟩ := hrel
        have hdv := hdv.symm
        subst hdv
        have hBs2 := hB2.size
        have hBo := hB.trans (hB2.mono hBs)
        have hlo : w.heap.size < wo.heap.size := by omega
        have hcs := (hB2.cell (p := ⟨w.heap.size, 0, none⟩) hlo).trans Hcs.out
        by_cases hjt : j < L.length
        · have hj1 : j < rs.length := by rw [Hl1.out]; exact hjt
          have hs : Cranes lo hi wr (.slice a L.length cap) rs L := HR0.out.ext hB2
          obtain ⟨hfl, hrw⟩ := hs.one hjt hj1
          obtain ⟨b2, off2, rfl⟩ := (show ∃ b off, a = some ⟨b, off, none⟩ from Sl.addr (by have := hs.out; rw [← Hl1.out] at this; exact this) (by omega))
          have hcc : At wr b2 (off2 + j * 7) (craneC L[j].1 rs[j].s.v) := by
            have := hs.at hj1
            rw [show CraneR.cells rs[j] = craneC L[j].1 rs[j].s.v by unfold CraneR.cells craneC; rw [hfl]] at this
            exact this
          have hq := Lib.hid (fun w' (hb : Below wr.heap.size wr w') => spec_CanLift b2 (off2 + j * 7) b (off + k * 9) L[j].1 rs[j].s.v L[j].2 g gv lo hi w' (hcc.ext hb (by simp [craneC])) ((Hcc.out.ext hB2 (by simp [liftC])).ext hb (by simp [liftC])) (hrw.ext hb) (Hsok.out.1 j hjt).1 hpo.out.2.2.1 hpo.out.2.2.2.1 hpo.out.2.2.2.2.1)
          rw [← canAt_eq hjt] at hq
          have Hst := Lib.hid (ablRow_step L g j)
          have hll := ablRow_len L g j
          have hbb2 := hcc.lt (by simp [craneC])
          clear hs hfl hrw hcc
          generalize hlk : ablRow L g j = lk at *
          have Hlk := Lib.hid hlk
          clear hlk
          generalize canAt L g j = cb at *
          go_wp2_with fail
          go_region_held3 (fun w' => (∀ b' o', b' < wo.heap.size → w'.cell? ⟨b', o', none⟩ = wr.cell? ⟨b', o', none⟩) ∧ Below wo.heap.size wr w') (first | exact heldB (Below.refl _ _).drew | exact heldB (hbc.mono hBs2) | exact heldB ((hbc.mono hBs2).alloc (by have := hbc.size; omega) _) | exact heldB hBapp)
            (first
              | (go_at_call 44; refine (hq.out _ (Below.refl _ _).drew).mono ?_; rintro e w3 ⟨rfl, hb3⟩; have hbc : Below wr.heap.size wr w3 := (Below.refl _ wr).drew.trans hb3)
              | (refine step_app1 (c := boolCells) (bytes := 1) rfl _ _ 79 4 rfl Try.underlying79 info_boola (by omega) boolCells_len boolCells_one wo.heap.size lk cb _ rfl _ rfl (hrow.out.below hbc) rfl (by omega) (by omega) (by have := hbc.size; omega) ?_; intro v' w4 hrow4 hg4; have hBapp : Below wo.heap.size wr w4 := (hrow.out.below hbc).app (hbc.mono hBs2) (Nat.le_refl _) (by have := hbc.size; omega) hg4))
          have hB4 := hB2.trans (hBapp.mono (Nat.le_refl _))
          go_wp2
          go_roundw
          case rel => exact ⟨j + 1, _, rfl, by omega, by go_num, hB4, Lib.hid (by rw [Hst.out]; exact hrow4)⟩
          case measure => simp [intOf]; omega
        · obtain rfl : j = L.length := by omega
          obtain ⟨da, dn, dc, rfl⟩ : ∃ da dn dc, dv = .slice da dn dc := by
            obtain ⟨_, ⟨h, _⟩ | ⟨g, cap, cur, h, _⟩⟩ := hrow.out
            · exact ⟨_, _, _, h⟩
            · exact ⟨_, _, _, h⟩
          have hpush := Lib.hid (fun v' w3 h1 h2 => OwnSS.push (te := 79) (r := ⟨da, dn, dc⟩) (by decide) Hown.out hBs hB2 hrow.out (v' := v') (w2 := w3) h1 h2)
          have Hown2 := Lib.hid (Hown.out.below hB2)
          go_wp2_with (at_builtin; refine wpList_app1 (c := one) (bytes := 24) rfl _ _ 44 79 rfl Try.underlying44 info_SBa (by omega) one_len one_one w2.heap.size rows ⟨da, dn, dc⟩ _ rfl _ rfl Hown2.out.out rfl (by omega) (by omega) hBo.size ?_; intro v' w3 hown3 hg3; have hB3 := Hown2.out.out.app hBo (Nat.le_refl _) hBo.size hg3)
          have Hown3 := Lib.hid (hpush.out _ _ hown3 hg3)
          go_roundw
          case rel => exact ⟨k + 1, rows ++ [⟨da, dn, dc⟩], by omega, by go_num, hB3, Lib.hid (by rw [Htk.out]; exact Hown3.out)⟩
          case measure => simp [intOf]; omega
    · have : k = G.length := by omega
      subst this
      have Hfin := Lib.hid ((hown.out.w boolCells_len (by decide)).wider (lo' := w.heap.size) (by omega))
      have hpl := Lib.hid (show (ablRows L G).take G.length = ablRows L G by rw [← ablRows_len L G, List.take_length])
      go_wp2
      go_ret2
      exact ⟨_, _, rfl, by rw [← hpl.out]; exact Hfin.out, HBw.out⟩
section
open Go.RowKit Go.Shelf
attribute [local go_sem] Oper.semAt_some
/-- The marks that ranges over a function leave among the deferred calls: blocks from B on, each below the one before. -/
def Marks (B : Nat) : Nat → List Deferred → World → Prop
  | _, [], _ => True
  | hi, d :: ds, W => ∃ D, d = { target := .collected D, args := #[] } ∧ B ≤ D ∧ D < hi ∧ W.heap[D]? = some (.deferred (some [])) ∧ Marks B D ds W
theorem Marks.keep {B : Nat} : ∀ {hi : Nat} {ds : List Deferred} {W W' : World}, Marks B hi ds W → (∀ D, D < hi → W.heap[D]? = some (.deferred (some [])) → W'.heap[D]? = some (.deferred (some []))) → Marks B hi ds W'
  | _, [], _, _, _, _ => trivial
  | _, _ :: _, _, _, ⟨D, h1, h2, h3, h4, h5⟩, h => ⟨D, h1, h2, h3, h D h3 h4, Marks.keep h5 fun D' hd => h D' (by omega)⟩
theorem Marks.up {B hi hi' : Nat} {ds : List Deferred} {W : World} (h : Marks B hi ds W) (hh : hi ≤ hi') : Marks B hi' ds W := by
  cases ds with
  | nil => trivial
  | cons d ds => obtain ⟨D, h1, h2, h3, h4, h5⟩ := h; exact ⟨D, h1, h2, by omega, h4, h5⟩
theorem Marks.below {B hi : Nat} {ds : List Deferred} {W W' : World} (h : Marks B hi ds W) (hb : Below W.heap.size W W') : Marks B hi ds W' :=
  h.keep fun D _ e => (hb.block D (Array.getElem?_eq_some_iff.1 e).1).trans e
/-- Blocks of cells lie as they lay. -/
def KpC (W W' : World) : Prop := W.heap.size ≤ W'.heap.size ∧ ∀ (k : Nat) c t f, W.heap[k]? = some (Obj.cells c t f) → W'.heap[k]? = some (Obj.cells c t f)
theorem KpC.refl (W : World) : KpC W W := ⟨Nat.le_refl _, fun _ _ _ _ e => e⟩
theorem KpC.trans {A B C : World} (h : KpC A B) (k : KpC B C) : KpC A C := ⟨Nat.le_trans h.1 k.1, fun i c t f e => k.2 i c t f (h.2 i c t f e)⟩
theorem KpC.grown {W W' : World} {row : Option Nat} (hg : W.grownBy W' row) (hr : ∀ r, row = some r → ∃ o : Obj, W.heap[r]? = some o ∧ o.isCells = false) : KpC W W' :=
  ⟨hg.size, fun _ _ _ _ e => (grownBy_keeps_cells hg hr e rfl).trans e⟩
theorem KpC.put {W : World} {D : Nat} {o o' : Obj} (h : W.heap[D]? = some o) (ho : o.isCells = false) : KpC W (W.putObj D o') :=
  KpC.grown (grownBy_putObj' W D o') (fun r e => by cases e; exact ⟨o, h, ho⟩)
theorem ownKp {α : Type} {n : Nat} {c : α → List Value} {lo : Nat} {e : TypeId} {W W' : World} {v : Value} {l : List α} (h : Own n c lo e W v l) (hk : KpC W W') : Own n c lo e W' v l := by
  obtain ⟨h1, h2 | ⟨g, cap, cur, h2, h3, h4, h5⟩⟩ := h
  · exact ⟨h1, .inl h2⟩
  · exact ⟨h1, .inr ⟨g, cap, cur, h2, h3, hk.2 _ _ _ _ h4, h5⟩⟩
theorem ownSSKp {α : Type} {n : Nat} {c : α → List Value} {lo : Nat} {te e : TypeId} {W W' : World} {v : Value} {rows : List SV} {L : List (List α)} (h : OwnSS n c lo te e W v rows L) (hk : KpC W W') : OwnSS n c lo te e W' v rows L :=
  ⟨ownKp h.out hk, h.len, fun i r x hr hx => ownKp (h.row i r x hr hx) hk, h.apart⟩
theorem rowKp {W W' : World} {b : Nat} {t : TypeId} {n : Nat} {f : Nat → Value} (h : W.rowIs b t n f) (hk : KpC W W') : W'.rowIs b t n f := by
  obtain ⟨c, h1, h2⟩ := h
  exact ⟨c, hk.2 _ _ _ _ h1, h2⟩
theorem marks_leave {F : Fence} {n : Nat} {P : Program} {fn : Func} {tmps : Array Value} {R : Ending → World → Prop} {B : Nat} : ∀ (ds : List Deferred) (hi : Nat) (W : World), Marks B hi ds W →
    (∀ W', Below B W W' → KpC W W' → LeavesIn F n P fn tmps R [] .returning W') → LeavesInM F n P fn tmps R ds .returning W
  | [], _, W, _, h => h W (Below.refl _ _) (KpC.refl _)
  | _ :: ds, _, W, ⟨D, rfl, h2, _, h4, h5⟩, h => by
    have hD := (Array.getElem?_eq_some_iff.1 h4).1
    have hb : Below B W (W.putObj D (.deferred none)) := (Below.refl B W).grown (grownBy_putObj' W D _) (by omega) (fun k e => by cases e; exact h2)
    refine ⟨by simp, .inl ⟨D, _, rfl, run_takeDeferred h4, ?_⟩⟩
    exact marks_leave ds D _ (h5.keep fun D' hd e => (World.putObj_heap_other (by omega)).trans e) fun W' hb' hk' => h W' (hb.trans hb') ((KpC.put h4 rfl).trans hk')
theorem defer_kept {α : Type} {n : Nat} {c : α → List Value} {lo : Nat} {e : TypeId} {W w3 : World} {v : Value} {l : List α} {ob : Obj} (hown : Own n c lo e W v l) (hg : (W.alloc ob).grownBy w3 v.ownBlock) {D : Nat} (hD : W.heap[D]? = some (.deferred (some []))) : w3.heap[D]? = some (.deferred (some [])) := by
  have hl := (Array.getElem?_eq_some_iff.1 hD).1
  refine (hg.block D (by simp; omega) ?_).trans ((Below.heap_alloc _ _ _ hl).trans hD)
  intro e
  obtain ⟨cur, fz, hc⟩ := hown.block e.symm
  rw [hD] at hc; cases hc
/-- A row of truths, of which those whose index has come are true. -/
def rowF {n : Nat} (pre : List (Fin n)) (i : Nat) : Value := .bool (decide (∃ x ∈ pre, x.1 = i))
theorem rowF_nil {n : Nat} (i : Nat) : rowF ([] : List (Fin n)) i = .bool false := by simp [rowF]
theorem rowF_put {n : Nat} (pre : List (Fin n)) (x : Fin n) (i : Nat) : rowF (pre ++ [x]) i = if i = x.1 then .bool true else rowF pre i := by
  unfold rowF
  by_cases h : i = x.1
  · rw [if_pos h]; simp [h]
  · rw [if_neg h]
    congr 1
    apply decide_eq_decide.2
    constructor
    · rintro ⟨y, hy, e⟩
      rcases List.mem_append.1 hy with hy | hy
      · exact ⟨y, hy, e⟩
      · rw [List.mem_singleton] at hy; subst hy; exact absurd e.symm h
    · rintro ⟨y, hy, e⟩; exact ⟨y, List.mem_append.2 (.inl hy), e⟩
theorem rowF_end (L : SiteL) (g : LiftF) {i : Nat} (h : i < L.length) : rowF (canFx L g L.length) i = .bool (canAt L g i) := by
  unfold rowF
  congr 1
  cases hc : canAt L g i
  · refine decide_eq_false ?_
    rintro ⟨x, hx, e⟩
    have := (canFx_mem L g x).1 hx
    rw [e, hc] at this; cases this
  · exact decide_eq_true ⟨⟨i, h⟩, (canFx_mem L g ⟨i, h⟩).2 hc, rfl⟩
theorem own_row {lo b n : Nat} {W : World} {l : List Bool} {f : Nat → Value} (h : W.rowIs b 4 n f) (hl : l.length = n) (hf : ∀ i (hi : i < l.length), f i = .bool l[i]) (hlo : lo ≤ b) (hn : n ≤ maxLen) :
    Own 1 boolCells lo 4 W (.slice (some ⟨b, 0, none⟩) n n) l := by
  obtain ⟨c, h1, h2, h3⟩ := h
  subst hl
  have hfl := flat_len boolCells_len l
  refine ⟨by rw [hfl], .inr ⟨b, l.length, c, rfl, hlo, h1, Nat.le_refl _, hn, by rw [h2, Nat.mul_one], ?_⟩⟩
  rw [Nat.mul_one]
  refine List.ext_getElem? fun i => ?_
  rw [List.getElem?_take]
  by_cases hi : i < l.length
  · rw [if_pos hi, Array.getElem?_toList, h3 i hi, hf i hi]
    have : ∀ (l : List Bool) (i : Nat) (hi : i < l.length), (l.flatMap boolCells)[i]? = some (.bool l[i]) := by
      intro l
      induction l with
      | nil => intro i hi; exact absurd hi (by simp)
      | cons x r ih =>
        intro i hi
        cases i with
        | zero => simp [boolCells]
        | succ i => simpa [boolCells] using ih i (by simpa using hi)
    exact (this l i hi).symm
  · rw [if_neg hi, List.getElem?_eq_none]
    omega
theorem wpListIn_app1 {α : Type} {c : α → List Value} {n bytes : Nat} {F : Fence} {nF : Nat} {P : Program} {w : World} {ops : Array Oper} {rest : List Oper} {o : Oper} {a : Act} {Q : Exit → Act → World → Prop} (hgd : o.guard = none) (s x : Operand) (t e : TypeId) (ho : o.op = .call { callee := .builtin .append, args := #[s, x], argTypes := #[t, t] }) (ht : P.underlying t = some (.slice e))
    (hinfo : (P.info? e).map (fun i => (i.zero.map (·.cells.size), i.size, i.bytes)) = some (some n, n, bytes)) (hn0 : 0 < n) (hc : ∀ x, (c x).length = n) (h1 : ∀ x, ∀ u ∈ c x, u.oneCell' = true)
    (lo : Nat) (l : List α) (y : α) (v : Value) (hs : a.eval s = v) (w0 : World) (hw : w = w0.alloc (.cells (c y).toArray e)) (hown : Own n c lo e w0 v l) (hx : a.eval x = .slice (some ⟨w0.heap.size, 0, none⟩) 1 1)
    (hb : (l.length + 1) * bytes ≤ 140737488355328) (hm : l.length + 1 ≤ 9223372036854775807) (hlo : lo ≤ w0.heap.size)
    (h : ∀ v' w', Own n c lo e w' v' (l ++ [y]) → (w0.alloc (.cells (c y).toArray e)).grownBy w' v.ownBlock → wpListIn F nF P ops Q rest (a.put o.dst v') w') :
    wpListIn F nF P ops Q (o :: rest) a w := by
  subst hw
  obtain ⟨i, hi, hzz⟩ := Option.map_eq_some_iff.1 hinfo
  simp only [Prod.mk.injEq] at hzz
  obtain ⟨hz, hsz, hby⟩ := hzz
  obtain ⟨z, hz, hzs⟩ := Option.map_eq_some_iff.1 hz
  refine wpListIn_append_own _ hgd s x t ho lo e i z n bytes ht hi hz hsz hby hzs hn0 v l.length (l.flatMap c) hs (hown.alloc _) ⟨w0.heap.size, 0, none⟩ 1 1 (c y) hx (by rw [hc]; omega) ?_ (h1 y) (by unfold maxLen; omega) hb (by simp; omega) ?_
  · intro j u hu
    have hadd : (⟨w0.heap.size, 0, none⟩ : Addr).add j = ⟨w0.heap.size, j, none⟩ := by unfold Addr.add; split <;> simp_all
    rw [hadd, World.cell?_alloc_mark]
    simpa using hu
  · intro v' w' h2 h3 _
    refine h v' w' ?_ h3
    show w'.ownsRow lo e n v' (l ++ [y]).length ((l ++ [y]).flatMap c)
    rw [List.length_append, List.flatMap_append, List.length_singleton, List.flatMap_singleton]
    exact h2
theorem five_bx (w : World) (o p q r s : Obj) : ∃ W, (((((w.alloc o).alloc p).alloc q).alloc r).alloc s) = W ∧ W.heap[w.heap.size + 1]? = some p ∧ W.heap[w.heap.size + 1 + 1]? = some q ∧ W.heap[w.heap.size + 1 + 1 + 1]? = some r ∧ W.heap[w.heap.size + 1 + 1 + 1 + 1]? = some s ∧ Below w.heap.size w W ∧ W.heap.size = w.heap.size + 5 := by
  refine ⟨_, rfl, ?_, ?_, ?_, ?_, ((((((Below.refl _ _).alloc (Nat.le_refl _) _).alloc (by simp) _).alloc (by simp; omega) _).alloc (by simp; omega) _).alloc (by simp; omega) _), by simp⟩
  · refine blkN_below ((Below.refl _ _).alloc (Nat.le_refl _) s) (blkN_below ((Below.refl _ _).alloc (Nat.le_refl _) r) (blkN_below ((Below.refl _ _).alloc (Nat.le_refl _) q) ?_))
    have := blkN_new (w.alloc o) p
    rwa [show (w.alloc o).heap.size = w.heap.size + 1 by simp] at this
  · refine blkN_below ((Below.refl _ _).alloc (Nat.le_refl _) s) (blkN_below ((Below.refl _ _).alloc (Nat.le_refl _) r) ?_)
    have := blkN_new ((w.alloc o).alloc p) q
    rwa [show ((w.alloc o).alloc p).heap.size = w.heap.size + 1 + 1 by simp] at this
  · refine blkN_below ((Below.refl _ _).alloc (Nat.le_refl _) s) ?_
    have := blkN_new (((w.alloc o).alloc p).alloc q) r
    rwa [show (((w.alloc o).alloc p).alloc q).heap.size = w.heap.size + 1 + 1 + 1 by simp] at this
  · have := blkN_new ((((w.alloc o).alloc p).alloc q).alloc r) s
    rwa [show ((((w.alloc o).alloc p).alloc q).alloc r).heap.size = w.heap.size + 1 + 1 + 1 + 1 by simp] at this
theorem info_boolz : (Try.prog.info? 4).map (fun i => (i.zero, i.size, i.bytes)) = some (some (.bool false), 1, 1) := by kernel_rfl
set_option maxRecDepth 100000 in
set_option maxHeartbeats 8000000 in
theorem impl_AbilityTable (s : SV) (rs : List CraneR) (L : SiteL) (lo hi : Nat) (v2 : Value) (rg : List LiftR) (G : LiftsL) (lo2 hi2 : Nat) (w : World) (h : Cranes lo hi w s.v rs L) (hhi : hi ≤ w.heap.size) (hwf : L.wf) (h2 : Lifts lo2 hi2 w v2 rg G) (hwf2 : ∀ x ∈ G, x.1.name.size ≤ maxLen) (hlen : G.length ≤ 1048576) :
    Calls Try.prog 20 #[.agg #[s.v], v2] w (SBRes w (ablL L G).1 (ablL L G).2) := by
  have Hs := Lib.hid h
  have Hg := Lib.hid h2
  have hl1 := h.len
  have hl2 := h2.len
  obtain ⟨⟨a, cap, hsv, hcp, -⟩, -, -⟩ := h
  obtain ⟨⟨a2, cap2, rfl, ⟨hc2, hc2'⟩, -⟩, -, -⟩ := h2
  generalize s.v = sv at *
  subst hsv
  rw [hl1] at hcp Hs ⊢
  rw [hl2] at hc2 Hg ⊢
  have Hl1 := Lib.hid hl1
  have Hl2 := Lib.hid hl2
  clear hl1 hl2
  have hba : Below w.heap.size w (w.alloc (.cells #[.slice a L.length cap] 33 (0, 0))) := (Below.refl _ _).alloc (Nat.le_refl _) _
  have hc0 : (w.alloc (.cells #[.slice a L.length cap] 33 (0, 0))).cell? ⟨w.heap.size, 0, none⟩ = some (.slice a L.length cap) := by rw [Lib.cell_of_heap (blkN_new w _)]; rfl
  have hS := impl_SiteOk ⟨a, L.length, cap⟩ rs L lo hi _ (Hs.out.ext hba) hwf
  simp only [SV.v] at hS
  have hV := fun w' (hb : Below w.heap.size w w') => impl_LiftsOk _ rg G lo2 hi2 w' (Hg.out.ext hb) hwf2 hlen
  clear hwf hwf2
  cases hs : siteB L
  · rw [ablL_f hs]
    rw [hs] at hS
    have HS := Lib.hid hS
    clear hS hV hs hc0
    go_enter Try.func20, Try.ntmps20
    go_wp2_with fail
    refine HS.out.mono ?_
    rintro e w1 ⟨rfl, hb1⟩
    have B1 := hba.trans (hb1.mono hba.size)
    clear hba hb1
    go_wp2
    go_ret2
    exact ⟨_, _, rfl, ssw_nilB, B1⟩
  have Hsok := Lib.hid (siteB_iff.1 hs)
  cases hv : liftsB G
  · rw [ablL_g hs hv]
    rw [hs] at hS
    rw [hv] at hV
    have HS := Lib.hid hS
    have HV := Lib.hid hV
    clear hS hV hs hv hc0
    go_enter Try.func20, Try.ntmps20
    go_wp2_with fail
    refine HS.out.mono ?_
    rintro e w1 ⟨rfl, hb1⟩
    have HB1 := Lib.hid (hba.trans (hb1.mono hba.size))
    clear hba hb1
    go_wp2_with (go_at_call 38; refine (HV.out _ HB1.out).mono ?_; rintro e w2 ⟨rfl, hb2⟩)
    go_ret2
    exact ⟨_, _, rfl, ssw_nilB, HB1.out.trans (hb2.mono HB1.out.size)⟩
  rw [ablL_t hs hv]
  have Hgok := Lib.hid (liftsB_iff.1 hv)
  have hg10 := Hgok.out.2
  have hs6 := Hsok.out.2.2
  rw [hs] at hS
  rw [hv] at hV
  have HS := Lib.hid hS
  have HV := Lib.hid hV
  have HC0 := Lib.hid hc0
  clear hS hV hs hv
  refine (callsIn_wide (n := 3)).1 ?_
  refine callsIn_of_wp_marks Try.func20 rfl trivial ?_ rfl
  simp only [Try.ntmps20, List.size_toArray, List.length_cons, List.length_nil, Nat.reduceAdd, Nat.reduceSub, Array.replicate_succ, Array.replicate_zero, List.push_toArray, List.append_toArray, List.nil_append, List.cons_append]
  gi_wp2_with (refine ⟨trivial, ?_⟩; gi_at_call 37; refine (callsIn_wide.2 HS.out).mono ?_; rintro e w1 ⟨rfl, hb1⟩)
  have HB1 := Lib.hid (hba.trans (hb1.mono hba.size))
  have hlt0 : w.heap.size < w1.heap.size := Nat.lt_of_lt_of_le (by simp) hb1.size
  have HC1 := Lib.hid ((hb1.cell (p := ⟨w.heap.size, 0, none⟩) (by simp)).trans HC0.out)
  clear hba hb1 hc0
  gi_wp2_with (refine ⟨trivial, ?_⟩; gi_at_call 38; refine (callsIn_wide.2 (HV.out _ HB1.out)).mono ?_; rintro e w2 ⟨rfl, hb2⟩)
  have HB2 := Lib.hid (HB1.out.trans (hb2.mono HB1.out.size))
  have HC2 := Lib.hid ((hb2.cell (p := ⟨w.heap.size, 0, none⟩) hlt0).trans HC1.out)
  have hs12 := hb2.size
  have hbase : w.heap.size ≤ w2.heap.size := by omega
  have hlt2 : w.heap.size < w2.heap.size := by omega
  clear hb2 hlt0
  refine wpIn_loop (fun a' w' => ∃ (k : Nat) (rows : List SV) (o : Value) (ds : List Deferred) (u8 u9 u22 u23 u24 u25 u26 u27 u28 u29 u30 u31 u36 u37 u38 u39 u40 : Value), a' = { tmps := #[.agg #[.slice a L.length cap], .slice a2 G.length cap2, .pointer (some ⟨w.heap.size, 0, none⟩), undef, .slice none 0 0, .int .i64 0, o, undef, u8, u9, undef, .agg #[.slice a L.length cap], .bool true, .bool false, .bool false, .slice a2 G.length cap2, .bool true, .bool false, .bool false, .slice a2 G.length cap2, .int .i64 (G.length : Int), .int .i64 (k : Int), u22, u23, u24, u25, u26, u27, u28, u29, u30, u31, undef, undef, undef, undef, u36, u37, u38, u39, u40, undef], defers := ds } ∧ k ≤ G.length ∧ Below w2.heap.size w2 w' ∧ Hid (OwnSS 1 boolCells w2.heap.size 79 4 w' o rows ((ablRows L G).take k)) ∧ Hid (Marks w2.heap.size w'.heap.size ds w')) (fun a' _ => G.length - (intOf (a'.tmps.getD 21 undef)).toNat) ?_ ?_
  · exact ⟨0, [], _, [], _, _, _, _, _, _, _, _, _, _, _, _, _, _, _, _, _, rfl, Nat.zero_le _, Below.refl _ _, Lib.hid (by simpa using ownSS_nil (own_nil _ _ _)), Lib.hid trivial⟩
  rintro a0 wr ⟨k, rows, o, ds, u8, u9, u22, u23, u24, u25, u26, u27, u28, u29, u30, u31, u36, u37, u38, u39, u40, rfl, hk, hB, hown, hmk⟩
  have HBw := Lib.hid (HB2.out.trans (hB.mono HB2.out.size))
  have hBs := hB.size
  have hcs := (hB.cell (p := ⟨w.heap.size, 0, none⟩) hlt2).trans HC2.out
  have hlts := World.block_lt_of_cell? wr _ hcs
  have hlts1 : w.heap.size < wr.heap.size + 1 := by omega
  have hlts2 : w.heap.size < wr.heap.size + 1 + 1 := by omega
  by_cases hlt : k < G.length
  · have hk1 : k < rg.length := by rw [Hl2.out]; exact hlt
    have hgr : Lifts lo2 hi2 wr (.slice a2 G.length cap2) rg G := Hg.out.ext HBw.out
    obtain ⟨hfl, -⟩ := hgr.one hlt hk1
    obtain ⟨b, off, rfl⟩ := (show ∃ b off, a2 = some ⟨b, off, none⟩ from Sl.addr (by have := hgr.out; rw [← Hl2.out] at this; exact this) (by omega))
    obtain ⟨c0, c1, c2, c3, c4, c5, c6, c7, c8⟩ := Lifts_at hgr hk1
    rw [hfl] at c0 c1 c2 c3 c4 c5 c6 c7
    have hpo := Lib.hid (plain_of Hgok.out hlt)
    have Htk := Lib.hid (ablRows_take L G k hlt)
    have hrl : rows.length ≤ 10 := by have := hown.out.len; rw [List.length_take] at this; omega
    have hbw := World.block_lt_of_cell? wr _ c0
    clear hgr hfl
    generalize rg[k].s = sk at *
    obtain ⟨sa, sl, sc⟩ := sk
    generalize G[k] = x at *
    obtain ⟨⟨x0, x1, x2, x3, x4, x5, x6, x7⟩, xa⟩ := x
    simp only [SV.v, LiftR.cells] at *
    have HA := Lib.hid (fun w' => impl_Ables (.slice a L.length cap) ⟨x0, x1, x2, x3, x4, x5, x6, x7⟩ ⟨sa, sl, sc⟩ w')
    have HT := Lib.hid (fun (w' : World) (p q : Nat) hp hq (hb : Below w.heap.size w w') => abl_stopsF 2 (by omega) p q w.heap.size a cap rs L lo hi ⟨x0, x1, x2, x3, x4, x5, x6, x7⟩ ⟨sa, sl, sc⟩ w' hb.size hhi hp hq (Hs.out.ext hb) Hsok.out hpo.out)
    simp only [SV.v, LiftR.cells] at HA HT
    have hmake := run_make_row' (P := Try.prog) 79 4 (.bool false) 1 Try.underlying79 info_boolz rfl .i64 .i64 L.length (by omega) (by omega) (wr.alloc (.cells #[.string x0, .int .i64 x1, .int .i64 x2, .int .i64 x3, .int .i64 x4, .int .i64 x5, .int .i64 x6, .int .i64 x7, .slice sa sl sc] 70 (0, 0)))
    gi_wp2_with (refine ⟨trivial, ?_⟩; gi_at_call 45; refine (callsIn_wide.2 (HA.out _)).mono ?_; rintro e w' ⟨rfl, rfl⟩)
    obtain ⟨WL, hWL, l1, l2, l3, l4, hB0, hz⟩ := five_bx wr (.cells #[.string x0, .int .i64 x1, .int .i64 x2, .int .i64 x3, .int .i64 x4, .int .i64 x5, .int .i64 x6, .int .i64 x7, .slice sa sl sc] 70 (0, 0)) (.cells (madeCells #[.bool false] L.length) 4 (0, 0)) (.cells #[(.slice (some ⟨wr.heap.size + 1, 0, none⟩) L.length L.length)] 79 (0, 0)) (.cells #[.slice a L.length cap] 33 (0, 0)) (.cells #[.string x0, .int .i64 x1, .int .i64 x2, .int .i64 x3, .int .i64 x4, .int .i64 x5, .int .i64 x6, .int .i64 x7, .slice sa sl sc] 70 (0, 0))
    have hr0 : WL.rowIs (wr.heap.size + 1) 4 L.length (fun _ => .bool false) := ⟨_, l1, size_madeCells _ _, fun i hi => by simp [madeCells, hi, Nat.mod_one]⟩
    have c9 : WL.cell? ⟨wr.heap.size + 1 + 1, 0, none⟩ = some (.slice (some ⟨wr.heap.size + 1, 0, none⟩) L.length L.length) := by rw [Lib.cell_of_heap l2]; rfl
    rw [hWL]
    have hBW0 := HBw.out.trans (hB0.mono HBw.out.size)
    have Hrl := Lib.hid hrl
    clear hWL l1 l2 hmake c0 c1 c2 c3 c4 c5 c6 c7 c8 hcs hrl
    refine wpIn_rangeFunc_ownF rfl (by omega) (gf := 73) (lb := #[.pointer (some ⟨wr.heap.size + 1 + 1 + 1, 0, none⟩), .pointer (some ⟨wr.heap.size + 1 + 1 + 1 + 1, 0, none⟩)]) rfl trivial (enters_of Try.func73 (by kernel_rfl) rfl)
      (HT.out WL _ _ l3 l4 hBW0) KpA.t (KpA.b (by have := hBW0.size; omega)) (Below.refl _ _) (fun _ => rfl)
      (fun pre W => (W.rowIs (wr.heap.size + 1) 4 L.length (rowF pre) ∧ W.cell? ⟨wr.heap.size + 1 + 1, 0, none⟩ = some (.slice (some ⟨wr.heap.size + 1, 0, none⟩) L.length L.length)) ∧ Below wr.heap.size wr W)
      (fun _ _ _ => False)
      (OwnFrom.and (Own.from (fun s A B row hs hg hr => ⟨rowKp hs.1 (KpC.grown hg hr), cell_kept hs.2 hg hr⟩) _) (ownFrom_below (Nat.le_refl _) (by omega)))
      (fun _ _ _ _ _ hs _ _ => hs)
      ⟨⟨hr0.congr (fun i _ => (rowF_nil i).symm), c9⟩, hB0⟩
      (fun x => { tmps := #[.agg #[.slice a L.length cap], .slice (some ⟨b, off, none⟩) G.length cap2, .pointer (some ⟨w.heap.size, 0, none⟩), undef, .slice none 0 0, .int .i64 0, o, undef, .pointer (some ⟨wr.heap.size, 0, none⟩), .pointer (some ⟨wr.heap.size + 1 + 1, 0, none⟩), .int .i64 ((x.1 : Nat) : Int), .agg #[.slice a L.length cap], .bool true, .bool false, .bool false, .slice (some ⟨b, off, none⟩) G.length cap2, .bool true, .bool false, .bool false, .slice (some ⟨b, off, none⟩) G.length cap2, .int .i64 (G.length : Int), .int .i64 (k : Int), .bool true, .pointer (some ⟨b, off + k * 9, none⟩), .agg #[.string x0, .int .i64 x1, .int .i64 x2, .int .i64 x3, .int .i64 x4, .int .i64 x5, .int .i64 x6, .int .i64 x7, .slice sa sl sc], .pointer (some ⟨w.heap.size, 0, none⟩), .slice a L.length cap, .int .i64 (L.length : Int), (.slice (some ⟨wr.heap.size + 1, 0, none⟩) L.length L.length), .agg #[.slice a L.length cap], .agg #[.string x0, .int .i64 x1, .int .i64 x2, .int .i64 x3, .int .i64 x4, .int .i64 x5, .int .i64 x6, .int .i64 x7, .slice sa sl sc], .func (.func 73) #[] #[.pointer (some ⟨wr.heap.size + 1 + 1 + 1, 0, none⟩), .pointer (some ⟨wr.heap.size + 1 + 1 + 1 + 1, 0, none⟩)], .int .i64 ((x.1 : Nat) : Int), undef, undef, undef, u36, u37, u38, u39, u40, undef], defers := [] }) ?assign ?body ?done ?stop
    case assign =>
      intro l x W K hK
      gi_wp2
      first | exact hK | simpa using hK
    case body =>
      rintro l pre x W ⟨⟨hrow, hbox⟩, hB'⟩ _
      have hx := x.2
      have cr := hrow.cell hx
      have fr := hrow.frozen x.1
      have Hrow := Lib.hid hrow
      clear hrow
      gi_wp2
      refine ⟨KeepsOthers.setCell _ _ _, ⟨(Below.refl w.heap.size W).setCell (p := ⟨wr.heap.size + 1, x.1, none⟩) (by simp only []; omega) _, fun c t f e => (Below.heap_setCell _ _ _ _ (by simp only []; omega)).trans e, fun c t f e => (Below.heap_setCell _ _ _ _ (by simp only []; omega)).trans e⟩, ⟨(Hrow.out.set x.1 (.bool true)).congr (fun i _ => (rowF_put pre x i).symm), (World.cell?_setCell_far _ _ _ _ (by simp only []; omega)).trans hbox⟩, hB'.setCell (p := ⟨wr.heap.size + 1, x.1, none⟩) (by simp only []; omega) _⟩
    case stop =>
      rintro D c pre W hD hpre hf hK
      exact hf.elim
    case done =>
      rintro D ys W hD rfl ⟨⟨hrow, hbox⟩, hBW⟩ hK
      have hown2 := Lib.hid (hown.out.below hBW)
      have hrl := Hrl.out
      have hBo := hB.trans (hBW.mono hBs)
      have hBos := hBo.size
      have hr1 := own_row (lo := wr.heap.size) hrow (ablRow_len L ⟨x0, x1, x2, x3, x4, x5, x6, x7⟩ L.length) (fun i hi => by rw [rowF_end L _ (by rw [ablRow_len] at hi; exact hi)]; simp [ablRow]) (by omega) (by unfold maxLen; omega)
      have hpush := Lib.hid (fun v' w3 h1 h2 => OwnSS.push (te := 79) (r := ⟨some ⟨wr.heap.size + 1, 0, none⟩, L.length, L.length⟩) (by decide) hown.out hBs hBW hr1 (v' := v') (w2 := w3) h1 h2)
      have hmk2 := Lib.hid ((hmk.out.below hBW).up (hi' := D) (by omega))
      clear hr1 hrow
      gi_wp2_with (gi_at_builtin; refine wpListIn_app1 (c := one) (bytes := 24) rfl _ _ 44 79 rfl Try.underlying44 info_SBa (by omega) one_len one_one w2.heap.size rows ⟨some ⟨wr.heap.size + 1, 0, none⟩, L.length, L.length⟩ _ rfl _ rfl hown2.out.out rfl (by omega) (by omega) hBos ?_; intro v' w3 hown3 hg3; have hB3 := hown2.out.out.app hBo (Nat.le_refl _) hBos hg3)
      have hD3 := defer_kept hown2.out.out hg3 hK
      have hm3 := hmk2.out.keep (fun D' _ e => defer_kept hown2.out.out hg3 e)
      have Hown3 := hpush.out _ _ hown3 hg3
      refine ⟨⟨k + 1, rows ++ [⟨some ⟨wr.heap.size + 1, 0, none⟩, L.length, L.length⟩], v', { target := .collected D, args := #[] } :: ds, _, _, _, _, _, _, _, _, _, _, _, _, _, _, _, _, _, rfl, by omega, hB3, Lib.hid (by rw [Htk.out]; exact Hown3), Lib.hid ⟨D, rfl, by omega, (Array.getElem?_eq_some_iff.1 hD3).1, hD3, hm3⟩⟩, ?_⟩
      simp [intOf]; omega
  · obtain rfl : k = G.length := by omega
    have hpl := Lib.hid (show (ablRows L G).take G.length = ablRows L G by rw [← ablRows_len L G, List.take_length])
    have hown' : Hid (OwnSS 1 boolCells w2.heap.size 79 4 wr o rows (ablRows L G)) := Lib.hid (by rw [← hpl.out]; exact hown.out)
    gi_wp2
    refine marks_leave ds _ _ hmk.out fun W' hb' hk' => ?_
    refine ⟨_, results_tmp2 rfl _ _ _, ?_⟩
    exact ⟨_, _, rfl, ((ownSSKp hown'.out hk').w boolCells_len (by decide)).wider hbase, HBw.out.trans (hb'.mono hbase)⟩
end
end Go.Proofs.Ytdadadiipmenbaa
