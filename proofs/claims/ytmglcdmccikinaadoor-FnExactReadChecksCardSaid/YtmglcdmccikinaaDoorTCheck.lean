/- Check: its reading, and the laws' helpers. -/
import Derived.Test.YtmglcdmccikinaaDoorChecked
import Derived.Test.YtmglcdmccikinaaDoorOpen
import Derived.Test.YtmglcdmccikinaaDoorMarkT
namespace Go.Proofs.YtmglcdmccikinaaDoor
open Go.RowKit Go.WideShapes Go.ChangeShapes
structure Chk where
  crane : Int
  name : ByteArray
  every : Int
  last : Int
deriving DecidableEq

def Chk.cells (x : Chk) : List Value := [.int .i64 x.crane, .string x.name, .int .i64 x.every, .int .i64 x.last]
abbrev Chks := Sl 4 Chk.cells
theorem Chk.len (x : Chk) : x.cells.length = 4 := rfl
theorem Chks.at {w : World} {b off : Nat} {l : List Chk} (hc : ∀ i (h : i < l.length) j u, (Chk.cells l[i])[j]? = some u → w.cell? ⟨b, off + i * 4 + j, none⟩ = some u) {k : Nat} (hk : k < l.length) :
    w.cell? ⟨b, off + k * 4, none⟩ = some (.int .i64 l[k].crane) ∧ w.cell? ⟨b, off + k * 4 + 1, none⟩ = some (.string l[k].name) ∧ w.cell? ⟨b, off + k * 4 + 2, none⟩ = some (.int .i64 l[k].every) ∧ w.cell? ⟨b, off + k * 4 + 3, none⟩ = some (.int .i64 l[k].last) :=
  ⟨hc k hk 0 _ rfl, hc k hk 1 _ rfl, hc k hk 2 _ rfl, hc k hk 3 _ rfl⟩
def Chk.wf (x : Chk) : Prop := I64 x.crane ∧ x.name.size ≤ maxLen ∧ I64 x.every ∧ I64 x.last
instance : Inhabited Chk := ⟨⟨0, ByteArray.empty, 0, 0⟩⟩
set_option maxHeartbeats 1000000 in
theorem law_eqCheck (x : Chk) (w : World) :
    Calls Tryd.prog 18 #[.agg x.cells.toArray, .agg x.cells.toArray] w fun e w' => e = .returned (.bool true) ∧ Below w.heap.size w w' := by
  obtain ⟨x0, x1, x2, x3⟩ := x
  simp only [Chk.cells]
  go_enter Tryd.func18, Tryd.ntmps18
  go_wp2
  go_ret
  exact ⟨rfl, ((Below.refl _ _).alloc (Nat.le_refl _) _).alloc (by simp) _⟩
set_option maxHeartbeats 1000000 in
theorem law_eqCheckS (v v2 : Value) (l : List Chk) (lo hi lo2 hi2 : Nat) (w : World) (h : Chks lo hi w v l) (h2 : Chks lo2 hi2 w v2 l) :
    Calls Tryd.prog 6 #[v, v2] w fun e w' => e = .returned (.bool true) ∧ Below w.heap.size w w' := by
  have hsl := h
  have hsl2 := h2
  obtain ⟨a, cap, rfl, hlen, hh⟩ := h
  obtain ⟨a2, cap2, rfl, _, hh2⟩ := h2
  clear hh hh2
  go_enter Tryd.func6, Tryd.ntmps6
  go_wp2
  go_loopw [5] (fun i wr => ∃ k : Nat, k ≤ l.length ∧ i = .int .i64 k ∧ Below w.heap.size w wr) (fun i _ => l.length - (intOf i).toNat)
  case atStart => exact ⟨0, Nat.zero_le _, rfl, Below.refl _ _⟩
  case round =>
    obtain ⟨k, hk, rfl, hB⟩ := hrel
    by_cases hlt : k < l.length
    · skip
      obtain ⟨a', cap', hv, _, hh⟩ := hsl.ext hB
      cases hv
      obtain ⟨b, off, rfl, _, _, hc⟩ := hh (by omega)
      obtain ⟨c0, c1, c2, c3⟩ := Chks.at hc hlt
      obtain ⟨a', cap', hv, _, hh2⟩ := hsl2.ext hB
      cases hv
      obtain ⟨b2, off2, rfl, _, _, hc2⟩ := hh2 (by omega)
      obtain ⟨d0, d1, d2, d3⟩ := Chks.at hc2 hlt
      clear hc hh hsl hc2 hh2 hsl2
      generalize l[k] = x at *
      go_wp2_with fail
      have hb0 := World.block_lt_of_cell? wr _ c0
      have hb2 := World.block_lt_of_cell? wr _ d0
      go_region_held3 (fun w' => (∀ b o, b < wr.heap.size → w'.cell? ⟨b, o, none⟩ = wr.cell? ⟨b, o, none⟩) ∧ Below wr.heap.size wr w') (first | exact held0 _ | exact heldS (w1 := wr.drew) (Below.refl _ _).drew (by assumption)) (first | (go_at_call 18; refine (law_eqCheck x _).mono ?_; rintro e w1 ⟨rfl, hb1⟩))
      go_wp2
      go_roundw
      case rel => exact ⟨k + 1, by omega, by go_num, hB.drew.trans (hb1.mono hB.size)⟩
      case measure => simp [intOf]; omega
    · go_wp2
      go_ret
      exact ⟨rfl, hB⟩
def markChk (k : Nat) : Chk := ⟨((k : Nat) : Int), markB (k + 1), ((k + 2 : Nat) : Int), ((k + 3 : Nat) : Int)⟩
def marksChk (n k : Nat) : List Chk := (List.range n).map fun i => markChk (k + i * 4)
theorem marksChk_len (n k : Nat) : (marksChk n k).length = n := by simp [marksChk]
theorem marksChk_get {n k i : Nat} (h : i < (marksChk n k).length) : (marksChk n k)[i] = markChk (k + i * 4) := by simp [marksChk]
theorem marksChk_row {n k i : Nat} (h : i < n) : (marksChk n k)[i]? = some (markChk (k + i * 4)) := by simp [marksChk, h]
set_option maxRecDepth 100000 in
set_option maxHeartbeats 2000000 in
theorem law_markCheckS (v : Value) (l : List Chk) (lo hi k : Nat) (w : World) (h : Slw 4 Chk.cells lo hi w v l) (hhi : hi ≤ w.heap.size) (hk : 1 ≤ k) (hkb : k + l.length * 4 ≤ 1099511627776) :
    Calls Tryd.prog 7 #[v, .int .i64 k] w fun e w' => e = .returned (.int .i64 ((k + l.length * 4 : Nat) : Int)) ∧ Slw 4 Chk.cells lo hi w' v (marksChk l.length k) ∧ Mod lo hi w w' := by
  by_cases h0 : 0 < l.length
  · obtain ⟨b, off, cap, rfl, hcap, hraw⟩ := Raw.of h Chk.len h0
    have hlen : l.length ≤ 1099511627776 := by omega
    have Hr0 := Lib.hid hraw
    have hlo := hraw.lo
    have hhb := hraw.hi
    clear hraw h
    go_enter Tryd.func7, Tryd.ntmps7
    go_wp2
    go_loopw [1, 5] (fun s i wr => ∃ j : Nat, j ≤ l.length ∧ i = .int .i64 j ∧ s = .int .i64 ((k : Int) + j * 4) ∧ Mod lo hi w wr ∧ ∃ rows, Hid (rows.length = l.length) ∧ Hid (Raw 4 lo hi wr b off rows) ∧ Hid (∀ i, i < j → rows[i]? = some (Chk.cells (markChk (k + i * 4))))) (fun _ i _ => l.length - (intOf i).toNat)
    case atStart => exact ⟨0, Nat.zero_le _, rfl, by go_num, Mod.refl _ _ _, _, Lib.hid (by simp), Hr0, Lib.hid (fun i hi => absurd hi (by omega))⟩
    case round =>
      obtain ⟨j, hj, rfl, rfl, hM, rows, hrl, hrw, hdone⟩ := hrel
      by_cases hlt : j < l.length
      · have hjr : j < rows.length := by rw [hrl.out]; exact hlt
        have hRaw := hrw.out.self hjr
        obtain ⟨r0, r1, r2, r3, hrow⟩ : ∃ r0 r1 r2 r3, rows[j] = [r0, r1, r2, r3] := by
          have h4 := hrw.out.len j hjr
          match rows[j], h4 with
          | [r0, r1, r2, r3], _ => exact ⟨_, _, _, _, rfl⟩
        rw [hrow] at hRaw
        have hMs := hM.size
        clear hrow Hr0
        have c0 := hRaw.cell j (by simpa using hjr) 0 (r0) (by simp)
        have c1 := hRaw.cell j (by simpa using hjr) 1 (r1) (by simp)
        have c2 := hRaw.cell j (by simpa using hjr) 2 (r2) (by simp)
        have c3 := hRaw.cell j (by simpa using hjr) 3 (r3) (by simp)
        simp only [Nat.add_zero] at c0
        have cz := hRaw.free
        have HR := Lib.hid hRaw
        clear hRaw
        go_wp2_with fail
        have hMid := trivial
        rw [show ((k : Int) + (j : Int) * 4 + 1) = ((k + j * 4 + 1 : Nat) : Int) from by omega]
        refine (law_markText (k + j * 4 + 1) _ (by omega) (by omega)).mono ?_
        rintro e w1 ⟨rfl, hb1⟩
        have hRaw := ((HR.out.store (j := 0) hjr (by omega) (by omega))).ext (by simp; omega) hb1
        have hM := ((hM.setCell hlo hhb _)).then hb1
        clear HR cz c0 c1 c2 c3
        simp only [List.set_cons_zero] at hRaw
        have c0 := hRaw.cell j (by simpa using hjr) 0 _ (by simp; rfl)
        have c1 := hRaw.cell j (by simpa using hjr) 1 (r1) (by simp)
        have c2 := hRaw.cell j (by simpa using hjr) 2 (r2) (by simp)
        have c3 := hRaw.cell j (by simpa using hjr) 3 (r3) (by simp)
        simp only [Nat.add_zero] at c0
        have cz := hRaw.free
        have HR := Lib.hid hRaw
        clear hRaw
        have hMs := hM.size
        go_wp2
        go_roundw
        case rel =>
          refine ⟨j + 1, by omega, by go_num, by go_num, (((hM.setCell hlo hhb _).setCell hlo hhb _).setCell hlo hhb _), _, Lib.hid (by rw [List.length_set]; exact hrl.out), Lib.hid (((HR.out.store (j := 1) hjr (by omega) (by omega)).store (j := 2) hjr (by omega) (by omega)).store (j := 3) hjr (by omega) (by omega)), Lib.hid ?_⟩
          intro i hi
          rw [List.getElem?_set]
          by_cases hij : j = i
          · subst hij
            rw [if_pos rfl, if_pos hjr]
            simp only [List.set_cons_zero, List.set_cons_succ, Chk.cells, markChk]
            congr
            all_goals first | rfl | omega | skip
          · rw [if_neg hij]
            exact hdone.out i (by omega)
        case measure => simp [intOf]; omega
      · have : j = l.length := by omega
        subst this
        have Hfin : Hid (Slw 4 Chk.cells lo hi wr (.slice (some ⟨b, off, none⟩) l.length cap) (marksChk l.length k)) := Lib.hid (hrw.out.back _ (fun i hi => by
          rw [marksChk_get hi]; exact hdone.out i (by rw [marksChk_len] at hi; exact hi)) (by rw [marksChk_len]) (by rw [marksChk_len]; exact hcap))
        go_wp2
        go_ret
        exact ⟨ret_int (by omega), Hfin.out, hM⟩
  · have he : l = [] := by cases l with | nil => rfl | cons x r => simp at h0
    subst he
    have hS := Lib.hid h
    obtain ⟨⟨a, cap, rfl, hlen, hh⟩, hz⟩ := h
    clear hh hz
    go_enter Tryd.func7, Tryd.ntmps7
    go_wp2
    go_loopw [1, 5] (fun s i wr => i = .int .i64 0 ∧ s = .int .i64 k ∧ wr = w) (fun _ i _ => 0)
    case atStart => exact ⟨rfl, rfl, rfl⟩
    case round =>
      obtain ⟨rfl, rfl, rfl⟩ := hrel
      go_wp2
      go_ret
      exact ⟨ret_int (by simp), hS.out, Mod.refl _ _ _⟩
set_option maxRecDepth 100000 in
set_option maxHeartbeats 2000000 in
theorem law_heldCheckS (v : Value) (lo hi m k : Nat) (w : World) (h : Chks lo hi w v (marksChk m k)) (hk : 1 ≤ k) (hkb : k + m * 4 ≤ 1099511627776) :
    Calls Tryd.prog 8 #[v, .int .i64 k] w fun e w' => e = .returned (.int .i64 ((k + m * 4 : Nat) : Int)) ∧ Below w.heap.size w w' := by
  have hsl := h
  obtain ⟨a, cap, rfl, hlen, hh⟩ := h
  clear hh
  have hml := marksChk_len m k
  rw [hml]
  have Hml := Lib.hid hml
  clear hml hlen
  have hmb : m ≤ 1099511627776 := by omega
  go_enter Tryd.func8, Tryd.ntmps8
  go_wp2
  go_loopw [1, 5] (fun s i wr => ∃ j : Nat, j ≤ m ∧ i = .int .i64 j ∧ s = .int .i64 ((k : Int) + j * 4) ∧ Below w.heap.size w wr) (fun _ i _ => m - (intOf i).toNat)
  case atStart => exact ⟨0, Nat.zero_le _, rfl, by go_num, Below.refl _ _⟩
  case round =>
    obtain ⟨j, hj, rfl, rfl, hB⟩ := hrel
    by_cases hlt : j < m
    · have hlt2 : j < (marksChk m k).length := by rw [Hml.out]; exact hlt
      obtain ⟨a', cap', hv, _, hh⟩ := hsl.ext hB
      cases hv
      obtain ⟨b, off, rfl, _, _, hc⟩ := hh (by omega)
      obtain ⟨c0, c1, c2, c3⟩ := Chks.at hc hlt2
      clear hc hh hsl
      simp only [marksChk_get, markChk] at c0 c1 c2 c3
      have hb0 := World.block_lt_of_cell? wr _ c0
      have hBs := hB.size
      have q0 : (((k + j * 4 : Nat) : Int)) = (k : Int) + (j : Int) * 4 := by omega
      rw [q0] at c0
      clear q0
      have q2 : (((k + j * 4 + 2 : Nat) : Int)) = (k : Int) + (j : Int) * 4 + 2 := by omega
      rw [q2] at c2
      clear q2
      have q3 : (((k + j * 4 + 3 : Nat) : Int)) = (k : Int) + (j : Int) * 4 + 3 := by omega
      rw [q3] at c3
      clear q3
      have z1 : ((k : Int) + (j : Int) * 4 + 1).toNat = k + j * 4 + 1 := by omega
      go_wp2_with fail
      go_region_held3 (fun w' => (∀ b o, b < wr.heap.size → w'.cell? ⟨b, o, none⟩ = wr.cell? ⟨b, o, none⟩) ∧ Below wr.heap.size wr w') (first | exact held0 _ | exact heldS (w1 := wr.drew) (Below.refl _ _).drew (by assumption))
        (first | (go_at_call 19; refine (law_markTextI _ _ (by omega) (by omega)).mono ?_; rintro e w1 ⟨rfl, hb1⟩))
      have hB1 := (Below.refl wr.heap.size wr).drew.trans hb1
      clear hb1
      have d0 := (hB1.cell (p := ⟨b, off + j * 4, none⟩) hb0).trans c0
      clear c0
      have c0 := d0
      clear d0
      have d1 := (hB1.cell (p := ⟨b, off + j * 4 + 1, none⟩) hb0).trans c1
      clear c1
      have c1 := d1
      clear d1
      have d2 := (hB1.cell (p := ⟨b, off + j * 4 + 2, none⟩) hb0).trans c2
      clear c2
      have c2 := d2
      clear d2
      have d3 := (hB1.cell (p := ⟨b, off + j * 4 + 3, none⟩) hb0).trans c3
      clear c3
      have c3 := d3
      clear d3
      have hb0' := Nat.lt_of_lt_of_le hb0 hB1.size
      clear hb0
      have hb0 := hb0'
      clear hb0'
      have hBn := hB.trans (hB1.mono hBs)
      clear hB hBs
      have hB := hBn
      have hBs := hB.size
      clear hBn
      go_wp2
      go_roundw
      case rel => exact ⟨j + 1, by omega, by go_num, by go_num, hB⟩
      case measure => simp [intOf]; omega
    · have : j = m := by omega
      subst this
      go_wp2
      go_ret
      exact ⟨ret_int (by omega), hB⟩
end Go.Proofs.YtmglcdmccikinaaDoor
