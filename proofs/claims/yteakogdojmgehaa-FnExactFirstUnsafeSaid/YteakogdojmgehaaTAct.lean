/- Act: its reading, and the laws' helpers. -/
import Derived.Test.YteakogdojmgehaaChecked
import Derived.Test.YteakogdojmgehaaOpen
import Derived.Test.YteakogdojmgehaaMark
namespace Go.Proofs.Yteakogdojmgehaa
open Go.RowKit Go.WideShapes Go.ChangeShapes
structure Act1 where
  turnA : Int
  turnB : Int
  loseA : Bool
  loseB : Bool
deriving DecidableEq

def Act1.cells (x : Act1) : List Value := [.int .i64 x.turnA, .int .i64 x.turnB, .bool x.loseA, .bool x.loseB]
abbrev Act1s := Sl 4 Act1.cells
theorem Act1.len (x : Act1) : x.cells.length = 4 := rfl
theorem Act1s.at {w : World} {b off : Nat} {l : List Act1} (hc : ∀ i (h : i < l.length) j u, (Act1.cells l[i])[j]? = some u → w.cell? ⟨b, off + i * 4 + j, none⟩ = some u) {k : Nat} (hk : k < l.length) :
    w.cell? ⟨b, off + k * 4, none⟩ = some (.int .i64 l[k].turnA) ∧ w.cell? ⟨b, off + k * 4 + 1, none⟩ = some (.int .i64 l[k].turnB) ∧ w.cell? ⟨b, off + k * 4 + 2, none⟩ = some (.bool l[k].loseA) ∧ w.cell? ⟨b, off + k * 4 + 3, none⟩ = some (.bool l[k].loseB) :=
  ⟨hc k hk 0 _ rfl, hc k hk 1 _ rfl, hc k hk 2 _ rfl, hc k hk 3 _ rfl⟩
def Act1.wf (x : Act1) : Prop := I64 x.turnA ∧ I64 x.turnB ∧ True ∧ True
instance : Inhabited Act1 := ⟨⟨0, 0, false, false⟩⟩
set_option maxHeartbeats 1000000 in
theorem law_eqAct (x : Act1) (w : World) :
    Calls Try.prog 98 #[.agg x.cells.toArray, .agg x.cells.toArray] w fun e w' => e = .returned (.bool true) ∧ Below w.heap.size w w' := by
  obtain ⟨x0, x1, x2, x3⟩ := x
  simp only [Act1.cells]
  go_enter Try.func98, Try.ntmps98
  go_wp2
  go_ret
  exact ⟨rfl, ((Below.refl _ _).alloc (Nat.le_refl _) _).alloc (by simp) _⟩
set_option maxHeartbeats 1000000 in
theorem law_eqActS (v v2 : Value) (l : List Act1) (lo hi lo2 hi2 : Nat) (w : World) (h : Act1s lo hi w v l) (h2 : Act1s lo2 hi2 w v2 l) :
    Calls Try.prog 43 #[v, v2] w fun e w' => e = .returned (.bool true) ∧ Below w.heap.size w w' := by
  have hsl := h
  have hsl2 := h2
  obtain ⟨a, cap, rfl, hlen, hh⟩ := h
  obtain ⟨a2, cap2, rfl, _, hh2⟩ := h2
  clear hh hh2
  go_enter Try.func43, Try.ntmps43
  go_wp2
  go_loopw [5] (fun i wr => ∃ k : Nat, k ≤ l.length ∧ i = .int .i64 k ∧ Below w.heap.size w wr) (fun i _ => l.length - (intOf i).toNat)
  case atStart => exact ⟨0, Nat.zero_le _, rfl, Below.refl _ _⟩
  case round =>
    obtain ⟨k, hk, rfl, hB⟩ := hrel
    by_cases hlt : k < l.length
    · skip
      obtain ⟨a', cap', hv, _, hh⟩ := hsl.ext hB
      cases hv
      obtain ⟨b, off, rfl, _, _, hc⟩ := hh (by omega)
      obtain ⟨c0, c1, c2, c3⟩ := Act1s.at hc hlt
      obtain ⟨a', cap', hv, _, hh2⟩ := hsl2.ext hB
      cases hv
      obtain ⟨b2, off2, rfl, _, _, hc2⟩ := hh2 (by omega)
      obtain ⟨d0, d1, d2, d3⟩ := Act1s.at hc2 hlt
      clear hc hh hsl hc2 hh2 hsl2
      generalize l[k] = x at *
      go_wp2_with fail
      have hb0 := World.block_lt_of_cell? wr _ c0
      have hb2 := World.block_lt_of_cell? wr _ d0
      go_region_held3 (fun w' => (∀ b o, b < wr.heap.size → w'.cell? ⟨b, o, none⟩ = wr.cell? ⟨b, o, none⟩) ∧ Below wr.heap.size wr w') (first | exact held0 _ | exact heldS (w1 := wr.drew) (Below.refl _ _).drew (by assumption)) (first | (go_at_call 98; refine (law_eqAct x _).mono ?_; rintro e w1 ⟨rfl, hb1⟩))
      go_wp2
      go_roundw
      case rel => exact ⟨k + 1, by omega, by go_num, hB.drew.trans (hb1.mono hB.size)⟩
      case measure => simp [intOf]; omega
    · go_wp2
      go_ret
      exact ⟨rfl, hB⟩
def markAct1 (k : Nat) : Act1 := ⟨((k : Nat) : Int), ((k + 1 : Nat) : Int), decide ((k + 2) % 3 = 0), decide ((k + 3) % 3 = 0)⟩
def marksAct1 (n k : Nat) : List Act1 := (List.range n).map fun i => markAct1 (k + i * 4)
theorem marksAct1_len (n k : Nat) : (marksAct1 n k).length = n := by simp [marksAct1]
theorem marksAct1_get {n k i : Nat} (h : i < (marksAct1 n k).length) : (marksAct1 n k)[i] = markAct1 (k + i * 4) := by simp [marksAct1]
theorem marksAct1_row {n k i : Nat} (h : i < n) : (marksAct1 n k)[i]? = some (markAct1 (k + i * 4)) := by simp [marksAct1, h]
set_option maxRecDepth 100000 in
set_option maxHeartbeats 2000000 in
theorem law_markActS (v : Value) (l : List Act1) (lo hi k : Nat) (w : World) (h : Slw 4 Act1.cells lo hi w v l) (hhi : hi ≤ w.heap.size) (hk : 1 ≤ k) (hkb : k + l.length * 4 ≤ 1099511627776) :
    Calls Try.prog 45 #[v, .int .i64 k] w fun e w' => e = .returned (.int .i64 ((k + l.length * 4 : Nat) : Int)) ∧ Slw 4 Act1.cells lo hi w' v (marksAct1 l.length k) ∧ Mod lo hi w w' := by
  by_cases h0 : 0 < l.length
  · obtain ⟨b, off, cap, rfl, hcap, hraw⟩ := Raw.of h Act1.len h0
    have hlen : l.length ≤ 1099511627776 := by omega
    have Hr0 := Lib.hid hraw
    have hlo := hraw.lo
    have hhb := hraw.hi
    clear hraw h
    go_enter Try.func45, Try.ntmps45
    go_wp2
    go_loopw [1, 5] (fun s i wr => ∃ j : Nat, j ≤ l.length ∧ i = .int .i64 j ∧ s = .int .i64 ((k : Int) + j * 4) ∧ Mod lo hi w wr ∧ ∃ rows, Hid (rows.length = l.length) ∧ Hid (Raw 4 lo hi wr b off rows) ∧ Hid (∀ i, i < j → rows[i]? = some (Act1.cells (markAct1 (k + i * 4))))) (fun _ i _ => l.length - (intOf i).toNat)
    case atStart => exact ⟨0, Nat.zero_le _, rfl, by go_num, Mod.refl _ _ _, _, Lib.hid (by simp), Hr0, Lib.hid (fun i hi => absurd hi (by omega))⟩
    case round =>
      obtain ⟨j, hj, rfl, rfl, hM, rows, hrl, hrw, hdone⟩ := hrel
      by_cases hlt : j < l.length
      · have hjr : j < rows.length := by rw [hrl.out]; exact hlt
        have hRaw := hrw.out.self hjr
        obtain ⟨r0, r1, r2, r3, hrow⟩ : ∃ r0 r1 r2 r3, rows[j] = [r0, r1, r2, r3] := by
          have h4 := hrw.out.len j hjr
          match rows[j], h4 with
          | [r0, r1, r2, r3], _ => exact ⟨_, _, _, _, rfl⟩
        rw [hrow] at hRaw
        have hMs := hM.size
        clear hrow Hr0
        have c0 := hRaw.cell j (by simpa using hjr) 0 (r0) (by simp)
        have c1 := hRaw.cell j (by simpa using hjr) 1 (r1) (by simp)
        have c2 := hRaw.cell j (by simpa using hjr) 2 (r2) (by simp)
        have c3 := hRaw.cell j (by simpa using hjr) 3 (r3) (by simp)
        simp only [Nat.add_zero] at c0
        have cz := hRaw.free
        have HR := Lib.hid hRaw
        clear hRaw
        go_wp2
        go_roundw
        case rel =>
          refine ⟨j + 1, by omega, by go_num, by go_num, ((((hM.setCell hlo hhb _).setCell hlo hhb _).setCell hlo hhb _).setCell hlo hhb _), _, Lib.hid (by rw [List.length_set]; exact hrl.out), Lib.hid ((((HR.out.store (j := 0) hjr (by omega) (by omega)).store (j := 1) hjr (by omega) (by omega)).store (j := 2) hjr (by omega) (by omega)).store (j := 3) hjr (by omega) (by omega)), Lib.hid ?_⟩
          intro i hi
          rw [List.getElem?_set]
          by_cases hij : j = i
          · subst hij
            rw [if_pos rfl, if_pos hjr]
            simp only [List.set_cons_zero, List.set_cons_succ, Act1.cells, markAct1]
            congr
            all_goals first | rfl | omega | (rw [Bool.eq_iff_iff]; simp; omega) | skip
          · rw [if_neg hij]
            exact hdone.out i (by omega)
        case measure => simp [intOf]; omega
      · have : j = l.length := by omega
        subst this
        have Hfin : Hid (Slw 4 Act1.cells lo hi wr (.slice (some ⟨b, off, none⟩) l.length cap) (marksAct1 l.length k)) := Lib.hid (hrw.out.back _ (fun i hi => by
          rw [marksAct1_get hi]; exact hdone.out i (by rw [marksAct1_len] at hi; exact hi)) (by rw [marksAct1_len]) (by rw [marksAct1_len]; exact hcap))
        go_wp2
        go_ret
        exact ⟨ret_int (by omega), Hfin.out, hM⟩
  · have he : l = [] := by cases l with | nil => rfl | cons x r => simp at h0
    subst he
    have hS := Lib.hid h
    obtain ⟨⟨a, cap, rfl, hlen, hh⟩, hz⟩ := h
    clear hh hz
    go_enter Try.func45, Try.ntmps45
    go_wp2
    go_loopw [1, 5] (fun s i wr => i = .int .i64 0 ∧ s = .int .i64 k ∧ wr = w) (fun _ i _ => 0)
    case atStart => exact ⟨rfl, rfl, rfl⟩
    case round =>
      obtain ⟨rfl, rfl, rfl⟩ := hrel
      go_wp2
      go_ret
      exact ⟨ret_int (by simp), hS.out, Mod.refl _ _ _⟩
set_option maxRecDepth 100000 in
set_option maxHeartbeats 2000000 in
theorem law_heldActS (v : Value) (lo hi m k : Nat) (w : World) (h : Act1s lo hi w v (marksAct1 m k)) (hk : 1 ≤ k) (hkb : k + m * 4 ≤ 1099511627776) :
    Calls Try.prog 46 #[v, .int .i64 k] w fun e w' => e = .returned (.int .i64 ((k + m * 4 : Nat) : Int)) ∧ Below w.heap.size w w' := by
  have hsl := h
  obtain ⟨a, cap, rfl, hlen, hh⟩ := h
  clear hh
  have hml := marksAct1_len m k
  rw [hml]
  have Hml := Lib.hid hml
  clear hml hlen
  have hmb : m ≤ 1099511627776 := by omega
  go_enter Try.func46, Try.ntmps46
  go_wp2
  go_loopw [1, 5] (fun s i wr => ∃ j : Nat, j ≤ m ∧ i = .int .i64 j ∧ s = .int .i64 ((k : Int) + j * 4) ∧ Below w.heap.size w wr) (fun _ i _ => m - (intOf i).toNat)
  case atStart => exact ⟨0, Nat.zero_le _, rfl, by go_num, Below.refl _ _⟩
  case round =>
    obtain ⟨j, hj, rfl, rfl, hB⟩ := hrel
    by_cases hlt : j < m
    · have hlt2 : j < (marksAct1 m k).length := by rw [Hml.out]; exact hlt
      obtain ⟨a', cap', hv, _, hh⟩ := hsl.ext hB
      cases hv
      obtain ⟨b, off, rfl, _, _, hc⟩ := hh (by omega)
      obtain ⟨c0, c1, c2, c3⟩ := Act1s.at hc hlt2
      clear hc hh hsl
      simp only [marksAct1_get, markAct1] at c0 c1 c2 c3
      have hb0 := World.block_lt_of_cell? wr _ c0
      have hBs := hB.size
      have q0 : (((k + j * 4 : Nat) : Int)) = (k : Int) + (j : Int) * 4 := by omega
      rw [q0] at c0
      clear q0
      have q1 : (((k + j * 4 + 1 : Nat) : Int)) = (k : Int) + (j : Int) * 4 + 1 := by omega
      rw [q1] at c1
      clear q1
      have q2 : (decide ((k + j * 4 + 2) % 3 = 0)) = (((k : Int) + (j : Int) * 4 + 1 + 1) % 3 == 0) := by rw [Bool.eq_iff_iff]; simp; omega
      rw [q2] at c2
      clear q2
      have q3 : (decide ((k + j * 4 + 3) % 3 = 0)) = (((k : Int) + (j : Int) * 4 + 1 + 1 + 1) % 3 == 0) := by rw [Bool.eq_iff_iff]; simp; omega
      rw [q3] at c3
      clear q3
      go_wp2
      go_roundw
      case rel => exact ⟨j + 1, by omega, by go_num, by go_num, hB⟩
      case measure => simp [intOf]; omega
    · have : j = m := by omega
      subst this
      go_wp2
      go_ret
      exact ⟨ret_int (by omega), hB⟩
end Go.Proofs.Yteakogdojmgehaa
