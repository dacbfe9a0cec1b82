/- []int64: the laws' helpers. -/
import Derived.Test.YtimggihbldeleaaChecked
import Derived.Test.YtimggihbldeleaaOwn
namespace Go.Proofs.Ytimggihbldeleaa
open Go.RowKit

set_option maxHeartbeats 1000000 in
theorem law_eqInt64S (v v2 : Value) (l : List Int) (lo hi lo2 hi2 : Nat) (w : World) (h : Ints lo hi w v l) (h2 : Ints lo2 hi2 w v2 l) :
    Calls Try.prog 18 #[v, v2] w fun e w' => e = .returned (.bool true) ∧ Below w.heap.size w w' := by
  have hsl := h
  have hsl2 := h2
  obtain ⟨a, cap, rfl, hlen, hh⟩ := h
  obtain ⟨a2, cap2, rfl, _, hh2⟩ := h2
  clear hh hh2
  go_enter Try.func18, Try.ntmps18
  go_wp2
  go_loopw [5] (fun i wr => ∃ k : Nat, k ≤ l.length ∧ i = .int .i64 k ∧ Below w.heap.size w wr) (fun i _ => l.length - (intOf i).toNat)
  case atStart => exact ⟨0, Nat.zero_le _, rfl, Below.refl _ _⟩
  case round =>
    obtain ⟨k, hk, rfl, hB⟩ := hrel
    by_cases hlt : k < l.length
    · obtain ⟨b, off, rfl⟩ := hsl.addr (by omega)
      obtain ⟨b2, off2, rfl⟩ := hsl2.addr (by omega)
      have c0 := Ints.at (hsl.ext hB).get hlt
      have d0 := Ints.at (hsl2.ext hB).get hlt
      clear hsl hsl2
      generalize l[k] = x at *
      go_wp2_with (go_quiet (fail))
      go_roundw
      case rel => exact ⟨k + 1, by omega, by go_num, below_dN hB _⟩
      case measure => simp [intOf]; omega
    · go_wp2
      go_ret
      exact ⟨rfl, hB⟩

def marksInt (n k : Nat) : List Int := (List.range n).map fun i => ((k + i * 1 : Nat) : Int)
theorem marksInt_len (n k : Nat) : (marksInt n k).length = n := by simp [marksInt]
theorem marksInt_get {n k i : Nat} (h : i < (marksInt n k).length) : (marksInt n k)[i] = ((k + i * 1 : Nat) : Int) := by simp [marksInt]
set_option maxHeartbeats 1000000 in
theorem law_markInt64S (v : Value) (l : List Int) (lo hi k : Nat) (w : World) (h : Slw 1 intCells lo hi w v l) (hhi : hi ≤ w.heap.size) (hk : 1 ≤ k) (hkb : k + l.length * 1 ≤ 1099511627776) :
    Calls Try.prog 21 #[v, .int .i64 k] w fun e w' => e = .returned (.int .i64 ((k + l.length * 1 : Nat) : Int)) ∧ Slw 1 intCells lo hi w' v (marksInt l.length k) ∧ Mod lo hi w w' := by
  by_cases h0 : 0 < l.length
  · obtain ⟨b, off, cap, rfl, hcap, hraw⟩ := Raw.of h intCells_len h0
    have hlen : l.length ≤ 1099511627776 := by omega
    have Hr0 := Lib.hid hraw
    have hlo := hraw.lo
    have hhb := hraw.hi
    clear hraw h
    go_enter Try.func21, Try.ntmps21
    go_wp2
    go_loopw [1, 5] (fun s i wr => ∃ j : Nat, j ≤ l.length ∧ i = .int .i64 j ∧ s = .int .i64 ((k : Int) + j) ∧ Mod lo hi w wr ∧ ∃ rows, Hid (rows.length = l.length) ∧ Hid (Raw 1 lo hi wr b off rows) ∧ Hid (∀ i, i < j → rows[i]? = some (intCells ((k + i * 1 : Nat) : Int)))) (fun _ i _ => l.length - (intOf i).toNat)
    case atStart => exact ⟨0, Nat.zero_le _, rfl, by go_num, Mod.refl _ _ _, _, Lib.hid (by simp), Hr0, Lib.hid (fun i hi => absurd hi (by omega))⟩
    case round =>
      obtain ⟨j, hj, rfl, rfl, hM, rows, hrl, hrw, hdone⟩ := hrel
      by_cases hlt : j < l.length
      · have hjr : j < rows.length := by rw [hrl.out]; exact hlt
        have hRaw := hrw.out.self hjr
        obtain ⟨r0, hrow⟩ : ∃ r0, rows[j] = [r0] := by
          have h4 := hrw.out.len j hjr
          match rows[j], h4 with
          | [r0], _ => exact ⟨_, rfl⟩
        rw [hrow] at hRaw
        clear hrow Hr0
        have c0 := hRaw.cell j (by simpa using hjr) 0 r0 (by simp)
        simp only [Nat.add_zero, Nat.mul_one] at c0
        have cz := hRaw.free
        have HR := Lib.hid hRaw
        clear hRaw
        go_wp2
        go_roundw
        case rel =>
          refine ⟨j + 1, by omega, by go_num, by go_num, hM.setCell hlo hhb _, _, Lib.hid (by rw [List.length_set]; exact hrl.out), Lib.hid (HR.out.store (j := 0) hjr (by omega) (by omega)), Lib.hid ?_⟩
          intro i hi
          rw [List.getElem?_set]
          by_cases hij : j = i
          · subst hij
            rw [if_pos rfl, if_pos hjr]
            simp only [List.set_cons_zero, intCells]
            congr
            all_goals first | rfl | omega | skip
          · rw [if_neg hij]
            exact hdone.out i (by omega)
        case measure => simp [intOf]; omega
      · have : j = l.length := by omega
        subst this
        have Hfin : Hid (Slw 1 intCells lo hi wr (.slice (some ⟨b, off, none⟩) l.length cap) (marksInt l.length k)) := Lib.hid (hrw.out.back _ (fun i hi => by
          rw [marksInt_get hi]; exact hdone.out i (by rw [marksInt_len] at hi; exact hi)) (by rw [marksInt_len]) (by rw [marksInt_len]; exact hcap))
        go_wp2
        go_ret
        exact ⟨ret_int (by omega), Hfin.out, hM⟩
  · have he : l = [] := by cases l with | nil => rfl | cons x r => simp at h0
    subst he
    have hS := Lib.hid h
    obtain ⟨⟨a, cap, rfl, hlen, hh⟩, hz⟩ := h
    clear hh hz
    go_enter Try.func21, Try.ntmps21
    go_wp2
    go_loopw [1, 5] (fun s i wr => i = .int .i64 0 ∧ s = .int .i64 k ∧ wr = w) (fun _ i _ => 0)
    case atStart => exact ⟨rfl, rfl, rfl⟩
    case round =>
      obtain ⟨rfl, rfl, rfl⟩ := hrel
      go_wp2
      go_ret
      exact ⟨ret_int (by simp), hS.out, Mod.refl _ _ _⟩

set_option maxHeartbeats 1000000 in
theorem law_heldInt64S (v : Value) (lo hi m k : Nat) (w : World) (h : Ints lo hi w v (marksInt m k)) (hk : 1 ≤ k) (hkb : k + m * 1 ≤ 1099511627776) :
    Calls Try.prog 24 #[v, .int .i64 k] w fun e w' => e = .returned (.int .i64 ((k + m * 1 : Nat) : Int)) ∧ Below w.heap.size w w' := by
  have hsl := h
  obtain ⟨a, cap, rfl, hlen, hh⟩ := h
  clear hh
  have hml := marksInt_len m k
  rw [hml]
  have Hml := Lib.hid hml
  clear hml hlen
  have hmb : m ≤ 1099511627776 := by omega
  go_enter Try.func24, Try.ntmps24
  go_wp2
  go_loopw [1, 5] (fun s i wr => ∃ j : Nat, j ≤ m ∧ i = .int .i64 j ∧ s = .int .i64 ((k : Int) + j) ∧ Below w.heap.size w wr) (fun _ i _ => m - (intOf i).toNat)
  case atStart => exact ⟨0, Nat.zero_le _, rfl, by go_num, Below.refl _ _⟩
  case round =>
    obtain ⟨j, hj, rfl, rfl, hB⟩ := hrel
    by_cases hlt : j < m
    · have hlt2 : j < (marksInt m k).length := by rw [Hml.out]; exact hlt
      obtain ⟨b, off, rfl⟩ := hsl.addr (by omega)
      have c0 := Ints.at (hsl.ext hB).get hlt2
      rw [marksInt_get, show (((k + j * 1 : Nat) : Int)) = (k : Int) + (j : Int) from by omega] at c0
      clear hsl
      go_wp2
      go_roundw
      case rel => exact ⟨j + 1, by omega, by go_num, by go_num, hB⟩
      case measure => simp [intOf]; omega
    · have : j = m := by omega
      subst this
      go_wp2
      go_ret
      exact ⟨ret_int (by omega), hB⟩
end Go.Proofs.Ytimggihbldeleaa
