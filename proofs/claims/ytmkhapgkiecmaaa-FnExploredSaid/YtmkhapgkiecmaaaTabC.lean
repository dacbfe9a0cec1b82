/- Tables, in both packages. -/
import Derived.Test.YtmkhapgkiecmaaaTabB
namespace Go.Proofs.Ytmkhapgkiecmaaa
open Go.RowKit

abbrev TabR := SSr 1 boolCells
/-- A row as a value. -/
theorem SSr.rowv {α : Type} {n : Nat} {c : α → List Value} {lo hi : Nat} {w : World} {v : Value} {rows : List SV} {L : List (List α)} (h : SSr n c lo hi w v rows L) {k : Nat} (h1 : k < rows.length) (h2 : k < L.length) : ∃ a cap, rows[k].v = .slice a L[k].length cap ∧ L[k].length ≤ 9223372036854775807 := by
  obtain ⟨a, cap, hv, hc, _⟩ := h.row k rows[k] L[k] (List.getElem?_eq_getElem h1) (List.getElem?_eq_getElem h2)
  exact ⟨a, cap, hv, by omega⟩
def rowsOk (L : Tab) : Bool := L.all fun r => decide (r.length = 24)
theorem tabOk_iff (L : Tab) : TabOk L ↔ L.length = 24 ∧ rowsOk L = true := by
  unfold TabOk rowsOk
  rw [List.all_eq_true]
  simp

set_option maxHeartbeats 1000000 in
theorem spec_TabOk (v : Value) (rows : List SV) (L : Tab) (lo hi : Nat) (w : World) (h : TabR lo hi w v rows L) : Calls Try.prog 83 #[v] w fun e w' => e = .returned (.bool (decide (TabOk L))) ∧ Below w.heap.size w w' := by
  have hl1 := h.len
  have hcap : rows.length ≤ 9223372036854775807 := by obtain ⟨a, cap, _, hc, _⟩ := h.out; omega
  have Hs := Lib.hid h
  obtain ⟨⟨a, cap, rfl, _⟩, _, _⟩ := h
  rw [hl1]
  rw [hl1] at hcap
  have Hl1 := Lib.hid hl1
  clear hl1
  go_enter Try.func83, Try.ntmps83
  go_wp2
  go_loopw [3] (fun i wr => ∃ k : Nat, k ≤ L.length ∧ i = .int .i64 k ∧ Hid ((L.take k).all (fun r => decide (r.length = 24)) = true) ∧ Below w.heap.size w wr) (fun i _ => L.length - (intOf i).toNat)
  case atStart => exact ⟨0, Nat.zero_le _, rfl, Lib.hid (by simp), Below.refl _ _⟩
  case round =>
    obtain ⟨k, hk, rfl, hall, hB⟩ := hrel
    by_cases hlt : k < L.length
    · have hk1 : k < rows.length := by rw [Hl1.out]; exact hlt
      have hs : TabR lo hi wr (.slice a L.length cap) rows L := by rw [← Hl1.out]; exact Hs.out.ext hB
      obtain ⟨ra, rc, hr, hrl⟩ := hs.rowv hk1 hlt
      obtain ⟨b, off, rfl⟩ := hs.out.addr (by omega)
      have c0 := hs.at hk1
      rw [hr] at c0
      clear hs hr
      have Hst := Lib.hid (fun h2 => all_take_succ (p := fun r : List Bool => decide (r.length = 24)) hlt hall.out h2)
      have Hno := Lib.hid (fun h2 => all_false (p := fun r : List Bool => decide (r.length = 24)) hlt h2)
      by_cases h24 : L[k].length = 24
      · have hst := Lib.hid (Hst.out (by simpa using h24))
        rw [h24] at c0
        clear h24
        go_wp2
        go_roundw
        case rel => exact ⟨k + 1, by omega, by go_num, hst, hB⟩
        case measure => simp [intOf]; omega
      · have hno : Hid (¬ TabOk L) := Lib.hid (fun h => by have h2 := Hno.out (by simpa using h24); have h3 := ((tabOk_iff L).1 h).2; unfold rowsOk at h3; rw [h2] at h3; cases h3)
        generalize L[k].length = q at *
        have hq : ((q : Int) == 24) = false := by simp; omega
        clear h24
        go_wp2
        go_ret
        rw [decide_eq_false hno.out]
        exact ⟨rfl, hB⟩
    · have h4 : Hid (rowsOk L = true) := Lib.hid (all_take_end hlt hall.out)
      by_cases hn : L.length = 24
      · have hT : Hid (decide (TabOk L) = true) := Lib.hid (decide_eq_true ((tabOk_iff L).2 ⟨hn, h4.out⟩))
        have : k = L.length := by omega
        subst this
        have hq : ((L.length : Int) == 24) = true := by simp; omega
        go_wp2
        go_ret
        rw [hT.out]
        exact ⟨ret_bool (by first | rfl | exact hq), hB⟩
      · have hT : Hid (decide (TabOk L) = false) := Lib.hid (decide_eq_false (fun h => hn h.1))
        have : k = L.length := by omega
        subst this
        have hq : ((L.length : Int) == 24) = false := by simp; omega
        go_wp2
        go_ret
        rw [hT.out]
        exact ⟨ret_bool (by first | rfl | exact hq), hB⟩

theorem row_len (a : Option Addr) (n cap : Nat) (w : World) (hn : n ≤ 9223372036854775807) : Calls Try.prog 100 #[.slice a n cap] w fun e w' => e = .returned (.bool (!decide (n = 24))) ∧ w = w' := by
  by_cases h : n = 24
  · subst h
    go_enter Try.func100, Try.ntmps100
    go_wp2
    go_ret
    exact ⟨rfl, rfl⟩
  · have hq : ((n : Int) == 24) = false := by simp; omega
    rw [decide_eq_false h]
    clear h
    go_enter Try.func100, Try.ntmps100
    go_wp2
    go_ret
    exact ⟨ret_bool (by show (!((n : Int) == 24)) = _; rw [hq]), rfl⟩

set_option maxHeartbeats 2000000 in
theorem impl_Index (v : Value) (rows : List SV) (L : Tab) (lo hi : Nat) (w : World) (h : TabR lo hi w v rows L) : Calls Try.prog 115 #[v, .func (.func 100) #[] #[]] w fun e w' => (∃ r : Int, e = .returned (.int .i64 r) ∧ decide (0 ≤ r) = !rowsOk L) ∧ Below w.heap.size w w' := by
  have hl1 := h.len
  have hcap : rows.length ≤ 9223372036854775807 := by obtain ⟨a, cap, _, hc, _⟩ := h.out; omega
  have Hs := Lib.hid h
  obtain ⟨⟨a, cap, rfl, _⟩, _, _⟩ := h
  rw [hl1]
  rw [hl1] at hcap
  have Hl1 := Lib.hid hl1
  clear hl1
  go_enter Try.func115, Try.ntmps115
  go_wp2
  go_loopw [8] (fun i wr => ∃ k : Nat, k ≤ L.length ∧ i = .int .i64 k ∧ Hid ((L.take k).all (fun r => decide (r.length = 24)) = true) ∧ Below w.heap.size w wr) (fun i _ => L.length - (intOf i).toNat)
  case atStart => exact ⟨0, Nat.zero_le _, rfl, Lib.hid (by simp), Below.refl _ _⟩
  case round =>
    obtain ⟨k, hk, rfl, hall, hB⟩ := hrel
    by_cases hlt : k < L.length
    · have hk1 : k < rows.length := by rw [Hl1.out]; exact hlt
      have hs : TabR lo hi wr (.slice a L.length cap) rows L := by rw [← Hl1.out]; exact Hs.out.ext hB
      obtain ⟨ra, rc, hr, hrl⟩ := hs.rowv hk1 hlt
      obtain ⟨b, off, rfl⟩ := hs.out.addr (by omega)
      have c0 := hs.at hk1
      rw [hr] at c0
      clear hs hr
      have Hst := Lib.hid (fun h2 => all_take_succ (p := fun r : List Bool => decide (r.length = 24)) hlt hall.out h2)
      have Hno := Lib.hid (fun h2 => all_false (p := fun r : List Bool => decide (r.length = 24)) hlt h2)
      have hcall := fun w' => row_len ra L[k].length rc w' hrl
      by_cases h24 : L[k].length = 24
      · have hst := Lib.hid (Hst.out (by simpa using h24))
        rw [decide_eq_true h24] at hcall
        have Hcall := Lib.hid hcall
        clear hcall h24
        generalize L[k].length = q at *
        go_wp2_with (first | (go_at_call 100; refine (Hcall.out _).mono ?_; rintro e w' ⟨rfl, rfl⟩))
        go_roundw
        case rel => exact ⟨k + 1, by omega, by go_num, hst, hB⟩
        case measure => simp [intOf]; omega
      · have hno : Hid (rowsOk L = false) := Lib.hid (Hno.out (by simpa using h24))
        rw [decide_eq_false h24] at hcall
        have Hcall := Lib.hid hcall
        clear hcall h24
        generalize L[k].length = q at *
        go_wp2_with (first | (go_at_call 100; refine (Hcall.out _).mono ?_; rintro e w' ⟨rfl, rfl⟩))
        go_ret
        refine ⟨⟨_, rfl, ?_⟩, hB⟩
        rw [hno.out]
        exact decide_eq_true (Int.natCast_nonneg _)
    · have h4 : Hid (rowsOk L = true) := Lib.hid (all_take_end hlt hall.out)
      go_wp2
      go_ret
      refine ⟨⟨_, rfl, ?_⟩, hB⟩
      rw [h4.out]
      rfl
theorem impl_Contains (v : Value) (rows : List SV) (L : Tab) (lo hi : Nat) (w : World) (h : TabR lo hi w v rows L) : Calls Try.prog 99 #[v, .func (.func 100) #[] #[]] w fun e w' => e = .returned (.bool (!rowsOk L)) ∧ Below w.heap.size w w' := by
  have hI := impl_Index v rows L lo hi w h
  have hl1 := h.len
  obtain ⟨⟨a, cap, rfl, -⟩, -, -⟩ := h
  rw [hl1] at hI ⊢
  clear hl1
  have hI := Lib.hid hI
  go_enter Try.func99, Try.ntmps99
  go_wp2_with fail
  refine hI.out.mono ?_
  rintro e w2 ⟨⟨r, rfl, hr⟩, hb2⟩
  have Hr := Lib.hid hr
  clear hr
  go_wp2
  go_ret
  exact ⟨ret_bool Hr.out, hb2⟩

set_option maxHeartbeats 1000000 in
theorem impl_TabOk (v : Value) (rows : List SV) (L : Tab) (lo hi : Nat) (w : World) (h : TabR lo hi w v rows L) : Calls Try.prog 73 #[v] w fun e w' => e = .returned (.bool (decide (TabOk L))) ∧ Below w.heap.size w w' := by
  have hl1 := h.len
  have Hs := Lib.hid h
  obtain ⟨⟨a, cap, rfl, _⟩, _, _⟩ := h
  rw [hl1]
  have Hl1 := Lib.hid hl1
  clear hl1
  by_cases hn : L.length = 24
  · have hq : ((L.length : Int) == 24) = true := by simp; omega
    have Hn := Lib.hid hn
    have hcon := Lib.hid (fun w => impl_Contains (.slice a L.length cap) rows L lo hi w)
    have Hl2 : Hid (SSr 1 boolCells lo hi w (.slice a L.length cap) rows L) := Lib.hid (by rw [← Hl1.out]; exact Hs.out)
    have hT : Hid (decide (TabOk L) = rowsOk L) := Lib.hid (by
      cases h : rowsOk L
      · exact decide_eq_false (fun h2 => by have := ((tabOk_iff L).1 h2).2; rw [h] at this; cases this)
      · exact decide_eq_true ((tabOk_iff L).2 ⟨hn, h⟩))
    rw [hT.out]
    clear hn
    generalize L.length = n at *
    go_enter Try.func73, Try.ntmps73
    go_wp2_with fail
    refine (hcon.out _ Hl2.out).mono ?_
    rintro e w2 ⟨rfl, hb2⟩
    go_wp2
    go_ret
    exact ⟨ret_bool (by first | rfl | simp), hb2⟩
  · have hq : ((L.length : Int) == 24) = false := by simp; omega
    rw [decide_eq_false (show ¬ TabOk L from fun h => hn h.1)]
    go_enter Try.func73, Try.ntmps73
    go_wp2
    go_ret
    exact ⟨rfl, Below.refl _ _⟩
end Go.Proofs.Ytmkhapgkiecmaaa
