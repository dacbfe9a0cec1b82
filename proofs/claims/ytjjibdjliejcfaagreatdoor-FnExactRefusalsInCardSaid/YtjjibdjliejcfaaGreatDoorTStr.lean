/- []string: the laws' helpers. -/
import Derived.Test.YtjjibdjliejcfaaGreatDoorChecked
import Derived.Test.YtjjibdjliejcfaaGreatDoorOwn
import Derived.Test.YtjjibdjliejcfaaGreatDoorOpen
import Derived.Test.YtjjibdjliejcfaaGreatDoorMarkT
import Derived.Test.YtjjibdjliejcfaaGreatDoorNumW
import Derived.Handy
namespace Go.Proofs.YtjjibdjliejcfaaGreatDoor
open Go.RowKit
def strC (s : ByteArray) : List Value := [.string s]
theorem strC_len (s : ByteArray) : (strC s).length = 1 := rfl
theorem strC_one (s : ByteArray) : ∀ u ∈ strC s, u.oneCell' = true := by intro u hu; simp [strC] at hu; subst hu; rfl
abbrev Strs := Sl 1 strC
theorem Strs.at {w : World} {b off : Nat} {l : List ByteArray} (hc : ∀ i (h : i < l.length) j u, (strC l[i])[j]? = some u → w.cell? ⟨b, off + i * 1 + j, none⟩ = some u) {k : Nat} (hk : k < l.length) : w.cell? ⟨b, off + k, none⟩ = some (.string l[k]) := by
  have := hc k hk 0 _ rfl
  simpa using this
set_option maxHeartbeats 1000000 in
theorem law_eqStringS (v v2 : Value) (l : List ByteArray) (lo hi lo2 hi2 : Nat) (w : World) (h : Strs lo hi w v l) (h2 : Strs lo2 hi2 w v2 l) :
    Calls Tryz.prog 19 #[v, v2] w fun e w' => e = .returned (.bool true) ∧ Below w.heap.size w w' := by
  have hsl := h
  have hsl2 := h2
  obtain ⟨a, cap, rfl, hlen, hh⟩ := h
  obtain ⟨a2, cap2, rfl, _, hh2⟩ := h2
  clear hh hh2
  go_enter Tryz.func19, Tryz.ntmps19
  go_wp2
  go_loopw [5] (fun i wr => ∃ k : Nat, k ≤ l.length ∧ i = .int .i64 k ∧ Below w.heap.size w wr) (fun i _ => l.length - (intOf i).toNat)
  case atStart => exact ⟨0, Nat.zero_le _, rfl, Below.refl _ _⟩
  case round =>
    obtain ⟨k, hk, rfl, hB⟩ := hrel
    by_cases hlt : k < l.length
    · obtain ⟨b, off, rfl⟩ := hsl.addr (by omega)
      obtain ⟨b2, off2, rfl⟩ := hsl2.addr (by omega)
      have c0 := Strs.at (Sl.get (hsl.ext hB)) hlt
      have d0 := Strs.at (Sl.get (hsl2.ext hB)) hlt
      clear hsl hsl2
      generalize l[k] = x at *
      have hq := sm_eqN (rfl : x = x)
      go_wp2_with (go_quiet (fail))
      go_roundw
      case rel => exact ⟨k + 1, by omega, by go_num, below_dN hB _⟩
      case measure => simp [intOf]; omega
    · go_wp2
      go_ret
      exact ⟨rfl, hB⟩
def marksStr (n k : Nat) : List ByteArray := (List.range n).map fun i => markB (k + i * 1)
theorem marksStr_len (n k : Nat) : (marksStr n k).length = n := by simp [marksStr]
theorem marksStr_get {n k i : Nat} (h : i < (marksStr n k).length) : (marksStr n k)[i] = markB (k + i * 1) := by simp [marksStr]
set_option maxRecDepth 100000 in
set_option maxHeartbeats 2000000 in
theorem law_markStringS (v : Value) (l : List ByteArray) (lo hi k : Nat) (w : World) (h : Slw 1 strC lo hi w v l) (hhi : hi ≤ w.heap.size) (hk : 1 ≤ k) (hkb : k + l.length * 1 ≤ 1099511627776) :
    Calls Tryz.prog 20 #[v, .int .i64 k] w fun e w' => e = .returned (.int .i64 ((k + l.length * 1 : Nat) : Int)) ∧ Slw 1 strC lo hi w' v (marksStr l.length k) ∧ Mod lo hi w w' := by
  by_cases h0 : 0 < l.length
  · obtain ⟨b, off, cap, rfl, hcap, hraw⟩ := Raw.of h strC_len h0
    have hlen : l.length ≤ 1099511627776 := by omega
    have Hr0 := Lib.hid hraw
    have hlo := hraw.lo
    have hhb := hraw.hi
    clear hraw h
    go_enter Tryz.func20, Tryz.ntmps20
    go_wp2
    go_loopw [1, 5] (fun s i wr => ∃ j : Nat, j ≤ l.length ∧ i = .int .i64 j ∧ s = .int .i64 ((k : Int) + j) ∧ Mod lo hi w wr ∧ ∃ rows, Hid (rows.length = l.length) ∧ Hid (Raw 1 lo hi wr b off rows) ∧ Hid (∀ i, i < j → rows[i]? = some (strC (markB (k + i * 1))))) (fun _ i _ => l.length - (intOf i).toNat)
    case atStart => exact ⟨0, Nat.zero_le _, rfl, by go_num, Mod.refl _ _ _, _, Lib.hid (by simp), Hr0, Lib.hid (fun i hi => absurd hi (by omega))⟩
    case round =>
      obtain ⟨j, hj, rfl, rfl, hM, rows, hrl, hrw, hdone⟩ := hrel
      by_cases hlt : j < l.length
      · have hjr : j < rows.length := by rw [hrl.out]; exact hlt
        have hRaw := hrw.out.self hjr
        obtain ⟨r0, hrow⟩ : ∃ r0, rows[j] = [r0] := by
          have h4 := hrw.out.len j hjr
          match rows[j], h4 with
          | [r0], _ => exact ⟨_, rfl⟩
        rw [hrow] at hRaw
        have hMs := hM.size
        clear hrow Hr0
        have c0 := hRaw.cell j (by simpa using hjr) 0 r0 (by simp)
        simp only [Nat.add_zero, Nat.mul_one] at c0
        have cz := hRaw.free
        have HR := Lib.hid hRaw
        clear hRaw
        go_wp2_with fail
        rw [show ((k : Int) + (j : Int)) = ((k + j : Nat) : Int) from by omega]
        refine (law_markText (k + j) _ (by omega) (by omega)).mono ?_
        rintro e w1 ⟨rfl, hb1⟩
        have hRaw := (HR.out).ext (by first | omega | (simp; omega)) hb1
        have hM := (hM).then hb1
        clear HR cz c0
        try simp only [List.set_cons_zero] at hRaw
        have c0 := hRaw.cell j (by simpa using hjr) 0 r0 (by simp)
        simp only [Nat.add_zero, Nat.mul_one] at c0
        have cz := hRaw.free
        have HR := Lib.hid hRaw
        clear hRaw
        have hMs := hM.size
        go_wp2
        go_roundw
        case rel =>
          refine ⟨j + 1, by omega, by go_num, by go_num, (hM.setCell hlo hhb _), _, Lib.hid (by rw [List.length_set]; exact hrl.out), Lib.hid (HR.out.store (j := 0) hjr (by omega) (by omega)), Lib.hid ?_⟩
          intro i hi
          rw [List.getElem?_set]
          by_cases hij : j = i
          · subst hij
            rw [if_pos rfl, if_pos hjr]
            simp only [List.set_cons_zero, strC, Nat.mul_one]
          · rw [if_neg hij]
            exact hdone.out i (by omega)
        case measure => simp [intOf]; omega
      · have : j = l.length := by omega
        subst this
        have Hfin : Hid (Slw 1 strC lo hi wr (.slice (some ⟨b, off, none⟩) l.length cap) (marksStr l.length k)) := Lib.hid (hrw.out.back _ (fun i hi => by
          rw [marksStr_get hi]; exact hdone.out i (by rw [marksStr_len] at hi; exact hi)) (by rw [marksStr_len]) (by rw [marksStr_len]; exact hcap))
        go_wp2
        go_ret
        exact ⟨ret_int (by omega), Hfin.out, hM⟩
  · have he : l = [] := by cases l with | nil => rfl | cons x r => simp at h0
    subst he
    have hS := Lib.hid h
    obtain ⟨⟨a, cap, rfl, hlen, hh⟩, hz⟩ := h
    clear hh hz
    go_enter Tryz.func20, Tryz.ntmps20
    go_wp2
    go_loopw [1, 5] (fun s i wr => i = .int .i64 0 ∧ s = .int .i64 k ∧ wr = w) (fun _ i _ => 0)
    case atStart => exact ⟨rfl, rfl, rfl⟩
    case round =>
      obtain ⟨rfl, rfl, rfl⟩ := hrel
      go_wp2
      go_ret
      exact ⟨ret_int (by simp), hS.out, Mod.refl _ _ _⟩
set_option maxRecDepth 100000 in
set_option maxHeartbeats 2000000 in
theorem law_heldStringS (v : Value) (lo hi m k : Nat) (w : World) (h : Strs lo hi w v (marksStr m k)) (hk : 1 ≤ k) (hkb : k + m * 1 ≤ 1099511627776) :
    Calls Tryz.prog 21 #[v, .int .i64 k] w fun e w' => e = .returned (.int .i64 ((k + m * 1 : Nat) : Int)) ∧ Below w.heap.size w w' := by
  have hsl := h
  obtain ⟨a, cap, rfl, hlen, hh⟩ := h
  clear hh
  have hml := marksStr_len m k
  rw [hml]
  have Hml := Lib.hid hml
  clear hml hlen
  have hmb : m ≤ 1099511627776 := by omega
  go_enter Tryz.func21, Tryz.ntmps21
  go_wp2
  go_loopw [1, 5] (fun s i wr => ∃ j : Nat, j ≤ m ∧ i = .int .i64 j ∧ s = .int .i64 ((k : Int) + j) ∧ Below w.heap.size w wr) (fun _ i _ => m - (intOf i).toNat)
  case atStart => exact ⟨0, Nat.zero_le _, rfl, by go_num, Below.refl _ _⟩
  case round =>
    obtain ⟨j, hj, rfl, rfl, hB⟩ := hrel
    by_cases hlt : j < m
    · have hlt2 : j < (marksStr m k).length := by rw [Hml.out]; exact hlt
      obtain ⟨b, off, rfl⟩ := hsl.addr (by omega)
      have c0 := Strs.at (Sl.get (hsl.ext hB)) hlt2
      rw [marksStr_get, Nat.mul_one] at c0
      clear hsl
      have hb0 := World.block_lt_of_cell? wr _ c0
      have hBs := hB.size
      have z1 : ((k : Int) + (j : Int)).toNat = k + j := by omega
      have hq := sm_eqN (rfl : markB (k + j) = markB (k + j))
      have HM := Lib.hid (fun w' => law_markText (k + j) w' (by omega) (by omega))
      rw [show ((k + j : Nat) : Int) = (k : Int) + (j : Int) from by omega] at HM
      generalize markB (k + j) = mk at *
      go_wp2_with fail
      go_region_held3 (fun w' => (∀ b' o', b' < wr.heap.size → w'.cell? ⟨b', o', none⟩ = wr.cell? ⟨b', o', none⟩) ∧ Below wr.heap.size wr w') (first | (refine heldB ?_; go_grown; done))
        (first | (go_at_call 36; refine (HM.out _).mono ?_; rintro e w1 ⟨rfl, hb1⟩; have b1 : Below wr.heap.size wr w1 := Below.trans (by go_grown) (hb1.mono (by go_size))))
      have hB1 := hB.trans (b1.mono hBs)
      go_wp2
      go_roundw
      case rel => exact ⟨j + 1, by omega, by go_num, by go_num, hB1⟩
      case measure => simp [intOf]; omega
    · have : j = m := by omega
      subst this
      go_wp2
      go_ret
      exact ⟨ret_int (by omega), hB⟩
end Go.Proofs.YtjjibdjliejcfaaGreatDoor
