/- Decimal numbers, the reference's writing. -/
import Derived.Test.YtmglcdmccikinaaDoorBytes
import Derived.Lib.ItoaNum
namespace Go.Proofs.YtmglcdmccikinaaDoor
open Go.RowKit
theorem own_addr {α : Type} {n : Nat} {c : α → List Value} {lo : Nat} {e : TypeId} {w : World} {v : Value} {l : List α} (h : Own n c lo e w v l) (h0 : 0 < l.length) : ∃ b cap, v = .slice (some ⟨b, 0, none⟩) l.length cap := by
  rcases h.2 with ⟨-, h1⟩ | ⟨g, cap, cur, hv, _⟩
  · omega
  · exact ⟨g, cap, hv⟩
def decStr (n : Int) : ByteArray := ⟨(Lib.itoa n).toArray⟩
theorem decStr_zero : (⟨#[48]⟩ : ByteArray) = decStr ((0 : Nat) : Int) := by
  unfold decStr Lib.itoa
  rw [if_neg (by omega), show (((0 : Nat) : Int)).toNat = 0 from rfl, Lib.decDigits_one (by omega)]
  rfl
/-- What the loop has laid when m is left. -/
def DecI (u m : Nat) (l : List UInt8) : Prop := m ≤ u ∧ ((m = 0 ∧ u = 0 ∧ l = []) ∨ (m = 0 ∧ 0 < u ∧ l = Lib.decDigits u) ∨ (0 < m ∧ Lib.decDigits u = Lib.decDigits m ++ l))
theorem decI_start (u : Nat) : DecI u u [] := by
  refine ⟨Nat.le_refl _, ?_⟩
  by_cases h : u = 0
  · exact .inl ⟨h, h, rfl⟩
  · exact .inr (.inr ⟨by omega, by simp⟩)
theorem decI_step {u m : Nat} {l : List UInt8} (h : DecI u m l) (hm : 0 < m) : DecI u (m / 10) (UInt8.ofNat (48 + m % 10) :: l) := by
  obtain ⟨hle, h⟩ := h
  refine ⟨by omega, ?_⟩
  rcases h with ⟨h, -, -⟩ | ⟨h, -, -⟩ | ⟨-, h⟩
  · omega
  · omega
  · by_cases h10 : m < 10
    · refine .inr (.inl ⟨by omega, by omega, ?_⟩)
      rw [h, Lib.decDigits, dif_pos h10, Nat.mod_eq_of_lt h10]
      rfl
    · refine .inr (.inr ⟨by omega, ?_⟩)
      rw [h]
      conv => lhs; rw [Lib.decDigits, dif_neg h10]
      simp
theorem nDigits_bd (u : Nat) (h : u < 10000000000000000000) : Lib.nDigits u ≤ 19 := by
  apply Nat.le_of_not_lt
  intro h2
  have h3 : ∀ (k u : Nat), k < Lib.nDigits u → 10 ^ k ≤ u ∨ k = 0 := by
    intro k
    induction k with
    | zero => intro u _; exact .inr rfl
    | succ k ih =>
      intro u hk
      by_cases hu : u < 10
      · rw [Lib.nDigits_small hu] at hk; omega
      · rw [Lib.nDigits_big hu] at hk
        rcases ih (u / 10) (by omega) with h | h
        · refine .inl ?_
          rw [Nat.pow_succ]
          omega
        · subst h; refine .inl ?_; omega
  rcases h3 19 u h2 with h | h
  · have : (10:Nat) ^ 19 = 10000000000000000000 := by decide
    omega
  · omega
theorem decDigits_len (u : Nat) : (Lib.decDigits u).length = Lib.nDigits u := by rw [Lib.decDigits_eq]; simp
theorem decDigits_bd {u : Nat} (h : u < 10000000000000000000) : (Lib.decDigits u).length ≤ 19 := by rw [decDigits_len]; exact nDigits_bd u h
theorem decI_len {u m : Nat} {l : List UInt8} (h : DecI u m l) (hu : u < 10000000000000000000) : l.length ≤ 19 := by
  have := decDigits_bd hu
  rcases h.2 with ⟨-, -, h⟩ | ⟨-, -, h⟩ | ⟨-, h⟩
  · rw [h]; simp
  · rw [h]; omega
  · rw [h, List.length_append] at this; omega
theorem decI_zero {u : Nat} {l : List UInt8} (h : DecI u 0 l) : (u = 0 ∧ l = []) ∨ (0 < u ∧ l = Lib.decDigits u ∧ 0 < l.length) := by
  rcases h.2 with ⟨-, h1, h⟩ | ⟨-, h1, h⟩ | ⟨h1, h⟩
  · exact .inl ⟨h1, h⟩
  · refine .inr ⟨h1, h, ?_⟩
    rw [h, decDigits_len]; exact Lib.nDigits_pos u
  · omega
theorem itoa_len {n : Int} (h : I64 n) : (Lib.itoa n).length ≤ 20 := by
  obtain ⟨h1, h2⟩ := h
  unfold Lib.itoa
  split
  · have := decDigits_bd (u := n.natAbs) (by omega)
    rw [List.length_cons]; omega
  · have := decDigits_bd (u := n.toNat) (by omega)
    omega
theorem dig_nat (m : Nat) : (UInt8.ofNat (48 + m % 10)).toNat = 48 + m % 10 := by
  rw [UInt8.toNat_ofNat']
  omega
theorem own1 {lo : Nat} {w : World} {x : UInt8} {z : Int} (hz : z = x.toNat) (h : lo ≤ w.heap.size) : Bytes lo (w.alloc (.cells #[.int .u8 z] 5)) (.slice (some ⟨w.heap.size, 0, none⟩) 1 1) [x] := by
  subst hz
  have h1 := World.ownsRow_made (size := 1) (base := lo) (e := 5) w #[] 0 h (by unfold maxLen; omega) (by simp)
  refine ⟨rfl, .inr ⟨w.heap.size, 1, _, rfl, h, Array.getElem?_push_size, by simp, by unfold maxLen; omega, by simp, by simp [byteC]⟩⟩
set_option maxRecDepth 100000 in
set_option maxHeartbeats 4000000 in
theorem spec_Dec_pos (n : Nat) (w : World) (hn : n ≤ 9223372036854775807) : Calls Tryd.prog 21 #[.int .i64 (n : Int)] w fun e w' => e = .returned (.string (decStr n)) ∧ Below w.heap.size w w' := by
  obtain ⟨i0, hi, hzz⟩ := Option.map_eq_some_iff.1 info_uint8
  go_enter Tryd.func21, Tryd.ntmps21
  go_wp2
  go_loopw [3, 4] (fun o k wr => ∃ (m : Nat) (l : List UInt8) (ov : Value), o = ov ∧ k = .int .i64 (m : Int) ∧ Hid (DecI n m l) ∧ Below w.heap.size w wr ∧ Hid (Bytes w.heap.size wr ov l) ∧ ∃ b cap, ov = .slice (some ⟨b, 0, none⟩) l.length cap) (fun _ k _ => (intOf k).toNat)
  case atStart => exact ⟨n, [], _, rfl, rfl, Lib.hid (decI_start n), (Below.refl _ _).alloc (Nat.le_refl _) _, Lib.hid (own_empty w _ _ (Nat.le_refl _)), _, _, rfl⟩
  case round =>
    obtain ⟨m, l, ov, hov, rfl, hD, hB, hown, b, cap, rfl⟩ := hrel
    subst hov
    have hBs := hB.size
    have hll := decI_len hD.out (by omega)
    by_cases hm : 0 < m
    · have hmn := hD.out.1
      have hr : (m : Int).tmod 10 = ((m % 10 : Nat) : Int) := by rw [Int.tmod_eq_emod_of_nonneg (by omega)]; omega
      have hq : (m : Int).tdiv 10 = ((m / 10 : Nat) : Int) := by rw [Int.tdiv_eq_ediv_of_nonneg (by omega)]; omega
      have hz : ((m : Int) != 0) = true := by rw [bne_iff_ne]; omega
      have hd : decide (((m % 10 : Nat) : Int) < 0) = false := decide_eq_false (by omega)
      have hS := Lib.hid (decI_step hD.out hm)
      have hdig := dig_nat m
      generalize UInt8.ofNat (48 + m % 10) = x at *
      have hO := Lib.hid (own1 (lo := w.heap.size) (w := wr) (x := x) (z := 48 + (m : Int) % 10) (by rw [hdig]; omega) hBs)
      have hba : Below wr.heap.size wr (wr.alloc (.cells #[.int .u8 (48 + (m : Int) % 10)] 5)) := (Below.refl _ _).alloc (Nat.le_refl _) _
      have hR := Lib.hid ((hown.out.slw byteC_len).1.ext hba)
      have hBa := Lib.hid (hB.trans (hba.mono hBs))
      clear hba hown hdig
      go_wp2_with (at_builtin; refine wpList_appN (c := byteC) (bytes := 1) rfl _ _ 59 5 rfl Tryd.underlying59 info_uint8 (by omega) byteC_len byteC_one w.heap.size [x] l _ rfl hO.out _ _ b 0 cap rfl hR.out (by simp; omega) (by simp; omega) (by simp; omega) ?_; intro v' w3 hown3 hg3; have hB3 := Own.grows hO.out hBa.out (Nat.le_refl _) (by simp; omega) hg3; have Hown3 := Lib.hid hown3; clear hown3 hg3)
      obtain ⟨b3, cap3, rfl⟩ := own_addr Hown3.out (by simp)
      go_roundw
      case rel => exact ⟨m / 10, x :: l, _, rfl, by first | rfl | go_num | (simp; omega), hS, hB3, Hown3, b3, cap3, rfl⟩
      case measure => simp [intOf]; omega
    · obtain rfl : m = 0 := by omega
      rcases decI_zero hD.out with ⟨rfl, rfl⟩ | ⟨hn0, hl, hl0⟩
      · go_wp2
        go_ret
        exact ⟨ret_string decStr_zero, hB⟩
      · have hcv := bytes_str hown.out
        have hz : ((l.length : Int) == 0) = false := by rw [beq_eq_false_iff_ne]; omega
        have hst : Hid ((⟨l.toArray⟩ : ByteArray) = decStr (n : Int)) := Lib.hid (by unfold decStr Lib.itoa; rw [if_neg (by omega), hl]; rfl)
        clear hl hn0
        go_wp2
        go_ret
        exact ⟨ret_string hst.out, hB⟩
set_option maxRecDepth 100000 in
set_option maxHeartbeats 4000000 in
theorem spec_Dec_neg (n : Nat) (w : World) (hn : 0 < n ∧ n ≤ 9223372036854775808) : Calls Tryd.prog 21 #[.int .i64 (-(n : Int))] w fun e w' => e = .returned (.string (decStr (-(n : Int)))) ∧ Below w.heap.size w w' := by
  obtain ⟨i0, hi, hzz⟩ := Option.map_eq_some_iff.1 info_uint8
  go_enter Tryd.func21, Tryd.ntmps21
  go_wp2
  go_loopw [3, 4] (fun o k wr => ∃ (m : Nat) (l : List UInt8) (ov : Value), o = ov ∧ k = .int .i64 (-(m : Int)) ∧ Hid (DecI n m l) ∧ Below w.heap.size w wr ∧ Hid (Bytes w.heap.size wr ov l) ∧ ∃ b cap, ov = .slice (some ⟨b, 0, none⟩) l.length cap) (fun _ k _ => (-(intOf k)).toNat)
  case atStart => exact ⟨n, [], _, rfl, rfl, Lib.hid (decI_start n), (Below.refl _ _).alloc (Nat.le_refl _) _, Lib.hid (own_empty w _ _ (Nat.le_refl _)), _, _, rfl⟩
  case round =>
    obtain ⟨m, l, ov, hov, rfl, hD, hB, hown, b, cap, rfl⟩ := hrel
    subst hov
    have hBs := hB.size
    have hll := decI_len hD.out (by omega)
    by_cases hm : 0 < m
    · have hmn := hD.out.1
      have hr : (-(m : Int)).tmod 10 = -((m : Int) % 10) := by rw [Int.neg_tmod, Int.tmod_eq_emod_of_nonneg (by omega)]
      have hq : (-(m : Int)).tdiv 10 = -((m : Int) / 10) := by rw [Int.neg_tdiv, Int.tdiv_eq_ediv_of_nonneg (by omega)]
      have hz : (-(m : Int) != 0) = true := by rw [bne_iff_ne]; omega
      have hS := Lib.hid (decI_step hD.out hm)
      have hdig := dig_nat m
      by_cases h10 : 0 < m % 10
      · have hd : decide (0 < (m : Int) % 10) = true := decide_eq_true (by omega)
        generalize UInt8.ofNat (48 + m % 10) = x at *
        have hO := Lib.hid (own1 (lo := w.heap.size) (w := wr) (x := x) (z := 48 + (m : Int) % 10) (by rw [hdig]; omega) hBs)
        have hba : Below wr.heap.size wr (wr.alloc (.cells #[.int .u8 (48 + (m : Int) % 10)] 5)) := (Below.refl _ _).alloc (Nat.le_refl _) _
        have hR := Lib.hid ((hown.out.slw byteC_len).1.ext hba)
        have hBa := Lib.hid (hB.trans (hba.mono hBs))
        clear hba hown hdig
        go_wp2_with (at_builtin; refine wpList_appN (c := byteC) (bytes := 1) rfl _ _ 59 5 rfl Tryd.underlying59 info_uint8 (by omega) byteC_len byteC_one w.heap.size [x] l _ rfl hO.out _ _ b 0 cap rfl hR.out (by simp; omega) (by simp; omega) (by simp; omega) ?_; intro v' w3 hown3 hg3; have hB3 := Own.grows hO.out hBa.out (Nat.le_refl _) (by simp; omega) hg3; have Hown3 := Lib.hid hown3; clear hown3 hg3)
        obtain ⟨b3, cap3, rfl⟩ := own_addr Hown3.out (by simp)
        go_roundw
        case rel => exact ⟨m / 10, x :: l, _, rfl, by first | rfl | go_num | (simp; omega), hS, hB3, Hown3, b3, cap3, rfl⟩
        case measure => simp [intOf]; omega
      · have hd : decide (0 < (m : Int) % 10) = false := decide_eq_false (by omega)
        generalize UInt8.ofNat (48 + m % 10) = x at *
        have hO := Lib.hid (own1 (lo := w.heap.size) (w := wr) (x := x) (z := 48 + -((m : Int) % 10)) (by rw [hdig]; omega) hBs)
        have hba : Below wr.heap.size wr (wr.alloc (.cells #[.int .u8 (48 + -((m : Int) % 10))] 5)) := (Below.refl _ _).alloc (Nat.le_refl _) _
        have hR := Lib.hid ((hown.out.slw byteC_len).1.ext hba)
        have hBa := Lib.hid (hB.trans (hba.mono hBs))
        clear hba hown hdig
        go_wp2_with (at_builtin; refine wpList_appN (c := byteC) (bytes := 1) rfl _ _ 59 5 rfl Tryd.underlying59 info_uint8 (by omega) byteC_len byteC_one w.heap.size [x] l _ rfl hO.out _ _ b 0 cap rfl hR.out (by simp; omega) (by simp; omega) (by simp; omega) ?_; intro v' w3 hown3 hg3; have hB3 := Own.grows hO.out hBa.out (Nat.le_refl _) (by simp; omega) hg3; have Hown3 := Lib.hid hown3; clear hown3 hg3)
        obtain ⟨b3, cap3, rfl⟩ := own_addr Hown3.out (by simp)
        go_roundw
        case rel => exact ⟨m / 10, x :: l, _, rfl, by first | rfl | go_num | (simp; omega), hS, hB3, Hown3, b3, cap3, rfl⟩
        case measure => simp [intOf]; omega
    · obtain rfl : m = 0 := by omega
      rcases decI_zero hD.out with ⟨h0, -⟩ | ⟨hn0, hl, hl0⟩
      · omega
      · have hcv := bytes_str hown.out
        have hz : ((l.length : Int) == 0) = false := by rw [beq_eq_false_iff_ne]; omega
        have hst : Hid ((⟨#[45]⟩ : ByteArray) ++ ⟨l.toArray⟩ = decStr (-(n : Int))) := Lib.hid (by
          unfold decStr Lib.itoa
          rw [if_pos (by omega), hl, show (-(n : Int)).natAbs = n by omega]
          apply ByteArray.ext
          simp)
        clear hl hn0
        go_wp2
        go_ret
        exact ⟨ret_string hst.out, hB⟩
theorem spec_Dec (n : Int) (w : World) (hn : I64 n) : Calls Tryd.prog 21 #[.int .i64 n] w fun e w' => e = .returned (.string (decStr n)) ∧ Below w.heap.size w w' := by
  obtain ⟨h1, h2⟩ := hn
  by_cases h : 0 ≤ n
  · obtain ⟨m, rfl⟩ := Int.eq_ofNat_of_zero_le h
    exact spec_Dec_pos m w (by omega)
  · obtain ⟨m, hm⟩ : ∃ m : Nat, n = -(m : Int) := ⟨n.natAbs, by omega⟩
    subst hm
    exact spec_Dec_neg m w ⟨by omega, by omega⟩
theorem decStr_size {n : Int} (h : I64 n) : (decStr n).size ≤ 20 := itoa_len h
end Go.Proofs.YtmglcdmccikinaaDoor
