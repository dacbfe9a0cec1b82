/- HexOf, in both packages. -/
import Derived.Test.YthdipbgeanmcgaaBldS
import Derived.Test.YthdipbgeanmcgaaIdx
import Derived.Test.YthdipbgeanmcgaaOpen
import Derived.Test.YthdipbgeanmcgaaBytes
namespace Go.Proofs.Ythdipbgeanmcgaa
open Go.RowKit

def digL : List UInt8 := [48, 49, 50, 51, 52, 53, 54, 55, 56, 57, 97, 98, 99, 100, 101, 102]
def dig (n : Nat) : UInt8 := digL.getD n 0
def hexL : List UInt8 → List UInt8
  | [] => []
  | c :: r => dig (c.toNat / 16) :: dig (c.toNat % 16) :: hexL r
theorem hexL_append (a b : List UInt8) : hexL (a ++ b) = hexL a ++ hexL b := by
  induction a with
  | nil => rfl
  | cons c r ih => simp [hexL, ih]
theorem hexL_length (a : List UInt8) : (hexL a).length = 2 * a.length := by
  induction a with
  | nil => rfl
  | cons c r ih => simp [hexL, ih]; omega
theorem hexL_take {s : ByteArray} {k : Nat} (h : k < s.size) : hexL (s.data.toList.take (k + 1)) = hexL (s.data.toList.take k) ++ [dig (s[k].toNat / 16)] ++ [dig (s[k].toNat % 16)] := by
  have h' : k < s.data.toList.length := by simpa using h
  rw [List.take_succ_eq_append_getElem h', hexL_append]
  simp only [hexL, List.append_assoc, List.cons_append, List.nil_append]; rfl

theorem dig_at : ∀ (n : Nat) (h : n < 16), (⟨#[48, 49, 50, 51, 52, 53, 54, 55, 56, 57, 97, 98, 99, 100, 101, 102]⟩ : ByteArray)[n]'h = dig n := by
  intro n h
  match n, h with
  | 0, _ | 1, _ | 2, _ | 3, _ | 4, _ | 5, _ | 6, _ | 7, _ | 8, _ | 9, _ | 10, _ | 11, _ | 12, _ | 13, _ | 14, _ | 15, _ => rfl
  | n + 16, h => exact absurd h (by omega)

set_option maxRecDepth 100000 in
set_option maxHeartbeats 4000000 in
theorem impl_HexOf (s : ByteArray) (w : World) (hs : s.size ≤ 1048576) :
    Calls Try.prog 12 #[.string s] w fun e w' => e = .returned (.string ⟨(hexL s.data.toList).toArray⟩) ∧ Below w.heap.size w w' := by
  go_enter Try.func12, Try.ntmps12
  go_wp2
  have hB0 := bd_new (T := 38) (Nat.le_refl w.heap.size)
  go_loopw [7] (fun i wr => ∃ k : Nat, k ≤ s.size ∧ i = .int .i64 k ∧ Hid (Bd 38 w.heap.size w.heap.size (hexL (s.data.toList.take k)) wr) ∧ Below w.heap.size w wr) (fun i _ => s.size - (intOf i).toNat)
  case atStart => exact ⟨0, Nat.zero_le _, rfl, Lib.hid hB0, (Below.refl _ _).alloc (Nat.le_refl _) _⟩
  case round =>
    obtain ⟨k, hk, rfl, hbd, hB⟩ := hrel
    have hBs := hB.size
    by_cases hlt : k < s.size
    · have hb : (s[k].toNat : Int) < 256 := by have := s[k].toNat_lt; omega
      have hb1 : (s[k].toNat / 16) < 16 := by have := s[k].toNat_lt; omega
      have hb2 : (s[k].toNat % 16) < 16 := by omega
      have hnext := Lib.hid (hexL_take hlt)
      have hlen : (hexL (s.data.toList.take k)).length ≤ 2097152 := by rw [hexL_length]; simp; omega
      go_wp2_with fail
      refine (bd_writeByte bdT_builder w.heap.size w.heap.size _ _ wr hbd.out (by omega) hBs).mono ?_
      rintro e w1 ⟨rfl, h1, hb3⟩
      rw [dig_at _ hb1] at h1
      have hB1 := hB.trans hb3
      have Hbd1 := Lib.hid h1
      clear h1
      go_wp2_with fail
      refine (bd_writeByte bdT_builder w.heap.size w.heap.size _ _ w1 Hbd1.out (by simp; omega) hB1.size).mono ?_
      rintro e w2 ⟨rfl, h2, hb4⟩
      rw [dig_at _ hb2] at h2
      have hB2 := hB1.trans hb4
      have Hbd2 := Lib.hid h2
      clear h2
      go_wp2
      go_roundw
      case rel => exact ⟨k + 1, by omega, by go_num, Lib.hid (by rw [hnext.out]; exact Hbd2.out), hB2⟩
      case measure => simp [intOf]; omega
    · have hend : s.data.toList.take k = s.data.toList := List.take_of_length_le (by simp; exact Nat.not_lt.1 hlt)
      have hbd2 := hbd.out
      rw [hend] at hbd2
      have Hbd := Lib.hid hbd2
      clear hbd hbd2 hend
      go_wp2_with fail
      refine (bd_string w.heap.size w.heap.size _ wr Hbd.out hBs).mono ?_
      rintro e w1 ⟨rfl, _, hb1⟩
      go_wp2
      go_ret
      exact ⟨rfl, hB.trans hb1⟩

theorem run_dig (w' : World) (n : Nat) (i : Int) (hi : i = n) (h : n < 16) : (Instr.index 9 (.string ⟨#[48, 49, 50, 51, 52, 53, 54, 55, 56, 57, 97, 98, 99, 100, 101, 102]⟩) (.int .u8 i)).run Try.prog w' = .ok (.int .u8 (dig n).toNat) w' := by
  subst hi
  rw [run_index_string w' 9 _ .u8 n Try.underlying9, dif_pos ⟨by omega, by simp only [ByteArray.size]; simp; omega⟩]
  have := dig_at n h
  simp only [Int.toNat_natCast]
  rw [this]

set_option maxRecDepth 100000 in
set_option maxHeartbeats 4000000 in
theorem spec_HexOf (s : ByteArray) (w : World) (hs : s.size ≤ 1048576) :
    Calls Try.prog 11 #[.string s] w fun e w' => e = .returned (.string ⟨(hexL s.data.toList).toArray⟩) ∧ Below w.heap.size w w' := by
  go_enter Try.func11, Try.ntmps11
  go_wp2
  have hown0 := own_empty (α := UInt8) (n := 1) (c := byteC) w 5 w.heap.size (Nat.le_refl _)
  go_loopw [4, 5] (fun v i wr => ∃ k : Nat, k ≤ s.size ∧ i = .int .i64 k ∧ Below w.heap.size w wr ∧ Hid (Own 1 byteC w.heap.size 5 wr v (hexL (s.data.toList.take k)))) (fun _ i _ => s.size - (intOf i).toNat)
  case atStart => exact ⟨0, Nat.zero_le _, rfl, (Below.refl _ _).alloc (Nat.le_refl _) _, Lib.hid hown0⟩
  case round =>
    obtain ⟨k, hk, rfl, hB, hown⟩ := hrel
    have hBs := hB.size
    by_cases hlt : k < s.size
    · have hb : (s[k].toNat : Int) < 256 := by have := s[k].toNat_lt; omega
      have hb1 : (s[k].toNat / 16) < 16 := by have := s[k].toNat_lt; omega
      have hb2 : (s[k].toNat % 16) < 16 := by omega
      have q0 : 0 ≤ (s[k].toNat : Int) / 16 := by omega
      have q1 : (s[k].toNat : Int) / 16 < 16 := by omega
      have q2 : 0 ≤ (s[k].toNat : Int) % 16 := by omega
      have q3 : (s[k].toNat : Int) % 16 < 16 := by omega
      have hnext := Lib.hid (hexL_take hlt)
      have hlen : (hexL (s.data.toList.take k)).length ≤ 2097152 := by rw [hexL_length]; simp; omega
      have ht : (s[k].toNat : Int).tmod 16 = (s[k].toNat : Int) % 16 := Int.tmod_eq_emod_of_nonneg (by omega)
      have hw1 : IntKind.u8.wrap ((s[k].toNat : Int) / 16) = (s[k].toNat : Int) / 16 := IntWalk.u8_in _ (by omega)
      have hw2 : IntKind.u8.wrap ((s[k].toNat : Int) % 16) = (s[k].toNat : Int) % 16 := IntWalk.u8_in _ (by omega)
      have hI1 := fun w' => run_dig w' (s[k].toNat / 16) ((s[k].toNat : Int) / 16) (by omega) hb1
      have hI2 := fun w' => run_dig w' (s[k].toNat % 16) ((s[k].toNat : Int) % 16) (by omega) hb2
      generalize hexL (s.data.toList.take k) = lk at *
      generalize dig (s[k].toNat / 16) = d1 at *
      generalize dig (s[k].toNat % 16) = d2 at *
      go_wp2_with fail
      go_region_held3 (fun w' => (∀ b o, b < w.heap.size → w'.cell? ⟨b, o, none⟩ = wr.cell? ⟨b, o, none⟩) ∧ Below w.heap.size wr w') (first | exact heldB (Below.refl _ _).drew | exact heldB ((Below.refl _ _).drew.alloc (by simpa using hBs) _) | exact heldB hBapp)
        (first | (refine step_apps (c := byteC) (bytes := 1) rfl _ _ 32 5 rfl Try.underlying32 info_uint8 (by omega) byteC_len byteC_one w.heap.size lk [d1, d2] _ rfl _ rfl hown.out.drew 2 rfl rfl (by omega) (by omega) (by simpa using hBs) ?_; intro v' w2 hown2 hg2; have hBapp : Below w.heap.size wr w2 := hown.out.drew.app (Below.refl _ _).drew (Nat.le_refl _) (by simpa using hBs) hg2))
      all_goals
        go_wp2
        go_roundw
        case rel => exact ⟨k + 1, by omega, by go_num, hB.trans hBapp, Lib.hid (by rw [hnext.out, List.append_assoc]; exact hown2)⟩
        case measure => simp [intOf]; omega
    · have hend : s.data.toList.take k = s.data.toList := List.take_of_length_le (by simp; exact Nat.not_lt.1 hlt)
      have hown2 := hown.out
      rw [hend] at hown2
      have hcv := bytes_str hown2
      clear hown hown2 hend
      go_wp2
      go_ret
      exact ⟨rfl, hB⟩
end Go.Proofs.Ythdipbgeanmcgaa
