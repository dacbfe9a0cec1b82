/- Packing: the end with the checksum, both packages. -/
import Derived.Test.YtgbohbjpdmgneaaPk2
namespace Go.Proofs.Ytgbohbjpdmgneaa
open Go.RowKit
theorem fit_small {n : Int} (h : -1000000 ≤ n) (h2 : n ≤ 1000000) : Fit n := by unfold Fit; omega
theorem sumL_bd : ∀ (l : List UInt8) (a b : Int), 0 ≤ a → a ≤ 240 → 0 ≤ b → b ≤ 250 → (0 ≤ (sumL l (a, b)).1 ∧ (sumL l (a, b)).1 ≤ 240) ∧ (0 ≤ (sumL l (a, b)).2 ∧ (sumL l (a, b)).2 ≤ 250)
  | [], a, b, h1, h2, h3, h4 => ⟨⟨h1, h2⟩, ⟨h3, h4⟩⟩
  | c :: r, a, b, _, _, _, _ => by
    rw [sumL]
    exact sumL_bd r _ _ (by omega) (by omega) (by omega) (by omega)
theorem sumOf_nat (l : List UInt8) : ∃ m : Nat, sumOf l = m ∧ m ≤ 65535 := by
  have h := sumL_bd l 5 0 (by omega) (by omega) (by omega) (by omega)
  unfold sumOf
  exact ⟨(256 * (sumL l (5, 0)).2 + (sumL l (5, 0)).1).toNat, by omega, by omega⟩
def endB (l : List UInt8) : List UInt8 := [UInt8.ofNat ((sumOf l).toNat / 256), UInt8.ofNat ((sumOf l).toNat % 256)]
theorem end_facts (m : Nat) (hm : m ≤ 65535) : (m : Int).tmod 256 = ((m % 256 : Nat) : Int) ∧ (m : Int).tdiv 256 = ((m / 256 : Nat) : Int) ∧ IntKind.u8.wrap ((m / 256 : Nat) : Int) = ((UInt8.ofNat (m / 256)).toNat : Int) ∧ IntKind.u8.wrap ((m % 256 : Nat) : Int) = ((UInt8.ofNat (m % 256)).toNat : Int) ∧
    (m : Int) % 256 = ((m % 256 : Nat) : Int) ∧ (m : Int) / 256 = ((m / 256 : Nat) : Int) := by
  refine ⟨rfl, rfl, ?_, ?_, rfl, rfl⟩
  · rw [IntWalk.u8_in _ (by omega), UInt8.toNat_ofNat']; omega
  · rw [IntWalk.u8_in _ (by omega), UInt8.toNat_ofNat']; omega
set_option maxRecDepth 100000 in
set_option maxHeartbeats 4000000 in
theorem spec_Ended (v : Value) (l : List UInt8) (lo : Nat) (w : World) (hown : Own 1 byteC lo 5 w v l) (hl : l.length ≤ 1000000000) (hlo : lo ≤ w.heap.size) :
    Calls Try.prog 133 #[v] w fun e w' => e = .returned (.string ⟨(l ++ endB l).toArray⟩) ∧ Below lo w w' := by
  have hcv := bytes_str hown
  have hsum := spec_l27Sum ⟨l.toArray⟩ w (by have : (⟨l.toArray⟩ : ByteArray).size = l.length := by simp [ByteArray.size]
                                             rw [this]; unfold maxLen; omega)
  rw [show (⟨l.toArray⟩ : ByteArray).data.toList = l from rfl] at hsum
  unfold endB
  obtain ⟨m, hm, hmb⟩ := sumOf_nat l
  rw [hm] at hsum ⊢
  rw [Int.toNat_natCast]
  have hsum := Lib.hid hsum
  obtain ⟨f1, f2, f3, f4, f5, f6⟩ := end_facts m hmb
  generalize UInt8.ofNat (m / 256) = x at *
  generalize UInt8.ofNat (m % 256) = y at *
  generalize m / 256 = q at *
  generalize m % 256 = r at *
  have Hown := Lib.hid hown
  clear hown hm
  go_enter Try.func133, Try.ntmps133
  go_wp2_with fail
  refine hsum.out.mono ?_
  rintro e w1 ⟨rfl, rfl⟩
  clear hcv
  go_wp2_with (at_builtin; refine wpList_apps (c := byteC) (bytes := 1) rfl _ _ 41 5 rfl Try.underlying41 info_uint8 (by omega) byteC_len byteC_one lo l [x, y] _ rfl _ rfl Hown.out 2 rfl rfl (by omega) (by omega) hlo ?_)
  intro v' w3 hown3 hg3
  have hB3 := (Hown.out).app (Below.refl lo _) (Nat.le_refl _) hlo hg3
  have hcv := bytes_str hown3
  clear hown3 hg3
  go_wp2
  go_ret
  exact ⟨rfl, hB3⟩
set_option maxRecDepth 100000 in
set_option maxHeartbeats 4000000 in
theorem impl_closed (b : Nat) (l : List UInt8) (lo : Nat) (w : World) (hbd : Bd 105 lo b l w) (hl : l.length ≤ 1000000000) (hlo : lo ≤ w.heap.size) :
    Calls Try.prog 70 #[.pointer (some ⟨b, 0, none⟩)] w fun e w' => e = .returned (.string ⟨(l ++ endB l).toArray⟩) ∧ Below lo w w' := by
  have hstr := Lib.hid (bd_string (T := 105) lo b l w hbd hlo)
  have hsum := fun w => impl_SumOf ⟨l.toArray⟩ w (by have : (⟨l.toArray⟩ : ByteArray).size = l.length := by simp [ByteArray.size]
                                                     rw [this]; unfold maxLen; omega)
  rw [show (⟨l.toArray⟩ : ByteArray).data.toList = l from rfl] at hsum
  unfold endB
  obtain ⟨m, hm, hmb⟩ := sumOf_nat l
  rw [hm] at hsum ⊢
  rw [Int.toNat_natCast]
  have hsum := Lib.hid hsum
  obtain ⟨f1, f2, f3, f4, f5, f6⟩ := end_facts m hmb
  generalize UInt8.ofNat (m / 256) = x at *
  generalize UInt8.ofNat (m % 256) = y at *
  generalize m / 256 = q at *
  generalize m % 256 = r at *
  clear hbd hm
  go_enter Try.func70, Try.ntmps70
  go_wp2_with fail
  refine hstr.out.mono ?_
  rintro e w1 ⟨rfl, hbd1, hb1⟩
  have Hbd1 := Lib.hid hbd1
  have hlo1 := Nat.le_trans hlo hb1.size
  clear hbd1
  go_wp2_with fail
  refine (hsum.out _).mono ?_
  rintro e w1 ⟨rfl, rfl⟩
  go_wp2_with fail
  refine (bd_writeByte bdT_packer lo b l x _ Hbd1.out (by omega) hlo1).mono ?_
  rintro e w2 ⟨rfl, hbd2, hb2⟩
  have Hbd2 := Lib.hid hbd2
  have hlo2 := Nat.le_trans hlo1 hb2.size
  clear hbd2
  go_wp2_with fail
  refine (bd_writeByte bdT_packer lo b (l ++ [x]) y _ Hbd2.out (by rw [List.length_append]; simp; omega) hlo2).mono ?_
  rintro e w3 ⟨rfl, hbd3, hb3⟩
  have Hbd3 := Lib.hid hbd3
  have hlo3 := Nat.le_trans hlo2 hb3.size
  clear hbd3
  go_wp2_with fail
  refine (bd_string (T := 105) lo b (l ++ [x] ++ [y]) w3 Hbd3.out hlo3).mono ?_
  rintro e w4 ⟨rfl, _, hb4⟩
  go_wp2
  go_ret
  exact ⟨rfl, ((hb1.trans hb2).trans hb3).trans hb4⟩
end Go.Proofs.Ytgbohbjpdmgneaa
