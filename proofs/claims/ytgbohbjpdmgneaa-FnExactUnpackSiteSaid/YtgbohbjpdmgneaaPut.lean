/- Numbers packed: l27Put and packer.number. -/
import Derived.Test.YtgbohbjpdmgneaaBldS
import Derived.Test.YtgbohbjpdmgneaaBytes
namespace Go.Proofs.Ytgbohbjpdmgneaa
open Go.RowKit

def putB (n : Nat) : List UInt8 := if _h : n < 128 then [UInt8.ofNat n] else UInt8.ofNat (128 + n % 128) :: putB (n / 128)
termination_by n
decreasing_by omega
theorem putB_lt {n : Nat} (h : n < 128) : putB n = [UInt8.ofNat n] := by rw [putB, dif_pos h]
theorem putB_ge {n : Nat} (h : ¬ n < 128) : putB n = UInt8.ofNat (128 + n % 128) :: putB (n / 128) := by rw [putB, dif_neg h]
theorem putB_len : ∀ (k n : Nat), n < 128 ^ (k + 1) → (putB n).length ≤ k + 1
  | 0, n, h => by rw [putB_lt (by omega)]; simp
  | k + 1, n, h => by
    by_cases h1 : n < 128
    · rw [putB_lt h1]; simp
    · rw [putB_ge h1, List.length_cons]
      have : n / 128 < 128 ^ (k + 1) := by
        rw [Nat.pow_succ] at h
        exact Nat.div_lt_of_lt_mul (by rw [Nat.mul_comm]; exact h)
      have := putB_len k (n / 128) this
      omega
def sgn (n : Int) : Nat := if n < 0 then (-2 * n - 1).toNat else (2 * n).toNat
theorem sgn_cases (n : Int) : (n < 0 ∧ (sgn n : Int) = -2 * n - 1) ∨ (0 ≤ n ∧ (sgn n : Int) = 2 * n) := by
  unfold sgn
  by_cases h : n < 0
  · rw [if_pos h]; omega
  · rw [if_neg h]; omega
/-- Numbers that are packed without overflow. -/
def Fit (n : Int) : Prop := -4611686018427387904 ≤ n ∧ n ≤ 4611686018427387903
theorem sgn_lt {n : Int} (h : Fit n) : sgn n < 9223372036854775808 := by
  have := sgn_cases n
  unfold Fit at h
  omega
theorem putB_sgn {n : Int} (h : Fit n) : (putB (sgn n)).length ≤ 10 := putB_len 9 _ (Nat.lt_trans (sgn_lt h) (by decide))

theorem sgn_wrap {n : Int} (h1 : n < 0) (h2 : -4611686018427387904 ≤ n) : wrap64 (wrap64 (-2 * n) - 1) = -2 * n - 1 := by unfold wrap64; omega

set_option maxHeartbeats 1000000 in
theorem spec_Signed (n : Int) (w : World) (h : Fit n) : Calls Try.prog 174 #[.int .i64 n] w fun e w' => e = .returned (.int .i64 (sgn n)) ∧ w' = w := by
  obtain ⟨hf1, hf2⟩ := h
  have hc := sgn_cases n
  generalize (sgn n : Int) = x at *
  rcases hc with ⟨h1, rfl⟩ | ⟨h1, rfl⟩
  · have E := Lib.hid (sgn_wrap h1 hf1)
    go_enter Try.func174, Try.ntmps174
    go_wp2
    go_ret
    exact ⟨ret_int E.out, rfl⟩
  · go_enter Try.func174, Try.ntmps174
    go_wp2
    go_ret
    exact ⟨rfl, rfl⟩

/-- What a step of a packing loop needs of the number left. -/
theorem put_facts (x : Nat) (hx : x < 9223372036854775808) : (x : Int).tmod 128 = ((x % 128 : Nat) : Int) ∧ (x : Int).tdiv 128 = ((x / 128 : Nat) : Int) ∧ IntKind.i64.wrap (128 + ((x % 128 : Nat) : Int)) = 128 + ((x % 128 : Nat) : Int) ∧ IntKind.u8.wrap (128 + ((x % 128 : Nat) : Int)) = ((UInt8.ofNat (128 + x % 128)).toNat : Int) ∧ (x < 128 → IntKind.u8.wrap (x : Int) = ((UInt8.ofNat x).toNat : Int)) := by
  refine ⟨rfl, rfl, IntWalk.i64_in _ (by omega), ?_, fun h => ?_⟩
  · rw [IntWalk.u8_in _ (by omega), UInt8.toNat_ofNat']; omega
  · rw [IntWalk.u8_in _ (by omega), UInt8.toNat_ofNat']; omega

set_option maxRecDepth 100000 in
set_option maxHeartbeats 4000000 in
theorem spec_Put (v : Value) (l : List UInt8) (lo : Nat) (n : Int) (w : World) (hown : Own 1 byteC lo 5 w v l) (hl : l.length ≤ 70368744177664) (hlo : lo ≤ w.heap.size) (hn : Fit n) :
    Calls Try.prog 130 #[v, .int .i64 n] w fun e w' => ∃ v', e = .returned v' ∧ Own 1 byteC lo 5 w' v' (l ++ putB (sgn n)) ∧ Below lo w w' := by
  have hsl := sgn_lt hn
  have hpl := putB_sgn hn
  have hsg := Lib.hid (fun w' => spec_Signed n w' hn)
  generalize sgn n = x0 at *
  have Hown := Lib.hid hown
  clear hown
  go_enter Try.func130, Try.ntmps130
  go_wp2_with fail
  refine (hsg.out _).mono ?_
  rintro e w1 ⟨rfl, rfl⟩
  go_wp2
  go_loopw [0, 5] (fun v i wr => ∃ (x : Nat) (acc : List UInt8), i = .int .i64 x ∧ x < 9223372036854775808 ∧ Hid (Own 1 byteC lo 5 wr v acc) ∧ Hid (acc ++ putB x = l ++ putB x0) ∧ Below lo w1 wr) (fun _ i _ => (intOf i).toNat)
  case atStart => exact ⟨x0, l, rfl, hsl, Hown, Lib.hid rfl, Below.refl _ _⟩
  case round =>
    obtain ⟨x, acc, rfl, hx, hown, hacc, hB⟩ := hrel
    have hBs := Nat.le_trans hlo hB.size
    obtain ⟨f1, f2, f3, f4, f5⟩ := put_facts x hx
    have hal : acc.length ≤ 70368744177684 := by
      have := congrArg List.length hacc.out
      rw [List.length_append, List.length_append] at this
      omega
    by_cases hlt : x < 128
    · have f6 := f5 hlt
      have hfin := hacc.out
      rw [putB_lt hlt] at hfin
      have Hfin := Lib.hid hfin
      clear hfin f5 f1 f2 f3 f4
      generalize UInt8.ofNat x = y at *
      go_wp2_with (at_builtin; refine wpList_app1 (c := byteC) (bytes := 1) rfl _ _ 41 5 rfl Try.underlying41 info_uint8 (by omega) byteC_len byteC_one lo acc y _ rfl _ rfl hown.out rfl (by omega) (by omega) hBs ?_; intro v' w3 hown3 hg3; have hB3 := (hown.out).app hB (Nat.le_refl _) hBs hg3)
      go_ret
      exact ⟨_, rfl, by rw [← Hfin.out]; exact hown3, hB3⟩
    · have hnext := hacc.out
      rw [putB_ge hlt] at hnext
      have Hnext := Lib.hid hnext
      clear hnext f5
      generalize UInt8.ofNat (128 + x % 128) = y at *
      have hd : x / 128 < x := by omega
      generalize x / 128 = x' at *
      generalize x % 128 = r at *
      go_wp2_with (at_builtin; refine wpList_app1 (c := byteC) (bytes := 1) rfl _ _ 41 5 rfl Try.underlying41 info_uint8 (by omega) byteC_len byteC_one lo acc y _ rfl _ rfl hown.out rfl (by omega) (by omega) hBs ?_; intro v' w3 hown3 hg3; have hB3 := (hown.out).app hB (Nat.le_refl _) hBs hg3)
      go_roundw
      case rel => exact ⟨x', acc ++ [y], rfl, by omega, Lib.hid hown3, Lib.hid (by rw [← Hnext.out]; simp), hB3⟩
      case measure => simp [intOf]; omega

theorem bdT_packer : BdT 105 := ⟨by kernel_rfl, by decide⟩
set_option maxRecDepth 100000 in
set_option maxHeartbeats 4000000 in
theorem impl_number (b : Nat) (l : List UInt8) (lo : Nat) (n : Int) (w : World) (hbd : Bd 105 lo b l w) (hl : l.length ≤ 70368744177664) (hlo : lo ≤ w.heap.size) (hn : Fit n) :
    Calls Try.prog 67 #[.pointer (some ⟨b, 0, none⟩), .int .i64 n] w fun e w' => e = .returned (.tuple #[]) ∧ Bd 105 lo b (l ++ putB (sgn n)) w' ∧ Below lo w w' := by
  have hsl := sgn_lt hn
  have hpl := putB_sgn hn
  have hc := sgn_cases n
  generalize sgn n = x0 at *
  have Hbd := Lib.hid hbd
  clear hbd
  obtain ⟨hf1, hf2⟩ := hn
  have hE : n < 0 → wrap64 (wrap64 (-2 * n) - 1) = -2 * n - 1 := fun h => sgn_wrap h hf1
  have HE := Lib.hid hE
  clear hE
  rcases hc with ⟨hc, hx⟩ | ⟨hc, hx⟩
  all_goals
    have Hx := Lib.hid hx
    clear hx
    go_enter Try.func67, Try.ntmps67
    go_wp2
    go_loopw [4] (fun i wr => ∃ (x : Nat) (acc : List UInt8), i = .int .i64 x ∧ x < 9223372036854775808 ∧ Hid (Bd 105 lo b acc wr) ∧ Hid (acc ++ putB x = l ++ putB x0) ∧ Below lo w wr) (fun i _ => (intOf i).toNat)
    case atStart => exact ⟨x0, l, by first | (rw [Hx.out]; done) | exact congrArg (Value.int .i64) ((HE.out hc).trans Hx.out.symm), hsl, Hbd, Lib.hid rfl, Below.refl _ _⟩
    case round =>
      obtain ⟨x, acc, rfl, hx, hown, hacc, hB⟩ := hrel
      have hBs := Nat.le_trans hlo hB.size
      obtain ⟨f1, f2, f3, f4, f5⟩ := put_facts x hx
      have hal : acc.length ≤ 70368744177684 := by
        have := congrArg List.length hacc.out
        rw [List.length_append, List.length_append] at this
        omega
      by_cases hlt : x < 128
      · have f6 := f5 hlt
        have hfin := hacc.out
        rw [putB_lt hlt] at hfin
        have Hfin := Lib.hid hfin
        clear hfin f5 f1 f2 f3 f4
        generalize UInt8.ofNat x = y at *
        go_wp2_with fail
        refine (bd_writeByte bdT_packer lo b acc y _ hown.out (by omega) hBs).mono ?_
        rintro e w3 ⟨rfl, hbd3, hb3⟩
        have Hbd3 := Lib.hid hbd3
        clear hbd3
        have hB3 := hB.trans hb3
        go_wp2
        go_end0
        exact ⟨rfl, by rw [← Hfin.out]; exact Hbd3.out, hB3⟩
      · have hnext := hacc.out
        rw [putB_ge hlt] at hnext
        have Hnext := Lib.hid hnext
        clear hnext f5
        generalize UInt8.ofNat (128 + x % 128) = y at *
        have hd : x / 128 < x := by omega
        generalize x / 128 = x' at *
        generalize x % 128 = r at *
        go_wp2_with fail
        refine (bd_writeByte bdT_packer lo b acc y _ hown.out (by omega) hBs).mono ?_
        rintro e w3 ⟨rfl, hbd3, hb3⟩
        have Hbd3 := Lib.hid hbd3
        clear hbd3
        have hB3 := hB.trans hb3
        go_wp2
        go_roundw
        case rel => exact ⟨x', acc ++ [y], rfl, by omega, Hbd3, Lib.hid (by rw [← Hnext.out]; simp), hB3⟩
        case measure => simp [intOf]; omega
end Go.Proofs.Ytgbohbjpdmgneaa
