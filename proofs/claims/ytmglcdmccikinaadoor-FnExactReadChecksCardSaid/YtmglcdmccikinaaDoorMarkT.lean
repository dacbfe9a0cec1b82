/- markText. -/
import Derived.Test.YtmglcdmccikinaaDoorChecked
import Derived.Test.YtmglcdmccikinaaDoorMark
namespace Go.Proofs.YtmglcdmccikinaaDoor
open Go.RowKit

set_option maxRecDepth 100000 in
set_option maxHeartbeats 1000000 in
theorem law_markText (k : Nat) (w : World) (h1 : 1 ≤ k) (h2 : k ≤ 1099511627776) :
    Calls Tryd.prog 19 #[.int .i64 k] w fun e w' => e = .returned (.string (markB k)) ∧ Below w.heap.size w w' := by
  go_enter Tryd.func19, Tryd.ntmps19
  go_wp2
  go_loopw [0, 3] (fun v o wr => ∃ (m : Nat) (acc : List UInt8), v = .int .i64 m ∧ o = .string ⟨acc.toArray⟩ ∧ m ≤ k ∧ Below w.heap.size w wr ∧ Hid (∀ f, m ≤ f → digitsB f m acc = digitsB k k []) ∧ Hid (acc.length + m ≤ k)) (fun v _ _ => (intOf v).toNat)
  case atStart => exact ⟨k, [], rfl, rfl, Nat.le_refl _, Below.refl _ _, Lib.hid (fun f hf => digitsB_fuel _ _ _ _ hf (Nat.le_refl _)), Lib.hid (by simp)⟩
  case round =>
    obtain ⟨m, acc, rfl, rfl, hm, hB, hd, hl⟩ := hrel
    by_cases h0 : 0 < m
    · obtain ⟨d, hdd⟩ : ∃ d, d = UInt8.ofNat (48 + m % 10) := ⟨_, rfl⟩
      have hdn : ((d.toNat : Nat) : Int) = 48 + (m : Int) % 10 := by rw [hdd, UInt8.toNat_ofNat']; omega
      have hcv := run_convert_bytes_back (P := Tryd.prog) (wr.alloc (.cells #[.int .u8 (48 + (m : Int) % 10)] 5)) 59 9 5 ⟨wr.heap.size, 0, none⟩ 1 [d] (by simp) (by simp) (by simp) (by
        intro j hj
        have : j = 0 := by simpa using hj
        subst this
        rw [List.getElem_singleton, hdn]
        exact World.cell?_alloc_mark wr #[.int .u8 (48 + (m : Int) % 10)] _ (0, 0) 0)
      have hadd := fun w' => run_string_add_sum (P := Tryd.prog) w' ⟨[d].toArray⟩ ⟨acc.toArray⟩ (by have := hl.out; simp [ByteArray.size]; omega)
      simp only [ByteArray.mk_append_mk] at hadd
      have Hnew : Hid (∀ f, m / 10 ≤ f → digitsB f (m / 10) (d :: acc) = digitsB k k []) := Lib.hid (by
        intro f hf
        obtain ⟨f', h1, _, h2⟩ := digitsB_step (f := m) (acc := acc) h0 (Nat.le_refl _)
        rw [← hd.out m (Nat.le_refl _), h2, hdd]
        exact digitsB_fuel _ _ _ _ hf h1)
      have Hd := Lib.hid hdd
      clear hdd hdn
      simp only [List.length_singleton] at hcv
      go_wp2
      go_roundw
      case rel => exact ⟨m / 10, d :: acc, by go_num, by simp, by omega, hB.alloc hB.size _, Hnew, Lib.hid (by have := hl.out; simp; omega)⟩
      case measure => simp [intOf]; omega
    · have : m = 0 := by omega
      subst this
      have hadd := fun w' => run_string_add_sum (P := Tryd.prog) w' ⟨[(109 : UInt8)].toArray⟩ ⟨acc.toArray⟩ (by have := hl.out; simp [ByteArray.size]; omega)
      simp only [ByteArray.mk_append_mk] at hadd
      have He := Lib.hid (show markB k = ⟨(109 :: acc).toArray⟩ by
        have := hd.out 0 (Nat.le_refl _)
        rw [digitsB_zero] at this
        rw [markB, ← this])
      go_wp2
      go_ret
      exact ⟨ret_string He.out.symm, hB⟩
theorem law_markTextI (n : Int) (w : World) (h1 : 1 ≤ n) (h2 : n ≤ 1099511627776) :
    Calls Tryd.prog 19 #[.int .i64 n] w fun e w' => e = .returned (.string (markB n.toNat)) ∧ Below w.heap.size w w' := by
  obtain ⟨k, rfl⟩ := Int.eq_ofNat_of_zero_le (show 0 ≤ n by omega)
  rw [Int.toNat_natCast]
  exact law_markText k w (by omega) (by omega)
end Go.Proofs.YtmglcdmccikinaaDoor
