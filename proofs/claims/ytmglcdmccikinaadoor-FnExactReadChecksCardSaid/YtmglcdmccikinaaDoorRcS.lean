/- The text of checks read, the reference: the pieces of a text. -/
import Derived.Test.YtmglcdmccikinaaDoorRcP
import Derived.Test.YtmglcdmccikinaaDoorTStr
import Derived.Test.YtmglcdmccikinaaDoorNumW
import Derived.Handy
namespace Go.Proofs.YtmglcdmccikinaaDoor
open Go.RowKit
theorem info_strs : (Tryd.prog.info? 9).map (fun i => (i.zero.map (·.cells.size), i.size, i.bytes)) = some (some 1, 1, 16) := by kernel_rfl
def SplitRes (s : ByteArray) (c : UInt8) (w : World) (e : Ending) (w' : World) : Prop := ∃ v, e = .returned v ∧ Slw 1 strC w.heap.size w'.heap.size w' v (splitF s c 0) ∧ Below w.heap.size w w'
set_option maxRecDepth 100000 in
set_option maxHeartbeats 4000000 in
theorem spec_Split (s : ByteArray) (c : UInt8) (w : World) (hs : s.size ≤ 1048576) : Calls Tryd.prog 9 #[.string s, .int .u8 (c.toNat : Int)] w (SplitRes s c w) := by
  have hl := Lib.hid (splitF_len s c)
  generalize hF : splitF s c 0 = F at hl
  have HF := Lib.hid hF
  clear hF
  go_enter Tryd.func9, Tryd.ntmps9
  go_wp2
  go_loopw [5, 6, 7] (fun vo vf vi wr => ∃ (f i : Nat) (ov : Value) (acc : List ByteArray), vo = ov ∧ f ≤ i ∧ i ≤ s.size ∧ vf = .int .i64 f ∧ vi = .int .i64 i ∧ Below w.heap.size w wr ∧ acc.length ≤ f ∧ Hid (Own 1 strC w.heap.size 9 wr ov acc) ∧ Hid (F = acc ++ splitF s c f) ∧ Hid (∀ j (hj : j < s.size), f ≤ j → j < i → ¬ s[j] = c)) (fun _ _ vi _ => s.size - (intOf vi).toNat)
  case atStart => exact ⟨0, 0, _, [], rfl, Nat.le_refl _, Nat.zero_le _, rfl, rfl, (Below.refl _ _).alloc (Nat.le_refl _) _, Nat.zero_le _, Lib.hid (own_empty w 9 w.heap.size (Nat.le_refl _)), Lib.hid (by rw [← HF.out]; rfl), Lib.hid (fun j _ _ h => absurd h (by omega))⟩
  case round =>
    obtain ⟨f, i, ov, acc, hov, hfi, hi, rfl, rfl, hB, hac, hown, hacc, hno⟩ := hrel
    have hov := hov.symm
    subst hov
    have hBs := hB.size
    have hown1 := hown.out
    obtain ⟨va, vc, rfl⟩ : ∃ a cap, ov = .slice a acc.length cap := by
      have := (hown1.slw strC_len).1
      obtain ⟨a, cap, h, -⟩ := this
      exact ⟨a, cap, h⟩
    by_cases hlt : i < s.size
    · have hc1 : s[i].toNat < 256 := s[i].toNat_lt
      have hc2 : c.toNat < 256 := c.toNat_lt
      by_cases hc : s[i] = c
      · have Hst := Lib.hid (splitF_step hfi hlt hc hno.out)
        have hq : ((s[i].toNat : Int) == (c.toNat : Int)) = true := by rw [beq_iff_eq, hc]
        have hk1 : (0 : Int) ≤ (f : Int) := by omega
        have hk2 : (f : Int) ≤ (i : Int) := by omega
        have hk3 : (i : Int) ≤ (s.size : Int) := by omega
        clear hc hno
        go_wp2_with (at_builtin; refine wpList_app1 (c := strC) (bytes := 16) rfl _ _ 28 9 rfl Tryd.underlying28 info_strs (by omega) strC_len strC_one w.heap.size acc (s.extract f i) _ rfl wr rfl hown1 rfl (by omega) (by omega) (by omega) ?_; intro v' w5 hown5 hg5)
        have hB5 := hown1.app hB (Nat.le_refl _) hBs hg5
        have Hown5 := Lib.hid hown5
        clear hown5 hg5
        go_wp2
        go_roundw
        case rel => exact ⟨i + 1, i + 1, _, acc ++ [s.extract f i], rfl, Nat.le_refl _, hlt, by go_num, by go_num, hB5, by rw [List.length_append]; simp; omega, Hown5, Lib.hid (by rw [hacc.out, Hst.out, List.append_assoc]; rfl), Lib.hid (fun j _ h h2 => absurd h2 (by omega))⟩
        case measure => simp [intOf]; omega
      · have hq : ((s[i].toNat : Int) == (c.toNat : Int)) = false := by
          rw [beq_eq_false_iff_ne]
          intro e
          exact hc (UInt8.toNat_inj.1 (by omega))
        have Hno2 : Hid (∀ j (hj : j < s.size), f ≤ j → j < i + 1 → ¬ s[j] = c) := Lib.hid (fun j hj h1 h2 => by
          by_cases e : j < i
          · exact hno.out j hj h1 e
          · have : j = i := by omega
            subst this
            exact hc)
        clear hc
        go_wp2
        go_roundw
        case rel => exact ⟨f, i + 1, _, acc, rfl, by omega, hlt, rfl, by go_num, hB, hac, Lib.hid hown1, hacc, Hno2⟩
        case measure => simp [intOf]; omega
    · have he : i = s.size := by omega
      subst he
      have Hend := Lib.hid (splitF_end (fun j hj h => hno.out j hj h hj))
      have hk1 : (0 : Int) ≤ (f : Int) := by omega
      have hk2 : (f : Int) ≤ (s.size : Int) := by omega
      go_wp2_with (at_builtin; refine wpList_app1 (c := strC) (bytes := 16) rfl _ _ 28 9 rfl Tryd.underlying28 info_strs (by omega) strC_len strC_one w.heap.size acc (s.extract f s.size) _ rfl wr rfl hown1 rfl (by omega) (by omega) (by omega) ?_; intro v' w5 hown5 hg5)
      have hB5 := hown1.app hB (Nat.le_refl _) hBs hg5
      have Hown5 := Lib.hid (hown5.slw strC_len)
      clear hown5 hg5
      go_wp2
      go_ret
      exact ⟨_, rfl, by rw [HF.out, hacc.out, Hend.out]; exact Hown5.out, hB5⟩
end Go.Proofs.YtmglcdmccikinaaDoor
