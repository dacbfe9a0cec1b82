/- []int64: the laws' helpers to and sz. -/
import Derived.Test.YtimggihbldeleaaChecked
import Derived.Test.YtimggihbldeleaaTInt
import Derived.Test.YtimggihbldeleaaMark
namespace Go.Proofs.Ytimggihbldeleaa
open Go.RowKit
theorem info_int64 : (Try.prog.info? 2).map (fun i => (i.zero.isSome, i.size, i.bytes)) = some (true, 1, 8) := by kernel_rfl
set_option maxHeartbeats 1000000 in
theorem law_toInt64S (v : Value) (l : List Int) (lo hi : Nat) (w : World) (h : Ints lo hi w v l) (hn : l.length ≤ 1048576) :
    Calls Try.prog 34 #[v] w fun e w' => ∃ v', e = .returned v' ∧ Slw 1 intCells w.heap.size w'.heap.size w' v' l ∧ Below w.heap.size w w' := by
  obtain ⟨cs, hmk, hcs⟩ := make_rows (P := Try.prog) 28 2 1 8 (by simp) info_int64 l.length (by omega) (by omega) w
  obtain ⟨f0, hf0⟩ := rowIs_made (w := w) (t := 2) hcs
  have Hf0 := Lib.hid hf0
  clear hf0 hcs
  have hsl := h
  obtain ⟨a, cap, rfl, hlen, hh⟩ := h
  clear hh
  go_enter Try.func34, Try.ntmps34
  go_wp2
  go_loopw [4] (fun i wr => ∃ k : Nat, k ≤ l.length ∧ i = .int .i64 k ∧ Below w.heap.size w wr ∧ ∃ f, Hid (wr.rowIs w.heap.size 2 (l.length * 1) f) ∧ Fill 1 intCells l k f) (fun i _ => l.length - (intOf i).toNat)
  case atStart => exact ⟨0, Nat.zero_le _, rfl, (Below.refl _ _).alloc (Nat.le_refl _) _, f0, Hf0, Fill.zero⟩
  case round =>
    obtain ⟨k, hk, rfl, hB, f, hf, hfill⟩ := hrel
    by_cases hlt : k < l.length
    · have hlt2 := hf.out.lt
      obtain ⟨b, off, rfl⟩ := hsl.addr (by omega)
      have c0 := Ints.at (hsl.ext hB).get hlt
      clear hsl hmk
      have Hg := Lib.hid (fun g => hfill.step hlt intCells_len (g := g))
      generalize l[k] = x at *
      have d0 := hf.out.cell (i := k) (by omega)
      have e0 := hf.out.frozen k
      go_wp2
      go_roundw
      case rel => exact ⟨k + 1, by omega, by go_num, hB.setCell (Nat.le_refl _) _, _, Lib.hid (hf.out.set _ _), Hg.out _ (fun j => by rw [Nat.mul_one]; exact upd1 _ _ _ j)⟩
      case measure => simp [intOf]; omega
    · have : k = l.length := by omega
      subst this
      go_wp2
      go_ret
      exact ⟨_, rfl, Slw.of_row hf.out hfill intCells_len (by omega) (Nat.le_refl _) hf.out.lt, hB⟩

theorem law_szInt64S (v : Value) (l : List Int) (lo hi : Nat) (n : Int) (w : World) (h : Ints lo hi w v l) (h0 : 0 ≤ n) (hn : n ≤ 1048576) :
    Calls Try.prog 27 #[v, .int .i64 n] w fun e w' => e = .returned (.int .i64 (szRes n l.length)) ∧ Below w.heap.size w w' := by
  obtain ⟨a, cap, rfl, hlen, hh⟩ := h
  clear hh
  by_cases hc : n < l.length
  · rw [szRes_lt hc]
    go_enter Try.func27, Try.ntmps27
    go_wp2
    go_ret
    exact ⟨rfl, Below.refl _ _⟩
  · rw [szRes_ge hc]
    go_enter Try.func27, Try.ntmps27
    go_wp2
    go_ret
    exact ⟨rfl, Below.refl _ _⟩
end Go.Proofs.Ytimggihbldeleaa
