/- []int64: the laws' helpers. -/
import Derived.Test.YtdadadiipmenbaaDoorChecked
import Derived.Test.YtdadadiipmenbaaDoorOwn
namespace Go.Proofs.YtdadadiipmenbaaDoor
open Go.RowKit

set_option maxHeartbeats 1000000 in
theorem law_eqInt64S (v v2 : Value) (l : List Int) (lo hi lo2 hi2 : Nat) (w : World) (h : Ints lo hi w v l) (h2 : Ints lo2 hi2 w v2 l) :
    Calls Tryd.prog 51 #[v, v2] w fun e w' => e = .returned (.bool true) ∧ Below w.heap.size w w' := by
  have hsl := h
  have hsl2 := h2
  obtain ⟨a, cap, rfl, hlen, hh⟩ := h
  obtain ⟨a2, cap2, rfl, _, hh2⟩ := h2
  clear hh hh2
  go_enter Tryd.func51, Tryd.ntmps51
  go_wp2
  go_loopw [5] (fun i wr => ∃ k : Nat, k ≤ l.length ∧ i = .int .i64 k ∧ Below w.heap.size w wr) (fun i _ => l.length - (intOf i).toNat)
  case atStart => exact ⟨0, Nat.zero_le _, rfl, Below.refl _ _⟩
  case round =>
    obtain ⟨k, hk, rfl, hB⟩ := hrel
    by_cases hlt : k < l.length
    · obtain ⟨b, off, rfl⟩ := hsl.addr (by omega)
      obtain ⟨b2, off2, rfl⟩ := hsl2.addr (by omega)
      have c0 := Ints.at (hsl.ext hB).get hlt
      have d0 := Ints.at (hsl2.ext hB).get hlt
      clear hsl hsl2
      generalize l[k] = x at *
      go_wp2_with (go_quiet (fail))
      go_roundw
      case rel => exact ⟨k + 1, by omega, by go_num, below_dN hB _⟩
      case measure => simp [intOf]; omega
    · go_wp2
      go_ret
      exact ⟨rfl, hB⟩

end Go.Proofs.YtdadadiipmenbaaDoor
