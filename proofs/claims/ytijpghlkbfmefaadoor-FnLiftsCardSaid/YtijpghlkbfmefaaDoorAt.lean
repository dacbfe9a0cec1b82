/- The laws' small helpers: a number out of some bytes, whether a list has a number. -/
import Derived.Test.YtijpghlkbfmefaaDoorSrc
namespace Go.Proofs.YtijpghlkbfmefaaDoor
open Go.RowKit
set_option maxHeartbeats 1000000 in
theorem law_at (v : Value) (l : List UInt8) (lo hi k : Nat) (n : Int) (w : World) (h : Sl 1 byteC lo hi w v l) (hl : l.length ≤ 1000000) (hk : k ≤ 1000000) (hn : 1 ≤ n ∧ n ≤ 1000000) :
    Calls Tryd.prog 6 #[v, .int .i64 k, .int .i64 n] w fun e w' => (∃ q : Nat, e = .returned (.int .i64 q) ∧ (q : Int) < n) ∧ Below w.heap.size w w' := by
  obtain ⟨hn1, hn2⟩ := hn
  by_cases hk2 : k < l.length
  · obtain ⟨a, cap, rfl, -⟩ := id h
    obtain ⟨b, off, rfl⟩ := h.addr (by omega)
    have c0 := h.at1 hk2
    have hb := l[k].toNat_lt
    generalize l[k].toNat = c at *
    obtain ⟨m, hm⟩ : ∃ m : Nat, n = m := ⟨n.toNat, by omega⟩
    obtain ⟨q, hq, hqn⟩ : ∃ q : Nat, (c : Int).tmod n = q ∧ (q : Int) < n := by
      refine ⟨c % m, ?_, ?_⟩
      · rw [hm, Int.tmod_eq_emod_of_nonneg (by omega)]; rfl
      · rw [hm]; have := Nat.mod_lt c (show 0 < m by omega); omega
    have hwq : IntKind.i64.wrap (q : Int) = q := IntWalk.i64_in _ (by omega)
    have hd1 : decide ((l.length : Int) ≤ (k : Int)) = false := decide_eq_false (by omega)
    have hd2 : decide (n < 1) = false := decide_eq_false (by omega)
    have hz : (n == 0) = false := by simp; omega
    have hz2 : decide (n = 0) = false := decide_eq_false (by omega)
    clear h hm
    go_enter Tryd.func6, Tryd.ntmps6
    go_wp2
    go_ret
    exact ⟨⟨q, rfl, hqn⟩, Below.refl _ _⟩
  · obtain ⟨a, cap, rfl, -⟩ := id h
    have hd1 : decide ((l.length : Int) ≤ (k : Int)) = true := decide_eq_true (by omega)
    clear h
    go_enter Tryd.func6, Tryd.ntmps6
    go_wp2
    go_ret
    exact ⟨⟨0, rfl, by omega⟩, Below.refl _ _⟩

def hasB (l : List Int) (x : Int) : Bool := decide (x ∈ l)
theorem hasB_t {l : List Int} {k : Nat} (hk : k < l.length) : hasB l l[k] = true := decide_eq_true (List.getElem_mem hk)
theorem hasB_f {l : List Int} {x : Int} (h : ∀ i (h : i < l.length), l[i] ≠ x) : hasB l x = false := decide_eq_false fun hm => by
  obtain ⟨i, hi, e⟩ := List.getElem_of_mem hm
  exact h i hi e
set_option maxHeartbeats 1000000 in
theorem law_Has (v : Value) (l : List Int) (lo hi : Nat) (x : Int) (w : World) (h : Ints lo hi w v l) : Calls Tryd.prog 15 #[v, .int .i64 x] w fun e w' => e = .returned (.bool (hasB l x)) ∧ w = w' := by
  have hsl := h
  obtain ⟨a, cap, rfl, ⟨hcp, hcp2⟩, hh⟩ := h
  clear hh
  go_enter Tryd.func15, Tryd.ntmps15
  go_wp2
  go_loop [5] (fun i => ∃ k : Nat, k ≤ l.length ∧ i = .int .i64 k ∧ Hid (∀ i (h : i < l.length), i < k → l[i] ≠ x)) (fun i => l.length - (intOf i).toNat)
  case atStart => exact ⟨0, Nat.zero_le _, rfl, Lib.hid (fun _ _ h => absurd h (by omega))⟩
  case round =>
    obtain ⟨k, hk, rfl, hall⟩ := hrel
    by_cases hlt : k < l.length
    · obtain ⟨b, off, rfl⟩ := hsl.addr (by omega)
      have c0 := Ints.at hsl.get hlt
      have Hyes := Lib.hid (hasB_t hlt)
      have Hno := Lib.hid (fun (h : l[k] ≠ x) => (show ∀ i (h : i < l.length), i < k + 1 → l[i] ≠ x from fun i hi hik => by
        by_cases e : i < k
        · exact hall.out i hi e
        · have : i = k := by omega
          subst this; exact h))
      clear hsl
      generalize l[k] = y at *
      by_cases hy : y = x
      · subst hy
        go_wp2
        go_ret
        exact ⟨ret_bool Hyes.out.symm, rfl⟩
      · have Hn := Lib.hid (Hno.out hy)
        have hb : (y == x) = false := by rw [beq_eq_false_iff_ne]; exact hy
        clear hy
        go_wp2
        go_round
        case rel => exact ⟨k + 1, by omega, by go_num, Hn⟩
        case measure => simp [intOf]; omega
    · have Hd := Lib.hid (hasB_f (l := l) (x := x) (fun i h => hall.out i h (by omega)))
      go_wp2
      go_ret
      exact ⟨ret_bool Hd.out.symm, rfl⟩
end Go.Proofs.YtijpghlkbfmefaaDoor
