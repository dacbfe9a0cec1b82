/- Slices of numbers and of steps of charts held against each other, in both packages. -/
import Derived.Test.YtijpghlkbfmefaaDoorTIntS
import Derived.Test.YtijpghlkbfmefaaDoorTChartStep
namespace Go.Proofs.YtijpghlkbfmefaaDoor
open Go.RowKit
theorem quiet_below {w wr : World} (h : ∃ n, wr = w.drewN n) : Below w.heap.size w wr := by obtain ⟨n, rfl⟩ := h; exact below_dN (Below.refl _ _) n
theorem quiet_on {w wr : World} (h : ∃ n, wr = w.drewN n) (k : Nat) : ∃ n, wr.drewN k = w.drewN n := by obtain ⟨n, rfl⟩ := h; exact ⟨_, by rw [World.drewN_drewN]⟩
def eqL {α : Type} [DecidableEq α] (a b : List α) : Bool := decide (a = b)
theorem eqL_f {α : Type} [DecidableEq α] {a b : List α} (h : ¬ a = b) : eqL a b = false := decide_eq_false h
theorem eqL_t {α : Type} [DecidableEq α] {a b : List α} (h : a = b) : eqL a b = true := decide_eq_true h
theorem eqL_nx {α : Type} {l l2 : List α} {k : Nat} (hk : k < l.length) (hk2 : k < l2.length) (hs : ∀ i (h : i < l.length) (h2 : i < l2.length), i < k → l[i] = l2[i]) (h : l[k] = l2[k]) : ∀ i (h : i < l.length) (h2 : i < l2.length), i < k + 1 → l[i] = l2[i] := fun i hi hi2 hij => by
  by_cases e : i < k
  · exact hs i hi hi2 e
  · have : i = k := by omega
    subst this; exact h
theorem Chs.ne_cases (x y : Chs) : (x = y) ∨ (¬ x = y ∧ ¬ x.radius = y.radius) ∨ (¬ x = y ∧ x.radius = y.radius ∧ ¬ x.load = y.load) := by
  cases x; cases y
  simp only [Chs.mk.injEq]
  rename_i a b e f
  by_cases h1 : a = e <;> by_cases h2 : b = f <;> simp [*]
theorem spec_Same0 (v v2 : Value) (l l2 : List Int) (lo hi lo2 hi2 : Nat) (w : World) (h : Ints lo hi w v l) (h2 : Ints lo2 hi2 w v2 l2) :
    Calls Tryd.prog 72 #[v, v2] w fun e w' => e = .returned (.bool (eqL l l2)) ∧ ∃ m, w' = w.drewN m := by
  have hsl := h
  have hsl2 := h2
  obtain ⟨a, cap, rfl, hlen, hh⟩ := h
  obtain ⟨a2, cap2, rfl, hlen2, hh2⟩ := h2
  clear hh hh2
  by_cases hne : ¬ l.length = l2.length
  · have Hd := Lib.hid (eqL_f (a := l) (b := l2) (fun e => hne (by rw [e])))
    have hb : ((l.length : Int) != (l2.length : Int)) = true := by rw [bne_iff_ne]; omega
    clear hne
    go_enter Tryd.func72, Tryd.ntmps72
    go_wp2
    go_ret
    exact ⟨ret_bool Hd.out.symm, 0, rfl⟩
  have hle : l.length ≤ l2.length ∧ l2.length ≤ l.length := by omega
  have hb : ((l.length : Int) != (l2.length : Int)) = false := by rw [bne_eq_false_iff_eq]; omega
  clear hne
  go_enter Tryd.func72, Tryd.ntmps72
  go_wp2
  go_loopw [5] (fun i wr => ∃ k : Nat, k ≤ l.length ∧ i = .int .i64 k ∧ Hid (∃ nq, wr = w.drewN nq) ∧ Hid (∀ i (h : i < l.length) (h2 : i < l2.length), i < k → l[i] = l2[i])) (fun i _ => l.length - (intOf i).toNat)
  case atStart => exact ⟨0, Nat.zero_le _, rfl, Lib.hid ⟨0, rfl⟩, Lib.hid (fun _ _ _ h => absurd h (by omega))⟩
  case round =>
    obtain ⟨k, hk, rfl, hD, hsame⟩ := hrel
    have hB := quiet_below hD.out
    by_cases hlt : k < l.length
    · have hlt2 : k < l2.length := by omega
      obtain ⟨b, off, rfl⟩ := hsl.addr (by omega)
      obtain ⟨b2, off2, rfl⟩ := hsl2.addr (by omega)
      have c0 := Ints.at (hsl.ext hB).get hlt
      have d0 := Ints.at (hsl2.ext hB).get hlt2
      have Hnx := Lib.hid (eqL_nx hlt hlt2 hsame.out)
      have Hne : Hid (¬ l[k] = l2[k] → eqL l l2 = false) := Lib.hid (fun h => eqL_f (fun e => h (by subst e; rfl)))
      clear hsl hsl2
      generalize l[k] = x at *
      generalize l2[k] = y at *
      by_cases hxy : x = y
      · subst hxy
        have Hn := Lib.hid (Hnx.out rfl)
        go_wp2_with (go_quiet (fail))
        go_roundw
        case rel => exact ⟨k + 1, by omega, by go_num, Lib.hid (quiet_on hD.out _), Hn⟩
        case measure => simp [intOf]; omega
      · have Hd := Lib.hid (Hne.out hxy)
        have q1 : (x == y) = false := by rw [beq_eq_false_iff_ne]; exact hxy
        clear hxy
        go_wp2_with (go_quiet (fail))
        go_ret
        exact ⟨ret_bool Hd.out.symm, quiet_on hD.out _⟩
    · have Hd : Hid (eqL l l2 = true) := Lib.hid (eqL_t (List.ext_getElem (by omega) (fun i h1 h2 => hsame.out i h1 h2 (by omega))))
      go_wp2
      go_ret
      exact ⟨ret_bool Hd.out.symm, hD.out⟩
end Go.Proofs.YtijpghlkbfmefaaDoor
