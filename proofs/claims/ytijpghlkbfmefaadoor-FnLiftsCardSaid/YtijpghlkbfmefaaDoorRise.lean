/- What a lift waits for: increasing numbers, the reference. -/
import Derived.Test.YtijpghlkbfmefaaDoorPlV
import Derived.Test.YtijpghlkbfmefaaDoorTIntS
namespace Go.Proofs.YtijpghlkbfmefaaDoor
open Go.RowKit
def riseRow (a : List Int) (n : Int) (i : Nat) (h : i < a.length) : Prop := (0 ≤ a[i] ∧ a[i] ≤ n - 1) ∧ ∀ _ : 0 < i, a[i-1] < a[i]
def rises (a : List Int) (n : Int) : Prop := ∀ i (h : i < a.length), riseRow a n i h
open Classical in
noncomputable def risesB (a : List Int) (n : Int) : Bool := decide (rises a n)
theorem risesB_t {a : List Int} {n : Int} (h : rises a n) : risesB a n = true := by classical exact decide_eq_true h
theorem risesB_f {a : List Int} {n : Int} (h : ¬ rises a n) : risesB a n = false := by classical exact decide_eq_false h
theorem risesB_iff {a : List Int} {n : Int} : risesB a n = true ↔ rises a n := ⟨fun h => by classical exact of_decide_eq_true h, risesB_t⟩
theorem rise_cases (x p n : Int) (k : Nat) (P : Prop) (hP : P ↔ ((0 ≤ x ∧ x ≤ n - 1) ∧ ∀ _ : 0 < k, p < x)) :
    (P ∧ (0 ≤ x ∧ x ≤ n - 1) ∧ k = 0) ∨ (P ∧ (0 ≤ x ∧ x ≤ n - 1) ∧ 0 < k ∧ p < x) ∨ (¬ P ∧ ¬ (0 ≤ x ∧ x ≤ n - 1)) ∨ (¬ P ∧ (0 ≤ x ∧ x ≤ n - 1) ∧ 0 < k ∧ x ≤ p) := by
  by_cases hk : 0 < k
  · have h2 : P ↔ ((0 ≤ x ∧ x ≤ n - 1) ∧ p < x) := by rw [hP]; exact ⟨fun h => ⟨h.1, h.2 hk⟩, fun h => ⟨h.1, fun _ => h.2⟩⟩
    simp only [h2]
    omega
  · have h2 : P ↔ (0 ≤ x ∧ x ≤ n - 1) := by rw [hP]; exact ⟨fun h => h.1, fun h => ⟨h, fun h0 => absurd h0 hk⟩⟩
    simp only [h2]
    omega
theorem rise_step {a : List Int} {n : Int} {k : Nat} (hlt : k < a.length) (h : ∀ i (h : i < a.length), i < k → riseRow a n i h) (hk : riseRow a n k hlt) : ∀ i (h : i < a.length), i < k + 1 → riseRow a n i h := by
  intro i hi hik
  by_cases e : i < k
  · exact h i hi e
  · have : i = k := by omega
    subst this; exact hk
set_option maxRecDepth 100000 in
set_option maxHeartbeats 4000000 in
theorem spec_Rises (v : Value) (l : List Int) (lo hi : Nat) (n : Int) (w : World) (h : Ints lo hi w v l) (hn : 0 ≤ n ∧ n ≤ 2000000) :
    Calls Tryd.prog 71 #[v, .int .i64 n] w fun e w' => e = .returned (.bool (risesB l n)) ∧ ∃ nq, w' = w.drewN nq := by
  have hsl := h
  obtain ⟨a, cap, rfl, hlen, hh⟩ := h
  obtain ⟨hn1, hn2⟩ := hn
  have hnw : IntKind.i64.wrap (n - 1) = n - 1 := IntWalk.i64_in _ (by omega)
  clear hh
  go_enter Tryd.func71, Tryd.ntmps71
  go_wp2
  go_loopw [5] (fun i wr => ∃ k : Nat, k ≤ l.length ∧ i = .int .i64 k ∧ Hid (∃ nq, wr = w.drewN nq) ∧ Hid (∀ i (h : i < l.length), i < k → riseRow l n i h)) (fun i _ => l.length - (intOf i).toNat)
  case atStart => exact ⟨0, Nat.zero_le _, rfl, Lib.hid ⟨0, rfl⟩, Lib.hid (fun _ _ h => absurd h (by omega))⟩
  case round =>
    obtain ⟨k, hk, rfl, hD, hall⟩ := hrel
    have hB : Below w.heap.size w wr := (by obtain ⟨nq, h⟩ := hD.out; rw [h]; exact below_dN (Below.refl _ _) nq)
    by_cases hlt : k < l.length
    · obtain ⟨b, off, rfl⟩ := hsl.addr (by omega)
      have hg := (hsl.ext hB).get
      have c0 := Ints.at hg hlt
      have hlt1 : k - 1 < l.length := by omega
      have d0 := Ints.at hg hlt1
      clear hg hsl
      have Hg := Lib.hid (rise_step hlt hall.out)
      have Hb := Lib.hid (fun (hn : ¬ riseRow l n k hlt) => risesB_f (a := l) (n := n) (fun h => hn (h k hlt)))
      have hcs := Lib.hid (rise_cases l[k] l[k-1] n k (riseRow l n k hlt) Iff.rfl)
      generalize riseRow l n k hlt = P at *
      generalize l[k] = x at *
      generalize l[k-1] = p at *
      rcases hcs.out with ⟨hok, ⟨_, _⟩, hk0⟩ | ⟨hok, ⟨_, _⟩, hk0, hp1⟩ | ⟨hok, _⟩ | ⟨hok, ⟨_, _⟩, hk0, hp1⟩
      · have Hd := Lib.hid (Hg.out hok)
        clear hok
        subst hk0
        clear d0
        simp only [Nat.add_zero] at c0
        go_wp2_with fail
        go_quiet (first | (go_at_call 58; first | exact Calls.quiet_of_same (Calls.turn (spec_In_t _ _ _ _ (by omega) (by omega))) | exact Calls.quiet_of_same (Calls.turn (spec_In_f _ _ _ _ (by omega)))))
        go_wp2
        go_roundw
        case rel => exact ⟨1, by omega, by go_num, (by obtain ⟨nq, h⟩ := hD.out; first | exact Lib.hid ⟨nq, h⟩ | exact ⟨nq, h⟩ | exact Lib.hid ⟨_, by rw [h, World.drewN_drewN]⟩ | exact ⟨_, by rw [h, World.drewN_drewN]⟩), Hd⟩
        case measure => simp [intOf]; omega
      · have Hd := Lib.hid (Hg.out hok)
        clear hok
        have hki : (0 : Int) < (k : Int) := by omega
        have hki2 : (1 : Int) ≤ (k : Int) := by omega
        have hkl : ((k : Int) - 1) < (l.length : Int) := by omega
        have hkm : ((k : Int) - 1).toNat = k - 1 := by omega
        have hkn : (0 : Int) ≤ (k : Int) - 1 := by omega
        have hkw : IntKind.i64.wrap ((k : Int) - 1) = (k : Int) - 1 := IntWalk.i64_in _ (by omega)
        go_wp2_with fail
        go_quiet (first | (go_at_call 58; first | exact Calls.quiet_of_same (Calls.turn (spec_In_t _ _ _ _ (by omega) (by omega))) | exact Calls.quiet_of_same (Calls.turn (spec_In_f _ _ _ _ (by omega)))))
        go_wp2
        go_roundw
        case rel => exact ⟨k + 1, by omega, by go_num, (by obtain ⟨nq, h⟩ := hD.out; first | exact Lib.hid ⟨nq, h⟩ | exact ⟨nq, h⟩ | exact Lib.hid ⟨_, by rw [h, World.drewN_drewN]⟩ | exact ⟨_, by rw [h, World.drewN_drewN]⟩), Hd⟩
        case measure => simp [intOf]; omega
      · have Hd := Lib.hid (Hb.out hok)
        clear hok
        go_wp2_with fail
        go_quiet (first | (go_at_call 58; first | exact Calls.quiet_of_same (Calls.turn (spec_In_t _ _ _ _ (by omega) (by omega))) | exact Calls.quiet_of_same (Calls.turn (spec_In_f _ _ _ _ (by omega)))))
        go_wp2
        go_ret
        rw [Hd.out]; exact ⟨rfl, (by obtain ⟨nq, h⟩ := hD.out; first | exact Lib.hid ⟨nq, h⟩ | exact ⟨nq, h⟩ | exact Lib.hid ⟨_, by rw [h, World.drewN_drewN]⟩ | exact ⟨_, by rw [h, World.drewN_drewN]⟩)⟩
      · have Hd := Lib.hid (Hb.out hok)
        clear hok
        have hki : (0 : Int) < (k : Int) := by omega
        have hki2 : (1 : Int) ≤ (k : Int) := by omega
        have hkl : ((k : Int) - 1) < (l.length : Int) := by omega
        have hkm : ((k : Int) - 1).toNat = k - 1 := by omega
        have hkn : (0 : Int) ≤ (k : Int) - 1 := by omega
        have hkw : IntKind.i64.wrap ((k : Int) - 1) = (k : Int) - 1 := IntWalk.i64_in _ (by omega)
        go_wp2_with fail
        go_quiet (first | (go_at_call 58; first | exact Calls.quiet_of_same (Calls.turn (spec_In_t _ _ _ _ (by omega) (by omega))) | exact Calls.quiet_of_same (Calls.turn (spec_In_f _ _ _ _ (by omega)))))
        go_wp2
        go_ret
        rw [Hd.out]; exact ⟨rfl, (by obtain ⟨nq, h⟩ := hD.out; first | exact Lib.hid ⟨nq, h⟩ | exact ⟨nq, h⟩ | exact Lib.hid ⟨_, by rw [h, World.drewN_drewN]⟩ | exact ⟨_, by rw [h, World.drewN_drewN]⟩)⟩
    · have Hd := Lib.hid (risesB_t (a := l) (n := n) (fun i h => hall.out i h (by omega)))
      go_wp2
      go_ret
      rw [Hd.out]; exact ⟨rfl, hD.out⟩
end Go.Proofs.YtijpghlkbfmefaaDoor
