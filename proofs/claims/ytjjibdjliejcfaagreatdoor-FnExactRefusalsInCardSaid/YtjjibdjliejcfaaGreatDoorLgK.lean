/- The log: keys of signers, in both packages. -/
import Derived.Test.YtjjibdjliejcfaaGreatDoorTSigner
import Derived.Test.YtjjibdjliejcfaaGreatDoorNumW
namespace Go.Proofs.YtjjibdjliejcfaaGreatDoor
open Go.RowKit
/-- The key of the first signer of a name; 0 if there is none. -/
def keyOf : List Sgn → ByteArray → Int
  | [], _ => 0
  | x :: r, n => if x.name = n then x.key else keyOf r n
theorem keyOf_hit {n : ByteArray} : ∀ {l : List Sgn} {k : Nat} (h : k < l.length), (∀ j (hj : j < l.length), j < k → ¬ l[j].name = n) → l[k].name = n → keyOf l n = l[k].key
  | [], k, h, _, _ => absurd h (by simp)
  | x :: r, 0, _, _, h2 => by
    simp at h2
    unfold keyOf
    rw [if_pos h2]; rfl
  | x :: r, k + 1, h, h1, h2 => by
    have h0 := h1 0 (by simp) (by omega)
    simp at h0 h2
    unfold keyOf
    rw [if_neg h0]
    have := keyOf_hit (l := r) (k := k) (by simpa using h) (fun j hj hjk => by
      have := h1 (j + 1) (by simp; omega) (by omega)
      simpa using this) h2
    simpa using this
theorem keyOf_miss {n : ByteArray} : ∀ {l : List Sgn}, (∀ j (hj : j < l.length), ¬ l[j].name = n) → keyOf l n = 0
  | [], _ => rfl
  | x :: r, h => by
    have h0 := h 0 (by simp)
    simp at h0
    unfold keyOf
    rw [if_neg h0]
    exact keyOf_miss fun j hj => by
      have := h (j + 1) (by simp; omega)
      simpa using this
set_option maxRecDepth 100000 in
set_option maxHeartbeats 4000000 in
theorem spec_Key (v : Value) (l : List Sgn) (n : ByteArray) (lo hi : Nat) (w : World) (h : Sgns lo hi w v l) : Calls Tryz.prog 45 #[v, .string n] w fun e w' => e = .returned (.int .i64 (keyOf l n)) ∧ w = w' := by
  have hsl := h
  obtain ⟨a, cap, rfl, hlen, hh⟩ := h
  clear hh
  go_enter Tryz.func45, Tryz.ntmps45
  go_wp2
  go_loop [5] (fun i => ∃ k : Nat, k ≤ l.length ∧ i = .int .i64 k ∧ Hid (∀ j (h : j < l.length), j < k → ¬ l[j].name = n)) (fun i => l.length - (intOf i).toNat)
  case atStart => exact ⟨0, Nat.zero_le _, rfl, Lib.hid (fun _ _ h => absurd h (by omega))⟩
  case round =>
    obtain ⟨k, hk, rfl, hno⟩ := hrel
    by_cases hlt : k < l.length
    · obtain ⟨b, off, rfl⟩ := hsl.addr (by omega)
      obtain ⟨c0, c1⟩ := Sgns.at hsl.get hlt
      have Hhit := Lib.hid (fun h => keyOf_hit hlt hno.out h)
      have Hst : Hid (¬ l[k].name = n → ∀ j (h : j < l.length), j < k + 1 → ¬ l[j].name = n) := Lib.hid (fun h j hj hjk => by
        by_cases e : j < k
        · exact hno.out j hj e
        · have : j = k := by omega
          subst this; exact h)
      clear hsl
      generalize l[k] = x at *
      by_cases hx : x.name = n
      · have Hr := Lib.hid (Hhit.out hx)
        have hq := sm_eqN hx
        clear hx Hst Hhit
        go_wp2
        go_ret
        exact ⟨ret_int Hr.out.symm, rfl⟩
      · have Hn := Lib.hid (Hst.out hx)
        have hq := sm_neN hx
        clear hx Hst Hhit
        go_wp2
        go_round
        case rel => exact ⟨k + 1, by omega, by go_num, Hn⟩
        case measure => simp [intOf]; omega
    · have Hr := Lib.hid (keyOf_miss (l := l) (n := n) (fun j hj => hno.out j hj (by omega)))
      go_wp2
      go_ret
      exact ⟨ret_int Hr.out.symm, rfl⟩
/-- Where the signer of a name stands; a negative number if there is none. -/
def SigRes (l : List Sgn) (n : ByteArray) (w : World) (e : Ending) (w' : World) : Prop :=
  ∃ i : Int, e = .returned (.int .i64 i) ∧ ((∃ k : Nat, ∃ h : k < l.length, i = (k : Int) ∧ l[k].name = n ∧ l[k].key = keyOf l n) ∨ (i = -1 ∧ ∀ j (hj : j < l.length), ¬ l[j].name = n)) ∧ Below w.heap.size w w'
theorem impl_Sig1 (x : Sgn) (n : ByteArray) (b : Nat) (w : World) (c0 : w.cell? ⟨b, 0, none⟩ = some (.string n)) (r : Bool) (hr : r = decide (x.name = n)) :
    Calls Tryz.prog 57 #[.agg x.cells.toArray, .pointer (some ⟨b, 0, none⟩)] w fun e w' => e = .returned (.bool r) ∧ Below w.heap.size w w' := by
  have hb := World.block_lt_of_cell? w _ c0
  simp only [Sgn.cells]
  subst hr
  by_cases hx : x.name = n
  · have hq := sm_eqN hx
    rw [decide_eq_true hx]
    clear hx
    go_enter Tryz.func57, Tryz.ntmps57
    go_wp2
    go_ret
    exact ⟨rfl, (Below.refl _ _).alloc (Nat.le_refl _) _⟩
  · have hq := sm_neN hx
    rw [decide_eq_false hx]
    clear hx
    go_enter Tryz.func57, Tryz.ntmps57
    go_wp2
    go_ret
    exact ⟨rfl, (Below.refl _ _).alloc (Nat.le_refl _) _⟩
set_option maxRecDepth 100000 in
set_option maxHeartbeats 4000000 in
theorem impl_SigIdx (v : Value) (l : List Sgn) (lo hi : Nat) (n : ByteArray) (b : Nat) (w : World) (h : Sgns lo hi w v l) (c0 : w.cell? ⟨b, 0, none⟩ = some (.string n)) :
    Calls Tryz.prog 56 #[v, .func (.func 57) #[] #[.pointer (some ⟨b, 0, none⟩)]] w (SigRes l n w) := by
  have hsl := h
  obtain ⟨a, cap, rfl, hlen, hh⟩ := h
  clear hh
  have hbb := World.block_lt_of_cell? w _ c0
  have C0 := Lib.hid c0
  clear c0
  go_enter Tryz.func56, Tryz.ntmps56
  go_wp2
  go_loopw [8] (fun i wr => ∃ k : Nat, k ≤ l.length ∧ i = .int .i64 k ∧ Below w.heap.size w wr ∧ Hid (∀ j (h : j < l.length), j < k → ¬ l[j].name = n)) (fun i _ => l.length - (intOf i).toNat)
  case atStart => exact ⟨0, Nat.zero_le _, rfl, Below.refl _ _, Lib.hid (fun _ _ h => absurd h (by omega))⟩
  case round =>
    obtain ⟨k, hk, rfl, hB, hno⟩ := hrel
    by_cases hlt : k < l.length
    · obtain ⟨b2, off, rfl⟩ := hsl.addr (by omega)
      obtain ⟨d0, d1⟩ := Sgns.at (hsl.ext hB).get hlt
      have hcall := impl_Sig1 l[k] n b wr ((hB.cell (p := ⟨b, 0, none⟩) hbb).trans C0.out) _ rfl
      have Hhit := Lib.hid (fun h => (⟨k, hlt, rfl, h, (keyOf_hit hlt hno.out h).symm⟩ : ∃ k' : Nat, ∃ h : k' < l.length, (k : Int) = (k' : Int) ∧ l[k'].name = n ∧ l[k'].key = keyOf l n))
      have Hst : Hid (¬ l[k].name = n → ∀ j (h : j < l.length), j < k + 1 → ¬ l[j].name = n) := Lib.hid (fun h j hj hjk => by
        by_cases e : j < k
        · exact hno.out j hj e
        · have : j = k := by omega
          subst this; exact h)
      clear hsl
      generalize l[k] = x at *
      simp only [Sgn.cells] at hcall
      by_cases hx : x.name = n
      · have Hr := Lib.hid (Hhit.out hx)
        rw [decide_eq_true hx] at hcall
        have Hcall := Lib.hid hcall
        clear hcall hx Hst Hhit
        go_wp2_with (go_at_call 57; refine Hcall.out.mono ?_; rintro e w1 ⟨rfl, hb1⟩)
        go_ret
        exact ⟨_, rfl, .inl Hr.out, hB.trans (hb1.mono hB.size)⟩
      · have Hn := Lib.hid (Hst.out hx)
        rw [decide_eq_false hx] at hcall
        have Hcall := Lib.hid hcall
        clear hcall hx Hst Hhit
        go_wp2_with (go_at_call 57; refine Hcall.out.mono ?_; rintro e w1 ⟨rfl, hb1⟩)
        go_roundw
        case rel => exact ⟨k + 1, by omega, by go_num, hB.trans (hb1.mono hB.size), Hn⟩
        case measure => simp [intOf]; omega
    · have Hn : Hid (∀ j (hj : j < l.length), ¬ l[j].name = n) := Lib.hid (fun j hj => hno.out j hj (by omega))
      go_wp2
      go_ret
      exact ⟨_, rfl, .inr ⟨rfl, Hn.out⟩, hB⟩
set_option maxHeartbeats 1000000 in
theorem impl_Signer (v : Value) (l : List Sgn) (lo hi : Nat) (n : ByteArray) (w : World) (h : Sgns lo hi w v l) : Calls Tryz.prog 46 #[v, .string n] w (SigRes l n w) := by
  have hba : Below w.heap.size w (w.alloc (.cells #[.string n] 9)) := (Below.refl _ _).alloc (Nat.le_refl _) _
  have H := Lib.hid (impl_SigIdx v l lo hi n w.heap.size (w.alloc (.cells #[.string n] 9)) (h.ext hba) (by rw [World.cell?_alloc_mark]; rfl))
  obtain ⟨a, cap, rfl, -⟩ := h
  have HB := Lib.hid hba
  clear hba
  go_enter Tryz.func46, Tryz.ntmps46
  go_wp2_with fail
  refine H.out.mono ?_
  rintro e w1 ⟨i, rfl, hi, hb1⟩
  have Hi := Lib.hid hi
  clear hi
  go_wp2
  go_ret
  exact ⟨i, rfl, Hi.out, HB.out.trans (hb1.mono HB.out.size)⟩
end Go.Proofs.YtjjibdjliejcfaaGreatDoor
