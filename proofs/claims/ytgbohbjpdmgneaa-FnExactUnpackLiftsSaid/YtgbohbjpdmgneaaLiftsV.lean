/- Lifts: validity, the reference. -/
import Derived.Test.YtgbohbjpdmgneaaLiftW
import Derived.Test.YtgbohbjpdmgneaaUnw
namespace Go.Proofs.Ytgbohbjpdmgneaa
open Go.RowKit
theorem lstr_eq {s t : ByteArray} (h : s = t) : (s.toList == t.toList) = true := by rw [h]; simp
theorem lstr_ne {s t : ByteArray} (h : ¬ s = t) : (s.toList == t.toList) = false := by
  rw [beq_eq_false_iff_ne]
  intro h2
  apply h
  have h3 : s.data.toList = t.data.toList := by simpa [ByteArray.toList_eq] using h2
  exact ByteArray.ext (Array.toList_inj.1 h3)
abbrev LiftsL := List (LiftF × List Int)
/-- The first of that name, or none. -/
def NamedRes (L : LiftsL) (s : ByteArray) (w : World) (e : Ending) (w' : World) : Prop :=
  ∃ r : Int, e = .returned (.int .i64 r) ∧ ((0 ≤ r ∧ ∃ i, ∃ h : i < L.length, L[i].1.name = s) ∨ (r < 0 ∧ ∀ i (h : i < L.length), ¬ L[i].1.name = s)) ∧ w = w'
set_option maxRecDepth 100000 in
set_option maxHeartbeats 4000000 in
theorem spec_Named (v : Value) (rs : List LiftR) (L : LiftsL) (lo hi : Nat) (s : ByteArray) (w : World) (h : Lifts lo hi w v rs L) : Calls Try.prog 129 #[v, .string s] w (NamedRes L s w) := by
  have hl1 := h.len
  have hcap : rs.length ≤ 9223372036854775807 := by obtain ⟨a, cap, _, hc, _⟩ := h.out; omega
  have Hs := Lib.hid h
  obtain ⟨⟨a, cap, rfl, hcp, -⟩, -, -⟩ := h
  rw [hl1] at hcap
  rw [hl1]
  have Hl1 := Lib.hid hl1
  clear hl1
  go_enter Try.func129, Try.ntmps129
  go_wp2
  go_loop [5] (fun i => ∃ k : Nat, k ≤ L.length ∧ i = .int .i64 k ∧ Hid (∀ i (h : i < L.length), i < k → ¬ L[i].1.name = s)) (fun i => L.length - (intOf i).toNat)
  case atStart => exact ⟨0, Nat.zero_le _, rfl, Lib.hid (fun _ _ h => absurd h (by omega))⟩
  case round =>
    obtain ⟨k, hk, rfl, hall⟩ := hrel
    by_cases hlt : k < L.length
    · have hk1 : k < rs.length := by rw [Hl1.out]; exact hlt
      have hs : Lifts lo hi w (.slice a L.length cap) rs L := by rw [← Hl1.out]; exact Hs.out
      obtain ⟨hfl, -⟩ := hs.one hlt hk1
      obtain ⟨b, off, rfl⟩ := hs.out.addr (by omega)
      obtain ⟨c0, -⟩ := Lifts_at hs hk1
      rw [hfl] at c0
      clear hs hfl
      by_cases hn : L[k].1.name = s
      · have hne := lstr_eq hn
        have Hd := Lib.hid (show ∃ i, ∃ h : i < L.length, L[i].1.name = s from ⟨k, hlt, hn⟩)
        clear hn
        generalize L[k].1.name = n at *
        go_wp2
        go_ret
        exact ⟨k, rfl, .inl ⟨by omega, Hd.out⟩, rfl⟩
      · have hne := lstr_ne hn
        have Hd : Hid (∀ i (h : i < L.length), i < k + 1 → ¬ L[i].1.name = s) := Lib.hid (fun i hi hik => by
          by_cases e : i < k
          · exact hall.out i hi e
          · have : i = k := by omega
            subst this; exact hn)
        clear hn
        generalize L[k].1.name = n at *
        go_wp2
        go_round
        case rel => exact ⟨k + 1, by omega, by go_num, Hd⟩
        case measure => simp [intOf]; omega
    · have Hd := Lib.hid (fun i (h : i < L.length) => hall.out i h (by omega))
      go_wp2
      go_ret
      exact ⟨-1, rfl, .inr ⟨by omega, Hd.out⟩, rfl⟩
def liftRow (L : LiftsL) (i : Nat) (h : i < L.length) : Prop := liftOk L[i].1 L[i].2 i ∧ ∀ j (hj : j < i), ¬ L[j].1.name = L[i].1.name
def liftsOk (L : LiftsL) : Prop := (∀ i (h : i < L.length), liftRow L i h) ∧ L.length ≤ 10
open Classical in
noncomputable def liftsB (L : LiftsL) : Bool := decide (liftsOk L)
theorem liftsB_t {L : LiftsL} (h : liftsOk L) : liftsB L = true := by classical exact decide_eq_true h
theorem liftsB_f {L : LiftsL} (h : ¬ liftsOk L) : liftsB L = false := by classical exact decide_eq_false h
theorem liftsB_iff {L : LiftsL} : liftsB L = true ↔ liftsOk L := ⟨fun h => by classical exact of_decide_eq_true h, liftsB_t⟩
theorem liftB_ff {f : LiftF} {a : List Int} {k : Int} (h : liftB f a k = false) : ¬ liftOk f a k := fun h2 => by rw [liftB_t h2] at h; cases h
theorem lifts_step {L : LiftsL} {k : Nat} (hlt : k < L.length) (h : ∀ i (h : i < L.length), i < k → liftRow L i h) (hk : liftRow L k hlt) : ∀ i (h : i < L.length), i < k + 1 → liftRow L i h := by
  intro i hi hik
  by_cases e : i < k
  · exact h i hi e
  · have : i = k := by omega
    subst this; exact hk
set_option maxRecDepth 100000 in
set_option maxHeartbeats 8000000 in
theorem spec_LiftsOk (v : Value) (rs : List LiftR) (L : LiftsL) (lo hi : Nat) (w : World) (h : Lifts lo hi w v rs L) (hwf : ∀ x ∈ L, x.1.name.size ≤ maxLen) (hlen : L.length ≤ 1048576) :
    Calls Try.prog 62 #[v] w fun e w' => e = .returned (.bool (liftsB L)) ∧ Below w.heap.size w w' := by
  have hl1 := h.len
  have Hs := Lib.hid h
  obtain ⟨⟨a, cap, rfl, hcp, -⟩, -, -⟩ := h
  rw [hl1] at hcp ⊢
  have Hl1 := Lib.hid hl1
  have Hwf := Lib.hid hwf
  clear hl1 hwf
  go_enter Try.func62, Try.ntmps62
  go_wp2
  go_loopw [3] (fun i wr => ∃ k : Nat, k ≤ L.length ∧ i = .int .i64 k ∧ Below w.heap.size w wr ∧ Hid (∀ i (h : i < L.length), i < k → liftRow L i h)) (fun i _ => L.length - (intOf i).toNat)
  case atStart => exact ⟨0, Nat.zero_le _, rfl, Below.refl _ _, Lib.hid (fun _ _ h => absurd h (by omega))⟩
  case round =>
    obtain ⟨k, hk, rfl, hB, hall⟩ := hrel
    by_cases hlt : k < L.length
    · have hk1 : k < rs.length := by rw [Hl1.out]; exact hlt
      have hs : Lifts lo hi wr (.slice a L.length cap) rs L := by rw [← Hl1.out]; exact Hs.out.ext hB
      obtain ⟨hfl, hrow⟩ := hs.one hlt hk1
      obtain ⟨b, off, rfl⟩ := hs.out.addr (by omega)
      have hcc := hs.at hk1
      rw [show LiftR.cells rs[k] = [.string L[k].1.name, .int .i64 L[k].1.weight, .int .i64 L[k].1.fx, .int .i64 L[k].1.fy, .int .i64 L[k].1.tx, .int .i64 L[k].1.ty, .int .i64 L[k].1.height, .int .i64 L[k].1.deadline, rs[k].s.v] by unfold LiftR.cells; rw [hfl]] at hcc
      have c0 := hcc 0 _ rfl
      simp only [Nat.add_zero] at c0
      have hbw := World.block_lt_of_cell? wr _ c0
      have hone := fun w' (hb : Below wr.heap.size wr w') => spec_One b (off + k * 9) L[k].1 rs[k].s.v L[k].2 (k : Int) lo hi w' (fun j u hu => (hb.cell (p := ⟨b, off + k * 9 + j, none⟩) hbw).trans (hcc j u hu)) (hrow.ext hb) (Hwf.out _ (List.getElem_mem hlt)) ⟨by omega, by omega⟩
      have hNm0 := fun w' (hb : Below wr.heap.size wr w') => spec_Named (.slice (some ⟨b, off, none⟩) k cap) (rs.take k) (L.take k) lo hi L[k].1.name w' ((nsr_take hs (by omega)).ext hb)
      have hka : (k : Int) ≤ (cap : Int) := by omega
      have hkb : (0 : Int) ≤ (k : Int) := by omega
      clear hs hcc hrow hfl
      cases hcb : liftB L[k].1 L[k].2 k
      · have Hd := Lib.hid (liftsB_f (L := L) (fun h => liftB_ff hcb (h.1 k hlt).1))
        rw [hcb] at hone
        have hone := Lib.hid hone
        clear hcb hNm0
        generalize L[k].1.name = nm at *
        go_wp2_with fail
        refine wp_region_held_drew (S := (fun w' => (∀ b' o', b' < wr.heap.size → w'.cell? ⟨b', o', none⟩ = wr.cell? ⟨b', o', none⟩) ∧ Below wr.heap.size wr w')) (by kernel_rfl) (heldB (Below.refl _ _).drew) (fun hHeld => ?_)
        refine take_v 10 (i := 0) rfl rfl (by kernel_rfl) (by kernel_rfl) (by kernel_rfl) (fun _ _ _ h => h) (by rfl) (fun w hSw => by (try dsimp only at hSw); go_simp; first | done | with_reducible rfl) hHeld ?_
        try simp only [Act.put, List.setIfInBounds_toArray, List.set_cons_zero, List.set_cons_succ]
        refine take_v 11 (i := 1) rfl rfl (by kernel_rfl) (by kernel_rfl) (by kernel_rfl) (fun _ _ _ h => h) (by rfl) (fun w hSw => by (try dsimp only at hSw); go_simp; first | done | with_reducible rfl) hHeld ?_
        try simp only [Act.put, List.setIfInBounds_toArray, List.set_cons_zero, List.set_cons_succ]
        refine take_v 12 (i := 2) rfl rfl (by kernel_rfl) (by kernel_rfl) (by kernel_rfl) (fun _ _ _ h => h) (by rfl) (fun w hSw => by (try dsimp only at hSw); go_simp; first | done | with_reducible rfl) hHeld ?_
        try simp only [Act.put, List.setIfInBounds_toArray, List.set_cons_zero, List.set_cons_succ]
        refine take_v 13 (i := 3) rfl rfl (by kernel_rfl) (by kernel_rfl) (by kernel_rfl) (fun _ _ _ h => h) (by rfl) (fun w hSw => by (try dsimp only at hSw); go_simp; first | done | with_reducible rfl) hHeld ?_
        try simp only [Act.put, List.setIfInBounds_toArray, List.set_cons_zero, List.set_cons_succ]
        refine wpAnyH_ready (rs := [4]) (by kernel_rfl) (by simp) ?_
        refine AllReadyH.cons rfl (fun K hK => ?_) AllReadyH.nil
        go_simp
        refine (hone.out _ (Below.refl _ _).drew).mono ?_
        rintro e w3 ⟨rfl, hb3⟩
        have b3 : Below wr.heap.size wr w3 := (Below.refl _ _).drew.trans hb3
        go_wp2_with fail
        refine hK.out _ _ (heldB b3) (fun hHeld => ?_)
        clear hK
        try simp only [Act.put, List.setIfInBounds_toArray, List.set_cons_zero, List.set_cons_succ]
        refine take_v 15 (i := 5) rfl rfl (by kernel_rfl) (by kernel_rfl) (by kernel_rfl) (fun _ _ _ h => h) (by rfl) (fun w hSw => by (try dsimp only at hSw); go_simp; first | done | with_reducible rfl) hHeld ?_
        try simp only [Act.put, List.setIfInBounds_toArray, List.set_cons_zero, List.set_cons_succ]
        refine take_v 16 (i := 6) rfl rfl (by kernel_rfl) (by kernel_rfl) (by kernel_rfl) (fun _ _ _ h => h) (by rfl) (fun w hSw => by (try dsimp only at hSw); go_simp; first | done | with_reducible rfl) hHeld ?_
        try simp only [Act.put, List.setIfInBounds_toArray, List.set_cons_zero, List.set_cons_succ]
        refine take_u 17 (i := 7) rfl rfl (by kernel_rfl) (by kernel_rfl) (by kernel_rfl) (fun _ _ _ h => h) (by rfl) hHeld ?_
        try simp only [Act.put, List.setIfInBounds_toArray, List.set_cons_zero, List.set_cons_succ]
        refine take_u 18 (i := 8) rfl rfl (by kernel_rfl) (by kernel_rfl) (by kernel_rfl) (fun _ _ _ h => h) (by rfl) hHeld ?_
        try simp only [Act.put, List.setIfInBounds_toArray, List.set_cons_zero, List.set_cons_succ]
        refine take_u 19 (i := 9) rfl rfl (by kernel_rfl) (by kernel_rfl) (by kernel_rfl) (fun _ _ _ h => h) (by rfl) hHeld ?_
        try simp only [Act.put, List.setIfInBounds_toArray, List.set_cons_zero, List.set_cons_succ]
        refine take_u 20 (i := 10) rfl rfl (by kernel_rfl) (by kernel_rfl) (by kernel_rfl) (fun _ _ _ h => h) (by rfl) hHeld ?_
        try simp only [Act.put, List.setIfInBounds_toArray, List.set_cons_zero, List.set_cons_succ]
        refine take_u 21 (i := 11) rfl rfl (by kernel_rfl) (by kernel_rfl) (by kernel_rfl) (fun _ _ _ h => h) (by rfl) hHeld ?_
        try simp only [Act.put, List.setIfInBounds_toArray, List.set_cons_zero, List.set_cons_succ]
        refine take_u 22 (i := 12) rfl rfl (by kernel_rfl) (by kernel_rfl) (by kernel_rfl) (fun _ _ _ h => h) (by rfl) hHeld ?_
        try simp only [Act.put, List.setIfInBounds_toArray, List.set_cons_zero, List.set_cons_succ]
        refine take_u 23 (i := 13) rfl rfl (by kernel_rfl) (by kernel_rfl) (by kernel_rfl) (fun _ _ _ h => h) (by rfl) hHeld ?_
        try simp only [Act.put, List.setIfInBounds_toArray, List.set_cons_zero, List.set_cons_succ]
        refine take_u 24 (i := 14) rfl rfl (by kernel_rfl) (by kernel_rfl) (by kernel_rfl) (fun _ _ _ h => h) (by rfl) hHeld ?_
        try simp only [Act.put, List.setIfInBounds_toArray, List.set_cons_zero, List.set_cons_succ]
        refine take_u 25 (i := 15) rfl rfl (by kernel_rfl) (by kernel_rfl) (by kernel_rfl) (fun _ _ _ h => h) (by rfl) hHeld ?_
        try simp only [Act.put, List.setIfInBounds_toArray, List.set_cons_zero, List.set_cons_succ]
        refine take_u 26 (i := 16) rfl rfl (by kernel_rfl) (by kernel_rfl) (by kernel_rfl) (fun _ _ _ h => h) (by rfl) hHeld ?_
        try simp only [Act.put, List.setIfInBounds_toArray, List.set_cons_zero, List.set_cons_succ]
        refine take_v 27 (i := 17) rfl rfl (by kernel_rfl) (by kernel_rfl) (by kernel_rfl) (fun _ _ _ h => h) (by rfl) (fun w hSw => by (try dsimp only at hSw); go_simp; first | done | with_reducible rfl) hHeld ?_
        try simp only [Act.put, List.setIfInBounds_toArray, List.set_cons_zero, List.set_cons_succ]
        refine wpAnyH_done (by kernel_rfl) ?_ _
        go_wp2
        go_ret
        rw [Hd.out]; exact ⟨rfl, hB.trans (b3.mono hB.size)⟩
      · have Hok := Lib.hid (liftB_iff.1 hcb)
        rw [hcb] at hone
        have hone := Lib.hid hone
        clear hcb
        by_cases hex : ∃ j, ∃ h : j < (L.take k).length, (L.take k)[j].1.name = L[k].1.name
        · have Hd := Lib.hid (liftsB_f (L := L) (fun h => by
            obtain ⟨j, hj, he⟩ := hex
            rw [List.getElem_take] at he
            rw [List.length_take] at hj
            exact (h.1 k hlt).2 j (by omega) he))
          have hNm : Hid (∀ w', Below wr.heap.size wr w' → Calls Try.prog 129 #[.slice (some ⟨b, off, none⟩) k cap, .string L[k].1.name] w' fun e w'' => ∃ r : Int, e = .returned (.int .i64 r) ∧ 0 ≤ r ∧ w' = w'') := Lib.hid (fun w' hb => (hNm0 w' hb).mono fun e w'' ⟨r, he, hr, hw⟩ => ⟨r, he, hr.elim (fun h => h.1) (fun h => by obtain ⟨j, hj, he⟩ := hex; exact absurd he (h.2 j hj)), hw⟩)
          clear hNm0 hex
          generalize L[k].1.name = nm at *
          go_wp2_with fail
          go_region_held3 (fun w' => (∀ b' o', b' < wr.heap.size → w'.cell? ⟨b', o', none⟩ = wr.cell? ⟨b', o', none⟩) ∧ Below wr.heap.size wr w') (first | exact heldB (Below.refl _ _).drew | exact heldB b3)
              (first
                | (go_at_call 128; refine (hone.out _ (Below.refl _ _).drew).mono ?_; rintro e w3 ⟨rfl, hb3⟩; have b3 : Below wr.heap.size wr w3 := (Below.refl _ _).drew.trans hb3)
                | (go_at_call 129; refine (hNm.out _ b3).mono ?_; rintro e w4 ⟨r, rfl, hr, rfl⟩))
          go_wp2
          go_ret
          rw [Hd.out]; exact ⟨rfl, hB.trans (b3.mono hB.size)⟩
        · have Hd := Lib.hid (lifts_step hlt hall.out ⟨Hok.out, fun j hj he => hex ⟨j, by rw [List.length_take]; omega, by rw [List.getElem_take]; exact he⟩⟩)
          have hNm : Hid (∀ w', Below wr.heap.size wr w' → Calls Try.prog 129 #[.slice (some ⟨b, off, none⟩) k cap, .string L[k].1.name] w' fun e w'' => ∃ r : Int, e = .returned (.int .i64 r) ∧ r < 0 ∧ w' = w'') := Lib.hid (fun w' hb => (hNm0 w' hb).mono fun e w'' ⟨r, he, hr, hw⟩ => ⟨r, he, hr.elim (fun h => absurd h.2 hex) (fun h => h.1), hw⟩)
          clear hNm0 hex
          generalize L[k].1.name = nm at *
          go_wp2_with fail
          go_region_held3 (fun w' => (∀ b' o', b' < wr.heap.size → w'.cell? ⟨b', o', none⟩ = wr.cell? ⟨b', o', none⟩) ∧ Below wr.heap.size wr w') (first | exact heldB (Below.refl _ _).drew | exact heldB b3)
              (first
                | (go_at_call 128; refine (hone.out _ (Below.refl _ _).drew).mono ?_; rintro e w3 ⟨rfl, hb3⟩; have b3 : Below wr.heap.size wr w3 := (Below.refl _ _).drew.trans hb3)
                | (go_at_call 129; refine (hNm.out _ b3).mono ?_; rintro e w4 ⟨r, rfl, hr, rfl⟩))
          go_wp2
          go_roundw
          case rel => exact ⟨k + 1, by omega, by go_num, hB.trans (b3.mono hB.size), Hd⟩
          case measure => simp [intOf]; omega
    · have hkk : k = L.length := by omega
      subst hkk
      by_cases hr : L.length ≤ 10
      · have Hd := Lib.hid (liftsB_t (L := L) ⟨fun i h => hall.out i h h, hr⟩)
        go_wp2
        go_ret
        rw [Hd.out]; exact ⟨ret_bool (by first | exact decide_eq_true (by omega) | exact decide_eq_false (by omega) | rfl), hB⟩
      · have Hd := Lib.hid (liftsB_f (L := L) (fun h => hr h.2))
        go_wp2
        go_ret
        rw [Hd.out]; exact ⟨ret_bool (by first | exact decide_eq_true (by omega) | exact decide_eq_false (by omega) | rfl), hB⟩
end Go.Proofs.Ytgbohbjpdmgneaa
