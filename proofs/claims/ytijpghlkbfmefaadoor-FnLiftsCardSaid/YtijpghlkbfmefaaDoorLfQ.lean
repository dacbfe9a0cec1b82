/- Orders and levels of lifts, the program and the reference: what is asked of them. -/
import Derived.Test.YtijpghlkbfmefaaDoorLfR
namespace Go.Proofs.YtijpghlkbfmefaaDoor
open Go.RowKit
def UoOut (L : LiftsL) (w : World) (e : Ending) (w' : World) : Prop := ∃ v l r, e = .returned (.tuple #[v, .int .i64 0]) ∧ Slw 1 intCells w.heap.size w'.heap.size w' v l ∧ OrdOk L l r ∧ l.length = L.length ∧ Below w.heap.size w w'
set_option maxRecDepth 100000 in
set_option maxHeartbeats 2000000 in
theorem impl_urgentOrder (v : Value) (rs : List LiftR) (L : LiftsL) (lo hi : Nat) (w : World) (h : Lifts lo hi w v rs L) (hok : liftsOk L) :
    Calls Tryd.prog 35 #[v] w (OrdOut L w) := by
  have hba : Below w.heap.size w (w.alloc (.cells #[v] 24)) := (Below.refl _ _).alloc (Nat.le_refl _) _
  have hX := blkN_new w (.cells #[v] 24)
  have hO := Lib.hid (impl_OrderBy v rs L lo hi w.heap.size _ (h.ext hba) hok ((Lib.cell_of_heap hX 0).trans rfl))
  have hln : ∃ p cap, v = .slice p L.length cap := by obtain ⟨p, cap, hv, _⟩ := h.out; exact ⟨p, cap, by rw [← h.len]; exact hv⟩
  obtain ⟨p, cap, rfl⟩ := hln
  clear h hok hX
  go_enter Tryd.func35, Tryd.ntmps35
  go_wp2_with fail
  refine hO.out.mono ?_
  rintro e w2 ⟨v2, l, r, rfl, hsl, hor, hlen, hb2⟩
  have Hx := Lib.hid (show OrdOk L l r ∧ l.length = L.length from ⟨hor, hlen⟩)
  clear hor hlen
  go_wp2
  go_ret
  exact ⟨v2, l, r, rfl, hsl.widenN hba.size (Nat.le_refl _), Hx.out.1, Hx.out.2, hba.trans (hb2.mono hba.size)⟩
set_option maxHeartbeats 2000000 in
theorem impl_UrgentOrder (v : Value) (rs : List LiftR) (L : LiftsL) (lo hi : Nat) (w : World) (h : Lifts lo hi w v rs L) (hok : liftsOk L) :
    Calls Tryd.prog 13 #[v] w (UoOut L w) := by
  have hV := impl_LiftsOk v rs L lo hi w h (lifts_nm hok) (by have := hok.2; omega)
  rw [liftsB_t hok] at hV
  have hV := Lib.hid hV
  have hO := Lib.hid (fun W (hb : Below w.heap.size w W) => impl_urgentOrder v rs L lo hi W (h.ext hb) hok)
  have hln : ∃ p cap, v = .slice p L.length cap := by obtain ⟨p, cap, hv, _⟩ := h.out; exact ⟨p, cap, by rw [← h.len]; exact hv⟩
  obtain ⟨p, cap, rfl⟩ := hln
  clear h hok
  go_enter Tryd.func13, Tryd.ntmps13
  go_wp2_with fail
  refine hV.out.mono ?_
  rintro e w1 ⟨rfl, hb1⟩
  go_wp2_with fail
  refine (hO.out w1 hb1).mono ?_
  rintro e w2 ⟨v2, l, r, rfl, hsl, hor, hlen, hb2⟩
  have Hx := Lib.hid (show OrdOk L l r ∧ l.length = L.length from ⟨hor, hlen⟩)
  clear hor hlen
  go_wp2
  go_ret2
  exact ⟨v2, l, r, rfl, hsl.widenN hb1.size (Nat.le_refl _), Hx.out.1, Hx.out.2, hb1.trans (hb2.mono hb1.size)⟩
theorem impl_idx_t (n m : Int) (w : World) (h : 0 ≤ n) (h2 : n < m) (h3 : m ≤ 1048576) : Calls Tryd.prog 39 #[.int .i64 n, .int .i64 m] w fun e w' => e = .returned (.bool true) ∧ w = w' := by
  go_enter Tryd.func39, Tryd.ntmps39
  go_wp2_with (go_at_call 33; refine (impl_within_t _ _ _ _ (by omega) (by omega)).mono ?_; rintro e w' ⟨rfl, rfl⟩)
  go_ret; exact ⟨rfl, rfl⟩
theorem can_parts {L : LiftsL} {S k : Nat} (hk : k < L.length) (h : canN L S k = true) : S.testBit k = false ∧ ∀ i (h : i < L[k].2.length), S.testBit (L[k].2[i]).toNat = true := by
  rw [canN_at hk, Bool.and_eq_true] at h
  refine ⟨by simpa using h.1, fun i hi => ?_⟩
  have h2 := h.2
  rw [List.all_eq_true] at h2
  exact h2 _ (List.getElem_mem hi)
set_option maxRecDepth 100000 in
set_option maxHeartbeats 4000000 in
theorem spec_Can (v : Value) (rs : List LiftR) (L : LiftsL) (lo hi S k : Nat) (w : World) (h : Lifts lo hi w v rs L) (hok : liftsOk L) (hk : k < L.length) (hc : canN L S k = true) :
    Calls Tryd.prog 59 #[v, .int .i64 k, .int .i64 S] w fun e w' => e = .returned (.bool true) ∧ w = w' := by
  have hl1 := h.len
  have hk1 : k < rs.length := by omega
  obtain ⟨-, hrow⟩ := h.one hk hk1
  obtain ⟨hb, hall⟩ := can_parts hk hc
  have hris := (hok.1 k hk).1.2.2.2.2.2.2
  have hL10 := hok.2
  have hln : ∃ p cap, v = .slice p L.length cap := by obtain ⟨p, cap, hv, _⟩ := h.out; exact ⟨p, cap, by rw [← h.len]; exact hv⟩
  obtain ⟨p, cap, rfl⟩ := hln
  obtain ⟨bb, off, rfl⟩ := h.out.addr (by omega)
  obtain ⟨-, -, -, -, -, -, -, -, c8⟩ := Lifts_at h hk1
  have hkI : (k : Int) < (L.length : Int) := by omega
  generalize rs[k].s = sk at *
  obtain ⟨ta, tl, tc⟩ := sk
  simp only [SV.v] at c8 hrow
  generalize L[k].2 = aft at *
  have hrow0 := hrow
  obtain ⟨_, _, hv, hcp2, _⟩ := hrow
  obtain rfl : aft.length = tl := by cases hv; rfl
  have Hall := Lib.hid hall
  have Hris := Lib.hid hris
  have Hrow := Lib.hid hrow0
  clear h hv hok hc hall hris hl1 hrow0 hk1
  go_enter Tryd.func59, Tryd.ntmps59
  go_wp2
  go_loop [7] (fun i => ∃ j : Nat, j ≤ aft.length ∧ i = .int .i64 j) (fun i => aft.length - (intOf i).toNat)
  case atStart => exact ⟨0, Nat.zero_le _, rfl⟩
  case round =>
    obtain ⟨j, hj, rfl⟩ := hrel
    by_cases hjl : j < aft.length
    · obtain ⟨ba, oa, rfl⟩ := Hrow.out.addr (by omega)
      have ca := Ints.at Hrow.out.get hjl
      have hri := (Hris.out j hjl).1
      obtain ⟨m, hm⟩ : ∃ m : Nat, aft[j] = (m : Int) := ⟨(aft[j]).toNat, by omega⟩
      have hm10 : m ≤ 10 := by omega
      have hbm := Hall.out j hjl
      rw [hm] at ca hbm
      simp only [Int.toNat_natCast] at hbm
      clear hri hm
      go_wp2_with (first | (go_at_call 73; refine (spec_Bit S m _ hm10).mono ?_; rw [hbm]; rintro e _ ⟨rfl, rfl⟩) | fail)
      go_round
      case rel => exact ⟨j + 1, by omega, by go_num⟩
      case measure => simp [intOf]; omega
    · go_wp2_with (first | (go_at_call 73; refine (spec_Bit S k _ (by omega)).mono ?_; rw [hb]; rintro e _ ⟨rfl, rfl⟩) | fail)
      go_ret
      exact ⟨rfl, rfl⟩
set_option maxHeartbeats 2000000 in
theorem impl_Index64 (v : Value) (l : List Int) (lo hi : Nat) (x : Int) (w : World) (h : Ints lo hi w v l) (hx : x ∈ l) (hl : l.length ≤ 1048576) :
    Calls Tryd.prog 52 #[v, .int .i64 x] w fun e w' => (∃ k : Nat, e = .returned (.int .i64 k)) ∧ w = w' := by
  have hsl := h
  obtain ⟨a, cap, rfl, ⟨hcp, hcp2⟩, hh⟩ := h
  have Hx := Lib.hid hx
  clear hh hx
  go_enter Tryd.func52, Tryd.ntmps52
  go_wp2
  go_loop [8] (fun i => ∃ k : Nat, k ≤ l.length ∧ i = .int .i64 k ∧ Hid (∀ i (h : i < l.length), i < k → l[i] ≠ x)) (fun i => l.length - (intOf i).toNat)
  case atStart => exact ⟨0, Nat.zero_le _, rfl, Lib.hid (fun _ _ h => absurd h (by omega))⟩
  case round =>
    obtain ⟨k, hk, rfl, hall⟩ := hrel
    by_cases hlt : k < l.length
    · obtain ⟨b, off, rfl⟩ := hsl.addr (by omega)
      have c0 := Ints.at hsl.get hlt
      have Hno := Lib.hid (fun (h : l[k] ≠ x) => (show ∀ i (h : i < l.length), i < k + 1 → l[i] ≠ x from fun i hi hik => by
        by_cases e : i < k
        · exact hall.out i hi e
        · have : i = k := by omega
          subst this; exact h))
      clear hsl
      generalize l[k] = y at *
      by_cases hy : y = x
      · subst hy
        go_wp2
        go_ret
        exact ⟨⟨k, rfl⟩, rfl⟩
      · have Hn := Lib.hid (Hno.out hy)
        have hb : (x == y) = false := by rw [beq_eq_false_iff_ne]; exact fun e => hy e.symm
        clear hy
        go_wp2
        go_round
        case rel => exact ⟨k + 1, by omega, by go_num, Hn⟩
        case measure => simp [intOf]; omega
    · exfalso
      obtain ⟨i, hi, e⟩ := List.getElem_of_mem Hx.out
      exact hall.out i hi (by omega) e
theorem impl_Contains64 (v : Value) (l : List Int) (lo hi : Nat) (x : Int) (w : World) (h : Ints lo hi w v l) (hx : x ∈ l) (hl : l.length ≤ 1048576) :
    Calls Tryd.prog 28 #[v, .int .i64 x] w fun e w' => e = .returned (.bool true) ∧ w = w' := by
  have hI := Lib.hid (impl_Index64 v l lo hi x w h hx hl)
  obtain ⟨a, cap, rfl, _, _⟩ := h
  go_enter Tryd.func28, Tryd.ntmps28
  go_wp2_with fail
  refine hI.out.mono ?_
  rintro e _ ⟨⟨k, rfl⟩, rfl⟩
  have hk0 : (0 : Int) ≤ (k : Int) := Int.natCast_nonneg _
  go_wp2
  go_ret
  exact ⟨rfl, rfl⟩
/-- The set of what an order has done ahead of place i. -/
def atS (r : List Nat) (i : Nat) : Nat := setOf (r.drop (r.length - i))
theorem atS_zero (r : List Nat) : atS r 0 = 0 := by unfold atS; rw [Nat.sub_zero, List.drop_length]; rfl
theorem atS_lt {L : LiftsL} (hL : L.length ≤ 10) {r : List Nat} (h : ordRev L r) (i : Nat) : atS r i < 2 ^ 62 := by
  have h1 := ord_lt hL _ (ordRev_drop r (r.length - i) h)
  have h2 := pow_b hL
  unfold atS; omega
/-- A place of an order: what stands there, that it can be done, and the set behind it. -/
theorem ord_step {L : LiftsL} (hL : L.length ≤ 10) {l : List Int} {r : List Nat} (h : OrdOk L l r) {i : Nat} (hi : i < l.length) : ∃ k : Nat, l[i] = k ∧ k < L.length ∧ canN L (atS r i) k = true ∧ bits .or .i64 ((atS r i : Nat) : Int) ((2 : Int) ^ k) = ((atS r (i + 1) : Nat) : Int) := by
  obtain ⟨k, h1, h2, h3⟩ := h.at hi
  have hk := canN_lt h3
  refine ⟨k, h1, hk, h3, ?_⟩
  unfold atS
  rw [h2]
  exact set_bits hL (ordRev_drop r _ h.ok) (by omega)
set_option maxRecDepth 100000 in
set_option maxHeartbeats 4000000 in
theorem spec_Order (v v2 : Value) (rs : List LiftR) (L : LiftsL) (lo hi lo2 hi2 : Nat) (l : List Int) (r : List Nat) (w : World) (h : Lifts lo hi w v rs L) (hok : liftsOk L) (h2 : Ints lo2 hi2 w v2 l) (hor : OrdOk L l r) (hlen : l.length = L.length) :
    Calls Tryd.prog 38 #[v, v2] w fun e w' => e = .returned (.bool true) ∧ w = w' := by
  have hc := Lib.hid (fun S k hk hc => spec_Can v rs L lo hi S k w h hok hk hc)
  have hst := Lib.hid (fun i hi => ord_step hok.2 hor (i := i) hi)
  have hln : ∃ p cap, v = .slice p L.length cap := by obtain ⟨p, cap, hv, _⟩ := h.out; exact ⟨p, cap, by rw [← h.len]; exact hv⟩
  obtain ⟨p, cap, rfl⟩ := hln
  have hsl := h2
  obtain ⟨a, cap2, rfl, ⟨hcp, hcp2⟩, hh⟩ := h2
  have hL10 := hok.2
  rw [hlen] at hcp ⊢
  obtain ⟨n, hn⟩ : ∃ n, L.length = n := ⟨_, rfl⟩
  have hln2 : l.length = n := hlen.trans hn
  rw [hn] at hc hL10 hcp ⊢
  have Hn := Lib.hid hn
  have Hl := Lib.hid hln2
  have hz : Hid (((0 : Int)) = ((atS r 0 : Nat) : Int)) := Lib.hid (by rw [atS_zero]; rfl)
  clear h hok hor hlen hh hn hln2
  go_enter Tryd.func38, Tryd.ntmps38
  go_wp2
  go_loop [5, 6] (fun d i => ∃ j : Nat, j ≤ n ∧ i = .int .i64 j ∧ d = .int .i64 ((atS r j : Nat) : Int)) (fun _ i => n - (intOf i).toNat)
  case atStart => exact ⟨0, Nat.zero_le _, rfl, by rw [← hz.out]⟩
  case round =>
    obtain ⟨j, hj, rfl, rfl⟩ := hrel
    by_cases hjl : j < n
    · have hjl2 : j < l.length := by rw [Hl.out]; exact hjl
      obtain ⟨b, off, rfl⟩ := hsl.addr (by omega)
      have c0 := Ints.at hsl.get hjl2
      obtain ⟨m, hm, hmL, hmc, hmb⟩ := hst.out j hjl2
      rw [hm] at c0
      rw [Hn.out] at hmL
      have hm10 : m ≤ 10 := by omega
      have hkw := wrap_pow hm10
      rw [← pow_i] at hkw
      have hcall := Lib.hid (hc.out (atS r j) m hmL hmc)
      have hjn : (j : Int) < (n : Int) := by omega
      clear hm hmc hjl2
      go_wp2_with (first | (go_at_call 58; refine (spec_In_t _ _ _ _ (by omega) (by omega)).mono ?_; rintro e _ ⟨rfl, rfl⟩) | (go_at_call 59; refine hcall.out.mono ?_; rintro e _ ⟨rfl, rfl⟩) | fail)
      go_round
      case rel => exact ⟨j + 1, by omega, by go_num, rfl⟩
      case measure => simp [intOf]; omega
    · have hjn : ¬ (j : Int) < (n : Int) := by omega
      go_wp2
      go_ret
      exact ⟨rfl, rfl⟩
theorem spec_IsOrder (v v2 : Value) (rs : List LiftR) (L : LiftsL) (lo hi lo2 hi2 : Nat) (l : List Int) (r : List Nat) (w : World) (h : Lifts lo hi w v rs L) (hok : liftsOk L) (h2 : Ints lo2 hi2 w v2 l) (hor : OrdOk L l r) (hlen : l.length = L.length) :
    Calls Tryd.prog 16 #[v, v2] w fun e w' => e = .returned (.bool true) ∧ Below w.heap.size w w' := by
  have hV := spec_LiftsOk v rs L lo hi w h (lifts_nm hok) (by have := hok.2; omega)
  rw [liftsB_t hok] at hV
  have hV := Lib.hid hV
  have hO := Lib.hid (fun W (hb : Below w.heap.size w W) => spec_Order v v2 rs L lo hi lo2 hi2 l r W (h.ext hb) hok (h2.ext hb) hor hlen)
  have hln : ∃ p cap, v = .slice p L.length cap := by obtain ⟨p, cap, hv, _⟩ := h.out; exact ⟨p, cap, by rw [← h.len]; exact hv⟩
  obtain ⟨p, cap, rfl⟩ := hln
  obtain ⟨a, cap2, rfl, _, _⟩ := h2
  clear h hok hor hlen
  go_enter Tryd.func16, Tryd.ntmps16
  go_wp2_with fail
  refine hV.out.mono ?_
  rintro e w1 ⟨rfl, hb1⟩
  go_wp2_with fail
  refine (hO.out w1 hb1).mono ?_
  rintro e _ ⟨rfl, rfl⟩
  go_wp2
  go_ret
  exact ⟨rfl, hb1⟩
set_option maxRecDepth 100000 in
set_option maxHeartbeats 4000000 in
theorem impl_IsOrder (v v2 : Value) (rs : List LiftR) (L : LiftsL) (lo hi lo2 hi2 : Nat) (l : List Int) (r : List Nat) (w : World) (h : Lifts lo hi w v rs L) (hok : liftsOk L) (h2 : Ints lo2 hi2 w v2 l) (hor : OrdOk L l r) (hlen : l.length = L.length) :
    Calls Tryd.prog 17 #[v, v2] w fun e w' => e = .returned (.bool true) ∧ Below w.heap.size w w' := by
  have hV := impl_LiftsOk v rs L lo hi w h (lifts_nm hok) (by have := hok.2; omega)
  rw [liftsB_t hok] at hV
  have hV := Lib.hid hV
  have hR := Lib.hid (fun S W (hb : Below w.heap.size w W) => impl_Ready v rs L lo hi S W (h.ext hb) hok)
  have hst := Lib.hid (fun i hi => ord_step hok.2 hor (i := i) hi)
  have hln : ∃ p cap, v = .slice p L.length cap := by obtain ⟨p, cap, hv, _⟩ := h.out; exact ⟨p, cap, by rw [← h.len]; exact hv⟩
  obtain ⟨p, cap, rfl⟩ := hln
  have hsl := h2
  obtain ⟨a, cap2, rfl, ⟨hcp, hcp2⟩, hh⟩ := h2
  have hL10 := hok.2
  rw [hlen] at hcp ⊢
  obtain ⟨n, hn⟩ : ∃ n, L.length = n := ⟨_, rfl⟩
  have hln2 : l.length = n := hlen.trans hn
  rw [hn] at hV hR hL10 hcp ⊢
  have Hn := Lib.hid hn
  have Hl := Lib.hid hln2
  have hz : Hid (((0 : Int)) = ((atS r 0 : Nat) : Int)) := Lib.hid (by rw [atS_zero]; rfl)
  have hnn : ((n : Int) != (n : Int)) = false := by simp
  clear h hok hor hlen hh hn hln2
  go_enter Tryd.func17, Tryd.ntmps17
  go_wp2_with fail
  refine hV.out.mono ?_
  rintro e w1 ⟨rfl, hb1⟩
  go_wp2_with fail
  go_loopw [5, 20] (fun d i wr => ∃ j : Nat, j ≤ n ∧ i = .int .i64 j ∧ d = .int .i64 ((atS r j : Nat) : Int) ∧ Below w.heap.size w wr) (fun _ i _ => n - (intOf i).toNat)
  case atStart => exact ⟨0, Nat.zero_le _, rfl, by rw [← hz.out], hb1⟩
  case round =>
    obtain ⟨j, hj, rfl, rfl, hB⟩ := hrel
    by_cases hjl : j < n
    · have hjl2 : j < l.length := by rw [Hl.out]; exact hjl
      obtain ⟨b, off, rfl⟩ := hsl.addr (by omega)
      have c0 := Ints.at (hsl.ext hB).get hjl2
      obtain ⟨m, hm, hmL, hmc, hmb⟩ := hst.out j hjl2
      rw [hm] at c0
      rw [Hn.out] at hmL
      have hm10 : m ≤ 10 := by omega
      have hkw := wrap_pow hm10
      rw [← pow_i] at hkw
      have hcall := Lib.hid (hR.out (atS r j) wr hB)
      have Hmem := Lib.hid (fun l7 (hp : Picks (canN L (atS r j)) n l7) => (hp.mem (m : Int)).2 ⟨m, hmL, rfl, hmc⟩)
      have hjn : (j : Int) < (n : Int) := by omega
      clear hm hmc hjl2
      go_wp2_with (first | (go_at_call 39; refine (impl_idx_t _ _ _ (by omega) (by omega) (by omega)).mono ?_; rintro e _ ⟨rfl, rfl⟩) | fail)
      refine hcall.out.mono ?_
      rintro e w2 ⟨v7, l7, rfl, hsl7, hpk, hb2⟩
      have hct := Lib.hid (impl_Contains64 v7 l7 _ _ (m : Int) w2 hsl7.1 (Hmem.out l7 hpk) (by have := hpk.len; omega))
      have hB2 := hB.trans (hb2.mono hB.size)
      clear hsl7 hpk hb2 hcall Hmem
      go_wp2_with fail
      refine hct.out.mono ?_
      rintro e _ ⟨rfl, rfl⟩
      go_wp2
      go_roundw
      case rel => exact ⟨j + 1, by omega, by go_num, rfl, hB2⟩
      case measure => simp [intOf]; omega
    · have hjn : ¬ (j : Int) < (n : Int) := by omega
      go_wp2
      go_ret
      exact ⟨rfl, hB⟩
end Go.Proofs.YtijpghlkbfmefaaDoor
