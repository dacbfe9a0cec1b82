/- Zones, the reference: whether a point is in a zone, whether a line meets it. Zones, the reference: what blocks, codes, heights. -/
import Derived.Test.YtpabbehpkokhbaaDoorZnC
import Derived.Test.YtpabbehpkokhbaaDoorZnL
namespace Go.Proofs.YtpabbehpkokhbaaDoor
open Go.RowKit
theorem eg_eq (C : List Pnt) (k : Nat) (p : Pnt) : eg C k p = crossP (cnr C k) (cnr C ((k + 1) % C.length)) p := rfl
def InOut (C : List Pnt) (p : Pnt) (w : World) (e : Ending) (w' : World) : Prop := ∃ n : Int, e = .returned (.int .i64 n) ∧ (0 < n ↔ inZ C p) ∧ Below w.heap.size w w'
set_option maxRecDepth 100000 in
set_option maxHeartbeats 8000000 in
theorem spec_ZIn (b o : Nat) (f : ZoneF) (s : SV) (C : List Pnt) (lo hi : Nat) (p : Pnt) (w : World) (hc : ZAt b o f s w) (h : Pnts lo hi w s.v C) (hl : C.length ≤ 1024) (hC : ∀ q ∈ C, Crd q) (hp : Crd p) :
    Calls Tryd.prog 59 #[.pointer (some ⟨b, o, none⟩), .agg #[.int .i64 (p).x, .int .i64 (p).y]] w (InOut C p w) := by
  have Hh := Lib.hid h
  have Hc := Lib.hid hc
  have HC := Lib.hid (fun i (hi : i < C.length) => (show Crd (cnr C i) by rw [cnr_at hi]; exact hC _ (List.getElem_mem hi)))
  have HN := Lib.hid (fun k (hk : k < C.length) W (hb : Below w.heap.size w W) => spec_Nxt s.v C lo hi k W (h.ext hb) hk (by omega))
  have HX := Lib.hid (fun k (hk : k < C.length) W => spec_Cr (cnr C k) (cnr C ((k + 1) % C.length)) p W (HC.out k hk) (HC.out _ (Nat.mod_lt _ (by omega))) hp)
  obtain ⟨a, cap, hv, hcp, -⟩ := h
  obtain ⟨sa, sl, sc⟩ := s
  simp only [SV.v] at *
  obtain rfl : C.length = sl := by cases hv; rfl
  obtain ⟨x0, x1, x2⟩ := f
  obtain ⟨px, py⟩ := p
  dsimp only at *
  clear hc hv hC hp
  have hX := Lib.hid (blkN_new w (.cells #[.int .i64 px, .int .i64 py] 26 (0, 0)))
  have hb0 : Below w.heap.size w (w.alloc (.cells #[.int .i64 px, .int .i64 py] 26 (0, 0))) := (Below.refl _ _).alloc (Nat.le_refl _) _
  have hpw : w.heap.size < (w.alloc (.cells #[.int .i64 px, .int .i64 py] 26 (0, 0))).heap.size := by simp
  go_enter Tryd.func59, Tryd.ntmps59
  go_wp2_with fail
  generalize w.alloc (.cells #[.int .i64 px, .int .i64 py] 26 (0, 0)) = w0 at *
  obtain ⟨q, hq⟩ : ∃ q, w.heap.size = q := ⟨_, rfl⟩
  rw [hq] at hX hpw ⊢
  have Hq := Lib.hid hq
  clear hq
  go_loopw [5, 6] (fun r i wr => ∃ (k : Nat) (x : Int), k ≤ C.length ∧ i = .int .i64 k ∧ r = .int .i64 x ∧ 0 < x ∧ Hid (∀ i, i < k → 0 ≤ eg C i ⟨px, py⟩) ∧ Hid (Below w0.heap.size w0 wr)) (fun _ i _ => C.length - (Go.RowKit.intOf i).toNat)
  case atStart => exact ⟨0, 2, Nat.zero_le _, rfl, rfl, by omega, Lib.hid (fun i h => absurd h (by omega)), Lib.hid (Below.refl _ _)⟩
  case round =>
    obtain ⟨k, x, hk, rfl, rfl, hx, hall, hBW⟩ := hrel
    have hB : Below w.heap.size w wr := hb0.trans (hBW.out.mono hb0.size)
    have hXr := blkN_below hBW.out hX.out
    obtain ⟨e0, e1⟩ := cells2z hXr
    obtain ⟨c0, c1, c2, c3⟩ := (Hc.out.below hB).c
    simp only [SV.v] at c3
    dsimp only at c0 c1 c2 e0 e1
    have hbw := World.block_lt_of_cell? wr _ c0
    have hqw := World.block_lt_of_cell? wr _ e0
    clear hXr
    by_cases hlt : k < C.length
    · have hltI : (k : Int) < (C.length : Int) := by omega
      have hk0 : (0 : Int) ≤ (k : Int) := Int.natCast_nonneg _
      have hPj := Hh.out.ext hB
      obtain ⟨bb, oo, rfl⟩ := hPj.addr (by omega)
      obtain ⟨d0, d1⟩ := Pnts.at hPj.get hlt
      rw [← cnr_at hlt] at d0 d1
      have hdw := World.block_lt_of_cell? wr _ d0
      have hC1 := fun W (hb : Below wr.heap.size wr W) => HN.out k hlt W (hB.trans (hb.mono hB.size))
      have hC2 := HX.out k hlt
      have hall2 := Lib.hid (fun (h0 : 0 ≤ eg C k ⟨px, py⟩) => (show ∀ i, i < k + 1 → 0 ≤ eg C i ⟨px, py⟩ from fun i hi => by
        by_cases e : i = k
        · subst e; exact h0
        · exact hall.out i (by omega)))
      have hneg := Lib.hid (fun (h0 : eg C k ⟨px, py⟩ < 0) => (show ¬ inZ C ⟨px, py⟩ from fun h => by have := h k hlt; omega))
      rw [eg_eq] at hall2 hneg
      generalize crossP (cnr C k) (cnr C ((k + 1) % C.length)) ⟨px, py⟩ = z at *
      generalize cnr C ((k + 1) % C.length) = pn at *
      generalize cnr C k = pk at *
      obtain ⟨kx, ky⟩ := pk
      obtain ⟨nx, ny⟩ := pn
      dsimp only at *
      have hC1 := Lib.hid hC1
      have hC2 := Lib.hid hC2
      clear hPj
      go_wp2_with fail
      go_region_held3 (fun w' => (∀ b' o', b' < wr.heap.size → w'.cell? ⟨b', o', none⟩ = wr.cell? ⟨b', o', none⟩) ∧ Below wr.heap.size wr w') (first | (refine heldB ?_; go_grown; done))
        (first | (go_at_call 61; refine (hC1.out _ (by go_grown)).mono ?_; rintro e w1 ⟨rfl, b1'⟩; have b1 : Below wr.heap.size wr w1 := Below.trans (by go_grown) (b1'.mono (by first | exact Nat.le_refl _ | go_size))) | (go_at_call 80; refine (hC2.out _).mono ?_; rintro e w2 ⟨rfl, b2'⟩; have b2 : Below wr.heap.size wr w2 := b1.trans (b2'.mono b1.size)))
      rename_i hHeld
      clear hHeld
      have hBW2 := Lib.hid (hBW.out.trans (b2.mono hBW.out.size))
      have hB2 := hB.trans (b2.mono hB.size)
      rcases Int.lt_trichotomy z 0 with hz | hz | hz
      · have hno := hneg.out hz
        go_wp2_with fail
        go_ret
        exact ⟨0, rfl, ⟨fun h => absurd h (by omega), fun h => absurd h hno⟩, hB2⟩
      · have ha := Lib.hid (hall2.out (by omega))
        have hz1 : ¬ z < 0 := by omega
        have hz2 : (z == 0) = true := by rw [beq_iff_eq]; exact hz
        clear hz
        go_wp2_with fail
        go_roundw
        case rel => exact ⟨k + 1, 1, by omega, by go_num, rfl, by omega, ha, hBW2⟩
        case measure => simp [Go.RowKit.intOf]; omega
      · have ha := Lib.hid (hall2.out (by omega))
        have hz1 : ¬ z < 0 := by omega
        have hz2 : (z == 0) = false := by rw [beq_eq_false_iff_ne]; omega
        clear hz
        go_wp2_with fail
        go_roundw
        case rel => exact ⟨k + 1, x, by omega, by go_num, rfl, hx, ha, hBW2⟩
        case measure => simp [Go.RowKit.intOf]; omega
    · have hin := Lib.hid (show inZ C ⟨px, py⟩ from fun i hi => hall.out i (by omega))
      go_wp2_with fail
      go_ret
      exact ⟨x, rfl, ⟨fun _ => hin.out, fun _ => hx⟩, hB⟩
theorem meetB_iff {C : List Pnt} {a b : Pnt} : meetB C a b = true ↔ meetZ C a b := ⟨fun h => by classical exact of_decide_eq_true h, meetB_t⟩
set_option maxRecDepth 100000 in
set_option maxHeartbeats 8000000 in
theorem spec_ZMeets (b o : Nat) (f : ZoneF) (s : SV) (C : List Pnt) (lo hi : Nat) (p q : Pnt) (w : World) (hc : ZAt b o f s w) (h : Pnts lo hi w s.v C) (hl : C.length ≤ 1024) (hC : ∀ q ∈ C, Crd q) (hp : Crd p) (hq : Crd q) :
    Calls Tryd.prog 34 #[.pointer (some ⟨b, o, none⟩), .agg #[.int .i64 (p).x, .int .i64 (p).y], .agg #[.int .i64 (q).x, .int .i64 (q).y]] w fun e w' => e = .returned (.bool (meetB C p q)) ∧ Below w.heap.size w w' := by
  obtain ⟨m, hm⟩ : ∃ m, m = meetB C p q := ⟨_, rfl⟩
  have Hm := Lib.hid (show m = true ↔ meetZ C p q by rw [hm]; exact meetB_iff)
  rw [← hm]
  clear hm
  have Hh := Lib.hid h
  have Hc := Lib.hid hc
  have HC := Lib.hid (fun i (hi : i < C.length) => (show Crd (cnr C i) by rw [cnr_at hi]; exact hC _ (List.getElem_mem hi)))
  have HN := Lib.hid (fun k (hk : k < C.length) W (hb : Below w.heap.size w W) => spec_Nxt s.v C lo hi k W (h.ext hb) hk (by omega))
  have HX := Lib.hid (fun k (hk : k < C.length) W => spec_Lines p q (cnr C k) (cnr C ((k + 1) % C.length)) W hp hq (HC.out k hk) (HC.out _ (Nat.mod_lt _ (by omega))))
  have HI1 := Lib.hid (fun W (hb : Below w.heap.size w W) => spec_ZIn b o f s C lo hi p W (hc.below hb) (h.ext hb) hl hC hp)
  have HI2 := Lib.hid (fun W (hb : Below w.heap.size w W) => spec_ZIn b o f s C lo hi q W (hc.below hb) (h.ext hb) hl hC hq)
  obtain ⟨a, cap, hv, hcp, -⟩ := h
  obtain ⟨sa, sl, sc⟩ := s
  simp only [SV.v] at *
  obtain rfl : C.length = sl := by cases hv; rfl
  obtain ⟨x0, x1, x2⟩ := f
  obtain ⟨px, py⟩ := p
  obtain ⟨qx, qy⟩ := q
  dsimp only at *
  clear hc hv hC hp hq
  have hb0 : Below w.heap.size w ((w.alloc (.cells #[.int .i64 px, .int .i64 py] 26 (0, 0))).alloc (.cells #[.int .i64 qx, .int .i64 qy] 26 (0, 0))) := ((Below.refl _ _).alloc (Nat.le_refl _) _).alloc (by simp) _
  have hX := Lib.hid (blkN_below ((Below.refl _ _).alloc (Nat.le_refl _) (.cells #[.int .i64 qx, .int .i64 qy] 26 (0, 0))) (blkN_new w (.cells #[.int .i64 px, .int .i64 py] 26 (0, 0))))
  have hY := Lib.hid (boxZ_1 w (.cells #[.int .i64 px, .int .i64 py] 26 (0, 0)) (.cells #[.int .i64 qx, .int .i64 qy] 26 (0, 0)))
  go_enter Tryd.func34, Tryd.ntmps34
  go_wp2_with fail
  generalize (w.alloc (.cells #[.int .i64 px, .int .i64 py] 26 (0, 0))).alloc (.cells #[.int .i64 qx, .int .i64 qy] 26 (0, 0)) = w0 at *
  refine (HI1.out _ hb0).mono ?_
  rintro e w1 ⟨n1, rfl, hn1, hb1⟩
  have hX := Lib.hid (blkN_below hb1 hX.out)
  have hY := Lib.hid (blkN_below hb1 hY.out)
  have hB1 := hb0.trans (hb1.mono hb0.size)
  obtain ⟨e0, e1⟩ := cells2z hX.out
  obtain ⟨f0, f1⟩ := cells2z hY.out
  (try dsimp only at e0 e1 f0 f1)
  clear hb1 hb0
  by_cases h1 : 0 < n1
  · have hm : m = true := Hm.out.2 (.inl (hn1.1 h1))
    subst hm
    have hd : decide (0 < n1) = true := decide_eq_true h1
    go_wp2_with fail
    go_ret
    exact ⟨rfl, hB1⟩
  have hnp := Lib.hid (fun h => h1 (hn1.2 h))
  have hd : decide (0 < n1) = false := decide_eq_false h1
  have hd' : n1 ≤ 0 := by omega
  clear hn1
  go_wp2_with fail
  refine (HI2.out _ hB1).mono ?_
  rintro e w2 ⟨n2, rfl, hn2, hb2⟩
  have hX := Lib.hid (blkN_below hb2 hX.out)
  have hY := Lib.hid (blkN_below hb2 hY.out)
  have hB2 := hB1.trans (hb2.mono hB1.size)
  clear hb2 hB1 e0 e1 f0 f1
  by_cases h2 : 0 < n2
  · have hm : m = true := Hm.out.2 (.inr (.inl (hn2.1 h2)))
    subst hm
    have hd2 : decide (0 < n2) = true := decide_eq_true h2
    go_wp2_with fail
    go_ret
    exact ⟨rfl, hB2⟩
  have hnq := Lib.hid (fun h => h2 (hn2.2 h))
  have hd2 : decide (0 < n2) = false := decide_eq_false h2
  have hd2' : n2 ≤ 0 := by omega
  clear hn2
  go_wp2_with fail
  obtain ⟨qq, hqq⟩ : ∃ qq, w.heap.size = qq := ⟨_, rfl⟩
  rw [hqq] at hX hY ⊢
  have Hqq := Lib.hid hqq
  clear hqq
  go_loopw [7] (fun i wr => ∃ (k : Nat), k ≤ C.length ∧ i = .int .i64 k ∧ Hid (∀ i, i < k → ¬ meetP ⟨px, py⟩ ⟨qx, qy⟩ (cnr C i) (cnr C ((i + 1) % C.length))) ∧ Hid (Below w2.heap.size w2 wr)) (fun i _ => C.length - (Go.RowKit.intOf i).toNat)
  case atStart => exact ⟨0, Nat.zero_le _, rfl, Lib.hid (fun i h => absurd h (by omega)), Lib.hid (Below.refl _ _)⟩
  case round =>
    obtain ⟨k, hk, rfl, hall, hBW⟩ := hrel
    have hB : Below w.heap.size w wr := hB2.trans (hBW.out.mono hB2.size)
    have hXr := blkN_below hBW.out hX.out
    have hYr := blkN_below hBW.out hY.out
    obtain ⟨e0, e1⟩ := cells2z hXr
    obtain ⟨f0, f1⟩ := cells2z hYr
    obtain ⟨c0, c1, c2, c3⟩ := (Hc.out.below hB).c
    simp only [SV.v] at c3
    dsimp only at c0 c1 c2 e0 e1 f0 f1
    have hbw := World.block_lt_of_cell? wr _ c0
    have hqw := World.block_lt_of_cell? wr _ e0
    have hqw2 := World.block_lt_of_cell? wr _ f0
    clear hXr hYr
    by_cases hlt : k < C.length
    · have hltI : (k : Int) < (C.length : Int) := by omega
      have hk0 : (0 : Int) ≤ (k : Int) := Int.natCast_nonneg _
      have hPj := Hh.out.ext hB
      obtain ⟨bb, oo, rfl⟩ := hPj.addr (by omega)
      obtain ⟨d0, d1⟩ := Pnts.at hPj.get hlt
      rw [← cnr_at hlt] at d0 d1
      have hdw := World.block_lt_of_cell? wr _ d0
      have hC1 := fun W (hb : Below wr.heap.size wr W) => HN.out k hlt W (hB.trans (hb.mono hB.size))
      have hC2 := HX.out k hlt
      by_cases hmt : meetP ⟨px, py⟩ ⟨qx, qy⟩ (cnr C k) (cnr C ((k + 1) % C.length))
      · have hm : m = true := Hm.out.2 (.inr (.inr ⟨k, hlt, hmt⟩))
        subst hm
        rw [decide_eq_true hmt] at hC2
        clear hmt
        generalize cnr C ((k + 1) % C.length) = pn at *
        generalize cnr C k = pk at *
        obtain ⟨kx, ky⟩ := pk
        obtain ⟨nx, ny⟩ := pn
        dsimp only at *
        have hC1 := Lib.hid hC1
        have hC2 := Lib.hid hC2
        clear hPj
        go_wp2_with fail
        go_region_held3 (fun w' => (∀ b' o', b' < wr.heap.size → w'.cell? ⟨b', o', none⟩ = wr.cell? ⟨b', o', none⟩) ∧ Below wr.heap.size wr w') (first | (refine heldB ?_; go_grown; done))
          (first | (go_at_call 61; refine (hC1.out _ (by go_grown)).mono ?_; rintro e w3 ⟨rfl, b1'⟩; have b1 : Below wr.heap.size wr w3 := Below.trans (by go_grown) (b1'.mono (by first | exact Nat.le_refl _ | go_size))) | (go_at_call 60; refine (hC2.out _).mono ?_; rintro e w4 ⟨rfl, b2'⟩; have b2 : Below wr.heap.size wr w4 := b1.trans (b2'.mono b1.size)))
        rename_i hHeld
        clear hHeld
        go_wp2_with fail
        go_ret
        exact ⟨rfl, hB.trans (b2.mono hB.size)⟩
      · have hall2 := Lib.hid (show ∀ i, i < k + 1 → ¬ meetP ⟨px, py⟩ ⟨qx, qy⟩ (cnr C i) (cnr C ((i + 1) % C.length)) from fun i hi => by
          by_cases e : i = k
          · subst e; exact hmt
          · exact hall.out i (by omega))
        rw [decide_eq_false hmt] at hC2
        clear hmt
        generalize hpn : cnr C ((k + 1) % C.length) = pn at hC1 hC2
        generalize hpk : cnr C k = pk at d0 d1 hC2
        clear hpn hpk
        obtain ⟨kx, ky⟩ := pk
        obtain ⟨nx, ny⟩ := pn
        dsimp only at *
        have hC1 := Lib.hid hC1
        have hC2 := Lib.hid hC2
        clear hPj
        go_wp2_with fail
        go_region_held3 (fun w' => (∀ b' o', b' < wr.heap.size → w'.cell? ⟨b', o', none⟩ = wr.cell? ⟨b', o', none⟩) ∧ Below wr.heap.size wr w') (first | (refine heldB ?_; go_grown; done))
          (first | (go_at_call 61; refine (hC1.out _ (by go_grown)).mono ?_; rintro e w3 ⟨rfl, b1'⟩; have b1 : Below wr.heap.size wr w3 := Below.trans (by go_grown) (b1'.mono (by first | exact Nat.le_refl _ | go_size))) | (go_at_call 60; refine (hC2.out _).mono ?_; rintro e w4 ⟨rfl, b2'⟩; have b2 : Below wr.heap.size wr w4 := b1.trans (b2'.mono b1.size)))
        rename_i hHeld
        clear hHeld
        have hBW2 := Lib.hid (hBW.out.trans (b2.mono hBW.out.size))
        go_wp2_with fail
        go_roundw
        case rel => exact ⟨k + 1, by omega, by go_num, hall2, hBW2⟩
        case measure => simp [Go.RowKit.intOf]; omega
    · have hm : m = false := by
        rw [← Bool.not_eq_true]
        intro h
        rcases Hm.out.1 h with h | h | ⟨i, hi, h⟩
        · exact hnp.out h
        · exact hnq.out h
        · exact hall.out i (by omega) h
      subst hm
      go_wp2_with fail
      go_ret
      exact ⟨rfl, hB⟩
def highB (h : Int) : Bool := decide (0 ≤ h ∧ h ≤ 2000)
theorem spec_High (h : Int) (w : World) : Calls Tryd.prog 32 #[.int .i64 h] w fun e w' => e = .returned (.bool (highB h)) ∧ w = w' := by
  unfold highB
  by_cases hh : 0 ≤ h ∧ h ≤ 2000
  · rw [decide_eq_true hh]
    obtain ⟨h1, h2⟩ := hh
    go_enter Tryd.func32, Tryd.ntmps32
    go_wp2_with (go_at_call 58; refine (spec_In_t _ _ _ _ (by omega) (by omega)).mono ?_; rintro e w' ⟨rfl, rfl⟩)
    go_ret
    exact ⟨rfl, rfl⟩
  · rw [decide_eq_false hh]
    go_enter Tryd.func32, Tryd.ntmps32
    go_wp2_with (go_at_call 58; refine (spec_In_f _ _ _ _ hh).mono ?_; rintro e w' ⟨rfl, rfl⟩)
    go_ret
    exact ⟨rfl, rfl⟩
theorem tall_bd {f : ZoneF} (h : tall f) : (20 ≤ f.storeys * f.each ∧ f.storeys * f.each ≤ 2000) ∧ IntKind.i64.wrap (f.storeys * f.each) = f.storeys * f.each ∧ IntKind.i64.wrap (f.storeys * f.each + 20) = f.storeys * f.each + 20 := by
  obtain ⟨⟨h1, h2⟩, ⟨h3, h4⟩, h5⟩ := h
  have h6 : 1 * 20 ≤ f.storeys * f.each := Int.mul_le_mul h1 h3 (by omega) (by omega)
  exact ⟨⟨by omega, h5⟩, IntWalk.i64_in _ (by omega), IntWalk.i64_in _ (by omega)⟩
set_option maxRecDepth 100000 in
set_option maxHeartbeats 2000000 in
theorem spec_Load (b o : Nat) (f : ZoneF) (s : SV) (h : Int) (w : World) (hc : ZAt b o f s w) (ht : f.kind = 1 → tall f) :
    Calls Tryd.prog 33 #[.pointer (some ⟨b, o, none⟩), .int .i64 h] w fun e w' => e = .returned (.bool (loadB f h)) ∧ ∃ n, w' = w.drewN n := by
  unfold loadB
  obtain ⟨c0, c1, c2, c3⟩ := hc.c
  have hbw := World.block_lt_of_cell? w _ c0
  clear hc
  by_cases h1 : f.kind = 1
  · obtain ⟨-, hw1, hw2⟩ := tall_bd (ht h1)
    clear ht
    obtain ⟨x0, x1, x2⟩ := f
    dsimp only at *
    subst h1
    obtain ⟨pr, hpr⟩ : ∃ pr, x1 * x2 = pr := ⟨_, rfl⟩
    rw [hpr] at hw1 hw2 ⊢
    rw [show decide ((1 : Int) = 2 ∨ (1 : Int) = 1 ∧ h < pr + 20) = decide (h < pr + 20) from decide_eq_decide.2 ⟨fun h2 => by omega, fun h2 => .inr ⟨rfl, h2⟩⟩]
    go_enter Tryd.func33, Tryd.ntmps33
    go_wp2_with fail
    go_quiet (fail)
    go_wp2_with fail
    go_ret
    exact ⟨rfl, _, rfl⟩
  · clear ht
    obtain ⟨x0, x1, x2⟩ := f
    dsimp only at *
    have h10 : (x0 == 1) = false := by rw [beq_eq_false_iff_ne]; exact h1
    by_cases h2 : x0 = 2
    · rw [decide_eq_true (show x0 = 2 ∨ x0 = 1 ∧ h < x1 * x2 + 20 from .inl h2)]
      have h20 : (x0 == 2) = true := by rw [beq_iff_eq]; exact h2
      clear h1 h2
      go_enter Tryd.func33, Tryd.ntmps33
      go_wp2_with fail
      go_ret
      exact ⟨rfl, 0, rfl⟩
    · rw [decide_eq_false (show ¬ (x0 = 2 ∨ x0 = 1 ∧ h < x1 * x2 + 20) from fun h3 => h3.elim h2 fun h4 => h1 h4.1)]
      have h20 : (x0 == 2) = false := by rw [beq_eq_false_iff_ne]; exact h2
      clear h1 h2
      go_enter Tryd.func33, Tryd.ntmps33
      go_wp2_with fail
      go_ret
      exact ⟨rfl, 0, rfl⟩
set_option maxRecDepth 100000 in
set_option maxHeartbeats 2000000 in
theorem spec_JibB (b o : Nat) (f : ZoneF) (s : SV) (h : Int) (w : World) (hc : ZAt b o f s w) (ht : f.kind = 1 → tall f) :
    Calls Tryd.prog 42 #[.pointer (some ⟨b, o, none⟩), .int .i64 h] w fun e w' => e = .returned (.bool (jibB f h)) ∧ ∃ n, w' = w.drewN n := by
  unfold jibB
  obtain ⟨c0, c1, c2, c3⟩ := hc.c
  have hbw := World.block_lt_of_cell? w _ c0
  clear hc
  by_cases h1 : f.kind = 1
  · obtain ⟨-, hw1, hw2⟩ := tall_bd (ht h1)
    clear ht
    obtain ⟨x0, x1, x2⟩ := f
    dsimp only at *
    subst h1
    obtain ⟨pr, hpr⟩ : ∃ pr, x1 * x2 = pr := ⟨_, rfl⟩
    rw [hpr] at hw1 hw2 ⊢
    rw [show decide ((1 : Int) = 3 ∨ (1 : Int) = 1 ∧ h < pr + 20) = decide (h < pr + 20) from decide_eq_decide.2 ⟨fun h2 => by omega, fun h2 => .inr ⟨rfl, h2⟩⟩]
    go_enter Tryd.func42, Tryd.ntmps42
    go_wp2_with fail
    go_quiet (fail)
    go_wp2_with fail
    go_ret
    exact ⟨rfl, _, rfl⟩
  · clear ht
    obtain ⟨x0, x1, x2⟩ := f
    dsimp only at *
    have h10 : (x0 == 1) = false := by rw [beq_eq_false_iff_ne]; exact h1
    by_cases h2 : x0 = 3
    · rw [decide_eq_true (show x0 = 3 ∨ x0 = 1 ∧ h < x1 * x2 + 20 from .inl h2)]
      have h20 : (x0 == 3) = true := by rw [beq_iff_eq]; exact h2
      clear h1 h2
      go_enter Tryd.func42, Tryd.ntmps42
      go_wp2_with fail
      go_ret
      exact ⟨rfl, 0, rfl⟩
    · rw [decide_eq_false (show ¬ (x0 = 3 ∨ x0 = 1 ∧ h < x1 * x2 + 20) from fun h3 => h3.elim h2 fun h4 => h1 h4.1)]
      have h20 : (x0 == 3) = false := by rw [beq_eq_false_iff_ne]; exact h2
      clear h1 h2
      go_enter Tryd.func42, Tryd.ntmps42
      go_wp2_with fail
      go_ret
      exact ⟨rfl, 0, rfl⟩
/-- The code of a zone and a height. -/
noncomputable def codeZ (f : ZoneF) (C : List Pnt) (h : Int) : Int := if zoneB f C = true then (if highB h = true then 0 else 2) else 1
theorem codeZ_cases (f : ZoneF) (C : List Pnt) (h : Int) : (zoneB f C = true ∧ highB h = true ∧ codeZ f C h = 0) ∨ (zoneB f C = true ∧ highB h = false ∧ codeZ f C h = 2) ∨ (zoneB f C = false ∧ codeZ f C h = 1) := by
  unfold codeZ
  cases zoneB f C
  · exact .inr (.inr ⟨rfl, rfl⟩)
  · cases highB h
    · exact .inr (.inl ⟨rfl, rfl, rfl⟩)
    · exact .inl ⟨rfl, rfl, rfl⟩
set_option maxRecDepth 100000 in
theorem spec_CodeZ (b o : Nat) (f : ZoneF) (s : SV) (C : List Pnt) (lo hi : Nat) (h : Int) (w : World) (hc : ZAt b o f s w) (hh : Pnts lo hi w s.v C) (hl : C.length ≤ 1024) :
    Calls Tryd.prog 40 #[.pointer (some ⟨b, o, none⟩), .int .i64 h] w fun e w' => e = .returned (.int .i64 (codeZ f C h)) ∧ Below w.heap.size w w' := by
  have hV := spec_ZOk b o f s C lo hi w hc hh hl
  have hH := spec_High h
  clear hc hh hl
  rcases codeZ_cases f C h with ⟨h1, h2, h3⟩ | ⟨h1, h2, h3⟩ | ⟨h1, h3⟩
  · rw [h1] at hV; rw [h2] at hH; rw [h3]
    have HV := Lib.hid hV
    have HH := Lib.hid hH
    clear h1 h2 h3 hV hH
    go_enter Tryd.func40, Tryd.ntmps40
    go_wp2_with (first | (go_at_call 36; refine HV.out.mono ?_; rintro e w1 ⟨rfl, b1⟩) | (go_at_call 32; refine (HH.out _).mono ?_; rintro e _ ⟨rfl, rfl⟩) | fail)
    go_ret
    exact ⟨rfl, b1⟩
  · rw [h1] at hV; rw [h2] at hH; rw [h3]
    have HV := Lib.hid hV
    have HH := Lib.hid hH
    clear h1 h2 h3 hV hH
    go_enter Tryd.func40, Tryd.ntmps40
    go_wp2_with (first | (go_at_call 36; refine HV.out.mono ?_; rintro e w1 ⟨rfl, b1⟩) | (go_at_call 32; refine (HH.out _).mono ?_; rintro e _ ⟨rfl, rfl⟩) | fail)
    go_ret
    exact ⟨rfl, b1⟩
  · rw [h1] at hV; rw [h3]
    have HV := Lib.hid hV
    clear h1 h3 hV hH
    go_enter Tryd.func40, Tryd.ntmps40
    go_wp2_with (first | (go_at_call 36; refine HV.out.mono ?_; rintro e w1 ⟨rfl, b1⟩) | fail)
    go_ret
    exact ⟨rfl, b1⟩
theorem zat_box {w : World} {p : Nat} {f : ZoneF} {s : SV} {T : TypeId} {fz : Nat × Nat} (h : w.heap[p]? = some (.cells #[.int .i64 f.kind, .int .i64 f.storeys, .int .i64 f.each, s.v] T fz)) : ZAt p 0 f s w := fun j u hu => by
  rw [Nat.zero_add, Lib.cell_of_heap h j]
  rw [← hu]
  simp [ZoneR.cells]
set_option maxRecDepth 100000 in
set_option maxHeartbeats 2000000 in
theorem spec_BLoad (f : ZoneF) (s : SV) (C : List Pnt) (lo hi : Nat) (h : Int) (w : World) (hh : Pnts lo hi w s.v C) (hl : C.length ≤ 1024) :
    Calls Tryd.prog 10 #[.agg (ZoneR.cells ⟨f, s⟩).toArray, .int .i64 h] w fun e w' => e = .returned (.tuple #[.bool (codeZ f C h == 0 && loadB f h), .int .i64 (codeZ f C h)]) ∧ Below w.heap.size w w' := by
  have hb0 : Below w.heap.size w (w.alloc (.cells #[.int .i64 (f).kind, .int .i64 (f).storeys, .int .i64 (f).each, (s).v] 33 (0, 0))) := (Below.refl _ _).alloc (Nat.le_refl _) _
  have hz := zat_box (blkN_new w (.cells #[.int .i64 (f).kind, .int .i64 (f).storeys, .int .i64 (f).each, (s).v] 33 (0, 0)))
  have hV := spec_CodeZ w.heap.size 0 f s C lo hi h _ hz (hh.ext hb0) hl
  have hT := fun (ht : f.kind = 1 → tall f) W (hb : Below (w.alloc (.cells #[.int .i64 (f).kind, .int .i64 (f).storeys, .int .i64 (f).each, (s).v] 33 (0, 0))).heap.size (w.alloc (.cells #[.int .i64 (f).kind, .int .i64 (f).storeys, .int .i64 (f).each, (s).v] 33 (0, 0))) W) => spec_Load w.heap.size 0 f s h W (hz.below hb) ht
  have hone := codeZ_cases f C h
  have Hb0 := Lib.hid hb0
  obtain ⟨sa, sl, sc⟩ := s
  simp only [SV.v, ZoneR.cells] at *
  clear hz hh hl hb0
  rcases hone with ⟨h1, h2, h3⟩ | ⟨h1, h2, h3⟩ | ⟨h1, h3⟩
  · have hT := hT (zoneB_iff.1 h1).one
    rw [h3] at hV ⊢
    have HV := Lib.hid hV
    have HT := Lib.hid hT
    rw [show ((0 : Int) == 0 && loadB f h) = loadB f h from rfl]
    clear h1 h2 h3 hV hT
    generalize loadB f h = r at *
    obtain ⟨x0, x1, x2⟩ := f
    dsimp only at *
    go_enter Tryd.func10, Tryd.ntmps10
    go_wp2_with (first | (go_at_call 40; refine HV.out.mono ?_; rintro e w1 ⟨rfl, b1⟩) | (go_at_call 33; refine (HT.out _ b1).mono ?_; rintro e w2 ⟨rfl, n2, rfl⟩; have b2 := below_dN (Below.refl w1.heap.size w1) n2) | fail)
    go_ret2
    exact ⟨rfl, Hb0.out.trans ((b1.trans (b2.mono b1.size)).mono Hb0.out.size)⟩
  · rw [h3] at hV ⊢
    have HV := Lib.hid hV
    rw [show ((2 : Int) == 0 && loadB f h) = false from rfl]
    clear h1 h2 h3 hV hT
    obtain ⟨x0, x1, x2⟩ := f
    dsimp only at *
    go_enter Tryd.func10, Tryd.ntmps10
    go_wp2_with (first | (go_at_call 40; refine HV.out.mono ?_; rintro e w1 ⟨rfl, b1⟩) | fail)
    go_ret2
    exact ⟨rfl, Hb0.out.trans (b1.mono Hb0.out.size)⟩
  · rw [h3] at hV ⊢
    have HV := Lib.hid hV
    rw [show ((1 : Int) == 0 && loadB f h) = false from rfl]
    clear h1 h3 hV hT
    obtain ⟨x0, x1, x2⟩ := f
    dsimp only at *
    go_enter Tryd.func10, Tryd.ntmps10
    go_wp2_with (first | (go_at_call 40; refine HV.out.mono ?_; rintro e w1 ⟨rfl, b1⟩) | fail)
    go_ret2
    exact ⟨rfl, Hb0.out.trans (b1.mono Hb0.out.size)⟩
set_option maxRecDepth 100000 in
set_option maxHeartbeats 2000000 in
theorem spec_BJib (f : ZoneF) (s : SV) (C : List Pnt) (lo hi : Nat) (h : Int) (w : World) (hh : Pnts lo hi w s.v C) (hl : C.length ≤ 1024) :
    Calls Tryd.prog 12 #[.agg (ZoneR.cells ⟨f, s⟩).toArray, .int .i64 h] w fun e w' => e = .returned (.tuple #[.bool (codeZ f C h == 0 && jibB f h), .int .i64 (codeZ f C h)]) ∧ Below w.heap.size w w' := by
  have hb0 : Below w.heap.size w (w.alloc (.cells #[.int .i64 (f).kind, .int .i64 (f).storeys, .int .i64 (f).each, (s).v] 33 (0, 0))) := (Below.refl _ _).alloc (Nat.le_refl _) _
  have hz := zat_box (blkN_new w (.cells #[.int .i64 (f).kind, .int .i64 (f).storeys, .int .i64 (f).each, (s).v] 33 (0, 0)))
  have hV := spec_CodeZ w.heap.size 0 f s C lo hi h _ hz (hh.ext hb0) hl
  have hT := fun (ht : f.kind = 1 → tall f) W (hb : Below (w.alloc (.cells #[.int .i64 (f).kind, .int .i64 (f).storeys, .int .i64 (f).each, (s).v] 33 (0, 0))).heap.size (w.alloc (.cells #[.int .i64 (f).kind, .int .i64 (f).storeys, .int .i64 (f).each, (s).v] 33 (0, 0))) W) => spec_JibB w.heap.size 0 f s h W (hz.below hb) ht
  have hone := codeZ_cases f C h
  have Hb0 := Lib.hid hb0
  obtain ⟨sa, sl, sc⟩ := s
  simp only [SV.v, ZoneR.cells] at *
  clear hz hh hl hb0
  rcases hone with ⟨h1, h2, h3⟩ | ⟨h1, h2, h3⟩ | ⟨h1, h3⟩
  · have hT := hT (zoneB_iff.1 h1).one
    rw [h3] at hV ⊢
    have HV := Lib.hid hV
    have HT := Lib.hid hT
    rw [show ((0 : Int) == 0 && jibB f h) = jibB f h from rfl]
    clear h1 h2 h3 hV hT
    generalize jibB f h = r at *
    obtain ⟨x0, x1, x2⟩ := f
    dsimp only at *
    go_enter Tryd.func12, Tryd.ntmps12
    go_wp2_with (first | (go_at_call 40; refine HV.out.mono ?_; rintro e w1 ⟨rfl, b1⟩) | (go_at_call 42; refine (HT.out _ b1).mono ?_; rintro e w2 ⟨rfl, n2, rfl⟩; have b2 := below_dN (Below.refl w1.heap.size w1) n2) | fail)
    go_ret2
    exact ⟨rfl, Hb0.out.trans ((b1.trans (b2.mono b1.size)).mono Hb0.out.size)⟩
  · rw [h3] at hV ⊢
    have HV := Lib.hid hV
    rw [show ((2 : Int) == 0 && jibB f h) = false from rfl]
    clear h1 h2 h3 hV hT
    obtain ⟨x0, x1, x2⟩ := f
    dsimp only at *
    go_enter Tryd.func12, Tryd.ntmps12
    go_wp2_with (first | (go_at_call 40; refine HV.out.mono ?_; rintro e w1 ⟨rfl, b1⟩) | fail)
    go_ret2
    exact ⟨rfl, Hb0.out.trans (b1.mono Hb0.out.size)⟩
  · rw [h3] at hV ⊢
    have HV := Lib.hid hV
    rw [show ((1 : Int) == 0 && jibB f h) = false from rfl]
    clear h1 h3 hV hT
    obtain ⟨x0, x1, x2⟩ := f
    dsimp only at *
    go_enter Tryd.func12, Tryd.ntmps12
    go_wp2_with (first | (go_at_call 40; refine HV.out.mono ?_; rintro e w1 ⟨rfl, b1⟩) | fail)
    go_ret2
    exact ⟨rfl, Hb0.out.trans (b1.mono Hb0.out.size)⟩
/-- The height of a zone, and its code. -/
noncomputable def zhV (f : ZoneF) (C : List Pnt) : Int := if zoneB f C = true then f.storeys * f.each else 0
noncomputable def zhC (f : ZoneF) (C : List Pnt) : Int := if zoneB f C = true then 0 else 1
theorem zone_pr {f : ZoneF} {C : List Pnt} (h : zoneOk f C) : IntKind.i64.wrap (f.storeys * f.each) = f.storeys * f.each := by
  by_cases h1 : f.kind = 1
  · exact (tall_bd (h.one h1)).2.1
  · obtain ⟨h2, h3⟩ := h.oth h1
    rw [h2, h3]; rfl
set_option maxRecDepth 100000 in
set_option maxHeartbeats 2000000 in
theorem spec_ZHeight (f : ZoneF) (s : SV) (C : List Pnt) (lo hi : Nat) (w : World) (hh : Pnts lo hi w s.v C) (hl : C.length ≤ 1024) :
    Calls Tryd.prog 14 #[.agg (ZoneR.cells ⟨f, s⟩).toArray] w fun e w' => e = .returned (.tuple #[.int .i64 (zhV f C), .int .i64 (zhC f C)]) ∧ Below w.heap.size w w' := by
  have hb0 : Below w.heap.size w (w.alloc (.cells #[.int .i64 (f).kind, .int .i64 (f).storeys, .int .i64 (f).each, (s).v] 33 (0, 0))) := (Below.refl _ _).alloc (Nat.le_refl _) _
  have hX := blkN_new w (.cells #[.int .i64 (f).kind, .int .i64 (f).storeys, .int .i64 (f).each, (s).v] 33 (0, 0))
  have hV := spec_ZOk w.heap.size 0 f s C lo hi _ (zat_box hX) (hh.ext hb0) hl
  have Hb0 := Lib.hid hb0
  have HX := Lib.hid hX
  have hw := fun (h : zoneOk f C) => zone_pr h
  unfold zhV zhC
  obtain ⟨sa, sl, sc⟩ := s
  simp only [SV.v, ZoneR.cells] at *
  clear hX hh hl hb0
  cases hz : zoneB f C
  · rw [hz] at hV
    have HV := Lib.hid hV
    clear hz hV hw
    obtain ⟨x0, x1, x2⟩ := f
    dsimp only at *
    go_enter Tryd.func14, Tryd.ntmps14
    go_wp2_with (first | (go_at_call 36; refine HV.out.mono ?_; rintro e w1 ⟨rfl, b1⟩) | fail)
    go_ret2
    exact ⟨rfl, Hb0.out.trans (b1.mono Hb0.out.size)⟩
  · rw [hz] at hV
    have hw := hw (zoneB_iff.1 hz)
    have HV := Lib.hid hV
    clear hz hV
    obtain ⟨x0, x1, x2⟩ := f
    dsimp only at *
    go_enter Tryd.func14, Tryd.ntmps14
    go_wp2_with (first | (go_at_call 36; refine HV.out.mono ?_; rintro e w1 ⟨rfl, b1⟩; have hX1 := blkN_below b1 HX.out; have c1 := (Lib.cell_of_heap hX1 1).trans rfl; have c2 := (Lib.cell_of_heap hX1 2).trans rfl; clear hX1) | fail)
    go_ret2
    exact ⟨rfl, Hb0.out.trans (b1.mono Hb0.out.size)⟩
end Go.Proofs.YtpabbehpkokhbaaDoor
