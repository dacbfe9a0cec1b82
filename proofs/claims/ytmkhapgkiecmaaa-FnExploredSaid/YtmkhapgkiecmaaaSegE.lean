/- Segments, the reference: the square of their distance, and whether they are near. -/
import Derived.Test.YtmkhapgkiecmaaaSegD
import Derived.Test.YtmkhapgkiecmaaaOwn
namespace Go.Proofs.Ytmkhapgkiecmaaa
open Go.RowKit
def frC (f : Int × Int) : List Value := [.int .i64 f.1, .int .i64 f.2]
theorem frC_len (f : Int × Int) : (frC f).length = 2 := rfl
def bestF (f0 f1 f2 f3 : Int × Int) : Nat → Int × Int
  | 0 => f0
  | 1 => pickF f0 f1
  | 2 => pickF (pickF f0 f1) f2
  | _ => pickF (pickF (pickF f0 f1) f2) f3
def nthF (f1 f2 f3 : Int × Int) : Nat → Int × Int
  | 0 => f1
  | 1 => f2
  | _ => f3
theorem best_step (f0 f1 f2 f3 : Int × Int) {k : Nat} (h : k < 3) : bestF f0 f1 f2 f3 (k + 1) = pickF (bestF f0 f1 f2 f3 k) (nthF f1 f2 f3 k) := by
  match k, h with
  | 0, _ => rfl
  | 1, _ => rfl
  | 2, _ => rfl
theorem best_bd {f0 f1 f2 f3 : Int × Int} (h0 : FrB f0) (h1 : FrB f1) (h2 : FrB f2) (h3 : FrB f3) : ∀ k, FrB (bestF f0 f1 f2 f3 k)
  | 0 => h0
  | 1 => pick_bd h0 h1
  | 2 => pick_bd (pick_bd h0 h1) h2
  | _ + 3 => pick_bd (pick_bd (pick_bd h0 h1) h2) h3
theorem nth_bd {f1 f2 f3 : Int × Int} (h1 : FrB f1) (h2 : FrB f2) (h3 : FrB f3) : ∀ k, FrB (nthF f1 f2 f3 k)
  | 0 => h1
  | 1 => h2
  | _ + 2 => h3
theorem nth_at (f1 f2 f3 : Int × Int) {k : Nat} (h : k < 3) : [f1, f2, f3][k]'h = nthF f1 f2 f3 k := by
  match k, h with
  | 0, _ => rfl
  | 1, _ => rfl
  | 2, _ => rfl
/-- Two segments and a fraction in three boxes. -/
structure SSB (q : Nat) (a b c d : Pnt) (w : World) : Prop where
  segs : Seg2 q a b c d w
  res : w.heap[q + 1 + 1]? = some (.cells #[.int .i64 0, .int .i64 0] 155 (0, 0))
theorem SSB.below {q : Nat} {a b c d : Pnt} {w w' : World} (h : SSB q a b c d w) (hb : Below w.heap.size w w') : SSB q a b c d w' := ⟨h.segs.below hb, blkN_below hb h.res⟩
set_option maxRecDepth 100000 in
set_option maxHeartbeats 8000000 in
theorem spec_SegSq (a b c d : Pnt) (w : World) (ha : Crd a) (hb : Crd b) (hc : Crd c) (hd : Crd d) : Calls Try.prog 128 #[.agg #[.int .i64 (a).x, .int .i64 (a).y, .int .i64 (b).x, .int .i64 (b).y], .agg #[.int .i64 (c).x, .int .i64 (c).y, .int .i64 (d).x, .int .i64 (d).y]] w fun e w' => e = .returned (.agg #[.int .i64 (segF a b c d).1, .int .i64 (segF a b c d).2]) ∧ Below w.heap.size w w' := by
  have K0 := fun w => spec_Meet a b c d w ha hb hc hd
  have K1 := Lib.hid (fun w => spec_PS a b c w ha hb hc)
  have K2 := Lib.hid (fun w => spec_PS a b d w ha hb hd)
  have K3 := Lib.hid (fun w => spec_PS c d a w hc hd ha)
  have K4 := Lib.hid (fun w => spec_PS c d b w hc hd hb)
  have g0 := psF_bd ha hb hc
  have g1 := psF_bd ha hb hd
  have g2 := psF_bd hc hd ha
  have g3 := psF_bd hc hd hb
  have G0 : SSB w.heap.size a b c d (((w.alloc (.cells #[.int .i64 a.x, .int .i64 a.y, .int .i64 b.x, .int .i64 b.y] 147)).alloc (.cells #[.int .i64 c.x, .int .i64 c.y, .int .i64 d.x, .int .i64 d.y] 147)).alloc (.cells #[.int .i64 0, .int .i64 0] 155)) := ⟨⟨box3_0 _ _ _ _, box3_1 _ _ _ _⟩, box3_2 _ _ _ _⟩
  have B0 : Below w.heap.size w (((w.alloc (.cells #[.int .i64 a.x, .int .i64 a.y, .int .i64 b.x, .int .i64 b.y] 147)).alloc (.cells #[.int .i64 c.x, .int .i64 c.y, .int .i64 d.x, .int .i64 d.y] 147)).alloc (.cells #[.int .i64 0, .int .i64 0] 155)) := (((Below.refl _ w).alloc (Nat.le_refl _) _).alloc (by simp) _).alloc (by simp; omega) _
  have hsg : segF a b c d = if meetP a b c d then (0, 1) else bestF (psF a b c) (psF a b d) (psF c d a) (psF c d b) 3 := rfl
  clear ha hb hc hd
  generalize psF a b c = f0 at *
  generalize psF a b d = f1 at *
  generalize psF c d a = f2 at *
  generalize psF c d b = f3 at *
  generalize segF a b c d = R at *
  by_cases hm : meetP a b c d
  · rw [decide_eq_true hm] at K0
    rw [if_pos hm] at hsg
    subst hsg
    have K0 := Lib.hid K0
    clear hm K1 K2 K3 K4 g0 g1 g2 g3
    obtain ⟨ax, ay⟩ := a
    obtain ⟨bx, bY⟩ := b
    obtain ⟨cx, cy⟩ := c
    obtain ⟨dx, dy⟩ := d
    dsimp only at *
    go_enter Try.func128, Try.ntmps128
    go_wp2_with fail
    obtain ⟨w0, hw0⟩ : ∃ w0, (((w.alloc (.cells #[.int .i64 ax, .int .i64 ay, .int .i64 bx, .int .i64 bY] 147)).alloc (.cells #[.int .i64 cx, .int .i64 cy, .int .i64 dx, .int .i64 dy] 147)).alloc (.cells #[.int .i64 0, .int .i64 0] 155)) = w0 := ⟨_, rfl⟩
    rw [hw0] at G0 B0 ⊢
    clear hw0
    refine (K0.out _).mono ?_
    rintro e w1 ⟨rfl, b1⟩
    have G1 := G0.below b1
    have B1 := B0.trans (b1.mono B0.size)
    obtain ⟨e01, e11, e21, e31⟩ := cells4s G1.segs.fst; obtain ⟨d01, d11, d21, d31⟩ := cells4s G1.segs.snd; obtain ⟨r01, r11⟩ := cells2s G1.res; have f01 := fun j => Lib.frozen_of_heap G1.res j; dsimp only at e01 e11 e21 e31 d01 d11 d21 d31
    clear G0 B0 b1
    dsimp only
    repeat (first | go_values | go_skip | go_guarded | go_step | go_upon | go_back)
    exact bodyPost_ret (v := .agg #[.int .i64 0, .int .i64 1]) (by simp [results, Try.results128, go_sem, r01, r11]) rfl ⟨rfl, (B1.setCell (p := ⟨w.heap.size + 1 + 1, 0, none⟩) (by simp only []; omega) _).setCell (p := ⟨w.heap.size + 1 + 1, 1, none⟩) (by simp only []; omega) _⟩
  · rw [decide_eq_false hm] at K0
    rw [if_neg hm] at hsg
    have Hsg := Lib.hid hsg
    have K0 := Lib.hid K0
    have hbb := Lib.hid (best_bd g0 g1 g2 g3)
    have hnn := Lib.hid (nth_bd g1 g2 g3)
    clear hm hsg
    obtain ⟨ax, ay⟩ := a
    obtain ⟨bx, bY⟩ := b
    obtain ⟨cx, cy⟩ := c
    obtain ⟨dx, dy⟩ := d
    dsimp only at *
    go_enter Try.func128, Try.ntmps128
    go_wp2_with fail
    obtain ⟨w0, hw0⟩ : ∃ w0, (((w.alloc (.cells #[.int .i64 ax, .int .i64 ay, .int .i64 bx, .int .i64 bY] 147)).alloc (.cells #[.int .i64 cx, .int .i64 cy, .int .i64 dx, .int .i64 dy] 147)).alloc (.cells #[.int .i64 0, .int .i64 0] 155)) = w0 := ⟨_, rfl⟩
    rw [hw0] at G0 B0 ⊢
    clear hw0
    refine (K0.out _).mono ?_
    rintro e w1 ⟨rfl, b1⟩
    have G1 := G0.below b1
    have B1 := B0.trans (b1.mono B0.size)
    obtain ⟨e01, e11, e21, e31⟩ := cells4s G1.segs.fst; obtain ⟨d01, d11, d21, d31⟩ := cells4s G1.segs.snd; obtain ⟨r01, r11⟩ := cells2s G1.res; have f01 := fun j => Lib.frozen_of_heap G1.res j; dsimp only at e01 e11 e21 e31 d01 d11 d21 d31
    clear G0 B0 b1
    dsimp only
    repeat (first | go_values | go_skip | go_guarded | go_step | go_upon | go_back)
    refine (K1.out _).mono ?_
    rintro e w2 ⟨rfl, b2⟩
    have G2 := G1.below b2
    have B2 := B1.trans (b2.mono B1.size)
    clear G1 B1 b2 e01 e11 e21 e31 d01 d11 d21 d31 r01 r11 f01
    dsimp only
    have G3 := G2.below ((Below.refl _ _).alloc (Nat.le_refl _) (.cells #[.int .i64 f0.1, .int .i64 f0.2] 155))
    have B3 := B2.alloc B2.size (.cells #[.int .i64 f0.1, .int .i64 f0.2] 155)
    repeat (first | go_values | go_skip | go_guarded | go_step | go_upon | go_back)
    have hbst := blkN_new w2 (.cells #[.int .i64 f0.1, .int .i64 f0.2] 155)
    obtain ⟨bq, hbq⟩ : ∃ bq, w2.heap.size = bq := ⟨_, rfl⟩
    have hbq2 : w.heap.size ≤ bq := by rw [← hbq]; exact B2.size
    have hne : w.heap.size + 1 + 1 < bq := by rw [← hbq]; exact (Array.getElem?_eq_some_iff.1 G2.res).1
    obtain ⟨W, hW⟩ : ∃ W, w2.alloc (.cells #[.int .i64 f0.1, .int .i64 f0.2] 155) = W := ⟨_, rfl⟩
    rw [hW] at G3 B3 hbst ⊢
    rw [hbq] at hbst ⊢
    clear hW hbq G2 B2
    obtain ⟨e03, e13, e23, e33⟩ := cells4s G3.segs.fst; obtain ⟨d03, d13, d23, d33⟩ := cells4s G3.segs.snd; obtain ⟨r03, r13⟩ := cells2s G3.res; have f03 := fun j => Lib.frozen_of_heap G3.res j; dsimp only at e03 e13 e23 e33 d03 d13 d23 d33
    have hz := World.block_lt_of_cell? W _ e03
    have hz1 := World.block_lt_of_cell? W _ d03
    have Hbst := Lib.hid hbst
    clear hbst
    go_region_held3 (fun w' => (∀ b' o', b' < W.heap.size → w'.cell? ⟨b', o', none⟩ = W.cell? ⟨b', o', none⟩) ∧ Below W.heap.size W w') (first | exact heldB ((Below.refl _ _).drew) | exact heldB C1 | exact heldB C2 | exact heldB C3 | exact heldB (C3.alloc C3.size _))
      (first
        | (go_at_call_of 132 (Value.agg #[Value.int IntKind.i64 dx, Value.int IntKind.i64 dy]); refine (K2.out _).mono ?_; rintro e x1 ⟨rfl, c1⟩; have C1 : Below W.heap.size W x1 := (Below.refl _ _).drew.trans c1)
        | (go_at_call_of 132 (Value.agg #[Value.int IntKind.i64 ax, Value.int IntKind.i64 ay]); refine (K3.out _).mono ?_; rintro e x2 ⟨rfl, c2⟩; have C2 : Below W.heap.size W x2 := C1.trans (c2.mono C1.size))
        | (go_at_call_of 132 (Value.agg #[Value.int IntKind.i64 bx, Value.int IntKind.i64 bY]); refine (K4.out _).mono ?_; rintro e x3 ⟨rfl, c3⟩; have C3 : Below W.heap.size W x3 := C2.trans (c3.mono C2.size)))
    rename_i hH
    have CX : Below W.heap.size W (x3.alloc (.cells #[.int .i64 f1.1, .int .i64 f1.2, .int .i64 f2.1, .int .i64 f2.2, .int .i64 f3.1, .int .i64 f3.2] 155)) := C3.alloc C3.size _
    have HL : Sl 2 frC x3.heap.size (x3.heap.size + 1) (x3.alloc (.cells #[.int .i64 f1.1, .int .i64 f1.2, .int .i64 f2.1, .int .i64 f2.2, .int .i64 f3.1, .int .i64 f3.2] 155)) (.slice (some ⟨x3.heap.size, 0, none⟩) 3 3) [f1, f2, f3] := sl_lit frC_len [f1, f2, f3] x3 155 rfl (m := 3) rfl (by simp)
    have hXlt : x3.heap.size < (x3.alloc (.cells #[.int .i64 f1.1, .int .i64 f1.2, .int .i64 f2.1, .int .i64 f2.2, .int .i64 f3.1, .int .i64 f3.2] 155)).heap.size := by rw [World.size_alloc]; exact Nat.lt_succ_self _
    have hbl : bq < x3.heap.size := Nat.lt_of_lt_of_le (Array.getElem?_eq_some_iff.1 Hbst.out).1 C3.size
    obtain ⟨X, hX⟩ : ∃ X, x3.alloc (.cells #[.int .i64 f1.1, .int .i64 f1.2, .int .i64 f2.1, .int .i64 f2.2, .int .i64 f3.1, .int .i64 f3.2] 155) = X := ⟨_, rfl⟩
    rw [hX] at CX HL hXlt ⊢
    obtain ⟨lq, hlq⟩ : ∃ lq, x3.heap.size = lq := ⟨_, rfl⟩
    rw [hlq] at HL hXlt hbl ⊢
    clear hH hX hlq C1 C2 C3 c1 c2 c3 K0 K1 K2 K3 K4
    have hb0 := Lib.hid (blkN_below CX Hbst.out)
    have hr0 := Lib.hid (blkN_below CX G3.res)
    have HL := Lib.hid HL
    have BX := B3.trans (CX.mono B3.size)
    clear Hbst G3 B3 CX hz hz1 e03 e13 e23 e33 d03 d13 d23 d33 r03 r13 f03
    go_wp2
    go_loopw [7] (fun vi wr => ∃ k : Nat, k ≤ 3 ∧ vi = .int .i64 k ∧ Below w.heap.size w wr ∧ lq < wr.heap.size ∧ Hid (Sl 2 frC lq (lq + 1) wr (.slice (some ⟨lq, 0, none⟩) 3 3) [f1, f2, f3]) ∧ Hid (wr.heap[bq]? = some (.cells #[.int .i64 (bestF f0 f1 f2 f3 k).1, .int .i64 (bestF f0 f1 f2 f3 k).2] 155 (0, 0))) ∧ Hid (wr.heap[w.heap.size + 1 + 1]? = some (.cells #[.int .i64 0, .int .i64 0] 155 (0, 0)))) (fun vi _ => 3 - (intOf vi).toNat)
    case atStart => exact ⟨0, by omega, rfl, BX, hXlt, HL, hb0, hr0⟩
    case round =>
      clear HL hb0 hr0 BX hXlt
      obtain ⟨k, hk, rfl, hB, hlt, hL, hb, hr⟩ := hrel
      have hBs := hB.size
      by_cases hk3 : k < 3
      · have Hst := Lib.hid (best_step f0 f1 f2 f3 hk3)
        have hbb := hbb.out k
        have hnn := hnn.out k
        have l0 := hL.out.get k hk3 0 _ rfl
        have l1 := hL.out.get k hk3 1 _ rfl
        rw [nth_at f1 f2 f3 hk3] at l0 l1
        rw [show 0 + k * 2 + 0 = k * 2 by omega] at l0
        rw [show 0 + k * 2 + 1 = k * 2 + 1 by omega] at l1
        obtain ⟨b0, b1⟩ := cells2s hb.out
        have hbz := World.block_lt_of_cell? wr _ b0
        have Hb := Lib.hid hb.out
        generalize nthF f1 f2 f3 k = nn at *
        generalize bestF f0 f1 f2 f3 k = bb at *
        clear hb
        obtain ⟨⟨n1, n2⟩, n3, n4⟩ := hnn
        obtain ⟨⟨m1, m2⟩, m3, m4⟩ := hbb
        have KL := fun w => spec_Less nn bb w ⟨n1, by omega⟩ ⟨by omega, by omega⟩ ⟨m1, by omega⟩ ⟨by omega, by omega⟩
        have hk0 : (0 : Int) ≤ (k : Int) := by omega
        have hk30 : (k : Int) < 3 := by omega
        by_cases hl : ltF nn bb
        · have hbest : bestF f0 f1 f2 f3 (k + 1) = nn := Hst.out.trans (if_pos hl)
          have Hbest := Lib.hid hbest
          simp only [decide_eq_true hl] at KL
          have KL := Lib.hid KL
          clear hl Hst hbest
          go_wp2_with fail
          go_region_held3 (fun w' => (∀ b' o', b' < wr.heap.size → w'.cell? ⟨b', o', none⟩ = wr.cell? ⟨b', o', none⟩) ∧ Below wr.heap.size wr w') (first | exact heldB ((Below.refl _ _).drew) | exact heldB C1)
            (first | (go_at_call 127; refine (KL.out _).mono ?_; rintro e x1 ⟨rfl, c1⟩; have C1 : Below wr.heap.size wr x1 := (Below.refl _ _).drew.trans c1))
          rename_i hH
          have bx := hB.trans (C1.mono hBs)
          have Lx := Lib.hid (hL.out.ext C1)
          have Bx := Lib.hid (blkN_below C1 Hb.out)
          have Rx := Lib.hid (blkN_below C1 hr.out)
          have hltx := Nat.lt_of_lt_of_le hlt C1.size
          have x0 := (C1.cell (p := ⟨lq, k * 2, none⟩) hlt).trans l0
          have x1c := (C1.cell (p := ⟨lq, k * 2 + 1, none⟩) hlt).trans l1
          obtain ⟨y0, y1⟩ := cells2s Bx.out
          have fy := fun j => Lib.frozen_of_heap Bx.out j
          clear hH c1 l0 l1 b0 b1 hL hr Hb C1
          go_wp2
          have hnew := blk_set (c := .int .i64 nn.1) (d := .int .i64 nn.2) Bx.out
          have hmod : Mod bq (bq + 1) x1 ((x1.setCell ⟨bq, 0, none⟩ (.int .i64 nn.1)).setCell ⟨bq, 1, none⟩ (.int .i64 nn.2)) := ((Mod.refl _ _ _).setCell (p := ⟨bq, 0, none⟩) (Nat.le_refl _) (Nat.lt_succ_self _) _).setCell (p := ⟨bq, 1, none⟩) (Nat.le_refl _) (Nat.lt_succ_self _) _
          go_roundw
          case rel => exact ⟨k + 1, by omega, by go_num, hmod.below hbq2 bx.size |> bx.trans, by simpa [World.setCell] using hltx, Lib.hid (Lx.out.keep (hmod.same (by omega) (.inr (by omega)))), Lib.hid (by rw [Hbest.out]; exact hnew), Lib.hid (blk_oth Rx.out (by omega))⟩
          case measure => simp [intOf]; omega
        · have hbest : bestF f0 f1 f2 f3 (k + 1) = bb := Hst.out.trans (if_neg hl)
          have Hbest := Lib.hid hbest
          simp only [decide_eq_false hl] at KL
          have KL := Lib.hid KL
          clear hl Hst hbest
          go_wp2_with fail
          go_region_held3 (fun w' => (∀ b' o', b' < wr.heap.size → w'.cell? ⟨b', o', none⟩ = wr.cell? ⟨b', o', none⟩) ∧ Below wr.heap.size wr w') (first | exact heldB ((Below.refl _ _).drew) | exact heldB C1)
            (first | (go_at_call 127; refine (KL.out _).mono ?_; rintro e x1 ⟨rfl, c1⟩; have C1 : Below wr.heap.size wr x1 := (Below.refl _ _).drew.trans c1))
          rename_i hH
          have bx := hB.trans (C1.mono hBs)
          have Lx := Lib.hid (hL.out.ext C1)
          have Bx := Lib.hid (blkN_below C1 Hb.out)
          have Rx := Lib.hid (blkN_below C1 hr.out)
          have hltx := Nat.lt_of_lt_of_le hlt C1.size
          clear hH c1 l0 l1 b0 b1 hL hr Hb C1
          go_wp2
          go_roundw
          case rel => exact ⟨k + 1, by omega, by go_num, bx, hltx, Lx, Lib.hid (by rw [Hbest.out]; exact Bx.out), Rx⟩
          case measure => simp [intOf]; omega
      · have hk3 : k = 3 := by omega
        subst hk3
        obtain ⟨b0, b1⟩ := cells2s hb.out
        rw [← Hsg.out] at b0 b1
        have q0 := fun j => Lib.frozen_of_heap hr.out j
        obtain ⟨r0, r1⟩ := cells2s hr.out
        go_wp2
        exact bodyPost_ret (v := .agg #[.int .i64 R.1, .int .i64 R.2]) (by simp [results, Try.results128, go_sem, r0, r1]) rfl ⟨rfl, (hB.setCell (p := ⟨w.heap.size + 1 + 1, 0, none⟩) (by simp only []; omega) _).setCell (p := ⟨w.heap.size + 1 + 1, 1, none⟩) (by simp only []; omega) _⟩
end Go.Proofs.Ytmkhapgkiecmaaa
