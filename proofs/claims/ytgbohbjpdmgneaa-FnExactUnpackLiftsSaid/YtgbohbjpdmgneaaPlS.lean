/- Lifts packed, the reference. -/
import Derived.Test.YtgbohbjpdmgneaaPk3
import Derived.Test.YtgbohbjpdmgneaaLiftsW
namespace Go.Proofs.Ytgbohbjpdmgneaa
open Go.RowKit
def aftB (l : List Int) : List UInt8 := l.flatMap putN
def liftHead (f : LiftF) (n : Nat) : List UInt8 := textB f.name ++ (putN f.weight ++ (ptB f.fx f.fy ++ (ptB f.tx f.ty ++ (putN f.height ++ (putN f.deadline ++ putN n)))))
def liftBytes (x : LiftF × List Int) : List UInt8 := liftHead x.1 x.2.length ++ aftB x.2
def accL (L : LiftsL) (k : Nat) : List UInt8 := ([76] ++ putN L.length) ++ (L.take k).flatMap liftBytes
def liftsBytes (L : LiftsL) : List UInt8 := accL L L.length
theorem aftB_step {l : List Int} {k : Nat} (h : k < l.length) : aftB (l.take (k + 1)) = aftB (l.take k) ++ putN l[k] := by
  unfold aftB; rw [List.take_succ_eq_append_getElem h, List.flatMap_append]; simp
theorem accL_step {L : LiftsL} {k : Nat} (h : k < L.length) : accL L (k + 1) = accL L k ++ liftBytes L[k] := by
  unfold accL; rw [List.take_succ_eq_append_getElem h, List.flatMap_append, ← List.append_assoc]; simp
theorem rises_ge {a : List Int} {n : Int} (h : rises a n) : ∀ i (hi : i < a.length), (i : Int) ≤ a[i]
  | 0, hi => (h 0 hi).1.1
  | i + 1, hi => by
    have h1 := rises_ge h i (by omega)
    have h2 := (h (i + 1) hi).2 (by omega)
    simp only [Nat.add_sub_cancel] at h2
    omega
theorem rises_len {a : List Int} {n : Nat} (h : rises a n) : a.length ≤ n := by
  rcases Nat.eq_zero_or_pos a.length with h0 | h0
  · omega
  · have h1 := rises_ge h (a.length - 1) (by omega)
    have h2 := (h (a.length - 1) (by omega)).1.2
    omega
theorem aftB_len {l : List Int} {n : Nat} (h : rises l n) (hn : n ≤ 10) : ∀ k, (aftB (l.take k)).length ≤ 10 * k
  | 0 => by simp [aftB]
  | k + 1 => by
    by_cases hk : k < l.length
    · rw [aftB_step hk, List.length_append]
      have h1 := aftB_len h hn k
      have h2 := (h k hk).1
      have h3 := putN_len (fit_small (n := l[k]) (by omega) (by omega))
      omega
    · have h1 := aftB_len h hn k
      rw [List.take_of_length_le (by omega)] at h1 ⊢
      omega
theorem liftHead_len {f : LiftF} {l : List Int} {n : Nat} (h : liftOk f l n) (hn : n ≤ 10) : (liftHead f l.length).length ≤ 200 := by
  obtain ⟨h1, h2, h3, h4, h5, h6, h7⟩ := h
  unfold Pl at h3 h4
  have hl := rises_len h7
  have a0 := putN_len (fit_small (n := (f.name.size : Int)) (by omega) (by have := h1.2.1; omega))
  have a1 := putN_len (fit_small (n := f.fx) (by omega) (by omega))
  have a2 := putN_len (fit_small (n := f.fy) (by omega) (by omega))
  have a3 := putN_len (fit_small (n := f.tx) (by omega) (by omega))
  have a4 := putN_len (fit_small (n := f.ty) (by omega) (by omega))
  have a5 := putN_len (fit_small (n := f.height) (by omega) (by omega))
  have a6 := putN_len (fit_small (n := f.deadline) (by omega) (by omega))
  have a8 := putN_len (fit_small (n := f.weight) (by omega) (by omega))
  have a9 := putN_len (fit_small (n := (l.length : Int)) (by omega) (by omega))
  have a7 := h1.2.1
  unfold liftHead textB ptB
  simp only [List.length_append, size_data]
  omega
theorem liftBytes_len {x : LiftF × List Int} {n : Nat} (h : liftOk x.1 x.2 n) (hn : n ≤ 10) : (liftBytes x).length ≤ 300 := by
  have h1 := liftHead_len h hn
  have h2 := aftB_len h.2.2.2.2.2.2 hn x.2.length
  rw [List.take_length] at h2
  have h3 := rises_len h.2.2.2.2.2.2
  unfold liftBytes
  rw [List.length_append]
  omega
theorem accL_len {L : LiftsL} (h : liftsOk L) : ∀ k, k ≤ L.length → (accL L k).length ≤ 20 + 300 * k
  | 0, _ => by
    have h1 := putN_len (fit_small (n := (L.length : Int)) (by omega) (by have := h.2; omega))
    unfold accL; simp; omega
  | k + 1, hk => by
    rw [accL_step (by omega), List.length_append]
    have h1 := accL_len h k (by omega)
    have h2 := liftBytes_len (h.1 k (by omega)).1 (by have := h.2; omega)
    omega
theorem own76 (w : World) : Own 1 byteC w.heap.size 5 (w.alloc (.cells #[.int .u8 76] 5)) (.slice (some ⟨w.heap.size, 0, none⟩) 1 1) [(76 : UInt8)] :=
  ⟨by simp [byteC], .inr ⟨w.heap.size, 1, #[.int .u8 76], rfl, Nat.le_refl _, heap_alloc_new w _, by simp, by unfold maxLen; omega, by simp, by simp [byteC]⟩⟩
set_option maxRecDepth 100000 in
set_option maxHeartbeats 8000000 in
theorem spec_LiftsPack (v : Value) (rs : List LiftR) (L : LiftsL) (lo hi : Nat) (w : World) (h : Lifts lo hi w v rs L) (hok : liftsOk L) :
    Calls Try.prog 63 #[v] w fun e w' => e = .returned (.string ⟨(liftsBytes L ++ endB (liftsBytes L)).toArray⟩) ∧ Below w.heap.size w w' := by
  have hl1 := h.len
  have hL6 := hok.2
  have Hs := Lib.hid h
  obtain ⟨⟨a, cap, rfl, hcp, -⟩, -, -⟩ := h
  rw [hl1] at hcp ⊢
  have Hl1 := Lib.hid hl1
  have Hok := Lib.hid hok
  have hP0 := Lib.hid (fun w' (h : Own 1 byteC w.heap.size 5 w' (.slice (some ⟨w.heap.size, 0, none⟩) 1 1) [(76 : UInt8)]) (h2 : w.heap.size ≤ w'.heap.size) => spec_PutK _ [76] w.heap.size (L.length : Int) w' h (by simp) h2 (fit_small (by omega) (by omega)))
  have h83 := Lib.hid (own76 w)
  have hba : Below w.heap.size w (w.alloc (.cells #[.int .u8 76] 5)) := (Below.refl _ _).alloc (Nat.le_refl _) _
  clear hl1 hok
  go_enter Try.func63, Try.ntmps63
  go_wp2_with fail
  refine (hP0.out _ h83.out hba.size).mono ?_
  rintro e w1 ⟨v1, rfl, ho1, hb1, -⟩
  have B1 := hba.trans hb1
  have Ho1 := Lib.hid ho1
  clear hb1 ho1 hba h83
  go_wp2
  go_loopw [3, 4] (fun x i wr => ∃ (k : Nat) (vx : Value), vx = x ∧ k ≤ L.length ∧ i = .int .i64 k ∧ Below w.heap.size w wr ∧ Hid (Own 1 byteC w.heap.size 5 wr x (accL L k))) (fun _ i _ => L.length - (intOf i).toNat)
  case atStart => exact ⟨0, _, rfl, Nat.zero_le _, rfl, B1, Lib.hid (by unfold accL; simpa [putN] using Ho1.out)⟩
  case round =>
    clear Ho1 B1
    obtain ⟨k, vx, rfl, hk, rfl, hB, hown⟩ := hrel
    have hBs := hB.size
    by_cases hlt : k < L.length
    · have hk1 : k < rs.length := by rw [Hl1.out]; exact hlt
      have hs : Lifts lo hi w (.slice a L.length cap) rs L := by rw [← Hl1.out]; exact Hs.out
      obtain ⟨hfl, hrow⟩ := hs.one hlt hk1
      obtain ⟨b, off, rfl⟩ := hs.out.addr (by omega)
      obtain ⟨c0, c1, c2, c3, c4, c5, c6, c7, c8⟩ := Lifts_at hs hk1
      rw [hfl] at c0 c1 c2 c3 c4 c5 c6 c7
      have hbl := World.block_lt_of_cell? w _ c0
      have hcr := (Hok.out.1 k hlt).1
      have hal := accL_len Hok.out k hk
      have hst := accL_step hlt
      have hhd := liftHead_len hcr (by omega)
      clear hs hfl
      generalize rs[k].s = sk at *
      obtain ⟨sa, sl, sc⟩ := sk
      rw [show L[k] = (L[k].1, L[k].2) from rfl] at hst
      generalize L[k].2 = l at *
      generalize L[k].1 = f at *
      obtain ⟨rfl, hscp⟩ : sl = l.length ∧ sc ≤ 9223372036854775807 := by obtain ⟨_, _, hv, hcp2, _⟩ := hrow; cases hv; exact ⟨rfl, hcp2.2⟩
      simp only [SV.v] at hrow c8
      have Hrow := Lib.hid hrow
      have hri := hcr.2.2.2.2.2.2
      have Hch := Lib.hid hri
      have hl20 := rises_len hri
      have hcl := Lib.hid (aftB_len hri (by omega))
      obtain ⟨fn, fwt, fx, fy, tx, ty, fh, fd⟩ := f
      obtain ⟨⟨_, hn12, _⟩, ⟨_, _⟩, ⟨⟨_, _⟩, ⟨_, _⟩⟩, ⟨⟨_, _⟩, ⟨_, _⟩⟩, ⟨_, _⟩, ⟨_, _⟩, -⟩ := hcr
      dsimp only at *
      have hcb : liftBytes (⟨fn, fwt, fx, fy, tx, ty, fh, fd⟩, l) = liftHead ⟨fn, fwt, fx, fy, tx, ty, fh, fd⟩ l.length ++ aftB l := rfl
      rw [hcb] at hst
      unfold liftHead at hst hhd
      dsimp only at hst hhd
      have Hst := Lib.hid hst
      have hal' : (accL L k).length ≤ 5000 := by omega
      simp only [List.length_append, putN] at hhd
      generalize accL L k = A at *
      clear hst hcb hrow hal hri
      have e0 := (hB.cell (p := ⟨b, off + k * 9, none⟩) hbl).trans c0
      have e1 := (hB.cell (p := ⟨b, off + k * 9 + 1, none⟩) hbl).trans c1
      have g2 := (hB.cell (p := ⟨b, off + k * 9 + 2, none⟩) hbl).trans c2
      have g3 := (hB.cell (p := ⟨b, off + k * 9 + 3, none⟩) hbl).trans c3
      have g4 := (hB.cell (p := ⟨b, off + k * 9 + 4, none⟩) hbl).trans c4
      have g5 := (hB.cell (p := ⟨b, off + k * 9 + 5, none⟩) hbl).trans c5
      have g6 := (hB.cell (p := ⟨b, off + k * 9 + 6, none⟩) hbl).trans c6
      have g7 := (hB.cell (p := ⟨b, off + k * 9 + 7, none⟩) hbl).trans c7
      have g8 := (hB.cell (p := ⟨b, off + k * 9 + 8, none⟩) hbl).trans c8
      have hT := Lib.hid (fun w' (h : Own 1 byteC w.heap.size 5 w' vx A) h2 => spec_Text vx A w.heap.size fn w' h (by omega) h2 (by omega))
      have hPt := Lib.hid (fun v (M : List UInt8) (x y : Int) w' h (hm : M.length ≤ 1000000) (hn : -1000000 ≤ x ∧ x ≤ 1000000) (hn2 : -1000000 ≤ y ∧ y ≤ 1000000) h2 => spec_Point v M w.heap.size x y w' h (by omega) h2 (fit_small hn.1 hn.2) (fit_small hn2.1 hn2.2))
      have hQ := Lib.hid (fun v (M : List UInt8) (n : Int) w' h (hm : M.length ≤ 1000000) (hn : -1000000 ≤ n ∧ n ≤ 1000000) h2 => spec_PutK v M w.heap.size n w' h (by omega) h2 (fit_small hn.1 hn.2))
      go_wp2_with fail
      go_region_held3 (fun w' => (∀ b' o', b' < w.heap.size → w'.cell? ⟨b', o', none⟩ = wr.cell? ⟨b', o', none⟩) ∧ Below w.heap.size wr w') (first | exact heldB (Below.refl _ _).drew | exact heldB b3 | exact heldB b2)
        (first
          | (go_at_call 131; refine (hT.out _ hown.out.drew hBs).mono ?_; rintro e w2 ⟨v2, rfl, ho2, hb2, -⟩; have ho2 := Lib.hid ho2; have b2 : Below w.heap.size wr w2 := (Below.refl _ _).drew.trans hb2; have z2 := Nat.le_trans hBs b2.size)
          | (go_at_call 130; refine (hQ.out _ _ fwt _ ho2.out (by simp only [List.length_append]; omega) (by omega) z2).mono ?_; rintro e w3 ⟨v3, rfl, ho3, hb3, -⟩; have ho3 := Lib.hid ho3; have b3 : Below w.heap.size wr w3 := b2.trans hb3; have z3 := Nat.le_trans hBs b3.size))
      have B3 := hB.trans b3
      have e2 := (B3.cell (p := ⟨b, off + k * 9 + 2, none⟩) hbl).trans c2
      have e3 := (B3.cell (p := ⟨b, off + k * 9 + 3, none⟩) hbl).trans c3
      have e4 := (B3.cell (p := ⟨b, off + k * 9 + 4, none⟩) hbl).trans c4
      have e5 := (B3.cell (p := ⟨b, off + k * 9 + 5, none⟩) hbl).trans c5
      have m6 := (B3.cell (p := ⟨b, off + k * 9 + 6, none⟩) hbl).trans c6
      have m7 := (B3.cell (p := ⟨b, off + k * 9 + 7, none⟩) hbl).trans c7
      have m8 := (B3.cell (p := ⟨b, off + k * 9 + 8, none⟩) hbl).trans c8
      clear b2 b3 ho2 hb2 hb3 z2 hown hT e0 e1
      have hbl3 := Nat.lt_of_lt_of_le hbl B3.size
      go_wp2_with fail
      go_region_held3 (fun w' => (∀ b' o', b' < w.heap.size → w'.cell? ⟨b', o', none⟩ = w3.cell? ⟨b', o', none⟩) ∧ Below w.heap.size w3 w') (first | exact heldB (Below.refl _ _).drew | exact heldB b5 | exact heldB b4)
        (first
          | (go_at_call_of 132 fx; refine (hPt.out v3 _ fx fy _ ho3.out.drew (by simp only [List.length_append]; omega) (by omega) (by omega) z3).mono ?_; rintro e w4 ⟨v4, rfl, ho4, hb4, -⟩; have ho4 := Lib.hid ho4; have b4 : Below w.heap.size w3 w4 := (Below.refl _ _).drew.trans hb4; have z4 := Nat.le_trans z3 b4.size)
          | (go_at_call_of 132 tx; refine (hPt.out v4 _ tx ty _ ho4.out (by simp only [List.length_append]; omega) (by omega) (by omega) z4).mono ?_; rintro e w5 ⟨v5, rfl, ho5, hb5, -⟩; have ho5 := Lib.hid ho5; have b5 : Below w.heap.size w3 w5 := b4.trans hb5; have z5 := Nat.le_trans z3 b5.size))
      have B5 := B3.trans b5
      have e6 := (B5.cell (p := ⟨b, off + k * 9 + 6, none⟩) hbl).trans c6
      have e7 := (B5.cell (p := ⟨b, off + k * 9 + 7, none⟩) hbl).trans c7
      have n8 := (B5.cell (p := ⟨b, off + k * 9 + 8, none⟩) hbl).trans c8
      clear b4 b5 ho3 ho4 hb4 hb5 z3 z4 e2 e3 e4 e5 hbl3 g2 g3 g4 g5 hPt
      have hbl5 := Nat.lt_of_lt_of_le hbl B5.size
      go_wp2_with fail
      go_region_held3 (fun w' => (∀ b' o', b' < w.heap.size → w'.cell? ⟨b', o', none⟩ = w5.cell? ⟨b', o', none⟩) ∧ Below w.heap.size w5 w') (first | exact heldB (Below.refl _ _).drew | exact heldB b7 | exact heldB b6)
        (first
          | (go_at_call_of 130 fh; refine (hQ.out v5 _ fh _ ho5.out.drew (by simp only [List.length_append]; omega) (by omega) z5).mono ?_; rintro e w6 ⟨v6, rfl, ho6, hb6, -⟩; have ho6 := Lib.hid ho6; have b6 : Below w.heap.size w5 w6 := (Below.refl _ _).drew.trans hb6; have z6 := Nat.le_trans z5 b6.size)
          | (go_at_call_of 130 fd; refine (hQ.out v6 _ fd _ ho6.out (by simp only [List.length_append]; omega) (by omega) z6).mono ?_; rintro e w7 ⟨v7, rfl, ho7, hb7, -⟩; have ho7 := Lib.hid ho7; have b7 : Below w.heap.size w5 w7 := b6.trans hb7; have z7 := Nat.le_trans z5 b7.size))
      have B7 := B5.trans b7
      have e8 := (B7.cell (p := ⟨b, off + k * 9 + 8, none⟩) hbl).trans c8
      clear b6 b7 ho5 ho6 hb6 hb7 z5 z6 e6 e7 hbl5 g6 g7 m6 m7
      go_wp2_with fail
      refine (hQ.out v7 _ (l.length : Int) _ ho7.out (by simp only [List.length_append]; omega) (by omega) z7).mono ?_
      rintro e w8 ⟨v8, rfl, ho8, hb8, -⟩
      have B8 := B7.trans hb8
      have Ho8 : Hid (Own 1 byteC w.heap.size 5 w8 v8 (A ++ (textB fn ++ (putN fwt ++ (ptB fx fy ++ (ptB tx ty ++ (putN fh ++ (putN fd ++ putN l.length)))))))) := Lib.hid (by simpa [putN, List.append_assoc] using ho8)
      have hHl : (A ++ (textB fn ++ (putN fwt ++ (ptB fx fy ++ (ptB tx ty ++ (putN fh ++ (putN fd ++ putN l.length))))))).length ≤ 10000 := by simp only [List.length_append, putN]; omega
      generalize hHH : A ++ (textB fn ++ (putN fwt ++ (ptB fx fy ++ (ptB tx ty ++ (putN fh ++ (putN fd ++ putN l.length)))))) = H at *
      have HH := Lib.hid hHH
      clear hHH
      clear ho8 hb8 B7 ho7 z7 e8 g8 m8 n8 B5 B3
      go_wp2
      go_loopw [3, 6] (fun x i wr => ∃ (j : Nat) (vy : Value), vy = x ∧ j ≤ l.length ∧ i = .int .i64 j ∧ Below w.heap.size w wr ∧ Hid (Own 1 byteC w.heap.size 5 wr vy (H ++ aftB (l.take j)))) (fun _ i _ => l.length - (intOf i).toNat)
      case atStart => exact ⟨0, _, rfl, Nat.zero_le _, rfl, B8, Lib.hid (by simpa [aftB] using Ho8.out)⟩
      case round =>
        clear Ho8 B8
        obtain ⟨j, vy, rfl, hj, rfl, hB2, hown2⟩ := hrel
        have hBs2 := hB2.size
        have e8 := (hB2.cell (p := ⟨b, off + k * 9 + 8, none⟩) hbl).trans c8
        by_cases hlj : j < l.length
        · obtain ⟨bl, ol, rfl⟩ := Sl.addr Hrow.out (by omega)
          have p0 := Ints.at (Hrow.out.ext hB2).get hlj
          have hcj := (Hch.out j hlj).1
          have hal2 := hcl.out j
          have hst2 := Lib.hid (aftB_step hlj)
          generalize l[j] = x at *
          obtain ⟨_, _⟩ := hcj
          have hM : (H ++ aftB (l.take j)).length ≤ 20000 := by rw [List.length_append]; omega
          generalize hMM : H ++ aftB (l.take j) = M at *
          have HM := Lib.hid hMM
          clear hMM
          go_wp2_with fail
          refine (hQ.out vy M x _ hown2.out (by omega) (by omega) hBs2).mono ?_
          rintro e w9 ⟨v9, rfl, ho9, hb9, -⟩
          have Ho9 := Lib.hid ho9
          clear ho9
          go_wp2
          go_roundw
          case rel => exact ⟨j + 1, _, rfl, by omega, by go_num, hB2.trans hb9, Lib.hid (by rw [hst2.out, ← List.append_assoc, HM.out]; simpa [putN, List.append_assoc] using Ho9.out)⟩
          case measure => simp [intOf]; omega
        · have hjj : j = l.length := by omega
          subst hjj
          have hfin : Hid (Own 1 byteC w.heap.size 5 wr vy (accL L (k + 1))) := Lib.hid (by
            have h1 := hown2.out
            rw [List.take_length, ← HH.out] at h1
            rw [Hst.out]
            simpa [List.append_assoc] using h1)
          go_wp2
          go_roundw
          case rel => exact ⟨k + 1, _, rfl, by omega, by go_num, hB2, hfin⟩
          case measure => simp [intOf]; omega
    · have hkk : k = L.length := by omega
      subst hkk
      have hlA : (liftsBytes L).length ≤ 100000 := by have := accL_len Hok.out _ (Nat.le_refl _); unfold liftsBytes; omega
      have hoA : Own 1 byteC w.heap.size 5 wr vx (liftsBytes L) := hown.out
      have hend := Lib.hid (spec_Ended vx (liftsBytes L) w.heap.size wr hoA (by omega) hBs)
      clear hoA
      go_wp2_with fail
      refine hend.out.mono ?_
      rintro e w2 ⟨rfl, hb2⟩
      go_wp2
      go_ret
      exact ⟨rfl, hB.trans hb2⟩
end Go.Proofs.Ytgbohbjpdmgneaa
