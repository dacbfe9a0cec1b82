/- A site packed, the reference. -/
import Derived.Test.YtgbohbjpdmgneaaPk3
import Derived.Test.YtgbohbjpdmgneaaSiteW
namespace Go.Proofs.Ytgbohbjpdmgneaa
open Go.RowKit
def chsB1 (s : Chs) : List UInt8 := putN s.radius ++ putN s.load
def chsB (l : List Chs) : List UInt8 := l.flatMap chsB1
def craneHead (f : CraneF) (n : Nat) : List UInt8 := textB f.name ++ (ptB f.x f.y ++ (putN f.height ++ (putN f.jib ++ (putN f.back ++ putN n))))
def craneBytes (x : CraneF × List Chs) : List UInt8 := craneHead x.1 x.2.length ++ chsB x.2
def accS (L : SiteL) (k : Nat) : List UInt8 := ([83] ++ putN L.length) ++ (L.take k).flatMap craneBytes
def siteBytes (L : SiteL) : List UInt8 := accS L L.length
theorem chsB_step {l : List Chs} {k : Nat} (h : k < l.length) : chsB (l.take (k + 1)) = chsB (l.take k) ++ chsB1 l[k] := by
  unfold chsB; rw [List.take_succ_eq_append_getElem h, List.flatMap_append]; simp
theorem accS_step {L : SiteL} {k : Nat} (h : k < L.length) : accS L (k + 1) = accS L k ++ craneBytes L[k] := by
  unfold accS; rw [List.take_succ_eq_append_getElem h, List.flatMap_append, ← List.append_assoc]; simp
theorem chsB_len {l : List Chs} (h : chartOk l) : ∀ k, (chsB (l.take k)).length ≤ 20 * k
  | 0 => by simp [chsB]
  | k + 1 => by
    by_cases hk : k < l.length
    · rw [chsB_step hk, List.length_append]
      have h1 := chsB_len h k
      have h2 := (h.1 k hk).1
      unfold Chs.ok at h2
      have h3 := putN_len (fit_small (n := l[k].radius) (by omega) (by omega))
      have h4 := putN_len (fit_small (n := l[k].load) (by omega) (by omega))
      unfold chsB1
      rw [List.length_append]
      omega
    · have h1 := chsB_len h k
      rw [List.take_of_length_le (by omega)] at h1 ⊢
      omega
theorem craneHead_len {f : CraneF} {l : List Chs} (h : craneOk f l) : (craneHead f l.length).length ≤ 200 := by
  obtain ⟨h1, h2, h3, h4, h5, h6, _⟩ := h
  unfold Pl at h2
  have a0 := putN_len (fit_small (n := (f.name.size : Int)) (by omega) (by have := h1.2.1; omega))
  have a1 := putN_len (fit_small (n := f.x) (by omega) (by omega))
  have a2 := putN_len (fit_small (n := f.y) (by omega) (by omega))
  have a3 := putN_len (fit_small (n := f.height) (by omega) (by omega))
  have a4 := putN_len (fit_small (n := f.jib) (by omega) (by omega))
  have a5 := putN_len (fit_small (n := f.back) (by omega) (by omega))
  have a6 := putN_len (fit_small (n := (l.length : Int)) (by omega) (by have := h6.2.2; omega))
  have a7 := h1.2.1
  unfold craneHead textB ptB
  simp only [List.length_append, size_data]
  omega
theorem craneBytes_len {x : CraneF × List Chs} (h : craneOk x.1 x.2) : (craneBytes x).length ≤ 700 := by
  have h1 := craneHead_len h
  have h2 := chsB_len h.2.2.2.2.2.1 x.2.length
  rw [List.take_length] at h2
  have h3 := h.2.2.2.2.2.1.2.2
  unfold craneBytes
  rw [List.length_append]
  omega
theorem accS_len {L : SiteL} (h : siteOk L) : ∀ k, k ≤ L.length → (accS L k).length ≤ 20 + 700 * k
  | 0, _ => by
    have h1 := putN_len (fit_small (n := (L.length : Int)) (by omega) (by have := h.2.2; omega))
    unfold accS; simp; omega
  | k + 1, hk => by
    rw [accS_step (by omega), List.length_append]
    have h1 := accS_len h k (by omega)
    have h2 := craneBytes_len (h.1 k (by omega)).1
    omega
theorem own83 (w : World) : Own 1 byteC w.heap.size 5 (w.alloc (.cells #[.int .u8 83] 5)) (.slice (some ⟨w.heap.size, 0, none⟩) 1 1) [(83 : UInt8)] :=
  ⟨by simp [byteC], .inr ⟨w.heap.size, 1, #[.int .u8 83], rfl, Nat.le_refl _, heap_alloc_new w _, by simp, by unfold maxLen; omega, by simp, by simp [byteC]⟩⟩
set_option maxRecDepth 100000 in
set_option maxHeartbeats 8000000 in
theorem spec_SitePack (b0 : Nat) (v : Value) (rs : List CraneR) (L : SiteL) (lo hi : Nat) (w : World) (hc0 : w.cell? ⟨b0, 0, none⟩ = some v) (h : Cranes lo hi w v rs L) (hok : siteOk L) :
    Calls Try.prog 74 #[.pointer (some ⟨b0, 0, none⟩)] w fun e w' => e = .returned (.string ⟨(siteBytes L ++ endB (siteBytes L)).toArray⟩) ∧ Below w.heap.size w w' := by
  have hl1 := h.len
  have hL6 := hok.2.2
  have Hs := Lib.hid h
  obtain ⟨⟨a, cap, rfl, hcp, -⟩, -, -⟩ := h
  rw [hl1] at hc0 hcp
  have Hl1 := Lib.hid hl1
  have hb0 := World.block_lt_of_cell? w _ hc0
  have Hc0 := Lib.hid hc0
  have Hok := Lib.hid hok
  have hP0 := Lib.hid (fun w' (h : Own 1 byteC w.heap.size 5 w' (.slice (some ⟨w.heap.size, 0, none⟩) 1 1) [(83 : UInt8)]) (h2 : w.heap.size ≤ w'.heap.size) => spec_PutK _ [83] w.heap.size (L.length : Int) w' h (by simp) h2 (fit_small (by omega) (by omega)))
  have h83 := Lib.hid (own83 w)
  have hba : Below w.heap.size w (w.alloc (.cells #[.int .u8 83] 5)) := (Below.refl _ _).alloc (Nat.le_refl _) _
  have cb0 := (hba.cell (p := ⟨b0, 0, none⟩) hb0).trans hc0
  clear hl1 hok hc0
  go_enter Try.func74, Try.ntmps74
  go_wp2_with fail
  refine (hP0.out _ h83.out hba.size).mono ?_
  rintro e w1 ⟨v1, rfl, ho1, hb1, -⟩
  have B1 := hba.trans hb1
  have Ho1 := Lib.hid ho1
  clear hb1 ho1 hba cb0 h83
  go_wp2
  go_loopw [3, 4] (fun x i wr => ∃ (k : Nat) (vx : Value), vx = x ∧ k ≤ L.length ∧ i = .int .i64 k ∧ Below w.heap.size w wr ∧ Hid (Own 1 byteC w.heap.size 5 wr x (accS L k))) (fun _ i _ => L.length - (intOf i).toNat)
  case atStart => exact ⟨0, _, rfl, Nat.zero_le _, rfl, B1, Lib.hid (by unfold accS; simpa [putN] using Ho1.out)⟩
  case round =>
    clear Ho1 B1
    obtain ⟨k, vx, rfl, hk, rfl, hB, hown⟩ := hrel
    have cb := (hB.cell (p := ⟨b0, 0, none⟩) hb0).trans Hc0.out
    have hBs := hB.size
    by_cases hlt : k < L.length
    · have hk1 : k < rs.length := by rw [Hl1.out]; exact hlt
      have hs : Cranes lo hi w (.slice a L.length cap) rs L := by rw [← Hl1.out]; exact Hs.out
      obtain ⟨hfl, hrow⟩ := hs.one hlt hk1
      obtain ⟨b, off, rfl⟩ := hs.out.addr (by omega)
      obtain ⟨c0, c1, c2, c3, c4, c5, c6⟩ := Cranes_at hs hk1
      rw [hfl] at c0 c1 c2 c3 c4 c5
      have hbl := World.block_lt_of_cell? w _ c0
      have hcr := (Hok.out.1 k hlt).1
      have hal := accS_len Hok.out k hk
      have hst := accS_step hlt
      have hhd := craneHead_len hcr
      clear hs hfl
      generalize rs[k].s = sk at *
      obtain ⟨sa, sl, sc⟩ := sk
      rw [show L[k] = (L[k].1, L[k].2) from rfl] at hst
      generalize L[k].2 = l at *
      generalize L[k].1 = f at *
      have hl0 : 0 < l.length := by have := hcr.2.2.2.2.2.1.2.1; omega
      obtain ⟨bl, ol, rfl⟩ := Sl.addr hrow hl0
      obtain ⟨rfl, hscp⟩ : sl = l.length ∧ sc ≤ 9223372036854775807 := by obtain ⟨_, _, hv, hcp2, _⟩ := hrow; cases hv; exact ⟨rfl, hcp2.2⟩
      simp only [SV.v] at hrow c6
      have HR := Lib.hid (fun (j : Nat) (hj : j < l.length) => Chss.at hrow.get hj)
      have hbr := World.block_lt_of_cell? w _ (Chss.at hrow.get hl0).1
      have Hch := Lib.hid hcr.2.2.2.2.2.1
      have hcl := Lib.hid (chsB_len hcr.2.2.2.2.2.1)
      have hl20 := hcr.2.2.2.2.2.1.2.2
      obtain ⟨fn, fx, fy, fh, fj, fb⟩ := f
      obtain ⟨⟨_, hn12, _⟩, ⟨⟨_, _⟩, ⟨_, _⟩⟩, ⟨_, _⟩, ⟨_, _⟩, ⟨_, _⟩, -, -⟩ := hcr
      dsimp only at *
      have hcb : craneBytes (⟨fn, fx, fy, fh, fj, fb⟩, l) = craneHead ⟨fn, fx, fy, fh, fj, fb⟩ l.length ++ chsB l := rfl
      rw [hcb] at hst
      unfold craneHead at hst hhd
      dsimp only at hst hhd
      have Hst := Lib.hid hst
      have hal' : (accS L k).length ≤ 5000 := by omega
      simp only [List.length_append, putN] at hhd
      generalize accS L k = A at *
      clear hst hcb hrow hal
      have e0 := (hB.cell (p := ⟨b, off + k * 7, none⟩) hbl).trans c0
      have e1 := (hB.cell (p := ⟨b, off + k * 7 + 1, none⟩) hbl).trans c1
      have e2 := (hB.cell (p := ⟨b, off + k * 7 + 2, none⟩) hbl).trans c2
      have g3 := (hB.cell (p := ⟨b, off + k * 7 + 3, none⟩) hbl).trans c3
      have g4 := (hB.cell (p := ⟨b, off + k * 7 + 4, none⟩) hbl).trans c4
      have g5 := (hB.cell (p := ⟨b, off + k * 7 + 5, none⟩) hbl).trans c5
      have g6 := (hB.cell (p := ⟨b, off + k * 7 + 6, none⟩) hbl).trans c6
      have hT := Lib.hid (fun w' (h : Own 1 byteC w.heap.size 5 w' vx A) h2 => spec_Text vx A w.heap.size fn w' h (by omega) h2 (by omega))
      have hPt := Lib.hid (fun v w' h h2 => spec_Point v (A ++ textB fn) w.heap.size fx fy w' h (by rw [List.length_append]; omega) h2 (fit_small (by omega) (by omega)) (fit_small (by omega) (by omega)))
      have hQ := Lib.hid (fun v (M : List UInt8) (n : Int) w' h (hm : M.length ≤ 1000000) (hn : -1000000 ≤ n ∧ n ≤ 1000000) h2 => spec_PutK v M w.heap.size n w' h (by omega) h2 (fit_small hn.1 hn.2))
      go_wp2_with fail
      go_region_held3 (fun w' => (∀ b' o', b' < w.heap.size → w'.cell? ⟨b', o', none⟩ = wr.cell? ⟨b', o', none⟩) ∧ Below w.heap.size wr w') (first | exact heldB (Below.refl _ _).drew | exact heldB b3 | exact heldB b2)
        (first
          | (go_at_call 131; refine (hT.out _ hown.out.drew hBs).mono ?_; rintro e w2 ⟨v2, rfl, ho2, hb2, -⟩; have ho2 := Lib.hid ho2; have b2 : Below w.heap.size wr w2 := (Below.refl _ _).drew.trans hb2; have z2 := Nat.le_trans hBs b2.size)
          | (go_at_call 132; refine (hPt.out _ _ ho2.out z2).mono ?_; rintro e w3 ⟨v3, rfl, ho3, hb3, -⟩; have ho3 := Lib.hid ho3; have b3 : Below w.heap.size wr w3 := b2.trans hb3; have z3 := Nat.le_trans hBs b3.size))
      have B3 := hB.trans b3
      have e3 := (B3.cell (p := ⟨b, off + k * 7 + 3, none⟩) hbl).trans c3
      have e4 := (B3.cell (p := ⟨b, off + k * 7 + 4, none⟩) hbl).trans c4
      have e5 := (B3.cell (p := ⟨b, off + k * 7 + 5, none⟩) hbl).trans c5
      have m6 := (B3.cell (p := ⟨b, off + k * 7 + 6, none⟩) hbl).trans c6
      clear b2 b3 ho2 hb2 hb3 z2 hown hT hPt e0 e1 e2
      have hbl3 := Nat.lt_of_lt_of_le hbl B3.size
      go_wp2_with fail
      go_region_held3 (fun w' => (∀ b' o', b' < w.heap.size → w'.cell? ⟨b', o', none⟩ = w3.cell? ⟨b', o', none⟩) ∧ Below w.heap.size w3 w') (first | exact heldB (Below.refl _ _).drew | exact heldB b6 | exact heldB b5 | exact heldB b4)
        (first
          | (go_at_call_of 130 fh; refine (hQ.out v3 _ fh _ ho3.out.drew (by simp only [List.length_append]; omega) (by omega) z3).mono ?_; rintro e w4 ⟨v4, rfl, ho4, hb4, -⟩; have ho4 := Lib.hid ho4; have b4 : Below w.heap.size w3 w4 := (Below.refl _ _).drew.trans hb4; have z4 := Nat.le_trans z3 b4.size)
          | (go_at_call_of 130 fj; refine (hQ.out v4 _ fj _ ho4.out (by simp only [List.length_append]; omega) (by omega) z4).mono ?_; rintro e w5 ⟨v5, rfl, ho5, hb5, -⟩; have ho5 := Lib.hid ho5; have b5 : Below w.heap.size w3 w5 := b4.trans hb5; have z5 := Nat.le_trans z3 b5.size)
          | (go_at_call_of 130 fb; refine (hQ.out v5 _ fb _ ho5.out (by simp only [List.length_append]; omega) (by omega) z5).mono ?_; rintro e w6 ⟨v6, rfl, ho6, hb6, -⟩; have ho6 := Lib.hid ho6; have b6 : Below w.heap.size w3 w6 := b5.trans hb6; have z6 := Nat.le_trans z3 b6.size))
      have B6 := B3.trans b6
      have e6 := (B6.cell (p := ⟨b, off + k * 7 + 6, none⟩) hbl).trans c6
      clear b4 b5 b6 ho3 ho4 ho5 hb4 hb5 hb6 z3 z4 z5 e3 e4 e5 hbl3 g3 g4 g5
      go_wp2_with fail
      refine (hQ.out v6 _ (l.length : Int) _ ho6.out (by simp only [List.length_append]; omega) (by omega) z6).mono ?_
      rintro e w7 ⟨v7, rfl, ho7, hb7, -⟩
      have B7 := B6.trans hb7
      have Ho7 : Hid (Own 1 byteC w.heap.size 5 w7 v7 (A ++ (textB fn ++ (ptB fx fy ++ (putN fh ++ (putN fj ++ (putN fb ++ putN l.length))))))) := Lib.hid (by simpa [putN, List.append_assoc] using ho7)
      have hHl : (A ++ (textB fn ++ (ptB fx fy ++ (putN fh ++ (putN fj ++ (putN fb ++ putN l.length)))))).length ≤ 10000 := by simp only [List.length_append, putN]; omega
      generalize hHH : A ++ (textB fn ++ (ptB fx fy ++ (putN fh ++ (putN fj ++ (putN fb ++ putN l.length))))) = H at *
      have HH := Lib.hid hHH
      clear hHH
      clear ho7 hb7 B6 ho6 z6 e6 g6 m6 B3
      go_wp2
      go_loopw [3, 6] (fun x i wr => ∃ (j : Nat) (vy : Value), vy = x ∧ j ≤ l.length ∧ i = .int .i64 j ∧ Below w.heap.size w wr ∧ Hid (Own 1 byteC w.heap.size 5 wr vy (H ++ chsB (l.take j)))) (fun _ i _ => l.length - (intOf i).toNat)
      case atStart => exact ⟨0, _, rfl, Nat.zero_le _, rfl, B7, Lib.hid (by simpa [chsB] using Ho7.out)⟩
      case round =>
        clear Ho7 B7
        obtain ⟨j, vy, rfl, hj, rfl, hB2, hown2⟩ := hrel
        have hBs2 := hB2.size
        have e6 := (hB2.cell (p := ⟨b, off + k * 7 + 6, none⟩) hbl).trans c6
        by_cases hlj : j < l.length
        · obtain ⟨p0, p1⟩ := HR.out j hlj
          have d0 := (hB2.cell (p := ⟨bl, ol + j * 2, none⟩) hbr).trans p0
          have d1 := (hB2.cell (p := ⟨bl, ol + j * 2 + 1, none⟩) hbr).trans p1
          have hcj := (Hch.out.1 j hlj).1
          have hal2 := hcl.out j
          have hst2 := Lib.hid (chsB_step hlj)
          unfold chsB1 at hst2
          generalize l[j] = x at *
          obtain ⟨xr, xl⟩ := x
          obtain ⟨⟨_, _⟩, ⟨_, _⟩⟩ := hcj
          dsimp only at *
          have hM : (H ++ chsB (l.take j)).length ≤ 20000 := by rw [List.length_append]; omega
          generalize hMM : H ++ chsB (l.take j) = M at *
          have HM := Lib.hid hMM
          clear hMM p0 p1
          have hpl := putB_sgn (fit_small (n := xr) (by omega) (by omega))
          go_wp2_with fail
          go_region_held3 (fun w' => (∀ b' o', b' < w.heap.size → w'.cell? ⟨b', o', none⟩ = wr.cell? ⟨b', o', none⟩) ∧ Below w.heap.size wr w') (first | exact heldB (Below.refl _ _).drew | exact heldB b9 | exact heldB b8)
            (first
              | (go_at_call_of 130 xr; refine (hQ.out vy M xr _ hown2.out.drew (by omega) (by omega) hBs2).mono ?_; rintro e w8 ⟨v8, rfl, ho8, hb8, -⟩; have ho8 := Lib.hid ho8; have b8 : Below w.heap.size wr w8 := (Below.refl _ _).drew.trans hb8; have z8 := Nat.le_trans hBs2 b8.size)
              | (go_at_call_of 130 xl; refine (hQ.out v8 _ xl _ ho8.out (by rw [List.length_append]; omega) (by omega) z8).mono ?_; rintro e w9 ⟨v9, rfl, ho9, hb9, -⟩; have ho9 := Lib.hid ho9; have b9 : Below w.heap.size wr w9 := b8.trans hb9))
          go_wp2
          go_roundw
          case rel => exact ⟨j + 1, _, rfl, by omega, by go_num, hB2.trans b9, Lib.hid (by rw [hst2.out, ← List.append_assoc, HM.out]; simpa [putN, List.append_assoc] using ho9.out)⟩
          case measure => simp [intOf]; omega
        · have hjj : j = l.length := by omega
          subst hjj
          have hfin : Hid (Own 1 byteC w.heap.size 5 wr vy (accS L (k + 1))) := Lib.hid (by
            have h1 := hown2.out
            rw [List.take_length, ← HH.out] at h1
            rw [Hst.out]
            simpa [List.append_assoc] using h1)
          go_wp2
          go_roundw
          case rel => exact ⟨k + 1, _, rfl, by omega, by go_num, hB2, hfin⟩
          case measure => simp [intOf]; omega
    · have hkk : k = L.length := by omega
      subst hkk
      have hlA : (siteBytes L).length ≤ 100000 := by have := accS_len Hok.out _ (Nat.le_refl _); unfold siteBytes; omega
      have hoA : Own 1 byteC w.heap.size 5 wr vx (siteBytes L) := hown.out
      have hend := Lib.hid (spec_Ended vx (siteBytes L) w.heap.size wr hoA (by omega) hBs)
      clear hoA
      go_wp2_with fail
      refine hend.out.mono ?_
      rintro e w2 ⟨rfl, hb2⟩
      go_wp2
      go_ret
      exact ⟨rfl, hB.trans hb2⟩
end Go.Proofs.Ytgbohbjpdmgneaa
