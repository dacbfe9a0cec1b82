/- PackSite, the program. -/
import Derived.Test.YtgbohbjpdmgneaaPkI
namespace Go.Proofs.Ytgbohbjpdmgneaa
open Go.RowKit
set_option maxRecDepth 100000 in
set_option maxHeartbeats 8000000 in
theorem impl_PackSite (s : SV) (rs : List CraneR) (L : SiteL) (lo hi : Nat) (w : World) (h : Cranes lo hi w s.v rs L) (hwf : L.wf) :
    Calls Try.prog 20 #[.agg #[s.v]] w fun e w' => e = .returned (.tuple #[.string ⟨(packS L).1.toArray⟩, .int .i64 (packS L).2]) ∧ Below w.heap.size w w' := by
  have hV := fun w' (hb : Below w.heap.size w w') => impl_SiteOk s rs L lo hi w' (h.ext hb) hwf
  have hl1 := h.len
  have Hs := Lib.hid h
  obtain ⟨⟨a, cap, hsv, hcp, -⟩, -, -⟩ := h
  rw [hl1] at hsv hcp
  generalize s.v = sv at *
  subst hsv
  have Hl1 := Lib.hid hl1
  clear hl1 hwf
  have hba : Below w.heap.size w (w.alloc (.cells #[.slice a L.length cap] 37)) := (Below.refl _ _).alloc (Nat.le_refl _) _
  have hx0 := Lib.hid (blkN_new w (.cells #[.slice a L.length cap] 37))
  cases hs : siteB L
  · rw [packS_f hs]
    rw [hs] at hV
    have hv := Lib.hid (hV _ hba)
    clear hV hs
    go_enter Try.func20, Try.ntmps20
    go_wp2_with fail
    refine hv.out.mono ?_
    rintro e w1 ⟨rfl, hb1⟩
    go_wp2
    go_ret2
    exact ⟨rfl, hba.trans (hb1.mono hba.size)⟩
  · rw [packS_t hs]
    have Hok := Lib.hid (siteB_iff.1 hs)
    have hL6 := Hok.out.2.2
    rw [hs] at hV
    have hv := Lib.hid (hV _ hba)
    clear hV hs
    go_enter Try.func20, Try.ntmps20
    go_wp2_with fail
    refine hv.out.mono ?_
    rintro e w1 ⟨rfl, hb1⟩
    have B1 := hba.trans (hb1.mono hba.size)
    have hwP := B1.size
    have hx1 := Lib.hid (blkN_below hb1 hx0.out)
    have s1 : w1.cell? ⟨w.heap.size, 0, none⟩ = some (.slice a L.length cap) := (Lib.cell_of_heap hx1.out 0).trans rfl
    have hs1 := World.block_lt_of_cell? w1 _ s1
    have hbd1 := bd_new (T := 105) (Nat.le_refl w1.heap.size)
    have hba1 : Below w1.heap.size w1 (w1.alloc (.cells #[.pointer none, .slice none 0 0] 105 (0, 0))) := (Below.refl _ _).alloc (Nat.le_refl _) _
    have hwb := bd_writeByte bdT_packer w1.heap.size w1.heap.size [] 83 _ hbd1 (by simp) hba1.size
    rw [show (((83 : UInt8).toNat : Nat) : Int) = 83 from rfl] at hwb
    have hwb := Lib.hid hwb
    clear hbd1 hb1 hba hx0 hv
    go_wp2_with fail
    refine hwb.out.mono ?_
    rintro e w2 ⟨rfl, hbd2, hb2⟩
    have b2 := hba1.trans hb2
    have s2 := (b2.cell (p := ⟨w.heap.size, 0, none⟩) hs1).trans s1
    have Hbd2 := Lib.hid hbd2
    clear hbd2 hwb
    go_wp2_with fail
    refine (impl_numberK w1.heap.size _ w1.heap.size (L.length : Int) w2 Hbd2.out (by simp) b2.size (fit_small (by omega) (by omega))).mono ?_
    rintro e w3 ⟨rfl, hbd3, hb3, -⟩
    have b3 := b2.trans hb3
    have s3 := (b3.cell (p := ⟨w.heap.size, 0, none⟩) hs1).trans s1
    have Hbd3 : Hid (Bd 105 w1.heap.size w1.heap.size (accS L 0) w3) := Lib.hid (by unfold accS; simpa [putN] using hbd3)
    have B3 := B1.trans (b3.mono hwP)
    have z3 := b3.size
    clear hbd3 Hbd2 s2 hb3 hb2
    generalize hPP : w1.heap.size = P at *
    clear hPP
    go_wp2
    go_loopw [21] (fun i wr => ∃ k : Nat, k ≤ L.length ∧ i = .int .i64 k ∧ Below w.heap.size w wr ∧ P ≤ wr.heap.size ∧ Hid (Bd 105 P P (accS L k) wr)) (fun i _ => L.length - (intOf i).toNat)
    case atStart => exact ⟨0, Nat.zero_le _, rfl, B3, z3, Hbd3⟩
    case round =>
      clear B3 z3 Hbd3 s1 s3 hs1 b2 b3 hba1 B1 hx1
      obtain ⟨k, hk, rfl, hB, hz, hbd⟩ := hrel
      by_cases hlt : k < L.length
      · have hk1 : k < rs.length := by rw [Hl1.out]; exact hlt
        have hs : Cranes lo hi wr (.slice a L.length cap) rs L := Hs.out.ext hB
        obtain ⟨hfl, hrow⟩ := hs.one hlt hk1
        obtain ⟨b, off, rfl⟩ := hs.out.addr (by omega)
        obtain ⟨c0, c1, c2, c3, c4, c5, c6⟩ := Cranes_at hs hk1
        rw [hfl] at c0 c1 c2 c3 c4 c5
        have hcr := (Hok.out.1 k hlt).1
        have hal := accS_len Hok.out k hk
        have hst := accS_step hlt
        have hhd := craneHead_len hcr
        have hrow0 := ((Hs.out).one hlt hk1).2
        clear hs hfl hrow
        generalize rs[k].s = sk at *
        obtain ⟨sa, sl, sc⟩ := sk
        rw [show L[k] = (L[k].1, L[k].2) from rfl] at hst
        generalize L[k].2 = l at *
        generalize L[k].1 = f at *
        have hl0 : 0 < l.length := by have := hcr.2.2.2.2.2.1.2.1; omega
        obtain ⟨bl, ol, rfl⟩ := Sl.addr hrow0 hl0
        obtain ⟨rfl, hscp⟩ : sl = l.length ∧ sc ≤ 9223372036854775807 := by obtain ⟨_, _, hv, hcp2, _⟩ := hrow0; cases hv; exact ⟨rfl, hcp2.2⟩
        simp only [SV.v] at hrow0 c6
        have HR := Lib.hid (fun (j : Nat) (hj : j < l.length) => Chss.at hrow0.get hj)
        have hbr := World.block_lt_of_cell? w _ (Chss.at hrow0.get hl0).1
        have Hch := Lib.hid hcr.2.2.2.2.2.1
        have hcl := Lib.hid (chsB_len hcr.2.2.2.2.2.1)
        have hl20 := hcr.2.2.2.2.2.1.2.2
        obtain ⟨fn, fx, fy, fh, fj, fb⟩ := f
        obtain ⟨⟨_, hn12, _⟩, ⟨⟨_, _⟩, ⟨_, _⟩⟩, ⟨_, _⟩, ⟨_, _⟩, ⟨_, _⟩, -, -⟩ := hcr
        dsimp only at *
        have hcb : craneBytes (⟨fn, fx, fy, fh, fj, fb⟩, l) = craneHead ⟨fn, fx, fy, fh, fj, fb⟩ l.length ++ chsB l := rfl
        rw [hcb] at hst
        unfold craneHead at hst hhd
        dsimp only at hst hhd
        have Hst := Lib.hid hst
        have hal' : (accS L k).length ≤ 5000 := by omega
        simp only [List.length_append, putN] at hhd
        generalize accS L k = A at *
        clear hst hcb hrow0 hal
        have hqp : wr.heap.size ≠ P := by have := hbd.out.lt; omega
        have hx0 := Lib.hid (blkN_new wr (.cells #[.string fn, .int .i64 fx, .int .i64 fy, .int .i64 fh, .int .i64 fj, .int .i64 fb, .slice (some ⟨bl, ol, none⟩) l.length sc] 51))
        have z0 : P ≤ (wr.alloc (.cells #[.string fn, .int .i64 fx, .int .i64 fy, .int .i64 fh, .int .i64 fj, .int .i64 fb, .slice (some ⟨bl, ol, none⟩) l.length sc] 51)).heap.size := by simp; omega
        have B0 : Below w.heap.size w (wr.alloc (.cells #[.string fn, .int .i64 fx, .int .i64 fy, .int .i64 fh, .int .i64 fj, .int .i64 fb, .slice (some ⟨bl, ol, none⟩) l.length sc] 51)) := hB.alloc hB.size _
        have hQ := Lib.hid (fun (M : List UInt8) (n : Int) w' h (hm : M.length ≤ 1000000) (hn : -1000000 ≤ n ∧ n ≤ 1000000) h2 => impl_numberK P M P n w' h (by omega) h2 (fit_small hn.1 hn.2))
        go_wp2_with fail
        refine (impl_text P A P fn _ (hbd.out.alloc _) (by omega) z0 (by omega)).mono ?_
        rintro e w4 ⟨rfl, hbd4, hb4, hk4⟩
        have Hbd4 := Lib.hid hbd4
        have hx4 := Lib.hid ((hk4 _ _ _ _ hx0.out (by decide) hqp).trans hx0.out)
        have z4 := Nat.le_trans z0 hb4.size
        have B4 := B0.trans (hb4.mono hwP)
        clear hbd4 hk4 hb4
        generalize hqq : wr.heap.size = q at *
        clear hqq hx0 B0 z0 hB hz hbd c0 c1 c2 c3 c4 c5 c6
        have d1 : w4.cell? ⟨q, 1, none⟩ = some (.int .i64 fx) := (Lib.cell_of_heap hx4.out 1).trans rfl
        have d2 : w4.cell? ⟨q, 2, none⟩ = some (.int .i64 fy) := (Lib.cell_of_heap hx4.out 2).trans rfl
        go_wp2_with fail
        refine (impl_point P (A ++ textB fn) P fx fy _ Hbd4.out (by rw [List.length_append]; omega) z4 (fit_small (by omega) (by omega)) (fit_small (by omega) (by omega))).mono ?_
        rintro e w5 ⟨rfl, hbd5, hb5, hk5⟩
        have Hbd5 := Lib.hid hbd5
        have hx5 := Lib.hid ((hk5 _ _ _ _ hx4.out (by decide) hqp).trans hx4.out)
        have z5 := Nat.le_trans z4 hb5.size
        have B5 := B4.trans (hb5.mono hwP)
        clear hbd5 hk5 hb5
        clear d1 d2
        have d3 : w5.cell? ⟨q, 3, none⟩ = some (.int .i64 fh) := (Lib.cell_of_heap hx5.out 3).trans rfl
        go_wp2_with fail
        refine (hQ.out _ fh _ Hbd5.out (by simp only [List.length_append]; omega) (by omega) z5).mono ?_
        rintro e w6 ⟨rfl, hbd6, hb6, hk6⟩
        have Hbd6 := Lib.hid hbd6
        have hx6 := Lib.hid ((hk6 _ _ _ _ hx5.out (by decide) hqp).trans hx5.out)
        have z6 := Nat.le_trans z5 hb6.size
        have B6 := B5.trans (hb6.mono hwP)
        clear hbd6 hk6 hb6
        clear d3
        have d4 : w6.cell? ⟨q, 4, none⟩ = some (.int .i64 fj) := (Lib.cell_of_heap hx6.out 4).trans rfl
        go_wp2_with fail
        refine (hQ.out _ fj _ Hbd6.out (by simp only [List.length_append]; omega) (by omega) z6).mono ?_
        rintro e w7 ⟨rfl, hbd7, hb7, hk7⟩
        have Hbd7 := Lib.hid hbd7
        have hx7 := Lib.hid ((hk7 _ _ _ _ hx6.out (by decide) hqp).trans hx6.out)
        have z7 := Nat.le_trans z6 hb7.size
        have B7 := B6.trans (hb7.mono hwP)
        clear hbd7 hk7 hb7
        clear d4
        have d5 : w7.cell? ⟨q, 5, none⟩ = some (.int .i64 fb) := (Lib.cell_of_heap hx7.out 5).trans rfl
        go_wp2_with fail
        refine (hQ.out _ fb _ Hbd7.out (by simp only [List.length_append]; omega) (by omega) z7).mono ?_
        rintro e w8 ⟨rfl, hbd8, hb8, hk8⟩
        have Hbd8 := Lib.hid hbd8
        have hx8 := Lib.hid ((hk8 _ _ _ _ hx7.out (by decide) hqp).trans hx7.out)
        have z8 := Nat.le_trans z7 hb8.size
        have B8 := B7.trans (hb8.mono hwP)
        clear hbd8 hk8 hb8
        clear d5
        have d6 : w8.cell? ⟨q, 6, none⟩ = some (.slice (some ⟨bl, ol, none⟩) l.length sc) := (Lib.cell_of_heap hx8.out 6).trans rfl
        go_wp2_with fail
        refine (hQ.out _ (l.length : Int) _ Hbd8.out (by simp only [List.length_append]; omega) (by omega) z8).mono ?_
        rintro e w9 ⟨rfl, hbd9, hb9, hk9⟩
        have Hbd9 := Lib.hid hbd9
        have hx9 := Lib.hid ((hk9 _ _ _ _ hx8.out (by decide) hqp).trans hx8.out)
        have z9 := Nat.le_trans z8 hb9.size
        have B9 := B8.trans (hb9.mono hwP)
        clear hbd9 hk9 hb9
        clear d6
        have d6 : w9.cell? ⟨q, 6, none⟩ = some (.slice (some ⟨bl, ol, none⟩) l.length sc) := (Lib.cell_of_heap hx9.out 6).trans rfl
        have Hfin : Hid (Bd 105 P P (A ++ (textB fn ++ (ptB fx fy ++ (putN fh ++ (putN fj ++ (putN fb ++ putN l.length)))))) w9) := Lib.hid (by simpa [putN, List.append_assoc] using Hbd9.out)
        have hHl : (A ++ (textB fn ++ (ptB fx fy ++ (putN fh ++ (putN fj ++ (putN fb ++ putN l.length)))))).length ≤ 10000 := by simp only [List.length_append, putN]; omega
        generalize hHH : A ++ (textB fn ++ (ptB fx fy ++ (putN fh ++ (putN fj ++ (putN fb ++ putN l.length))))) = H at *
        have HH := Lib.hid hHH
        clear hHH Hbd4 Hbd5 Hbd6 Hbd7 Hbd8 Hbd9 hx4 hx5 hx6 hx7 hx8 hx9 B4 B5 B6 B7 B8 z4 z5 z6 z7 z8
        go_wp2
        go_loopw [47] (fun i wr => ∃ j : Nat, j ≤ l.length ∧ i = .int .i64 j ∧ Below w.heap.size w wr ∧ P ≤ wr.heap.size ∧ Hid (Bd 105 P P (H ++ chsB (l.take j)) wr)) (fun i _ => l.length - (intOf i).toNat)
        case atStart => exact ⟨0, Nat.zero_le _, rfl, B9, z9, Lib.hid (by simpa [chsB] using Hfin.out)⟩
        case round =>
          clear Hfin B9 z9 d6 hqp
          obtain ⟨j, hj, rfl, hB2, hz2, hbd2⟩ := hrel
          by_cases hlj : j < l.length
          · obtain ⟨p0, p1⟩ := HR.out j hlj
            have d0 := (hB2.cell (p := ⟨bl, ol + j * 2, none⟩) hbr).trans p0
            have d1 := (hB2.cell (p := ⟨bl, ol + j * 2 + 1, none⟩) hbr).trans p1
            have hcj := (Hch.out.1 j hlj).1
            have hal2 := hcl.out j
            have hst2 := Lib.hid (chsB_step hlj)
            unfold chsB1 at hst2
            generalize l[j] = x at *
            obtain ⟨xr, xl⟩ := x
            obtain ⟨⟨_, _⟩, ⟨_, _⟩⟩ := hcj
            dsimp only at *
            have hM : (H ++ chsB (l.take j)).length ≤ 20000 := by rw [List.length_append]; omega
            generalize hMM : H ++ chsB (l.take j) = M at *
            have HM := Lib.hid hMM
            clear hMM p0 p1
            have hpl := putB_sgn (fit_small (n := xr) (by omega) (by omega))
            have hqp : wr.heap.size ≠ P := by have := hbd2.out.lt; omega
            have hx0 := Lib.hid (blkN_new wr (.cells #[.int .i64 xr, .int .i64 xl] 48))
            have z0 : P ≤ (wr.alloc (.cells #[.int .i64 xr, .int .i64 xl] 48)).heap.size := by simp; omega
            have B0 : Below w.heap.size w (wr.alloc (.cells #[.int .i64 xr, .int .i64 xl] 48)) := hB2.alloc hB2.size _
            go_wp2_with fail
            refine (hQ.out M xr _ (hbd2.out.alloc _) (by omega) (by omega) z0).mono ?_
            rintro e w4 ⟨rfl, hbd4, hb4, hk4⟩
            have Hbd4 := Lib.hid hbd4
            have hx4 := Lib.hid ((hk4 _ _ _ _ hx0.out (by decide) hqp).trans hx0.out)
            have z4 := Nat.le_trans z0 hb4.size
            have B4 := B0.trans (hb4.mono hwP)
            clear hbd4 hk4 hb4
            have d2 : w4.cell? ⟨wr.heap.size, 1, none⟩ = some (.int .i64 xl) := (Lib.cell_of_heap hx4.out 1).trans rfl
            go_wp2_with fail
            refine (hQ.out _ xl _ Hbd4.out (by rw [List.length_append]; omega) (by omega) z4).mono ?_
            rintro e w5 ⟨rfl, hbd5, hb5, hk5⟩
            have Hbd5 := Lib.hid hbd5
            have hx5 := Lib.hid ((hk5 _ _ _ _ hx4.out (by decide) hqp).trans hx4.out)
            have z5 := Nat.le_trans z4 hb5.size
            have B5 := B4.trans (hb5.mono hwP)
            clear hbd5 hk5 hb5
            go_wp2
            go_roundw
            case rel => exact ⟨j + 1, by omega, by go_num, B5, z5, Lib.hid (by rw [hst2.out, ← List.append_assoc, HM.out]; simpa [putN, List.append_assoc] using Hbd5.out)⟩
            case measure => simp [intOf]; omega
          · have hjj : j = l.length := by omega
            subst hjj
            have hfin : Hid (Bd 105 P P (accS L (k + 1)) wr) := Lib.hid (by
              have h1 := hbd2.out
              rw [List.take_length, ← HH.out] at h1
              rw [Hst.out]
              simpa [List.append_assoc] using h1)
            go_wp2
            go_roundw
            case rel => exact ⟨k + 1, by omega, by go_num, hB2, hz2, hfin⟩
            case measure => simp [intOf]; omega
      · have hkk : k = L.length := by omega
        subst hkk
        have hlA : (siteBytes L).length ≤ 100000 := by have := accS_len Hok.out _ (Nat.le_refl _); unfold siteBytes; omega
        have hoA : Bd 105 P P (siteBytes L) wr := hbd.out
        have hend := Lib.hid (impl_closed P (siteBytes L) P wr hoA (by omega) hz)
        clear hoA
        go_wp2_with fail
        refine hend.out.mono ?_
        rintro e w2 ⟨rfl, hb2⟩
        go_wp2
        go_ret2
        exact ⟨rfl, hB.trans (hb2.mono hwP)⟩
end Go.Proofs.Ytgbohbjpdmgneaa
