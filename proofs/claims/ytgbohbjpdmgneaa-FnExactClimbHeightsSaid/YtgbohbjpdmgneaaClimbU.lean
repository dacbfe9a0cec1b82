/- ClimbedSite, the program. -/
import Derived.Test.YtgbohbjpdmgneaaClimbT
namespace Go.Proofs.Ytgbohbjpdmgneaa
open Go.RowKit
set_option maxRecDepth 100000 in
set_option maxHeartbeats 8000000 in
theorem impl_ClimbedSite (s : SV) (rs : List CraneR) (L : SiteL) (lo hi : Nat) (cv : Value) (cl : List Clb) (lo2 hi2 : Nat) (sec : Int) (w : World) (h : Cranes lo hi w s.v rs L) (hwf : L.wf) (hcl : Clbs lo2 hi2 w cv cl) :
    Calls Try.prog 60 #[.agg #[s.v], .int .i64 sec, cv] w (SiteRes (climbed L sec cl) w) := by
  have hcs := climb_cases L sec cl
  obtain ⟨sa, sl, sc⟩ := s
  have hba : Below w.heap.size w ((w.alloc (.cells #[.slice sa sl sc] 37)).alloc (.cells #[.slice none 0 0] 37)) := ((Below.refl _ _).alloc (Nat.le_refl _) _).alloc (by simp) _
  have hp0 : Hid (Cb w.heap.size ((w.alloc (.cells #[.slice sa sl sc] 37)).alloc (.cells #[.slice none 0 0] 37)) (.slice sa sl sc)) := Lib.hid ((Cb.new w _ _).ext ((Below.refl _ _).alloc (Nat.le_refl _) _))
  have hq0 : Hid (Cb (w.heap.size + 1) ((w.alloc (.cells #[.slice sa sl sc] 37)).alloc (.cells #[.slice none 0 0] 37)) (.slice none 0 0)) := Lib.hid (by have := Cb.new (w.alloc (.cells #[.slice sa sl sc] 37)) (.slice none 0 0) 37; simpa using this)
  have hV := impl_SiteOk ⟨sa, sl, sc⟩ rs L lo hi _ (h.ext hba) hwf
  have hK := fun w' (hb : Below w.heap.size w w') => impl_ClimbsOk cv cl lo2 hi2 w' (hcl.ext hb)
  have hR := Lib.hid (fun (hok : siteOk L) w' (hb : Below w.heap.size w w') => impl_SiteClone ⟨sa, sl, sc⟩ rs L lo hi w' (h.ext hb) hok)
  simp only [SV.v] at hV hR ⊢
  have Hcl := Lib.hid hcl
  obtain ⟨ca, ccap, rfl, hccap, -⟩ := hcl
  clear h hwf
  rcases hcs with ⟨h1, h2⟩ | ⟨h1, h2, h3⟩ | ⟨h1, h2, h3, h4⟩ | ⟨h1, h2, h3, h4⟩
  · rw [h2]
    rw [h1] at hV
    have hV := Lib.hid hV
    clear hR h1 h2 hK
    go_enter Try.func60, Try.ntmps60
    go_wp2_with fail
    refine hV.out.mono ?_
    rintro e w1 ⟨rfl, hb1⟩
    have q1 := (hq0.out.ext hb1).c
    have f1 := (hq0.out.ext hb1).f
    have B1 := hba.trans (hb1.mono hba.size)
    go_wp2
    exact bodyPost_ret (v := .tuple #[.agg #[.slice none 0 0], .int .i64 1]) (by simp [results, Try.results60, go_sem, q1]) rfl ⟨⟨none, 0, 0⟩, [], rfl, nsw_nil, B1.setCell (p := ⟨w.heap.size + 1, 0, none⟩) (Nat.le_succ _) _⟩
  · rw [h3]
    rw [h1] at hV
    rw [h2] at hK
    have hV := Lib.hid hV
    have hK := Lib.hid hK
    clear hR h1 h2 h3
    go_enter Try.func60, Try.ntmps60
    go_wp2_with fail
    refine hV.out.mono ?_
    rintro e w0 ⟨rfl, hb0⟩
    have B0 := hba.trans (hb0.mono hba.size)
    go_wp2_with fail
    refine (hK.out _ B0).mono ?_
    rintro e w1 ⟨rfl, hb1⟩
    have q1 := ((hq0.out.ext hb0).ext hb1).c
    have f1 := ((hq0.out.ext hb0).ext hb1).f
    have B1 := B0.trans (hb1.mono B0.size)
    go_wp2
    exact bodyPost_ret (v := .tuple #[.agg #[.slice none 0 0], .int .i64 1]) (by simp [results, Try.results60, go_sem, q1]) rfl ⟨⟨none, 0, 0⟩, [], rfl, nsw_nil, B1.setCell (p := ⟨w.heap.size + 1, 0, none⟩) (Nat.le_succ _) _⟩
  · rw [h4]
    rw [h1] at hV
    rw [h2] at hK
    have hV := Lib.hid hV
    have hK := Lib.hid hK
    clear hR h1 h2 h4
    go_enter Try.func60, Try.ntmps60
    go_wp2_with fail
    refine hV.out.mono ?_
    rintro e w0 ⟨rfl, hb0⟩
    have B0 := hba.trans (hb0.mono hba.size)
    go_wp2_with fail
    refine (hK.out _ B0).mono ?_
    rintro e w1 ⟨rfl, hb1⟩
    have q1 := ((hq0.out.ext hb0).ext hb1).c
    have f1 := ((hq0.out.ext hb0).ext hb1).f
    have B1 := B0.trans (hb1.mono B0.size)
    go_wp2_with (go_at_call 125; first | (refine (impl_within_t _ _ _ _ (by omega) (by omega)).mono ?_; rintro e w' ⟨rfl, rfl⟩) | (refine (impl_within_f _ _ _ _ (by omega)).mono ?_; rintro e w' ⟨rfl, rfl⟩))
    exact bodyPost_ret (v := .tuple #[.agg #[.slice none 0 0], .int .i64 2]) (by simp [results, Try.results60, go_sem, q1]) rfl ⟨⟨none, 0, 0⟩, [], rfl, nsw_nil, B1.setCell (p := ⟨w.heap.size + 1, 0, none⟩) (Nat.le_succ _) _⟩
  · rw [h4]
    rw [h1] at hV
    rw [h2] at hK
    have hV := Lib.hid hV
    have hK := Lib.hid hK
    have hok := siteB_iff.1 h1
    have hL6 := hok.2.2
    have hR := Lib.hid (hR.out hok)
    have hht := Lib.hid (htsOk_of hok)
    have Hco := Lib.hid (clB_iff.1 h2)
    have hc60 := Hco.out.2
    have Hsec := Lib.hid h3
    clear h1 h2 h4 hok
    obtain ⟨_, _⟩ := h3
    go_enter Try.func60, Try.ntmps60
    go_wp2_with fail
    refine hV.out.mono ?_
    rintro e w0 ⟨rfl, hb0⟩
    have B0 := hba.trans (hb0.mono hba.size)
    go_wp2_with fail
    refine (hK.out _ B0).mono ?_
    rintro e w1 ⟨rfl, hb1⟩
    have B1 := B0.trans (hb1.mono B0.size)
    have hp1 := Lib.hid ((hp0.out.ext hb0).ext hb1)
    have hq1 := Lib.hid ((hq0.out.ext hb0).ext hb1)
    have cp := hp1.out.c
    clear hb0 hb1 hp0 hq0 hV hK B0 hba
    go_wp2_with (go_at_call 125; first | (refine (impl_within_t _ _ _ _ (by omega) (by omega)).mono ?_; rintro e w' ⟨rfl, rfl⟩) | (refine (impl_within_f _ _ _ _ (by omega)).mono ?_; rintro e w' ⟨rfl, rfl⟩))
    refine (hR.out _ B1).mono ?_
    rintro e w2 ⟨⟨ta, tl, tc⟩, rk, rfl, hO, hb2⟩
    have hN2 : Hid (CraneW w1.heap.size w2.heap.size w2 (.slice ta tl tc) rk L) := Lib.hid (by simpa [SV.v] using hO.w CraneR.len Chs.len TK_TC)
    simp only [SV.v]
    have hq2 := Lib.hid (hq1.out.ext hb2)
    have hql := hq1.out.lt
    have B2 := B1.trans (hb2.mono B1.size)
    have hw12 := hb2.size
    have hal : Below w2.heap.size w2 (w2.alloc (.cells #[.slice ta tl tc] 37)) := (Below.refl _ _).alloc (Nat.le_refl _) _
    have hq3 := Lib.hid (hq2.out.ext hal)
    have hy3 := Lib.hid (Cb.new w2 (.slice ta tl tc) 37)
    have hN3 := Lib.hid (hN2.out.ext (Nat.le_refl _) hal)
    have B3 := B2.trans (hal.mono B2.size)
    clear hO hb2 hN2 hq1 hq2 hp1 cp hR
    generalize hHI : w2.heap.size = hi1 at *
    generalize w1.heap.size = lo1 at *
    have hsz3 : hi1 + 1 ≤ (w2.alloc (.cells #[.slice ta tl tc] 37)).heap.size := by simp [hHI]
    clear hal
    go_wp2
    go_loopw [30] (fun i wr => ∃ (k : Nat) (rk : List CraneR) (Lk : SiteL), k ≤ cl.length ∧ i = .int .i64 k ∧ Below w.heap.size w wr ∧ hi1 + 1 ≤ wr.heap.size ∧ Hid (Cb (w.heap.size + 1) wr (.slice none 0 0)) ∧ Hid (Cb hi1 wr (.slice ta tl tc)) ∧ Hid (CraneW lo1 hi1 wr (.slice ta tl tc) rk Lk) ∧ Hid (runC L sec cl = runC Lk sec (cl.drop k)) ∧ Hid (htsOk Lk ∧ Lk.length ≤ 6)) (fun i _ => cl.length - (intOf i).toNat)
    case atStart => exact ⟨0, rk, L, Nat.zero_le _, rfl, B3, hsz3, hq3, hy3, hN3, Lib.hid rfl, Lib.hid ⟨hht.out, hL6⟩⟩
    case round =>
      clear hq3 hy3 hN3 hht B3 B2 B1 hsz3 hHI
      obtain ⟨k, rk, Lk, hk, rfl, hB, hsz, hx, hy, hN, hrun, hht⟩ := hrel
      have cx := hx.out.c
      have cy := hy.out.c
      have fx := hx.out.f
      by_cases hlt : k < cl.length
      · have hcr := Hcl.out.ext hB
        obtain ⟨b, off, rfl⟩ := hcr.addr (by omega)
        obtain ⟨c0, c1⟩ := Clbs.at hcr.get hlt
        have Hno := Lib.hid (fun (h : doC Lk sec cl[k] = none) => runC_none hlt h)
        have Hyes := Lib.hid (fun L2 (h : doC Lk sec cl[k] = some L2) => runC_some hlt h)
        have Hht2 := Lib.hid (fun L2 (h : doC Lk sec cl[k] = some L2) => (show htsOk L2 ∧ L2.length ≤ 6 from by have := doC_hts hht.out.1 h; exact ⟨this.1, by rw [this.2]; exact hht.out.2⟩))
        have hco := Hco.out.1 k hlt
        clear hcr
        generalize cl[k] = c at *
        obtain ⟨x0, x1⟩ := c
        dsimp only at *
        have hal : Below wr.heap.size wr (wr.alloc (.cells #[.int .i64 x0, .int .i64 x1] 163)) := (Below.refl _ _).alloc (Nat.le_refl _) _
        have hD := Lib.hid (impl_Do ⟨ta, tl, tc⟩ rk Lk lo1 hi1 sec ⟨x0, x1⟩ (wr.alloc (.cells #[.int .i64 x0, .int .i64 x1] 163)) (hN.out.ext (by omega) hal) (by simp; omega) hco Hsec.out hht.out.1 hht.out.2)
        simp only [SV.v, Clb.cells] at hD
        have hx1 := Lib.hid (hx.out.ext hal)
        have hy1 := Lib.hid (hy.out.ext hal)
        have B1 := hB.trans (hal.mono hB.size)
        have hs1 : hi1 + 1 ≤ (wr.alloc (.cells #[.int .i64 x0, .int .i64 x1] 163)).heap.size := by simp; omega
        have hyl := hy.out.lt
        clear hx hy hco hal
        go_wp2_with fail
        refine hD.out.mono ?_
        rintro e w2 ⟨hm, ⟨rfl, hd⟩ | ⟨rk2, L2, rfl, hd, hN2⟩⟩
        · have hx2 := Lib.hid (hx1.out.mod hm (.inl (by omega)))
          have cx2 := hx2.out.c
          have fx2 := hx2.out.f
          have Hd := Lib.hid (hrun.out.trans (Hno.out hd))
          have B2 := B1.trans (hm.below (B := w.heap.size) (by omega) (by omega))
          clear hd hm
          go_wp2
          exact bodyPost_ret (v := .tuple #[.agg #[.slice none 0 0], .int .i64 6]) (by simp [results, Try.results60, go_sem, cx2]) rfl ⟨⟨none, 0, 0⟩, [], by rw [Hd.out]; rfl, by rw [Hd.out]; exact nsw_nil, B2.setCell (p := ⟨w.heap.size + 1, 0, none⟩) (Nat.le_succ _) _⟩
        · have hx2 := Lib.hid (hx1.out.mod hm (.inl (by omega)))
          have hy2 := Lib.hid (hy1.out.mod hm (.inr (Nat.le_refl _)))
          have Hd := Lib.hid (hrun.out.trans (Hyes.out L2 hd))
          have Hht := Lib.hid (Hht2.out L2 hd)
          have HN2 := Lib.hid hN2
          have B2 := B1.trans (hm.below (B := w.heap.size) (by omega) (by omega))
          have hsz2 := Nat.le_trans hs1 hm.size
          clear hd hm hN2
          go_wp2
          go_roundw
          case rel => exact ⟨k + 1, rk2, L2, by omega, by go_num, B2, hsz2, hx2, hy2, HN2, Hd, Hht⟩
          case measure => simp [intOf]; omega
      · have hkk : k = cl.length := by omega
        subst hkk
        have Hd := Lib.hid (hrun.out.trans runC_end)
        have hN3 := Lib.hid ((hN.out.keep ((show Mod (w.heap.size + 1) (w.heap.size + 2) wr (wr.setCell ⟨w.heap.size + 1, 0, none⟩ (.slice ta tl tc)) from (Mod.refl _ _ _).setCell (p := ⟨w.heap.size + 1, 0, none⟩) (Nat.le_refl _) (Nat.lt_succ_self _) _).same (by omega) (.inr (by omega)))).widen (lo' := w.heap.size) (hi' := (wr.setCell ⟨w.heap.size + 1, 0, none⟩ (.slice ta tl tc)).heap.size) (by omega) (by simp; omega))
        go_wp2
        exact bodyPost_ret (v := .tuple #[.agg #[.slice ta tl tc], .int .i64 0]) (by simp [results, Try.results60, go_sem, cx]) rfl ⟨⟨ta, tl, tc⟩, rk, by rw [Hd.out]; rfl, by rw [Hd.out]; exact hN3.out, hB.setCell (p := ⟨w.heap.size + 1, 0, none⟩) (Nat.le_succ _) _⟩
end Go.Proofs.Ytgbohbjpdmgneaa
