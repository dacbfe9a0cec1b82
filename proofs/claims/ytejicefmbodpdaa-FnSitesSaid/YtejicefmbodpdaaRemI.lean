/- RemoveCrane, the program. -/
import Derived.Test.YtejicefmbodpdaaRem
import Derived.Test.YtejicefmbodpdaaDelI
import Derived.Test.YtejicefmbodpdaaCpyI
import Derived.Test.YtejicefmbodpdaaSiteW
namespace Go.Proofs.Ytejicefmbodpdaa
open Go.RowKit
set_option maxRecDepth 100000 in
set_option maxHeartbeats 4000000 in
theorem impl_Code4 (s : SV) (rs : List CraneR) (L : SiteL) (lo hi : Nat) (i : Int) (w : World) (h : Cranes lo hi w s.v rs L) (hwf : L.wf) :
    Calls Try.prog 29 #[.agg #[s.v], .int .i64 i] w fun e w' => e = .returned (.int .i64 (code4 L i)) ∧ Below w.heap.size w w' := by
  have hba : Below w.heap.size w (w.alloc (.cells #[s.v] 26)) := (Below.refl _ _).alloc (Nat.le_refl _) _
  have hV := impl_SiteOk s rs L lo hi _ (h.ext hba) hwf
  have hln : ∃ a cap, s.v = .slice a L.length cap := by obtain ⟨a, cap, hv, _⟩ := h.out; exact ⟨a, cap, by rw [← h.len]; exact hv⟩
  obtain ⟨a, cap, hsv⟩ := hln
  clear h hwf
  rw [hsv] at hV hba ⊢
  clear hsv
  have hp0 := Lib.hid (Cb.new w (.slice a L.length cap) 26)
  rcases code4_cases L i with ⟨h1, h2⟩ | ⟨h1, h2, h3⟩ | ⟨h1, ⟨h2, h2'⟩, h3⟩
  · rw [h2]
    rw [h1] at hV
    have hV := Lib.hid hV
    clear h1 h2
    go_enter Try.func29, Try.ntmps29
    go_wp2_with fail
    refine hV.out.mono ?_
    rintro e w1 ⟨rfl, hb1⟩
    go_wp2
    go_ret
    exact ⟨rfl, hba.trans (hb1.mono hba.size)⟩
  · rw [h3]
    have hL6 := (siteB_iff.1 h1).2.2
    rw [h1] at hV
    have hV := Lib.hid hV
    clear h1 h3
    go_enter Try.func29, Try.ntmps29
    go_wp2_with fail
    refine hV.out.mono ?_
    rintro e w1 ⟨rfl, hb1⟩
    have cp := (hp0.out.ext hb1).c
    go_wp2_with (go_at_call 52; refine (impl_index_f _ _ _ (by omega) (by omega)).mono ?_; rintro e w' ⟨rfl, rfl⟩)
    go_ret
    exact ⟨rfl, hba.trans (hb1.mono hba.size)⟩
  · rw [h3]
    have hL6 := (siteB_iff.1 h1).2.2
    rw [h1] at hV
    have hV := Lib.hid hV
    clear h1 h3
    go_enter Try.func29, Try.ntmps29
    go_wp2_with fail
    refine hV.out.mono ?_
    rintro e w1 ⟨rfl, hb1⟩
    have cp := (hp0.out.ext hb1).c
    go_wp2_with (go_at_call 52; refine (impl_index_t _ _ _ (by omega) (by omega) (by omega)).mono ?_; rintro e w' ⟨rfl, rfl⟩)
    go_ret
    exact ⟨rfl, hba.trans (hb1.mono hba.size)⟩
set_option maxRecDepth 100000 in
set_option maxHeartbeats 8000000 in
theorem impl_RemoveCrane (s : SV) (rs : List CraneR) (L : SiteL) (lo hi : Nat) (i : Int) (w : World) (h : Cranes lo hi w s.v rs L) (hwf : L.wf) :
    Calls Try.prog 10 #[.agg #[s.v], .int .i64 i] w (SiteRes (removed L i) w) := by
  have hln : ∃ a cap, s = ⟨a, L.length, cap⟩ := by obtain ⟨a, cap, hv, _⟩ := h.out; obtain ⟨sa, sl, sc⟩ := s; cases hv; exact ⟨sa, sc, by rw [h.len]⟩
  obtain ⟨a, cap, rfl⟩ := hln
  have hba : Below w.heap.size w ((w.alloc (.cells #[.slice a L.length cap] 26)).alloc (.cells #[.slice none 0 0] 26)) := ((Below.refl _ _).alloc (Nat.le_refl _) _).alloc (by simp) _
  have hp0 : Hid (Cb w.heap.size ((w.alloc (.cells #[.slice a L.length cap] 26)).alloc (.cells #[.slice none 0 0] 26)) (.slice a L.length cap)) := Lib.hid ((Cb.new w _ _).ext ((Below.refl _ _).alloc (Nat.le_refl _) _))
  have hq0 : Hid (Cb (w.heap.size + 1) ((w.alloc (.cells #[.slice a L.length cap] 26)).alloc (.cells #[.slice none 0 0] 26)) (.slice none 0 0)) := Lib.hid (by have := Cb.new (w.alloc (.cells #[.slice a L.length cap] 26)) (.slice none 0 0) 26; simpa using this)
  have hV := impl_Code4 ⟨a, L.length, cap⟩ rs L lo hi i _ (h.ext hba) hwf
  have hR := Lib.hid (fun (hok : siteOk L) w' (hb : Below w.heap.size w w') => impl_SiteClone ⟨a, L.length, cap⟩ rs L lo hi w' (h.ext hb) hok)
  simp only [SV.v] at hV hR ⊢
  have hV := Lib.hid hV
  clear h hwf
  rcases code4_cases L i with ⟨h1, h2⟩ | ⟨h1, h2, h3⟩ | ⟨h1, ⟨h2, h2'⟩, h3⟩
  · rw [removed_no h2 (by omega)]
    rw [h2] at hV
    clear h1 h2 hR
    go_enter Try.func10, Try.ntmps10
    go_wp2_with fail
    refine hV.out.mono ?_
    rintro e w1 ⟨rfl, hb1⟩
    have q1 := (hq0.out.ext hb1).c
    have f1 := (hq0.out.ext hb1).f
    have B1 := hba.trans (hb1.mono hba.size)
    go_wp2
    exact bodyPost_ret (v := .tuple #[.agg #[.slice none 0 0], .int .i64 1]) (by simp [results, Try.results10, go_sem, q1]) rfl ⟨⟨none, 0, 0⟩, [], rfl, nsw_nil, B1.setCell (p := ⟨w.heap.size + 1, 0, none⟩) (Nat.le_succ _) _⟩
  · rw [removed_no h3 (by omega)]
    rw [h3] at hV
    clear h1 h2 h3 hR
    go_enter Try.func10, Try.ntmps10
    go_wp2_with fail
    refine hV.out.mono ?_
    rintro e w1 ⟨rfl, hb1⟩
    have q1 := (hq0.out.ext hb1).c
    have f1 := (hq0.out.ext hb1).f
    have B1 := hba.trans (hb1.mono hba.size)
    go_wp2
    exact bodyPost_ret (v := .tuple #[.agg #[.slice none 0 0], .int .i64 2]) (by simp [results, Try.results10, go_sem, q1]) rfl ⟨⟨none, 0, 0⟩, [], rfl, nsw_nil, B1.setCell (p := ⟨w.heap.size + 1, 0, none⟩) (Nat.le_succ _) _⟩
  have Hok := Lib.hid (siteB_iff.1 h1)
  have hL6 := Hok.out.2.2
  by_cases hone : L.length = 1
  · rw [removed_one h3 hone]
    rw [h3] at hV
    have hq : ((L.length : Int) == 1) = true := by simp; omega
    clear h1 h2 h3 hone hR
    go_enter Try.func10, Try.ntmps10
    go_wp2_with fail
    refine hV.out.mono ?_
    rintro e w1 ⟨rfl, hb1⟩
    have q1 := (hq0.out.ext hb1).c
    have f1 := (hq0.out.ext hb1).f
    have p1 := (hp0.out.ext hb1).c
    have B1 := hba.trans (hb1.mono hba.size)
    go_wp2
    exact bodyPost_ret (v := .tuple #[.agg #[.slice none 0 0], .int .i64 6]) (by simp [results, Try.results10, go_sem, q1]) rfl ⟨⟨none, 0, 0⟩, [], rfl, nsw_nil, B1.setCell (p := ⟨w.heap.size + 1, 0, none⟩) (Nat.le_succ _) _⟩
  obtain ⟨n, rfl⟩ := Int.eq_ofNat_of_zero_le h2
  rw [removed_yes h3 hone, Int.toNat_natCast]
  rw [h3] at hV
  have hR := Lib.hid (hR.out Hok.out)
  have hq : ((L.length : Int) == 1) = false := by simp; omega
  have hnL : n < L.length := by omega
  have hnw : IntKind.i64.wrap ((n : Int) + 1) = (n : Int) + 1 := IntWalk.i64_in _ (by omega)
  clear h1 h2 h2' h3 hone
  go_enter Try.func10, Try.ntmps10
  go_wp2_with fail
  refine hV.out.mono ?_
  rintro e w1 ⟨rfl, hb1⟩
  have B1 := hba.trans (hb1.mono hba.size)
  have hp1 := Lib.hid (hp0.out.ext hb1)
  have hq1 := Lib.hid (hq0.out.ext hb1)
  have cp1 := hp1.out.c
  have hql := hq1.out.lt
  clear hb1 hba hp0 hq0 hV
  go_wp2_with fail
  refine (hR.out _ B1).mono ?_
  rintro e w2 ⟨⟨ta, tl, tc⟩, rk, rfl, hO, hb2⟩
  have hN2 : CraneW w1.heap.size w2.heap.size w2 (.slice ta tl tc) rk L := by simpa [SV.v] using hO.w CraneR.len Chs.len TK_TC
  simp only [SV.v]
  have htl : tl = L.length := by obtain ⟨a, cap, hv, _⟩ := hN2.out.1; cases hv; exact hN2.len
  subst htl
  obtain ⟨b, off, rfl⟩ := hN2.r.out.addr (by rw [hN2.len]; omega)
  have hq2 := Lib.hid (hq1.out.ext hb2)
  have B2 := B1.trans (hb2.mono B1.size)
  have hw12 := hb2.size
  have hal : Below w2.heap.size w2 (w2.alloc (.cells #[.slice (some ⟨b, off, none⟩) L.length tc] 26)) := (Below.refl _ _).alloc (Nat.le_refl _) _
  have hq3 := Lib.hid (hq2.out.ext hal)
  have hy3 := Lib.hid (Cb.new w2 (.slice (some ⟨b, off, none⟩) L.length tc) 26)
  have hN3 := hN2.ext (Nat.le_refl _) hal
  have hD := Lib.hid (impl_DeleteC b off tc n rk L w1.heap.size w2.heap.size _ hN3 (by simp) hnL hL6)
  have B3 := B2.trans (hal.mono B2.size)
  have cy3 := hy3.out.c
  have ly3 := hy3.out.lt
  clear hO hb2 hN2 hN3 hq1 hq2 hp1 cp1 hR hal B1 B2
  go_wp2_with fail
  refine hD.out.mono ?_
  rintro e w4 ⟨rfl, hN4, hm4⟩
  have hy4 := Lib.hid (hy3.out.mod hm4 (.inr (Nat.le_refl _)))
  have hq4 := Lib.hid (hq3.out.mod hm4 (.inl (by omega)))
  have B4 := B3.trans (hm4.below (B := w.heap.size) (by omega) B3.size)
  have cy4 := hy4.out.c
  have fy4 := hy4.out.f
  have cq4 := hq4.out.c
  have fq4 := hq4.out.f
  have hm4s := hm4.size
  have HN4 := Lib.hid hN4
  have hw12n : w1.heap.size ≤ w2.heap.size := hw12
  have hne : w2.heap.size ≠ w.heap.size + 1 := by omega
  have hl4 : w2.heap.size < w4.heap.size := Nat.lt_of_lt_of_le (by simp) hm4s
  generalize hv : (L.length - 1 : Nat) = q at *
  have hy5 := Lib.hid (hy4.out.put (.slice (some ⟨b, off, none⟩) q tc))
  have hq5 := Lib.hid (hq4.out.far (.slice (some ⟨b, off, none⟩) q tc) hne)
  have cq5 := hq5.out.c
  have cy5 := hy5.out.c
  clear hN4 hm4 hq3 hy3 cy3 hD
  have fin : Hid (∀ W : World, W = (w4.setCell ⟨w2.heap.size, 0, none⟩ (.slice (some ⟨b, off, none⟩) q tc)).setCell ⟨w.heap.size + 1, 0, none⟩ (.slice (some ⟨b, off, none⟩) q tc) → Cb (w.heap.size + 1) W (.slice (some ⟨b, off, none⟩) q tc) ∧ CraneW w.heap.size W.heap.size W (.slice (some ⟨b, off, none⟩) q tc) (rk.eraseIdx n) (L.eraseIdx n) ∧ Below w.heap.size w W) := Lib.hid (by
    rintro W rfl
    refine ⟨hq5.out.put _, ?_, (B4.setCell (p := ⟨w2.heap.size, 0, none⟩) (show w.heap.size ≤ w2.heap.size by omega) _).setCell (p := ⟨w.heap.size + 1, 0, none⟩) (Nat.le_succ _) _⟩
    have h1 : Same w1.heap.size w2.heap.size w4 ((w4.setCell ⟨w2.heap.size, 0, none⟩ (.slice (some ⟨b, off, none⟩) q tc)).setCell ⟨w.heap.size + 1, 0, none⟩ (.slice (some ⟨b, off, none⟩) q tc)) := fun k hk1 hk2 => by
      rw [Below.heap_setCell _ _ _ _ (show k ≠ w.heap.size + 1 by omega), Below.heap_setCell _ _ _ _ (show k ≠ w2.heap.size by omega)]
    exact (HN4.out.keep h1).widen (by omega) (by simp; omega))
  go_wp2
  have hfin := fin.out _ rfl
  have c6 := hfin.1.c
  exact bodyPost_ret (v := .tuple #[.agg #[.slice (some ⟨b, off, none⟩) q tc], .int .i64 0]) (by simp [results, Try.results10, go_sem, c6]) rfl ⟨⟨some ⟨b, off, none⟩, q, tc⟩, _, rfl, hfin.2.1, hfin.2.2⟩
end Go.Proofs.Ytejicefmbodpdaa
