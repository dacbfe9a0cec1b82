/- ClimbHeights, the program. -/
import Derived.Test.YtgbohbjpdmgneaaClimbH
namespace Go.Proofs.Ytgbohbjpdmgneaa
open Go.RowKit
set_option maxRecDepth 100000 in
set_option maxHeartbeats 8000000 in
theorem impl_ClimbHeights (s : SV) (rs : List CraneR) (L : SiteL) (lo hi : Nat) (cv : Value) (cl : List Clb) (lo2 hi2 : Nat) (sec : Int) (w : World) (h : Cranes lo hi w s.v rs L) (hwf : L.wf) (hcl : Clbs lo2 hi2 w cv cl) :
    Calls Try.prog 53 #[.agg #[s.v], .int .i64 sec, cv] w (ListRes intCells 1 w (heightsR L sec cl).1 (heightsR L sec cl).2) := by
  have hba : Below w.heap.size w (w.alloc (.cells #[s.v] 37)) := (Below.refl _ _).alloc (Nat.le_refl _) _
  have hS := impl_ClimbedSite s rs L lo hi cv cl lo2 hi2 sec _ (h.ext hba) hwf (hcl.ext hba)
  have hP6 := climbed_len L sec cl
  obtain ⟨sa, sl, sc⟩ := s
  simp only [SV.v] at hS hba ⊢
  have hS := Lib.hid hS
  obtain ⟨ca, ccap, rfl, -⟩ := hcl
  clear h hwf
  unfold heightsR
  generalize climbed L sec cl = P at *
  obtain ⟨P, c⟩ := P
  dsimp only at hP6
  unfold htsR
  dsimp only
  by_cases hc : c = 0
  · subst hc
    rw [if_pos rfl]
    go_enter Try.func53, Try.ntmps53
    go_wp2_with fail
    refine hS.out.mono ?_
    rintro e w1 ⟨⟨ta, tl, tc⟩, rk, rfl, hN, hb1⟩
    simp only [SV.v] at hN ⊢
    have B1 := hba.trans (hb1.mono hba.size)
    have hal : Below w1.heap.size w1 (w1.alloc (.cells #[.slice ta tl tc] 37)) := (Below.refl _ _).alloc (Nat.le_refl _) _
    have hy := Lib.hid (Cb.new w1 (.slice ta tl tc) 37)
    have hN1 := Lib.hid (hN.ext (Nat.le_refl _) hal)
    have B2 := B1.trans (hal.mono B1.size)
    have htl : tl = P.length := by obtain ⟨a, cap, hv, _⟩ := hN.out.1; cases hv; exact hN.len
    have cy := hy.out.c
    have lw : w.heap.size ≤ w1.heap.size := B1.size
    have z2 : (w1.alloc (.cells #[.slice ta tl tc] 37)).heap.size = w1.heap.size + 1 := by simp
    clear hN hb1 hal hba hS
    subst htl
    have hstart : Below (w1.alloc (.cells #[.slice ta P.length tc] 37)).heap.size (w1.alloc (.cells #[.slice ta P.length tc] 37)) (w1.alloc (.cells #[.slice ta P.length tc] 37)) := Below.refl _ _
    go_wp2
    go_loopw [10, 26] (fun v i wr => ∃ (k : Nat) (vx : Value), vx = v ∧ k ≤ P.length ∧ i = .int .i64 k ∧ Below (w1.alloc (.cells #[.slice ta P.length tc] 37)).heap.size (w1.alloc (.cells #[.slice ta P.length tc] 37)) wr ∧ Hid (Own 1 intCells (w1.alloc (.cells #[.slice ta P.length tc] 37)).heap.size 2 wr vx ((htsL P).take k))) (fun _ i _ => P.length - (intOf i).toNat)
    case atStart => exact ⟨0, _, rfl, Nat.zero_le _, rfl, hstart, Lib.hid (by simpa using own_nil _ _ _)⟩
    case round =>
      clear hstart cy
      obtain ⟨k, vx, rfl, hk, rfl, hB1, hown⟩ := hrel
      generalize (w1.alloc (.cells #[.slice ta P.length tc] 37)) = W1 at *
      have hy2 := Lib.hid (hy.out.below hB1 hy.out.lt)
      have cy := hy2.out.c
      have hBs1 := hB1.size
      by_cases hlt : k < P.length
      · have hs := (hN1.out.ext (by omega) hB1).r
        have hkr : k < rk.length := by rw [hs.len]; exact hlt
        obtain ⟨hfl, -⟩ := hs.one hlt hkr
        obtain ⟨b, off, rfl⟩ := hs.out.addr (by omega)
        obtain ⟨c0, c1, c2, c3, c4, c5, c6⟩ := Cranes_at hs hkr
        rw [hfl] at c0 c1 c2 c3 c4 c5
        have hst := Lib.hid (htsL_step hlt)
        have hal : ((htsL P).take k).length = k := by rw [List.length_take]; simp [htsL]; omega
        clear hs hfl
        generalize P[k].1 = f at *
        obtain ⟨x0, x1, x2, hh, x4, x5⟩ := f
        generalize rk[k].s = sk at *
        obtain ⟨sa2, sl2, sc2⟩ := sk
        simp only [SV.v] at c6
        dsimp only at *
        have hown1 := hown.out.alloc (.cells #[.string x0, .int .i64 x1, .int .i64 x2, .int .i64 hh, .int .i64 x4, .int .i64 x5, .slice sa2 sl2 sc2] 51)
        have hB1' := hB1.alloc hBs1 (.cells #[.string x0, .int .i64 x1, .int .i64 x2, .int .i64 hh, .int .i64 x4, .int .i64 x5, .slice sa2 sl2 sc2] 51)
        have hBs1' := hB1'.size
        generalize hacc : (htsL P).take k = acc at *
        have Hacc := Lib.hid hacc
        clear hacc
        generalize hlo : W1.heap.size = lo1 at *
        clear hown hB1 hBs1
        go_wp2_with (at_builtin; refine wpList_app1 (c := intCells) (bytes := 8) rfl _ _ 58 2 rfl Try.underlying58 info_i64 (by omega) intCells_len intCells_one lo1 acc hh _ rfl _ rfl hown1 (by first | rfl | (simp [Act.eval]; done)) (by omega) (by omega) hBs1' ?_; intro v' w3 hown3 hg3; have hB3 := hown1.app hB1' (Nat.le_refl _) hBs1' hg3; have Hown3 := Lib.hid hown3; clear hown3)
        go_roundw
        case rel => exact ⟨k + 1, _, rfl, by omega, by go_num, hB3, Lib.hid (by rw [hst.out]; exact Hown3.out)⟩
        case measure => simp [intOf]; omega
      · have hkk : k = P.length := by omega
        subst hkk
        have hfin : Hid (Slw 1 intCells w.heap.size wr.heap.size wr vx (htsL P)) := Lib.hid (by
          have h1 := (hown.out.slw intCells_len).widen (lo' := w.heap.size) (hi' := wr.heap.size) (by omega) (Nat.le_refl _)
          rwa [List.take_of_length_le (by simp [htsL])] at h1)
        have B3 := B2.trans (hB1.mono B2.size)
        clear hown
        go_wp2
        go_ret2
        exact ⟨_, rfl, hfin.out, B3⟩
  · rw [if_neg hc]
    have hcc : (c != 0) = true := by simpa using hc
    clear hc
    go_enter Try.func53, Try.ntmps53
    go_wp2_with fail
    refine hS.out.mono ?_
    rintro e w1 ⟨⟨ta, tl, tc⟩, rk, rfl, hN, hb1⟩
    simp only [SV.v] at hN ⊢
    have B1 := hba.trans (hb1.mono hba.size)
    clear hN
    go_wp2
    go_ret2
    exact ⟨_, rfl, slw_nil, B1.alloc B1.size _⟩
end Go.Proofs.Ytgbohbjpdmgneaa
