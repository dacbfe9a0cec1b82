/- Two lifts that are equal, held against each other by the reference. Equal lists of lifts, held against each other by the reference. -/
import Derived.Test.YtijpghlkbfmefaaDoorSmB
namespace Go.Proofs.YtijpghlkbfmefaaDoor
open Go.RowKit
set_option maxRecDepth 100000 in
set_option maxHeartbeats 20000000 in
theorem spec_Eq1Lift (b o b2 o2 : Nat) (f : LiftF) (s s2 : SV) (l : List Int) (lo hi lo2 hi2 : Nat) (w : World) (hc : ∀ j u, (LiftR.cells ⟨f, s⟩)[j]? = some u → w.cell? ⟨b, o + j, none⟩ = some u) (hd : ∀ j u, (LiftR.cells ⟨f, s2⟩)[j]? = some u → w.cell? ⟨b2, o2 + j, none⟩ = some u) (h : Sl 1 intCells lo hi w s.v l) (h2 : Sl 1 intCells lo2 hi2 w s2.v l) :
    Calls Tryd.prog 54 #[.pointer (some ⟨b, o, none⟩), .pointer (some ⟨b2, o2, none⟩)] w fun e w' => e = .returned (.bool true) ∧ ∃ m, w' = w.drewN m := by
  have hE : eqL l l = true := eqL_t rfl
  have HI := Lib.hid (fun w' (hb : Below w.heap.size w w') => spec_Same0 s.v s2.v l l lo hi lo2 hi2 w' (h.ext hb) (h2.ext hb))
  clear h h2
  have c0 := hc 0 _ rfl
  have d0 := hd 0 _ rfl
  have c1 := hc 1 _ rfl
  have d1 := hd 1 _ rfl
  have c2 := hc 2 _ rfl
  have d2 := hd 2 _ rfl
  have c3 := hc 3 _ rfl
  have d3 := hd 3 _ rfl
  have c4 := hc 4 _ rfl
  have d4 := hd 4 _ rfl
  have c5 := hc 5 _ rfl
  have d5 := hd 5 _ rfl
  have c6 := hc 6 _ rfl
  have d6 := hd 6 _ rfl
  have c7 := hc 7 _ rfl
  have d7 := hd 7 _ rfl
  have c8 := hc 8 _ rfl
  have d8 := hd 8 _ rfl
  clear hc hd
  simp only [Nat.add_zero] at c0 d0
  obtain ⟨sa, sl, sc⟩ := s
  obtain ⟨ta, tl, tc⟩ := s2
  simp only [SV.v] at *
  rw [hE] at HI
  clear hE
  obtain ⟨x0, x1, x2, x3, x4, x5, x6, x7⟩ := f
  dsimp only at *
  go_enter Tryd.func54, Tryd.ntmps54
  go_wp2_with (go_quiet (first | (go_at_call 72; exact Calls.quiet_of (HI.out _ (below_dN (Below.refl _ _) _)))))
  go_ret
  exact ⟨rfl, _, rfl⟩
set_option maxRecDepth 100000 in
set_option maxHeartbeats 8000000 in
theorem spec_EqLifts0 (v v2 : Value) (rs rs2 : List LiftR) (L : List (LiftF × List Int)) (lo hi lo2 hi2 : Nat) (w : World) (h : Lifts lo hi w v rs L) (h2 : Lifts lo2 hi2 w v2 rs2 L) :
    Calls Tryd.prog 32 #[v, v2] w fun e w' => e = .returned (.bool true) ∧ ∃ m, w' = w.drewN m := by
  have hl1 := h.len
  have hl2 := h2.len
  have hcap : rs.length ≤ 9223372036854775807 := by obtain ⟨a, cap, _, hc, _⟩ := h.out; omega
  have Hs := Lib.hid h
  have Hs2 := Lib.hid h2
  obtain ⟨⟨a, cap, rfl, _⟩, _, _⟩ := h
  obtain ⟨⟨a2, cap2, rfl, _⟩, _, _⟩ := h2
  rw [hl1, hl2]
  rw [hl1] at hcap
  have Hl1 := Lib.hid hl1
  have Hl2 := Lib.hid hl2
  clear hl1 hl2
  have hb : ((L.length : Int) != (L.length : Int)) = false := by rw [bne_eq_false_iff_eq]
  go_enter Tryd.func32, Tryd.ntmps32
  go_wp2
  have hq0 : ∃ m, w = w.drewN m := ⟨0, rfl⟩
  go_loopw [5] (fun i wr => ∃ k : Nat, k ≤ L.length ∧ i = .int .i64 k ∧ Hid (∃ nq, wr = w.drewN nq)) (fun i _ => L.length - (intOf i).toNat)
  case atStart => exact ⟨0, Nat.zero_le _, rfl, Lib.hid hq0⟩
  case round =>
    obtain ⟨k, hk, rfl, hD⟩ := hrel
    have hB := quiet_below hD.out
    by_cases hlt : k < L.length
    · have hk1 : k < rs.length := by rw [Hl1.out]; exact hlt
      have hk2 : k < rs2.length := by rw [Hl2.out]; exact hlt
      have hs : Lifts lo hi wr (.slice a L.length cap) rs L := by rw [← Hl1.out]; exact Hs.out.ext hB
      have hs2 : Lifts lo2 hi2 wr (.slice a2 L.length cap2) rs2 L := by rw [← Hl2.out]; exact Hs2.out.ext hB
      obtain ⟨hfl, hrow⟩ := hs.one hlt hk1
      obtain ⟨hfl2, hrow2⟩ := hs2.one hlt hk2
      obtain ⟨b, off, rfl⟩ := hs.out.addr (by omega)
      obtain ⟨b2, off2, rfl⟩ := hs2.out.addr (by omega)
      have hcc := hs.at hk1
      have hdd := hs2.at hk2
      rw [show LiftR.cells rs[k] = LiftR.cells ⟨L[k].1, rs[k].s⟩ by unfold LiftR.cells; rw [hfl]] at hcc
      rw [show LiftR.cells rs2[k] = LiftR.cells ⟨L[k].1, rs2[k].s⟩ by unfold LiftR.cells; rw [hfl2]] at hdd
      have hcall := fun n => spec_Eq1Lift b (off + k * 9) b2 (off2 + k * 9) L[k].1 rs[k].s rs2[k].s L[k].2 lo hi lo2 hi2 (wr.drewN n) hcc hdd (hrow.ext (below_dN (Below.refl _ _) n)) (hrow2.ext (below_dN (Below.refl _ _) n))
      clear hs hs2 hrow hrow2 hfl hfl2 hcc hdd
      have hcall := Lib.hid hcall
      go_wp2_with (go_quiet (first | (go_at_call 54; exact Calls.quiet_of (hcall.out _))))
      go_roundw
      case rel => exact ⟨k + 1, by omega, by go_num, Lib.hid (quiet_on hD.out _)⟩
      case measure => simp [intOf]; omega
    · go_wp2
      go_ret
      exact ⟨rfl, hD.out⟩
theorem spec_EqLifts (v v2 : Value) (rs rs2 : List LiftR) (L : List (LiftF × List Int)) (lo hi lo2 hi2 : Nat) (w : World) (h : Lifts lo hi w v rs L) (h2 : Lifts lo2 hi2 w v2 rs2 L) :
    Calls Tryd.prog 11 #[v, v2] w fun e w' => e = .returned (.bool true) ∧ ∃ m, w' = w.drewN m := by
  have hc := Lib.hid (spec_EqLifts0 v v2 rs rs2 L lo hi lo2 hi2 w h h2)
  clear h h2
  go_enter Tryd.func11, Tryd.ntmps11
  go_wp2_with fail
  refine hc.out.mono ?_
  rintro e w1 ⟨rfl, hb1⟩
  go_wp2
  go_ret
  exact ⟨rfl, hb1⟩
end Go.Proofs.YtijpghlkbfmefaaDoor
