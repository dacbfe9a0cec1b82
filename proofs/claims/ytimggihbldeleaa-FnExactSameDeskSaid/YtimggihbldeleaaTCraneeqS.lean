/- Crane: the laws' helpers (eqS). -/
import Derived.Test.YtimggihbldeleaaTCraneeq
import Derived.Test.YtimggihbldeleaaTCrane
namespace Go.Proofs.Ytimggihbldeleaa
open Go.RowKit Go.WideShapes Go.ChangeShapes Go.Deep
set_option maxRecDepth 100000 in
set_option maxHeartbeats 8000000 in
theorem law_eqCraneS (v v2 : Value) (rs rs2 : List CraneR) (L : List (CraneF × List Chs)) (lo hi lo2 hi2 : Nat) (w : World) (h : Cranes lo hi w v rs L) (h2 : Cranes lo2 hi2 w v2 rs2 L) :
    Calls Try.prog 38 #[v, v2] w fun e w' => e = .returned (.bool true) ∧ Below w.heap.size w w' := by
  have hl1 := h.len
  have hl2 := h2.len
  have hcap : rs.length ≤ 9223372036854775807 := by obtain ⟨a, cap, _, hc, _⟩ := h.out; omega
  have Hs := Lib.hid h
  have Hs2 := Lib.hid h2
  obtain ⟨⟨a, cap, rfl, _⟩, _, _⟩ := h
  obtain ⟨⟨a2, cap2, rfl, _⟩, _, _⟩ := h2
  rw [hl2, hl1]
  rw [hl1] at hcap
  have Hl1 := Lib.hid hl1
  have Hl2 := Lib.hid hl2
  clear hl1 hl2
  go_enter Try.func38, Try.ntmps38
  go_wp2
  go_loopw [5] (fun i wr => ∃ k : Nat, k ≤ L.length ∧ i = .int .i64 k ∧ Below w.heap.size w wr) (fun i _ => L.length - (intOf i).toNat)
  case atStart => exact ⟨0, Nat.zero_le _, rfl, Below.refl _ _⟩
  case round =>
    obtain ⟨k, hk, rfl, hB⟩ := hrel
    by_cases hlt : k < L.length
    · have hk1 : k < rs.length := by rw [Hl1.out]; exact hlt
      have hk2 : k < rs2.length := by rw [Hl2.out]; exact hlt
      have hs : Cranes lo hi wr (.slice a L.length cap) rs L := by rw [← Hl1.out]; exact Hs.out.ext hB
      have hs2 : Cranes lo2 hi2 wr (.slice a2 L.length cap2) rs2 L := by rw [← Hl2.out]; exact Hs2.out.ext hB
      obtain ⟨hfl, hrow⟩ := hs.one hlt hk1
      obtain ⟨hfl2, hrow2⟩ := hs2.one hlt hk2
      have hcall := fun w' (hb : Below wr.heap.size wr w') => law_eqCrane L[k].1 rs[k].s rs2[k].s L[k].2 lo hi lo2 hi2 w' (hrow.ext hb) (hrow2.ext hb)
      obtain ⟨b, off, rfl⟩ := hs.out.addr (by omega)
      obtain ⟨b2, off2, rfl⟩ := hs2.out.addr (by omega)
      obtain ⟨c0, c1, c2, c3, c4, c5, c6⟩ := Cranes_at hs hk1
      obtain ⟨d0, d1, d2, d3, d4, d5, d6⟩ := Cranes_at hs2 hk2
      rw [hfl] at c0 c1 c2 c3 c4 c5
      rw [hfl2] at d0 d1 d2 d3 d4 d5
      have hbw := World.block_lt_of_cell? wr _ c0
      have hbw2 := World.block_lt_of_cell? wr _ d0
      clear hs hs2 hrow hrow2 hfl hfl2
      generalize rs[k].s = s at *
      generalize rs2[k].s = s2 at *
      generalize L[k].1 = f at *
      generalize L[k].2 = ll at *
      obtain ⟨x0, x1, x2, x3, x4, x5⟩ := f
      obtain ⟨sa, sl, sc⟩ := s
      obtain ⟨ta, tl, tc⟩ := s2
      simp only [CraneR.cells, SV.v] at *
      have hcall := Lib.hid hcall
      go_wp2_with fail
      go_region_held3 (fun w' => (∀ b' o', b' < wr.heap.size → w'.cell? ⟨b', o', none⟩ = wr.cell? ⟨b', o', none⟩) ∧ Below wr.heap.size wr w') (first | exact heldB (Below.refl _ _).drew | exact heldB hBc)
        (first | (go_at_call 53; refine (hcall.out _ (Below.refl _ _).drew).mono ?_; rintro e w3 ⟨rfl, hB3⟩; have hBc : Below wr.heap.size wr w3 := (Below.refl _ wr).drew.trans hB3))
      go_wp2
      go_roundw
      case rel => exact ⟨k + 1, by omega, by go_num, hB.trans (hBc.mono hB.size)⟩
      case measure => simp [intOf]; omega
    · go_wp2
      go_ret
      exact ⟨rfl, hB⟩
end Go.Proofs.Ytimggihbldeleaa
