/- DropLift of the last lift, where no other lift needs it. -/
import Derived.Test.YtijpghlkbfmefaaDoorLfA
import Derived.Test.YtijpghlkbfmefaaDoorLfN
import Derived.Test.YtijpghlkbfmefaaDoorDelL
namespace Go.Proofs.YtijpghlkbfmefaaDoor
open Go.RowKit
set_option maxRecDepth 100000 in
set_option maxHeartbeats 8000000 in
theorem impl_DropLift (v : Value) (rs : List LiftR) (L : LiftsL) (lo hi n : Nat) (w : World) (h : Lifts lo hi w v rs L) (hok : liftsOk L) (hn : n + 1 = L.length) (hno : ∀ i (h : i < L.length), ¬ (n : Int) ∈ L[i].2 ∧ L[i].2.length ≤ 1024) (hle : ∀ i (h : i < L.length), ∀ a ∈ L[i].2, a ≤ (n : Int)) :
    Calls Tryd.prog 9 #[v, .int .i64 (n : Int)] w (AdOut (L.eraseIdx n) w) := by
  have hL10 := hok.2
  have hA := fun W (hb : Below w.heap.size w W) => impl_LiftCode v rs L lo hi n W (h.ext hb) hok (by omega)
  have hD := fun q W (hb : Below w.heap.size w W) hq => impl_DropHas v rs L lo hi q n W (h.ext hb) hq hno
  have hC := fun W (hb : Below w.heap.size w W) => impl_CloneLifts v rs L lo hi W (h.ext hb) (by omega) (by omega) (fun x hx => by obtain ⟨i, hi, rfl⟩ := List.getElem_of_mem hx; exact (hno i hi).2)
  have hl1 := h.len
  obtain ⟨⟨a, cap, rfl, _⟩, _, _⟩ := h
  rw [hl1] at hA hD hC ⊢
  have HA := Lib.hid hA
  have HD := Lib.hid hD
  have HC := Lib.hid hC
  have Hn := Lib.hid hn
  have Hle := Lib.hid hle
  have hn9 : n < 10 := by omega
  have hba : Below w.heap.size w (w.alloc (.cells #[.int .i64 (n : Int)] 2 (0, 0))) := (Below.refl _ _).alloc (Nat.le_refl _) _
  have hX := Lib.hid (blkN_new w (.cells #[.int .i64 (n : Int)] 2 (0, 0)))
  clear hA hD hC hl1 hno hle hok hn
  go_enter Tryd.func9, Tryd.ntmps9
  go_wp2_with (first
    | (go_at_call 26; refine (HA.out _ hba).mono ?_; rintro e w1 ⟨rfl, hb1⟩; have hX1 := Lib.hid (blkN_below hb1 hX.out); have B1 := hba.trans (hb1.mono (by simp)); have q1 : w1.cell? ⟨w.heap.size, 0, none⟩ = some (.int .i64 (n : Int)) := (Lib.cell_of_heap hX1.out 0).trans rfl; have hD1 := Lib.hid (HD.out w.heap.size w1 B1 q1); clear q1)
    | fail)
  refine hD1.out.mono ?_
  rintro e w2 ⟨rfl, hb2⟩
  have hX2 := Lib.hid (blkN_below hb2 hX1.out)
  have B2 := B1.trans (hb2.mono B1.size)
  have hC2 := Lib.hid (HC.out w2 B2)
  clear hX hX1 hb1 hb2 hD1 HA HD HC hba
  go_wp2_with fail
  refine hC2.out.mono ?_
  rintro e w3 ⟨v3, rk, rfl, hns, hb3⟩
  have hrl := hns.len
  obtain ⟨⟨⟨a3, cap3, rfl, _⟩, _⟩, _, _⟩ := id hns
  rw [hrl] at hns ⊢
  obtain ⟨b3, o3, rfl⟩ := hns.out.1.addr (by have := Hn.out; omega)
  have hcp3 : L.length ≤ cap3 ∧ cap3 ≤ 9223372036854775807 := by
    obtain ⟨_, _, hv, hc, _⟩ := hns.out.1
    rw [hrl] at hv hc
    cases hv
    exact hc
  have Hns := Lib.hid hns
  have Hrl := Lib.hid hrl
  have hX3 := Lib.hid (blkN_below hb3 hX2.out)
  have B3 := B2.trans (hb3.mono B2.size)
  have hb3s := hb3.size
  clear hns hrl hX2 hb3 hC2
  go_wp2_with fail
  go_loopw [25] (fun i wr => ∃ (k : Nat), k ≤ L.length ∧ i = .int .i64 k ∧ Below w3.heap.size w3 wr) (fun i _ => L.length - (Go.RowKit.intOf i).toNat)
  case atStart => exact ⟨0, Nat.zero_le _, rfl, Below.refl _ _⟩
  case round =>
    obtain ⟨k, hk, rfl, hB⟩ := hrel
    by_cases hlt : k < L.length
    · have hk1 : k < rk.length := by rw [Hrl.out]; exact hlt
      have hs := (Hns.out.ext (Nat.le_refl _) hB).r
      obtain ⟨hfl, hrow⟩ := hs.one hlt hk1
      obtain ⟨c0, c1, c2, c3, c4, c5, c6, c7, c8⟩ := Lifts_at hs hk1
      rw [hfl] at c0 c1 c2 c3 c4 c5 c6 c7
      have Hl := Lib.hid (Hle.out k hlt)
      have hX4 := Lib.hid (blkN_below hB hX3.out)
      clear hs hfl
      generalize rk[k].s = sk at *
      obtain ⟨ta, tl, tc⟩ := sk
      simp only [SV.v] at c8 hrow
      generalize L[k].2 = aft at *
      generalize L[k].1 = f at *
      obtain ⟨g0, g1, g2, g3, g4, g5, g6, g7⟩ := f
      dsimp only at *
      have hrow0 := hrow
      obtain ⟨_, _, hv, hcp2, _⟩ := hrow
      obtain rfl : aft.length = tl := by cases hv; rfl
      have hbx : Below wr.heap.size wr (wr.alloc (.cells #[.string g0, .int .i64 g1, .int .i64 g2, .int .i64 g3, .int .i64 g4, .int .i64 g5, .int .i64 g6, .int .i64 g7, .slice ta aft.length tc] 31 (0, 0))) := (Below.refl _ _).alloc (Nat.le_refl _) _
      have hrow1 := Lib.hid (hrow0.ext hbx)
      have hB1 := hB.trans (hbx.mono hB.size)
      have hX5 := Lib.hid (blkN_below hbx hX4.out)
      clear hv hrow0 hX4
      go_wp2_with fail
      obtain ⟨wo, hwo⟩ : ∃ wo, wr.alloc (.cells #[.string g0, .int .i64 g1, .int .i64 g2, .int .i64 g3, .int .i64 g4, .int .i64 g5, .int .i64 g6, .int .i64 g7, .slice ta aft.length tc] 31 (0, 0)) = wo := ⟨_, rfl⟩
      rw [hwo] at hbx hrow1 hB1 hX5 ⊢
      clear hwo
      have q5 : wo.cell? ⟨w.heap.size, 0, none⟩ = some (.int .i64 (n : Int)) := (Lib.cell_of_heap hX5.out 0).trans rfl
      go_loopw [32] (fun i wy => ∃ (j : Nat), j ≤ aft.length ∧ i = .int .i64 j ∧ wy = wo) (fun i _ => aft.length - (Go.RowKit.intOf i).toNat)
      case atStart => exact ⟨0, Nat.zero_le _, rfl, rfl⟩
      case round =>
        obtain ⟨j, hj, rfl, rfl⟩ := hrel
        by_cases hjl : j < aft.length
        · obtain ⟨ba, oa, rfl⟩ := hrow1.out.addr (by omega)
          have ca := Ints.at hrow1.out.get hjl
          have hle1 : ¬ (n : Int) < aft[j] := by have := Hl.out aft[j] (List.getElem_mem hjl); omega
          generalize aft[j] = y at *
          go_wp2_with fail
          go_roundw
          case rel => exact ⟨j + 1, by omega, by go_num, trivial⟩
          case measure => simp [Go.RowKit.intOf]; omega
        · go_wp2_with fail
          go_roundw
          case rel => exact ⟨k + 1, by omega, by go_num, hB1⟩
          case measure => simp [Go.RowKit.intOf]; omega
    · have hX4 := Lib.hid (blkN_below hB hX3.out)
      have q5 : wr.cell? ⟨w.heap.size, 0, none⟩ = some (.int .i64 (n : Int)) := (Lib.cell_of_heap hX4.out 0).trans rfl
      have hdel := Lib.hid (impl_DeleteL b3 o3 cap3 n rk L _ _ wr (Hns.out.ext (Nat.le_refl _) hB) hB.size (by have := Hn.out; omega) (by omega))
      have hBs := hB.size
      go_wp2_with fail
      refine hdel.out.mono ?_
      rintro e w5 ⟨rfl, hns5, hm⟩
      have B5 : Below w.heap.size w w5 := (B3.trans (hB.mono B3.size)).trans (hm.below B2.size (by have := B3.size; omega))
      have Hns5 := Lib.hid (hns5.widen (lo' := w.heap.size) (hi' := w5.heap.size) B2.size (by have := hm.size; omega))
      clear hns5 hm hdel
      go_wp2
      go_ret2
      exact ⟨_, _, rfl, Hns5.out, B5⟩
end Go.Proofs.YtijpghlkbfmefaaDoor
