/- Lift: the laws' helpers (toS). -/
import Derived.Test.YtimggihbldeleaaTLiftto
import Derived.Test.YtimggihbldeleaaTLift
namespace Go.Proofs.Ytimggihbldeleaa
open Go.RowKit Go.WideShapes Go.ChangeShapes Go.Deep
theorem info_Lift : (Try.prog.info? 70).map (fun i => (i.zero.isSome, i.size, i.bytes)) = some (true, 9, 96) := by kernel_rfl
set_option maxRecDepth 100000 in
set_option maxHeartbeats 8000000 in
theorem law_toLiftS (v : Value) (rs0 : List LiftR) (L : List (LiftF × List Int)) (lo hi : Nat) (w : World) (h : Lifts lo hi w v rs0 L) (hn : L.length + totN (fun f : LiftF => f.name.size) L ≤ 1048576) :
    Calls Try.prog 32 #[v] w fun e w' => ∃ v' rs, e = .returned v' ∧ LiftW w.heap.size w'.heap.size w' v' rs L ∧ Below w.heap.size w w' := by
  obtain ⟨cs, hmk, hcs⟩ := make_rows (P := Try.prog) 25 70 9 96 (by simp) info_Lift L.length (by omega) (by omega) w
  obtain ⟨f0, hf0⟩ := rowIs_made (w := w) (t := 70) hcs
  have Hf0 := Lib.hid hf0
  clear hf0 hcs
  have hl1 := h.len
  have Hs := Lib.hid h
  obtain ⟨⟨a, cap, rfl, _⟩, _, _⟩ := h
  rw [hl1]
  have Hl1 := Lib.hid hl1
  clear hl1
  have hLb : L.length ≤ 1048576 := by omega
  have Hn := Lib.hid hn
  clear hn
  go_enter Try.func32, Try.ntmps32
  go_wp2
  go_loopw [4] (fun i wr => ∃ k : Nat, k ≤ L.length ∧ i = .int .i64 k ∧ Below w.heap.size w wr ∧ ∃ f rs, Hid (wr.rowIs w.heap.size 70 (L.length * 9) f) ∧ Hid (rs.length = k) ∧ Hid (FillN 9 LiftR.cells rs f) ∧ Hid (CopiedN LiftR.f LiftR.s 1 intCells w.heap.size wr rs L)) (fun i _ => L.length - (intOf i).toNat)
  case atStart => exact ⟨0, Nat.zero_le _, rfl, (Below.refl _ _).alloc (Nat.le_refl _) _, f0, [], Hf0, Lib.hid rfl, Lib.hid fillN_nil, Lib.hid copiedN_nil⟩
  case round =>
    obtain ⟨k, hk, rfl, hB, f, rs, hf, hrl, hfill, hcop⟩ := hrel
    by_cases hlt : k < L.length
    · have hlt2 := hf.out.lt
      have hk1 : k < rs0.length := by rw [Hl1.out]; exact hlt
      have hs : Lifts lo hi wr (.slice a L.length cap) rs0 L := by rw [← Hl1.out]; exact Hs.out.ext hB
      obtain ⟨hfl, hrow⟩ := hs.one hlt hk1
      have hrlen : L[k].2.length ≤ 1048576 := by have h1 := totN_take (fun f : LiftF => f.name.size) hlt; have h2 := totN_le (fun f : LiftF => f.name.size) L (k + 1); have := Hn.out; omega
      have hcall := law_toLift rs0[k] L[k].2 lo hi wr hrow hrlen
      obtain ⟨b, off, rfl⟩ := hs.out.addr (by omega)
      obtain ⟨c0, c1, c2, c3, c4, c5, c6, c7, c8⟩ := Lifts_at hs hk1
      have Hfl := Lib.hid hfl
      clear hs hrow hmk hfl hrlen
      generalize rs0[k] = r at *
      obtain ⟨⟨x0, x1, x2, x3, x4, x5, x6, x7⟩, ⟨sa, sl, sc⟩⟩ := r
      simp only [LiftR.cells, SV.v] at hcall c0 c1 c2 c3 c4 c5 c6 c7 c8
      have hcall := Lib.hid hcall
      go_wp2_with fail
      refine hcall.out.mono ?_
      rintro e w1 ⟨⟨va, vl, vc⟩, rfl, hs1, hb1⟩
      simp only [LiftR.cells, SV.v]
      have hr1 := hf.out.of_block (hb1.block _ hlt2)
      have d0 := hr1.cell (i := k * 9) (by omega)
      have e0 := hr1.frozen (k * 9)
      have d1 := hr1.cell (i := k * 9 + 1) (by omega)
      have e1 := hr1.frozen (k * 9 + 1)
      have d2 := hr1.cell (i := k * 9 + 2) (by omega)
      have e2 := hr1.frozen (k * 9 + 2)
      have d3 := hr1.cell (i := k * 9 + 3) (by omega)
      have e3 := hr1.frozen (k * 9 + 3)
      have d4 := hr1.cell (i := k * 9 + 4) (by omega)
      have e4 := hr1.frozen (k * 9 + 4)
      have d5 := hr1.cell (i := k * 9 + 5) (by omega)
      have e5 := hr1.frozen (k * 9 + 5)
      have d6 := hr1.cell (i := k * 9 + 6) (by omega)
      have e6 := hr1.frozen (k * 9 + 6)
      have d7 := hr1.cell (i := k * 9 + 7) (by omega)
      have e7 := hr1.frozen (k * 9 + 7)
      have d8 := hr1.cell (i := k * 9 + 8) (by omega)
      have e8 := hr1.frozen (k * 9 + 8)
      have Hr1 := Lib.hid hr1
      have Hs1 := Lib.hid hs1
      clear hr1 hs1
      go_wp2
      go_roundw
      case rel =>
        have hkk := hrl.out
        subst hkk
        refine ⟨rs.length + 1, by omega, by go_num, ((((((((((hB.trans (hb1.mono (by omega))).setCell (Nat.le_refl _) _).setCell (Nat.le_refl _) _).setCell (Nat.le_refl _) _).setCell (Nat.le_refl _) _).setCell (Nat.le_refl _) _).setCell (Nat.le_refl _) _).setCell (Nat.le_refl _) _).setCell (Nat.le_refl _) _).setCell (Nat.le_refl _) _), _, rs ++ [⟨⟨x0, x1, x2, x3, x4, x5, x6, x7⟩, ⟨va, vl, vc⟩⟩], Lib.hid ((((((((((Hr1.out).set _ _).set _ _).set _ _).set _ _).set _ _).set _ _).set _ _).set _ _).set _ _), Lib.hid (by simp), Lib.hid (hfill.out.push LiftR.len (upd9 _ _ _ _ _ _ _ _ _ _ _)), Lib.hid (hcop.out.push (r := ⟨⟨x0, x1, x2, x3, x4, x5, x6, x7⟩, ⟨va, vl, vc⟩⟩) hlt hlt2 hb1 ⟨Hfl.out, Hs1.out⟩ ((((((((((Mod.refl w.heap.size (w.heap.size + 1) w1).setCell (p := ⟨w.heap.size, rs.length * 9, none⟩) (Nat.le_refl _) (Nat.lt_succ_self _) _).setCell (p := ⟨w.heap.size, rs.length * 9 + 1, none⟩) (Nat.le_refl _) (Nat.lt_succ_self _) _).setCell (p := ⟨w.heap.size, rs.length * 9 + 2, none⟩) (Nat.le_refl _) (Nat.lt_succ_self _) _).setCell (p := ⟨w.heap.size, rs.length * 9 + 3, none⟩) (Nat.le_refl _) (Nat.lt_succ_self _) _).setCell (p := ⟨w.heap.size, rs.length * 9 + 4, none⟩) (Nat.le_refl _) (Nat.lt_succ_self _) _).setCell (p := ⟨w.heap.size, rs.length * 9 + 5, none⟩) (Nat.le_refl _) (Nat.lt_succ_self _) _).setCell (p := ⟨w.heap.size, rs.length * 9 + 6, none⟩) (Nat.le_refl _) (Nat.lt_succ_self _) _).setCell (p := ⟨w.heap.size, rs.length * 9 + 7, none⟩) (Nat.le_refl _) (Nat.lt_succ_self _) _).setCell (p := ⟨w.heap.size, rs.length * 9 + 8, none⟩) (Nat.le_refl _) (Nat.lt_succ_self _) _))⟩
      case measure => simp [intOf]; omega
    · have : k = L.length := by omega
      subst this
      have Hfin := Lib.hid (hcop.out.whole hrl.out hf.out hfill.out LiftR.len (by omega))
      go_wp2
      go_ret
      exact ⟨_, _, rfl, Hfin.out, hB⟩
end Go.Proofs.Ytimggihbldeleaa
