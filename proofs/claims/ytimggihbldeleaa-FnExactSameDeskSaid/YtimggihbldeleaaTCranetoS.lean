/- Crane: the laws' helpers (toS). -/
import Derived.Test.YtimggihbldeleaaTCraneto
import Derived.Test.YtimggihbldeleaaTCrane
namespace Go.Proofs.Ytimggihbldeleaa
open Go.RowKit Go.WideShapes Go.ChangeShapes Go.Deep
theorem info_Crane : (Try.prog.info? 51).map (fun i => (i.zero.isSome, i.size, i.bytes)) = some (true, 7, 80) := by kernel_rfl
set_option maxRecDepth 100000 in
set_option maxHeartbeats 8000000 in
theorem law_toCraneS (v : Value) (rs0 : List CraneR) (L : List (CraneF × List Chs)) (lo hi : Nat) (w : World) (h : Cranes lo hi w v rs0 L) (hn : L.length + totN (fun f : CraneF => f.name.size) L ≤ 1048576) :
    Calls Try.prog 47 #[v] w fun e w' => ∃ v' rs, e = .returned v' ∧ CraneW w.heap.size w'.heap.size w' v' rs L ∧ Below w.heap.size w w' := by
  obtain ⟨cs, hmk, hcs⟩ := make_rows (P := Try.prog) 22 51 7 80 (by simp) info_Crane L.length (by omega) (by omega) w
  obtain ⟨f0, hf0⟩ := rowIs_made (w := w) (t := 51) hcs
  have Hf0 := Lib.hid hf0
  clear hf0 hcs
  have hl1 := h.len
  have Hs := Lib.hid h
  obtain ⟨⟨a, cap, rfl, _⟩, _, _⟩ := h
  rw [hl1]
  have Hl1 := Lib.hid hl1
  clear hl1
  have hLb : L.length ≤ 1048576 := by omega
  have Hn := Lib.hid hn
  clear hn
  go_enter Try.func47, Try.ntmps47
  go_wp2
  go_loopw [4] (fun i wr => ∃ k : Nat, k ≤ L.length ∧ i = .int .i64 k ∧ Below w.heap.size w wr ∧ ∃ f rs, Hid (wr.rowIs w.heap.size 51 (L.length * 7) f) ∧ Hid (rs.length = k) ∧ Hid (FillN 7 CraneR.cells rs f) ∧ Hid (CopiedN CraneR.f CraneR.s 2 Chs.cells w.heap.size wr rs L)) (fun i _ => L.length - (intOf i).toNat)
  case atStart => exact ⟨0, Nat.zero_le _, rfl, (Below.refl _ _).alloc (Nat.le_refl _) _, f0, [], Hf0, Lib.hid rfl, Lib.hid fillN_nil, Lib.hid copiedN_nil⟩
  case round =>
    obtain ⟨k, hk, rfl, hB, f, rs, hf, hrl, hfill, hcop⟩ := hrel
    by_cases hlt : k < L.length
    · have hlt2 := hf.out.lt
      have hk1 : k < rs0.length := by rw [Hl1.out]; exact hlt
      have hs : Cranes lo hi wr (.slice a L.length cap) rs0 L := by rw [← Hl1.out]; exact Hs.out.ext hB
      obtain ⟨hfl, hrow⟩ := hs.one hlt hk1
      have hrlen : L[k].2.length ≤ 1048576 := by have h1 := totN_take (fun f : CraneF => f.name.size) hlt; have h2 := totN_le (fun f : CraneF => f.name.size) L (k + 1); have := Hn.out; omega
      have hcall := law_toCrane rs0[k] L[k].2 lo hi wr hrow hrlen
      obtain ⟨b, off, rfl⟩ := hs.out.addr (by omega)
      obtain ⟨c0, c1, c2, c3, c4, c5, c6⟩ := Cranes_at hs hk1
      have Hfl := Lib.hid hfl
      clear hs hrow hmk hfl hrlen
      generalize rs0[k] = r at *
      obtain ⟨⟨x0, x1, x2, x3, x4, x5⟩, ⟨sa, sl, sc⟩⟩ := r
      simp only [CraneR.cells, SV.v] at hcall c0 c1 c2 c3 c4 c5 c6
      have hcall := Lib.hid hcall
      go_wp2_with fail
      refine hcall.out.mono ?_
      rintro e w1 ⟨⟨va, vl, vc⟩, rfl, hs1, hb1⟩
      simp only [CraneR.cells, SV.v]
      have hr1 := hf.out.of_block (hb1.block _ hlt2)
      have d0 := hr1.cell (i := k * 7) (by omega)
      have e0 := hr1.frozen (k * 7)
      have d1 := hr1.cell (i := k * 7 + 1) (by omega)
      have e1 := hr1.frozen (k * 7 + 1)
      have d2 := hr1.cell (i := k * 7 + 2) (by omega)
      have e2 := hr1.frozen (k * 7 + 2)
      have d3 := hr1.cell (i := k * 7 + 3) (by omega)
      have e3 := hr1.frozen (k * 7 + 3)
      have d4 := hr1.cell (i := k * 7 + 4) (by omega)
      have e4 := hr1.frozen (k * 7 + 4)
      have d5 := hr1.cell (i := k * 7 + 5) (by omega)
      have e5 := hr1.frozen (k * 7 + 5)
      have d6 := hr1.cell (i := k * 7 + 6) (by omega)
      have e6 := hr1.frozen (k * 7 + 6)
      have Hr1 := Lib.hid hr1
      have Hs1 := Lib.hid hs1
      clear hr1 hs1
      go_wp2
      go_roundw
      case rel =>
        have hkk := hrl.out
        subst hkk
        refine ⟨rs.length + 1, by omega, by go_num, ((((((((hB.trans (hb1.mono (by omega))).setCell (Nat.le_refl _) _).setCell (Nat.le_refl _) _).setCell (Nat.le_refl _) _).setCell (Nat.le_refl _) _).setCell (Nat.le_refl _) _).setCell (Nat.le_refl _) _).setCell (Nat.le_refl _) _), _, rs ++ [⟨⟨x0, x1, x2, x3, x4, x5⟩, ⟨va, vl, vc⟩⟩], Lib.hid ((((((((Hr1.out).set _ _).set _ _).set _ _).set _ _).set _ _).set _ _).set _ _), Lib.hid (by simp), Lib.hid (hfill.out.push CraneR.len (upd7 _ _ _ _ _ _ _ _ _)), Lib.hid (hcop.out.push (r := ⟨⟨x0, x1, x2, x3, x4, x5⟩, ⟨va, vl, vc⟩⟩) hlt hlt2 hb1 ⟨Hfl.out, Hs1.out⟩ ((((((((Mod.refl w.heap.size (w.heap.size + 1) w1).setCell (p := ⟨w.heap.size, rs.length * 7, none⟩) (Nat.le_refl _) (Nat.lt_succ_self _) _).setCell (p := ⟨w.heap.size, rs.length * 7 + 1, none⟩) (Nat.le_refl _) (Nat.lt_succ_self _) _).setCell (p := ⟨w.heap.size, rs.length * 7 + 2, none⟩) (Nat.le_refl _) (Nat.lt_succ_self _) _).setCell (p := ⟨w.heap.size, rs.length * 7 + 3, none⟩) (Nat.le_refl _) (Nat.lt_succ_self _) _).setCell (p := ⟨w.heap.size, rs.length * 7 + 4, none⟩) (Nat.le_refl _) (Nat.lt_succ_self _) _).setCell (p := ⟨w.heap.size, rs.length * 7 + 5, none⟩) (Nat.le_refl _) (Nat.lt_succ_self _) _).setCell (p := ⟨w.heap.size, rs.length * 7 + 6, none⟩) (Nat.le_refl _) (Nat.lt_succ_self _) _))⟩
      case measure => simp [intOf]; omega
    · have : k = L.length := by omega
      subst this
      have Hfin := Lib.hid (hcop.out.whole hrl.out hf.out hfill.out CraneR.len (by omega))
      go_wp2
      go_ret
      exact ⟨_, _, rfl, Hfin.out, hB⟩
end Go.Proofs.Ytimggihbldeleaa
