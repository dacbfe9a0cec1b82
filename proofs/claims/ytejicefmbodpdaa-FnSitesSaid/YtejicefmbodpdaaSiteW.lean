/- Sites: validity, the program. -/
import Derived.Test.YtejicefmbodpdaaSiteV
namespace Go.Proofs.Ytejicefmbodpdaa
open Go.RowKit
set_option maxRecDepth 100000 in
set_option maxHeartbeats 8000000 in
theorem impl_SiteOk (s : SV) (rs : List CraneR) (L : SiteL) (lo hi : Nat) (w : World) (h : Cranes lo hi w s.v rs L) (hwf : L.wf) :
    Calls Try.prog 20 #[.agg #[s.v]] w fun e w' => e = .returned (.bool (siteB L)) ∧ Below w.heap.size w w' := by
  have hl1 := h.len
  have hcap : rs.length ≤ 9223372036854775807 := by obtain ⟨a, cap, _, hc, _⟩ := h.out; omega
  have Hs := Lib.hid h
  obtain ⟨⟨a, cap, hsv, hcp, -⟩, -, -⟩ := h
  generalize s.v = sv at *
  subst hsv
  rw [hl1] at hcap hcp ⊢
  have Hl1 := Lib.hid hl1
  have Hwf := Lib.hid hwf
  clear hl1 hwf
  obtain ⟨hcp1, hcp2⟩ := hcp
  have hba : Below w.heap.size w (w.alloc (.cells #[.slice a L.length cap] 26)) := (Below.refl _ _).alloc (Nat.le_refl _) _
  have hbx := Lib.hid (blkN_new w (.cells #[.slice a L.length cap] 26))
  go_enter Try.func20, Try.ntmps20
  go_wp2
  go_loopw [10] (fun i wr => ∃ k : Nat, k ≤ L.length ∧ i = .int .i64 k ∧ Below w.heap.size w wr ∧ Hid (wr.heap[w.heap.size]? = some (.cells #[.slice a L.length cap] 26 (0, 0))) ∧ Hid (∀ i (h : i < L.length), i < k → siteRow L i h)) (fun i _ => L.length - (intOf i).toNat)
  case atStart => exact ⟨0, Nat.zero_le _, rfl, hba, hbx, Lib.hid (fun _ _ h => absurd h (by omega))⟩
  case round =>
    clear hba hbx
    obtain ⟨k, hk, rfl, hB, hx, hall⟩ := hrel
    have cb : wr.cell? ⟨w.heap.size, 0, none⟩ = some (.slice a L.length cap) := by rw [Lib.cell_of_heap hx.out]; rfl
    have hbs := World.block_lt_of_cell? wr _ cb
    by_cases hlt : k < L.length
    · have hk1 : k < rs.length := by rw [Hl1.out]; exact hlt
      have hs : Cranes lo hi wr (.slice a L.length cap) rs L := by rw [← Hl1.out]; exact Hs.out.ext hB
      obtain ⟨hfl, hrow⟩ := hs.one hlt hk1
      obtain ⟨b, off, rfl⟩ := hs.out.addr (by omega)
      obtain ⟨c0, c1, c2, c3, c4, c5, c6⟩ := Cranes_at hs hk1
      rw [hfl] at c0 c1 c2 c3 c4 c5
      have hcall := fun w' (hb : Below wr.heap.size wr w') => impl_CraneOk L[k].1 rs[k].s L[k].2 lo hi w' (hrow.ext hb) (Hwf.out _ (List.getElem_mem hlt)).1.1
      simp only [CraneR.cells] at hcall
      clear hs hrow hfl
      generalize rs[k].s = sk at *
      obtain ⟨sa, sl, sc⟩ := sk
      simp only [SV.v] at hcall c6
      have hka : (k : Int) ≤ (cap : Int) := by omega
      have hkb : (0 : Int) ≤ (k : Int) := by omega
      cases hcb : craneB L[k].1 L[k].2
      · have Hd := Lib.hid (siteB_f (L := L) (fun h => craneB_ff hcb (h.1 k hlt).1))
        rw [hcb] at hcall
        have hcall := Lib.hid hcall
        clear hcb
        go_wp2_with (first | (go_at_call 21; refine (hcall.out _ ((Below.refl _ _).alloc (Nat.le_refl _) _)).mono ?_; rintro e w1 ⟨rfl, hb1⟩; have B1 := hB.trans ((((Below.refl _ wr).alloc (Nat.le_refl _) _).trans (hb1.mono (by simp))).mono hB.size)))
        go_ret
        rw [Hd.out]; exact ⟨rfl, B1⟩
      · have Hok := Lib.hid (craneB_iff.1 hcb)
        rw [hcb] at hcall
        have hcall := Lib.hid hcall
        clear hcb
        go_wp2_with (first | (go_at_call 21; refine (hcall.out _ ((Below.refl _ _).alloc (Nat.le_refl _) _)).mono ?_; rintro e w1 ⟨rfl, hb1⟩; have b1 := (((Below.refl _ wr).alloc (Nat.le_refl _) _).trans (hb1.mono (by simp))); have B1 := hB.trans (b1.mono hB.size); have hx1 := Lib.hid (blkN_below b1 hx.out); have hy1 := Lib.hid (blkN_below hb1 (blkN_new wr _)); have cb1 : w1.cell? ⟨w.heap.size, 0, none⟩ = some (.slice (some ⟨b, off, none⟩) L.length cap) := (by rw [Lib.cell_of_heap hx1.out]; rfl); clear hb1))
        generalize hq : wr.heap.size = q at *
        clear hq c0 c1 c2 c3 c4 c5 c6 cb hbs cb1 b1 hcall hx hB
        go_loopw [23] (fun i wr => ∃ j : Nat, j ≤ k ∧ i = .int .i64 j ∧ Below w.heap.size w wr ∧ Hid (wr.heap[w.heap.size]? = some (.cells #[.slice (some ⟨b, off, none⟩) L.length cap] 26 (0, 0))) ∧ Hid (wr.heap[q]? = some (.cells #[.string L[k].1.name, .int .i64 L[k].1.x, .int .i64 L[k].1.y, .int .i64 L[k].1.height, .int .i64 L[k].1.jib, .int .i64 L[k].1.back, .slice sa sl sc] 35 (0, 0))) ∧ Hid (∀ i (h : i < L.length), i < j → pairOk L[i].1 L[k].1)) (fun i _ => k - (intOf i).toNat)
        case atStart => exact ⟨0, Nat.zero_le _, rfl, B1, hx1, hy1, Lib.hid (fun _ _ h => absurd h (by omega))⟩
        case round =>
          obtain ⟨j, hj, rfl, hB2, hx2, hy2, hall2⟩ := hrel
          clear hx1 hy1 B1
          by_cases hjk : j < k
          · have hj1 : j < rs.length := by rw [Hl1.out]; omega
            have hjL : j < L.length := by omega
            have hs : Cranes lo hi wr (.slice (some ⟨b, off, none⟩) L.length cap) rs L := by rw [← Hl1.out]; exact Hs.out.ext hB2
            obtain ⟨hfj, -⟩ := hs.one hjL hj1
            obtain ⟨c0, c1, c2, c3, c4, c5, c6⟩ := Cranes_at hs hj1
            rw [hfj] at c0 c1 c2 c3 c4 c5
            have d0 : wr.cell? ⟨q, 0, none⟩ = some (.string L[k].1.name) := by rw [Lib.cell_of_heap hy2.out]; rfl
            have d1 : wr.cell? ⟨q, 1, none⟩ = some (.int .i64 L[k].1.x) := by rw [Lib.cell_of_heap hy2.out]; rfl
            have d2 : wr.cell? ⟨q, 2, none⟩ = some (.int .i64 L[k].1.y) := by rw [Lib.cell_of_heap hy2.out]; rfl
            have hbw := World.block_lt_of_cell? wr _ c0
            have hbq := World.block_lt_of_cell? wr _ d0
            have hp1 := (hall.out j hjL hjk).1.2.1
            have hp2 := Hok.out.2.1
            have Hstep := Lib.hid (pair_step hjL hall2.out)
            have Hbad := Lib.hid (fun (hn : ¬ pairOk L[j].1 L[k].1) => siteB_f (L := L) (fun h => hn ((h.1 k hlt).2 j hjk)))
            have hfar := fun w => impl_Near L[j].1.x L[j].1.y L[k].1.x L[k].1.y w hp1 hp2
            clear hs hfj hp1 hp2
            generalize rs[j].s = sj at *
            obtain ⟨ta, tl, tc⟩ := sj
            simp only [SV.v] at c6
            generalize L[j].1 = f at *
            by_cases hn : f.name = L[k].1.name
            · have hne := str_eq hn
              have Hd := Lib.hid (Hbad.out (fun h => h.1 hn))
              clear hn hfar
              go_wp2
              go_ret
              rw [Hd.out]; exact ⟨rfl, hB2.alloc hB2.size _⟩
            · have hne := str_ne hn
              by_cases hd : 100 < sq4 f.x f.y L[k].1.x L[k].1.y
              · rw [decide_eq_false (show ¬ sq4 f.x f.y L[k].1.x L[k].1.y ≤ 100 by omega)] at hfar
                have hfar := Lib.hid hfar
                have Hd := Lib.hid (Hstep.out ⟨hn, hd⟩)
                clear hn hd
                go_wp2_with (first | (go_at_call 25; refine (hfar.out _).mono ?_; rintro e w3 ⟨rfl, hb3⟩; have b3 := (((Below.refl _ wr).alloc (Nat.le_refl _) _).trans (hb3.mono (by simp))); have B3 := hB2.trans (b3.mono hB2.size)))
                go_roundw
                case rel => exact ⟨j + 1, by omega, by go_num, B3, Lib.hid (blkN_below b3 hx2.out), Lib.hid (blkN_below b3 hy2.out), Hd⟩
                case measure => simp [intOf]; omega
              · rw [decide_eq_true (show sq4 f.x f.y L[k].1.x L[k].1.y ≤ 100 by omega)] at hfar
                have hfar := Lib.hid hfar
                have Hd := Lib.hid (Hbad.out (fun h => hd h.2))
                clear hn hd
                go_wp2_with (first | (go_at_call 25; refine (hfar.out _).mono ?_; rintro e w3 ⟨rfl, hb3⟩; have b3 := (((Below.refl _ wr).alloc (Nat.le_refl _) _).trans (hb3.mono (by simp))); have B3 := hB2.trans (b3.mono hB2.size)))
                go_ret
                rw [Hd.out]; exact ⟨rfl, B3⟩
          · have hjk2 : j = k := by omega
            subst hjk2
            have Hd := Lib.hid (site_step hlt hall.out ⟨Hok.out, fun i hi => hall2.out i (by omega) hi⟩)
            go_wp2
            go_roundw
            case rel => exact ⟨j + 1, by omega, by go_num, hB2, hx2, Hd⟩
            case measure => simp [intOf]; omega
    · have hkk : k = L.length := by omega
      subst hkk
      by_cases hr : 1 ≤ L.length ∧ L.length ≤ 6
      · have Hd := Lib.hid (siteB_t (L := L) ⟨fun i h => hall.out i h h, hr.1, hr.2⟩)
        obtain ⟨hr1, hr2⟩ := hr
        go_wp2
        go_ret
        rw [Hd.out]; exact ⟨ret_bool (by first | exact decide_eq_true (by omega) | exact decide_eq_false (by omega) | rfl), hB⟩
      · have Hd := Lib.hid (siteB_f (L := L) (fun h => hr ⟨h.2.1, h.2.2⟩))
        have hr2 : L.length < 1 ∨ 6 < L.length := by omega
        clear hr
        rcases hr2 with hr2 | hr2
        · go_wp2
          go_ret
          rw [Hd.out]; exact ⟨ret_bool (by first | exact decide_eq_true (by omega) | exact decide_eq_false (by omega) | rfl), hB⟩
        · go_wp2
          go_ret
          rw [Hd.out]; exact ⟨ret_bool (by first | exact decide_eq_true (by omega) | exact decide_eq_false (by omega) | rfl), hB⟩
end Go.Proofs.Ytejicefmbodpdaa
