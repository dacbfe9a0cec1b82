/- Sites: validity, the reference. -/
import Derived.Test.YtejicefmbodpdaaSq
import Derived.Test.YtejicefmbodpdaaTSite
namespace Go.Proofs.Ytejicefmbodpdaa
open Go.RowKit
def pairOk (a b : CraneF) : Prop := ¬ a.name = b.name ∧ 100 < sq4 a.x a.y b.x b.y
def siteRow (L : SiteL) (i : Nat) (h : i < L.length) : Prop := craneOk L[i].1 L[i].2 ∧ ∀ j (hj : j < i), pairOk L[j].1 L[i].1
def siteOk (L : SiteL) : Prop := (∀ i (h : i < L.length), siteRow L i h) ∧ 1 ≤ L.length ∧ L.length ≤ 6
open Classical in
noncomputable def siteB (L : SiteL) : Bool := decide (siteOk L)
theorem siteB_t {L : SiteL} (h : siteOk L) : siteB L = true := by classical exact decide_eq_true h
theorem siteB_f {L : SiteL} (h : ¬ siteOk L) : siteB L = false := by classical exact decide_eq_false h
theorem siteB_iff {L : SiteL} : siteB L = true ↔ siteOk L := ⟨fun h => by classical exact of_decide_eq_true h, siteB_t⟩
theorem site_step {L : SiteL} {k : Nat} (hlt : k < L.length) (h : ∀ i (h : i < L.length), i < k → siteRow L i h) (hk : siteRow L k hlt) : ∀ i (h : i < L.length), i < k + 1 → siteRow L i h := by
  intro i hi hik
  by_cases e : i < k
  · exact h i hi e
  · have : i = k := by omega
    subst this; exact hk
theorem pair_step {L : SiteL} {k : Nat} {g : CraneF} (hlt : k < L.length) (h : ∀ i (h : i < L.length), i < k → pairOk L[i].1 g) (hk : pairOk L[k].1 g) : ∀ i (h : i < L.length), i < k + 1 → pairOk L[i].1 g := by
  intro i hi hik
  by_cases e : i < k
  · exact h i hi e
  · have : i = k := by omega
    subst this; exact hk
theorem craneB_ff {f : CraneF} {l : List Chs} (h : craneB f l = false) : ¬ craneOk f l := fun h2 => by rw [craneB_t h2] at h; cases h
set_option maxRecDepth 100000 in
set_option maxHeartbeats 8000000 in
theorem spec_SiteOk (b0 : Nat) (v : Value) (rs : List CraneR) (L : SiteL) (lo hi : Nat) (w : World) (hc0 : w.cell? ⟨b0, 0, none⟩ = some v) (h : Cranes lo hi w v rs L) (hwf : L.wf) :
    Calls Try.prog 28 #[.pointer (some ⟨b0, 0, none⟩)] w fun e w' => e = .returned (.bool (siteB L)) ∧ Below w.heap.size w w' := by
  have hl1 := h.len
  have hcap : rs.length ≤ 9223372036854775807 := by obtain ⟨a, cap, _, hc, _⟩ := h.out; omega
  have Hs := Lib.hid h
  obtain ⟨⟨a, cap, rfl, _⟩, _, _⟩ := h
  rw [hl1] at hcap hc0
  have Hl1 := Lib.hid hl1
  have hb0 := World.block_lt_of_cell? w _ hc0
  have Hc0 := Lib.hid hc0
  have Hwf := Lib.hid hwf
  clear hl1 hwf hc0
  go_enter Try.func28, Try.ntmps28
  go_wp2
  go_loopw [3] (fun i wr => ∃ k : Nat, k ≤ L.length ∧ i = .int .i64 k ∧ Below w.heap.size w wr ∧ Hid (∀ i (h : i < L.length), i < k → siteRow L i h)) (fun i _ => L.length - (intOf i).toNat)
  case atStart => exact ⟨0, Nat.zero_le _, rfl, Below.refl _ _, Lib.hid (fun _ _ h => absurd h (by omega))⟩
  case round =>
    obtain ⟨k, hk, rfl, hB, hall⟩ := hrel
    have cb := (hB.cell (p := ⟨b0, 0, none⟩) hb0).trans Hc0.out
    by_cases hlt : k < L.length
    · have hk1 : k < rs.length := by rw [Hl1.out]; exact hlt
      have hs : Cranes lo hi wr (.slice a L.length cap) rs L := by rw [← Hl1.out]; exact Hs.out.ext hB
      obtain ⟨hfl, hrow⟩ := hs.one hlt hk1
      obtain ⟨b, off, rfl⟩ := hs.out.addr (by omega)
      have hcc := hs.at hk1
      rw [show CraneR.cells rs[k] = [.string L[k].1.name, .int .i64 L[k].1.x, .int .i64 L[k].1.y, .int .i64 L[k].1.height, .int .i64 L[k].1.jib, .int .i64 L[k].1.back, rs[k].s.v] by unfold CraneR.cells; rw [hfl]] at hcc
      have hcall := spec_CraneOk b (off + k * 7) L[k].1 rs[k].s.v L[k].2 lo hi wr hcc hrow (Hwf.out _ (List.getElem_mem hlt)).1.1
      clear hs hcc hrow hfl
      cases hcb : craneB L[k].1 L[k].2
      · have Hd := Lib.hid (siteB_f (L := L) (fun h => craneB_ff hcb (h.1 k hlt).1))
        rw [hcb] at hcall
        have hcall := Lib.hid hcall
        clear hcb
        go_wp2_with fail
        refine hcall.out.mono ?_
        rintro e w1 ⟨rfl, hb1⟩
        go_wp2
        go_ret
        rw [Hd.out]; exact ⟨rfl, hB.trans (hb1.mono hB.size)⟩
      · have Hok := Lib.hid (craneB_iff.1 hcb)
        rw [hcb] at hcall
        have hcall := Lib.hid hcall
        clear hcb
        go_wp2_with fail
        refine hcall.out.mono ?_
        rintro e w1 ⟨rfl, hb1⟩
        have hB1 := hB.trans (hb1.mono hB.size)
        clear hb1 hcall cb
        go_wp2
        go_loopw [4] (fun i wr => ∃ j : Nat, j ≤ k ∧ i = .int .i64 j ∧ Below w.heap.size w wr ∧ Hid (∀ i (h : i < L.length), i < j → pairOk L[i].1 L[k].1)) (fun i _ => k - (intOf i).toNat)
        case atStart => exact ⟨0, Nat.zero_le _, rfl, hB1, Lib.hid (fun _ _ h => absurd h (by omega))⟩
        case round =>
          obtain ⟨j, hj, rfl, hB2, hall2⟩ := hrel
          have cb := (hB2.cell (p := ⟨b0, 0, none⟩) hb0).trans Hc0.out
          by_cases hjk : j < k
          · have hj1 : j < rs.length := by rw [Hl1.out]; omega
            have hjL : j < L.length := by omega
            have hs : Cranes lo hi wr (.slice (some ⟨b, off, none⟩) L.length cap) rs L := by rw [← Hl1.out]; exact Hs.out.ext hB2
            obtain ⟨hfj, -⟩ := hs.one hjL hj1
            obtain ⟨hfk, -⟩ := hs.one hlt hk1
            obtain ⟨c0, c1, c2, -⟩ := Cranes_at hs hj1
            obtain ⟨d0, d1, d2, -⟩ := Cranes_at hs hk1
            rw [hfj] at c0 c1 c2
            rw [hfk] at d0 d1 d2
            have hbw := World.block_lt_of_cell? wr _ c0
            have hbw0 := World.block_lt_of_cell? wr _ cb
            have hp1 := (hall.out j hjL hjk).1.2.1
            have hp2 := Hok.out.2.1
            have Hstep := Lib.hid (pair_step hjL hall2.out)
            have Hbad := Lib.hid (fun (hn : ¬ pairOk L[j].1 L[k].1) => siteB_f (L := L) (fun h => hn ((h.1 k hlt).2 j hjk)))
            have hfar := fun w => spec_Far L[j].1.x L[j].1.y L[k].1.x L[k].1.y w hp1 hp2
            clear hs hfj hfk hp1 hp2 Hok
            generalize L[j].1 = f at *
            generalize L[k].1 = g at *
            by_cases hn : f.name = g.name
            · have hne := str_eq hn
              have Hd := Lib.hid (Hbad.out (fun h => h.1 hn))
              clear hn hfar
              go_wp2_with fail
              go_quiet (fail)
              go_wp2
              go_ret
              rw [Hd.out]; exact ⟨rfl, below_dN hB2 _⟩
            · have hne := str_ne hn
              by_cases hd : 100 < sq4 f.x f.y g.x g.y
              · rw [decide_eq_true hd] at hfar
                have hfar := Lib.hid hfar
                have Hd := Lib.hid (Hstep.out ⟨hn, hd⟩)
                clear hn hd
                go_wp2_with fail
                go_region_held3 (fun w' => (∀ b' o', b' < wr.heap.size → w'.cell? ⟨b', o', none⟩ = wr.cell? ⟨b', o', none⟩) ∧ Below wr.heap.size wr w') (first | (refine heldB ?_; go_grown; done))
                  (first | (go_at_call 35; refine (hfar.out _).mono ?_; rintro e w3 ⟨rfl, hb3'⟩; have b3 : Below wr.heap.size wr w3 := Below.trans (by go_grown) (hb3'.mono (by go_size)); have q3 := (bcell b3).1; have B3 := hB2.trans (b3.mono hB2.size)))
                go_wp2
                go_roundw
                case rel => exact ⟨j + 1, by omega, by go_num, B3, Hd⟩
                case measure => simp [intOf]; omega
              · rw [decide_eq_false hd] at hfar
                have hfar := Lib.hid hfar
                have Hd := Lib.hid (Hbad.out (fun h => hd h.2))
                clear hn hd
                go_wp2_with fail
                go_region_held3 (fun w' => (∀ b' o', b' < wr.heap.size → w'.cell? ⟨b', o', none⟩ = wr.cell? ⟨b', o', none⟩) ∧ Below wr.heap.size wr w') (first | (refine heldB ?_; go_grown; done))
                  (first | (go_at_call 35; refine (hfar.out _).mono ?_; rintro e w3 ⟨rfl, hb3'⟩; have b3 : Below wr.heap.size wr w3 := Below.trans (by go_grown) (hb3'.mono (by go_size)); have q3 := (bcell b3).1; have B3 := hB2.trans (b3.mono hB2.size)))
                go_wp2
                go_ret
                rw [Hd.out]; exact ⟨rfl, B3⟩
          · have hjk2 : j = k := by omega
            subst hjk2
            have Hd := Lib.hid (site_step hlt hall.out ⟨Hok.out, fun i hi => hall2.out i (by omega) hi⟩)
            go_wp2
            go_roundw
            case rel => exact ⟨j + 1, by omega, by go_num, hB2, Hd⟩
            case measure => simp [intOf]; omega
    · have hkk : k = L.length := by omega
      subst hkk
      by_cases hr : 1 ≤ L.length ∧ L.length ≤ 6
      · have Hd := Lib.hid (siteB_t (L := L) ⟨fun i h => hall.out i h h, hr.1, hr.2⟩)
        obtain ⟨hr1, hr2⟩ := hr
        go_wp2_with (go_at_call 51; refine (spec_In_t _ _ _ _ (by omega) (by omega)).mono ?_; rintro e w' ⟨rfl, rfl⟩)
        go_ret
        rw [Hd.out]; exact ⟨rfl, hB⟩
      · have Hd := Lib.hid (siteB_f (L := L) (fun h => hr ⟨h.2.1, h.2.2⟩))
        go_wp2_with (go_at_call 51; refine (spec_In_f _ _ _ _ (by omega)).mono ?_; rintro e w' ⟨rfl, rfl⟩)
        go_ret
        rw [Hd.out]; exact ⟨rfl, hB⟩
end Go.Proofs.Ytejicefmbodpdaa
