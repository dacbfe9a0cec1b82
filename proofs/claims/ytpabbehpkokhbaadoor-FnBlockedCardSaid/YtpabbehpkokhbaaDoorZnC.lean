/- Zones, the reference: whether a zone is valid. -/
import Derived.Test.YtpabbehpkokhbaaDoorZnB
import Derived.Test.YtpabbehpkokhbaaDoorPh
namespace Go.Proofs.YtpabbehpkokhbaaDoor
open Go.RowKit
/-- The cells of a zone. -/
def ZAt (b o : Nat) (f : ZoneF) (s : SV) (w : World) : Prop := ∀ j u, (ZoneR.cells ⟨f, s⟩)[j]? = some u → w.cell? ⟨b, o + j, none⟩ = some u
theorem ZAt.below {b o : Nat} {f : ZoneF} {s : SV} {w w' : World} (h : ZAt b o f s w) (hb : Below w.heap.size w w') : ZAt b o f s w' := fun j u hu =>
  (hb.cell (p := ⟨b, o + j, none⟩) (World.block_lt_of_cell? w _ (h j u hu))).trans (h j u hu)
theorem ZAt.c {b o : Nat} {f : ZoneF} {s : SV} {w : World} (h : ZAt b o f s w) : w.cell? ⟨b, o, none⟩ = some (.int .i64 f.kind) ∧ w.cell? ⟨b, o + 1, none⟩ = some (.int .i64 f.storeys) ∧ w.cell? ⟨b, o + 2, none⟩ = some (.int .i64 f.each) ∧ w.cell? ⟨b, o + 3, none⟩ = some s.v :=
  ⟨h 0 _ rfl, h 1 _ rfl, h 2 _ rfl, h 3 _ rfl⟩
theorem conv_iff {C : List Pnt} (h : 3 ≤ C.length) : convB C = true ↔ Conv C := convB_iff.trans ⟨fun h2 => ⟨h, h2⟩, fun h2 => h2.2⟩
set_option maxRecDepth 100000 in
set_option maxHeartbeats 8000000 in
theorem spec_ZOk (b o : Nat) (f : ZoneF) (s : SV) (C : List Pnt) (lo hi : Nat) (w : World) (hc : ZAt b o f s w) (h : Pnts lo hi w s.v C) (hl : C.length ≤ 1024) :
    Calls Tryd.prog 36 #[.pointer (some ⟨b, o, none⟩)] w fun e w' => e = .returned (.bool (zoneB f C)) ∧ Below w.heap.size w w' := by
  obtain ⟨m, hm⟩ : ∃ m, m = zoneB f C := ⟨_, rfl⟩
  have Hm := Lib.hid (show m = true ↔ zoneOk f C by rw [hm]; exact zoneB_iff)
  rw [← hm]
  clear hm
  have HT := Lib.hid (fun (hp : ∀ p ∈ C, Pl p.x p.y) W (hb : Below w.heap.size w W) => spec_Turns s.v C lo hi W (h.ext hb) (fun p hp' => pl_crd (hp p hp')) hl)
  have Hh := Lib.hid h
  have Hc := Lib.hid hc
  obtain ⟨c0, c1, c2, c3⟩ := hc.c
  obtain ⟨a, cap, hv, hcp, -⟩ := h
  obtain ⟨sa, sl, sc⟩ := s
  simp only [SV.v] at *
  obtain rfl : C.length = sl := by cases hv; rfl
  obtain ⟨x0, x1, x2⟩ := f
  dsimp only at *
  clear hc hv
  by_cases hk : 1 ≤ x0 ∧ x0 ≤ 3
  · obtain ⟨hk1, hk2⟩ := hk
    by_cases hn : 3 ≤ C.length ∧ C.length ≤ 12
    · obtain ⟨hn1, hn2⟩ := hn
      go_enter Tryd.func36, Tryd.ntmps36
      go_wp2_with (go_at_call 58; first | (refine (spec_In_t _ _ _ _ (by omega) (by omega)).mono ?_; rintro e w' ⟨rfl, rfl⟩) | (refine (spec_In_f _ _ _ _ (by omega)).mono ?_; rintro e w' ⟨rfl, rfl⟩))
      go_loopw [3] (fun i wr => ∃ k : Nat, k ≤ C.length ∧ i = .int .i64 k ∧ Hid (∀ i (h : i < C.length), i < k → Pl C[i].x C[i].y) ∧ Below w.heap.size w wr) (fun i _ => C.length - (Go.RowKit.intOf i).toNat)
      case atStart => exact ⟨0, Nat.zero_le _, rfl, Lib.hid (fun i _ h => absurd h (by omega)), Below.refl _ _⟩
      case round =>
        clear c0 c1 c2 c3
        obtain ⟨k, hk, rfl, hall, hB⟩ := hrel
        obtain ⟨c0, c1, c2, c3⟩ := (Hc.out.below hB).c
        simp only [SV.v] at c3
        dsimp only at c0 c1 c2
        have hbw := World.block_lt_of_cell? wr _ c0
        by_cases hlt : k < C.length
        · have hltI : (k : Int) < (C.length : Int) := by omega
          have hPj := Hh.out.ext hB
          obtain ⟨bb, oo, rfl⟩ := hPj.addr (by omega)
          obtain ⟨d0, d1⟩ := Pnts.at hPj.get hlt
          have hS := fun W => spec_Pl C[k].x C[k].y W
          by_cases hp : Pl C[k].x C[k].y
          · rw [decide_eq_true hp] at hS
            have hall2 := Lib.hid (show ∀ i (h : i < C.length), i < k + 1 → Pl C[i].x C[i].y from fun i hi h0 => by
              by_cases e : i = k
              · subst e; exact hp
              · exact hall.out i hi (by omega))
            generalize C[k] = q at *
            obtain ⟨qx, qy⟩ := q
            dsimp only at *
            have hS := Lib.hid hS
            clear hp hPj
            go_wp2_with fail
            refine (hS.out _).mono ?_
            rintro e w1 ⟨rfl, b1⟩
            have hB1 := hB.trans (b1.mono hB.size)
            go_wp2_with fail
            go_roundw
            case rel => exact ⟨k + 1, by omega, by go_num, hall2, hB1⟩
            case measure => simp [Go.RowKit.intOf]; omega
          · rw [decide_eq_false hp] at hS
            have hm : m = false := by
              rw [← Bool.not_eq_true]
              intro h
              exact hp ((Hm.out.1 h).pl _ (List.getElem_mem hlt))
            subst hm
            generalize C[k] = q at *
            obtain ⟨qx, qy⟩ := q
            dsimp only at *
            have hS := Lib.hid hS
            clear hp hPj
            go_wp2_with fail
            refine (hS.out _).mono ?_
            rintro e w1 ⟨rfl, b1⟩
            have hB1 := hB.trans (b1.mono hB.size)
            go_wp2_with fail
            go_ret
            exact ⟨rfl, hB1⟩
        · have hpl : ∀ p ∈ C, Pl p.x p.y := fun p hp => by
            obtain ⟨i, hi, rfl⟩ := List.getElem_of_mem hp
            exact hall.out i hi (by omega)
          have HT := Lib.hid (fun W (hb : Below wr.heap.size wr W) => HT.out hpl W (hB.trans (hb.mono hB.size)))
          have Hcv := Lib.hid (conv_iff (C := C) hn1)
          have Hpl := Lib.hid hpl
          clear hpl hall
          by_cases hx : x0 = 1
          · have hx2 : (x0 != 1) = false := by rw [bne_eq_false_iff_eq]; exact hx
            by_cases hs : 1 ≤ x1 ∧ x1 ≤ 60
            · obtain ⟨hs1, hs2⟩ := hs
              by_cases he : 20 ≤ x2 ∧ x2 ≤ 60
              · obtain ⟨he1, he2⟩ := he
                have hpb := prod_bd (A := 60) (B := 60) (a := x1) (b := x2) (by omega) (by omega)
                obtain ⟨pr, hpr⟩ : ∃ pr, x1 * x2 = pr := ⟨_, rfl⟩
                rw [hpr] at hpb
                have hwp : IntKind.i64.wrap pr = pr := IntWalk.i64_in _ (by omega)
                by_cases hp2 : pr ≤ 2000
                · have hm : m = convB C := by
                    rw [Bool.eq_iff_iff, Hm.out, Hcv.out]
                    exact ⟨fun h => h.conv, fun h => ⟨⟨hk1, hk2⟩, ⟨hn1, hn2⟩, Hpl.out, fun _ => ⟨⟨hs1, hs2⟩, ⟨he1, he2⟩, by show x1 * x2 ≤ 2000; omega⟩, fun e => absurd hx e, h⟩⟩
                  have HT2 := fun W hb => HT.out W hb
                  rw [← hm] at HT2
                  have HT := Lib.hid HT2
                  clear hx hm HT2
                  go_wp2_with fail
                  refine region_ph 31 (fun w' => ∀ o, w'.cell? ⟨b, o, none⟩ = wr.cell? ⟨b, o, none⟩) (fun _ => True) (by kernel_rfl) (fun _ => rfl) trivial (fun hp => ?_)
                  refine take_ph 61 (i := 0) rfl rfl (by decide) (by kernel_rfl) (by kernel_rfl) (by kernel_rfl) (fun _ _ _ h => h) (by rfl) (fun w hSw => by (try dsimp only at hSw); go_simp; first | done | with_reducible rfl) hp (fun hp => ?_)
                  try simp only [Act.put, List.setIfInBounds_toArray, List.set_cons_zero, List.set_cons_succ]
                  refine take_ph 62 (i := 1) rfl rfl (by decide) (by kernel_rfl) (by kernel_rfl) (by kernel_rfl) (fun _ _ _ h => h) (by rfl) (fun w hSw => by (try dsimp only at hSw); go_simp; first | done | with_reducible rfl) hp (fun hp => ?_)
                  try simp only [Act.put, List.setIfInBounds_toArray, List.set_cons_zero, List.set_cons_succ]
                  refine take_ph 63 (i := 2) rfl rfl (by decide) (by kernel_rfl) (by kernel_rfl) (by kernel_rfl) (fun _ _ _ h => h) (by rfl) (fun w hSw => by (try dsimp only at hSw); go_simp; first | done | with_reducible rfl) hp (fun hp => ?_)
                  try simp only [Act.put, List.setIfInBounds_toArray, List.set_cons_zero, List.set_cons_succ]
                  refine take_ph 64 (i := 3) rfl rfl (by decide) (by kernel_rfl) (by kernel_rfl) (by kernel_rfl) (fun _ _ _ h => h) (by rfl) (fun w hSw => by (try dsimp only at hSw); go_simp; first | done | with_reducible rfl) hp (fun hp => ?_)
                  try simp only [Act.put, List.setIfInBounds_toArray, List.set_cons_zero, List.set_cons_succ]
                  refine AnyL.one (i := 4) (by kernel_rfl) rfl (fun K hK => ?_)
                  go_simp
                  refine (spec_In_t _ _ _ _ (by omega) (by omega)).mono ?_
                  rintro e _ ⟨rfl, rfl⟩
                  refine hK.out _ _ (ph1 (fun o => rfl) trivial) (fun hp => ?_)
                  clear hK
                  try simp only [Act.put, List.setIfInBounds_toArray, List.set_cons_zero, List.set_cons_succ]
                  refine take_ph 66 (i := 5) rfl rfl (by decide) (by kernel_rfl) (by kernel_rfl) (by kernel_rfl) (fun _ _ _ h => h) (by rfl) (fun w hSw => by (try dsimp only at hSw); go_simp; first | done | with_reducible rfl) hp (fun hp => ?_)
                  try simp only [Act.put, List.setIfInBounds_toArray, List.set_cons_zero, List.set_cons_succ]
                  refine take_ph 67 (i := 6) rfl rfl (by decide) (by kernel_rfl) (by kernel_rfl) (by kernel_rfl) (fun _ _ _ h => h) (by rfl) (fun w hSw => by (try dsimp only at hSw); go_simp; first | done | with_reducible rfl) hp (fun hp => ?_)
                  try simp only [Act.put, List.setIfInBounds_toArray, List.set_cons_zero, List.set_cons_succ]
                  refine take_ph 68 (i := 7) rfl rfl (by decide) (by kernel_rfl) (by kernel_rfl) (by kernel_rfl) (fun _ _ _ h => h) (by rfl) (fun w hSw => by (try dsimp only at hSw); go_simp; first | done | with_reducible rfl) hp (fun hp => ?_)
                  try simp only [Act.put, List.setIfInBounds_toArray, List.set_cons_zero, List.set_cons_succ]
                  refine take_ph 69 (i := 8) rfl rfl (by decide) (by kernel_rfl) (by kernel_rfl) (by kernel_rfl) (fun _ _ _ h => h) (by rfl) (fun w hSw => by (try dsimp only at hSw); go_simp; first | done | with_reducible rfl) hp (fun hp => ?_)
                  try simp only [Act.put, List.setIfInBounds_toArray, List.set_cons_zero, List.set_cons_succ]
                  refine take_ph 70 (i := 9) rfl rfl (by decide) (by kernel_rfl) (by kernel_rfl) (by kernel_rfl) (fun _ _ _ h => h) (by rfl) (fun w hSw => by (try dsimp only at hSw); go_simp; first | done | with_reducible rfl) hp (fun hp => ?_)
                  try simp only [Act.put, List.setIfInBounds_toArray, List.set_cons_zero, List.set_cons_succ]
                  refine AnyL.one (i := 10) (by kernel_rfl) rfl (fun K hK => ?_)
                  go_simp
                  refine (spec_In_t _ _ _ _ (by omega) (by omega)).mono ?_
                  rintro e _ ⟨rfl, rfl⟩
                  refine hK.out _ _ (ph1 (fun o => rfl) trivial) (fun hp => ?_)
                  clear hK
                  try simp only [Act.put, List.setIfInBounds_toArray, List.set_cons_zero, List.set_cons_succ]
                  refine take_ph 72 (i := 11) rfl rfl (by decide) (by kernel_rfl) (by kernel_rfl) (by kernel_rfl) (fun _ _ _ h => h) (by rfl) (fun w hSw => by (try dsimp only at hSw); go_simp; first | done | with_reducible rfl) hp (fun hp => ?_)
                  try simp only [Act.put, List.setIfInBounds_toArray, List.set_cons_zero, List.set_cons_succ]
                  refine take_ph 73 (i := 12) rfl rfl (by decide) (by kernel_rfl) (by kernel_rfl) (by kernel_rfl) (fun _ _ _ h => h) (by rfl) (fun w hSw => by (try dsimp only at hSw); go_simp; first | done | with_reducible rfl) hp (fun hp => ?_)
                  try simp only [Act.put, List.setIfInBounds_toArray, List.set_cons_zero, List.set_cons_succ]
                  refine take_ph 74 (i := 13) rfl rfl (by decide) (by kernel_rfl) (by kernel_rfl) (by kernel_rfl) (fun _ _ _ h => h) (by rfl) (fun w hSw => by (try dsimp only at hSw); go_simp; first | done | with_reducible rfl) hp (fun hp => ?_)
                  try simp only [Act.put, List.setIfInBounds_toArray, List.set_cons_zero, List.set_cons_succ]
                  refine take_ph 75 (i := 14) rfl rfl (by decide) (by kernel_rfl) (by kernel_rfl) (by kernel_rfl) (fun _ _ _ h => h) (by rfl) (fun w hSw => by (try dsimp only at hSw); go_simp; first | done | with_reducible rfl) hp (fun hp => ?_)
                  try simp only [Act.put, List.setIfInBounds_toArray, List.set_cons_zero, List.set_cons_succ]
                  refine take_ph 76 (i := 15) rfl rfl (by decide) (by kernel_rfl) (by kernel_rfl) (by kernel_rfl) (fun _ _ _ h => h) (by rfl) (fun w hSw => by (try dsimp only at hSw); go_simp; first | done | with_reducible rfl) hp (fun hp => ?_)
                  try simp only [Act.put, List.setIfInBounds_toArray, List.set_cons_zero, List.set_cons_succ]
                  refine take_ph 77 (i := 16) rfl rfl (by decide) (by kernel_rfl) (by kernel_rfl) (by kernel_rfl) (fun _ _ _ h => h) (by rfl) (fun w hSw => by (try dsimp only at hSw); go_simp; first | done | with_reducible rfl) hp (fun hp => ?_)
                  try simp only [Act.put, List.setIfInBounds_toArray, List.set_cons_zero, List.set_cons_succ]
                  refine take_ph 78 (i := 17) rfl rfl (by decide) (by kernel_rfl) (by kernel_rfl) (by kernel_rfl) (fun _ _ _ h => h) (by rfl) (fun w hSw => by (try dsimp only at hSw); go_simp; first | done | with_reducible rfl) hp (fun hp => ?_)
                  try simp only [Act.put, List.setIfInBounds_toArray, List.set_cons_zero, List.set_cons_succ]
                  refine take_ph 79 (i := 18) rfl rfl (by decide) (by kernel_rfl) (by kernel_rfl) (by kernel_rfl) (fun _ _ _ h => h) (by rfl) (fun w hSw => by (try dsimp only at hSw); go_simp; first | done | with_reducible rfl) hp (fun hp => ?_)
                  try simp only [Act.put, List.setIfInBounds_toArray, List.set_cons_zero, List.set_cons_succ]
                  refine take_ph 80 (i := 19) rfl rfl (by decide) (by kernel_rfl) (by kernel_rfl) (by kernel_rfl) (fun _ _ _ h => h) (by rfl) (fun w hSw => by (try dsimp only at hSw); go_simp; first | done | with_reducible rfl) hp (fun hp => ?_)
                  try simp only [Act.put, List.setIfInBounds_toArray, List.set_cons_zero, List.set_cons_succ]
                  refine take_ph 81 (i := 20) rfl rfl (by decide) (by kernel_rfl) (by kernel_rfl) (by kernel_rfl) (fun _ _ _ h => h) (by rfl) (fun w hSw => by (try dsimp only at hSw); go_simp; first | done | with_reducible rfl) hp (fun hp => ?_)
                  try simp only [Act.put, List.setIfInBounds_toArray, List.set_cons_zero, List.set_cons_succ]
                  refine take_ph 82 (i := 21) rfl rfl (by decide) (by kernel_rfl) (by kernel_rfl) (by kernel_rfl) (fun _ _ _ h => h) (by rfl) (fun w hSw => by (try dsimp only at hSw); go_simp; first | done | with_reducible rfl) hp (fun hp => ?_)
                  try simp only [Act.put, List.setIfInBounds_toArray, List.set_cons_zero, List.set_cons_succ]
                  refine take_ph 83 (i := 22) rfl rfl (by decide) (by kernel_rfl) (by kernel_rfl) (by kernel_rfl) (fun _ _ _ h => h) (by rfl) (fun w hSw => by (try dsimp only at hSw); go_simp; first | done | with_reducible rfl) hp (fun hp => ?_)
                  try simp only [Act.put, List.setIfInBounds_toArray, List.set_cons_zero, List.set_cons_succ]
                  refine take_ph 84 (i := 23) rfl rfl (by decide) (by kernel_rfl) (by kernel_rfl) (by kernel_rfl) (fun _ _ _ h => h) (by rfl) (fun w hSw => by (try dsimp only at hSw); go_simp; first | done | with_reducible rfl) hp (fun hp => ?_)
                  try simp only [Act.put, List.setIfInBounds_toArray, List.set_cons_zero, List.set_cons_succ]
                  refine take_ph 85 (i := 24) rfl rfl (by decide) (by kernel_rfl) (by kernel_rfl) (by kernel_rfl) (fun _ _ _ h => h) (by rfl) (fun w hSw => by (try dsimp only at hSw); go_simp; first | done | with_reducible rfl) hp (fun hp => ?_)
                  try simp only [Act.put, List.setIfInBounds_toArray, List.set_cons_zero, List.set_cons_succ]
                  refine take_ph 86 (i := 25) rfl rfl (by decide) (by kernel_rfl) (by kernel_rfl) (by kernel_rfl) (fun _ _ _ h => h) (by rfl) (fun w hSw => by (try dsimp only at hSw); go_simp; first | done | with_reducible rfl) hp (fun hp => ?_)
                  try simp only [Act.put, List.setIfInBounds_toArray, List.set_cons_zero, List.set_cons_succ]
                  refine take_ph 87 (i := 26) rfl rfl (by decide) (by kernel_rfl) (by kernel_rfl) (by kernel_rfl) (fun _ _ _ h => h) (by rfl) (fun w hSw => by (try dsimp only at hSw); go_simp; first | done | with_reducible rfl) hp (fun hp => ?_)
                  try simp only [Act.put, List.setIfInBounds_toArray, List.set_cons_zero, List.set_cons_succ]
                  refine take_ph 88 (i := 27) rfl rfl (by decide) (by kernel_rfl) (by kernel_rfl) (by kernel_rfl) (fun _ _ _ h => h) (by rfl) (fun w hSw => by (try dsimp only at hSw); go_simp; first | done | with_reducible rfl) hp (fun hp => ?_)
                  try simp only [Act.put, List.setIfInBounds_toArray, List.set_cons_zero, List.set_cons_succ]
                  refine take_ph 89 (i := 28) rfl rfl (by decide) (by kernel_rfl) (by kernel_rfl) (by kernel_rfl) (fun _ _ _ h => h) (by rfl) (fun w hSw => by (try dsimp only at hSw); go_simp; first | done | with_reducible rfl) hp (fun hp => ?_)
                  try simp only [Act.put, List.setIfInBounds_toArray, List.set_cons_zero, List.set_cons_succ]
                  refine AnyL.one (i := 29) (by kernel_rfl) rfl (fun K hK => ?_)
                  go_simp
                  have b0 : Below wr.heap.size wr wr.drew := (Below.refl _ _).drew
                  refine (HT.out _ b0).mono ?_
                  rintro e w1 ⟨rfl, b1'⟩
                  have b1 := b0.trans b1'
                  refine hK.out _ _ (ph1 (fun o => b1.cell (p := ⟨b, o, none⟩) hbw) trivial) (fun hp => ?_)
                  clear hK
                  try simp only [Act.put, List.setIfInBounds_toArray, List.set_cons_zero, List.set_cons_succ]
                  refine take_ph 91 (i := 30) rfl rfl (by decide) (by kernel_rfl) (by kernel_rfl) (by kernel_rfl) (fun _ _ _ h => h) (by rfl) (fun w hSw => by (try dsimp only at hSw); go_simp; first | done | with_reducible rfl) hp (fun hp => ?_)
                  try simp only [Act.put, List.setIfInBounds_toArray, List.set_cons_zero, List.set_cons_succ]
                  refine AnyL.one (i := 31) (by kernel_rfl) rfl (fun K hK => ?_)
                  go_simp
                  refine hK.out _ _ (ph2 rfl (fun o => b1.cell (p := ⟨b, o, none⟩) hbw)) (fun hp => ?_)
                  clear hK
                  try simp only [Act.put, List.setIfInBounds_toArray, List.set_cons_zero, List.set_cons_succ]
                  refine AnyL.done (by kernel_rfl) ?_ _
                  simp only [Exit.then]
                  clear hp
                  go_wp2_with fail
                  go_ret
                  exact ⟨rfl, hB.trans (b1.mono hB.size)⟩
                · have hm : m = false := by
                    rw [← Bool.not_eq_true]
                    intro h
                    exact hp2 (by rw [← hpr]; exact ((Hm.out.1 h).one hx).2.2)
                  subst hm
                  have hp3 : decide (pr ≤ 2000) = false := decide_eq_false hp2
                  have hp4 : 2000 < pr := by omega
                  clear hx
                  go_wp2_with fail
                  go_quiet (first | (go_at_call 58; first | exact Calls.quiet_of_same (Calls.turn (spec_In_t _ _ _ _ (by omega) (by omega))) | exact Calls.quiet_of_same (Calls.turn (spec_In_f _ _ _ _ (by omega)))))
                  go_wp2_with fail
                  go_ret
                  exact ⟨rfl, by first | exact hB | exact below_dN hB _ | (refine hB.trans (Below.mono (B := wr.heap.size) ?_ hB.size); go_grown)⟩
              · have hm : m = false := by
                  rw [← Bool.not_eq_true]
                  intro h
                  exact he ((Hm.out.1 h).one hx).2.1
                subst hm
                clear hx
                go_wp2_with fail
                go_quiet (first | (go_at_call 58; first | exact Calls.quiet_of_same (Calls.turn (spec_In_t _ _ _ _ (by omega) (by omega))) | exact Calls.quiet_of_same (Calls.turn (spec_In_f _ _ _ _ (by omega)))))
                go_wp2_with fail
                go_ret
                exact ⟨rfl, by first | exact hB | exact below_dN hB _ | (refine hB.trans (Below.mono (B := wr.heap.size) ?_ hB.size); go_grown)⟩
            · have hm : m = false := by
                rw [← Bool.not_eq_true]
                intro h
                exact hs ((Hm.out.1 h).one hx).1
              subst hm
              clear hx
              go_wp2_with fail
              go_quiet (first | (go_at_call 58; first | exact Calls.quiet_of_same (Calls.turn (spec_In_t _ _ _ _ (by omega) (by omega))) | exact Calls.quiet_of_same (Calls.turn (spec_In_f _ _ _ _ (by omega)))))
              go_wp2_with fail
              go_ret
              exact ⟨rfl, by first | exact hB | exact below_dN hB _ | (refine hB.trans (Below.mono (B := wr.heap.size) ?_ hB.size); go_grown)⟩
          · have hx2 : (x0 != 1) = true := by rw [bne_iff_ne]; exact hx
            by_cases hz : x1 = 0 ∧ x2 = 0
            · obtain ⟨hz1, hz2⟩ := hz
              have hb1 : (x1 == 0) = true := by rw [beq_iff_eq]; exact hz1
              have hb2 : (x2 == 0) = true := by rw [beq_iff_eq]; exact hz2
              have hm : m = convB C := by
                rw [Bool.eq_iff_iff, Hm.out, Hcv.out]
                exact ⟨fun h => h.conv, fun h => ⟨⟨hk1, hk2⟩, ⟨hn1, hn2⟩, Hpl.out, fun e => absurd e hx, fun _ => ⟨hz1, hz2⟩, h⟩⟩
              have HT2 := fun W hb => HT.out W hb
              rw [← hm] at HT2
              have HT := Lib.hid HT2
              clear hx hz1 hz2 hm HT2
              go_wp2_with (first | (go_at_call 63; refine (HT.out _ (Below.refl _ _)).mono ?_; rintro e w1 ⟨rfl, b1⟩) | fail)
              go_ret
              exact ⟨rfl, hB.trans (b1.mono hB.size)⟩
            · have hm : m = false := by
                rw [← Bool.not_eq_true]
                intro h
                exact hz ((Hm.out.1 h).oth hx)
              subst hm
              by_cases hz1 : x1 = 0
              · have hb1 : (x1 == 0) = true := by rw [beq_iff_eq]; exact hz1
                have hb2 : (x2 == 0) = false := by rw [beq_eq_false_iff_ne]; exact fun e => hz ⟨hz1, e⟩
                clear hx hz1 hz
                go_wp2_with fail
                go_ret
                exact ⟨rfl, hB⟩
              · have hb1 : (x1 == 0) = false := by rw [beq_eq_false_iff_ne]; exact hz1
                clear hx hz1 hz
                go_wp2_with fail
                go_ret
                exact ⟨rfl, hB⟩
    · have hm : m = false := by
        rw [← Bool.not_eq_true]
        intro h
        exact hn (Hm.out.1 h).len
      subst hm
      go_enter Tryd.func36, Tryd.ntmps36
      go_wp2_with (go_at_call 58; first | (refine (spec_In_t _ _ _ _ (by omega) (by omega)).mono ?_; rintro e w' ⟨rfl, rfl⟩) | (refine (spec_In_f _ _ _ _ (by omega)).mono ?_; rintro e w' ⟨rfl, rfl⟩))
      go_ret
      exact ⟨rfl, Below.refl _ _⟩
  · have hm : m = false := by
      rw [← Bool.not_eq_true]
      intro h
      exact hk (Hm.out.1 h).kind
    subst hm
    go_enter Tryd.func36, Tryd.ntmps36
    go_wp2_with (go_at_call 58; first | (refine (spec_In_t _ _ _ _ (by omega) (by omega)).mono ?_; rintro e w' ⟨rfl, rfl⟩) | (refine (spec_In_f _ _ _ _ (by omega)).mono ?_; rintro e w' ⟨rfl, rfl⟩))
    go_ret
    exact ⟨rfl, Below.refl _ _⟩
end Go.Proofs.YtpabbehpkokhbaaDoor
