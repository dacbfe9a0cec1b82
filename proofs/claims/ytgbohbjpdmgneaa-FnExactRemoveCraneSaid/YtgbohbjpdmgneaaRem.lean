/- RemoveCrane, the reference. -/
import Derived.Test.YtgbohbjpdmgneaaClimbT
namespace Go.Proofs.Ytgbohbjpdmgneaa
open Go.RowKit

noncomputable def code4 (L : SiteL) (i : Int) : Int := if siteB L = true then (if 0 ≤ i ∧ i < (L.length : Int) then 0 else 2) else 1
noncomputable def removed (L : SiteL) (i : Int) : SiteL × Int := if code4 L i = 0 then (if L.length = 1 then ([], 6) else (L.eraseIdx i.toNat, 0)) else ([], code4 L i)
theorem code4_cases (L : SiteL) (i : Int) : (siteB L = false ∧ code4 L i = 1) ∨ (siteB L = true ∧ ¬ (0 ≤ i ∧ i < (L.length : Int)) ∧ code4 L i = 2) ∨ (siteB L = true ∧ (0 ≤ i ∧ i < (L.length : Int)) ∧ code4 L i = 0) := by
  unfold code4
  cases h1 : siteB L
  · exact .inl ⟨rfl, if_neg (by simp)⟩
  refine .inr ?_
  by_cases h3 : 0 ≤ i ∧ i < (L.length : Int)
  · exact .inr ⟨rfl, h3, (if_pos rfl).trans (if_pos h3)⟩
  · exact .inl ⟨rfl, h3, (if_pos rfl).trans (if_neg h3)⟩
theorem removed_no {L : SiteL} {i : Int} {c : Int} (h : code4 L i = c) (hc : c ≠ 0) : removed L i = ([], c) := by unfold removed; rw [h]; exact if_neg hc
theorem removed_one {L : SiteL} {i : Int} (h : code4 L i = 0) (h1 : L.length = 1) : removed L i = ([], 6) := by unfold removed; rw [if_pos h]; exact if_pos h1
theorem removed_yes {L : SiteL} {i : Int} (h : code4 L i = 0) (h1 : ¬ L.length = 1) : removed L i = (L.eraseIdx i.toNat, 0) := by unfold removed; rw [if_pos h]; exact if_neg h1
theorem totM_erase {φ α : Type} (a p : Nat) : ∀ (L : List (φ × List α)) (i : Nat), totM a p (L.eraseIdx i) ≤ totM a p L
  | [], i => by simp [totM]
  | x :: r, 0 => by simp [totM]
  | x :: r, i + 1 => by have := totM_erase a p r i; simp only [List.eraseIdx_cons_succ, totM]; omega
theorem removed_tot (L : SiteL) (i : Int) (N : Nat) (h : totM 6 2 L ≤ N) : totM 6 2 (removed L i).1 ≤ N := by
  unfold removed
  split
  · split
    · simp [totM]
    · exact Nat.le_trans (totM_erase 6 2 L _) h
  · simp [totM]
set_option maxRecDepth 100000 in
set_option maxHeartbeats 4000000 in
theorem spec_Code4 (p : Nat) (v : Value) (rs : List CraneR) (L : SiteL) (lo hi : Nat) (i : Int) (w : World) (hp : w.cell? ⟨p, 0, none⟩ = some v) (h : Cranes lo hi w v rs L) (hwf : L.wf) :
    Calls Try.prog 92 #[.pointer (some ⟨p, 0, none⟩), .int .i64 i] w fun e w' => e = .returned (.int .i64 (code4 L i)) ∧ Below w.heap.size w w' := by
  have hV := spec_SiteOk p v rs L lo hi w hp h hwf
  have hpl := World.block_lt_of_cell? w _ hp
  have Hp := Lib.hid hp
  have hln : ∃ a cap, v = .slice a L.length cap := by obtain ⟨a, cap, hv, _⟩ := h.out; exact ⟨a, cap, by rw [← h.len]; exact hv⟩
  obtain ⟨a, cap, rfl⟩ := hln
  clear h hwf hp
  rcases code4_cases L i with ⟨h1, h2⟩ | ⟨h1, h2, h3⟩ | ⟨h1, ⟨h2, h2'⟩, h3⟩
  · rw [h2]
    rw [h1] at hV
    have hV := Lib.hid hV
    clear h1 h2
    go_enter Try.func92, Try.ntmps92
    go_wp2_with fail
    refine hV.out.mono ?_
    rintro e w1 ⟨rfl, hb1⟩
    go_wp2
    go_ret
    exact ⟨rfl, hb1⟩
  · rw [h3]
    have hL6 := (siteB_iff.1 h1).2.2
    rw [h1] at hV
    have hV := Lib.hid hV
    clear h1 h3
    go_enter Try.func92, Try.ntmps92
    go_wp2_with fail
    refine hV.out.mono ?_
    rintro e w1 ⟨rfl, hb1⟩
    have cp := (hb1.cell (p := ⟨p, 0, none⟩) hpl).trans Hp.out
    go_wp2_with (go_at_call 140; first | (refine (spec_In_t _ _ _ _ (by omega) (by omega)).mono ?_; rintro e w' ⟨rfl, rfl⟩) | (refine (spec_In_f _ _ _ _ (by omega)).mono ?_; rintro e w' ⟨rfl, rfl⟩))
    go_ret
    exact ⟨rfl, hb1⟩
  · rw [h3]
    have hL6 := (siteB_iff.1 h1).2.2
    rw [h1] at hV
    have hV := Lib.hid hV
    clear h1 h3
    go_enter Try.func92, Try.ntmps92
    go_wp2_with fail
    refine hV.out.mono ?_
    rintro e w1 ⟨rfl, hb1⟩
    have cp := (hb1.cell (p := ⟨p, 0, none⟩) hpl).trans Hp.out
    go_wp2_with (go_at_call 140; first | (refine (spec_In_t _ _ _ _ (by omega) (by omega)).mono ?_; rintro e w' ⟨rfl, rfl⟩) | (refine (spec_In_f _ _ _ _ (by omega)).mono ?_; rintro e w' ⟨rfl, rfl⟩))
    go_ret
    exact ⟨rfl, hb1⟩
theorem erase_skip {L : SiteL} {i : Nat} (h : i < L.length) : (L.take (i + 1)).eraseIdx i = (L.take i).eraseIdx i := by
  rw [List.take_succ_eq_append_getElem h, List.eraseIdx_append_of_length_le (by rw [List.length_take]; omega), List.length_take, show i - min i L.length = 0 by omega, List.eraseIdx_of_length_le (l := L.take i) (by rw [List.length_take]; omega)]
  simp
theorem erase_next {L : SiteL} {i k : Nat} (h : k < L.length) (_hi : i < L.length) (hne : k ≠ i) : (L.take (k + 1)).eraseIdx i = (L.take k).eraseIdx i ++ [L[k]] := by
  rw [List.take_succ_eq_append_getElem h]
  by_cases hlt : i < k
  · rw [List.eraseIdx_append_of_lt_length (by rw [List.length_take]; omega)]
  · rw [List.eraseIdx_append_of_length_le (by rw [List.length_take]; omega), List.length_take, List.eraseIdx_of_length_le (l := [L[k]]) (by simp; omega), List.eraseIdx_of_length_le (l := L.take k) (by rw [List.length_take]; omega)]
set_option maxRecDepth 100000 in
set_option maxHeartbeats 8000000 in
theorem spec_RemoveCrane (s : SV) (rs : List CraneR) (L : SiteL) (lo hi : Nat) (i : Int) (w : World) (h : Cranes lo hi w s.v rs L) (hwf : L.wf) :
    Calls Try.prog 36 #[.agg #[s.v], .int .i64 i] w (SiteRes (removed L i) w) := by
  have hln : ∃ a cap, s.v = .slice a L.length cap ∧ L.length ≤ cap ∧ cap ≤ 9223372036854775807 := by obtain ⟨a, cap, hv, hc, _⟩ := h.out; rw [h.len] at hv hc; exact ⟨a, cap, hv, hc⟩
  obtain ⟨a, cap, hsv, hcp⟩ := hln
  rw [hsv] at h ⊢
  clear hsv
  have hba : Below w.heap.size w ((w.alloc (.cells #[.slice a L.length cap] 37)).alloc (.cells #[.slice none 0 0] 37)) := ((Below.refl _ _).alloc (Nat.le_refl _) _).alloc (by simp) _
  have hp0 : Hid (Cb w.heap.size ((w.alloc (.cells #[.slice a L.length cap] 37)).alloc (.cells #[.slice none 0 0] 37)) (.slice a L.length cap)) := Lib.hid ((Cb.new w _ _).ext ((Below.refl _ _).alloc (Nat.le_refl _) _))
  have hq0 : Hid (Cb (w.heap.size + 1) ((w.alloc (.cells #[.slice a L.length cap] 37)).alloc (.cells #[.slice none 0 0] 37)) (.slice none 0 0)) := Lib.hid (by have := Cb.new (w.alloc (.cells #[.slice a L.length cap] 37)) (.slice none 0 0) 37; simpa using this)
  have hV := Lib.hid (spec_Code4 w.heap.size (.slice a L.length cap) rs L lo hi i _ hp0.out.c (h.ext hba) hwf)
  have Hs := Lib.hid h
  clear h hwf
  rcases code4_cases L i with ⟨h1, h2⟩ | ⟨h1, h2, h3⟩ | ⟨h1, ⟨h2, h2'⟩, h3⟩
  · rw [removed_no h2 (by omega)]
    rw [h2] at hV
    clear h1 h2
    go_enter Try.func36, Try.ntmps36
    go_wp2_with fail
    refine hV.out.mono ?_
    rintro e w1 ⟨rfl, hb1⟩
    have q1 := (hq0.out.ext hb1).c
    have f1 := (hq0.out.ext hb1).f
    have B1 := hba.trans (hb1.mono hba.size)
    go_wp2
    exact bodyPost_ret (v := .tuple #[.agg #[.slice none 0 0], .int .i64 1]) (by simp [results, Try.results36, go_sem, q1]) rfl ⟨⟨none, 0, 0⟩, [], rfl, nsw_nil, B1.setCell (p := ⟨w.heap.size + 1, 0, none⟩) (Nat.le_succ _) _⟩
  · rw [removed_no h3 (by omega)]
    rw [h3] at hV
    clear h1 h2 h3
    go_enter Try.func36, Try.ntmps36
    go_wp2_with fail
    refine hV.out.mono ?_
    rintro e w1 ⟨rfl, hb1⟩
    have q1 := (hq0.out.ext hb1).c
    have f1 := (hq0.out.ext hb1).f
    have B1 := hba.trans (hb1.mono hba.size)
    go_wp2
    exact bodyPost_ret (v := .tuple #[.agg #[.slice none 0 0], .int .i64 2]) (by simp [results, Try.results36, go_sem, q1]) rfl ⟨⟨none, 0, 0⟩, [], rfl, nsw_nil, B1.setCell (p := ⟨w.heap.size + 1, 0, none⟩) (Nat.le_succ _) _⟩
  have Hok := Lib.hid (siteB_iff.1 h1)
  have hL6 := Hok.out.2.2
  by_cases hone : L.length = 1
  · rw [removed_one h3 hone]
    rw [h3] at hV
    have hq : ((L.length : Int) == 1) = true := by simp; omega
    clear h1 h2 h3 hone
    go_enter Try.func36, Try.ntmps36
    go_wp2_with fail
    refine hV.out.mono ?_
    rintro e w1 ⟨rfl, hb1⟩
    have q1 := (hq0.out.ext hb1).c
    have f1 := (hq0.out.ext hb1).f
    have p1 := (hp0.out.ext hb1).c
    have B1 := hba.trans (hb1.mono hba.size)
    go_wp2
    exact bodyPost_ret (v := .tuple #[.agg #[.slice none 0 0], .int .i64 6]) (by simp [results, Try.results36, go_sem, q1]) rfl ⟨⟨none, 0, 0⟩, [], rfl, nsw_nil, B1.setCell (p := ⟨w.heap.size + 1, 0, none⟩) (Nat.le_succ _) _⟩
  obtain ⟨n, rfl⟩ := Int.eq_ofNat_of_zero_le h2
  rw [removed_yes h3 hone, Int.toNat_natCast]
  rw [h3] at hV
  have hq : ((L.length : Int) == 1) = false := by simp; omega
  have hnL : n < L.length := by omega
  clear h1 h2 h2' h3 hone
  go_enter Try.func36, Try.ntmps36
  go_wp2_with fail
  refine hV.out.mono ?_
  rintro e w1 ⟨rfl, hb1⟩
  have B1 := hba.trans (hb1.mono hba.size)
  have hp1 := Lib.hid (hp0.out.ext hb1)
  have hq1 := Lib.hid (hq0.out.ext hb1)
  have cp1 := hp1.out.c
  have hql := hq1.out.lt
  have hal : Below w1.heap.size w1 (w1.alloc (.cells #[.slice none 0 0] 37)) := (Below.refl _ _).alloc (Nat.le_refl _) _
  have hp2 := Lib.hid (hp1.out.ext hal)
  have hq2 := Lib.hid (hq1.out.ext hal)
  have hx2 := Lib.hid (Cb.new w1 (.slice none 0 0) 37)
  have B2 := B1.trans (hal.mono B1.size)
  have hs2 : w1.heap.size + 1 ≤ (w1.alloc (.cells #[.slice none 0 0] 37)).heap.size := by simp
  clear hb1 hal B1 hba hp0 hq0 hp1 hq1 hV
  generalize hPP : w1.heap.size = P at *
  go_wp2
  go_loopw [8] (fun iv wr => ∃ (k : Nat) (s : SV) (rk : List CraneR), k ≤ L.length ∧ iv = .int .i64 k ∧ Below w.heap.size w wr ∧ P + 1 ≤ wr.heap.size ∧ Hid (Cb w.heap.size wr (.slice a L.length cap)) ∧ Hid (Cb (w.heap.size + 1) wr (.slice none 0 0)) ∧ Hid (Cb P wr s.v) ∧ Hid (OwnS (P + 1) wr s.v rk ((L.take k).eraseIdx n))) (fun iv _ => L.length - (intOf iv).toNat)
  case atStart => exact ⟨0, ⟨none, 0, 0⟩, [], Nat.zero_le _, rfl, B2, hs2, hp2, hq2, hx2, Lib.hid (ownN_nil (own_nil _ _ _))⟩
  case round =>
    clear hPP hp2 hq2 hx2 B2 hs2 cp1
    obtain ⟨k, ⟨sa, sl, sc⟩, rk, hk, rfl, hB, hsz, hpb, hq', hx, hown⟩ := hrel
    have cp := hpb.out.c
    have cq := hq'.out.c
    have fq := hq'.out.f
    have cx := hx.out.c
    simp only [SV.v] at cx
    by_cases hlt : k < L.length
    · by_cases hkn : k = n
      · subst hkn
        have hno : ((k : Int) != (k : Int)) = false := by simp
        have hN := Lib.hid (erase_skip hnL)
        have hE2 : Hid (OwnS (P + 1) wr (SV.v ⟨sa, sl, sc⟩) rk ((L.take (k + 1)).eraseIdx k)) := Lib.hid (by rw [hN.out]; exact hown.out)
        clear hown
        go_wp2
        go_roundw
        case rel => exact ⟨k + 1, ⟨sa, sl, sc⟩, rk, by omega, by go_num, hB, hsz, hpb, hq', hx, hE2⟩
        case measure => simp [intOf]; omega
      · have hno : ((k : Int) != (n : Int)) = true := by simp; omega
        have hk1 : k < rs.length := by rw [Hs.out.len]; exact hlt
        obtain ⟨hfl, hrow⟩ := Hs.out.one hlt hk1
        obtain ⟨b, off, rfl⟩ := Hs.out.out.addr (by omega)
        have hg := Hs.out.at hk1
        rw [show rs[k] = ⟨L[k].1, rs[k].s⟩ from by rw [← hfl]] at hg
        obtain ⟨hr0, hr1⟩ := siteOk_row Hok.out hlt
        have hO := Lib.hid (fun w' (hb : Below w.heap.size w w') => spec_Own b (off + k * 7) L[k].1 rs[k].s L[k].2 lo hi w' (fun j u hu => (hb.cell (p := ⟨b, off + k * 7 + j, none⟩) (World.block_lt_of_cell? w _ (hg j u hu))).trans (hg j u hu)) (hrow.ext hb) hr0 hr1)
        have hnext := Lib.hid (erase_next hlt hnL hkn)
        have hrl : rk.length ≤ 6 := by rw [hown.out.len]; have := List.length_eraseIdx_le (L.take k) n; rw [List.length_take] at this; omega
        clear hfl hrow hg hr0 hr1
        generalize L[k] = f at *
        obtain ⟨⟨x0, x1, x2, x3, x4, x5⟩, f2⟩ := f
        dsimp only at *
        have hpl := hpb.out.lt
        have hxl := hx.out.lt
        go_wp2_with fail
        refine region_ph 8 (fun w' => w'.cell? ⟨w.heap.size, 0, none⟩ = some (.slice (some ⟨b, off, none⟩) L.length cap)) (fun w' => w'.cell? ⟨P, 0, none⟩ = some (.slice sa sl sc)) (by kernel_rfl) cp cx (fun hp => ?_)
        refine take_ph 34 (i := 0) rfl rfl (by decide) (by kernel_rfl) (by kernel_rfl) (by kernel_rfl) (fun _ _ _ h => h) (by rfl) (fun w hSw => by (try dsimp only at hSw); go_simp; first | done | with_reducible rfl) hp (fun hp => ?_)
        try simp only [Act.put, List.setIfInBounds_toArray, List.set_cons_zero, List.set_cons_succ]
        refine take_ph1 35 (i := 1) rfl rfl (by decide) (by rfl) (by kernel_rfl) (by kernel_rfl) (by kernel_rfl) (by kernel_rfl) (fun _ _ _ h => h) (by rfl) (fun w hSw hBw => by (try dsimp only at hSw hBw); go_simp; first | done | with_reducible rfl) hp (fun hp => ?_)
        try simp only [Act.put, List.setIfInBounds_toArray, List.set_cons_zero, List.set_cons_succ]
        refine take_ph 36 (i := 2) rfl rfl (by decide) (by kernel_rfl) (by kernel_rfl) (by kernel_rfl) (fun _ _ _ h => h) (by rfl) (fun w hSw => by (try dsimp only at hSw); go_simp; first | done | with_reducible rfl) hp (fun hp => ?_)
        try simp only [Act.put, List.setIfInBounds_toArray, List.set_cons_zero, List.set_cons_succ]
        refine take_ph 37 (i := 3) rfl rfl (by decide) (by kernel_rfl) (by kernel_rfl) (by kernel_rfl) (fun _ _ _ h => h) (by rfl) (fun w hSw => by (try dsimp only at hSw); go_simp; first | done | with_reducible rfl) hp (fun hp => ?_)
        try simp only [Act.put, List.setIfInBounds_toArray, List.set_cons_zero, List.set_cons_succ]
        refine take_ph 38 (i := 4) rfl rfl (by decide) (by kernel_rfl) (by kernel_rfl) (by kernel_rfl) (fun _ _ _ h => h) (by rfl) (fun w hSw => by (try dsimp only at hSw); go_simp; first | done | with_reducible rfl) hp (fun hp => ?_)
        try simp only [Act.put, List.setIfInBounds_toArray, List.set_cons_zero, List.set_cons_succ]
        refine take_ph 39 (i := 5) rfl rfl (by decide) (by kernel_rfl) (by kernel_rfl) (by kernel_rfl) (fun _ _ _ h => h) (by rfl) (fun w hSw => by (try dsimp only at hSw); go_simp; first | done | with_reducible rfl) hp (fun hp => ?_)
        try simp only [Act.put, List.setIfInBounds_toArray, List.set_cons_zero, List.set_cons_succ]
        refine AnyL.one (i := 6) (by kernel_rfl) rfl (fun K hK => ?_)
        go_simp
        refine (hO.out _ hB.drew).mono ?_
        rintro e w3 ⟨⟨ta, tl, tc⟩, rfl, hown3, hb3⟩
        have b3 : Below wr.heap.size wr w3 := (Below.refl _ _).drew.trans hb3
        have Hown3 := Lib.hid (show Own 2 Chs.cells wr.heap.size 48 w3 _ _ from hown3)
        clear hown3 hb3
        simp only [CraneR.cells, SV.v]
        have hpb3 := Lib.hid (hpb.out.ext b3)
        have hq3 := Lib.hid (hq'.out.ext b3)
        have hx3 := Lib.hid (hx.out.ext b3)
        have cp3 := hpb3.out.c
        have cx3 := hx3.out.c
        simp only [SV.v] at cx3
        have hw3 := b3.size
        go_wp2_with fail
        refine hK.out _ _ (ph1 cp3 cx3) (fun hp => ?_)
        clear hK
        try simp only [Act.put, List.setIfInBounds_toArray, List.set_cons_zero, List.set_cons_succ]
        refine AnyL.one (i := 7) (by kernel_rfl) rfl (fun K hK => ?_)
        go_simp
        refine hK.out _ _ (ph1 (by rw [World.cell?_alloc_lt _ _ _ (show w.heap.size < _ by omega)]; exact cp3) (by rw [World.cell?_alloc_lt _ _ _ (show P < _ by omega)]; exact cx3)) (fun hp => ?_)
        clear hK
        try simp only [Act.put, List.setIfInBounds_toArray, List.set_cons_zero, List.set_cons_succ]
        refine AnyL.one (i := 8) (by kernel_rfl) rfl (fun K hK => ?_)
        refine step_app1 (c := CraneR.cells) (bytes := 80) rfl _ _ 35 51 rfl Try.underlying35 info_impl_Crane (by omega) CraneR.len CraneR.one (P + 1) rk ⟨⟨x0, x1, x2, x3, x4, x5⟩, ⟨ta, tl, tc⟩⟩ (.slice sa sl sc) rfl w3 rfl (hown.out.out.below b3) rfl (by omega) (by omega) (by omega) ?_
        intro v' w4 hown4 hg4
        have b4 : Below (P + 1) w3 w4 := (hown.out.out.below b3).app (Below.refl _ _) (Nat.le_refl _) (by omega) hg4
        have hN4 := Lib.hid (hown.out.push (r := ⟨⟨x0, x1, x2, x3, x4, x5⟩, ⟨ta, tl, tc⟩⟩) (x := (⟨x0, x1, x2, x3, x4, x5⟩, f2)) TK_TC hsz b3 rfl Hown3.out hown4 hg4)
        obtain ⟨va, vc, rfl⟩ := own_sv hown4
        have hpb4 := Lib.hid (hpb3.out.below b4 (by omega))
        have hq4 := Lib.hid (hq3.out.below b4 (by omega))
        have hx4 := Lib.hid (hx3.out.below b4 (by omega))
        generalize (rk ++ [(⟨⟨x0, x1, x2, x3, x4, x5⟩, ⟨ta, tl, tc⟩⟩ : CraneR)]) = rk4 at *
        generalize rk4.length = q4 at *
        have B4 : Below w.heap.size w w4 := (hB.trans (b3.mono hB.size)).trans (b4.mono (by omega))
        have cp4 := hpb4.out.c
        have cx4 := hx4.out.c
        have fx4 := hx4.out.f
        simp only [SV.v] at cx4
        refine hK.out _ _ (ph2 rfl cp4) (fun hp => ?_)
        clear hK
        try simp only [Act.put, List.setIfInBounds_toArray]
        refine take_ph 43 (i := 9) rfl rfl (by decide) (by kernel_rfl) (by kernel_rfl) (by kernel_rfl) (fun _ _ _ h => h) (by rfl) (fun w hSw => by (try dsimp only at hSw); go_simp; first | done | with_reducible rfl) hp (fun hp => ?_)
        try simp only [Act.put]
        refine AnyL.one (i := 10) (by kernel_rfl) rfl (fun K hK => ?_)
        go_simp
        refine hK.out _ _ (ph2 rfl ((World.cell?_setCell_far _ _ _ _ (by show P ≠ w.heap.size; omega)).trans cp4)) (fun hp => ?_)
        clear hK
        refine AnyL.done (by kernel_rfl) ?_ _
        have hx5 := Lib.hid (hx4.out.put (.slice va q4 vc))
        have hpb5 := Lib.hid (hpb4.out.far (.slice va q4 vc) (show P ≠ w.heap.size by omega))
        have hq5 := Lib.hid (hq4.out.far (.slice va q4 vc) (show P ≠ w.heap.size + 1 by omega))
        have hN5 := Lib.hid (hN4.out.mod ((Mod.refl P (P + 1) w4).setCell (p := ⟨P, 0, none⟩) (Nat.le_refl _) (Nat.lt_succ_self _) (.slice va q4 vc)) (Nat.le_refl _))
        have hs5 : P + 1 ≤ (w4.setCell ⟨P, 0, none⟩ (.slice va q4 vc)).heap.size := by have := b4.size; simp; omega
        go_wp2
        go_roundw
        case rel => exact ⟨k + 1, ⟨va, q4, vc⟩, _, by omega, by go_num, B4.setCell (p := ⟨P, 0, none⟩) (show w.heap.size ≤ P by omega) _, hs5, hpb5, hq5, hx5, Lib.hid (by rw [hnext.out]; exact hN5.out)⟩
        case measure => simp [intOf]; omega
    · have hkk : k = L.length := by omega
      subst hkk
      rw [List.take_length] at hown
      have hN := Lib.hid (((hown.out.w CraneR.len Chs.len TK_TC).keep ((show Mod (w.heap.size + 1) (w.heap.size + 2) wr (wr.setCell ⟨w.heap.size + 1, 0, none⟩ (.slice sa sl sc)) from (Mod.refl _ _ _).setCell (p := ⟨w.heap.size + 1, 0, none⟩) (Nat.le_refl _) (Nat.lt_succ_self _) _).same (Nat.le_refl _) (.inr (by omega)))).widen (lo' := w.heap.size) (hi' := (wr.setCell ⟨w.heap.size + 1, 0, none⟩ (.slice sa sl sc)).heap.size) (by omega) (by simp))
      go_wp2
      exact bodyPost_ret (v := .tuple #[.agg #[.slice sa sl sc], .int .i64 0]) (by simp [results, Try.results36, go_sem, cq]) rfl ⟨⟨sa, sl, sc⟩, rk, rfl, hN.out, hB.setCell (p := ⟨w.heap.size + 1, 0, none⟩) (Nat.le_succ _) _⟩
end Go.Proofs.Ytgbohbjpdmgneaa
