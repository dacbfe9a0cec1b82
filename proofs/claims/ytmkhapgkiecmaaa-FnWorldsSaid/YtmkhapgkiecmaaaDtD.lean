/- The draws of a table: A2Table. -/
import Derived.Test.YtmkhapgkiecmaaaDtC
namespace Go.Proofs.Ytmkhapgkiecmaaa
open Go.RowKit
def TabD (b : Nat) (w : World) (e : Ending) (w' : World) : Prop := ∃ v rows L, e = .returned v ∧ SSw 1 boolCells w.heap.size w'.heap.size w' v rows L ∧ TabOk L ∧ Mod b (b + 1) w w'
theorem crb_of {w : World} {q : Nat} {f : CraneF} {a : Value} {T : TypeId} {fz : Nat × Nat} {s : Value} (h : w.heap[q]? = some (.cells #[s, .int .i64 f.x, .int .i64 f.y, .int .i64 f.height, .int .i64 f.jib, .int .i64 f.back, a] T fz)) : CrB q 0 f w :=
  ⟨(Lib.cell_of_heap h 1).trans rfl, (Lib.cell_of_heap h 2).trans rfl, (Lib.cell_of_heap h 3).trans rfl, (Lib.cell_of_heap h 4).trans rfl, (Lib.cell_of_heap h 5).trans rfl⟩
theorem SSw.widenD {α : Type} {n : Nat} {c : α → List Value} {lo hi lo' hi' : Nat} {w : World} {v : Value} {rows : List SV} {L : List (List α)} (h : SSw n c lo hi w v rows L) (h1 : lo' ≤ lo) (h2 : hi ≤ hi') : SSw n c lo' hi' w v rows L :=
  ⟨h.out.widen h1 h2, h.len, fun i r x hr hx => (h.row i r x hr hx).widen h1 h2, h.apart, h.away⟩
set_option maxRecDepth 100000 in
set_option maxHeartbeats 8000000 in
theorem draw_Tab (b A : Nat) (w : World) (h : Src b A w) (hA : A ≤ 70000) : Calls Try.prog 60 #[.pointer (some ⟨b, 0, none⟩)] w (TabD b w) := by
  have hp := Lib.hid (fun A w' h hA n hn => src_pick b A n w' h hA hn)
  have ho := Lib.hid (fun A w' h hA n hn => src_one b A n w' h hA hn)
  have hbl := h.lt
  have hS0 := Lib.hid h
  clear h
  go_enter Try.func60, Try.ntmps60
  go_wp2_with fail
  refine (ho.out _ _ hS0.out (by omega) 2 (by omega)).mono ?_
  rintro e w2 ⟨yes, rfl, hs2, hm2⟩
  have hS2 := Lib.hid hs2
  have hM2 := Lib.hid hm2
  clear hs2 hm2 hS0
  cases yes with
  | true =>
    go_wp2_with fail
    refine (draw_Two b _ _ hS2.out (by omega)).mono ?_
    rintro e w3 ⟨f, g, fa, ga, fn, fc, gn, gc, rfl, hf, hg, hs3, hm3⟩
    have hbb := ((Below.refl w3.heap.size w3).alloc (Nat.le_refl _) (.cells #[.string f.name, .int .i64 f.x, .int .i64 f.y, .int .i64 f.height, .int .i64 f.jib, .int .i64 f.back, .slice fa fn fc] 117 (0, 0))).alloc (by simp) (.cells #[.string g.name, .int .i64 g.x, .int .i64 g.y, .int .i64 g.height, .int .i64 g.jib, .int .i64 g.back, .slice ga gn gc] 117 (0, 0))
    have hF := Lib.hid (box2_0 w3 (.cells #[.string f.name, .int .i64 f.x, .int .i64 f.y, .int .i64 f.height, .int .i64 f.jib, .int .i64 f.back, .slice fa fn fc] 117 (0, 0)) (.cells #[.string g.name, .int .i64 g.x, .int .i64 g.y, .int .i64 g.height, .int .i64 g.jib, .int .i64 g.back, .slice ga gn gc] 117 (0, 0)))
    have hG := Lib.hid (box2_1 w3 (.cells #[.string f.name, .int .i64 f.x, .int .i64 f.y, .int .i64 f.height, .int .i64 f.jib, .int .i64 f.back, .slice fa fn fc] 117 (0, 0)) (.cells #[.string g.name, .int .i64 g.x, .int .i64 g.y, .int .i64 g.height, .int .i64 g.jib, .int .i64 g.back, .slice ga gn gc] 117 (0, 0)))
    have hlt3 := hs3.lt
    have hS3 := Lib.hid (hs3.below hbb)
    have hM3 := Lib.hid ((hM2.out.trans hm3).then hbb)
    clear hs3 hm3 hbb hS2 hM2
    go_wp2_with fail
    refine (hp.out _ _ hS3.out (by omega) 40 (by omega)).mono ?_
    rintro e w6 ⟨d, rfl, ⟨_, hd⟩, hs6, hm6⟩
    have hd := hd (by omega)
    have hM6 := Lib.hid (hM3.out.trans hm6)
    have hF6 := crb_of (blk_mod hF.out hm6 (by omega))
    have hG6 := crb_of (blk_mod hG.out hm6 (by omega))
    have ht := Lib.hid (spec_Tab15 _ _ f g (10 + (d : Int)) w6 hF6 hG6 hf hg (by omega))
    clear hs6 hm6 hM3 hS3 hF hG hF6 hG6
    go_wp2_with fail
    refine ht.out.mono ?_
    rintro e w7 ⟨⟨v, rows, L, rfl, hw7, hok⟩, hb7⟩
    have Hw := Lib.hid (hw7.widenD (hM6.out.size) (Nat.le_refl _))
    have hM7 := Lib.hid (hM6.out.then hb7)
    clear hw7 hb7 ht
    go_wp2
    go_ret
    exact ⟨_, rows, L, rfl, Hw.out, hok, hM7.out⟩
  | false =>
    have hbe := (Below.refl w2.heap.size w2).alloc (Nat.le_refl _) (.cells #[] 68 (0, 0))
    have hS3 := Lib.hid (hS2.out.below hbe)
    have hM3 := Lib.hid (hM2.out.then hbe)
    have hO3 := Lib.hid (ownSS_nil (n := 1) (c := boolCells) (e := 4) (own_empty (n := 1) (c := one) w2 68 w.heap.size hM2.out.size))
    clear hbe hS2 hM2
    go_wp2_with fail
    refine (hp.out _ _ hS3.out (by omega) 12 (by omega)).mono ?_
    rintro e w4 ⟨mn, rfl, ⟨_, hmn⟩, hs4, hm4⟩
    have hmn := hmn (by omega)
    have hS4 := Lib.hid hs4
    have hM4 := Lib.hid (hM3.out.trans hm4)
    have hO4 := Lib.hid (hO3.out.modD hm4 (by omega))
    clear hs4 hm4 hS3 hM3 hO3
    go_wp2_with fail
    go_loopw [5, 7] (fun o i wr => ∃ (k : Nat) (rows : List SV) (L : List (List Bool)), k ≤ 24 ∧ i = .int .i64 k ∧ Hid (L.length = k) ∧ Hid (∀ r ∈ L, r.length = 24) ∧ Hid (Mod b (b + 1) w wr) ∧ Hid (Src b (A + 10 + 48 * k) wr) ∧ Hid (OwnSS 1 boolCells w.heap.size 68 4 wr o rows L)) (fun _ i _ => 24 - (intOf i).toNat)
    case atStart => exact ⟨0, [], [], by omega, rfl, Lib.hid rfl, Lib.hid (by simp), hM4, Lib.hid (hS4.out.mono (by omega)), hO4⟩
    case round =>
      clear hM4 hS4 hO4
      obtain ⟨k, rows, L, hk, rfl, hLk, hL24, hM, hS, hown⟩ := hrel
      have hBs := hM.out.size
      by_cases hlt : k < 24
      · have hlt' : (k : Int) < 24 := by omega
        have hrl : Hid (rows.length = k) := Lib.hid (hown.out.len.trans hLk.out)
        obtain ⟨ga, gc, rfl⟩ := own_valD hown.out.out
        obtain ⟨wo, hwo⟩ : ∃ wo : World, wo = wr := ⟨_, rfl⟩
        subst hwo
        have hb0 := (Below.refl wo.heap.size wo).alloc (Nat.le_refl _) (.cells #[] 4 (0, 0))
        have hown0 : Hid (Own 1 boolCells wo.heap.size 4 (wo.alloc (.cells #[] 4 (0, 0))) (.slice (some ⟨wo.heap.size, 0, none⟩) 0 0) []) := Lib.hid (own_empty wo _ _ (Nat.le_refl _))
        have hS0 := Lib.hid (hS.out.below hb0)
        have hM0 : Hid (Mod b (b + 1) wo (wo.alloc (.cells #[] 4 (0, 0)))) := Lib.hid (Mod.of_below hb0)
        have hbo : b + 1 ≤ wo.heap.size := by omega
        have Hbo := Lib.hid hbo
        clear hbo
        obtain ⟨rn, hrn⟩ : ∃ rn, rows.length = rn := ⟨_, rfl⟩
        rw [hrn] at hown ⊢
        have Hrn := Lib.hid hrn
        clear hrn hb0
        go_wp2_with fail
        go_loopw [8, 9] (fun o2 i wr => ∃ (m : Nat) (D : List Bool), m ≤ 24 ∧ i = .int .i64 m ∧ Hid (D.length = m) ∧ Hid (Mod b (b + 1) wo wr) ∧ Hid (Src b (A + 10 + 48 * k + 2 * m) wr) ∧ Hid (Own 1 boolCells wo.heap.size 4 wr o2 D)) (fun _ i _ => 24 - (intOf i).toNat)
        case atStart => exact ⟨0, [], by omega, rfl, Lib.hid rfl, hM0, Lib.hid (hS0.out.mono (by omega)), hown0⟩
        case round =>
          clear hM0 hS0 hown0
          obtain ⟨m, D, hm, rfl, hDm, hM2, hS2, hdv⟩ := hrel
          have hBs2 := hM2.out.size
          obtain ⟨da, dc, rfl⟩ := own_valD hdv.out
          by_cases hm24 : m < 24
          · obtain ⟨dn, hdn⟩ : ∃ dn, D.length = dn := ⟨_, rfl⟩
            rw [hdn] at hdv ⊢
            have Hdn := Lib.hid hdn
            clear hdn hBs hBs2 hlt hlt'
            have hm24' : (m : Int) < 24 := by omega
            have Hm24 := Lib.hid hm24
            clear hm24 hm
            go_wp2_with fail
            refine (hp.out _ _ hS2.out (by have := Hm24.out; omega) (2 + (mn : Int)) (by omega)).mono ?_
            rintro e w3 ⟨q, rfl, -, hs3, hm3⟩
            have hM3 := Lib.hid (hM2.out.trans hm3)
            have hS3 := Lib.hid hs3
            have hdv3 := Lib.hid (hdv.out.mod hm3 Hbo.out)
            have hs3' := Lib.hid hM3.out.size
            clear hs3
            clear hm3 hdv hM2 hS2
            rcases Nat.eq_zero_or_pos q with rfl | hq
            · try have hq1 : decide ((q : Int) = 0) = false := decide_eq_false (by omega)
              try have hq2 : ((q : Int) == 0) = false := by simp; omega
              go_wp2_with (at_builtin; go_loud (refine wpList_app1 (c := boolCells) (bytes := 1) rfl _ _ 68 4 rfl Try.underlying68 info_boolD (by omega) boolCells_len boolCells_one wo.heap.size D true _ rfl w3 rfl hdv3.out rfl (by have := Hdn.out; have := hDm.out; have := Hm24.out; omega) (by have := Hdn.out; have := hDm.out; have := Hm24.out; omega) hs3'.out ?_); intro v' w4 hown4 hg4; have hB4 := hdv3.out.app (Below.refl wo.heap.size w3) (Nat.le_refl _) hs3'.out hg4; have Hown4 := Lib.hid hown4; have hM4 := Lib.hid (hM3.out.onD hB4); have hS4 := Lib.hid (hS3.out.lo hB4 Hbo.out); clear hown4 hg4 hB4)
              go_roundw
              case rel => exact ⟨m + 1, D ++ [true], Hm24.out, congrArg (Value.int .i64) (by omega), Lib.hid (by rw [List.length_append, List.length_singleton, hDm.out]), hM4, Lib.hid (hS4.out.mono (by omega)), Hown4⟩
              case measure => simp [intOf]; have := Hm24.out; omega
            · try have hq1 : decide ((q : Int) = 0) = false := decide_eq_false (by omega)
              try have hq2 : ((q : Int) == 0) = false := by simp; omega
              go_wp2_with (at_builtin; go_loud (refine wpList_app1 (c := boolCells) (bytes := 1) rfl _ _ 68 4 rfl Try.underlying68 info_boolD (by omega) boolCells_len boolCells_one wo.heap.size D false _ rfl w3 rfl hdv3.out rfl (by have := Hdn.out; have := hDm.out; have := Hm24.out; omega) (by have := Hdn.out; have := hDm.out; have := Hm24.out; omega) hs3'.out ?_); intro v' w4 hown4 hg4; have hB4 := hdv3.out.app (Below.refl wo.heap.size w3) (Nat.le_refl _) hs3'.out hg4; have Hown4 := Lib.hid hown4; have hM4 := Lib.hid (hM3.out.onD hB4); have hS4 := Lib.hid (hS3.out.lo hB4 Hbo.out); clear hown4 hg4 hB4)
              go_roundw
              case rel => exact ⟨m + 1, D ++ [false], Hm24.out, congrArg (Value.int .i64) (by omega), Lib.hid (by rw [List.length_append, List.length_singleton, hDm.out]), hM4, Lib.hid (hS4.out.mono (by omega)), Hown4⟩
              case measure => simp [intOf]; have := Hm24.out; omega
          · have hBs3 : w.heap.size ≤ wr.heap.size := by omega
            have hpush := Lib.hid (fun v' w3 h1 h2 => OwnSS.push2 (te := 68) (r := ⟨da, D.length, dc⟩) (by decide) hown.out hBs (hown.out.modD hM2.out (by omega)) hdv.out (v' := v') (w2 := w3) h1 h2)
            have Hown2 := Lib.hid (hown.out.modD hM2.out (by omega))
            have HMs := Lib.hid (hM.out.trans hM2.out)
            obtain ⟨dn, hdn⟩ : ∃ dn, D.length = dn := ⟨_, rfl⟩
            have hd24 : Hid (D.length = 24) := Lib.hid (by rw [hDm.out]; omega)
            rw [hdn] at hpush ⊢
            have Hbl := Lib.hid hbl
            have Hb1 := Lib.hid (show b + 1 ≤ w.heap.size by omega)
            have HBs3 := Lib.hid hBs3
            have Hlt := Lib.hid hlt
            have Hrk : Hid (rn ≤ 24) := Lib.hid (by have := Hrn.out; have := hrl.out; omega)
            have hmn2 : ¬ (m : Int) < 24 := by omega
            have HS2 := Lib.hid (hS2.out.mono (A' := A + 10 + 48 * (k + 1)) (by omega))
            clear hdn hBs hBs2 hBs3 hlt hm hm24 hbl hS2 hdv hDm hM2 hM hown
            go_wp2_with (at_builtin; refine wpList_app1 (c := one) (bytes := 24) rfl _ _ 45 68 rfl Try.underlying45 info_rowD (by omega) one_len one_one w.heap.size rows ⟨da, dn, dc⟩ _ rfl wr rfl Hown2.out.out rfl (by have := Hrn.out; have := Hrk.out; omega) (by have := Hrn.out; have := Hrk.out; omega) HBs3.out ?_; intro v' w3 hown3 hg3; have hB3 := Hown2.out.out.app (Below.refl w.heap.size wr) (Nat.le_refl _) HBs3.out hg3; have Hown3 := Lib.hid (hpush.out _ _ hown3 hg3); have HM3 := Lib.hid (HMs.out.onD hB3); have HS3 := Lib.hid (HS2.out.lo hB3 Hb1.out); clear hown3 hg3 hpush hB3)
            go_roundw
            case rel => exact ⟨k + 1, rows ++ [⟨da, dn, dc⟩], L ++ [D], Hlt.out, congrArg (Value.int .i64) (by omega), Lib.hid (by rw [List.length_append, List.length_singleton, hLk.out]), Lib.hid (all24 hL24.out hd24.out), HM3, HS3, Hown3⟩
            case measure => simp [intOf]; have := Hlt.out; omega
      · have hL := Lib.hid (hown.out.w boolCells_len (by decide))
        obtain ⟨ga, gc, rfl⟩ := own_valD hown.out.out
        have hrl : rows.length = 24 := by have := hown.out.len; have := hLk.out; omega
        have hLl : L.length = 24 := by have := hLk.out; omega
        have hlt2 : ¬ (k : Int) < 24 := by omega
        rw [hrl] at hL ⊢
        clear hown
        go_wp2_with fail
        refine (ho.out _ _ hS.out (by omega) 6 (by omega)).mono ?_
        rintro e w5 ⟨yes, rfl, hs5, hm5⟩
        have hM5 := Lib.hid (hM.out.trans hm5)
        have hL5 := Lib.hid (hL.out.keep (hm5.same (Nat.le_refl _) (.inr (by omega))))
        have hz5 := hm5.size
        clear hs5 hm5 hS hM hL
        cases yes with
        | false =>
          go_wp2
          go_ret
          exact ⟨_, rows, L, rfl, hL5.out.widenD (Nat.le_refl _) hz5, ⟨hLl, hL24.out⟩, hM5.out⟩
        | true =>
          obtain ⟨gb, go, rfl⟩ := Sl.addr hL5.out.out.1 (by omega)
          obtain ⟨r, hr3⟩ : ∃ r, rows[3]? = some r := ⟨_, List.getElem?_eq_getElem (by omega)⟩
          obtain ⟨ra, rl, rc⟩ := r
          have hx3 : L[3]? = some (L[3]'(by omega)) := List.getElem?_eq_getElem (by omega)
          have hl3 : (L[3]'(by omega)).length = 24 := hL24.out _ (List.getElem_mem _)
          have hrow := hL5.out.row 3 _ _ hr3 hx3
          obtain ⟨a', c', hv, -⟩ := id hrow.1
          simp only [SV.v] at hv
          injection hv with e1 e2 e3
          subst e1 e2 e3
          simp only [SV.v] at hrow
          obtain ⟨rb, ro, rfl⟩ := Sl.addr hrow.1 (by omega)
          rw [hl3] at hr3
          have Hr3 := Lib.hid hr3
          have HL0 : Hid (∃ L' : List (List Bool), SSw 1 boolCells w.heap.size wr.heap.size w5 (.slice (some ⟨gb, go, none⟩) 24 gc) rows L' ∧ L'.length = 24 ∧ ∀ r ∈ L', r.length = 24) := Lib.hid ⟨L, hL5.out, hLl, hL24.out⟩
          have Hz5 := Lib.hid hz5
          clear hrow hr3 hx3 hl3 hL5 hLk hLl hL24 hz5
          obtain ⟨H, hH⟩ : ∃ H, wr.heap.size = H := ⟨_, rfl⟩
          rw [hH] at HL0 Hz5
          clear hH
          go_wp2_with fail
          go_loopw [10] (fun i wr => ∃ (m : Nat), m ≤ 24 ∧ i = .int .i64 m ∧ Hid (∃ L' : List (List Bool), SSw 1 boolCells w.heap.size H wr (.slice (some ⟨gb, go, none⟩) 24 gc) rows L' ∧ L'.length = 24 ∧ ∀ r ∈ L', r.length = 24) ∧ Hid (Mod b (b + 1) w wr) ∧ Hid (H ≤ wr.heap.size)) (fun i _ => 24 - (intOf i).toNat)
          case atStart => exact ⟨0, by omega, rfl, HL0, hM5, Hz5⟩
          case round =>
            clear HL0 hM5 Hz5
            obtain ⟨m, hm, rfl, hLx, hMx, hzx⟩ := hrel
            by_cases hm24 : m < 24
            · obtain ⟨L', hW, hl', hall⟩ := hLx.out
              have hx3 : L'[3]? = some (L'[3]'(by omega)) := List.getElem?_eq_getElem (by omega)
              have hl3 : (L'[3]'(by omega)).length = 24 := hall _ (List.getElem_mem _)
              have hrow := hW.row 3 _ _ Hr3.out hx3
              simp only [SV.v] at hrow
              have oc : wr.cell? ⟨gb, go + 3, none⟩ = some (.slice (some ⟨rb, ro, none⟩) 24 rc) := by
                have h3 : 3 < rows.length := by omega
                have hg := hW.out.1.get 3 h3 0 (.slice (some ⟨rb, ro, none⟩) 24 rc) (by have hq := Option.some.inj ((List.getElem?_eq_getElem h3).symm.trans Hr3.out); rw [hq]; rfl)
                simpa using hg
              obtain ⟨bv, ic⟩ : ∃ bv, wr.cell? ⟨rb, ro + m, none⟩ = some (.bool bv) := ⟨_, by
                have hg := hrow.1.get m (by omega) 0 _ rfl
                simpa using hg⟩
              obtain ⟨_, _, _, hv, -, hraw⟩ := Raw.of hrow boolCells_len (by omega)
              injection hv with e1 e2 e3
              injection e1 with e1
              injection e1 with e1 e4
              subst e1
              have hif := hraw.free
              have hrlo := hraw.lo
              have hst := hrow.store1 (k := m) (j := 0) (o := ro + m) (u := .bool true) (x := true) boolCells_len (by omega) (by omega) rfl (by omega)
              have HW2 : Hid (∃ L' : List (List Bool), SSw 1 boolCells w.heap.size H (wr.setCell ⟨rb, ro + m, none⟩ (.bool true)) (.slice (some ⟨gb, go, none⟩) 24 gc) rows L' ∧ L'.length = 24 ∧ ∀ r ∈ L', r.length = 24) := Lib.hid (by
                refine ⟨L'.set 3 ((L'[3]'(by omega)).set m true), hW.turn hzx.out Hr3.out hx3 ?_ hst (by simp), by rw [List.length_set]; exact hl', ?_⟩
                · intro k hk hne
                  exact Below.heap_setCell wr ⟨rb, ro + m, none⟩ (.bool true) k (fun e => hne (by omega) (by show some rb = some k; rw [e]))
                · intro r hr
                  rcases List.mem_or_eq_of_mem_set hr with hr | rfl
                  · exact hall r hr
                  · rw [List.length_set]; exact hl3)
              have hMx2 := Lib.hid (mod_set (j := ro + m) (q := rb) hMx.out hrlo (.bool true))
              have hzx2 : Hid (H ≤ (wr.setCell ⟨rb, ro + m, none⟩ (.bool true)).heap.size) := Lib.hid (by simpa using hzx.out)
              have hm24' : (m : Int) < 24 := by omega
              have Hm24 := Lib.hid hm24
              clear e2 e3 e4
              clear hx3 hl3 hrow hraw hst hW hl' hall hLx hm24 hm
              go_wp2_with fail
              go_roundw
              case rel => exact ⟨m + 1, Hm24.out, congrArg (Value.int .i64) (by omega), HW2, hMx2, hzx2⟩
              case measure => simp [intOf]; have := Hm24.out; omega
            · obtain ⟨L', hW, hl', hall⟩ := hLx.out
              have hm24' : ¬ (m : Int) < 24 := by omega
              go_wp2
              go_ret
              exact ⟨_, rows, L', rfl, hW.widenD (Nat.le_refl _) hzx.out, ⟨hl', hall⟩, hMx.out⟩
def A2Out (w : World) (e : Ending) (w' : World) : Prop := ∃ v rows L, e = .returned v ∧ SSw 1 boolCells w.heap.size w'.heap.size w' v rows L ∧ TabOk L ∧ Below w.heap.size w w'
set_option maxRecDepth 100000 in
theorem draw_A2 (v : Value) (l : List UInt8) (hi : Nat) (w : World) (h : Sl 1 byteC 0 hi w v l) (hhi : hi ≤ w.heap.size) (hl : l.length ≤ 1048576) : Calls Try.prog 22 #[v] w (A2Out w) := by
  have hf := Lib.hid (src_from v l hi w h hhi hl)
  obtain ⟨a, cap, rfl, _⟩ := h
  go_enter Try.func22, Try.ntmps22
  go_wp2_with fail
  refine hf.out.mono ?_
  rintro e w1 ⟨rfl, hs1, hb1⟩
  have hd := Lib.hid (draw_Tab w.heap.size 0 w1 hs1 (by omega))
  go_wp2_with fail
  refine hd.out.mono ?_
  rintro e w2 ⟨v, rows, L, rfl, hw2, hok, hm2⟩
  go_wp2
  go_ret
  exact ⟨_, rows, L, rfl, hw2.widenD hb1.size (Nat.le_refl _), hok, hb1.trans (hm2.below (Nat.le_refl _) hb1.size)⟩
end Go.Proofs.Ytmkhapgkiecmaaa
