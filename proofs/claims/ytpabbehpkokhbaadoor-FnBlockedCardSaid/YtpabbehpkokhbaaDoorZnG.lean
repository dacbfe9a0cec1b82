/- Zones, the reference: lists of zones, the first that blocks a line. -/
import Derived.Test.YtpabbehpkokhbaaDoorZnF
namespace Go.Proofs.YtpabbehpkokhbaaDoor
open Go.RowKit
def ZSz (L : ZonesL) : Prop := (∀ x ∈ L, x.2.length ≤ 1024) ∧ L.length ≤ 1024
theorem zones_row {lo hi b off len cap : Nat} {w : World} {rs : List ZoneR} {L : ZonesL} (h : Zones lo hi w (.slice (some ⟨b, off, none⟩) len cap) rs L) {k : Nat} (hk : k < L.length) : ∃ s : SV, ZAt b (off + k * 4) L[k].1 s w ∧ Pnts lo hi w s.v L[k].2 ∧ ∃ h : k < rs.length, rs[k] = ⟨L[k].1, s⟩ := by
  have hk1 : k < rs.length := by rw [h.len]; exact hk
  obtain ⟨hf, hr⟩ := h.one hk hk1
  refine ⟨rs[k].s, fun j u hu => ?_, hr, hk1, by rw [← hf]⟩
  have h2 := h.at hk1 j u
  rw [show ZoneR.cells rs[k] = ZoneR.cells ⟨L[k].1, rs[k].s⟩ by rw [← hf]] at h2
  exact h2 hu
set_option maxRecDepth 100000 in
set_option maxHeartbeats 4000000 in
theorem spec_ZList (v : Value) (rs : List ZoneR) (L : ZonesL) (lo hi : Nat) (w : World) (h : Zones lo hi w v rs L) (hsz : ZSz L) :
    Calls Tryd.prog 30 #[v] w fun e w' => e = .returned (.bool (zonesB L)) ∧ Below w.heap.size w w' := by
  obtain ⟨m, hm⟩ : ∃ m, m = zonesB L := ⟨_, rfl⟩
  have Hm := Lib.hid (show m = true ↔ zonesOk L by rw [hm]; exact zonesB_iff)
  rw [← hm]
  clear hm
  have hl1 := h.len
  have Hs := Lib.hid h
  obtain ⟨⟨a, cap, rfl, _⟩, _, _⟩ := h
  rw [hl1] at Hs ⊢
  have Hsz := Lib.hid hsz.1
  have hln := hsz.2
  clear hl1 hsz
  go_enter Tryd.func30, Tryd.ntmps30
  go_wp2
  go_loopw [3] (fun i wr => ∃ k : Nat, k ≤ L.length ∧ i = .int .i64 k ∧ Hid (∀ i (h : i < L.length), i < k → zoneOk L[i].1 L[i].2) ∧ Below w.heap.size w wr) (fun i _ => L.length - (Go.RowKit.intOf i).toNat)
  case atStart => exact ⟨0, Nat.zero_le _, rfl, Lib.hid (fun i _ h => absurd h (by omega)), Below.refl _ _⟩
  case round =>
    obtain ⟨k, hk, rfl, hall, hB⟩ := hrel
    by_cases hlt : k < L.length
    · have hltI : (k : Int) < (L.length : Int) := by omega
      have hs := Hs.out.ext hB
      obtain ⟨b, off, rfl⟩ := hs.out.addr (by rw [hs.len]; omega)
      obtain ⟨s, hz, hr, -⟩ := zones_row hs hlt
      have hV := spec_ZOk b (off + k * 4) L[k].1 s L[k].2 lo hi wr hz hr (Hsz.out _ (List.getElem_mem hlt))
      clear hs hz hr
      by_cases hok : zoneOk L[k].1 L[k].2
      · rw [zoneB_t hok] at hV
        have hV := Lib.hid hV
        have hall2 := Lib.hid (show ∀ i (h : i < L.length), i < k + 1 → zoneOk L[i].1 L[i].2 from fun i hi h0 => by
          by_cases e : i = k
          · subst e; exact hok
          · exact hall.out i hi (by omega))
        clear hok
        go_wp2_with fail
        refine hV.out.mono ?_
        rintro e w1 ⟨rfl, b1⟩
        go_wp2_with fail
        go_roundw
        case rel => exact ⟨k + 1, by omega, by go_num, hall2, hB.trans (b1.mono hB.size)⟩
        case measure => simp [Go.RowKit.intOf]; omega
      · rw [zoneB_f hok] at hV
        have hV := Lib.hid hV
        have hm : m = false := by
          rw [← Bool.not_eq_true]
          intro h
          exact hok ((Hm.out.1 h).1 _ (List.getElem_mem hlt))
        subst hm
        clear hok
        go_wp2_with fail
        refine hV.out.mono ?_
        rintro e w1 ⟨rfl, b1⟩
        go_wp2_with fail
        go_ret
        exact ⟨rfl, hB.trans (b1.mono hB.size)⟩
    · have hm : m = decide ((L.length : Int) ≤ 10) := by
        rw [Bool.eq_iff_iff, Hm.out, decide_eq_true_iff]
        exact ⟨fun h => by have := h.2; omega, fun h => ⟨fun x hx => by obtain ⟨i, hi, rfl⟩ := List.getElem_of_mem hx; exact hall.out i hi (by omega), by omega⟩⟩
      subst hm
      go_wp2_with fail
      go_ret
      exact ⟨rfl, hB⟩
/-- The first index that p has, or -1. -/
def FirstI (p : Nat → Bool) (n : Nat) (k : Int) : Prop := (k = -1 ∧ ∀ i, i < n → p i = false) ∨ ∃ j, j < n ∧ k = (j : Int) ∧ p j = true ∧ ∀ i, i < j → p i = false
theorem FirstI.uniq {p : Nat → Bool} {n : Nat} {k k' : Int} (h : FirstI p n k) (h' : FirstI p n k') : k = k' := by
  rcases h with ⟨rfl, h1⟩ | ⟨j, hj, rfl, h1, h2⟩ <;> rcases h' with ⟨rfl, g1⟩ | ⟨j', hj', rfl, g1, g2⟩
  · rfl
  · rw [h1 _ hj'] at g1; cases g1
  · rw [g1 _ hj] at h1; cases h1
  · rcases Nat.lt_trichotomy j j' with h | h | h
    · rw [g2 j h] at h1; cases h1
    · rw [h]
    · rw [h2 j' h] at g1; cases g1
noncomputable def blkB (L : ZonesL) (a b : Pnt) (h : Int) (j : Nat) : Bool := match L[j]? with | some x => loadB x.1 h && meetB x.2 a b | none => false
theorem blkB_at {L : ZonesL} {a b : Pnt} {h : Int} {j : Nat} (hj : j < L.length) : blkB L a b h j = (loadB L[j].1 h && meetB L[j].2 a b) := by unfold blkB; rw [List.getElem?_eq_getElem hj]
def FbR (L : ZonesL) (a b : Pnt) (h : Int) (k c : Int) : Prop :=
  ((zonesOk L ∧ Pl a.x a.y ∧ Pl b.x b.y) ∧ highB h = true ∧ c = 0 ∧ FirstI (blkB L a b h) L.length k) ∨ ((zonesOk L ∧ Pl a.x a.y ∧ Pl b.x b.y) ∧ highB h = false ∧ c = 2 ∧ k = 0) ∨ (¬ (zonesOk L ∧ Pl a.x a.y ∧ Pl b.x b.y) ∧ c = 1 ∧ k = 0)
theorem FbR.uniq {L : ZonesL} {a b : Pnt} {h k c k' c' : Int} (g : FbR L a b h k c) (g' : FbR L a b h k' c') : k = k' ∧ c = c' := by
  rcases g with ⟨h1, h2, rfl, h3⟩ | ⟨h1, h2, rfl, rfl⟩ | ⟨h1, rfl, rfl⟩ <;> rcases g' with ⟨g1, g2, rfl, g3⟩ | ⟨g1, g2, rfl, rfl⟩ | ⟨g1, rfl, rfl⟩
  · exact ⟨h3.uniq g3, rfl⟩
  · rw [h2] at g2; cases g2
  · exact absurd h1 g1
  · rw [h2] at g2; cases g2
  · exact ⟨rfl, rfl⟩
  · exact absurd h1 g1
  · exact absurd g1 h1
  · exact absurd g1 h1
  · exact ⟨rfl, rfl⟩
def FbOut (L : ZonesL) (a b : Pnt) (h : Int) (w : World) (e : Ending) (w' : World) : Prop := ∃ k c : Int, e = .returned (.tuple #[.int .i64 k, .int .i64 c]) ∧ FbR L a b h k c ∧ Below w.heap.size w w'
set_option maxRecDepth 100000 in
set_option maxHeartbeats 8000000 in
theorem spec_First (v : Value) (rs : List ZoneR) (L : ZonesL) (lo hi : Nat) (p q : Pnt) (h : Int) (w : World) (hz : Zones lo hi w v rs L) (hsz : ZSz L) :
    Calls Tryd.prog 7 #[v, .agg #[.int .i64 (p).x, .int .i64 (p).y], .agg #[.int .i64 (q).x, .int .i64 (q).y], .int .i64 h] w (FbOut L p q h w) := by
  have HV := Lib.hid (fun W (hb : Below w.heap.size w W) => spec_ZList v rs L lo hi W (hz.ext hb) hsz)
  have HP := Lib.hid (fun W => spec_Pl p.x p.y W)
  have HQ := Lib.hid (fun W => spec_Pl q.x q.y W)
  have HH := Lib.hid (fun W => spec_High h W)
  have hl1 := hz.len
  have Hs := Lib.hid hz
  have Hsz := Lib.hid hsz
  have hln := hsz.2
  obtain ⟨⟨a, cap, rfl, _⟩, _, _⟩ := hz
  rw [hl1] at Hs HV ⊢
  clear hl1 hsz
  have Hp : Hid (∀ j (hj : j < L.length), blkB L p q h j = (loadB L[j].1 h && meetB L[j].2 p q)) := Lib.hid (fun j hj => blkB_at hj)
  have HM := Lib.hid (fun (hp : Pl p.x p.y) (hq : Pl q.x q.y) b o f s C lo hi W hc hr hl hC => spec_ZMeets b o f s C lo hi p q W hc hr hl hC (pl_crd hp) (pl_crd hq))
  obtain ⟨px, py⟩ := p
  obtain ⟨qx, qy⟩ := q
  dsimp only at *
  have hb0 : Below w.heap.size w ((w.alloc (.cells #[.int .i64 px, .int .i64 py] 26 (0, 0))).alloc (.cells #[.int .i64 qx, .int .i64 qy] 26 (0, 0))) := ((Below.refl _ _).alloc (Nat.le_refl _) _).alloc (by simp) _
  have hX := Lib.hid (blkN_below ((Below.refl _ _).alloc (Nat.le_refl _) (.cells #[.int .i64 qx, .int .i64 qy] 26 (0, 0))) (blkN_new w (.cells #[.int .i64 px, .int .i64 py] 26 (0, 0))))
  have hY := Lib.hid (boxZ_1 w (.cells #[.int .i64 px, .int .i64 py] 26 (0, 0)) (.cells #[.int .i64 qx, .int .i64 qy] 26 (0, 0)))
  go_enter Tryd.func7, Tryd.ntmps7
  go_wp2_with fail
  generalize (w.alloc (.cells #[.int .i64 px, .int .i64 py] 26 (0, 0))).alloc (.cells #[.int .i64 qx, .int .i64 qy] 26 (0, 0)) = w0 at *
  refine (HV.out _ hb0).mono ?_
  rintro e w1 ⟨rfl, hb1⟩
  have hX := Lib.hid (blkN_below hb1 hX.out)
  have hY := Lib.hid (blkN_below hb1 hY.out)
  have hB1 := hb0.trans (hb1.mono hb0.size)
  obtain ⟨e0, e1⟩ := cells2z hX.out
  obtain ⟨f0, f1⟩ := cells2z hY.out
  clear hb1 hb0 HV
  by_cases hzs : zonesOk L
  · rw [zonesB_t hzs]
    have Hzs := Lib.hid hzs
    clear hzs
    go_wp2_with fail
    refine (HP.out _).mono ?_
    rintro e w2 ⟨rfl, hb2⟩
    have hX := Lib.hid (blkN_below hb2 hX.out)
    have hY := Lib.hid (blkN_below hb2 hY.out)
    have hB2 := hB1.trans (hb2.mono hB1.size)
    clear e0 e1 f0 f1
    obtain ⟨f0, f1⟩ := cells2z hY.out
    clear hb2 hB1 HP
    by_cases hpl : Pl px py
    · rw [decide_eq_true hpl]
      have Hpl := Lib.hid hpl
      clear hpl
      go_wp2_with fail
      refine (HQ.out _).mono ?_
      rintro e w3 ⟨rfl, hb3⟩
      have hX := Lib.hid (blkN_below hb3 hX.out)
      have hY := Lib.hid (blkN_below hb3 hY.out)
      have hB3 := hB2.trans (hb3.mono hB2.size)
      clear f0 f1 hb3 hB2 HQ
      by_cases hql : Pl qx qy
      · rw [decide_eq_true hql]
        have Hql := Lib.hid hql
        clear hql
        go_wp2_with fail
        refine (HH.out _).mono ?_
        rintro e _ ⟨rfl, rfl⟩
        cases hhi : highB h
        · go_wp2_with fail
          go_ret2
          exact ⟨0, 2, rfl, .inr (.inl ⟨⟨Hzs.out, Hpl.out, Hql.out⟩, hhi, rfl, rfl⟩), hB3⟩
        · have Hhi := Lib.hid hhi
          clear hhi HH
          have HM := Lib.hid (HM.out Hpl.out Hql.out)
          go_wp2_with fail
          obtain ⟨qq, hqq⟩ : ∃ qq, w.heap.size = qq := ⟨_, rfl⟩
          rw [hqq] at hX hY ⊢
          have Hqq := Lib.hid hqq
          clear hqq
          go_loopw [10] (fun i wr => ∃ k : Nat, k ≤ L.length ∧ i = .int .i64 k ∧ Hid (∀ i, i < k → blkB L ⟨px, py⟩ ⟨qx, qy⟩ h i = false) ∧ Hid (Below w3.heap.size w3 wr)) (fun i _ => L.length - (Go.RowKit.intOf i).toNat)
          case atStart => exact ⟨0, Nat.zero_le _, rfl, Lib.hid (fun i h => absurd h (by omega)), Lib.hid (Below.refl _ _)⟩
          case round =>
            obtain ⟨k, hk, rfl, hall, hBW⟩ := hrel
            have hB : Below w.heap.size w wr := hB3.trans (hBW.out.mono hB3.size)
            by_cases hlt : k < L.length
            · have hltI : (k : Int) < (L.length : Int) := by omega
              have hk0 : (0 : Int) ≤ (k : Int) := Int.natCast_nonneg _
              obtain ⟨e0, e1⟩ := cells2z (blkN_below hBW.out hX.out)
              obtain ⟨f0, f1⟩ := cells2z (blkN_below hBW.out hY.out)
              have hs := Hs.out.ext hB
              obtain ⟨b, off, rfl⟩ := hs.out.addr (by rw [hs.len]; omega)
              obtain ⟨s, hz, hr, -⟩ := zones_row hs hlt
              have hok := Hzs.out.1 _ (List.getElem_mem hlt)
              have hbk := Hp.out k hlt
              have hLd := fun n => spec_Load b (off + k * 4) L[k].1 s h (wr.drewN n) (hz.below (below_dN (Below.refl _ _) n)) hok.one
              have hMt := fun n => HM.out b (off + k * 4) L[k].1 s L[k].2 lo hi (wr.drewN n) (hz.below (below_dN (Below.refl _ _) n)) (hr.ext (below_dN (Below.refl _ _) n)) (Hsz.out.1 _ (List.getElem_mem hlt)) (fun p hp => pl_crd (hok.pl p hp))
              have hew := World.block_lt_of_cell? wr _ e0
              have hfw := World.block_lt_of_cell? wr _ f0
              clear hs hz hr hok
              cases hlb : loadB L[k].1 h
              · rw [hlb] at hLd hbk
                have hLd := Lib.hid hLd
                have hall2 := Lib.hid (show ∀ i, i < k + 1 → blkB L ⟨px, py⟩ ⟨qx, qy⟩ h i = false from fun i hi => by
                  by_cases e : i = k
                  · rw [e, hbk]; rfl
                  · exact hall.out i (by omega))
                clear hbk hlb hMt
                go_wp2_with (go_quiet (first | (go_at_call 33; exact Calls.quiet_of (hLd.out _))))
                go_roundw
                case rel => exact ⟨k + 1, by omega, by go_num, hall2, Lib.hid (below_dN hBW.out _)⟩
                case measure => simp [Go.RowKit.intOf]; omega
              · rw [hlb] at hLd hbk
                rw [Bool.true_and] at hbk
                have hLd := Lib.hid hLd
                have Hbk := Lib.hid hbk
                have hMt := Lib.hid hMt
                have hxm : ∃ bm, meetB L[k].2 ⟨px, py⟩ ⟨qx, qy⟩ = bm := ⟨_, rfl⟩
                obtain ⟨bm, hxm⟩ := hxm
                rw [hxm] at Hbk
                have Hxm := Lib.hid hxm
                clear hbk hlb hxm
                go_wp2_with fail
                refine region_ph 11 (fun w' => ∀ b o, b < wr.heap.size → w'.cell? ⟨b, o, none⟩ = wr.cell? ⟨b, o, none⟩) (fun _ => True) (by kernel_rfl) (fun _ _ _ => rfl) trivial (fun hp => ?_)
                refine take_ph 33 (i := 0) rfl rfl (by decide) (by kernel_rfl) (by kernel_rfl) (by kernel_rfl) (fun _ _ _ h => h) (by rfl) (fun w hSw => by (try dsimp only at hSw); go_simp; first | done | with_reducible rfl) hp (fun hp => ?_)
                try simp only [Act.put, List.setIfInBounds_toArray, List.set_cons_zero, List.set_cons_succ]
                refine take_ph 34 (i := 1) rfl rfl (by decide) (by kernel_rfl) (by kernel_rfl) (by kernel_rfl) (fun _ _ _ h => h) (by rfl) (fun w hSw => by (try dsimp only at hSw); go_simp; first | done | with_reducible rfl) hp (fun hp => ?_)
                try simp only [Act.put, List.setIfInBounds_toArray, List.set_cons_zero, List.set_cons_succ]
                refine take_ph 35 (i := 2) rfl rfl (by decide) (by kernel_rfl) (by kernel_rfl) (by kernel_rfl) (fun _ _ _ h => h) (by rfl) (fun w hSw => by (try dsimp only at hSw); go_simp; first | done | with_reducible rfl) hp (fun hp => ?_)
                try simp only [Act.put, List.setIfInBounds_toArray, List.set_cons_zero, List.set_cons_succ]
                refine take_ph 36 (i := 3) rfl rfl (by decide) (by kernel_rfl) (by kernel_rfl) (by kernel_rfl) (fun _ _ _ h => h) (by rfl) (fun w hSw => by (try dsimp only at hSw); go_simp; first | done | with_reducible rfl) hp (fun hp => ?_)
                try simp only [Act.put, List.setIfInBounds_toArray, List.set_cons_zero, List.set_cons_succ]
                refine AnyL.one (i := 4) (by kernel_rfl) rfl (fun K hK => ?_)
                go_simp
                refine (hLd.out 1).mono ?_
                rintro e _ ⟨rfl, n, rfl⟩
                refine hK.out _ _ (ph1 (fun b o hb => rfl) trivial) (fun hp => ?_)
                clear hK
                try simp only [Act.put, List.setIfInBounds_toArray, List.set_cons_zero, List.set_cons_succ]
                refine take_ph 38 (i := 5) rfl rfl (by decide) (by kernel_rfl) (by kernel_rfl) (by kernel_rfl) (fun _ _ _ h => h) (by rfl) (fun w hSw => by (try dsimp only at hSw); go_simp; first | done | with_reducible rfl) hp (fun hp => ?_)
                try simp only [Act.put, List.setIfInBounds_toArray, List.set_cons_zero, List.set_cons_succ]
                refine take_ph 39 (i := 6) rfl rfl (by decide) (by kernel_rfl) (by kernel_rfl) (by kernel_rfl) (fun _ _ _ h => h) (by rfl) (fun w hSw => by (try dsimp only at hSw); go_simp; first | done | with_reducible rfl) hp (fun hp => ?_)
                try simp only [Act.put, List.setIfInBounds_toArray, List.set_cons_zero, List.set_cons_succ]
                refine take_ph 40 (i := 7) rfl rfl (by decide) (by kernel_rfl) (by kernel_rfl) (by kernel_rfl) (fun _ _ _ h => h) (by rfl) (fun w hSw => by (try dsimp only at hSw); go_simp; first | done | with_reducible rfl) hp (fun hp => ?_)
                try simp only [Act.put, List.setIfInBounds_toArray, List.set_cons_zero, List.set_cons_succ]
                refine take_ph 41 (i := 8) rfl rfl (by decide) (by kernel_rfl) (by kernel_rfl) (by kernel_rfl) (fun _ _ _ h => h) (by rfl) (fun w hSw => by (try dsimp only at hSw); go_simp; first | done | with_reducible rfl) hp (fun hp => ?_)
                try simp only [Act.put, List.setIfInBounds_toArray, List.set_cons_zero, List.set_cons_succ]
                refine take_ph 42 (i := 9) rfl rfl (by decide) (by kernel_rfl) (by kernel_rfl) (by kernel_rfl) (fun _ _ _ h => h) (by rfl) (fun w hSw => by (try dsimp only at hSw); go_simp; first | done | with_reducible rfl) hp (fun hp => ?_)
                try simp only [Act.put, List.setIfInBounds_toArray, List.set_cons_zero, List.set_cons_succ]
                refine take_ph 43 (i := 10) rfl rfl (by decide) (by kernel_rfl) (by kernel_rfl) (by kernel_rfl) (fun _ _ _ h => h) (by rfl) (fun w hSw => by (try dsimp only at hSw); go_simp; first | done | with_reducible rfl) hp (fun hp => ?_)
                try simp only [Act.put, List.setIfInBounds_toArray, List.set_cons_zero, List.set_cons_succ]
                refine AnyL.one (i := 11) (by kernel_rfl) rfl (fun K hK => ?_)
                go_simp
                have b0 := below_dN (Below.refl wr.heap.size wr) (1 + n)
                have hmm := hMt.out (1 + n)
                rw [Hxm.out] at hmm
                refine (show Calls _ _ _ _ _ from hmm).mono ?_
                rintro e w4 ⟨rfl, b1'⟩
                have b1 : Below wr.heap.size wr w4 := b0.trans b1'
                refine hK.out _ _ (ph2 rfl (fun b o hb => b1.cell (p := ⟨b, o, none⟩) hb)) (fun hp => ?_)
                clear hK hmm b1' b0
                try simp only [Act.put, List.setIfInBounds_toArray, List.set_cons_zero, List.set_cons_succ]
                refine take_ph 45 (i := 12) rfl rfl (by decide) (by kernel_rfl) (by kernel_rfl) (by kernel_rfl) (fun _ _ _ h => h) (by rfl) (fun w hSw => by (try dsimp only at hSw); go_simp; first | done | with_reducible rfl) hp (fun hp => ?_)
                try simp only [Act.put, List.setIfInBounds_toArray, List.set_cons_zero, List.set_cons_succ]
                refine AnyL.done (by kernel_rfl) ?_ _
                simp only [Exit.then]
                clear hp
                have hBW2 := Lib.hid (hBW.out.trans (b1.mono hBW.out.size))
                have hB4 := hB.trans (b1.mono hB.size)
                cases bm
                · have hall2 := Lib.hid (show ∀ i, i < k + 1 → blkB L ⟨px, py⟩ ⟨qx, qy⟩ h i = false from fun i hi => by
                    by_cases e : i = k
                    · rw [e]; exact Hbk.out
                    · exact hall.out i (by omega))
                  go_wp2_with fail
                  go_roundw
                  case rel => exact ⟨k + 1, by omega, by go_num, hall2, hBW2⟩
                  case measure => simp [Go.RowKit.intOf]; omega
                · have hfin : FbR L ⟨px, py⟩ ⟨qx, qy⟩ h k 0 := .inl ⟨⟨Hzs.out, Hpl.out, Hql.out⟩, Hhi.out, rfl, .inr ⟨k, hlt, rfl, Hbk.out, hall.out⟩⟩
                  go_wp2_with fail
                  go_ret2
                  exact ⟨k, 0, rfl, hfin, hB4⟩
            · have hfin : FbR L ⟨px, py⟩ ⟨qx, qy⟩ h (-1) 0 := .inl ⟨⟨Hzs.out, Hpl.out, Hql.out⟩, Hhi.out, rfl, .inl ⟨rfl, fun i hi => hall.out i (by omega)⟩⟩
              go_wp2_with fail
              go_ret2
              exact ⟨-1, 0, rfl, hfin, hB⟩
      · rw [decide_eq_false hql]
        have hno : ¬ (zonesOk L ∧ Pl px py ∧ Pl qx qy) := fun h => hql h.2.2
        clear hql
        go_wp2_with fail
        go_ret2
        exact ⟨0, 1, rfl, .inr (.inr ⟨hno, rfl, rfl⟩), hB3⟩
    · rw [decide_eq_false hpl]
      have hno : ¬ (zonesOk L ∧ Pl px py ∧ Pl qx qy) := fun h => hpl h.2.1
      clear hpl
      go_wp2_with fail
      go_ret2
      exact ⟨0, 1, rfl, .inr (.inr ⟨hno, rfl, rfl⟩), hB2⟩
  · rw [zonesB_f hzs]
    have hno : ¬ (zonesOk L ∧ Pl px py ∧ Pl qx qy) := fun h => hzs h.1
    clear hzs
    go_wp2_with fail
    go_ret2
    exact ⟨0, 1, rfl, .inr (.inr ⟨hno, rfl, rfl⟩), hB1⟩
end Go.Proofs.YtpabbehpkokhbaaDoor
