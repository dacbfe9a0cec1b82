/- UnpackSite, the program. -/
import Derived.Test.YtgbohbjpdmgneaaUrC
import Derived.Test.YtgbohbjpdmgneaaPkJ
import Derived.Test.YtgbohbjpdmgneaaUsC
namespace Go.Proofs.Ytgbohbjpdmgneaa
open Go.RowKit
theorem info_Crane2 : (Try.prog.info? 51).map (fun i => (i.zero.map (·.cells.size), i.size, i.bytes)) = some (some 7, 7, 80) := by kernel_rfl
theorem CraneR.one2 (x : CraneR) : ∀ u ∈ x.cells, u.oneCell' = true := by intro u hu; simp [CraneR.cells, SV.v] at hu; rcases hu with rfl | rfl | rfl | rfl | rfl | rfl | rfl <;> rfl
theorem TK_TC2 : (51 : Nat) ≠ 48 := by decide
abbrev OwnS2 (lo : Nat) (w : World) (v : Value) (rs : List CraneR) (L : SiteL) : Prop := OwnN 7 CraneR.cells CraneR.f CraneR.s 2 Chs.cells lo 51 48 w v rs L
/-- The bytes of a site. -/
def SBytes (L : SiteL) : List UInt8 := siteBytes L ++ endB (siteBytes L)
def isPackS (l : List UInt8) : Prop := ∃ L, siteOk L ∧ l = SBytes L
open Classical in
noncomputable def unpS (l : List UInt8) : SiteL × Int := if h : isPackS l then (h.choose, 0) else ([], 8)
theorem unpS_f {l : List UInt8} (h : ¬ isPackS l) : unpS l = ([], 8) := dif_neg h
theorem unpS_t {l : List UInt8} {L : SiteL} (hok : siteOk L) (hl : l = SBytes L) (hu : ∀ X, siteOk X → l = SBytes X → L = X) : unpS l = (L, 0) := by
  have h : isPackS l := ⟨L, hok, hl⟩
  unfold unpS
  rw [dif_pos h, ← hu _ h.choose_spec.1 h.choose_spec.2]
theorem SBytes_cut (X : SiteL) : SBytes X = 83 :: (putN X.length ++ (X.flatMap craneBytes ++ endB (siteBytes X))) := by
  unfold SBytes siteBytes accS
  rw [List.take_length]
  simp
def UnSRes (P : SiteL × Int) (w : World) (e : Ending) (w' : World) : Prop :=
  ∃ (s : SV) (rs : List CraneR), e = .returned (.tuple #[.agg #[s.v], .int .i64 P.2]) ∧ OwnS2 w.heap.size w' s.v rs P.1 ∧ Below w.heap.size w w'
set_option maxRecDepth 100000 in
set_option maxHeartbeats 8000000 in
theorem impl_UnpackSite (s : ByteArray) (w : World) (hs : s.size ≤ 1048576) : Calls Try.prog 49 #[.string s] w (UnSRes (unpS s.data.toList) w) := by
  have hl : s.data.toList.length ≤ 1048576 := by simpa using hs
  have hba : Below w.heap.size w ((w.alloc (.cells #[.slice none 0 0] 37)).alloc (.cells #[.string s, .bool false] 159)) := ((Below.refl _ _).alloc (Nat.le_refl _) _).alloc (by simp) _
  have hun : Un (w.heap.size + 1) s.data.toList false ((w.alloc (.cells #[.slice none 0 0] 37)).alloc (.cells #[.string s, .bool false] 159)) := by
    have h := un_new2 (s := s) (w := w.alloc (.cells #[.slice none 0 0] 37))
    rwa [show (w.alloc (.cells #[.slice none 0 0] 37)).heap.size = w.heap.size + 1 from by simp] at h
  have hr0 : Hid (((w.alloc (.cells #[.slice none 0 0] 37)).alloc (.cells #[.string s, .bool false] 159)).heap[w.heap.size]? = some (.cells #[.slice none 0 0] 37)) := Lib.hid (blkN_below ((Below.refl _ _).alloc (Nat.le_refl _) _) (blkN_new w (.cells #[.slice none 0 0] 37)))
  have hN := Lib.hid (impl_byteR (w.heap.size + 1) s.data.toList false _ hun hl)
  have hz0 : w.heap.size + 2 ≤ ((w.alloc (.cells #[.slice none 0 0] 37)).alloc (.cells #[.string s, .bool false] 159)).heap.size := by simp
  have Hsl : Hid (∀ L, (⟨(SBytes L).toArray⟩ : ByteArray) = s ↔ s.data.toList = SBytes L) := Lib.hid (fun L => ⟨fun h => by rw [← h], fun h => by rw [← h]⟩)
  generalize s.data.toList = l at *
  clear hl hun
  go_enter Try.func49, Try.ntmps49
  go_wp2_with fail
  refine hN.out.mono ?_
  rintro e w1 ⟨c1, r1, bad1, rfl, hu1, hr1, hc1, hm1⟩
  have Hc1 := Lib.hid hc1
  have B1 := hba.trans (hm1.below (Nat.le_succ _) hba.size)
  have z1 := Nat.le_trans hz0 hm1.size
  have hr1z := Lib.hid ((hm1.block w.heap.size (by omega) (.inl (Nat.lt_succ_self _))).trans hr0.out)
  have hba2 : Below w1.heap.size w1 (w1.alloc (.cells #[.slice none 0 0] 37)) := (Below.refl _ _).alloc (Nat.le_refl _) _
  have hN := Lib.hid (impl_cntR (w.heap.size + 1) 6 r1 bad1 _ (hu1.ext hba2) hr1 (by omega))
  have hp1 := Lib.hid (blkN_new w1 (.cells #[.slice none 0 0] 37))
  have hr2z := Lib.hid (blkN_below hba2 hr1z.out)
  have B1a := B1.trans (hba2.mono B1.size)
  have hz1a : w1.heap.size + 1 ≤ (w1.alloc (.cells #[.slice none 0 0] 37)).heap.size := by simp
  clear hc1 hm1 hu1 hba hz0 hba2 hr1z hr0
  generalize hPP : w1.heap.size = P at *
  go_wp2_with fail
  refine hN.out.mono ?_
  rintro e w2 ⟨n, r2, bad2, rfl, hn10, hu2, hr2, hc2, hm2⟩
  have B2 := B1a.trans (hm2.below (Nat.le_succ _) B1a.size)
  have z2 := Nat.le_trans hz1a hm2.size
  have hr2y := Lib.hid ((hm2.block w.heap.size (by omega) (.inl (Nat.lt_succ_self _))).trans hr2z.out)
  have hp2 := Lib.hid ((hm2.block P (by omega) (.inr (by omega))).trans hp1.out)
  have Hu2 := Lib.hid hu2
  have hcmp : Hid (∀ X, siteOk X → l = SBytes X → n = X.length ∧ r2 = X.flatMap craneBytes ++ endB (siteBytes X) ∧ bad2 = false) := Lib.hid (fun X hX he => by
    rw [SBytes_cut] at he
    obtain ⟨h1, h2⟩ := Hc1.out _ _ he
    have h10 := hX.2.2
    obtain ⟨h3, h4, h5⟩ := hc2 X.length _ (by omega) (f49_small (by omega) (by omega)) h1
    exact ⟨h3, h4, h5.trans h2⟩)
  clear hc2 hm2 hu2 Hc1 hN B1 hr1 hr2z hp1 B1a hz1a hPP
  go_wp2
  go_loopw [15] (fun i wr => ∃ (k : Nat) (sv : SV) (rs : List CraneR) (acc : SiteL) (r : List UInt8) (bd : Bool), k ≤ n ∧ i = .int .i64 k ∧ Below w.heap.size w wr ∧ P + 1 ≤ wr.heap.size ∧ Hid (wr.heap[w.heap.size]? = some (.cells #[.slice none 0 0] 37)) ∧ Hid (wr.heap[P]? = some (.cells #[sv.v] 37)) ∧ Hid (OwnS2 (P + 1) wr sv.v rs acc) ∧ acc.length = k ∧ Hid (SiteL.wf acc) ∧ Hid (Un (w.heap.size + 1) r bd wr) ∧ r.length ≤ 1048576 ∧ Hid (∀ X, siteOk X → l = SBytes X → acc = X.take k ∧ r = (X.drop k).flatMap craneBytes ++ endB (siteBytes X) ∧ bd = false)) (fun i _ => n - (intOf i).toNat)
  case atStart => exact ⟨0, ⟨none, 0, 0⟩, [], [], r2, bad2, Nat.zero_le _, rfl, B2, z2, hr2y, hp2, Lib.hid (ownN_nil (own_nil _ _ _)), rfl, Lib.hid (fun x hx => by cases hx), Hu2, hr2, Lib.hid (fun X h1 h2 => by obtain ⟨_, h3, h4⟩ := hcmp.out X h1 h2; exact ⟨by simp, by simpa using h3, h4⟩)⟩
  case round =>
    clear Hu2 hr2 B2 z2 hr2y hp2
    obtain ⟨k, ⟨sa, sl, sc⟩, rs, acc, r, bd, hk, rfl, hB, hz, hx, hy, hown, hak, hwf, hu, hr, hcp⟩ := hrel
    simp only [SV.v] at *
    have hrk : rs.length = k := by rw [hown.out.len, hak]
    have d0 : wr.cell? ⟨P, 0, none⟩ = some (.slice sa sl sc) := (Lib.cell_of_heap hy.out 0).trans rfl
    by_cases hlt : k < n
    · have hN := Lib.hid (impl_crnR (w.heap.size + 1) r bd wr.drew hu.out hr)
      have hblt := Lib.hid hown.out.lt
      go_wp2_with fail
      refine region_ph 5 (fun _ => True) (fun w' => w'.cell? ⟨P, 0, none⟩ = some (.slice sa sl sc)) (by kernel_rfl) trivial d0 (fun hp => ?_)
      refine take_ph 17 (i := 0) rfl rfl (by decide) (by kernel_rfl) (by kernel_rfl) (by kernel_rfl) (fun _ _ _ h => h) (by rfl) (fun w hSw => by (try dsimp only at hSw); go_simp; first | done | with_reducible rfl) hp (fun hp => ?_)
      try simp only [Act.put, List.setIfInBounds_toArray, List.set_cons_zero, List.set_cons_succ]
      refine take_ph1 18 (i := 1) rfl rfl (by decide) (by rfl) (by kernel_rfl) (by kernel_rfl) (by kernel_rfl) (by kernel_rfl) (fun _ _ _ h => h) (by rfl) (fun w hSw hBw => by (try dsimp only at hSw hBw); go_simp; first | done | with_reducible rfl) hp (fun hp => ?_)
      try simp only [Act.put, List.setIfInBounds_toArray, List.set_cons_zero, List.set_cons_succ]
      refine take_ph 19 (i := 2) rfl rfl (by decide) (by kernel_rfl) (by kernel_rfl) (by kernel_rfl) (fun _ _ _ h => h) (by rfl) (fun w hSw => by (try dsimp only at hSw); go_simp; first | done | with_reducible rfl) hp (fun hp => ?_)
      try simp only [Act.put, List.setIfInBounds_toArray, List.set_cons_zero, List.set_cons_succ]
      refine AnyL.one (i := 3) (by kernel_rfl) rfl (fun K hK => ?_)
      go_simp
      refine hN.out.mono ?_
      rintro e w8 ⟨⟨x0, x1, x2, x3, x4, x5⟩, ⟨ta, tl, tc⟩, a, r8, bd8, rfl, ho8, ha10, hf8, hu8, hr8, hc8, hm8⟩
      have m8 : Mod (w.heap.size + 1) (w.heap.size + 1 + 1) wr w8 := (Mod.drewN (Mod.refl _ _ _) 1).trans hm8
      have b8 : Below w.heap.size wr w8 := m8.below (Nat.le_succ _) hB.size
      have hs8 := b8.size
      have hO8 := Lib.hid (hown.out.mod m8 (by omega))
      have hx8 := Lib.hid ((m8.block w.heap.size (by omega) (.inl (Nat.lt_succ_self _))).trans hx.out)
      have hy8 := Lib.hid ((m8.block P (by omega) (.inr (by omega))).trans hy.out)
      have e8 : w8.cell? ⟨P, 0, none⟩ = some (.slice sa sl sc) := (Lib.cell_of_heap hy8.out 0).trans rfl
      have Hu8 := Lib.hid hu8
      have Hc8 := Lib.hid hc8
      have Hf8 := Lib.hid hf8
      have Ho8 := Lib.hid (show Own 2 Chs.cells wr.heap.size 48 w8 _ _ from ho8)
      clear hu8 hc8 hm8 ho8 hf8 hN
      simp only [CraneR.cells, SV.v]
      go_wp2_with fail
      refine hK.out _ _ (ph1 trivial e8) (fun hp => ?_)
      clear hK
      try simp only [Act.put, List.setIfInBounds_toArray, List.set_cons_zero, List.set_cons_succ]
      refine AnyL.one (i := 4) (by kernel_rfl) rfl (fun K hK => ?_)
      go_simp
      refine hK.out _ _ (ph1 trivial (by rw [World.cell?_alloc_lt _ _ _ (show P < _ by omega)]; exact e8)) (fun hp => ?_)
      clear hK
      try simp only [Act.put, List.setIfInBounds_toArray, List.set_cons_zero, List.set_cons_succ]
      refine AnyL.one (i := 5) (by kernel_rfl) rfl (fun K hK => ?_)
      refine step_app1 (c := CraneR.cells) (bytes := 80) rfl _ _ 35 51 rfl Try.underlying35 info_Crane2 (by omega) CraneR.len CraneR.one2 (P + 1) rs ⟨⟨x0, x1, x2, x3, x4, x5⟩, ⟨ta, tl, tc⟩⟩ (.slice sa sl sc) rfl w8 rfl hO8.out.out rfl (by omega) (by omega) (by omega) ?_
      intro v' w9 hown9 hg9
      have b9 : Below (P + 1) w8 w9 := hO8.out.out.app (Below.refl _ _) (Nat.le_refl _) (by omega) hg9
      have hN9 := Lib.hid (hO8.out.push2 (B := wr.heap.size) (r := ⟨⟨x0, x1, x2, x3, x4, x5⟩, ⟨ta, tl, tc⟩⟩) (x := (⟨x0, x1, x2, x3, x4, x5⟩, a)) TK_TC2 hblt.out hz rfl Ho8.out hown9 hg9)
      obtain ⟨va, vc, rfl⟩ := own_sv hown9
      have hl9 : (rs ++ [(⟨⟨x0, x1, x2, x3, x4, x5⟩, ⟨ta, tl, tc⟩⟩ : CraneR)]).length = k + 1 := by rw [List.length_append, hrk]; rfl
      rw [hl9] at hN9 ⊢
      have hs9 := b9.size
      have B9 : Below w.heap.size w w9 := (hB.trans b8).trans (b9.mono (by omega))
      have hx9 := Lib.hid ((b9.block w.heap.size (by omega)).trans hx8.out)
      have hy9 := Lib.hid ((b9.block P (by omega)).trans hy8.out)
      have Hu9 := Lib.hid (show Un (w.heap.size + 1) r8 bd8 w9 from (b9.block (w.heap.size + 1) (by omega)).trans Hu8.out)
      have f9 : ∀ j, w9.frozen? ⟨P, j, none⟩ = false := fun j => Lib.frozen_of_heap hy9.out j
      have e9 : w9.cell? ⟨P, 0, none⟩ = some (.slice sa sl sc) := (Lib.cell_of_heap hy9.out 0).trans rfl
      have hcp9 : Hid (∀ X, siteOk X → l = SBytes X → acc ++ [((⟨x0, x1, x2, x3, x4, x5⟩, a) : CraneF × List Chs)] = X.take (k + 1) ∧ r8 = (X.drop (k + 1)).flatMap craneBytes ++ endB (siteBytes X) ∧ bd8 = false) := Lib.hid (fun X h1 h2 => by
        obtain ⟨hn, _, _⟩ := hcmp.out X h1 h2
        obtain ⟨g1, g2, g3⟩ := hcp.out X h1 h2
        have hkx : k < X.length := by omega
        rw [List.drop_eq_getElem_cons hkx, List.flatMap_cons, List.append_assoc] at g2
        obtain ⟨g4, g5, g6, g7⟩ := Hc8.out X[k] _ (craneFit_of (h1.1 k hkx).1) g2
        exact ⟨by rw [g1, List.take_succ_eq_append_getElem hkx, g4, g5], g6, g7.trans g3⟩)
      have hwf9 : Hid (SiteL.wf (acc ++ [((⟨x0, x1, x2, x3, x4, x5⟩, a) : CraneF × List Chs)])) := Lib.hid (fun x hx => by
        rcases List.mem_append.1 hx with h | h
        · exact hwf.out x h
        · rw [List.mem_singleton.1 h]; exact Hf8.out)
      refine hK.out _ _ (ph2 rfl trivial) (fun hp => ?_)
      clear hK hown9 hg9
      try simp only [Act.put, List.setIfInBounds_toArray]
      refine take_ph 23 (i := 6) rfl rfl (by decide) (by kernel_rfl) (by kernel_rfl) (by kernel_rfl) (fun _ _ _ h => h) (by rfl) (fun w hSw => by (try dsimp only at hSw); go_simp; first | done | with_reducible rfl) hp (fun hp => ?_)
      try simp only [Act.put]
      refine AnyL.one (i := 7) (by kernel_rfl) rfl (fun K hK => ?_)
      go_simp
      refine hK.out _ _ (ph2 rfl trivial) (fun hp => ?_)
      clear hK
      refine AnyL.done (by kernel_rfl) ?_ _
      have M10 := (Mod.refl P (P + 1) w9).setCell (p := ⟨P, 0, none⟩) (Nat.le_refl _) (Nat.lt_succ_self _) (.slice va (k + 1) vc)
      have hx10 := Lib.hid ((M10.block w.heap.size (by omega) (.inl (by omega))).trans hx9.out)
      have hy10 : Hid ((w9.setCell ⟨P, 0, none⟩ (.slice va (k + 1) vc)).heap[P]? = some (.cells #[.slice va (k + 1) vc] 37)) := Lib.hid (by have := hy9.out; simp [World.setCell, Array.getElem?_modify, this])
      have hN10 := Lib.hid (hN9.out.mod M10 (Nat.le_refl _))
      have hu10 := Lib.hid (Hu9.out.mod M10 (.inl (by omega)))
      have B10 := B9.trans (M10.below (B := w.heap.size) (by omega) (by omega))
      have hs10 : P + 1 ≤ (w9.setCell ⟨P, 0, none⟩ (.slice va (k + 1) vc)).heap.size := by simp; omega
      clear M10
      go_wp2
      go_roundw
      case rel => exact ⟨k + 1, ⟨va, k + 1, vc⟩, _, acc ++ [(⟨x0, x1, x2, x3, x4, x5⟩, a)], r8, bd8, by omega, by go_num, B10, hs10, hx10, hy10, hN10, by rw [List.length_append, hak]; rfl, hwf9, hu10, hr8, hcp9⟩
      case measure => simp [intOf]; omega
    · have hkk : k = n := by omega
      subst hkk
      have hR : Cranes (P + 1) wr.heap.size wr (.slice sa sl sc) rs acc := (hown.out.w CraneR.len (show ∀ x : Chs, x.cells.length = 2 from fun _ => rfl) TK_TC2).r
      have hPk := impl_PackSite ⟨sa, sl, sc⟩ rs acc _ _ wr hR hwf.out
      clear hR
      simp only [SV.v] at hPk
      have Hend : Hid (∀ w9, Below wr.heap.size wr w9 → ∀ W, Mod w.heap.size (w.heap.size + 1) w9 W → OwnS2 w.heap.size W (.slice sa sl sc) rs acc ∧ Below w.heap.size w W) := Lib.hid (fun w9 hb9 W hW => ⟨((hown.out.below hb9).mod hW (by omega)).lower (by omega), (hB.trans (hb9.mono hB.size)).trans (hW.below (Nat.le_refl _) (Nat.le_trans hB.size hb9.size))⟩)
      have Hun := Lib.hid (fun w9 (hb9 : Below wr.heap.size wr w9) => (show Un (w.heap.size + 1) r bd w9 from (hb9.block _ (by omega)).trans hu.out))
      have Hx := Lib.hid (fun w9 (hb9 : Below wr.heap.size wr w9) => (hb9.block w.heap.size (by omega)).trans hx.out)
      have Hy := Lib.hid (fun w9 (hb9 : Below wr.heap.size wr w9) => (hb9.block P (by omega)).trans hy.out)
      have hfin : Hid (∀ X, siteOk X → l = SBytes X → acc = X ∧ bd = false) := Lib.hid (fun X h1 h2 => by
        obtain ⟨hn, _, _⟩ := hcmp.out X h1 h2
        obtain ⟨g1, g2, g3⟩ := hcp.out X h1 h2
        rw [hn, List.take_length] at g1
        exact ⟨g1, g3⟩)
      clear hcp hcmp hown hu hwf hB hr hrk hak hx hy
      by_cases hX : siteOk acc ∧ l = SBytes acc
      · have HU := Lib.hid (unpS_t hX.1 hX.2 (fun X h1 h2 => (hfin.out X h1 h2).1))
        have hbd := (hfin.out acc hX.1 hX.2).2
        subst hbd
        rw [packS_t (siteB_iff.2 hX.1), show (siteBytes acc ++ endB (siteBytes acc)) = SBytes acc from rfl, (Hsl.out acc).2 hX.2] at hPk
        have HPk := Lib.hid hPk
        clear hPk hfin Hsl hX
        go_wp2_with fail
        refine HPk.out.mono ?_
        rintro e w9 ⟨rfl, hb9⟩
        have c1 := (Hun.out w9 hb9).c1
        have d9 : w9.cell? ⟨P, 0, none⟩ = some _ := (Lib.cell_of_heap (Hy.out w9 hb9) 0).trans rfl
        have e9 : w9.cell? ⟨w.heap.size, 0, none⟩ = some _ := (Lib.cell_of_heap (Hx.out w9 hb9) 0).trans rfl
        have ef : ∀ j, w9.frozen? ⟨w.heap.size, j, none⟩ = false := fun j => Lib.frozen_of_heap (Hx.out w9 hb9) j
        have hE := Lib.hid (Hend.out w9 hb9 _ ((Mod.refl _ _ _).setCell (p := ⟨w.heap.size, 0, none⟩) (Nat.le_refl _) (Nat.lt_succ_self _) (.slice sa sl sc)))
        clear Hun Hend HPk Hx Hy d0
        go_wp2
        exact bodyPost_ret (v := .tuple #[.agg #[.slice sa sl sc], .int .i64 0]) (by simp [results, Try.results49, go_sem, e9]) rfl ⟨⟨sa, sl, sc⟩, rs, by rw [HU.out]; rfl, by rw [HU.out]; exact hE.out.1, hE.out.2⟩
      · have hno : ¬ isPackS l := fun ⟨X, h1, h2⟩ => hX (by rw [(hfin.out X h1 h2).1]; exact ⟨h1, h2⟩)
        have HU := Lib.hid (unpS_f hno)
        have hcs : (packS acc).2 = 0 → ¬ (⟨(packS acc).1.toArray⟩ : ByteArray) = s := by
          intro h0 h1
          by_cases hok : siteB acc = true
          · rw [packS_t hok] at h1
            exact hX ⟨siteB_iff.1 hok, (Hsl.out acc).1 h1⟩
          · rw [packS_f (by simpa using hok)] at h0
            cases h0
        have HPk := Lib.hid hPk
        clear hPk hfin Hsl hX hno
        generalize (packS acc).2 = q at *
        generalize (⟨(packS acc).1.toArray⟩ : ByteArray) = t at *
        have hcq : (q = 0 ∧ (t.toList == s.toList) = false) ∨ ((q == 0) = false ∧ (q != 0) = true ∧ decide (q = 0) = false ∧ ¬ q = 0) := by
          by_cases h : q = 0
          · exact .inl ⟨h, by rw [beq_eq_false_iff_ne]; intro e; exact hcs h (by simpa [ByteArray.toList_eq, ByteArray.ext_iff] using e)⟩
          · exact .inr ⟨by simpa using h, by simpa using h, by simpa using h, h⟩
        clear hcs
        cases bd
        all_goals
          rcases hcq with ⟨rfl, hcq⟩ | ⟨hcq, hcq2, hcq3, hcq4⟩
          all_goals
            go_wp2_with fail
            refine HPk.out.mono ?_
            rintro e w9 ⟨rfl, hb9⟩
            have c1 := (Hun.out w9 hb9).c1
            have e9 : w9.cell? ⟨w.heap.size, 0, none⟩ = some _ := (Lib.cell_of_heap (Hx.out w9 hb9) 0).trans rfl
            have ef : ∀ j, w9.frozen? ⟨w.heap.size, j, none⟩ = false := fun j => Lib.frozen_of_heap (Hx.out w9 hb9) j
            have hE := Lib.hid (Hend.out w9 hb9 _ ((Mod.refl _ _ _).setCell (p := ⟨w.heap.size, 0, none⟩) (Nat.le_refl _) (Nat.lt_succ_self _) (.slice none 0 0)))
            clear Hun Hend HPk Hx Hy d0
            go_wp2
            exact bodyPost_ret (v := .tuple #[.agg #[.slice none 0 0], .int .i64 8]) (by simp [results, Try.results49, go_sem, e9]) rfl ⟨⟨none, 0, 0⟩, [], by rw [HU.out]; rfl, by rw [HU.out]; exact ownN_nil (own_nil _ _ _), hE.out.2⟩
end Go.Proofs.Ytgbohbjpdmgneaa
namespace Go.Proofs.Ytgbohbjpdmgneaa
open Go.RowKit
theorem siteBytes_cut (X : SiteL) : siteBytes X = 83 :: (putN X.length ++ X.flatMap craneBytes) := by
  unfold siteBytes accS
  rw [List.take_length]
  simp
theorem SBytes_in (X : SiteL) : SBytes X = 83 :: ((putN X.length ++ X.flatMap craneBytes) ++ endB (83 :: (putN X.length ++ X.flatMap craneBytes))) := by
  unfold SBytes
  rw [siteBytes_cut]
  rfl
theorem open_in2 {k : UInt8} {l l' : List UInt8} (h : k :: (l ++ endB (k :: l)) = k :: (l' ++ endB (k :: l'))) : l = l' :=
  (List.append_inj' (List.cons.inj h).2 (by simp [endB])).1
set_option maxRecDepth 100000 in
set_option maxHeartbeats 8000000 in
theorem spec_UnpackSite (s : ByteArray) (w : World) (hs : s.size ≤ 1048576) : Calls Try.prog 48 #[.string s] w (UnSRes (unpS s.data.toList) w) := by
  have hL : s.data.toList.length ≤ 1048576 := by simpa using hs
  have hba : Below w.heap.size w (w.alloc (.cells #[.slice none 0 0] 37)) := (Below.refl _ _).alloc (Nat.le_refl _) _
  have hr0 := Lib.hid (blkN_new w (.cells #[.slice none 0 0] 37))
  have hN : Hid (Calls Try.prog 110 #[.string s, .int .u8 83] (w.alloc (.cells #[.slice none 0 0] 37)) (OpenS 83 s.data.toList (w.alloc (.cells #[.slice none 0 0] 37)))) := Lib.hid (spec_Open 83 s.data.toList _ hL)
  have hz0 : (w.alloc (.cells #[.slice none 0 0] 37)).heap.size = w.heap.size + 1 := by simp
  generalize s.data.toList = L at *
  go_enter Try.func48, Try.ntmps48
  go_wp2_with fail
  refine hN.out.mono ?_
  rintro e w1 ⟨l, ok, rfl, hr1, hB1, hll, hcase⟩
  rw [hz0] at hr1 hB1 ⊢
  have hl : l.length ≤ 1048576 := by omega
  have hin : Hid (∀ X, L = SBytes X → ok = true ∧ l = putN X.length ++ X.flatMap craneBytes) := Lib.hid (fun X hX => by
    rw [SBytes_in] at hX
    rcases hcase with ⟨h1, h2⟩ | ⟨_, h2⟩
    · exact ⟨h1, open_in2 (h2.symm.trans hX)⟩
    · exact absurd hX (h2 _))
  have hout : Hid (ok = true → L = 83 :: (l ++ endB (83 :: l))) := Lib.hid (fun h => by
    rcases hcase with ⟨_, h2⟩ | ⟨h1, _⟩
    · exact h2
    · rw [h] at h1; cases h1)
  clear hcase hN
  have hz1 : w.heap.size + 2 ≤ w1.heap.size := hr1.lt
  have hrz := Lib.hid ((hB1.block w.heap.size (Nat.lt_succ_self _)).trans hr0.out)
  have hB1w := hba.trans (hB1.mono (Nat.le_succ _))
  have hbe : Below w1.heap.size w1 (w1.alloc (.cells #[.slice none 0 0] 37)) := (Below.refl _ _).alloc (Nat.le_refl _) _
  have hp1 := Lib.hid (blkN_new w1 (.cells #[.slice none 0 0] 37))
  have hrz1 := Lib.hid (blkN_below hbe hrz.out)
  have hN := Lib.hid (spec_cntR (w.heap.size + 1) 6 l 0 ok _ (hr1.ext hbe) hl (Nat.zero_le _) (by omega))
  have hB1e := hB1w.trans (hbe.mono hB1w.size)
  have hz1a : w1.heap.size + 1 ≤ (w1.alloc (.cells #[.slice none 0 0] 37)).heap.size := by simp
  clear hr1 hr0 hrz hB1 hB1w hbe hz0 hba
  generalize hPP : w1.heap.size = P at *
  go_wp2_with fail
  refine hN.out.mono ?_
  rintro e w2 ⟨n, q2, ok2, rfl, hn10, hq2, hu2, hc2, hs2, hm2⟩
  have B2 := hB1e.trans (hm2.below (Nat.le_succ _) hB1e.size)
  have z2 := Nat.le_trans hz1a hm2.size
  have hr2y := Lib.hid ((hm2.block w.heap.size (by omega) (.inl (Nat.lt_succ_self _))).trans hrz1.out)
  have hp2 := Lib.hid ((hm2.block P (by omega) (.inr (by omega))).trans hp1.out)
  have Hu2 := Lib.hid hu2
  have hcmp : Hid (∀ X, siteOk X → L = SBytes X → n = X.length ∧ l.drop q2 = X.flatMap craneBytes ∧ ok2 = true) := Lib.hid (fun X hX he => by
    obtain ⟨h1, h2⟩ := hin.out X he
    have h10 := hX.2.2
    exact hc2 h1 X.length _ (by omega) (f49_small (by omega) (by omega)) (by rw [List.drop_zero]; exact h2))
  have hsnd : Hid (ok2 = true → ok = true ∧ l = putN n ++ l.drop q2) := Lib.hid (fun h => by have := hs2 h; rwa [List.drop_zero] at this)
  clear hc2 hs2 hm2 hu2 hin hN hp1 hrz1 hB1e hz1a hPP
  go_wp2
  go_loopw [6] (fun i wr => ∃ (m : Nat) (sv : SV) (rs : List CraneR) (acc : SiteL) (q : Nat) (k : Bool), acc.length + m = n ∧ i = .int .i64 m ∧ Below w.heap.size w wr ∧ P + 1 ≤ wr.heap.size ∧ Hid (wr.heap[w.heap.size]? = some (.cells #[.slice none 0 0] 37)) ∧ Hid (wr.heap[P]? = some (.cells #[sv.v] 37)) ∧ Hid (OwnS2 (P + 1) wr sv.v rs acc) ∧ Hid (SiteL.wf acc) ∧ Hid (Rd (w.heap.size + 1) l q k wr) ∧ q ≤ l.length ∧
    Hid (∀ X, siteOk X → L = SBytes X → acc = X.take acc.length ∧ l.drop q = (X.drop acc.length).flatMap craneBytes ∧ k = true) ∧ Hid (k = true → ok = true ∧ l = putN n ++ (acc.flatMap craneBytes ++ l.drop q))) (fun i _ => (intOf i).toNat)
  case atStart => exact ⟨n, ⟨none, 0, 0⟩, [], [], q2, ok2, by simp, rfl, B2, z2, hr2y, hp2, Lib.hid (ownN_nil (own_nil _ _ _)), Lib.hid (fun x hx => by cases hx), Hu2, hq2, Lib.hid (fun X h1 h2 => by obtain ⟨_, h3, h4⟩ := hcmp.out X h1 h2; exact ⟨by simp, by simpa using h3, h4⟩), Lib.hid (fun h => by obtain ⟨h1, h2⟩ := hsnd.out h; exact ⟨h1, by simpa using h2⟩)⟩
  case round =>
    clear Hu2 hq2 B2 z2 hr2y hp2
    obtain ⟨m, ⟨sa, sl, sc⟩, rs, acc, q, k, hmn, rfl, hB, hz, hx, hy, hown, hwf, hu, hq, hcp, hsd⟩ := hrel
    simp only [SV.v] at *
    have hrk : rs.length = acc.length := hown.out.len
    have c2 := hu.out.c2
    have hak : acc.length ≤ 6 := by omega
    have d0 : wr.cell? ⟨P, 0, none⟩ = some (.slice sa sl sc) := (Lib.cell_of_heap hy.out 0).trans rfl
    by_cases hgo : 0 < m ∧ k = true
    · obtain ⟨hm0, rfl⟩ := hgo
      have hgt : decide ((0 : Int) < (m : Int)) = true := decide_eq_true (by omega)
      have hN := Lib.hid (spec_crnR (w.heap.size + 1) l q true wr.drew hu.out hl hq)
      have hblt := Lib.hid hown.out.lt
      have Hrk := Lib.hid hrk
      clear hrk
      go_wp2_with fail
      refine region_ph 5 (fun _ => True) (fun w' => w'.cell? ⟨P, 0, none⟩ = some (.slice sa sl sc)) (by kernel_rfl) trivial d0 (fun hp => ?_)
      refine take_ph 22 (i := 0) rfl rfl (by decide) (by kernel_rfl) (by kernel_rfl) (by kernel_rfl) (fun _ _ _ h => h) (by rfl) (fun w hSw => by (try dsimp only at hSw); go_simp; first | done | with_reducible rfl) hp (fun hp => ?_)
      try simp only [Act.put, List.setIfInBounds_toArray, List.set_cons_zero, List.set_cons_succ]
      refine take_ph1 23 (i := 1) rfl rfl (by decide) (by rfl) (by kernel_rfl) (by kernel_rfl) (by kernel_rfl) (by kernel_rfl) (fun _ _ _ h => h) (by rfl) (fun w hSw hBw => by (try dsimp only at hSw hBw); go_simp; first | done | with_reducible rfl) hp (fun hp => ?_)
      try simp only [Act.put, List.setIfInBounds_toArray, List.set_cons_zero, List.set_cons_succ]
      refine take_ph 24 (i := 2) rfl rfl (by decide) (by kernel_rfl) (by kernel_rfl) (by kernel_rfl) (fun _ _ _ h => h) (by rfl) (fun w hSw => by (try dsimp only at hSw); go_simp; first | done | with_reducible rfl) hp (fun hp => ?_)
      try simp only [Act.put, List.setIfInBounds_toArray, List.set_cons_zero, List.set_cons_succ]
      refine AnyL.one (i := 3) (by kernel_rfl) rfl (fun K hK => ?_)
      go_simp
      refine hN.out.mono ?_
      rintro e w8 ⟨⟨x0, x1, x2, x3, x4, x5⟩, ⟨ta, tl, tc⟩, a, q8, k8, rfl, ho8, ha10, hf8, hq8, hu8, hc8, hs8, hm8⟩
      have m8 : Mod (w.heap.size + 1) (w.heap.size + 1 + 1) wr w8 := (Mod.drewN (Mod.refl _ _ _) 1).trans hm8
      have b8 : Below w.heap.size wr w8 := m8.below (Nat.le_succ _) hB.size
      have hz8 := b8.size
      have hO8 := Lib.hid (hown.out.mod m8 (by omega))
      have hx8 := Lib.hid ((m8.block w.heap.size (by omega) (.inl (Nat.lt_succ_self _))).trans hx.out)
      have hy8 := Lib.hid ((m8.block P (by omega) (.inr (by omega))).trans hy.out)
      have e8 : w8.cell? ⟨P, 0, none⟩ = some (.slice sa sl sc) := (Lib.cell_of_heap hy8.out 0).trans rfl
      have Hu8 := Lib.hid hu8
      have Hc8 := Lib.hid hc8
      have Hs8 := Lib.hid hs8
      have Hf8 := Lib.hid hf8
      have Ho8 := Lib.hid (show Own 2 Chs.cells wr.heap.size 48 w8 _ _ from ho8)
      clear hu8 hc8 hm8 ho8 hf8 hs8 hN
      simp only [CraneR.cells, SV.v]
      go_wp2_with fail
      refine hK.out _ _ (ph1 trivial e8) (fun hp => ?_)
      clear hK
      try simp only [Act.put, List.setIfInBounds_toArray, List.set_cons_zero, List.set_cons_succ]
      refine AnyL.one (i := 4) (by kernel_rfl) rfl (fun K hK => ?_)
      go_simp
      refine hK.out _ _ (ph1 trivial (by rw [World.cell?_alloc_lt _ _ _ (show P < _ by omega)]; exact e8)) (fun hp => ?_)
      clear hK
      try simp only [Act.put, List.setIfInBounds_toArray, List.set_cons_zero, List.set_cons_succ]
      refine AnyL.one (i := 5) (by kernel_rfl) rfl (fun K hK => ?_)
      refine step_app1 (c := CraneR.cells) (bytes := 80) rfl _ _ 35 51 rfl Try.underlying35 info_Crane2 (by omega) CraneR.len CraneR.one2 (P + 1) rs ⟨⟨x0, x1, x2, x3, x4, x5⟩, ⟨ta, tl, tc⟩⟩ (.slice sa sl sc) rfl w8 rfl hO8.out.out rfl (by have := Hrk.out; omega) (by have := Hrk.out; omega) (by omega) ?_
      intro v' w9 hown9 hg9
      have b9 : Below (P + 1) w8 w9 := hO8.out.out.app (Below.refl _ _) (Nat.le_refl _) (by omega) hg9
      have hN9 := Lib.hid (hO8.out.push2 (B := wr.heap.size) (r := ⟨⟨x0, x1, x2, x3, x4, x5⟩, ⟨ta, tl, tc⟩⟩) (x := (⟨x0, x1, x2, x3, x4, x5⟩, a)) TK_TC2 hblt.out hz rfl Ho8.out hown9 hg9)
      obtain ⟨va, vc, rfl⟩ := own_sv hown9
      have hl9 : (rs ++ [(⟨⟨x0, x1, x2, x3, x4, x5⟩, ⟨ta, tl, tc⟩⟩ : CraneR)]).length = rs.length + 1 := by rw [List.length_append]; rfl
      rw [hl9] at hN9 ⊢
      have hs9 := b9.size
      have B9 : Below w.heap.size w w9 := (hB.trans b8).trans (b9.mono (by omega))
      have hx9 := Lib.hid ((b9.block w.heap.size (by omega)).trans hx8.out)
      have hy9 := Lib.hid ((b9.block P (by omega)).trans hy8.out)
      have Hu9 := Lib.hid (show Rd (w.heap.size + 1) l q8 k8 w9 from (b9.block (w.heap.size + 1) (by omega)).trans Hu8.out)
      have f9 : ∀ j, w9.frozen? ⟨P, j, none⟩ = false := fun j => Lib.frozen_of_heap hy9.out j
      have e9 : w9.cell? ⟨P, 0, none⟩ = some (.slice sa sl sc) := (Lib.cell_of_heap hy9.out 0).trans rfl
      have hla : (acc ++ [((⟨x0, x1, x2, x3, x4, x5⟩, a) : CraneF × List Chs)]).length = acc.length + 1 := by rw [List.length_append]; rfl
      have hcp9 : Hid (∀ X, siteOk X → L = SBytes X → acc ++ [((⟨x0, x1, x2, x3, x4, x5⟩, a) : CraneF × List Chs)] = X.take (acc ++ [((⟨x0, x1, x2, x3, x4, x5⟩, a) : CraneF × List Chs)]).length ∧ l.drop q8 = (X.drop (acc ++ [((⟨x0, x1, x2, x3, x4, x5⟩, a) : CraneF × List Chs)]).length).flatMap craneBytes ∧ k8 = true) := Lib.hid (fun X h1 h2 => by
        obtain ⟨hn, _, _⟩ := hcmp.out X h1 h2
        obtain ⟨g1, g2, g3⟩ := hcp.out X h1 h2
        have hkx : acc.length < X.length := by omega
        rw [List.drop_eq_getElem_cons hkx, List.flatMap_cons] at g2
        obtain ⟨g4, g5, g6, g7⟩ := Hc8.out (by trivial) X[acc.length] _ (craneFit_of (h1.1 acc.length hkx).1) g2
        rw [hla]
        exact ⟨by rw [List.take_succ_eq_append_getElem hkx, ← g1, g4, g5], g6, g7⟩)
      have hsd9 : Hid (k8 = true → ok = true ∧ l = putN n ++ ((acc ++ [((⟨x0, x1, x2, x3, x4, x5⟩, a) : CraneF × List Chs)]).flatMap craneBytes ++ l.drop q8)) := Lib.hid (fun h => by
        obtain ⟨g1, g2⟩ := Hs8.out h
        obtain ⟨g3, g4⟩ := hsd.out (by trivial)
        refine ⟨g3, ?_⟩
        rw [g2] at g4
        rw [List.flatMap_append]
        simpa using g4)
      have hwf9 : Hid (SiteL.wf (acc ++ [((⟨x0, x1, x2, x3, x4, x5⟩, a) : CraneF × List Chs)])) := Lib.hid (fun x hx => by
        rcases List.mem_append.1 hx with h | h
        · exact hwf.out x h
        · rw [List.mem_singleton.1 h]; exact Hf8.out)
      have hsub : IntKind.i64.wrap ((m : Int) - 1) = ((m - 1 : Nat) : Int) := by rw [IntWalk.i64_in _ (by omega)]; omega
      refine hK.out _ _ (ph2 rfl trivial) (fun hp => ?_)
      clear hK hown9 hg9
      try simp only [Act.put, List.setIfInBounds_toArray]
      refine take_ph 28 (i := 6) rfl rfl (by decide) (by kernel_rfl) (by kernel_rfl) (by kernel_rfl) (fun _ _ _ h => h) (by rfl) (fun w hSw => by (try dsimp only at hSw); go_simp; first | done | with_reducible rfl) hp (fun hp => ?_)
      try simp only [Act.put]
      refine AnyL.one (i := 7) (by kernel_rfl) rfl (fun K hK => ?_)
      go_simp
      refine hK.out _ _ (ph2 rfl trivial) (fun hp => ?_)
      clear hK
      refine AnyL.done (by kernel_rfl) ?_ _
      have M10 := (Mod.refl P (P + 1) w9).setCell (p := ⟨P, 0, none⟩) (Nat.le_refl _) (Nat.lt_succ_self _) (.slice va (rs.length + 1) vc)
      have hx10 := Lib.hid ((M10.block w.heap.size (by omega) (.inl (by omega))).trans hx9.out)
      have hy10 : Hid ((w9.setCell ⟨P, 0, none⟩ (.slice va (rs.length + 1) vc)).heap[P]? = some (.cells #[.slice va (rs.length + 1) vc] 37)) := Lib.hid (by have := hy9.out; simp [World.setCell, Array.getElem?_modify, this])
      have hN10 := Lib.hid (hN9.out.mod M10 (Nat.le_refl _))
      have hu10 := Lib.hid (Hu9.out.mod M10 (.inl (by omega)))
      have B10 := B9.trans (M10.below (B := w.heap.size) (by omega) (by omega))
      have hs10 : P + 1 ≤ (w9.setCell ⟨P, 0, none⟩ (.slice va (rs.length + 1) vc)).heap.size := by simp; omega
      clear M10
      go_wp2
      go_roundw
      case rel => exact ⟨m - 1, ⟨va, rs.length + 1, vc⟩, _, acc ++ [(⟨x0, x1, x2, x3, x4, x5⟩, a)], q8, k8, by omega, by first | rfl | go_num, B10, hs10, hx10, hy10, hN10, hwf9, hu10, hq8, hcp9, hsd9⟩
      case measure => simp [intOf]; omega
    · have hfin : Hid (∀ X, siteOk X → L = SBytes X → acc = X ∧ k = true ∧ q = l.length) := Lib.hid (fun X h1 h2 => by
        obtain ⟨hn, _, _⟩ := hcmp.out X h1 h2
        obtain ⟨g1, g2, g3⟩ := hcp.out X h1 h2
        have hm0 : m = 0 := by rcases Nat.eq_zero_or_pos m with h | h; exact h; exact absurd ⟨h, g3⟩ hgo
        have ha : acc.length = X.length := by omega
        rw [ha, List.take_length] at g1
        rw [ha, List.drop_length] at g2
        have g4 := List.drop_eq_nil_iff.1 g2
        exact ⟨g1, g3, by omega⟩)
      have hsfin : Hid (k = true → q = l.length → L = SBytes acc) := Lib.hid (fun h hql => by
        have hm0 : m = 0 := by rcases Nat.eq_zero_or_pos m with h' | h'; exact h'; exact absurd ⟨h', h⟩ hgo
        obtain ⟨g1, g2⟩ := hsd.out h
        rw [hout.out g1, SBytes_in]
        rw [hql, List.drop_length, List.append_nil, show n = acc.length by omega] at g2
        rw [← g2])
      have hW := spec_whole2 (w.heap.size + 1) l q k wr hu.out
      have Hend : Hid (∀ w9, Below wr.heap.size wr w9 → ∀ W, Mod w.heap.size (w.heap.size + 1) w9 W → OwnS2 w.heap.size W (.slice sa sl sc) rs acc ∧ Below w.heap.size w W) := Lib.hid (fun w9 hb9 W hW => ⟨((hown.out.below hb9).mod hW (by omega)).lower (by omega), (hB.trans (hb9.mono hB.size)).trans (hW.below (Nat.le_refl _) (Nat.le_trans hB.size hb9.size))⟩)
      have Hx := Lib.hid (fun w9 (hb9 : Below wr.heap.size wr w9) => (hb9.block w.heap.size (by omega)).trans hx.out)
      have Hy := Lib.hid (fun w9 (hb9 : Below wr.heap.size wr w9) => (hb9.block P (by omega)).trans hy.out)
      have hVd := Lib.hid (fun w9 (hb9 : Below wr.heap.size wr w9) => spec_SiteOk P (.slice sa sl sc) rs acc (P + 1) wr.heap.size w9 ((Lib.cell_of_heap (Hy.out w9 hb9) 0).trans rfl) ((show Cranes (P + 1) wr.heap.size wr (.slice sa sl sc) rs acc from (hown.out.w CraneR.len (show ∀ x : Chs, x.cells.length = 2 from fun _ => rfl) TK_TC2).r).ext hb9) hwf.out)
      have hcs : m = 0 ∨ (0 < m ∧ k = false) := by
        rcases Nat.eq_zero_or_pos m with h | h
        · exact .inl h
        · exact .inr ⟨h, by cases k; rfl; exact absurd ⟨h, rfl⟩ hgo⟩
      clear hmn hgo hcp hsd hcmp hsnd hout hown hu hwf hB hrk hx hy
      by_cases hX : (k && decide (q = l.length)) = true ∧ siteOk acc
      · obtain ⟨hwb, hokX⟩ := hX
        rw [hwb] at hW
        obtain ⟨hk1, hk2⟩ := Bool.and_eq_true _ _ ▸ hwb
        have hLA := hsfin.out hk1 (of_decide_eq_true hk2)
        have HU := Lib.hid (unpS_t hokX hLA (fun X h1 h2 => (hfin.out X h1 h2).1))
        have hm0 : m = 0 := by
          rcases hcs with h | ⟨_, h⟩
          · exact h
          · rw [h] at hk1; cases hk1
        subst hm0
        have hlb := siteB_t hokX
        rw [hlb] at hVd
        have HW := Lib.hid hW
        clear hW hwb hokX hk1 hk2 hLA hcs hfin hsfin hlb
        go_wp2_with fail
        refine HW.out.mono ?_
        rintro e w9 ⟨rfl, hb9⟩
        have hV := Lib.hid (hVd.out w9 hb9)
        clear hVd
        go_wp2_with fail
        refine hV.out.mono ?_
        rintro e w10 ⟨rfl, hb10⟩
        have hb := hb9.trans (hb10.mono hb9.size)
        have d9 : w10.cell? ⟨P, 0, none⟩ = some _ := (Lib.cell_of_heap (Hy.out w10 hb) 0).trans rfl
        have e9 : w10.cell? ⟨w.heap.size, 0, none⟩ = some _ := (Lib.cell_of_heap (Hx.out w10 hb) 0).trans rfl
        have ef : ∀ j, w10.frozen? ⟨w.heap.size, j, none⟩ = false := fun j => Lib.frozen_of_heap (Hx.out w10 hb) j
        have hE := Lib.hid (Hend.out w10 hb _ ((Mod.refl _ _ _).setCell (p := ⟨w.heap.size, 0, none⟩) (Nat.le_refl _) (Nat.lt_succ_self _) (.slice sa sl sc)))
        clear Hend Hx Hy hV HW
        go_wp2
        exact bodyPost_ret (v := .tuple #[.agg #[.slice sa sl sc], .int .i64 0]) (by simp [results, Try.results48, go_sem, e9]) rfl ⟨⟨sa, sl, sc⟩, rs, by rw [HU.out]; rfl, by rw [HU.out]; exact hE.out.1, hE.out.2⟩
      · have hno : ¬ isPackS L := fun ⟨X, h1, h2⟩ => hX (by
          obtain ⟨g1, g2, g3⟩ := hfin.out X h1 h2
          rw [g1, g2, g3, decide_eq_true rfl]
          exact ⟨rfl, h1⟩)
        have HU := Lib.hid (unpS_f hno)
        have hcb : ((k && decide (q = l.length)) = true ∧ siteB acc = false) ∨ (k && decide (q = l.length)) = false := by
          cases hwb : (k && decide (q = l.length))
          · exact .inr rfl
          · refine .inl ⟨rfl, ?_⟩
            cases hlb : siteB acc
            · rfl
            · exact absurd ⟨hwb, siteB_iff.1 hlb⟩ hX
        clear hX hno hfin hsfin
        rcases hcb with ⟨hwb, hlb⟩ | hwb
        · rw [hwb] at hW
          rw [hlb] at hVd
          have hm0 : m = 0 := by
            rcases hcs with h | ⟨_, h⟩
            · exact h
            · rw [h] at hwb; cases hwb
          subst hm0
          have HW := Lib.hid hW
          clear hW hwb hlb hcs
          go_wp2_with fail
          refine HW.out.mono ?_
          rintro e w9 ⟨rfl, hb9⟩
          have hV := Lib.hid (hVd.out w9 hb9)
          clear hVd
          go_wp2_with fail
          refine hV.out.mono ?_
          rintro e w10 ⟨rfl, hb10⟩
          have hb := hb9.trans (hb10.mono hb9.size)
          have e9 : w10.cell? ⟨w.heap.size, 0, none⟩ = some _ := (Lib.cell_of_heap (Hx.out w10 hb) 0).trans rfl
          have ef : ∀ j, w10.frozen? ⟨w.heap.size, j, none⟩ = false := fun j => Lib.frozen_of_heap (Hx.out w10 hb) j
          have hE := Lib.hid (Hend.out w10 hb _ ((Mod.refl _ _ _).setCell (p := ⟨w.heap.size, 0, none⟩) (Nat.le_refl _) (Nat.lt_succ_self _) (.slice none 0 0)))
          clear Hend Hx Hy hV HW
          go_wp2
          exact bodyPost_ret (v := .tuple #[.agg #[.slice none 0 0], .int .i64 8]) (by simp [results, Try.results48, go_sem, e9]) rfl ⟨⟨none, 0, 0⟩, [], by rw [HU.out]; rfl, by rw [HU.out]; exact ownN_nil (own_nil _ _ _), hE.out.2⟩
        · rw [hwb] at hW
          have HW := Lib.hid hW
          clear hW hwb hVd
          rcases hcs with rfl | ⟨hgt, rfl⟩
          all_goals
            go_wp2_with fail
            all_goals
              refine HW.out.mono ?_
              rintro e w10 ⟨rfl, hb⟩
              have e9 : w10.cell? ⟨w.heap.size, 0, none⟩ = some _ := (Lib.cell_of_heap (Hx.out w10 hb) 0).trans rfl
              have ef : ∀ j, w10.frozen? ⟨w.heap.size, j, none⟩ = false := fun j => Lib.frozen_of_heap (Hx.out w10 hb) j
              have hE := Lib.hid (Hend.out w10 hb _ ((Mod.refl _ _ _).setCell (p := ⟨w.heap.size, 0, none⟩) (Nat.le_refl _) (Nat.lt_succ_self _) (.slice none 0 0)))
              clear Hend Hx Hy HW
              go_wp2
              exact bodyPost_ret (v := .tuple #[.agg #[.slice none 0 0], .int .i64 8]) (by simp [results, Try.results48, go_sem, e9]) rfl ⟨⟨none, 0, 0⟩, [], by rw [HU.out]; rfl, by rw [HU.out]; exact ownN_nil (own_nil _ _ _), hE.out.2⟩
end Go.Proofs.Ytgbohbjpdmgneaa
