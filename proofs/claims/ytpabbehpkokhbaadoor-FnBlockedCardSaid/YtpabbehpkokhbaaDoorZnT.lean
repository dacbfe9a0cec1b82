/- Zones, the program: free directions of a jib. -/
import Derived.Test.YtpabbehpkokhbaaDoorZnS
import Derived.Test.YtpabbehpkokhbaaDoorCraneW
namespace Go.Proofs.YtpabbehpkokhbaaDoor
open Go.RowKit
section
variable {P : Program} {ops : Array Oper} {Q : Exit → Act → World → Prop} {md : Region.Mode}
/-- Taken first: it is not wanted. -/
theorem take_phw {k : Nat} {S B : World → Prop} (d : Tmp) {i : Nat} {oi : Oper} {fuel : Nat} {listed : Array Bool} {a : Act} {w : World} (hi : ops[i]? = some oi) (hd : oi.dst = some d) (hik : i ≠ k)
    (hs : Region.noSelect ops = true) (hf : Region.free md ops listed i = true) (hr : (Region.ready md ops listed).contains i = true)
    (hQ : ∀ c a w, Q (.panic c) (a.put (some d) undef) w → Q (.panic c) a w) (hw : Region.wanted oi (yielded ops a.tmps) = false) (hp : Ph k S B listed w)
    (h : Ph k S B (listed.setIfInBounds i true) w → AnyL P md ops Q (Ph k S B) fuel (listed.setIfInBounds i true) (a.put (some d) undef) w) : AnyL P md ops Q (Ph k S B) (fuel + 1) listed a w :=
  AnyL.first (T := S) (I := fun _ => True) hi (Region.noSelect_spec hs) (by rw [hd]; exact hQ) (fun _ _ _ _ _ _ _ => trivial)
    (fun l w _ hp => hp.1) (fun l w => ph_set hik S B l w)
    fuel listed a w trivial (Region.free_spec hi hf) (by simpa using hr) (Or.inr ⟨hw, rfl⟩) hp (by rw [hd]; exact h ((ph_set hik S B listed w).2 hp))
end
theorem noHit_any (f : CraneF) (L : ZonesL) (d : Nat) : ∀ n, noHit f L d n = !anyI (hitB f L d) n
  | 0 => rfl
  | n + 1 => by unfold noHit anyI; rw [noHit_any f L d n, Bool.not_or]
set_option maxRecDepth 100000 in
set_option maxHeartbeats 8000000 in
theorem impl_FjFn (g : CraneF) (cv : SV) (f : ZoneF) (s : SV) (C : List Pnt) (lo hi q0 q1 d : Nat) (w : World) (hQ : Qtr w) (hh : Pnts lo hi w s.v C) (hhi : hi ≤ w.heap.size) (hl : C.length ≤ 1024) (hok : zoneOk f C) (hg : GeoOk g) (hd : d < 24)
    (h0 : w.heap[q0]? = some (.cells #[.string (g).name, .int .i64 (g).x, .int .i64 (g).y, .int .i64 (g).height, .int .i64 (g).jib, .int .i64 (g).back, cv.v] 41 (0, 0))) (h1 : w.heap[q1]? = some (.cells #[.int .i64 (d : Int)] 2 (0, 0))) :
    Calls Tryd.prog 47 #[.agg (ZoneR.cells ⟨f, s⟩).toArray, .pointer (some ⟨q0, 0, none⟩), .pointer (some ⟨q1, 0, none⟩)] w fun e w' => e = .returned (.bool (jibB f g.height && meetB C ⟨g.x, g.y⟩ (jibP g d))) ∧ Below w.heap.size w w' := by
  have hb0 : Below w.heap.size w (w.alloc (.cells #[.int .i64 (f).kind, .int .i64 (f).storeys, .int .i64 (f).each, (s).v] 33 (0, 0))) := (Below.refl _ _).alloc (Nat.le_refl _) _
  have HQ := Lib.hid hQ
  have hL := Lib.hid (fun W => impl_bJib f s g.height W hok.one)
  have hJ := Lib.hid (fun W (hq : Qtr W) => impl_Jib g cv.v d W hq hg hd)
  have hM := Lib.hid (fun W (hb : Below w.heap.size w W) => impl_ZMeets f s C lo hi ⟨g.x, g.y⟩ (jibP g d) W (hh.ext hb) (Nat.le_trans hhi hb.size) hl (fun c hc => pl_crd (hok.pl c hc)) hok.conv (at_crd hg) (jib_crd hg hd))
  have HX := Lib.hid (blkN_new w (.cells #[.int .i64 (f).kind, .int .i64 (f).storeys, .int .i64 (f).each, (s).v] 33 (0, 0)))
  have HG := Lib.hid (blkN_below hb0 h0)
  have HD := Lib.hid (blkN_below hb0 h1)
  have x0 := (Lib.cell_of_heap HX.out 0).trans rfl
  have x1 := (Lib.cell_of_heap HX.out 1).trans rfl
  have x2 := (Lib.cell_of_heap HX.out 2).trans rfl
  have x3 := (Lib.cell_of_heap HX.out 3).trans rfl
  have g0 := (Lib.cell_of_heap HG.out 0).trans rfl
  have g1 := (Lib.cell_of_heap HG.out 1).trans rfl
  have g2 := (Lib.cell_of_heap HG.out 2).trans rfl
  have g3 := (Lib.cell_of_heap HG.out 3).trans rfl
  have g4 := (Lib.cell_of_heap HG.out 4).trans rfl
  have g5 := (Lib.cell_of_heap HG.out 5).trans rfl
  have g6 := (Lib.cell_of_heap HG.out 6).trans rfl
  have d0 := (Lib.cell_of_heap HD.out 0).trans rfl
  have hxw := (Array.getElem?_eq_some_iff.1 HX.out).1
  have hgw := (Array.getElem?_eq_some_iff.1 HG.out).1
  have hdw := (Array.getElem?_eq_some_iff.1 HD.out).1
  generalize jibB f g.height = r1 at *
  generalize meetB C ⟨g.x, g.y⟩ (jibP g d) = r2 at *
  obtain ⟨jp, hjp⟩ : ∃ jp, jibP g d = jp := ⟨_, rfl⟩
  rw [hjp] at hJ hM
  obtain ⟨sa, sl, sc⟩ := s
  obtain ⟨va, vl, vc⟩ := cv
  obtain ⟨y0, y1, y2⟩ := f
  obtain ⟨jx, jy⟩ := jp
  obtain ⟨n0, n1, n2, n3, n4, n5⟩ := g
  simp only [SV.v, ZoneR.cells] at *
  clear hh hhi hl hok hg hd h0 h1 hQ hjp
  go_enter Tryd.func47, Tryd.ntmps47
  go_wp2_with fail
  obtain ⟨wr, hwr⟩ : ∃ wr, w.alloc (.cells #[.int .i64 y0, .int .i64 y1, .int .i64 y2, .slice sa sl sc] 33 (0, 0)) = wr := ⟨_, rfl⟩
  rw [hwr] at hb0 x0 x1 x2 x3 g0 g1 g2 g3 g4 g5 g6 d0 hxw hgw hdw ⊢
  have Hwr := Lib.hid hwr
  clear hwr HX HG HD
  refine region_ph 13 (fun w' => ∀ b o, b < wr.heap.size → w'.cell? ⟨b, o, none⟩ = wr.cell? ⟨b, o, none⟩) (fun _ => True) (by kernel_rfl) (fun _ _ _ => rfl) trivial (fun hp => ?_)
  refine take_ph 5 (i := 0) rfl rfl (by decide) (by kernel_rfl) (by kernel_rfl) (by kernel_rfl) (fun _ _ _ h => h) (by rfl) (fun w hSw => by (try dsimp only at hSw); go_simp; first | done | with_reducible rfl) hp (fun hp => ?_)
  try simp only [Act.put, List.setIfInBounds_toArray, List.set_cons_zero, List.set_cons_succ]
  refine take_ph 6 (i := 1) rfl rfl (by decide) (by kernel_rfl) (by kernel_rfl) (by kernel_rfl) (fun _ _ _ h => h) (by rfl) (fun w hSw => by (try dsimp only at hSw); go_simp; first | done | with_reducible rfl) hp (fun hp => ?_)
  try simp only [Act.put, List.setIfInBounds_toArray, List.set_cons_zero, List.set_cons_succ]
  refine take_ph 7 (i := 2) rfl rfl (by decide) (by kernel_rfl) (by kernel_rfl) (by kernel_rfl) (fun _ _ _ h => h) (by rfl) (fun w hSw => by (try dsimp only at hSw); go_simp; first | done | with_reducible rfl) hp (fun hp => ?_)
  try simp only [Act.put, List.setIfInBounds_toArray, List.set_cons_zero, List.set_cons_succ]
  refine AnyL.one (i := 3) (by kernel_rfl) rfl (fun K hK => ?_)
  go_simp
  have c0 : Below wr.heap.size wr wr.drew := (Below.refl _ _).drew
  refine (hL.out _).mono ?_
  rintro e w1 ⟨rfl, b1'⟩
  have b1 : Below wr.heap.size wr w1 := c0.trans b1'
  refine hK.out _ _ (ph1 (fun b o hb => b1.cell (p := ⟨b, o, none⟩) hb) trivial) (fun hp => ?_)
  clear hK
  try simp only [Act.put, List.setIfInBounds_toArray, List.set_cons_zero, List.set_cons_succ]
  refine take_ph 9 (i := 4) rfl rfl (by decide) (by kernel_rfl) (by kernel_rfl) (by kernel_rfl) (fun _ _ _ h => h) (by rfl) (fun w hSw => by (try dsimp only at hSw); go_simp; first | done | with_reducible rfl) hp (fun hp => ?_)
  try simp only [Act.put, List.setIfInBounds_toArray, List.set_cons_zero, List.set_cons_succ]
  cases r1
  · refine take_phw 10 (i := 5) rfl rfl (by decide) (by kernel_rfl) (by kernel_rfl) (by kernel_rfl) (fun _ _ _ h => h) (by rfl) hp (fun hp => ?_)
    try simp only [Act.put, List.setIfInBounds_toArray, List.set_cons_zero, List.set_cons_succ]
    refine take_phw 11 (i := 6) rfl rfl (by decide) (by kernel_rfl) (by kernel_rfl) (by kernel_rfl) (fun _ _ _ h => h) (by rfl) hp (fun hp => ?_)
    try simp only [Act.put, List.setIfInBounds_toArray, List.set_cons_zero, List.set_cons_succ]
    refine take_phw 12 (i := 7) rfl rfl (by decide) (by kernel_rfl) (by kernel_rfl) (by kernel_rfl) (fun _ _ _ h => h) (by rfl) hp (fun hp => ?_)
    try simp only [Act.put, List.setIfInBounds_toArray, List.set_cons_zero, List.set_cons_succ]
    refine take_phw 13 (i := 8) rfl rfl (by decide) (by kernel_rfl) (by kernel_rfl) (by kernel_rfl) (fun _ _ _ h => h) (by rfl) hp (fun hp => ?_)
    try simp only [Act.put, List.setIfInBounds_toArray, List.set_cons_zero, List.set_cons_succ]
    refine take_phw 14 (i := 9) rfl rfl (by decide) (by kernel_rfl) (by kernel_rfl) (by kernel_rfl) (fun _ _ _ h => h) (by rfl) hp (fun hp => ?_)
    try simp only [Act.put, List.setIfInBounds_toArray, List.set_cons_zero, List.set_cons_succ]
    refine take_phw 15 (i := 10) rfl rfl (by decide) (by kernel_rfl) (by kernel_rfl) (by kernel_rfl) (fun _ _ _ h => h) (by rfl) hp (fun hp => ?_)
    try simp only [Act.put, List.setIfInBounds_toArray, List.set_cons_zero, List.set_cons_succ]
    refine take_phw 16 (i := 11) rfl rfl (by decide) (by kernel_rfl) (by kernel_rfl) (by kernel_rfl) (fun _ _ _ h => h) (by rfl) hp (fun hp => ?_)
    try simp only [Act.put, List.setIfInBounds_toArray, List.set_cons_zero, List.set_cons_succ]
    refine take_ph 17 (i := 12) rfl rfl (by decide) (by kernel_rfl) (by kernel_rfl) (by kernel_rfl) (fun _ _ _ h => h) (by rfl) (fun w hSw => by (try dsimp only at hSw); go_simp; first | done | with_reducible rfl) hp (fun hp => ?_)
    try simp only [Act.put, List.setIfInBounds_toArray, List.set_cons_zero, List.set_cons_succ]
    refine AnyL.one (i := 13) (by kernel_rfl) rfl (fun K hK => ?_)
    go_simp
    refine hK.out _ _ (ph2 rfl (fun b o hb => b1.cell (p := ⟨b, o, none⟩) hb)) (fun hp => ?_)
    clear hK
    try simp only [Act.put, List.setIfInBounds_toArray, List.set_cons_zero, List.set_cons_succ]
    refine AnyL.done (by kernel_rfl) ?_ _
    simp only [Exit.then]
    clear hp
    go_wp2_with fail
    go_ret
    exact ⟨rfl, hb0.trans (b1.mono hb0.size)⟩
  · refine take_ph 10 (i := 5) rfl rfl (by decide) (by kernel_rfl) (by kernel_rfl) (by kernel_rfl) (fun _ _ _ h => h) (by rfl) (fun w hSw => by (try dsimp only at hSw); go_simp; first | done | with_reducible rfl) hp (fun hp => ?_)
    try simp only [Act.put, List.setIfInBounds_toArray, List.set_cons_zero, List.set_cons_succ]
    refine take_ph 11 (i := 6) rfl rfl (by decide) (by kernel_rfl) (by kernel_rfl) (by kernel_rfl) (fun _ _ _ h => h) (by rfl) (fun w hSw => by (try dsimp only at hSw); go_simp; first | done | with_reducible rfl) hp (fun hp => ?_)
    try simp only [Act.put, List.setIfInBounds_toArray, List.set_cons_zero, List.set_cons_succ]
    refine take_ph 12 (i := 7) rfl rfl (by decide) (by kernel_rfl) (by kernel_rfl) (by kernel_rfl) (fun _ _ _ h => h) (by rfl) (fun w hSw => by (try dsimp only at hSw); go_simp; first | done | with_reducible rfl) hp (fun hp => ?_)
    try simp only [Act.put, List.setIfInBounds_toArray, List.set_cons_zero, List.set_cons_succ]
    refine take_ph 13 (i := 8) rfl rfl (by decide) (by kernel_rfl) (by kernel_rfl) (by kernel_rfl) (fun _ _ _ h => h) (by rfl) (fun w hSw => by (try dsimp only at hSw); go_simp; first | done | with_reducible rfl) hp (fun hp => ?_)
    try simp only [Act.put, List.setIfInBounds_toArray, List.set_cons_zero, List.set_cons_succ]
    refine take_ph 14 (i := 9) rfl rfl (by decide) (by kernel_rfl) (by kernel_rfl) (by kernel_rfl) (fun _ _ _ h => h) (by rfl) (fun w hSw => by (try dsimp only at hSw); go_simp; first | done | with_reducible rfl) hp (fun hp => ?_)
    try simp only [Act.put, List.setIfInBounds_toArray, List.set_cons_zero, List.set_cons_succ]
    refine AnyL.one (i := 10) (by kernel_rfl) rfl (fun K hK => ?_)
    go_simp
    refine (hJ.out _ (HQ.out.ext (hb0.trans (b1.mono hb0.size)))).mono ?_
    rintro e w2 ⟨rfl, b2'⟩
    have b2 : Below wr.heap.size wr w2 := b1.trans (b2'.mono b1.size)
    refine hK.out _ _ (ph1 (fun b o hb => b2.cell (p := ⟨b, o, none⟩) hb) trivial) (fun hp => ?_)
    clear hK
    try simp only [Act.put, List.setIfInBounds_toArray, List.set_cons_zero, List.set_cons_succ]
    refine AnyL.one (i := 11) (by kernel_rfl) rfl (fun K hK => ?_)
    go_simp
    refine (hM.out _ (hb0.trans (b2.mono hb0.size))).mono ?_
    rintro e w3 ⟨rfl, b3'⟩
    have b3 : Below wr.heap.size wr w3 := b2.trans (b3'.mono b2.size)
    refine hK.out _ _ (ph1 (fun b o hb => b3.cell (p := ⟨b, o, none⟩) hb) trivial) (fun hp => ?_)
    clear hK
    try simp only [Act.put, List.setIfInBounds_toArray, List.set_cons_zero, List.set_cons_succ]
    refine take_ph 17 (i := 12) rfl rfl (by decide) (by kernel_rfl) (by kernel_rfl) (by kernel_rfl) (fun _ _ _ h => h) (by rfl) (fun w hSw => by (try dsimp only at hSw); go_simp; first | done | with_reducible rfl) hp (fun hp => ?_)
    try simp only [Act.put, List.setIfInBounds_toArray, List.set_cons_zero, List.set_cons_succ]
    refine AnyL.one (i := 13) (by kernel_rfl) rfl (fun K hK => ?_)
    go_simp
    refine hK.out _ _ (ph2 rfl (fun b o hb => b3.cell (p := ⟨b, o, none⟩) hb)) (fun hp => ?_)
    clear hK
    try simp only [Act.put, List.setIfInBounds_toArray, List.set_cons_zero, List.set_cons_succ]
    refine AnyL.done (by kernel_rfl) ?_ _
    simp only [Exit.then]
    clear hp
    go_wp2_with fail
    go_ret
    exact ⟨rfl, hb0.trans (b3.mono hb0.size)⟩
set_option maxRecDepth 100000 in
set_option maxHeartbeats 8000000 in
theorem impl_FreeJib (f : CraneF) (s : SV) (l : List Chs) (lo hi lo2 hi2 : Nat) (v : Value) (rs : List ZoneR) (L : ZonesL) (w : World) (hQ : Qtr w) (hcr : Chss lo2 hi2 w s.v l) (hwf : f.name.size ≤ maxLen) (hz : Zones lo hi w v rs L) (hhi : hi ≤ w.heap.size) (hsz : ZSz L) :
    Calls Tryd.prog 16 #[.agg (CraneR.cells ⟨f, s⟩).toArray, v] w (FjOut f l L w) := by
  have hb0 : Below w.heap.size w (w.alloc (.cells #[.string (f).name, .int .i64 (f).x, .int .i64 (f).y, .int .i64 (f).height, .int .i64 (f).jib, .int .i64 (f).back, s.v] 41 (0, 0))) := (Below.refl _ _).alloc (Nat.le_refl _) _
  have HQ := Lib.hid hQ
  have HV := Lib.hid (fun W (hb : Below w.heap.size w W) => impl_ZList v rs L lo hi W (hz.ext hb) (Nat.le_trans hhi hb.size) hsz)
  have hK := Lib.hid (impl_CraneOk f s l lo2 hi2 (w.alloc (.cells #[.string (f).name, .int .i64 (f).x, .int .i64 (f).y, .int .i64 (f).height, .int .i64 (f).jib, .int .i64 (f).back, s.v] 41 (0, 0))) (hcr.ext hb0) hwf)
  have HX := Lib.hid (blkN_new w (.cells #[.string (f).name, .int .i64 (f).x, .int .i64 (f).y, .int .i64 (f).height, .int .i64 (f).jib, .int .i64 (f).back, s.v] 41 (0, 0)))
  have HA := Lib.hid (fun (hg : GeoOk f) (hok : zonesOk L) q1 d (hd : d < 24) W (hb : Below w.heap.size w W) (h0 : W.heap[w.heap.size]? = some (.cells #[.string (f).name, .int .i64 (f).x, .int .i64 (f).y, .int .i64 (f).height, .int .i64 (f).jib, .int .i64 (f).back, s.v] 41 (0, 0))) (h1 : W.heap[q1]? = some (.cells #[.int .i64 (d : Int)] 2 (0, 0))) =>
    impl_AnyZ v _ (hitB f L d) L.length W (impl_ZxJ v rs L lo hi w.heap.size q1 (hitB f L d) W (hz.ext hb) hsz.2 (fun k hk s' hr W' hb' => by
      rw [hitB_at hk]
      exact impl_FjFn f s L[k].1 s' L[k].2 lo hi _ _ d W' (hQ.ext (hb.trans (hb'.mono hb.size))) (hr.ext hb') (Nat.le_trans hhi (Nat.le_trans hb.size hb'.size)) (hsz.1 _ (List.getElem_mem hk)) (hok.1 _ (List.getElem_mem hk)) hg hd (blkN_below hb' h0) (blkN_below hb' h1))))
  have hln : ∃ a cap, v = .slice a L.length cap := by obtain ⟨a, cap, hv, _⟩ := hz.out; exact ⟨a, cap, by rw [← hz.len]; exact hv⟩
  obtain ⟨a, cap, rfl⟩ := hln
  have Hone := Lib.hid (craneB_iff (f := f) (l := l))
  have c0 := (Lib.cell_of_heap HX.out 0).trans rfl
  have c1 := (Lib.cell_of_heap HX.out 1).trans rfl
  have c2 := (Lib.cell_of_heap HX.out 2).trans rfl
  have c3 := (Lib.cell_of_heap HX.out 3).trans rfl
  have c4 := (Lib.cell_of_heap HX.out 4).trans rfl
  have c5 := (Lib.cell_of_heap HX.out 5).trans rfl
  have c6 := (Lib.cell_of_heap HX.out 6).trans rfl
  generalize hcb : craneB f l = cb at *
  obtain ⟨sa, sl, sc⟩ := s
  simp only [SV.v, CraneR.cells] at *
  clear hz hhi hsz hcr hwf hQ hcb
  go_enter Tryd.func16, Tryd.ntmps16
  go_wp2_with fail
  generalize w.alloc (.cells #[.string f.name, .int .i64 f.x, .int .i64 f.y, .int .i64 f.height, .int .i64 f.jib, .int .i64 f.back, .slice sa sl sc] 41 (0, 0)) = w0 at *
  refine hK.out.mono ?_
  rintro e w1 ⟨rfl, hb1⟩
  have hX := Lib.hid (blkN_below hb1 HX.out)
  have hB1 := hb0.trans (hb1.mono hb0.size)
  clear hb1 hb0 hK HX c0 c1 c2 c3 c4 c5 c6
  cases cb
  · have hno : ¬ (craneOk f l ∧ zonesOk L) := fun h => by have := Hone.out.2 h.1; cases this
    go_wp2_with fail
    go_ret2
    exact ⟨_, [], 1, rfl, ints_nil _ _ _, .inr ⟨hno, rfl, rfl⟩, by simp, hB1⟩
  · have Hok := Lib.hid (Hone.out.1 rfl)
    have Hg := Lib.hid (crane_geo Hok.out)
    clear Hone
    go_wp2_with fail
    refine (HV.out _ hB1).mono ?_
    rintro e w2 ⟨rfl, hb2⟩
    have hX := Lib.hid (blkN_below hb2 hX.out)
    have hB2 := hB1.trans (hb2.mono hB1.size)
    clear hb2 hB1 HV
    by_cases hzs : zonesOk L
    · rw [zonesB_t hzs]
      have Hzs := Lib.hid hzs
      clear hzs
      have HAz := Lib.hid (HA.out Hg.out Hzs.out)
      clear HA
      obtain ⟨qq, hqq⟩ : ∃ qq, w.heap.size = qq := ⟨_, rfl⟩
      have hw02 := Lib.hid hB2.size
      rw [hqq] at hX HAz ⊢
      have Hqq := Lib.hid hqq
      clear hqq
      go_wp2_with fail
      go_loopw [6, 16] (fun o i wr => ∃ (d : Nat) (ov : Value), d ≤ 24 ∧ i = .int .i64 d ∧ o = ov ∧ Hid (Own 1 intCells w2.heap.size 2 wr ov (dirsL f L d)) ∧ Hid (Below w.heap.size w wr) ∧ Hid (wr.heap[qq]? = some (.cells #[.string f.name, .int .i64 f.x, .int .i64 f.y, .int .i64 f.height, .int .i64 f.jib, .int .i64 f.back, .slice sa sl sc] 41 (0, 0))) ∧ Hid (w2.heap.size ≤ wr.heap.size)) (fun _ i _ => 24 - (Go.RowKit.intOf i).toNat)
      case atStart => exact ⟨0, _, Nat.zero_le _, rfl, rfl, Lib.hid (own_nil _ _ _), Lib.hid hB2, hX, Lib.hid (Nat.le_refl _)⟩
      case round =>
        clear hX hB2
        obtain ⟨d, ov, hd, rfl, hov, hown, hB, hX, hws⟩ := hrel
        subst hov
        by_cases hlt : d < 24
        · have hdI : (d : Int) < 24 := by omega
          have hb3 : Below wr.heap.size wr (wr.alloc (.cells #[.int .i64 (d : Int)] 2 (0, 0))) := (Below.refl _ _).alloc (Nat.le_refl _) _
          have HD := Lib.hid (blkN_new wr (.cells #[.int .i64 (d : Int)] 2 (0, 0)))
          have hX3 := Lib.hid (blkN_below hb3 hX.out)
          have hB3 := Lib.hid (hB.out.trans (hb3.mono hB.out.size))
          have hA := Lib.hid (HAz.out wr.heap.size d hlt _ (by rw [← Hqq.out]; exact hB3.out) hX3.out HD.out)
          have hown3 := Lib.hid (hown.out.below hb3)
          have hws3 := Lib.hid (Nat.le_trans hws.out hb3.size)
          have hnh := Lib.hid (noHit_any f L d L.length)
          have hdl := dirsL_len f L d
          generalize anyI (hitB f L d) L.length = r at *
          clear hb3 hX hB hown hws
          go_wp2_with fail
          generalize wr.alloc (.cells #[.int .i64 (d : Int)] 2 (0, 0)) = w3 at *
          refine hA.out.mono ?_
          rintro e w4 ⟨rfl, b4⟩
          have hD4 := blkN_below b4 HD.out
          have dd := (Lib.cell_of_heap hD4 0).trans rfl
          have hX4 := Lib.hid (blkN_below b4 hX3.out)
          have hB4 := Lib.hid (hB3.out.trans (b4.mono hB3.out.size))
          have hown4 := Lib.hid (hown3.out.below b4)
          have hws4 := Lib.hid (Nat.le_trans hws3.out b4.size)
          clear hD4 b4 hA HD hX3 hB3 hown3 hws3
          cases r
          · have hds := Lib.hid (show dirsL f L (d + 1) = dirsL f L d ++ [(d : Int)] by show (if noHit f L d L.length = true then _ else _) = _; rw [hnh.out]; rfl)
            go_wp2_with (at_builtin; refine wpList_app1 (c := intCells) (bytes := 8) rfl _ _ 44 2 rfl Tryd.underlying44 info_i64z (by omega) intCells_len intCells_one w2.heap.size (dirsL f L d) (d : Int) _ rfl w4 rfl hown4.out rfl (by omega) (by omega) hws4.out ?_; intro v' w6 hown6 hg6; have hB6 := Lib.hid (hown4.out.app hB4.out hw02.out hB4.out.size hg6); have hz6 := Lib.hid (hown4.out.app (Below.refl w2.heap.size w4) (Nat.le_refl _) hws4.out hg6).size; have hX6 := Lib.hid (grown_block hown4.out hX4.out (by decide) hg6); have Hown6 := Lib.hid hown6; clear hown6 hg6)
            go_roundw
            case rel => exact ⟨d + 1, v', by omega, by go_num, rfl, by rw [hds.out]; exact Hown6, hB6, hX6, Lib.hid (Nat.le_trans hws4.out hz6.out)⟩
            case measure => simp [Go.RowKit.intOf]; omega
          · have hds := Lib.hid (show dirsL f L (d + 1) = dirsL f L d by show (if noHit f L d L.length = true then _ else _) = _; rw [hnh.out]; rfl)
            go_wp2_with fail
            go_roundw
            case rel => exact ⟨d + 1, _, by omega, by go_num, rfl, by rw [hds.out]; exact hown4, hB4, hX4, hws4⟩
            case measure => simp [Go.RowKit.intOf]; omega
        · have hde : d = 24 := by omega
          have hsl := (hown.out.slw intCells_len).1.mono (Nat.zero_le _) (Nat.le_refl _)
          have hfin : FjR f l L (dirsL f L d) 0 := .inl ⟨⟨Hok.out, Hzs.out⟩, rfl, by rw [hde]⟩
          have hdl := dirsL_len f L d
          have Hsl := Lib.hid hsl
          clear hsl hde
          go_wp2_with fail
          go_ret2
          exact ⟨_, _, 0, rfl, Hsl.out, hfin, by omega, hB.out⟩
    · rw [zonesB_f hzs]
      have hno : ¬ (craneOk f l ∧ zonesOk L) := fun h => hzs h.2
      clear hzs
      go_wp2_with fail
      go_ret2
      exact ⟨_, [], 1, rfl, ints_nil _ _ _, .inr ⟨hno, rfl, rfl⟩, by simp, hB2⟩
end Go.Proofs.YtpabbehpkokhbaaDoor
