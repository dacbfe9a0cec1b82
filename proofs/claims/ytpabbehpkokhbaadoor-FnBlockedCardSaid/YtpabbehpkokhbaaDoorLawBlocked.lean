/- The law FnBlocked. -/
import Derived.Test.YtpabbehpkokhbaaDoorZnDr
import Derived.Test.YtpabbehpkokhbaaDoorZnS
import Derived.Test.YtpabbehpkokhbaaDoorZnT
import Derived.Test.YtpabbehpkokhbaaDoorZnI
import Derived.WideShapes
namespace Go.Proofs.YtpabbehpkokhbaaDoor
open Go.RowKit Go.Deep
theorem cells_uint8 : Tryd.prog.cellsOf 5 = 1 := by kernel_rfl
set_option maxRecDepth 100000 in
theorem open_Byte {H : Type} {enc : TypeId × Value → H} {W : World} {base : Nat} {spare : Nat → Bool} {held : Bool} (fuel : Nat) (cs : List Value) (y : DataW H × List MemPlace) (hy : DataW.trod enc Tryd.prog W base spare held fuel 5 cs = some y) :
    ∃ x : UInt8, cs = byteC x ∧ True := by
  obtain ⟨x, h1, _, hw⟩ := DataW.trod_int Tryd.underlying5 hy
  have hx : 0 ≤ x ∧ x ≤ 255 := by simpa [Lit.wf, IntKind.min, IntKind.max, IntKind.signed, IntKind.bits] using hw
  exact ⟨UInt8.ofNat x.toNat, by rw [h1]; unfold byteC; rw [UInt8.toNat_ofNat']; congr 2; omega, trivial⟩
set_option maxRecDepth 100000 in
theorem open_SByte {H : Type} {enc : TypeId × Value → H} {W : World} {base : Nat} {v : Value} {d : DataW H} {p : List MemPlace} (hv : Value.okWide Tryd.prog W .any base 22 v)
    (h : DataW.Trod enc Tryd.prog W 0 (fun _ => true) true 22 v d p) (_hlt : ∀ x ∈ p, x.block < W.heap.size) : ∃ l : List UInt8, Sl 1 byteC 0 W.heap.size W v l := by
  obtain ⟨l, hl, _⟩ := open_list Tryd.underlying22 cells_uint8 (by omega) open_Byte h (Go.WideShapes.okWide_slice Tryd.underlying22 hv)
  exact ⟨l, hl⟩
theorem zds_sz {L : ZonesL} (h : ZDs L) (hl : L.length ≤ 11) : ZSz L := ⟨fun x hx => by have := h x hx; omega, by omega⟩
/-- What the law holds of the world: the list and the two ends. -/
structure StB (w : World) (pa pb : Nat) (v : Value) (rs : List ZoneR) (L : ZonesL) (ax ay bx by_ : Int) (W : World) : Prop where
  b : Below w.heap.size w W
  r : Zones 0 W.heap.size W v rs L
  za : W.heap[pa]? = some (.cells #[.int .i64 ax, .int .i64 ay] 26 (0, 0))
  zb : W.heap[pb]? = some (.cells #[.int .i64 bx, .int .i64 by_] 26 (0, 0))
theorem StB.on {w W W' : World} {pa pb : Nat} {v : Value} {rs : List ZoneR} {L : ZonesL} {ax ay bx by_ : Int} (h : StB w pa pb v rs L ax ay bx by_ W) (hb : Below W.heap.size W W') : StB w pa pb v rs L ax ay bx by_ W' :=
  ⟨h.b.trans (hb.mono h.b.size), (NSr.ext h.r hb).mono (Nat.le_refl _) hb.size, blkN_below hb h.za, blkN_below hb h.zb⟩
set_option maxRecDepth 100000 in
set_option maxHeartbeats 8000000 in
theorem law_Blocked {v : Value} (l : List UInt8) (w : World) (h : Sl 1 byteC 0 w.heap.size w v l) (hQ : Qtr w) :
    Calls Tryd.prog 3 #[v] w fun e w' => e = .returned (.bool true) ∧ Below w.heap.size w w' := by
  have hcap : l.length ≤ 9223372036854775807 := by obtain ⟨a, cap, _, h, _⟩ := h; omega
  by_cases hbig : 4096 < l.length
  · obtain ⟨a, cap, rfl, -⟩ := h
    have hn : decide ((4096 : Int) < (l.length : Int)) = true := decide_eq_true (by omega)
    go_enter Tryd.func3, Tryd.ntmps3
    go_wp2_with (first | (go_at_call 4; go_in))
    go_ret
    exact ⟨rfl, Below.refl _ _⟩
  have HQ := Lib.hid hQ
  have hd1 := Lib.hid (draw_First v l _ w h (Nat.le_refl _) (by omega))
  have hd2 := Lib.hid (fun W (hb : Below w.heap.size w W) => draw_BLoad v l _ W (h.below hb (Nat.le_refl _)) hb.size (by omega))
  have hd3 := Lib.hid (fun W (hb : Below w.heap.size w W) => draw_FreeJib v l _ W (h.below hb (Nat.le_refl _)) hb.size (by omega))
  obtain ⟨a, cap, rfl, -⟩ := h
  have hn : decide ((4096 : Int) < (l.length : Int)) = false := decide_eq_false (by omega)
  clear hbig hcap hQ
  go_enter Tryd.func3, Tryd.ntmps3
  go_wp2_with (first | (go_at_call 4; go_in) | fail)
  refine hd1.out.mono ?_
  rintro e w1 ⟨zv, rs, L, ax, ay, bx, by_, hh, rfl, hz, hds, hl11, hb1⟩
  clear hd1 hn
  obtain ⟨n, hn⟩ : ∃ n, L.length = n := ⟨_, rfl⟩
  obtain ⟨za, zc, rfl⟩ : ∃ za zc, zv = .slice za n zc := by
    obtain ⟨za, zc, h1, _⟩ := hz.out
    exact ⟨za, zc, by rw [h1, hz.len, hn]⟩
  have Hsz := Lib.hid (zds_sz hds hl11)
  have hb2 : Below w1.heap.size w1 ((w1.alloc (.cells #[.int .i64 ax, .int .i64 ay] 26 (0, 0))).alloc (.cells #[.int .i64 bx, .int .i64 by_] 26 (0, 0))) := ((Below.refl _ _).alloc (Nat.le_refl _) _).alloc (by simp) _
  have hE := Lib.hid (show StB w w1.heap.size (w1.heap.size + 1) (.slice za n zc) rs L ax ay bx by_ ((w1.alloc (.cells #[.int .i64 ax, .int .i64 ay] 26 (0, 0))).alloc (.cells #[.int .i64 bx, .int .i64 by_] 26 (0, 0))) from
    ⟨hb1.trans (hb2.mono hb1.size), (NSr.ext hz hb2).mono (Nat.zero_le _) hb2.size, blkN_below ((Below.refl _ _).alloc (Nat.le_refl _) _) (blkN_new w1 _), by have := blkN_new (w1.alloc (.cells #[.int .i64 ax, .int .i64 ay] 26 (0, 0))) (.cells #[.int .i64 bx, .int .i64 by_] 26 (0, 0)); rwa [World.size_alloc] at this⟩)
  have Hn := Lib.hid hn
  have Hl := Lib.hid hl11
  clear hz hds hb1 hb2 hn hl11
  have hw2 : w1.heap.size + 1 < ((w1.alloc (.cells #[.int .i64 ax, .int .i64 ay] 26 (0, 0))).alloc (.cells #[.int .i64 bx, .int .i64 by_] 26 (0, 0))).heap.size := by simp
  have a0 := (Lib.cell_of_heap hE.out.za 0).trans rfl
  have a1 := (Lib.cell_of_heap hE.out.za 1).trans rfl
  have b0 := (Lib.cell_of_heap hE.out.zb 0).trans rfl
  have b1 := (Lib.cell_of_heap hE.out.zb 1).trans rfl
  go_wp2_with fail
  generalize (w1.alloc (.cells #[.int .i64 ax, .int .i64 ay] 26 (0, 0))).alloc (.cells #[.int .i64 bx, .int .i64 by_] 26 (0, 0)) = w2 at *
  obtain ⟨pa, hpe⟩ : ∃ pa, w1.heap.size = pa := ⟨_, rfl⟩
  rw [hpe] at hE hw2 a0 a1 b0 b1 ⊢
  obtain ⟨pb, hpb⟩ : ∃ pb, pa + 1 = pb := ⟨_, rfl⟩
  rw [hpb] at hE hw2 b0 b1 ⊢
  clear hpe hpb hw2 a0 a1 b0 b1
  have hI := Lib.hid (impl_First (.slice za n zc) rs L 0 _ ⟨ax, ay⟩ ⟨bx, by_⟩ hh w2 hE.out.r (Nat.le_refl _) Hsz.out)
  refine hI.out.mono ?_
  rintro e w3 ⟨k, c, rfl, hk, hb3⟩
  have Hk := Lib.hid hk
  have hE := Lib.hid (hE.out.on hb3)
  clear hI hk hb3
  have a0 := (Lib.cell_of_heap hE.out.za 0).trans rfl
  have a1 := (Lib.cell_of_heap hE.out.za 1).trans rfl
  have b0 := (Lib.cell_of_heap hE.out.zb 0).trans rfl
  have b1 := (Lib.cell_of_heap hE.out.zb 1).trans rfl
  go_wp2_with fail
  clear a0 a1 b0 b1
  have hI := Lib.hid (spec_First (.slice za n zc) rs L 0 _ ⟨ax, ay⟩ ⟨bx, by_⟩ hh w3 hE.out.r Hsz.out)
  refine hI.out.mono ?_
  rintro e w4 ⟨k', c', rfl, hk, hb4⟩
  obtain ⟨e1, e2⟩ := FbR.uniq hk Hk.out
  rw [e1, e2]
  have hE := Lib.hid (hE.out.on hb4)
  clear hI hk hb4 e1 e2
  go_wp2_with fail
  refine (hd2.out w4 hE.out.b).mono ?_
  rintro e w5 ⟨⟨kd, st, ea⟩, ⟨sa, sl, sc⟩, C, h2, rfl, hC, hlen, hb5⟩
  have hE := hE.out.on hb5
  have hb6 := (Below.refl w5.heap.size w5).alloc (Nat.le_refl _) (.cells #[.int .i64 kd, .int .i64 st, .int .i64 ea, (.slice sa sl sc)] 33 (0, 0))
  have hE := Lib.hid (hE.on hb6)
  have hZ := Lib.hid (blkN_new w5 (.cells #[.int .i64 kd, .int .i64 st, .int .i64 ea, (.slice sa sl sc)] 33 (0, 0)))
  have hC := Lib.hid (show Pnts 0 (w5.alloc (.cells #[.int .i64 kd, .int .i64 st, .int .i64 ea, (.slice sa sl sc)] 33 (0, 0))).heap.size (w5.alloc (.cells #[.int .i64 kd, .int .i64 st, .int .i64 ea, (.slice sa sl sc)] 33 (0, 0))) (.slice sa sl sc) C from (hC.ext hb6).mono (Nat.zero_le _) hb6.size)
  have Hlen := Lib.hid (show C.length ≤ 1024 by omega)
  clear hd2 hb5 hb6 hlen
  simp only [ZoneR.cells, SV.v]
  have z0 := (Lib.cell_of_heap hZ.out 0).trans rfl
  have z1 := (Lib.cell_of_heap hZ.out 1).trans rfl
  have z2 := (Lib.cell_of_heap hZ.out 2).trans rfl
  have z3 := (Lib.cell_of_heap hZ.out 3).trans rfl
  go_wp2_with fail
  generalize w5.alloc (.cells #[.int .i64 kd, .int .i64 st, .int .i64 ea, (.slice sa sl sc)] 33 (0, 0)) = w6 at *
  obtain ⟨pz, hpe⟩ : ∃ pz, w5.heap.size = pz := ⟨_, rfl⟩
  rw [hpe] at hZ z0 z1 z2 z3 ⊢
  clear hpe z0 z1 z2 z3
  refine (impl_BLoad ⟨kd, st, ea⟩ ⟨sa, sl, sc⟩ C 0 _ h2 w6 hC.out (Nat.le_refl _) Hlen.out).mono ?_
  rintro e w7 ⟨rfl, hb⟩
  have hE := Lib.hid (hE.out.on hb)
  have hZ := Lib.hid (blkN_below hb hZ.out)
  have hC := Lib.hid ((hC.out.ext hb).mono (Nat.le_refl _) hb.size)
  clear hb
  have z0 := (Lib.cell_of_heap hZ.out 0).trans rfl
  have z1 := (Lib.cell_of_heap hZ.out 1).trans rfl
  have z2 := (Lib.cell_of_heap hZ.out 2).trans rfl
  have z3 := (Lib.cell_of_heap hZ.out 3).trans rfl
  go_wp2_with fail
  clear z0 z1 z2 z3
  refine (spec_BLoad ⟨kd, st, ea⟩ ⟨sa, sl, sc⟩ C 0 _ h2 w7 hC.out Hlen.out).mono ?_
  rintro e w8 ⟨rfl, hb⟩
  have hE := Lib.hid (hE.out.on hb)
  have hZ := Lib.hid (blkN_below hb hZ.out)
  have hC := Lib.hid ((hC.out.ext hb).mono (Nat.le_refl _) hb.size)
  clear hb
  have z0 := (Lib.cell_of_heap hZ.out 0).trans rfl
  have z1 := (Lib.cell_of_heap hZ.out 1).trans rfl
  have z2 := (Lib.cell_of_heap hZ.out 2).trans rfl
  have z3 := (Lib.cell_of_heap hZ.out 3).trans rfl
  go_wp2_with fail
  clear z0 z1 z2 z3
  refine (impl_BJib ⟨kd, st, ea⟩ ⟨sa, sl, sc⟩ C 0 _ h2 w8 hC.out (Nat.le_refl _) Hlen.out).mono ?_
  rintro e w9 ⟨rfl, hb⟩
  have hE := Lib.hid (hE.out.on hb)
  have hZ := Lib.hid (blkN_below hb hZ.out)
  have hC := Lib.hid ((hC.out.ext hb).mono (Nat.le_refl _) hb.size)
  clear hb
  have z0 := (Lib.cell_of_heap hZ.out 0).trans rfl
  have z1 := (Lib.cell_of_heap hZ.out 1).trans rfl
  have z2 := (Lib.cell_of_heap hZ.out 2).trans rfl
  have z3 := (Lib.cell_of_heap hZ.out 3).trans rfl
  go_wp2_with fail
  clear z0 z1 z2 z3
  refine (spec_BJib ⟨kd, st, ea⟩ ⟨sa, sl, sc⟩ C 0 _ h2 w9 hC.out Hlen.out).mono ?_
  rintro e w10 ⟨rfl, hb⟩
  have hE := Lib.hid (hE.out.on hb)
  have hZ := Lib.hid (blkN_below hb hZ.out)
  have hC := Lib.hid ((hC.out.ext hb).mono (Nat.le_refl _) hb.size)
  clear hb
  have z0 := (Lib.cell_of_heap hZ.out 0).trans rfl
  have z1 := (Lib.cell_of_heap hZ.out 1).trans rfl
  have z2 := (Lib.cell_of_heap hZ.out 2).trans rfl
  have z3 := (Lib.cell_of_heap hZ.out 3).trans rfl
  go_wp2_with fail
  clear z0 z1 z2 z3
  refine (impl_ZHeight ⟨kd, st, ea⟩ ⟨sa, sl, sc⟩ C 0 _ w10 hC.out (Nat.le_refl _) Hlen.out).mono ?_
  rintro e w11 ⟨rfl, hb⟩
  have hE := Lib.hid (hE.out.on hb)
  have hZ := Lib.hid (blkN_below hb hZ.out)
  have hC := Lib.hid ((hC.out.ext hb).mono (Nat.le_refl _) hb.size)
  clear hb
  have z0 := (Lib.cell_of_heap hZ.out 0).trans rfl
  have z1 := (Lib.cell_of_heap hZ.out 1).trans rfl
  have z2 := (Lib.cell_of_heap hZ.out 2).trans rfl
  have z3 := (Lib.cell_of_heap hZ.out 3).trans rfl
  go_wp2_with fail
  clear z0 z1 z2 z3
  refine (spec_ZHeight ⟨kd, st, ea⟩ ⟨sa, sl, sc⟩ C 0 _ w11 hC.out Hlen.out).mono ?_
  rintro e w12 ⟨rfl, hb⟩
  have hE := Lib.hid (hE.out.on hb)
  clear hb hZ hC Hlen
  generalize (codeZ ⟨kd, st, ea⟩ C h2 == 0 && loadB ⟨kd, st, ea⟩ h2) = x1
  generalize (codeZ ⟨kd, st, ea⟩ C h2 == 0 && jibB ⟨kd, st, ea⟩ h2) = x2
  generalize codeZ ⟨kd, st, ea⟩ C h2 = x3
  generalize zhV ⟨kd, st, ea⟩ C = x4
  generalize zhC ⟨kd, st, ea⟩ C = x5
  go_wp2_with fail
  refine (hd3.out w12 hE.out.b).mono ?_
  rintro e w13 ⟨⟨nm, x, y, ch, cj, ck⟩, ⟨ta, tl, tc⟩, cl, yv, rs2, L2, rfl, hnm, hch, hz, hds, hl11, hb13⟩
  have hE := hE.out.on hb13
  have hb14 := (Below.refl w13.heap.size w13).alloc (Nat.le_refl _) (.cells #[.string nm, .int .i64 x, .int .i64 y, .int .i64 ch, .int .i64 cj, .int .i64 ck, (.slice ta tl tc)] 41 (0, 0))
  have hE := Lib.hid (hE.on hb14)
  have hK := Lib.hid (blkN_new w13 (.cells #[.string nm, .int .i64 x, .int .i64 y, .int .i64 ch, .int .i64 cj, .int .i64 ck, (.slice ta tl tc)] 41 (0, 0)))
  have hCh := Lib.hid (show Chss 0 (w13.alloc (.cells #[.string nm, .int .i64 x, .int .i64 y, .int .i64 ch, .int .i64 cj, .int .i64 ck, (.slice ta tl tc)] 41 (0, 0))).heap.size (w13.alloc (.cells #[.string nm, .int .i64 x, .int .i64 y, .int .i64 ch, .int .i64 cj, .int .i64 ck, (.slice ta tl tc)] 41 (0, 0))) (.slice ta tl tc) cl from (hch.ext hb14).mono (Nat.zero_le _) hb14.size)
  have hZ2 := Lib.hid ((NSr.ext hz hb14).mono (Nat.zero_le _) hb14.size)
  have Hnm := Lib.hid hnm
  have Hsz2 := Lib.hid (zds_sz hds hl11)
  clear hd3 hb13 hb14 hnm hch hz hds hl11
  simp only [CraneR.cells, SV.v]
  have z0 := (Lib.cell_of_heap hK.out 0).trans rfl
  have z1 := (Lib.cell_of_heap hK.out 1).trans rfl
  have z2 := (Lib.cell_of_heap hK.out 2).trans rfl
  have z3 := (Lib.cell_of_heap hK.out 3).trans rfl
  have z4 := (Lib.cell_of_heap hK.out 4).trans rfl
  have z5 := (Lib.cell_of_heap hK.out 5).trans rfl
  have z6 := (Lib.cell_of_heap hK.out 6).trans rfl
  go_wp2_with fail
  generalize w13.alloc (.cells #[.string nm, .int .i64 x, .int .i64 y, .int .i64 ch, .int .i64 cj, .int .i64 ck, (.slice ta tl tc)] 41 (0, 0)) = w14 at *
  obtain ⟨pk, hpe⟩ : ∃ pk, w13.heap.size = pk := ⟨_, rfl⟩
  rw [hpe] at hK z0 z1 z2 z3 z4 z5 z6 ⊢
  clear hpe z0 z1 z2 z3 z4 z5 z6
  refine (impl_FreeJib ⟨nm, x, y, ch, cj, ck⟩ ⟨ta, tl, tc⟩ cl 0 _ 0 _ yv rs2 L2 w14 (HQ.out.below hE.out.b HQ.out.lt) hCh.out Hnm.out hZ2.out (Nat.le_refl _) Hsz2.out).mono ?_
  rintro e w15 ⟨v1, ds, c1, rfl, hi1, hfj, hdl, hb⟩
  have hE := Lib.hid (hE.out.on hb)
  have hK := Lib.hid (blkN_below hb hK.out)
  have hCh := Lib.hid ((hCh.out.ext hb).mono (Nat.le_refl _) hb.size)
  have hZ2 := Lib.hid ((NSr.ext hZ2.out hb).mono (Nat.le_refl _) hb.size)
  have hI1 := Lib.hid hi1
  have Hfj := Lib.hid hfj
  have Hdl := Lib.hid hdl
  clear hb hi1 hfj hdl
  have z0 := (Lib.cell_of_heap hK.out 0).trans rfl
  have z1 := (Lib.cell_of_heap hK.out 1).trans rfl
  have z2 := (Lib.cell_of_heap hK.out 2).trans rfl
  have z3 := (Lib.cell_of_heap hK.out 3).trans rfl
  have z4 := (Lib.cell_of_heap hK.out 4).trans rfl
  have z5 := (Lib.cell_of_heap hK.out 5).trans rfl
  have z6 := (Lib.cell_of_heap hK.out 6).trans rfl
  go_wp2_with fail
  clear z0 z1 z2 z3 z4 z5 z6
  refine (spec_FreeJib ⟨nm, x, y, ch, cj, ck⟩ ⟨ta, tl, tc⟩ cl 0 _ 0 _ yv rs2 L2 w15 hCh.out Hnm.out hZ2.out Hsz2.out).mono ?_
  rintro e w16 ⟨v2, ds', c1', rfl, hi2, hfj, -, hb⟩
  obtain ⟨e1, e2⟩ := FjR.uniq hfj Hfj.out
  rw [e2]
  rw [e1] at hi2
  have hE := Lib.hid (hE.out.on hb)
  have hI1 := Lib.hid ((hI1.out.ext hb).mono (Nat.le_refl _) hb.size)
  have hI2 := Lib.hid hi2
  clear hb hi2 hfj e1 e2 hK hCh hZ2 Hfj Hnm Hsz2
  have hF := Lib.hid (law_f6ints v1 v2 ds _ _ _ _ w16 hI1.out hI2.out (by have := Hdl.out; omega))
  clear hI1 hI2
  go_wp2_with fail
  refine hF.out.mono ?_
  rintro e _ ⟨rfl, q17, rfl⟩
  have hE := Lib.hid (hE.out.on (below_dN (Below.refl _ _) q17))
  clear hF
  generalize w16.drewN q17 = w17 at *
  by_cases hc0 : c = 0
  · have hcb : (c != 0) = false := by rw [hc0]; rfl
    obtain ⟨⟨hzs, hpa, hpb⟩, hhi, hF⟩ : (zonesOk L ∧ Pl ax ay ∧ Pl bx by_) ∧ highB hh = true ∧ FirstI (blkB L ⟨ax, ay⟩ ⟨bx, by_⟩ hh) L.length k := by
      rcases Hk.out with ⟨h1, h2, _, h3⟩ | ⟨_, _, h3, _⟩ | ⟨_, h3, _⟩
      · exact ⟨h1, h2, h3⟩
      · omega
      · omega
    have Hzs := Lib.hid hzs
    have HF := Lib.hid hF
    have Hp := Lib.hid (And.intro hpa hpb)
    have Hhi := Lib.hid hhi
    clear hzs hF hpa hpb hhi hc0 Hk
    go_wp2_with fail
    go_loopw [31] (fun i wr => ∃ m : Nat, m ≤ n ∧ i = .int .i64 m ∧ Hid (StB w pa pb (.slice za n zc) rs L ax ay bx by_ wr)) (fun i _ => n - (Go.RowKit.intOf i).toNat)
    case atStart => exact ⟨0, Nat.zero_le _, rfl, hE⟩
    case round =>
      clear hE
      obtain ⟨m, hm, rfl, hE⟩ := hrel
      by_cases hlt : m < n
      · have hltI : (m : Int) < (n : Int) := by omega
        have hm0 : (0 : Int) ≤ (m : Int) := Int.natCast_nonneg _
        have hmL : m < L.length := by rw [Hn.out]; exact hlt
        have Hm := Lib.hid hlt
        have wk : IntKind.i64.wrap ((m : Int) + 1) = (m : Int) + 1 := IntWalk.i64_in _ (by have := Hl.out; have := Hn.out; omega)
        obtain ⟨g, o, rfl, hgw⟩ : ∃ g o, za = some ⟨g, o, none⟩ ∧ g < wr.heap.size := by
          obtain ⟨a, cp, hv, _, hh'⟩ := hE.out.r.out
          obtain ⟨g, o, ha, _, h2', _⟩ := hh' (by rw [hE.out.r.len]; omega)
          cases hv
          exact ⟨g, o, ha, h2'⟩
        obtain ⟨⟨sa', sl', sc'⟩, hza, hpn, -⟩ := zones_row hE.out.r hmL
        obtain ⟨z0, z1, z2, z3⟩ := hza.c
        simp only [SV.v] at z3
        have Hpn := Lib.hid hpn
        have Hok := Lib.hid (Hzs.out.1 _ (List.getElem_mem hmL))
        have Hs := Lib.hid (Hsz.out.1 _ (List.getElem_mem hmL))
        have Hbl := Lib.hid (blkB_at (a := ⟨ax, ay⟩) (b := ⟨bx, by_⟩) (h := hh) hmL)
        obtain ⟨⟨⟨kd', st', ea'⟩, D⟩, hx⟩ : ∃ x, L[m] = x := ⟨_, rfl⟩
        rw [hx] at z0 z1 z2 Hpn Hok Hs Hbl
        dsimp only at z0 z1 z2 Hpn Hok Hs Hbl
        have hBl := Lib.hid (impl_BLoad ⟨kd', st', ea'⟩ ⟨sa', sl', sc'⟩ D 0 _ hh wr Hpn.out (Nat.le_refl _) Hs.out)
        have hcz : codeZ ⟨kd', st', ea'⟩ D hh = 0 := by unfold codeZ; rw [zoneB_t Hok.out, Hhi.out]; rfl
        rw [hcz] at hBl
        clear hza hpn hx hcz hlt hm
        go_wp2_with fail
        refine hBl.out.mono ?_
        rintro e w18 ⟨rfl, hb18⟩
        have hE := Lib.hid (hE.out.on hb18)
        have hg18 : g < w18.heap.size := Nat.lt_of_lt_of_le hgw hb18.size
        replace z0 := (hb18.cell (p := ⟨g, o + m * 4, none⟩) hgw).trans z0
        replace z1 := (hb18.cell (p := ⟨g, o + m * 4 + 1, none⟩) hgw).trans z1
        replace z2 := (hb18.cell (p := ⟨g, o + m * 4 + 2, none⟩) hgw).trans z2
        replace z3 := (hb18.cell (p := ⟨g, o + m * 4 + 3, none⟩) hgw).trans z3
        have Hpn := Lib.hid ((Hpn.out.ext hb18).mono (Nat.le_refl _) hb18.size)
        have hLn := Lib.hid (fun W (hb : Below w18.heap.size w18 W) => impl_Line ⟨kd', st', ea'⟩ ⟨sa', sl', sc'⟩ D 0 _ ⟨ax, ay⟩ ⟨bx, by_⟩ W ((Hpn.out.ext hb).mono (Nat.le_refl _) hb.size) (Nat.le_refl _) Hs.out Hok.out Hp.out.1 Hp.out.2)
        clear hBl hb18 hgw Hs Hok Hpn
        generalize loadB ⟨kd', st', ea'⟩ hh = X at *
        generalize meetB D ⟨ax, ay⟩ ⟨bx, by_⟩ = Y at *
        go_wp2_with fail
        have a0 := (Lib.cell_of_heap hE.out.za 0).trans rfl
        have a1 := (Lib.cell_of_heap hE.out.za 1).trans rfl
        have b0 := (Lib.cell_of_heap hE.out.zb 0).trans rfl
        have b1 := (Lib.cell_of_heap hE.out.zb 1).trans rfl
        have hap := (Array.getElem?_eq_some_iff.1 hE.out.za).1
        have hbp := (Array.getElem?_eq_some_iff.1 hE.out.zb).1
        refine region_ph 99 (fun w' => ((∀ o, w'.cell? ⟨g, o, none⟩ = w18.cell? ⟨g, o, none⟩) ∧ ∀ o, w'.cell? ⟨pa, o, none⟩ = w18.cell? ⟨pa, o, none⟩) ∧ ∀ o, w'.cell? ⟨pb, o, none⟩ = w18.cell? ⟨pb, o, none⟩) (fun _ => True) (by kernel_rfl) ⟨⟨fun _ => rfl, fun _ => rfl⟩, fun _ => rfl⟩ trivial (fun hp => ?_)
        refine take_ph 184 (i := 0) rfl rfl (by decide) (by kernel_rfl) (by kernel_rfl) (by kernel_rfl) (fun _ _ _ h => h) (by rfl) (fun w hSw => by (try dsimp only at hSw); go_simp; first | done | with_reducible rfl) hp (fun hp => ?_)
        try simp only [Act.put, List.setIfInBounds_toArray, List.set_cons_zero, List.set_cons_succ]
        refine take_ph 185 (i := 1) rfl rfl (by decide) (by kernel_rfl) (by kernel_rfl) (by kernel_rfl) (fun _ _ _ h => h) (by rfl) (fun w hSw => by (try dsimp only at hSw); go_simp; first | done | with_reducible rfl) hp (fun hp => ?_)
        try simp only [Act.put, List.setIfInBounds_toArray, List.set_cons_zero, List.set_cons_succ]
        refine take_ph 186 (i := 2) rfl rfl (by decide) (by kernel_rfl) (by kernel_rfl) (by kernel_rfl) (fun _ _ _ h => h) (by rfl) (fun w hSw => by (try dsimp only at hSw); go_simp; first | done | with_reducible rfl) hp (fun hp => ?_)
        try simp only [Act.put, List.setIfInBounds_toArray, List.set_cons_zero, List.set_cons_succ]
        refine take_ph 187 (i := 3) rfl rfl (by decide) (by kernel_rfl) (by kernel_rfl) (by kernel_rfl) (fun _ _ _ h => h) (by rfl) (fun w hSw => by (try dsimp only at hSw); go_simp; first | done | with_reducible rfl) hp (fun hp => ?_)
        try simp only [Act.put, List.setIfInBounds_toArray, List.set_cons_zero, List.set_cons_succ]
        refine take_ph 188 (i := 4) rfl rfl (by decide) (by kernel_rfl) (by kernel_rfl) (by kernel_rfl) (fun _ _ _ h => h) (by rfl) (fun w hSw => by (try dsimp only at hSw); go_simp; first | done | with_reducible rfl) hp (fun hp => ?_)
        try simp only [Act.put, List.setIfInBounds_toArray, List.set_cons_zero, List.set_cons_succ]
        refine take_ph 189 (i := 5) rfl rfl (by decide) (by kernel_rfl) (by kernel_rfl) (by kernel_rfl) (fun _ _ _ h => h) (by rfl) (fun w hSw => by (try dsimp only at hSw); go_simp; first | done | with_reducible rfl) hp (fun hp => ?_)
        try simp only [Act.put, List.setIfInBounds_toArray, List.set_cons_zero, List.set_cons_succ]
        refine AnyL.one (i := 6) (by kernel_rfl) rfl (fun K hK => ?_)
        go_simp
        clear z0 z1 z2 z3 a0 a1 b0 b1
        have hd18 := (Below.refl w18.heap.size w18).drew
        simp only [ZoneR.cells, SV.v] at hLn
        refine (hLn.out _ hd18).mono ?_
        rintro e w19 ⟨rfl, hb19⟩
        have hbb := hd18.trans hb19
        have hE := Lib.hid (hE.out.on hbb)
        have hgg := hbb.block g hg18
        have haa := hbb.block pa hap
        have hpp := hbb.block pb hbp
        clear hd18 hb19 hbb hLn
        refine hK.out _ _ (ph1 ⟨⟨fun o' => World.cell?_of_block (a := ⟨g, o', none⟩) hgg, fun o' => World.cell?_of_block (a := ⟨pa, o', none⟩) haa⟩, fun o' => World.cell?_of_block (a := ⟨pb, o', none⟩) hpp⟩ trivial) (fun hp => ?_)
        clear hK
        try simp only [Act.put, List.setIfInBounds_toArray, List.set_cons_zero, List.set_cons_succ]
        refine take_ph 183 (i := 7) rfl rfl (by decide) (by kernel_rfl) (by kernel_rfl) (by kernel_rfl) (fun _ _ _ h => h) (by rfl) (fun w hSw => by (try dsimp only at hSw); go_simp; first | done | with_reducible rfl) hp (fun hp => ?_)
        try simp only [Act.put, List.setIfInBounds_toArray, List.set_cons_zero, List.set_cons_succ]
        refine take_ph 191 (i := 8) rfl rfl (by decide) (by kernel_rfl) (by kernel_rfl) (by kernel_rfl) (fun _ _ _ h => h) (by rfl) (fun w hSw => by (try dsimp only at hSw); go_simp; first | done | with_reducible rfl) hp (fun hp => ?_)
        try simp only [Act.put, List.setIfInBounds_toArray, List.set_cons_zero, List.set_cons_succ]
        refine take_ph 192 (i := 9) rfl rfl (by decide) (by kernel_rfl) (by kernel_rfl) (by kernel_rfl) (fun _ _ _ h => h) (by rfl) (fun w hSw => by (try dsimp only at hSw); go_simp; first | done | with_reducible rfl) hp (fun hp => ?_)
        try simp only [Act.put, List.setIfInBounds_toArray, List.set_cons_zero, List.set_cons_succ]
        refine AnyL.one (i := 10) (by kernel_rfl) rfl (fun K hK => ?_)
        go_simp
        refine hK.out _ _ (ph1 ⟨⟨fun o' => World.cell?_of_block (a := ⟨g, o', none⟩) hgg, fun o' => World.cell?_of_block (a := ⟨pa, o', none⟩) haa⟩, fun o' => World.cell?_of_block (a := ⟨pb, o', none⟩) hpp⟩ trivial) (fun hp => ?_)
        clear hK
        try simp only [Act.put, List.setIfInBounds_toArray, List.set_cons_zero, List.set_cons_succ]
        refine AnyL.one (i := 11) (by kernel_rfl) rfl (fun K hK => ?_)
        go_simp
        refine hK.out _ _ (ph1 ⟨⟨fun o' => World.cell?_of_block (a := ⟨g, o', none⟩) hgg, fun o' => World.cell?_of_block (a := ⟨pa, o', none⟩) haa⟩, fun o' => World.cell?_of_block (a := ⟨pb, o', none⟩) hpp⟩ trivial) (fun hp => ?_)
        clear hK
        try simp only [Act.put, List.setIfInBounds_toArray, List.set_cons_zero, List.set_cons_succ]
        refine AnyL.done (by kernel_rfl) ?_ _
        (try simp only [Exit.then])
        clear hp hgg haa hpp hap hbp hg18
        rcases HF.out with ⟨hk1, hall⟩ | ⟨j, hj, hk1, hjt, hlt⟩
        · have hxy : (X && Y) = false := by rw [← Hbl.out]; exact hall m (by rw [Hn.out]; exact Hm.out)
          have hkn : decide (k < 0) = true := decide_eq_true (by omega)
          have hkn2 : k < 0 := by omega
          have hke : ((m : Int) == k) = false := by rw [beq_eq_false_iff_ne]; omega
          clear hall hk1
          cases X <;> cases Y <;> first | (exfalso; revert hxy; decide) | skip
          all_goals (
            go_wp2_with fail
            go_roundw
            case rel => exact ⟨m + 1, by have := Hm.out; omega, by go_num, hE⟩
            case measure => have := Hm.out; simp [Go.RowKit.intOf]; omega)
        · by_cases hmj : m < j
          · have hxy : (X && Y) = false := by rw [← Hbl.out]; exact hlt m hmj
            have hkn : decide (k < 0) = false := decide_eq_false (by omega)
            have hkn2 : ¬ k < 0 := by omega
            have hkl : decide ((m : Int) < k) = true := decide_eq_true (by omega)
            have hkl2 : (m : Int) < k := by omega
            have hke : ((m : Int) == k) = false := by rw [beq_eq_false_iff_ne]; omega
            clear hj hk1 hjt hlt hmj
            cases X <;> cases Y <;> first | (exfalso; revert hxy; decide) | skip
            all_goals (
              go_wp2_with fail
              go_roundw
              case rel => exact ⟨m + 1, by have := Hm.out; omega, by go_num, hE⟩
              case measure => have := Hm.out; simp [Go.RowKit.intOf]; omega)
          · have hkn : decide (k < 0) = false := decide_eq_false (by omega)
            have hkn2 : ¬ k < 0 := by omega
            have hkl : decide ((m : Int) < k) = false := decide_eq_false (by omega)
            have hkl2 : ¬ (m : Int) < k := by omega
            by_cases hme : m = j
            · have hxy : (X && Y) = true := by rw [← Hbl.out, hme]; exact hjt
              have hke : ((m : Int) == k) = true := by rw [beq_iff_eq]; omega
              clear hj hk1 hjt hlt hmj hme
              cases X <;> cases Y <;> first | (exfalso; revert hxy; decide) | skip
              all_goals (
                go_wp2_with fail
                go_roundw
                case rel => exact ⟨m + 1, by have := Hm.out; omega, by go_num, hE⟩
                case measure => have := Hm.out; simp [Go.RowKit.intOf]; omega)
            · have hke : ((m : Int) == k) = false := by rw [beq_eq_false_iff_ne]; omega
              have hxy : True := trivial
              clear hj hk1 hjt hlt hmj hme
              cases X <;> cases Y <;> first | (exfalso; revert hxy; decide) | skip
              all_goals (
                go_wp2_with fail
                go_roundw
                case rel => exact ⟨m + 1, by have := Hm.out; omega, by go_num, hE⟩
                case measure => have := Hm.out; simp [Go.RowKit.intOf]; omega)
      · have hltI : ¬ (m : Int) < (n : Int) := by omega
        have B := hE.out.b
        go_wp2
        go_ret
        exact ⟨rfl, B⟩
  · have hcb : (c != 0) = true := by rw [bne_iff_ne]; exact hc0
    have B := hE.out.b
    go_wp2
    go_ret
    exact ⟨rfl, B⟩
end Go.Proofs.YtpabbehpkokhbaaDoor
