/- Zones: the draw of a point near a zone. -/
import Derived.Test.YtpabbehpkokhbaaDoorZnW
import Derived.Test.YtpabbehpkokhbaaDoorZnC
namespace Go.Proofs.YtpabbehpkokhbaaDoor
open Go.RowKit
section
variable {P : Program} {ops : Array Oper} {Q : Exit → Act → World → Prop} {md : Region.Mode} {S : Array Bool → World → Prop}
/-- One of two operations comes up. -/
theorem AnyL.two {i j : Nat} {oi oj : Oper} {fuel : Nat} {listed : Array Bool} {a : Act} {w : World} (hr : Region.ready md ops listed = [i, j]) (hi : ops[i]? = some oi) (hj : ops[j]? = some oj)
    (h1 : ∀ K' : Act → World → Prop, Hid (∀ a w, S (listed.setIfInBounds i true) w → (S (listed.setIfInBounds i true) w → AnyL P md ops Q S fuel (listed.setIfInBounds i true) a w) → K' a w) → if Region.wanted oi (yielded ops a.tmps) = true then Oper.wp P oi a w K' Q else K' (a.put oi.dst undef) w)
    (h2 : ∀ K' : Act → World → Prop, Hid (∀ a w, S (listed.setIfInBounds j true) w → (S (listed.setIfInBounds j true) w → AnyL P md ops Q S fuel (listed.setIfInBounds j true) a w) → K' a w) → if Region.wanted oj (yielded ops a.tmps) = true then Oper.wp P oj a w K' Q else K' (a.put oj.dst undef) w) :
    AnyL P md ops Q S (fuel + 1) listed a w := by
  refine ⟨fun h0 => (by rw [hr] at h0; cases h0), fun k hk => ?_⟩
  rw [hr] at hk
  simp at hk
  rcases hk with rfl | rfl
  · exact wpOp_step hi fun K' hK => h1 K' (Lib.hid fun a w hS hW => hK a w ⟨hS, hW hS⟩)
  · exact wpOp_step hj fun K' hK => h2 K' (Lib.hid fun a w hS hW => hK a w ⟨hS, hW hS⟩)
end
theorem blk_twoP {W : World} {p : Nat} {T : TypeId} {fz : Nat × Nat} {c0 c1 : Value} (h : W.heap[p]? = some (.cells #[c0, c1] T fz)) (a0 a1 : Value) : ((W.setCell ⟨p, 0, none⟩ a0).setCell ⟨p, 1, none⟩ a1).heap[p]? = some (.cells #[a0, a1] T fz) := by
  simp [World.setCell, Array.getElem?_modify, h]
theorem ZAt.mod {b pb po : Nat} {f : ZoneF} {s : SV} {w w' : World} (h : ZAt pb po f s w) (hm : Mod b (b + 1) w w') (hp : b < pb) : ZAt pb po f s w' := fun j u hu =>
  (World.cell?_of_block (a := ⟨pb, po + j, none⟩) (hm.block pb (World.block_lt_of_cell? w _ (h j u hu)) (.inr hp))).trans (h j u hu)
/-- The zone stands, the result's box, and the source. -/
structure NB (b A q pb po lo hi : Nat) (w : World) (f : ZoneF) (s : SV) (C : List Pnt) (W : World) : Prop where
  sr : Src b A W
  m : Mod b (b + 1) w W
  r : W.heap[q]? = some (.cells #[.int .i64 0, .int .i64 0] 26 (0, 0))
  z : ZAt pb po f s W
  c : Pnts lo hi W s.v C
  o : b < pb ∧ b + 1 ≤ lo ∧ hi ≤ w.heap.size ∧ b < w.heap.size ∧ q = w.heap.size
theorem NB.on {b A A' q pb po lo hi : Nat} {w : World} {f : ZoneF} {s : SV} {C : List Pnt} {W W' : World} (h : NB b A q pb po lo hi w f s C W) (hs : Src b A' W') (hm : Mod b (b + 1) W W') : NB b A' q pb po lo hi w f s C W' :=
  ⟨hs, h.m.trans hm, blk_modV h.r hm (by have := h.o; omega), h.z.mod hm h.o.1, h.c.keep (hm.same (by have := h.o; have := h.m.size; omega) (.inr h.o.2.1)), h.o⟩
theorem NB.up {b A q pb po lo hi : Nat} {w : World} {f : ZoneF} {s : SV} {C : List Pnt} {W W' : World} (h : NB b A q pb po lo hi w f s C W) (hb : Below W.heap.size W W') : NB b A q pb po lo hi w f s C W' :=
  ⟨h.sr.below hb, h.m.then hb, blkN_below hb h.r, h.z.below hb, h.c.keep (fun k _ h2 => hb.block k (by have := h.o; have := h.m.size; omega)), h.o⟩
theorem cell_two {W : World} {p k : Nat} (hk : k ≠ p) (o : Nat) (a0 a1 : Value) : ((W.setCell ⟨p, 0, none⟩ a0).setCell ⟨p, 1, none⟩ a1).cell? ⟨k, o, none⟩ = W.cell? ⟨k, o, none⟩ :=
  World.cell?_of_block (a := ⟨k, o, none⟩) ((Below.heap_setCell _ ⟨p, 1, none⟩ a1 k hk).trans (Below.heap_setCell _ ⟨p, 0, none⟩ a0 k hk))
/-- Two stores into a new box change nothing of it. -/
theorem NB.cell2 {b A q pb po lo hi p : Nat} {w : World} {f : ZoneF} {s : SV} {C : List Pnt} {W : World} (h : NB b A q pb po lo hi w f s C W) (h1 : pb ≠ p) (h2 : q ≠ p ∧ b + 1 ≤ p) (h3 : w.heap.size ≤ p) (a0 a1 : Value) : NB b A q pb po lo hi w f s C ((W.setCell ⟨p, 0, none⟩ a0).setCell ⟨p, 1, none⟩ a1) :=
  ⟨src_setV (src_setV h.sr h2.2 _) h2.2 _, mod_setV (mod_setV h.m h3 _) h3 _, blk_offV (blk_offV h.r h2.1 _) h2.1 _, fun j u hu => (cell_two h1 (po + j) a0 a1).trans (h.z j u hu), h.c.keep (fun k _ hk => (Below.heap_setCell _ ⟨p, 1, none⟩ a1 k (show k ≠ p by have := h.o; omega)).trans (Below.heap_setCell _ ⟨p, 0, none⟩ a0 k (show k ≠ p by have := h.o; omega))), h.o⟩
set_option maxRecDepth 100000 in
set_option maxHeartbeats 4000000 in
theorem draw_Near (b A pb po lo hi : Nat) (f : ZoneF) (s : SV) (C : List Pnt) (w : World) (h : Src b A w) (hA : A ≤ 80000) (hz : ZAt pb po f s w) (hpb : b < pb) (hC : Pnts lo hi w s.v C) (hlo : b + 1 ≤ lo) (hhi : hi ≤ w.heap.size) (hc0 : 0 < C.length) (hcl : C.length ≤ 1024) :
    Calls Tryd.prog 24 #[.pointer (some ⟨b, 0, none⟩), .pointer (some ⟨pb, po, none⟩)] w (PtOutB b (A + 60) w) := by
  have hp := Lib.hid (fun A w' h hA n hn => src_pick b A n w' h hA hn)
  have ho := Lib.hid (fun A w' h hA n hn => src_one b A n w' h hA hn)
  have hb0 := (Below.refl w.heap.size w).alloc (Nat.le_refl _) (.cells #[.int .i64 0, .int .i64 0] 26 (0, 0))
  have hX := Lib.hid (show NB b A w.heap.size pb po lo hi w f s C (w.alloc (.cells #[.int .i64 0, .int .i64 0] 26 (0, 0))) from ⟨h.below hb0, Mod.of_below hb0, Array.getElem?_push_size, hz.below hb0, hC.keep (fun k _ h2 => hb0.block k (by omega)), hpb, hlo, hhi, h.lt, rfl⟩)
  have Hl := Lib.hid (show 0 < C.length ∧ C.length ≤ 1024 from ⟨hc0, hcl⟩)
  clear h hz hC hb0 hpb hlo hhi hc0 hcl
  go_enter Tryd.func24, Tryd.ntmps24
  go_wp2_with fail
  generalize w.alloc (.cells #[.int .i64 0, .int .i64 0] 26 (0, 0)) = w0 at *
  obtain ⟨q, hq⟩ : ∃ q, w.heap.size = q := ⟨_, rfl⟩
  rw [hq] at hX ⊢
  have Hq := Lib.hid hq
  clear hq
  refine (ho.out _ _ hX.out.sr (by omega) 8 (by omega)).mono ?_
  rintro e w1 ⟨c, rfl, hs1, hm1⟩
  have hX1 := Lib.hid (hX.out.on hs1 hm1)
  clear hs1 hm1 hX
  cases c
  · have hc := hX1.out.c
    obtain ⟨sa, sl, sc⟩ := s
    simp only [SV.v] at hc
    obtain ⟨g, o, hgo⟩ : ∃ g o, sa = some ⟨g, o, none⟩ := by obtain ⟨a, cp, hv, _, hh⟩ := hc; obtain ⟨g, o, ha, _⟩ := hh Hl.out.1; cases hv; exact ⟨g, o, ha⟩
    subst hgo
    obtain ⟨n, hn⟩ : ∃ n, C.length = n := ⟨_, rfl⟩
    obtain rfl : n = sl := by obtain ⟨a, cp, hv, _⟩ := hc; rw [hn] at hv; cases hv; rfl
    have Hn := Lib.hid hn
    have hn0 : (0 : Int) < (n : Int) := by have := Hl.out; omega
    have hb2 := (Below.refl w1.heap.size w1).drew
    have hX2 := Lib.hid (hX1.out.up hb2)
    have c3 := hX1.out.z.c.2.2.2
    simp only [SV.v] at c3
    have hzw := World.block_lt_of_cell? w1 _ c3
    clear hc hn
    go_wp2_with fail
    have hgc : lo ≤ g ∧ g < hi := by
      obtain ⟨a, cp, hv, _, hh⟩ := hX1.out.c
      obtain ⟨g', o', ha, h1, h2, _⟩ := hh Hl.out.1
      cases hv; cases ha
      exact ⟨h1, h2⟩
    have hgw : g < w1.heap.size := by have := hX1.out.o; have := hX1.out.m.size; omega
    have hgb : b < g := by have := hX1.out.o; omega
    refine region_ph 99 (fun w' => (∀ o, w'.cell? ⟨pb, o, none⟩ = w1.cell? ⟨pb, o, none⟩) ∧ ∀ o, w'.cell? ⟨g, o, none⟩ = w1.cell? ⟨g, o, none⟩) (fun _ => True) (by kernel_rfl) ⟨fun _ => rfl, fun _ => rfl⟩ trivial (fun hp' => ?_)
    have hp2 := hp
    clear hp
    have hp := hp'
    refine take_ph 11 (i := 0) rfl rfl (by decide) (by kernel_rfl) (by kernel_rfl) (by kernel_rfl) (fun _ _ _ h => h) (by rfl) (fun w hSw => by (try dsimp only at hSw); go_simp; first | done | with_reducible rfl) hp (fun hp => ?_)
    try simp only [Act.put, List.setIfInBounds_toArray, List.set_cons_zero, List.set_cons_succ]
    refine take_ph 12 (i := 1) rfl rfl (by decide) (by kernel_rfl) (by kernel_rfl) (by kernel_rfl) (fun _ _ _ h => h) (by rfl) (fun w hSw => by (try dsimp only at hSw); go_simp; first | done | with_reducible rfl) hp (fun hp => ?_)
    try simp only [Act.put, List.setIfInBounds_toArray, List.set_cons_zero, List.set_cons_succ]
    refine take_ph 13 (i := 2) rfl rfl (by decide) (by kernel_rfl) (by kernel_rfl) (by kernel_rfl) (fun _ _ _ h => h) (by rfl) (fun w hSw => by (try dsimp only at hSw); go_simp; first | done | with_reducible rfl) hp (fun hp => ?_)
    try simp only [Act.put, List.setIfInBounds_toArray, List.set_cons_zero, List.set_cons_succ]
    refine take_ph 14 (i := 3) rfl rfl (by decide) (by kernel_rfl) (by kernel_rfl) (by kernel_rfl) (fun _ _ _ h => h) (by rfl) (fun w hSw => by (try dsimp only at hSw); go_simp; first | done | with_reducible rfl) hp (fun hp => ?_)
    try simp only [Act.put, List.setIfInBounds_toArray, List.set_cons_zero, List.set_cons_succ]
    refine take_ph 15 (i := 4) rfl rfl (by decide) (by kernel_rfl) (by kernel_rfl) (by kernel_rfl) (fun _ _ _ h => h) (by rfl) (fun w hSw => by (try dsimp only at hSw); go_simp; first | done | with_reducible rfl) hp (fun hp => ?_)
    try simp only [Act.put, List.setIfInBounds_toArray, List.set_cons_zero, List.set_cons_succ]
    refine take_ph 16 (i := 5) rfl rfl (by decide) (by kernel_rfl) (by kernel_rfl) (by kernel_rfl) (fun _ _ _ h => h) (by rfl) (fun w hSw => by (try dsimp only at hSw); go_simp; first | done | with_reducible rfl) hp (fun hp => ?_)
    try simp only [Act.put, List.setIfInBounds_toArray, List.set_cons_zero, List.set_cons_succ]
    refine take_ph 17 (i := 6) rfl rfl (by decide) (by kernel_rfl) (by kernel_rfl) (by kernel_rfl) (fun _ _ _ h => h) (by rfl) (fun w hSw => by (try dsimp only at hSw); go_simp; first | done | with_reducible rfl) hp (fun hp => ?_)
    try simp only [Act.put, List.setIfInBounds_toArray, List.set_cons_zero, List.set_cons_succ]
    refine take_ph 18 (i := 7) rfl rfl (by decide) (by kernel_rfl) (by kernel_rfl) (by kernel_rfl) (fun _ _ _ h => h) (by rfl) (fun w hSw => by (try dsimp only at hSw); go_simp; first | done | with_reducible rfl) hp (fun hp => ?_)
    try simp only [Act.put, List.setIfInBounds_toArray, List.set_cons_zero, List.set_cons_succ]
    refine take_ph 19 (i := 8) rfl rfl (by decide) (by kernel_rfl) (by kernel_rfl) (by kernel_rfl) (fun _ _ _ h => h) (by rfl) (fun w hSw => by (try dsimp only at hSw); go_simp; first | done | with_reducible rfl) hp (fun hp => ?_)
    try simp only [Act.put, List.setIfInBounds_toArray, List.set_cons_zero, List.set_cons_succ]
    refine take_ph 20 (i := 9) rfl rfl (by decide) (by kernel_rfl) (by kernel_rfl) (by kernel_rfl) (fun _ _ _ h => h) (by rfl) (fun w hSw => by (try dsimp only at hSw); go_simp; first | done | with_reducible rfl) hp (fun hp => ?_)
    try simp only [Act.put, List.setIfInBounds_toArray, List.set_cons_zero, List.set_cons_succ]
    refine AnyL.two (i := 10) (j := 13) (by kernel_rfl) rfl rfl (fun K hK => ?_) (fun K hK => ?_)
    · go_simp
      refine (hp2.out _ _ hX2.out.sr (by omega) n (by have := Hl.out; have := Hn.out; omega)).mono ?_
      rintro e w3 ⟨k, rfl, ⟨-, hk⟩, hs3, hm3⟩
      have hk := hk (by omega)
      have hmm := (Mod.of_below (lo := b) (hi := b + 1) (Below.refl w1.heap.size w1).drew).trans hm3
      have hX3 := Lib.hid (hX2.out.on hs3 hm3)
      have hkc : k < C.length := by have := Hn.out; omega
      obtain ⟨d0, d1⟩ := Pnts.at hX1.out.c.get hkc
      generalize C[k] = P at d0 d1
      obtain ⟨px, py⟩ := P
      refine hK.out _ _ (ph1 ⟨fun o' => World.cell?_of_block (a := ⟨pb, o', none⟩) (hmm.block pb hzw (.inr hX1.out.o.1)), fun o' => World.cell?_of_block (a := ⟨g, o', none⟩) (hmm.block g hgw (.inr hgb))⟩ trivial) (fun hp => ?_)
      clear hK hs3 hm3
      try simp only [Act.put, List.setIfInBounds_toArray, List.set_cons_zero, List.set_cons_succ]
      refine take_ph 22 (i := 11) rfl rfl (by decide) (by kernel_rfl) (by kernel_rfl) (by kernel_rfl) (fun _ _ _ h => h) (by rfl) (fun w hSw => by (try dsimp only at hSw); go_simp; first | done | with_reducible rfl) hp (fun hp => ?_)
      try simp only [Act.put, List.setIfInBounds_toArray, List.set_cons_zero, List.set_cons_succ]
      refine take_ph 23 (i := 12) rfl rfl (by decide) (by kernel_rfl) (by kernel_rfl) (by kernel_rfl) (fun _ _ _ h => h) (by rfl) (fun w hSw => by (try dsimp only at hSw); go_simp; first | done | with_reducible rfl) hp (fun hp => ?_)
      try simp only [Act.put, List.setIfInBounds_toArray, List.set_cons_zero, List.set_cons_succ]
      refine AnyL.one (i := 13) (by kernel_rfl) rfl (fun K hK => ?_)
      go_simp
      have hb4 := (Below.refl w3.heap.size w3).alloc (Nat.le_refl _) (.cells #[.int .i64 0, .int .i64 0] 26 (0, 0))
      have hp3 := World.block_lt_of_cell? w3 ⟨pb, po, none⟩ (hX3.out.z.c.1)
      have hg3 : g < w3.heap.size := by have := hX3.out.o; have := hX3.out.m.size; omega
      refine hK.out _ _ (ph1 ⟨fun o' => (hb4.cell (p := ⟨pb, o', none⟩) hp3).trans (World.cell?_of_block (a := ⟨pb, o', none⟩) (hmm.block pb hzw (.inr hX1.out.o.1))), fun o' => (hb4.cell (p := ⟨g, o', none⟩) hg3).trans (World.cell?_of_block (a := ⟨g, o', none⟩) (hmm.block g hgw (.inr hgb)))⟩ trivial) (fun hp => ?_)
      clear hK hb4
      try simp only [Act.put, List.setIfInBounds_toArray, List.set_cons_zero, List.set_cons_succ]
      refine AnyL.one (i := 14) (by kernel_rfl) rfl (fun K hK => ?_)
      have hb5 := (Below.refl w3.heap.size w3).alloc (Nat.le_refl _) (.cells #[.int .i64 px, .int .i64 py] 26 (0, 0))
      have hF := Lib.hid (hX3.out.up hb5)
      have hX5 := Lib.hid (blkN_new w3 (.cells #[.int .i64 px, .int .i64 py] 26 (0, 0)))
      have H5 : Hid (q < w3.heap.size ∧ b < w3.heap.size) := Lib.hid (by have := hX3.out.o; have := (Array.getElem?_eq_some_iff.1 hX3.out.r).1; omega)
      go_simp
      refine hK.out _ _ (ph1 ⟨fun o' => (hb5.cell (p := ⟨pb, o', none⟩) hp3).trans (World.cell?_of_block (a := ⟨pb, o', none⟩) (hmm.block pb hzw (.inr hX1.out.o.1))), fun o' => (hb5.cell (p := ⟨g, o', none⟩) hg3).trans (World.cell?_of_block (a := ⟨g, o', none⟩) (hmm.block g hgw (.inr hgb)))⟩ trivial) (fun hp => ?_)
      clear hK hb5 hp3 hg3 d0 d1 hkc hk hX3
      try simp only [Act.put, List.setIfInBounds_toArray, List.set_cons_zero, List.set_cons_succ]
      have hp := hp2
      clear hp2
      generalize w3.alloc (.cells #[.int .i64 px, .int .i64 py] 26 (0, 0)) = WF at *
      generalize w3.heap.size = p5 at *
      refine AnyL.done (by kernel_rfl) ?_ _
      (try simp only [Exit.then])
      clear hp
      go_wp2_with fail
      refine (ho.out _ _ hF.out.sr (by omega) 3 (by omega)).mono ?_
      rintro e w4 ⟨c, rfl, hs4, hm4⟩
      have hF4 := Lib.hid (hF.out.on hs4 hm4)
      have hX4 := Lib.hid (blk_modV hX5.out hm4 H5.out.2)
      clear hs4 hm4 hF hX5
      cases c
      · go_wp2_with fail
        refine (ho.out _ _ hF4.out.sr (by omega) 3 (by omega)).mono ?_
        rintro e w5 ⟨c, rfl, hs5, hm5⟩
        have hF5 := Lib.hid (hF4.out.on hs5 hm5)
        have hX5 := Lib.hid (blk_modV hX4.out hm5 H5.out.2)
        clear hs5 hm5 hF4 hX4
        cases c
        · go_wp2_with fail
          refine (hp.out _ _ hF5.out.sr (by omega) 161 (by omega)).mono ?_
          rintro e w6 ⟨k6, rfl, -, hs6, hm6⟩
          have hF6 := Lib.hid (hF5.out.on hs6 hm6)
          have hX6 := Lib.hid (blk_modV hX5.out hm6 H5.out.2)
          clear hs6 hm6 hF5 hX5
          go_wp2_with fail
          have x0 := (Lib.cell_of_heap hX6.out 0).trans rfl
          have x1 := (Lib.cell_of_heap hX6.out 1).trans rfl
          refine region_ph 99 (fun w' => ∀ o, w'.cell? ⟨p5, o, none⟩ = w6.cell? ⟨p5, o, none⟩) (fun _ => True) (by kernel_rfl) (fun _ => rfl) trivial (fun hp' => ?_)
          have hp2 := hp
          clear hp
          have hp := hp'
          refine take_ph 40 (i := 0) rfl rfl (by decide) (by kernel_rfl) (by kernel_rfl) (by kernel_rfl) (fun _ _ _ h => h) (by rfl) (fun w hSw => by (try dsimp only at hSw); go_simp; first | done | with_reducible rfl) hp (fun hp => ?_)
          try simp only [Act.put, List.setIfInBounds_toArray, List.set_cons_zero, List.set_cons_succ]
          refine take_ph 41 (i := 1) rfl rfl (by decide) (by kernel_rfl) (by kernel_rfl) (by kernel_rfl) (fun _ _ _ h => h) (by rfl) (fun w hSw => by (try dsimp only at hSw); go_simp; first | done | with_reducible rfl) hp (fun hp => ?_)
          try simp only [Act.put, List.setIfInBounds_toArray, List.set_cons_zero, List.set_cons_succ]
          refine take_ph 42 (i := 2) rfl rfl (by decide) (by kernel_rfl) (by kernel_rfl) (by kernel_rfl) (fun _ _ _ h => h) (by rfl) (fun w hSw => by (try dsimp only at hSw); go_simp; first | done | with_reducible rfl) hp (fun hp => ?_)
          try simp only [Act.put, List.setIfInBounds_toArray, List.set_cons_zero, List.set_cons_succ]
          refine take_ph 43 (i := 3) rfl rfl (by decide) (by kernel_rfl) (by kernel_rfl) (by kernel_rfl) (fun _ _ _ h => h) (by rfl) (fun w hSw => by (try dsimp only at hSw); go_simp; first | done | with_reducible rfl) hp (fun hp => ?_)
          try simp only [Act.put, List.setIfInBounds_toArray, List.set_cons_zero, List.set_cons_succ]
          refine take_ph 44 (i := 4) rfl rfl (by decide) (by kernel_rfl) (by kernel_rfl) (by kernel_rfl) (fun _ _ _ h => h) (by rfl) (fun w hSw => by (try dsimp only at hSw); go_simp; first | done | with_reducible rfl) hp (fun hp => ?_)
          try simp only [Act.put, List.setIfInBounds_toArray, List.set_cons_zero, List.set_cons_succ]
          refine take_ph 45 (i := 5) rfl rfl (by decide) (by kernel_rfl) (by kernel_rfl) (by kernel_rfl) (fun _ _ _ h => h) (by rfl) (fun w hSw => by (try dsimp only at hSw); go_simp; first | done | with_reducible rfl) hp (fun hp => ?_)
          try simp only [Act.put, List.setIfInBounds_toArray, List.set_cons_zero, List.set_cons_succ]
          refine take_ph 46 (i := 6) rfl rfl (by decide) (by kernel_rfl) (by kernel_rfl) (by kernel_rfl) (fun _ _ _ h => h) (by rfl) (fun w hSw => by (try dsimp only at hSw); go_simp; first | done | with_reducible rfl) hp (fun hp => ?_)
          try simp only [Act.put, List.setIfInBounds_toArray, List.set_cons_zero, List.set_cons_succ]
          refine AnyL.one (i := 7) (by kernel_rfl) rfl (fun K hK => ?_)
          go_simp
          refine (hp2.out _ _ (hF6.out.up (Below.refl w6.heap.size w6).drew).sr (by omega) 161 (by omega)).mono ?_
          rintro e w7 ⟨k7, rfl, -, hs7, hm7⟩
          have hF7 := Lib.hid ((hF6.out.up (Below.refl w6.heap.size w6).drew).on hs7 hm7)
          have q7 : w7.heap[p5]? = w6.heap[p5]? := (blk_modV (w := (w6).drew) hX6.out hm7 H5.out.2).trans hX6.out.symm
          refine hK.out _ _ (ph1 (fun o' => World.cell?_of_block (a := ⟨p5, o', none⟩) q7) trivial) (fun hp => ?_)
          clear hK hs7 hm7
          try simp only [Act.put, List.setIfInBounds_toArray, List.set_cons_zero, List.set_cons_succ]
          refine take_ph 48 (i := 8) rfl rfl (by decide) (by kernel_rfl) (by kernel_rfl) (by kernel_rfl) (fun _ _ _ h => h) (by rfl) (fun w hSw => by (try dsimp only at hSw); go_simp; first | done | with_reducible rfl) hp (fun hp => ?_)
          try simp only [Act.put, List.setIfInBounds_toArray, List.set_cons_zero, List.set_cons_succ]
          refine take_ph 49 (i := 9) rfl rfl (by decide) (by kernel_rfl) (by kernel_rfl) (by kernel_rfl) (fun _ _ _ h => h) (by rfl) (fun w hSw => by (try dsimp only at hSw); go_simp; first | done | with_reducible rfl) hp (fun hp => ?_)
          try simp only [Act.put, List.setIfInBounds_toArray, List.set_cons_zero, List.set_cons_succ]
          refine take_ph 50 (i := 10) rfl rfl (by decide) (by kernel_rfl) (by kernel_rfl) (by kernel_rfl) (fun _ _ _ h => h) (by rfl) (fun w hSw => by (try dsimp only at hSw); go_simp; first | done | with_reducible rfl) hp (fun hp => ?_)
          try simp only [Act.put, List.setIfInBounds_toArray, List.set_cons_zero, List.set_cons_succ]
          refine AnyL.one (i := 11) (by kernel_rfl) rfl (fun K hK => ?_)
          have r0 := (Lib.cell_of_heap hF7.out.r 0).trans rfl
          have r1 := (Lib.cell_of_heap hF7.out.r 1).trans rfl
          have f0 := Lib.frozen_of_heap hF7.out.r 0
          have f1 := Lib.frozen_of_heap hF7.out.r 1
          go_simp
          clear r0 r1 f0 f1
          have hqp : p5 ≠ q := by have := H5.out; omega
          refine hK.out _ _ (ph1 (fun o' => (cell_two hqp o' _ _).trans (World.cell?_of_block (a := ⟨p5, o', none⟩) q7)) trivial) (fun hp => ?_)
          clear hK
          try simp only [Act.put, List.setIfInBounds_toArray, List.set_cons_zero, List.set_cons_succ]
          refine AnyL.done (by kernel_rfl) ?_ _
          (try simp only [Exit.then])
          clear hp
          have r0 := (Lib.cell_of_heap (blk_twoP hF7.out.r (.int .i64 (IntKind.i64.wrap (px + wrap64 ((k6 : Int) - 80)))) (.int .i64 (IntKind.i64.wrap (IntKind.i64.wrap (py + (k7 : Int)) - 80)))) 0).trans rfl
          have r1 := (Lib.cell_of_heap (blk_twoP hF7.out.r (.int .i64 (IntKind.i64.wrap (px + wrap64 ((k6 : Int) - 80)))) (.int .i64 (IntKind.i64.wrap (IntKind.i64.wrap (py + (k7 : Int)) - 80)))) 1).trans rfl
          go_wp2_with fail
          exact bodyPost_ret (v := .agg #[.int .i64 (IntKind.i64.wrap (px + wrap64 ((k6 : Int) - 80))), .int .i64 (IntKind.i64.wrap (IntKind.i64.wrap (py + (k7 : Int)) - 80))]) (by simp [results, Tryd.results24, go_sem, r0, r1]) rfl ⟨_, _, rfl, src_setV (src_setV (hF7.out.sr.mono (by omega)) (by have := hF7.out.o; omega) _) (by have := hF7.out.o; omega) _, mod_setV (mod_setV hF7.out.m (by have := hF7.out.o; omega) _) (by have := hF7.out.o; omega) _⟩
        · go_wp2_with fail
          have x0 := (Lib.cell_of_heap hX5.out 0).trans rfl
          have x1 := (Lib.cell_of_heap hX5.out 1).trans rfl
          refine region_ph 99 (fun w' => ∀ o, w'.cell? ⟨p5, o, none⟩ = w5.cell? ⟨p5, o, none⟩) (fun _ => True) (by kernel_rfl) (fun _ => rfl) trivial (fun hp' => ?_)
          have hp2 := hp
          clear hp
          have hp := hp'
          refine take_ph 29 (i := 0) rfl rfl (by decide) (by kernel_rfl) (by kernel_rfl) (by kernel_rfl) (fun _ _ _ h => h) (by rfl) (fun w hSw => by (try dsimp only at hSw); go_simp; first | done | with_reducible rfl) hp (fun hp => ?_)
          try simp only [Act.put, List.setIfInBounds_toArray, List.set_cons_zero, List.set_cons_succ]
          refine take_ph 30 (i := 1) rfl rfl (by decide) (by kernel_rfl) (by kernel_rfl) (by kernel_rfl) (fun _ _ _ h => h) (by rfl) (fun w hSw => by (try dsimp only at hSw); go_simp; first | done | with_reducible rfl) hp (fun hp => ?_)
          try simp only [Act.put, List.setIfInBounds_toArray, List.set_cons_zero, List.set_cons_succ]
          refine take_ph 31 (i := 2) rfl rfl (by decide) (by kernel_rfl) (by kernel_rfl) (by kernel_rfl) (fun _ _ _ h => h) (by rfl) (fun w hSw => by (try dsimp only at hSw); go_simp; first | done | with_reducible rfl) hp (fun hp => ?_)
          try simp only [Act.put, List.setIfInBounds_toArray, List.set_cons_zero, List.set_cons_succ]
          refine take_ph 34 (i := 5) rfl rfl (by decide) (by kernel_rfl) (by kernel_rfl) (by kernel_rfl) (fun _ _ _ h => h) (by rfl) (fun w hSw => by (try dsimp only at hSw); go_simp; first | done | with_reducible rfl) hp (fun hp => ?_)
          try simp only [Act.put, List.setIfInBounds_toArray, List.set_cons_zero, List.set_cons_succ]
          refine take_ph 35 (i := 6) rfl rfl (by decide) (by kernel_rfl) (by kernel_rfl) (by kernel_rfl) (fun _ _ _ h => h) (by rfl) (fun w hSw => by (try dsimp only at hSw); go_simp; first | done | with_reducible rfl) hp (fun hp => ?_)
          try simp only [Act.put, List.setIfInBounds_toArray, List.set_cons_zero, List.set_cons_succ]
          refine AnyL.one (i := 3) (by kernel_rfl) rfl (fun K hK => ?_)
          go_simp
          refine (hp2.out _ _ (hF5.out.up (Below.refl w5.heap.size w5).drew).sr (by omega) 80 (by omega)).mono ?_
          rintro e w7 ⟨k7, rfl, -, hs7, hm7⟩
          have hF7 := Lib.hid ((hF5.out.up (Below.refl w5.heap.size w5).drew).on hs7 hm7)
          have q7 : w7.heap[p5]? = w5.heap[p5]? := (blk_modV (w := (w5).drew) hX5.out hm7 H5.out.2).trans hX5.out.symm
          refine hK.out _ _ (ph1 (fun o' => World.cell?_of_block (a := ⟨p5, o', none⟩) q7) trivial) (fun hp => ?_)
          clear hK hs7 hm7
          try simp only [Act.put, List.setIfInBounds_toArray, List.set_cons_zero, List.set_cons_succ]
          refine take_ph 33 (i := 4) rfl rfl (by decide) (by kernel_rfl) (by kernel_rfl) (by kernel_rfl) (fun _ _ _ h => h) (by rfl) (fun w hSw => by (try dsimp only at hSw); go_simp; first | done | with_reducible rfl) hp (fun hp => ?_)
          try simp only [Act.put, List.setIfInBounds_toArray, List.set_cons_zero, List.set_cons_succ]
          refine take_ph 36 (i := 7) rfl rfl (by decide) (by kernel_rfl) (by kernel_rfl) (by kernel_rfl) (fun _ _ _ h => h) (by rfl) (fun w hSw => by (try dsimp only at hSw); go_simp; first | done | with_reducible rfl) hp (fun hp => ?_)
          try simp only [Act.put, List.setIfInBounds_toArray, List.set_cons_zero, List.set_cons_succ]
          refine AnyL.one (i := 8) (by kernel_rfl) rfl (fun K hK => ?_)
          have r0 := (Lib.cell_of_heap hF7.out.r 0).trans rfl
          have r1 := (Lib.cell_of_heap hF7.out.r 1).trans rfl
          have f0 := Lib.frozen_of_heap hF7.out.r 0
          have f1 := Lib.frozen_of_heap hF7.out.r 1
          go_simp
          clear r0 r1 f0 f1
          have hqp : p5 ≠ q := by have := H5.out; omega
          refine hK.out _ _ (ph1 (fun o' => (cell_two hqp o' _ _).trans (World.cell?_of_block (a := ⟨p5, o', none⟩) q7)) trivial) (fun hp => ?_)
          clear hK
          try simp only [Act.put, List.setIfInBounds_toArray, List.set_cons_zero, List.set_cons_succ]
          refine AnyL.done (by kernel_rfl) ?_ _
          (try simp only [Exit.then])
          clear hp
          have r0 := (Lib.cell_of_heap (blk_twoP hF7.out.r (.int .i64 (IntKind.i64.wrap (px + (k7 : Int)))) (.int .i64 (py))) 0).trans rfl
          have r1 := (Lib.cell_of_heap (blk_twoP hF7.out.r (.int .i64 (IntKind.i64.wrap (px + (k7 : Int)))) (.int .i64 (py))) 1).trans rfl
          go_wp2_with fail
          exact bodyPost_ret (v := .agg #[.int .i64 (IntKind.i64.wrap (px + (k7 : Int))), .int .i64 (py)]) (by simp [results, Tryd.results24, go_sem, r0, r1]) rfl ⟨_, _, rfl, src_setV (src_setV (hF7.out.sr.mono (by omega)) (by have := hF7.out.o; omega) _) (by have := hF7.out.o; omega) _, mod_setV (mod_setV hF7.out.m (by have := hF7.out.o; omega) _) (by have := hF7.out.o; omega) _⟩
      · have x0 := (Lib.cell_of_heap hX4.out 0).trans rfl
        have x1 := (Lib.cell_of_heap hX4.out 1).trans rfl
        have r0 := (Lib.cell_of_heap hF4.out.r 0).trans rfl
        have r1 := (Lib.cell_of_heap hF4.out.r 1).trans rfl
        have f0 := Lib.frozen_of_heap hF4.out.r 0
        have f1 := Lib.frozen_of_heap hF4.out.r 1
        have hqp : q ≠ p5 := by have := H5.out; omega
        go_wp2
        exact bodyPost_ret (v := .agg #[.int .i64 px, .int .i64 py]) (by simp [results, Tryd.results24, go_sem, r0, r1]) rfl ⟨px, py, rfl, src_setV (src_setV (hF4.out.sr.mono (by omega)) (by have := hF4.out.o; omega) _) (by have := hF4.out.o; omega) _, mod_setV (mod_setV hF4.out.m (by have := hF4.out.o; omega) _) (by have := hF4.out.o; omega) _⟩
    · go_simp
      have hb4 := hb2.alloc (Nat.le_refl _) (.cells #[.int .i64 0, .int .i64 0] 26 (0, 0))
      have hX4 := Lib.hid (hX1.out.up hb4)
      have hY4 : Hid ((w1.drew.alloc (.cells #[.int .i64 0, .int .i64 0] 26 (0, 0))).heap[w1.heap.size]? = some (.cells #[.int .i64 0, .int .i64 0] 26 (0, 0))) := Lib.hid (blkN_new w1.drew (.cells #[.int .i64 0, .int .i64 0] 26 (0, 0)))
      have H5 : Hid (q < w1.heap.size ∧ b < w1.heap.size) := Lib.hid (by have := hX1.out.o; have := (Array.getElem?_eq_some_iff.1 hX1.out.r).1; omega)
      refine hK.out _ _ (ph1 ⟨fun o' => hb4.cell (p := ⟨pb, o', none⟩) hzw, fun o' => hb4.cell (p := ⟨g, o', none⟩) hgw⟩ trivial) (fun hp => ?_)
      clear hK
      try simp only [Act.put, List.setIfInBounds_toArray, List.set_cons_zero, List.set_cons_succ]
      refine AnyL.one (i := 10) (by kernel_rfl) rfl (fun K hK => ?_)
      go_simp
      refine (hp2.out _ _ hX4.out.sr (by omega) n (by have := Hl.out; have := Hn.out; omega)).mono ?_
      rintro e w3 ⟨k, rfl, ⟨-, hk⟩, hs3, hm3⟩
      have hk := hk (by omega)
      have hmm := (Mod.of_below (lo := b) (hi := b + 1) hb4).trans hm3
      have hX3 := Lib.hid (hX4.out.on hs3 hm3)
      have hY3 := Lib.hid (blk_modV hY4.out hm3 H5.out.2)
      have hkc : k < C.length := by have := Hn.out; omega
      obtain ⟨d0, d1⟩ := Pnts.at hX1.out.c.get hkc
      generalize C[k] = P at d0 d1
      obtain ⟨px, py⟩ := P
      refine hK.out _ _ (ph1 ⟨fun o' => World.cell?_of_block (a := ⟨pb, o', none⟩) (hmm.block pb hzw (.inr hX1.out.o.1)), fun o' => World.cell?_of_block (a := ⟨g, o', none⟩) (hmm.block g hgw (.inr hgb))⟩ trivial) (fun hp => ?_)
      clear hK hs3 hm3
      try simp only [Act.put, List.setIfInBounds_toArray, List.set_cons_zero, List.set_cons_succ]
      refine take_ph 22 (i := 11) rfl rfl (by decide) (by kernel_rfl) (by kernel_rfl) (by kernel_rfl) (fun _ _ _ h => h) (by rfl) (fun w hSw => by (try dsimp only at hSw); go_simp; first | done | with_reducible rfl) hp (fun hp => ?_)
      try simp only [Act.put, List.setIfInBounds_toArray, List.set_cons_zero, List.set_cons_succ]
      refine take_ph 23 (i := 12) rfl rfl (by decide) (by kernel_rfl) (by kernel_rfl) (by kernel_rfl) (fun _ _ _ h => h) (by rfl) (fun w hSw => by (try dsimp only at hSw); go_simp; first | done | with_reducible rfl) hp (fun hp => ?_)
      try simp only [Act.put, List.setIfInBounds_toArray, List.set_cons_zero, List.set_cons_succ]
      refine AnyL.one (i := 14) (by kernel_rfl) rfl (fun K hK => ?_)
      have c0 := (Lib.cell_of_heap hY3.out 0).trans rfl
      have c1 := (Lib.cell_of_heap hY3.out 1).trans rfl
      have f0 := Lib.frozen_of_heap hY3.out 0
      have f1 := Lib.frozen_of_heap hY3.out 1
      go_simp
      clear c0 c1 f0 f1
      have hpb5 : pb ≠ w1.heap.size := by omega
      have hg5 : g ≠ w1.heap.size := by omega
      have hwz : w.heap.size ≤ w1.heap.size := hX1.out.m.size
      have hX5 := Lib.hid (blk_twoP hY3.out (.int .i64 px) (.int .i64 py))
      have hF := Lib.hid (hX3.out.cell2 (p := w1.heap.size) hpb5 (by have := hX2.out.o; have := H5.out; omega) hwz (.int .i64 px) (.int .i64 py))
      refine hK.out _ _ (ph1 ⟨fun o' => (cell_two hpb5 o' _ _).trans (World.cell?_of_block (a := ⟨pb, o', none⟩) (hmm.block pb hzw (.inr hX1.out.o.1))), fun o' => (cell_two hg5 o' _ _).trans (World.cell?_of_block (a := ⟨g, o', none⟩) (hmm.block g hgw (.inr hgb)))⟩ trivial) (fun hp => ?_)
      clear hK d0 d1 hkc hk hX3 hX4 hY3 hY4
      try simp only [Act.put, List.setIfInBounds_toArray, List.set_cons_zero, List.set_cons_succ]
      have hp := hp2
      clear hp2
      generalize (w3.setCell ⟨w1.heap.size, 0, none⟩ (.int .i64 px)).setCell ⟨w1.heap.size, 1, none⟩ (.int .i64 py) = WF at *
      generalize w1.heap.size = p5 at *
      refine AnyL.done (by kernel_rfl) ?_ _
      (try simp only [Exit.then])
      clear hp
      go_wp2_with fail
      refine (ho.out _ _ hF.out.sr (by omega) 3 (by omega)).mono ?_
      rintro e w4 ⟨c, rfl, hs4, hm4⟩
      have hF4 := Lib.hid (hF.out.on hs4 hm4)
      have hX4 := Lib.hid (blk_modV hX5.out hm4 H5.out.2)
      clear hs4 hm4 hF hX5
      cases c
      · go_wp2_with fail
        refine (ho.out _ _ hF4.out.sr (by omega) 3 (by omega)).mono ?_
        rintro e w5 ⟨c, rfl, hs5, hm5⟩
        have hF5 := Lib.hid (hF4.out.on hs5 hm5)
        have hX5 := Lib.hid (blk_modV hX4.out hm5 H5.out.2)
        clear hs5 hm5 hF4 hX4
        cases c
        · go_wp2_with fail
          refine (hp.out _ _ hF5.out.sr (by omega) 161 (by omega)).mono ?_
          rintro e w6 ⟨k6, rfl, -, hs6, hm6⟩
          have hF6 := Lib.hid (hF5.out.on hs6 hm6)
          have hX6 := Lib.hid (blk_modV hX5.out hm6 H5.out.2)
          clear hs6 hm6 hF5 hX5
          go_wp2_with fail
          have x0 := (Lib.cell_of_heap hX6.out 0).trans rfl
          have x1 := (Lib.cell_of_heap hX6.out 1).trans rfl
          refine region_ph 99 (fun w' => ∀ o, w'.cell? ⟨p5, o, none⟩ = w6.cell? ⟨p5, o, none⟩) (fun _ => True) (by kernel_rfl) (fun _ => rfl) trivial (fun hp' => ?_)
          have hp2 := hp
          clear hp
          have hp := hp'
          refine take_ph 40 (i := 0) rfl rfl (by decide) (by kernel_rfl) (by kernel_rfl) (by kernel_rfl) (fun _ _ _ h => h) (by rfl) (fun w hSw => by (try dsimp only at hSw); go_simp; first | done | with_reducible rfl) hp (fun hp => ?_)
          try simp only [Act.put, List.setIfInBounds_toArray, List.set_cons_zero, List.set_cons_succ]
          refine take_ph 41 (i := 1) rfl rfl (by decide) (by kernel_rfl) (by kernel_rfl) (by kernel_rfl) (fun _ _ _ h => h) (by rfl) (fun w hSw => by (try dsimp only at hSw); go_simp; first | done | with_reducible rfl) hp (fun hp => ?_)
          try simp only [Act.put, List.setIfInBounds_toArray, List.set_cons_zero, List.set_cons_succ]
          refine take_ph 42 (i := 2) rfl rfl (by decide) (by kernel_rfl) (by kernel_rfl) (by kernel_rfl) (fun _ _ _ h => h) (by rfl) (fun w hSw => by (try dsimp only at hSw); go_simp; first | done | with_reducible rfl) hp (fun hp => ?_)
          try simp only [Act.put, List.setIfInBounds_toArray, List.set_cons_zero, List.set_cons_succ]
          refine take_ph 43 (i := 3) rfl rfl (by decide) (by kernel_rfl) (by kernel_rfl) (by kernel_rfl) (fun _ _ _ h => h) (by rfl) (fun w hSw => by (try dsimp only at hSw); go_simp; first | done | with_reducible rfl) hp (fun hp => ?_)
          try simp only [Act.put, List.setIfInBounds_toArray, List.set_cons_zero, List.set_cons_succ]
          refine take_ph 44 (i := 4) rfl rfl (by decide) (by kernel_rfl) (by kernel_rfl) (by kernel_rfl) (fun _ _ _ h => h) (by rfl) (fun w hSw => by (try dsimp only at hSw); go_simp; first | done | with_reducible rfl) hp (fun hp => ?_)
          try simp only [Act.put, List.setIfInBounds_toArray, List.set_cons_zero, List.set_cons_succ]
          refine take_ph 45 (i := 5) rfl rfl (by decide) (by kernel_rfl) (by kernel_rfl) (by kernel_rfl) (fun _ _ _ h => h) (by rfl) (fun w hSw => by (try dsimp only at hSw); go_simp; first | done | with_reducible rfl) hp (fun hp => ?_)
          try simp only [Act.put, List.setIfInBounds_toArray, List.set_cons_zero, List.set_cons_succ]
          refine take_ph 46 (i := 6) rfl rfl (by decide) (by kernel_rfl) (by kernel_rfl) (by kernel_rfl) (fun _ _ _ h => h) (by rfl) (fun w hSw => by (try dsimp only at hSw); go_simp; first | done | with_reducible rfl) hp (fun hp => ?_)
          try simp only [Act.put, List.setIfInBounds_toArray, List.set_cons_zero, List.set_cons_succ]
          refine AnyL.one (i := 7) (by kernel_rfl) rfl (fun K hK => ?_)
          go_simp
          refine (hp2.out _ _ (hF6.out.up (Below.refl w6.heap.size w6).drew).sr (by omega) 161 (by omega)).mono ?_
          rintro e w7 ⟨k7, rfl, -, hs7, hm7⟩
          have hF7 := Lib.hid ((hF6.out.up (Below.refl w6.heap.size w6).drew).on hs7 hm7)
          have q7 : w7.heap[p5]? = w6.heap[p5]? := (blk_modV (w := (w6).drew) hX6.out hm7 H5.out.2).trans hX6.out.symm
          refine hK.out _ _ (ph1 (fun o' => World.cell?_of_block (a := ⟨p5, o', none⟩) q7) trivial) (fun hp => ?_)
          clear hK hs7 hm7
          try simp only [Act.put, List.setIfInBounds_toArray, List.set_cons_zero, List.set_cons_succ]
          refine take_ph 48 (i := 8) rfl rfl (by decide) (by kernel_rfl) (by kernel_rfl) (by kernel_rfl) (fun _ _ _ h => h) (by rfl) (fun w hSw => by (try dsimp only at hSw); go_simp; first | done | with_reducible rfl) hp (fun hp => ?_)
          try simp only [Act.put, List.setIfInBounds_toArray, List.set_cons_zero, List.set_cons_succ]
          refine take_ph 49 (i := 9) rfl rfl (by decide) (by kernel_rfl) (by kernel_rfl) (by kernel_rfl) (fun _ _ _ h => h) (by rfl) (fun w hSw => by (try dsimp only at hSw); go_simp; first | done | with_reducible rfl) hp (fun hp => ?_)
          try simp only [Act.put, List.setIfInBounds_toArray, List.set_cons_zero, List.set_cons_succ]
          refine take_ph 50 (i := 10) rfl rfl (by decide) (by kernel_rfl) (by kernel_rfl) (by kernel_rfl) (fun _ _ _ h => h) (by rfl) (fun w hSw => by (try dsimp only at hSw); go_simp; first | done | with_reducible rfl) hp (fun hp => ?_)
          try simp only [Act.put, List.setIfInBounds_toArray, List.set_cons_zero, List.set_cons_succ]
          refine AnyL.one (i := 11) (by kernel_rfl) rfl (fun K hK => ?_)
          have r0 := (Lib.cell_of_heap hF7.out.r 0).trans rfl
          have r1 := (Lib.cell_of_heap hF7.out.r 1).trans rfl
          have f0 := Lib.frozen_of_heap hF7.out.r 0
          have f1 := Lib.frozen_of_heap hF7.out.r 1
          go_simp
          clear r0 r1 f0 f1
          have hqp : p5 ≠ q := by have := H5.out; omega
          refine hK.out _ _ (ph1 (fun o' => (cell_two hqp o' _ _).trans (World.cell?_of_block (a := ⟨p5, o', none⟩) q7)) trivial) (fun hp => ?_)
          clear hK
          try simp only [Act.put, List.setIfInBounds_toArray, List.set_cons_zero, List.set_cons_succ]
          refine AnyL.done (by kernel_rfl) ?_ _
          (try simp only [Exit.then])
          clear hp
          have r0 := (Lib.cell_of_heap (blk_twoP hF7.out.r (.int .i64 (IntKind.i64.wrap (px + wrap64 ((k6 : Int) - 80)))) (.int .i64 (IntKind.i64.wrap (IntKind.i64.wrap (py + (k7 : Int)) - 80)))) 0).trans rfl
          have r1 := (Lib.cell_of_heap (blk_twoP hF7.out.r (.int .i64 (IntKind.i64.wrap (px + wrap64 ((k6 : Int) - 80)))) (.int .i64 (IntKind.i64.wrap (IntKind.i64.wrap (py + (k7 : Int)) - 80)))) 1).trans rfl
          go_wp2_with fail
          exact bodyPost_ret (v := .agg #[.int .i64 (IntKind.i64.wrap (px + wrap64 ((k6 : Int) - 80))), .int .i64 (IntKind.i64.wrap (IntKind.i64.wrap (py + (k7 : Int)) - 80))]) (by simp [results, Tryd.results24, go_sem, r0, r1]) rfl ⟨_, _, rfl, src_setV (src_setV (hF7.out.sr.mono (by omega)) (by have := hF7.out.o; omega) _) (by have := hF7.out.o; omega) _, mod_setV (mod_setV hF7.out.m (by have := hF7.out.o; omega) _) (by have := hF7.out.o; omega) _⟩
        · go_wp2_with fail
          have x0 := (Lib.cell_of_heap hX5.out 0).trans rfl
          have x1 := (Lib.cell_of_heap hX5.out 1).trans rfl
          refine region_ph 99 (fun w' => ∀ o, w'.cell? ⟨p5, o, none⟩ = w5.cell? ⟨p5, o, none⟩) (fun _ => True) (by kernel_rfl) (fun _ => rfl) trivial (fun hp' => ?_)
          have hp2 := hp
          clear hp
          have hp := hp'
          refine take_ph 29 (i := 0) rfl rfl (by decide) (by kernel_rfl) (by kernel_rfl) (by kernel_rfl) (fun _ _ _ h => h) (by rfl) (fun w hSw => by (try dsimp only at hSw); go_simp; first | done | with_reducible rfl) hp (fun hp => ?_)
          try simp only [Act.put, List.setIfInBounds_toArray, List.set_cons_zero, List.set_cons_succ]
          refine take_ph 30 (i := 1) rfl rfl (by decide) (by kernel_rfl) (by kernel_rfl) (by kernel_rfl) (fun _ _ _ h => h) (by rfl) (fun w hSw => by (try dsimp only at hSw); go_simp; first | done | with_reducible rfl) hp (fun hp => ?_)
          try simp only [Act.put, List.setIfInBounds_toArray, List.set_cons_zero, List.set_cons_succ]
          refine take_ph 31 (i := 2) rfl rfl (by decide) (by kernel_rfl) (by kernel_rfl) (by kernel_rfl) (fun _ _ _ h => h) (by rfl) (fun w hSw => by (try dsimp only at hSw); go_simp; first | done | with_reducible rfl) hp (fun hp => ?_)
          try simp only [Act.put, List.setIfInBounds_toArray, List.set_cons_zero, List.set_cons_succ]
          refine take_ph 34 (i := 5) rfl rfl (by decide) (by kernel_rfl) (by kernel_rfl) (by kernel_rfl) (fun _ _ _ h => h) (by rfl) (fun w hSw => by (try dsimp only at hSw); go_simp; first | done | with_reducible rfl) hp (fun hp => ?_)
          try simp only [Act.put, List.setIfInBounds_toArray, List.set_cons_zero, List.set_cons_succ]
          refine take_ph 35 (i := 6) rfl rfl (by decide) (by kernel_rfl) (by kernel_rfl) (by kernel_rfl) (fun _ _ _ h => h) (by rfl) (fun w hSw => by (try dsimp only at hSw); go_simp; first | done | with_reducible rfl) hp (fun hp => ?_)
          try simp only [Act.put, List.setIfInBounds_toArray, List.set_cons_zero, List.set_cons_succ]
          refine AnyL.one (i := 3) (by kernel_rfl) rfl (fun K hK => ?_)
          go_simp
          refine (hp2.out _ _ (hF5.out.up (Below.refl w5.heap.size w5).drew).sr (by omega) 80 (by omega)).mono ?_
          rintro e w7 ⟨k7, rfl, -, hs7, hm7⟩
          have hF7 := Lib.hid ((hF5.out.up (Below.refl w5.heap.size w5).drew).on hs7 hm7)
          have q7 : w7.heap[p5]? = w5.heap[p5]? := (blk_modV (w := (w5).drew) hX5.out hm7 H5.out.2).trans hX5.out.symm
          refine hK.out _ _ (ph1 (fun o' => World.cell?_of_block (a := ⟨p5, o', none⟩) q7) trivial) (fun hp => ?_)
          clear hK hs7 hm7
          try simp only [Act.put, List.setIfInBounds_toArray, List.set_cons_zero, List.set_cons_succ]
          refine take_ph 33 (i := 4) rfl rfl (by decide) (by kernel_rfl) (by kernel_rfl) (by kernel_rfl) (fun _ _ _ h => h) (by rfl) (fun w hSw => by (try dsimp only at hSw); go_simp; first | done | with_reducible rfl) hp (fun hp => ?_)
          try simp only [Act.put, List.setIfInBounds_toArray, List.set_cons_zero, List.set_cons_succ]
          refine take_ph 36 (i := 7) rfl rfl (by decide) (by kernel_rfl) (by kernel_rfl) (by kernel_rfl) (fun _ _ _ h => h) (by rfl) (fun w hSw => by (try dsimp only at hSw); go_simp; first | done | with_reducible rfl) hp (fun hp => ?_)
          try simp only [Act.put, List.setIfInBounds_toArray, List.set_cons_zero, List.set_cons_succ]
          refine AnyL.one (i := 8) (by kernel_rfl) rfl (fun K hK => ?_)
          have r0 := (Lib.cell_of_heap hF7.out.r 0).trans rfl
          have r1 := (Lib.cell_of_heap hF7.out.r 1).trans rfl
          have f0 := Lib.frozen_of_heap hF7.out.r 0
          have f1 := Lib.frozen_of_heap hF7.out.r 1
          go_simp
          clear r0 r1 f0 f1
          have hqp : p5 ≠ q := by have := H5.out; omega
          refine hK.out _ _ (ph1 (fun o' => (cell_two hqp o' _ _).trans (World.cell?_of_block (a := ⟨p5, o', none⟩) q7)) trivial) (fun hp => ?_)
          clear hK
          try simp only [Act.put, List.setIfInBounds_toArray, List.set_cons_zero, List.set_cons_succ]
          refine AnyL.done (by kernel_rfl) ?_ _
          (try simp only [Exit.then])
          clear hp
          have r0 := (Lib.cell_of_heap (blk_twoP hF7.out.r (.int .i64 (IntKind.i64.wrap (px + (k7 : Int)))) (.int .i64 (py))) 0).trans rfl
          have r1 := (Lib.cell_of_heap (blk_twoP hF7.out.r (.int .i64 (IntKind.i64.wrap (px + (k7 : Int)))) (.int .i64 (py))) 1).trans rfl
          go_wp2_with fail
          exact bodyPost_ret (v := .agg #[.int .i64 (IntKind.i64.wrap (px + (k7 : Int))), .int .i64 (py)]) (by simp [results, Tryd.results24, go_sem, r0, r1]) rfl ⟨_, _, rfl, src_setV (src_setV (hF7.out.sr.mono (by omega)) (by have := hF7.out.o; omega) _) (by have := hF7.out.o; omega) _, mod_setV (mod_setV hF7.out.m (by have := hF7.out.o; omega) _) (by have := hF7.out.o; omega) _⟩
      · have x0 := (Lib.cell_of_heap hX4.out 0).trans rfl
        have x1 := (Lib.cell_of_heap hX4.out 1).trans rfl
        have r0 := (Lib.cell_of_heap hF4.out.r 0).trans rfl
        have r1 := (Lib.cell_of_heap hF4.out.r 1).trans rfl
        have f0 := Lib.frozen_of_heap hF4.out.r 0
        have f1 := Lib.frozen_of_heap hF4.out.r 1
        have hqp : q ≠ p5 := by have := H5.out; omega
        go_wp2
        exact bodyPost_ret (v := .agg #[.int .i64 px, .int .i64 py]) (by simp [results, Tryd.results24, go_sem, r0, r1]) rfl ⟨px, py, rfl, src_setV (src_setV (hF4.out.sr.mono (by omega)) (by have := hF4.out.o; omega) _) (by have := hF4.out.o; omega) _, mod_setV (mod_setV hF4.out.m (by have := hF4.out.o; omega) _) (by have := hF4.out.o; omega) _⟩
  · go_wp2_with fail
    refine (draw_PtB b _ _ hX1.out.sr (by omega)).mono ?_
    rintro e w2 ⟨x, y, rfl, hs2, hm2⟩
    have hX2 := Lib.hid (hX1.out.on hs2 hm2)
    clear hs2 hm2 hX1
    have r0 := (Lib.cell_of_heap hX2.out.r 0).trans rfl
    have r1 := (Lib.cell_of_heap hX2.out.r 1).trans rfl
    have f0 := Lib.frozen_of_heap hX2.out.r 0
    have f1 := Lib.frozen_of_heap hX2.out.r 1
    go_wp2
    exact bodyPost_ret (v := .agg #[.int .i64 x, .int .i64 y]) (by simp [results, Tryd.results24, go_sem, r0, r1]) rfl ⟨x, y, rfl, src_setV (src_setV (hX2.out.sr.mono (by omega)) (by have := hX2.out.o; omega) _) (by have := hX2.out.o; omega) _, mod_setV (mod_setV hX2.out.m (by have := hX2.out.o; omega) _) (by have := hX2.out.o; omega) _⟩
end Go.Proofs.YtpabbehpkokhbaaDoor
