/- Zones, the program: the sides of a shape, each handed to a function. -/
import Derived.Test.YtpabbehpkokhbaaDoorZnC
namespace Go.Proofs.YtpabbehpkokhbaaDoor
open Go.RowKit
set_option maxHeartbeats 1000000 in
theorem impl_Sd (a b p : Pnt) (w : World) (ha : Crd a) (hb : Crd b) (hp : Crd p) : Calls Tryd.prog 72 #[.agg #[.int .i64 (a).x, .int .i64 (a).y], .agg #[.int .i64 (b).x, .int .i64 (b).y], .agg #[.int .i64 (p).x, .int .i64 (p).y]] w fun e w' => e = .returned (.int .i64 (crossP a b p)) ∧ Below w.heap.size w w' := by
  obtain ⟨⟨⟨h1, h2⟩, h3, h4⟩, h5, h6⟩ := cross_bd ha hb hp
  obtain ⟨⟨_, _⟩, _, _⟩ := ha
  obtain ⟨⟨_, _⟩, _, _⟩ := hb
  obtain ⟨⟨_, _⟩, _, _⟩ := hp
  unfold crossP at h5 h6 ⊢
  obtain ⟨ax, ay⟩ := a
  obtain ⟨bx, bY⟩ := b
  obtain ⟨px, py⟩ := p
  dsimp only at *
  go_enter Tryd.func72, Tryd.ntmps72
  go_wp2
  go_ret
  exact ⟨rfl, (((Below.refl _ _).alloc (Nat.le_refl _) _).alloc (by simp) _).alloc (by simp; omega) _⟩
/-- What handing on the sides comes to: all said yes, or one said no. -/
def SidesOut (p q n : Nat) (Inv : Nat → World → Prop) (Bad : Prop) (w : World) (e : Ending) (w' : World) : Prop :=
  ∃ b : Bool, e = .returned (.bool b) ∧ Mod p q w w' ∧ ((b = true ∧ Inv n w') ∨ (b = false ∧ Bad))
def StepOut (p q k : Nat) (Inv : Nat → World → Prop) (Bad : Prop) (w : World) (e : Ending) (w' : World) : Prop :=
  ∃ b : Bool, e = .returned (.bool b) ∧ Mod p q w w' ∧ ((b = true ∧ Inv (k + 1) w') ∨ (b = false ∧ Bad))
theorem Sl.mod {α : Type} {n : Nat} {c : α → List Value} {lo hi p q : Nat} {w w' : World} {v : Value} {l : List α} (h : Sl n c lo hi w v l) (hm : Mod p q w w') (h1 : hi ≤ w.heap.size) (h2 : hi ≤ p) : Sl n c lo hi w' v l := h.keep (hm.same h1 (.inl h2))
set_option maxRecDepth 100000 in
set_option maxHeartbeats 8000000 in
theorem impl_SidesS (f : ZoneF) (s : SV) (C : List Pnt) (lo hi p q : Nat) (q1 q2 : Nat) (Inv : Nat → World → Prop) (Bad : Prop) (w : World) (hh : Pnts lo hi w s.v C) (hl : C.length ≤ 1024) (h1 : hi ≤ p) (h2 : p ≤ q) (h3 : q ≤ w.heap.size)
    (hst : ∀ k W W', Inv k W → Below W.heap.size W W' → Inv k W') (h0 : Inv 0 w)
    (hstep : ∀ k (_ : k < C.length) W, Inv k W → Mod p q w W → Calls Tryd.prog 85 #[.int .i64 k, .agg #[.int .i64 (cnr C k).x, .int .i64 (cnr C k).y], .agg #[.int .i64 (cnr C ((k + 1) % C.length)).x, .int .i64 (cnr C ((k + 1) % C.length)).y], .pointer (some ⟨q1, 0, none⟩), .pointer (some ⟨q2, 0, none⟩)] W (StepOut p q k Inv Bad W)) :
    Calls Tryd.prog 70 #[.agg (ZoneR.cells ⟨f, s⟩).toArray, .func (.func 85) #[] #[.pointer (some ⟨q1, 0, none⟩), .pointer (some ⟨q2, 0, none⟩)]] w (SidesOut p q C.length Inv Bad w) := by
  have hhs : hi ≤ w.heap.size := by omega
  have Hh := Lib.hid hh
  have Hst := Lib.hid hst
  have Hstep := Lib.hid hstep
  obtain ⟨a, cap, hv, hcp, -⟩ := hh
  obtain ⟨sa, sl, sc⟩ := s
  simp only [SV.v, ZoneR.cells] at *
  obtain rfl : C.length = sl := by cases hv; rfl
  obtain ⟨x0, x1, x2⟩ := f
  dsimp only at *
  clear hv hst hstep
  have hb0 : Below w.heap.size w (w.alloc (.cells #[.int .i64 x0, .int .i64 x1, .int .i64 x2, .slice sa C.length sc] 33 (0, 0))) := (Below.refl _ _).alloc (Nat.le_refl _) _
  have hX := Lib.hid (blkN_new w (.cells #[.int .i64 x0, .int .i64 x1, .int .i64 x2, .slice sa C.length sc] 33 (0, 0)))
  have hI0 := Lib.hid (Hst.out 0 w _ h0 hb0)
  have HB := Lib.hid (show hi ≤ p ∧ p ≤ q ∧ q ≤ w.heap.size from ⟨h1, h2, h3⟩)
  clear h0 h1 h2 h3 hhs
  go_enter Tryd.func70, Tryd.ntmps70
  go_wp2_with fail
  generalize w.alloc (.cells #[.int .i64 x0, .int .i64 x1, .int .i64 x2, .slice sa C.length sc] 33 (0, 0)) = w0 at *
  obtain ⟨zb, hzb⟩ : ∃ zb, w.heap.size = zb := ⟨_, rfl⟩
  rw [hzb] at hX HB ⊢
  have Hzb := Lib.hid hzb
  clear hzb
  go_loopw [10] (fun i wr => ∃ k : Nat, k ≤ C.length ∧ i = .int .i64 k ∧ Hid (Inv k wr) ∧ Hid (Mod p q w wr) ∧ Hid (wr.heap[zb]? = some (.cells #[.int .i64 x0, .int .i64 x1, .int .i64 x2, .slice sa C.length sc] 33 (0, 0)))) (fun i _ => C.length - (Go.RowKit.intOf i).toNat)
  case atStart => exact ⟨0, Nat.zero_le _, rfl, hI0, Lib.hid (Mod.of_below hb0), hX⟩
  case round =>
    clear hI0 hX hb0
    obtain ⟨k, hk, rfl, hI, hM, hX⟩ := hrel
    by_cases hlt : k < C.length
    · have hltI : (k : Int) < (C.length : Int) := by omega
      have hk0 : (0 : Int) ≤ (k : Int) := Int.natCast_nonneg _
      have hk2 : (k + 1) % C.length < C.length := Nat.mod_lt _ (by omega)
      have hr : ((k : Int) + 1).tmod (C.length : Int) = (((k + 1) % C.length : Nat) : Int) := (Int.ofNat_tmod (k + 1) C.length).symm
      have hkw : IntKind.i64.wrap ((k : Int) + 1) = (k : Int) + 1 := IntWalk.i64_in _ (by omega)
      have hn0 : ((C.length : Int) == 0) = false := by rw [beq_eq_false_iff_ne]; omega
      have hn1 : ¬ (C.length : Int) = 0 := by omega
      have hnil : ¬ C = [] := fun e => by rw [e] at hlt; exact absurd hlt (by simp)
      have hlen0 : ¬ C.length = 0 := by omega
      have hPj := Hh.out.mod hM.out (by have := HB.out; have := Hzb.out; omega) HB.out.1
      obtain ⟨bb, oo, rfl⟩ := hPj.addr (by omega)
      obtain ⟨d0, d1⟩ := Pnts.at hPj.get hlt
      obtain ⟨g0, g1⟩ := Pnts.at hPj.get hk2
      rw [← cnr_at hlt] at d0 d1
      rw [← cnr_at hk2] at g0 g1
      have hbb : bb < p := by
        obtain ⟨_, _, hv, _, hh⟩ := hPj
        obtain ⟨b', o', e, hb1, hb2, _⟩ := hh (by omega)
        simp only [Value.slice.injEq] at hv
        rw [← hv.1] at e
        cases e
        have := HB.out.1
        omega
      have hdw := World.block_lt_of_cell? wr _ d0
      have hzw := (Array.getElem?_eq_some_iff.1 hX.out).1
      have hSt := fun W (hi' : Inv k W) (hm : Mod p q w W) => Hstep.out k hlt W hi' hm
      obtain ⟨nx, hnx⟩ : ∃ nx, (k + 1) % C.length = nx := ⟨_, rfl⟩
      rw [hnx] at hr hk2 g0 g1 hSt
      have hw2 : IntKind.i64.wrap (nx : Int) = nx := IntWalk.i64_in _ (by omega)
      have hnI : (nx : Int) < (C.length : Int) := by omega
      have hnx0 : (0 : Int) ≤ (nx : Int) := Int.natCast_nonneg _
      generalize cnr C k = pk at *
      generalize cnr C nx = pn at *
      obtain ⟨kx, ky⟩ := pk
      obtain ⟨nxx, ny⟩ := pn
      dsimp only at *
      have hSt := Lib.hid hSt
      have c3 : wr.cell? ⟨zb, 3, none⟩ = some (.slice (some ⟨bb, oo, none⟩) C.length sc) := (Lib.cell_of_heap hX.out 3).trans rfl
      clear hPj hnx
      go_wp2_with fail
      have hb1 : Below wr.heap.size wr (wr.alloc (.cells #[.int .i64 kx, .int .i64 ky] 26 (0, 0))) := (Below.refl _ _).alloc (Nat.le_refl _) _
      have hY := blkN_new wr (.cells #[.int .i64 kx, .int .i64 ky] 26 (0, 0))
      have e0 := (Lib.cell_of_heap hY 0).trans rfl
      have e1 := (Lib.cell_of_heap hY 1).trans rfl
      have c3 := (hb1.cell (p := ⟨zb, 3, none⟩) hzw).trans c3
      have g0 := (hb1.cell (p := ⟨bb, oo + nx * 2, none⟩) hdw).trans g0
      have g1 := (hb1.cell (p := ⟨bb, oo + nx * 2 + 1, none⟩) hdw).trans g1
      have hX := Lib.hid (blkN_below hb1 hX.out)
      have hM := Lib.hid (hM.out.trans (Mod.of_below hb1))
      have hI := Lib.hid (Hst.out k wr _ hI.out hb1)
      have hyw := (Array.getElem?_eq_some_iff.1 hY).1
      have hpw : wr.heap.size < (wr.alloc (.cells #[.int .i64 kx, .int .i64 ky] 26 (0, 0))).heap.size := by simp
      have hzp : zb < wr.heap.size := hzw
      generalize wr.alloc (.cells #[.int .i64 kx, .int .i64 ky] 26 (0, 0)) = wy at *
      obtain ⟨pb, hpb⟩ : ∃ pb, wr.heap.size = pb := ⟨_, rfl⟩
      rw [hpb] at e0 e1 hyw hpw hzp hb1 hY hdw ⊢
      clear hpb
      have hws := hb1.size
      refine region_ph 13 (fun w' => ∀ o, w'.cell? ⟨zb, o, none⟩ = wy.cell? ⟨zb, o, none⟩ ∧ w'.cell? ⟨pb, o, none⟩ = wy.cell? ⟨pb, o, none⟩ ∧ w'.cell? ⟨bb, o, none⟩ = wy.cell? ⟨bb, o, none⟩) (fun _ => True) (by kernel_rfl) (fun _ => ⟨rfl, rfl, rfl⟩) trivial (fun hp => ?_)
      refine take_ph 15 (i := 0) rfl rfl (by decide) (by kernel_rfl) (by kernel_rfl) (by kernel_rfl) (fun _ _ _ h => h) (by rfl) (fun w hSw => by (try dsimp only at hSw); go_simp; first | done | with_reducible rfl) hp (fun hp => ?_)
      try simp only [Act.put, List.setIfInBounds_toArray, List.set_cons_zero, List.set_cons_succ]
      refine take_ph 16 (i := 1) rfl rfl (by decide) (by kernel_rfl) (by kernel_rfl) (by kernel_rfl) (fun _ _ _ h => h) (by rfl) (fun w hSw => by (try dsimp only at hSw); go_simp; first | done | with_reducible rfl) hp (fun hp => ?_)
      try simp only [Act.put, List.setIfInBounds_toArray, List.set_cons_zero, List.set_cons_succ]
      refine take_ph 17 (i := 2) rfl rfl (by decide) (by kernel_rfl) (by kernel_rfl) (by kernel_rfl) (fun _ _ _ h => h) (by rfl) (fun w hSw => by (try dsimp only at hSw); go_simp; first | done | with_reducible rfl) hp (fun hp => ?_)
      try simp only [Act.put, List.setIfInBounds_toArray, List.set_cons_zero, List.set_cons_succ]
      refine take_ph 18 (i := 3) rfl rfl (by decide) (by kernel_rfl) (by kernel_rfl) (by kernel_rfl) (fun _ _ _ h => h) (by rfl) (fun w hSw => by (try dsimp only at hSw); go_simp; first | done | with_reducible rfl) hp (fun hp => ?_)
      try simp only [Act.put, List.setIfInBounds_toArray, List.set_cons_zero, List.set_cons_succ]
      refine take_ph 19 (i := 4) rfl rfl (by decide) (by kernel_rfl) (by kernel_rfl) (by kernel_rfl) (fun _ _ _ h => h) (by rfl) (fun w hSw => by (try dsimp only at hSw); go_simp; first | done | with_reducible rfl) hp (fun hp => ?_)
      try simp only [Act.put, List.setIfInBounds_toArray, List.set_cons_zero, List.set_cons_succ]
      refine take_ph 20 (i := 5) rfl rfl (by decide) (by kernel_rfl) (by kernel_rfl) (by kernel_rfl) (fun _ _ _ h => h) (by rfl) (fun w hSw => by (try dsimp only at hSw); go_simp; first | done | with_reducible rfl) hp (fun hp => ?_)
      try simp only [Act.put, List.setIfInBounds_toArray, List.set_cons_zero, List.set_cons_succ]
      refine take_ph 21 (i := 6) rfl rfl (by decide) (by kernel_rfl) (by kernel_rfl) (by kernel_rfl) (fun _ _ _ h => h) (by rfl) (fun w hSw => by (try dsimp only at hSw); go_simp; first | done | with_reducible rfl) hp (fun hp => ?_)
      try simp only [Act.put, List.setIfInBounds_toArray, List.set_cons_zero, List.set_cons_succ]
      refine take_ph 22 (i := 7) rfl rfl (by decide) (by kernel_rfl) (by kernel_rfl) (by kernel_rfl) (fun _ _ _ h => h) (by rfl) (fun w hSw => by (try dsimp only at hSw); go_simp; first | done | with_reducible rfl) hp (fun hp => ?_)
      try simp only [Act.put, List.setIfInBounds_toArray, List.set_cons_zero, List.set_cons_succ]
      refine take_ph 23 (i := 8) rfl rfl (by decide) (by kernel_rfl) (by kernel_rfl) (by kernel_rfl) (fun _ _ _ h => h) (by rfl) (fun w hSw => by (try dsimp only at hSw); go_simp; first | done | with_reducible rfl) hp (fun hp => ?_)
      try simp only [Act.put, List.setIfInBounds_toArray, List.set_cons_zero, List.set_cons_succ]
      refine take_ph 24 (i := 9) rfl rfl (by decide) (by kernel_rfl) (by kernel_rfl) (by kernel_rfl) (fun _ _ _ h => h) (by rfl) (fun w hSw => by (try dsimp only at hSw); go_simp; first | done | with_reducible rfl) hp (fun hp => ?_)
      try simp only [Act.put, List.setIfInBounds_toArray, List.set_cons_zero, List.set_cons_succ]
      refine take_ph 25 (i := 10) rfl rfl (by decide) (by kernel_rfl) (by kernel_rfl) (by kernel_rfl) (fun _ _ _ h => h) (by rfl) (fun w hSw => by (try dsimp only at hSw); go_simp; first | done | with_reducible rfl) hp (fun hp => ?_)
      try simp only [Act.put, List.setIfInBounds_toArray, List.set_cons_zero, List.set_cons_succ]
      refine take_ph 26 (i := 11) rfl rfl (by decide) (by kernel_rfl) (by kernel_rfl) (by kernel_rfl) (fun _ _ _ h => h) (by rfl) (fun w hSw => by (try dsimp only at hSw); go_simp; first | done | with_reducible rfl) hp (fun hp => ?_)
      try simp only [Act.put, List.setIfInBounds_toArray, List.set_cons_zero, List.set_cons_succ]
      refine take_ph 27 (i := 12) rfl rfl (by decide) (by kernel_rfl) (by kernel_rfl) (by kernel_rfl) (fun _ _ _ h => h) (by rfl) (fun w hSw => by (try dsimp only at hSw); go_simp; first | done | with_reducible rfl) hp (fun hp => ?_)
      try simp only [Act.put, List.setIfInBounds_toArray, List.set_cons_zero, List.set_cons_succ]
      refine AnyL.one (i := 13) (by kernel_rfl) rfl (fun K hK => ?_)
      go_simp
      refine (hSt.out wy.drew (Hst.out k wy _ hI.out (Below.refl _ _).drew) (hM.out.trans (Mod.of_below (Below.refl _ _).drew))).mono ?_
      rintro e w5 ⟨b, rfl, hm5, hcase⟩
      have q1 : w5.heap[zb]? = wy.heap[zb]? := hm5.block zb (show zb < wy.heap.size by omega) (.inr HB.out.2.2)
      have q2 : w5.heap[pb]? = wy.heap[pb]? := hm5.block pb (show pb < wy.heap.size by omega) (.inr (by have := HB.out.2.2; omega))
      have q3 : w5.heap[bb]? = wy.heap[bb]? := hm5.block bb (show bb < wy.heap.size by omega) (.inl hbb)
      refine hK.out _ _ (ph2 rfl (fun o => ⟨World.cell?_of_block (a := ⟨zb, o, none⟩) q1, World.cell?_of_block (a := ⟨pb, o, none⟩) q2, World.cell?_of_block (a := ⟨bb, o, none⟩) q3⟩)) (fun hp => ?_)
      clear hK
      try simp only [Act.put, List.setIfInBounds_toArray, List.set_cons_zero, List.set_cons_succ]
      refine take_ph 29 (i := 14) rfl rfl (by decide) (by kernel_rfl) (by kernel_rfl) (by kernel_rfl) (fun _ _ _ h => h) (by rfl) (fun w hSw => by (try dsimp only at hSw); go_simp; first | done | with_reducible rfl) hp (fun hp => ?_)
      try simp only [Act.put, List.setIfInBounds_toArray, List.set_cons_zero, List.set_cons_succ]
      refine AnyL.done (by kernel_rfl) ?_ _
      simp only [Exit.then]
      clear hp
      have hM5 := Lib.hid (hM.out.trans (Mod.trans (Mod.of_below (lo := p) (hi := q) (Below.refl wy.heap.size wy).drew) hm5))
      have hX5 := Lib.hid (q1.trans hX.out)
      clear q1 q2 q3 hm5 e0 e1 c3 g0 g1 d0 d1
      rcases hcase with ⟨rfl, hi5⟩ | ⟨rfl, hbad⟩
      · have hI5 := Lib.hid hi5
        clear hi5
        go_wp2_with fail
        go_roundw
        case rel => exact ⟨k + 1, by omega, by go_num, hI5, hM5, hX5⟩
        case measure => simp [Go.RowKit.intOf]; omega
      · go_wp2_with fail
        go_ret
        exact ⟨false, rfl, hM5.out, .inr ⟨rfl, hbad⟩⟩
    · have hke : C.length = k := by omega
      have hIn : Hid (Inv C.length wr) := Lib.hid (hke.symm ▸ hI.out)
      clear hke
      go_wp2_with fail
      go_ret
      exact ⟨true, rfl, hM.out, .inl ⟨rfl, hIn.out⟩⟩
set_option maxRecDepth 100000 in
set_option maxHeartbeats 8000000 in
theorem impl_SidesM (f : ZoneF) (s : SV) (C : List Pnt) (lo hi p q : Nat) (q1 q2 q3 q4 : Nat) (Inv : Nat → World → Prop) (Bad : Prop) (w : World) (hh : Pnts lo hi w s.v C) (hl : C.length ≤ 1024) (h1 : hi ≤ p) (h2 : p ≤ q) (h3 : q ≤ w.heap.size)
    (hst : ∀ k W W', Inv k W → Below W.heap.size W W' → Inv k W') (h0 : Inv 0 w)
    (hstep : ∀ k (_ : k < C.length) W, Inv k W → Mod p q w W → Calls Tryd.prog 71 #[.int .i64 k, .agg #[.int .i64 (cnr C k).x, .int .i64 (cnr C k).y], .agg #[.int .i64 (cnr C ((k + 1) % C.length)).x, .int .i64 (cnr C ((k + 1) % C.length)).y], .pointer (some ⟨q1, 0, none⟩), .pointer (some ⟨q2, 0, none⟩), .pointer (some ⟨q3, 0, none⟩), .pointer (some ⟨q4, 0, none⟩)] W (StepOut p q k Inv Bad W)) :
    Calls Tryd.prog 70 #[.agg (ZoneR.cells ⟨f, s⟩).toArray, .func (.func 71) #[] #[.pointer (some ⟨q1, 0, none⟩), .pointer (some ⟨q2, 0, none⟩), .pointer (some ⟨q3, 0, none⟩), .pointer (some ⟨q4, 0, none⟩)]] w (SidesOut p q C.length Inv Bad w) := by
  have hhs : hi ≤ w.heap.size := by omega
  have Hh := Lib.hid hh
  have Hst := Lib.hid hst
  have Hstep := Lib.hid hstep
  obtain ⟨a, cap, hv, hcp, -⟩ := hh
  obtain ⟨sa, sl, sc⟩ := s
  simp only [SV.v, ZoneR.cells] at *
  obtain rfl : C.length = sl := by cases hv; rfl
  obtain ⟨x0, x1, x2⟩ := f
  dsimp only at *
  clear hv hst hstep
  have hb0 : Below w.heap.size w (w.alloc (.cells #[.int .i64 x0, .int .i64 x1, .int .i64 x2, .slice sa C.length sc] 33 (0, 0))) := (Below.refl _ _).alloc (Nat.le_refl _) _
  have hX := Lib.hid (blkN_new w (.cells #[.int .i64 x0, .int .i64 x1, .int .i64 x2, .slice sa C.length sc] 33 (0, 0)))
  have hI0 := Lib.hid (Hst.out 0 w _ h0 hb0)
  have HB := Lib.hid (show hi ≤ p ∧ p ≤ q ∧ q ≤ w.heap.size from ⟨h1, h2, h3⟩)
  clear h0 h1 h2 h3 hhs
  go_enter Tryd.func70, Tryd.ntmps70
  go_wp2_with fail
  generalize w.alloc (.cells #[.int .i64 x0, .int .i64 x1, .int .i64 x2, .slice sa C.length sc] 33 (0, 0)) = w0 at *
  obtain ⟨zb, hzb⟩ : ∃ zb, w.heap.size = zb := ⟨_, rfl⟩
  rw [hzb] at hX HB ⊢
  have Hzb := Lib.hid hzb
  clear hzb
  go_loopw [10] (fun i wr => ∃ k : Nat, k ≤ C.length ∧ i = .int .i64 k ∧ Hid (Inv k wr) ∧ Hid (Mod p q w wr) ∧ Hid (wr.heap[zb]? = some (.cells #[.int .i64 x0, .int .i64 x1, .int .i64 x2, .slice sa C.length sc] 33 (0, 0)))) (fun i _ => C.length - (Go.RowKit.intOf i).toNat)
  case atStart => exact ⟨0, Nat.zero_le _, rfl, hI0, Lib.hid (Mod.of_below hb0), hX⟩
  case round =>
    clear hI0 hX hb0
    obtain ⟨k, hk, rfl, hI, hM, hX⟩ := hrel
    by_cases hlt : k < C.length
    · have hltI : (k : Int) < (C.length : Int) := by omega
      have hk0 : (0 : Int) ≤ (k : Int) := Int.natCast_nonneg _
      have hk2 : (k + 1) % C.length < C.length := Nat.mod_lt _ (by omega)
      have hr : ((k : Int) + 1).tmod (C.length : Int) = (((k + 1) % C.length : Nat) : Int) := (Int.ofNat_tmod (k + 1) C.length).symm
      have hkw : IntKind.i64.wrap ((k : Int) + 1) = (k : Int) + 1 := IntWalk.i64_in _ (by omega)
      have hn0 : ((C.length : Int) == 0) = false := by rw [beq_eq_false_iff_ne]; omega
      have hn1 : ¬ (C.length : Int) = 0 := by omega
      have hnil : ¬ C = [] := fun e => by rw [e] at hlt; exact absurd hlt (by simp)
      have hlen0 : ¬ C.length = 0 := by omega
      have hPj := Hh.out.mod hM.out (by have := HB.out; have := Hzb.out; omega) HB.out.1
      obtain ⟨bb, oo, rfl⟩ := hPj.addr (by omega)
      obtain ⟨d0, d1⟩ := Pnts.at hPj.get hlt
      obtain ⟨g0, g1⟩ := Pnts.at hPj.get hk2
      rw [← cnr_at hlt] at d0 d1
      rw [← cnr_at hk2] at g0 g1
      have hbb : bb < p := by
        obtain ⟨_, _, hv, _, hh⟩ := hPj
        obtain ⟨b', o', e, hb1, hb2, _⟩ := hh (by omega)
        simp only [Value.slice.injEq] at hv
        rw [← hv.1] at e
        cases e
        have := HB.out.1
        omega
      have hdw := World.block_lt_of_cell? wr _ d0
      have hzw := (Array.getElem?_eq_some_iff.1 hX.out).1
      have hSt := fun W (hi' : Inv k W) (hm : Mod p q w W) => Hstep.out k hlt W hi' hm
      obtain ⟨nx, hnx⟩ : ∃ nx, (k + 1) % C.length = nx := ⟨_, rfl⟩
      rw [hnx] at hr hk2 g0 g1 hSt
      have hw2 : IntKind.i64.wrap (nx : Int) = nx := IntWalk.i64_in _ (by omega)
      have hnI : (nx : Int) < (C.length : Int) := by omega
      have hnx0 : (0 : Int) ≤ (nx : Int) := Int.natCast_nonneg _
      generalize cnr C k = pk at *
      generalize cnr C nx = pn at *
      obtain ⟨kx, ky⟩ := pk
      obtain ⟨nxx, ny⟩ := pn
      dsimp only at *
      have hSt := Lib.hid hSt
      have c3 : wr.cell? ⟨zb, 3, none⟩ = some (.slice (some ⟨bb, oo, none⟩) C.length sc) := (Lib.cell_of_heap hX.out 3).trans rfl
      clear hPj hnx
      go_wp2_with fail
      have hb1 : Below wr.heap.size wr (wr.alloc (.cells #[.int .i64 kx, .int .i64 ky] 26 (0, 0))) := (Below.refl _ _).alloc (Nat.le_refl _) _
      have hY := blkN_new wr (.cells #[.int .i64 kx, .int .i64 ky] 26 (0, 0))
      have e0 := (Lib.cell_of_heap hY 0).trans rfl
      have e1 := (Lib.cell_of_heap hY 1).trans rfl
      have c3 := (hb1.cell (p := ⟨zb, 3, none⟩) hzw).trans c3
      have g0 := (hb1.cell (p := ⟨bb, oo + nx * 2, none⟩) hdw).trans g0
      have g1 := (hb1.cell (p := ⟨bb, oo + nx * 2 + 1, none⟩) hdw).trans g1
      have hX := Lib.hid (blkN_below hb1 hX.out)
      have hM := Lib.hid (hM.out.trans (Mod.of_below hb1))
      have hI := Lib.hid (Hst.out k wr _ hI.out hb1)
      have hyw := (Array.getElem?_eq_some_iff.1 hY).1
      have hpw : wr.heap.size < (wr.alloc (.cells #[.int .i64 kx, .int .i64 ky] 26 (0, 0))).heap.size := by simp
      have hzp : zb < wr.heap.size := hzw
      generalize wr.alloc (.cells #[.int .i64 kx, .int .i64 ky] 26 (0, 0)) = wy at *
      obtain ⟨pb, hpb⟩ : ∃ pb, wr.heap.size = pb := ⟨_, rfl⟩
      rw [hpb] at e0 e1 hyw hpw hzp hb1 hY hdw ⊢
      clear hpb
      have hws := hb1.size
      refine region_ph 13 (fun w' => ∀ o, w'.cell? ⟨zb, o, none⟩ = wy.cell? ⟨zb, o, none⟩ ∧ w'.cell? ⟨pb, o, none⟩ = wy.cell? ⟨pb, o, none⟩ ∧ w'.cell? ⟨bb, o, none⟩ = wy.cell? ⟨bb, o, none⟩) (fun _ => True) (by kernel_rfl) (fun _ => ⟨rfl, rfl, rfl⟩) trivial (fun hp => ?_)
      refine take_ph 15 (i := 0) rfl rfl (by decide) (by kernel_rfl) (by kernel_rfl) (by kernel_rfl) (fun _ _ _ h => h) (by rfl) (fun w hSw => by (try dsimp only at hSw); go_simp; first | done | with_reducible rfl) hp (fun hp => ?_)
      try simp only [Act.put, List.setIfInBounds_toArray, List.set_cons_zero, List.set_cons_succ]
      refine take_ph 16 (i := 1) rfl rfl (by decide) (by kernel_rfl) (by kernel_rfl) (by kernel_rfl) (fun _ _ _ h => h) (by rfl) (fun w hSw => by (try dsimp only at hSw); go_simp; first | done | with_reducible rfl) hp (fun hp => ?_)
      try simp only [Act.put, List.setIfInBounds_toArray, List.set_cons_zero, List.set_cons_succ]
      refine take_ph 17 (i := 2) rfl rfl (by decide) (by kernel_rfl) (by kernel_rfl) (by kernel_rfl) (fun _ _ _ h => h) (by rfl) (fun w hSw => by (try dsimp only at hSw); go_simp; first | done | with_reducible rfl) hp (fun hp => ?_)
      try simp only [Act.put, List.setIfInBounds_toArray, List.set_cons_zero, List.set_cons_succ]
      refine take_ph 18 (i := 3) rfl rfl (by decide) (by kernel_rfl) (by kernel_rfl) (by kernel_rfl) (fun _ _ _ h => h) (by rfl) (fun w hSw => by (try dsimp only at hSw); go_simp; first | done | with_reducible rfl) hp (fun hp => ?_)
      try simp only [Act.put, List.setIfInBounds_toArray, List.set_cons_zero, List.set_cons_succ]
      refine take_ph 19 (i := 4) rfl rfl (by decide) (by kernel_rfl) (by kernel_rfl) (by kernel_rfl) (fun _ _ _ h => h) (by rfl) (fun w hSw => by (try dsimp only at hSw); go_simp; first | done | with_reducible rfl) hp (fun hp => ?_)
      try simp only [Act.put, List.setIfInBounds_toArray, List.set_cons_zero, List.set_cons_succ]
      refine take_ph 20 (i := 5) rfl rfl (by decide) (by kernel_rfl) (by kernel_rfl) (by kernel_rfl) (fun _ _ _ h => h) (by rfl) (fun w hSw => by (try dsimp only at hSw); go_simp; first | done | with_reducible rfl) hp (fun hp => ?_)
      try simp only [Act.put, List.setIfInBounds_toArray, List.set_cons_zero, List.set_cons_succ]
      refine take_ph 21 (i := 6) rfl rfl (by decide) (by kernel_rfl) (by kernel_rfl) (by kernel_rfl) (fun _ _ _ h => h) (by rfl) (fun w hSw => by (try dsimp only at hSw); go_simp; first | done | with_reducible rfl) hp (fun hp => ?_)
      try simp only [Act.put, List.setIfInBounds_toArray, List.set_cons_zero, List.set_cons_succ]
      refine take_ph 22 (i := 7) rfl rfl (by decide) (by kernel_rfl) (by kernel_rfl) (by kernel_rfl) (fun _ _ _ h => h) (by rfl) (fun w hSw => by (try dsimp only at hSw); go_simp; first | done | with_reducible rfl) hp (fun hp => ?_)
      try simp only [Act.put, List.setIfInBounds_toArray, List.set_cons_zero, List.set_cons_succ]
      refine take_ph 23 (i := 8) rfl rfl (by decide) (by kernel_rfl) (by kernel_rfl) (by kernel_rfl) (fun _ _ _ h => h) (by rfl) (fun w hSw => by (try dsimp only at hSw); go_simp; first | done | with_reducible rfl) hp (fun hp => ?_)
      try simp only [Act.put, List.setIfInBounds_toArray, List.set_cons_zero, List.set_cons_succ]
      refine take_ph 24 (i := 9) rfl rfl (by decide) (by kernel_rfl) (by kernel_rfl) (by kernel_rfl) (fun _ _ _ h => h) (by rfl) (fun w hSw => by (try dsimp only at hSw); go_simp; first | done | with_reducible rfl) hp (fun hp => ?_)
      try simp only [Act.put, List.setIfInBounds_toArray, List.set_cons_zero, List.set_cons_succ]
      refine take_ph 25 (i := 10) rfl rfl (by decide) (by kernel_rfl) (by kernel_rfl) (by kernel_rfl) (fun _ _ _ h => h) (by rfl) (fun w hSw => by (try dsimp only at hSw); go_simp; first | done | with_reducible rfl) hp (fun hp => ?_)
      try simp only [Act.put, List.setIfInBounds_toArray, List.set_cons_zero, List.set_cons_succ]
      refine take_ph 26 (i := 11) rfl rfl (by decide) (by kernel_rfl) (by kernel_rfl) (by kernel_rfl) (fun _ _ _ h => h) (by rfl) (fun w hSw => by (try dsimp only at hSw); go_simp; first | done | with_reducible rfl) hp (fun hp => ?_)
      try simp only [Act.put, List.setIfInBounds_toArray, List.set_cons_zero, List.set_cons_succ]
      refine take_ph 27 (i := 12) rfl rfl (by decide) (by kernel_rfl) (by kernel_rfl) (by kernel_rfl) (fun _ _ _ h => h) (by rfl) (fun w hSw => by (try dsimp only at hSw); go_simp; first | done | with_reducible rfl) hp (fun hp => ?_)
      try simp only [Act.put, List.setIfInBounds_toArray, List.set_cons_zero, List.set_cons_succ]
      refine AnyL.one (i := 13) (by kernel_rfl) rfl (fun K hK => ?_)
      go_simp
      refine (hSt.out wy.drew (Hst.out k wy _ hI.out (Below.refl _ _).drew) (hM.out.trans (Mod.of_below (Below.refl _ _).drew))).mono ?_
      rintro e w5 ⟨b, rfl, hm5, hcase⟩
      have q1 : w5.heap[zb]? = wy.heap[zb]? := hm5.block zb (show zb < wy.heap.size by omega) (.inr HB.out.2.2)
      have q2 : w5.heap[pb]? = wy.heap[pb]? := hm5.block pb (show pb < wy.heap.size by omega) (.inr (by have := HB.out.2.2; omega))
      have q3 : w5.heap[bb]? = wy.heap[bb]? := hm5.block bb (show bb < wy.heap.size by omega) (.inl hbb)
      refine hK.out _ _ (ph2 rfl (fun o => ⟨World.cell?_of_block (a := ⟨zb, o, none⟩) q1, World.cell?_of_block (a := ⟨pb, o, none⟩) q2, World.cell?_of_block (a := ⟨bb, o, none⟩) q3⟩)) (fun hp => ?_)
      clear hK
      try simp only [Act.put, List.setIfInBounds_toArray, List.set_cons_zero, List.set_cons_succ]
      refine take_ph 29 (i := 14) rfl rfl (by decide) (by kernel_rfl) (by kernel_rfl) (by kernel_rfl) (fun _ _ _ h => h) (by rfl) (fun w hSw => by (try dsimp only at hSw); go_simp; first | done | with_reducible rfl) hp (fun hp => ?_)
      try simp only [Act.put, List.setIfInBounds_toArray, List.set_cons_zero, List.set_cons_succ]
      refine AnyL.done (by kernel_rfl) ?_ _
      simp only [Exit.then]
      clear hp
      have hM5 := Lib.hid (hM.out.trans (Mod.trans (Mod.of_below (lo := p) (hi := q) (Below.refl wy.heap.size wy).drew) hm5))
      have hX5 := Lib.hid (q1.trans hX.out)
      clear q1 q2 q3 hm5 e0 e1 c3 g0 g1 d0 d1
      rcases hcase with ⟨rfl, hi5⟩ | ⟨rfl, hbad⟩
      · have hI5 := Lib.hid hi5
        clear hi5
        go_wp2_with fail
        go_roundw
        case rel => exact ⟨k + 1, by omega, by go_num, hI5, hM5, hX5⟩
        case measure => simp [Go.RowKit.intOf]; omega
      · go_wp2_with fail
        go_ret
        exact ⟨false, rfl, hM5.out, .inr ⟨rfl, hbad⟩⟩
    · have hke : C.length = k := by omega
      have hIn : Hid (Inv C.length wr) := Lib.hid (hke.symm ▸ hI.out)
      clear hke
      go_wp2_with fail
      go_ret
      exact ⟨true, rfl, hM.out, .inl ⟨rfl, hIn.out⟩⟩
end Go.Proofs.YtpabbehpkokhbaaDoor
