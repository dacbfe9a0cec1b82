/- The reference's explorer: its run. -/
import Derived.Test.YteakogdojmgehaaExR
namespace Go.Proofs.Yteakogdojmgehaa
open Go.RowKit
theorem four_at {V : World} {p : Nat} {o1 o2 o3 o4 a1 a2 a3 a4 : Value} {T : TypeId} {fz : Nat × Nat} (h : V.heap[p]? = some (.cells #[o1, o2, o3, o4] T fz)) :
    ((((V.setCell ⟨p, 0, none⟩ a1).setCell ⟨p, 1, none⟩ a2).setCell ⟨p, 2, none⟩ a3).setCell ⟨p, 3, none⟩ a4).heap[p]? = some (.cells #[a1, a2, a3, a4] T fz) := by
  simp [World.setCell, Array.getElem?_modify, h]
theorem four_other {V : World} {p k : Nat} {a1 a2 a3 a4 : Value} (hk : k ≠ p) : ((((V.setCell ⟨p, 0, none⟩ a1).setCell ⟨p, 1, none⟩ a2).setCell ⟨p, 2, none⟩ a3).setCell ⟨p, 3, none⟩ a4).heap[k]? = V.heap[k]? := by
  have h : ∀ (W : World) (o : Nat) (u : Value), (W.setCell ⟨p, o, none⟩ u).heap[k]? = W.heap[k]? := fun W o u => Below.heap_setCell _ _ _ _ hk
  simp only [h]
theorem four_below {B : Nat} {V : World} {p : Nat} {a1 a2 a3 a4 : Value} (hB : B ≤ p) : Below B V ((((V.setCell ⟨p, 0, none⟩ a1).setCell ⟨p, 1, none⟩ a2).setCell ⟨p, 2, none⟩ a3).setCell ⟨p, 3, none⟩ a4) :=
  ((((Below.refl B V).setCell hB _).setCell hB _).setCell hB _).setCell hB _
theorem four_cell {V : World} {p k o : Nat} {a1 a2 a3 a4 : Value} (hk : k ≠ p) : ((((V.setCell ⟨p, 0, none⟩ a1).setCell ⟨p, 1, none⟩ a2).setCell ⟨p, 2, none⟩ a3).setCell ⟨p, 3, none⟩ a4).cell? ⟨k, o, none⟩ = V.cell? ⟨k, o, none⟩ := World.cell?_of_block (four_other hk)
theorem vis_len {T : Tab} {v : Wtc} {x : Wld} (h : x.ok v) (n : Nat) : (bfs T v x n).length ≤ 20736 := (bfs_ok h n).len
set_option maxRecDepth 100000 in
set_option maxHeartbeats 16000000 in
theorem spec_run (sb p : Nat) (ta : Option Addr) (tn tc : Nat) (rows : List SV) (T : Tab) (lo hi : Nat) (v : Wtc) (x : Wld) (once : Bool) (w : World) (h : TabR lo hi w (.slice ta tn tc) rows T) (hhi : hi ≤ sb) (hT : TabOk T) (hx : x.ok v) (hst : XSt sb p (.slice ta tn tc) v (bfs T v x 0) w (fun _ => False)) :
    Calls Try.prog 76 #[.pointer (some ⟨p, 0, none⟩), .bool once] w fun e w' => ∃ (fd : Int) (z : Act1) (l : List Vis), e = .returned (.tuple #[.int .i64 fd, .agg z.cells.toArray]) ∧ RunEnd T v x once fd z l ∧ XSt sb p (.slice ta tn tc) v l w' (fun _ => False) ∧ Below sb w w' := by
  have hv := Lib.hid hx.1
  have Hx := Lib.hid hx
  have HT := Lib.hid hT
  have H := Lib.hid h
  have Hst := Lib.hid hst
  obtain ⟨hsp, hpl⟩ := hst.lt
  clear h hx hT hst
  go_enter Try.func76, Try.ntmps76
  go_wp2_with fail
  have a0 := blk_below' ((Below.refl _ _).alloc (Nat.le_refl _) (.cells #[.int .i64 (zeroA).turnA, .int .i64 (zeroA).turnB, .bool (zeroA).loseA, .bool (zeroA).loseB] 69 (0, 0))) (blk_new w (.cells #[.int .i64 (zeroA).turnA, .int .i64 (zeroA).turnB, .bool (zeroA).loseA, .bool (zeroA).loseB] 69 (0, 0)))
  have a1 := blk_new (w.alloc (.cells #[.int .i64 (zeroA).turnA, .int .i64 (zeroA).turnB, .bool (zeroA).loseA, .bool (zeroA).loseB] 69 (0, 0))) (.cells #[.int .i64 (zeroA).turnA, .int .i64 (zeroA).turnB, .bool (zeroA).loseA, .bool (zeroA).loseB] 69 (0, 0))
  rw [World.size_alloc] at a1
  have BW : Below w.heap.size w ((w.alloc (.cells #[.int .i64 (zeroA).turnA, .int .i64 (zeroA).turnB, .bool (zeroA).loseA, .bool (zeroA).loseB] 69 (0, 0))).alloc (.cells #[.int .i64 (zeroA).turnA, .int .i64 (zeroA).turnB, .bool (zeroA).loseA, .bool (zeroA).loseB] 69 (0, 0))) := ((Below.refl _ _).alloc (Nat.le_refl _) _).alloc (by simp) _
  have a0 := Lib.hid a0
  have a1 := Lib.hid a1
  have S0 : XSt sb p (.slice ta tn tc) v (bfs T v x 0) ((w.alloc (.cells #[.int .i64 (zeroA).turnA, .int .i64 (zeroA).turnB, .bool (zeroA).loseA, .bool (zeroA).loseB] 69 (0, 0))).alloc (.cells #[.int .i64 (zeroA).turnA, .int .i64 (zeroA).turnB, .bool (zeroA).loseA, .bool (zeroA).loseB] 69 (0, 0))) (fun k => k = w.heap.size ∨ k = w.heap.size + 1) :=
    Hst.out.move BW.size (fun k hk _ => BW.block k hk) (fun k hk => .inr (by simp; omega))
  have S0 := Lib.hid S0
  go_loopw [6, 8] (fun fo io wr => ∃ (i : Nat) (fd : Int) (z : Act1), io = .int .i64 i ∧ fo = .int .i64 fd ∧ i ≤ (bfs T v x i).length ∧ Hid (FoundOk once fd (badN T v x i)) ∧ Hid (XSt sb p (.slice ta tn tc) v (bfs T v x i) wr (fun k => k = w.heap.size ∨ k = w.heap.size + 1)) ∧ Below sb w wr ∧ Hid (wr.heap[w.heap.size]? = some (.cells #[.int .i64 (zeroA).turnA, .int .i64 (zeroA).turnB, .bool (zeroA).loseA, .bool (zeroA).loseB] 69 (0, 0))) ∧ Hid (wr.heap[w.heap.size + 1]? = some (.cells #[.int .i64 (z).turnA, .int .i64 (z).turnB, .bool (z).loseA, .bool (z).loseB] 69 (0, 0)))) (fun _ io _ => 20737 - (intOf io).toNat)
  case atStart => exact ⟨0, -1, zeroA, rfl, rfl, Nat.zero_le _, Lib.hid (.inl ⟨rfl, rfl⟩), S0, BW.mono (by omega), a0, a1⟩
  case round =>
    clear a0 a1 S0 BW Hst
    obtain ⟨wo, hwo⟩ : ∃ wo, wo = wr := ⟨wr, rfl⟩
    subst hwo
    obtain ⟨i, fd, z, rfl, rfl, hle, hfo, hst, hB, a0, a1⟩ := hrel
    have hl20 := vis_len (T := T) Hx.out i
    have hsz := hB.size
    by_cases hlt : i < (bfs T v x i).length
    · have Hgo := Lib.hid (bfs_go hlt)
      have Hbad := Lib.hid (badN_go hlt)
      have hok := (bfs_ok (T := T) Hx.out i).ok i hlt
      have Hpre := Lib.hid (fun (ys : List Act1) => foldV_pre (bfs T v x i)[i].w i ys (bfs T v x i))
      have Hvo := Lib.hid (bfs_ok (T := T) Hx.out i)
      have hwi : (worldsV (bfs T v x i))[i]'(by rw [worldsV_len]; exact hlt) = (bfs T v x i)[i].w := by simp [worldsV]
      have Hend := Lib.hid (fun (j : Nat) (hj : j < (actsW T v (bfs T v x i)[i].w).length) (h0 : badN T v x i = false) (h1 : ((actsW T v (bfs T v x i)[i].w).take j).any (unsafeB T (bfs T v x i)[i].w) = false) (h2 : unsafeB T (bfs T v x i)[i].w (actsW T v (bfs T v x i)[i].w)[j] = true) (l : List Vis) (hl : bfs T v x i <+: l) => show RunEnd T v x true (i : Int) (actsW T v (bfs T v x i)[i].w)[j] l from .inr ⟨rfl, i, j, hlt, rfl, h0, hj, h1, h2, rfl, hl⟩)
      obtain ⟨wa, wc, fv, bv, sd, hbox, hsl⟩ := hst.out.rd
      obtain ⟨wb, wof, rfl⟩ := hsl.addr (by rw [worldsV_len]; omega)
      obtain ⟨p0, p1, p2, p3, p4, p5⟩ := Wlds.at hsl.get (k := i) (by rw [worldsV_len]; exact hlt)
      rw [hwi] at p0 p1 p2 p3 p4 p5
      have hwb := World.block_lt_of_cell? wo _ p0
      have b3 : wo.cell? ⟨p, 3, none⟩ = some _ := (Lib.cell_of_heap hbox 3).trans rfl
      have b0 : wo.cell? ⟨p, 0, none⟩ = some _ := (Lib.cell_of_heap hbox 0).trans rfl
      have b1 : wo.cell? ⟨p, 1, none⟩ = some _ := (Lib.cell_of_heap hbox 1).trans rfl
      have b2 : wo.cell? ⟨p, 2, none⟩ = some _ := (Lib.cell_of_heap hbox 2).trans rfl
      have hpr : p < wo.heap.size := Nat.lt_of_lt_of_le hpl hsz
      have hTr := Lib.hid (H.out.below hB hhi)
      clear hbox hsl hwi
      generalize hy : (bfs T v x i)[i].w = y at *
      have Hy := Lib.hid hy
      clear hy
      generalize hL : bfs T v x i = L at *
      have HL := Lib.hid hL
      clear hL
      have hacts := (fun w' (hb : Below wo.heap.size wo w') => spec_Acts _ rows T lo hi v y w' (hTr.out.ext hb) HT.out hv.out hok.in_)
      have hyc : y.cells.toArray = #[.int .i64 y.a, .int .i64 y.b, .int .i64 y.seenA, .int .i64 y.seenB, .int .i64 y.ageA, .int .i64 y.ageB] := rfl
      rw [hyc] at hacts
      simp only [Wtc.cells] at hacts
      have hacts := Lib.hid hacts
      clear hyc
      go_wp2_with fail
      have e9 := blk_new wo (.cells #[.int .i64 (y).a, .int .i64 (y).b, .int .i64 (y).seenA, .int .i64 (y).seenB, .int .i64 (y).ageA, .int .i64 (y).ageB] 55 (0, 0))
      have BA : Below wo.heap.size wo (wo.alloc (.cells #[.int .i64 (y).a, .int .i64 (y).b, .int .i64 (y).seenA, .int .i64 (y).seenB, .int .i64 (y).ageA, .int .i64 (y).ageB] 55 (0, 0))) := (Below.refl _ _).alloc (Nat.le_refl _) _
      have S1 : XSt sb p (.slice ta tn tc) v L (wo.alloc (.cells #[.int .i64 (y).a, .int .i64 (y).b, .int .i64 (y).seenA, .int .i64 (y).seenB, .int .i64 (y).ageA, .int .i64 (y).ageB] 55 (0, 0))) (fun k => (k = w.heap.size ∨ k = w.heap.size + 1) ∨ k = wo.heap.size) :=
        hst.out.move BA.size (fun k hk _ => BA.block k hk) (fun k hk => hk.imp id (fun h => ⟨by omega, by simp; omega⟩))
      have hq5 : w.heap.size < wo.heap.size := (Array.getElem?_eq_some_iff.1 a0.out).1
      have hq7 : w.heap.size + 1 < wo.heap.size := (Array.getElem?_eq_some_iff.1 a1.out).1
      generalize hW1 : wo.alloc (.cells #[.int .i64 (y).a, .int .i64 (y).b, .int .i64 (y).seenA, .int .i64 (y).seenB, .int .i64 (y).ageA, .int .i64 (y).ageB] 55 (0, 0)) = W1 at *
      clear hW1
      have c0 : W1.cell? ⟨wo.heap.size, 0, none⟩ = some _ := (Lib.cell_of_heap e9 0).trans rfl
      have c1 : W1.cell? ⟨wo.heap.size, 1, none⟩ = some _ := (Lib.cell_of_heap e9 1).trans rfl
      have c2 : W1.cell? ⟨wo.heap.size, 2, none⟩ = some _ := (Lib.cell_of_heap e9 2).trans rfl
      have c3 : W1.cell? ⟨wo.heap.size, 3, none⟩ = some _ := (Lib.cell_of_heap e9 3).trans rfl
      have c4 : W1.cell? ⟨wo.heap.size, 4, none⟩ = some _ := (Lib.cell_of_heap e9 4).trans rfl
      have c5 : W1.cell? ⟨wo.heap.size, 5, none⟩ = some _ := (Lib.cell_of_heap e9 5).trans rfl
      have f0 : W1.cell? ⟨p, 0, none⟩ = some _ := (BA.cell (p := ⟨p, 0, none⟩) hpr).trans b0
      have f1 : W1.cell? ⟨p, 1, none⟩ = some _ := (BA.cell (p := ⟨p, 1, none⟩) hpr).trans b1
      have f2 : W1.cell? ⟨p, 2, none⟩ = some _ := (BA.cell (p := ⟨p, 2, none⟩) hpr).trans b2
      have hp1 : p < W1.heap.size := Nat.lt_of_lt_of_le hpr BA.size
      have hr1 : wo.heap.size < W1.heap.size := World.block_lt_of_cell? W1 _ c0
      have E9 := Lib.hid e9
      have BA' := Lib.hid BA
      have S1 := Lib.hid S1
      clear e9 BA b0 b1 b2 b3 p0 p1 p2 p3 p4 p5
      go_region_held3 (fun w' => (∀ b' o', b' < W1.heap.size → w'.cell? ⟨b', o', none⟩ = W1.cell? ⟨b', o', none⟩) ∧ Below W1.heap.size W1 w') (first | (refine heldB ?_; exact (Below.refl _ _).drew) | (refine heldB ?_; exact b2))
        (first | (go_at_call 114; refine (hacts.out _ (BA'.out.trans (((Below.refl _ _).drew : Below W1.heap.size W1 W1.drew).mono (Nat.le_of_lt hr1)))).mono ?_; rintro e w2 ⟨lv, rfl, hown, hb2⟩; have b2 : Below W1.heap.size W1 w2 := (Below.refl _ _).drew.trans hb2))
      rename_i hHeld
      have hown : Own 4 Act1.cells W1.heap.size 69 w2 lv (actsW T v y) := hown
      have hlv := fun k hk => World.ownsRow.lt hown k hk
      have S2 : XSt sb p (.slice ta tn tc) v L w2 (fun k => ((k = w.heap.size ∨ k = w.heap.size + 1) ∨ k = wo.heap.size) ∨ lv.ownBlock = some k) :=
        S1.out.move b2.size (fun k hk _ => b2.block k hk) (fun k hk => hk.imp id (fun h => hlv k h))
      have BA2 := Lib.hid (BA'.out.trans (b2.mono (Nat.le_of_lt hr1)))
      have B2 : Below sb w w2 := hB.trans (BA2.out.mono (by omega))
      have a02 := Lib.hid ((BA2.out.block _ hq5).trans a0.out)
      have a12 := Lib.hid ((BA2.out.block _ hq7).trans a1.out)
      have E2 := Lib.hid ((b2.block _ hr1).trans E9.out)
      have HcA := Lib.hid (fun a (ha : a ∈ actsW T v y) => acts_can ha)
      have hA36 : (actsW T v y).length ≤ 36 := actsN_len T v y 36
      have hown := Lib.hid hown
      have S2 := Lib.hid S2
      generalize hA : actsW T v y = A at *
      clear hA
      obtain ⟨la, lc, rfl⟩ := own_val hown.out
      clear hHeld b2 hb2 S1 hacts hTr f0 f1 f2 c0 c1 c2 c3 c4 c5 hlv
      go_wp2_with fail
      go_loopw [6, 11] (fun fo io wr => ∃ (k : Nat) (fd2 : Int) (z2 : Act1), io = .int .i64 k ∧ fo = .int .i64 fd2 ∧ k ≤ A.length ∧ Hid (FoundOk once fd2 (badN T v x i || (A.take k).any (unsafeB T y))) ∧ Hid (XSt sb p (.slice ta tn tc) v (foldV y i L (A.take k)) wr (fun k => ((k = w.heap.size ∨ k = w.heap.size + 1) ∨ k = wo.heap.size) ∨ (Value.slice la A.length lc).ownBlock = some k)) ∧ Below sb w wr ∧ Hid (wr.heap[w.heap.size]? = some (.cells #[.int .i64 (zeroA).turnA, .int .i64 (zeroA).turnB, .bool (zeroA).loseA, .bool (zeroA).loseB] 69 (0, 0))) ∧ Hid (wr.heap[w.heap.size + 1]? = some (.cells #[.int .i64 (z2).turnA, .int .i64 (z2).turnB, .bool (z2).loseA, .bool (z2).loseB] 69 (0, 0))) ∧ Hid (wr.heap[wo.heap.size]? = some (.cells #[.int .i64 (y).a, .int .i64 (y).b, .int .i64 (y).seenA, .int .i64 (y).seenB, .int .i64 (y).ageA, .int .i64 (y).ageB] 55 (0, 0))) ∧ Hid (Own 4 Act1.cells W1.heap.size 69 wr (.slice la A.length lc) A)) (fun _ io _ => A.length - (intOf io).toNat)
      case atStart => exact ⟨0, fd, z, rfl, rfl, Nat.zero_le _, Lib.hid (by have := hfo.out; simpa using this), S2, B2, a02, a12, E2, hown⟩
      case round =>
        clear a0 a1 a02 a12 E2 E9 hown S2 B2 hst hfo BA2 BA'
        obtain ⟨k, fd2, z2, rfl, rfl, hk, hfo, hst, hB2, a0, a1, e9, hown⟩ := hrel
        by_cases hlk : k < A.length
        · have hsz2 := hB2.size
          have hsz2' : sb ≤ wr.heap.size := by omega
          have hq5b : w.heap.size < wr.heap.size := (Array.getElem?_eq_some_iff.1 a0.out).1
          have hq7b : w.heap.size + 1 < wr.heap.size := (Array.getElem?_eq_some_iff.1 a1.out).1
          have hq9b : wo.heap.size < wr.heap.size := (Array.getElem?_eq_some_iff.1 e9.out).1
          obtain ⟨lb, lo2, rfl⟩ := Sl.addr (hown.out.slw Act1.len).1 (by omega)
          obtain ⟨l0, l1, l2, l3⟩ := Act1s.at (hown.out.slw Act1.len).1.get hlk
          have hlb := World.block_lt_of_cell? wr _ l0
          have Hzc := Lib.hid (HcA.out _ (List.getElem_mem hlk))
          have Hft := Lib.hid (foldV_take (x := y) (i := i) (l := L) hlk)
          have Hat := Lib.hid (any_take (p := unsafeB T y) hlk)
          have Hend2 := Lib.hid (Hend.out k hlk)
          have Hvk := Lib.hid (foldV_ok (T := T) hok (A.take k) L (fun a ha => HcA.out a (List.mem_of_mem_take ha)) Hvo.out hlt).1
          have Hpk := Lib.hid (Hpre.out (A.take k))
          have hTr := Lib.hid (H.out.below hB2 hhi)
          have Hk := Lib.hid (p := (∃ z0, A[k] = z0)) ⟨_, rfl⟩
          generalize hk0 : A[k] = zk at *
          have Hk := Lib.hid hk0
          clear hk0
          generalize hLk : foldV y i L (A.take k) = Lk at *
          have HLk := Lib.hid hLk
          clear hLk
          have hunf := (fun w' (hb : Below wr.heap.size wr w') => spec_Unsafe _ rows T lo hi y zk w' (hTr.out.ext hb) HT.out hok.in_ Hzc.out.1.1 Hzc.out.1.2)
          have hdof := (fun w' => spec_Do y zk w' hok.in_ Hzc.out.1.1 Hzc.out.1.2)
          have hok2 := Lib.hid (ok_do hok Hzc.out.1.1 Hzc.out.1.2 Hzc.out.2)
          have hadf := (fun w' (hs : XSt sb p (.slice ta tn tc) v Lk w' (fun k => ((k = w.heap.size ∨ k = w.heap.size + 1) ∨ k = wo.heap.size) ∨ (Value.slice (some ⟨lb, lo2, none⟩) A.length lc).ownBlock = some k)) => spec_add sb p (.slice ta tn tc) v Lk _ (doW y zk) (i : Int) zk w' hs hok2.out Hvk.out.len)
          generalize hd0 : doW y zk = y2 at *
          have Hd0 := Lib.hid hd0
          clear hd0
          simp only [Wld.cells, Act1.cells] at hunf hdof hadf
          have HUn := Lib.hid hunf
          have HDo := Lib.hid hdof
          have HAdd := Lib.hid hadf
          have hlbo : (Value.slice (some ⟨lb, lo2, none⟩) A.length lc).ownBlock = some lb := rfl
          clear hunf hdof hadf
          have e9 := e9
          have hbx := hst.out.rd
          obtain ⟨xa, xc, xf, xb, xs, hbx, -⟩ := hbx
          have b0 : wr.cell? ⟨p, 0, none⟩ = some _ := (Lib.cell_of_heap hbx 0).trans rfl
          have hpr2 : p < wr.heap.size := Nat.lt_of_lt_of_le hpl hsz2
          clear hbx
          rcases hfo.out with ⟨rfl, hbad⟩ | ⟨honce, hf0, hf1, hbad⟩
          · have hg : decide ((-1 : Int) < 0) = true := rfl
            have c0 : wr.cell? ⟨wo.heap.size, 0, none⟩ = some _ := (Lib.cell_of_heap e9.out 0).trans rfl
            have c1 : wr.cell? ⟨wo.heap.size, 1, none⟩ = some _ := (Lib.cell_of_heap e9.out 1).trans rfl
            have c2 : wr.cell? ⟨wo.heap.size, 2, none⟩ = some _ := (Lib.cell_of_heap e9.out 2).trans rfl
            have c3 : wr.cell? ⟨wo.heap.size, 3, none⟩ = some _ := (Lib.cell_of_heap e9.out 3).trans rfl
            have c4 : wr.cell? ⟨wo.heap.size, 4, none⟩ = some _ := (Lib.cell_of_heap e9.out 4).trans rfl
            have c5 : wr.cell? ⟨wo.heap.size, 5, none⟩ = some _ := (Lib.cell_of_heap e9.out 5).trans rfl
            have HUn2 := HUn.out
            cases hub : unsafeB T y zk
            · simp only [hub] at HUn2
              have HUn2 := Lib.hid HUn2
              have Hnew : Hid (FoundOk once (-1) (badN T v x i || (A.take (k + 1)).any (unsafeB T y))) := Lib.hid (.inl ⟨rfl, by rw [Hat.out, hub, Bool.or_false]; exact hbad⟩)
              clear hbad hub
              go_wp2_with fail
              go_region_held3 (fun w' => (∀ b' o', b' < wr.heap.size → w'.cell? ⟨b', o', none⟩ = wr.cell? ⟨b', o', none⟩) ∧ Below wr.heap.size wr w') (first | (refine heldB ?_; exact (Below.refl _ _).drew) | (refine heldB ?_; exact b4))
                (first | (go_at_call 104; refine (HUn2.out _ (Below.refl _ _).drew).mono ?_; rintro e w4 ⟨rfl, hb4⟩; have b4 : Below wr.heap.size wr w4 := (Below.refl _ _).drew.trans hb4))
              rename_i hHeld
              clear hHeld
              have sW := Lib.hid (hst.out.ext b4)
              have oW := Lib.hid (show Own 4 Act1.cells W1.heap.size 69 w4 (.slice (some ⟨lb, lo2, none⟩) A.length lc) A from hown.out.below b4)
              have eW := Lib.hid ((b4.block _ hq9b).trans e9.out)
              have a0W := Lib.hid ((b4.block _ hq5b).trans a0.out)
              have a1W := Lib.hid ((b4.block _ hq7b).trans a1.out)
              have bW := Lib.hid (hB2.trans (b4.mono hsz2'))
              have hq5W : w.heap.size < w4.heap.size := Nat.lt_of_lt_of_le hq5b b4.size
              have hq7W : w.heap.size + 1 < w4.heap.size := Nat.lt_of_lt_of_le hq7b b4.size
              have hq9W : wo.heap.size < w4.heap.size := Nat.lt_of_lt_of_le hq9b b4.size
              have hlbW : lb < w4.heap.size := Nat.lt_of_lt_of_le hlb b4.size
              clear b4 hb4 c0 c1 c2 c3 c4 c5
              generalize w4 = wW at *
              clear hst hown e9 a0 a1 hB2 hTr hq5b hq7b hq9b hlb b0
              try clear l0 l1 l2 l3
              have c0 : wW.cell? ⟨wo.heap.size, 0, none⟩ = some _ := (Lib.cell_of_heap eW.out 0).trans rfl
              have c1 : wW.cell? ⟨wo.heap.size, 1, none⟩ = some _ := (Lib.cell_of_heap eW.out 1).trans rfl
              have c2 : wW.cell? ⟨wo.heap.size, 2, none⟩ = some _ := (Lib.cell_of_heap eW.out 2).trans rfl
              have c3 : wW.cell? ⟨wo.heap.size, 3, none⟩ = some _ := (Lib.cell_of_heap eW.out 3).trans rfl
              have c4 : wW.cell? ⟨wo.heap.size, 4, none⟩ = some _ := (Lib.cell_of_heap eW.out 4).trans rfl
              have c5 : wW.cell? ⟨wo.heap.size, 5, none⟩ = some _ := (Lib.cell_of_heap eW.out 5).trans rfl
              obtain ⟨l0, l1, l2, l3⟩ := Act1s.at (oW.out.slw Act1.len).1.get hlk
              rw [Hk.out] at l0 l1 l2 l3
              go_wp2_with fail
              go_region_held3 (fun w' => ∀ b' o', (b' = wo.heap.size ∨ b' = lb) → w'.cell? ⟨b', o', none⟩ = wW.cell? ⟨b', o', none⟩) (first | exact (fun _ _ _ => rfl) | exact hS2 | exact hS1)
                (first
                  | (go_at_call 102; refine (HDo.out _).mono ?_; rintro e wd ⟨rfl, hbd⟩; have bd : Below wW.heap.size wW wd := (Below.refl _ _).drew.trans hbd; have hS1 : ∀ b' o', (b' = wo.heap.size ∨ b' = lb) → wd.cell? ⟨b', o', none⟩ = wW.cell? ⟨b', o', none⟩ := fun b' o' hb => bd.cell (p := ⟨b', o', none⟩) (by rcases hb with rfl | rfl; exact hq9W; exact hlbW))
                  | (go_at_call 113; refine (HAdd.out _ (sW.out.ext bd)).mono ?_; rintro e wf ⟨rfl, hsf, hff, hbf⟩; have hS2 : ∀ b' o', (b' = wo.heap.size ∨ b' = lb) → wf.cell? ⟨b', o', none⟩ = wW.cell? ⟨b', o', none⟩ := fun b' o' hb => (World.cell?_of_block (hff b' (by rcases hb with rfl | rfl; exact .inl (.inr rfl); exact .inr hlbo))).trans (hS1 b' o' hb)))
              go_wp2
              go_roundw
              case rel => exact ⟨k + 1, _, _, by go_num, rfl, by omega, Hnew, Lib.hid (by rw [Hft.out]; exact hsf), (bW.out.trans (bd.mono (Nat.le_trans (by omega) bW.out.size))).trans hbf, Lib.hid ((hff _ (.inl (.inl (.inl rfl)))).trans ((bd.block _ hq5W).trans a0W.out)), Lib.hid ((hff _ (.inl (.inl (.inr rfl)))).trans ((bd.block _ hq7W).trans a1W.out)), Lib.hid ((hff _ (.inl (.inr rfl))).trans ((bd.block _ hq9W).trans eW.out)), Lib.hid (own_stay oW.out fun g hg => (hff g (.inr hg)).trans (bd.block g (World.ownsRow.lt oW.out g hg).2))⟩
              case measure => simp [intOf]; omega
            · simp only [hub] at HUn2
              have HUn2 := Lib.hid HUn2
              have hb0 := (Bool.or_eq_false_iff.1 hbad)
              have Hend3 := Lib.hid (Hend2.out hb0.1 hb0.2 hub)
              have Hany : Hid ((badN T v x i || (A.take (k + 1)).any (unsafeB T y)) = true) := Lib.hid (by rw [Hat.out, hub]; simp)
              clear hbad hub hb0
              go_wp2_with fail
              go_region_held3 (fun w' => (∀ b' o', b' < wr.heap.size → w'.cell? ⟨b', o', none⟩ = wr.cell? ⟨b', o', none⟩) ∧ Below wr.heap.size wr w') (first | (refine heldB ?_; exact (Below.refl _ _).drew) | (refine heldB ?_; exact b4))
                (first | (go_at_call 104; refine (HUn2.out _ (Below.refl _ _).drew).mono ?_; rintro e w4 ⟨rfl, hb4⟩; have b4 : Below wr.heap.size wr w4 := (Below.refl _ _).drew.trans hb4))
              rename_i hHeld
              clear hHeld
              have sW := Lib.hid (hst.out.ext b4)
              have oW := Lib.hid (show Own 4 Act1.cells W1.heap.size 69 w4 (.slice (some ⟨lb, lo2, none⟩) A.length lc) A from hown.out.below b4)
              have eW := Lib.hid ((b4.block _ hq9b).trans e9.out)
              have a0W := Lib.hid ((b4.block _ hq5b).trans a0.out)
              have a1W := Lib.hid ((b4.block _ hq7b).trans a1.out)
              have bW := Lib.hid (hB2.trans (b4.mono hsz2'))
              have hq5W : w.heap.size < w4.heap.size := Nat.lt_of_lt_of_le hq5b b4.size
              have hq7W : w.heap.size + 1 < w4.heap.size := Nat.lt_of_lt_of_le hq7b b4.size
              have hq9W : wo.heap.size < w4.heap.size := Nat.lt_of_lt_of_le hq9b b4.size
              have hlbW : lb < w4.heap.size := Nat.lt_of_lt_of_le hlb b4.size
              clear b4 hb4 c0 c1 c2 c3 c4 c5
              obtain ⟨l0, l1, l2, l3⟩ := Act1s.at (oW.out.slw Act1.len).1.get hlk
              rw [Hk.out] at l0 l1 l2 l3
              have d0 : w4.cell? ⟨w.heap.size + 1, 0, none⟩ = some (.int .i64 (z2).turnA) := (Lib.cell_of_heap a1W.out 0).trans rfl
              have d1 : w4.cell? ⟨w.heap.size + 1, 1, none⟩ = some (.int .i64 (z2).turnB) := (Lib.cell_of_heap a1W.out 1).trans rfl
              have d2 : w4.cell? ⟨w.heap.size + 1, 2, none⟩ = some (.bool (z2).loseA) := (Lib.cell_of_heap a1W.out 2).trans rfl
              have d3 : w4.cell? ⟨w.heap.size + 1, 3, none⟩ = some (.bool (z2).loseB) := (Lib.cell_of_heap a1W.out 3).trans rfl
              have df : ∀ j, w4.frozen? ⟨w.heap.size + 1, j, none⟩ = false := fun j => Lib.frozen_of_heap a1W.out j
              cases once with
              | true =>
                go_wp2_with fail
                obtain ⟨wV, hV⟩ : ∃ wV, ((((w4.setCell ⟨w.heap.size + 1, 0, none⟩ (.int .i64 zk.turnA)).setCell ⟨w.heap.size + 1, 1, none⟩ (.int .i64 zk.turnB)).setCell ⟨w.heap.size + 1, 2, none⟩ (.bool zk.loseA)).setCell ⟨w.heap.size + 1, 3, none⟩ (.bool zk.loseB)) = wV := ⟨_, rfl⟩
                have sV := (((sW.out.set (q := w.heap.size + 1) (j := 0) (u := .int .i64 zk.turnA) (.inl (.inl (.inr rfl)))).set (q := w.heap.size + 1) (j := 1) (u := .int .i64 zk.turnB) (.inl (.inl (.inr rfl)))).set (q := w.heap.size + 1) (j := 2) (u := .bool zk.loseA) (.inl (.inl (.inr rfl)))).set (q := w.heap.size + 1) (j := 3) (u := .bool zk.loseB) (.inl (.inl (.inr rfl)))
                rw [hV] at sV ⊢
                have kV : ∀ k, k ≠ w.heap.size + 1 → wV.heap[k]? = w4.heap[k]? := fun k hk => by rw [← hV]; exact four_other hk
                have aV : wV.heap[w.heap.size + 1]? = some (.cells #[.int .i64 (zk).turnA, .int .i64 (zk).turnB, .bool (zk).loseA, .bool (zk).loseB] 69 (0, 0)) := by rw [← hV]; exact four_at a1W.out
                have bV : Below sb w wV := by rw [← hV]; exact bW.out.trans (four_below (by omega))
                have hsV : w4.heap.size = wV.heap.size := by rw [← hV]; simp [World.setCell]
                clear hV d0 d1 d2 d3 df l0 l1 l2 l3
                have sW := Lib.hid sV
                have oW := Lib.hid (own_stay oW.out fun g hg => kV g (by have := (World.ownsRow.lt oW.out g hg).1; omega))
                have eW := Lib.hid ((kV _ (by omega)).trans eW.out)
                have a0W := Lib.hid ((kV _ (by omega)).trans a0W.out)
                have a1W := Lib.hid aV
                have bW := Lib.hid bV
                rw [hsV] at hq5W hq7W hq9W hlbW
                clear sV kV aV bV hsV
                skip
                have d0 : wV.cell? ⟨w.heap.size + 1, 0, none⟩ = some (.int .i64 (zk).turnA) := (Lib.cell_of_heap a1W.out 0).trans rfl
                have d1 : wV.cell? ⟨w.heap.size + 1, 1, none⟩ = some (.int .i64 (zk).turnB) := (Lib.cell_of_heap a1W.out 1).trans rfl
                have d2 : wV.cell? ⟨w.heap.size + 1, 2, none⟩ = some (.bool (zk).loseA) := (Lib.cell_of_heap a1W.out 2).trans rfl
                have d3 : wV.cell? ⟨w.heap.size + 1, 3, none⟩ = some (.bool (zk).loseB) := (Lib.cell_of_heap a1W.out 3).trans rfl
                have df : ∀ j, wV.frozen? ⟨w.heap.size + 1, j, none⟩ = false := fun j => Lib.frozen_of_heap a1W.out j
                have g0 : wV.cell? ⟨w.heap.size, 0, none⟩ = some (.int .i64 (zeroA).turnA) := (Lib.cell_of_heap a0W.out 0).trans rfl
                have g1 : wV.cell? ⟨w.heap.size, 1, none⟩ = some (.int .i64 (zeroA).turnB) := (Lib.cell_of_heap a0W.out 1).trans rfl
                have g2 : wV.cell? ⟨w.heap.size, 2, none⟩ = some (.bool (zeroA).loseA) := (Lib.cell_of_heap a0W.out 2).trans rfl
                have g3 : wV.cell? ⟨w.heap.size, 3, none⟩ = some (.bool (zeroA).loseB) := (Lib.cell_of_heap a0W.out 3).trans rfl
                have gf : ∀ j, wV.frozen? ⟨w.heap.size, j, none⟩ = false := fun j => Lib.frozen_of_heap a0W.out j
                go_region_held3 (fun w' => ∀ o', w'.cell? ⟨w.heap.size + 1, o', none⟩ = wV.cell? ⟨w.heap.size + 1, o', none⟩) (first | exact (fun _ => rfl) | exact (fun o' => four_cell (Nat.succ_ne_self _))) (fail)
                rename_i hHeld
                clear hHeld d0 d1 d2 d3 df g0 g1 g2 g3 gf
                obtain ⟨wX, hX⟩ : ∃ wX, (((((wV.setCell ⟨w.heap.size, 0, none⟩ (.int .i64 (zk).turnA)).setCell ⟨w.heap.size, 1, none⟩ (.int .i64 (zk).turnB)).setCell ⟨w.heap.size, 2, none⟩ (.bool (zk).loseA)).setCell ⟨w.heap.size, 3, none⟩ (.bool (zk).loseB))).drew = wX := ⟨_, rfl⟩
                have sX := (((((sW.out).set (q := w.heap.size) (j := 0) (u := .int .i64 (zk).turnA) (.inl (.inl (.inl rfl)))).set (q := w.heap.size) (j := 1) (u := .int .i64 (zk).turnB) (.inl (.inl (.inl rfl)))).set (q := w.heap.size) (j := 2) (u := .bool (zk).loseA) (.inl (.inl (.inl rfl)))).set (q := w.heap.size) (j := 3) (u := .bool (zk).loseB) (.inl (.inl (.inl rfl)))).ext (Below.refl _ _).drew
                rw [hX] at sX ⊢
                have aX : wX.heap[w.heap.size]? = some (.cells #[.int .i64 (zk).turnA, .int .i64 (zk).turnB, .bool (zk).loseA, .bool (zk).loseB] 69 (0, 0)) := by rw [← hX]; exact four_at a0W.out
                have bX : Below sb w wX := by rw [← hX]; exact ((bW.out).trans (four_below (by omega))).drew
                have h0 : wX.cell? ⟨w.heap.size, 0, none⟩ = some (.int .i64 (zk).turnA) := (Lib.cell_of_heap aX 0).trans rfl
                have h1 : wX.cell? ⟨w.heap.size, 1, none⟩ = some (.int .i64 (zk).turnB) := (Lib.cell_of_heap aX 1).trans rfl
                have h2 : wX.cell? ⟨w.heap.size, 2, none⟩ = some (.bool (zk).loseA) := (Lib.cell_of_heap aX 2).trans rfl
                have h3 : wX.cell? ⟨w.heap.size, 3, none⟩ = some (.bool (zk).loseB) := (Lib.cell_of_heap aX 3).trans rfl
                have hf : ∀ j, wX.frozen? ⟨w.heap.size, j, none⟩ = false := fun j => Lib.frozen_of_heap aX j
                have RX := Lib.hid (⟨(i : Int), zk, Lk, rfl, Hend3.out Lk Hpk.out, sX.sub (fun _ h => h.elim), bX⟩ : ∃ (fdd : Int) (zz : Act1) (l : List Vis), Ending.returned (.tuple #[.int .i64 (i : Int), .agg #[.int .i64 (zk).turnA, .int .i64 (zk).turnB, .bool (zk).loseA, .bool (zk).loseB]]) = .returned (.tuple #[.int .i64 fdd, .agg zz.cells.toArray]) ∧ RunEnd T v x true fdd zz l ∧ XSt sb p (.slice ta tn tc) v l wX (fun _ => False) ∧ Below sb w wX)
                clear hX aX sX bX
                go_wp2
                exact bodyPost_ret (v := .tuple #[.int .i64 (i : Int), .agg #[.int .i64 (zk).turnA, .int .i64 (zk).turnB, .bool (zk).loseA, .bool (zk).loseB]]) (by simp [results, Try.results76, go_sem, h0, h1, h2, h3]) rfl RX.out
              | false =>
                go_wp2_with fail
                obtain ⟨wV, hV⟩ : ∃ wV, ((((w4.setCell ⟨w.heap.size + 1, 0, none⟩ (.int .i64 zk.turnA)).setCell ⟨w.heap.size + 1, 1, none⟩ (.int .i64 zk.turnB)).setCell ⟨w.heap.size + 1, 2, none⟩ (.bool zk.loseA)).setCell ⟨w.heap.size + 1, 3, none⟩ (.bool zk.loseB)) = wV := ⟨_, rfl⟩
                have sV := (((sW.out.set (q := w.heap.size + 1) (j := 0) (u := .int .i64 zk.turnA) (.inl (.inl (.inr rfl)))).set (q := w.heap.size + 1) (j := 1) (u := .int .i64 zk.turnB) (.inl (.inl (.inr rfl)))).set (q := w.heap.size + 1) (j := 2) (u := .bool zk.loseA) (.inl (.inl (.inr rfl)))).set (q := w.heap.size + 1) (j := 3) (u := .bool zk.loseB) (.inl (.inl (.inr rfl)))
                rw [hV] at sV ⊢
                have kV : ∀ k, k ≠ w.heap.size + 1 → wV.heap[k]? = w4.heap[k]? := fun k hk => by rw [← hV]; exact four_other hk
                have aV : wV.heap[w.heap.size + 1]? = some (.cells #[.int .i64 (zk).turnA, .int .i64 (zk).turnB, .bool (zk).loseA, .bool (zk).loseB] 69 (0, 0)) := by rw [← hV]; exact four_at a1W.out
                have bV : Below sb w wV := by rw [← hV]; exact bW.out.trans (four_below (by omega))
                have hsV : w4.heap.size = wV.heap.size := by rw [← hV]; simp [World.setCell]
                clear hV d0 d1 d2 d3 df l0 l1 l2 l3
                have sW := Lib.hid sV
                have oW := Lib.hid (own_stay oW.out fun g hg => kV g (by have := (World.ownsRow.lt oW.out g hg).1; omega))
                have eW := Lib.hid ((kV _ (by omega)).trans eW.out)
                have a0W := Lib.hid ((kV _ (by omega)).trans a0W.out)
                have a1W := Lib.hid aV
                have bW := Lib.hid bV
                rw [hsV] at hq5W hq7W hq9W hlbW
                clear sV kV aV bV hsV
                have Hnew : Hid (FoundOk false (i : Int) (badN T v x i || (A.take (k + 1)).any (unsafeB T y))) := Lib.hid (.inr ⟨rfl, by omega, by omega, Hany.out⟩)
                generalize wV = wW at *
                clear hst hown e9 a0 a1 hB2 hTr hq5b hq7b hq9b hlb b0
                try clear l0 l1 l2 l3
                have c0 : wW.cell? ⟨wo.heap.size, 0, none⟩ = some _ := (Lib.cell_of_heap eW.out 0).trans rfl
                have c1 : wW.cell? ⟨wo.heap.size, 1, none⟩ = some _ := (Lib.cell_of_heap eW.out 1).trans rfl
                have c2 : wW.cell? ⟨wo.heap.size, 2, none⟩ = some _ := (Lib.cell_of_heap eW.out 2).trans rfl
                have c3 : wW.cell? ⟨wo.heap.size, 3, none⟩ = some _ := (Lib.cell_of_heap eW.out 3).trans rfl
                have c4 : wW.cell? ⟨wo.heap.size, 4, none⟩ = some _ := (Lib.cell_of_heap eW.out 4).trans rfl
                have c5 : wW.cell? ⟨wo.heap.size, 5, none⟩ = some _ := (Lib.cell_of_heap eW.out 5).trans rfl
                obtain ⟨l0, l1, l2, l3⟩ := Act1s.at (oW.out.slw Act1.len).1.get hlk
                rw [Hk.out] at l0 l1 l2 l3
                go_wp2_with fail
                go_region_held3 (fun w' => ∀ b' o', (b' = wo.heap.size ∨ b' = lb) → w'.cell? ⟨b', o', none⟩ = wW.cell? ⟨b', o', none⟩) (first | exact (fun _ _ _ => rfl) | exact hS2 | exact hS1)
                  (first
                    | (go_at_call 102; refine (HDo.out _).mono ?_; rintro e wd ⟨rfl, hbd⟩; have bd : Below wW.heap.size wW wd := (Below.refl _ _).drew.trans hbd; have hS1 : ∀ b' o', (b' = wo.heap.size ∨ b' = lb) → wd.cell? ⟨b', o', none⟩ = wW.cell? ⟨b', o', none⟩ := fun b' o' hb => bd.cell (p := ⟨b', o', none⟩) (by rcases hb with rfl | rfl; exact hq9W; exact hlbW))
                    | (go_at_call 113; refine (HAdd.out _ (sW.out.ext bd)).mono ?_; rintro e wf ⟨rfl, hsf, hff, hbf⟩; have hS2 : ∀ b' o', (b' = wo.heap.size ∨ b' = lb) → wf.cell? ⟨b', o', none⟩ = wW.cell? ⟨b', o', none⟩ := fun b' o' hb => (World.cell?_of_block (hff b' (by rcases hb with rfl | rfl; exact .inl (.inr rfl); exact .inr hlbo))).trans (hS1 b' o' hb)))
                go_wp2
                go_roundw
                case rel => exact ⟨k + 1, _, _, by go_num, rfl, by omega, Hnew, Lib.hid (by rw [Hft.out]; exact hsf), (bW.out.trans (bd.mono (Nat.le_trans (by omega) bW.out.size))).trans hbf, Lib.hid ((hff _ (.inl (.inl (.inl rfl)))).trans ((bd.block _ hq5W).trans a0W.out)), Lib.hid ((hff _ (.inl (.inl (.inr rfl)))).trans ((bd.block _ hq7W).trans a1W.out)), Lib.hid ((hff _ (.inl (.inr rfl))).trans ((bd.block _ hq9W).trans eW.out)), Lib.hid (own_stay oW.out fun g hg => (hff g (.inr hg)).trans (bd.block g (World.ownsRow.lt oW.out g hg).2))⟩
                case measure => simp [intOf]; omega
          · have hg : decide (fd2 < 0) = false := decide_eq_false (by omega)
            have Hnew : Hid (FoundOk once fd2 (badN T v x i || (A.take (k + 1)).any (unsafeB T y))) := Lib.hid (.inr ⟨honce, hf0, hf1, by rw [Hat.out, ← Bool.or_assoc, hbad]; rfl⟩)
            clear hbad honce
            go_wp2_with fail
            go_quiet (fail)
            have sW := Lib.hid (hst.out.ext (below_dN (Below.refl wr.heap.size wr) nq))
            have oW := Lib.hid (show Own 4 Act1.cells W1.heap.size 69 (wr.drewN nq) (.slice (some ⟨lb, lo2, none⟩) A.length lc) A from hown.out.below (below_dN (Below.refl wr.heap.size wr) nq))
            have eW := Lib.hid (show (wr.drewN nq).heap[wo.heap.size]? = _ from e9.out)
            have a0W := Lib.hid (show (wr.drewN nq).heap[w.heap.size]? = _ from a0.out)
            have a1W := Lib.hid (show (wr.drewN nq).heap[w.heap.size + 1]? = _ from a1.out)
            have bW := Lib.hid (below_dN hB2 nq)
            have hq5W : w.heap.size < (wr.drewN nq).heap.size := hq5b
            have hq7W : w.heap.size + 1 < (wr.drewN nq).heap.size := hq7b
            have hq9W : wo.heap.size < (wr.drewN nq).heap.size := hq9b
            have hlbW : lb < (wr.drewN nq).heap.size := hlb
            generalize wr.drewN nq = wW at *
            clear hst hown e9 a0 a1 hB2 hTr hq5b hq7b hq9b hlb b0
            try clear l0 l1 l2 l3
            have c0 : wW.cell? ⟨wo.heap.size, 0, none⟩ = some _ := (Lib.cell_of_heap eW.out 0).trans rfl
            have c1 : wW.cell? ⟨wo.heap.size, 1, none⟩ = some _ := (Lib.cell_of_heap eW.out 1).trans rfl
            have c2 : wW.cell? ⟨wo.heap.size, 2, none⟩ = some _ := (Lib.cell_of_heap eW.out 2).trans rfl
            have c3 : wW.cell? ⟨wo.heap.size, 3, none⟩ = some _ := (Lib.cell_of_heap eW.out 3).trans rfl
            have c4 : wW.cell? ⟨wo.heap.size, 4, none⟩ = some _ := (Lib.cell_of_heap eW.out 4).trans rfl
            have c5 : wW.cell? ⟨wo.heap.size, 5, none⟩ = some _ := (Lib.cell_of_heap eW.out 5).trans rfl
            obtain ⟨l0, l1, l2, l3⟩ := Act1s.at (oW.out.slw Act1.len).1.get hlk
            rw [Hk.out] at l0 l1 l2 l3
            go_wp2_with fail
            go_region_held3 (fun w' => ∀ b' o', (b' = wo.heap.size ∨ b' = lb) → w'.cell? ⟨b', o', none⟩ = wW.cell? ⟨b', o', none⟩) (first | exact (fun _ _ _ => rfl) | exact hS2 | exact hS1)
              (first
                | (go_at_call 102; refine (HDo.out _).mono ?_; rintro e wd ⟨rfl, hbd⟩; have bd : Below wW.heap.size wW wd := (Below.refl _ _).drew.trans hbd; have hS1 : ∀ b' o', (b' = wo.heap.size ∨ b' = lb) → wd.cell? ⟨b', o', none⟩ = wW.cell? ⟨b', o', none⟩ := fun b' o' hb => bd.cell (p := ⟨b', o', none⟩) (by rcases hb with rfl | rfl; exact hq9W; exact hlbW))
                | (go_at_call 113; refine (HAdd.out _ (sW.out.ext bd)).mono ?_; rintro e wf ⟨rfl, hsf, hff, hbf⟩; have hS2 : ∀ b' o', (b' = wo.heap.size ∨ b' = lb) → wf.cell? ⟨b', o', none⟩ = wW.cell? ⟨b', o', none⟩ := fun b' o' hb => (World.cell?_of_block (hff b' (by rcases hb with rfl | rfl; exact .inl (.inr rfl); exact .inr hlbo))).trans (hS1 b' o' hb)))
            go_wp2
            go_roundw
            case rel => exact ⟨k + 1, _, _, by go_num, rfl, by omega, Hnew, Lib.hid (by rw [Hft.out]; exact hsf), (bW.out.trans (bd.mono (Nat.le_trans (by omega) bW.out.size))).trans hbf, Lib.hid ((hff _ (.inl (.inl (.inl rfl)))).trans ((bd.block _ hq5W).trans a0W.out)), Lib.hid ((hff _ (.inl (.inl (.inr rfl)))).trans ((bd.block _ hq7W).trans a1W.out)), Lib.hid ((hff _ (.inl (.inr rfl))).trans ((bd.block _ hq9W).trans eW.out)), Lib.hid (own_stay oW.out fun g hg => (hff g (.inr hg)).trans (bd.block g (World.ownsRow.lt oW.out g hg).2))⟩
            case measure => simp [intOf]; omega
        · obtain rfl : k = A.length := by omega
          have Hn : Hid (FoundOk once fd2 (badN T v x (i + 1))) := Lib.hid (by have h1 := hfo.out; rw [List.take_length] at h1; rw [Hbad.out]; exact h1)
          have Hs : Hid (XSt sb p (.slice ta tn tc) v (bfs T v x (i + 1)) wr (fun k => k = w.heap.size ∨ k = w.heap.size + 1)) := Lib.hid (by have h1 := hst.out; rw [List.take_length] at h1; rw [Hgo.out]; exact h1.sub (fun k h => .inl (.inl h)))
          have Hle : Hid (i + 1 ≤ (bfs T v x (i + 1)).length) := Lib.hid (by rw [Hgo.out]; have := (Hpre.out A).length_le; omega)
          go_wp2
          go_roundw
          case rel => exact ⟨i + 1, fd2, z2, by go_num, rfl, Hle.out, Hn, Hs, hB2, a0, a1⟩
          case measure => simp [intOf]; omega
    · have hie : i = (bfs T v x i).length := by omega
      have Hend : Hid (RunEnd T v x once fd z (bfs T v x i)) := Lib.hid (.inl ⟨i, hie, rfl, hfo.out⟩)
      obtain ⟨wa, wc, fv, bv, sd, hbox, -⟩ := hst.out.rd
      have b3 : wo.cell? ⟨p, 3, none⟩ = some _ := (Lib.cell_of_heap hbox 3).trans rfl
      have hpr : p < wo.heap.size := Nat.lt_of_lt_of_le hpl hsz
      have hlt' : ¬ ((i : Int) < ((bfs T v x i).length : Int)) := by omega
      clear hbox hie hlt
      generalize bfs T v x i = L at *
      go_wp2_with fail
      clear b3
      skip
      have d0 : wo.cell? ⟨w.heap.size + 1, 0, none⟩ = some (.int .i64 (z).turnA) := (Lib.cell_of_heap a1.out 0).trans rfl
      have d1 : wo.cell? ⟨w.heap.size + 1, 1, none⟩ = some (.int .i64 (z).turnB) := (Lib.cell_of_heap a1.out 1).trans rfl
      have d2 : wo.cell? ⟨w.heap.size + 1, 2, none⟩ = some (.bool (z).loseA) := (Lib.cell_of_heap a1.out 2).trans rfl
      have d3 : wo.cell? ⟨w.heap.size + 1, 3, none⟩ = some (.bool (z).loseB) := (Lib.cell_of_heap a1.out 3).trans rfl
      have df : ∀ j, wo.frozen? ⟨w.heap.size + 1, j, none⟩ = false := fun j => Lib.frozen_of_heap a1.out j
      have g0 : wo.cell? ⟨w.heap.size, 0, none⟩ = some (.int .i64 (zeroA).turnA) := (Lib.cell_of_heap a0.out 0).trans rfl
      have g1 : wo.cell? ⟨w.heap.size, 1, none⟩ = some (.int .i64 (zeroA).turnB) := (Lib.cell_of_heap a0.out 1).trans rfl
      have g2 : wo.cell? ⟨w.heap.size, 2, none⟩ = some (.bool (zeroA).loseA) := (Lib.cell_of_heap a0.out 2).trans rfl
      have g3 : wo.cell? ⟨w.heap.size, 3, none⟩ = some (.bool (zeroA).loseB) := (Lib.cell_of_heap a0.out 3).trans rfl
      have gf : ∀ j, wo.frozen? ⟨w.heap.size, j, none⟩ = false := fun j => Lib.frozen_of_heap a0.out j
      go_region_held3 (fun w' => ∀ o', w'.cell? ⟨w.heap.size + 1, o', none⟩ = wo.cell? ⟨w.heap.size + 1, o', none⟩) (first | exact (fun _ => rfl) | exact (fun o' => four_cell (Nat.succ_ne_self _))) (fail)
      rename_i hHeld
      clear hHeld d0 d1 d2 d3 df g0 g1 g2 g3 gf
      obtain ⟨wX, hX⟩ : ∃ wX, (((((wo.setCell ⟨w.heap.size, 0, none⟩ (.int .i64 (z).turnA)).setCell ⟨w.heap.size, 1, none⟩ (.int .i64 (z).turnB)).setCell ⟨w.heap.size, 2, none⟩ (.bool (z).loseA)).setCell ⟨w.heap.size, 3, none⟩ (.bool (z).loseB))).drew = wX := ⟨_, rfl⟩
      have sX := (((((hst.out).set (q := w.heap.size) (j := 0) (u := .int .i64 (z).turnA) (.inl rfl)).set (q := w.heap.size) (j := 1) (u := .int .i64 (z).turnB) (.inl rfl)).set (q := w.heap.size) (j := 2) (u := .bool (z).loseA) (.inl rfl)).set (q := w.heap.size) (j := 3) (u := .bool (z).loseB) (.inl rfl)).ext (Below.refl _ _).drew
      rw [hX] at sX ⊢
      have aX : wX.heap[w.heap.size]? = some (.cells #[.int .i64 (z).turnA, .int .i64 (z).turnB, .bool (z).loseA, .bool (z).loseB] 69 (0, 0)) := by rw [← hX]; exact four_at a0.out
      have bX : Below sb w wX := by rw [← hX]; exact ((hB).trans (four_below (by omega))).drew
      have h0 : wX.cell? ⟨w.heap.size, 0, none⟩ = some (.int .i64 (z).turnA) := (Lib.cell_of_heap aX 0).trans rfl
      have h1 : wX.cell? ⟨w.heap.size, 1, none⟩ = some (.int .i64 (z).turnB) := (Lib.cell_of_heap aX 1).trans rfl
      have h2 : wX.cell? ⟨w.heap.size, 2, none⟩ = some (.bool (z).loseA) := (Lib.cell_of_heap aX 2).trans rfl
      have h3 : wX.cell? ⟨w.heap.size, 3, none⟩ = some (.bool (z).loseB) := (Lib.cell_of_heap aX 3).trans rfl
      have hf : ∀ j, wX.frozen? ⟨w.heap.size, j, none⟩ = false := fun j => Lib.frozen_of_heap aX j
      have RX := Lib.hid (⟨fd, z, L, rfl, Hend.out, sX.sub (fun _ h => h.elim), bX⟩ : ∃ (fdd : Int) (zz : Act1) (l : List Vis), Ending.returned (.tuple #[.int .i64 fd, .agg #[.int .i64 (z).turnA, .int .i64 (z).turnB, .bool (z).loseA, .bool (z).loseB]]) = .returned (.tuple #[.int .i64 fdd, .agg zz.cells.toArray]) ∧ RunEnd T v x once fdd zz l ∧ XSt sb p (.slice ta tn tc) v l wX (fun _ => False) ∧ Below sb w wX)
      clear hX aX sX bX
      go_wp2
      exact bodyPost_ret (v := .tuple #[.int .i64 fd, .agg #[.int .i64 (z).turnA, .int .i64 (z).turnB, .bool (z).loseA, .bool (z).loseB]]) (by simp [results, Try.results76, go_sem, h0, h1, h2, h3]) rfl RX.out
end Go.Proofs.Yteakogdojmgehaa
