/- The reference's explorer: adding a world. -/
import Derived.Test.YteakogdojmgehaaExB
import Derived.Test.YteakogdojmgehaaPh
namespace Go.Proofs.Yteakogdojmgehaa
open Go.RowKit
theorem spec_Index {v : Wtc} (x : Wld) (w : World) (hx : x.ok v) : Calls Try.prog 132 #[.agg x.cells.toArray] w fun e w' => e = .returned (.int .i64 (idxW x)) ∧ Below w.heap.size w w' := by
  obtain ⟨xa, xb, sa, sb, ga, gb⟩ := x
  obtain ⟨⟨-, hv1, hv2⟩, ⟨⟨a1, a2⟩, ⟨a6, a7⟩, ⟨a3, a4⟩, a5⟩, ⟨⟨b1, b2⟩, ⟨b6, b7⟩, ⟨b3, b4⟩, b5⟩⟩ := hx
  simp only at *
  have h1 := absI_cases (tb sa xa)
  have h2 := absI_cases (tb sb xb)
  have T1 := Lib.hid (fun w => spec_Turn sa xa w ⟨by omega, by omega⟩ ⟨by omega, by omega⟩)
  have T2 := Lib.hid (fun w => spec_Turn sb xb w ⟨by omega, by omega⟩ ⟨by omega, by omega⟩)
  unfold idxW
  simp only [Wld.cells]
  generalize tb sa xa = q1 at *
  generalize tb sb xb = q2 at *
  have k1 : -1 ≤ q1 ∧ q1 ≤ 1 := by omega
  have k2 : -1 ≤ q2 ∧ q2 ≤ 1 := by omega
  clear h1 h2 a5 b5
  go_enter Try.func132, Try.ntmps132
  go_wp2_with (first | (go_at_call_of 137 sa; refine (T1.out _).mono ?_; rintro e w' ⟨rfl, rfl⟩) | (go_at_call_of 137 sb; refine (T2.out _).mono ?_; rintro e w' ⟨rfl, rfl⟩))
  go_ret
  exact ⟨rfl, (Below.refl _ _).alloc (Nat.le_refl _) _⟩
set_option maxRecDepth 100000 in
set_option maxHeartbeats 8000000 in
theorem spec_add_old (sb p : Nat) (tv wv fv bv : Value) (v : Wtc) (ws : List Wld) (fs : List Int) (ys : List Act1) (f : Nat → Value) (x : Wld) (fr : Int) (y : Act1) (w : World) (h : XIn sb p tv wv fv bv v ws fs ys f w) (hs : SeenF v ws f) (hx : x.ok v) (hm : x ∈ ws) :
    Calls Try.prog 113 #[.pointer (some ⟨p, 0, none⟩), .agg x.cells.toArray, .int .i64 fr, .agg y.cells.toArray] w fun e w' => e = .returned (.tuple #[]) ∧ Below w.heap.size w w' := by
  have hx2 := Lib.hid (fun w => spec_Index x w hx)
  have hil := idx_lt hx
  obtain ⟨q, hq⟩ : ∃ q : Nat, idxW x = q := ⟨(idxW x).toNat, by omega⟩
  rw [hq] at hx2
  have hq2 : q < 20736 := by omega
  have hsx := hs x hx
  rw [hq, Int.toNat_natCast] at hsx
  have hrow := h.row.cell hq2
  rw [hsx] at hrow
  have hplt := h.plt
  have hslt := Nat.lt_trans h.lt hplt
  have hbox := h.box
  have hBB : ∀ A B : Obj, Below w.heap.size w ((w.alloc A).alloc B) := fun A B => ((Below.refl _ w).alloc (Nat.le_refl _) _).alloc (by simp) _
  have HBB := Lib.hid hBB
  clear hBB hil hsx
  rw [decide_eq_true hm] at hrow
  clear h hs hm hq
  have c6 : w.cell? ⟨p, 6, none⟩ = some (.slice (some ⟨sb, 0, none⟩) 20736 20736) := (Lib.cell_of_heap hbox 6).trans rfl
  clear hbox
  obtain ⟨xa, xb, xs, xt, ga, gb⟩ := x
  obtain ⟨tA, tB, lA, lB⟩ := y
  simp only [Wld.cells, Act1.cells] at *
  go_enter Try.func113, Try.ntmps113
  go_wp2_with (first | (go_at_call 132; refine (hx2.out _).mono ?_; rintro e w2 ⟨rfl, hb2⟩; have q2 := (bcell hb2).1; have z2 : w.heap.size + 1 < w2.heap.size := Nat.lt_of_lt_of_le (by simp) hb2.size; have za : p < w.heap.size + 1 := Nat.lt_succ_of_lt hplt; have zb : p < w.heap.size + 1 + 1 := Nat.lt_succ_of_lt za; have zc : sb < w.heap.size + 1 := Nat.lt_succ_of_lt hslt; have zd : sb < w.heap.size + 1 + 1 := Nat.lt_succ_of_lt zc; have B2 : Below w.heap.size w w2 := (HBB.out _ _).trans (hb2.mono (by simp; omega))))
  exact bodyPost_ret (v := .tuple #[]) (by simp [results, Try.results113, go_sem]) rfl ⟨rfl, B2⟩
theorem heap_drew (w : World) : w.drew.heap = w.heap := rfl
theorem XIn.drew {sb p : Nat} {tv wv fv bv : Value} {v : Wtc} {ws : List Wld} {fs : List Int} {ys : List Act1} {f : Nat → Value} {w : World} (h : XIn sb p tv wv fv bv v ws fs ys f w) : XIn sb p tv wv fv bv v ws fs ys f w.drew := h.stay fun _ _ _ => rfl
set_option maxRecDepth 100000 in
set_option maxHeartbeats 16000000 in
theorem spec_add_new (sb p : Nat) (tv wv fv bv : Value) (v : Wtc) (ws : List Wld) (fs : List Int) (ys : List Act1) (f : Nat → Value) (x : Wld) (fr : Int) (y : Act1) (w : World) (h : XIn sb p tv wv fv bv v ws fs ys f w) (hs : SeenF v ws f) (hx : x.ok v) (hm : ¬ x ∈ ws)
    (hl1 : ws.length ≤ 20736) (hl2 : fs.length = ws.length) (hl3 : ys.length = ws.length) :
    Calls Try.prog 113 #[.pointer (some ⟨p, 0, none⟩), .agg x.cells.toArray, .int .i64 fr, .agg y.cells.toArray] w fun e w' => e = .returned (.tuple #[]) ∧ ∃ wv' fv' bv' f', XIn sb p tv wv' fv' bv' v (ws ++ [x]) (fs ++ [fr]) (ys ++ [y]) f' w' ∧ SeenF v (ws ++ [x]) f' ∧
      (∀ k, Far sb p wv fv bv w k → Far sb p wv' fv' bv' w' k ∧ w'.heap[k]? = w.heap[k]?) ∧ Below sb w w' := by
  have hs2 := hs.push hx
  have hfl : fs.length ≤ 20736 := by omega
  have hyl : ys.length ≤ 20736 := by omega
  clear hl2 hl3
  have hx2 := Lib.hid (fun w => spec_Index x w hx)
  have hil := idx_lt hx
  obtain ⟨q, hq⟩ : ∃ q : Nat, idxW x = q := ⟨(idxW x).toNat, by omega⟩
  rw [hq] at hx2
  have hq2 : q < 20736 := by omega
  have hsx := hs x hx
  rw [hq, Int.toNat_natCast] at hsx
  have hrow := h.row.cell hq2
  rw [hsx] at hrow
  have hplt := h.plt
  have hslt := Nat.lt_trans h.lt hplt
  have hbox := h.box
  have hBB : ∀ A B : Obj, Below w.heap.size w ((w.alloc A).alloc B) := fun A B => ((Below.refl _ w).alloc (Nat.le_refl _) _).alloc (by simp) _
  have HBB := Lib.hid hBB
  clear hBB hil hsx
  rw [decide_eq_false hm] at hrow
  rw [hq, Int.toNat_natCast] at hs2
  have H := Lib.hid h
  have Hs2 := Lib.hid hs2
  have hfz := h.row.frozen q
  clear h hs hm hq hs2
  have c6 : w.cell? ⟨p, 6, none⟩ = some (.slice (some ⟨sb, 0, none⟩) 20736 20736) := (Lib.cell_of_heap hbox 6).trans rfl
  clear hbox
  have hlo := Lib.hid H.out.lt
  obtain ⟨xa, xb, xs, xt, ga, gb⟩ := x
  obtain ⟨tA, tB, lA, lB⟩ := y
  generalize hxx : (⟨xa, xb, xs, xt, ga, gb⟩ : Wld) = xx at *
  generalize hyy : (⟨tA, tB, lA, lB⟩ : Act1) = yy at *
  have HX : Hid (xx.cells.toArray = #[.int .i64 xa, .int .i64 xb, .int .i64 xs, .int .i64 xt, .int .i64 ga, .int .i64 gb]) := Lib.hid (by rw [← hxx]; rfl)
  have HY : Hid (yy.cells.toArray = #[.int .i64 tA, .int .i64 tB, .bool lA, .bool lB]) := Lib.hid (by rw [← hyy]; rfl)
  rw [HX.out] at hx2 ⊢
  rw [HY.out]
  have Hxx := Lib.hid hxx
  have Hyy := Lib.hid hyy
  clear hxx hyy
  have e0 := Lib.hid (blk_new w (.cells #[.int .i64 xa, .int .i64 xb, .int .i64 xs, .int .i64 xt, .int .i64 ga, .int .i64 gb] 55))
  have e1 := Lib.hid (blk_new (w.alloc (.cells #[.int .i64 xa, .int .i64 xb, .int .i64 xs, .int .i64 xt, .int .i64 ga, .int .i64 gb] 55)) (.cells #[.int .i64 tA, .int .i64 tB, .bool lA, .bool lB] 69))
  go_enter Try.func113, Try.ntmps113
  go_wp2_with fail
  refine (hx2.out _).mono ?_
  rintro e w2 ⟨rfl, hb2⟩
  have B2 : Below w.heap.size w w2 := (HBB.out _ _).trans (hb2.mono (by simp; omega))
  have u0 := Lib.hid (blk_below' hb2 (blk_below' ((Below.refl _ _).alloc (Nat.le_refl _) _) e0.out))
  have u1 := blk_below' hb2 e1.out
  rw [World.size_alloc] at u1
  have u1 := Lib.hid u1
  have I2 := Lib.hid (H.out.ext B2)
  have hb := I2.out.box
  have d6 : w2.cell? ⟨p, 6, none⟩ = some _ := (Lib.cell_of_heap hb 6).trans rfl
  have hrow2 := (B2.cell (p := ⟨sb, q, none⟩) hslt).trans hrow
  have hfz2 := (B2.frozen (p := ⟨sb, q, none⟩) hslt).trans hfz
  clear hb hrow hfz c6 e0 e1
  go_wp2_with fail
  obtain ⟨w3, hw3⟩ : ∃ w3, w2.setCell ⟨sb, q, none⟩ (.bool true) = w3 := ⟨_, rfl⟩
  have I3 := I2.out.see q (.bool true)
  have k3 : ∀ k, k ≠ sb → w3.heap[k]? = w2.heap[k]? := fun k hk => by rw [← hw3]; exact Below.heap_setCell _ _ _ _ hk
  have B3 : Below sb w w3 := by rw [← hw3]; exact (B2.mono (Nat.le_of_lt hslt)).setCell (Nat.le_refl _) _
  have s3 : w3.heap.size = w2.heap.size := by rw [← hw3]; simp [World.setCell]
  rw [hw3] at I3 ⊢
  have v0 : w3.heap[w.heap.size]? = _ := (k3 _ (Nat.ne_of_gt hslt)).trans u0.out
  have v1 : w3.heap[w.heap.size + 1]? = _ := (k3 _ (by omega)).trans u1.out
  have F3 : ∀ k, Far sb p wv fv bv w k → Far sb p wv fv bv w3 k ∧ w3.heap[k]? = w.heap[k]? := fun k hk => ⟨hk.ext B3.size, (k3 k hk.sb).trans (B2.block k hk.lt)⟩
  have G3 : Far sb p wv fv bv w3 (w.heap.size + 1) := H.out.far (Nat.le_succ _) (Array.getElem?_eq_some_iff.1 v1).1
  have V1 := Lib.hid (show w3.drew.heap[w.heap.size + 1]? = _ from v1)
  have Fd := Lib.hid (show ∀ k, Far sb p wv fv bv w k → Far sb p wv fv bv w3.drew k ∧ w3.drew.heap[k]? = w.heap[k]? from fun k hk => ⟨(F3 k hk).1.ext (Nat.le_refl _), (F3 k hk).2⟩)
  have Gd := Lib.hid (show Far sb p wv fv bv w3.drew (w.heap.size + 1) from G3.ext (Nat.le_refl _))
  have Bd := Lib.hid B3.drew
  have K0 := Lib.hid (show w3.drew.heap[w.heap.size]? = _ from v0)
  have hp3 : p < w3.drew.heap.size := Nat.lt_of_lt_of_le hplt B3.size
  have hx3 : w.heap.size < w3.drew.heap.size := (Array.getElem?_eq_some_iff.1 v0).1
  have hpx : ¬ p = w.heap.size := Nat.ne_of_lt hplt
  have G0 := Lib.hid (show Far sb p wv fv bv w3.drew w.heap.size from H.out.far (Nat.le_refl _) hx3)
  clear hw3 k3 s3 F3 G3 B3 I2 d6 hrow2 hfz2 u0 u1 v1 hb2
  have c0 : w3.drew.cell? ⟨w.heap.size, 0, none⟩ = some _ := (Lib.cell_of_heap (w := w3.drew) v0 0).trans rfl
  have c1 : w3.drew.cell? ⟨w.heap.size, 1, none⟩ = some _ := (Lib.cell_of_heap (w := w3.drew) v0 1).trans rfl
  have c2 : w3.drew.cell? ⟨w.heap.size, 2, none⟩ = some _ := (Lib.cell_of_heap (w := w3.drew) v0 2).trans rfl
  have c3 : w3.drew.cell? ⟨w.heap.size, 3, none⟩ = some _ := (Lib.cell_of_heap (w := w3.drew) v0 3).trans rfl
  have c4 : w3.drew.cell? ⟨w.heap.size, 4, none⟩ = some _ := (Lib.cell_of_heap (w := w3.drew) v0 4).trans rfl
  have c5 : w3.drew.cell? ⟨w.heap.size, 5, none⟩ = some _ := (Lib.cell_of_heap (w := w3.drew) v0 5).trans rfl
  have d3 : w3.drew.cell? ⟨p, 3, none⟩ = some wv := (Lib.cell_of_heap (w := w3.drew) I3.box 3).trans rfl
  have I3 := Lib.hid I3.drew
  clear v0
  refine region_ph 7 (fun w' => w'.cell? ⟨w.heap.size, 0, none⟩ = some (.int .i64 xa) ∧ w'.cell? ⟨w.heap.size, 1, none⟩ = some (.int .i64 xb) ∧ w'.cell? ⟨w.heap.size, 2, none⟩ = some (.int .i64 xs) ∧ w'.cell? ⟨w.heap.size, 3, none⟩ = some (.int .i64 xt) ∧ w'.cell? ⟨w.heap.size, 4, none⟩ = some (.int .i64 ga) ∧ w'.cell? ⟨w.heap.size, 5, none⟩ = some (.int .i64 gb)) (fun w' => w'.cell? ⟨p, 3, none⟩ = some wv) (by kernel_rfl) ⟨c0, c1, c2, c3, c4, c5⟩ d3 (fun hp => ?_)
  obtain ⟨va, vc, rfl⟩ := own_val I3.out.wo
  generalize w3.drew = wd at *
  refine take_ph 24 (i := 0) rfl rfl (by decide) (by kernel_rfl) (by kernel_rfl) (by kernel_rfl) (fun _ _ _ h => h) (by rfl) (fun w hSw => by (try dsimp only at hSw); go_simp; first | done | with_reducible rfl) hp (fun hp => ?_)
  try simp only [Act.put, List.setIfInBounds_toArray, List.set_cons_zero, List.set_cons_succ]
  refine take_ph 25 (i := 1) rfl rfl (by decide) (by kernel_rfl) (by kernel_rfl) (by kernel_rfl) (fun _ _ _ h => h) (by rfl) (fun w hSw => by (try dsimp only at hSw); go_simp; first | done | with_reducible rfl) hp (fun hp => ?_)
  try simp only [Act.put, List.setIfInBounds_toArray, List.set_cons_zero, List.set_cons_succ]
  refine take_ph 26 (i := 2) rfl rfl (by decide) (by kernel_rfl) (by kernel_rfl) (by kernel_rfl) (fun _ _ _ h => h) (by rfl) (fun w hSw => by (try dsimp only at hSw); go_simp; first | done | with_reducible rfl) hp (fun hp => ?_)
  try simp only [Act.put, List.setIfInBounds_toArray, List.set_cons_zero, List.set_cons_succ]
  refine take_ph 27 (i := 3) rfl rfl (by decide) (by kernel_rfl) (by kernel_rfl) (by kernel_rfl) (fun _ _ _ h => h) (by rfl) (fun w hSw => by (try dsimp only at hSw); go_simp; first | done | with_reducible rfl) hp (fun hp => ?_)
  try simp only [Act.put, List.setIfInBounds_toArray, List.set_cons_zero, List.set_cons_succ]
  refine take_ph1 28 (i := 4) rfl rfl (by decide) (by rfl) (by kernel_rfl) (by kernel_rfl) (by kernel_rfl) (by kernel_rfl) (fun _ _ _ h => h) (by rfl) (fun w hSw hBw => by (try dsimp only at hSw hBw); go_simp; first | done | with_reducible rfl) hp (fun hp => ?_)
  try simp only [Act.put, List.setIfInBounds_toArray, List.set_cons_zero, List.set_cons_succ]
  refine take_ph 29 (i := 5) rfl rfl (by decide) (by kernel_rfl) (by kernel_rfl) (by kernel_rfl) (fun _ _ _ h => h) (by rfl) (fun w hSw => by (try dsimp only at hSw); go_simp; first | done | with_reducible rfl) hp (fun hp => ?_)
  try simp only [Act.put, List.setIfInBounds_toArray, List.set_cons_zero, List.set_cons_succ]
  refine AnyL.one (i := 6) (by kernel_rfl) rfl (fun K hK => ?_)
  go_simp
  refine hK.out _ _ (ph1 ⟨by rw [World.cell?_alloc_lt _ _ _ (show w.heap.size < _ from hx3)]; exact c0, by rw [World.cell?_alloc_lt _ _ _ (show w.heap.size < _ from hx3)]; exact c1, by rw [World.cell?_alloc_lt _ _ _ (show w.heap.size < _ from hx3)]; exact c2, by rw [World.cell?_alloc_lt _ _ _ (show w.heap.size < _ from hx3)]; exact c3, by rw [World.cell?_alloc_lt _ _ _ (show w.heap.size < _ from hx3)]; exact c4, by rw [World.cell?_alloc_lt _ _ _ (show w.heap.size < _ from hx3)]; exact c5⟩ (by rw [World.cell?_alloc_lt _ _ _ (show p < _ from hp3)]; exact d3)) (fun hp => ?_)
  clear hK
  try simp only [Act.put, List.setIfInBounds_toArray, List.set_cons_zero, List.set_cons_succ]
  refine AnyL.one (i := 7) (by kernel_rfl) rfl (fun K hK => ?_)
  refine step_appL (c := Wld.cells) (bytes := 48) rfl _ _ 101 55 rfl Try.underlying101 info_WldX (by omega) Wld.len Wld.one (p + 1) ws ⟨xa, xb, xs, xt, ga, gb⟩ (.slice va ws.length vc) rfl wd rfl I3.out.wo rfl (by omega) (by omega) (by omega) ?_
  intro g4 cap4 w4 hown4 hg4 hat4
  have hbp := (hg4.block p (by simp; omega) (Own.far I3.out.wo (Nat.lt_succ_self _))).trans ((Below.heap_alloc _ _ _ hp3).trans I3.out.box)
  have hbx := (hg4.block w.heap.size (by simp; omega) (fun e => G0.out.wv e.symm)).trans ((Below.heap_alloc _ _ _ hx3).trans K0.out)
  have r0 : w4.cell? ⟨w.heap.size, 0, none⟩ = some _ := (Lib.cell_of_heap hbx 0).trans rfl
  have r1 : w4.cell? ⟨w.heap.size, 1, none⟩ = some _ := (Lib.cell_of_heap hbx 1).trans rfl
  have r2 : w4.cell? ⟨w.heap.size, 2, none⟩ = some _ := (Lib.cell_of_heap hbx 2).trans rfl
  have r3 : w4.cell? ⟨w.heap.size, 3, none⟩ = some _ := (Lib.cell_of_heap hbx 3).trans rfl
  have r4 : w4.cell? ⟨w.heap.size, 4, none⟩ = some _ := (Lib.cell_of_heap hbx 4).trans rfl
  have r5 : w4.cell? ⟨w.heap.size, 5, none⟩ = some _ := (Lib.cell_of_heap hbx 5).trans rfl
  have m3 : w4.cell? ⟨p, 3, none⟩ = some _ := (Lib.cell_of_heap hbp 3).trans rfl
  have mf : w4.frozen? ⟨p, 3, none⟩ = false := Lib.frozen_of_heap hbp 3
  have I4 := I3.out.setW (g := g4) (cap := cap4) (ws' := ws ++ [xx]) (u := .slice (some ⟨g4, 0, none⟩) (ws.length + 1) cap4) (by simp) hg4 (Hxx.out ▸ hown4) hat4
  have B4 := Lib.hid ((Bd.out.trans (I3.out.wo.app (Below.refl _ _) (by have := hlo.out; omega) (by have := hlo.out; omega) hg4)).setCell (p := ⟨p, 3, none⟩) (by have := hlo.out; show sb ≤ p; omega) (.slice (some ⟨g4, 0, none⟩) (ws.length + 1) cap4))
  obtain ⟨I4, F4⟩ := I4
  have V4 := Lib.hid ((F4 _ Gd.out).2.trans V1.out)
  have G4 := Lib.hid (F4 _ Gd.out).1
  have Fd4 := Lib.hid (fun k hk => (⟨(F4 k (Fd.out k hk).1).1, (F4 k (Fd.out k hk).1).2.trans (Fd.out k hk).2⟩ : Far sb p _ fv bv _ k ∧ _ = w.heap[k]?))
  have I4 := Lib.hid I4
  clear hbp hbx hown4 hg4 hat4 F4 Fd Gd V1 I3 Bd G0 K0 c0 c1 c2 c3 c4 c5 d3 hp3 hx3
  refine hK.out _ _ (ph2 rfl ⟨r0, r1, r2, r3, r4, r5⟩) (fun hp => ?_)
  clear hK
  try simp only [Act.put, List.setIfInBounds_toArray]
  refine take_ph 32 (i := 8) rfl rfl (by decide) (by kernel_rfl) (by kernel_rfl) (by kernel_rfl) (fun _ _ _ h => h) (by rfl) (fun w hSw => by (try dsimp only at hSw); go_simp; first | done | with_reducible rfl) hp (fun hp => ?_)
  try simp only [Act.put]
  refine take_ph 33 (i := 9) rfl rfl (by decide) (by kernel_rfl) (by kernel_rfl) (by kernel_rfl) (fun _ _ _ h => h) (by rfl) (fun w hSw => by (try dsimp only at hSw); go_simp; first | done | with_reducible rfl) hp (fun hp => ?_)
  try simp only [Act.put]
  refine AnyL.one (i := 10) (by kernel_rfl) rfl (fun K hK => ?_)
  go_simp
  refine hK.out _ _ (ph2 rfl ⟨?_, ?_, ?_, ?_, ?_, ?_⟩) (fun hp => ?_)
  · rw [World.cell?_setCell_other _ _ _ _ (fun e => hpx (congrArg Addr.block e))]; exact r0
  · rw [World.cell?_setCell_other _ _ _ _ (fun e => hpx (congrArg Addr.block e))]; exact r1
  · rw [World.cell?_setCell_other _ _ _ _ (fun e => hpx (congrArg Addr.block e))]; exact r2
  · rw [World.cell?_setCell_other _ _ _ _ (fun e => hpx (congrArg Addr.block e))]; exact r3
  · rw [World.cell?_setCell_other _ _ _ _ (fun e => hpx (congrArg Addr.block e))]; exact r4
  · rw [World.cell?_setCell_other _ _ _ _ (fun e => hpx (congrArg Addr.block e))]; exact r5
  clear hK
  refine AnyL.done (by kernel_rfl) ?_ _
  clear r0 r1 r2 r3 r4 r5 m3 mf
  generalize w4.setCell ⟨p, 3, none⟩ (.slice (some ⟨g4, 0, none⟩) (ws.length + 1) cap4) = w5 at *
  generalize (.slice (some ⟨g4, 0, none⟩) (ws.length + 1) cap4 : Value) = wv2 at *
  obtain ⟨fa, fc, rfl⟩ := own_val I4.out.fo
  have hp5 := I4.out.plt
  have m4 : w5.cell? ⟨p, 4, none⟩ = some _ := (Lib.cell_of_heap I4.out.box 4).trans rfl
  have hsp := hlo.out
  go_wp2_with (at_builtin; refine wpList_appL (c := intCells) (bytes := 8) rfl _ _ 34 2 rfl Try.underlying34 info_IntX (by omega) intCells_len intCells_one (p + 1) fs fr (.slice fa fs.length fc) rfl w5 rfl I4.out.fo rfl (by omega) (by omega) (by omega) ?_; intro g5 cap5 w6 hown5 hg5 hat5; have hbp := (hg5.block p (by simp; omega) (Own.far I4.out.fo (Nat.lt_succ_self _))).trans ((Below.heap_alloc _ _ _ hp5).trans I4.out.box); have n4 : w6.cell? ⟨p, 4, none⟩ = some _ := (Lib.cell_of_heap hbp 4).trans rfl; have nf : w6.frozen? ⟨p, 4, none⟩ = false := Lib.frozen_of_heap hbp 4; have I5 := I4.out.setF (g := g5) (cap := cap5) (fs' := fs ++ [fr]) (u := .slice (some ⟨g5, 0, none⟩) (fs.length + 1) cap5) (by simp) hg5 hown5 hat5; have B5 := Lib.hid ((B4.out.trans (I4.out.fo.app (Below.refl _ _) (by omega) (by omega) hg5)).setCell (p := ⟨p, 4, none⟩) (by show sb ≤ p; omega) (.slice (some ⟨g5, 0, none⟩) (fs.length + 1) cap5)); obtain ⟨I5, F5⟩ := I5; have V5 := Lib.hid ((F5 _ G4.out).2.trans V4.out); have G5 := Lib.hid (F5 _ G4.out).1; have Fd5 := Lib.hid (fun k hk => (⟨(F5 k (Fd4.out k hk).1).1, (F5 k (Fd4.out k hk).1).2.trans (Fd4.out k hk).2⟩ : Far sb p _ _ bv _ k ∧ _ = w.heap[k]?)); have I5 := Lib.hid I5; clear hbp hown5 hg5 hat5 F5)
  clear n4 nf m4 hp5 I4 V4 G4 Fd4 B4
  generalize w6.setCell ⟨p, 4, none⟩ (.slice (some ⟨g5, 0, none⟩) (fs.length + 1) cap5) = w7 at *
  generalize (.slice (some ⟨g5, 0, none⟩) (fs.length + 1) cap5 : Value) = fv2 at *
  have I6 := Lib.hid I5.out.drew
  have V6 := Lib.hid (show w7.drew.heap[w.heap.size + 1]? = _ from V5.out)
  have Fd6 := Lib.hid (show ∀ k, Far sb p _ _ bv w k → Far sb p _ _ bv w7.drew k ∧ w7.drew.heap[k]? = w.heap[k]? from fun k hk => ⟨(Fd5.out k hk).1.ext (Nat.le_refl _), (Fd5.out k hk).2⟩)
  have G6 := Lib.hid (show Far sb p _ _ bv w7.drew (w.heap.size + 1) from G5.out.ext (Nat.le_refl _))
  have B6 := Lib.hid B5.out.drew
  clear I5 V5 G5 Fd5 B5
  have c0 : w7.drew.cell? ⟨w.heap.size + 1, 0, none⟩ = some _ := (Lib.cell_of_heap V6.out 0).trans rfl
  have c1 : w7.drew.cell? ⟨w.heap.size + 1, 1, none⟩ = some _ := (Lib.cell_of_heap V6.out 1).trans rfl
  have c2 : w7.drew.cell? ⟨w.heap.size + 1, 2, none⟩ = some _ := (Lib.cell_of_heap V6.out 2).trans rfl
  have c3 : w7.drew.cell? ⟨w.heap.size + 1, 3, none⟩ = some _ := (Lib.cell_of_heap V6.out 3).trans rfl
  have d3 : w7.drew.cell? ⟨p, 5, none⟩ = some bv := (Lib.cell_of_heap I6.out.box 5).trans rfl
  have hp7 : p < w7.drew.heap.size := I6.out.plt
  have hx7 : w.heap.size + 1 < w7.drew.heap.size := G6.out.lt
  have hpx : ¬ p = w.heap.size + 1 := Nat.ne_of_lt (by omega)
  refine region_ph 7 (fun w' => w'.cell? ⟨w.heap.size + 1, 0, none⟩ = some (.int .i64 tA) ∧ w'.cell? ⟨w.heap.size + 1, 1, none⟩ = some (.int .i64 tB) ∧ w'.cell? ⟨w.heap.size + 1, 2, none⟩ = some (.bool lA) ∧ w'.cell? ⟨w.heap.size + 1, 3, none⟩ = some (.bool lB)) (fun w' => w'.cell? ⟨p, 5, none⟩ = some bv) (by kernel_rfl) ⟨c0, c1, c2, c3⟩ d3 (fun hp => ?_)
  obtain ⟨ba, bc, rfl⟩ := own_val I6.out.bo
  generalize w7.drew = wd at *
  refine take_ph 44 (i := 0) rfl rfl (by decide) (by kernel_rfl) (by kernel_rfl) (by kernel_rfl) (fun _ _ _ h => h) (by rfl) (fun w hSw => by (try dsimp only at hSw); go_simp; first | done | with_reducible rfl) hp (fun hp => ?_)
  try simp only [Act.put, List.setIfInBounds_toArray, List.set_cons_zero, List.set_cons_succ]
  refine take_ph 45 (i := 1) rfl rfl (by decide) (by kernel_rfl) (by kernel_rfl) (by kernel_rfl) (fun _ _ _ h => h) (by rfl) (fun w hSw => by (try dsimp only at hSw); go_simp; first | done | with_reducible rfl) hp (fun hp => ?_)
  try simp only [Act.put, List.setIfInBounds_toArray, List.set_cons_zero, List.set_cons_succ]
  refine take_ph 46 (i := 2) rfl rfl (by decide) (by kernel_rfl) (by kernel_rfl) (by kernel_rfl) (fun _ _ _ h => h) (by rfl) (fun w hSw => by (try dsimp only at hSw); go_simp; first | done | with_reducible rfl) hp (fun hp => ?_)
  try simp only [Act.put, List.setIfInBounds_toArray, List.set_cons_zero, List.set_cons_succ]
  refine take_ph 47 (i := 3) rfl rfl (by decide) (by kernel_rfl) (by kernel_rfl) (by kernel_rfl) (fun _ _ _ h => h) (by rfl) (fun w hSw => by (try dsimp only at hSw); go_simp; first | done | with_reducible rfl) hp (fun hp => ?_)
  try simp only [Act.put, List.setIfInBounds_toArray, List.set_cons_zero, List.set_cons_succ]
  refine take_ph1 48 (i := 4) rfl rfl (by decide) (by rfl) (by kernel_rfl) (by kernel_rfl) (by kernel_rfl) (by kernel_rfl) (fun _ _ _ h => h) (by rfl) (fun w hSw hBw => by (try dsimp only at hSw hBw); go_simp; first | done | with_reducible rfl) hp (fun hp => ?_)
  try simp only [Act.put, List.setIfInBounds_toArray, List.set_cons_zero, List.set_cons_succ]
  refine take_ph 49 (i := 5) rfl rfl (by decide) (by kernel_rfl) (by kernel_rfl) (by kernel_rfl) (fun _ _ _ h => h) (by rfl) (fun w hSw => by (try dsimp only at hSw); go_simp; first | done | with_reducible rfl) hp (fun hp => ?_)
  try simp only [Act.put, List.setIfInBounds_toArray, List.set_cons_zero, List.set_cons_succ]
  refine AnyL.one (i := 6) (by kernel_rfl) rfl (fun K hK => ?_)
  go_simp
  refine hK.out _ _ (ph1 ⟨by rw [World.cell?_alloc_lt _ _ _ (show w.heap.size + 1 < _ from hx7)]; exact c0, by rw [World.cell?_alloc_lt _ _ _ (show w.heap.size + 1 < _ from hx7)]; exact c1, by rw [World.cell?_alloc_lt _ _ _ (show w.heap.size + 1 < _ from hx7)]; exact c2, by rw [World.cell?_alloc_lt _ _ _ (show w.heap.size + 1 < _ from hx7)]; exact c3⟩ (by rw [World.cell?_alloc_lt _ _ _ (show p < _ from hp7)]; exact d3)) (fun hp => ?_)
  clear hK
  try simp only [Act.put, List.setIfInBounds_toArray, List.set_cons_zero, List.set_cons_succ]
  refine AnyL.one (i := 7) (by kernel_rfl) rfl (fun K hK => ?_)
  refine step_appL (c := Act1.cells) (bytes := 24) rfl _ _ 65 69 rfl Try.underlying65 info_ActA (by omega) Act1.len Act1.one (p + 1) ys ⟨tA, tB, lA, lB⟩ (.slice ba ys.length bc) rfl wd rfl I6.out.bo rfl (by omega) (by omega) (by omega) ?_
  intro g4 cap4 w4 hown4 hg4 hat4
  have hbp := (hg4.block p (by simp; omega) (Own.far I6.out.bo (Nat.lt_succ_self _))).trans ((Below.heap_alloc _ _ _ hp7).trans I6.out.box)
  have hbx := (hg4.block (w.heap.size + 1) (by simp; omega) (fun e => G6.out.bv e.symm)).trans ((Below.heap_alloc _ _ _ hx7).trans V6.out)
  have r0 : w4.cell? ⟨w.heap.size + 1, 0, none⟩ = some _ := (Lib.cell_of_heap hbx 0).trans rfl
  have r1 : w4.cell? ⟨w.heap.size + 1, 1, none⟩ = some _ := (Lib.cell_of_heap hbx 1).trans rfl
  have r2 : w4.cell? ⟨w.heap.size + 1, 2, none⟩ = some _ := (Lib.cell_of_heap hbx 2).trans rfl
  have r3 : w4.cell? ⟨w.heap.size + 1, 3, none⟩ = some _ := (Lib.cell_of_heap hbx 3).trans rfl
  have m3 : w4.cell? ⟨p, 5, none⟩ = some _ := (Lib.cell_of_heap hbp 5).trans rfl
  have mf : w4.frozen? ⟨p, 5, none⟩ = false := Lib.frozen_of_heap hbp 5
  have I8 := I6.out.setB (g := g4) (cap := cap4) (ys' := ys ++ [yy]) (u := .slice (some ⟨g4, 0, none⟩) (ys.length + 1) cap4) (by simp) hg4 (Hyy.out ▸ hown4) hat4
  have B8 := Lib.hid ((B6.out.trans (I6.out.bo.app (Below.refl _ _) (by omega) (by omega) hg4)).setCell (p := ⟨p, 5, none⟩) (by show sb ≤ p; omega) (.slice (some ⟨g4, 0, none⟩) (ys.length + 1) cap4))
  obtain ⟨I8, F8⟩ := I8
  have Fd8 := Lib.hid (fun k hk => (⟨(F8 k (Fd6.out k hk).1).1, (F8 k (Fd6.out k hk).1).2.trans (Fd6.out k hk).2⟩ : Far sb p _ _ _ _ k ∧ _ = w.heap[k]?))
  have I8 := Lib.hid I8
  clear hbp hbx hown4 hg4 hat4 F8 Fd6 G6 V6 I6 B6 c0 c1 c2 c3 d3 hp7 hx7
  refine hK.out _ _ (ph2 rfl ⟨r0, r1, r2, r3⟩) (fun hp => ?_)
  clear hK
  try simp only [Act.put, List.setIfInBounds_toArray]
  refine take_ph 52 (i := 8) rfl rfl (by decide) (by kernel_rfl) (by kernel_rfl) (by kernel_rfl) (fun _ _ _ h => h) (by rfl) (fun w hSw => by (try dsimp only at hSw); go_simp; first | done | with_reducible rfl) hp (fun hp => ?_)
  try simp only [Act.put]
  refine take_ph 53 (i := 9) rfl rfl (by decide) (by kernel_rfl) (by kernel_rfl) (by kernel_rfl) (fun _ _ _ h => h) (by rfl) (fun w hSw => by (try dsimp only at hSw); go_simp; first | done | with_reducible rfl) hp (fun hp => ?_)
  try simp only [Act.put]
  refine AnyL.one (i := 10) (by kernel_rfl) rfl (fun K hK => ?_)
  go_simp
  refine hK.out _ _ (ph2 rfl ⟨?_, ?_, ?_, ?_⟩) (fun hp => ?_)
  · rw [World.cell?_setCell_other _ _ _ _ (fun e => hpx (congrArg Addr.block e))]; exact r0
  · rw [World.cell?_setCell_other _ _ _ _ (fun e => hpx (congrArg Addr.block e))]; exact r1
  · rw [World.cell?_setCell_other _ _ _ _ (fun e => hpx (congrArg Addr.block e))]; exact r2
  · rw [World.cell?_setCell_other _ _ _ _ (fun e => hpx (congrArg Addr.block e))]; exact r3
  clear hK
  refine AnyL.done (by kernel_rfl) ?_ _
  go_wp2
  go_end0
  exact ⟨rfl, _, _, _, _, I8.out, Hs2.out, Fd8.out, B8.out⟩
end Go.Proofs.Yteakogdojmgehaa
