/- The draws of a table: points, charts, cranes. The draws of a table: cranes. The draws of a table: the table. The draws of a table: A2Table. -/
import Derived.Test.YtmkhapgkiecmaaaSegG
import Derived.Test.YtmkhapgkiecmaaaSrc
import Derived.Handy
import Derived.Test.YtmkhapgkiecmaaaPh
import Derived.Test.YtmkhapgkiecmaaaTabC
namespace Go.Proofs.Ytmkhapgkiecmaaa
open Go.RowKit
theorem Mod.onD {lo hi : Nat} {w a a' : World} (h : Mod lo hi w a) (hb : Below w.heap.size a a') : Mod lo hi w a' :=
  ⟨hb.os.trans h.os, hb.tape.trans h.tape, hb.output.trans h.output, Nat.le_trans h.size hb.size, fun k hk ho => (hb.block k hk).trans (h.block k hk ho)⟩
theorem src_set {b A q j : Nat} {w : World} (h : Src b A w) (hq : b + 1 ≤ q) (v : Value) : Src b A (w.setCell ⟨q, j, none⟩ v) := h.lo ((Below.refl (b + 1) w).setCell (p := ⟨q, j, none⟩) hq v) (Nat.le_refl _)
theorem mod_set {b q j : Nat} {w w' : World} (h : Mod b (b + 1) w w') (hq : w.heap.size ≤ q) (v : Value) : Mod b (b + 1) w (w'.setCell ⟨q, j, none⟩ v) := h.onD ((Below.refl w.heap.size w').setCell (p := ⟨q, j, none⟩) hq v)
theorem blk_off {p q j : Nat} {w : World} {o : Obj} (h : w.heap[p]? = some o) (hq : p ≠ q) (v : Value) : (w.setCell ⟨q, j, none⟩ v).heap[p]? = some o := (Below.heap_setCell w ⟨q, j, none⟩ v p hq).trans h
theorem blk_on {q j : Nat} {w : World} {cs cs' : Array Value} {T : TypeId} {fz : Nat × Nat} (h : w.heap[q]? = some (.cells cs T fz)) {v : Value} (hc : cs' = cs.setIfInBounds j v) : (w.setCell ⟨q, j, none⟩ v).heap[q]? = some (.cells cs' T fz) := by
  subst hc
  simp [World.setCell, Array.getElem?_modify, h]
theorem blk_mod {b p : Nat} {w w' : World} {o : Obj} (h : w.heap[p]? = some o) (hm : Mod b (b + 1) w w') (hp : b < p) : w'.heap[p]? = some o := (hm.block p (Array.getElem?_eq_some_iff.1 h).1 (by omega)).trans h
def PtOut (b A : Nat) (w : World) (e : Ending) (w' : World) : Prop := ∃ x y : Int, e = .returned (.agg #[.int .i64 x, .int .i64 y]) ∧ (-600 ≤ x ∧ x ≤ 600) ∧ (-600 ≤ y ∧ y ≤ 600) ∧ Src b A w' ∧ Mod b (b + 1) w w'
set_option maxRecDepth 100000 in
set_option maxHeartbeats 4000000 in
theorem draw_Pt (b A : Nat) (w : World) (h : Src b A w) (hA : A ≤ 100000) : Calls Try.prog 119 #[.pointer (some ⟨b, 0, none⟩)] w (PtOut b (A + 4) w) := by
  have hp := Lib.hid (fun A w' h hA n hn => src_pick b A n w' h hA hn)
  have hbl := h.lt
  have hb0 := (Below.refl w.heap.size w).alloc (Nat.le_refl _) (.cells #[.int .i64 0, .int .i64 0] 114 (0, 0))
  have hS1 := Lib.hid (h.below hb0)
  have hM1 := Lib.hid (Mod.of_below (lo := b) (hi := b + 1) hb0)
  have hX1 : Hid ((w.alloc (.cells #[.int .i64 0, .int .i64 0] 114 (0, 0))).heap[w.heap.size]? = some (.cells #[.int .i64 0, .int .i64 0] 114 (0, 0))) := Lib.hid Array.getElem?_push_size
  clear h hb0
  go_enter Try.func119, Try.ntmps119
  go_wp2_with fail
  refine (hp.out A _ hS1.out (by omega) 1201 (by omega)).mono ?_
  rintro e w2 ⟨x, rfl, ⟨_, hx⟩, hs2, hm2⟩
  have hx := hx (by omega)
  have hS2 := Lib.hid hs2
  have hM2 := Lib.hid (hM1.out.trans hm2)
  have hX2 := Lib.hid (blk_mod hX1.out hm2 hbl)
  clear hs2 hm2 hS1 hM1 hX1
  go_wp2_with fail
  refine (hp.out _ _ hS2.out (by omega) 1201 (by omega)).mono ?_
  rintro e w3 ⟨y, rfl, ⟨_, hy⟩, hs3, hm3⟩
  have hy := hy (by omega)
  have hS3 := Lib.hid hs3
  have hM3 := Lib.hid (hM2.out.trans hm3)
  have hX3 := blk_mod hX2.out hm3 hbl
  have r0 := (Lib.cell_of_heap hX3 0).trans rfl
  have r1 := (Lib.cell_of_heap hX3 1).trans rfl
  have f0 := Lib.frozen_of_heap hX3 0
  have f1 := Lib.frozen_of_heap hX3 1
  have z3 := (Array.getElem?_eq_some_iff.1 hX3).1
  clear hs3 hm3 hS2 hM2 hX2 hX3
  go_wp2
  exact bodyPost_ret (v := .agg #[.int .i64 (x - 600), .int .i64 (y - 600)]) (by simp [results, Try.results119, go_sem, r0, r1, z3]) rfl ⟨_, _, rfl, by omega, by omega, src_set (src_set hS3.out (by omega) _) (by omega) _, mod_set (mod_set hM3.out (by omega) _) (by omega) _⟩
def ChtOut (b A : Nat) (w : World) (e : Ending) (w' : World) : Prop := ∃ a n c, e = .returned (.slice a n c) ∧ Src b A w' ∧ Mod b (b + 1) w w'
theorem info_stepD : (Try.prog.info? 151).map (fun i => (i.zero.map (·.cells.size), i.size, i.bytes)) = some (some 2, 2, 16) := by kernel_rfl
def stC (x : Int × Int) : List Value := [.int .i64 x.1, .int .i64 x.2]
theorem stC_len (x : Int × Int) : (stC x).length = 2 := rfl
theorem stC_one (x : Int × Int) : ∀ u ∈ stC x, u.oneCell' = true := by intro u hu; simp [stC] at hu; rcases hu with rfl | rfl <;> rfl
theorem own_valD {α : Type} {n : Nat} {c : α → List Value} {lo : Nat} {e : TypeId} {w : World} {v : Value} {l : List α} (h : Own n c lo e w v l) : ∃ a cap, v = .slice a l.length cap := by
  rcases h.2 with ⟨h0, h1⟩ | ⟨g, cap, cur, hv, _⟩
  · exact ⟨_, _, by rw [h1]; exact h0⟩
  · exact ⟨_, _, hv⟩
theorem draw_min (a b : Int) (w : World) : Calls Try.prog 126 #[.int .i64 a, .int .i64 b] w fun e w' => (∃ m, e = .returned (.int .i64 m) ∧ (m = a ∨ m = b) ∧ m ≤ a) ∧ w = w' := by
  by_cases h : a < b
  · go_enter Try.func126, Try.ntmps126
    go_wp2
    go_ret
    exact ⟨⟨_, rfl, .inl rfl, Int.le_refl _⟩, rfl⟩
  · go_enter Try.func126, Try.ntmps126
    go_wp2
    go_ret
    exact ⟨⟨_, rfl, .inr rfl, by omega⟩, rfl⟩
theorem draw_max (a b : Int) (w : World) : Calls Try.prog 125 #[.int .i64 a, .int .i64 b] w fun e w' => (∃ m, e = .returned (.int .i64 m) ∧ (m = a ∨ m = b) ∧ a ≤ m) ∧ w = w' := by
  by_cases h : b < a
  · go_enter Try.func125, Try.ntmps125
    go_wp2
    go_ret
    exact ⟨⟨_, rfl, .inl rfl, Int.le_refl _⟩, rfl⟩
  · go_enter Try.func125, Try.ntmps125
    go_wp2
    go_ret
    exact ⟨⟨_, rfl, .inr rfl, by omega⟩, rfl⟩
set_option maxRecDepth 100000 in
set_option maxHeartbeats 4000000 in
theorem draw_Chart (b A : Nat) (jib : Int) (w : World) (h : Src b A w) (hA : A ≤ 100000) (hj : 0 ≤ jib ∧ jib ≤ 1000) : Calls Try.prog 120 #[.pointer (some ⟨b, 0, none⟩), .int .i64 jib] w (ChtOut b (A + 30) w) := by
  have hp := Lib.hid (fun A w' h hA n hn => src_pick b A n w' h hA hn)
  have hbl := h.lt
  have hb0 := (Below.refl w.heap.size w).alloc (Nat.le_refl _) (.cells #[] 151 (0, 0))
  have hS1 := Lib.hid (h.below hb0)
  have hM1 := Lib.hid (Mod.of_below (lo := b) (hi := b + 1) hb0)
  have hO1 : Hid (Own 2 stC w.heap.size 151 (w.alloc (.cells #[] 151 (0, 0))) (.slice (some ⟨w.heap.size, 0, none⟩) 0 0) ([] : List (Int × Int))) := Lib.hid (own_empty w 151 w.heap.size (Nat.le_refl _))
  obtain ⟨hj0, hj1⟩ := hj
  clear h hb0
  go_enter Try.func120, Try.ntmps120
  go_wp2_with fail
  refine (hp.out A _ hS1.out (by omega) 9000 (by omega)).mono ?_
  rintro e w2 ⟨ld, rfl, ⟨_, hld⟩, hs2, hm2⟩
  have hld := hld (by omega)
  have hS2 := Lib.hid hs2
  have hM2 := Lib.hid (hM1.out.trans hm2)
  have hO2 := Lib.hid (hO1.out.mod hm2 (by omega))
  clear hs2 hm2 hS1 hM1 hO1
  go_wp2_with fail
  refine (hp.out _ _ hS2.out (by omega) 5 (by omega)).mono ?_
  rintro e w3 ⟨k0, rfl, ⟨_, hk0⟩, hs3, hm3⟩
  have hk0 := hk0 (by omega)
  have hS3 := Lib.hid hs3
  have hM3 := Lib.hid (hM2.out.trans hm3)
  have hO3 := Lib.hid (hO2.out.mod hm3 (by omega))
  clear hs3 hm3 hS2 hM2 hO2
  go_wp2_with fail
  go_loopw [5, 6, 7, 8] (fun o r l i wr => ∃ (k : Nat) (R L : Int) (acc : List (Int × Int)), i = .int .i64 k ∧ r = .int .i64 R ∧ l = .int .i64 L ∧ k ≤ 5 ∧ acc.length + k ≤ 5 ∧ (0 ≤ R ∧ R ≤ 1000) ∧ (0 ≤ L ∧ L ≤ 20000) ∧ Hid (Own 2 stC w.heap.size 151 wr o acc) ∧ Hid (Src b (A + 4 + 4 * (5 - k)) wr) ∧ Hid (Mod b (b + 1) w wr)) (fun _ _ _ i _ => (intOf i).toNat)
  case atStart => exact ⟨1 + k0, 20, _, [], congrArg (Value.int .i64) (by omega), rfl, rfl, by omega, by simp; omega, by omega, by omega, hO3, Lib.hid (hS3.out.mono (by omega)), hM3⟩
  case round =>
    clear hO3 hS3 hM3
    obtain ⟨k, R, L, acc, rfl, rfl, rfl, hk5, hlen, ⟨hR0, hR1⟩, ⟨hL0, hL1⟩, hO, hS, hM⟩ := hrel
    have hszr := hM.out.size
    have hltr := hS.out.lt
    by_cases hk : 0 < k
    · by_cases hr : R < jib
      · go_wp2_with fail
        refine (hp.out _ _ hS.out (by omega) 150 (by omega)).mono ?_
        rintro e w4 ⟨d, rfl, ⟨_, hd⟩, hs4, hm4⟩
        have hd := hd (by omega)
        have hS4 := Lib.hid hs4
        have hM4 := Lib.hid (hM.out.trans hm4)
        have hO4 := Lib.hid (hO.out.mod hm4 (by omega))
        have hsz4 := hM4.out.size
        have hlt4 := hs4.lt
        clear hs4 hm4 hS hM hO
        go_wp2_with fail
        refine (draw_min _ _ _).mono ?_
        rintro e w5 ⟨⟨R2, rfl, hR2, hR4⟩, rfl⟩
        have hR3 : 0 ≤ R2 ∧ R2 ≤ 1000 := by omega
        clear hR2 hR4
        obtain ⟨ga, gc, rfl⟩ := own_valD hO4.out
        obtain ⟨na, hna⟩ : ∃ na, acc.length = na := ⟨_, rfl⟩
        rw [hna] at hlen hO4 ⊢
        have Hna := Lib.hid hna
        clear hna
        go_wp2_with (at_builtin; refine wpList_app1 (c := stC) (bytes := 16) rfl _ _ 115 151 rfl Try.underlying115 info_stepD (by omega) stC_len stC_one w.heap.size acc (R2, L) _ rfl w4 rfl hO4.out rfl (by rw [Hna.out]; omega) (by rw [Hna.out]; omega) (by omega) ?_; intro v9 w9 hown9 hg9; have hB9 := hO4.out.app (Below.refl w.heap.size w4) (Nat.le_refl _) hsz4 hg9; have hO9 := Lib.hid hown9; have hS9 := Lib.hid (hS4.out.lo hB9 (by omega)); have hM9 := Lib.hid (hM4.out.onD hB9); clear hown9 hg9 hB9)
        refine (hp.out _ _ hS9.out (by omega) 2500 (by omega)).mono ?_
        rintro e w10 ⟨d2, rfl, ⟨_, hd2⟩, hs10, hm10⟩
        have hd2 := hd2 (by omega)
        have hS10 := Lib.hid hs10
        have hM10 := Lib.hid (hM9.out.trans hm10)
        have hO10 := Lib.hid (hO9.out.mod hm10 (by omega))
        clear hs10 hm10 hS9 hM9 hO9
        go_wp2_with fail
        refine (draw_max _ _ _).mono ?_
        rintro e w11 ⟨⟨L2, rfl, hL2, hL3⟩, rfl⟩
        have hL4 : 0 ≤ L2 ∧ L2 ≤ 20000 := by omega
        clear hL2 hL3
        go_wp2_with fail
        go_roundw
        case rel => exact ⟨k - 1, R2, L2, acc ++ [(R2, L)], congrArg (Value.int .i64) (by omega), rfl, rfl, by omega, by rw [List.length_append, Hna.out, List.length_singleton]; omega, hR3, hL4, hO10, Lib.hid (hS10.out.mono (by omega)), hM10⟩
        case measure => simp [intOf]; omega
      · obtain ⟨ga, gc, rfl⟩ := own_valD hO.out
        go_wp2
        go_ret
        exact ⟨_, _, _, rfl, hS.out.mono (by omega), hM.out⟩
    · obtain ⟨ga, gc, rfl⟩ := own_valD hO.out
      go_wp2
      go_ret
      exact ⟨_, _, _, rfl, hS.out.mono (by omega), hM.out⟩
def CrnOut (b A : Nat) (nm : ByteArray) (w : World) (e : Ending) (w' : World) : Prop := ∃ (x y h j k : Int) (a : Option Addr) (n c : Nat), e = .returned (.agg #[.string nm, .int .i64 x, .int .i64 y, .int .i64 h, .int .i64 j, .int .i64 k, .slice a n c]) ∧ (-600 ≤ x ∧ x ≤ 600) ∧ (-600 ≤ y ∧ y ≤ 600) ∧ (200 ≤ h ∧ h ≤ 600) ∧ (200 ≤ j ∧ j ≤ 600) ∧ (0 ≤ k ∧ k ≤ 150) ∧ Src b A w' ∧ Mod b (b + 1) w w'
set_option maxRecDepth 100000 in
set_option maxHeartbeats 4000000 in
theorem draw_Crane (b A : Nat) (nm : ByteArray) (w : World) (h : Src b A w) (hA : A ≤ 90000) : Calls Try.prog 110 #[.pointer (some ⟨b, 0, none⟩), .string nm] w (CrnOut b (A + 50) nm w) := by
  have hp := Lib.hid (fun A w' h hA n hn => src_pick b A n w' h hA hn)
  have hbl := h.lt
  have hb0 := (Below.refl w.heap.size w).alloc (Nat.le_refl _) (.cells #[.string ByteArray.empty, .int .i64 0, .int .i64 0, .int .i64 0, .int .i64 0, .int .i64 0, .slice none 0 0] 117 (0, 0))
  have hS1 := Lib.hid (h.below hb0)
  have hM1 := Lib.hid (Mod.of_below (lo := b) (hi := b + 1) hb0)
  have hX1 : Hid ((w.alloc (.cells #[.string ByteArray.empty, .int .i64 0, .int .i64 0, .int .i64 0, .int .i64 0, .int .i64 0, .slice none 0 0] 117 (0, 0))).heap[w.heap.size]? = some (.cells #[.string ByteArray.empty, .int .i64 0, .int .i64 0, .int .i64 0, .int .i64 0, .int .i64 0, .slice none 0 0] 117 (0, 0))) := Lib.hid Array.getElem?_push_size
  clear h hb0
  go_enter Try.func110, Try.ntmps110
  go_wp2_with fail
  refine (draw_Pt b _ _ hS1.out (by omega)).mono ?_
  rintro e w2 ⟨x, y, rfl, hx, hy, hs2, hm2⟩
  have hS2 := Lib.hid hs2
  have hM2 := Lib.hid (hM1.out.trans hm2)
  have hX2 := Lib.hid (blk_mod hX1.out hm2 hbl)
  clear hs2 hm2 hS1 hM1 hX1
  have hszp := hM2.out.size
  have hpl := (Array.getElem?_eq_some_iff.1 hX2.out).1
  have hb3 := (Below.refl w2.heap.size w2).alloc (Nat.le_refl _) (.cells #[.string nm, .int .i64 x, .int .i64 y, .int .i64 0, .int .i64 0, .int .i64 0, .slice none 0 0] 117 (0, 0))
  have hS := Lib.hid (hS2.out.below hb3)
  have hM := Lib.hid (hM2.out.then hb3)
  have hX := Lib.hid ((hb3.block _ hpl).trans hX2.out)
  have hQ : Hid ((w2.alloc (.cells #[.string nm, .int .i64 x, .int .i64 y, .int .i64 0, .int .i64 0, .int .i64 0, .slice none 0 0] 117 (0, 0))).heap[w2.heap.size]? = some (.cells #[.string nm, .int .i64 x, .int .i64 y, .int .i64 0, .int .i64 0, .int .i64 0, .slice none 0 0] 117 (0, 0))) := Lib.hid Array.getElem?_push_size
  clear hb3 hS2 hM2 hX2
  go_wp2_with fail
  refine (hp.out _ _ hS.out (by omega) 400 (by omega)).mono ?_
  rintro e w3 ⟨k3, rfl, ⟨_, hk3⟩, hs, hm⟩
  have hk3 := hk3 (by omega)
  have hQv := blk_mod hQ.out hm (by omega)
  have fk3 := Lib.frozen_of_heap hQv 3
  have ck3 := (Lib.cell_of_heap hQv 4).trans rfl
  have dk3 := (Lib.cell_of_heap hQv 3).trans rfl
  have hS := Lib.hid (src_set (j := 3) (q := w2.heap.size) hs (by omega) (.int .i64 (200 + (k3 : Int))))
  have hM := Lib.hid (mod_set (j := 3) (q := w2.heap.size) (hM.out.trans hm) (by omega) (.int .i64 (200 + (k3 : Int))))
  have hX := Lib.hid (blk_off (j := 3) (q := w2.heap.size) (blk_mod hX.out hm hbl) (by omega) (.int .i64 (200 + (k3 : Int))))
  have hQ := Lib.hid (blk_on (j := 3) hQv (cs' := #[.string nm, .int .i64 x, .int .i64 y, .int .i64 (200 + (k3 : Int)), .int .i64 0, .int .i64 0, .slice none 0 0]) (v := .int .i64 (200 + (k3 : Int))) rfl)
  clear hs hm hQv
  go_wp2_with fail
  clear fk3 ck3 dk3
  generalize (w3).setCell ⟨w2.heap.size, 3, none⟩ (.int .i64 (200 + (k3 : Int))) = w3 at *
  refine (hp.out _ _ hS.out (by omega) 400 (by omega)).mono ?_
  rintro e w4 ⟨k4, rfl, ⟨_, hk4⟩, hs, hm⟩
  have hk4 := hk4 (by omega)
  have hQv := blk_mod hQ.out hm (by omega)
  have fk4 := Lib.frozen_of_heap hQv 4
  have ck4 := (Lib.cell_of_heap hQv 4).trans rfl
  have dk4 := (Lib.cell_of_heap hQv 4).trans rfl
  have hS := Lib.hid (src_set (j := 4) (q := w2.heap.size) hs (by omega) (.int .i64 (200 + (k4 : Int))))
  have hM := Lib.hid (mod_set (j := 4) (q := w2.heap.size) (hM.out.trans hm) (by omega) (.int .i64 (200 + (k4 : Int))))
  have hX := Lib.hid (blk_off (j := 4) (q := w2.heap.size) (blk_mod hX.out hm hbl) (by omega) (.int .i64 (200 + (k4 : Int))))
  have hQ := Lib.hid (blk_on (j := 4) hQv (cs' := #[.string nm, .int .i64 x, .int .i64 y, .int .i64 (200 + (k3 : Int)), .int .i64 (200 + (k4 : Int)), .int .i64 0, .slice none 0 0]) (v := .int .i64 (200 + (k4 : Int))) rfl)
  clear hs hm hQv
  go_wp2_with fail
  clear fk4 ck4 dk4
  generalize (w4).setCell ⟨w2.heap.size, 4, none⟩ (.int .i64 (200 + (k4 : Int))) = w4 at *
  refine (hp.out _ _ hS.out (by omega) 150 (by omega)).mono ?_
  rintro e w5 ⟨k5, rfl, ⟨_, hk5⟩, hs, hm⟩
  have hk5 := hk5 (by omega)
  have hQv := blk_mod hQ.out hm (by omega)
  have fk5 := Lib.frozen_of_heap hQv 5
  have ck5 := (Lib.cell_of_heap hQv 4).trans rfl
  have dk5 := (Lib.cell_of_heap hQv 5).trans rfl
  have hS := Lib.hid (src_set (j := 5) (q := w2.heap.size) hs (by omega) (.int .i64 ((k5 : Int))))
  have hM := Lib.hid (mod_set (j := 5) (q := w2.heap.size) (hM.out.trans hm) (by omega) (.int .i64 ((k5 : Int))))
  have hX := Lib.hid (blk_off (j := 5) (q := w2.heap.size) (blk_mod hX.out hm hbl) (by omega) (.int .i64 ((k5 : Int))))
  have hQ := Lib.hid (blk_on (j := 5) hQv (cs' := #[.string nm, .int .i64 x, .int .i64 y, .int .i64 (200 + (k3 : Int)), .int .i64 (200 + (k4 : Int)), .int .i64 k5, .slice none 0 0]) (v := .int .i64 ((k5 : Int))) rfl)
  clear hs hm hQv
  go_wp2_with fail
  clear fk5 ck5 dk5
  generalize (w5).setCell ⟨w2.heap.size, 5, none⟩ (.int .i64 ((k5 : Int))) = w5 at *
  refine (draw_Chart b _ _ _ hS.out (by omega) (by omega)).mono ?_
  rintro e w6 ⟨ca, cn, cc, rfl, hs, hm⟩
  have hQ6 := blk_mod hQ.out hm (by omega)
  have hX6 := blk_mod hX.out hm hbl
  have hS := Lib.hid hs
  have hM := Lib.hid (hM.out.trans hm)
  have q0 := (Lib.cell_of_heap hQ6 0).trans rfl
  have q1 := (Lib.cell_of_heap hQ6 1).trans rfl
  have q2 := (Lib.cell_of_heap hQ6 2).trans rfl
  have q3 := (Lib.cell_of_heap hQ6 3).trans rfl
  have q4 := (Lib.cell_of_heap hQ6 4).trans rfl
  have q5 := (Lib.cell_of_heap hQ6 5).trans rfl
  have q6 := (Lib.cell_of_heap hQ6 6).trans rfl
  have f6 := fun j => Lib.frozen_of_heap hQ6 j
  have g6 := fun j => Lib.frozen_of_heap hX6 j
  have x0 := (Lib.cell_of_heap hX6 0).trans rfl
  have x1 := (Lib.cell_of_heap hX6 1).trans rfl
  have x2 := (Lib.cell_of_heap hX6 2).trans rfl
  have x3 := (Lib.cell_of_heap hX6 3).trans rfl
  have x4 := (Lib.cell_of_heap hX6 4).trans rfl
  have x5 := (Lib.cell_of_heap hX6 5).trans rfl
  have x6 := (Lib.cell_of_heap hX6 6).trans rfl
  have hne : w.heap.size ≠ w2.heap.size := by omega
  have hne2 : w2.heap.size ≠ w.heap.size := by omega
  have hql6 := (Array.getElem?_eq_some_iff.1 hQ6).1
  have hpl6 := (Array.getElem?_eq_some_iff.1 hX6).1
  clear hs hm hQ hX hQ6 hX6
  go_wp2_with fail
  exact bodyPost_ret (v := .agg #[.string nm, .int .i64 x, .int .i64 y, .int .i64 (200 + (k3 : Int)), .int .i64 (200 + (k4 : Int)), .int .i64 (k5 : Int), .slice ca cn cc]) (by simp [results, Try.results110, go_sem, x0, x1, x2, x3, x4, x5, x6, hpl6, hne, hne2]) rfl
    ⟨x, y, _, _, _, ca, cn, cc, rfl, hx, hy, by omega, by omega, by omega, src_set (src_set (src_set (src_set (src_set (src_set (src_set (src_set (hS.out.mono (by omega)) (by omega) _) (by omega) _) (by omega) _) (by omega) _) (by omega) _) (by omega) _) (by omega) _) (by omega) _,
      mod_set (mod_set (mod_set (mod_set (mod_set (mod_set (mod_set (mod_set hM.out (by omega) _) (by omega) _) (by omega) _) (by omega) _) (by omega) _) (by omega) _) (by omega) _) (by omega) _⟩
theorem draw_At (x y : Int) (d : Nat) (r : Int) (w : World) (hx : 0 ≤ x ∧ x ≤ 100) (hy : 0 ≤ y ∧ y ≤ 100) (hd : d < 24) (hr : 0 ≤ r ∧ r ≤ 1000) : Calls Try.prog 111 #[.agg #[.int .i64 x, .int .i64 y], .int .i64 d, .int .i64 r] w fun e w' => ∃ px py, e = .returned (.agg #[.int .i64 px, .int .i64 py]) ∧ Pl px py ∧ Below w.heap.size w w' := by
  have hp : Pl x y := by unfold Pl; omega
  refine (spec_At x y r d w hp hd hr).mono ?_
  rintro e w' ⟨rfl, hb⟩
  refine ⟨_, _, rfl, ?_, hb⟩
  obtain ⟨-, ⟨h1, h2⟩, -⟩ := plc_bd hp hd hr
  unfold Pl plcI
  dsimp only
  omega
theorem off2 {V : World} {p k o i j : Nat} {a1 a2 : Value} (hk : k ≠ p) : ((V.setCell ⟨p, i, none⟩ a1).setCell ⟨p, j, none⟩ a2).cell? ⟨k, o, none⟩ = V.cell? ⟨k, o, none⟩ := by
  have h : ∀ j : Nat, (⟨k, o, none⟩ : Addr) ≠ ⟨p, j, none⟩ := fun j e => hk (congrArg Addr.block e)
  rw [World.cell?_setCell_other _ _ _ _ (h j).symm, World.cell?_setCell_other _ _ _ _ (h i).symm]
theorem off1 {V : World} {p k o i : Nat} {a1 : Value} (hk : k ≠ p) : (V.setCell ⟨p, i, none⟩ a1).cell? ⟨k, o, none⟩ = V.cell? ⟨k, o, none⟩ :=
  World.cell?_setCell_other _ _ _ _ (fun e => hk (congrArg Addr.block e).symm)
theorem off7 {V : World} {p k o : Nat} {a0 a1 a2 a3 a4 a5 a6 : Value} (hk : k ≠ p) : (((((((V.setCell ⟨p, 0, none⟩ a0).setCell ⟨p, 1, none⟩ a1).setCell ⟨p, 2, none⟩ a2).setCell ⟨p, 3, none⟩ a3).setCell ⟨p, 4, none⟩ a4).setCell ⟨p, 5, none⟩ a5).setCell ⟨p, 6, none⟩ a6).cell? ⟨k, o, none⟩ = V.cell? ⟨k, o, none⟩ :=
  (off1 hk).trans ((off1 hk).trans ((off1 hk).trans ((off1 hk).trans ((off1 hk).trans ((off1 hk).trans (off1 hk))))))
theorem cell_drewD {X : World} {a : Addr} : X.drew.cell? a = X.cell? a := rfl
theorem set7 {V : World} {p : Nat} {T : TypeId} {fz : Nat × Nat} {c0 c1 c2 c3 c4 c5 c6 a0 a1 a2 a3 a4 a5 a6 : Value} (h : V.heap[p]? = some (.cells #[c0, c1, c2, c3, c4, c5, c6] T fz)) :
    (((((((V.setCell ⟨p, 0, none⟩ a0).setCell ⟨p, 1, none⟩ a1).setCell ⟨p, 2, none⟩ a2).setCell ⟨p, 3, none⟩ a3).setCell ⟨p, 4, none⟩ a4).setCell ⟨p, 5, none⟩ a5).setCell ⟨p, 6, none⟩ a6).heap[p]? = some (.cells #[a0, a1, a2, a3, a4, a5, a6] T fz) := by
  simp [World.setCell, Array.getElem?_modify, h]
theorem off7h {V : World} {p k : Nat} {o : Obj} {a0 a1 a2 a3 a4 a5 a6 : Value} (h : V.heap[k]? = some o) (hk : k ≠ p) :
    (((((((V.setCell ⟨p, 0, none⟩ a0).setCell ⟨p, 1, none⟩ a1).setCell ⟨p, 2, none⟩ a2).setCell ⟨p, 3, none⟩ a3).setCell ⟨p, 4, none⟩ a4).setCell ⟨p, 5, none⟩ a5).setCell ⟨p, 6, none⟩ a6).heap[k]? = some o :=
  blk_off (blk_off (blk_off (blk_off (blk_off (blk_off (blk_off h hk _) hk _) hk _) hk _) hk _) hk _) hk _
theorem below7 {B p : Nat} (V : World) {a0 a1 a2 a3 a4 a5 a6 : Value} (hB : B ≤ p) : Below B V (((((((V.setCell ⟨p, 0, none⟩ a0).setCell ⟨p, 1, none⟩ a1).setCell ⟨p, 2, none⟩ a2).setCell ⟨p, 3, none⟩ a3).setCell ⟨p, 4, none⟩ a4).setCell ⟨p, 5, none⟩ a5).setCell ⟨p, 6, none⟩ a6) :=
  (((((((Below.refl B V).setCell hB _).setCell hB _).setCell hB _).setCell hB _).setCell hB _).setCell hB _).setCell hB _
theorem off7d {V : World} {p k o : Nat} {a0 a1 a2 a3 a4 a5 a6 : Value} (hk : k ≠ p) : (((((((V.setCell ⟨p, 0, none⟩ a0).setCell ⟨p, 1, none⟩ a1).setCell ⟨p, 2, none⟩ a2).setCell ⟨p, 3, none⟩ a3).setCell ⟨p, 4, none⟩ a4).setCell ⟨p, 5, none⟩ a5).setCell ⟨p, 6, none⟩ a6).drew.cell? ⟨k, o, none⟩ = V.cell? ⟨k, o, none⟩ := cell_drewD.trans (off7 hk)
def TwoOut (b A : Nat) (w : World) (e : Ending) (w' : World) : Prop := ∃ (f g : CraneF) (a a2 : Option Addr) (n c n2 c2 : Nat), e = .returned (.tuple #[.agg #[.string f.name, .int .i64 f.x, .int .i64 f.y, .int .i64 f.height, .int .i64 f.jib, .int .i64 f.back, .slice a n c], .agg #[.string g.name, .int .i64 g.x, .int .i64 g.y, .int .i64 g.height, .int .i64 g.jib, .int .i64 g.back, .slice a2 n2 c2]]) ∧ GeoOk f ∧ GeoOk g ∧ Src b A w' ∧ Mod b (b + 1) w w'
set_option maxRecDepth 100000 in
set_option maxHeartbeats 4000000 in
theorem draw_Two (b A : Nat) (w : World) (h : Src b A w) (hA : A ≤ 80000) : Calls Try.prog 93 #[.pointer (some ⟨b, 0, none⟩)] w (TwoOut b (A + 150) w) := by
  have hp := Lib.hid (fun A w' h hA n hn => src_pick b A n w' h hA hn)
  have hbl := h.lt
  have hb0 := ((Below.refl w.heap.size w).alloc (Nat.le_refl _) (.cells #[.string ByteArray.empty, .int .i64 0, .int .i64 0, .int .i64 0, .int .i64 0, .int .i64 0, .slice none 0 0] 117 (0, 0))).alloc (by simp) (.cells #[.string ByteArray.empty, .int .i64 0, .int .i64 0, .int .i64 0, .int .i64 0, .int .i64 0, .slice none 0 0] 117 (0, 0))
  have hS1 := Lib.hid (h.below hb0)
  have hM1 := Lib.hid (Mod.of_below (lo := b) (hi := b + 1) hb0)
  have hX1 : Hid (((w.alloc (.cells #[.string ByteArray.empty, .int .i64 0, .int .i64 0, .int .i64 0, .int .i64 0, .int .i64 0, .slice none 0 0] 117 (0, 0))).alloc (.cells #[.string ByteArray.empty, .int .i64 0, .int .i64 0, .int .i64 0, .int .i64 0, .int .i64 0, .slice none 0 0] 117 (0, 0))).heap[w.heap.size]? = some (.cells #[.string ByteArray.empty, .int .i64 0, .int .i64 0, .int .i64 0, .int .i64 0, .int .i64 0, .slice none 0 0] 117 (0, 0))) := Lib.hid (box2_0 w (.cells #[.string ByteArray.empty, .int .i64 0, .int .i64 0, .int .i64 0, .int .i64 0, .int .i64 0, .slice none 0 0] 117 (0, 0)) (.cells #[.string ByteArray.empty, .int .i64 0, .int .i64 0, .int .i64 0, .int .i64 0, .int .i64 0, .slice none 0 0] 117 (0, 0)))
  have hY1 : Hid (((w.alloc (.cells #[.string ByteArray.empty, .int .i64 0, .int .i64 0, .int .i64 0, .int .i64 0, .int .i64 0, .slice none 0 0] 117 (0, 0))).alloc (.cells #[.string ByteArray.empty, .int .i64 0, .int .i64 0, .int .i64 0, .int .i64 0, .int .i64 0, .slice none 0 0] 117 (0, 0))).heap[w.heap.size + 1]? = some (.cells #[.string ByteArray.empty, .int .i64 0, .int .i64 0, .int .i64 0, .int .i64 0, .int .i64 0, .slice none 0 0] 117 (0, 0))) := Lib.hid (box2_1 w (.cells #[.string ByteArray.empty, .int .i64 0, .int .i64 0, .int .i64 0, .int .i64 0, .int .i64 0, .slice none 0 0] 117 (0, 0)) (.cells #[.string ByteArray.empty, .int .i64 0, .int .i64 0, .int .i64 0, .int .i64 0, .int .i64 0, .slice none 0 0] 117 (0, 0)))
  clear h hb0
  go_enter Try.func93, Try.ntmps93
  go_wp2_with fail
  refine (draw_Crane b _ _ _ hS1.out (by omega)).mono ?_
  rintro e w2 ⟨x, y, ht, j, k, ca, cn, cc, rfl, hx, hy, hht, hj, hk, hs2, hm2⟩
  have hS2 := Lib.hid hs2
  have hM2 := Lib.hid (hM1.out.trans hm2)
  have hX2 := Lib.hid (blk_mod hX1.out hm2 hbl)
  have hY2 := Lib.hid (blk_mod hY1.out hm2 (by omega))
  clear hs2 hm2 hS1 hM1 hX1 hY1
  have hsz2 := hM2.out.size
  have hxl := (Array.getElem?_eq_some_iff.1 hX2.out).1
  have hyl := (Array.getElem?_eq_some_iff.1 hY2.out).1
  obtain ⟨n1, hn1⟩ : ∃ n1 : ByteArray, (⟨#[97, 100, 97]⟩ : ByteArray) = n1 := ⟨_, rfl⟩
  have hb3 := (Below.refl w2.heap.size w2).alloc (Nat.le_refl _) (.cells #[.string n1, .int .i64 x, .int .i64 y, .int .i64 ht, .int .i64 j, .int .i64 k, .slice ca cn cc] 117 (0, 0))
  have hS3 := Lib.hid (hS2.out.below hb3)
  have hM3 := Lib.hid (hM2.out.then hb3)
  have hX3 := Lib.hid ((hb3.block _ hxl).trans hX2.out)
  have hY3 := Lib.hid ((hb3.block _ hyl).trans hY2.out)
  have hA3 : Hid ((w2.alloc (.cells #[.string n1, .int .i64 x, .int .i64 y, .int .i64 ht, .int .i64 j, .int .i64 k, .slice ca cn cc] 117 (0, 0))).heap[w2.heap.size]? = some (.cells #[.string n1, .int .i64 x, .int .i64 y, .int .i64 ht, .int .i64 j, .int .i64 k, .slice ca cn cc] 117 (0, 0))) := Lib.hid Array.getElem?_push_size
  clear hb3 hS2 hM2 hX2 hY2
  go_wp2_with fail
  refine (draw_Crane b _ _ _ hS3.out (by omega)).mono ?_
  rintro e w4 ⟨x2, y2, ht2, j2, k2, ca2, cn2, cc2, rfl, hx2, hy2, hht2, hj2, hk2, hs4, hm4⟩
  have hS4 := Lib.hid hs4
  have hM4 := Lib.hid (hM3.out.trans hm4)
  have hX4 := Lib.hid (blk_mod hX3.out hm4 hbl)
  have hY4 := Lib.hid (blk_mod hY3.out hm4 (by omega))
  have hA4 := Lib.hid (blk_mod hA3.out hm4 (by omega))
  have hsz4 := hM4.out.size
  have hal4 := (Array.getElem?_eq_some_iff.1 hA4.out).1
  clear hs4 hm4 hS3 hM3 hX3 hY3 hA3
  obtain ⟨n2, hn2⟩ : ∃ n2 : ByteArray, (⟨#[98, 111]⟩ : ByteArray) = n2 := ⟨_, rfl⟩
  rw [hn2]
  clear hn2
  have hb5 := (Below.refl w4.heap.size w4).alloc (Nat.le_refl _) (.cells #[.string n2, .int .i64 x2, .int .i64 y2, .int .i64 ht2, .int .i64 j2, .int .i64 k2, .slice ca2 cn2 cc2] 117 (0, 0))
  have hS := Lib.hid (hS4.out.below hb5)
  have hM := Lib.hid (hM4.out.then hb5)
  have hX := Lib.hid ((hb5.block _ (by omega)).trans hX4.out)
  have hY := Lib.hid ((hb5.block _ (by omega)).trans hY4.out)
  have hA := Lib.hid ((hb5.block _ hal4).trans hA4.out)
  have hB : Hid ((w4.alloc (.cells #[.string n2, .int .i64 x2, .int .i64 y2, .int .i64 ht2, .int .i64 j2, .int .i64 k2, .slice ca2 cn2 cc2] 117 (0, 0))).heap[w4.heap.size]? = some (.cells #[.string n2, .int .i64 x2, .int .i64 y2, .int .i64 ht2, .int .i64 j2, .int .i64 k2, .slice ca2 cn2 cc2] 117 (0, 0))) := Lib.hid Array.getElem?_push_size
  clear hb5 hS4 hM4 hX4 hY4 hA4
  clear hn1
  go_wp2_with fail
  refine (hp.out _ _ hS.out (by omega) 100 (by omega)).mono ?_
  rintro e w6 ⟨k6, rfl, ⟨_, hk6⟩, hs, hm⟩
  have hk6 := hk6 (by omega)
  have hAv := blk_mod hA.out hm (by omega)
  have fk6 := Lib.frozen_of_heap hAv 1
  have dk6 := (Lib.cell_of_heap hAv 1).trans rfl
  have hS := Lib.hid (src_set (j := 1) (q := w2.heap.size) hs (by omega) (.int .i64 ((k6 : Int))))
  have hM := Lib.hid (mod_set (j := 1) (q := w2.heap.size) (hM.out.trans hm) (by omega) (.int .i64 ((k6 : Int))))
  have hX := Lib.hid (blk_off (j := 1) (q := w2.heap.size) (blk_mod hX.out hm hbl) (by omega) (.int .i64 ((k6 : Int))))
  have hY := Lib.hid (blk_off (j := 1) (q := w2.heap.size) (blk_mod hY.out hm (by omega)) (by omega) (.int .i64 ((k6 : Int))))
  have hB := Lib.hid (blk_off (j := 1) (q := w2.heap.size) (blk_mod hB.out hm (by omega)) (by omega) (.int .i64 ((k6 : Int))))
  have hA := Lib.hid (blk_on (j := 1) hAv (cs' := #[.string n1, .int .i64 k6, .int .i64 y, .int .i64 ht, .int .i64 j, .int .i64 k, .slice ca cn cc]) (v := .int .i64 ((k6 : Int))) rfl)
  clear hs hm hAv
  go_wp2_with fail
  clear fk6 dk6
  generalize (w6).setCell ⟨w2.heap.size, 1, none⟩ (.int .i64 ((k6 : Int))) = w6 at *
  refine (hp.out _ _ hS.out (by omega) 100 (by omega)).mono ?_
  rintro e w7 ⟨k7, rfl, ⟨_, hk7⟩, hs, hm⟩
  have hk7 := hk7 (by omega)
  have hAv := blk_mod hA.out hm (by omega)
  have fk7 := Lib.frozen_of_heap hAv 2
  have dk7 := (Lib.cell_of_heap hAv 2).trans rfl
  have hS := Lib.hid (src_set (j := 2) (q := w2.heap.size) hs (by omega) (.int .i64 ((k7 : Int))))
  have hM := Lib.hid (mod_set (j := 2) (q := w2.heap.size) (hM.out.trans hm) (by omega) (.int .i64 ((k7 : Int))))
  have hX := Lib.hid (blk_off (j := 2) (q := w2.heap.size) (blk_mod hX.out hm hbl) (by omega) (.int .i64 ((k7 : Int))))
  have hY := Lib.hid (blk_off (j := 2) (q := w2.heap.size) (blk_mod hY.out hm (by omega)) (by omega) (.int .i64 ((k7 : Int))))
  have hB := Lib.hid (blk_off (j := 2) (q := w2.heap.size) (blk_mod hB.out hm (by omega)) (by omega) (.int .i64 ((k7 : Int))))
  have hA := Lib.hid (blk_on (j := 2) hAv (cs' := #[.string n1, .int .i64 k6, .int .i64 k7, .int .i64 ht, .int .i64 j, .int .i64 k, .slice ca cn cc]) (v := .int .i64 ((k7 : Int))) rfl)
  clear hs hm hAv
  go_wp2_with fail
  clear fk7 dk7
  generalize (w7).setCell ⟨w2.heap.size, 2, none⟩ (.int .i64 ((k7 : Int))) = w7 at *
  refine (hp.out _ _ hS.out (by omega) 24 (by omega)).mono ?_
  rintro e w8 ⟨d, rfl, ⟨_, hd⟩, hs, hm⟩
  have hd := hd (by omega)
  have hS := Lib.hid hs
  have hM := Lib.hid (hM.out.trans hm)
  have hX := Lib.hid (blk_mod hX.out hm hbl)
  have hY := Lib.hid (blk_mod hY.out hm (by omega))
  have hA := Lib.hid (blk_mod hA.out hm (by omega))
  have hB := Lib.hid (blk_mod hB.out hm (by omega))
  have a1 := (Lib.cell_of_heap hA.out 1).trans rfl
  have a2 := (Lib.cell_of_heap hA.out 2).trans rfl
  clear hs hm
  have hpl : Pl (k6 : Int) (k7 : Int) := by unfold Pl; omega
  go_wp2_with fail
  go_region_held3 (fun w' => w'.cell? ⟨w2.heap.size, 1, none⟩ = some (.int .i64 k6) ∧ w'.cell? ⟨w2.heap.size, 2, none⟩ = some (.int .i64 k7)) (first | exact ⟨a1, a2⟩ | exact ⟨e1, e2⟩ | exact ⟨h1, h2⟩ | exact ⟨(off2 (by omega)).trans h1, (off2 (by omega)).trans h2⟩)
    (first
      | (go_at_call 53; refine (hp.out _ _ (hS.out.below ?hb) (by omega) 700 (by omega)).mono ?_; (case hb => go_grown); rintro e w9 ⟨r, rfl, ⟨_, hr⟩, hs9, hm9⟩; have hr := hr (by omega); have hm : Mod b (b + 1) w8 w9 := (Mod.of_below (by go_grown)).trans hm9; have hA9 := blk_mod hA.out hm (by omega); have hB9 := blk_mod hB.out hm (by omega); have hX9 := blk_mod hX.out hm hbl; have hY9 := blk_mod hY.out hm (by omega); have e1 := (Lib.cell_of_heap hA9 1).trans rfl; have e2 := (Lib.cell_of_heap hA9 2).trans rfl; have hwr : IntKind.i64.wrap (60 + (r : Int)) = 60 + (r : Int) := IntWalk.i64_in _ (by omega))
      | (go_at_call 111; refine (draw_At k6 k7 d (60 + (r : Int)) _ (by omega) (by omega) (by omega) (by omega)).mono ?_; rintro e w10 ⟨px, py, rfl, hpp, hb10⟩; have hA10 := (hb10.block _ (Array.getElem?_eq_some_iff.1 hA9).1).trans hA9; have hB10 := (hb10.block _ (Array.getElem?_eq_some_iff.1 hB9).1).trans hB9; have h1 := (Lib.cell_of_heap hA10 1).trans rfl; have h2 := (Lib.cell_of_heap hA10 2).trans rfl; have q1 := (Lib.cell_of_heap hB10 1).trans rfl; have q2 := (Lib.cell_of_heap hB10 2).trans rfl; have f1 := Lib.frozen_of_heap hB10 1; have f2 := Lib.frozen_of_heap hB10 2))
  rename_i hHeld
  clear hHeld
  have hS := Lib.hid (src_set (j := 2) (q := w4.heap.size) (src_set (j := 1) (q := w4.heap.size) (hs9.below hb10) (by omega) (.int .i64 px)) (by omega) (.int .i64 py))
  have hM := Lib.hid (mod_set (j := 2) (q := w4.heap.size) (mod_set (j := 1) (q := w4.heap.size) ((hM.out.trans hm).then hb10) (by omega) (.int .i64 px)) (by omega) (.int .i64 py))
  have hX := Lib.hid (blk_off (j := 2) (q := w4.heap.size) (blk_off (j := 1) (q := w4.heap.size) ((hb10.block _ (Array.getElem?_eq_some_iff.1 hX9).1).trans hX9) (by omega) (.int .i64 px)) (by omega) (.int .i64 py))
  have hY := Lib.hid (blk_off (j := 2) (q := w4.heap.size) (blk_off (j := 1) (q := w4.heap.size) ((hb10.block _ (Array.getElem?_eq_some_iff.1 hY9).1).trans hY9) (by omega) (.int .i64 px)) (by omega) (.int .i64 py))
  have hA := Lib.hid (blk_off (j := 2) (q := w4.heap.size) (blk_off (j := 1) (q := w4.heap.size) hA10 (by omega) (.int .i64 px)) (by omega) (.int .i64 py))
  have hB := Lib.hid (blk_on (j := 2) (blk_on (j := 1) hB10 (cs' := #[.string n2, .int .i64 px, .int .i64 y2, .int .i64 ht2, .int .i64 j2, .int .i64 k2, .slice ca2 cn2 cc2]) (v := .int .i64 px) rfl) (cs' := #[.string n2, .int .i64 px, .int .i64 py, .int .i64 ht2, .int .i64 j2, .int .i64 k2, .slice ca2 cn2 cc2]) (v := .int .i64 py) rfl)
  clear hs9 hm hm9 hA9 hB9 hX9 hY9 hA10 hB10 a1 a2 e1 e2 h1 h2 q1 q2 f1 f2 hb10
  generalize (w10.setCell ⟨w4.heap.size, 1, none⟩ (.int .i64 px)).setCell ⟨w4.heap.size, 2, none⟩ (.int .i64 py) = wa at *
  go_wp2_with fail
  refine (src_one b _ 2 _ hS.out (by omega) (by omega)).mono ?_
  rintro e wb ⟨yes, rfl, hs, hm⟩
  have hS := Lib.hid hs
  have hM := Lib.hid (hM.out.trans hm)
  have hX := Lib.hid (blk_mod hX.out hm hbl)
  have hY := Lib.hid (blk_mod hY.out hm (by omega))
  have hA := Lib.hid (blk_mod hA.out hm (by omega))
  have hB := Lib.hid (blk_mod hB.out hm (by omega))
  clear hs hm
  cases yes with
  | true =>
    have a3 := (Lib.cell_of_heap hA.out 3).trans rfl
    go_wp2_with fail
    go_region_held3 (fun w' => w'.cell? ⟨w2.heap.size, 3, none⟩ = some (.int .i64 ht)) (first | exact a3 | exact e3 | exact (off1 (by omega)).trans e3)
      (first
        | (go_at_call 53; refine (hp.out _ _ (hS.out.below ?hb) (by omega) 161 (by omega)).mono ?_; (case hb => go_grown); rintro e wc ⟨m, rfl, ⟨_, hmm⟩, hs9, hm9⟩; have hmm := hmm (by omega); have hm : Mod b (b + 1) wb wc := (Mod.of_below (by go_grown)).trans hm9; have hA9 := blk_mod hA.out hm (by omega); have hB9 := blk_mod hB.out hm (by omega); have hX9 := blk_mod hX.out hm hbl; have hY9 := blk_mod hY.out hm (by omega); have e3 := (Lib.cell_of_heap hA9 3).trans rfl; have d3 := (Lib.cell_of_heap hB9 3).trans rfl; have f3 := Lib.frozen_of_heap hB9 3; have hwr : IntKind.i64.wrap (ht + (m : Int)) = ht + (m : Int) := IntWalk.i64_in _ (by omega); have hwr2 : IntKind.i64.wrap (ht + (m : Int) - 80) = ht + (m : Int) - 80 := IntWalk.i64_in _ (by omega)))
    rename_i hHeld
    clear hHeld
    have hS := Lib.hid (src_set (j := 3) (q := w4.heap.size) hs9 (by omega) (.int .i64 (ht + (m : Int) - 80)))
    have hM := Lib.hid (mod_set (j := 3) (q := w4.heap.size) (hM.out.trans hm) (by omega) (.int .i64 (ht + (m : Int) - 80)))
    have hX := Lib.hid (blk_off (j := 3) (q := w4.heap.size) hX9 (by omega) (.int .i64 (ht + (m : Int) - 80)))
    have hY := Lib.hid (blk_off (j := 3) (q := w4.heap.size) hY9 (by omega) (.int .i64 (ht + (m : Int) - 80)))
    have hA := Lib.hid (blk_off (j := 3) (q := w4.heap.size) hA9 (by omega) (.int .i64 (ht + (m : Int) - 80)))
    have hB := Lib.hid (blk_on (j := 3) hB9 (cs' := #[.string n2, .int .i64 px, .int .i64 py, .int .i64 (ht + (m : Int) - 80), .int .i64 j2, .int .i64 k2, .slice ca2 cn2 cc2]) (v := .int .i64 (ht + (m : Int) - 80)) rfl)
    clear hs9 hm hm9 hA9 hB9 hX9 hY9 a3 e3 d3 f3 hwr hwr2
    obtain ⟨hb2, hhb⟩ : ∃ hb2, hb2 = ht + (m : Int) - 80 := ⟨_, rfl⟩
    rw [← hhb] at hS hM hX hY hA hB ⊢
    have hhb2 : 100 ≤ hb2 ∧ hb2 ≤ 800 := by omega
    clear hhb
    generalize wc.setCell ⟨w4.heap.size, 3, none⟩ (.int .i64 hb2) = wd at *
    go_wp2_with fail
    have hA' := hA.out
    have hB' := hB.out
    have hX' := hX.out
    have hY' := hY.out
    have a0 := (Lib.cell_of_heap hA' 0).trans rfl
    have a1 := (Lib.cell_of_heap hA' 1).trans rfl
    have a2 := (Lib.cell_of_heap hA' 2).trans rfl
    have a3 := (Lib.cell_of_heap hA' 3).trans rfl
    have a4 := (Lib.cell_of_heap hA' 4).trans rfl
    have a5 := (Lib.cell_of_heap hA' 5).trans rfl
    have a6 := (Lib.cell_of_heap hA' 6).trans rfl
    have b0 := (Lib.cell_of_heap hB' 0).trans rfl
    have b1 := (Lib.cell_of_heap hB' 1).trans rfl
    have b2 := (Lib.cell_of_heap hB' 2).trans rfl
    have b3 := (Lib.cell_of_heap hB' 3).trans rfl
    have b4 := (Lib.cell_of_heap hB' 4).trans rfl
    have b5 := (Lib.cell_of_heap hB' 5).trans rfl
    have b6 := (Lib.cell_of_heap hB' 6).trans rfl
    have x0 := (Lib.cell_of_heap hX' 0).trans rfl
    have x1 := (Lib.cell_of_heap hX' 1).trans rfl
    have x2 := (Lib.cell_of_heap hX' 2).trans rfl
    have x3 := (Lib.cell_of_heap hX' 3).trans rfl
    have x4 := (Lib.cell_of_heap hX' 4).trans rfl
    have x5 := (Lib.cell_of_heap hX' 5).trans rfl
    have x6 := (Lib.cell_of_heap hX' 6).trans rfl
    have y0 := (Lib.cell_of_heap hY' 0).trans rfl
    have y1 := (Lib.cell_of_heap hY' 1).trans rfl
    have y2 := (Lib.cell_of_heap hY' 2).trans rfl
    have y3 := (Lib.cell_of_heap hY' 3).trans rfl
    have y4 := (Lib.cell_of_heap hY' 4).trans rfl
    have y5 := (Lib.cell_of_heap hY' 5).trans rfl
    have y6 := (Lib.cell_of_heap hY' 6).trans rfl
    have fx := fun j => Lib.frozen_of_heap hX' j
    have fy := fun j => Lib.frozen_of_heap hY' j
    have hpa : w.heap.size ≠ w2.heap.size ∧ w.heap.size + 1 ≠ w2.heap.size ∧ w.heap.size ≠ w4.heap.size ∧ w.heap.size + 1 ≠ w4.heap.size := by omega
    obtain ⟨m1, m2, m3, m4⟩ := hpa
    refine region_ph 4 (fun w' => (∀ o, w'.cell? ⟨w2.heap.size, o, none⟩ = (wd).cell? ⟨w2.heap.size, o, none⟩) ∧ (∀ o, w'.cell? ⟨w4.heap.size, o, none⟩ = (wd).cell? ⟨w4.heap.size, o, none⟩)) (fun _ => True) (by kernel_rfl) ⟨fun _ => rfl, fun _ => rfl⟩ trivial (fun hp => ?_)
    refine take_ph 38 (i := 0) rfl rfl (by decide) (by kernel_rfl) (by kernel_rfl) (by kernel_rfl) (fun _ _ _ h => h) (by rfl) (fun w hSw => by (try dsimp only at hSw); obtain ⟨hSa, hSb⟩ := hSw; go_simp; first | done | with_reducible rfl) hp (fun hp => ?_)
    try simp only [Act.put, List.setIfInBounds_toArray, List.set_cons_zero, List.set_cons_succ]
    refine take_ph 39 (i := 1) rfl rfl (by decide) (by kernel_rfl) (by kernel_rfl) (by kernel_rfl) (fun _ _ _ h => h) (by rfl) (fun w hSw => by (try dsimp only at hSw); obtain ⟨hSa, hSb⟩ := hSw; go_simp; first | done | with_reducible rfl) hp (fun hp => ?_)
    try simp only [Act.put, List.setIfInBounds_toArray, List.set_cons_zero, List.set_cons_succ]
    refine AnyL.one (i := 2) (by kernel_rfl) rfl (fun K hK => ?_)
    go_simp
    refine hK.out _ _ (ph1 ⟨fun o => off7d (by omega), fun o => off7d (by omega)⟩ trivial) (fun hp => ?_)
    clear hK
    refine AnyL.one (i := 3) (by kernel_rfl) rfl (fun K hK => ?_)
    go_simp
    have hXF := off7h (p := w.heap.size + 1) (set7 (a0 := .string n1) (a1 := .int .i64 k6) (a2 := .int .i64 k7) (a3 := .int .i64 ht) (a4 := .int .i64 j) (a5 := .int .i64 k) (a6 := .slice ca cn cc) hX') (show w.heap.size ≠ w.heap.size + 1 by omega) (a0 := .string n2) (a1 := .int .i64 px) (a2 := .int .i64 py) (a3 := .int .i64 (hb2)) (a4 := .int .i64 j2) (a5 := .int .i64 k2) (a6 := .slice ca2 cn2 cc2)
    have hYF := set7 (a0 := .string n2) (a1 := .int .i64 px) (a2 := .int .i64 py) (a3 := .int .i64 (hb2)) (a4 := .int .i64 j2) (a5 := .int .i64 k2) (a6 := .slice ca2 cn2 cc2) (off7h hY' (show w.heap.size + 1 ≠ w.heap.size by omega) (a0 := .string n1) (a1 := .int .i64 k6) (a2 := .int .i64 k7) (a3 := .int .i64 ht) (a4 := .int .i64 j) (a5 := .int .i64 k) (a6 := .slice ca cn cc))
    have hbF := fun B (hB : B ≤ w.heap.size) => (below7 (p := w.heap.size) (wd) hB (a0 := .string n1) (a1 := .int .i64 k6) (a2 := .int .i64 k7) (a3 := .int .i64 ht) (a4 := .int .i64 j) (a5 := .int .i64 k) (a6 := .slice ca cn cc)).trans (below7 (p := w.heap.size + 1) _ (show B ≤ w.heap.size + 1 by omega) (a0 := .string n2) (a1 := .int .i64 px) (a2 := .int .i64 py) (a3 := .int .i64 (hb2)) (a4 := .int .i64 j2) (a5 := .int .i64 k2) (a6 := .slice ca2 cn2 cc2))
    refine hK.out _ _ (ph1 ⟨fun o => cell_drewD.trans ((off7 (by omega)).trans (off7 (by omega))), fun o => cell_drewD.trans ((off7 (by omega)).trans (off7 (by omega)))⟩ trivial) (fun hp => ?_)
    clear hK
    refine AnyL.done (by kernel_rfl) ?_ _
    simp only [Exit.then]
    generalize (((((((((((((((wd).setCell ⟨w.heap.size, 0, none⟩ (.string n1)).setCell ⟨w.heap.size, 1, none⟩ (.int .i64 k6)).setCell ⟨w.heap.size, 2, none⟩ (.int .i64 k7)).setCell ⟨w.heap.size, 3, none⟩ (.int .i64 ht)).setCell ⟨w.heap.size, 4, none⟩ (.int .i64 j)).setCell ⟨w.heap.size, 5, none⟩ (.int .i64 k)).setCell ⟨w.heap.size, 6, none⟩ (.slice ca cn cc)).setCell ⟨w.heap.size + 1, 0, none⟩ (.string n2)).setCell ⟨w.heap.size + 1, 1, none⟩ (.int .i64 px)).setCell ⟨w.heap.size + 1, 2, none⟩ (.int .i64 py)).setCell ⟨w.heap.size + 1, 3, none⟩ (.int .i64 (hb2))).setCell ⟨w.heap.size + 1, 4, none⟩ (.int .i64 j2)).setCell ⟨w.heap.size + 1, 5, none⟩ (.int .i64 k2)).setCell ⟨w.heap.size + 1, 6, none⟩ (.slice ca2 cn2 cc2)) = WF at *
    have r0 := (Lib.cell_of_heap hXF 0).trans rfl
    have r1 := (Lib.cell_of_heap hXF 1).trans rfl
    have r2 := (Lib.cell_of_heap hXF 2).trans rfl
    have r3 := (Lib.cell_of_heap hXF 3).trans rfl
    have r4 := (Lib.cell_of_heap hXF 4).trans rfl
    have r5 := (Lib.cell_of_heap hXF 5).trans rfl
    have r6 := (Lib.cell_of_heap hXF 6).trans rfl
    have t0 := (Lib.cell_of_heap hYF 0).trans rfl
    have t1 := (Lib.cell_of_heap hYF 1).trans rfl
    have t2 := (Lib.cell_of_heap hYF 2).trans rfl
    have t3 := (Lib.cell_of_heap hYF 3).trans rfl
    have t4 := (Lib.cell_of_heap hYF 4).trans rfl
    have t5 := (Lib.cell_of_heap hYF 5).trans rfl
    have t6 := (Lib.cell_of_heap hYF 6).trans rfl
    go_wp2_with fail
    exact bodyPost_ret (v := .tuple #[.agg #[.string n1, .int .i64 k6, .int .i64 k7, .int .i64 ht, .int .i64 j, .int .i64 k, .slice ca cn cc], .agg #[.string n2, .int .i64 px, .int .i64 py, .int .i64 (hb2), .int .i64 j2, .int .i64 k2, .slice ca2 cn2 cc2]]) (by simp [results, Try.results93, go_sem, r0, r1, r2, r3, r4, r5, r6, t0, t1, t2, t3, t4, t5, t6]) rfl
      ⟨⟨n1, k6, k7, ht, j, k⟩, ⟨n2, px, py, hb2, j2, k2⟩, ca, ca2, cn, cc, cn2, cc2, rfl, ⟨hpl, by dsimp only; omega, by dsimp only; omega, by dsimp only; omega⟩, ⟨hpp, by dsimp only; omega, by dsimp only; omega, by dsimp only; omega⟩, ((hS.out.mono (by omega)).lo (hbF (b + 1) (by omega)) (Nat.le_refl _)).below (Below.refl _ _).drew, (hM.out.onD (hbF w.heap.size (Nat.le_refl _))).then (Below.refl _ _).drew⟩
  | false =>
    go_wp2_with fail
    have hA' := hA.out
    have hB' := hB.out
    have hX' := hX.out
    have hY' := hY.out
    have a0 := (Lib.cell_of_heap hA' 0).trans rfl
    have a1 := (Lib.cell_of_heap hA' 1).trans rfl
    have a2 := (Lib.cell_of_heap hA' 2).trans rfl
    have a3 := (Lib.cell_of_heap hA' 3).trans rfl
    have a4 := (Lib.cell_of_heap hA' 4).trans rfl
    have a5 := (Lib.cell_of_heap hA' 5).trans rfl
    have a6 := (Lib.cell_of_heap hA' 6).trans rfl
    have b0 := (Lib.cell_of_heap hB' 0).trans rfl
    have b1 := (Lib.cell_of_heap hB' 1).trans rfl
    have b2 := (Lib.cell_of_heap hB' 2).trans rfl
    have b3 := (Lib.cell_of_heap hB' 3).trans rfl
    have b4 := (Lib.cell_of_heap hB' 4).trans rfl
    have b5 := (Lib.cell_of_heap hB' 5).trans rfl
    have b6 := (Lib.cell_of_heap hB' 6).trans rfl
    have x0 := (Lib.cell_of_heap hX' 0).trans rfl
    have x1 := (Lib.cell_of_heap hX' 1).trans rfl
    have x2 := (Lib.cell_of_heap hX' 2).trans rfl
    have x3 := (Lib.cell_of_heap hX' 3).trans rfl
    have x4 := (Lib.cell_of_heap hX' 4).trans rfl
    have x5 := (Lib.cell_of_heap hX' 5).trans rfl
    have x6 := (Lib.cell_of_heap hX' 6).trans rfl
    have y0 := (Lib.cell_of_heap hY' 0).trans rfl
    have y1 := (Lib.cell_of_heap hY' 1).trans rfl
    have y2 := (Lib.cell_of_heap hY' 2).trans rfl
    have y3 := (Lib.cell_of_heap hY' 3).trans rfl
    have y4 := (Lib.cell_of_heap hY' 4).trans rfl
    have y5 := (Lib.cell_of_heap hY' 5).trans rfl
    have y6 := (Lib.cell_of_heap hY' 6).trans rfl
    have fx := fun j => Lib.frozen_of_heap hX' j
    have fy := fun j => Lib.frozen_of_heap hY' j
    have hpa : w.heap.size ≠ w2.heap.size ∧ w.heap.size + 1 ≠ w2.heap.size ∧ w.heap.size ≠ w4.heap.size ∧ w.heap.size + 1 ≠ w4.heap.size := by omega
    obtain ⟨m1, m2, m3, m4⟩ := hpa
    refine region_ph 4 (fun w' => (∀ o, w'.cell? ⟨w2.heap.size, o, none⟩ = (wb).cell? ⟨w2.heap.size, o, none⟩) ∧ (∀ o, w'.cell? ⟨w4.heap.size, o, none⟩ = (wb).cell? ⟨w4.heap.size, o, none⟩)) (fun _ => True) (by kernel_rfl) ⟨fun _ => rfl, fun _ => rfl⟩ trivial (fun hp => ?_)
    refine take_ph 38 (i := 0) rfl rfl (by decide) (by kernel_rfl) (by kernel_rfl) (by kernel_rfl) (fun _ _ _ h => h) (by rfl) (fun w hSw => by (try dsimp only at hSw); obtain ⟨hSa, hSb⟩ := hSw; go_simp; first | done | with_reducible rfl) hp (fun hp => ?_)
    try simp only [Act.put, List.setIfInBounds_toArray, List.set_cons_zero, List.set_cons_succ]
    refine take_ph 39 (i := 1) rfl rfl (by decide) (by kernel_rfl) (by kernel_rfl) (by kernel_rfl) (fun _ _ _ h => h) (by rfl) (fun w hSw => by (try dsimp only at hSw); obtain ⟨hSa, hSb⟩ := hSw; go_simp; first | done | with_reducible rfl) hp (fun hp => ?_)
    try simp only [Act.put, List.setIfInBounds_toArray, List.set_cons_zero, List.set_cons_succ]
    refine AnyL.one (i := 2) (by kernel_rfl) rfl (fun K hK => ?_)
    go_simp
    refine hK.out _ _ (ph1 ⟨fun o => off7d (by omega), fun o => off7d (by omega)⟩ trivial) (fun hp => ?_)
    clear hK
    refine AnyL.one (i := 3) (by kernel_rfl) rfl (fun K hK => ?_)
    go_simp
    have hXF := off7h (p := w.heap.size + 1) (set7 (a0 := .string n1) (a1 := .int .i64 k6) (a2 := .int .i64 k7) (a3 := .int .i64 ht) (a4 := .int .i64 j) (a5 := .int .i64 k) (a6 := .slice ca cn cc) hX') (show w.heap.size ≠ w.heap.size + 1 by omega) (a0 := .string n2) (a1 := .int .i64 px) (a2 := .int .i64 py) (a3 := .int .i64 (ht2)) (a4 := .int .i64 j2) (a5 := .int .i64 k2) (a6 := .slice ca2 cn2 cc2)
    have hYF := set7 (a0 := .string n2) (a1 := .int .i64 px) (a2 := .int .i64 py) (a3 := .int .i64 (ht2)) (a4 := .int .i64 j2) (a5 := .int .i64 k2) (a6 := .slice ca2 cn2 cc2) (off7h hY' (show w.heap.size + 1 ≠ w.heap.size by omega) (a0 := .string n1) (a1 := .int .i64 k6) (a2 := .int .i64 k7) (a3 := .int .i64 ht) (a4 := .int .i64 j) (a5 := .int .i64 k) (a6 := .slice ca cn cc))
    have hbF := fun B (hB : B ≤ w.heap.size) => (below7 (p := w.heap.size) (wb) hB (a0 := .string n1) (a1 := .int .i64 k6) (a2 := .int .i64 k7) (a3 := .int .i64 ht) (a4 := .int .i64 j) (a5 := .int .i64 k) (a6 := .slice ca cn cc)).trans (below7 (p := w.heap.size + 1) _ (show B ≤ w.heap.size + 1 by omega) (a0 := .string n2) (a1 := .int .i64 px) (a2 := .int .i64 py) (a3 := .int .i64 (ht2)) (a4 := .int .i64 j2) (a5 := .int .i64 k2) (a6 := .slice ca2 cn2 cc2))
    refine hK.out _ _ (ph1 ⟨fun o => cell_drewD.trans ((off7 (by omega)).trans (off7 (by omega))), fun o => cell_drewD.trans ((off7 (by omega)).trans (off7 (by omega)))⟩ trivial) (fun hp => ?_)
    clear hK
    refine AnyL.done (by kernel_rfl) ?_ _
    simp only [Exit.then]
    generalize (((((((((((((((wb).setCell ⟨w.heap.size, 0, none⟩ (.string n1)).setCell ⟨w.heap.size, 1, none⟩ (.int .i64 k6)).setCell ⟨w.heap.size, 2, none⟩ (.int .i64 k7)).setCell ⟨w.heap.size, 3, none⟩ (.int .i64 ht)).setCell ⟨w.heap.size, 4, none⟩ (.int .i64 j)).setCell ⟨w.heap.size, 5, none⟩ (.int .i64 k)).setCell ⟨w.heap.size, 6, none⟩ (.slice ca cn cc)).setCell ⟨w.heap.size + 1, 0, none⟩ (.string n2)).setCell ⟨w.heap.size + 1, 1, none⟩ (.int .i64 px)).setCell ⟨w.heap.size + 1, 2, none⟩ (.int .i64 py)).setCell ⟨w.heap.size + 1, 3, none⟩ (.int .i64 (ht2))).setCell ⟨w.heap.size + 1, 4, none⟩ (.int .i64 j2)).setCell ⟨w.heap.size + 1, 5, none⟩ (.int .i64 k2)).setCell ⟨w.heap.size + 1, 6, none⟩ (.slice ca2 cn2 cc2)) = WF at *
    have r0 := (Lib.cell_of_heap hXF 0).trans rfl
    have r1 := (Lib.cell_of_heap hXF 1).trans rfl
    have r2 := (Lib.cell_of_heap hXF 2).trans rfl
    have r3 := (Lib.cell_of_heap hXF 3).trans rfl
    have r4 := (Lib.cell_of_heap hXF 4).trans rfl
    have r5 := (Lib.cell_of_heap hXF 5).trans rfl
    have r6 := (Lib.cell_of_heap hXF 6).trans rfl
    have t0 := (Lib.cell_of_heap hYF 0).trans rfl
    have t1 := (Lib.cell_of_heap hYF 1).trans rfl
    have t2 := (Lib.cell_of_heap hYF 2).trans rfl
    have t3 := (Lib.cell_of_heap hYF 3).trans rfl
    have t4 := (Lib.cell_of_heap hYF 4).trans rfl
    have t5 := (Lib.cell_of_heap hYF 5).trans rfl
    have t6 := (Lib.cell_of_heap hYF 6).trans rfl
    go_wp2_with fail
    exact bodyPost_ret (v := .tuple #[.agg #[.string n1, .int .i64 k6, .int .i64 k7, .int .i64 ht, .int .i64 j, .int .i64 k, .slice ca cn cc], .agg #[.string n2, .int .i64 px, .int .i64 py, .int .i64 (ht2), .int .i64 j2, .int .i64 k2, .slice ca2 cn2 cc2]]) (by simp [results, Try.results93, go_sem, r0, r1, r2, r3, r4, r5, r6, t0, t1, t2, t3, t4, t5, t6]) rfl
      ⟨⟨n1, k6, k7, ht, j, k⟩, ⟨n2, px, py, ht2, j2, k2⟩, ca, ca2, cn, cc, cn2, cc2, rfl, ⟨hpl, by dsimp only; omega, by dsimp only; omega, by dsimp only; omega⟩, ⟨hpp, by dsimp only; omega, by dsimp only; omega, by dsimp only; omega⟩, ((hS.out.mono (by omega)).lo (hbF (b + 1) (by omega)) (Nat.le_refl _)).below (Below.refl _ _).drew, (hM.out.onD (hbF w.heap.size (Nat.le_refl _))).then (Below.refl _ _).drew⟩
theorem OwnSS.push2 {α : Type} {n : Nat} {c : α → List Value} {lo : Nat} {te e : TypeId} (hte : te ≠ e) {w w1 w2 : World} {v v' : Value} {rows : List SV} {L : List (List α)} {r : SV} {x : List α} (h : OwnSS n c lo te e w v rows L) (hlo : lo ≤ w.heap.size) (h1 : OwnSS n c lo te e w1 v rows L) (hr : Own n c w.heap.size e w1 r.v x)
    (hv : Own 1 one lo te w2 v' (rows ++ [r])) (hg : (w1.alloc (.cells (one r).toArray te)).grownBy w2 v.ownBlock) : OwnSS n c lo te e w2 v' (rows ++ [r]) (L ++ [x]) := by
  have kept : ∀ {lo' : Nat} (s : SV) (y : List α), Own n c lo' e w1 s.v y → Own n c lo' e w2 s.v y := by
    intro lo' s y hs
    refine World.ownsRow.kept (hs.alloc _) hg ?_
    cases hsb : s.v.ownBlock with
    | none => exact .inl rfl
    | some g =>
      refine .inr fun hgv => ?_
      obtain ⟨cur, fz, hc⟩ := hs.block hsb
      obtain ⟨cur', fz', hc'⟩ := h1.out.block hgv.symm
      rw [hc] at hc'
      cases hc'
      exact hte rfl
  have hlt : ∀ (i : Nat) (s : SV) (g : Nat), rows[i]? = some s → s.v.ownBlock = some g → g < w.heap.size := by
    intro i s g hs hg
    have hiL : i < L.length := by rw [← h.len]; exact (List.getElem?_eq_some_iff.1 hs).1
    exact (World.ownsRow.lt (h.row i s L[i] hs (List.getElem?_eq_getElem hiL)) g hg).2
  refine ⟨hv, by simp [h.len], ?_, ?_⟩
  · intro i s y hs hy
    rw [List.getElem?_append] at hs hy
    by_cases hi : i < rows.length
    · rw [if_pos hi] at hs
      rw [if_pos (by rw [← h.len]; exact hi)] at hy
      exact kept s y (h1.row i s y hs hy)
    · rw [if_neg hi] at hs
      rw [if_neg (by rw [← h.len]; exact hi), ← h.len] at hy
      by_cases h0 : i - rows.length = 0
      · rw [h0] at hs hy
        simp at hs hy
        subst hs hy
        exact kept _ _ (hr.lower hlo)
      · rw [List.getElem?_eq_none (by simp; omega)] at hs
        cases hs
  · intro i j s t g hs ht hij hsg htg
    rw [List.getElem?_append] at hs ht
    by_cases hi : i < rows.length
    · rw [if_pos hi] at hs
      by_cases hj : j < rows.length
      · rw [if_pos hj] at ht
        exact h.apart i j s t g hs ht hij hsg htg
      · rw [if_neg hj] at ht
        have h2 := hlt i s g hs hsg
        by_cases h0 : j - rows.length = 0
        · rw [h0] at ht; simp at ht; subst ht
          have := (World.ownsRow.lt hr g htg).1
          omega
        · rw [List.getElem?_eq_none (by simp; omega)] at ht; cases ht
    · rw [if_neg hi] at hs
      by_cases h0 : i - rows.length = 0
      · rw [h0] at hs; simp at hs; subst hs
        have h3 := (World.ownsRow.lt hr g hsg).1
        by_cases hj : j < rows.length
        · rw [if_pos hj] at ht
          have h2 := hlt j t g ht htg
          omega
        · rw [if_neg hj] at ht
          by_cases h0' : j - rows.length = 0
          · omega
          · rw [List.getElem?_eq_none (by simp; omega)] at ht; cases ht
      · rw [List.getElem?_eq_none (by simp; omega)] at hs; cases hs
theorem OwnSS.modD {α : Type} {n : Nat} {c : α → List Value} {lo b : Nat} {te e : TypeId} {w w' : World} {v : Value} {rows : List SV} {L : List (List α)} (h : OwnSS n c lo te e w v rows L) (hm : Mod b (b + 1) w w') (hb : b + 1 ≤ lo) : OwnSS n c lo te e w' v rows L :=
  ⟨h.out.mod hm hb, h.len, fun i r x hr hx => (h.row i r x hr hx).mod hm hb, h.apart⟩
theorem info_boolD : (Try.prog.info? 4).map (fun i => (i.zero.map (·.cells.size), i.size, i.bytes)) = some (some 1, 1, 1) := by kernel_rfl
theorem info_rowD : (Try.prog.info? 68).map (fun i => (i.zero.map (·.cells.size), i.size, i.bytes)) = some (some 1, 1, 24) := by kernel_rfl
theorem all24 {L : List (List Bool)} {D : List Bool} (h : ∀ r ∈ L, r.length = 24) (hd : D.length = 24) : ∀ r ∈ L ++ [D], r.length = 24 := by
  intro r hr
  rcases List.mem_append.1 hr with hr | hr
  · exact h r hr
  · rw [List.mem_singleton.1 hr]; exact hd
def TabOut (w : World) (e : Ending) (w' : World) : Prop := ∃ v rows L, e = .returned v ∧ SSw 1 boolCells w.heap.size w'.heap.size w' v rows L ∧ TabOk L
set_option maxRecDepth 100000 in
set_option maxHeartbeats 8000000 in
theorem spec_Tab15 (q q2 : Nat) (f g : CraneF) (n : Int) (w : World) (h : CrB q 0 f w) (h2 : CrB q2 0 g w) (hf : GeoOk f) (hg : GeoOk g) (hn : 0 ≤ n ∧ n ≤ 1000) :
    Calls Try.prog 94 #[.pointer (some ⟨q, 0, none⟩), .pointer (some ⟨q2, 0, none⟩), .int .i64 n] w fun e w' => TabOut w e w' ∧ Below w.heap.size w w' := by
  have hcf := Lib.hid (fun (k m : Nat) (hk : k < 24) (hm : m < 24) w' (hb : Below w.heap.size w w') => spec_Conflict q 0 q2 0 f g k m n w' (h.below hb) (h2.below hb) hf hg hk hm hn)
  have hql := h.lt
  have hql2 := h2.lt
  have hB1 := (Below.refl w.heap.size w).alloc (Nat.le_refl _) (.cells #[] 68 (0, 0))
  have hO1 := Lib.hid (ownSS_nil (n := 1) (c := boolCells) (e := 4) (own_empty (n := 1) (c := one) w 68 w.heap.size (Nat.le_refl _)))
  clear h h2 hf hg hn
  go_enter Try.func94, Try.ntmps94
  go_wp2_with fail
  go_loopw [7, 8] (fun o i wr => ∃ (k : Nat) (rows : List SV) (L : List (List Bool)), k ≤ 24 ∧ i = .int .i64 k ∧ Hid (L.length = k) ∧ Hid (∀ r ∈ L, r.length = 24) ∧ Below w.heap.size w wr ∧ Hid (OwnSS 1 boolCells w.heap.size 68 4 wr o rows L)) (fun _ i _ => 24 - (intOf i).toNat)
  case atStart => exact ⟨0, [], [], by omega, rfl, Lib.hid rfl, Lib.hid (by simp), hB1, hO1⟩
  case round =>
    clear hB1 hO1
    obtain ⟨k, rows, L, hk, rfl, hLk, hL24, hB, hown⟩ := hrel
    have hBs := hB.size
    by_cases hlt : k < 24
    · have hlt' : (k : Int) < 24 := by omega
      have hrl : Hid (rows.length = k) := Lib.hid (hown.out.len.trans hLk.out)
      obtain ⟨ga, gc, rfl⟩ := own_valD hown.out.out
      obtain ⟨wo, hwo⟩ : ∃ wo : World, wo = wr := ⟨_, rfl⟩
      subst hwo
      have hb0 := (Below.refl wo.heap.size wo).alloc (Nat.le_refl _) (.cells #[] 4 (0, 0))
      have hown0 : Hid (Own 1 boolCells wo.heap.size 4 (wo.alloc (.cells #[] 4 (0, 0))) (.slice (some ⟨wo.heap.size, 0, none⟩) 0 0) []) := Lib.hid (own_empty wo _ _ (Nat.le_refl _))
      obtain ⟨rn, hrn⟩ : ∃ rn, rows.length = rn := ⟨_, rfl⟩
      rw [hrn] at hown ⊢
      have Hrn := Lib.hid hrn
      clear hrn
      go_wp2_with fail
      go_loopw [9, 10] (fun o2 i wr => ∃ (m : Nat) (D : List Bool), m ≤ 24 ∧ i = .int .i64 m ∧ Hid (D.length = m) ∧ Below wo.heap.size wo wr ∧ Hid (Own 1 boolCells wo.heap.size 4 wr o2 D)) (fun _ i _ => 24 - (intOf i).toNat)
      case atStart => exact ⟨0, [], by omega, rfl, Lib.hid rfl, hb0, hown0⟩
      case round =>
        clear hb0 hown0
        obtain ⟨m, D, hm, rfl, hDm, hB2, hdv⟩ := hrel
        have hBs2 := hB2.size
        have hB' := hB.trans (hB2.mono hB.size)
        obtain ⟨da, dc, rfl⟩ := own_valD hdv.out
        by_cases hm24 : m < 24
        · have hc := Lib.hid (hcf.out k m hlt hm24 _ hB')
          obtain ⟨cv, hcv⟩ : ∃ cv, decide (confP f g k m (n * n)) = cv := ⟨_, rfl⟩
          rw [hcv] at hc
          clear hcv
          obtain ⟨dn, hdn⟩ : ∃ dn, D.length = dn := ⟨_, rfl⟩
          rw [hdn] at hdv ⊢
          have Hdn := Lib.hid hdn
          clear hdn
          go_wp2_with fail
          refine hc.out.mono ?_
          rintro e w3 ⟨rfl, hb3⟩
          have hB3 := hB2.trans (hb3.mono hB2.size)
          have hdv3 := Lib.hid (hdv.out.below hb3)
          have hs3 := hB3.size
          clear hb3 hdv hc
          go_wp2_with (at_builtin; refine wpList_app1 (c := boolCells) (bytes := 1) rfl _ _ 68 4 rfl Try.underlying68 info_boolD (by omega) boolCells_len boolCells_one wo.heap.size D cv _ rfl w3 rfl hdv3.out rfl (by have := Hdn.out; have := hDm.out; omega) (by have := Hdn.out; have := hDm.out; omega) hs3 ?_; intro v' w4 hown4 hg4; have hB4 := hdv3.out.app hB3 (Nat.le_refl _) hs3 hg4; have Hown4 := Lib.hid hown4; clear hown4 hg4)
          go_roundw
          case rel => exact ⟨m + 1, D ++ [cv], by omega, congrArg (Value.int .i64) (by omega), Lib.hid (by rw [List.length_append, List.length_singleton, hDm.out]), hB4, Hown4⟩
          case measure => simp [intOf]; omega
        · have hpush := Lib.hid (fun v' w3 h1 h2 => OwnSS.push (te := 68) (r := ⟨da, D.length, dc⟩) (by decide) hown.out hB.size hB2 hdv.out (v' := v') (w2 := w3) h1 h2)
          have Hown2 := Lib.hid (hown.out.below hB2)
          obtain ⟨dn, hdn⟩ : ∃ dn, D.length = dn := ⟨_, rfl⟩
          have hd24 : Hid (D.length = 24) := Lib.hid (by rw [hDm.out]; omega)
          rw [hdn] at hpush ⊢
          clear hdn
          go_wp2_with (at_builtin; refine wpList_app1 (c := one) (bytes := 24) rfl _ _ 45 68 rfl Try.underlying45 info_rowD (by omega) one_len one_one w.heap.size rows ⟨da, dn, dc⟩ _ rfl wr rfl Hown2.out.out rfl (by have := Hrn.out; have := hrl.out; omega) (by have := Hrn.out; have := hrl.out; omega) hB'.size ?_; intro v' w3 hown3 hg3; have hB3 := Hown2.out.out.app hB' (Nat.le_refl _) hB'.size hg3; have Hown3 := Lib.hid (hpush.out _ _ hown3 hg3); clear hown3 hg3 hpush)
          go_roundw
          case rel => exact ⟨k + 1, rows ++ [⟨da, dn, dc⟩], L ++ [D], by omega, congrArg (Value.int .i64) (by omega), Lib.hid (by rw [List.length_append, List.length_singleton, hLk.out]), Lib.hid (all24 hL24.out hd24.out), hB3, Hown3⟩
          case measure => simp [intOf]; omega
    · go_wp2
      go_ret
      exact ⟨⟨_, rows, L, rfl, hown.out.w boolCells_len (by decide), ⟨by rw [hLk.out]; omega, hL24.out⟩⟩, hB⟩
def TabD (b : Nat) (w : World) (e : Ending) (w' : World) : Prop := ∃ v rows L, e = .returned v ∧ SSw 1 boolCells w.heap.size w'.heap.size w' v rows L ∧ TabOk L ∧ Mod b (b + 1) w w'
theorem crb_of {w : World} {q : Nat} {f : CraneF} {a : Value} {T : TypeId} {fz : Nat × Nat} {s : Value} (h : w.heap[q]? = some (.cells #[s, .int .i64 f.x, .int .i64 f.y, .int .i64 f.height, .int .i64 f.jib, .int .i64 f.back, a] T fz)) : CrB q 0 f w :=
  ⟨(Lib.cell_of_heap h 1).trans rfl, (Lib.cell_of_heap h 2).trans rfl, (Lib.cell_of_heap h 3).trans rfl, (Lib.cell_of_heap h 4).trans rfl, (Lib.cell_of_heap h 5).trans rfl⟩
theorem SSw.widenD {α : Type} {n : Nat} {c : α → List Value} {lo hi lo' hi' : Nat} {w : World} {v : Value} {rows : List SV} {L : List (List α)} (h : SSw n c lo hi w v rows L) (h1 : lo' ≤ lo) (h2 : hi ≤ hi') : SSw n c lo' hi' w v rows L :=
  ⟨h.out.widen h1 h2, h.len, fun i r x hr hx => (h.row i r x hr hx).widen h1 h2, h.apart, h.away⟩
set_option maxRecDepth 100000 in
set_option maxHeartbeats 8000000 in
theorem draw_Tab (b A : Nat) (w : World) (h : Src b A w) (hA : A ≤ 70000) : Calls Try.prog 60 #[.pointer (some ⟨b, 0, none⟩)] w (TabD b w) := by
  have hp := Lib.hid (fun A w' h hA n hn => src_pick b A n w' h hA hn)
  have ho := Lib.hid (fun A w' h hA n hn => src_one b A n w' h hA hn)
  have hbl := h.lt
  have hS0 := Lib.hid h
  clear h
  go_enter Try.func60, Try.ntmps60
  go_wp2_with fail
  refine (ho.out _ _ hS0.out (by omega) 2 (by omega)).mono ?_
  rintro e w2 ⟨yes, rfl, hs2, hm2⟩
  have hS2 := Lib.hid hs2
  have hM2 := Lib.hid hm2
  clear hs2 hm2 hS0
  cases yes with
  | true =>
    go_wp2_with fail
    refine (draw_Two b _ _ hS2.out (by omega)).mono ?_
    rintro e w3 ⟨f, g, fa, ga, fn, fc, gn, gc, rfl, hf, hg, hs3, hm3⟩
    have hbb := ((Below.refl w3.heap.size w3).alloc (Nat.le_refl _) (.cells #[.string f.name, .int .i64 f.x, .int .i64 f.y, .int .i64 f.height, .int .i64 f.jib, .int .i64 f.back, .slice fa fn fc] 117 (0, 0))).alloc (by simp) (.cells #[.string g.name, .int .i64 g.x, .int .i64 g.y, .int .i64 g.height, .int .i64 g.jib, .int .i64 g.back, .slice ga gn gc] 117 (0, 0))
    have hF := Lib.hid (box2_0 w3 (.cells #[.string f.name, .int .i64 f.x, .int .i64 f.y, .int .i64 f.height, .int .i64 f.jib, .int .i64 f.back, .slice fa fn fc] 117 (0, 0)) (.cells #[.string g.name, .int .i64 g.x, .int .i64 g.y, .int .i64 g.height, .int .i64 g.jib, .int .i64 g.back, .slice ga gn gc] 117 (0, 0)))
    have hG := Lib.hid (box2_1 w3 (.cells #[.string f.name, .int .i64 f.x, .int .i64 f.y, .int .i64 f.height, .int .i64 f.jib, .int .i64 f.back, .slice fa fn fc] 117 (0, 0)) (.cells #[.string g.name, .int .i64 g.x, .int .i64 g.y, .int .i64 g.height, .int .i64 g.jib, .int .i64 g.back, .slice ga gn gc] 117 (0, 0)))
    have hlt3 := hs3.lt
    have hS3 := Lib.hid (hs3.below hbb)
    have hM3 := Lib.hid ((hM2.out.trans hm3).then hbb)
    clear hs3 hm3 hbb hS2 hM2
    go_wp2_with fail
    refine (hp.out _ _ hS3.out (by omega) 40 (by omega)).mono ?_
    rintro e w6 ⟨d, rfl, ⟨_, hd⟩, hs6, hm6⟩
    have hd := hd (by omega)
    have hM6 := Lib.hid (hM3.out.trans hm6)
    have hF6 := crb_of (blk_mod hF.out hm6 (by omega))
    have hG6 := crb_of (blk_mod hG.out hm6 (by omega))
    have ht := Lib.hid (spec_Tab15 _ _ f g (10 + (d : Int)) w6 hF6 hG6 hf hg (by omega))
    clear hs6 hm6 hM3 hS3 hF hG hF6 hG6
    go_wp2_with fail
    refine ht.out.mono ?_
    rintro e w7 ⟨⟨v, rows, L, rfl, hw7, hok⟩, hb7⟩
    have Hw := Lib.hid (hw7.widenD (hM6.out.size) (Nat.le_refl _))
    have hM7 := Lib.hid (hM6.out.then hb7)
    clear hw7 hb7 ht
    go_wp2
    go_ret
    exact ⟨_, rows, L, rfl, Hw.out, hok, hM7.out⟩
  | false =>
    have hbe := (Below.refl w2.heap.size w2).alloc (Nat.le_refl _) (.cells #[] 68 (0, 0))
    have hS3 := Lib.hid (hS2.out.below hbe)
    have hM3 := Lib.hid (hM2.out.then hbe)
    have hO3 := Lib.hid (ownSS_nil (n := 1) (c := boolCells) (e := 4) (own_empty (n := 1) (c := one) w2 68 w.heap.size hM2.out.size))
    clear hbe hS2 hM2
    go_wp2_with fail
    refine (hp.out _ _ hS3.out (by omega) 12 (by omega)).mono ?_
    rintro e w4 ⟨mn, rfl, ⟨_, hmn⟩, hs4, hm4⟩
    have hmn := hmn (by omega)
    have hS4 := Lib.hid hs4
    have hM4 := Lib.hid (hM3.out.trans hm4)
    have hO4 := Lib.hid (hO3.out.modD hm4 (by omega))
    clear hs4 hm4 hS3 hM3 hO3
    go_wp2_with fail
    go_loopw [5, 7] (fun o i wr => ∃ (k : Nat) (rows : List SV) (L : List (List Bool)), k ≤ 24 ∧ i = .int .i64 k ∧ Hid (L.length = k) ∧ Hid (∀ r ∈ L, r.length = 24) ∧ Hid (Mod b (b + 1) w wr) ∧ Hid (Src b (A + 10 + 48 * k) wr) ∧ Hid (OwnSS 1 boolCells w.heap.size 68 4 wr o rows L)) (fun _ i _ => 24 - (intOf i).toNat)
    case atStart => exact ⟨0, [], [], by omega, rfl, Lib.hid rfl, Lib.hid (by simp), hM4, Lib.hid (hS4.out.mono (by omega)), hO4⟩
    case round =>
      clear hM4 hS4 hO4
      obtain ⟨k, rows, L, hk, rfl, hLk, hL24, hM, hS, hown⟩ := hrel
      have hBs := hM.out.size
      by_cases hlt : k < 24
      · have hlt' : (k : Int) < 24 := by omega
        have hrl : Hid (rows.length = k) := Lib.hid (hown.out.len.trans hLk.out)
        obtain ⟨ga, gc, rfl⟩ := own_valD hown.out.out
        obtain ⟨wo, hwo⟩ : ∃ wo : World, wo = wr := ⟨_, rfl⟩
        subst hwo
        have hb0 := (Below.refl wo.heap.size wo).alloc (Nat.le_refl _) (.cells #[] 4 (0, 0))
        have hown0 : Hid (Own 1 boolCells wo.heap.size 4 (wo.alloc (.cells #[] 4 (0, 0))) (.slice (some ⟨wo.heap.size, 0, none⟩) 0 0) []) := Lib.hid (own_empty wo _ _ (Nat.le_refl _))
        have hS0 := Lib.hid (hS.out.below hb0)
        have hM0 : Hid (Mod b (b + 1) wo (wo.alloc (.cells #[] 4 (0, 0)))) := Lib.hid (Mod.of_below hb0)
        have hbo : b + 1 ≤ wo.heap.size := by omega
        have Hbo := Lib.hid hbo
        clear hbo
        obtain ⟨rn, hrn⟩ : ∃ rn, rows.length = rn := ⟨_, rfl⟩
        rw [hrn] at hown ⊢
        have Hrn := Lib.hid hrn
        clear hrn hb0
        go_wp2_with fail
        go_loopw [8, 9] (fun o2 i wr => ∃ (m : Nat) (D : List Bool), m ≤ 24 ∧ i = .int .i64 m ∧ Hid (D.length = m) ∧ Hid (Mod b (b + 1) wo wr) ∧ Hid (Src b (A + 10 + 48 * k + 2 * m) wr) ∧ Hid (Own 1 boolCells wo.heap.size 4 wr o2 D)) (fun _ i _ => 24 - (intOf i).toNat)
        case atStart => exact ⟨0, [], by omega, rfl, Lib.hid rfl, hM0, Lib.hid (hS0.out.mono (by omega)), hown0⟩
        case round =>
          clear hM0 hS0 hown0
          obtain ⟨m, D, hm, rfl, hDm, hM2, hS2, hdv⟩ := hrel
          have hBs2 := hM2.out.size
          obtain ⟨da, dc, rfl⟩ := own_valD hdv.out
          by_cases hm24 : m < 24
          · obtain ⟨dn, hdn⟩ : ∃ dn, D.length = dn := ⟨_, rfl⟩
            rw [hdn] at hdv ⊢
            have Hdn := Lib.hid hdn
            clear hdn hBs hBs2 hlt hlt'
            have hm24' : (m : Int) < 24 := by omega
            have Hm24 := Lib.hid hm24
            clear hm24 hm
            go_wp2_with fail
            refine (hp.out _ _ hS2.out (by have := Hm24.out; omega) (2 + (mn : Int)) (by omega)).mono ?_
            rintro e w3 ⟨q, rfl, -, hs3, hm3⟩
            have hM3 := Lib.hid (hM2.out.trans hm3)
            have hS3 := Lib.hid hs3
            have hdv3 := Lib.hid (hdv.out.mod hm3 Hbo.out)
            have hs3' := Lib.hid hM3.out.size
            clear hs3
            clear hm3 hdv hM2 hS2
            rcases Nat.eq_zero_or_pos q with rfl | hq
            · try have hq1 : decide ((q : Int) = 0) = false := decide_eq_false (by omega)
              try have hq2 : ((q : Int) == 0) = false := by simp; omega
              go_wp2_with (at_builtin; go_loud (refine wpList_app1 (c := boolCells) (bytes := 1) rfl _ _ 68 4 rfl Try.underlying68 info_boolD (by omega) boolCells_len boolCells_one wo.heap.size D true _ rfl w3 rfl hdv3.out rfl (by have := Hdn.out; have := hDm.out; have := Hm24.out; omega) (by have := Hdn.out; have := hDm.out; have := Hm24.out; omega) hs3'.out ?_); intro v' w4 hown4 hg4; have hB4 := hdv3.out.app (Below.refl wo.heap.size w3) (Nat.le_refl _) hs3'.out hg4; have Hown4 := Lib.hid hown4; have hM4 := Lib.hid (hM3.out.onD hB4); have hS4 := Lib.hid (hS3.out.lo hB4 Hbo.out); clear hown4 hg4 hB4)
              go_roundw
              case rel => exact ⟨m + 1, D ++ [true], Hm24.out, congrArg (Value.int .i64) (by omega), Lib.hid (by rw [List.length_append, List.length_singleton, hDm.out]), hM4, Lib.hid (hS4.out.mono (by omega)), Hown4⟩
              case measure => simp [intOf]; have := Hm24.out; omega
            · try have hq1 : decide ((q : Int) = 0) = false := decide_eq_false (by omega)
              try have hq2 : ((q : Int) == 0) = false := by simp; omega
              go_wp2_with (at_builtin; go_loud (refine wpList_app1 (c := boolCells) (bytes := 1) rfl _ _ 68 4 rfl Try.underlying68 info_boolD (by omega) boolCells_len boolCells_one wo.heap.size D false _ rfl w3 rfl hdv3.out rfl (by have := Hdn.out; have := hDm.out; have := Hm24.out; omega) (by have := Hdn.out; have := hDm.out; have := Hm24.out; omega) hs3'.out ?_); intro v' w4 hown4 hg4; have hB4 := hdv3.out.app (Below.refl wo.heap.size w3) (Nat.le_refl _) hs3'.out hg4; have Hown4 := Lib.hid hown4; have hM4 := Lib.hid (hM3.out.onD hB4); have hS4 := Lib.hid (hS3.out.lo hB4 Hbo.out); clear hown4 hg4 hB4)
              go_roundw
              case rel => exact ⟨m + 1, D ++ [false], Hm24.out, congrArg (Value.int .i64) (by omega), Lib.hid (by rw [List.length_append, List.length_singleton, hDm.out]), hM4, Lib.hid (hS4.out.mono (by omega)), Hown4⟩
              case measure => simp [intOf]; have := Hm24.out; omega
          · have hBs3 : w.heap.size ≤ wr.heap.size := by omega
            have hpush := Lib.hid (fun v' w3 h1 h2 => OwnSS.push2 (te := 68) (r := ⟨da, D.length, dc⟩) (by decide) hown.out hBs (hown.out.modD hM2.out (by omega)) hdv.out (v' := v') (w2 := w3) h1 h2)
            have Hown2 := Lib.hid (hown.out.modD hM2.out (by omega))
            have HMs := Lib.hid (hM.out.trans hM2.out)
            obtain ⟨dn, hdn⟩ : ∃ dn, D.length = dn := ⟨_, rfl⟩
            have hd24 : Hid (D.length = 24) := Lib.hid (by rw [hDm.out]; omega)
            rw [hdn] at hpush ⊢
            have Hbl := Lib.hid hbl
            have Hb1 := Lib.hid (show b + 1 ≤ w.heap.size by omega)
            have HBs3 := Lib.hid hBs3
            have Hlt := Lib.hid hlt
            have Hrk : Hid (rn ≤ 24) := Lib.hid (by have := Hrn.out; have := hrl.out; omega)
            have hmn2 : ¬ (m : Int) < 24 := by omega
            have HS2 := Lib.hid (hS2.out.mono (A' := A + 10 + 48 * (k + 1)) (by omega))
            clear hdn hBs hBs2 hBs3 hlt hm hm24 hbl hS2 hdv hDm hM2 hM hown
            go_wp2_with (at_builtin; refine wpList_app1 (c := one) (bytes := 24) rfl _ _ 45 68 rfl Try.underlying45 info_rowD (by omega) one_len one_one w.heap.size rows ⟨da, dn, dc⟩ _ rfl wr rfl Hown2.out.out rfl (by have := Hrn.out; have := Hrk.out; omega) (by have := Hrn.out; have := Hrk.out; omega) HBs3.out ?_; intro v' w3 hown3 hg3; have hB3 := Hown2.out.out.app (Below.refl w.heap.size wr) (Nat.le_refl _) HBs3.out hg3; have Hown3 := Lib.hid (hpush.out _ _ hown3 hg3); have HM3 := Lib.hid (HMs.out.onD hB3); have HS3 := Lib.hid (HS2.out.lo hB3 Hb1.out); clear hown3 hg3 hpush hB3)
            go_roundw
            case rel => exact ⟨k + 1, rows ++ [⟨da, dn, dc⟩], L ++ [D], Hlt.out, congrArg (Value.int .i64) (by omega), Lib.hid (by rw [List.length_append, List.length_singleton, hLk.out]), Lib.hid (all24 hL24.out hd24.out), HM3, HS3, Hown3⟩
            case measure => simp [intOf]; have := Hlt.out; omega
      · have hL := Lib.hid (hown.out.w boolCells_len (by decide))
        obtain ⟨ga, gc, rfl⟩ := own_valD hown.out.out
        have hrl : rows.length = 24 := by have := hown.out.len; have := hLk.out; omega
        have hLl : L.length = 24 := by have := hLk.out; omega
        have hlt2 : ¬ (k : Int) < 24 := by omega
        rw [hrl] at hL ⊢
        clear hown
        go_wp2_with fail
        refine (ho.out _ _ hS.out (by omega) 6 (by omega)).mono ?_
        rintro e w5 ⟨yes, rfl, hs5, hm5⟩
        have hM5 := Lib.hid (hM.out.trans hm5)
        have hL5 := Lib.hid (hL.out.keep (hm5.same (Nat.le_refl _) (.inr (by omega))))
        have hz5 := hm5.size
        clear hs5 hm5 hS hM hL
        cases yes with
        | false =>
          go_wp2
          go_ret
          exact ⟨_, rows, L, rfl, hL5.out.widenD (Nat.le_refl _) hz5, ⟨hLl, hL24.out⟩, hM5.out⟩
        | true =>
          obtain ⟨gb, go, rfl⟩ := Sl.addr hL5.out.out.1 (by omega)
          obtain ⟨r, hr3⟩ : ∃ r, rows[3]? = some r := ⟨_, List.getElem?_eq_getElem (by omega)⟩
          obtain ⟨ra, rl, rc⟩ := r
          have hx3 : L[3]? = some (L[3]'(by omega)) := List.getElem?_eq_getElem (by omega)
          have hl3 : (L[3]'(by omega)).length = 24 := hL24.out _ (List.getElem_mem _)
          have hrow := hL5.out.row 3 _ _ hr3 hx3
          obtain ⟨a', c', hv, -⟩ := id hrow.1
          simp only [SV.v] at hv
          injection hv with e1 e2 e3
          subst e1 e2 e3
          simp only [SV.v] at hrow
          obtain ⟨rb, ro, rfl⟩ := Sl.addr hrow.1 (by omega)
          rw [hl3] at hr3
          have Hr3 := Lib.hid hr3
          have HL0 : Hid (∃ L' : List (List Bool), SSw 1 boolCells w.heap.size wr.heap.size w5 (.slice (some ⟨gb, go, none⟩) 24 gc) rows L' ∧ L'.length = 24 ∧ ∀ r ∈ L', r.length = 24) := Lib.hid ⟨L, hL5.out, hLl, hL24.out⟩
          have Hz5 := Lib.hid hz5
          clear hrow hr3 hx3 hl3 hL5 hLk hLl hL24 hz5
          obtain ⟨H, hH⟩ : ∃ H, wr.heap.size = H := ⟨_, rfl⟩
          rw [hH] at HL0 Hz5
          clear hH
          go_wp2_with fail
          go_loopw [10] (fun i wr => ∃ (m : Nat), m ≤ 24 ∧ i = .int .i64 m ∧ Hid (∃ L' : List (List Bool), SSw 1 boolCells w.heap.size H wr (.slice (some ⟨gb, go, none⟩) 24 gc) rows L' ∧ L'.length = 24 ∧ ∀ r ∈ L', r.length = 24) ∧ Hid (Mod b (b + 1) w wr) ∧ Hid (H ≤ wr.heap.size)) (fun i _ => 24 - (intOf i).toNat)
          case atStart => exact ⟨0, by omega, rfl, HL0, hM5, Hz5⟩
          case round =>
            clear HL0 hM5 Hz5
            obtain ⟨m, hm, rfl, hLx, hMx, hzx⟩ := hrel
            by_cases hm24 : m < 24
            · obtain ⟨L', hW, hl', hall⟩ := hLx.out
              have hx3 : L'[3]? = some (L'[3]'(by omega)) := List.getElem?_eq_getElem (by omega)
              have hl3 : (L'[3]'(by omega)).length = 24 := hall _ (List.getElem_mem _)
              have hrow := hW.row 3 _ _ Hr3.out hx3
              simp only [SV.v] at hrow
              have oc : wr.cell? ⟨gb, go + 3, none⟩ = some (.slice (some ⟨rb, ro, none⟩) 24 rc) := by
                have h3 : 3 < rows.length := by omega
                have hg := hW.out.1.get 3 h3 0 (.slice (some ⟨rb, ro, none⟩) 24 rc) (by have hq := Option.some.inj ((List.getElem?_eq_getElem h3).symm.trans Hr3.out); rw [hq]; rfl)
                simpa using hg
              obtain ⟨bv, ic⟩ : ∃ bv, wr.cell? ⟨rb, ro + m, none⟩ = some (.bool bv) := ⟨_, by
                have hg := hrow.1.get m (by omega) 0 _ rfl
                simpa using hg⟩
              obtain ⟨_, _, _, hv, -, hraw⟩ := Raw.of hrow boolCells_len (by omega)
              injection hv with e1 e2 e3
              injection e1 with e1
              injection e1 with e1 e4
              subst e1
              have hif := hraw.free
              have hrlo := hraw.lo
              have hst := hrow.store1 (k := m) (j := 0) (o := ro + m) (u := .bool true) (x := true) boolCells_len (by omega) (by omega) rfl (by omega)
              have HW2 : Hid (∃ L' : List (List Bool), SSw 1 boolCells w.heap.size H (wr.setCell ⟨rb, ro + m, none⟩ (.bool true)) (.slice (some ⟨gb, go, none⟩) 24 gc) rows L' ∧ L'.length = 24 ∧ ∀ r ∈ L', r.length = 24) := Lib.hid (by
                refine ⟨L'.set 3 ((L'[3]'(by omega)).set m true), hW.turn hzx.out Hr3.out hx3 ?_ hst (by simp), by rw [List.length_set]; exact hl', ?_⟩
                · intro k hk hne
                  exact Below.heap_setCell wr ⟨rb, ro + m, none⟩ (.bool true) k (fun e => hne (by omega) (by show some rb = some k; rw [e]))
                · intro r hr
                  rcases List.mem_or_eq_of_mem_set hr with hr | rfl
                  · exact hall r hr
                  · rw [List.length_set]; exact hl3)
              have hMx2 := Lib.hid (mod_set (j := ro + m) (q := rb) hMx.out hrlo (.bool true))
              have hzx2 : Hid (H ≤ (wr.setCell ⟨rb, ro + m, none⟩ (.bool true)).heap.size) := Lib.hid (by simpa using hzx.out)
              have hm24' : (m : Int) < 24 := by omega
              have Hm24 := Lib.hid hm24
              clear e2 e3 e4
              clear hx3 hl3 hrow hraw hst hW hl' hall hLx hm24 hm
              go_wp2_with fail
              go_roundw
              case rel => exact ⟨m + 1, Hm24.out, congrArg (Value.int .i64) (by omega), HW2, hMx2, hzx2⟩
              case measure => simp [intOf]; have := Hm24.out; omega
            · obtain ⟨L', hW, hl', hall⟩ := hLx.out
              have hm24' : ¬ (m : Int) < 24 := by omega
              go_wp2
              go_ret
              exact ⟨_, rows, L', rfl, hW.widenD (Nat.le_refl _) hzx.out, ⟨hl', hall⟩, hMx.out⟩
def A2Out (w : World) (e : Ending) (w' : World) : Prop := ∃ v rows L, e = .returned v ∧ SSw 1 boolCells w.heap.size w'.heap.size w' v rows L ∧ TabOk L ∧ Below w.heap.size w w'
set_option maxRecDepth 100000 in
theorem draw_A2 (v : Value) (l : List UInt8) (hi : Nat) (w : World) (h : Sl 1 byteC 0 hi w v l) (hhi : hi ≤ w.heap.size) (hl : l.length ≤ 1048576) : Calls Try.prog 22 #[v] w (A2Out w) := by
  have hf := Lib.hid (src_from v l hi w h hhi hl)
  obtain ⟨a, cap, rfl, _⟩ := h
  go_enter Try.func22, Try.ntmps22
  go_wp2_with fail
  refine hf.out.mono ?_
  rintro e w1 ⟨rfl, hs1, hb1⟩
  have hd := Lib.hid (draw_Tab w.heap.size 0 w1 hs1 (by omega))
  go_wp2_with fail
  refine hd.out.mono ?_
  rintro e w2 ⟨v, rows, L, rfl, hw2, hok, hm2⟩
  go_wp2
  go_ret
  exact ⟨_, rows, L, rfl, hw2.widenD hb1.size (Nat.le_refl _), hok, hb1.trans (hm2.below (Nat.le_refl _) hb1.size)⟩
end Go.Proofs.Ytmkhapgkiecmaaa
