/- The draws of a table: cranes. -/
import Derived.Test.YtmkhapgkiecmaaaDtA
import Derived.Test.YtmkhapgkiecmaaaPh
namespace Go.Proofs.Ytmkhapgkiecmaaa
open Go.RowKit
def CrnOut (b A : Nat) (nm : ByteArray) (w : World) (e : Ending) (w' : World) : Prop := ∃ (x y h j k : Int) (a : Option Addr) (n c : Nat), e = .returned (.agg #[.string nm, .int .i64 x, .int .i64 y, .int .i64 h, .int .i64 j, .int .i64 k, .slice a n c]) ∧ (-600 ≤ x ∧ x ≤ 600) ∧ (-600 ≤ y ∧ y ≤ 600) ∧ (200 ≤ h ∧ h ≤ 600) ∧ (200 ≤ j ∧ j ≤ 600) ∧ (0 ≤ k ∧ k ≤ 150) ∧ Src b A w' ∧ Mod b (b + 1) w w'
set_option maxRecDepth 100000 in
set_option maxHeartbeats 4000000 in
theorem draw_Crane (b A : Nat) (nm : ByteArray) (w : World) (h : Src b A w) (hA : A ≤ 90000) : Calls Try.prog 110 #[.pointer (some ⟨b, 0, none⟩), .string nm] w (CrnOut b (A + 50) nm w) := by
  have hp := Lib.hid (fun A w' h hA n hn => src_pick b A n w' h hA hn)
  have hbl := h.lt
  have hb0 := (Below.refl w.heap.size w).alloc (Nat.le_refl _) (.cells #[.string ByteArray.empty, .int .i64 0, .int .i64 0, .int .i64 0, .int .i64 0, .int .i64 0, .slice none 0 0] 117 (0, 0))
  have hS1 := Lib.hid (h.below hb0)
  have hM1 := Lib.hid (Mod.of_below (lo := b) (hi := b + 1) hb0)
  have hX1 : Hid ((w.alloc (.cells #[.string ByteArray.empty, .int .i64 0, .int .i64 0, .int .i64 0, .int .i64 0, .int .i64 0, .slice none 0 0] 117 (0, 0))).heap[w.heap.size]? = some (.cells #[.string ByteArray.empty, .int .i64 0, .int .i64 0, .int .i64 0, .int .i64 0, .int .i64 0, .slice none 0 0] 117 (0, 0))) := Lib.hid Array.getElem?_push_size
  clear h hb0
  go_enter Try.func110, Try.ntmps110
  go_wp2_with fail
  refine (draw_Pt b _ _ hS1.out (by omega)).mono ?_
  rintro e w2 ⟨x, y, rfl, hx, hy, hs2, hm2⟩
  have hS2 := Lib.hid hs2
  have hM2 := Lib.hid (hM1.out.trans hm2)
  have hX2 := Lib.hid (blk_mod hX1.out hm2 hbl)
  clear hs2 hm2 hS1 hM1 hX1
  have hszp := hM2.out.size
  have hpl := (Array.getElem?_eq_some_iff.1 hX2.out).1
  have hb3 := (Below.refl w2.heap.size w2).alloc (Nat.le_refl _) (.cells #[.string nm, .int .i64 x, .int .i64 y, .int .i64 0, .int .i64 0, .int .i64 0, .slice none 0 0] 117 (0, 0))
  have hS := Lib.hid (hS2.out.below hb3)
  have hM := Lib.hid (hM2.out.then hb3)
  have hX := Lib.hid ((hb3.block _ hpl).trans hX2.out)
  have hQ : Hid ((w2.alloc (.cells #[.string nm, .int .i64 x, .int .i64 y, .int .i64 0, .int .i64 0, .int .i64 0, .slice none 0 0] 117 (0, 0))).heap[w2.heap.size]? = some (.cells #[.string nm, .int .i64 x, .int .i64 y, .int .i64 0, .int .i64 0, .int .i64 0, .slice none 0 0] 117 (0, 0))) := Lib.hid Array.getElem?_push_size
  clear hb3 hS2 hM2 hX2
  go_wp2_with fail
  refine (hp.out _ _ hS.out (by omega) 400 (by omega)).mono ?_
  rintro e w3 ⟨k3, rfl, ⟨_, hk3⟩, hs, hm⟩
  have hk3 := hk3 (by omega)
  have hQv := blk_mod hQ.out hm (by omega)
  have fk3 := Lib.frozen_of_heap hQv 3
  have ck3 := (Lib.cell_of_heap hQv 4).trans rfl
  have dk3 := (Lib.cell_of_heap hQv 3).trans rfl
  have hS := Lib.hid (src_set (j := 3) (q := w2.heap.size) hs (by omega) (.int .i64 (200 + (k3 : Int))))
  have hM := Lib.hid (mod_set (j := 3) (q := w2.heap.size) (hM.out.trans hm) (by omega) (.int .i64 (200 + (k3 : Int))))
  have hX := Lib.hid (blk_off (j := 3) (q := w2.heap.size) (blk_mod hX.out hm hbl) (by omega) (.int .i64 (200 + (k3 : Int))))
  have hQ := Lib.hid (blk_on (j := 3) hQv (cs' := #[.string nm, .int .i64 x, .int .i64 y, .int .i64 (200 + (k3 : Int)), .int .i64 0, .int .i64 0, .slice none 0 0]) (v := .int .i64 (200 + (k3 : Int))) rfl)
  clear hs hm hQv
  go_wp2_with fail
  clear fk3 ck3 dk3
  generalize (w3).setCell ⟨w2.heap.size, 3, none⟩ (.int .i64 (200 + (k3 : Int))) = w3 at *
  refine (hp.out _ _ hS.out (by omega) 400 (by omega)).mono ?_
  rintro e w4 ⟨k4, rfl, ⟨_, hk4⟩, hs, hm⟩
  have hk4 := hk4 (by omega)
  have hQv := blk_mod hQ.out hm (by omega)
  have fk4 := Lib.frozen_of_heap hQv 4
  have ck4 := (Lib.cell_of_heap hQv 4).trans rfl
  have dk4 := (Lib.cell_of_heap hQv 4).trans rfl
  have hS := Lib.hid (src_set (j := 4) (q := w2.heap.size) hs (by omega) (.int .i64 (200 + (k4 : Int))))
  have hM := Lib.hid (mod_set (j := 4) (q := w2.heap.size) (hM.out.trans hm) (by omega) (.int .i64 (200 + (k4 : Int))))
  have hX := Lib.hid (blk_off (j := 4) (q := w2.heap.size) (blk_mod hX.out hm hbl) (by omega) (.int .i64 (200 + (k4 : Int))))
  have hQ := Lib.hid (blk_on (j := 4) hQv (cs' := #[.string nm, .int .i64 x, .int .i64 y, .int .i64 (200 + (k3 : Int)), .int .i64 (200 + (k4 : Int)), .int .i64 0, .slice none 0 0]) (v := .int .i64 (200 + (k4 : Int))) rfl)
  clear hs hm hQv
  go_wp2_with fail
  clear fk4 ck4 dk4
  generalize (w4).setCell ⟨w2.heap.size, 4, none⟩ (.int .i64 (200 + (k4 : Int))) = w4 at *
  refine (hp.out _ _ hS.out (by omega) 150 (by omega)).mono ?_
  rintro e w5 ⟨k5, rfl, ⟨_, hk5⟩, hs, hm⟩
  have hk5 := hk5 (by omega)
  have hQv := blk_mod hQ.out hm (by omega)
  have fk5 := Lib.frozen_of_heap hQv 5
  have ck5 := (Lib.cell_of_heap hQv 4).trans rfl
  have dk5 := (Lib.cell_of_heap hQv 5).trans rfl
  have hS := Lib.hid (src_set (j := 5) (q := w2.heap.size) hs (by omega) (.int .i64 ((k5 : Int))))
  have hM := Lib.hid (mod_set (j := 5) (q := w2.heap.size) (hM.out.trans hm) (by omega) (.int .i64 ((k5 : Int))))
  have hX := Lib.hid (blk_off (j := 5) (q := w2.heap.size) (blk_mod hX.out hm hbl) (by omega) (.int .i64 ((k5 : Int))))
  have hQ := Lib.hid (blk_on (j := 5) hQv (cs' := #[.string nm, .int .i64 x, .int .i64 y, .int .i64 (200 + (k3 : Int)), .int .i64 (200 + (k4 : Int)), .int .i64 k5, .slice none 0 0]) (v := .int .i64 ((k5 : Int))) rfl)
  clear hs hm hQv
  go_wp2_with fail
  clear fk5 ck5 dk5
  generalize (w5).setCell ⟨w2.heap.size, 5, none⟩ (.int .i64 ((k5 : Int))) = w5 at *
  refine (draw_Chart b _ _ _ hS.out (by omega) (by omega)).mono ?_
  rintro e w6 ⟨ca, cn, cc, rfl, hs, hm⟩
  have hQ6 := blk_mod hQ.out hm (by omega)
  have hX6 := blk_mod hX.out hm hbl
  have hS := Lib.hid hs
  have hM := Lib.hid (hM.out.trans hm)
  have q0 := (Lib.cell_of_heap hQ6 0).trans rfl
  have q1 := (Lib.cell_of_heap hQ6 1).trans rfl
  have q2 := (Lib.cell_of_heap hQ6 2).trans rfl
  have q3 := (Lib.cell_of_heap hQ6 3).trans rfl
  have q4 := (Lib.cell_of_heap hQ6 4).trans rfl
  have q5 := (Lib.cell_of_heap hQ6 5).trans rfl
  have q6 := (Lib.cell_of_heap hQ6 6).trans rfl
  have f6 := fun j => Lib.frozen_of_heap hQ6 j
  have g6 := fun j => Lib.frozen_of_heap hX6 j
  have x0 := (Lib.cell_of_heap hX6 0).trans rfl
  have x1 := (Lib.cell_of_heap hX6 1).trans rfl
  have x2 := (Lib.cell_of_heap hX6 2).trans rfl
  have x3 := (Lib.cell_of_heap hX6 3).trans rfl
  have x4 := (Lib.cell_of_heap hX6 4).trans rfl
  have x5 := (Lib.cell_of_heap hX6 5).trans rfl
  have x6 := (Lib.cell_of_heap hX6 6).trans rfl
  have hne : w.heap.size ≠ w2.heap.size := by omega
  have hne2 : w2.heap.size ≠ w.heap.size := by omega
  have hql6 := (Array.getElem?_eq_some_iff.1 hQ6).1
  have hpl6 := (Array.getElem?_eq_some_iff.1 hX6).1
  clear hs hm hQ hX hQ6 hX6
  go_wp2_with fail
  exact bodyPost_ret (v := .agg #[.string nm, .int .i64 x, .int .i64 y, .int .i64 (200 + (k3 : Int)), .int .i64 (200 + (k4 : Int)), .int .i64 (k5 : Int), .slice ca cn cc]) (by simp [results, Try.results110, go_sem, x0, x1, x2, x3, x4, x5, x6, hpl6, hne, hne2]) rfl
    ⟨x, y, _, _, _, ca, cn, cc, rfl, hx, hy, by omega, by omega, by omega, src_set (src_set (src_set (src_set (src_set (src_set (src_set (src_set (hS.out.mono (by omega)) (by omega) _) (by omega) _) (by omega) _) (by omega) _) (by omega) _) (by omega) _) (by omega) _) (by omega) _,
      mod_set (mod_set (mod_set (mod_set (mod_set (mod_set (mod_set (mod_set hM.out (by omega) _) (by omega) _) (by omega) _) (by omega) _) (by omega) _) (by omega) _) (by omega) _) (by omega) _⟩
theorem draw_At (x y : Int) (d : Nat) (r : Int) (w : World) (hx : 0 ≤ x ∧ x ≤ 100) (hy : 0 ≤ y ∧ y ≤ 100) (hd : d < 24) (hr : 0 ≤ r ∧ r ≤ 1000) : Calls Try.prog 111 #[.agg #[.int .i64 x, .int .i64 y], .int .i64 d, .int .i64 r] w fun e w' => ∃ px py, e = .returned (.agg #[.int .i64 px, .int .i64 py]) ∧ Pl px py ∧ Below w.heap.size w w' := by
  have hp : Pl x y := by unfold Pl; omega
  refine (spec_At x y r d w hp hd hr).mono ?_
  rintro e w' ⟨rfl, hb⟩
  refine ⟨_, _, rfl, ?_, hb⟩
  obtain ⟨-, ⟨h1, h2⟩, -⟩ := plc_bd hp hd hr
  unfold Pl plcI
  dsimp only
  omega
theorem off2 {V : World} {p k o i j : Nat} {a1 a2 : Value} (hk : k ≠ p) : ((V.setCell ⟨p, i, none⟩ a1).setCell ⟨p, j, none⟩ a2).cell? ⟨k, o, none⟩ = V.cell? ⟨k, o, none⟩ := by
  have h : ∀ j : Nat, (⟨k, o, none⟩ : Addr) ≠ ⟨p, j, none⟩ := fun j e => hk (congrArg Addr.block e)
  rw [World.cell?_setCell_other _ _ _ _ (h j).symm, World.cell?_setCell_other _ _ _ _ (h i).symm]
theorem off1 {V : World} {p k o i : Nat} {a1 : Value} (hk : k ≠ p) : (V.setCell ⟨p, i, none⟩ a1).cell? ⟨k, o, none⟩ = V.cell? ⟨k, o, none⟩ :=
  World.cell?_setCell_other _ _ _ _ (fun e => hk (congrArg Addr.block e).symm)
theorem off7 {V : World} {p k o : Nat} {a0 a1 a2 a3 a4 a5 a6 : Value} (hk : k ≠ p) : (((((((V.setCell ⟨p, 0, none⟩ a0).setCell ⟨p, 1, none⟩ a1).setCell ⟨p, 2, none⟩ a2).setCell ⟨p, 3, none⟩ a3).setCell ⟨p, 4, none⟩ a4).setCell ⟨p, 5, none⟩ a5).setCell ⟨p, 6, none⟩ a6).cell? ⟨k, o, none⟩ = V.cell? ⟨k, o, none⟩ :=
  (off1 hk).trans ((off1 hk).trans ((off1 hk).trans ((off1 hk).trans ((off1 hk).trans ((off1 hk).trans (off1 hk))))))
theorem cell_drewD {X : World} {a : Addr} : X.drew.cell? a = X.cell? a := rfl
theorem set7 {V : World} {p : Nat} {T : TypeId} {fz : Nat × Nat} {c0 c1 c2 c3 c4 c5 c6 a0 a1 a2 a3 a4 a5 a6 : Value} (h : V.heap[p]? = some (.cells #[c0, c1, c2, c3, c4, c5, c6] T fz)) :
    (((((((V.setCell ⟨p, 0, none⟩ a0).setCell ⟨p, 1, none⟩ a1).setCell ⟨p, 2, none⟩ a2).setCell ⟨p, 3, none⟩ a3).setCell ⟨p, 4, none⟩ a4).setCell ⟨p, 5, none⟩ a5).setCell ⟨p, 6, none⟩ a6).heap[p]? = some (.cells #[a0, a1, a2, a3, a4, a5, a6] T fz) := by
  simp [World.setCell, Array.getElem?_modify, h]
theorem off7h {V : World} {p k : Nat} {o : Obj} {a0 a1 a2 a3 a4 a5 a6 : Value} (h : V.heap[k]? = some o) (hk : k ≠ p) :
    (((((((V.setCell ⟨p, 0, none⟩ a0).setCell ⟨p, 1, none⟩ a1).setCell ⟨p, 2, none⟩ a2).setCell ⟨p, 3, none⟩ a3).setCell ⟨p, 4, none⟩ a4).setCell ⟨p, 5, none⟩ a5).setCell ⟨p, 6, none⟩ a6).heap[k]? = some o :=
  blk_off (blk_off (blk_off (blk_off (blk_off (blk_off (blk_off h hk _) hk _) hk _) hk _) hk _) hk _) hk _
theorem below7 {B p : Nat} (V : World) {a0 a1 a2 a3 a4 a5 a6 : Value} (hB : B ≤ p) : Below B V (((((((V.setCell ⟨p, 0, none⟩ a0).setCell ⟨p, 1, none⟩ a1).setCell ⟨p, 2, none⟩ a2).setCell ⟨p, 3, none⟩ a3).setCell ⟨p, 4, none⟩ a4).setCell ⟨p, 5, none⟩ a5).setCell ⟨p, 6, none⟩ a6) :=
  (((((((Below.refl B V).setCell hB _).setCell hB _).setCell hB _).setCell hB _).setCell hB _).setCell hB _).setCell hB _
theorem off7d {V : World} {p k o : Nat} {a0 a1 a2 a3 a4 a5 a6 : Value} (hk : k ≠ p) : (((((((V.setCell ⟨p, 0, none⟩ a0).setCell ⟨p, 1, none⟩ a1).setCell ⟨p, 2, none⟩ a2).setCell ⟨p, 3, none⟩ a3).setCell ⟨p, 4, none⟩ a4).setCell ⟨p, 5, none⟩ a5).setCell ⟨p, 6, none⟩ a6).drew.cell? ⟨k, o, none⟩ = V.cell? ⟨k, o, none⟩ := cell_drewD.trans (off7 hk)
def TwoOut (b A : Nat) (w : World) (e : Ending) (w' : World) : Prop := ∃ (f g : CraneF) (a a2 : Option Addr) (n c n2 c2 : Nat), e = .returned (.tuple #[.agg #[.string f.name, .int .i64 f.x, .int .i64 f.y, .int .i64 f.height, .int .i64 f.jib, .int .i64 f.back, .slice a n c], .agg #[.string g.name, .int .i64 g.x, .int .i64 g.y, .int .i64 g.height, .int .i64 g.jib, .int .i64 g.back, .slice a2 n2 c2]]) ∧ GeoOk f ∧ GeoOk g ∧ Src b A w' ∧ Mod b (b + 1) w w'
set_option maxRecDepth 100000 in
set_option maxHeartbeats 4000000 in
theorem draw_Two (b A : Nat) (w : World) (h : Src b A w) (hA : A ≤ 80000) : Calls Try.prog 93 #[.pointer (some ⟨b, 0, none⟩)] w (TwoOut b (A + 150) w) := by
  have hp := Lib.hid (fun A w' h hA n hn => src_pick b A n w' h hA hn)
  have hbl := h.lt
  have hb0 := ((Below.refl w.heap.size w).alloc (Nat.le_refl _) (.cells #[.string ByteArray.empty, .int .i64 0, .int .i64 0, .int .i64 0, .int .i64 0, .int .i64 0, .slice none 0 0] 117 (0, 0))).alloc (by simp) (.cells #[.string ByteArray.empty, .int .i64 0, .int .i64 0, .int .i64 0, .int .i64 0, .int .i64 0, .slice none 0 0] 117 (0, 0))
  have hS1 := Lib.hid (h.below hb0)
  have hM1 := Lib.hid (Mod.of_below (lo := b) (hi := b + 1) hb0)
  have hX1 : Hid (((w.alloc (.cells #[.string ByteArray.empty, .int .i64 0, .int .i64 0, .int .i64 0, .int .i64 0, .int .i64 0, .slice none 0 0] 117 (0, 0))).alloc (.cells #[.string ByteArray.empty, .int .i64 0, .int .i64 0, .int .i64 0, .int .i64 0, .int .i64 0, .slice none 0 0] 117 (0, 0))).heap[w.heap.size]? = some (.cells #[.string ByteArray.empty, .int .i64 0, .int .i64 0, .int .i64 0, .int .i64 0, .int .i64 0, .slice none 0 0] 117 (0, 0))) := Lib.hid (box2_0 w (.cells #[.string ByteArray.empty, .int .i64 0, .int .i64 0, .int .i64 0, .int .i64 0, .int .i64 0, .slice none 0 0] 117 (0, 0)) (.cells #[.string ByteArray.empty, .int .i64 0, .int .i64 0, .int .i64 0, .int .i64 0, .int .i64 0, .slice none 0 0] 117 (0, 0)))
  have hY1 : Hid (((w.alloc (.cells #[.string ByteArray.empty, .int .i64 0, .int .i64 0, .int .i64 0, .int .i64 0, .int .i64 0, .slice none 0 0] 117 (0, 0))).alloc (.cells #[.string ByteArray.empty, .int .i64 0, .int .i64 0, .int .i64 0, .int .i64 0, .int .i64 0, .slice none 0 0] 117 (0, 0))).heap[w.heap.size + 1]? = some (.cells #[.string ByteArray.empty, .int .i64 0, .int .i64 0, .int .i64 0, .int .i64 0, .int .i64 0, .slice none 0 0] 117 (0, 0))) := Lib.hid (box2_1 w (.cells #[.string ByteArray.empty, .int .i64 0, .int .i64 0, .int .i64 0, .int .i64 0, .int .i64 0, .slice none 0 0] 117 (0, 0)) (.cells #[.string ByteArray.empty, .int .i64 0, .int .i64 0, .int .i64 0, .int .i64 0, .int .i64 0, .slice none 0 0] 117 (0, 0)))
  clear h hb0
  go_enter Try.func93, Try.ntmps93
  go_wp2_with fail
  refine (draw_Crane b _ _ _ hS1.out (by omega)).mono ?_
  rintro e w2 ⟨x, y, ht, j, k, ca, cn, cc, rfl, hx, hy, hht, hj, hk, hs2, hm2⟩
  have hS2 := Lib.hid hs2
  have hM2 := Lib.hid (hM1.out.trans hm2)
  have hX2 := Lib.hid (blk_mod hX1.out hm2 hbl)
  have hY2 := Lib.hid (blk_mod hY1.out hm2 (by omega))
  clear hs2 hm2 hS1 hM1 hX1 hY1
  have hsz2 := hM2.out.size
  have hxl := (Array.getElem?_eq_some_iff.1 hX2.out).1
  have hyl := (Array.getElem?_eq_some_iff.1 hY2.out).1
  obtain ⟨n1, hn1⟩ : ∃ n1 : ByteArray, (⟨#[97, 100, 97]⟩ : ByteArray) = n1 := ⟨_, rfl⟩
  have hb3 := (Below.refl w2.heap.size w2).alloc (Nat.le_refl _) (.cells #[.string n1, .int .i64 x, .int .i64 y, .int .i64 ht, .int .i64 j, .int .i64 k, .slice ca cn cc] 117 (0, 0))
  have hS3 := Lib.hid (hS2.out.below hb3)
  have hM3 := Lib.hid (hM2.out.then hb3)
  have hX3 := Lib.hid ((hb3.block _ hxl).trans hX2.out)
  have hY3 := Lib.hid ((hb3.block _ hyl).trans hY2.out)
  have hA3 : Hid ((w2.alloc (.cells #[.string n1, .int .i64 x, .int .i64 y, .int .i64 ht, .int .i64 j, .int .i64 k, .slice ca cn cc] 117 (0, 0))).heap[w2.heap.size]? = some (.cells #[.string n1, .int .i64 x, .int .i64 y, .int .i64 ht, .int .i64 j, .int .i64 k, .slice ca cn cc] 117 (0, 0))) := Lib.hid Array.getElem?_push_size
  clear hb3 hS2 hM2 hX2 hY2
  go_wp2_with fail
  refine (draw_Crane b _ _ _ hS3.out (by omega)).mono ?_
  rintro e w4 ⟨x2, y2, ht2, j2, k2, ca2, cn2, cc2, rfl, hx2, hy2, hht2, hj2, hk2, hs4, hm4⟩
  have hS4 := Lib.hid hs4
  have hM4 := Lib.hid (hM3.out.trans hm4)
  have hX4 := Lib.hid (blk_mod hX3.out hm4 hbl)
  have hY4 := Lib.hid (blk_mod hY3.out hm4 (by omega))
  have hA4 := Lib.hid (blk_mod hA3.out hm4 (by omega))
  have hsz4 := hM4.out.size
  have hal4 := (Array.getElem?_eq_some_iff.1 hA4.out).1
  clear hs4 hm4 hS3 hM3 hX3 hY3 hA3
  obtain ⟨n2, hn2⟩ : ∃ n2 : ByteArray, (⟨#[98, 111]⟩ : ByteArray) = n2 := ⟨_, rfl⟩
  rw [hn2]
  clear hn2
  have hb5 := (Below.refl w4.heap.size w4).alloc (Nat.le_refl _) (.cells #[.string n2, .int .i64 x2, .int .i64 y2, .int .i64 ht2, .int .i64 j2, .int .i64 k2, .slice ca2 cn2 cc2] 117 (0, 0))
  have hS := Lib.hid (hS4.out.below hb5)
  have hM := Lib.hid (hM4.out.then hb5)
  have hX := Lib.hid ((hb5.block _ (by omega)).trans hX4.out)
  have hY := Lib.hid ((hb5.block _ (by omega)).trans hY4.out)
  have hA := Lib.hid ((hb5.block _ hal4).trans hA4.out)
  have hB : Hid ((w4.alloc (.cells #[.string n2, .int .i64 x2, .int .i64 y2, .int .i64 ht2, .int .i64 j2, .int .i64 k2, .slice ca2 cn2 cc2] 117 (0, 0))).heap[w4.heap.size]? = some (.cells #[.string n2, .int .i64 x2, .int .i64 y2, .int .i64 ht2, .int .i64 j2, .int .i64 k2, .slice ca2 cn2 cc2] 117 (0, 0))) := Lib.hid Array.getElem?_push_size
  clear hb5 hS4 hM4 hX4 hY4 hA4
  clear hn1
  go_wp2_with fail
  refine (hp.out _ _ hS.out (by omega) 100 (by omega)).mono ?_
  rintro e w6 ⟨k6, rfl, ⟨_, hk6⟩, hs, hm⟩
  have hk6 := hk6 (by omega)
  have hAv := blk_mod hA.out hm (by omega)
  have fk6 := Lib.frozen_of_heap hAv 1
  have dk6 := (Lib.cell_of_heap hAv 1).trans rfl
  have hS := Lib.hid (src_set (j := 1) (q := w2.heap.size) hs (by omega) (.int .i64 ((k6 : Int))))
  have hM := Lib.hid (mod_set (j := 1) (q := w2.heap.size) (hM.out.trans hm) (by omega) (.int .i64 ((k6 : Int))))
  have hX := Lib.hid (blk_off (j := 1) (q := w2.heap.size) (blk_mod hX.out hm hbl) (by omega) (.int .i64 ((k6 : Int))))
  have hY := Lib.hid (blk_off (j := 1) (q := w2.heap.size) (blk_mod hY.out hm (by omega)) (by omega) (.int .i64 ((k6 : Int))))
  have hB := Lib.hid (blk_off (j := 1) (q := w2.heap.size) (blk_mod hB.out hm (by omega)) (by omega) (.int .i64 ((k6 : Int))))
  have hA := Lib.hid (blk_on (j := 1) hAv (cs' := #[.string n1, .int .i64 k6, .int .i64 y, .int .i64 ht, .int .i64 j, .int .i64 k, .slice ca cn cc]) (v := .int .i64 ((k6 : Int))) rfl)
  clear hs hm hAv
  go_wp2_with fail
  clear fk6 dk6
  generalize (w6).setCell ⟨w2.heap.size, 1, none⟩ (.int .i64 ((k6 : Int))) = w6 at *
  refine (hp.out _ _ hS.out (by omega) 100 (by omega)).mono ?_
  rintro e w7 ⟨k7, rfl, ⟨_, hk7⟩, hs, hm⟩
  have hk7 := hk7 (by omega)
  have hAv := blk_mod hA.out hm (by omega)
  have fk7 := Lib.frozen_of_heap hAv 2
  have dk7 := (Lib.cell_of_heap hAv 2).trans rfl
  have hS := Lib.hid (src_set (j := 2) (q := w2.heap.size) hs (by omega) (.int .i64 ((k7 : Int))))
  have hM := Lib.hid (mod_set (j := 2) (q := w2.heap.size) (hM.out.trans hm) (by omega) (.int .i64 ((k7 : Int))))
  have hX := Lib.hid (blk_off (j := 2) (q := w2.heap.size) (blk_mod hX.out hm hbl) (by omega) (.int .i64 ((k7 : Int))))
  have hY := Lib.hid (blk_off (j := 2) (q := w2.heap.size) (blk_mod hY.out hm (by omega)) (by omega) (.int .i64 ((k7 : Int))))
  have hB := Lib.hid (blk_off (j := 2) (q := w2.heap.size) (blk_mod hB.out hm (by omega)) (by omega) (.int .i64 ((k7 : Int))))
  have hA := Lib.hid (blk_on (j := 2) hAv (cs' := #[.string n1, .int .i64 k6, .int .i64 k7, .int .i64 ht, .int .i64 j, .int .i64 k, .slice ca cn cc]) (v := .int .i64 ((k7 : Int))) rfl)
  clear hs hm hAv
  go_wp2_with fail
  clear fk7 dk7
  generalize (w7).setCell ⟨w2.heap.size, 2, none⟩ (.int .i64 ((k7 : Int))) = w7 at *
  refine (hp.out _ _ hS.out (by omega) 24 (by omega)).mono ?_
  rintro e w8 ⟨d, rfl, ⟨_, hd⟩, hs, hm⟩
  have hd := hd (by omega)
  have hS := Lib.hid hs
  have hM := Lib.hid (hM.out.trans hm)
  have hX := Lib.hid (blk_mod hX.out hm hbl)
  have hY := Lib.hid (blk_mod hY.out hm (by omega))
  have hA := Lib.hid (blk_mod hA.out hm (by omega))
  have hB := Lib.hid (blk_mod hB.out hm (by omega))
  have a1 := (Lib.cell_of_heap hA.out 1).trans rfl
  have a2 := (Lib.cell_of_heap hA.out 2).trans rfl
  clear hs hm
  have hpl : Pl (k6 : Int) (k7 : Int) := by unfold Pl; omega
  go_wp2_with fail
  go_region_held3 (fun w' => w'.cell? ⟨w2.heap.size, 1, none⟩ = some (.int .i64 k6) ∧ w'.cell? ⟨w2.heap.size, 2, none⟩ = some (.int .i64 k7)) (first | exact ⟨a1, a2⟩ | exact ⟨e1, e2⟩ | exact ⟨h1, h2⟩ | exact ⟨(off2 (by omega)).trans h1, (off2 (by omega)).trans h2⟩)
    (first
      | (go_at_call 53; refine (hp.out _ _ (hS.out.below ?hb) (by omega) 700 (by omega)).mono ?_; (case hb => go_grown); rintro e w9 ⟨r, rfl, ⟨_, hr⟩, hs9, hm9⟩; have hr := hr (by omega); have hm : Mod b (b + 1) w8 w9 := (Mod.of_below (by go_grown)).trans hm9; have hA9 := blk_mod hA.out hm (by omega); have hB9 := blk_mod hB.out hm (by omega); have hX9 := blk_mod hX.out hm hbl; have hY9 := blk_mod hY.out hm (by omega); have e1 := (Lib.cell_of_heap hA9 1).trans rfl; have e2 := (Lib.cell_of_heap hA9 2).trans rfl; have hwr : IntKind.i64.wrap (60 + (r : Int)) = 60 + (r : Int) := IntWalk.i64_in _ (by omega))
      | (go_at_call 111; refine (draw_At k6 k7 d (60 + (r : Int)) _ (by omega) (by omega) (by omega) (by omega)).mono ?_; rintro e w10 ⟨px, py, rfl, hpp, hb10⟩; have hA10 := (hb10.block _ (Array.getElem?_eq_some_iff.1 hA9).1).trans hA9; have hB10 := (hb10.block _ (Array.getElem?_eq_some_iff.1 hB9).1).trans hB9; have h1 := (Lib.cell_of_heap hA10 1).trans rfl; have h2 := (Lib.cell_of_heap hA10 2).trans rfl; have q1 := (Lib.cell_of_heap hB10 1).trans rfl; have q2 := (Lib.cell_of_heap hB10 2).trans rfl; have f1 := Lib.frozen_of_heap hB10 1; have f2 := Lib.frozen_of_heap hB10 2))
  rename_i hHeld
  clear hHeld
  have hS := Lib.hid (src_set (j := 2) (q := w4.heap.size) (src_set (j := 1) (q := w4.heap.size) (hs9.below hb10) (by omega) (.int .i64 px)) (by omega) (.int .i64 py))
  have hM := Lib.hid (mod_set (j := 2) (q := w4.heap.size) (mod_set (j := 1) (q := w4.heap.size) ((hM.out.trans hm).then hb10) (by omega) (.int .i64 px)) (by omega) (.int .i64 py))
  have hX := Lib.hid (blk_off (j := 2) (q := w4.heap.size) (blk_off (j := 1) (q := w4.heap.size) ((hb10.block _ (Array.getElem?_eq_some_iff.1 hX9).1).trans hX9) (by omega) (.int .i64 px)) (by omega) (.int .i64 py))
  have hY := Lib.hid (blk_off (j := 2) (q := w4.heap.size) (blk_off (j := 1) (q := w4.heap.size) ((hb10.block _ (Array.getElem?_eq_some_iff.1 hY9).1).trans hY9) (by omega) (.int .i64 px)) (by omega) (.int .i64 py))
  have hA := Lib.hid (blk_off (j := 2) (q := w4.heap.size) (blk_off (j := 1) (q := w4.heap.size) hA10 (by omega) (.int .i64 px)) (by omega) (.int .i64 py))
  have hB := Lib.hid (blk_on (j := 2) (blk_on (j := 1) hB10 (cs' := #[.string n2, .int .i64 px, .int .i64 y2, .int .i64 ht2, .int .i64 j2, .int .i64 k2, .slice ca2 cn2 cc2]) (v := .int .i64 px) rfl) (cs' := #[.string n2, .int .i64 px, .int .i64 py, .int .i64 ht2, .int .i64 j2, .int .i64 k2, .slice ca2 cn2 cc2]) (v := .int .i64 py) rfl)
  clear hs9 hm hm9 hA9 hB9 hX9 hY9 hA10 hB10 a1 a2 e1 e2 h1 h2 q1 q2 f1 f2 hb10
  generalize (w10.setCell ⟨w4.heap.size, 1, none⟩ (.int .i64 px)).setCell ⟨w4.heap.size, 2, none⟩ (.int .i64 py) = wa at *
  go_wp2_with fail
  refine (src_one b _ 2 _ hS.out (by omega) (by omega)).mono ?_
  rintro e wb ⟨yes, rfl, hs, hm⟩
  have hS := Lib.hid hs
  have hM := Lib.hid (hM.out.trans hm)
  have hX := Lib.hid (blk_mod hX.out hm hbl)
  have hY := Lib.hid (blk_mod hY.out hm (by omega))
  have hA := Lib.hid (blk_mod hA.out hm (by omega))
  have hB := Lib.hid (blk_mod hB.out hm (by omega))
  clear hs hm
  cases yes with
  | true =>
    have a3 := (Lib.cell_of_heap hA.out 3).trans rfl
    go_wp2_with fail
    go_region_held3 (fun w' => w'.cell? ⟨w2.heap.size, 3, none⟩ = some (.int .i64 ht)) (first | exact a3 | exact e3 | exact (off1 (by omega)).trans e3)
      (first
        | (go_at_call 53; refine (hp.out _ _ (hS.out.below ?hb) (by omega) 161 (by omega)).mono ?_; (case hb => go_grown); rintro e wc ⟨m, rfl, ⟨_, hmm⟩, hs9, hm9⟩; have hmm := hmm (by omega); have hm : Mod b (b + 1) wb wc := (Mod.of_below (by go_grown)).trans hm9; have hA9 := blk_mod hA.out hm (by omega); have hB9 := blk_mod hB.out hm (by omega); have hX9 := blk_mod hX.out hm hbl; have hY9 := blk_mod hY.out hm (by omega); have e3 := (Lib.cell_of_heap hA9 3).trans rfl; have d3 := (Lib.cell_of_heap hB9 3).trans rfl; have f3 := Lib.frozen_of_heap hB9 3; have hwr : IntKind.i64.wrap (ht + (m : Int)) = ht + (m : Int) := IntWalk.i64_in _ (by omega); have hwr2 : IntKind.i64.wrap (ht + (m : Int) - 80) = ht + (m : Int) - 80 := IntWalk.i64_in _ (by omega)))
    rename_i hHeld
    clear hHeld
    have hS := Lib.hid (src_set (j := 3) (q := w4.heap.size) hs9 (by omega) (.int .i64 (ht + (m : Int) - 80)))
    have hM := Lib.hid (mod_set (j := 3) (q := w4.heap.size) (hM.out.trans hm) (by omega) (.int .i64 (ht + (m : Int) - 80)))
    have hX := Lib.hid (blk_off (j := 3) (q := w4.heap.size) hX9 (by omega) (.int .i64 (ht + (m : Int) - 80)))
    have hY := Lib.hid (blk_off (j := 3) (q := w4.heap.size) hY9 (by omega) (.int .i64 (ht + (m : Int) - 80)))
    have hA := Lib.hid (blk_off (j := 3) (q := w4.heap.size) hA9 (by omega) (.int .i64 (ht + (m : Int) - 80)))
    have hB := Lib.hid (blk_on (j := 3) hB9 (cs' := #[.string n2, .int .i64 px, .int .i64 py, .int .i64 (ht + (m : Int) - 80), .int .i64 j2, .int .i64 k2, .slice ca2 cn2 cc2]) (v := .int .i64 (ht + (m : Int) - 80)) rfl)
    clear hs9 hm hm9 hA9 hB9 hX9 hY9 a3 e3 d3 f3 hwr hwr2
    obtain ⟨hb2, hhb⟩ : ∃ hb2, hb2 = ht + (m : Int) - 80 := ⟨_, rfl⟩
    rw [← hhb] at hS hM hX hY hA hB ⊢
    have hhb2 : 100 ≤ hb2 ∧ hb2 ≤ 800 := by omega
    clear hhb
    generalize wc.setCell ⟨w4.heap.size, 3, none⟩ (.int .i64 hb2) = wd at *
    go_wp2_with fail
    have hA' := hA.out
    have hB' := hB.out
    have hX' := hX.out
    have hY' := hY.out
    have a0 := (Lib.cell_of_heap hA' 0).trans rfl
    have a1 := (Lib.cell_of_heap hA' 1).trans rfl
    have a2 := (Lib.cell_of_heap hA' 2).trans rfl
    have a3 := (Lib.cell_of_heap hA' 3).trans rfl
    have a4 := (Lib.cell_of_heap hA' 4).trans rfl
    have a5 := (Lib.cell_of_heap hA' 5).trans rfl
    have a6 := (Lib.cell_of_heap hA' 6).trans rfl
    have b0 := (Lib.cell_of_heap hB' 0).trans rfl
    have b1 := (Lib.cell_of_heap hB' 1).trans rfl
    have b2 := (Lib.cell_of_heap hB' 2).trans rfl
    have b3 := (Lib.cell_of_heap hB' 3).trans rfl
    have b4 := (Lib.cell_of_heap hB' 4).trans rfl
    have b5 := (Lib.cell_of_heap hB' 5).trans rfl
    have b6 := (Lib.cell_of_heap hB' 6).trans rfl
    have x0 := (Lib.cell_of_heap hX' 0).trans rfl
    have x1 := (Lib.cell_of_heap hX' 1).trans rfl
    have x2 := (Lib.cell_of_heap hX' 2).trans rfl
    have x3 := (Lib.cell_of_heap hX' 3).trans rfl
    have x4 := (Lib.cell_of_heap hX' 4).trans rfl
    have x5 := (Lib.cell_of_heap hX' 5).trans rfl
    have x6 := (Lib.cell_of_heap hX' 6).trans rfl
    have y0 := (Lib.cell_of_heap hY' 0).trans rfl
    have y1 := (Lib.cell_of_heap hY' 1).trans rfl
    have y2 := (Lib.cell_of_heap hY' 2).trans rfl
    have y3 := (Lib.cell_of_heap hY' 3).trans rfl
    have y4 := (Lib.cell_of_heap hY' 4).trans rfl
    have y5 := (Lib.cell_of_heap hY' 5).trans rfl
    have y6 := (Lib.cell_of_heap hY' 6).trans rfl
    have fx := fun j => Lib.frozen_of_heap hX' j
    have fy := fun j => Lib.frozen_of_heap hY' j
    have hpa : w.heap.size ≠ w2.heap.size ∧ w.heap.size + 1 ≠ w2.heap.size ∧ w.heap.size ≠ w4.heap.size ∧ w.heap.size + 1 ≠ w4.heap.size := by omega
    obtain ⟨m1, m2, m3, m4⟩ := hpa
    refine region_ph 4 (fun w' => (∀ o, w'.cell? ⟨w2.heap.size, o, none⟩ = (wd).cell? ⟨w2.heap.size, o, none⟩) ∧ (∀ o, w'.cell? ⟨w4.heap.size, o, none⟩ = (wd).cell? ⟨w4.heap.size, o, none⟩)) (fun _ => True) (by kernel_rfl) ⟨fun _ => rfl, fun _ => rfl⟩ trivial (fun hp => ?_)
    refine take_ph 38 (i := 0) rfl rfl (by decide) (by kernel_rfl) (by kernel_rfl) (by kernel_rfl) (fun _ _ _ h => h) (by rfl) (fun w hSw => by (try dsimp only at hSw); obtain ⟨hSa, hSb⟩ := hSw; go_simp; first | done | with_reducible rfl) hp (fun hp => ?_)
    try simp only [Act.put, List.setIfInBounds_toArray, List.set_cons_zero, List.set_cons_succ]
    refine take_ph 39 (i := 1) rfl rfl (by decide) (by kernel_rfl) (by kernel_rfl) (by kernel_rfl) (fun _ _ _ h => h) (by rfl) (fun w hSw => by (try dsimp only at hSw); obtain ⟨hSa, hSb⟩ := hSw; go_simp; first | done | with_reducible rfl) hp (fun hp => ?_)
    try simp only [Act.put, List.setIfInBounds_toArray, List.set_cons_zero, List.set_cons_succ]
    refine AnyL.one (i := 2) (by kernel_rfl) rfl (fun K hK => ?_)
    go_simp
    refine hK.out _ _ (ph1 ⟨fun o => off7d (by omega), fun o => off7d (by omega)⟩ trivial) (fun hp => ?_)
    clear hK
    refine AnyL.one (i := 3) (by kernel_rfl) rfl (fun K hK => ?_)
    go_simp
    have hXF := off7h (p := w.heap.size + 1) (set7 (a0 := .string n1) (a1 := .int .i64 k6) (a2 := .int .i64 k7) (a3 := .int .i64 ht) (a4 := .int .i64 j) (a5 := .int .i64 k) (a6 := .slice ca cn cc) hX') (show w.heap.size ≠ w.heap.size + 1 by omega) (a0 := .string n2) (a1 := .int .i64 px) (a2 := .int .i64 py) (a3 := .int .i64 (hb2)) (a4 := .int .i64 j2) (a5 := .int .i64 k2) (a6 := .slice ca2 cn2 cc2)
    have hYF := set7 (a0 := .string n2) (a1 := .int .i64 px) (a2 := .int .i64 py) (a3 := .int .i64 (hb2)) (a4 := .int .i64 j2) (a5 := .int .i64 k2) (a6 := .slice ca2 cn2 cc2) (off7h hY' (show w.heap.size + 1 ≠ w.heap.size by omega) (a0 := .string n1) (a1 := .int .i64 k6) (a2 := .int .i64 k7) (a3 := .int .i64 ht) (a4 := .int .i64 j) (a5 := .int .i64 k) (a6 := .slice ca cn cc))
    have hbF := fun B (hB : B ≤ w.heap.size) => (below7 (p := w.heap.size) (wd) hB (a0 := .string n1) (a1 := .int .i64 k6) (a2 := .int .i64 k7) (a3 := .int .i64 ht) (a4 := .int .i64 j) (a5 := .int .i64 k) (a6 := .slice ca cn cc)).trans (below7 (p := w.heap.size + 1) _ (show B ≤ w.heap.size + 1 by omega) (a0 := .string n2) (a1 := .int .i64 px) (a2 := .int .i64 py) (a3 := .int .i64 (hb2)) (a4 := .int .i64 j2) (a5 := .int .i64 k2) (a6 := .slice ca2 cn2 cc2))
    refine hK.out _ _ (ph1 ⟨fun o => cell_drewD.trans ((off7 (by omega)).trans (off7 (by omega))), fun o => cell_drewD.trans ((off7 (by omega)).trans (off7 (by omega)))⟩ trivial) (fun hp => ?_)
    clear hK
    refine AnyL.done (by kernel_rfl) ?_ _
    simp only [Exit.then]
    generalize (((((((((((((((wd).setCell ⟨w.heap.size, 0, none⟩ (.string n1)).setCell ⟨w.heap.size, 1, none⟩ (.int .i64 k6)).setCell ⟨w.heap.size, 2, none⟩ (.int .i64 k7)).setCell ⟨w.heap.size, 3, none⟩ (.int .i64 ht)).setCell ⟨w.heap.size, 4, none⟩ (.int .i64 j)).setCell ⟨w.heap.size, 5, none⟩ (.int .i64 k)).setCell ⟨w.heap.size, 6, none⟩ (.slice ca cn cc)).setCell ⟨w.heap.size + 1, 0, none⟩ (.string n2)).setCell ⟨w.heap.size + 1, 1, none⟩ (.int .i64 px)).setCell ⟨w.heap.size + 1, 2, none⟩ (.int .i64 py)).setCell ⟨w.heap.size + 1, 3, none⟩ (.int .i64 (hb2))).setCell ⟨w.heap.size + 1, 4, none⟩ (.int .i64 j2)).setCell ⟨w.heap.size + 1, 5, none⟩ (.int .i64 k2)).setCell ⟨w.heap.size + 1, 6, none⟩ (.slice ca2 cn2 cc2)) = WF at *
    have r0 := (Lib.cell_of_heap hXF 0).trans rfl
    have r1 := (Lib.cell_of_heap hXF 1).trans rfl
    have r2 := (Lib.cell_of_heap hXF 2).trans rfl
    have r3 := (Lib.cell_of_heap hXF 3).trans rfl
    have r4 := (Lib.cell_of_heap hXF 4).trans rfl
    have r5 := (Lib.cell_of_heap hXF 5).trans rfl
    have r6 := (Lib.cell_of_heap hXF 6).trans rfl
    have t0 := (Lib.cell_of_heap hYF 0).trans rfl
    have t1 := (Lib.cell_of_heap hYF 1).trans rfl
    have t2 := (Lib.cell_of_heap hYF 2).trans rfl
    have t3 := (Lib.cell_of_heap hYF 3).trans rfl
    have t4 := (Lib.cell_of_heap hYF 4).trans rfl
    have t5 := (Lib.cell_of_heap hYF 5).trans rfl
    have t6 := (Lib.cell_of_heap hYF 6).trans rfl
    go_wp2_with fail
    exact bodyPost_ret (v := .tuple #[.agg #[.string n1, .int .i64 k6, .int .i64 k7, .int .i64 ht, .int .i64 j, .int .i64 k, .slice ca cn cc], .agg #[.string n2, .int .i64 px, .int .i64 py, .int .i64 (hb2), .int .i64 j2, .int .i64 k2, .slice ca2 cn2 cc2]]) (by simp [results, Try.results93, go_sem, r0, r1, r2, r3, r4, r5, r6, t0, t1, t2, t3, t4, t5, t6]) rfl
      ⟨⟨n1, k6, k7, ht, j, k⟩, ⟨n2, px, py, hb2, j2, k2⟩, ca, ca2, cn, cc, cn2, cc2, rfl, ⟨hpl, by dsimp only; omega, by dsimp only; omega, by dsimp only; omega⟩, ⟨hpp, by dsimp only; omega, by dsimp only; omega, by dsimp only; omega⟩, ((hS.out.mono (by omega)).lo (hbF (b + 1) (by omega)) (Nat.le_refl _)).below (Below.refl _ _).drew, (hM.out.onD (hbF w.heap.size (Nat.le_refl _))).then (Below.refl _ _).drew⟩
  | false =>
    go_wp2_with fail
    have hA' := hA.out
    have hB' := hB.out
    have hX' := hX.out
    have hY' := hY.out
    have a0 := (Lib.cell_of_heap hA' 0).trans rfl
    have a1 := (Lib.cell_of_heap hA' 1).trans rfl
    have a2 := (Lib.cell_of_heap hA' 2).trans rfl
    have a3 := (Lib.cell_of_heap hA' 3).trans rfl
    have a4 := (Lib.cell_of_heap hA' 4).trans rfl
    have a5 := (Lib.cell_of_heap hA' 5).trans rfl
    have a6 := (Lib.cell_of_heap hA' 6).trans rfl
    have b0 := (Lib.cell_of_heap hB' 0).trans rfl
    have b1 := (Lib.cell_of_heap hB' 1).trans rfl
    have b2 := (Lib.cell_of_heap hB' 2).trans rfl
    have b3 := (Lib.cell_of_heap hB' 3).trans rfl
    have b4 := (Lib.cell_of_heap hB' 4).trans rfl
    have b5 := (Lib.cell_of_heap hB' 5).trans rfl
    have b6 := (Lib.cell_of_heap hB' 6).trans rfl
    have x0 := (Lib.cell_of_heap hX' 0).trans rfl
    have x1 := (Lib.cell_of_heap hX' 1).trans rfl
    have x2 := (Lib.cell_of_heap hX' 2).trans rfl
    have x3 := (Lib.cell_of_heap hX' 3).trans rfl
    have x4 := (Lib.cell_of_heap hX' 4).trans rfl
    have x5 := (Lib.cell_of_heap hX' 5).trans rfl
    have x6 := (Lib.cell_of_heap hX' 6).trans rfl
    have y0 := (Lib.cell_of_heap hY' 0).trans rfl
    have y1 := (Lib.cell_of_heap hY' 1).trans rfl
    have y2 := (Lib.cell_of_heap hY' 2).trans rfl
    have y3 := (Lib.cell_of_heap hY' 3).trans rfl
    have y4 := (Lib.cell_of_heap hY' 4).trans rfl
    have y5 := (Lib.cell_of_heap hY' 5).trans rfl
    have y6 := (Lib.cell_of_heap hY' 6).trans rfl
    have fx := fun j => Lib.frozen_of_heap hX' j
    have fy := fun j => Lib.frozen_of_heap hY' j
    have hpa : w.heap.size ≠ w2.heap.size ∧ w.heap.size + 1 ≠ w2.heap.size ∧ w.heap.size ≠ w4.heap.size ∧ w.heap.size + 1 ≠ w4.heap.size := by omega
    obtain ⟨m1, m2, m3, m4⟩ := hpa
    refine region_ph 4 (fun w' => (∀ o, w'.cell? ⟨w2.heap.size, o, none⟩ = (wb).cell? ⟨w2.heap.size, o, none⟩) ∧ (∀ o, w'.cell? ⟨w4.heap.size, o, none⟩ = (wb).cell? ⟨w4.heap.size, o, none⟩)) (fun _ => True) (by kernel_rfl) ⟨fun _ => rfl, fun _ => rfl⟩ trivial (fun hp => ?_)
    refine take_ph 38 (i := 0) rfl rfl (by decide) (by kernel_rfl) (by kernel_rfl) (by kernel_rfl) (fun _ _ _ h => h) (by rfl) (fun w hSw => by (try dsimp only at hSw); obtain ⟨hSa, hSb⟩ := hSw; go_simp; first | done | with_reducible rfl) hp (fun hp => ?_)
    try simp only [Act.put, List.setIfInBounds_toArray, List.set_cons_zero, List.set_cons_succ]
    refine take_ph 39 (i := 1) rfl rfl (by decide) (by kernel_rfl) (by kernel_rfl) (by kernel_rfl) (fun _ _ _ h => h) (by rfl) (fun w hSw => by (try dsimp only at hSw); obtain ⟨hSa, hSb⟩ := hSw; go_simp; first | done | with_reducible rfl) hp (fun hp => ?_)
    try simp only [Act.put, List.setIfInBounds_toArray, List.set_cons_zero, List.set_cons_succ]
    refine AnyL.one (i := 2) (by kernel_rfl) rfl (fun K hK => ?_)
    go_simp
    refine hK.out _ _ (ph1 ⟨fun o => off7d (by omega), fun o => off7d (by omega)⟩ trivial) (fun hp => ?_)
    clear hK
    refine AnyL.one (i := 3) (by kernel_rfl) rfl (fun K hK => ?_)
    go_simp
    have hXF := off7h (p := w.heap.size + 1) (set7 (a0 := .string n1) (a1 := .int .i64 k6) (a2 := .int .i64 k7) (a3 := .int .i64 ht) (a4 := .int .i64 j) (a5 := .int .i64 k) (a6 := .slice ca cn cc) hX') (show w.heap.size ≠ w.heap.size + 1 by omega) (a0 := .string n2) (a1 := .int .i64 px) (a2 := .int .i64 py) (a3 := .int .i64 (ht2)) (a4 := .int .i64 j2) (a5 := .int .i64 k2) (a6 := .slice ca2 cn2 cc2)
    have hYF := set7 (a0 := .string n2) (a1 := .int .i64 px) (a2 := .int .i64 py) (a3 := .int .i64 (ht2)) (a4 := .int .i64 j2) (a5 := .int .i64 k2) (a6 := .slice ca2 cn2 cc2) (off7h hY' (show w.heap.size + 1 ≠ w.heap.size by omega) (a0 := .string n1) (a1 := .int .i64 k6) (a2 := .int .i64 k7) (a3 := .int .i64 ht) (a4 := .int .i64 j) (a5 := .int .i64 k) (a6 := .slice ca cn cc))
    have hbF := fun B (hB : B ≤ w.heap.size) => (below7 (p := w.heap.size) (wb) hB (a0 := .string n1) (a1 := .int .i64 k6) (a2 := .int .i64 k7) (a3 := .int .i64 ht) (a4 := .int .i64 j) (a5 := .int .i64 k) (a6 := .slice ca cn cc)).trans (below7 (p := w.heap.size + 1) _ (show B ≤ w.heap.size + 1 by omega) (a0 := .string n2) (a1 := .int .i64 px) (a2 := .int .i64 py) (a3 := .int .i64 (ht2)) (a4 := .int .i64 j2) (a5 := .int .i64 k2) (a6 := .slice ca2 cn2 cc2))
    refine hK.out _ _ (ph1 ⟨fun o => cell_drewD.trans ((off7 (by omega)).trans (off7 (by omega))), fun o => cell_drewD.trans ((off7 (by omega)).trans (off7 (by omega)))⟩ trivial) (fun hp => ?_)
    clear hK
    refine AnyL.done (by kernel_rfl) ?_ _
    simp only [Exit.then]
    generalize (((((((((((((((wb).setCell ⟨w.heap.size, 0, none⟩ (.string n1)).setCell ⟨w.heap.size, 1, none⟩ (.int .i64 k6)).setCell ⟨w.heap.size, 2, none⟩ (.int .i64 k7)).setCell ⟨w.heap.size, 3, none⟩ (.int .i64 ht)).setCell ⟨w.heap.size, 4, none⟩ (.int .i64 j)).setCell ⟨w.heap.size, 5, none⟩ (.int .i64 k)).setCell ⟨w.heap.size, 6, none⟩ (.slice ca cn cc)).setCell ⟨w.heap.size + 1, 0, none⟩ (.string n2)).setCell ⟨w.heap.size + 1, 1, none⟩ (.int .i64 px)).setCell ⟨w.heap.size + 1, 2, none⟩ (.int .i64 py)).setCell ⟨w.heap.size + 1, 3, none⟩ (.int .i64 (ht2))).setCell ⟨w.heap.size + 1, 4, none⟩ (.int .i64 j2)).setCell ⟨w.heap.size + 1, 5, none⟩ (.int .i64 k2)).setCell ⟨w.heap.size + 1, 6, none⟩ (.slice ca2 cn2 cc2)) = WF at *
    have r0 := (Lib.cell_of_heap hXF 0).trans rfl
    have r1 := (Lib.cell_of_heap hXF 1).trans rfl
    have r2 := (Lib.cell_of_heap hXF 2).trans rfl
    have r3 := (Lib.cell_of_heap hXF 3).trans rfl
    have r4 := (Lib.cell_of_heap hXF 4).trans rfl
    have r5 := (Lib.cell_of_heap hXF 5).trans rfl
    have r6 := (Lib.cell_of_heap hXF 6).trans rfl
    have t0 := (Lib.cell_of_heap hYF 0).trans rfl
    have t1 := (Lib.cell_of_heap hYF 1).trans rfl
    have t2 := (Lib.cell_of_heap hYF 2).trans rfl
    have t3 := (Lib.cell_of_heap hYF 3).trans rfl
    have t4 := (Lib.cell_of_heap hYF 4).trans rfl
    have t5 := (Lib.cell_of_heap hYF 5).trans rfl
    have t6 := (Lib.cell_of_heap hYF 6).trans rfl
    go_wp2_with fail
    exact bodyPost_ret (v := .tuple #[.agg #[.string n1, .int .i64 k6, .int .i64 k7, .int .i64 ht, .int .i64 j, .int .i64 k, .slice ca cn cc], .agg #[.string n2, .int .i64 px, .int .i64 py, .int .i64 (ht2), .int .i64 j2, .int .i64 k2, .slice ca2 cn2 cc2]]) (by simp [results, Try.results93, go_sem, r0, r1, r2, r3, r4, r5, r6, t0, t1, t2, t3, t4, t5, t6]) rfl
      ⟨⟨n1, k6, k7, ht, j, k⟩, ⟨n2, px, py, ht2, j2, k2⟩, ca, ca2, cn, cc, cn2, cc2, rfl, ⟨hpl, by dsimp only; omega, by dsimp only; omega, by dsimp only; omega⟩, ⟨hpp, by dsimp only; omega, by dsimp only; omega, by dsimp only; omega⟩, ((hS.out.mono (by omega)).lo (hbF (b + 1) (by omega)) (Nat.le_refl _)).below (Below.refl _ _).drew, (hM.out.onD (hbF w.heap.size (Nat.le_refl _))).then (Below.refl _ _).drew⟩
end Go.Proofs.Ytmkhapgkiecmaaa
