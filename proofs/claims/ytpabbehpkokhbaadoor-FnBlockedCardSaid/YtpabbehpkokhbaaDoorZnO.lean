/- Zones, the program: whether a line meets a zone. -/
import Derived.Test.YtpabbehpkokhbaaDoorZnN
namespace Go.Proofs.YtpabbehpkokhbaaDoor
open Go.RowKit
theorem boxA_1 (w : World) (o p : Obj) : ((w.alloc o).alloc p).heap[w.heap.size + 1]? = some p := by
  have := blkN_new (w.alloc o) p
  rwa [World.size_alloc] at this
/-- A number of a fraction. -/
def FB (n : Int) : Prop := 0 ≤ n ∧ n ≤ 2000000000
theorem fb_mul {a b : Int} (h1 : FB a) (h2 : FB b) : IntKind.i64.wrap (a * b) = a * b := by
  have := prod_bd (A := 2000000000) (B := 2000000000) (a := a) (b := b) (by unfold FB at h1; omega) (by unfold FB at h2; omega)
  exact IntWalk.i64_in _ (by omega)
set_option maxRecDepth 100000 in
set_option maxHeartbeats 2000000 in
theorem impl_Later (a1 a2 b1 b2 : Int) (w : World) (h1 : FB a1) (h2 : FB a2) (h3 : FB b1) (h4 : FB b2) : Calls Tryd.prog 73 #[.agg #[.int .i64 a1, .int .i64 a2], .agg #[.int .i64 b1, .int .i64 b2]] w fun e w' => e = .returned (.agg #[.int .i64 (if a1 * b2 < b1 * a2 then b1 else a1), .int .i64 (if a1 * b2 < b1 * a2 then b2 else a2)]) ∧ Below w.heap.size w w' := by
  have hw1 : IntKind.i64.wrap (a1 * b2) = a1 * b2 := fb_mul (by assumption) (by assumption)
  have hw2 : IntKind.i64.wrap (b1 * a2) = b1 * a2 := fb_mul (by assumption) (by assumption)
  clear h1 h2 h3 h4
  by_cases hlt : a1 * b2 < b1 * a2
  · rw [if_pos hlt, if_pos hlt]
    go_enter Tryd.func73, Tryd.ntmps73
    go_wp2
    refine bodyPost_ret (v := .agg #[.int .i64 b1, .int .i64 b2]) (by simp [results, Tryd.results73, go_sem]) rfl ?_
    exact ⟨rfl, by go_grown⟩
  · rw [if_neg hlt, if_neg hlt]
    go_enter Tryd.func73, Tryd.ntmps73
    go_wp2
    refine bodyPost_ret (v := .agg #[.int .i64 a1, .int .i64 a2]) (by simp [results, Tryd.results73, go_sem]) rfl ?_
    exact ⟨rfl, by go_grown⟩
set_option maxRecDepth 100000 in
set_option maxHeartbeats 2000000 in
theorem impl_Earl (a1 a2 b1 b2 : Int) (w : World) (h1 : FB a1) (h2 : FB a2) (h3 : FB b1) (h4 : FB b2) : Calls Tryd.prog 74 #[.agg #[.int .i64 a1, .int .i64 a2], .agg #[.int .i64 b1, .int .i64 b2]] w fun e w' => e = .returned (.agg #[.int .i64 (if b1 * a2 < a1 * b2 then b1 else a1), .int .i64 (if b1 * a2 < a1 * b2 then b2 else a2)]) ∧ Below w.heap.size w w' := by
  have hw1 : IntKind.i64.wrap (b1 * a2) = b1 * a2 := fb_mul (by assumption) (by assumption)
  have hw2 : IntKind.i64.wrap (a1 * b2) = a1 * b2 := fb_mul (by assumption) (by assumption)
  clear h1 h2 h3 h4
  by_cases hlt : b1 * a2 < a1 * b2
  · rw [if_pos hlt, if_pos hlt]
    go_enter Tryd.func74, Tryd.ntmps74
    go_wp2
    refine bodyPost_ret (v := .agg #[.int .i64 b1, .int .i64 b2]) (by simp [results, Tryd.results74, go_sem]) rfl ?_
    exact ⟨rfl, by go_grown⟩
  · rw [if_neg hlt, if_neg hlt]
    go_enter Tryd.func74, Tryd.ntmps74
    go_wp2
    refine bodyPost_ret (v := .agg #[.int .i64 a1, .int .i64 a2]) (by simp [results, Tryd.results74, go_sem]) rfl ?_
    exact ⟨rfl, by go_grown⟩
/-- The world while the sides are gone through: both points and what is left of the line, in boxes. -/
structure MI (C : List Pnt) (p q : Pnt) (pb qb lb hb : Nat) (k : Nat) (W : World) : Prop where
  pbx : W.heap[pb]? = some (.cells #[.int .i64 p.x, .int .i64 p.y] 26 (0, 0))
  qbx : W.heap[qb]? = some (.cells #[.int .i64 q.x, .int .i64 q.y] 26 (0, 0))
  st : ∃ l1 l2 h1 h2 : Int, W.heap[lb]? = some (.cells #[.int .i64 l1, .int .i64 l2] 97 (0, 0)) ∧ W.heap[hb]? = some (.cells #[.int .i64 h1, .int .i64 h2] 97 (0, 0)) ∧ ClipSt C p q k l1 l2 h1 h2
theorem eg_bd {C : List Pnt} (hC : ∀ p ∈ C, Crd p) {p : Pnt} (hp : Crd p) {k : Nat} (hk : k < C.length) : -968000000 ≤ eg C k p ∧ eg C k p ≤ 968000000 := by
  have hk2 : (k + 1) % C.length < C.length := Nat.mod_lt _ (by omega)
  unfold eg
  rw [cnr_at hk, cnr_at hk2]
  exact (cross_bd (hC _ (List.getElem_mem hk)) (hC _ (List.getElem_mem hk2)) hp).2
theorem set2 {w : World} {p : Nat} {T : TypeId} {fz : Nat × Nat} {c0 c1 : Value} (h : w.heap[p]? = some (.cells #[c0, c1] T fz)) (a0 a1 : Value) : ((w.setCell ⟨p, 0, none⟩ a0).setCell ⟨p, 1, none⟩ a1).heap[p]? = some (.cells #[a0, a1] T fz) := by
  simp [World.setCell, Array.getElem?_modify, h]
theorem off2 {w : World} {p q : Nat} {o : Obj} (h : w.heap[q]? = some o) (hne : q ≠ p) (a0 a1 : Value) : ((w.setCell ⟨p, 0, none⟩ a0).setCell ⟨p, 1, none⟩ a1).heap[q]? = some o :=
  (Below.heap_setCell (w.setCell ⟨p, 0, none⟩ a0) ⟨p, 1, none⟩ a1 q hne).trans ((Below.heap_setCell w ⟨p, 0, none⟩ a0 q hne).trans h)
theorem mod2 {lo hi p : Nat} {a w : World} (h : Mod lo hi a w) (h1 : lo ≤ p) (h2 : p < hi) (a0 a1 : Value) : Mod lo hi a ((w.setCell ⟨p, 0, none⟩ a0).setCell ⟨p, 1, none⟩ a1) :=
  (h.setCell (p := ⟨p, 0, none⟩) h1 h2 a0).setCell (p := ⟨p, 1, none⟩) h1 h2 a1
set_option maxRecDepth 100000 in
set_option maxHeartbeats 8000000 in
theorem impl_Meets1 (C : List Pnt) (p q : Pnt) (pb qb lb hb k : Nat) (w : World) (h : MI C p q pb qb lb hb k w) (hC : ∀ c ∈ C, Crd c) (hp : Crd p) (hq : Crd q) (hk : k < C.length) (hpl : pb < lb) (hql : qb < lb) (hlh : lb < hb) :
    Calls Tryd.prog 71 #[.int .i64 k, .agg #[.int .i64 (cnr C k).x, .int .i64 (cnr C k).y], .agg #[.int .i64 (cnr C ((k + 1) % C.length)).x, .int .i64 (cnr C ((k + 1) % C.length)).y], .pointer (some ⟨pb, 0, none⟩), .pointer (some ⟨qb, 0, none⟩), .pointer (some ⟨lb, 0, none⟩), .pointer (some ⟨hb, 0, none⟩)] w (StepOut lb (hb + 1) k (MI C p q pb qb lb hb) (¬ clipZ C p q) w) := by
  have hk2 : (k + 1) % C.length < C.length := Nat.mod_lt _ (by omega)
  have hck : Crd (cnr C k) := by rw [cnr_at hk]; exact hC _ (List.getElem_mem hk)
  have hcn : Crd (cnr C ((k + 1) % C.length)) := by rw [cnr_at hk2]; exact hC _ (List.getElem_mem hk2)
  have HS1 := Lib.hid (fun W => impl_Sd (cnr C k) (cnr C ((k + 1) % C.length)) p W hck hcn hp)
  have HS2 := Lib.hid (fun W => impl_Sd (cnr C k) (cnr C ((k + 1) % C.length)) q W hck hcn hq)
  obtain ⟨hm1, hm2⟩ := eg_bd hC hp hk
  obtain ⟨hn1, hn2⟩ := eg_bd hC hq hk
  obtain ⟨hbp, hbq, l1, l2, h1, h2, hbl, hbh, hst⟩ := h
  obtain ⟨⟨b1, b2⟩, ⟨b3, b4⟩, ⟨b5, b6⟩, b7, b8⟩ := hst.bd (B := 968000000) (by omega) (fun i hi => ⟨eg_bd hC hp (by omega), eg_bd hC hq (by omega)⟩)
  have Hboth := Lib.hid (fun (ha : 0 ≤ eg C k p) (hb : 0 ≤ eg C k q) => hst.both ha hb)
  have Hlow := Lib.hid (fun (ha : eg C k p < 0) (hb : 0 ≤ eg C k q) => hst.low ha hb)
  have Hhigh := Lib.hid (fun (ha : 0 ≤ eg C k p) (hb : eg C k q < 0) => hst.high ha hb)
  have Hbad := Lib.hid (fun (ha : eg C k p < 0) (hb : eg C k q < 0) => (show ¬ clipZ C p q from fun h => h.1 k hk ⟨ha, hb⟩))
  rw [show crossP (cnr C k) (cnr C ((k + 1) % C.length)) p = eg C k p from rfl] at HS1
  rw [show crossP (cnr C k) (cnr C ((k + 1) % C.length)) q = eg C k q from rfl] at HS2
  clear hC hp hq hk hk2 hck hcn hst
  generalize eg C k p = m at *
  generalize eg C k q = n at *
  generalize cnr C ((k + 1) % C.length) = pn at *
  generalize cnr C k = pk at *
  obtain ⟨kx, ky⟩ := pk
  obtain ⟨nx, ny⟩ := pn
  obtain ⟨px, py⟩ := p
  obtain ⟨qx, qy⟩ := q
  dsimp only at *
  have c0 := (Lib.cell_of_heap hbp 0).trans rfl
  have c1 := (Lib.cell_of_heap hbp 1).trans rfl
  have d0 := (Lib.cell_of_heap hbq 0).trans rfl
  have d1 := (Lib.cell_of_heap hbq 1).trans rfl
  have hpw := World.block_lt_of_cell? w _ c0
  have hqw := World.block_lt_of_cell? w _ d0
  have Hbp := Lib.hid hbp
  have Hbq := Lib.hid hbq
  have Hbl := Lib.hid hbl
  have Hbh := Lib.hid hbh
  have HL1 := Lib.hid (fun W => impl_Later l1 l2 (-m) (n - m) W)
  have HL2 := Lib.hid (fun W => impl_Earl h1 h2 m (m - n) W)
  clear hbp hbq hbl hbh
  have hb0 : Below w.heap.size w ((w.alloc (.cells #[.int .i64 kx, .int .i64 ky] 26 (0, 0))).alloc (.cells #[.int .i64 nx, .int .i64 ny] 26 (0, 0))) := ((Below.refl _ _).alloc (Nat.le_refl _) _).alloc (by simp) _
  have hX := (blkN_below ((Below.refl _ _).alloc (Nat.le_refl _) (.cells #[.int .i64 nx, .int .i64 ny] 26 (0, 0))) (blkN_new w (.cells #[.int .i64 kx, .int .i64 ky] 26 (0, 0))))
  have hY := boxA_1 w (.cells #[.int .i64 kx, .int .i64 ky] 26 (0, 0)) (.cells #[.int .i64 nx, .int .i64 ny] 26 (0, 0))
  go_enter Tryd.func71, Tryd.ntmps71
  go_wp2_with fail
  generalize (w.alloc (.cells #[.int .i64 kx, .int .i64 ky] 26 (0, 0))).alloc (.cells #[.int .i64 nx, .int .i64 ny] 26 (0, 0)) = w0 at *
  obtain ⟨qq, hqq⟩ : ∃ qq, w.heap.size = qq := ⟨_, rfl⟩
  have hs0 := hb0.size
  have c0 := (hb0.cell (p := ⟨pb, 0, none⟩) hpw).trans c0
  have c1 := (hb0.cell (p := ⟨pb, 1, none⟩) hpw).trans c1
  have d0 := (hb0.cell (p := ⟨qb, 0, none⟩) hqw).trans d0
  have d1 := (hb0.cell (p := ⟨qb, 1, none⟩) hqw).trans d1
  have e0 := (Lib.cell_of_heap hX 0).trans rfl
  have e1 := (Lib.cell_of_heap hX 1).trans rfl
  have f0 := (Lib.cell_of_heap hY 0).trans rfl
  have f1 := (Lib.cell_of_heap hY 1).trans rfl
  have hxw := (Array.getElem?_eq_some_iff.1 hX).1
  have hyw := (Array.getElem?_eq_some_iff.1 hY).1
  have hpw0 : pb < w0.heap.size := Nat.lt_of_lt_of_le hpw hs0
  have hqw0 : qb < w0.heap.size := Nat.lt_of_lt_of_le hqw hs0
  rw [hqq] at e0 e1 f0 f1 hxw hyw ⊢
  have Hqq := Lib.hid hqq
  clear hX hY hqq
  go_region_held3 (fun w' => (∀ b' o', b' < w0.heap.size → w'.cell? ⟨b', o', none⟩ = w0.cell? ⟨b', o', none⟩) ∧ Below w0.heap.size w0 w') (first | (refine heldB ?_; go_grown; done))
    (first | (go_at_call_of 72 (Value.agg #[.int .i64 px, .int .i64 py]); refine (HS1.out _).mono ?_; rintro e w1 ⟨rfl, b1'⟩; have g1 : Below w0.heap.size w0 w1 := Below.trans (by go_grown) (b1'.mono (by first | exact Nat.le_refl _ | go_size))) | (go_at_call_of 72 (Value.agg #[.int .i64 qx, .int .i64 qy]); refine (HS2.out _).mono ?_; rintro e w2 ⟨rfl, b2'⟩; have g2 : Below w0.heap.size w0 w2 := g1.trans (b2'.mono g1.size)))
  rename_i hHeld
  clear hHeld
  have hB := hb0.trans (g2.mono hb0.size)
  have HP2 := Lib.hid (blkN_below hB Hbp.out)
  have HQ2 := Lib.hid (blkN_below hB Hbq.out)
  have HL2' := Lib.hid (blkN_below hB Hbl.out)
  have HH2' := Lib.hid (blkN_below hB Hbh.out)
  clear c0 c1 d0 d1 e0 e1 f0 f1 hxw hyw hpw0 hqw0 hb0 g1 g2 hpw hqw b1' b2'
  by_cases hm : m < 0
  · by_cases hn : n < 0
    · have hbad := Hbad.out hm hn
      have t1 : decide (m < 0) = true := decide_eq_true hm
      have t2 : decide (n < 0) = true := decide_eq_true hn
      go_wp2_with fail
      go_ret
      exact ⟨false, rfl, Mod.of_below hB, .inr ⟨rfl, hbad⟩⟩
    · have hnew := Lib.hid (Hlow.out hm (by omega))
      have t1 : decide (m < 0) = true := decide_eq_true hm
      have t2 : decide (n < 0) = false := decide_eq_false hn
      have t2' : 0 ≤ n := by omega
      have hcl := Lib.hid (HL1.out w2 ⟨by omega, by omega⟩ ⟨by omega, by omega⟩ ⟨by omega, by omega⟩ ⟨by omega, by omega⟩)
      have v1 : IntKind.i64.wrap (-m) = -m := IntWalk.i64_in _ (by omega)
      have v2 : IntKind.i64.wrap (n - m) = n - m := IntWalk.i64_in _ (by omega)
      have l0 := (Lib.cell_of_heap HL2'.out 0).trans rfl
      have l1' := (Lib.cell_of_heap HL2'.out 1).trans rfl
      have hlw := (Array.getElem?_eq_some_iff.1 HL2'.out).1
      generalize (if l1 * (n - m) < -m * l2 then -m else l1) = r1 at *
      generalize (if l1 * (n - m) < -m * l2 then n - m else l2) = r2 at *
      clear hn
      go_wp2_with fail
      refine hcl.out.mono ?_
      rintro e w3 ⟨rfl, b9⟩
      have hB3 := hB.trans (b9.mono hB.size)
      have HL3 := Lib.hid (blkN_below b9 HL2'.out)
      have k0 := (Lib.cell_of_heap HL3.out 0).trans rfl
      have k1 := (Lib.cell_of_heap HL3.out 1).trans rfl
      have fz := fun j => Lib.frozen_of_heap HL3.out j
      have hfin : MI C ⟨px, py⟩ ⟨qx, qy⟩ pb qb lb hb (k + 1) ((w3.setCell ⟨lb, 0, none⟩ (.int .i64 r1)).setCell ⟨lb, 1, none⟩ (.int .i64 r2)) :=
        ⟨off2 (blkN_below b9 HP2.out) (by omega) _ _, off2 (blkN_below b9 HQ2.out) (by omega) _ _, r1, r2, h1, h2, set2 HL3.out _ _, off2 (blkN_below b9 HH2'.out) (by omega) _ _, hnew.out⟩
      have hmod : Mod lb (hb + 1) w ((w3.setCell ⟨lb, 0, none⟩ (.int .i64 r1)).setCell ⟨lb, 1, none⟩ (.int .i64 r2)) := mod2 (Mod.of_below hB3) (Nat.le_refl _) (by omega) _ _
      have Hfin := Lib.hid hfin
      have Hmod := Lib.hid hmod
      clear hfin hmod l0 l1' hcl
      go_wp2_with fail
      go_ret
      exact ⟨true, rfl, Hmod.out, .inl ⟨rfl, Hfin.out⟩⟩
  · by_cases hn : n < 0
    · have hnew := Lib.hid (Hhigh.out (by omega) hn)
      have t1 : decide (m < 0) = false := decide_eq_false hm
      have t1' : 0 ≤ m := by omega
      have t2 : decide (n < 0) = true := decide_eq_true hn
      have hcl := Lib.hid (HL2.out w2 ⟨by omega, by omega⟩ ⟨by omega, by omega⟩ ⟨by omega, by omega⟩ ⟨by omega, by omega⟩)
      have v2 : IntKind.i64.wrap (m - n) = m - n := IntWalk.i64_in _ (by omega)
      have l0 := (Lib.cell_of_heap HH2'.out 0).trans rfl
      have l1' := (Lib.cell_of_heap HH2'.out 1).trans rfl
      have hlw := (Array.getElem?_eq_some_iff.1 HH2'.out).1
      generalize (if m * h2 < h1 * (m - n) then m else h1) = r1 at *
      generalize (if m * h2 < h1 * (m - n) then m - n else h2) = r2 at *
      clear hm
      go_wp2_with fail
      refine hcl.out.mono ?_
      rintro e w3 ⟨rfl, b9⟩
      have hB3 := hB.trans (b9.mono hB.size)
      have HH3 := Lib.hid (blkN_below b9 HH2'.out)
      have k0 := (Lib.cell_of_heap HH3.out 0).trans rfl
      have k1 := (Lib.cell_of_heap HH3.out 1).trans rfl
      have fz := fun j => Lib.frozen_of_heap HH3.out j
      have hfin : MI C ⟨px, py⟩ ⟨qx, qy⟩ pb qb lb hb (k + 1) ((w3.setCell ⟨hb, 0, none⟩ (.int .i64 r1)).setCell ⟨hb, 1, none⟩ (.int .i64 r2)) :=
        ⟨off2 (blkN_below b9 HP2.out) (by omega) _ _, off2 (blkN_below b9 HQ2.out) (by omega) _ _, l1, l2, r1, r2, off2 (blkN_below b9 HL2'.out) (by omega) _ _, set2 HH3.out _ _, hnew.out⟩
      have hmod : Mod lb (hb + 1) w ((w3.setCell ⟨hb, 0, none⟩ (.int .i64 r1)).setCell ⟨hb, 1, none⟩ (.int .i64 r2)) := mod2 (Mod.of_below hB3) (by omega) (by omega) _ _
      have Hfin := Lib.hid hfin
      have Hmod := Lib.hid hmod
      clear hfin hmod l0 l1' hcl
      go_wp2_with fail
      go_ret
      exact ⟨true, rfl, Hmod.out, .inl ⟨rfl, Hfin.out⟩⟩
    · have hnew := Lib.hid (Hboth.out (by omega) (by omega))
      have t1 : decide (m < 0) = false := decide_eq_false hm
      have t1' : 0 ≤ m := by omega
      have t2 : decide (n < 0) = false := decide_eq_false hn
      have t2' : 0 ≤ n := by omega
      clear hm hn
      go_wp2_with fail
      go_ret
      exact ⟨true, rfl, Mod.of_below hB, .inl ⟨rfl, HP2.out, HQ2.out, l1, l2, h1, h2, HL2'.out, HH2'.out, hnew.out⟩⟩
theorem upA {W : World} {q : Nat} {o : Obj} (o' : Obj) (h : W.heap[q]? = some o) : (W.alloc o').heap[q]? = some o := blkN_below ((Below.refl _ _).alloc (Nat.le_refl _) o') h
/-- Five boxes, one behind the other. -/
theorem five (w : World) (o0 o1 o2 o3 o4 : Obj) : ∃ W, ((((w.alloc o0).alloc o1).alloc o2).alloc o3).alloc o4 = W ∧ W.heap[w.heap.size]? = some o0 ∧ W.heap[w.heap.size + 1]? = some o1 ∧ W.heap[w.heap.size + 1 + 1]? = some o2 ∧ W.heap[w.heap.size + 1 + 1 + 1]? = some o3 ∧ W.heap[w.heap.size + 1 + 1 + 1 + 1]? = some o4 ∧ Below w.heap.size w W ∧ W.heap.size = w.heap.size + 1 + 1 + 1 + 1 + 1 := by
  have n1 := boxA_1 w o0 o1
  have n2 := boxA_1 (w.alloc o0) o1 o2
  have n3 := boxA_1 ((w.alloc o0).alloc o1) o2 o3
  have n4 := boxA_1 (((w.alloc o0).alloc o1).alloc o2) o3 o4
  simp only [World.size_alloc] at n2 n3 n4
  refine ⟨_, rfl, upA _ (upA _ (upA _ (upA _ (blkN_new w o0)))), upA _ (upA _ (upA _ n1)), upA _ (upA _ n2), upA _ n3, n4, ?_, by simp only [World.size_alloc]⟩
  exact ((((((Below.refl _ _).alloc (Nat.le_refl _) _).alloc (by simp) _).alloc (by simp; omega) _).alloc (by simp; omega) _).alloc (by simp; omega) _)
theorem meetB_clip {C : List Pnt} {p q : Pnt} (h : Conv C) : meetB C p q = true ↔ clipZ C p q := ⟨fun h2 => (clip_iff h).2 (by classical exact of_decide_eq_true h2), fun h2 => meetB_t ((clip_iff h).1 h2)⟩
set_option maxRecDepth 100000 in
set_option maxHeartbeats 8000000 in
theorem impl_ZMeets (f : ZoneF) (s : SV) (C : List Pnt) (lo hi : Nat) (p q : Pnt) (w : World) (hh : Pnts lo hi w s.v C) (hhi : hi ≤ w.heap.size) (hl : C.length ≤ 1024) (hC : ∀ c ∈ C, Crd c) (hcv : Conv C) (hp : Crd p) (hq : Crd q) :
    Calls Tryd.prog 48 #[.agg (ZoneR.cells ⟨f, s⟩).toArray, .agg #[.int .i64 (p).x, .int .i64 (p).y], .agg #[.int .i64 (q).x, .int .i64 (q).y]] w fun e w' => e = .returned (.bool (meetB C p q)) ∧ Below w.heap.size w w' := by
  obtain ⟨m, hm⟩ : ∃ m, m = meetB C p q := ⟨_, rfl⟩
  have Hm := Lib.hid (show m = true ↔ clipZ C p q by rw [hm]; exact meetB_clip hcv)
  rw [← hm]
  clear hm
  obtain ⟨W0, hW0, x0, x1, x2, x3, x4, hb0, hz0⟩ := five w (.cells #[.int .i64 f.kind, .int .i64 f.storeys, .int .i64 f.each, s.v] 33 (0, 0)) (.cells #[.int .i64 p.x, .int .i64 p.y] 26 (0, 0)) (.cells #[.int .i64 q.x, .int .i64 q.y] 26 (0, 0)) (.cells #[.int .i64 0, .int .i64 1] 97 (0, 0)) (.cells #[.int .i64 1, .int .i64 1] 97 (0, 0))
  have hS := impl_SidesM f s C lo hi (w.heap.size + 1 + 1 + 1) (w.heap.size + 1 + 1 + 1 + 1 + 1) (w.heap.size + 1) (w.heap.size + 1 + 1) (w.heap.size + 1 + 1 + 1) (w.heap.size + 1 + 1 + 1 + 1) (MI C p q (w.heap.size + 1) (w.heap.size + 1 + 1) (w.heap.size + 1 + 1 + 1) (w.heap.size + 1 + 1 + 1 + 1)) (¬ clipZ C p q) W0 (hh.ext hb0) hl (by omega) (by omega) (by omega)
    (fun k W W' h hb => ⟨blkN_below hb h.pbx, blkN_below hb h.qbx, by obtain ⟨l1, l2, h1, h2, g1, g2, g3⟩ := h.st; exact ⟨l1, l2, h1, h2, blkN_below hb g1, blkN_below hb g2, g3⟩⟩)
    ⟨x1, x2, 0, 1, 1, 1, x3, x4, ClipSt.start C p q⟩
    (fun k hk W h hm => impl_Meets1 C p q _ _ _ _ k W h hC hp hq hk (by omega) (by omega) (by omega))
  have hbd := fun l1 l2 h1 h2 (h : ClipSt C p q C.length l1 l2 h1 h2) => h.bd (B := 968000000) (by omega) (fun i hi => ⟨eg_bd hC hp (by omega), eg_bd hC hq (by omega)⟩)
  have Hbd := Lib.hid hbd
  have c0 := (Lib.cell_of_heap x0 0).trans rfl
  have c1 := (Lib.cell_of_heap x0 1).trans rfl
  have c2 := (Lib.cell_of_heap x0 2).trans rfl
  have c3 := (Lib.cell_of_heap x0 3).trans rfl
  have hz1 : w.heap.size ≤ W0.heap.size := by omega
  have Hz0 := Lib.hid hz0
  have Hb0 := Lib.hid hb0
  obtain ⟨sa, sl, sc⟩ := s
  obtain ⟨px, py⟩ := p
  obtain ⟨qx, qy⟩ := q
  simp only [SV.v, ZoneR.cells] at *
  have HS := Lib.hid hS
  clear hh hhi hC hcv hp hq hbd x0 x1 x2 x3 x4 hb0 hz0 hS
  go_enter Tryd.func48, Tryd.ntmps48
  go_wp2_with fail
  (try rw [hW0])
  refine HS.out.mono ?_
  rintro e w1 ⟨b, rfl, hm, hc⟩
  have hb1 : Below w.heap.size w w1 := Hb0.out.trans (hm.below (by omega) hz1)
  rcases hc with ⟨rfl, hi'⟩ | ⟨rfl, hbad⟩
  · obtain ⟨l1, l2, h1, h2, g1, g2, g3⟩ := hi'.st
    obtain ⟨⟨b1, b2⟩, ⟨b3, b4⟩, ⟨b5, b6⟩, b7, b8⟩ := Hbd.out _ _ _ _ g3
    have v1 := fb_mul (a := l1) (b := h2) ⟨by omega, by omega⟩ ⟨by omega, by omega⟩
    have v2 := fb_mul (a := h1) (b := l2) ⟨by omega, by omega⟩ ⟨by omega, by omega⟩
    have hfin := g3.fin
    have k0 := (Lib.cell_of_heap g1 0).trans rfl
    have k1 := (Lib.cell_of_heap g1 1).trans rfl
    have k2 := (Lib.cell_of_heap g2 0).trans rfl
    have k3 := (Lib.cell_of_heap g2 1).trans rfl
    have hmm : m = decide (l1 * h2 ≤ h1 * l2) := by rw [Bool.eq_iff_iff, Hm.out, decide_eq_true_iff]; exact hfin.symm
    subst hmm
    clear hi' g1 g2 g3 hfin c0 c1 c2 c3 hm
    go_wp2_with fail
    go_ret
    exact ⟨rfl, hb1⟩
  · have hmm : m = false := by
      rw [← Bool.not_eq_true]
      exact fun h => hbad (Hm.out.1 h)
    subst hmm
    clear c0 c1 c2 c3 hm
    go_wp2_with fail
    go_ret
    exact ⟨rfl, hb1⟩
end Go.Proofs.YtpabbehpkokhbaaDoor
