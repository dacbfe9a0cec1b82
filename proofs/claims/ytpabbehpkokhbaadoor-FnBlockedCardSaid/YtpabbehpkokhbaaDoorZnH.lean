/- A crane's jib, both packages: where it ends. Zones, the reference: free directions of a jib. -/
import Derived.Test.YtpabbehpkokhbaaDoorVec
import Derived.Test.YtpabbehpkokhbaaDoorConP
import Derived.Handy
import Derived.Test.YtpabbehpkokhbaaDoorZnG
import Derived.Test.YtpabbehpkokhbaaDoorCraneV
import Derived.Test.YtpabbehpkokhbaaDoorNC
namespace Go.Proofs.YtpabbehpkokhbaaDoor
open Go.RowKit
theorem cells2s {p : Nat} {a b : Value} {t : TypeId} {f : Nat × Nat} {w : World} (h : w.heap[p]? = some (.cells #[a, b] t f)) : w.cell? ⟨p, 0, none⟩ = some a ∧ w.cell? ⟨p, 1, none⟩ = some b := ⟨(Lib.cell_of_heap h 0).trans rfl, (Lib.cell_of_heap h 1).trans rfl⟩
set_option maxRecDepth 100000 in
set_option maxHeartbeats 4000000 in
theorem spec_At (x y r : Int) (d : Nat) (w : World) (hp : Pl x y) (hd : d < 24) (hr : 0 ≤ r ∧ r ≤ 1000) : Calls Tryd.prog 79 #[.agg #[.int .i64 x, .int .i64 y], .int .i64 d, .int .i64 r] w fun e w' => e = .returned (.agg #[.int .i64 (plcI x y d r).x, .int .i64 (plcI x y d r).y]) ∧ Below w.heap.size w w' := by
  have K1 := Lib.hid (fun w => spec_Vector d hd w)
  obtain ⟨⟨⟨p1, p2⟩, p3, p4⟩, ⟨⟨t1, t2⟩, t3, t4⟩, -⟩ := plc_bd hp hd hr
  unfold Pl at hp
  obtain ⟨⟨h1, h2⟩, h3, h4⟩ := hp
  unfold plcI
  generalize vecN d = V at *
  obtain ⟨vx, vy⟩ := V
  dsimp only at *
  generalize hm1 : vx * r = m1 at *
  generalize hm2 : vy * r = m2 at *
  generalize ht1 : m1.tdiv 1000 = q1 at *
  generalize ht2 : m2.tdiv 1000 = q2 at *
  have hw1 : IntKind.i64.wrap m1 = m1 := by rw [IntKind.wrap_i64]; omega
  have hw2 : IntKind.i64.wrap m2 = m2 := by rw [IntKind.wrap_i64]; omega
  have hw3 : IntKind.i64.wrap q1 = q1 := by rw [IntKind.wrap_i64]; omega
  have hw4 : IntKind.i64.wrap q2 = q2 := by rw [IntKind.wrap_i64]; omega
  have hw5 : IntKind.i64.wrap (x + q1) = x + q1 := by rw [IntKind.wrap_i64]; omega
  have hw6 : IntKind.i64.wrap (y + q2) = y + q2 := by rw [IntKind.wrap_i64]; omega
  go_enter Tryd.func79, Tryd.ntmps79
  go_wp2_with fail
  refine (K1.out _).mono ?_
  rintro e w1 ⟨rfl, b1⟩
  have G0 := blkN_below b1 (box2_0 w (.cells #[.int .i64 x, .int .i64 y] 26) (.cells #[.int .i64 0, .int .i64 0] 26))
  have G1 := blkN_below b1 (box2_1 w (.cells #[.int .i64 x, .int .i64 y] 26) (.cells #[.int .i64 0, .int .i64 0] 26))
  have B1 := ((((Below.refl _ w).alloc (Nat.le_refl _) (.cells #[.int .i64 x, .int .i64 y] 26)).alloc (by simp) (.cells #[.int .i64 0, .int .i64 0] 26)).trans (b1.mono (by simp; omega)))
  obtain ⟨e0, e1⟩ := cells2s G0
  obtain ⟨r0, r1⟩ := cells2s G1
  have f1 := fun j => Lib.frozen_of_heap G1 j
  have z1 := World.block_lt_of_cell? w1 _ e0
  have z2 := World.block_lt_of_cell? w1 _ r0
  clear b1 G0 G1
  dsimp only
  go_wp2
  exact bodyPost_ret (v := .agg #[.int .i64 (x + q1), .int .i64 (y + q2)]) (by simp [results, Tryd.results79, go_sem, r0, r1, z2]) rfl ⟨rfl, by go_grown⟩
/-- The numbers of a crane, in a box or in a row. -/
structure CrB (q o : Nat) (f : CraneF) (w : World) : Prop where
  x : w.cell? ⟨q, o + 1, none⟩ = some (.int .i64 f.x)
  y : w.cell? ⟨q, o + 2, none⟩ = some (.int .i64 f.y)
  height : w.cell? ⟨q, o + 3, none⟩ = some (.int .i64 f.height)
  jib : w.cell? ⟨q, o + 4, none⟩ = some (.int .i64 f.jib)
  back : w.cell? ⟨q, o + 5, none⟩ = some (.int .i64 f.back)
theorem CrB.lt {q o : Nat} {f : CraneF} {w : World} (h : CrB q o f w) : q < w.heap.size := World.block_lt_of_cell? w _ h.x
theorem CrB.below {q o : Nat} {f : CraneF} {w w' : World} (h : CrB q o f w) (hb : Below w.heap.size w w') : CrB q o f w' :=
  ⟨(hb.cell (p := ⟨q, o + 1, none⟩) h.lt).trans h.x, (hb.cell (p := ⟨q, o + 2, none⟩) h.lt).trans h.y, (hb.cell (p := ⟨q, o + 3, none⟩) h.lt).trans h.height, (hb.cell (p := ⟨q, o + 4, none⟩) h.lt).trans h.jib, (hb.cell (p := ⟨q, o + 5, none⟩) h.lt).trans h.back⟩
set_option maxRecDepth 100000 in
set_option maxHeartbeats 4000000 in
theorem spec_Jib (q o : Nat) (f : CraneF) (d : Nat) (w : World) (h : CrB q o f w) (hf : GeoOk f) (hd : d < 24) : Calls Tryd.prog 51 #[.pointer (some ⟨q, o, none⟩), .int .i64 d] w fun e w' => e = .returned (.agg #[.int .i64 (jibP f d).x, .int .i64 (jibP f d).y]) ∧ Below w.heap.size w w' := by
  have K1 := fun w => spec_At f.x f.y f.jib d w hf.1 hd hf.2.2.1
  have hz := h.lt
  obtain ⟨e1, e2, -, e4, e5⟩ := h
  unfold jibP
  generalize plcI f.x f.y d f.jib = R at *
  obtain ⟨rx, ry⟩ := R
  obtain ⟨fn, fx, fy, fh, fj, fb⟩ := f
  dsimp only at *
  have hz1 : q < w.heap.size + 1 := by omega
  skip
  have K1 := Lib.hid K1
  go_enter Tryd.func51, Tryd.ntmps51
  go_wp2_with fail
  go_region_held3 (fun w' => (∀ b' o', b' < w.heap.size → w'.cell? ⟨b', o', none⟩ = w.cell? ⟨b', o', none⟩) ∧ Below w.heap.size w w') (first | exact heldB (((Below.refl _ _).alloc (Nat.le_refl _) _).drew) | exact heldB C1 | exact heldB ((C1.setCell (Nat.le_refl _) _).setCell (Nat.le_refl _) _))
    (first  | (go_at_call 79; refine (K1.out _).mono ?_; rintro e x1 ⟨rfl, c1⟩; have C1 : Below w.heap.size w x1 := ((Below.refl _ _).alloc (Nat.le_refl _) _).drew.trans (c1.mono (by simp [World.drew])); have G1 := blkN_below c1 (blkN_new w (.cells #[.int .i64 0, .int .i64 0] 26)); obtain ⟨r0, r1⟩ := cells2s G1; have f1 := fun j => Lib.frozen_of_heap G1 j))
  rename_i hH
  clear hH
  have z3 := World.block_lt_of_cell? x1 _ r0
  go_wp2
  refine bodyPost_ret (v := .agg #[.int .i64 rx, .int .i64 ry]) (by simp [results, Tryd.results51, go_sem, r0, r1]) rfl ?_
  exact ⟨rfl, (C1.setCell (p := ⟨w.heap.size, 0, none⟩) (Nat.le_refl _) _).setCell (p := ⟨w.heap.size, 1, none⟩) (Nat.le_refl _) _⟩
set_option maxRecDepth 100000 in
set_option maxHeartbeats 4000000 in
theorem impl_PlaceAt (x y r : Int) (d : Nat) (w : World) (hQ : Qtr w) (hp : Pl x y) (hd : d < 24) (hr : 0 ≤ r ∧ r ≤ 1000) : Calls Tryd.prog 75 #[.agg #[.int .i64 x, .int .i64 y], .int .i64 d, .int .i64 r] w fun e w' => e = .returned (.agg #[.int .i64 (plcI x y d r).x, .int .i64 (plcI x y d r).y]) ∧ Below w.heap.size w w' := by
  have K1 := Lib.hid (fun w h => impl_Vector d hd w h)
  obtain ⟨⟨⟨p1, p2⟩, p3, p4⟩, ⟨⟨t1, t2⟩, t3, t4⟩, -⟩ := plc_bd hp hd hr
  unfold Pl at hp
  obtain ⟨⟨h1, h2⟩, h3, h4⟩ := hp
  unfold plcI
  generalize vecN d = V at *
  obtain ⟨vx, vy⟩ := V
  dsimp only at *
  generalize hm1 : vx * r = m1 at *
  generalize hm2 : vy * r = m2 at *
  generalize ht1 : m1.tdiv 1000 = q1 at *
  generalize ht2 : m2.tdiv 1000 = q2 at *
  have hw1 : IntKind.i64.wrap m1 = m1 := by rw [IntKind.wrap_i64]; omega
  have hw2 : IntKind.i64.wrap m2 = m2 := by rw [IntKind.wrap_i64]; omega
  have hw3 : IntKind.i64.wrap q1 = q1 := by rw [IntKind.wrap_i64]; omega
  have hw4 : IntKind.i64.wrap q2 = q2 := by rw [IntKind.wrap_i64]; omega
  have hw5 : IntKind.i64.wrap (x + q1) = x + q1 := by rw [IntKind.wrap_i64]; omega
  have hw6 : IntKind.i64.wrap (y + q2) = y + q2 := by rw [IntKind.wrap_i64]; omega
  have HQ := Lib.hid hQ
  clear hQ
  go_enter Tryd.func75, Tryd.ntmps75
  go_wp2_with fail
  have B0 : Below w.heap.size w ((w.alloc (.cells #[.int .i64 x, .int .i64 y] 26)).alloc (.cells #[.int .i64 0, .int .i64 0] 26)) := ((Below.refl _ w).alloc (Nat.le_refl _) _).alloc (by simp) _
  refine (K1.out _ (HQ.out.ext B0)).mono ?_
  rintro e w1 ⟨rfl, b1⟩
  have G0 := blkN_below b1 (box2_0 w (.cells #[.int .i64 x, .int .i64 y] 26) (.cells #[.int .i64 0, .int .i64 0] 26))
  have G1 := blkN_below b1 (box2_1 w (.cells #[.int .i64 x, .int .i64 y] 26) (.cells #[.int .i64 0, .int .i64 0] 26))
  have B1 := B0.trans (b1.mono B0.size)
  obtain ⟨e0, e1⟩ := cells2s G0
  obtain ⟨r0, r1⟩ := cells2s G1
  have f1 := fun j => Lib.frozen_of_heap G1 j
  have z1 := World.block_lt_of_cell? w1 _ e0
  have z2 := World.block_lt_of_cell? w1 _ r0
  clear b1 G0 G1 B0
  dsimp only
  go_wp2
  refine bodyPost_ret (v := .agg #[.int .i64 (x + q1), .int .i64 (y + q2)]) (by simp [results, Tryd.results75, go_sem, r0, r1, z2]) rfl ?_
  exact ⟨rfl, ((B1.setCell (p := ⟨w.heap.size + 1, 0, none⟩) (by simp only []; omega) _).setCell (p := ⟨w.heap.size + 1, 1, none⟩) (by simp only []; omega) _).alloc (by have := B1.size; simpa [World.setCell] using this) _⟩
set_option maxRecDepth 100000 in
set_option maxHeartbeats 4000000 in
theorem impl_Jib (f : CraneF) (sv : Value) (d : Nat) (w : World) (hQ : Qtr w) (hf : GeoOk f) (hd : d < 24) : Calls Tryd.prog 49 #[.agg #[.string (f).name, .int .i64 (f).x, .int .i64 (f).y, .int .i64 (f).height, .int .i64 (f).jib, .int .i64 (f).back, sv], .int .i64 d] w fun e w' => e = .returned (.agg #[.int .i64 (jibP f d).x, .int .i64 (jibP f d).y]) ∧ Below w.heap.size w w' := by
  have K1 := Lib.hid (fun w h => impl_PlaceAt f.x f.y f.jib d w h hf.1 hd hf.2.2.1)
  have HQ := Lib.hid hQ
  clear hQ hf
  unfold jibP
  generalize plcI f.x f.y d f.jib = R at *
  obtain ⟨rx, ry⟩ := R
  obtain ⟨fn, fx, fy, fh, fj, fb⟩ := f
  dsimp only at *
  go_enter Tryd.func49, Tryd.ntmps49
  go_wp2_with fail
  have B0 : Below w.heap.size w ((w.alloc (.cells #[.string fn, .int .i64 fx, .int .i64 fy, .int .i64 fh, .int .i64 fj, .int .i64 fb, sv] 41)).alloc (.cells #[.int .i64 0, .int .i64 0] 26)) := ((Below.refl _ w).alloc (Nat.le_refl _) _).alloc (by simp) _
  have G0 := box2_1 w (.cells #[.string fn, .int .i64 fx, .int .i64 fy, .int .i64 fh, .int .i64 fj, .int .i64 fb, sv] 41) (.cells #[.int .i64 0, .int .i64 0] 26)
  (refine (K1.out _ (HQ.out.ext B0)).mono ?_)
  rintro e w1 ⟨rfl, b1⟩
  have G1 := blkN_below b1 G0
  have B1 := B0.trans (b1.mono B0.size)
  obtain ⟨r0, r1⟩ := cells2s G1
  have f1 := fun j => Lib.frozen_of_heap G1 j
  have z2 := World.block_lt_of_cell? w1 _ r0
  clear b1 G0 G1 B0
  dsimp only
  go_wp2
  refine bodyPost_ret (v := .agg #[.int .i64 rx, .int .i64 ry]) (by simp [results, Tryd.results49, go_sem, r0, r1]) rfl ?_
  exact ⟨rfl, (B1.setCell (p := ⟨w.heap.size + 1, 0, none⟩) (by simp only []; omega) _).setCell (p := ⟨w.heap.size + 1, 1, none⟩) (by simp only []; omega) _⟩
noncomputable def hitB (f : CraneF) (L : ZonesL) (d k : Nat) : Bool := match L[k]? with | some x => jibB x.1 f.height && meetB x.2 ⟨f.x, f.y⟩ (jibP f d) | none => false
theorem hitB_at {f : CraneF} {L : ZonesL} {d k : Nat} (hk : k < L.length) : hitB f L d k = (jibB L[k].1 f.height && meetB L[k].2 ⟨f.x, f.y⟩ (jibP f d)) := by unfold hitB; rw [List.getElem?_eq_getElem hk]
/-- No zone below n is hit. -/
noncomputable def noHit (f : CraneF) (L : ZonesL) (d : Nat) : Nat → Bool
  | 0 => true
  | n + 1 => noHit f L d n && !hitB f L d n
noncomputable def dirsL (f : CraneF) (L : ZonesL) : Nat → List Int
  | 0 => []
  | n + 1 => if noHit f L n L.length = true then dirsL f L n ++ [(n : Int)] else dirsL f L n
theorem dirsL_len (f : CraneF) (L : ZonesL) : ∀ n, (dirsL f L n).length ≤ n
  | 0 => Nat.le_refl _
  | n + 1 => by
    have := dirsL_len f L n
    unfold dirsL
    split
    · rw [List.length_append, List.length_singleton]; omega
    · omega
def FjR (f : CraneF) (l : List Chs) (L : ZonesL) (ds : List Int) (c : Int) : Prop :=
  ((craneOk f l ∧ zonesOk L) ∧ c = 0 ∧ ds = dirsL f L 24) ∨ (¬ (craneOk f l ∧ zonesOk L) ∧ c = 1 ∧ ds = [])
theorem FjR.uniq {f : CraneF} {l : List Chs} {L : ZonesL} {ds ds' : List Int} {c c' : Int} (g : FjR f l L ds c) (g' : FjR f l L ds' c') : ds = ds' ∧ c = c' := by
  rcases g with ⟨h1, rfl, rfl⟩ | ⟨h1, rfl, rfl⟩ <;> rcases g' with ⟨g1, rfl, rfl⟩ | ⟨g1, rfl, rfl⟩
  · exact ⟨rfl, rfl⟩
  · exact absurd h1 g1
  · exact absurd g1 h1
  · exact ⟨rfl, rfl⟩
def FjOut (f : CraneF) (l : List Chs) (L : ZonesL) (w : World) (e : Ending) (w' : World) : Prop := ∃ (v : Value) (ds : List Int) (c : Int), e = .returned (.tuple #[v, .int .i64 c]) ∧ Ints 0 w'.heap.size w' v ds ∧ FjR f l L ds c ∧ ds.length ≤ 24 ∧ Below w.heap.size w w'
theorem ints_nil (lo hi : Nat) (w : World) : Ints lo hi w (.slice none 0 0) [] := ⟨none, 0, rfl, ⟨Nat.le_refl _, by omega⟩, fun h => absurd h (by simp)⟩
theorem crane_geo {f : CraneF} {l : List Chs} (h : craneOk f l) : GeoOk f := by
  obtain ⟨-, h1, h2, h3, h4, -, -⟩ := h
  exact ⟨h1, h2, by omega, by omega⟩
theorem info_i64z : (Tryd.prog.info? 2).map (fun i => (i.zero.map (·.cells.size), i.size, i.bytes)) = some (some 1, 1, 8) := by kernel_rfl
theorem nxtZ {w w1 : World} {p : Nat} {o : Obj} (hb : Below w.heap.size w w1) (h : w.heap[p]? = some o) : w1.heap[p]? = some o := (hb.block p (Array.getElem?_eq_some_iff.1 h).1).trans h
theorem crb_box {w : World} {p : Nat} {f : CraneF} {v : Value} {T : TypeId} {fz : Nat × Nat} (h : w.heap[p]? = some (.cells #[.string f.name, .int .i64 f.x, .int .i64 f.y, .int .i64 f.height, .int .i64 f.jib, .int .i64 f.back, v] T fz)) : CrB p 0 f w :=
  ⟨(Lib.cell_of_heap h 1).trans rfl, (Lib.cell_of_heap h 2).trans rfl, (Lib.cell_of_heap h 3).trans rfl, (Lib.cell_of_heap h 4).trans rfl, (Lib.cell_of_heap h 5).trans rfl⟩
set_option maxRecDepth 100000 in
set_option maxHeartbeats 8000000 in
theorem spec_FreeJib (f : CraneF) (s : SV) (l : List Chs) (lo hi lo2 hi2 : Nat) (v : Value) (rs : List ZoneR) (L : ZonesL) (w : World) (hcr : Chss lo2 hi2 w s.v l) (hwf : f.name.size ≤ maxLen) (hz : Zones lo hi w v rs L) (hsz : ZSz L) :
    Calls Tryd.prog 17 #[.agg (CraneR.cells ⟨f, s⟩).toArray, v] w (FjOut f l L w) := by
  obtain ⟨sa, sl, sc⟩ := s
  have HV := Lib.hid (fun W (hb : Below w.heap.size w W) => spec_ZList v rs L lo hi W (hz.ext hb) hsz)
  have HK := Lib.hid (fun W (hb : Below w.heap.size w W) b hc => spec_CraneOk b 0 f (.slice sa sl sc) l lo2 hi2 W hc (hcr.ext hb) hwf)
  have hl1 := hz.len
  have Hs := Lib.hid hz
  have Hsz := Lib.hid hsz
  have hln := hsz.2
  obtain ⟨⟨a, cap, rfl, _⟩, _, _⟩ := hz
  rw [hl1] at Hs HV ⊢
  clear hl1 hsz hcr hwf
  have Hht : Hid (∀ d j (hj : j < L.length), hitB f L d j = (jibB L[j].1 f.height && meetB L[j].2 ⟨f.x, f.y⟩ (jibP f d))) := Lib.hid (fun d j hj => hitB_at hj)
  have HJ := Lib.hid (fun (hf : GeoOk f) p d W hc hd => spec_Jib p 0 f d W hc hf hd)
  have HM := Lib.hid (fun (hf : GeoOk f) d (hd : d < 24) b o f' s C lo hi W hc hr hl hC => spec_ZMeets b o f' s C lo hi ⟨f.x, f.y⟩ (jibP f d) W hc hr hl hC (at_crd hf) (jib_crd hf hd))
  have hX0 := blkN_new w (.cells #[.string f.name, .int .i64 f.x, .int .i64 f.y, .int .i64 f.height, .int .i64 f.jib, .int .i64 f.back, .slice sa sl sc] 41 (0, 0))
  have hb0 : Below w.heap.size w (w.alloc (.cells #[.string f.name, .int .i64 f.x, .int .i64 f.y, .int .i64 f.height, .int .i64 f.jib, .int .i64 f.back, .slice sa sl sc] 41 (0, 0))) := (Below.refl _ _).alloc (Nat.le_refl _) _
  have hK0 := HK.out _ hb0 w.heap.size (fun j u hu => by rw [Nat.zero_add, Lib.cell_of_heap hX0 j, ← hu]; simp)
  have HX0 := Lib.hid hX0
  have HCB := Lib.hid (fun (W : World) (p : Nat) (h : W.heap[p]? = some (.cells #[.string f.name, .int .i64 f.x, .int .i64 f.y, .int .i64 f.height, .int .i64 f.jib, .int .i64 f.back, .slice sa sl sc] 41 (0, 0))) => crb_box (f := f) h)
  simp only [CraneR.cells, SV.v]
  have Hone := Lib.hid (craneB_iff (f := f) (l := l))
  generalize hcb : craneB f l = cb at *
  clear hcb hX0 HK
  have hK0 := Lib.hid hK0
  go_enter Tryd.func17, Tryd.ntmps17
  go_wp2_with fail
  generalize w.alloc (.cells #[.string f.name, .int .i64 f.x, .int .i64 f.y, .int .i64 f.height, .int .i64 f.jib, .int .i64 f.back, .slice sa sl sc] 41 (0, 0)) = w0 at *
  refine hK0.out.mono ?_
  rintro e w1 ⟨rfl, hb1⟩
  have hX := Lib.hid (nxtZ hb1 HX0.out)
  have hB1 := hb0.trans (hb1.mono hb0.size)
  clear hb1 hb0 hK0 HX0
  cases cb
  · have hno : ¬ (craneOk f l ∧ zonesOk L) := fun h => by have := Hone.out.2 h.1; cases this
    go_wp2_with fail
    go_ret2
    exact ⟨_, [], 1, rfl, ints_nil _ _ _, .inr ⟨hno, rfl, rfl⟩, by simp, hB1⟩
  · have Hok := Lib.hid (Hone.out.1 rfl)
    have Hg := Lib.hid (crane_geo Hok.out)
    clear Hone
    go_wp2_with fail
    refine (HV.out _ hB1).mono ?_
    rintro e w2 ⟨rfl, hb2⟩
    have hX := Lib.hid (nxtZ hb2 hX.out)
    have hB2 := hB1.trans (hb2.mono hB1.size)
    clear hb2 hB1 HV
    by_cases hzs : zonesOk L
    · rw [zonesB_t hzs]
      have Hzs := Lib.hid hzs
      clear hzs
      have hb3 := (Below.refl w2.heap.size w2).alloc (Nat.le_refl _) (.cells #[] 2 (0, 0))
      have hX := Lib.hid (nxtZ hb3 hX.out)
      have hB3 := hB2.trans (hb3.mono hB2.size)
      have Hown : Hid (Own 1 intCells w2.heap.size 2 (w2.alloc (.cells #[] 2 (0, 0))) (.slice (some ⟨w2.heap.size, 0, none⟩) 0 0) ([] : List Int)) := Lib.hid (own_empty w2 _ _ (Nat.le_refl _))
      have hw23 := hb3.size
      have hw02 := Lib.hid hB2.size
      clear hb3 hB2
      go_wp2_with fail
      generalize w2.alloc (.cells #[] 2 (0, 0)) = w3 at *
      obtain ⟨qq, hqq⟩ : ∃ qq, w.heap.size = qq := ⟨_, rfl⟩
      rw [hqq] at hX ⊢
      have Hqq := Lib.hid hqq
      clear hqq
      go_loopw [6, 7] (fun o i wr => ∃ (d : Nat) (ov : Value), d ≤ 24 ∧ i = .int .i64 d ∧ o = ov ∧ Hid (Own 1 intCells w2.heap.size 2 wr ov (dirsL f L d)) ∧ Hid (Below w.heap.size w wr) ∧ Hid (wr.heap[qq]? = some (.cells #[.string f.name, .int .i64 f.x, .int .i64 f.y, .int .i64 f.height, .int .i64 f.jib, .int .i64 f.back, .slice sa sl sc] 41 (0, 0))) ∧ Hid (w2.heap.size ≤ wr.heap.size)) (fun _ i _ => 24 - (Go.RowKit.intOf i).toNat)
      case atStart => exact ⟨0, _, Nat.zero_le _, rfl, rfl, Hown, Lib.hid hB3, hX, Lib.hid hw23⟩
      case round =>
        clear hX hB3 Hown hw23
        obtain ⟨d, ov, hd, rfl, hov, hown, hB, hX, hws⟩ := hrel
        subst hov
        by_cases hlt : d < 24
        · have hdI : (d : Int) < 24 := by omega
          have hdn : ¬ (24 : Int) ≤ (d : Int) := by omega
          have HMd := Lib.hid (HM.out Hg.out d hlt)
          have HJd := Lib.hid (fun W hc => HJ.out Hg.out qq d W hc hlt)
          go_wp2_with fail
          obtain ⟨wo, hwo⟩ : ∃ wo, wo = wr := ⟨wr, rfl⟩
          rw [← hwo] at hown hB hX hws ⊢
          clear hwo
          go_loopw [8, 9] (fun fl i wy => ∃ (k : Nat) (fb : Bool), k ≤ L.length ∧ i = .int .i64 k ∧ fl = .bool fb ∧ Hid (fb = noHit f L d k) ∧ Hid (Below wo.heap.size wo wy)) (fun _ i _ => L.length - (Go.RowKit.intOf i).toNat)
          case atStart => exact ⟨0, true, Nat.zero_le _, rfl, rfl, Lib.hid rfl, Lib.hid (Below.refl _ _)⟩
          case round =>
            obtain ⟨k, fb, hk, rfl, rfl, hfb, hBW⟩ := hrel
            by_cases hkl : k < L.length
            · have hltI : (k : Int) < (L.length : Int) := by omega
              have hk0 : (0 : Int) ≤ (k : Int) := Int.natCast_nonneg _
              have hBr := hB.out.trans (hBW.out.mono hB.out.size)
              have hXr := nxtZ hBW.out hX.out
              have c1 := (Lib.cell_of_heap hXr 1).trans rfl
              have c2 := (Lib.cell_of_heap hXr 2).trans rfl
              have c3 := (Lib.cell_of_heap hXr 3).trans rfl
              have c4 := (Lib.cell_of_heap hXr 4).trans rfl
              have hqw := (Array.getElem?_eq_some_iff.1 hXr).1
              have HXr := Lib.hid hXr
              have hs := Hs.out.ext hBr
              obtain ⟨b, off, rfl⟩ := hs.out.addr (by rw [hs.len]; omega)
              obtain ⟨s, hz, hr, -⟩ := zones_row hs hkl
              have hok := Hzs.out.1 _ (List.getElem_mem hkl)
              have hbk := Hht.out d k hkl
              have hLd := fun n => spec_JibB b (off + k * 4) L[k].1 s f.height (wr.drewN n) (hz.below (below_dN (Below.refl _ _) n)) hok.one
              have hMt := Lib.hid (fun W (hb : Below wr.heap.size wr W) => HMd.out b (off + k * 4) L[k].1 s L[k].2 lo hi W (hz.below hb) (hr.ext hb) (Hsz.out.1 _ (List.getElem_mem hkl)) (fun p hp => pl_crd (hok.pl p hp)))
              clear hs hz hr hok hXr
              cases hlb : jibB L[k].1 f.height
              · rw [hlb] at hLd hbk
                have hLd := Lib.hid hLd
                have hfb2 := Lib.hid (show fb = noHit f L d (k + 1) by unfold noHit; rw [hbk, hfb.out]; simp)
                clear hbk hlb hMt
                go_wp2_with (go_quiet (first | (go_at_call 42; exact Calls.quiet_of (hLd.out _))))
                go_roundw
                case rel => exact ⟨k + 1, fb, by omega, by go_num, rfl, hfb2, Lib.hid (below_dN hBW.out _)⟩
                case measure => simp [Go.RowKit.intOf]; omega
              · rw [hlb] at hLd hbk
                rw [Bool.true_and] at hbk
                have hLd := Lib.hid hLd
                have Hbk := Lib.hid hbk
                obtain ⟨bm, hxm⟩ : ∃ bm, meetB L[k].2 ⟨f.x, f.y⟩ (jibP f d) = bm := ⟨_, rfl⟩
                rw [hxm] at Hbk
                have Hxm := Lib.hid hxm
                clear hbk hlb hxm
                go_wp2_with fail
                refine region_ph 14 (fun w' => ∀ b o, b < wr.heap.size → w'.cell? ⟨b, o, none⟩ = wr.cell? ⟨b, o, none⟩) (fun _ => True) (by kernel_rfl) (fun _ _ _ => rfl) trivial (fun hp => ?_)
                refine take_ph 28 (i := 0) rfl rfl (by decide) (by kernel_rfl) (by kernel_rfl) (by kernel_rfl) (fun _ _ _ h => h) (by rfl) (fun w hSw => by (try dsimp only at hSw); go_simp; first | done | with_reducible rfl) hp (fun hp => ?_)
                try simp only [Act.put, List.setIfInBounds_toArray, List.set_cons_zero, List.set_cons_succ]
                refine take_ph 29 (i := 1) rfl rfl (by decide) (by kernel_rfl) (by kernel_rfl) (by kernel_rfl) (fun _ _ _ h => h) (by rfl) (fun w hSw => by (try dsimp only at hSw); go_simp; first | done | with_reducible rfl) hp (fun hp => ?_)
                try simp only [Act.put, List.setIfInBounds_toArray, List.set_cons_zero, List.set_cons_succ]
                refine take_ph 30 (i := 2) rfl rfl (by decide) (by kernel_rfl) (by kernel_rfl) (by kernel_rfl) (fun _ _ _ h => h) (by rfl) (fun w hSw => by (try dsimp only at hSw); go_simp; first | done | with_reducible rfl) hp (fun hp => ?_)
                try simp only [Act.put, List.setIfInBounds_toArray, List.set_cons_zero, List.set_cons_succ]
                refine take_ph 31 (i := 3) rfl rfl (by decide) (by kernel_rfl) (by kernel_rfl) (by kernel_rfl) (fun _ _ _ h => h) (by rfl) (fun w hSw => by (try dsimp only at hSw); go_simp; first | done | with_reducible rfl) hp (fun hp => ?_)
                try simp only [Act.put, List.setIfInBounds_toArray, List.set_cons_zero, List.set_cons_succ]
                refine take_ph 32 (i := 4) rfl rfl (by decide) (by kernel_rfl) (by kernel_rfl) (by kernel_rfl) (fun _ _ _ h => h) (by rfl) (fun w hSw => by (try dsimp only at hSw); go_simp; first | done | with_reducible rfl) hp (fun hp => ?_)
                try simp only [Act.put, List.setIfInBounds_toArray, List.set_cons_zero, List.set_cons_succ]
                refine AnyL.one (i := 5) (by kernel_rfl) rfl (fun K hK => ?_)
                go_simp
                refine (hLd.out 1).mono ?_
                rintro e _ ⟨rfl, n, rfl⟩
                refine hK.out _ _ (ph1 (fun b o hb => rfl) trivial) (fun hp => ?_)
                clear hK
                try simp only [Act.put, List.setIfInBounds_toArray, List.set_cons_zero, List.set_cons_succ]
                refine take_ph 34 (i := 6) rfl rfl (by decide) (by kernel_rfl) (by kernel_rfl) (by kernel_rfl) (fun _ _ _ h => h) (by rfl) (fun w hSw => by (try dsimp only at hSw); go_simp; first | done | with_reducible rfl) hp (fun hp => ?_)
                try simp only [Act.put, List.setIfInBounds_toArray, List.set_cons_zero, List.set_cons_succ]
                refine take_ph 35 (i := 7) rfl rfl (by decide) (by kernel_rfl) (by kernel_rfl) (by kernel_rfl) (fun _ _ _ h => h) (by rfl) (fun w hSw => by (try dsimp only at hSw); go_simp; first | done | with_reducible rfl) hp (fun hp => ?_)
                try simp only [Act.put, List.setIfInBounds_toArray, List.set_cons_zero, List.set_cons_succ]
                refine take_ph 36 (i := 8) rfl rfl (by decide) (by kernel_rfl) (by kernel_rfl) (by kernel_rfl) (fun _ _ _ h => h) (by rfl) (fun w hSw => by (try dsimp only at hSw); go_simp; first | done | with_reducible rfl) hp (fun hp => ?_)
                try simp only [Act.put, List.setIfInBounds_toArray, List.set_cons_zero, List.set_cons_succ]
                refine take_ph 37 (i := 9) rfl rfl (by decide) (by kernel_rfl) (by kernel_rfl) (by kernel_rfl) (fun _ _ _ h => h) (by rfl) (fun w hSw => by (try dsimp only at hSw); go_simp; first | done | with_reducible rfl) hp (fun hp => ?_)
                try simp only [Act.put, List.setIfInBounds_toArray, List.set_cons_zero, List.set_cons_succ]
                refine take_ph 38 (i := 10) rfl rfl (by decide) (by kernel_rfl) (by kernel_rfl) (by kernel_rfl) (fun _ _ _ h => h) (by rfl) (fun w hSw => by (try dsimp only at hSw); go_simp; first | done | with_reducible rfl) hp (fun hp => ?_)
                try simp only [Act.put, List.setIfInBounds_toArray, List.set_cons_zero, List.set_cons_succ]
                refine take_ph 39 (i := 11) rfl rfl (by decide) (by kernel_rfl) (by kernel_rfl) (by kernel_rfl) (fun _ _ _ h => h) (by rfl) (fun w hSw => by (try dsimp only at hSw); go_simp; first | done | with_reducible rfl) hp (fun hp => ?_)
                try simp only [Act.put, List.setIfInBounds_toArray, List.set_cons_zero, List.set_cons_succ]
                refine take_ph 40 (i := 12) rfl rfl (by decide) (by kernel_rfl) (by kernel_rfl) (by kernel_rfl) (fun _ _ _ h => h) (by rfl) (fun w hSw => by (try dsimp only at hSw); go_simp; first | done | with_reducible rfl) hp (fun hp => ?_)
                try simp only [Act.put, List.setIfInBounds_toArray, List.set_cons_zero, List.set_cons_succ]
                refine AnyL.one (i := 13) (by kernel_rfl) rfl (fun K hK => ?_)
                go_simp
                have b0 := below_dN (Below.refl wr.heap.size wr) (1 + n)
                refine (HJd.out _ (HCB.out _ _ (nxtZ b0 HXr.out))).mono ?_
                rintro e w4 ⟨rfl, b1'⟩
                have b1 : Below wr.heap.size wr w4 := b0.trans b1'
                refine hK.out _ _ (ph1 (fun b o hb => b1.cell (p := ⟨b, o, none⟩) hb) trivial) (fun hp => ?_)
                clear hK
                try simp only [Act.put, List.setIfInBounds_toArray, List.set_cons_zero, List.set_cons_succ]
                refine AnyL.one (i := 14) (by kernel_rfl) rfl (fun K hK => ?_)
                go_simp
                have hmm := hMt.out w4 b1
                rw [Hxm.out] at hmm
                refine (show Calls _ _ _ _ _ from hmm).mono ?_
                rintro e w5 ⟨rfl, b2'⟩
                have b2 : Below wr.heap.size wr w5 := b1.trans (b2'.mono b1.size)
                refine hK.out _ _ (ph2 rfl (fun b o hb => b2.cell (p := ⟨b, o, none⟩) hb)) (fun hp => ?_)
                clear hK hmm b1' b2' b0 b1
                try simp only [Act.put, List.setIfInBounds_toArray, List.set_cons_zero, List.set_cons_succ]
                refine take_ph 43 (i := 15) rfl rfl (by decide) (by kernel_rfl) (by kernel_rfl) (by kernel_rfl) (fun _ _ _ h => h) (by rfl) (fun w hSw => by (try dsimp only at hSw); go_simp; first | done | with_reducible rfl) hp (fun hp => ?_)
                try simp only [Act.put, List.setIfInBounds_toArray, List.set_cons_zero, List.set_cons_succ]
                refine AnyL.done (by kernel_rfl) ?_ _
                simp only [Exit.then]
                clear hp
                have hBW2 := Lib.hid (hBW.out.trans (b2.mono hBW.out.size))
                cases bm
                · have hfb2 := Lib.hid (show fb = noHit f L d (k + 1) by unfold noHit; rw [Hbk.out, hfb.out]; simp)
                  go_wp2_with fail
                  go_roundw
                  case rel => exact ⟨k + 1, fb, by omega, by go_num, rfl, hfb2, hBW2⟩
                  case measure => simp [Go.RowKit.intOf]; omega
                · have hfb2 := Lib.hid (show false = noHit f L d (k + 1) by unfold noHit; rw [Hbk.out]; simp)
                  go_wp2_with fail
                  go_roundw
                  case rel => exact ⟨k + 1, false, by omega, by go_num, rfl, hfb2, hBW2⟩
                  case measure => simp [Go.RowKit.intOf]; omega
            · have hke : k = L.length := by omega
              have hfb := Lib.hid (show fb = noHit f L d L.length by rw [← hke]; exact hfb.out)
              have hB2 := Lib.hid (hB.out.trans (hBW.out.mono hB.out.size))
              have hX2 := Lib.hid (nxtZ hBW.out hX.out)
              have hown2 := Lib.hid (hown.out.below hBW.out)
              have hws2 := Lib.hid (Nat.le_trans hws.out hBW.out.size)
              have hdl := dirsL_len f L d
              clear hke hB hX hown hws hBW
              cases fb
              · have hds := Lib.hid (show dirsL f L (d + 1) = dirsL f L d by show (if noHit f L d L.length = true then _ else _) = _; rw [← hfb.out]; rfl)
                go_wp2_with fail
                go_roundw
                case rel => exact ⟨d + 1, _, by omega, by go_num, rfl, by rw [hds.out]; exact hown2, hB2, hX2, hws2⟩
                case measure => simp [Go.RowKit.intOf]; omega
              · have hds := Lib.hid (show dirsL f L (d + 1) = dirsL f L d ++ [(d : Int)] by show (if noHit f L d L.length = true then _ else _) = _; rw [← hfb.out]; rfl)
                go_wp2_with (at_builtin; refine wpList_app1 (c := intCells) (bytes := 8) rfl _ _ 44 2 rfl Tryd.underlying44 info_i64z (by omega) intCells_len intCells_one w2.heap.size (dirsL f L d) (d : Int) _ rfl wr rfl hown2.out rfl (by omega) (by omega) hws2.out ?_; intro v' w6 hown6 hg6; have hB6 := Lib.hid (hown2.out.app hB2.out hw02.out hB2.out.size hg6); have hz6 := Lib.hid (hown2.out.app (Below.refl w2.heap.size wr) (Nat.le_refl _) hws2.out hg6).size; have hX6 := Lib.hid (grown_block hown2.out hX2.out (by decide) hg6); have Hown6 := Lib.hid hown6; clear hown6 hg6)
                go_roundw
                case rel => exact ⟨d + 1, v', by omega, by go_num, rfl, by rw [hds.out]; exact Hown6, hB6, hX6, Lib.hid (Nat.le_trans hws2.out hz6.out)⟩
                case measure => simp [Go.RowKit.intOf]; omega
        · have hde : d = 24 := by omega
          have hsl := (hown.out.slw intCells_len).1.mono (Nat.zero_le _) (Nat.le_refl _)
          have hfin : FjR f l L (dirsL f L d) 0 := .inl ⟨⟨Hok.out, Hzs.out⟩, rfl, by rw [hde]⟩
          have hdl := dirsL_len f L d
          have Hsl := Lib.hid hsl
          clear hsl hde
          go_wp2_with fail
          go_ret2
          exact ⟨_, _, 0, rfl, Hsl.out, hfin, by omega, hB.out⟩
    · rw [zonesB_f hzs]
      have hno : ¬ (craneOk f l ∧ zonesOk L) := fun h => hzs h.2
      clear hzs
      go_wp2_with fail
      go_ret2
      exact ⟨_, [], 1, rfl, ints_nil _ _ _, .inr ⟨hno, rfl, rfl⟩, by simp, hB2⟩
end Go.Proofs.YtpabbehpkokhbaaDoor
