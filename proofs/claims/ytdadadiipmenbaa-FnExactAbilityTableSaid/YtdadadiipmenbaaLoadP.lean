/- The load of a crane at a place, in both packages. -/
import Derived.Test.YtdadadiipmenbaaLoadI
import Derived.Test.YtdadadiipmenbaaSq
namespace Go.Proofs.Ytdadadiipmenbaa
open Go.RowKit
/-- The radius of a place, and the load there; -1 if there is none. -/
noncomputable def radI (f : CraneF) (x y : Int) : Int := rootI (sq4 f.x f.y x y)
noncomputable def placeI (f : CraneF) (l : List Chs) (x y : Int) : Int := loadI l (radI f x y)
theorem rad_bd {f : CraneF} {x y : Int} (h1 : Pl f.x f.y) (h2 : Pl x y) : (0 ≤ sq4 f.x f.y x y ∧ sq4 f.x f.y x y ≤ 800000000) ∧ (0 ≤ radI f x y ∧ radI f x y ≤ 30000) := by
  have hb1 := sq_bd (f.x - x) (by unfold Pl at h1 h2; omega)
  have hb2 := sq_bd (f.y - y) (by unfold Pl at h1 h2; omega)
  have h3 : 0 ≤ sq4 f.x f.y x y ∧ sq4 f.x f.y x y ≤ 800000000 := by unfold sq4; omega
  obtain ⟨h4, h5⟩ := rootI_spec (n := sq4 f.x f.y x y) (m := 30000) (by omega)
  exact ⟨h3, h4.1, by unfold radI; omega⟩
theorem place_bd {f : CraneF} {l : List Chs} (h : craneOk f l) (x y : Int) : -1 ≤ placeI f l x y ∧ placeI f l x y ≤ 50000 := load_bd h.2.2.2.2.2.1 _
theorem root_any (f : FuncId) {a b c d : Int} (hr : ∀ (n : Int) (w : World), 0 ≤ n → n ≤ 1000000000000 → Calls Try.prog f #[.int .i64 n] w fun e w' => e = .returned (.int .i64 (rootI n)) ∧ w = w') (h1 : 0 ≤ sq4 a b c d ∧ sq4 a b c d ≤ 800000000) (w : World) :
    Calls Try.prog f #[.int .i64 (sq4 a b c d)] w fun e w' => e = .returned (.int .i64 (rootI (sq4 a b c d))) ∧ w = w' := hr _ w h1.1 (by omega)
set_option maxRecDepth 100000 in
set_option maxHeartbeats 8000000 in
theorem spec_LoadPl (b o : Nat) (f : CraneF) (sv : Value) (l : List Chs) (x y : Int) (lo hi : Nat) (w : World) (hc : ∀ j u, (([.string f.name, .int .i64 f.x, .int .i64 f.y, .int .i64 f.height, .int .i64 f.jib, .int .i64 f.back, sv] : List Value))[j]? = some u → w.cell? ⟨b, o + j, none⟩ = some u) (h : Chss lo hi w sv l) (hok : craneOk f l) (hp : Pl x y) :
    Calls Try.prog 96 #[.pointer (some ⟨b, o, none⟩), .agg #[.int .i64 x, .int .i64 y]] w fun e w' => e = .returned (.int .i64 (placeI f l x y)) ∧ Below w.heap.size w w' := by
  have hpl := hok.2.1
  have hch := hok.2.2.2.2.2.1
  obtain ⟨hs1, hr1, hr2⟩ := rad_bd hpl hp
  have HS := Lib.hid (fun w => spec_Sq f.x f.y x y w hpl hp)
  have HR := Lib.hid (root_any 116 spec_Root hs1)
  have HL := Lib.hid (fun w' (hb : Below w.heap.size w w') => spec_Load sv l lo hi (radI f x y) w' (h.ext hb) hch (by omega))
  have Hfar := Lib.hid (fun (hh : 1000 < radI f x y) => (load_far hch hh).1)
  obtain ⟨sva, svc, rfl, svl, -⟩ := h
  have c1 := hc 1 _ rfl
  have c2 := hc 2 _ rfl
  have c6 := hc 6 _ rfl
  have hbw := World.block_lt_of_cell? w _ c1
  have hba : Below w.heap.size w (w.alloc (.cells #[.int .i64 x, .int .i64 y] 68)) := (Below.refl _ _).alloc (Nat.le_refl _) _
  clear hc hok hp hpl hch hs1
  unfold placeI radI at *
  generalize rootI (sq4 f.x f.y x y) = r at *
  generalize sq4 f.x f.y x y = sq at *
  go_enter Try.func96, Try.ntmps96
  go_wp2_with fail
  obtain ⟨W0, hW0⟩ : ∃ W0, w.alloc (.cells #[.int .i64 x, .int .i64 y] 68) = W0 := ⟨_, rfl⟩
  rw [hW0] at hba ⊢
  have z0 : W0.heap.size = w.heap.size + 1 := by rw [← hW0]; simp
  have p0 : W0.cell? ⟨w.heap.size, 0, none⟩ = some (.int .i64 x) := by rw [← hW0, Lib.cell_of_heap (blkN_new w _)]; rfl
  have p1 : W0.cell? ⟨w.heap.size, 1, none⟩ = some (.int .i64 y) := by rw [← hW0, Lib.cell_of_heap (blkN_new w _)]; rfl
  have hc1 := (hba.cell (p := ⟨b, o + 1, none⟩) hbw).trans c1
  have hc2 := (hba.cell (p := ⟨b, o + 2, none⟩) hbw).trans c2
  have hc6 := (hba.cell (p := ⟨b, o + 6, none⟩) hbw).trans c6
  have hb0 : b < W0.heap.size := by omega
  have hq0 : w.heap.size < W0.heap.size := by omega
  have Hba := Lib.hid hba
  have Hc6 := Lib.hid c6
  have Hz0 := Lib.hid z0
  clear hW0 z0 hba c1 c2 c6
  go_region_held3 (fun w' => (∀ b' o', b' < W0.heap.size → w'.cell? ⟨b', o', none⟩ = W0.cell? ⟨b', o', none⟩) ∧ Below W0.heap.size W0 w') (first | (refine heldB ?_; go_grown; done))
    (first
      | (go_at_call 87; refine (HS.out _).mono ?_; rintro e w2 ⟨rfl, hb2'⟩; have b2 : Below W0.heap.size W0 w2 := Below.trans (by go_grown) (hb2'.mono (by go_size)); have q2 := (bcell b2).1)
      | (go_at_call 116; refine (HR.out _).mono ?_; rintro e w3 ⟨rfl, rfl⟩))
  have B2 := Hba.out.trans (b2.mono Hba.out.size)
  have d6 := (B2.cell (p := ⟨b, o + 6, none⟩) hbw).trans Hc6.out
  have HL2 := Lib.hid (HL.out _ B2)
  clear hb2' b2 q2
  by_cases hfar : 1000 < r
  · have Hd := Lib.hid (Hfar.out hfar)
    go_wp2
    go_ret
    exact ⟨ret_int Hd.out.symm, B2⟩
  · go_wp2_with (go_at_call 117; refine HL2.out.mono ?_; rintro e w3 ⟨rfl, n, rfl⟩)
    go_ret
    exact ⟨rfl, below_dN B2 _⟩
theorem crane_of {b q : Nat} {W : World} {f : CraneF} {sv : Value} (h : W.heap[q]? = some (.cells #[.string f.name, .int .i64 f.x, .int .i64 f.y, .int .i64 f.height, .int .i64 f.jib, .int .i64 f.back, sv] b (0, 0))) :
    ∀ j u, (([.string f.name, .int .i64 f.x, .int .i64 f.y, .int .i64 f.height, .int .i64 f.jib, .int .i64 f.back, sv] : List Value))[j]? = some u → W.cell? ⟨q, 0 + j, none⟩ = some u := by
  intro j u hu
  rw [Lib.cell_of_heap h]
  simpa using hu
set_option maxRecDepth 100000 in
set_option maxHeartbeats 8000000 in
theorem impl_LoadPl (f : CraneF) (s : SV) (l : List Chs) (x y : Int) (lo hi : Nat) (w : World) (h : Chss lo hi w s.v l) (hok : craneOk f l) (hp : Pl x y) :
    Calls Try.prog 118 #[.agg (CraneR.cells ⟨f, s⟩).toArray, .agg #[.int .i64 x, .int .i64 y]] w fun e w' => e = .returned (.tuple #[.int .i64 (if placeI f l x y < 0 then 0 else placeI f l x y), .bool (decide (0 ≤ placeI f l x y))]) ∧ Below w.heap.size w w' := by
  have hpl := hok.2.1
  have hch := hok.2.2.2.2.2.1
  obtain ⟨hs1, hr1, hr2⟩ := rad_bd hpl hp
  have HS := Lib.hid (fun w => impl_Sq f.x f.y x y w hpl hp)
  have HR := Lib.hid (root_any 128 impl_Root hs1)
  have HL := Lib.hid (fun w' (hb : Below w.heap.size w w') => impl_Load s.v l lo hi (radI f x y) w' (h.ext hb) hch (by omega))
  obtain ⟨sa, sl, sc⟩ := s
  obtain ⟨x0, x1, x2, x3, x4, x5⟩ := f
  simp only [CraneR.cells, SV.v] at *
  have hba : Below w.heap.size w (w.alloc (.cells #[.string x0, .int .i64 x1, .int .i64 x2, .int .i64 x3, .int .i64 x4, .int .i64 x5, .slice sa sl sc] 84)) := (Below.refl _ _).alloc (Nat.le_refl _) _
  have hba2 : Below w.heap.size w ((w.alloc (.cells #[.string x0, .int .i64 x1, .int .i64 x2, .int .i64 x3, .int .i64 x4, .int .i64 x5, .slice sa sl sc] 84)).alloc (.cells #[.int .i64 x, .int .i64 y] 68)) := hba.alloc (by simp) _
  clear h hok hp hpl hch hs1
  unfold placeI radI at *
  unfold loadR at HL
  generalize rootI (sq4 x1 x2 x y) = r at *
  generalize sq4 x1 x2 x y = sq at *
  generalize (if loadI l r < 0 then 0 else loadI l r) = res at *
  generalize decide (0 ≤ loadI l r) = rb at *
  go_enter Try.func118, Try.ntmps118
  go_wp2_with fail
  obtain ⟨W0, hW0⟩ : ∃ W0, ((w.alloc (.cells #[.string x0, .int .i64 x1, .int .i64 x2, .int .i64 x3, .int .i64 x4, .int .i64 x5, .slice sa sl sc] 84)).alloc (.cells #[.int .i64 x, .int .i64 y] 68)) = W0 := ⟨_, rfl⟩
  have e1 := blkN_below (Below.alloc (Below.refl _ _) (Nat.le_refl _) (.cells #[.int .i64 x, .int .i64 y] 68)) (blkN_new w (.cells #[.string x0, .int .i64 x1, .int .i64 x2, .int .i64 x3, .int .i64 x4, .int .i64 x5, .slice sa sl sc] 84))
  have e2 := blkN_new (w.alloc (.cells #[.string x0, .int .i64 x1, .int .i64 x2, .int .i64 x3, .int .i64 x4, .int .i64 x5, .slice sa sl sc] 84)) (.cells #[.int .i64 x, .int .i64 y] 68)
  rw [show (w.alloc (.cells #[.string x0, .int .i64 x1, .int .i64 x2, .int .i64 x3, .int .i64 x4, .int .i64 x5, .slice sa sl sc] 84)).heap.size = w.heap.size + 1 by simp] at e2
  rw [hW0] at hba2 e1 e2 ⊢
  have p0 : W0.cell? ⟨w.heap.size + 1, 0, none⟩ = some (.int .i64 x) := by rw [Lib.cell_of_heap e2]; rfl
  have p1 : W0.cell? ⟨w.heap.size + 1, 1, none⟩ = some (.int .i64 y) := by rw [Lib.cell_of_heap e2]; rfl
  have hc1 : W0.cell? ⟨w.heap.size, 1, none⟩ = some (.int .i64 x1) := by rw [Lib.cell_of_heap e1]; rfl
  have hc2 : W0.cell? ⟨w.heap.size, 2, none⟩ = some (.int .i64 x2) := by rw [Lib.cell_of_heap e1]; rfl
  have hc6 : W0.cell? ⟨w.heap.size, 6, none⟩ = some (.slice sa sl sc) := by rw [Lib.cell_of_heap e1]; rfl
  have hq1 : w.heap.size + 1 < W0.heap.size := World.block_lt_of_cell? W0 _ p0
  have hq0 : w.heap.size < W0.heap.size := by omega
  have Hba := Lib.hid hba2
  clear hW0 e1 e2 hba hba2
  go_region_held3 (fun w' => (∀ b' o', b' < W0.heap.size → w'.cell? ⟨b', o', none⟩ = W0.cell? ⟨b', o', none⟩) ∧ Below W0.heap.size W0 w') (first | (refine heldB ?_; go_grown; done))
    (first
      | (go_at_call 93; refine (HS.out _).mono ?_; rintro e w2 ⟨rfl, hb2'⟩; have b2 : Below W0.heap.size W0 w2 := Below.trans (by go_grown) (hb2'.mono (by go_size)); have q2 := (bcell b2).1)
      | (go_at_call 128; refine (HR.out _).mono ?_; rintro e w3 ⟨rfl, rfl⟩)
      | (go_at_call 127; refine (HL.out _ (Hba.out.trans (b2.mono Hba.out.size))).mono ?_; rintro e w4 ⟨rfl, hb4'⟩; have b4 : Below W0.heap.size W0 w4 := Below.trans b2 (hb4'.mono b2.size); have q4 := (bcell b4).1))
  go_wp2
  go_ret2
  exact ⟨rfl, Hba.out.trans (b4.mono Hba.out.size)⟩
end Go.Proofs.Ytdadadiipmenbaa
