/- Whether a crane can do a lift, the reference. Whether a crane can do a lift, the program. -/
import Derived.Test.YtdadadiipmenbaaLoadP
import Derived.Test.YtdadadiipmenbaaLiftV
namespace Go.Proofs.Ytdadadiipmenbaa
open Go.RowKit
def minI (a b : Int) : Int := if a < b then a else b
theorem minI_cases (a b : Int) : (a < b ∧ minI a b = a) ∨ (b ≤ a ∧ minI a b = b) := by
  unfold minI
  by_cases h : a < b
  · rw [if_pos h]; exact .inl ⟨h, rfl⟩
  · rw [if_neg h]; exact .inr ⟨by omega, rfl⟩
theorem spec_Min (a b : Int) (w : World) : Calls Try.prog 95 #[.int .i64 a, .int .i64 b] w fun e w' => e = .returned (.int .i64 (minI a b)) ∧ w = w' := by
  rcases minI_cases a b with ⟨h, h2⟩ | ⟨h, h2⟩
  all_goals
    rw [h2]
    clear h2
    go_enter Try.func95, Try.ntmps95
    go_wp2
    go_ret
    exact ⟨rfl, rfl⟩
/-- The load of a crane for a lift; -1 if there is none. -/
noncomputable def forI (f : CraneF) (l : List Chs) (g : LiftF) : Int := minI (placeI f l g.fx g.fy) (placeI f l g.tx g.ty)
theorem for_bd {f : CraneF} {l : List Chs} (h : craneOk f l) (g : LiftF) : -1 ≤ forI f l g ∧ forI f l g ≤ 50000 := by
  have h1 := place_bd h g.fx g.fy
  have h2 := place_bd h g.tx g.ty
  unfold forI
  have := minI_cases (placeI f l g.fx g.fy) (placeI f l g.tx g.ty)
  omega
noncomputable def canB (f : CraneF) (l : List Chs) (g : LiftF) : Bool := decide (g.weight ≤ forI f l g ∧ g.height + 30 ≤ f.height)
def liftC (g : LiftF) (gv : Value) : List Value := [.string g.name, .int .i64 g.weight, .int .i64 g.fx, .int .i64 g.fy, .int .i64 g.tx, .int .i64 g.ty, .int .i64 g.height, .int .i64 g.deadline, gv]
def craneC (f : CraneF) (sv : Value) : List Value := [.string f.name, .int .i64 f.x, .int .i64 f.y, .int .i64 f.height, .int .i64 f.jib, .int .i64 f.back, sv]
/-- The cells cs stand from (b, o) on. -/
def At (w : World) (b o : Nat) (cs : List Value) : Prop := ∀ j u, cs[j]? = some u → w.cell? ⟨b, o + j, none⟩ = some u
theorem At.below {w w' : World} {b o B : Nat} {cs : List Value} (h : At w b o cs) (hb : Below B w w') (hB : b < B) : At w' b o cs := fun j u hu => (hb.cell (p := ⟨b, o + j, none⟩) hB).trans (h j u hu)
theorem At.lt {w : World} {b o : Nat} {cs : List Value} (h : At w b o cs) (h0 : 0 < cs.length) : b < w.heap.size := World.block_lt_of_cell? w _ (h 0 _ (List.getElem?_eq_getElem h0))
theorem At.ext {w w' : World} {b o : Nat} {cs : List Value} (h : At w b o cs) (hb : Below w.heap.size w w') (h0 : 0 < cs.length) : At w' b o cs := h.below hb (h.lt h0)
theorem At.of {w : World} {q : Nat} {cs : List Value} {t : TypeId} (h : w.heap[q]? = some (.cells cs.toArray t (0, 0))) : At w q 0 cs := fun j u hu => by rw [Lib.cell_of_heap h]; simpa using hu
set_option maxRecDepth 100000 in
set_option maxHeartbeats 8000000 in
theorem spec_ForLoad (b o b2 o2 : Nat) (f : CraneF) (sv : Value) (l : List Chs) (g : LiftF) (gv : Value) (lo hi : Nat) (w : World) (hc : At w b o (craneC f sv)) (hg : At w b2 o2 (liftC g gv)) (h : Chss lo hi w sv l) (hok : craneOk f l) (hp1 : Pl g.fx g.fy) (hp2 : Pl g.tx g.ty) :
    Calls Try.prog 72 #[.pointer (some ⟨b, o, none⟩), .pointer (some ⟨b2, o2, none⟩)] w fun e w' => e = .returned (.int .i64 (forI f l g)) ∧ Below w.heap.size w w' := by
  have HF := Lib.hid (fun w' (hb : Below w.heap.size w w') => spec_LoadPl b o f sv l g.fx g.fy lo hi w' (hc.ext hb (by simp [craneC])) (h.ext hb) hok hp1)
  have HT := Lib.hid (fun w' (hb : Below w.heap.size w w') => spec_LoadPl b o f sv l g.tx g.ty lo hi w' (hc.ext hb (by simp [craneC])) (h.ext hb) hok hp2)
  have HM := Lib.hid (fun w => spec_Min (placeI f l g.fx g.fy) (placeI f l g.tx g.ty) w)
  unfold forI
  obtain ⟨x0, x1, x2, x3, x4, x5, x6, x7⟩ := g
  have c2 := hg 2 _ rfl
  have c3 := hg 3 _ rfl
  have c4 := hg 4 _ rfl
  have c5 := hg 5 _ rfl
  have hbw := hc.lt (by simp [craneC])
  have hbw2 := hg.lt (by simp [liftC])
  clear hc hg h hok hp1 hp2
  dsimp only at *
  generalize placeI f l x2 x3 = u at *
  generalize placeI f l x4 x5 = v at *
  generalize minI u v = m at *
  go_enter Try.func72, Try.ntmps72
  go_wp2_with fail
  go_region_held3 (fun w' => (∀ b' o', b' < w.heap.size → w'.cell? ⟨b', o', none⟩ = w.cell? ⟨b', o', none⟩) ∧ Below w.heap.size w w') (first | (refine heldB ?_; go_grown; done))
    (first
      | (go_at_call_of 96 x2; refine (HF.out _ ?hb).mono ?_; (case hb => first | exact Below.refl _ _ | go_grown); rintro e w2 ⟨rfl, hb2'⟩; have b2 : Below w.heap.size w w2 := Below.trans (by go_grown) (hb2'.mono (by go_size)); have q2 := (bcell b2).1)
      | (go_at_call_of 96 x4; refine (HT.out _ ?hb).mono ?_; (case hb => first | exact b2 | exact below_dN b2 _ | (trace_state; go_grown)); rintro e w3 ⟨rfl, hb3'⟩; have b3 : Below w.heap.size w w3 := Below.trans b2 (hb3'.mono b2.size); have q3 := (bcell b3).1)
      | (go_at_call 95; refine (HM.out _).mono ?_; rintro e w4 ⟨rfl, rfl⟩))
  go_wp2
  go_ret
  exact ⟨rfl, b3⟩
theorem can_cases (f : CraneF) (l : List Chs) (g : LiftF) : (canB f l g = false ∧ forI f l g < g.weight) ∨ (canB f l g = false ∧ g.weight ≤ forI f l g ∧ f.height < g.height + 30) ∨ (canB f l g = true ∧ g.weight ≤ forI f l g ∧ g.height + 30 ≤ f.height) := by
  unfold canB
  by_cases h : g.weight ≤ forI f l g
  · by_cases h2 : g.height + 30 ≤ f.height
    · exact .inr (.inr ⟨decide_eq_true ⟨h, h2⟩, h, h2⟩)
    · exact .inr (.inl ⟨decide_eq_false (fun hh => h2 hh.2), h, by omega⟩)
  · exact .inl ⟨decide_eq_false (fun hh => h hh.1), by omega⟩
set_option maxRecDepth 100000 in
set_option maxHeartbeats 8000000 in
theorem spec_CanLift (b o q o2 : Nat) (f : CraneF) (sv : Value) (l : List Chs) (g : LiftF) (gv : Value) (lo hi : Nat) (w : World) (hc : At w b o (craneC f sv)) (hg : At w q o2 (liftC g gv)) (h : Chss lo hi w sv l) (hok : craneOk f l) (hp1 : Pl g.fx g.fy) (hp2 : Pl g.tx g.ty) (hh : 0 ≤ g.height ∧ g.height ≤ 2000) :
    Calls Try.prog 44 #[.pointer (some ⟨b, o, none⟩), .pointer (some ⟨q, o2, none⟩)] w fun e w' => e = .returned (.bool (canB f l g)) ∧ Below w.heap.size w w' := by
  have HF := Lib.hid (fun w' (hb : Below w.heap.size w w') => spec_ForLoad b o q o2 f sv l g gv lo hi w' (hc.ext hb (by simp [craneC])) (hg.ext hb (by simp [liftC])) (h.ext hb) hok hp1 hp2)
  have hcs := can_cases f l g
  obtain ⟨hf1, hf2⟩ := for_bd hok g
  have hfh := hok.2.2.1
  obtain ⟨x0, x1, x2, x3, x4, x5, x6, x7⟩ := g
  obtain ⟨y0, y1, y2, y3, y4, y5⟩ := f
  have c1 := hg 1 _ rfl
  have c6 := hg 6 _ rfl
  have d3 := hc 3 _ rfl
  have hbw := hc.lt (by simp [craneC])
  have hbw2 := hg.lt (by simp [liftC])
  clear hc hg h hok hp1 hp2
  dsimp only at *
  obtain ⟨hh1, hh2⟩ := hh
  obtain ⟨hfh1, hfh2⟩ := hfh
  have hw30 : IntKind.i64.wrap (x6 + 30) = x6 + 30 := IntWalk.i64_in _ (by omega)
  generalize forI ⟨y0, y1, y2, y3, y4, y5⟩ l ⟨x0, x1, x2, x3, x4, x5, x6, x7⟩ = m at *
  rcases hcs with ⟨hr, h1⟩ | ⟨hr, h1, h2⟩ | ⟨hr, h1, h2⟩
  · rw [hr]
    clear hr
    go_enter Try.func44, Try.ntmps44
    go_wp2_with fail
    refine wp_region_held_drew (S := (fun w' => (∀ b' o', b' < w.heap.size → w'.cell? ⟨b', o', none⟩ = w.cell? ⟨b', o', none⟩) ∧ Below w.heap.size w w')) (by kernel_rfl) (heldB (by go_grown)) (fun hHeld => ?_)
    refine take_v 5 (i := 0) rfl rfl (by kernel_rfl) (by kernel_rfl) (by kernel_rfl) (fun _ _ _ h => h) (by rfl) (fun w hSw => by (try dsimp only at hSw); go_simp; first | done | with_reducible rfl) hHeld ?_
    try simp only [Act.put, List.setIfInBounds_toArray, List.set_cons_zero, List.set_cons_succ]
    refine take_v 6 (i := 1) rfl rfl (by kernel_rfl) (by kernel_rfl) (by kernel_rfl) (fun _ _ _ h => h) (by rfl) (fun w hSw => by (try dsimp only at hSw); go_simp; first | done | with_reducible rfl) hHeld ?_
    try simp only [Act.put, List.setIfInBounds_toArray, List.set_cons_zero, List.set_cons_succ]
    refine take_v 8 (i := 3) rfl rfl (by kernel_rfl) (by kernel_rfl) (by kernel_rfl) (fun _ _ _ h => h) (by rfl) (fun w hSw => by (try dsimp only at hSw); go_simp; first | done | with_reducible rfl) hHeld ?_
    try simp only [Act.put, List.setIfInBounds_toArray, List.set_cons_zero, List.set_cons_succ]
    refine take_v 9 (i := 4) rfl rfl (by kernel_rfl) (by kernel_rfl) (by kernel_rfl) (fun _ _ _ h => h) (by rfl) (fun w hSw => by (try dsimp only at hSw); go_simp; first | done | with_reducible rfl) hHeld ?_
    try simp only [Act.put, List.setIfInBounds_toArray, List.set_cons_zero, List.set_cons_succ]
    refine take_v 10 (i := 5) rfl rfl (by kernel_rfl) (by kernel_rfl) (by kernel_rfl) (fun _ _ _ h => h) (by rfl) (fun w hSw => by (try dsimp only at hSw); go_simp; first | done | with_reducible rfl) hHeld ?_
    try simp only [Act.put, List.setIfInBounds_toArray, List.set_cons_zero, List.set_cons_succ]
    refine take_v 11 (i := 6) rfl rfl (by kernel_rfl) (by kernel_rfl) (by kernel_rfl) (fun _ _ _ h => h) (by rfl) (fun w hSw => by (try dsimp only at hSw); go_simp; first | done | with_reducible rfl) hHeld ?_
    try simp only [Act.put, List.setIfInBounds_toArray, List.set_cons_zero, List.set_cons_succ]
    refine wpAnyH_ready (rs := [2]) (by kernel_rfl) (by simp) ?_
    refine AllReadyH.cons rfl (fun K hK => ?_) AllReadyH.nil
    go_simp
    refine (HF.out _ ?hb).mono ?_
    case hb => first | exact Below.refl _ _ | go_grown
    rintro e w3 ⟨rfl, hb3'⟩
    have b3 : Below w.heap.size w w3 := Below.trans (by go_grown) (hb3'.mono (by go_size))
    go_wp2_with fail
    refine hK.out _ _ (heldB b3) (fun hHeld => ?_)
    clear hK
    try simp only [Act.put, List.setIfInBounds_toArray, List.set_cons_zero, List.set_cons_succ]
    refine take_v 12 (i := 7) rfl rfl (by kernel_rfl) (by kernel_rfl) (by kernel_rfl) (fun _ _ _ h => h) (by rfl) (fun w hSw => by (try dsimp only at hSw); go_simp; first | done | with_reducible rfl) hHeld ?_
    try simp only [Act.put, List.setIfInBounds_toArray, List.set_cons_zero, List.set_cons_succ]
    rw [show decide (x1 ≤ m) = false from decide_eq_false (by omega)]
    refine take_v 13 (i := 8) rfl rfl (by kernel_rfl) (by kernel_rfl) (by kernel_rfl) (fun _ _ _ h => h) (by rfl) (fun w hSw => by (try dsimp only at hSw); go_simp; first | done | with_reducible rfl) hHeld ?_
    try simp only [Act.put, List.setIfInBounds_toArray, List.set_cons_zero, List.set_cons_succ]
    refine take_u 14 (i := 9) rfl rfl (by kernel_rfl) (by kernel_rfl) (by kernel_rfl) (fun _ _ _ h => h) (by rfl) hHeld ?_
    try simp only [Act.put, List.setIfInBounds_toArray, List.set_cons_zero, List.set_cons_succ]
    refine take_u 15 (i := 10) rfl rfl (by kernel_rfl) (by kernel_rfl) (by kernel_rfl) (fun _ _ _ h => h) (by rfl) hHeld ?_
    try simp only [Act.put, List.setIfInBounds_toArray, List.set_cons_zero, List.set_cons_succ]
    refine take_u 16 (i := 11) rfl rfl (by kernel_rfl) (by kernel_rfl) (by kernel_rfl) (fun _ _ _ h => h) (by rfl) hHeld ?_
    try simp only [Act.put, List.setIfInBounds_toArray, List.set_cons_zero, List.set_cons_succ]
    refine take_u 17 (i := 12) rfl rfl (by kernel_rfl) (by kernel_rfl) (by kernel_rfl) (fun _ _ _ h => h) (by rfl) hHeld ?_
    try simp only [Act.put, List.setIfInBounds_toArray, List.set_cons_zero, List.set_cons_succ]
    refine take_u 18 (i := 13) rfl rfl (by kernel_rfl) (by kernel_rfl) (by kernel_rfl) (fun _ _ _ h => h) (by rfl) hHeld ?_
    try simp only [Act.put, List.setIfInBounds_toArray, List.set_cons_zero, List.set_cons_succ]
    refine take_u 19 (i := 14) rfl rfl (by kernel_rfl) (by kernel_rfl) (by kernel_rfl) (fun _ _ _ h => h) (by rfl) hHeld ?_
    try simp only [Act.put, List.setIfInBounds_toArray, List.set_cons_zero, List.set_cons_succ]
    refine take_u 20 (i := 15) rfl rfl (by kernel_rfl) (by kernel_rfl) (by kernel_rfl) (fun _ _ _ h => h) (by rfl) hHeld ?_
    try simp only [Act.put, List.setIfInBounds_toArray, List.set_cons_zero, List.set_cons_succ]
    refine take_u 21 (i := 16) rfl rfl (by kernel_rfl) (by kernel_rfl) (by kernel_rfl) (fun _ _ _ h => h) (by rfl) hHeld ?_
    try simp only [Act.put, List.setIfInBounds_toArray, List.set_cons_zero, List.set_cons_succ]
    refine take_u 22 (i := 17) rfl rfl (by kernel_rfl) (by kernel_rfl) (by kernel_rfl) (fun _ _ _ h => h) (by rfl) hHeld ?_
    try simp only [Act.put, List.setIfInBounds_toArray, List.set_cons_zero, List.set_cons_succ]
    refine take_u 23 (i := 18) rfl rfl (by kernel_rfl) (by kernel_rfl) (by kernel_rfl) (fun _ _ _ h => h) (by rfl) hHeld ?_
    try simp only [Act.put, List.setIfInBounds_toArray, List.set_cons_zero, List.set_cons_succ]
    refine take_v 24 (i := 19) rfl rfl (by kernel_rfl) (by kernel_rfl) (by kernel_rfl) (fun _ _ _ h => h) (by rfl) (fun w hSw => by (try dsimp only at hSw); go_simp; first | done | with_reducible rfl) hHeld ?_
    try simp only [Act.put, List.setIfInBounds_toArray, List.set_cons_zero, List.set_cons_succ]
    refine take_v 4 (i := 20) rfl rfl (by kernel_rfl) (by kernel_rfl) (by kernel_rfl) (fun _ _ _ h => h) (by rfl) (fun w hSw => by (try dsimp only at hSw); go_simp; first | done | with_reducible rfl) hHeld ?_
    try simp only [Act.put, List.setIfInBounds_toArray, List.set_cons_zero, List.set_cons_succ]
    refine wpAnyH_done (by kernel_rfl) ?_ _
    go_wp2
    go_ret
    exact ⟨rfl, b3⟩
  · rw [hr]
    clear hr
    go_enter Try.func44, Try.ntmps44
    go_wp2_with fail
    go_region_held3 (fun w' => (∀ b' o', b' < w.heap.size → w'.cell? ⟨b', o', none⟩ = w.cell? ⟨b', o', none⟩) ∧ Below w.heap.size w w') (first | (refine heldB ?_; go_grown; done))
      (first
        | (go_at_call 72; refine (HF.out _ ?hb).mono ?_; (case hb => first | exact Below.refl _ _ | go_grown); rintro e w2 ⟨rfl, hb2'⟩; have b2 : Below w.heap.size w w2 := Below.trans (by go_grown) (hb2'.mono (by go_size)); have q2 := (bcell b2).1))
    go_wp2
    go_ret
    exact ⟨ret_bool (by first | rfl | exact decide_eq_false (by omega) | (simp; omega)), b2⟩
  · rw [hr]
    clear hr
    go_enter Try.func44, Try.ntmps44
    go_wp2_with fail
    go_region_held3 (fun w' => (∀ b' o', b' < w.heap.size → w'.cell? ⟨b', o', none⟩ = w.cell? ⟨b', o', none⟩) ∧ Below w.heap.size w w') (first | (refine heldB ?_; go_grown; done))
      (first
        | (go_at_call 72; refine (HF.out _ ?hb).mono ?_; (case hb => first | exact Below.refl _ _ | go_grown); rintro e w2 ⟨rfl, hb2'⟩; have b2 : Below w.heap.size w w2 := Below.trans (by go_grown) (hb2'.mono (by go_size)); have q2 := (bcell b2).1))
    go_wp2
    go_ret
    exact ⟨ret_bool (by first | rfl | exact decide_eq_true (by omega) | (simp; omega)), b2⟩
/-- What the program's loadFor gives. -/
def ForRes (m : Int) (e : Ending) : Prop := ∃ n : Int, e = .returned (.tuple #[.int .i64 n, .bool (decide (0 ≤ m))]) ∧ (0 ≤ n ∧ n ≤ 50000) ∧ (0 ≤ m → n = m)
def OC (f : CraneF) (a : Option Addr) (k c : Nat) : Obj := .cells #[.string f.name, .int .i64 f.x, .int .i64 f.y, .int .i64 f.height, .int .i64 f.jib, .int .i64 f.back, .slice a k c] 84 (0, 0)
def OL (g : LiftF) (a : Option Addr) (k c : Nat) : Obj := .cells #[.string g.name, .int .i64 g.weight, .int .i64 g.fx, .int .i64 g.fy, .int .i64 g.tx, .int .i64 g.ty, .int .i64 g.height, .int .i64 g.deadline, .slice a k c] 70 (0, 0)
theorem tup {n : Int} {b b' : Bool} (h : b = b') : Ending.returned (.tuple #[.int .i64 n, .bool b]) = .returned (.tuple #[.int .i64 n, .bool b']) := by rw [h]
/-- Two boxes made one after the other. -/
theorem two_boxes (w : World) (o p : Obj) : ∃ W, ((w.alloc o).alloc p) = W ∧ W.heap[w.heap.size]? = some o ∧ W.heap[w.heap.size + 1]? = some p ∧ Below w.heap.size w W ∧ W.heap.size = w.heap.size + 2 := by
  refine ⟨_, rfl, ?_, ?_, ((Below.refl _ _).alloc (Nat.le_refl _) _).alloc (by simp) _, by simp⟩
  · exact blkN_below (Below.alloc (Below.refl _ _) (Nat.le_refl _) p) (blkN_new w o)
  · have := blkN_new (w.alloc o) p
    rwa [show (w.alloc o).heap.size = w.heap.size + 1 by simp] at this
set_option maxRecDepth 100000 in
set_option maxHeartbeats 8000000 in
theorem impl_ForLoad (f : CraneF) (s : SV) (l : List Chs) (g : LiftF) (t : SV) (lo hi : Nat) (w : World) (h : Chss lo hi w s.v l) (hok : craneOk f l) (hp1 : Pl g.fx g.fy) (hp2 : Pl g.tx g.ty) :
    Calls Try.prog 97 #[.agg (CraneR.cells ⟨f, s⟩).toArray, .agg (LiftR.cells ⟨g, t⟩).toArray] w fun e w' => ForRes (forI f l g) e ∧ Below w.heap.size w w' := by
  have hF := fun w' (hb : Below w.heap.size w w') => impl_LoadPl f s l g.fx g.fy lo hi w' (h.ext hb) hok hp1
  have hT := fun w' (hb : Below w.heap.size w w') => impl_LoadPl f s l g.tx g.ty lo hi w' (h.ext hb) hok hp2
  obtain ⟨u1, u2⟩ := place_bd hok g.fx g.fy
  obtain ⟨v1, v2⟩ := place_bd hok g.tx g.ty
  unfold forI
  obtain ⟨sa, sl, sc⟩ := s
  obtain ⟨ta, tl, tc⟩ := t
  obtain ⟨x0, x1, x2, x3, x4, x5, x6, x7⟩ := g
  obtain ⟨y0, y1, y2, y3, y4, y5⟩ := f
  simp only [CraneR.cells, LiftR.cells, SV.v] at *
  clear h hok hp1 hp2
  generalize placeI ⟨y0, y1, y2, y3, y4, y5⟩ l x2 x3 = u at *
  generalize placeI ⟨y0, y1, y2, y3, y4, y5⟩ l x4 x5 = v at *
  obtain ⟨u', hu', hu1, hu2, hu3⟩ : ∃ u' : Int, (if u < 0 then 0 else u) = u' ∧ (0 ≤ u' ∧ u' ≤ 50000) ∧ (0 ≤ u → u' = u) ∧ True := by
    by_cases h : u < 0
    · exact ⟨0, by rw [if_pos h], by omega, by omega, trivial⟩
    · exact ⟨u, by rw [if_neg h], by omega, by omega, trivial⟩
  obtain ⟨v', hv', hv1, hv2, hv3⟩ : ∃ u' : Int, (if v < 0 then 0 else v) = u' ∧ (0 ≤ u' ∧ u' ≤ 50000) ∧ (0 ≤ v → u' = v) ∧ True := by
    by_cases h : v < 0
    · exact ⟨0, by rw [if_pos h], by omega, by omega, trivial⟩
    · exact ⟨v, by rw [if_neg h], by omega, by omega, trivial⟩
  rw [hu'] at hF
  rw [hv'] at hT
  clear hu' hv' hu3 hv3
  obtain ⟨W0, hW, e1, e2, hB0, hz0⟩ := two_boxes w (OC ⟨y0, y1, y2, y3, y4, y5⟩ sa sl sc) (OL ⟨x0, x1, x2, x3, x4, x5, x6, x7⟩ ta tl tc)
  simp only [OC, OL] at hW e1 e2
  have hq0 : w.heap.size < W0.heap.size := by omega
  have hq1 : w.heap.size + 1 < W0.heap.size := by omega
  have HW := Lib.hid hW
  clear hW
  have E1 := Lib.hid e1
  have E2 := Lib.hid e2
  have HB0 := Lib.hid hB0
  have Hz0 := Lib.hid hz0
  have HN : Hid (∀ n : Int, n = minI u' v' → (0 ≤ n ∧ n ≤ 50000) ∧ (0 ≤ minI u v → n = minI u v)) := Lib.hid (by
    intro n hn
    have h1 := minI_cases u v
    have h2 := minI_cases u' v'
    omega)
  have HB : Hid ((decide (0 ≤ u) && decide (0 ≤ v)) = decide (0 ≤ minI u v)) := Lib.hid (by
    have h1 := minI_cases u v
    rw [Bool.eq_iff_iff, Bool.and_eq_true, decide_eq_true_iff, decide_eq_true_iff, decide_eq_true_iff]
    omega)
  clear e1 e2 hB0 hz0 hu1 hu2 hv1 hv2 u1 u2 v1 v2
  have HF := Lib.hid hF
  have HT := Lib.hid hT
  clear hF hT
  generalize hmm : minI u v = mm at *
  clear hmm
  generalize hpu : decide (0 ≤ u) = pu at *
  generalize hpv : decide (0 ≤ v) = pv at *
  clear hpu hpv
  obtain ⟨n, hn, hlt⟩ : ∃ n, minI u' v' = n ∧ ((u' < v' ∧ n = u') ∨ (u' = v' ∧ n = u') ∨ (v' < u' ∧ n = v')) := by
    have := minI_cases u' v'
    exact ⟨_, rfl, by omega⟩
  have hn := HN.out n hn.symm
  have Hn := Lib.hid hn
  clear hn
  cases pu
  all_goals
    cases pv
  all_goals
    rcases hlt with ⟨hlt, rfl⟩ | ⟨rfl, rfl⟩ | ⟨hlt, rfl⟩
  all_goals
    go_enter Try.func97, Try.ntmps97
    go_wp2_with fail
    rw [HW.out]
    refine (HF.out _ HB0.out).mono ?_
    rintro e w2 ⟨rfl, hb2⟩
    have g1 := blkN_below hb2 E1.out
    have g2 := blkN_below hb2 E2.out
    have k4 : w2.cell? ⟨w.heap.size + 1, 4, none⟩ = some (.int .i64 x4) := (by rw [Lib.cell_of_heap g2]; rfl);
    have k5 : w2.cell? ⟨w.heap.size + 1, 5, none⟩ = some (.int .i64 x5) := (by rw [Lib.cell_of_heap g2]; rfl)
    have m0 : w2.cell? ⟨w.heap.size, 0, none⟩ = some (.string y0) := (by rw [Lib.cell_of_heap g1]; rfl);
    have m1 : w2.cell? ⟨w.heap.size, 1, none⟩ = some (.int .i64 y1) := (by rw [Lib.cell_of_heap g1]; rfl);
    have m2 : w2.cell? ⟨w.heap.size, 2, none⟩ = some (.int .i64 y2) := (by rw [Lib.cell_of_heap g1]; rfl);
    have m3 : w2.cell? ⟨w.heap.size, 3, none⟩ = some (.int .i64 y3) := (by rw [Lib.cell_of_heap g1]; rfl);
    have m4 : w2.cell? ⟨w.heap.size, 4, none⟩ = some (.int .i64 y4) := (by rw [Lib.cell_of_heap g1]; rfl);
    have m5 : w2.cell? ⟨w.heap.size, 5, none⟩ = some (.int .i64 y5) := (by rw [Lib.cell_of_heap g1]; rfl);
    have m6 : w2.cell? ⟨w.heap.size, 6, none⟩ = some (.slice sa sl sc) := (by rw [Lib.cell_of_heap g1]; rfl)
    have hz2 := hb2.size
    have hl0 : w.heap.size < w2.heap.size := by omega
    have hl1 : w.heap.size + 1 < w2.heap.size := by omega
    have HB2 := Lib.hid (HB0.out.trans (hb2.mono HB0.out.size))
    clear g1 g2 hb2 hz2
    go_wp2_with (refine (HT.out _ HB2.out).mono ?_; rintro e w3 ⟨rfl, hb3⟩; have hb3 := Lib.hid (HB2.out.trans (hb3.mono HB2.out.size)))
    go_ret2
    exact ⟨⟨_, tup HB.out, Hn.out.1, Hn.out.2⟩, hb3.out⟩
set_option maxRecDepth 100000 in
set_option maxHeartbeats 8000000 in
theorem impl_Can (f : CraneF) (s : SV) (l : List Chs) (g : LiftF) (t : SV) (lo hi : Nat) (w : World) (h : Chss lo hi w s.v l) (hok : craneOk f l) (hp1 : Pl g.fx g.fy) (hp2 : Pl g.tx g.ty) (hw : 1 ≤ g.weight) (hh : 0 ≤ g.height ∧ g.height ≤ 2000) :
    Calls Try.prog 74 #[.agg (CraneR.cells ⟨f, s⟩).toArray, .agg (LiftR.cells ⟨g, t⟩).toArray] w fun e w' => e = .returned (.bool (canB f l g)) ∧ Below w.heap.size w w' := by
  have hF := fun w' (hb : Below w.heap.size w w') => impl_ForLoad f s l g t lo hi w' (h.ext hb) hok hp1 hp2
  have hcs := can_cases f l g
  obtain ⟨hf1, hf2⟩ := for_bd hok g
  obtain ⟨hfh1, hfh2⟩ := hok.2.2.1
  obtain ⟨hh1, hh2⟩ := hh
  obtain ⟨sa, sl, sc⟩ := s
  obtain ⟨ta, tl, tc⟩ := t
  obtain ⟨x0, x1, x2, x3, x4, x5, x6, x7⟩ := g
  obtain ⟨y0, y1, y2, y3, y4, y5⟩ := f
  simp only [CraneR.cells, LiftR.cells, SV.v] at *
  clear h hok hp1 hp2
  have hw30 : IntKind.i64.wrap (x6 + 30) = x6 + 30 := IntWalk.i64_in _ (by omega)
  generalize forI ⟨y0, y1, y2, y3, y4, y5⟩ l ⟨x0, x1, x2, x3, x4, x5, x6, x7⟩ = m at *
  obtain ⟨W0, hW, e1, e2, hB0, hz0⟩ := two_boxes w (OC ⟨y0, y1, y2, y3, y4, y5⟩ sa sl sc) (OL ⟨x0, x1, x2, x3, x4, x5, x6, x7⟩ ta tl tc)
  simp only [OC, OL] at hW e1 e2
  have hq0 : w.heap.size < W0.heap.size := by omega
  have hq1 : w.heap.size + 1 < W0.heap.size := by omega
  have HW := Lib.hid hW
  have E1 := Lib.hid e1
  have E2 := Lib.hid e2
  have HB0 := Lib.hid hB0
  have HF := Lib.hid hF
  clear hW e1 e2 hB0 hz0 hF
  by_cases hm : 0 ≤ m
  case neg =>
    obtain ⟨hr, -⟩ : canB ⟨y0, y1, y2, y3, y4, y5⟩ l ⟨x0, x1, x2, x3, x4, x5, x6, x7⟩ = false ∧ True := by
      rcases hcs with ⟨hr, h1⟩ | ⟨hr, h1, h2⟩ | ⟨hr, h1, h2⟩
      · exact ⟨hr, trivial⟩
      · exact ⟨hr, trivial⟩
      · omega
    rw [hr]
    clear hcs hr
    go_enter Try.func74, Try.ntmps74
    go_wp2_with fail
    rw [HW.out]
    refine (HF.out _ HB0.out).mono ?_
    rintro e w2 ⟨⟨n, rfl, hn1, hn2⟩, hb2⟩
    have hdd : decide (0 ≤ m) = false := decide_eq_false (by omega)
    rw [hdd]
    clear hdd hn2
    have hb3 := Lib.hid (HB0.out.trans (hb2.mono HB0.out.size))
    go_wp2
    go_ret
    exact ⟨rfl, hb3.out⟩
  rcases hcs with ⟨hr, h1⟩ | ⟨hr, h1, h2⟩ | ⟨hr, h1, h2⟩
  all_goals
    rw [hr]
    clear hr
    go_enter Try.func74, Try.ntmps74
    go_wp2_with fail
    rw [HW.out]
    refine (HF.out _ HB0.out).mono ?_
    rintro e w2 ⟨⟨n, rfl, hn1, hn2⟩, hb2⟩
    obtain rfl := hn2 hm
    have hdd : decide (0 ≤ n) = true := decide_eq_true hm
    rw [hdd]
    clear hdd hn2
    have hb3 := Lib.hid (HB0.out.trans (hb2.mono HB0.out.size))
    have g1 := blkN_below hb2 E1.out
    have g2 := blkN_below hb2 E2.out
    have k1 : w2.cell? ⟨w.heap.size + 1, 1, none⟩ = some (.int .i64 x1) := (by rw [Lib.cell_of_heap g2]; rfl)
    have k6 : w2.cell? ⟨w.heap.size + 1, 6, none⟩ = some (.int .i64 x6) := (by rw [Lib.cell_of_heap g2]; rfl)
    have m3 : w2.cell? ⟨w.heap.size, 3, none⟩ = some (.int .i64 y3) := (by rw [Lib.cell_of_heap g1]; rfl)
    have hz2 := hb2.size
    have hl0 : w.heap.size < w2.heap.size := by omega
    have hl1 : w.heap.size + 1 < w2.heap.size := by omega
    clear g1 g2 hb2 hz2
    go_wp2
    go_ret
    exact ⟨ret_bool (by first | rfl | exact decide_eq_true (by omega) | exact decide_eq_false (by omega)), hb3.out⟩
end Go.Proofs.Ytdadadiipmenbaa
