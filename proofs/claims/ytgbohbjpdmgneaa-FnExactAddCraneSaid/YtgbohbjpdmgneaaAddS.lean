/- AddCrane, the reference. -/
import Derived.Test.YtgbohbjpdmgneaaAdd
import Derived.Test.YtgbohbjpdmgneaaClimbT
namespace Go.Proofs.Ytgbohbjpdmgneaa
open Go.RowKit
noncomputable def added (L : SiteL) (x : CraneF × List Chs) : SiteL × Int :=
  open Classical in if siteB L = true ∧ craneB x.1 x.2 = true then (if hasNm L x.1.name then ([], 4) else if 6 ≤ L.length then ([], 5) else if nearAny L x.1 then ([], 9) else (L ++ [x], 0)) else ([], 1)
theorem added_cases (L : SiteL) (x : CraneF × List Chs) :
    (siteB L = false ∧ added L x = ([], 1)) ∨ (siteB L = true ∧ craneB x.1 x.2 = false ∧ added L x = ([], 1)) ∨
    (siteB L = true ∧ craneB x.1 x.2 = true ∧ hasNm L x.1.name ∧ added L x = ([], 4)) ∨
    (siteB L = true ∧ craneB x.1 x.2 = true ∧ ¬ hasNm L x.1.name ∧ 6 ≤ L.length ∧ added L x = ([], 5)) ∨
    (siteB L = true ∧ craneB x.1 x.2 = true ∧ ¬ hasNm L x.1.name ∧ ¬ 6 ≤ L.length ∧ nearAny L x.1 ∧ added L x = ([], 9)) ∨
    (siteB L = true ∧ craneB x.1 x.2 = true ∧ ¬ hasNm L x.1.name ∧ ¬ 6 ≤ L.length ∧ ¬ nearAny L x.1 ∧ added L x = (L ++ [x], 0)) := by
  unfold added
  cases h1 : siteB L
  · exact .inl ⟨rfl, if_neg (by simp)⟩
  refine .inr ?_
  cases h2 : craneB x.1 x.2
  · exact .inl ⟨rfl, rfl, if_neg (by simp)⟩
  refine .inr ?_
  rw [if_pos ⟨rfl, rfl⟩]
  by_cases h3 : hasNm L x.1.name
  · exact .inl ⟨rfl, rfl, h3, if_pos h3⟩
  refine .inr ?_
  rw [if_neg h3]
  by_cases h4 : 6 ≤ L.length
  · exact .inl ⟨rfl, rfl, h3, h4, if_pos h4⟩
  refine .inr ?_
  rw [if_neg h4]
  by_cases h5 : nearAny L x.1
  · exact .inl ⟨rfl, rfl, h3, h4, h5, if_pos h5⟩
  · exact .inr ⟨rfl, rfl, h3, h4, h5, if_neg h5⟩
/-- The site with one more crane is valid just where none is near. -/
theorem added_ok {L : SiteL} {x : CraneF × List Chs} (h1 : siteOk L) (h2 : craneOk x.1 x.2) (h3 : ¬ hasNm L x.1.name) (h4 : ¬ 6 ≤ L.length) : siteOk (L ++ [x]) ↔ ¬ nearAny L x.1 := by
  constructor
  · rintro ⟨hrow, -⟩ ⟨i, hi, hn⟩
    have h := (hrow L.length (by simp)).2 i hi
    simp only [List.getElem_append_left hi, List.getElem_concat_length] at h
    have := h.2
    omega
  · intro hn
    refine ⟨fun i hi => ?_, by simp, by simp; omega⟩
    by_cases hlt : i < L.length
    · have h := h1.1 i hlt
      refine ⟨by rw [List.getElem_append_left hlt]; exact h.1, fun j hj => ?_⟩
      rw [List.getElem_append_left hlt, List.getElem_append_left (by omega)]
      exact h.2 j hj
    · have hil : i = L.length := by simp at hi; omega
      subst hil
      refine ⟨by simpa using h2, fun j hj => ?_⟩
      rw [List.getElem_append_left hj]
      simp only [List.getElem_concat_length]
      refine ⟨fun e => h3 ⟨j, hj, e⟩, ?_⟩
      by_cases h : sq4 L[j].1.x L[j].1.y x.1.x x.1.y ≤ 100
      · exact absurd ⟨j, hj, h⟩ hn
      · omega
theorem totM_snoc {φ α : Type} (a p : Nat) (L : List (φ × List α)) (x : φ × List α) : totM a p (L ++ [x]) = totM a p L + (a + x.2.length * p) := by rw [totM_append]; simp [totM]
theorem added_tot (L : SiteL) (x : CraneF × List Chs) (N : Nat) (h : totM 6 2 L + 46 ≤ N) : totM 6 2 (added L x).1 ≤ N := by
  rcases added_cases L x with ⟨_, h0⟩ | ⟨_, _, h0⟩ | ⟨_, _, _, h0⟩ | ⟨_, _, _, _, h0⟩ | ⟨_, _, _, _, _, h0⟩ | ⟨_, h2, _, _, _, h0⟩
  all_goals rw [h0]
  all_goals first
    | (simp [totM]; done)
    | (have h3 := (craneB_iff.1 h2).2.2.2.2.2.1.2.2
       rw [totM_snoc]; omega)
/-- The three boxes that AddCrane begins with: the site, the crane, the result. -/
structure Bx3 (w : World) (a : Option Addr) (n cap : Nat) (cs : List Value) (W : World) : Prop where
  s : Cb w.heap.size W (.slice a n cap)
  c : W.heap[w.heap.size + 1]? = some (.cells cs.toArray 51)
  r : Cb (w.heap.size + 2) W (.slice none 0 0)
theorem Bx3.below {w W W' : World} {a : Option Addr} {n cap B : Nat} {cs : List Value} (h : Bx3 w a n cap cs W) (hb : Below B W W') (hB : w.heap.size + 3 ≤ B) : Bx3 w a n cap cs W' :=
  ⟨h.s.below hb (by omega), (hb.block _ (by omega)).trans h.c, h.r.below hb (by omega)⟩
theorem Bx3.lt {w W : World} {a : Option Addr} {n cap : Nat} {cs : List Value} (h : Bx3 w a n cap cs W) : w.heap.size + 3 ≤ W.heap.size := by have := h.r.lt; omega
theorem Bx3.ext {w W W' : World} {a : Option Addr} {n cap : Nat} {cs : List Value} (h : Bx3 w a n cap cs W) (hb : Below W.heap.size W W') : Bx3 w a n cap cs W' := h.below hb h.lt
theorem Bx3.new (w : World) (a : Option Addr) (n cap : Nat) (cs : List Value) : Bx3 w a n cap cs (((w.alloc (.cells #[.slice a n cap] 37)).alloc (.cells cs.toArray 51)).alloc (.cells #[.slice none 0 0] 37)) := by
  have b1 : Below (w.alloc (.cells #[.slice a n cap] 37)).heap.size (w.alloc (.cells #[.slice a n cap] 37)) (((w.alloc (.cells #[.slice a n cap] 37)).alloc (.cells cs.toArray 51)).alloc (.cells #[.slice none 0 0] 37)) := ((Below.refl _ _).alloc (Nat.le_refl _) _).alloc (by simp) _
  refine ⟨(Cb.new w _ _).ext b1, ?_, ?_⟩
  · rw [show w.heap.size + 1 = (w.alloc (.cells #[.slice a n cap] 37)).heap.size from by simp]
    exact blkN_below ((Below.refl _ _).alloc (Nat.le_refl _) _) (blkN_new _ _)
  · have := Cb.new ((w.alloc (.cells #[.slice a n cap] 37)).alloc (.cells cs.toArray 51)) (.slice none 0 0) 37
    simpa using this
theorem OwnN.far {ρ φ α : Type} {n m : Nat} {c : ρ → List Value} {d : α → List Value} {fl : ρ → φ} {sv : ρ → SV} {lo p o : Nat} {te e t : TypeId} {fz : Nat × Nat} {cs : Array Value} {w : World} {v u : Value} {rs : List ρ} {L : List (φ × List α)} (h : OwnN n c fl sv m d lo te e w v rs L) (hp : w.heap[p]? = some (.cells cs t fz)) (h1 : t ≠ te) (h2 : t ≠ e) : OwnN n c fl sv m d lo te e (w.setCell ⟨p, o, none⟩ u) v rs L := by
  refine ⟨own_keep h.out fun g hg => Below.heap_setCell _ _ _ _ fun e => ?_, h.len, fun i r x hr hx => ⟨(h.row i r x hr hx).1, own_keep (h.row i r x hr hx).2 fun g hg => Below.heap_setCell _ _ _ _ fun e => ?_⟩, h.apart⟩
  · obtain ⟨cur, fz', hc⟩ := h.out.block hg
    dsimp only at e
    rw [e, hp] at hc
    cases hc; exact h1 rfl
  · obtain ⟨cur, fz', hc⟩ := (h.row i r x hr hx).2.block hg
    dsimp only at e
    rw [e, hp] at hc
    cases hc; exact h2 rfl
theorem TS_TK : 37 ≠ 51 := by decide
theorem TS_TC : 37 ≠ 48 := by decide
set_option maxRecDepth 100000 in
set_option maxHeartbeats 8000000 in
theorem spec_AddCrane (s : SV) (rs : List CraneR) (L : SiteL) (lo hi : Nat) (f : CraneF) (sk : SV) (l : List Chs) (lo2 hi2 : Nat) (w : World) (h : Cranes lo hi w s.v rs L) (hwf : L.wf) (hc : Chss lo2 hi2 w sk.v l) (hfw : f.wf ∧ ∀ y ∈ l, y.wf) :
    Calls Try.prog 40 #[.agg #[s.v], .agg (CraneR.cells ⟨f, sk⟩).toArray] w (SiteRes (added L (f, l)) w) := by
  have hln : ∃ a cap, s.v = .slice a L.length cap ∧ L.length ≤ cap ∧ cap ≤ 9223372036854775807 := by obtain ⟨a, cap, hv, hc, _⟩ := h.out; rw [h.len] at hv hc; exact ⟨a, cap, hv, hc⟩
  obtain ⟨a, cap, hsv, hcp⟩ := hln
  rw [hsv] at h ⊢
  clear hsv
  have hbx := Lib.hid (Bx3.new w a L.length cap (CraneR.cells ⟨f, sk⟩))
  obtain ⟨sa2, sl2, sc2⟩ := sk
  have hcs := added_cases L (f, l)
  have hok := fun (h1 : siteOk L) (h2 : craneOk f l) (h3 : ¬ hasNm L f.name) (h4 : ¬ 6 ≤ L.length) => added_ok (x := (f, l)) h1 h2 h3 h4
  obtain ⟨x0, x1, x2, x3, x4, x5⟩ := f
  simp only [CraneR.cells, SV.v] at hbx hc ⊢
  dsimp only at hcs hok
  have hba : Below w.heap.size w (((w.alloc (.cells #[.slice a L.length cap] 37)).alloc (.cells #[.string x0, .int .i64 x1, .int .i64 x2, .int .i64 x3, .int .i64 x4, .int .i64 x5, .slice sa2 sl2 sc2] 51)).alloc (.cells #[.slice none 0 0] 37)) := (((Below.refl _ _).alloc (Nat.le_refl _) _).alloc (by simp) _).alloc (by simp; omega) _
  have hV := Lib.hid (spec_SiteOk w.heap.size (.slice a L.length cap) rs L lo hi _ hbx.out.s.c (h.ext hba) hwf)
  have hK := Lib.hid (fun W (hb : Below w.heap.size w W) (hx : Bx3 w a L.length cap [.string x0, .int .i64 x1, .int .i64 x2, .int .i64 x3, .int .i64 x4, .int .i64 x5, .slice sa2 sl2 sc2] W) => spec_CraneOk (w.heap.size + 1) 0 ⟨x0, x1, x2, x3, x4, x5⟩ (.slice sa2 sl2 sc2) l lo2 hi2 W (fun j u hu => by rw [Lib.cell_of_heap hx.c]; simpa using hu) (hc.ext hb) hfw.1.1)
  have hNm := Lib.hid (fun W (hb : Below w.heap.size w W) (hx : Bx3 w a L.length cap [.string x0, .int .i64 x1, .int .i64 x2, .int .i64 x3, .int .i64 x4, .int .i64 x5, .slice sa2 sl2 sc2] W) => spec_Named4 w.heap.size (.slice a L.length cap) rs L lo hi x0 W hx.s.c (h.ext hb))
  have hCp := Lib.hid (fun (hs : siteOk L) W (hb : Below w.heap.size w W) (hx : Bx3 w a L.length cap [.string x0, .int .i64 x1, .int .i64 x2, .int .i64 x3, .int .i64 x4, .int .i64 x5, .slice sa2 sl2 sc2] W) => spec_Copy w.heap.size (.slice a L.length cap) rs L lo hi W hx.s.c (h.ext hb) hs)
  have hOn := Lib.hid (fun (hk : craneOk ⟨x0, x1, x2, x3, x4, x5⟩ l) W (hb : Below w.heap.size w W) (hx : Bx3 w a L.length cap [.string x0, .int .i64 x1, .int .i64 x2, .int .i64 x3, .int .i64 x4, .int .i64 x5, .slice sa2 sl2 sc2] W) => spec_Own (w.heap.size + 1) 0 ⟨x0, x1, x2, x3, x4, x5⟩ ⟨sa2, sl2, sc2⟩ l lo2 hi2 W (fun j u hu => by rw [Lib.cell_of_heap hx.c]; simpa [CraneR.cells, SV.v] using hu) (hc.ext hb) (by have := hk.2.2.2.2.2.1.2; omega) (by have := hk.2.2.2.2.2.1.2; omega))
  have HW := Lib.hid hwf
  have HFw := Lib.hid hfw
  have hL := hcp.1
  clear h hc hwf hfw
  rcases hcs with ⟨h1, h0⟩ | ⟨h1, h2, h0⟩ | ⟨h1, h2, h3, h0⟩ | ⟨h1, h2, h3, h4, h0⟩ | ⟨h1, h2, h3, h4, h5, h0⟩ | ⟨h1, h2, h3, h4, h5, h0⟩
  · rw [h0]
    rw [h1] at hV
    clear h0 h1 hok hK hNm hCp hOn
    go_enter Try.func40, Try.ntmps40
    go_wp2_with fail
    refine hV.out.mono ?_
    rintro e w1 ⟨rfl, hb1⟩
    have q1 := (hbx.out.ext hb1).r.c
    have f1 := (hbx.out.ext hb1).r.f
    have B1 := hba.trans (hb1.mono hba.size)
    go_wp2
    exact bodyPost_ret (v := .tuple #[.agg #[.slice none 0 0], .int .i64 1]) (by simp [results, Try.results40, go_sem, q1]) rfl ⟨⟨none, 0, 0⟩, [], rfl, nsw_nil, B1.setCell (p := ⟨w.heap.size + 2, 0, none⟩) (show w.heap.size ≤ w.heap.size + 2 by omega) _⟩
  · rw [h0]
    rw [h1] at hV
    clear h0 h1 hok hNm hCp hOn
    go_enter Try.func40, Try.ntmps40
    go_wp2_with fail
    refine hV.out.mono ?_
    rintro e w1 ⟨rfl, hb1⟩
    have hx1 := hbx.out.ext hb1
    have B1 := hba.trans (hb1.mono hba.size)
    go_wp2_with fail
    have hk := hK.out w1 B1 hx1
    rw [h2] at hk
    refine hk.mono ?_
    clear hk
    rintro e w2 ⟨rfl, hb2⟩
    have hx2 := hx1.ext hb2
    have B2 := B1.trans (hb2.mono B1.size)
    clear hb1 hb2 hx1 B1
    have q1 := hx2.r.c
    have f1 := hx2.r.f
    have B1 := B2
    clear hx2
    go_wp2
    exact bodyPost_ret (v := .tuple #[.agg #[.slice none 0 0], .int .i64 1]) (by simp [results, Try.results40, go_sem, q1]) rfl ⟨⟨none, 0, 0⟩, [], rfl, nsw_nil, B1.setCell (p := ⟨w.heap.size + 2, 0, none⟩) (show w.heap.size ≤ w.heap.size + 2 by omega) _⟩
  · rw [h0]
    rw [h1] at hV
    clear h0 h1 hok hCp hOn
    go_enter Try.func40, Try.ntmps40
    go_wp2_with fail
    refine hV.out.mono ?_
    rintro e w1 ⟨rfl, hb1⟩
    have hx1 := hbx.out.ext hb1
    have B1 := hba.trans (hb1.mono hba.size)
    go_wp2_with fail
    have hk := hK.out w1 B1 hx1
    rw [h2] at hk
    refine hk.mono ?_
    clear hk
    rintro e w2 ⟨rfl, hb2⟩
    have hx2 := hx1.ext hb2
    have B2 := B1.trans (hb2.mono B1.size)
    clear hb1 hb2 hx1 B1
    have nm2 : w2.cell? ⟨w.heap.size + 1, 0, none⟩ = some (.string x0) := (Lib.cell_of_heap hx2.c 0).trans rfl
    have hn2 := Lib.hid (hNm.out w2 B2 hx2)
    have hx2 := Lib.hid hx2
    go_wp2_with fail
    refine hn2.out.mono ?_
    clear hn2
    rintro e w2' ⟨⟨r, rfl, hr⟩, rfl⟩
    have hr0 : decide (0 ≤ r) = true := by rcases hr with ⟨_, h⟩ | ⟨h, _⟩; exact h; exact absurd h3 h
    clear hr h3
    have q1 := hx2.out.r.c
    have f1 := hx2.out.r.f
    have B1 := B2
    go_wp2
    exact bodyPost_ret (v := .tuple #[.agg #[.slice none 0 0], .int .i64 4]) (by simp [results, Try.results40, go_sem, q1]) rfl ⟨⟨none, 0, 0⟩, [], rfl, nsw_nil, B1.setCell (p := ⟨w.heap.size + 2, 0, none⟩) (show w.heap.size ≤ w.heap.size + 2 by omega) _⟩
  · rw [h0]
    rw [h1] at hV
    clear h0 h1 hok hCp hOn
    go_enter Try.func40, Try.ntmps40
    go_wp2_with fail
    refine hV.out.mono ?_
    rintro e w1 ⟨rfl, hb1⟩
    have hx1 := hbx.out.ext hb1
    have B1 := hba.trans (hb1.mono hba.size)
    go_wp2_with fail
    have hk := hK.out w1 B1 hx1
    rw [h2] at hk
    refine hk.mono ?_
    clear hk
    rintro e w2 ⟨rfl, hb2⟩
    have hx2 := hx1.ext hb2
    have B2 := B1.trans (hb2.mono B1.size)
    clear hb1 hb2 hx1 B1
    have nm2 : w2.cell? ⟨w.heap.size + 1, 0, none⟩ = some (.string x0) := (Lib.cell_of_heap hx2.c 0).trans rfl
    have hn2 := Lib.hid (hNm.out w2 B2 hx2)
    have hx2 := Lib.hid hx2
    go_wp2_with fail
    refine hn2.out.mono ?_
    clear hn2
    rintro e w2' ⟨⟨r, rfl, hr⟩, rfl⟩
    have hr0 : decide (0 ≤ r) = false := by rcases hr with ⟨h, _⟩ | ⟨_, h⟩; exact absurd h h3; exact h
    clear hr h3
    have q1 := hx2.out.r.c
    have f1 := hx2.out.r.f
    have s1 := hx2.out.s.c
    have B1 := B2
    have hl6 : decide ((6 : Int) ≤ (L.length : Int)) = true := decide_eq_true (by omega)
    go_wp2
    exact bodyPost_ret (v := .tuple #[.agg #[.slice none 0 0], .int .i64 5]) (by simp [results, Try.results40, go_sem, q1]) rfl ⟨⟨none, 0, 0⟩, [], rfl, nsw_nil, B1.setCell (p := ⟨w.heap.size + 2, 0, none⟩) (show w.heap.size ≤ w.heap.size + 2 by omega) _⟩
  · rw [h0]
    rw [h1] at hV
    have hk2 := craneB_iff.1 h2
    have hs1 := siteB_iff.1 h1
    have hnew := siteB_f (L := L ++ [((⟨x0, x1, x2, x3, x4, x5⟩ : CraneF), l)]) (fun h => (hok hs1 hk2 h3 h4).1 h h5)
    have hCp := Lib.hid (hCp.out hs1)
    have hOn := Lib.hid (hOn.out hk2)
    clear h0 h1 hok h5 hk2 hs1
    go_enter Try.func40, Try.ntmps40
    go_wp2_with fail
    refine hV.out.mono ?_
    rintro e w1 ⟨rfl, hb1⟩
    have hx1 := hbx.out.ext hb1
    have B1 := hba.trans (hb1.mono hba.size)
    go_wp2_with fail
    have hk := hK.out w1 B1 hx1
    rw [h2] at hk
    refine hk.mono ?_
    clear hk
    rintro e w2 ⟨rfl, hb2⟩
    have hx2 := hx1.ext hb2
    have B2 := B1.trans (hb2.mono B1.size)
    clear hb1 hb2 hx1 B1
    have nm2 : w2.cell? ⟨w.heap.size + 1, 0, none⟩ = some (.string x0) := (Lib.cell_of_heap hx2.c 0).trans rfl
    have hn2 := Lib.hid (hNm.out w2 B2 hx2)
    have hx2 := Lib.hid hx2
    go_wp2_with fail
    refine hn2.out.mono ?_
    clear hn2
    rintro e w2' ⟨⟨r, rfl, hr⟩, rfl⟩
    have hr0 : decide (0 ≤ r) = false := by rcases hr with ⟨h, _⟩ | ⟨_, h⟩; exact absurd h h3; exact h
    clear hr h3
    have s1 := hx2.out.s.c
    have hl6 : decide ((6 : Int) ≤ (L.length : Int)) = false := decide_eq_false (by omega)
    have hw2 := hx2.out.lt
    go_wp2_with fail
    refine (hCp.out w2 B2 hx2.out).mono ?_
    rintro e w3 ⟨⟨ta, tl, tc⟩, rk, rfl, hO, hb3⟩
    simp only [SV.v] at hO ⊢
    have hx3 := hx2.out.ext hb3
    have B3 := B2.trans (hb3.mono B2.size)
    have hal : Below w3.heap.size w3 (w3.alloc (.cells #[.slice ta tl tc] 37)) := (Below.refl _ _).alloc (Nat.le_refl _) _
    have hO3 := Lib.hid (hO.below hal)
    have hx3a := Lib.hid (hx3.ext hal)
    have hy3 := Lib.hid (blkN_new w3 (.cells #[.slice ta tl tc] 37))
    have B3a := B3.trans (hal.mono B3.size)
    have hw3 := hb3.size
    have d3 : (w3.alloc (.cells #[.slice ta tl tc] 37)).drew.cell? ⟨w3.heap.size, 0, none⟩ = some (.slice ta tl tc) := (Lib.cell_of_heap hy3.out 0).trans rfl
    have hrl : rk.length ≤ 6 := by rw [hO.len]; omega
    have z3 : (w3.alloc (.cells #[.slice ta tl tc] 37)).heap.size = w3.heap.size + 1 := by simp
    clear hO hb3 hx3 hal s1 hx2 B3
    go_wp2_with fail
    refine region_ph 4 (fun _ => True) (fun w' => w'.cell? ⟨w3.heap.size, 0, none⟩ = some (.slice ta tl tc)) (by kernel_rfl) trivial d3 (fun hp => ?_)
    refine take_ph 25 (i := 0) rfl rfl (by decide) (by kernel_rfl) (by kernel_rfl) (by kernel_rfl) (fun _ _ _ h => h) (by rfl) (fun w hSw => by (try dsimp only at hSw); go_simp; first | done | with_reducible rfl) hp (fun hp => ?_)
    try simp only [Act.put, List.setIfInBounds_toArray, List.set_cons_zero, List.set_cons_succ]
    refine take_ph1 26 (i := 1) rfl rfl (by decide) (by rfl) (by kernel_rfl) (by kernel_rfl) (by kernel_rfl) (by kernel_rfl) (fun _ _ _ h => h) (by rfl) (fun w hSw hBw => by (try dsimp only at hSw hBw); go_simp; first | done | with_reducible rfl) hp (fun hp => ?_)
    try simp only [Act.put, List.setIfInBounds_toArray, List.set_cons_zero, List.set_cons_succ]
    refine AnyL.one (i := 2) (by kernel_rfl) rfl (fun K hK => ?_)
    go_simp
    refine (hOn.out _ B3a.drew (hx3a.out.ext ((Below.refl _ _).drew))).mono ?_
    rintro e w4 ⟨⟨tb, tm, td⟩, rfl, hown4, hb4⟩
    have b4 : Below (w3.alloc (.cells #[.slice ta tl tc] 37)).heap.size (w3.alloc (.cells #[.slice ta tl tc] 37)) w4 := (Below.refl _ _).drew.trans hb4
    have Hown4 := Lib.hid (show Own 2 Chs.cells (w3.alloc (.cells #[.slice ta tl tc] 37)).heap.size 48 w4 _ _ from hown4)
    clear hown4 hb4
    simp only [CraneR.cells, SV.v]
    have hx4 := Lib.hid (hx3a.out.ext b4)
    have hy4 := Lib.hid (blkN_below b4 hy3.out)
    have d4 : w4.cell? ⟨w3.heap.size, 0, none⟩ = some (.slice ta tl tc) := (Lib.cell_of_heap hy4.out 0).trans rfl
    have hw4 := b4.size
    have B4 := B3a.trans (b4.mono B3a.size)
    go_wp2_with fail
    refine hK.out _ _ (ph1 trivial d4) (fun hp => ?_)
    clear hK
    try simp only [Act.put, List.setIfInBounds_toArray, List.set_cons_zero, List.set_cons_succ]
    refine AnyL.one (i := 3) (by kernel_rfl) rfl (fun K hK => ?_)
    go_simp
    refine hK.out _ _ (ph1 trivial (by rw [World.cell?_alloc_lt _ _ _ (show w3.heap.size < _ by omega)]; exact d4)) (fun hp => ?_)
    clear hK
    try simp only [Act.put, List.setIfInBounds_toArray, List.set_cons_zero, List.set_cons_succ]
    refine AnyL.one (i := 4) (by kernel_rfl) rfl (fun K hK => ?_)
    refine step_app1 (c := CraneR.cells) (bytes := 80) rfl _ _ 35 51 rfl Try.underlying35 info_impl_Crane (by omega) CraneR.len CraneR.one w2.heap.size rk ⟨⟨x0, x1, x2, x3, x4, x5⟩, ⟨tb, tm, td⟩⟩ (.slice ta tl tc) rfl w4 rfl (hO3.out.out.below b4) rfl (by omega) (by omega) (by omega) ?_
    intro v' w5 hown5 hg5
    have b5 : Below w2.heap.size w4 w5 := (hO3.out.out.below b4).app (Below.refl _ _) (Nat.le_refl _) (by omega) hg5
    have hw5 := b5.size
    have hN5 := Lib.hid (hO3.out.push (r := ⟨⟨x0, x1, x2, x3, x4, x5⟩, ⟨tb, tm, td⟩⟩) (x := (⟨x0, x1, x2, x3, x4, x5⟩, l)) TK_TC (by omega) b4 rfl Hown4.out hown5 hg5)
    have hy5 := Lib.hid (grown_block (hO3.out.out.below b4) hy4.out TS_TK hg5)
    obtain ⟨va, vc, rfl⟩ := own_sv hown5
    have hx5 := Lib.hid (hx4.out.below b5 (by omega))
    generalize (rk ++ [(⟨⟨x0, x1, x2, x3, x4, x5⟩, ⟨tb, tm, td⟩⟩ : CraneR)]) = rk5 at *
    generalize rk5.length = q5 at *
    have B5 := B4.trans (b5.mono (by omega))
    have d5 : w5.cell? ⟨w3.heap.size, 0, none⟩ = some (.slice ta tl tc) := (Lib.cell_of_heap hy5.out 0).trans rfl
    have df5 : ∀ j, w5.frozen? ⟨w3.heap.size, j, none⟩ = false := fun j => Lib.frozen_of_heap hy5.out j
    refine hK.out _ _ (ph2 rfl trivial) (fun hp => ?_)
    clear hK
    try simp only [Act.put, List.setIfInBounds_toArray]
    refine take_ph 30 (i := 5) rfl rfl (by decide) (by kernel_rfl) (by kernel_rfl) (by kernel_rfl) (fun _ _ _ h => h) (by rfl) (fun w hSw => by (try dsimp only at hSw); go_simp; first | done | with_reducible rfl) hp (fun hp => ?_)
    try simp only [Act.put]
    refine AnyL.one (i := 6) (by kernel_rfl) rfl (fun K hK => ?_)
    go_simp
    refine hK.out _ _ (ph2 rfl trivial) (fun hp => ?_)
    clear hK
    refine AnyL.done (by kernel_rfl) ?_ _
    have hN6 := Lib.hid (hN5.out.far (o := 0) (u := .slice va q5 vc) hy5.out TS_TK TS_TC)
    have e6 : (w5.setCell ⟨w3.heap.size, 0, none⟩ (.slice va q5 vc)).cell? ⟨w3.heap.size, 0, none⟩ = some (.slice va q5 vc) := World.cell?_setCell_same _ _ _ d5
    have m6 : Mod w3.heap.size (w3.heap.size + 1) w5 (w5.setCell ⟨w3.heap.size, 0, none⟩ (.slice va q5 vc)) := (Mod.refl _ _ _).setCell (p := ⟨w3.heap.size, 0, none⟩) (Nat.le_refl _) (Nat.lt_succ_self _) _
    have hx6 := Lib.hid (hx5.out.below (m6.below (B := w2.heap.size) (by omega) (by omega)) (by omega))
    have B6 := B5.setCell (p := ⟨w3.heap.size, 0, none⟩) (show w.heap.size ≤ w3.heap.size by omega) (.slice va q5 vc)
    have hz6 : (w5.setCell ⟨w3.heap.size, 0, none⟩ (.slice va q5 vc)).heap.size = w5.heap.size := by simp
    have hw6 : w2.heap.size ≤ w5.heap.size := by have := b5.size; omega
    clear hN5 hx5 B5 m6 hx4 hy4 hy5 d4 d5 d3 hg5 hown5
    generalize (w5.setCell ⟨w3.heap.size, 0, none⟩ (.slice va q5 vc)) = w6 at *
    have hN6w := Lib.hid (hN6.out.w CraneR.len Chs.len TK_TC)
    have hSt := Lib.hid (spec_SiteOk w3.heap.size (.slice va q5 vc) rk5 _ _ _ w6 e6 hN6w.out.r (fun x hx => by
      rcases List.mem_append.1 hx with h | h
      · exact HW.out x h
      · simp at h; subst h; exact HFw.out))
    rw [hnew] at hSt
    go_wp2_with fail
    refine hSt.out.mono ?_
    rintro e w7 ⟨rfl, hb7⟩
    have hx7 := hx6.out.ext hb7
    have q1 := hx7.r.c
    have f1 := hx7.r.f
    have B1 := B6.trans (hb7.mono B6.size)
    go_wp2
    exact bodyPost_ret (v := .tuple #[.agg #[.slice none 0 0], .int .i64 9]) (by simp [results, Try.results40, go_sem, q1]) rfl ⟨⟨none, 0, 0⟩, [], rfl, nsw_nil, B1.setCell (p := ⟨w.heap.size + 2, 0, none⟩) (show w.heap.size ≤ w.heap.size + 2 by omega) _⟩
  · rw [h0]
    rw [h1] at hV
    have hk2 := craneB_iff.1 h2
    have hs1 := siteB_iff.1 h1
    have hnew := siteB_t (L := L ++ [((⟨x0, x1, x2, x3, x4, x5⟩ : CraneF), l)]) ((hok hs1 hk2 h3 h4).2 h5)
    have hCp := Lib.hid (hCp.out hs1)
    have hOn := Lib.hid (hOn.out hk2)
    clear h0 h1 hok h5 hk2 hs1
    go_enter Try.func40, Try.ntmps40
    go_wp2_with fail
    refine hV.out.mono ?_
    rintro e w1 ⟨rfl, hb1⟩
    have hx1 := hbx.out.ext hb1
    have B1 := hba.trans (hb1.mono hba.size)
    go_wp2_with fail
    have hk := hK.out w1 B1 hx1
    rw [h2] at hk
    refine hk.mono ?_
    clear hk
    rintro e w2 ⟨rfl, hb2⟩
    have hx2 := hx1.ext hb2
    have B2 := B1.trans (hb2.mono B1.size)
    clear hb1 hb2 hx1 B1
    have nm2 : w2.cell? ⟨w.heap.size + 1, 0, none⟩ = some (.string x0) := (Lib.cell_of_heap hx2.c 0).trans rfl
    have hn2 := Lib.hid (hNm.out w2 B2 hx2)
    have hx2 := Lib.hid hx2
    go_wp2_with fail
    refine hn2.out.mono ?_
    clear hn2
    rintro e w2' ⟨⟨r, rfl, hr⟩, rfl⟩
    have hr0 : decide (0 ≤ r) = false := by rcases hr with ⟨h, _⟩ | ⟨_, h⟩; exact absurd h h3; exact h
    clear hr h3
    have s1 := hx2.out.s.c
    have hl6 : decide ((6 : Int) ≤ (L.length : Int)) = false := decide_eq_false (by omega)
    have hw2 := hx2.out.lt
    go_wp2_with fail
    refine (hCp.out w2 B2 hx2.out).mono ?_
    rintro e w3 ⟨⟨ta, tl, tc⟩, rk, rfl, hO, hb3⟩
    simp only [SV.v] at hO ⊢
    have hx3 := hx2.out.ext hb3
    have B3 := B2.trans (hb3.mono B2.size)
    have hal : Below w3.heap.size w3 (w3.alloc (.cells #[.slice ta tl tc] 37)) := (Below.refl _ _).alloc (Nat.le_refl _) _
    have hO3 := Lib.hid (hO.below hal)
    have hx3a := Lib.hid (hx3.ext hal)
    have hy3 := Lib.hid (blkN_new w3 (.cells #[.slice ta tl tc] 37))
    have B3a := B3.trans (hal.mono B3.size)
    have hw3 := hb3.size
    have d3 : (w3.alloc (.cells #[.slice ta tl tc] 37)).drew.cell? ⟨w3.heap.size, 0, none⟩ = some (.slice ta tl tc) := (Lib.cell_of_heap hy3.out 0).trans rfl
    have hrl : rk.length ≤ 6 := by rw [hO.len]; omega
    have z3 : (w3.alloc (.cells #[.slice ta tl tc] 37)).heap.size = w3.heap.size + 1 := by simp
    clear hO hb3 hx3 hal s1 hx2 B3
    go_wp2_with fail
    refine region_ph 4 (fun _ => True) (fun w' => w'.cell? ⟨w3.heap.size, 0, none⟩ = some (.slice ta tl tc)) (by kernel_rfl) trivial d3 (fun hp => ?_)
    refine take_ph 25 (i := 0) rfl rfl (by decide) (by kernel_rfl) (by kernel_rfl) (by kernel_rfl) (fun _ _ _ h => h) (by rfl) (fun w hSw => by (try dsimp only at hSw); go_simp; first | done | with_reducible rfl) hp (fun hp => ?_)
    try simp only [Act.put, List.setIfInBounds_toArray, List.set_cons_zero, List.set_cons_succ]
    refine take_ph1 26 (i := 1) rfl rfl (by decide) (by rfl) (by kernel_rfl) (by kernel_rfl) (by kernel_rfl) (by kernel_rfl) (fun _ _ _ h => h) (by rfl) (fun w hSw hBw => by (try dsimp only at hSw hBw); go_simp; first | done | with_reducible rfl) hp (fun hp => ?_)
    try simp only [Act.put, List.setIfInBounds_toArray, List.set_cons_zero, List.set_cons_succ]
    refine AnyL.one (i := 2) (by kernel_rfl) rfl (fun K hK => ?_)
    go_simp
    refine (hOn.out _ B3a.drew (hx3a.out.ext ((Below.refl _ _).drew))).mono ?_
    rintro e w4 ⟨⟨tb, tm, td⟩, rfl, hown4, hb4⟩
    have b4 : Below (w3.alloc (.cells #[.slice ta tl tc] 37)).heap.size (w3.alloc (.cells #[.slice ta tl tc] 37)) w4 := (Below.refl _ _).drew.trans hb4
    have Hown4 := Lib.hid (show Own 2 Chs.cells (w3.alloc (.cells #[.slice ta tl tc] 37)).heap.size 48 w4 _ _ from hown4)
    clear hown4 hb4
    simp only [CraneR.cells, SV.v]
    have hx4 := Lib.hid (hx3a.out.ext b4)
    have hy4 := Lib.hid (blkN_below b4 hy3.out)
    have d4 : w4.cell? ⟨w3.heap.size, 0, none⟩ = some (.slice ta tl tc) := (Lib.cell_of_heap hy4.out 0).trans rfl
    have hw4 := b4.size
    have B4 := B3a.trans (b4.mono B3a.size)
    go_wp2_with fail
    refine hK.out _ _ (ph1 trivial d4) (fun hp => ?_)
    clear hK
    try simp only [Act.put, List.setIfInBounds_toArray, List.set_cons_zero, List.set_cons_succ]
    refine AnyL.one (i := 3) (by kernel_rfl) rfl (fun K hK => ?_)
    go_simp
    refine hK.out _ _ (ph1 trivial (by rw [World.cell?_alloc_lt _ _ _ (show w3.heap.size < _ by omega)]; exact d4)) (fun hp => ?_)
    clear hK
    try simp only [Act.put, List.setIfInBounds_toArray, List.set_cons_zero, List.set_cons_succ]
    refine AnyL.one (i := 4) (by kernel_rfl) rfl (fun K hK => ?_)
    refine step_app1 (c := CraneR.cells) (bytes := 80) rfl _ _ 35 51 rfl Try.underlying35 info_impl_Crane (by omega) CraneR.len CraneR.one w2.heap.size rk ⟨⟨x0, x1, x2, x3, x4, x5⟩, ⟨tb, tm, td⟩⟩ (.slice ta tl tc) rfl w4 rfl (hO3.out.out.below b4) rfl (by omega) (by omega) (by omega) ?_
    intro v' w5 hown5 hg5
    have b5 : Below w2.heap.size w4 w5 := (hO3.out.out.below b4).app (Below.refl _ _) (Nat.le_refl _) (by omega) hg5
    have hw5 := b5.size
    have hN5 := Lib.hid (hO3.out.push (r := ⟨⟨x0, x1, x2, x3, x4, x5⟩, ⟨tb, tm, td⟩⟩) (x := (⟨x0, x1, x2, x3, x4, x5⟩, l)) TK_TC (by omega) b4 rfl Hown4.out hown5 hg5)
    have hy5 := Lib.hid (grown_block (hO3.out.out.below b4) hy4.out TS_TK hg5)
    obtain ⟨va, vc, rfl⟩ := own_sv hown5
    have hx5 := Lib.hid (hx4.out.below b5 (by omega))
    generalize (rk ++ [(⟨⟨x0, x1, x2, x3, x4, x5⟩, ⟨tb, tm, td⟩⟩ : CraneR)]) = rk5 at *
    generalize rk5.length = q5 at *
    have B5 := B4.trans (b5.mono (by omega))
    have d5 : w5.cell? ⟨w3.heap.size, 0, none⟩ = some (.slice ta tl tc) := (Lib.cell_of_heap hy5.out 0).trans rfl
    have df5 : ∀ j, w5.frozen? ⟨w3.heap.size, j, none⟩ = false := fun j => Lib.frozen_of_heap hy5.out j
    refine hK.out _ _ (ph2 rfl trivial) (fun hp => ?_)
    clear hK
    try simp only [Act.put, List.setIfInBounds_toArray]
    refine take_ph 30 (i := 5) rfl rfl (by decide) (by kernel_rfl) (by kernel_rfl) (by kernel_rfl) (fun _ _ _ h => h) (by rfl) (fun w hSw => by (try dsimp only at hSw); go_simp; first | done | with_reducible rfl) hp (fun hp => ?_)
    try simp only [Act.put]
    refine AnyL.one (i := 6) (by kernel_rfl) rfl (fun K hK => ?_)
    go_simp
    refine hK.out _ _ (ph2 rfl trivial) (fun hp => ?_)
    clear hK
    refine AnyL.done (by kernel_rfl) ?_ _
    have hN6 := Lib.hid (hN5.out.far (o := 0) (u := .slice va q5 vc) hy5.out TS_TK TS_TC)
    have e6 : (w5.setCell ⟨w3.heap.size, 0, none⟩ (.slice va q5 vc)).cell? ⟨w3.heap.size, 0, none⟩ = some (.slice va q5 vc) := World.cell?_setCell_same _ _ _ d5
    have m6 : Mod w3.heap.size (w3.heap.size + 1) w5 (w5.setCell ⟨w3.heap.size, 0, none⟩ (.slice va q5 vc)) := (Mod.refl _ _ _).setCell (p := ⟨w3.heap.size, 0, none⟩) (Nat.le_refl _) (Nat.lt_succ_self _) _
    have hx6 := Lib.hid (hx5.out.below (m6.below (B := w2.heap.size) (by omega) (by omega)) (by omega))
    have B6 := B5.setCell (p := ⟨w3.heap.size, 0, none⟩) (show w.heap.size ≤ w3.heap.size by omega) (.slice va q5 vc)
    have hz6 : (w5.setCell ⟨w3.heap.size, 0, none⟩ (.slice va q5 vc)).heap.size = w5.heap.size := by simp
    have hw6 : w2.heap.size ≤ w5.heap.size := by have := b5.size; omega
    clear hN5 hx5 B5 m6 hx4 hy4 hy5 d4 d5 d3 hg5 hown5
    generalize (w5.setCell ⟨w3.heap.size, 0, none⟩ (.slice va q5 vc)) = w6 at *
    have hN6w := Lib.hid (hN6.out.w CraneR.len Chs.len TK_TC)
    have hSt := Lib.hid (spec_SiteOk w3.heap.size (.slice va q5 vc) rk5 _ _ _ w6 e6 hN6w.out.r (fun x hx => by
      rcases List.mem_append.1 hx with h | h
      · exact HW.out x h
      · simp at h; subst h; exact HFw.out))
    rw [hnew] at hSt
    go_wp2_with fail
    refine hSt.out.mono ?_
    rintro e w7 ⟨rfl, hb7⟩
    have hx7 := hx6.out.ext hb7
    have q1 := hx7.r.c
    have f1 := hx7.r.f
    have B1 := B6.trans (hb7.mono B6.size)
    have e7 := (hb7.cell (p := ⟨w3.heap.size, 0, none⟩) (show w3.heap.size < w6.heap.size by omega)).trans e6
    have hN7 := hN6w.out.ext (Nat.le_refl _) hb7
    have hN8 := Lib.hid ((hN7.keep ((show Mod (w.heap.size + 2) (w.heap.size + 3) w7 (w7.setCell ⟨w.heap.size + 2, 0, none⟩ (.slice va q5 vc)) from (Mod.refl _ _ _).setCell (p := ⟨w.heap.size + 2, 0, none⟩) (Nat.le_refl _) (Nat.lt_succ_self _) _).same hb7.size (.inr (by omega)))).widen (lo' := w.heap.size) (hi' := (w7.setCell ⟨w.heap.size + 2, 0, none⟩ (.slice va q5 vc)).heap.size) (by omega) (by have := hb7.size; simp; omega))
    go_wp2
    exact bodyPost_ret (v := .tuple #[.agg #[.slice va q5 vc], .int .i64 0]) (by simp [results, Try.results40, go_sem, q1]) rfl ⟨⟨va, q5, vc⟩, rk5, rfl, hN8.out, B1.setCell (p := ⟨w.heap.size + 2, 0, none⟩) (show w.heap.size ≤ w.heap.size + 2 by omega) _⟩
end Go.Proofs.Ytgbohbjpdmgneaa
