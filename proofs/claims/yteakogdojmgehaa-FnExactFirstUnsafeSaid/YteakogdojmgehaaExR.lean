/- The reference's explorer: its beginning, and its run. -/
import Derived.Test.YteakogdojmgehaaExS
import Derived.Test.YteakogdojmgehaaExU
import Derived.Test.YteakogdojmgehaaExA
import Derived.Handy
namespace Go.Proofs.Yteakogdojmgehaa
open Go.RowKit
/-- The explorer with all that it has found. -/
def XSt (sb p : Nat) (tv : Value) (v : Wtc) (l : List Vis) (w : World) (Fs : Nat → Prop) : Prop :=
  ∃ wv fv bv f, XIn sb p tv wv fv bv v (worldsV l) (l.map Vis.from_) (l.map Vis.act) f w ∧ SeenF v (worldsV l) f ∧ ∀ k, Fs k → Far sb p wv fv bv w k
theorem info_boolX : (Try.prog.info? 4).map (fun i => (i.zero, i.size, i.bytes)) = some (some (.bool false), 1, 1) := by kernel_rfl
theorem make_seenN (n : Nat) (hn : n ≤ 1000000) : ∃ cs : Array Value, (∀ w : World, (Instr.makeSlice 78 (.int .i64 (n : Int)) (.int .i64 (n : Int))).run Try.prog w = .ok (.slice (some ⟨w.heap.size, 0, none⟩) n n) (w.alloc (.cells cs 4))) ∧ cs.size = n ∧ ∀ i, i < n → cs[i]? = some (.bool false) :=
  ⟨madeCells #[.bool false] n, fun w => run_make_row' (P := Try.prog) 78 4 (.bool false) 1 Try.underlying78 info_boolX rfl .i64 .i64 n (by omega) (by omega) w, size_madeCells _ _, fun i hi => by simp [madeCells, hi, Nat.mod_one]⟩
theorem make_seen : ∃ cs : Array Value, (∀ w : World, (Instr.makeSlice 78 (.int .i64 20736) (.int .i64 20736)).run Try.prog w = .ok (.slice (some ⟨w.heap.size, 0, none⟩) 20736 20736) (w.alloc (.cells cs 4))) ∧ cs.size = 20736 ∧ ∀ i, i < 20736 → cs[i]? = some (.bool false) :=
  make_seenN 20736 (by omega)
theorem seen_nil (v : Wtc) : SeenF v [] (fun _ => .bool false) := fun y _ => by rw [decide_eq_false (by simp)]
set_option maxRecDepth 100000 in
set_option maxHeartbeats 8000000 in
theorem spec_New (ta : Option Addr) (tn tc : Nat) (v : Wtc) (x : Wld) (w : World) (hx : x.ok v) :
    Calls Try.prog 75 #[.slice ta tn tc, .agg v.cells.toArray, .agg x.cells.toArray] w fun e w' => ∃ sb p, e = .returned (.pointer (some ⟨p, 0, none⟩)) ∧ w.heap.size ≤ sb ∧ XSt sb p (.slice ta tn tc) v [⟨x, -1, zeroA⟩] w' (fun _ => False) ∧ Below w.heap.size w w' := by
  obtain ⟨cs, hmake, hcs, hcv⟩ := make_seen
  have Hcs := Lib.hid (And.intro hcs hcv)
  clear hcs hcv
  have HA := Lib.hid (fun sb p wv fv bv f w h hs => spec_add_new sb p (.slice ta tn tc) wv fv bv v [] [] [] f x (-1) zeroA w h hs hx (by simp) (by simp) rfl rfl)
  obtain ⟨m, t⟩ := v
  obtain ⟨xa, xb, xs, xt, ga, gb⟩ := x
  simp only [Wtc.cells, Wld.cells, Act1.cells, zeroA] at *
  go_enter Try.func75, Try.ntmps75
  go_wp2_with fail
  have a0 := blk_below' ((Below.refl _ _).alloc (Nat.le_refl _) (.cells #[.int .i64 xa, .int .i64 xb, .int .i64 xs, .int .i64 xt, .int .i64 ga, .int .i64 gb] 55)) (blk_new w (.cells #[.int .i64 m, .int .i64 t] 53))
  have a1 := blk_new (w.alloc (.cells #[.int .i64 m, .int .i64 t] 53)) (.cells #[.int .i64 xa, .int .i64 xb, .int .i64 xs, .int .i64 xt, .int .i64 ga, .int .i64 gb] 55)
  rw [World.size_alloc] at a1
  have B1 : Below w.heap.size w ((w.alloc (.cells #[.int .i64 m, .int .i64 t] 53)).alloc (.cells #[.int .i64 xa, .int .i64 xb, .int .i64 xs, .int .i64 xt, .int .i64 ga, .int .i64 gb] 55)) := ((Below.refl _ _).alloc (Nat.le_refl _) _).alloc (by simp) _
  generalize ((w.alloc (.cells #[.int .i64 m, .int .i64 t] 53)).alloc (.cells #[.int .i64 xa, .int .i64 xb, .int .i64 xs, .int .i64 xt, .int .i64 ga, .int .i64 gb] 55)) = W1 at *
  have c0 : W1.cell? ⟨w.heap.size, 0, none⟩ = some _ := (Lib.cell_of_heap a0 0).trans rfl
  have c1 : W1.cell? ⟨w.heap.size, 1, none⟩ = some _ := (Lib.cell_of_heap a0 1).trans rfl
  have z0 := (Array.getElem?_eq_some_iff.1 a0).1
  have z1 := (Array.getElem?_eq_some_iff.1 a1).1
  have A1 := Lib.hid a1
  have BB1 := Lib.hid B1
  clear a0 a1 B1
  go_region_held3 (fun w' => (∀ b' o', b' < W1.heap.size → w'.cell? ⟨b', o', none⟩ = W1.cell? ⟨b', o', none⟩) ∧ Below W1.heap.size W1 w') (first | (refine heldB ?_; go_grown; done)) (fail)
  rename_i hHeld
  have I0 : XIn W1.heap.size (W1.heap.size + 1) (.slice ta tn tc) (.slice none 0 0) (.slice none 0 0) (.slice none 0 0) ⟨m, t⟩ [] [] [] (fun _ => .bool false) ((W1.alloc (.cells cs 4)).alloc (.cells #[.slice ta tn tc, .int .i64 m, .int .i64 t, .slice none 0 0, .slice none 0 0, .slice none 0 0, .slice (some ⟨W1.heap.size, 0, none⟩) 20736 20736] 103)).drew := by
    have e1 := blk_new W1 (.cells cs 4)
    have e2 := blk_new (W1.alloc (.cells cs 4)) (.cells #[.slice ta tn tc, .int .i64 m, .int .i64 t, .slice none 0 0, .slice none 0 0, .slice none 0 0, .slice (some ⟨W1.heap.size, 0, none⟩) 20736 20736] 103)
    rw [World.size_alloc] at e2
    exact ⟨Nat.lt_succ_self _, e2, World.ownsRow_nil _ _ _ _, World.ownsRow_nil _ _ _ _, World.ownsRow_nil _ _ _ _, ⟨cs, blk_below' ((Below.refl _ _).alloc (Nat.le_refl _) _).drew e1, Hcs.out.1, Hcs.out.2⟩⟩
  have B2 := BB1.out.trans (hHeld.2.mono BB1.out.size)
  have a1 := (hHeld.2.block _ z1).trans A1.out
  generalize ((W1.alloc (.cells cs 4)).alloc (.cells #[.slice ta tn tc, .int .i64 m, .int .i64 t, .slice none 0 0, .slice none 0 0, .slice none 0 0, .slice (some ⟨W1.heap.size, 0, none⟩) 20736 20736] 103)).drew = W2 at *
  have d0 : W2.cell? ⟨w.heap.size + 1, 0, none⟩ = some _ := (Lib.cell_of_heap a1 0).trans rfl
  have d1 : W2.cell? ⟨w.heap.size + 1, 1, none⟩ = some _ := (Lib.cell_of_heap a1 1).trans rfl
  have d2 : W2.cell? ⟨w.heap.size + 1, 2, none⟩ = some _ := (Lib.cell_of_heap a1 2).trans rfl
  have d3 : W2.cell? ⟨w.heap.size + 1, 3, none⟩ = some _ := (Lib.cell_of_heap a1 3).trans rfl
  have d4 : W2.cell? ⟨w.heap.size + 1, 4, none⟩ = some _ := (Lib.cell_of_heap a1 4).trans rfl
  have d5 : W2.cell? ⟨w.heap.size + 1, 5, none⟩ = some _ := (Lib.cell_of_heap a1 5).trans rfl
  have I0 := Lib.hid I0
  have BB2 := Lib.hid B2
  have hsz := BB1.out.size
  clear hHeld a1 B2 c0 c1
  go_wp2_with fail
  refine (HA.out _ _ _ _ _ _ _ I0.out (seen_nil _)).mono ?_
  rintro e W3 ⟨rfl, wv, fv, bv, f, I3, hs3, -, B3⟩
  have R := Lib.hid (⟨wv, fv, bv, f, I3, hs3, fun k hk => hk.elim⟩ : XSt W1.heap.size (W1.heap.size + 1) (.slice ta tn tc) ⟨m, t⟩ [⟨⟨xa, xb, xs, xt, ga, gb⟩, -1, ⟨0, 0, false, false⟩⟩] W3 (fun _ => False))
  have BB3 := Lib.hid (BB2.out.trans (B3.mono hsz))
  clear I3 hs3 B3
  go_wp2
  go_ret
  exact ⟨_, _, rfl, hsz, R.out, BB3.out⟩
theorem XSt.move {sb p : Nat} {tv : Value} {v : Wtc} {l : List Vis} {w w' : World} {Fs Fs' : Nat → Prop} (h : XSt sb p tv v l w Fs) (hs : w.heap.size ≤ w'.heap.size) (hk : ∀ k, k < w.heap.size → ¬ Fs k → w'.heap[k]? = w.heap[k]?) (hF : ∀ k, Fs' k → Fs k ∨ (w.heap.size ≤ k ∧ k < w'.heap.size)) : XSt sb p tv v l w' Fs' := by
  obtain ⟨wv, fv, bv, f, hi, hsn, hf⟩ := h
  refine ⟨wv, fv, bv, f, hi.stay fun k hk1 hk2 => hk k hk1 (fun h => hk2 (hf k h)), hsn, fun k h => ?_⟩
  rcases hF k h with h | ⟨h1, h2⟩
  · exact (hf k h).ext hs
  · exact hi.far h1 h2
theorem XSt.ext {sb p : Nat} {tv : Value} {v : Wtc} {l : List Vis} {w w' : World} {Fs : Nat → Prop} (h : XSt sb p tv v l w Fs) (hb : Below w.heap.size w w') : XSt sb p tv v l w' Fs :=
  h.move hb.size (fun k hk _ => hb.block k hk) (fun _ h => .inl h)
theorem XSt.sub {sb p : Nat} {tv : Value} {v : Wtc} {l : List Vis} {w : World} {Fs Fs' : Nat → Prop} (h : XSt sb p tv v l w Fs) (hF : ∀ k, Fs' k → Fs k) : XSt sb p tv v l w Fs' :=
  h.move (Nat.le_refl _) (fun _ _ _ => rfl) (fun k hk => .inl (hF k hk))
theorem XSt.set {sb p q j : Nat} {tv u : Value} {v : Wtc} {l : List Vis} {w : World} {Fs : Nat → Prop} (h : XSt sb p tv v l w Fs) (hq : Fs q) : XSt sb p tv v l (w.setCell ⟨q, j, none⟩ u) Fs :=
  h.move (by simp [World.setCell]) (fun k _ hk => Below.heap_setCell _ _ _ _ (fun e => hk (e ▸ hq))) (fun _ h => .inl h)
theorem worldsV_len (l : List Vis) : (worldsV l).length = l.length := by simp [worldsV]
theorem addV_from (l : List Vis) (x : Vis) : x.w ∉ worldsV l → worldsV (addV l x) = worldsV l ++ [x.w] ∧ (addV l x).map Vis.from_ = l.map Vis.from_ ++ [x.from_] ∧ (addV l x).map Vis.act = l.map Vis.act ++ [x.act] := fun h => by
  rw [addV_new h]
  simp [worldsV]
theorem spec_add (sb p : Nat) (tv : Value) (v : Wtc) (l : List Vis) (Fs : Nat → Prop) (x : Wld) (fr : Int) (y : Act1) (w : World) (h : XSt sb p tv v l w Fs) (hx : x.ok v) (hl : l.length ≤ 20736) :
    Calls Try.prog 113 #[.pointer (some ⟨p, 0, none⟩), .agg x.cells.toArray, .int .i64 fr, .agg y.cells.toArray] w fun e w' => e = .returned (.tuple #[]) ∧ XSt sb p tv v (addV l ⟨x, fr, y⟩) w' Fs ∧ (∀ k, Fs k → w'.heap[k]? = w.heap[k]?) ∧ Below sb w w' := by
  obtain ⟨wv, fv, bv, f, hi, hs, hf⟩ := h
  have hsp := hi.lt
  have hpl := hi.plt
  by_cases hm : x ∈ worldsV l
  · refine (spec_add_old sb p tv wv fv bv v _ _ _ f x fr y w hi hs hx hm).mono ?_
    rintro e w' ⟨rfl, hb⟩
    rw [addV_old (x := ⟨x, fr, y⟩) hm]
    exact ⟨rfl, XSt.ext ⟨wv, fv, bv, f, hi, hs, hf⟩ hb, fun k hk => hb.block k (hf k hk).lt, hb.mono (by omega)⟩
  · refine (spec_add_new sb p tv wv fv bv v _ _ _ f x fr y w hi hs hx hm (by rw [worldsV_len]; exact hl) (by simp [worldsV]) (by simp [worldsV])).mono ?_
    rintro e w' ⟨rfl, wv', fv', bv', f', hi', hs', hf', hb⟩
    obtain ⟨e1, e2, e3⟩ := addV_from l ⟨x, fr, y⟩ hm
    refine ⟨rfl, ⟨wv', fv', bv', f', ?_, ?_, fun k hk => (hf' k (hf k hk)).1⟩, fun k hk => (hf' k (hf k hk)).2, hb⟩
    · rw [e1, e2, e3]; exact hi'
    · rw [e1]; exact hs'
/-- Whether something unsafe has been found. -/
def FoundOk (once : Bool) (fd : Int) (bad : Bool) : Prop := (fd = -1 ∧ bad = false) ∨ (once = false ∧ 0 ≤ fd ∧ fd ≤ 20736 ∧ bad = true)
/-- What the run of the explorer leaves. -/
def RunEnd (T : Tab) (v : Wtc) (x : Wld) (once : Bool) (fd : Int) (z : Act1) (l : List Vis) : Prop :=
  (∃ n, DoneV T v x n ∧ l = bfs T v x n ∧ FoundOk once fd (badN T v x n)) ∨
  (once = true ∧ ∃ i j, ∃ h : i < (bfs T v x i).length, fd = (i : Int) ∧ badN T v x i = false ∧ ∃ hj : j < (actsW T v (bfs T v x i)[i].w).length, ((actsW T v (bfs T v x i)[i].w).take j).any (unsafeB T (bfs T v x i)[i].w) = false ∧
    unsafeB T (bfs T v x i)[i].w (actsW T v (bfs T v x i)[i].w)[j] = true ∧ z = (actsW T v (bfs T v x i)[i].w)[j] ∧ bfs T v x i <+: l)
theorem XSt.rd {sb p : Nat} {tv : Value} {v : Wtc} {l : List Vis} {w : World} {Fs : Nat → Prop} (h : XSt sb p tv v l w Fs) : ∃ wa wc fv bv sd, w.heap[p]? = some (.cells #[tv, .int .i64 v.margin, .int .i64 v.lost, .slice wa l.length wc, fv, bv, sd] 103 (0, 0)) ∧ Sl 6 Wld.cells (p + 1) w.heap.size w (.slice wa l.length wc) (worldsV l) := by
  obtain ⟨wv, fv, bv, f, hi, hs, hf⟩ := h
  obtain ⟨wa, wc, rfl⟩ := own_val hi.wo
  have h1 := hi.box
  have h2 := (hi.wo.slw Wld.len).1
  rw [worldsV_len] at h1 h2
  exact ⟨wa, wc, fv, bv, _, h1, h2⟩
theorem XSt.lt {sb p : Nat} {tv : Value} {v : Wtc} {l : List Vis} {w : World} {Fs : Nat → Prop} (h : XSt sb p tv v l w Fs) : sb < p ∧ p < w.heap.size := by
  obtain ⟨wv, fv, bv, f, hi, -⟩ := h
  exact ⟨hi.lt, hi.plt⟩
theorem XSt.fs {sb p : Nat} {tv : Value} {v : Wtc} {l : List Vis} {w : World} {Fs : Nat → Prop} (h : XSt sb p tv v l w Fs) {k : Nat} (hk : Fs k) : k < w.heap.size ∧ sb < p ∧ k ≠ p ∧ k ≠ sb := by
  obtain ⟨wv, fv, bv, f, hi, -, hf⟩ := h
  have := hf k hk
  exact ⟨this.lt, hi.lt, this.p, this.sb⟩
end Go.Proofs.Yteakogdojmgehaa
