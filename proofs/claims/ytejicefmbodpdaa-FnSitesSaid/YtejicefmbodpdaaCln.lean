/- A crane of its own, both packages. -/
import Derived.Test.YtejicefmbodpdaaCraneV
import Derived.Test.YtejicefmbodpdaaNX
import Derived.Lib.SliceRun
import Derived.Handy
namespace Go.Proofs.Ytejicefmbodpdaa
open Go.RowKit
theorem info_impl_ChartStep : (Try.prog.info? 32).map (fun i => (i.zero.map (·.cells.size), i.size, i.bytes)) = some (some 2, 2, 16) := by kernel_rfl
theorem info_impl_Crane : (Try.prog.info? 35).map (fun i => (i.zero.map (·.cells.size), i.size, i.bytes)) = some (some 7, 7, 80) := by kernel_rfl
theorem Chs.one (x : Chs) : ∀ u ∈ x.cells, u.oneCell' = true := by intro u hu; simp [Chs.cells] at hu; rcases hu with rfl | rfl <;> rfl
theorem CraneR.one (x : CraneR) : ∀ u ∈ x.cells, u.oneCell' = true := by intro u hu; simp [CraneR.cells, SV.v] at hu; rcases hu with rfl | rfl | rfl | rfl | rfl | rfl | rfl <;> rfl
/-- What copying a crane returns: its flat part as it was, its chart in memory of its own. -/
def CopyOne (f : CraneF) (l : List Chs) (w : World) (e : Ending) (w' : World) : Prop :=
  ∃ s : SV, e = .returned (.agg (CraneR.cells ⟨f, s⟩).toArray) ∧ Own 2 Chs.cells w.heap.size 32 w' s.v l ∧ Below w.heap.size w w'
set_option maxRecDepth 100000 in
set_option maxHeartbeats 4000000 in
theorem spec_Own (b o : Nat) (f : CraneF) (s : SV) (l : List Chs) (lo hi : Nat) (w : World) (hc : ∀ j u, (CraneR.cells ⟨f, s⟩)[j]? = some u → w.cell? ⟨b, o + j, none⟩ = some u) (h : Chss lo hi w s.v l) (h0 : 0 < l.length) (hl : l.length ≤ 1048576) :
    Calls Try.prog 57 #[.pointer (some ⟨b, o, none⟩)] w (CopyOne f l w) := by
  obtain ⟨sa, sl, sc⟩ := s
  obtain ⟨bl, ol, rfl⟩ := Sl.addr h h0
  obtain ⟨rfl, hscp⟩ : sl = l.length ∧ sc ≤ 9223372036854775807 := by obtain ⟨_, _, hv, hcp2, _⟩ := h; cases hv; exact ⟨rfl, hcp2.2⟩
  simp only [SV.v] at h
  obtain ⟨x0, x1, x2, x3, x4, x5⟩ := f
  simp only [CraneR.cells, SV.v] at hc
  have c0 := hc 0 _ rfl
  have c1 := hc 1 _ rfl
  have c2 := hc 2 _ rfl
  have c3 := hc 3 _ rfl
  have c4 := hc 4 _ rfl
  have c5 := hc 5 _ rfl
  have c6 := hc 6 _ rfl
  simp only [Nat.add_zero] at c0
  have hbw := World.block_lt_of_cell? w _ c0
  have hbw1 : b < w.heap.size + 1 := Nat.lt_succ_of_lt hbw
  have hbw2 : b < w.heap.size + 1 + 1 := Nat.lt_succ_of_lt hbw1
  have H := Lib.hid h
  have hy0 := Lib.hid (blkN_new w (.cells #[.string ⟨#[]⟩, .int .i64 0, .int .i64 0, .int .i64 0, .int .i64 0, .int .i64 0, .slice none 0 0] 35))
  have hx0 := Lib.hid (blkN_new (w.alloc (.cells #[.string ⟨#[]⟩, .int .i64 0, .int .i64 0, .int .i64 0, .int .i64 0, .int .i64 0, .slice none 0 0] 35)) (.cells #[.string x0, .int .i64 x1, .int .i64 x2, .int .i64 x3, .int .i64 x4, .int .i64 x5, .slice (some ⟨bl, ol, none⟩) l.length sc] 35))
  have Hown0 : Hid (Own 2 Chs.cells (w.heap.size + 2) 32 (((w.alloc (.cells #[.string ⟨#[]⟩, .int .i64 0, .int .i64 0, .int .i64 0, .int .i64 0, .int .i64 0, .slice none 0 0] 35)).alloc (.cells #[.string x0, .int .i64 x1, .int .i64 x2, .int .i64 x3, .int .i64 x4, .int .i64 x5, .slice (some ⟨bl, ol, none⟩) l.length sc] 35)).alloc (.cells #[] 32)) (.slice (some ⟨w.heap.size + 1 + 1, 0, none⟩) 0 0) ([] : List Chs)) := Lib.hid (by
    have h1 : Own 2 Chs.cells (w.heap.size + 2) 32 (((w.alloc (.cells #[.string ⟨#[]⟩, .int .i64 0, .int .i64 0, .int .i64 0, .int .i64 0, .int .i64 0, .slice none 0 0] 35)).alloc (.cells #[.string x0, .int .i64 x1, .int .i64 x2, .int .i64 x3, .int .i64 x4, .int .i64 x5, .slice (some ⟨bl, ol, none⟩) l.length sc] 35)).alloc (.cells #[] 32)) _ ([] : List Chs) := own_empty ((w.alloc (.cells #[.string ⟨#[]⟩, .int .i64 0, .int .i64 0, .int .i64 0, .int .i64 0, .int .i64 0, .slice none 0 0] 35)).alloc (.cells #[.string x0, .int .i64 x1, .int .i64 x2, .int .i64 x3, .int .i64 x4, .int .i64 x5, .slice (some ⟨bl, ol, none⟩) l.length sc] 35)) 32 (w.heap.size + 2) (by simp)
    simpa using h1)
  have H1 : Hid (Chss lo hi (((w.alloc (.cells #[.string ⟨#[]⟩, .int .i64 0, .int .i64 0, .int .i64 0, .int .i64 0, .int .i64 0, .slice none 0 0] 35)).alloc (.cells #[.string x0, .int .i64 x1, .int .i64 x2, .int .i64 x3, .int .i64 x4, .int .i64 x5, .slice (some ⟨bl, ol, none⟩) l.length sc] 35)).alloc (.cells #[] 32)) (.slice (some ⟨bl, ol, none⟩) l.length sc) l) := Lib.hid (H.out.ext (by go_grown))
  clear hc h
  go_enter Try.func57, Try.ntmps57
  go_wp2_with (at_builtin; refine wpList_appN (c := Chs.cells) (bytes := 16) rfl _ _ 33 32 rfl Try.underlying33 info_impl_ChartStep (by omega) Chs.len Chs.one (w.heap.size + 2) [] l _ rfl Hown0.out lo hi bl ol sc rfl H1.out (by simp; omega) (by simp; omega) (by simp) ?_)
  intro v' w3 hown3 hg3
  have hB3 : Below w.heap.size w w3 := Below.grown (by go_grown) hg3 (by simp <;> omega) (fun k hk => by simp [Value.ownBlock] at hk; omega)
  obtain ⟨va, vc, rfl⟩ := own_sv hown3
  have hx3 : Hid (w3.heap[w.heap.size + 1]? = some (.cells #[.string x0, .int .i64 x1, .int .i64 x2, .int .i64 x3, .int .i64 x4, .int .i64 x5, .slice (some ⟨bl, ol, none⟩) l.length sc] 35)) := Lib.hid ((hg3.block (w.heap.size + 1) (by simp) (by simp [Value.ownBlock])).trans (by simpa using (blkN_below ((Below.refl _ _).alloc (Nat.le_refl _) _) hx0.out)))
  have hy3 : Hid (w3.heap[w.heap.size]? = some (.cells #[.string ⟨#[]⟩, .int .i64 0, .int .i64 0, .int .i64 0, .int .i64 0, .int .i64 0, .slice none 0 0] 35)) := Lib.hid ((hg3.block (w.heap.size) (by simp; omega) (by simp [Value.ownBlock]; omega)).trans (blkN_below ((Below.refl _ _).alloc (Nat.le_refl _) _) (blkN_below ((Below.refl _ _).alloc (Nat.le_refl _) _) hy0.out)))
  have d0 : w3.cell? ⟨w.heap.size + 1, 0, none⟩ = some _ := (Lib.cell_of_heap hx3.out 0).trans rfl
  have d1 : w3.cell? ⟨w.heap.size + 1, 1, none⟩ = some _ := (Lib.cell_of_heap hx3.out 1).trans rfl
  have d2 : w3.cell? ⟨w.heap.size + 1, 2, none⟩ = some _ := (Lib.cell_of_heap hx3.out 2).trans rfl
  have d3 : w3.cell? ⟨w.heap.size + 1, 3, none⟩ = some _ := (Lib.cell_of_heap hx3.out 3).trans rfl
  have d4 : w3.cell? ⟨w.heap.size + 1, 4, none⟩ = some _ := (Lib.cell_of_heap hx3.out 4).trans rfl
  have d5 : w3.cell? ⟨w.heap.size + 1, 5, none⟩ = some _ := (Lib.cell_of_heap hx3.out 5).trans rfl
  have d6 : w3.cell? ⟨w.heap.size + 1, 6, none⟩ = some _ := (Lib.cell_of_heap hx3.out 6).trans rfl
  have df : ∀ j, w3.frozen? ⟨w.heap.size + 1, j, none⟩ = false := fun j => Lib.frozen_of_heap hx3.out j
  have e0 : w3.cell? ⟨w.heap.size, 0, none⟩ = some _ := (Lib.cell_of_heap hy3.out 0).trans rfl
  have e1 : w3.cell? ⟨w.heap.size, 1, none⟩ = some _ := (Lib.cell_of_heap hy3.out 1).trans rfl
  have e2 : w3.cell? ⟨w.heap.size, 2, none⟩ = some _ := (Lib.cell_of_heap hy3.out 2).trans rfl
  have e3 : w3.cell? ⟨w.heap.size, 3, none⟩ = some _ := (Lib.cell_of_heap hy3.out 3).trans rfl
  have e4 : w3.cell? ⟨w.heap.size, 4, none⟩ = some _ := (Lib.cell_of_heap hy3.out 4).trans rfl
  have e5 : w3.cell? ⟨w.heap.size, 5, none⟩ = some _ := (Lib.cell_of_heap hy3.out 5).trans rfl
  have e6 : w3.cell? ⟨w.heap.size, 6, none⟩ = some _ := (Lib.cell_of_heap hy3.out 6).trans rfl
  have ef : ∀ j, w3.frozen? ⟨w.heap.size, j, none⟩ = false := fun j => Lib.frozen_of_heap hy3.out j
  have Hown3 := Lib.hid hown3
  clear hown3 hg3 hx3 hy3 hx0 hy0
  go_wp2
  exact bodyPost_ret (v := .agg #[.string x0, .int .i64 x1, .int .i64 x2, .int .i64 x3, .int .i64 x4, .int .i64 x5, .slice va l.length vc]) (by simp [results, Try.results57, go_sem, e0, e1, e2, e3, e4, e5, e6]) rfl ⟨⟨va, l.length, vc⟩, rfl, (own_mod2 (p := w.heap.size) (q := w.heap.size + 2) Hown3.out (by repeat (first | refine Mod.setCell ?_ (by first | omega | (simp; omega) | simp) (by first | omega | (simp; omega) | simp) _ | exact Mod.refl _ _ _)) (Nat.le_refl _)).lower (by omega), by go_grown⟩
set_option maxHeartbeats 2000000 in
theorem impl_CloneCh (l : List Chs) (b off cap lo hi : Nat) (w : World) (h : Chss lo hi w (.slice (some ⟨b, off, none⟩) l.length cap) l) (hl : l.length ≤ 1048576) :
    Calls Try.prog 49 #[.slice (some ⟨b, off, none⟩) l.length cap] w fun e w' => ∃ v', e = .returned v' ∧ Own 2 Chs.cells w.heap.size 32 w' v' l ∧ Below w.heap.size w w' := by
  have hq := fun w => Lib.run_eql_slice_nil (P := Try.prog) w 33 32 (some ⟨b, off, none⟩) l.length cap 0 0 Try.underlying33
  have hb0 := (Below.refl w.heap.size w).alloc (Nat.le_refl _) (.cells #[] 32)
  have h1 := h.ext hb0
  have hown0 : Own 2 Chs.cells w.heap.size 32 (w.alloc (.cells #[] 32)) (.slice (some ⟨w.heap.size, 0, none⟩) 0 0) ([] : List Chs) := own_empty w _ _ (Nat.le_refl _)
  have H1 := Lib.hid h1
  have Hown0 := Lib.hid hown0
  clear h h1 hown0
  go_enter Try.func49, Try.ntmps49
  go_wp2_with (at_builtin; refine wpList_appN (c := Chs.cells) (bytes := 16) rfl _ _ 33 32 rfl Try.underlying33 info_impl_ChartStep (by omega) Chs.len Chs.one w.heap.size [] l _ rfl Hown0.out lo hi b off cap rfl H1.out (by simp; omega) (by simp; omega) (by simp) ?_; intro v' w3 hown3 hg3; have hB3 := Hown0.out.grows hb0 (Nat.le_refl _) (by simp) hg3; have Hown3 := Lib.hid hown3; clear hown3)
  go_ret
  exact ⟨_, rfl, by have := Hown3.out; rwa [List.nil_append] at this, hB3⟩
set_option maxRecDepth 100000 in
set_option maxHeartbeats 4000000 in
theorem impl_CraneClone (f : CraneF) (s : SV) (l : List Chs) (lo hi : Nat) (w : World) (h : Chss lo hi w s.v l) (h0 : 0 < l.length) (hl : l.length ≤ 1048576) :
    Calls Try.prog 27 #[.agg (CraneR.cells ⟨f, s⟩).toArray] w (CopyOne f l w) := by
  obtain ⟨sa, sl, sc⟩ := s
  obtain ⟨bl, ol, rfl⟩ := Sl.addr h h0
  obtain ⟨rfl, hscp⟩ : sl = l.length ∧ sc ≤ 9223372036854775807 := by obtain ⟨_, _, hv, hcp2, _⟩ := h; cases hv; exact ⟨rfl, hcp2.2⟩
  simp only [SV.v] at h
  obtain ⟨x0, x1, x2, x3, x4, x5⟩ := f
  simp only [CraneR.cells, SV.v]
  have HC := Lib.hid (fun w' (hb : Below w.heap.size w w') => impl_CloneCh l bl ol sc lo hi w' (h.ext hb) hl)
  have hx0 := Lib.hid (blkN_new w (.cells #[.string x0, .int .i64 x1, .int .i64 x2, .int .i64 x3, .int .i64 x4, .int .i64 x5, .slice (some ⟨bl, ol, none⟩) l.length sc] 35))
  have hy0 := Lib.hid (blkN_new (w.alloc (.cells #[.string x0, .int .i64 x1, .int .i64 x2, .int .i64 x3, .int .i64 x4, .int .i64 x5, .slice (some ⟨bl, ol, none⟩) l.length sc] 35)) (.cells #[.string ⟨#[]⟩, .int .i64 0, .int .i64 0, .int .i64 0, .int .i64 0, .int .i64 0, .slice none 0 0] 35))
  clear h
  go_enter Try.func27, Try.ntmps27
  go_wp2_with fail
  refine (HC.out _ (by go_grown)).mono ?_
  rintro e w3 ⟨v', rfl, hown3, hb3⟩
  have hB3 : Below w.heap.size w w3 := Below.trans (by go_grown) (hb3.mono (by simp; omega))
  obtain ⟨va, vc, rfl⟩ := own_sv hown3
  have hx3 : Hid (w3.heap[w.heap.size]? = some (.cells #[.string x0, .int .i64 x1, .int .i64 x2, .int .i64 x3, .int .i64 x4, .int .i64 x5, .slice (some ⟨bl, ol, none⟩) l.length sc] 35)) := Lib.hid (blkN_below hb3 (blkN_below ((Below.refl _ _).alloc (Nat.le_refl _) _) hx0.out))
  have hy3 : Hid (w3.heap[w.heap.size + 1]? = some (.cells #[.string ⟨#[]⟩, .int .i64 0, .int .i64 0, .int .i64 0, .int .i64 0, .int .i64 0, .slice none 0 0] 35)) := Lib.hid (blkN_below hb3 (by simpa using hy0.out))
  have d0 : w3.cell? ⟨w.heap.size, 0, none⟩ = some _ := (Lib.cell_of_heap hx3.out 0).trans rfl
  have d1 : w3.cell? ⟨w.heap.size, 1, none⟩ = some _ := (Lib.cell_of_heap hx3.out 1).trans rfl
  have d2 : w3.cell? ⟨w.heap.size, 2, none⟩ = some _ := (Lib.cell_of_heap hx3.out 2).trans rfl
  have d3 : w3.cell? ⟨w.heap.size, 3, none⟩ = some _ := (Lib.cell_of_heap hx3.out 3).trans rfl
  have d4 : w3.cell? ⟨w.heap.size, 4, none⟩ = some _ := (Lib.cell_of_heap hx3.out 4).trans rfl
  have d5 : w3.cell? ⟨w.heap.size, 5, none⟩ = some _ := (Lib.cell_of_heap hx3.out 5).trans rfl
  have d6 : w3.cell? ⟨w.heap.size, 6, none⟩ = some _ := (Lib.cell_of_heap hx3.out 6).trans rfl
  have df : ∀ j, w3.frozen? ⟨w.heap.size, j, none⟩ = false := fun j => Lib.frozen_of_heap hx3.out j
  have e0 : w3.cell? ⟨w.heap.size + 1, 0, none⟩ = some _ := (Lib.cell_of_heap hy3.out 0).trans rfl
  have e1 : w3.cell? ⟨w.heap.size + 1, 1, none⟩ = some _ := (Lib.cell_of_heap hy3.out 1).trans rfl
  have e2 : w3.cell? ⟨w.heap.size + 1, 2, none⟩ = some _ := (Lib.cell_of_heap hy3.out 2).trans rfl
  have e3 : w3.cell? ⟨w.heap.size + 1, 3, none⟩ = some _ := (Lib.cell_of_heap hy3.out 3).trans rfl
  have e4 : w3.cell? ⟨w.heap.size + 1, 4, none⟩ = some _ := (Lib.cell_of_heap hy3.out 4).trans rfl
  have e5 : w3.cell? ⟨w.heap.size + 1, 5, none⟩ = some _ := (Lib.cell_of_heap hy3.out 5).trans rfl
  have e6 : w3.cell? ⟨w.heap.size + 1, 6, none⟩ = some _ := (Lib.cell_of_heap hy3.out 6).trans rfl
  have ef : ∀ j, w3.frozen? ⟨w.heap.size + 1, j, none⟩ = false := fun j => Lib.frozen_of_heap hy3.out j
  have Hown3 := Lib.hid hown3
  clear hown3 hx3 hy3 hx0 hy0 hb3
  go_wp2
  exact bodyPost_ret (v := .agg #[.string x0, .int .i64 x1, .int .i64 x2, .int .i64 x3, .int .i64 x4, .int .i64 x5, .slice va l.length vc]) (by simp [results, Try.results27, go_sem, e0, e1, e2, e3, e4, e5, e6]) rfl ⟨⟨va, l.length, vc⟩, rfl, (own_mod2 (p := w.heap.size) (q := w.heap.size + 2) Hown3.out (by repeat (first | refine Mod.setCell ?_ (by first | omega | (simp; omega) | simp) (by first | omega | (simp; omega) | simp) _ | exact Mod.refl _ _ _)) (by simp)).lower (by simp; omega), by go_grown⟩
theorem impl_index_t (n m : Int) (w : World) (h : 0 ≤ n) (h2 : n < m) (h3 : m ≤ 1048576) : Calls Try.prog 52 #[.int .i64 n, .int .i64 m] w fun e w' => e = .returned (.bool true) ∧ w = w' := by
  go_enter Try.func52, Try.ntmps52
  go_wp2_with (go_at_call 44; refine (impl_within_t _ _ _ _ (by omega) (by omega)).mono ?_; rintro e w' ⟨rfl, rfl⟩)
  go_ret; exact ⟨rfl, rfl⟩
theorem impl_index_f (n m : Int) (w : World) (h : ¬ (0 ≤ n ∧ n < m)) (h3 : 0 ≤ m ∧ m ≤ 1048576) : Calls Try.prog 52 #[.int .i64 n, .int .i64 m] w fun e w' => e = .returned (.bool false) ∧ w = w' := by
  go_enter Try.func52, Try.ntmps52
  go_wp2_with (go_at_call 44; refine (impl_within_f _ _ _ _ (by omega)).mono ?_; rintro e w' ⟨rfl, rfl⟩)
  go_ret; exact ⟨rfl, rfl⟩
end Go.Proofs.Ytejicefmbodpdaa
