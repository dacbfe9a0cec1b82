/- FirstUnsafe, the program. -/
import Derived.Test.YteakogdojmgehaaExZ
import Derived.Lib.SliceRun
namespace Go.Proofs.Yteakogdojmgehaa
open Go.RowKit
theorem FirRes.len {T : Tab} {v : Wtc} {x : Wld} {r : List Act1} {c : Int} (h : FirRes T v x r c) : r.length ≤ 20737 := by
  rcases h with ⟨-, rfl, -⟩ | ⟨hc, ⟨-, i, j, p, h⟩ | ⟨-, rfl, -⟩⟩
  · simp
  · rw [h.all, List.length_append, List.length_singleton]
    rcases codeW_cases T v x with h2 | h2 | ⟨-, -, hx⟩
    · omega
    · omega
    · have := path_len (bfs_ok hx i) h.path
      have := h.lt
      have := (bfs_ok (T := T) hx i).len
      omega
  · simp
/-- What holds while the program looks for the first unsafe act. -/
structure FiJ (T : Tab) (v : Wtc) (x : Wld) (p q : Nat) (tv : Value) (rows : List SV) (lo hi : Nat) (i j : Nat) (w : World) : Prop where
  bad : badJ T v x i j = false
  out : w.heap[p]? = some (.cells #[.slice none 0 0] 65 (0, 0))
  tab : w.heap[q]? = some (.cells #[tv] 44 (0, 0))
  rd : TabR lo hi w tv rows T
/-- What has been found. -/
def FiF (T : Tab) (v : Wtc) (x : Wld) (p B : Nat) (w : World) : Prop :=
  ∃ i j pth r ov, FirstV T v x i j pth r ∧ w.heap[p]? = some (.cells #[ov] 65 (0, 0)) ∧ Own 4 Act1.cells B 69 w ov r
theorem enter97 (args : Array Value) (w : World) : (callFunc 97 args).run Try.prog w = .ok (.enter 97 args) w :=
  callFunc_enter Try.func97 (by kernel_rfl) rfl args w
set_option maxRecDepth 100000 in
set_option maxHeartbeats 8000000 in
theorem impl_explore2 (tv : Value) (rows : List SV) (T : Tab) (lo hi : Nat) (v : Wtc) (x : Wld) (p q : Nat) (w : World) (h : TabR lo hi w tv rows T) (hT : TabOk T) (hx : x.ok v) (hhi : hi ≤ q) (hqp : q < p) (hp : w.heap[p]? = some (.cells #[.slice none 0 0] 65 (0, 0))) (hq : w.heap[q]? = some (.cells #[tv] 44 (0, 0))) :
    Calls Try.prog 79 #[tv, .agg v.cells.toArray, .agg x.cells.toArray, .func (.func 97) #[] #[.pointer (some ⟨q, 0, none⟩), .pointer (some ⟨p, 0, none⟩)]] w (ExplOut T v x p (FiJ T v x p q tv rows lo hi) (FiF T v x p w.heap.size) w) := by
  have hpl := (Array.getElem?_eq_some_iff.1 hp).1
  refine impl_explore 97 q p p (FiJ T v x p q tv rows lo hi) (FiF T v x p w.heap.size) tv rows T lo hi v x w h hT hx (by omega) hpl enter97 ⟨by rw [badJ_0]; rfl, hp, hq, h⟩ ?_ ?_ ?_
  · intro i j a b hJ hb
    exact ⟨hJ.bad, (hb.block p (by omega)).trans hJ.out, (hb.block q (by omega)).trans hJ.tab, hJ.rd.below hb (by omega)⟩
  · intro i a hi2 hJ
    refine ⟨?_, hJ.out, hJ.tab, hJ.rd⟩
    rw [badJ_0, ← badJ_end hi2]
    exact hJ.bad
  · intro i j hi2 hj a av hsz hJ hrd
    have hpre := foldV_pre (bfs T v x i)[i].w i ((actsW T v (bfs T v x i)[i].w).take j) (bfs T v x i)
    obtain ⟨h2, h3⟩ := pre_get hpre hi2
    have hvo := bfs_ok (T := T) hx i
    have hok := hvo.ok i hi2
    have hz := acts_can (List.getElem_mem hj)
    obtain ⟨pth, hpth⟩ := path_ex hvo i i (Nat.le_refl _) hi2
    have hb := hJ.bad
    rw [badJ_go hi2, Bool.or_eq_false_iff] at hb
    refine (impl_do2 av (bfs T v x i) _ i (bfs T v x i)[i].w (actsW T v (bfs T v x i)[i].w)[j] pth p q tv rows T lo hi _ _ a hrd hvo hpre hpth h2 (by rw [h3]) hok.in_ hz.1 hJ.rd hT hJ.out hJ.tab (by omega) hpl).mono ?_
    rintro e b ⟨hm, (⟨hu, rfl, ho⟩ | ⟨hu, rfl, ov, ho, hown⟩)⟩
    · refine ⟨hm, .inl ⟨rfl, ⟨?_, ho, (hm.block q (by omega) (.inl hqp)).trans hJ.tab, hJ.rd.keep (hm.same (by omega) (.inl (by omega)))⟩⟩⟩
      rw [badJ_step hi2 hj, hJ.bad, hu]
      rfl
    · exact ⟨hm, .inr ⟨rfl, i, j, pth, _, ov, ⟨hi2, hb.1, hj, hb.2, hu, hpth, rfl⟩, ho, hown.down hsz⟩⟩
set_option maxRecDepth 100000 in
set_option maxHeartbeats 16000000 in
theorem impl_First (tv : Value) (rows : List SV) (T : Tab) (lo hi : Nat) (v : Wtc) (x : Wld) (w : World) (h : TabR lo hi w tv rows T) (hhi : hi ≤ w.heap.size) :
    Calls Try.prog 42 #[tv, .agg v.cells.toArray, .agg x.cells.toArray] w (FirE T v x w) := by
  have hC := fun w' (hb : Below w.heap.size w w') => impl_Code tv rows T lo hi v x w' (h.ext hb)
  have hB0 : ∀ A B C : Obj, Below w.heap.size w (((w.alloc A).alloc B).alloc C) := fun A B C => (((Below.refl _ w).alloc (Nat.le_refl _) _).alloc (by simp) _).alloc (by simp; omega) _
  have HB0 := Lib.hid hB0
  have H := Lib.hid h
  clear hB0
  obtain ⟨⟨ta, tc, rfl, -, -⟩, -, -⟩ := h
  generalize htn : rows.length = tn at *
  clear htn
  have a0 := Lib.hid (alloc3 w (.cells #[.slice ta tn tc] 44 (0, 0)) (.cells #[.int .i64 v.margin, .int .i64 v.lost] 53 (0, 0)) (.cells #[.int .i64 x.a, .int .i64 x.b, .int .i64 x.seenA, .int .i64 x.seenB, .int .i64 x.ageA, .int .i64 x.ageB] 55 (0, 0)))
  rcases codeW_cases T v x with hc | hc | ⟨hc, hT, hx⟩
  · have Hr := Lib.hid (show FirRes T v x [] 8 from .inl ⟨by omega, rfl, hc.symm⟩)
    rw [hc] at hC
    clear hc
    simp only [Wtc.cells, Wld.cells] at *
    have HC := Lib.hid hC
    clear hC
    go_enter Try.func42, Try.ntmps42
    go_wp2_with (first | (go_at_call 78; refine (HC.out _ (HB0.out _ _ _)).mono ?_; rintro e w2 ⟨rfl, hb2⟩))
    exact bodyPost_ret (v := .tuple #[.slice none 0 0, .int .i64 8]) (by simp [results, Try.results42, go_sem]) rfl ⟨_, [], 8, rfl, Hr.out, slw_nil, (HB0.out _ _ _).trans (hb2.mono (by simp <;> omega))⟩
  · have Hr := Lib.hid (show FirRes T v x [] 1 from .inl ⟨by omega, rfl, hc.symm⟩)
    rw [hc] at hC
    clear hc
    simp only [Wtc.cells, Wld.cells] at *
    have HC := Lib.hid hC
    clear hC
    go_enter Try.func42, Try.ntmps42
    go_wp2_with (first | (go_at_call 78; refine (HC.out _ (HB0.out _ _ _)).mono ?_; rintro e w2 ⟨rfl, hb2⟩))
    exact bodyPost_ret (v := .tuple #[.slice none 0 0, .int .i64 1]) (by simp [results, Try.results42, go_sem]) rfl ⟨_, [], 1, rfl, Hr.out, slw_nil, (HB0.out _ _ _).trans (hb2.mono (by simp <;> omega))⟩
  · have Hc := Lib.hid hc
    rw [hc] at hC
    have HX := (fun p q w' (h : TabR lo hi w' (.slice ta tn tc) rows T) hhi hqp hp hq => impl_explore2 (.slice ta tn tc) rows T lo hi v x p q w' h hT hx hhi hqp hp hq)
    clear hc hT hx
    simp only [Wtc.cells, Wld.cells] at hC HX ⊢
    have HC := Lib.hid hC
    have HX := Lib.hid HX
    clear hC
    have qT : ∀ (w : World) (a : Option Addr) (n c : Nat), (binOp .eql 65 (.slice a n c) (.slice none 0 0)).run Try.prog w = .ok (.bool a.isNone) w := fun w a n c => Lib.run_eql_slice_nil w _ 69 a n c 0 0 Try.underlying65
    go_enter Try.func42, Try.ntmps42
    go_wp2_with fail
    refine (HC.out _ (HB0.out _ _ _)).mono ?_
    rintro e w2 ⟨rfl, hb2⟩
    have B2 := (HB0.out _ _ _).trans (hb2.mono (by simp <;> omega))
    have e0 := blk_below' hb2 a0.out.1
    have e1 := blk_below' hb2 a0.out.2.1
    have e2 := blk_below' hb2 a0.out.2.2
    have hs3 : w.heap.size + 1 + 1 < w2.heap.size := (Array.getElem?_eq_some_iff.1 e2).1
    have hs1 : w.heap.size < w2.heap.size := by omega
    have hs2 : w.heap.size + 1 < w2.heap.size := by omega
    have t0 : w2.cell? ⟨w.heap.size, 0, none⟩ = some _ := (Lib.cell_of_heap e0 0).trans rfl
    have c0 : w2.cell? ⟨w.heap.size + 1, 0, none⟩ = some _ := (Lib.cell_of_heap e1 0).trans rfl
    have c1 : w2.cell? ⟨w.heap.size + 1, 1, none⟩ = some _ := (Lib.cell_of_heap e1 1).trans rfl
    have d0 : w2.cell? ⟨w.heap.size + 1 + 1, 0, none⟩ = some _ := (Lib.cell_of_heap e2 0).trans rfl
    have d1 : w2.cell? ⟨w.heap.size + 1 + 1, 1, none⟩ = some _ := (Lib.cell_of_heap e2 1).trans rfl
    have d2 : w2.cell? ⟨w.heap.size + 1 + 1, 2, none⟩ = some _ := (Lib.cell_of_heap e2 2).trans rfl
    have d3 : w2.cell? ⟨w.heap.size + 1 + 1, 3, none⟩ = some _ := (Lib.cell_of_heap e2 3).trans rfl
    have d4 : w2.cell? ⟨w.heap.size + 1 + 1, 4, none⟩ = some _ := (Lib.cell_of_heap e2 4).trans rfl
    have d5 : w2.cell? ⟨w.heap.size + 1 + 1, 5, none⟩ = some _ := (Lib.cell_of_heap e2 5).trans rfl
    have E0 := Lib.hid e0
    clear e0 e1 e2 a0 hb2
    go_wp2_with fail
    have hba : Below w2.heap.size w2 (w2.alloc (.cells #[.slice none 0 0] 65 (0, 0))) := (Below.refl _ _).alloc (Nat.le_refl _) _
    refine (HX.out w2.heap.size w.heap.size _ (H.out.ext (B2.alloc B2.size _)) hhi (by omega) (blk_new _ _) ((hba.block _ (by omega)).trans E0.out)).mono ?_
    rintro e w4 ⟨hm, hh⟩
    have B4 := Lib.hid (B2.trans ((show Below w2.heap.size w2 w4 from ⟨hm.os.trans hba.os, hm.tape.trans hba.tape, hm.output.trans hba.output, Nat.le_trans hba.size hm.size, fun k hk => (hm.block k (Nat.lt_of_lt_of_le hk hba.size) (.inl hk)).trans (hba.block k hk)⟩).mono B2.size))
    have hs4 := Nat.le_trans B2.size hba.size
    rcases hh with ⟨n, a, c, hn, rfl, hJ⟩ | ⟨av, rfl, i, j, pth, r, ov, hf, ho, hown⟩
    · have hb := hJ.bad
      rw [badJ_0] at hb
      have m0 : w4.cell? ⟨w2.heap.size, 0, none⟩ = some (.slice none 0 0) := (Lib.cell_of_heap hJ.out 0).trans rfl
      have Hr := Lib.hid (show FirRes T v x [] 3 from .inr ⟨Hc.out, .inr ⟨rfl, rfl, n, hn, hb⟩⟩)
      clear hm hJ hb hn hba
      go_wp2
      exact bodyPost_ret (v := .tuple #[.slice none 0 0, .int .i64 3]) (by simp [results, Try.results42, go_sem]) rfl ⟨_, [], 3, rfl, Hr.out, slw_nil, B4.out⟩
    · have hr0 : 0 < r.length := by rw [hf.all]; simp
      obtain ⟨oa, oc, rfl⟩ := own_val hown
      obtain ⟨og, oo, rfl⟩ := Sl.addr (hown.slw Act1.len).1 hr0
      have m0 : w4.cell? ⟨w2.heap.size, 0, none⟩ = some _ := (Lib.cell_of_heap ho 0).trans rfl
      have Hr := Lib.hid (show FirRes T v x r 0 from .inr ⟨Hc.out, .inl ⟨rfl, i, j, pth, hf⟩⟩)
      have Hs := Lib.hid ((hown.down hs4).slw Act1.len)
      clear hm hf ho hown hba
      go_wp2
      exact bodyPost_ret (v := .tuple #[.slice (some ⟨og, oo, none⟩) r.length oc, .int .i64 0]) (by simp [results, Try.results42, go_sem]) rfl ⟨_, r, 0, rfl, Hr.out, Hs.out, B4.out⟩
end Go.Proofs.Yteakogdojmgehaa
