/- ExploreWorlds, the program. -/
import Derived.Test.YteakogdojmgehaaExK
import Derived.Test.YteakogdojmgehaaExW
namespace Go.Proofs.Yteakogdojmgehaa
open Go.RowKit
/-- Whether something unsafe has been found when the first worlds are done, and the first acts of the next one. -/
noncomputable def badJ (T : Tab) (v : Wtc) (x : Wld) (i j : Nat) : Bool :=
  badN T v x i || (match (bfs T v x i)[i]? with | some y => ((actsW T v y.w).take j).any (unsafeB T y.w) | none => false)
theorem badJ_go {T : Tab} {v : Wtc} {x : Wld} {i j : Nat} (h : i < (bfs T v x i).length) : badJ T v x i j = (badN T v x i || ((actsW T v (bfs T v x i)[i].w).take j).any (unsafeB T (bfs T v x i)[i].w)) := by
  unfold badJ
  rw [List.getElem?_eq_getElem h]
theorem badJ_0 (T : Tab) (v : Wtc) (x : Wld) (i : Nat) : badJ T v x i 0 = badN T v x i := by
  unfold badJ
  split <;> simp
theorem badJ_end {T : Tab} {v : Wtc} {x : Wld} {i : Nat} (h : i < (bfs T v x i).length) : badJ T v x i (actsW T v (bfs T v x i)[i].w).length = badN T v x (i + 1) := by
  rw [badJ_go h, badN_go h, List.take_length]
theorem badJ_step {T : Tab} {v : Wtc} {x : Wld} {i j : Nat} (h : i < (bfs T v x i).length) (hj : j < (actsW T v (bfs T v x i)[i].w).length) : badJ T v x i (j + 1) = (badJ T v x i j || unsafeB T (bfs T v x i)[i].w (actsW T v (bfs T v x i)[i].w)[j]) := by
  rw [badJ_go h, badJ_go h, any_take hj, Bool.or_assoc]
/-- What holds while the program explores. -/
structure ExJ (T : Tab) (v : Wtc) (x : Wld) (p q : Nat) (tv : Value) (rows : List SV) (lo hi : Nat) (i j : Nat) (w : World) : Prop where
  bad : w.heap[p]? = some (.cells #[.bool (badJ T v x i j)] 4 (0, 0))
  tab : w.heap[q]? = some (.cells #[tv] 44 (0, 0))
  rd : TabR lo hi w tv rows T
theorem enter80 (args : Array Value) (w : World) : (callFunc 80 args).run Try.prog w = .ok (.enter 80 args) w :=
  callFunc_enter Try.func80 (by kernel_rfl) rfl args w
set_option maxRecDepth 100000 in
set_option maxHeartbeats 8000000 in
theorem impl_explore1 (tv : Value) (rows : List SV) (T : Tab) (lo hi : Nat) (v : Wtc) (x : Wld) (p q : Nat) (w : World) (h : TabR lo hi w tv rows T) (hT : TabOk T) (hx : x.ok v) (hhi : hi ≤ q) (hqp : q < p) (hp : w.heap[p]? = some (.cells #[.bool false] 4 (0, 0))) (hq : w.heap[q]? = some (.cells #[tv] 44 (0, 0))) :
    Calls Try.prog 79 #[tv, .agg v.cells.toArray, .agg x.cells.toArray, .func (.func 80) #[] #[.pointer (some ⟨p, 0, none⟩), .pointer (some ⟨q, 0, none⟩)]] w (ExplOut T v x p (ExJ T v x p q tv rows lo hi) (fun _ => False) w) := by
  have hpl := (Array.getElem?_eq_some_iff.1 hp).1
  refine impl_explore 80 p q p (ExJ T v x p q tv rows lo hi) (fun _ => False) tv rows T lo hi v x w h hT hx (by omega) hpl enter80 ⟨by rw [badJ_0]; exact hp, hq, h⟩ ?_ ?_ ?_
  · intro i j a b hJ hb
    refine ⟨(hb.block p (by omega)).trans hJ.bad, (hb.block q (by omega)).trans hJ.tab, hJ.rd.below hb (by omega)⟩
  · intro i a hi2 hJ
    refine ⟨?_, hJ.tab, hJ.rd⟩
    rw [badJ_0, ← badJ_end hi2]
    exact hJ.bad
  · intro i j hi2 hj a av hsz hJ hrd
    obtain ⟨h2, h3⟩ := pre_get (foldV_pre (bfs T v x i)[i].w i ((actsW T v (bfs T v x i)[i].w).take j) (bfs T v x i)) hi2
    have hok := (bfs_ok (T := T) hx i).ok i hi2
    have hz := acts_can (List.getElem_mem hj)
    refine (impl_do1 av _ i (bfs T v x i)[i].w (actsW T v (bfs T v x i)[i].w)[j] p q (badJ T v x i j) tv rows T lo hi _ _ a hrd h2 (by rw [h3]) hok.in_ hz.1 hJ.rd hT hJ.bad hJ.tab (by omega) hpl).mono ?_
    rintro e b ⟨rfl, hm, hb⟩
    refine ⟨hm, .inl ⟨rfl, ⟨?_, (hm.block q (by omega) (.inl hqp)).trans hJ.tab, hJ.rd.keep (hm.same (by omega) (.inl (by omega)))⟩⟩⟩
    rw [badJ_step hi2 hj]
    exact hb
set_option maxRecDepth 100000 in
set_option maxHeartbeats 16000000 in
theorem impl_Explore (tv : Value) (rows : List SV) (T : Tab) (lo hi : Nat) (v : Wtc) (x : Wld) (w : World) (h : TabR lo hi w tv rows T) (hhi : hi ≤ w.heap.size) :
    Calls Try.prog 28 #[tv, .agg v.cells.toArray, .agg x.cells.toArray] w (fun e w' => ∃ (ra : Int) (rb : Bool) (rc : Int), e = .returned (.tuple #[.int .i64 ra, .bool rb, .int .i64 rc]) ∧ ExpRes T v x ra rb rc ∧ Below (w).heap.size w w') := by
  have hC := fun w' (hb : Below w.heap.size w w') => impl_Code tv rows T lo hi v x w' (h.ext hb)
  have hB0 : ∀ A B C : Obj, Below w.heap.size w (((w.alloc A).alloc B).alloc C) := fun A B C => (((Below.refl _ w).alloc (Nat.le_refl _) _).alloc (by simp) _).alloc (by simp; omega) _
  have HB0 := Lib.hid hB0
  have H := Lib.hid h
  clear hB0
  obtain ⟨⟨ta, tc, rfl, -, -⟩, -, -⟩ := h
  generalize htn : rows.length = tn at *
  clear htn
  have a0 := Lib.hid (alloc3 w (.cells #[.slice ta tn tc] 44 (0, 0)) (.cells #[.int .i64 v.margin, .int .i64 v.lost] 53 (0, 0)) (.cells #[.int .i64 x.a, .int .i64 x.b, .int .i64 x.seenA, .int .i64 x.seenB, .int .i64 x.ageA, .int .i64 x.ageB] 55 (0, 0)))
  rcases codeW_cases T v x with hc | hc | ⟨hc, hT, hx⟩
  · have Hr := Lib.hid (show ExpRes T v x 0 false 8 from .inl ⟨by omega, rfl, rfl, hc.symm⟩)
    rw [hc] at hC
    clear hc
    simp only [Wtc.cells, Wld.cells] at *
    have HC := Lib.hid hC
    clear hC
    go_enter Try.func28, Try.ntmps28
    go_wp2_with (first | (go_at_call 78; refine (HC.out _ (HB0.out _ _ _)).mono ?_; rintro e w2 ⟨rfl, hb2⟩))
    exact bodyPost_ret (v := .tuple #[.int .i64 0, .bool false, .int .i64 8]) (by simp [results, Try.results28, go_sem]) rfl ⟨0, false, 8, rfl, Hr.out, (HB0.out _ _ _).trans (hb2.mono (by simp <;> omega))⟩
  · have Hr := Lib.hid (show ExpRes T v x 0 false 1 from .inl ⟨by omega, rfl, rfl, hc.symm⟩)
    rw [hc] at hC
    clear hc
    simp only [Wtc.cells, Wld.cells] at *
    have HC := Lib.hid hC
    clear hC
    go_enter Try.func28, Try.ntmps28
    go_wp2_with (first | (go_at_call 78; refine (HC.out _ (HB0.out _ _ _)).mono ?_; rintro e w2 ⟨rfl, hb2⟩))
    exact bodyPost_ret (v := .tuple #[.int .i64 0, .bool false, .int .i64 1]) (by simp [results, Try.results28, go_sem]) rfl ⟨0, false, 1, rfl, Hr.out, (HB0.out _ _ _).trans (hb2.mono (by simp <;> omega))⟩
  · have Hc := Lib.hid hc
    rw [hc] at hC
    have HX := (fun p q w' (h : TabR lo hi w' (.slice ta tn tc) rows T) hhi hqp hp hq => impl_explore1 (.slice ta tn tc) rows T lo hi v x p q w' h hT hx hhi hqp hp hq)
    clear hc hT hx
    simp only [Wtc.cells, Wld.cells] at hC HX ⊢
    have HC := Lib.hid hC
    have HX := Lib.hid HX
    clear hC
    go_enter Try.func28, Try.ntmps28
    go_wp2_with fail
    refine (HC.out _ (HB0.out _ _ _)).mono ?_
    rintro e w2 ⟨rfl, hb2⟩
    have B2 := (HB0.out _ _ _).trans (hb2.mono (by simp <;> omega))
    have e0 := blk_below' hb2 a0.out.1
    have e1 := blk_below' hb2 a0.out.2.1
    have e2 := blk_below' hb2 a0.out.2.2
    have hs3 : w.heap.size + 1 + 1 < w2.heap.size := (Array.getElem?_eq_some_iff.1 e2).1
    have hs1 : w.heap.size < w2.heap.size := by omega
    have hs2 : w.heap.size + 1 < w2.heap.size := by omega
    have t0 : w2.cell? ⟨w.heap.size, 0, none⟩ = some _ := (Lib.cell_of_heap e0 0).trans rfl
    have c0 : w2.cell? ⟨w.heap.size + 1, 0, none⟩ = some _ := (Lib.cell_of_heap e1 0).trans rfl
    have c1 : w2.cell? ⟨w.heap.size + 1, 1, none⟩ = some _ := (Lib.cell_of_heap e1 1).trans rfl
    have d0 : w2.cell? ⟨w.heap.size + 1 + 1, 0, none⟩ = some _ := (Lib.cell_of_heap e2 0).trans rfl
    have d1 : w2.cell? ⟨w.heap.size + 1 + 1, 1, none⟩ = some _ := (Lib.cell_of_heap e2 1).trans rfl
    have d2 : w2.cell? ⟨w.heap.size + 1 + 1, 2, none⟩ = some _ := (Lib.cell_of_heap e2 2).trans rfl
    have d3 : w2.cell? ⟨w.heap.size + 1 + 1, 3, none⟩ = some _ := (Lib.cell_of_heap e2 3).trans rfl
    have d4 : w2.cell? ⟨w.heap.size + 1 + 1, 4, none⟩ = some _ := (Lib.cell_of_heap e2 4).trans rfl
    have d5 : w2.cell? ⟨w.heap.size + 1 + 1, 5, none⟩ = some _ := (Lib.cell_of_heap e2 5).trans rfl
    have E0 := Lib.hid e0
    clear e0 e1 e2 a0 hb2
    go_wp2_with fail
    have hba : Below w2.heap.size w2 (w2.alloc (.cells #[.bool false] 4 (0, 0))) := (Below.refl _ _).alloc (Nat.le_refl _) _
    refine (HX.out w2.heap.size w.heap.size _ (H.out.ext (B2.alloc B2.size _)) hhi (by omega) (blk_new _ _) ((hba.block _ (by omega)).trans E0.out)).mono ?_
    rintro e w4 ⟨hm, (⟨n, a, c, hn, rfl, hJ⟩ | ⟨_, _, hF⟩)⟩
    · have B4 := Lib.hid (B2.trans ((show Below w2.heap.size w2 w4 from ⟨hm.os.trans hba.os, hm.tape.trans hba.tape, hm.output.trans hba.output, Nat.le_trans hba.size hm.size, fun k hk => (hm.block k (Nat.lt_of_lt_of_le hk hba.size) (.inl hk)).trans (hba.block k hk)⟩).mono B2.size))
      have hb := hJ.bad
      rw [badJ_0] at hb
      have m0 : w4.cell? ⟨w2.heap.size, 0, none⟩ = some (.bool (badN T v x n)) := (Lib.cell_of_heap hb 0).trans rfl
      have Hr := Lib.hid (show ExpRes T v x (n : Int) (badN T v x n) 0 from .inr ⟨Hc.out, rfl, n, rfl, hn, rfl⟩)
      clear hm hJ hb hn hba
      go_wp2_with fail
      go_quiet (fail)
      go_wp2
      exact bodyPost_ret (v := .tuple #[.int .i64 n, .bool (badN T v x n), .int .i64 0]) (by simp [results, Try.results28, go_sem]) rfl ⟨_, _, _, rfl, Hr.out, below_dN B4.out _⟩
    · exact hF.elim
end Go.Proofs.Yteakogdojmgehaa
