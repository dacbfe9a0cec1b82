/- ExploreWorlds, the reference. -/
import Derived.Test.YteakogdojmgehaaExN
import Derived.Test.YteakogdojmgehaaTabG
namespace Go.Proofs.Yteakogdojmgehaa
open Go.RowKit
/-- What exploring answers. -/
def ExpRes (T : Tab) (v : Wtc) (x : Wld) (a : Int) (b : Bool) (c : Int) : Prop :=
  (codeW T v x ≠ 0 ∧ a = 0 ∧ b = false ∧ c = codeW T v x) ∨ (codeW T v x = 0 ∧ c = 0 ∧ ∃ n : Nat, a = (n : Int) ∧ ExpC T v x n b)
theorem ExpRes.uniq {T : Tab} {v : Wtc} {x : Wld} {a a' : Int} {b b' : Bool} {c c' : Int} (h : ExpRes T v x a b c) (h2 : ExpRes T v x a' b' c') : a = a' ∧ b = b' ∧ c = c' := by
  rcases h with ⟨h0, rfl, rfl, rfl⟩ | ⟨h0, rfl, n, rfl, h⟩ <;> rcases h2 with ⟨k0, rfl, rfl, rfl⟩ | ⟨k0, rfl, m, rfl, h2⟩
  · exact ⟨rfl, rfl, rfl⟩
  · exact absurd k0 h0
  · exact absurd h0 k0
  · obtain ⟨rfl, rfl⟩ := h.uniq h2
    exact ⟨rfl, rfl, rfl⟩
theorem found_false {fd : Int} {bad : Bool} (h : FoundOk false fd bad) : decide (0 ≤ fd) = bad := by
  rcases h with ⟨rfl, rfl⟩ | ⟨-, h1, -, rfl⟩
  · rfl
  · exact decide_eq_true h1
set_option maxRecDepth 100000 in
set_option maxHeartbeats 16000000 in
theorem spec_Explore (tv : Value) (rows : List SV) (T : Tab) (lo hi : Nat) (v : Wtc) (x : Wld) (w : World) (h : TabR lo hi w tv rows T) (hhi : hi ≤ w.heap.size) :
    Calls Try.prog 24 #[tv, .agg v.cells.toArray, .agg x.cells.toArray] w (fun e w' => ∃ (ra : Int) (rb : Bool) (rc : Int), e = .returned (.tuple #[.int .i64 ra, .bool rb, .int .i64 rc]) ∧ ExpRes T v x ra rb rc ∧ Below (w).heap.size w w') := by
  have hC := fun w' (hb : Below w.heap.size w w') => spec_Code tv rows T lo hi v x w' (h.ext hb)
  have hB0 : ∀ A B : Obj, Below w.heap.size w ((w.alloc A).alloc B) := fun A B => ((Below.refl _ w).alloc (Nat.le_refl _) _).alloc (by simp) _
  have HB0 := Lib.hid hB0
  have H := Lib.hid h
  clear hB0
  obtain ⟨⟨ta, tc, rfl, -, -⟩, -, -⟩ := h
  generalize htn : rows.length = tn at *
  have Htn := Lib.hid htn
  clear htn
  have a0 := Lib.hid (blk_below' ((Below.refl _ _).alloc (Nat.le_refl _) (.cells #[.int .i64 x.a, .int .i64 x.b, .int .i64 x.seenA, .int .i64 x.seenB, .int .i64 x.ageA, .int .i64 x.ageB] 55)) (blk_new w (.cells #[.int .i64 v.margin, .int .i64 v.lost] 53)))
  have a1 := blk_new (w.alloc (.cells #[.int .i64 v.margin, .int .i64 v.lost] 53)) (.cells #[.int .i64 x.a, .int .i64 x.b, .int .i64 x.seenA, .int .i64 x.seenB, .int .i64 x.ageA, .int .i64 x.ageB] 55)
  rw [World.size_alloc] at a1
  have a1 := Lib.hid a1
  rcases codeW_cases T v x with hc | hc | ⟨hc, hT, hx⟩
  · have Hr := Lib.hid (show ExpRes T v x 0 false 8 from .inl ⟨by omega, rfl, rfl, hc.symm⟩)
    rw [hc] at hC
    clear hc
    simp only [Wtc.cells, Wld.cells] at *
    have HC := Lib.hid hC
    clear hC
    go_enter Try.func24, Try.ntmps24
    go_wp2_with (first | (go_at_call 74; refine (HC.out _ (HB0.out _ _)).mono ?_; rintro e w2 ⟨rfl, hb2⟩))
    exact bodyPost_ret (v := .tuple #[.int .i64 0, .bool false, .int .i64 8]) (by simp [results, Try.results24, go_sem]) rfl ⟨0, false, 8, rfl, Hr.out, (HB0.out _ _).trans (hb2.mono (by simp <;> omega))⟩
  · have Hr := Lib.hid (show ExpRes T v x 0 false 1 from .inl ⟨by omega, rfl, rfl, hc.symm⟩)
    rw [hc] at hC
    clear hc
    simp only [Wtc.cells, Wld.cells] at *
    have HC := Lib.hid hC
    clear hC
    go_enter Try.func24, Try.ntmps24
    go_wp2_with (first | (go_at_call 74; refine (HC.out _ (HB0.out _ _)).mono ?_; rintro e w2 ⟨rfl, hb2⟩))
    exact bodyPost_ret (v := .tuple #[.int .i64 0, .bool false, .int .i64 1]) (by simp [results, Try.results24, go_sem]) rfl ⟨0, false, 1, rfl, Hr.out, (HB0.out _ _).trans (hb2.mono (by simp <;> omega))⟩
  · have Hc := Lib.hid hc
    rw [hc] at hC
    have hN := (fun w' => spec_New ta tn tc v x w' hx)
    have HR := Lib.hid (fun sb p w' (hb : Below w.heap.size w w') hsb hst => spec_run sb p ta tn tc rows T lo hi v x false w' (H.out.ext hb) (Nat.le_trans hhi hsb) hT hx hst)
    have Hx := Lib.hid hx
    clear hc hT hx
    simp only [Wtc.cells, Wld.cells] at hC hN ⊢
    have HC := Lib.hid hC
    have HN := Lib.hid hN
    clear hC hN
    go_enter Try.func24, Try.ntmps24
    go_wp2_with fail
    refine (HC.out _ (HB0.out _ _)).mono ?_
    rintro e w2 ⟨rfl, hb2⟩
    have B2 := (HB0.out _ _).trans (hb2.mono (by simp <;> omega))
    have e0 := blk_below' hb2 a0.out
    have e1 := blk_below' hb2 a1.out
    have c0 : w2.cell? ⟨w.heap.size, 0, none⟩ = some _ := (Lib.cell_of_heap e0 0).trans rfl
    have c1 : w2.cell? ⟨w.heap.size, 1, none⟩ = some _ := (Lib.cell_of_heap e0 1).trans rfl
    have d0 : w2.cell? ⟨w.heap.size + 1, 0, none⟩ = some _ := (Lib.cell_of_heap e1 0).trans rfl
    have d1 : w2.cell? ⟨w.heap.size + 1, 1, none⟩ = some _ := (Lib.cell_of_heap e1 1).trans rfl
    have d2 : w2.cell? ⟨w.heap.size + 1, 2, none⟩ = some _ := (Lib.cell_of_heap e1 2).trans rfl
    have d3 : w2.cell? ⟨w.heap.size + 1, 3, none⟩ = some _ := (Lib.cell_of_heap e1 3).trans rfl
    have d4 : w2.cell? ⟨w.heap.size + 1, 4, none⟩ = some _ := (Lib.cell_of_heap e1 4).trans rfl
    have d5 : w2.cell? ⟨w.heap.size + 1, 5, none⟩ = some _ := (Lib.cell_of_heap e1 5).trans rfl
    clear e0 e1 a0 a1 hb2
    go_wp2_with fail
    refine (HN.out _).mono ?_
    rintro e w3 ⟨sb, p, rfl, hsb, hst, hb3⟩
    have B3 := Lib.hid (B2.trans (hb3.mono B2.size))
    have hsb' := Nat.le_trans B2.size hsb
    have Hst := Lib.hid hst
    clear hst hb3 c0 c1 d0 d1 d2 d3 d4 d5
    go_wp2_with fail
    refine (HR.out sb p _ B3.out hsb' Hst.out).mono ?_
    rintro e w4 ⟨fd, z, l, rfl, hend, hst4, hb4⟩
    have B4 := Lib.hid (B3.out.trans (hb4.mono hsb'))
    obtain ⟨n, hn, rfl, hfo⟩ : ∃ n, DoneV T v x n ∧ l = bfs T v x n ∧ FoundOk false fd (badN T v x n) := by
      rcases hend with h | ⟨h, -⟩
      · exact h
      · cases h
    have Hr := Lib.hid (show ExpRes T v x (n : Int) (decide (0 ≤ fd)) 0 from .inr ⟨Hc.out, rfl, n, rfl, hn, by rw [found_false hfo]⟩)
    unfold DoneV at hn
    obtain ⟨wa, wc, fv, bv, sd, hbox, -⟩ := hst4.rd
    rw [← hn] at hbox
    have b3 : w4.cell? ⟨p, 3, none⟩ = some _ := (Lib.cell_of_heap hbox 3).trans rfl
    have hp4 := hst4.lt.2
    clear hbox hst4 hend hfo hn hb4
    obtain ⟨z0, z1, z2, z3⟩ := z
    simp only [Act1.cells]
    go_wp2
    exact bodyPost_ret (v := .tuple #[.int .i64 n, .bool (decide (0 ≤ fd)), .int .i64 0]) (by simp [results, Try.results24, go_sem]) rfl ⟨_, _, _, rfl, Hr.out, B4.out.alloc B4.out.size _⟩
end Go.Proofs.Yteakogdojmgehaa
