/- FirstUnsafe, the reference. -/
import Derived.Test.YteakogdojmgehaaExN
import Derived.Test.YteakogdojmgehaaTabG
namespace Go.Proofs.Yteakogdojmgehaa
open Go.RowKit
/-- What the first unsafe act answers. -/
def FirRes (T : Tab) (v : Wtc) (x : Wld) (r : List Act1) (c : Int) : Prop := (codeW T v x ≠ 0 ∧ r = [] ∧ c = codeW T v x) ∨ (codeW T v x = 0 ∧ FirC T v x r c)
theorem FirRes.uniq {T : Tab} {v : Wtc} {x : Wld} {r r' : List Act1} {c c' : Int} (h : FirRes T v x r c) (h2 : FirRes T v x r' c') : r = r' ∧ c = c' := by
  rcases h with ⟨h0, rfl, rfl⟩ | ⟨h0, h⟩ <;> rcases h2 with ⟨k0, rfl, rfl⟩ | ⟨k0, h2⟩
  · exact ⟨rfl, rfl⟩
  · exact absurd k0 h0
  · exact absurd h0 k0
  · exact h.uniq h2
theorem path_len {v : Wtc} {l : List Vis} (h : VisOk v l) {k : Nat} {p : List Act1} (hp : PathTo l k p) : p.length ≤ k := by
  induction hp with
  | root _ _ => exact Nat.zero_le _
  | @step k j p hk hj _ ih =>
    have h0 : 0 < k := by
      rcases Nat.eq_zero_or_pos k with e | e
      · subst e
        obtain ⟨h1, h2⟩ := h.root
        omega
      · exact e
    have := (h.from_ k hk h0).2
    rw [List.length_append, List.length_singleton]
    omega
theorem PathTo.lt {l : List Vis} {k : Nat} {p : List Act1} (h : PathTo l k p) : k < l.length := by cases h <;> assumption
/-- One step back. -/
theorem PathTo.back {v : Wtc} {l : List Vis} (hl : VisOk v l) {k : Nat} {p : List Act1} (h : PathTo l k p) (hk : k < l.length) : (l[k].from_ < 0 ∧ p = [] ∧ k = 0) ∨ (∃ (j : Nat) (p' : List Act1), l[k].from_ = (j : Int) ∧ j < k ∧ PathTo l j p' ∧ p = p' ++ [l[k].act]) := by
  have h0 : l[k].from_ < 0 → k = 0 := fun h1 => by
    rcases Nat.eq_zero_or_pos k with e | e
    · exact e
    · have := (hl.from_ k hk e).1; omega
  cases h with
  | root h h1 => exact .inl ⟨h1, rfl, h0 h1⟩
  | @step _ j p' h hj hp =>
    refine .inr ⟨j, p', hj, ?_, hp, rfl⟩
    rcases Nat.eq_zero_or_pos k with e | e
    · subst e
      obtain ⟨h2, h3⟩ := hl.root
      omega
    · have := (hl.from_ k hk e).2; omega
theorem XSt.rd2 {sb p : Nat} {tv : Value} {v : Wtc} {l : List Vis} {w : World} {Fs : Nat → Prop} (h : XSt sb p tv v l w Fs) : ∃ wv fa fc ba bc sd, w.heap[p]? = some (.cells #[tv, .int .i64 v.margin, .int .i64 v.lost, wv, .slice fa l.length fc, .slice ba l.length bc, sd] 103 (0, 0)) ∧ Sl 1 intCells (p + 1) w.heap.size w (.slice fa l.length fc) (l.map Vis.from_) ∧ Sl 4 Act1.cells (p + 1) w.heap.size w (.slice ba l.length bc) (l.map Vis.act) := by
  obtain ⟨wv, fv, bv, f, hi, hs, hf⟩ := h
  obtain ⟨fa, fc, rfl⟩ := own_val hi.fo
  obtain ⟨ba, bc, rfl⟩ := own_val hi.bo
  have h1 := hi.box
  have h2 := (hi.fo.slw intCells_len).1
  have h3 := (hi.bo.slw Act1.len).1
  rw [List.length_map] at h1 h2 h3
  rw [List.length_map] at h1
  exact ⟨wv, fa, fc, ba, bc, _, h1, h2, h3⟩
def FirE (T : Tab) (v : Wtc) (x : Wld) (w : World) (e : Ending) (w' : World) : Prop :=
  ∃ (vr : Value) (r : List Act1) (rc : Int), e = .returned (.tuple #[vr, .int .i64 rc]) ∧ FirRes T v x r rc ∧ Slw 4 Act1.cells w.heap.size w'.heap.size w' vr r ∧ Below w.heap.size w w'
set_option maxRecDepth 100000 in
set_option maxHeartbeats 16000000 in
theorem spec_First (tv : Value) (rows : List SV) (T : Tab) (lo hi : Nat) (v : Wtc) (x : Wld) (w : World) (h : TabR lo hi w tv rows T) (hhi : hi ≤ w.heap.size) :
    Calls Try.prog 41 #[tv, .agg v.cells.toArray, .agg x.cells.toArray] w (FirE T v x w) := by
  have hC := fun w' (hb : Below w.heap.size w w') => spec_Code tv rows T lo hi v x w' (h.ext hb)
  have hB0 : ∀ A B : Obj, Below w.heap.size w ((w.alloc A).alloc B) := fun A B => ((Below.refl _ w).alloc (Nat.le_refl _) _).alloc (by simp) _
  have HB0 := Lib.hid hB0
  have H := Lib.hid h
  clear hB0
  obtain ⟨⟨ta, tc, rfl, -, -⟩, -, -⟩ := h
  generalize htn : rows.length = tn at *
  clear htn
  have a0 := Lib.hid (blk_below' ((Below.refl _ _).alloc (Nat.le_refl _) (.cells #[.int .i64 x.a, .int .i64 x.b, .int .i64 x.seenA, .int .i64 x.seenB, .int .i64 x.ageA, .int .i64 x.ageB] 55)) (blk_new w (.cells #[.int .i64 v.margin, .int .i64 v.lost] 53)))
  have a1 := blk_new (w.alloc (.cells #[.int .i64 v.margin, .int .i64 v.lost] 53)) (.cells #[.int .i64 x.a, .int .i64 x.b, .int .i64 x.seenA, .int .i64 x.seenB, .int .i64 x.ageA, .int .i64 x.ageB] 55)
  rw [World.size_alloc] at a1
  have a1 := Lib.hid a1
  rcases codeW_cases T v x with hc | hc | ⟨hc, hT, hx⟩
  · have Hr := Lib.hid (show FirRes T v x [] 8 from .inl ⟨by omega, rfl, hc.symm⟩)
    rw [hc] at hC
    clear hc
    simp only [Wtc.cells, Wld.cells] at *
    have HC := Lib.hid hC
    clear hC
    go_enter Try.func41, Try.ntmps41
    go_wp2_with (first | (go_at_call 74; refine (HC.out _ (HB0.out _ _)).mono ?_; rintro e w2 ⟨rfl, hb2⟩))
    exact bodyPost_ret (v := .tuple #[.slice none 0 0, .int .i64 8]) (by simp [results, Try.results41, go_sem]) rfl ⟨_, [], 8, rfl, Hr.out, slw_nil, (HB0.out _ _).trans (hb2.mono (by simp <;> omega))⟩
  · have Hr := Lib.hid (show FirRes T v x [] 1 from .inl ⟨by omega, rfl, hc.symm⟩)
    rw [hc] at hC
    clear hc
    simp only [Wtc.cells, Wld.cells] at *
    have HC := Lib.hid hC
    clear hC
    go_enter Try.func41, Try.ntmps41
    go_wp2_with (first | (go_at_call 74; refine (HC.out _ (HB0.out _ _)).mono ?_; rintro e w2 ⟨rfl, hb2⟩))
    exact bodyPost_ret (v := .tuple #[.slice none 0 0, .int .i64 1]) (by simp [results, Try.results41, go_sem]) rfl ⟨_, [], 1, rfl, Hr.out, slw_nil, (HB0.out _ _).trans (hb2.mono (by simp <;> omega))⟩
  · have Hc := Lib.hid hc
    rw [hc] at hC
    have hN := (fun w' => spec_New ta tn tc v x w' hx)
    have HR := Lib.hid (fun sb p w' (hb : Below w.heap.size w w') hsb hst => spec_run sb p ta tn tc rows T lo hi v x true w' (H.out.ext hb) (Nat.le_trans hhi hsb) hT hx hst)
    have Hx := Lib.hid hx
    clear hc hT hx
    simp only [Wtc.cells, Wld.cells] at hC hN ⊢
    have HC := Lib.hid hC
    have HN := Lib.hid hN
    clear hC hN
    go_enter Try.func41, Try.ntmps41
    go_wp2_with fail
    refine (HC.out _ (HB0.out _ _)).mono ?_
    rintro e w2 ⟨rfl, hb2⟩
    have B2 := (HB0.out _ _).trans (hb2.mono (by simp <;> omega))
    have e0 := blk_below' hb2 a0.out
    have e1 := blk_below' hb2 a1.out
    have c0 : w2.cell? ⟨w.heap.size, 0, none⟩ = some _ := (Lib.cell_of_heap e0 0).trans rfl
    have c1 : w2.cell? ⟨w.heap.size, 1, none⟩ = some _ := (Lib.cell_of_heap e0 1).trans rfl
    have d0 : w2.cell? ⟨w.heap.size + 1, 0, none⟩ = some _ := (Lib.cell_of_heap e1 0).trans rfl
    have d1 : w2.cell? ⟨w.heap.size + 1, 1, none⟩ = some _ := (Lib.cell_of_heap e1 1).trans rfl
    have d2 : w2.cell? ⟨w.heap.size + 1, 2, none⟩ = some _ := (Lib.cell_of_heap e1 2).trans rfl
    have d3 : w2.cell? ⟨w.heap.size + 1, 3, none⟩ = some _ := (Lib.cell_of_heap e1 3).trans rfl
    have d4 : w2.cell? ⟨w.heap.size + 1, 4, none⟩ = some _ := (Lib.cell_of_heap e1 4).trans rfl
    have d5 : w2.cell? ⟨w.heap.size + 1, 5, none⟩ = some _ := (Lib.cell_of_heap e1 5).trans rfl
    clear e0 e1 a0 a1 hb2
    go_wp2_with fail
    refine (HN.out _).mono ?_
    rintro e w3 ⟨sb, p, rfl, hsb, hst, hb3⟩
    have B3 := Lib.hid (B2.trans (hb3.mono B2.size))
    have hsb' := Nat.le_trans B2.size hsb
    have Hst := Lib.hid hst
    clear hst hb3 c0 c1 d0 d1 d2 d3 d4 d5
    go_wp2_with fail
    refine (HR.out sb p _ B3.out hsb' Hst.out).mono ?_
    rintro e w4 ⟨fd, z, l, rfl, hend, hst4, hb4⟩
    have B4 := Lib.hid (B3.out.trans (hb4.mono hsb'))
    have hs4 := B4.out.size
    have Hst4 := Lib.hid hst4
    have hp4 := hst4.lt.2
    have hsp4 := hst4.lt.1
    clear hst4 hb4
    obtain ⟨z0, z1, z2, z3⟩ := z
    simp only [Act1.cells]
    rcases hend with ⟨n, hn, rfl, hfo⟩ | ⟨-, i, j, hi2, rfl, hbad, hj, hnone, hun, hz, hpre⟩
    · obtain ⟨rfl, hb⟩ : fd = -1 ∧ badN T v x n = false := by
        rcases hfo with h | ⟨h, -⟩
        · exact h
        · cases h
      have Hr := Lib.hid (show FirRes T v x [] 3 from .inr ⟨Hc.out, .inr ⟨rfl, rfl, n, hn, hb⟩⟩)
      clear hn hfo hb
      go_wp2
      exact bodyPost_ret (v := .tuple #[.slice none 0 0, .int .i64 3]) (by simp [results, Try.results41, go_sem]) rfl ⟨_, [], 3, rfl, Hr.out, slw_nil, B4.out.alloc B4.out.size _⟩
    · have Hvo := Lib.hid (bfs_ok (T := T) Hx.out i)
      obtain ⟨pth, hpth⟩ := path_ex Hvo.out i i (Nat.le_refl _) hi2
      have Hr := Lib.hid (show FirRes T v x (pth ++ [⟨z0, z1, z2, z3⟩]) 0 from .inr ⟨Hc.out, .inl ⟨rfl, i, j, pth, ⟨hi2, hbad, hj, hnone, hun, hpth, by rw [hz]⟩⟩⟩)
      have Hpre := Lib.hid hpre
      generalize hL : bfs T v x i = L0 at *
      clear hbad hnone hun hz hL hj hpre
      have hO5 : Own 4 Act1.cells w.heap.size 69 ((w4.alloc (.cells #[.int .i64 z0, .int .i64 z1, .bool z2, .bool z3] 69)).alloc (.cells #[.int .i64 z0, .int .i64 z1, .bool z2, .bool z3] 69)) _ [⟨z0, z1, z2, z3⟩] := World.ownsRow_lit (w4.alloc (.cells #[.int .i64 z0, .int .i64 z1, .bool z2, .bool z3] 69)) #[.int .i64 z0, .int .i64 z1, .bool z2, .bool z3] 1 (by simp; omega) (by unfold maxLen; omega) rfl
      simp only [World.size_alloc] at hO5
      have hb5 : Below w4.heap.size w4 ((w4.alloc (.cells #[.int .i64 z0, .int .i64 z1, .bool z2, .bool z3] 69)).alloc (.cells #[.int .i64 z0, .int .i64 z1, .bool z2, .bool z3] 69)) := ((Below.refl _ _).alloc (Nat.le_refl _) _).alloc (by simp) _
      have hB5 := B4.out.trans (hb5.mono hs4)
      have hS5 := Lib.hid (Hst4.out.ext hb5)
      have hO5 := Lib.hid hO5
      have hpl20 := path_len Hvo.out hpth
      have hil20 := Hvo.out.len
      have hil := hpth.lt
      have Hpth := Lib.hid hpth
      clear hpth hb5
      go_wp2_with fail
      go_loopw [10, 12] (fun io o wr => ∃ (k : Nat) (acc p' : List Act1), io = .int .i64 k ∧ Hid (PathTo L0 k p') ∧ Hid (p' ++ acc = pth ++ [⟨z0, z1, z2, z3⟩]) ∧ 0 < acc.length ∧ Hid (Own 4 Act1.cells w.heap.size 69 wr o acc) ∧ Below w.heap.size w wr ∧ Hid (XSt sb p (.slice ta tn tc) v l wr (fun _ => False))) (fun io _ _ => (intOf io).toNat)
      case atStart => exact ⟨i, _, pth, rfl, Hpth, Lib.hid rfl, by simp, hO5, hB5, hS5⟩
      case round =>
        clear hO5 hB5 hS5
        obtain ⟨k, acc, p', rfl, hpt, heq, hacc, hO, hB, hS⟩ := hrel
        have hkl := hpt.out.lt
        have hk2 := Nat.lt_of_lt_of_le hkl (Hpre.out.length_le)
        have hget : l[k] = L0[k] := (pre_get Hpre.out hkl).2
        have hlacc : acc.length ≤ 20737 := by have := congrArg List.length heq.out; simp at this; omega
        have hszr := hB.size
        obtain ⟨wv, fa, fc, ba, bc, sd, hbox, hfr, hby⟩ := hS.out.rd2
        have b4 : wr.cell? ⟨p, 4, none⟩ = some _ := (Lib.cell_of_heap hbox 4).trans rfl
        have b5 : wr.cell? ⟨p, 5, none⟩ = some _ := (Lib.cell_of_heap hbox 5).trans rfl
        have hpr : p < wr.heap.size := (Array.getElem?_eq_some_iff.1 hbox).1
        obtain ⟨fb, fo, rfl⟩ := hfr.addr (by rw [List.length_map]; omega)
        obtain ⟨bb, bo, rfl⟩ := hby.addr (by rw [List.length_map]; omega)
        have f0 := Ints.at hfr.get (k := k) (by rw [List.length_map]; exact hk2)
        obtain ⟨g0, g1, g2, g3⟩ := Act1s.at hby.get (k := k) (by rw [List.length_map]; exact hk2)
        rw [List.getElem_map, hget] at f0 g0 g1 g2 g3
        have hfb := World.block_lt_of_cell? wr _ f0
        have hbb := World.block_lt_of_cell? wr _ g0
        clear hbox hfr hby
        rcases hpt.out.back Hvo.out hkl with ⟨hneg, rfl, -⟩ | ⟨j, p'', hj, hjk, hpj, rfl⟩
        · have Hacc := Lib.hid (hO.out.slw Act1.len)
          have Heq : Hid (acc = pth ++ [⟨z0, z1, z2, z3⟩]) := Lib.hid (by have := heq.out; simpa using this)
          generalize L0[k].from_ = ff at *
          have hdn : decide (0 ≤ ff) = false := by simp; omega
          obtain ⟨ga, gc, rfl⟩ := own_val hO.out
          have Hfin := Lib.hid (show FirE T v x w (.returned (.tuple #[.slice ga acc.length gc, .int .i64 0])) wr from ⟨_, _, 0, rfl, Hr.out, by rw [← Heq.out]; exact Hacc.out, hB⟩)
          go_wp2
          exact bodyPost_ret (v := .tuple #[.slice ga acc.length gc, .int .i64 0]) (by simp [results, Try.results41, go_sem]) rfl Hfin.out
        · rw [hj] at f0
          have Hpj := Lib.hid hpj
          have Heq : Hid (p'' ++ (L0[k].act :: acc) = pth ++ [⟨z0, z1, z2, z3⟩]) := Lib.hid (by have h2 := heq.out; simpa using h2)
          generalize L0[k].act = za at *
          have hoa : Own 4 Act1.cells w.heap.size 69 (wr.alloc (.cells #[.int .i64 (za).turnA, .int .i64 (za).turnB, .bool (za).loseA, .bool (za).loseB] 69 (0, 0))) (.slice (some ⟨wr.heap.size, 0, none⟩) 1 1) [za] := World.ownsRow_lit wr #[.int .i64 za.turnA, .int .i64 za.turnB, .bool za.loseA, .bool za.loseB] 1 hszr (by unfold maxLen; omega) rfl
          obtain ⟨ga, gc, rfl⟩ := own_val hO.out
          obtain ⟨gb, go, rfl⟩ := Sl.addr (hO.out.slw Act1.len).1 hacc
          have hba : Below wr.heap.size wr (wr.alloc (.cells #[.int .i64 (za).turnA, .int .i64 (za).turnB, .bool (za).loseA, .bool (za).loseB] 69 (0, 0))) := (Below.refl _ _).alloc (Nat.le_refl _) _
          have hrd := (hO.out.slw Act1.len).1.ext hba
          have Hoa := Lib.hid hoa
          have Hrd := Lib.hid hrd
          clear hj hpj hget hoa hrd hba
          go_wp2_with (at_builtin; refine wpList_appN (c := Act1.cells) (bytes := 24) rfl _ _ 65 69 rfl Try.underlying65 info_ActA (by omega) Act1.len Act1.one w.heap.size [za] acc (.slice (some ⟨wr.heap.size, 0, none⟩) 1 1) rfl Hoa.out _ _ gb go gc rfl Hrd.out (by simp; omega) (by simp; omega) (by simp; omega) ?_; intro v8 w8 hown8 hg8; have hb8 : Below wr.heap.size wr w8 := ((Below.refl wr.heap.size wr).alloc (Nat.le_refl _) _).grown hg8 (by simp) (fun k hk => by simp [Value.ownBlock] at hk; omega); have b4 := (hb8.cell (p := ⟨p, 4, none⟩) hpr).trans b4; have f0 := (hb8.cell (p := ⟨fb, fo + k, none⟩) hfb).trans f0; have Hown8 := Lib.hid hown8; have Hb8 := Lib.hid hb8; clear hown8 hg8 hb8)
          go_roundw
          case rel => exact ⟨j, za :: acc, p'', rfl, Hpj, Heq, by simp, Hown8, hB.trans (Hb8.out.mono hszr), Lib.hid (hS.out.ext Hb8.out)⟩
          case measure => simp [intOf]; omega
end Go.Proofs.Yteakogdojmgehaa
