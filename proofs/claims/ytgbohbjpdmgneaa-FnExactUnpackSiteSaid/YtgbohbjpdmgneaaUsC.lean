/- The reference's reader: cranes. -/
import Derived.Test.YtgbohbjpdmgneaaUs
import Derived.Test.YtgbohbjpdmgneaaUrC
namespace Go.Proofs.Ytgbohbjpdmgneaa
open Go.RowKit
/-- The reader, the crane that is being read, the result's box. -/
structure CSt (b P : Nat) (l : List UInt8) (q : Nat) (ok : Bool) (cs : Array Value) (w W : World) : Prop where
  rd : Rd b l q ok W
  x : W.heap[P]? = some (.cells cs 51)
  y : W.heap[w.heap.size]? = some (.cells #[.string ⟨#[]⟩, .int .i64 0, .int .i64 0, .int .i64 0, .int .i64 0, .int .i64 0, .slice none 0 0] 51)
  m : Mod b (b + 1) w W
  lt : b < w.heap.size ∧ w.heap.size < P
section
variable {b P : Nat} {l : List UInt8} {q q' : Nat} {ok ok' : Bool} {cs : Array Value} {w W W' : World}
theorem CSt.size (h : CSt b P l q ok cs w W) : P < W.heap.size := (Array.getElem?_eq_some_iff.1 h.x).1
theorem CSt.call (h : CSt b P l q ok cs w W) (hr : Rd b l q' ok' W') (hm : Mod b (b + 1) W W') : CSt b P l q' ok' cs w W' := by
  have h1 := h.lt
  have h2 := h.size
  exact ⟨hr, (hm.block P h2 (.inr (by omega))).trans h.x, (hm.block _ (by omega) (.inr (by omega))).trans h.y, h.m.trans hm, h1⟩
theorem CSt.put (h : CSt b P l q ok cs w W) (j : Nat) (v : Value) : CSt b P l q ok (cs.setIfInBounds j v) w (W.setCell ⟨P, j, none⟩ v) := by
  have h1 := h.lt
  have h2 := h.size
  refine ⟨h.rd.far (show P ≠ b by omega) v, ?_, (Below.heap_setCell W ⟨P, j, none⟩ v w.heap.size (show w.heap.size ≠ P by omega)).trans h.y, h.m.new (show w.heap.size ≤ P by omega) v, h1⟩
  have := h.x
  simp [World.setCell, Array.getElem?_modify, this]
theorem CSt.cell (h : CSt b P l q ok cs w W) (j : Nat) {v : Value} (hv : cs[j]? = some v) : W.cell? ⟨P, j, none⟩ = some v := (Lib.cell_of_heap h.x j).trans hv
theorem CSt.fz (h : CSt b P l q ok cs w W) (j : Nat) : W.frozen? ⟨P, j, none⟩ = false := Lib.frozen_of_heap h.x j
end
def CrnS (b : Nat) (l : List UInt8) (p : Nat) (ok : Bool) (w : World) (e : Ending) (w' : World) : Prop :=
  ∃ (f : CraneF) (s : SV) (a : List Chs) (q : Nat) (ok' : Bool), e = .returned (.agg (CraneR.cells ⟨f, s⟩).toArray) ∧ Own 2 Chs.cells w.heap.size 48 w' s.v a ∧ a.length ≤ 20 ∧ (f.wf ∧ ∀ y ∈ a, y.wf) ∧ q ≤ l.length ∧ Rd b l q ok' w' ∧
    (ok = true → ∀ x r0, craneFit x → l.drop p = craneBytes x ++ r0 → f = x.1 ∧ a = x.2 ∧ l.drop q = r0 ∧ ok' = true) ∧ (ok' = true → ok = true ∧ l.drop p = craneBytes (f, a) ++ l.drop q) ∧ Mod b (b + 1) w w'
set_option maxRecDepth 100000 in
set_option maxHeartbeats 8000000 in
theorem spec_crnR (b : Nat) (l : List UInt8) (p : Nat) (ok : Bool) (w : World) (h : Rd b l p ok w) (hl : l.length ≤ 1048576) (hp0 : p ≤ l.length) : Calls Try.prog 118 #[.pointer (some ⟨b, 0, none⟩)] w (CrnS b l p ok w) := by
  have hbl := h.lt
  have hba : Below w.heap.size w (w.alloc (.cells #[.string ⟨#[]⟩, .int .i64 0, .int .i64 0, .int .i64 0, .int .i64 0, .int .i64 0, .slice none 0 0] 51)) := (Below.refl _ _).alloc (Nat.le_refl _) _
  have hy0 := Lib.hid (blkN_new w (.cells #[.string ⟨#[]⟩, .int .i64 0, .int .i64 0, .int .i64 0, .int .i64 0, .int .i64 0, .slice none 0 0] 51))
  have hN := Lib.hid (spec_txtR b l p ok _ (h.ext hba) hl hp0)
  have M0 : Mod b (b + 1) w (w.alloc (.cells #[.string ⟨#[]⟩, .int .i64 0, .int .i64 0, .int .i64 0, .int .i64 0, .int .i64 0, .slice none 0 0] 51)) := Mod.of_below hba
  clear h hba
  go_enter Try.func118, Try.ntmps118
  go_wp2_with fail
  refine hN.out.mono ?_
  rintro e w1 ⟨x0, q1, ok1, rfl, hx0, hq1, hu1, hc1, hs1, hm1⟩
  have hR1 : w.heap.size < w1.heap.size := Nat.lt_of_lt_of_le (by simp) hm1.size
  have st1 : Hid (CSt b w1.heap.size l q1 ok1 #[.string x0, .int .i64 0, .int .i64 0, .int .i64 0, .int .i64 0, .int .i64 0, .slice none 0 0] w (w1.alloc (.cells #[.string x0, .int .i64 0, .int .i64 0, .int .i64 0, .int .i64 0, .int .i64 0, .slice none 0 0] 51))) := Lib.hid (by
    have hb1 : Below w1.heap.size w1 (w1.alloc (.cells #[.string x0, .int .i64 0, .int .i64 0, .int .i64 0, .int .i64 0, .int .i64 0, .slice none 0 0] 51)) := (Below.refl _ _).alloc (Nat.le_refl _) _
    exact ⟨hu1.ext hb1, blkN_new w1 _, (hb1.block _ hR1).trans ((hm1.block w.heap.size (by simp) (.inr (by omega))).trans hy0.out), (M0.trans hm1).then hb1, hbl, hR1⟩)
  have Hc1 := Lib.hid hc1
  have Hs1 := Lib.hid hs1
  have hN := Lib.hid (spec_pntR b l q1 ok1 _ st1.out.rd hl hq1)
  clear hc1 hs1 hu1 hm1 hy0 M0
  generalize hPP : w1.heap.size = P at *
  go_wp2_with fail
  refine hN.out.mono ?_
  rintro e w2 ⟨x1, x2, q2, ok2, rfl, ⟨F1, F2⟩, hq2, hu2, hc2, hs2, hm2⟩
  have st2 := Lib.hid (st1.out.call hu2 hm2)
  have Hc2 := Lib.hid hc2
  have Hs2 := Lib.hid hs2
  have ef : ∀ j, w2.frozen? ⟨P, j, none⟩ = false := fun j => st2.out.fz j
  have ed1 := st2.out.cell 1 rfl
  have ed2 := st2.out.cell 2 rfl
  have ed3 := st2.out.cell 3 rfl
  have ed4 := st2.out.cell 4 rfl
  have ed5 := st2.out.cell 5 rfl
  clear hc2 hm2 hs2 hu2 st1 hN
  have st2 : Hid (CSt b P l q2 ok2 #[.string x0, .int .i64 x1, .int .i64 x2, .int .i64 0, .int .i64 0, .int .i64 0, .slice none 0 0] w ((w2.setCell ⟨P, 1, none⟩ (.int .i64 x1)).setCell ⟨P, 2, none⟩ (.int .i64 x2))) := Lib.hid ((st2.out.put 1 (.int .i64 x1)).put 2 (.int .i64 x2))
  have hN := Lib.hid (spec_numR b l q2 ok2 _ st2.out.rd hl hq2)
  go_wp2_with fail
  clear ef ed1 ed2 ed3 ed4 ed5
  refine hN.out.mono ?_
  rintro e w3 ⟨x3, q3, ok3, rfl, F3, hq3, hu3, hc3, hs3, hm3⟩
  have st3 := Lib.hid (st2.out.call hu3 hm3)
  have Hc3 := Lib.hid hc3
  have Hs3 := Lib.hid hs3
  have ef : ∀ j, w3.frozen? ⟨P, j, none⟩ = false := fun j => st3.out.fz j
  have ed1 := st3.out.cell 1 rfl
  have ed2 := st3.out.cell 2 rfl
  have ed3 := st3.out.cell 3 rfl
  have ed4 := st3.out.cell 4 rfl
  have ed5 := st3.out.cell 5 rfl
  clear hc3 hm3 hs3 hu3 st2 hN
  have st3 : Hid (CSt b P l q3 ok3 #[.string x0, .int .i64 x1, .int .i64 x2, .int .i64 x3, .int .i64 0, .int .i64 0, .slice none 0 0] w (w3.setCell ⟨P, 3, none⟩ (.int .i64 x3))) := Lib.hid (st3.out.put 3 (.int .i64 x3))
  have hN := Lib.hid (spec_numR b l q3 ok3 _ st3.out.rd hl hq3)
  go_wp2_with fail
  clear ef ed1 ed2 ed3 ed4 ed5
  refine hN.out.mono ?_
  rintro e w4 ⟨x4, q4, ok4, rfl, F4, hq4, hu4, hc4, hs4, hm4⟩
  have st4 := Lib.hid (st3.out.call hu4 hm4)
  have Hc4 := Lib.hid hc4
  have Hs4 := Lib.hid hs4
  have ef : ∀ j, w4.frozen? ⟨P, j, none⟩ = false := fun j => st4.out.fz j
  have ed1 := st4.out.cell 1 rfl
  have ed2 := st4.out.cell 2 rfl
  have ed3 := st4.out.cell 3 rfl
  have ed4 := st4.out.cell 4 rfl
  have ed5 := st4.out.cell 5 rfl
  clear hc4 hm4 hs4 hu4 st3 hN
  have st4 : Hid (CSt b P l q4 ok4 #[.string x0, .int .i64 x1, .int .i64 x2, .int .i64 x3, .int .i64 x4, .int .i64 0, .slice none 0 0] w (w4.setCell ⟨P, 4, none⟩ (.int .i64 x4))) := Lib.hid (st4.out.put 4 (.int .i64 x4))
  have hN := Lib.hid (spec_numR b l q4 ok4 _ st4.out.rd hl hq4)
  go_wp2_with fail
  clear ef ed1 ed2 ed3 ed4 ed5
  refine hN.out.mono ?_
  rintro e w6 ⟨x5, q6, ok6, rfl, F5, hq6, hu6, hc6, hs6, hm6⟩
  have st6 := Lib.hid (st4.out.call hu6 hm6)
  have Hc6 := Lib.hid hc6
  have Hs6 := Lib.hid hs6
  have ef : ∀ j, w6.frozen? ⟨P, j, none⟩ = false := fun j => st6.out.fz j
  have ed1 := st6.out.cell 1 rfl
  have ed2 := st6.out.cell 2 rfl
  have ed3 := st6.out.cell 3 rfl
  have ed4 := st6.out.cell 4 rfl
  have ed5 := st6.out.cell 5 rfl
  clear hc6 hm6 hs6 hu6 st4 hN
  have st6 : Hid (CSt b P l q6 ok6 #[.string x0, .int .i64 x1, .int .i64 x2, .int .i64 x3, .int .i64 x4, .int .i64 x5, .slice none 0 0] w (w6.setCell ⟨P, 5, none⟩ (.int .i64 x5))) := Lib.hid (st6.out.put 5 (.int .i64 x5))
  have HF : Hid (CraneF.wf ⟨x0, x1, x2, x3, x4, x5⟩) := Lib.hid ⟨by unfold maxLen; dsimp only; omega, i64_fit F1, i64_fit F2, i64_fit F3, i64_fit F4, i64_fit F5⟩
  clear F1 F2 F3 F4 F5
  have hN := Lib.hid (spec_cntR b 20 l q6 ok6 _ st6.out.rd hl hq6 (by omega))
  go_wp2_with fail
  clear ef ed1 ed2 ed3 ed4 ed5
  refine hN.out.mono ?_
  rintro e w7 ⟨n, q7, ok7, rfl, hn10, hq7, hu7, hc7, hs7, hm7⟩
  have st7 := Lib.hid (st6.out.call hu7 hm7)
  have Hc7 := Lib.hid hc7
  have Hs7 := Lib.hid hs7
  have ef : ∀ j, w7.frozen? ⟨P, j, none⟩ = false := fun j => st7.out.fz j
  have ed1 := st7.out.cell 1 rfl
  have ed2 := st7.out.cell 2 rfl
  have ed3 := st7.out.cell 3 rfl
  have ed4 := st7.out.cell 4 rfl
  have ed5 := st7.out.cell 5 rfl
  clear hc7 hm7 hs7 hu7 st6 hN
  have hcomp : Hid (ok = true → ∀ x r0, craneFit x → l.drop p = craneBytes x ++ r0 → (⟨x0, x1, x2, x3, x4, x5⟩ : CraneF) = x.1 ∧ n = x.2.length ∧ l.drop q7 = chsB x.2 ++ r0 ∧ ok7 = true) := Lib.hid (by
    rintro hok ⟨⟨y0, y1, y2, y3, y4, y5⟩, a⟩ r0 ⟨f0, f1, f2, f3, f4, f5, f6⟩ he
    unfold craneBytes craneHead at he
    simp only [List.append_assoc] at he
    dsimp only at *
    obtain ⟨rfl, g1, k1⟩ := Hc1.out hok _ _ f0 he
    obtain ⟨rfl, rfl, g2, k2⟩ := Hc2.out k1 _ _ _ f1.1 f1.2 g1
    obtain ⟨rfl, g3, k3⟩ := Hc3.out k2 _ _ f2 g2
    obtain ⟨rfl, g4, k4⟩ := Hc4.out k3 _ _ f3 g3
    obtain ⟨rfl, g6, k6⟩ := Hc6.out k4 _ _ f4 g4
    obtain ⟨rfl, g7, k7⟩ := Hc7.out k6 a.length _ (by omega) (f49_small (by omega) (by omega)) g6
    exact ⟨rfl, rfl, g7, k7⟩)
  have hsnd : Hid (ok7 = true → ok = true ∧ l.drop p = craneHead ⟨x0, x1, x2, x3, x4, x5⟩ n ++ l.drop q7) := Lib.hid (fun h7 => by
    obtain ⟨k6, g7⟩ := Hs7.out h7
    obtain ⟨k4, g6⟩ := Hs6.out k6
    obtain ⟨k3, g4⟩ := Hs4.out k4
    obtain ⟨k2, g3⟩ := Hs3.out k3
    obtain ⟨k1, g2⟩ := Hs2.out k2
    obtain ⟨k0, g1⟩ := Hs1.out k1
    refine ⟨k0, ?_⟩
    rw [g1, g2, g3, g4, g6, g7]
    unfold craneHead
    simp only [List.append_assoc])
  clear Hc1 Hc2 Hc3 Hc4 Hc6 Hc7 Hs1 Hs2 Hs3 Hs4 Hs6 Hs7 hq1 hq2 hq3 hq4 hq6 hPP
  have hP := st7.out.lt.2
  go_wp2
  go_loopw [4, 5] (fun i i5 wr => ∃ (m : Nat) (s : SV) (acc : List Chs) (q : Nat) (o : Bool), acc.length + m = n ∧ i = .int .i64 m ∧ q ≤ l.length ∧ Hid (CSt b P l q o #[.string x0, .int .i64 x1, .int .i64 x2, .int .i64 x3, .int .i64 x4, .int .i64 x5, s.v] w wr) ∧ Hid (Own 2 Chs.cells (P + 1) 48 wr s.v acc) ∧ Hid (∀ y ∈ acc, y.wf) ∧
    Hid (ok = true → ∀ x r0, craneFit x → l.drop p = craneBytes x ++ r0 → acc = x.2.take acc.length ∧ l.drop q = chsB (x.2.drop acc.length) ++ r0 ∧ o = true) ∧ Hid (o = true → ok = true ∧ l.drop p = craneHead ⟨x0, x1, x2, x3, x4, x5⟩ n ++ (chsB acc ++ l.drop q))) (fun i _ _ => (intOf i).toNat)
  case atStart => exact ⟨n, ⟨none, 0, 0⟩, [], q7, ok7, by simp, rfl, hq7, st7, Lib.hid (own_nil _ _ _), Lib.hid (fun y hy => by cases hy), Lib.hid (fun hok x r0 h1 h2 => by obtain ⟨_, _, h3, h4⟩ := hcomp.out hok x r0 h1 h2; exact ⟨by simp, by simpa using h3, h4⟩), Lib.hid (fun h => by obtain ⟨h1, h2⟩ := hsnd.out h; exact ⟨h1, by simpa [chsB] using h2⟩)⟩
  case round =>
    clear st7 ef hq7 ed1 ed2 ed3 ed4 ed5
    obtain ⟨m, ⟨sa, sl, sc⟩, acc, q, o, hmn, rfl, hq, hst, hown, hwf, hcp, hsd⟩ := hrel
    simp only [SV.v] at *
    have d0 := hst.out.cell 0 rfl
    have d1 := hst.out.cell 1 rfl
    have d2 := hst.out.cell 2 rfl
    have d3 := hst.out.cell 3 rfl
    have d4 := hst.out.cell 4 rfl
    have d5 := hst.out.cell 5 rfl
    have d6 := hst.out.cell 6 rfl
    have c2 := hst.out.rd.c2
    have hbP : b ≠ P := by omega
    have hPs := hst.out.size
    have hak : acc.length ≤ 20 := by omega
    by_cases hgo : 0 < m ∧ o = true
    · obtain ⟨hm0, rfl⟩ := hgo
      have hgt : decide ((0 : Int) < (m : Int)) = true := decide_eq_true (by omega)
      have hN := Lib.hid (spec_numR b l q true wr hst.out.rd hl hq)
      go_wp2_with fail
      refine hN.out.mono ?_
      rintro e w8 ⟨v, q8, o8, rfl, Fv, hq8, hu8, hc8, hs8, hm8⟩
      have st8 := Lib.hid (hst.out.call hu8 hm8)
      have ho8 := Lib.hid (own_mod2 hown.out hm8 (by omega))
      have hs8z := hm8.size
      have Hc8 := Lib.hid hc8
      have Hs8 := Lib.hid hs8
      have hN8 := Lib.hid (spec_numR b l q8 o8 w8.drew st8.out.rd hl hq8)
      have e8 := st8.out.cell 6 rfl
      clear hu8 hc8 hm8 hs8 hN
      go_wp2_with fail
      refine region_ph 7 (fun _ => True) (fun w' => w'.cell? ⟨P, 6, none⟩ = some (.slice sa sl sc)) (by kernel_rfl) trivial e8 (fun hp => ?_)
      refine take_ph 35 (i := 0) rfl rfl (by decide) (by kernel_rfl) (by kernel_rfl) (by kernel_rfl) (fun _ _ _ h => h) (by rfl) (fun w hSw => by (try dsimp only at hSw); go_simp; first | done | with_reducible rfl) hp (fun hp => ?_)
      try simp only [Act.put, List.setIfInBounds_toArray, List.set_cons_zero, List.set_cons_succ]
      refine take_ph1 36 (i := 1) rfl rfl (by decide) (by rfl) (by kernel_rfl) (by kernel_rfl) (by kernel_rfl) (by kernel_rfl) (fun _ _ _ h => h) (by rfl) (fun w hSw hBw => by (try dsimp only at hSw hBw); go_simp; first | done | with_reducible rfl) hp (fun hp => ?_)
      try simp only [Act.put, List.setIfInBounds_toArray, List.set_cons_zero, List.set_cons_succ]
      refine take_ph 37 (i := 2) rfl rfl (by decide) (by kernel_rfl) (by kernel_rfl) (by kernel_rfl) (fun _ _ _ h => h) (by rfl) (fun w hSw => by (try dsimp only at hSw); go_simp; first | done | with_reducible rfl) hp (fun hp => ?_)
      try simp only [Act.put, List.setIfInBounds_toArray, List.set_cons_zero, List.set_cons_succ]
      refine take_ph 38 (i := 3) rfl rfl (by decide) (by kernel_rfl) (by kernel_rfl) (by kernel_rfl) (fun _ _ _ h => h) (by rfl) (fun w hSw => by (try dsimp only at hSw); go_simp; first | done | with_reducible rfl) hp (fun hp => ?_)
      try simp only [Act.put, List.setIfInBounds_toArray, List.set_cons_zero, List.set_cons_succ]
      refine AnyL.one (i := 4) (by kernel_rfl) rfl (fun K hK => ?_)
      go_simp
      refine hN8.out.mono ?_
      rintro e wv ⟨u, qv, ov, rfl, Fu, hqv, huv, hcv, hsv, hmv⟩
      have mv : Mod b (b + 1) w8 wv := (Mod.drewN (Mod.refl _ _ _) 1).trans hmv
      have stv := Lib.hid (st8.out.call huv mv)
      have hov := Lib.hid (own_mod2 ho8.out mv (by omega))
      have hsvz := mv.size
      have Hcv := Lib.hid hcv
      have Hsv := Lib.hid hsv
      have ev := stv.out.cell 6 rfl
      have hwf9 : Hid (∀ y ∈ acc ++ [(⟨v, u⟩ : Chs)], y.wf) := Lib.hid (fun y hy => by
        rcases List.mem_append.1 hy with h | h
        · exact hwf.out y h
        · rw [List.mem_singleton.1 h]; exact ⟨i64_fit Fv, i64_fit Fu⟩)
      clear Fv Fu huv hcv hsv hmv mv hN8
      go_wp2_with fail
      refine hK.out _ _ (ph1 trivial ev) (fun hp => ?_)
      clear hK
      try simp only [Act.put, List.setIfInBounds_toArray, List.set_cons_zero, List.set_cons_succ]
      refine AnyL.one (i := 5) (by kernel_rfl) rfl (fun K hK => ?_)
      go_simp
      refine hK.out _ _ (ph1 trivial ev) (fun hp => ?_)
      clear hK
      try simp only [Act.put, List.setIfInBounds_toArray, List.set_cons_zero, List.set_cons_succ]
      refine AnyL.one (i := 6) (by kernel_rfl) rfl (fun K hK => ?_)
      go_simp
      refine hK.out _ _ (ph1 trivial (by rw [World.cell?_alloc_lt _ _ _ (show P < _ by omega)]; exact ev)) (fun hp => ?_)
      clear hK
      try simp only [Act.put, List.setIfInBounds_toArray, List.set_cons_zero, List.set_cons_succ]
      refine AnyL.one (i := 7) (by kernel_rfl) rfl (fun K hK => ?_)
      refine step_app1 (c := Chs.cells) (bytes := 16) rfl _ _ 49 48 rfl Try.underlying49 info_ChartStep2 (by omega) (fun _ => rfl) Chs.one2 (P + 1) acc ⟨v, u⟩ (.slice sa sl sc) rfl wv rfl hov.out rfl (by omega) (by omega) (by omega) ?_
      intro v' w9 hown9 hg9
      have b9 : Below (P + 1) wv w9 := hov.out.app (Below.refl _ _) (Nat.le_refl _) (by omega) hg9
      obtain ⟨va, vc, rfl⟩ := own_sv hown9
      have hl9 : (acc ++ [(⟨v, u⟩ : Chs)]).length = acc.length + 1 := by rw [List.length_append]; rfl
      have st9 : Hid (CSt b P l qv ov #[.string x0, .int .i64 x1, .int .i64 x2, .int .i64 x3, .int .i64 x4, .int .i64 x5, .slice sa sl sc] w w9) := Lib.hid (by
        have h1 := stv.out
        have h2 := h1.lt
        exact ⟨(b9.block b (by omega)).trans h1.rd, (b9.block P (by omega)).trans h1.x, (b9.block w.heap.size (by omega)).trans h1.y, ⟨b9.os.trans h1.m.os, b9.tape.trans h1.m.tape, b9.output.trans h1.m.output, Nat.le_trans h1.m.size b9.size, fun x hx ho => (b9.block x (by omega)).trans (h1.m.block x hx ho)⟩, h2⟩)
      rw [hl9]
      have Hown9 := Lib.hid (show Own 2 Chs.cells (P + 1) 48 w9 (.slice va (acc.length + 1) vc) (acc ++ [⟨v, u⟩]) from hl9 ▸ hown9)
      have f9 : ∀ j, w9.frozen? ⟨P, j, none⟩ = false := fun j => st9.out.fz j
      have e9 := st9.out.cell 6 rfl
      refine hK.out _ _ (ph2 rfl trivial) (fun hp => ?_)
      clear hK hown9 hg9
      try simp only [Act.put, List.setIfInBounds_toArray]
      refine take_ph 43 (i := 8) rfl rfl (by decide) (by kernel_rfl) (by kernel_rfl) (by kernel_rfl) (fun _ _ _ h => h) (by rfl) (fun w hSw => by (try dsimp only at hSw); go_simp; first | done | with_reducible rfl) hp (fun hp => ?_)
      try simp only [Act.put]
      refine AnyL.one (i := 9) (by kernel_rfl) rfl (fun K hK => ?_)
      go_simp
      refine hK.out _ _ (ph2 rfl trivial) (fun hp => ?_)
      clear hK
      refine AnyL.done (by kernel_rfl) ?_ _
      have st10 : Hid (CSt b P l qv ov #[.string x0, .int .i64 x1, .int .i64 x2, .int .i64 x3, .int .i64 x4, .int .i64 x5, .slice va (acc.length + 1) vc] w (w9.setCell ⟨P, 6, none⟩ (.slice va (acc.length + 1) vc))) := Lib.hid (st9.out.put 6 (.slice va (acc.length + 1) vc))
      have ho10 := Lib.hid (own_mod2 Hown9.out ((Mod.refl P (P + 1) w9).setCell (p := ⟨P, 6, none⟩) (Nat.le_refl _) (Nat.lt_succ_self _) (.slice va (acc.length + 1) vc)) (Nat.le_refl _))
      have hcp10 : Hid (ok = true → ∀ x r0, craneFit x → l.drop p = craneBytes x ++ r0 → acc ++ [(⟨v, u⟩ : Chs)] = x.2.take (acc ++ [(⟨v, u⟩ : Chs)]).length ∧ l.drop qv = chsB (x.2.drop (acc ++ [(⟨v, u⟩ : Chs)]).length) ++ r0 ∧ ov = true) := Lib.hid (fun h0 x r0 h1 h2 => by
        obtain ⟨_, hn, _, _⟩ := hcomp.out h0 x r0 h1 h2
        obtain ⟨g1, g2, g3⟩ := hcp.out h0 x r0 h1 h2
        have hkx : acc.length < x.2.length := by omega
        rw [List.drop_eq_getElem_cons hkx] at g2
        unfold chsB at g2
        rw [List.flatMap_cons, List.append_assoc] at g2
        unfold chsB1 at g2
        rw [List.append_assoc] at g2
        have hfx := h1.2.2.2.2.2.2 _ (List.getElem_mem hkx)
        obtain ⟨g4, g5, g6⟩ := Hc8.out (by trivial) _ _ hfx.1 g2
        obtain ⟨g7, g8, g9⟩ := Hcv.out g6 _ _ hfx.2 g5
        rw [hl9]
        exact ⟨by rw [List.take_succ_eq_append_getElem hkx, ← g1, g4, g7], g8, g9⟩)
      have hsd10 : Hid (ov = true → ok = true ∧ l.drop p = craneHead ⟨x0, x1, x2, x3, x4, x5⟩ n ++ (chsB (acc ++ [(⟨v, u⟩ : Chs)]) ++ l.drop qv)) := Lib.hid (fun h => by
        obtain ⟨g0, g1⟩ := Hsv.out h
        obtain ⟨_, g2⟩ := Hs8.out g0
        obtain ⟨g3, g4⟩ := hsd.out (by trivial)
        refine ⟨g3, ?_⟩
        rw [g4, g2, g1]
        unfold chsB
        rw [List.flatMap_append]
        simp [chsB1])
      have hsub : IntKind.i64.wrap ((m : Int) - 1) = ((m - 1 : Nat) : Int) := by rw [IntWalk.i64_in _ (by omega)]; omega
      go_wp2
      go_roundw
      case rel => exact ⟨m - 1, ⟨va, acc.length + 1, vc⟩, acc ++ [⟨v, u⟩], qv, ov, by rw [hl9]; omega, by first | rfl | go_num, hqv, st10, ho10, hwf9, hcp10, hsd10⟩
      case measure => simp [intOf]; omega
    · have ef : ∀ j, wr.frozen? ⟨w.heap.size, j, none⟩ = false := fun j => Lib.frozen_of_heap hst.out.y j
      have e0 : wr.cell? ⟨w.heap.size, 0, none⟩ = some _ := (Lib.cell_of_heap hst.out.y 0).trans rfl
      have e1 : wr.cell? ⟨w.heap.size, 1, none⟩ = some _ := (Lib.cell_of_heap hst.out.y 1).trans rfl
      have e2 : wr.cell? ⟨w.heap.size, 2, none⟩ = some _ := (Lib.cell_of_heap hst.out.y 2).trans rfl
      have e3 : wr.cell? ⟨w.heap.size, 3, none⟩ = some _ := (Lib.cell_of_heap hst.out.y 3).trans rfl
      have e4 : wr.cell? ⟨w.heap.size, 4, none⟩ = some _ := (Lib.cell_of_heap hst.out.y 4).trans rfl
      have e5 : wr.cell? ⟨w.heap.size, 5, none⟩ = some _ := (Lib.cell_of_heap hst.out.y 5).trans rfl
      have e6 : wr.cell? ⟨w.heap.size, 6, none⟩ = some _ := (Lib.cell_of_heap hst.out.y 6).trans rfl
      have hfin : Hid (ok = true → ∀ x r0, craneFit x → l.drop p = craneBytes x ++ r0 → (⟨x0, x1, x2, x3, x4, x5⟩ : CraneF) = x.1 ∧ acc = x.2 ∧ l.drop q = r0 ∧ o = true) := Lib.hid (fun h0 x r0 h1 h2 => by
        obtain ⟨g0, hn, _, _⟩ := hcomp.out h0 x r0 h1 h2
        obtain ⟨g1, g2, g3⟩ := hcp.out h0 x r0 h1 h2
        have hm0 : m = 0 := by rcases Nat.eq_zero_or_pos m with h | h; exact h; exact absurd ⟨h, g3⟩ hgo
        rw [show acc.length = x.2.length by omega, List.take_length] at g1
        rw [show acc.length = x.2.length by omega, List.drop_length] at g2
        exact ⟨g0, g1, by simpa [chsB] using g2, g3⟩)
      have hsfin : Hid (o = true → ok = true ∧ l.drop p = craneBytes (⟨x0, x1, x2, x3, x4, x5⟩, acc) ++ l.drop q) := Lib.hid (fun h => by
        have hm0 : m = 0 := by rcases Nat.eq_zero_or_pos m with h' | h'; exact h'; exact absurd ⟨h', h⟩ hgo
        obtain ⟨g1, g2⟩ := hsd.out h
        refine ⟨g1, ?_⟩
        rw [g2]
        unfold craneBytes
        rw [show n = acc.length by omega, List.append_assoc])
      have hend : Hid (∀ W, Mod w.heap.size (w.heap.size + 1) wr W → Own 2 Chs.cells w.heap.size 48 W (.slice sa sl sc) acc ∧ acc.length ≤ 20 ∧ (CraneF.wf ⟨x0, x1, x2, x3, x4, x5⟩ ∧ ∀ y ∈ acc, y.wf) ∧ q ≤ l.length ∧ Rd b l q o W ∧ (ok = true → ∀ x r0, craneFit x → l.drop p = craneBytes x ++ r0 → (⟨x0, x1, x2, x3, x4, x5⟩ : CraneF) = x.1 ∧ acc = x.2 ∧ l.drop q = r0 ∧ o = true) ∧ (o = true → ok = true ∧ l.drop p = craneBytes (⟨x0, x1, x2, x3, x4, x5⟩, acc) ++ l.drop q) ∧ Mod b (b + 1) w W) := Lib.hid (fun W hW => by
        have hM := hst.out.m
        exact ⟨(own_mod2 hown.out hW (by omega)).lower (by omega), hak, ⟨HF.out, hwf.out⟩, hq, hst.out.rd.mod hW (.inl hbl), hfin.out, hsfin.out, ⟨hW.os.trans hM.os, hW.tape.trans hM.tape, hW.output.trans hM.output, Nat.le_trans hM.size hW.size, fun x hx ho => (hW.block x (by have := hM.size; omega) (.inl hx)).trans (hM.block x hx ho)⟩⟩)
      have hcs : m = 0 ∨ (0 < m ∧ o = false) := by
        rcases Nat.eq_zero_or_pos m with h | h
        · exact .inl h
        · exact .inr ⟨h, by cases o; rfl; exact absurd ⟨h, rfl⟩ hgo⟩
      clear hfin hsfin hcp hsd hcomp hsnd hst hown hgo hmn
      rcases hcs with rfl | ⟨hgt, rfl⟩
      all_goals
        go_wp2
        all_goals
          refine bodyPost_ret (v := .agg #[.string x0, .int .i64 x1, .int .i64 x2, .int .i64 x3, .int .i64 x4, .int .i64 x5, .slice sa sl sc]) (by simp [results, Try.results118, go_sem, e0, e1, e2, e3, e4, e5, e6]) rfl ?_
          refine ⟨⟨x0, x1, x2, x3, x4, x5⟩, ⟨sa, sl, sc⟩, acc, q, _, rfl, hend.out _ ?_⟩
          exact (((((((Mod.refl _ _ _).setCell (p := ⟨w.heap.size, 0, none⟩) (Nat.le_refl _) (Nat.lt_succ_self _) _).setCell (p := ⟨w.heap.size, 1, none⟩) (Nat.le_refl _) (Nat.lt_succ_self _) _).setCell (p := ⟨w.heap.size, 2, none⟩) (Nat.le_refl _) (Nat.lt_succ_self _) _).setCell (p := ⟨w.heap.size, 3, none⟩) (Nat.le_refl _) (Nat.lt_succ_self _) _).setCell (p := ⟨w.heap.size, 4, none⟩) (Nat.le_refl _) (Nat.lt_succ_self _) _).setCell (p := ⟨w.heap.size, 5, none⟩) (Nat.le_refl _) (Nat.lt_succ_self _) _).setCell (p := ⟨w.heap.size, 6, none⟩) (Nat.le_refl _) (Nat.lt_succ_self _) _
end Go.Proofs.Ytgbohbjpdmgneaa
