/- The law FnExplored. -/
import Derived.Test.YtmkhapgkiecmaaaEnS
import Derived.Test.YtmkhapgkiecmaaaDtM
import Derived.WideShapes
namespace Go.Proofs.Ytmkhapgkiecmaaa
open Go.RowKit Go.Deep
theorem cells_uint8 : Try.prog.cellsOf 5 = 1 := by kernel_rfl
set_option maxRecDepth 100000 in
theorem open_Byte {H : Type} {enc : TypeId × Value → H} {W : World} {base : Nat} {spare : Nat → Bool} {held : Bool} (fuel : Nat) (cs : List Value) (y : DataW H × List MemPlace) (hy : DataW.trod enc Try.prog W base spare held fuel 5 cs = some y) :
    ∃ x : UInt8, cs = byteC x ∧ True := by
  obtain ⟨x, h1, _, hw⟩ := DataW.trod_int Try.underlying5 hy
  have hx : 0 ≤ x ∧ x ≤ 255 := by simpa [Lit.wf, IntKind.min, IntKind.max, IntKind.signed, IntKind.bits] using hw
  exact ⟨UInt8.ofNat x.toNat, by rw [h1]; unfold byteC; rw [UInt8.toNat_ofNat']; congr 2; omega, trivial⟩
set_option maxRecDepth 100000 in
theorem open_SByte {H : Type} {enc : TypeId × Value → H} {W : World} {base : Nat} {v : Value} {d : DataW H} {p : List MemPlace} (hv : Value.okWide Try.prog W .any base 22 v)
    (h : DataW.Trod enc Try.prog W 0 (fun _ => true) true 22 v d p) (_hlt : ∀ x ∈ p, x.block < W.heap.size) : ∃ l : List UInt8, Sl 1 byteC 0 W.heap.size W v l := by
  obtain ⟨l, hl, _⟩ := open_list Try.underlying22 cells_uint8 (by omega) open_Byte h (Go.WideShapes.okWide_slice Try.underlying22 hv)
  exact ⟨l, hl⟩
theorem nxt {w w1 : World} {p : Nat} {o : Obj} (hb : Below w.heap.size w w1) (h : w.heap[p]? = some o) : w1.heap[p]? = some o := (hb.block p (Array.getElem?_eq_some_iff.1 h).1).trans h
theorem fresh_ok {v : Wtc} (hv : v.ok) {a b : Int} (ha : Dir a) (hb : Dir b) : (⟨a, b, a, b, 0, 0⟩ : Wld).ok v := by
  have h : ∀ c : Int, Dir c → SeenOk v c c 0 := by
    intro c hc
    refine ⟨hc, hc, ⟨by omega, hv.2.1⟩, ?_⟩
    have h1 := tb_cases c c
    have h2 := absI_cases (tb c c)
    omega
  exact ⟨hv, h a ha, h b hb⟩
theorem app_off {α : Type} {n : Nat} {c : α → List Value} {lo p : Nat} {e T : TypeId} {w w' : World} {v : Value} {l : List α} {o : Obj} {cs : Array Value} {fz : Nat × Nat} (hown : Own n c lo e w v l) (hg : (w.alloc o).grownBy w' v.ownBlock) (h : w.heap[p]? = some (.cells cs T fz)) (hne : T ≠ e) : w'.heap[p]? = some (.cells cs T fz) := by
  have hlt := (Array.getElem?_eq_some_iff.1 h).1
  have h2 : (w.alloc o).heap[p]? = some (.cells cs T fz) := nxt ((Below.refl _ w).alloc (Nat.le_refl _) o) h
  refine (hg.block p (by simp; omega) (fun he => ?_)).trans h2
  obtain ⟨cur, fz', hc⟩ := hown.block he.symm
  rw [h] at hc
  injection hc with hc
  injection hc with _ h3 _
  exact hne h3
theorem set6 {V : World} {p : Nat} {T : TypeId} {fz : Nat × Nat} {c0 c1 c2 c3 c4 c5 a0 a1 a2 a3 a4 a5 : Value} (h : V.heap[p]? = some (.cells #[c0, c1, c2, c3, c4, c5] T fz)) :
    ((((((V.setCell ⟨p, 0, none⟩ a0).setCell ⟨p, 1, none⟩ a1).setCell ⟨p, 2, none⟩ a2).setCell ⟨p, 3, none⟩ a3).setCell ⟨p, 4, none⟩ a4).setCell ⟨p, 5, none⟩ a5).heap[p]? = some (.cells #[a0, a1, a2, a3, a4, a5] T fz) := by
  simp [World.setCell, Array.getElem?_modify, h]
theorem off6 {V : World} {p k : Nat} {o : Obj} {a0 a1 a2 a3 a4 a5 : Value} (h : V.heap[k]? = some o) (hk : k ≠ p) :
    ((((((V.setCell ⟨p, 0, none⟩ a0).setCell ⟨p, 1, none⟩ a1).setCell ⟨p, 2, none⟩ a2).setCell ⟨p, 3, none⟩ a3).setCell ⟨p, 4, none⟩ a4).setCell ⟨p, 5, none⟩ a5).heap[k]? = some o :=
  blk_off (blk_off (blk_off (blk_off (blk_off (blk_off h hk _) hk _) hk _) hk _) hk _) hk _
theorem below6 {B p : Nat} (V : World) {a0 a1 a2 a3 a4 a5 : Value} (hB : B ≤ p) : Below B V ((((((V.setCell ⟨p, 0, none⟩ a0).setCell ⟨p, 1, none⟩ a1).setCell ⟨p, 2, none⟩ a2).setCell ⟨p, 3, none⟩ a3).setCell ⟨p, 4, none⟩ a4).setCell ⟨p, 5, none⟩ a5) :=
  ((((((Below.refl B V).setCell hB _).setCell hB _).setCell hB _).setCell hB _).setCell hB _).setCell hB _
theorem own6 {α : Type} {n : Nat} {c : α → List Value} {lo p : Nat} {e T : TypeId} {V : World} {v : Value} {l : List α} {cs : Array Value} {fz : Nat × Nat} {a0 a1 a2 a3 a4 a5 : Value} (hown : Own n c lo e V v l) (h : V.heap[p]? = some (.cells cs T fz)) (hne : T ≠ e) :
    Own n c lo e ((((((V.setCell ⟨p, 0, none⟩ a0).setCell ⟨p, 1, none⟩ a1).setCell ⟨p, 2, none⟩ a2).setCell ⟨p, 3, none⟩ a3).setCell ⟨p, 4, none⟩ a4).setCell ⟨p, 5, none⟩ a5) v l := by
  obtain ⟨h1, h2⟩ := hown
  refine ⟨h1, ?_⟩
  rcases h2 with h2 | ⟨g, cap, cur, rfl, hb2, hg, r⟩
  · exact .inl h2
  · refine .inr ⟨g, cap, cur, rfl, hb2, ?_, r⟩
    refine off6 hg fun e => ?_
    subst e
    rw [h] at hg
    injection hg with hg
    injection hg with _ h3 _
    exact hne h3
section
variable {P : Program} {ops : Array Oper} {Q : Exit → Act → World → Prop} {md : Region.Mode} {S : Array Bool → World → Prop}
/-- One of two operations comes up. -/
theorem AnyL.two {i j : Nat} {oi oj : Oper} {fuel : Nat} {listed : Array Bool} {a : Act} {w : World} (hr : Region.ready md ops listed = [i, j]) (hi : ops[i]? = some oi) (hj : ops[j]? = some oj)
    (h1 : ∀ K' : Act → World → Prop, Hid (∀ a w, S (listed.setIfInBounds i true) w → (S (listed.setIfInBounds i true) w → AnyL P md ops Q S fuel (listed.setIfInBounds i true) a w) → K' a w) → if Region.wanted oi (yielded ops a.tmps) = true then Oper.wp P oi a w K' Q else K' (a.put oi.dst undef) w)
    (h2 : ∀ K' : Act → World → Prop, Hid (∀ a w, S (listed.setIfInBounds j true) w → (S (listed.setIfInBounds j true) w → AnyL P md ops Q S fuel (listed.setIfInBounds j true) a w) → K' a w) → if Region.wanted oj (yielded ops a.tmps) = true then Oper.wp P oj a w K' Q else K' (a.put oj.dst undef) w) :
    AnyL P md ops Q S (fuel + 1) listed a w := by
  refine ⟨fun h0 => (by rw [hr] at h0; cases h0), fun k hk => ?_⟩
  rw [hr] at hk
  simp at hk
  rcases hk with rfl | rfl
  · exact wpOp_step hi fun K' hK => h1 K' (Lib.hid fun a w hS hW => hK a w ⟨hS, hW hS⟩)
  · exact wpOp_step hj fun K' hK => h2 K' (Lib.hid fun a w hS hW => hK a w ⟨hS, hW hS⟩)
end
set_option maxRecDepth 100000 in
set_option maxHeartbeats 8000000 in
theorem law_Explored {v v2 : Value} (l l2 : List UInt8) (w : World) (h : Sl 1 byteC 0 w.heap.size w v l) (h2 : Sl 1 byteC 0 w.heap.size w v2 l2) :
    Calls Try.prog 5 #[v, v2] w fun e w' => e = .returned (.bool true) ∧ Below w.heap.size w w' := by
  have hcap : l.length ≤ 9223372036854775807 := by obtain ⟨a, cap, _, h, _⟩ := h; omega
  have hcap2 : l2.length ≤ 9223372036854775807 := by obtain ⟨a, cap, _, h, _⟩ := h2; omega
  by_cases hbig : 3000 < l.length
  · obtain ⟨a, cap, rfl, -⟩ := h
    obtain ⟨a2, cap2, rfl, -⟩ := h2
    have hn : decide ((3000 : Int) < (l.length : Int)) = true := decide_eq_true (by omega)
    go_enter Try.func5, Try.ntmps5
    go_wp2_with (first | (go_at_call 21; go_in))
    go_ret
    exact ⟨rfl, Below.refl _ _⟩
  by_cases hbig2 : 3000 < l2.length
  · obtain ⟨a, cap, rfl, -⟩ := h
    obtain ⟨a2, cap2, rfl, -⟩ := h2
    have hn : decide ((3000 : Int) < (l.length : Int)) = false := decide_eq_false (by omega)
    have hn2 : decide ((3000 : Int) < (l2.length : Int)) = true := decide_eq_true (by omega)
    go_enter Try.func5, Try.ntmps5
    go_wp2_with (first | (go_at_call 21; go_in))
    go_ret
    exact ⟨rfl, Below.refl _ _⟩
  have hd := Lib.hid (draw_A2 v l _ w h (Nat.le_refl _) (by omega))
  have hAt := Lib.hid (fun (kI n : Int) w' (hb : Below w.heap.size w w') (hk : 0 ≤ kI ∧ kI ≤ 1000000) (hn : 1 ≤ n ∧ n ≤ 1000000) => show Calls Try.prog 23 #[v2, .int .i64 kI, .int .i64 n] w' fun e w'' => (∃ q : Nat, e = .returned (.int .i64 q) ∧ (q : Int) < n) ∧ Below w'.heap.size w' w'' by
    obtain ⟨k, rfl⟩ : ∃ k : Nat, kI = k := ⟨kI.toNat, by omega⟩
    exact law_at v2 l2 0 _ k n w' (h2.below hb (Nat.le_refl _)) (by omega) (by omega) hn)
  obtain ⟨a, cap, rfl, -⟩ := h
  obtain ⟨a2, cap2, rfl, -⟩ := h2
  have hn : decide ((3000 : Int) < (l.length : Int)) = false := decide_eq_false (by omega)
  have hn2 : decide ((3000 : Int) < (l2.length : Int)) = false := decide_eq_false (by omega)
  clear hbig hbig2 hcap hcap2
  go_enter Try.func5, Try.ntmps5
  go_wp2_with (first | (go_at_call 21; go_in) | fail)
  refine hd.out.mono ?_
  rintro e w1 ⟨tv, rows, T, rfl, hw1, hok, hb1⟩
  obtain ⟨tbb, toff, tcap, rfl, -⟩ := tab_all hw1.r hok
  have HT1 := Lib.hid hw1.r
  have Hok := Lib.hid hok
  clear hw1 hd hok hn hn2
  have hAt := Lib.hid (fun (kI n : Int) w' (hb : Below w1.heap.size w1 w') => hAt.out kI n w' (hb1.trans (hb.mono hb1.size)))
  have hT := Lib.hid (fun w' (hb : Below w1.heap.size w1 w') => HT1.out.ext hb)
  have Hb1 := Lib.hid hb1
  clear HT1 hb1
  go_wp2_with fail
  refine (hAt.out _ _ _ (Below.refl _ _) (by omega) (by omega)).mono ?_
  rintro e w2 ⟨⟨m0, rfl, hm0⟩, hb2⟩
  go_wp2_with fail
  refine (hAt.out _ _ _ hb2 (by omega) (by omega)).mono ?_
  rintro e w3 ⟨⟨t0, rfl, ht0⟩, hb3⟩
  have hB3 := hb2.trans (hb3.mono hb2.size)
  have hz13 := hB3.size
  have hb4 := (Below.refl w3.heap.size w3).alloc (Nat.le_refl _) (.cells #[.int .i64 m0, .int .i64 t0] 49 (0, 0))
  have X6 := Lib.hid (show (w3.alloc (.cells #[.int .i64 m0, .int .i64 t0] 49 (0, 0))).heap[w3.heap.size]? = some (.cells #[.int .i64 m0, .int .i64 t0] 49 (0, 0)) from Array.getElem?_push_size)
  have hB4 := hB3.trans (hb4.mono hB3.size)
  clear hb2 hb3
  go_wp2_with fail
  refine (hAt.out _ _ _ hB4 (by omega) (by omega)).mono ?_
  rintro e w5 ⟨⟨a0, rfl, ha0⟩, hb5⟩
  have X6 := Lib.hid (nxt hb5 X6.out)
  have hB5 := hB4.trans (hb5.mono hB4.size)
  have hC5 := Lib.hid (hb4.trans (hb5.mono hb4.size))
  clear hb5 hb4 hB4
  go_wp2_with fail
  refine (hAt.out _ _ _ hB5 (by omega) (by omega)).mono ?_
  rintro e w6 ⟨⟨b0, rfl, hb0⟩, hb6⟩
  have X6 := Lib.hid (nxt hb6 X6.out)
  have hB6 := hB5.trans (hb6.mono hB5.size)
  have hC6 := Lib.hid (hC5.out.trans (hb6.mono hC5.out.size))
  clear hb6 hB5 hC5
  go_wp2_with fail
  refine (spec_Fresh a0 b0 w6 (by unfold Dir; omega) (by unfold Dir; omega)).mono ?_
  rintro e w7 ⟨rfl, hb7⟩
  have X6 := Lib.hid (nxt hb7 X6.out)
  have hz37 := (Array.getElem?_eq_some_iff.1 X6.out).1
  have hB7 := hB6.trans (hb7.mono hB6.size)
  have hC7 := Lib.hid (hC6.out.trans (hb7.mono hC6.out.size))
  clear hb7 hB6 hC6
  have hV : Hid ((⟨m0, t0⟩ : Wtc).ok) := Lib.hid (by unfold Wtc.ok; dsimp only; omega)
  have hX0 := Lib.hid (fresh_ok (v := ⟨m0, t0⟩) hV.out (a := a0) (b := b0) (by unfold Dir; omega) (by unfold Dir; omega))
  have hz7 := hC7.out.size
  have hb8 := (Below.refl w7.heap.size w7).alloc (Nat.le_refl _) (.cells #[.int .i64 a0, .int .i64 b0, .int .i64 a0, .int .i64 b0, .int .i64 0, .int .i64 0] 51 (0, 0))
  have X7 := Lib.hid (show (w7.alloc (.cells #[.int .i64 a0, .int .i64 b0, .int .i64 a0, .int .i64 b0, .int .i64 0, .int .i64 0] 51 (0, 0))).heap[w7.heap.size]? = some (.cells #[.int .i64 a0, .int .i64 b0, .int .i64 a0, .int .i64 b0, .int .i64 0, .int .i64 0] 51 (0, 0)) from Array.getElem?_push_size)
  have X6 := Lib.hid (nxt hb8 X6.out)
  have hB8 := hB7.trans (hb8.mono hB7.size)
  have hC8 := Lib.hid (hC7.out.trans (hb8.mono hC7.out.size))
  clear hb8 hB7 hC7
  obtain ⟨x0, hx0⟩ : ∃ x0 : Wld, x0 = ⟨a0, b0, a0, b0, 0, 0⟩ := ⟨_, rfl⟩
  have Hx0 := Lib.hid hx0
  clear hx0
  have hcd : codeW T ⟨m0, t0⟩ ⟨a0, b0, a0, b0, 0, 0⟩ = 0 := by unfold codeW; rw [if_pos Hok.out, if_pos hX0.out]
  have hE := Lib.hid (fun W (hb : Below w1.heap.size w1 W) => impl_Explore _ rows T _ _ ⟨m0, t0⟩ ⟨a0, b0, a0, b0, 0, 0⟩ W (hT.out _ hb) hb.size)
  have hF := Lib.hid (fun W (hb : Below w1.heap.size w1 W) => impl_First _ rows T _ _ ⟨m0, t0⟩ ⟨a0, b0, a0, b0, 0, 0⟩ W (hT.out _ hb) hb.size)
  have HB := Lib.hid hB8
  have hz13 := hB3.size
  have hz78 := (Array.getElem?_eq_some_iff.1 X7.out).1
  clear hB8 hC8 hB3
  have v0 := (Lib.cell_of_heap (X6.out) 0).trans rfl
  have v1 := (Lib.cell_of_heap (X6.out) 1).trans rfl
  have o0 := (Lib.cell_of_heap (X7.out) 0).trans rfl
  have o1 := (Lib.cell_of_heap (X7.out) 1).trans rfl
  have o2 := (Lib.cell_of_heap (X7.out) 2).trans rfl
  have o3 := (Lib.cell_of_heap (X7.out) 3).trans rfl
  have o4 := (Lib.cell_of_heap (X7.out) 4).trans rfl
  have o5 := (Lib.cell_of_heap (X7.out) 5).trans rfl
  simp only [Wld.cells]
  go_wp2_with fail
  refine (hE.out _ HB.out).mono ?_
  rintro e w9 ⟨ra, rb, rc, rfl, hres, hb9⟩
  have X6 := Lib.hid (nxt hb9 X6.out)
  have X7 := Lib.hid (nxt hb9 X7.out)
  replace HB := Lib.hid (HB.out.trans (hb9.mono HB.out.size))
  clear v0 v1 o0 o1 o2 o3 o4 o5 hb9 hE
  obtain ⟨rfl, n, rfl, hec⟩ : rc = 0 ∧ ∃ n : Nat, ra = n ∧ ExpC T ⟨m0, t0⟩ ⟨a0, b0, a0, b0, 0, 0⟩ n rb := by
    rcases hres with ⟨h0, -⟩ | ⟨-, h1, n, h2, h3⟩
    · exact absurd hcd h0
    · exact ⟨h1, n, h2, h3⟩
  have v0 := (Lib.cell_of_heap (X6.out) 0).trans rfl
  have v1 := (Lib.cell_of_heap (X6.out) 1).trans rfl
  have o0 := (Lib.cell_of_heap (X7.out) 0).trans rfl
  have o1 := (Lib.cell_of_heap (X7.out) 1).trans rfl
  have o2 := (Lib.cell_of_heap (X7.out) 2).trans rfl
  have o3 := (Lib.cell_of_heap (X7.out) 3).trans rfl
  have o4 := (Lib.cell_of_heap (X7.out) 4).trans rfl
  have o5 := (Lib.cell_of_heap (X7.out) 5).trans rfl
  go_wp2_with fail
  refine (hF.out _ HB.out).mono ?_
  rintro e w10 ⟨vr, r, fc, rfl, hres2, hvr, hb10⟩
  have X6 := Lib.hid (nxt hb10 X6.out)
  have X7 := Lib.hid (nxt hb10 X7.out)
  replace HB := Lib.hid (HB.out.trans (hb10.mono HB.out.size))
  have hfc : FirC T ⟨m0, t0⟩ ⟨a0, b0, a0, b0, 0, 0⟩ r fc := by
    rcases hres2 with ⟨h0, -⟩ | ⟨-, h1⟩
    · exact absurd hcd h0
    · exact h1
  have hlen := Lib.hid (FirRes.len hres2)
  obtain ⟨hn1, hcases⟩ := explored hX0.out hec hfc
  have Hvr := Lib.hid hvr.1
  clear v0 v1 o0 o1 o2 o3 o4 o5 hb10 hF hres hres2 hec hfc hvr
  have v0 := (Lib.cell_of_heap (X6.out) 0).trans rfl
  have v1 := (Lib.cell_of_heap (X6.out) 1).trans rfl
  have o0 := (Lib.cell_of_heap (X7.out) 0).trans rfl
  have o1 := (Lib.cell_of_heap (X7.out) 1).trans rfl
  have o2 := (Lib.cell_of_heap (X7.out) 2).trans rfl
  have o3 := (Lib.cell_of_heap (X7.out) 3).trans rfl
  have o4 := (Lib.cell_of_heap (X7.out) 4).trans rfl
  have o5 := (Lib.cell_of_heap (X7.out) 5).trans rfl
  go_wp2_with fail
  refine (impl_Enough t0 _ (by omega)).mono ?_
  rintro e w' ⟨rfl, rfl⟩
  have hnd : decide ((n : Int) < 1) = false := decide_eq_false (by omega)
  rcases hcases with ⟨rfl, rfl⟩ | ⟨rfl, rfl, hno, p, y, z, rfl, hwalk, hzok, hycan, hybad⟩
  · go_wp2_with fail
    by_cases hge : (t0 : Int) + 1 ≤ (m0 : Int)
    · have hgd : decide ((t0 : Int) + 1 ≤ (m0 : Int)) = true := decide_eq_true hge
      obtain ⟨b1, of1, cp1, b2, of2, cp2, hv, k1, k2⟩ := tab_cell (hT.out _ HB.out) Hok.out (d := a0) (o := b0) (by omega) (by omega)
      cases hv
      generalize cellT T a0 b0 = c at *
      cases c with
      | true =>
        go_quiet (fail)
        go_wp2_with fail
        go_ret
        exact ⟨rfl, Hb1.out.trans ((below_dN HB.out _).mono Hb1.out.size)⟩
      | false =>
        go_quiet (fail)
        go_wp2_with fail
        go_ret
        exact ⟨rfl, Hb1.out.trans ((below_dN HB.out _).mono Hb1.out.size)⟩
    · have hgd : decide ((t0 : Int) + 1 ≤ (m0 : Int)) = false := decide_eq_false hge
      have hge2 : (m0 : Int) < (t0 : Int) + 1 := by omega
      go_quiet (fail)
      go_wp2_with fail
      go_ret
      exact ⟨rfl, Hb1.out.trans ((below_dN HB.out _).mono Hb1.out.size)⟩
  · obtain ⟨va, vc, rfl, hvc, -⟩ := id Hvr.out
    obtain ⟨gb, go, rfl⟩ := Hvr.out.addr (by simp)
    obtain ⟨np, hnp⟩ : ∃ np, p.length = np := ⟨_, rfl⟩
    have hlp : (p ++ [y]).length = np + 1 := by rw [List.length_append, hnp]; rfl
    rw [hlp] at Hvr hlen hvc ⊢
    have Hnp := Lib.hid hnp
    have Hlp := Lib.hid hlp
    have hnp2 : np ≤ 20736 := by have := hlen.out; omega
    have hvc1 : (np : Int) ≤ (vc : Int) := by have := hvc.1; omega
    have hvc0 : ¬ vc = 0 := by have := hvc.1; omega
    clear hnp hlp hvc
    have hz1 : decide ((np : Int) + 1 = 0) = false := decide_eq_false (by omega)
    have hz2 : ((np : Int) + 1 == 0) = false := by simp; omega
    have hw1 : IntKind.i64.wrap ((np : Int) + 1 - 1) = np := by rw [IntKind.wrap_i64]; omega
    have hw0 : IntKind.i64.wrap (np : Int) = np := by rw [IntKind.wrap_i64]; omega
    have hR := Lib.hid (fun W (hb : Below w1.heap.size w1 W) (hb2 : Below w10.heap.size w10 W) => spec_RunActs _ (.slice (some ⟨gb, go, none⟩) np vc) rows T _ _ _ _ ⟨m0, t0⟩ ⟨a0, b0, a0, b0, 0, 0⟩ p W (hT.out _ hb) (by
      have h := (Hvr.out.ext hb2).take (k := np) (by rw [Hlp.out]; omega)
      rw [List.take_append_of_le_length (by rw [Hnp.out]; omega), List.take_of_length_le (by rw [Hnp.out]; omega)] at h
      exact h) (by rw [Hnp.out]; omega))
    rw [runActs_0 hcd, walk_run p _ 0 hwalk, Hnp.out, Nat.zero_add] at hR
    obtain ⟨za, zb, zsa, zsb, zga, zgb⟩ := z
    obtain ⟨tA, tB, lA, lB⟩ := y
    have h310 := (Array.getElem?_eq_some_iff.1 X6.out).1
    have hg10 : gb < w10.heap.size := World.block_lt_of_cell? w10 _ (Act1s.at Hvr.out.get (k := np) (by rw [Hlp.out]; omega)).1
    have hcz : codeW T ⟨m0, t0⟩ ⟨za, zb, zsa, zsb, zga, zgb⟩ = 0 := by unfold codeW; rw [if_pos Hok.out, if_pos hzok]
    obtain ⟨d1, d2, d3, d4, d5, d6, hdo⟩ : ∃ d1 d2 d3 d4 d5 d6, doW ⟨za, zb, zsa, zsb, zga, zgb⟩ ⟨tA, tB, lA, lB⟩ = ⟨d1, d2, d3, d4, d5, d6⟩ := ⟨_, _, _, _, _, _, rfl⟩
    have hyp : ∀ h, (p ++ [(⟨tA, tB, lA, lB⟩ : Act1)])[np]'h = ⟨tA, tB, lA, lB⟩ := fun h => by rw [List.getElem_append_right (by rw [Hnp.out]; exact Nat.le_refl _)]; simp [Hnp.out]
    simp only [Wtc.cells, Wld.cells] at hR
    by_cases hge : (t0 : Int) + 1 ≤ (m0 : Int)
    · have hgd : decide ((t0 : Int) + 1 ≤ (m0 : Int)) = true := decide_eq_true hge
      obtain ⟨b1, of1, cp1, b2, of2, cp2, hv, k1, k2⟩ := tab_cell (hT.out _ HB.out) Hok.out (d := a0) (o := b0) (by omega) (by omega)
      cases hv
      have hct : cellT T a0 b0 = true := by
        cases h : cellT T a0 b0 with
        | true => rfl
        | false => exact absurd ⟨hge, h⟩ hno
      rw [hct] at k2
      clear hct hno
      go_wp2_with fail
      go_quiet (fail)
      go_wp2_with fail
      skip
      obtain ⟨wq, hwq⟩ : ∃ wq, w10.drewN nq = wq := ⟨_, rfl⟩
      have hbq : Below w10.heap.size w10 wq := by rw [← hwq]; exact below_dN (Below.refl _ _) _
      rw [hwq]
      clear hwq
      replace X6 := Lib.hid (nxt hbq X6.out)
      replace X7 := Lib.hid (nxt hbq X7.out)
      replace HB := Lib.hid (HB.out.trans (hbq.mono HB.out.size))
      clear v0 v1 o0 o1 o2 o3 o4 o5 hgd
      have v0 := (Lib.cell_of_heap (X6.out) 0).trans rfl
      have v1 := (Lib.cell_of_heap (X6.out) 1).trans rfl
      have o0 := (Lib.cell_of_heap (X7.out) 0).trans rfl
      have o1 := (Lib.cell_of_heap (X7.out) 1).trans rfl
      have o2 := (Lib.cell_of_heap (X7.out) 2).trans rfl
      have o3 := (Lib.cell_of_heap (X7.out) 3).trans rfl
      have o4 := (Lib.cell_of_heap (X7.out) 4).trans rfl
      have o5 := (Lib.cell_of_heap (X7.out) 5).trans rfl
      have hz6 := (Array.getElem?_eq_some_iff.1 X6.out).1
      have hz7 := (Array.getElem?_eq_some_iff.1 X7.out).1
      have hbd := (Below.refl wq.heap.size wq).drew
      refine region_ph 14 (fun w' => (∀ o, w'.cell? ⟨w3.heap.size, o, none⟩ = wq.cell? ⟨w3.heap.size, o, none⟩) ∧ (∀ o, w'.cell? ⟨w7.heap.size, o, none⟩ = wq.cell? ⟨w7.heap.size, o, none⟩)) (fun _ => True) (by kernel_rfl) ⟨fun _ => rfl, fun _ => rfl⟩ trivial (fun hp => ?_)
      refine take_ph 106 (i := 0) rfl rfl (by decide) (by kernel_rfl) (by kernel_rfl) (by kernel_rfl) (fun _ _ _ h => h) (by rfl) (fun w hSw => by (try dsimp only at hSw); obtain ⟨hSa, hSb⟩ := hSw; go_simp; first | done | with_reducible rfl) hp (fun hp => ?_)
      try simp only [Act.put, List.setIfInBounds_toArray, List.set_cons_zero, List.set_cons_succ]
      refine take_ph 107 (i := 1) rfl rfl (by decide) (by kernel_rfl) (by kernel_rfl) (by kernel_rfl) (fun _ _ _ h => h) (by rfl) (fun w hSw => by (try dsimp only at hSw); obtain ⟨hSa, hSb⟩ := hSw; go_simp; first | done | with_reducible rfl) hp (fun hp => ?_)
      try simp only [Act.put, List.setIfInBounds_toArray, List.set_cons_zero, List.set_cons_succ]
      refine take_ph 108 (i := 2) rfl rfl (by decide) (by kernel_rfl) (by kernel_rfl) (by kernel_rfl) (fun _ _ _ h => h) (by rfl) (fun w hSw => by (try dsimp only at hSw); obtain ⟨hSa, hSb⟩ := hSw; go_simp; first | done | with_reducible rfl) hp (fun hp => ?_)
      try simp only [Act.put, List.setIfInBounds_toArray, List.set_cons_zero, List.set_cons_succ]
      refine take_ph 109 (i := 3) rfl rfl (by decide) (by kernel_rfl) (by kernel_rfl) (by kernel_rfl) (fun _ _ _ h => h) (by rfl) (fun w hSw => by (try dsimp only at hSw); obtain ⟨hSa, hSb⟩ := hSw; go_simp; first | done | with_reducible rfl) hp (fun hp => ?_)
      try simp only [Act.put, List.setIfInBounds_toArray, List.set_cons_zero, List.set_cons_succ]
      refine take_ph 110 (i := 4) rfl rfl (by decide) (by kernel_rfl) (by kernel_rfl) (by kernel_rfl) (fun _ _ _ h => h) (by rfl) (fun w hSw => by (try dsimp only at hSw); obtain ⟨hSa, hSb⟩ := hSw; go_simp; first | done | with_reducible rfl) hp (fun hp => ?_)
      try simp only [Act.put, List.setIfInBounds_toArray, List.set_cons_zero, List.set_cons_succ]
      refine take_ph 111 (i := 5) rfl rfl (by decide) (by kernel_rfl) (by kernel_rfl) (by kernel_rfl) (fun _ _ _ h => h) (by rfl) (fun w hSw => by (try dsimp only at hSw); obtain ⟨hSa, hSb⟩ := hSw; go_simp; first | done | with_reducible rfl) hp (fun hp => ?_)
      try simp only [Act.put, List.setIfInBounds_toArray, List.set_cons_zero, List.set_cons_succ]
      refine take_ph 112 (i := 6) rfl rfl (by decide) (by kernel_rfl) (by kernel_rfl) (by kernel_rfl) (fun _ _ _ h => h) (by rfl) (fun w hSw => by (try dsimp only at hSw); obtain ⟨hSa, hSb⟩ := hSw; go_simp; first | done | with_reducible rfl) hp (fun hp => ?_)
      try simp only [Act.put, List.setIfInBounds_toArray, List.set_cons_zero, List.set_cons_succ]
      refine take_ph 113 (i := 7) (v := .slice (some ⟨gb, go, none⟩) np vc) rfl rfl (by decide) (by kernel_rfl) (by kernel_rfl) (by kernel_rfl) (fun _ _ _ h => h) (by rfl) (fun w hSw => ?hs) hp (fun hp => ?_)
      case hs =>
        go_simp
        first | done | (rw [if_pos ⟨by omega, hvc1⟩]; done) | (rw [if_pos ⟨by omega, hvc1⟩]; simp; done)
      try simp only [Act.put, List.setIfInBounds_toArray, List.set_cons_zero, List.set_cons_succ]
      refine AnyL.two (i := 8) (j := 13) (by kernel_rfl) rfl rfl (fun K hK => ?_) (fun K hK => ?_)
      · go_simp
        refine (hR.out _ (HB.out.trans (hbd.mono HB.out.size)) (hbq.trans (hbd.mono hbq.size))).mono ?_
        rintro e w11 ⟨rfl, hb11⟩
        have hbx := hbd.trans hb11
        refine hK.out _ _ (ph1 ⟨fun o => (hbx).cell (p := ⟨w3.heap.size, o, none⟩) hz6, fun o => (hbx).cell (p := ⟨w7.heap.size, o, none⟩) hz7⟩ trivial) (fun hp => ?_)
        clear hK
        try simp only [Act.put, List.setIfInBounds_toArray, List.set_cons_zero, List.set_cons_succ]
        refine take_ph 105 (i := 9) rfl rfl (by decide) (by kernel_rfl) (by kernel_rfl) (by kernel_rfl) (fun _ _ _ h => h) (by rfl) (fun w hSw => by (try dsimp only at hSw); obtain ⟨hSa, hSb⟩ := hSw; go_simp; first | done | with_reducible rfl) hp (fun hp => ?_)
        try simp only [Act.put, List.setIfInBounds_toArray, List.set_cons_zero, List.set_cons_succ]
        refine take_ph 115 (i := 10) rfl rfl (by decide) (by kernel_rfl) (by kernel_rfl) (by kernel_rfl) (fun _ _ _ h => h) (by rfl) (fun w hSw => by (try dsimp only at hSw); obtain ⟨hSa, hSb⟩ := hSw; go_simp; first | done | with_reducible rfl) hp (fun hp => ?_)
        try simp only [Act.put, List.setIfInBounds_toArray, List.set_cons_zero, List.set_cons_succ]
        refine take_ph 116 (i := 11) rfl rfl (by decide) (by kernel_rfl) (by kernel_rfl) (by kernel_rfl) (fun _ _ _ h => h) (by rfl) (fun w hSw => by (try dsimp only at hSw); obtain ⟨hSa, hSb⟩ := hSw; go_simp; first | done | with_reducible rfl) hp (fun hp => ?_)
        try simp only [Act.put, List.setIfInBounds_toArray, List.set_cons_zero, List.set_cons_succ]
        refine take_ph 117 (i := 12) rfl rfl (by decide) (by kernel_rfl) (by kernel_rfl) (by kernel_rfl) (fun _ _ _ h => h) (by rfl) (fun w hSw => by (try dsimp only at hSw); obtain ⟨hSa, hSb⟩ := hSw; go_simp; first | done | with_reducible rfl) hp (fun hp => ?_)
        try simp only [Act.put, List.setIfInBounds_toArray, List.set_cons_zero, List.set_cons_succ]
        refine AnyL.one (i := 13) (by kernel_rfl) rfl (fun K hK => ?_)
        go_simp
        refine hK.out _ _ (ph1 ⟨fun o => (hbx.alloc hbx.size (.cells #[.int .i64 0, .int .i64 0, .int .i64 0, .int .i64 0, .int .i64 0, .int .i64 0] 51 (0, 0))).cell (p := ⟨w3.heap.size, o, none⟩) hz6, fun o => (hbx.alloc hbx.size (.cells #[.int .i64 0, .int .i64 0, .int .i64 0, .int .i64 0, .int .i64 0, .int .i64 0] 51 (0, 0))).cell (p := ⟨w7.heap.size, o, none⟩) hz7⟩ trivial) (fun hp => ?_)
        clear hK
        try simp only [Act.put, List.setIfInBounds_toArray, List.set_cons_zero, List.set_cons_succ]
        refine AnyL.one (i := 14) (by kernel_rfl) rfl (fun K hK => ?_)
        have X16 := Lib.hid (show (w11.alloc (.cells #[.int .i64 za, .int .i64 zb, .int .i64 zsa, .int .i64 zsb, .int .i64 zga, .int .i64 zgb] 51 (0, 0))).heap[w11.heap.size]? = some (.cells #[.int .i64 za, .int .i64 zb, .int .i64 zsa, .int .i64 zsb, .int .i64 zga, .int .i64 zgb] 51 (0, 0)) from Array.getElem?_push_size)
        have hbz := hbx.alloc hbx.size (.cells #[.int .i64 za, .int .i64 zb, .int .i64 zsa, .int .i64 zsb, .int .i64 zga, .int .i64 zgb] 51 (0, 0))
        clear hbx hb11
        go_simp
        skip
        refine hK.out _ _ (ph1 ⟨fun o => (hbz).cell (p := ⟨w3.heap.size, o, none⟩) hz6, fun o => (hbz).cell (p := ⟨w7.heap.size, o, none⟩) hz7⟩ trivial) (fun hp => ?_)
        clear hK
        try simp only [Act.put, List.setIfInBounds_toArray, List.set_cons_zero, List.set_cons_succ]
        refine AnyL.one (i := 15) (by kernel_rfl) rfl (fun K hK => ?_)
        go_simp
        refine hK.out _ _ (ph1 ⟨fun o => (hbz).cell (p := ⟨w3.heap.size, o, none⟩) hz6, fun o => (hbz).cell (p := ⟨w7.heap.size, o, none⟩) hz7⟩ trivial) (fun hp => ?_)
        clear hK
        try simp only [Act.put, List.setIfInBounds_toArray, List.set_cons_zero, List.set_cons_succ]
        refine AnyL.one (i := 16) (by kernel_rfl) rfl (fun K hK => ?_)
        go_simp
        refine hK.out _ _ (ph1 ⟨fun o => (hbz).cell (p := ⟨w3.heap.size, o, none⟩) hz6, fun o => (hbz).cell (p := ⟨w7.heap.size, o, none⟩) hz7⟩ trivial) (fun hp => ?_)
        clear hK
        try simp only [Act.put, List.setIfInBounds_toArray, List.set_cons_zero, List.set_cons_succ]
        refine AnyL.done (by kernel_rfl) ?_ _
        simp only [Exit.then]
        generalize w11.alloc (.cells #[.int .i64 za, .int .i64 zb, .int .i64 zsa, .int .i64 zsb, .int .i64 zga, .int .i64 zgb] 51 (0, 0)) = WF at *
        generalize w11.heap.size = p16 at *
        skip
        have HV := Lib.hid (hbq.trans (hbz.mono hbq.size))
        replace X6 := Lib.hid (nxt hbz X6.out)
        replace X7 := Lib.hid (nxt hbz X7.out)
        replace HB := Lib.hid (HB.out.trans (hbz.mono HB.out.size))
        obtain ⟨e0, e1, e2, e3⟩ := Act1s.at (Hvr.out.ext HV.out).get (k := np) (by rw [Hlp.out]; omega)
        rw [hyp] at e0 e1 e2 e3
        dsimp only at e0 e1 e2 e3
        have hbw := (Below.refl WF.heap.size WF).alloc (Nat.le_refl _) (.cells #[.int .i64 tA, .int .i64 tB, .bool lA, .bool lB] 59 (0, 0))
        have X19 := Lib.hid (show (WF.alloc (.cells #[.int .i64 tA, .int .i64 tB, .bool lA, .bool lB] 59 (0, 0))).heap[WF.heap.size]? = some (.cells #[.int .i64 tA, .int .i64 tB, .bool lA, .bool lB] 59 (0, 0)) from Array.getElem?_push_size)
        clear hbz hbq hbd hz6 hz7 v0 v1 o0 o1 o2 o3 o4 o5 hp
        replace X6 := Lib.hid (nxt hbw X6.out)
        replace X7 := Lib.hid (nxt hbw X7.out)
        replace X16 := Lib.hid (nxt hbw X16.out)
        replace HB := Lib.hid (HB.out.trans ((hbw).mono HB.out.size))
        replace HV := Lib.hid (HV.out.trans ((hbw).mono HV.out.size))
        clear hbw
        have v0 := (Lib.cell_of_heap (X6.out) 0).trans rfl
        have v1 := (Lib.cell_of_heap (X6.out) 1).trans rfl
        have c0 := (Lib.cell_of_heap (X16.out) 0).trans rfl
        have c1 := (Lib.cell_of_heap (X16.out) 1).trans rfl
        have c2 := (Lib.cell_of_heap (X16.out) 2).trans rfl
        have c3 := (Lib.cell_of_heap (X16.out) 3).trans rfl
        have c4 := (Lib.cell_of_heap (X16.out) 4).trans rfl
        have c5 := (Lib.cell_of_heap (X16.out) 5).trans rfl
        have y0 := (Lib.cell_of_heap X19.out 0).trans rfl
        have y1 := (Lib.cell_of_heap X19.out 1).trans rfl
        have y2 := (Lib.cell_of_heap X19.out 2).trans rfl
        have y3 := (Lib.cell_of_heap X19.out 3).trans rfl
        have hnx := Lib.hid (spec_NextWorld _ rows T _ _ ⟨m0, t0⟩ ⟨za, zb, zsa, zsb, zga, zgb⟩ ⟨tA, tB, lA, lB⟩ _ (hT.out _ HB.out))
        rw [nextW_0 hcz (show TrnsOk ⟨tA, tB, lA, lB⟩ from hycan.1) hycan.2, hdo] at hnx
        simp only [Wld.cells] at hnx
        go_wp2_with fail
        refine hnx.out.mono ?_
        rintro e wn ⟨rfl, hbn⟩
        clear v0 v1 c0 c1 c2 c3 c4 c5 y0 y1 y2 y3 e0 e1 e2 e3 hnx
        replace X6 := Lib.hid (nxt hbn X6.out)
        replace X7 := Lib.hid (nxt hbn X7.out)
        replace X16 := Lib.hid (nxt hbn X16.out)
        replace HB := Lib.hid (HB.out.trans ((hbn).mono HB.out.size))
        replace HV := Lib.hid (HV.out.trans ((hbn).mono HV.out.size))
        replace X19 := Lib.hid (nxt hbn X19.out)
        have hbm := (Below.refl wn.heap.size wn).alloc (Nat.le_refl _) (.cells #[.int .i64 d1, .int .i64 d2, .int .i64 d3, .int .i64 d4, .int .i64 d5, .int .i64 d6] 51 (0, 0))
        replace X6 := Lib.hid (nxt hbm X6.out)
        replace X7 := Lib.hid (nxt hbm X7.out)
        replace X16 := Lib.hid (nxt hbm X16.out)
        replace HB := Lib.hid (HB.out.trans ((hbm).mono HB.out.size))
        replace HV := Lib.hid (HV.out.trans ((hbm).mono HV.out.size))
        replace X19 := Lib.hid (nxt hbm X19.out)
        clear hbn hbm
        have c0 := (Lib.cell_of_heap (X16.out) 0).trans rfl
        have c1 := (Lib.cell_of_heap (X16.out) 1).trans rfl
        have c2 := (Lib.cell_of_heap (X16.out) 2).trans rfl
        have c3 := (Lib.cell_of_heap (X16.out) 3).trans rfl
        have c4 := (Lib.cell_of_heap (X16.out) 4).trans rfl
        have c5 := (Lib.cell_of_heap (X16.out) 5).trans rfl
        have y0 := (Lib.cell_of_heap X19.out 0).trans rfl
        have y1 := (Lib.cell_of_heap X19.out 1).trans rfl
        have y2 := (Lib.cell_of_heap X19.out 2).trans rfl
        have y3 := (Lib.cell_of_heap X19.out 3).trans rfl
        have hiu := Lib.hid (impl_IsU _ rows T _ _ ⟨za, zb, zsa, zsb, zga, zgb⟩ ⟨tA, tB, lA, lB⟩ _ (hT.out _ HB.out) Hok.out hzok.in_ hycan.1.1 hycan.1.2)
        rw [hybad] at hiu
        simp only [Wld.cells, Act1.cells] at hiu
        go_wp2_with fail
        refine hiu.out.mono ?_
        rintro e wu ⟨rfl, hbu⟩
        replace X6 := Lib.hid (nxt hbu X6.out)
        replace X7 := Lib.hid (nxt hbu X7.out)
        replace X16 := Lib.hid (nxt hbu X16.out)
        replace HB := Lib.hid (HB.out.trans ((hbu).mono HB.out.size))
        replace HV := Lib.hid (HV.out.trans ((hbu).mono HV.out.size))
        have hzu := HV.out.size
        have hz1u := HB.out.size
        clear hbu hiu c0 c1 c2 c3 c4 c5 y0 y1 y2 y3 X19 X16
        have o0 := (Lib.cell_of_heap (X7.out) 0).trans rfl
        have o1 := (Lib.cell_of_heap (X7.out) 1).trans rfl
        have o2 := (Lib.cell_of_heap (X7.out) 2).trans rfl
        have o3 := (Lib.cell_of_heap (X7.out) 3).trans rfl
        have o4 := (Lib.cell_of_heap (X7.out) 4).trans rfl
        have o5 := (Lib.cell_of_heap (X7.out) 5).trans rfl
        have hbv := (Below.refl wu.heap.size wu).alloc (Nat.le_refl _) (.cells #[.int .i64 a0, .int .i64 b0, .int .i64 a0, .int .i64 b0, .int .i64 0, .int .i64 0] 51 (0, 0))
        have X22 := Lib.hid (show (wu.alloc (.cells #[.int .i64 a0, .int .i64 b0, .int .i64 a0, .int .i64 b0, .int .i64 0, .int .i64 0] 51 (0, 0))).heap[wu.heap.size]? = some (.cells #[.int .i64 a0, .int .i64 b0, .int .i64 a0, .int .i64 b0, .int .i64 0, .int .i64 0] 51 (0, 0)) from Array.getElem?_push_size)
        replace X6 := Lib.hid (nxt hbv X6.out)
        replace HB := Lib.hid (HB.out.trans (hbv.mono HB.out.size))
        replace HV := Lib.hid (HV.out.trans (hbv.mono HV.out.size))
        clear X7
        go_wp2_with fail
        clear o0 o1 o2 o3 o4 o5
        go_loopw [23] (fun i wr => ∃ (k : Nat) (x : Wld), i = .int .i64 k ∧ k ≤ np ∧ Hid (WalkP T ⟨m0, t0⟩ x (p.drop k) ⟨za, zb, zsa, zsb, zga, zgb⟩) ∧ Hid (x.ok ⟨m0, t0⟩) ∧ Hid (Below w1.heap.size w1 wr) ∧ Hid (Below w10.heap.size w10 wr) ∧ Hid (wr.heap[w3.heap.size]? = some (.cells #[.int .i64 m0, .int .i64 t0] 49 (0, 0))) ∧ Hid (wr.heap[wu.heap.size]? = some (.cells #[.int .i64 x.a, .int .i64 x.b, .int .i64 x.seenA, .int .i64 x.seenB, .int .i64 x.ageA, .int .i64 x.ageB] 51 (0, 0)))) (fun i _ => np - (intOf i).toNat)
        case atStart => exact ⟨0, ⟨a0, b0, a0, b0, 0, 0⟩, rfl, by omega, Lib.hid hwalk, hX0, HB, HV, X6, X22⟩
        case round =>
          clear HB HV X6 X22
          obtain ⟨k, x, rfl, hk, hW, hxok, HB, HV, X6, X22⟩ := hrel
          by_cases hkn : k < np
          · obtain ⟨hyc, hys, hyw⟩ := walk_at (by rw [Hnp.out]; exact hkn) hW.out
            obtain ⟨f0, f1, f2, f3⟩ := Act1s.at (Hvr.out.ext HV.out).get (k := k) (by rw [Hlp.out]; omega)
            have hyk : ∀ h, (p ++ [(⟨tA, tB, lA, lB⟩ : Act1)])[k]'h = p[k]'(by rw [Hnp.out]; exact hkn) := fun h => List.getElem_append_left (by rw [Hnp.out]; exact hkn)
            rw [hyk] at f0 f1 f2 f3
            obtain ⟨q, hq⟩ : ∃ q, p[k]'(by rw [Hnp.out]; exact hkn) = q := ⟨_, rfl⟩
            rw [hq] at hyc hys hyw f0 f1 f2 f3
            clear hyk hq
            obtain ⟨⟨htA, htB⟩, hcan⟩ := hyc
            have hok2 := Lib.hid (ok_do hxok.out htA htB hcan)
            have Hyw := Lib.hid hyw
            obtain ⟨qA, qB, mA, mB⟩ := q
            obtain ⟨xa, xb, xsa, xsb, xga, xgb⟩ := x
            dsimp only at X22 f0 f1 f2 f3
            have hiu := Lib.hid (fun W (hb : Below w1.heap.size w1 W) => spec_IsU _ rows T _ _ ⟨xa, xb, xsa, xsb, xga, xgb⟩ ⟨qA, qB, mA, mB⟩ W (hT.out _ hb) Hok.out hxok.out.in_ htA htB)
            have hnx := Lib.hid (fun W (hb : Below w1.heap.size w1 W) => spec_NextWorld _ rows T _ _ ⟨m0, t0⟩ ⟨xa, xb, xsa, xsb, xga, xgb⟩ ⟨qA, qB, mA, mB⟩ W (hT.out _ hb))
            have hcx : codeW T ⟨m0, t0⟩ ⟨xa, xb, xsa, xsb, xga, xgb⟩ = 0 := by unfold codeW; rw [if_pos Hok.out, if_pos hxok.out]
            obtain ⟨g1, g2, g3, g4, g5, g6, hdq⟩ : ∃ g1 g2 g3 g4 g5 g6, doW ⟨xa, xb, xsa, xsb, xga, xgb⟩ ⟨qA, qB, mA, mB⟩ = ⟨g1, g2, g3, g4, g5, g6⟩ := ⟨_, _, _, _, _, _, rfl⟩
            rw [nextW_0 hcx (show TrnsOk ⟨qA, qB, mA, mB⟩ from ⟨htA, htB⟩) hcan, hdq] at hnx
            rw [hys] at hiu
            rw [hdq] at hok2 Hyw
            simp only [Wld.cells, Act1.cells, Wtc.cells] at hiu hnx
            have hkn1 : (k : Int) < np := by omega
            have hkn2 : (k : Int) + 1 < (np : Int) + 1 := by omega
            have hk00 : (0 : Int) ≤ (k : Int) := by omega
            have hkn3 : (k : Int) < (np : Int) + 1 := by omega
            have hkn4 : (k : Int) < ((np + 1 : Nat) : Int) := by omega
            have hgl : gb < wr.heap.size := World.block_lt_of_cell? wr _ f0
            have hul := (Array.getElem?_eq_some_iff.1 X22.out).1
            have h3l := (Array.getElem?_eq_some_iff.1 X6.out).1
            have hzz : wr.heap.size ≤ wr.heap.size := Nat.le_refl _
            clear hcx hdq hyw hys hW hcan hxok
            have c0 := (Lib.cell_of_heap (X22.out) 0).trans rfl
            have c1 := (Lib.cell_of_heap (X22.out) 1).trans rfl
            have c2 := (Lib.cell_of_heap (X22.out) 2).trans rfl
            have c3 := (Lib.cell_of_heap (X22.out) 3).trans rfl
            have c4 := (Lib.cell_of_heap (X22.out) 4).trans rfl
            have c5 := (Lib.cell_of_heap (X22.out) 5).trans rfl
            go_wp2_with fail
            go_region_held3 (fun w' => (∀ o, w'.cell? ⟨wu.heap.size, o, none⟩ = wr.cell? ⟨wu.heap.size, o, none⟩) ∧ (∀ o, w'.cell? ⟨gb, o, none⟩ = wr.cell? ⟨gb, o, none⟩)) (first | exact ⟨fun _ => rfl, fun _ => rfl⟩ | exact ⟨fun o => hb26.cell (p := ⟨wu.heap.size, o, none⟩) hul, fun o => hb26.cell (p := ⟨gb, o, none⟩) hgl⟩)
              (first | (go_at_call 39; refine (hiu.out _ (HB.out.trans ((Below.refl _ _).drew.mono HB.out.size))).mono ?_; rintro e w26 ⟨rfl, hb26⟩))
            rename_i hHeld
            clear hHeld
            have hb6 := (Below.refl wr.heap.size wr).drew.trans hb26
            have f0 := (hb6.cell (p := ⟨gb, _, none⟩) hgl).trans f0
            have f1 := (hb6.cell (p := ⟨gb, _, none⟩) hgl).trans f1
            have f2 := (hb6.cell (p := ⟨gb, _, none⟩) hgl).trans f2
            have f3 := (hb6.cell (p := ⟨gb, _, none⟩) hgl).trans f3
            replace X6 := Lib.hid (nxt hb6 X6.out)
            replace X22 := Lib.hid (nxt hb6 X22.out)
            replace HB := Lib.hid (HB.out.trans (hb6.mono HB.out.size))
            replace HV := Lib.hid (HV.out.trans (hb6.mono HV.out.size))
            clear c0 c1 c2 c3 c4 c5 hb26 hb6 hgl hul h3l hzz hiu
            have hgl : gb < w26.heap.size := World.block_lt_of_cell? w26 _ f0
            have hul := (Array.getElem?_eq_some_iff.1 X22.out).1
            have h3l := (Array.getElem?_eq_some_iff.1 X6.out).1
            have v0 := (Lib.cell_of_heap (X6.out) 0).trans rfl
            have v1 := (Lib.cell_of_heap (X6.out) 1).trans rfl
            have c0 := (Lib.cell_of_heap (X22.out) 0).trans rfl
            have c1 := (Lib.cell_of_heap (X22.out) 1).trans rfl
            have c2 := (Lib.cell_of_heap (X22.out) 2).trans rfl
            have c3 := (Lib.cell_of_heap (X22.out) 3).trans rfl
            have c4 := (Lib.cell_of_heap (X22.out) 4).trans rfl
            have c5 := (Lib.cell_of_heap (X22.out) 5).trans rfl
            go_wp2_with fail
            refine region_ph 11 (fun w' => (∀ o, w'.cell? ⟨w3.heap.size, o, none⟩ = w26.cell? ⟨w3.heap.size, o, none⟩) ∧ (∀ o, w'.cell? ⟨gb, o, none⟩ = w26.cell? ⟨gb, o, none⟩)) (fun w' => ∀ o, w'.cell? ⟨wu.heap.size, o, none⟩ = w26.cell? ⟨wu.heap.size, o, none⟩) (by kernel_rfl) ⟨fun _ => rfl, fun _ => rfl⟩ (fun _ => rfl) (fun hp => ?_)
            refine take_ph 168 (i := 0) rfl rfl (by decide) (by kernel_rfl) (by kernel_rfl) (by kernel_rfl) (fun _ _ _ h => h) (by rfl) (fun w hSw => by (try dsimp only at hSw); obtain ⟨hSa, hSb⟩ := hSw; go_simp; first | done | with_reducible rfl) hp (fun hp => ?_)
            try simp only [Act.put, List.setIfInBounds_toArray, List.set_cons_zero, List.set_cons_succ]
            refine take_ph 169 (i := 1) rfl rfl (by decide) (by kernel_rfl) (by kernel_rfl) (by kernel_rfl) (fun _ _ _ h => h) (by rfl) (fun w hSw => by (try dsimp only at hSw); obtain ⟨hSa, hSb⟩ := hSw; go_simp; first | done | with_reducible rfl) hp (fun hp => ?_)
            try simp only [Act.put, List.setIfInBounds_toArray, List.set_cons_zero, List.set_cons_succ]
            refine take_ph1 170 (i := 2) rfl rfl (by decide) (by kernel_rfl) (by kernel_rfl) (by kernel_rfl) (by kernel_rfl) (by kernel_rfl) (fun _ _ _ h => h) (by rfl) (fun w hSw hBw => by (try dsimp only at hBw); go_simp; first | done | with_reducible rfl) hp (fun hp => ?_)
            try simp only [Act.put, List.setIfInBounds_toArray, List.set_cons_zero, List.set_cons_succ]
            refine take_ph 171 (i := 3) rfl rfl (by decide) (by kernel_rfl) (by kernel_rfl) (by kernel_rfl) (fun _ _ _ h => h) (by rfl) (fun w hSw => by (try dsimp only at hSw); obtain ⟨hSa, hSb⟩ := hSw; go_simp; first | done | with_reducible rfl) hp (fun hp => ?_)
            try simp only [Act.put, List.setIfInBounds_toArray, List.set_cons_zero, List.set_cons_succ]
            refine take_ph 172 (i := 4) rfl rfl (by decide) (by kernel_rfl) (by kernel_rfl) (by kernel_rfl) (fun _ _ _ h => h) (by rfl) (fun w hSw => by (try dsimp only at hSw); obtain ⟨hSa, hSb⟩ := hSw; go_simp; first | done | with_reducible rfl) hp (fun hp => ?_)
            try simp only [Act.put, List.setIfInBounds_toArray, List.set_cons_zero, List.set_cons_succ]
            refine take_ph 173 (i := 5) rfl rfl (by decide) (by kernel_rfl) (by kernel_rfl) (by kernel_rfl) (fun _ _ _ h => h) (by rfl) (fun w hSw => by (try dsimp only at hSw); obtain ⟨hSa, hSb⟩ := hSw; go_simp; first | done | with_reducible rfl) hp (fun hp => ?_)
            try simp only [Act.put, List.setIfInBounds_toArray, List.set_cons_zero, List.set_cons_succ]
            refine take_ph 174 (i := 6) rfl rfl (by decide) (by kernel_rfl) (by kernel_rfl) (by kernel_rfl) (fun _ _ _ h => h) (by rfl) (fun w hSw => by (try dsimp only at hSw); obtain ⟨hSa, hSb⟩ := hSw; go_simp; first | done | with_reducible rfl) hp (fun hp => ?_)
            try simp only [Act.put, List.setIfInBounds_toArray, List.set_cons_zero, List.set_cons_succ]
            refine AnyL.one (i := 7) (by kernel_rfl) rfl (fun K hK => ?_)
            go_simp
            have hb7 := (Below.refl w26.heap.size w26).drew
            refine (hnx.out _ (HB.out.trans (hb7.mono HB.out.size))).mono ?_
            rintro e w28 ⟨rfl, hb28⟩
            have hb8 := hb7.trans hb28
            refine hK.out _ _ (ph1 ⟨fun o => hb8.cell (p := ⟨w3.heap.size, o, none⟩) h3l, fun o => hb8.cell (p := ⟨gb, o, none⟩) hgl⟩ (fun o => hb8.cell (p := ⟨wu.heap.size, o, none⟩) hul)) (fun hp => ?_)
            clear hK
            try simp only [Act.put, List.setIfInBounds_toArray, List.set_cons_zero, List.set_cons_succ]
            refine take_ph 167 (i := 8) rfl rfl (by decide) (by kernel_rfl) (by kernel_rfl) (by kernel_rfl) (fun _ _ _ h => h) (by rfl) (fun w hSw => by (try dsimp only at hSw); obtain ⟨hSa, hSb⟩ := hSw; go_simp; first | done | with_reducible rfl) hp (fun hp => ?_)
            try simp only [Act.put, List.setIfInBounds_toArray, List.set_cons_zero, List.set_cons_succ]
            refine take_ph 176 (i := 9) rfl rfl (by decide) (by kernel_rfl) (by kernel_rfl) (by kernel_rfl) (fun _ _ _ h => h) (by rfl) (fun w hSw => by (try dsimp only at hSw); obtain ⟨hSa, hSb⟩ := hSw; go_simp; first | done | with_reducible rfl) hp (fun hp => ?_)
            try simp only [Act.put, List.setIfInBounds_toArray, List.set_cons_zero, List.set_cons_succ]
            refine take_ph 177 (i := 10) rfl rfl (by decide) (by kernel_rfl) (by kernel_rfl) (by kernel_rfl) (fun _ _ _ h => h) (by rfl) (fun w hSw => by (try dsimp only at hSw); obtain ⟨hSa, hSb⟩ := hSw; go_simp; first | done | with_reducible rfl) hp (fun hp => ?_)
            try simp only [Act.put, List.setIfInBounds_toArray, List.set_cons_zero, List.set_cons_succ]
            have hc3 := fun o => hb8.cell (p := ⟨w3.heap.size, o, none⟩) h3l
            have hcg := fun o => hb8.cell (p := ⟨gb, o, none⟩) hgl
            replace X6 := Lib.hid (nxt hb8 X6.out)
            replace X22 := Lib.hid (nxt hb8 X22.out)
            replace HB := Lib.hid (HB.out.trans (hb8.mono HB.out.size))
            replace HV := Lib.hid (HV.out.trans (hb8.mono HV.out.size))
            clear c0 c1 c2 c3 c4 c5 hb28 hb7
            have c0 := (Lib.cell_of_heap (X22.out) 0).trans rfl
            have c1 := (Lib.cell_of_heap (X22.out) 1).trans rfl
            have c2 := (Lib.cell_of_heap (X22.out) 2).trans rfl
            have c3 := (Lib.cell_of_heap (X22.out) 3).trans rfl
            have c4 := (Lib.cell_of_heap (X22.out) 4).trans rfl
            have c5 := (Lib.cell_of_heap (X22.out) 5).trans rfl
            have fz := fun j => Lib.frozen_of_heap X22.out j
            refine AnyL.one (i := 11) (by kernel_rfl) rfl (fun K hK => ?_)
            go_simp
            have hbs := below6 (p := wu.heap.size) w28 (Nat.le_refl _) (a0 := .int .i64 g1) (a1 := .int .i64 g2) (a2 := .int .i64 g3) (a3 := .int .i64 g4) (a4 := .int .i64 g5) (a5 := .int .i64 g6)
            replace X6 := Lib.hid (off6 (p := wu.heap.size) (a0 := .int .i64 g1) (a1 := .int .i64 g2) (a2 := .int .i64 g3) (a3 := .int .i64 g4) (a4 := .int .i64 g5) (a5 := .int .i64 g6) X6.out (by omega))
            replace X22 := Lib.hid (set6 (a0 := .int .i64 g1) (a1 := .int .i64 g2) (a2 := .int .i64 g3) (a3 := .int .i64 g4) (a4 := .int .i64 g5) (a5 := .int .i64 g6) X22.out)
            replace HB := Lib.hid (HB.out.trans (hbs.mono hz1u))
            replace HV := Lib.hid (HV.out.trans (hbs.mono hzu))
            refine hK.out _ _ (ph2 (by kernel_rfl) ⟨fun o => (hbs.cell (p := ⟨w3.heap.size, o, none⟩) (show w3.heap.size < wu.heap.size by omega)).trans (hc3 o), fun o => (hbs.cell (p := ⟨gb, o, none⟩) (show gb < wu.heap.size by omega)).trans (hcg o)⟩) (fun hp => ?_)
            clear hK hbs c0 c1 c2 c3 c4 c5 fz hc3 hcg hb8
            generalize ((((((w28.setCell ⟨wu.heap.size, 0, none⟩ (.int .i64 g1)).setCell ⟨wu.heap.size, 1, none⟩ (.int .i64 g2)).setCell ⟨wu.heap.size, 2, none⟩ (.int .i64 g3)).setCell ⟨wu.heap.size, 3, none⟩ (.int .i64 g4)).setCell ⟨wu.heap.size, 4, none⟩ (.int .i64 g5)).setCell ⟨wu.heap.size, 5, none⟩ (.int .i64 g6)) = wz at *
            try simp only [Act.put, List.setIfInBounds_toArray, List.set_cons_zero, List.set_cons_succ]
            refine AnyL.done (by kernel_rfl) ?_ _
            try simp only [Exit.inBlock, Exit.then]
            go_wp2_with fail
            go_roundw
            case rel => exact ⟨k + 1, ⟨g1, g2, g3, g4, g5, g6⟩, congrArg (Value.int .i64) (by omega), by omega, Hyw, hok2, HB, HV, X6, X22⟩
            case measure => simp [intOf]; omega
          · have hkn1 : ¬ (k : Int) < np := by omega
            have hkn2 : ¬ (k : Int) + 1 < (np : Int) + 1 := by omega
            go_wp2
            go_ret
            exact ⟨rfl, Hb1.out.trans (HB.out.mono Hb1.out.size)⟩
      · go_simp
        have X16 := Lib.hid (show (wq.drew.alloc (.cells #[.int .i64 0, .int .i64 0, .int .i64 0, .int .i64 0, .int .i64 0, .int .i64 0] 51 (0, 0))).heap[wq.heap.size]? = some (.cells #[.int .i64 0, .int .i64 0, .int .i64 0, .int .i64 0, .int .i64 0, .int .i64 0] 51 (0, 0)) from Array.getElem?_push_size)
        have hba := hbd.alloc hbd.size (.cells #[.int .i64 0, .int .i64 0, .int .i64 0, .int .i64 0, .int .i64 0, .int .i64 0] 51 (0, 0))
        refine hK.out _ _ (ph1 ⟨fun o => (hba).cell (p := ⟨w3.heap.size, o, none⟩) hz6, fun o => (hba).cell (p := ⟨w7.heap.size, o, none⟩) hz7⟩ trivial) (fun hp => ?_)
        clear hK
        try simp only [Act.put, List.setIfInBounds_toArray, List.set_cons_zero, List.set_cons_succ]
        refine AnyL.one (i := 8) (by kernel_rfl) rfl (fun K hK => ?_)
        go_simp
        refine (hR.out _ (HB.out.trans (hba.mono HB.out.size)) (hbq.trans (hba.mono hbq.size))).mono ?_
        rintro e w11 ⟨rfl, hb11⟩
        have hbx := hba.trans (hb11.mono hba.size)
        replace X16 := Lib.hid (nxt hb11 X16.out)
        refine hK.out _ _ (ph1 ⟨fun o => (hbx).cell (p := ⟨w3.heap.size, o, none⟩) hz6, fun o => (hbx).cell (p := ⟨w7.heap.size, o, none⟩) hz7⟩ trivial) (fun hp => ?_)
        clear hK hb11 hba
        try simp only [Act.put, List.setIfInBounds_toArray, List.set_cons_zero, List.set_cons_succ]
        refine take_ph 105 (i := 9) rfl rfl (by decide) (by kernel_rfl) (by kernel_rfl) (by kernel_rfl) (fun _ _ _ h => h) (by rfl) (fun w hSw => by (try dsimp only at hSw); obtain ⟨hSa, hSb⟩ := hSw; go_simp; first | done | with_reducible rfl) hp (fun hp => ?_)
        try simp only [Act.put, List.setIfInBounds_toArray, List.set_cons_zero, List.set_cons_succ]
        refine take_ph 115 (i := 10) rfl rfl (by decide) (by kernel_rfl) (by kernel_rfl) (by kernel_rfl) (fun _ _ _ h => h) (by rfl) (fun w hSw => by (try dsimp only at hSw); obtain ⟨hSa, hSb⟩ := hSw; go_simp; first | done | with_reducible rfl) hp (fun hp => ?_)
        try simp only [Act.put, List.setIfInBounds_toArray, List.set_cons_zero, List.set_cons_succ]
        refine take_ph 116 (i := 11) rfl rfl (by decide) (by kernel_rfl) (by kernel_rfl) (by kernel_rfl) (fun _ _ _ h => h) (by rfl) (fun w hSw => by (try dsimp only at hSw); obtain ⟨hSa, hSb⟩ := hSw; go_simp; first | done | with_reducible rfl) hp (fun hp => ?_)
        try simp only [Act.put, List.setIfInBounds_toArray, List.set_cons_zero, List.set_cons_succ]
        refine take_ph 117 (i := 12) rfl rfl (by decide) (by kernel_rfl) (by kernel_rfl) (by kernel_rfl) (fun _ _ _ h => h) (by rfl) (fun w hSw => by (try dsimp only at hSw); obtain ⟨hSa, hSb⟩ := hSw; go_simp; first | done | with_reducible rfl) hp (fun hp => ?_)
        try simp only [Act.put, List.setIfInBounds_toArray, List.set_cons_zero, List.set_cons_succ]
        have c0 := (Lib.cell_of_heap (X16.out) 0).trans rfl
        have c1 := (Lib.cell_of_heap (X16.out) 1).trans rfl
        have c2 := (Lib.cell_of_heap (X16.out) 2).trans rfl
        have c3 := (Lib.cell_of_heap (X16.out) 3).trans rfl
        have c4 := (Lib.cell_of_heap (X16.out) 4).trans rfl
        have c5 := (Lib.cell_of_heap (X16.out) 5).trans rfl
        have fz := fun j => Lib.frozen_of_heap X16.out j
        refine AnyL.one (i := 14) (by kernel_rfl) rfl (fun K hK => ?_)
        have hbz := hbx.trans (below6 (p := wq.heap.size) w11 (Nat.le_refl _) (a0 := .int .i64 za) (a1 := .int .i64 zb) (a2 := .int .i64 zsa) (a3 := .int .i64 zsb) (a4 := .int .i64 zga) (a5 := .int .i64 zgb))
        replace X16 := Lib.hid (set6 (a0 := .int .i64 za) (a1 := .int .i64 zb) (a2 := .int .i64 zsa) (a3 := .int .i64 zsb) (a4 := .int .i64 zga) (a5 := .int .i64 zgb) X16.out)
        clear hbx
        go_simp
        clear c0 c1 c2 c3 c4 c5 fz
        skip
        refine hK.out _ _ (ph1 ⟨fun o => (hbz).cell (p := ⟨w3.heap.size, o, none⟩) hz6, fun o => (hbz).cell (p := ⟨w7.heap.size, o, none⟩) hz7⟩ trivial) (fun hp => ?_)
        clear hK
        try simp only [Act.put, List.setIfInBounds_toArray, List.set_cons_zero, List.set_cons_succ]
        refine AnyL.one (i := 15) (by kernel_rfl) rfl (fun K hK => ?_)
        go_simp
        refine hK.out _ _ (ph1 ⟨fun o => (hbz).cell (p := ⟨w3.heap.size, o, none⟩) hz6, fun o => (hbz).cell (p := ⟨w7.heap.size, o, none⟩) hz7⟩ trivial) (fun hp => ?_)
        clear hK
        try simp only [Act.put, List.setIfInBounds_toArray, List.set_cons_zero, List.set_cons_succ]
        refine AnyL.one (i := 16) (by kernel_rfl) rfl (fun K hK => ?_)
        go_simp
        refine hK.out _ _ (ph1 ⟨fun o => (hbz).cell (p := ⟨w3.heap.size, o, none⟩) hz6, fun o => (hbz).cell (p := ⟨w7.heap.size, o, none⟩) hz7⟩ trivial) (fun hp => ?_)
        clear hK
        try simp only [Act.put, List.setIfInBounds_toArray, List.set_cons_zero, List.set_cons_succ]
        refine AnyL.done (by kernel_rfl) ?_ _
        simp only [Exit.then]
        generalize ((((((w11.setCell ⟨wq.heap.size, 0, none⟩ (.int .i64 za)).setCell ⟨wq.heap.size, 1, none⟩ (.int .i64 zb)).setCell ⟨wq.heap.size, 2, none⟩ (.int .i64 zsa)).setCell ⟨wq.heap.size, 3, none⟩ (.int .i64 zsb)).setCell ⟨wq.heap.size, 4, none⟩ (.int .i64 zga)).setCell ⟨wq.heap.size, 5, none⟩ (.int .i64 zgb)) = WF at *
        obtain ⟨p16, hp16⟩ : ∃ p16, wq.heap.size = p16 := ⟨_, rfl⟩
        rw [hp16] at X16 ⊢
        clear hp16
        skip
        have HV := Lib.hid (hbq.trans (hbz.mono hbq.size))
        replace X6 := Lib.hid (nxt hbz X6.out)
        replace X7 := Lib.hid (nxt hbz X7.out)
        replace HB := Lib.hid (HB.out.trans (hbz.mono HB.out.size))
        obtain ⟨e0, e1, e2, e3⟩ := Act1s.at (Hvr.out.ext HV.out).get (k := np) (by rw [Hlp.out]; omega)
        rw [hyp] at e0 e1 e2 e3
        dsimp only at e0 e1 e2 e3
        have hbw := (Below.refl WF.heap.size WF).alloc (Nat.le_refl _) (.cells #[.int .i64 tA, .int .i64 tB, .bool lA, .bool lB] 59 (0, 0))
        have X19 := Lib.hid (show (WF.alloc (.cells #[.int .i64 tA, .int .i64 tB, .bool lA, .bool lB] 59 (0, 0))).heap[WF.heap.size]? = some (.cells #[.int .i64 tA, .int .i64 tB, .bool lA, .bool lB] 59 (0, 0)) from Array.getElem?_push_size)
        clear hbz hbq hbd hz6 hz7 v0 v1 o0 o1 o2 o3 o4 o5 hp
        replace X6 := Lib.hid (nxt hbw X6.out)
        replace X7 := Lib.hid (nxt hbw X7.out)
        replace X16 := Lib.hid (nxt hbw X16.out)
        replace HB := Lib.hid (HB.out.trans ((hbw).mono HB.out.size))
        replace HV := Lib.hid (HV.out.trans ((hbw).mono HV.out.size))
        clear hbw
        have v0 := (Lib.cell_of_heap (X6.out) 0).trans rfl
        have v1 := (Lib.cell_of_heap (X6.out) 1).trans rfl
        have c0 := (Lib.cell_of_heap (X16.out) 0).trans rfl
        have c1 := (Lib.cell_of_heap (X16.out) 1).trans rfl
        have c2 := (Lib.cell_of_heap (X16.out) 2).trans rfl
        have c3 := (Lib.cell_of_heap (X16.out) 3).trans rfl
        have c4 := (Lib.cell_of_heap (X16.out) 4).trans rfl
        have c5 := (Lib.cell_of_heap (X16.out) 5).trans rfl
        have y0 := (Lib.cell_of_heap X19.out 0).trans rfl
        have y1 := (Lib.cell_of_heap X19.out 1).trans rfl
        have y2 := (Lib.cell_of_heap X19.out 2).trans rfl
        have y3 := (Lib.cell_of_heap X19.out 3).trans rfl
        have hnx := Lib.hid (spec_NextWorld _ rows T _ _ ⟨m0, t0⟩ ⟨za, zb, zsa, zsb, zga, zgb⟩ ⟨tA, tB, lA, lB⟩ _ (hT.out _ HB.out))
        rw [nextW_0 hcz (show TrnsOk ⟨tA, tB, lA, lB⟩ from hycan.1) hycan.2, hdo] at hnx
        simp only [Wld.cells] at hnx
        go_wp2_with fail
        refine hnx.out.mono ?_
        rintro e wn ⟨rfl, hbn⟩
        clear v0 v1 c0 c1 c2 c3 c4 c5 y0 y1 y2 y3 e0 e1 e2 e3 hnx
        replace X6 := Lib.hid (nxt hbn X6.out)
        replace X7 := Lib.hid (nxt hbn X7.out)
        replace X16 := Lib.hid (nxt hbn X16.out)
        replace HB := Lib.hid (HB.out.trans ((hbn).mono HB.out.size))
        replace HV := Lib.hid (HV.out.trans ((hbn).mono HV.out.size))
        replace X19 := Lib.hid (nxt hbn X19.out)
        have hbm := (Below.refl wn.heap.size wn).alloc (Nat.le_refl _) (.cells #[.int .i64 d1, .int .i64 d2, .int .i64 d3, .int .i64 d4, .int .i64 d5, .int .i64 d6] 51 (0, 0))
        replace X6 := Lib.hid (nxt hbm X6.out)
        replace X7 := Lib.hid (nxt hbm X7.out)
        replace X16 := Lib.hid (nxt hbm X16.out)
        replace HB := Lib.hid (HB.out.trans ((hbm).mono HB.out.size))
        replace HV := Lib.hid (HV.out.trans ((hbm).mono HV.out.size))
        replace X19 := Lib.hid (nxt hbm X19.out)
        clear hbn hbm
        have c0 := (Lib.cell_of_heap (X16.out) 0).trans rfl
        have c1 := (Lib.cell_of_heap (X16.out) 1).trans rfl
        have c2 := (Lib.cell_of_heap (X16.out) 2).trans rfl
        have c3 := (Lib.cell_of_heap (X16.out) 3).trans rfl
        have c4 := (Lib.cell_of_heap (X16.out) 4).trans rfl
        have c5 := (Lib.cell_of_heap (X16.out) 5).trans rfl
        have y0 := (Lib.cell_of_heap X19.out 0).trans rfl
        have y1 := (Lib.cell_of_heap X19.out 1).trans rfl
        have y2 := (Lib.cell_of_heap X19.out 2).trans rfl
        have y3 := (Lib.cell_of_heap X19.out 3).trans rfl
        have hiu := Lib.hid (impl_IsU _ rows T _ _ ⟨za, zb, zsa, zsb, zga, zgb⟩ ⟨tA, tB, lA, lB⟩ _ (hT.out _ HB.out) Hok.out hzok.in_ hycan.1.1 hycan.1.2)
        rw [hybad] at hiu
        simp only [Wld.cells, Act1.cells] at hiu
        go_wp2_with fail
        refine hiu.out.mono ?_
        rintro e wu ⟨rfl, hbu⟩
        replace X6 := Lib.hid (nxt hbu X6.out)
        replace X7 := Lib.hid (nxt hbu X7.out)
        replace X16 := Lib.hid (nxt hbu X16.out)
        replace HB := Lib.hid (HB.out.trans ((hbu).mono HB.out.size))
        replace HV := Lib.hid (HV.out.trans ((hbu).mono HV.out.size))
        have hzu := HV.out.size
        have hz1u := HB.out.size
        clear hbu hiu c0 c1 c2 c3 c4 c5 y0 y1 y2 y3 X19 X16
        have o0 := (Lib.cell_of_heap (X7.out) 0).trans rfl
        have o1 := (Lib.cell_of_heap (X7.out) 1).trans rfl
        have o2 := (Lib.cell_of_heap (X7.out) 2).trans rfl
        have o3 := (Lib.cell_of_heap (X7.out) 3).trans rfl
        have o4 := (Lib.cell_of_heap (X7.out) 4).trans rfl
        have o5 := (Lib.cell_of_heap (X7.out) 5).trans rfl
        have hbv := (Below.refl wu.heap.size wu).alloc (Nat.le_refl _) (.cells #[.int .i64 a0, .int .i64 b0, .int .i64 a0, .int .i64 b0, .int .i64 0, .int .i64 0] 51 (0, 0))
        have X22 := Lib.hid (show (wu.alloc (.cells #[.int .i64 a0, .int .i64 b0, .int .i64 a0, .int .i64 b0, .int .i64 0, .int .i64 0] 51 (0, 0))).heap[wu.heap.size]? = some (.cells #[.int .i64 a0, .int .i64 b0, .int .i64 a0, .int .i64 b0, .int .i64 0, .int .i64 0] 51 (0, 0)) from Array.getElem?_push_size)
        replace X6 := Lib.hid (nxt hbv X6.out)
        replace HB := Lib.hid (HB.out.trans (hbv.mono HB.out.size))
        replace HV := Lib.hid (HV.out.trans (hbv.mono HV.out.size))
        clear X7
        go_wp2_with fail
        clear o0 o1 o2 o3 o4 o5
        go_loopw [23] (fun i wr => ∃ (k : Nat) (x : Wld), i = .int .i64 k ∧ k ≤ np ∧ Hid (WalkP T ⟨m0, t0⟩ x (p.drop k) ⟨za, zb, zsa, zsb, zga, zgb⟩) ∧ Hid (x.ok ⟨m0, t0⟩) ∧ Hid (Below w1.heap.size w1 wr) ∧ Hid (Below w10.heap.size w10 wr) ∧ Hid (wr.heap[w3.heap.size]? = some (.cells #[.int .i64 m0, .int .i64 t0] 49 (0, 0))) ∧ Hid (wr.heap[wu.heap.size]? = some (.cells #[.int .i64 x.a, .int .i64 x.b, .int .i64 x.seenA, .int .i64 x.seenB, .int .i64 x.ageA, .int .i64 x.ageB] 51 (0, 0)))) (fun i _ => np - (intOf i).toNat)
        case atStart => exact ⟨0, ⟨a0, b0, a0, b0, 0, 0⟩, rfl, by omega, Lib.hid hwalk, hX0, HB, HV, X6, X22⟩
        case round =>
          clear HB HV X6 X22
          obtain ⟨k, x, rfl, hk, hW, hxok, HB, HV, X6, X22⟩ := hrel
          by_cases hkn : k < np
          · obtain ⟨hyc, hys, hyw⟩ := walk_at (by rw [Hnp.out]; exact hkn) hW.out
            obtain ⟨f0, f1, f2, f3⟩ := Act1s.at (Hvr.out.ext HV.out).get (k := k) (by rw [Hlp.out]; omega)
            have hyk : ∀ h, (p ++ [(⟨tA, tB, lA, lB⟩ : Act1)])[k]'h = p[k]'(by rw [Hnp.out]; exact hkn) := fun h => List.getElem_append_left (by rw [Hnp.out]; exact hkn)
            rw [hyk] at f0 f1 f2 f3
            obtain ⟨q, hq⟩ : ∃ q, p[k]'(by rw [Hnp.out]; exact hkn) = q := ⟨_, rfl⟩
            rw [hq] at hyc hys hyw f0 f1 f2 f3
            clear hyk hq
            obtain ⟨⟨htA, htB⟩, hcan⟩ := hyc
            have hok2 := Lib.hid (ok_do hxok.out htA htB hcan)
            have Hyw := Lib.hid hyw
            obtain ⟨qA, qB, mA, mB⟩ := q
            obtain ⟨xa, xb, xsa, xsb, xga, xgb⟩ := x
            dsimp only at X22 f0 f1 f2 f3
            have hiu := Lib.hid (fun W (hb : Below w1.heap.size w1 W) => spec_IsU _ rows T _ _ ⟨xa, xb, xsa, xsb, xga, xgb⟩ ⟨qA, qB, mA, mB⟩ W (hT.out _ hb) Hok.out hxok.out.in_ htA htB)
            have hnx := Lib.hid (fun W (hb : Below w1.heap.size w1 W) => spec_NextWorld _ rows T _ _ ⟨m0, t0⟩ ⟨xa, xb, xsa, xsb, xga, xgb⟩ ⟨qA, qB, mA, mB⟩ W (hT.out _ hb))
            have hcx : codeW T ⟨m0, t0⟩ ⟨xa, xb, xsa, xsb, xga, xgb⟩ = 0 := by unfold codeW; rw [if_pos Hok.out, if_pos hxok.out]
            obtain ⟨g1, g2, g3, g4, g5, g6, hdq⟩ : ∃ g1 g2 g3 g4 g5 g6, doW ⟨xa, xb, xsa, xsb, xga, xgb⟩ ⟨qA, qB, mA, mB⟩ = ⟨g1, g2, g3, g4, g5, g6⟩ := ⟨_, _, _, _, _, _, rfl⟩
            rw [nextW_0 hcx (show TrnsOk ⟨qA, qB, mA, mB⟩ from ⟨htA, htB⟩) hcan, hdq] at hnx
            rw [hys] at hiu
            rw [hdq] at hok2 Hyw
            simp only [Wld.cells, Act1.cells, Wtc.cells] at hiu hnx
            have hkn1 : (k : Int) < np := by omega
            have hkn2 : (k : Int) + 1 < (np : Int) + 1 := by omega
            have hk00 : (0 : Int) ≤ (k : Int) := by omega
            have hkn3 : (k : Int) < (np : Int) + 1 := by omega
            have hkn4 : (k : Int) < ((np + 1 : Nat) : Int) := by omega
            have hgl : gb < wr.heap.size := World.block_lt_of_cell? wr _ f0
            have hul := (Array.getElem?_eq_some_iff.1 X22.out).1
            have h3l := (Array.getElem?_eq_some_iff.1 X6.out).1
            have hzz : wr.heap.size ≤ wr.heap.size := Nat.le_refl _
            clear hcx hdq hyw hys hW hcan hxok
            have c0 := (Lib.cell_of_heap (X22.out) 0).trans rfl
            have c1 := (Lib.cell_of_heap (X22.out) 1).trans rfl
            have c2 := (Lib.cell_of_heap (X22.out) 2).trans rfl
            have c3 := (Lib.cell_of_heap (X22.out) 3).trans rfl
            have c4 := (Lib.cell_of_heap (X22.out) 4).trans rfl
            have c5 := (Lib.cell_of_heap (X22.out) 5).trans rfl
            go_wp2_with fail
            go_region_held3 (fun w' => (∀ o, w'.cell? ⟨wu.heap.size, o, none⟩ = wr.cell? ⟨wu.heap.size, o, none⟩) ∧ (∀ o, w'.cell? ⟨gb, o, none⟩ = wr.cell? ⟨gb, o, none⟩)) (first | exact ⟨fun _ => rfl, fun _ => rfl⟩ | exact ⟨fun o => hb26.cell (p := ⟨wu.heap.size, o, none⟩) hul, fun o => hb26.cell (p := ⟨gb, o, none⟩) hgl⟩)
              (first | (go_at_call 39; refine (hiu.out _ (HB.out.trans ((Below.refl _ _).drew.mono HB.out.size))).mono ?_; rintro e w26 ⟨rfl, hb26⟩))
            rename_i hHeld
            clear hHeld
            have hb6 := (Below.refl wr.heap.size wr).drew.trans hb26
            have f0 := (hb6.cell (p := ⟨gb, _, none⟩) hgl).trans f0
            have f1 := (hb6.cell (p := ⟨gb, _, none⟩) hgl).trans f1
            have f2 := (hb6.cell (p := ⟨gb, _, none⟩) hgl).trans f2
            have f3 := (hb6.cell (p := ⟨gb, _, none⟩) hgl).trans f3
            replace X6 := Lib.hid (nxt hb6 X6.out)
            replace X22 := Lib.hid (nxt hb6 X22.out)
            replace HB := Lib.hid (HB.out.trans (hb6.mono HB.out.size))
            replace HV := Lib.hid (HV.out.trans (hb6.mono HV.out.size))
            clear c0 c1 c2 c3 c4 c5 hb26 hb6 hgl hul h3l hzz hiu
            have hgl : gb < w26.heap.size := World.block_lt_of_cell? w26 _ f0
            have hul := (Array.getElem?_eq_some_iff.1 X22.out).1
            have h3l := (Array.getElem?_eq_some_iff.1 X6.out).1
            have v0 := (Lib.cell_of_heap (X6.out) 0).trans rfl
            have v1 := (Lib.cell_of_heap (X6.out) 1).trans rfl
            have c0 := (Lib.cell_of_heap (X22.out) 0).trans rfl
            have c1 := (Lib.cell_of_heap (X22.out) 1).trans rfl
            have c2 := (Lib.cell_of_heap (X22.out) 2).trans rfl
            have c3 := (Lib.cell_of_heap (X22.out) 3).trans rfl
            have c4 := (Lib.cell_of_heap (X22.out) 4).trans rfl
            have c5 := (Lib.cell_of_heap (X22.out) 5).trans rfl
            go_wp2_with fail
            refine region_ph 11 (fun w' => (∀ o, w'.cell? ⟨w3.heap.size, o, none⟩ = w26.cell? ⟨w3.heap.size, o, none⟩) ∧ (∀ o, w'.cell? ⟨gb, o, none⟩ = w26.cell? ⟨gb, o, none⟩)) (fun w' => ∀ o, w'.cell? ⟨wu.heap.size, o, none⟩ = w26.cell? ⟨wu.heap.size, o, none⟩) (by kernel_rfl) ⟨fun _ => rfl, fun _ => rfl⟩ (fun _ => rfl) (fun hp => ?_)
            refine take_ph 168 (i := 0) rfl rfl (by decide) (by kernel_rfl) (by kernel_rfl) (by kernel_rfl) (fun _ _ _ h => h) (by rfl) (fun w hSw => by (try dsimp only at hSw); obtain ⟨hSa, hSb⟩ := hSw; go_simp; first | done | with_reducible rfl) hp (fun hp => ?_)
            try simp only [Act.put, List.setIfInBounds_toArray, List.set_cons_zero, List.set_cons_succ]
            refine take_ph 169 (i := 1) rfl rfl (by decide) (by kernel_rfl) (by kernel_rfl) (by kernel_rfl) (fun _ _ _ h => h) (by rfl) (fun w hSw => by (try dsimp only at hSw); obtain ⟨hSa, hSb⟩ := hSw; go_simp; first | done | with_reducible rfl) hp (fun hp => ?_)
            try simp only [Act.put, List.setIfInBounds_toArray, List.set_cons_zero, List.set_cons_succ]
            refine take_ph1 170 (i := 2) rfl rfl (by decide) (by kernel_rfl) (by kernel_rfl) (by kernel_rfl) (by kernel_rfl) (by kernel_rfl) (fun _ _ _ h => h) (by rfl) (fun w hSw hBw => by (try dsimp only at hBw); go_simp; first | done | with_reducible rfl) hp (fun hp => ?_)
            try simp only [Act.put, List.setIfInBounds_toArray, List.set_cons_zero, List.set_cons_succ]
            refine take_ph 171 (i := 3) rfl rfl (by decide) (by kernel_rfl) (by kernel_rfl) (by kernel_rfl) (fun _ _ _ h => h) (by rfl) (fun w hSw => by (try dsimp only at hSw); obtain ⟨hSa, hSb⟩ := hSw; go_simp; first | done | with_reducible rfl) hp (fun hp => ?_)
            try simp only [Act.put, List.setIfInBounds_toArray, List.set_cons_zero, List.set_cons_succ]
            refine take_ph 172 (i := 4) rfl rfl (by decide) (by kernel_rfl) (by kernel_rfl) (by kernel_rfl) (fun _ _ _ h => h) (by rfl) (fun w hSw => by (try dsimp only at hSw); obtain ⟨hSa, hSb⟩ := hSw; go_simp; first | done | with_reducible rfl) hp (fun hp => ?_)
            try simp only [Act.put, List.setIfInBounds_toArray, List.set_cons_zero, List.set_cons_succ]
            refine take_ph 173 (i := 5) rfl rfl (by decide) (by kernel_rfl) (by kernel_rfl) (by kernel_rfl) (fun _ _ _ h => h) (by rfl) (fun w hSw => by (try dsimp only at hSw); obtain ⟨hSa, hSb⟩ := hSw; go_simp; first | done | with_reducible rfl) hp (fun hp => ?_)
            try simp only [Act.put, List.setIfInBounds_toArray, List.set_cons_zero, List.set_cons_succ]
            refine take_ph 174 (i := 6) rfl rfl (by decide) (by kernel_rfl) (by kernel_rfl) (by kernel_rfl) (fun _ _ _ h => h) (by rfl) (fun w hSw => by (try dsimp only at hSw); obtain ⟨hSa, hSb⟩ := hSw; go_simp; first | done | with_reducible rfl) hp (fun hp => ?_)
            try simp only [Act.put, List.setIfInBounds_toArray, List.set_cons_zero, List.set_cons_succ]
            refine AnyL.one (i := 7) (by kernel_rfl) rfl (fun K hK => ?_)
            go_simp
            have hb7 := (Below.refl w26.heap.size w26).drew
            refine (hnx.out _ (HB.out.trans (hb7.mono HB.out.size))).mono ?_
            rintro e w28 ⟨rfl, hb28⟩
            have hb8 := hb7.trans hb28
            refine hK.out _ _ (ph1 ⟨fun o => hb8.cell (p := ⟨w3.heap.size, o, none⟩) h3l, fun o => hb8.cell (p := ⟨gb, o, none⟩) hgl⟩ (fun o => hb8.cell (p := ⟨wu.heap.size, o, none⟩) hul)) (fun hp => ?_)
            clear hK
            try simp only [Act.put, List.setIfInBounds_toArray, List.set_cons_zero, List.set_cons_succ]
            refine take_ph 167 (i := 8) rfl rfl (by decide) (by kernel_rfl) (by kernel_rfl) (by kernel_rfl) (fun _ _ _ h => h) (by rfl) (fun w hSw => by (try dsimp only at hSw); obtain ⟨hSa, hSb⟩ := hSw; go_simp; first | done | with_reducible rfl) hp (fun hp => ?_)
            try simp only [Act.put, List.setIfInBounds_toArray, List.set_cons_zero, List.set_cons_succ]
            refine take_ph 176 (i := 9) rfl rfl (by decide) (by kernel_rfl) (by kernel_rfl) (by kernel_rfl) (fun _ _ _ h => h) (by rfl) (fun w hSw => by (try dsimp only at hSw); obtain ⟨hSa, hSb⟩ := hSw; go_simp; first | done | with_reducible rfl) hp (fun hp => ?_)
            try simp only [Act.put, List.setIfInBounds_toArray, List.set_cons_zero, List.set_cons_succ]
            refine take_ph 177 (i := 10) rfl rfl (by decide) (by kernel_rfl) (by kernel_rfl) (by kernel_rfl) (fun _ _ _ h => h) (by rfl) (fun w hSw => by (try dsimp only at hSw); obtain ⟨hSa, hSb⟩ := hSw; go_simp; first | done | with_reducible rfl) hp (fun hp => ?_)
            try simp only [Act.put, List.setIfInBounds_toArray, List.set_cons_zero, List.set_cons_succ]
            have hc3 := fun o => hb8.cell (p := ⟨w3.heap.size, o, none⟩) h3l
            have hcg := fun o => hb8.cell (p := ⟨gb, o, none⟩) hgl
            replace X6 := Lib.hid (nxt hb8 X6.out)
            replace X22 := Lib.hid (nxt hb8 X22.out)
            replace HB := Lib.hid (HB.out.trans (hb8.mono HB.out.size))
            replace HV := Lib.hid (HV.out.trans (hb8.mono HV.out.size))
            clear c0 c1 c2 c3 c4 c5 hb28 hb7
            have c0 := (Lib.cell_of_heap (X22.out) 0).trans rfl
            have c1 := (Lib.cell_of_heap (X22.out) 1).trans rfl
            have c2 := (Lib.cell_of_heap (X22.out) 2).trans rfl
            have c3 := (Lib.cell_of_heap (X22.out) 3).trans rfl
            have c4 := (Lib.cell_of_heap (X22.out) 4).trans rfl
            have c5 := (Lib.cell_of_heap (X22.out) 5).trans rfl
            have fz := fun j => Lib.frozen_of_heap X22.out j
            refine AnyL.one (i := 11) (by kernel_rfl) rfl (fun K hK => ?_)
            go_simp
            have hbs := below6 (p := wu.heap.size) w28 (Nat.le_refl _) (a0 := .int .i64 g1) (a1 := .int .i64 g2) (a2 := .int .i64 g3) (a3 := .int .i64 g4) (a4 := .int .i64 g5) (a5 := .int .i64 g6)
            replace X6 := Lib.hid (off6 (p := wu.heap.size) (a0 := .int .i64 g1) (a1 := .int .i64 g2) (a2 := .int .i64 g3) (a3 := .int .i64 g4) (a4 := .int .i64 g5) (a5 := .int .i64 g6) X6.out (by omega))
            replace X22 := Lib.hid (set6 (a0 := .int .i64 g1) (a1 := .int .i64 g2) (a2 := .int .i64 g3) (a3 := .int .i64 g4) (a4 := .int .i64 g5) (a5 := .int .i64 g6) X22.out)
            replace HB := Lib.hid (HB.out.trans (hbs.mono hz1u))
            replace HV := Lib.hid (HV.out.trans (hbs.mono hzu))
            refine hK.out _ _ (ph2 (by kernel_rfl) ⟨fun o => (hbs.cell (p := ⟨w3.heap.size, o, none⟩) (show w3.heap.size < wu.heap.size by omega)).trans (hc3 o), fun o => (hbs.cell (p := ⟨gb, o, none⟩) (show gb < wu.heap.size by omega)).trans (hcg o)⟩) (fun hp => ?_)
            clear hK hbs c0 c1 c2 c3 c4 c5 fz hc3 hcg hb8
            generalize ((((((w28.setCell ⟨wu.heap.size, 0, none⟩ (.int .i64 g1)).setCell ⟨wu.heap.size, 1, none⟩ (.int .i64 g2)).setCell ⟨wu.heap.size, 2, none⟩ (.int .i64 g3)).setCell ⟨wu.heap.size, 3, none⟩ (.int .i64 g4)).setCell ⟨wu.heap.size, 4, none⟩ (.int .i64 g5)).setCell ⟨wu.heap.size, 5, none⟩ (.int .i64 g6)) = wz at *
            try simp only [Act.put, List.setIfInBounds_toArray, List.set_cons_zero, List.set_cons_succ]
            refine AnyL.done (by kernel_rfl) ?_ _
            try simp only [Exit.inBlock, Exit.then]
            go_wp2_with fail
            go_roundw
            case rel => exact ⟨k + 1, ⟨g1, g2, g3, g4, g5, g6⟩, congrArg (Value.int .i64) (by omega), by omega, Hyw, hok2, HB, HV, X6, X22⟩
            case measure => simp [intOf]; omega
          · have hkn1 : ¬ (k : Int) < np := by omega
            have hkn2 : ¬ (k : Int) + 1 < (np : Int) + 1 := by omega
            go_wp2
            go_ret
            exact ⟨rfl, Hb1.out.trans (HB.out.mono Hb1.out.size)⟩
    · have hgd : decide ((t0 : Int) + 1 ≤ (m0 : Int)) = false := decide_eq_false hge
      have hge2 : (m0 : Int) < (t0 : Int) + 1 := by omega
      go_wp2_with fail
      go_quiet (fail)
      go_wp2_with fail
      skip
      obtain ⟨wq, hwq⟩ : ∃ wq, w10.drewN nq = wq := ⟨_, rfl⟩
      have hbq : Below w10.heap.size w10 wq := by rw [← hwq]; exact below_dN (Below.refl _ _) _
      rw [hwq]
      clear hwq
      replace X6 := Lib.hid (nxt hbq X6.out)
      replace X7 := Lib.hid (nxt hbq X7.out)
      replace HB := Lib.hid (HB.out.trans (hbq.mono HB.out.size))
      clear v0 v1 o0 o1 o2 o3 o4 o5 hgd
      have v0 := (Lib.cell_of_heap (X6.out) 0).trans rfl
      have v1 := (Lib.cell_of_heap (X6.out) 1).trans rfl
      have o0 := (Lib.cell_of_heap (X7.out) 0).trans rfl
      have o1 := (Lib.cell_of_heap (X7.out) 1).trans rfl
      have o2 := (Lib.cell_of_heap (X7.out) 2).trans rfl
      have o3 := (Lib.cell_of_heap (X7.out) 3).trans rfl
      have o4 := (Lib.cell_of_heap (X7.out) 4).trans rfl
      have o5 := (Lib.cell_of_heap (X7.out) 5).trans rfl
      have hz6 := (Array.getElem?_eq_some_iff.1 X6.out).1
      have hz7 := (Array.getElem?_eq_some_iff.1 X7.out).1
      have hbd := (Below.refl wq.heap.size wq).drew
      refine region_ph 14 (fun w' => (∀ o, w'.cell? ⟨w3.heap.size, o, none⟩ = wq.cell? ⟨w3.heap.size, o, none⟩) ∧ (∀ o, w'.cell? ⟨w7.heap.size, o, none⟩ = wq.cell? ⟨w7.heap.size, o, none⟩)) (fun _ => True) (by kernel_rfl) ⟨fun _ => rfl, fun _ => rfl⟩ trivial (fun hp => ?_)
      refine take_ph 106 (i := 0) rfl rfl (by decide) (by kernel_rfl) (by kernel_rfl) (by kernel_rfl) (fun _ _ _ h => h) (by rfl) (fun w hSw => by (try dsimp only at hSw); obtain ⟨hSa, hSb⟩ := hSw; go_simp; first | done | with_reducible rfl) hp (fun hp => ?_)
      try simp only [Act.put, List.setIfInBounds_toArray, List.set_cons_zero, List.set_cons_succ]
      refine take_ph 107 (i := 1) rfl rfl (by decide) (by kernel_rfl) (by kernel_rfl) (by kernel_rfl) (fun _ _ _ h => h) (by rfl) (fun w hSw => by (try dsimp only at hSw); obtain ⟨hSa, hSb⟩ := hSw; go_simp; first | done | with_reducible rfl) hp (fun hp => ?_)
      try simp only [Act.put, List.setIfInBounds_toArray, List.set_cons_zero, List.set_cons_succ]
      refine take_ph 108 (i := 2) rfl rfl (by decide) (by kernel_rfl) (by kernel_rfl) (by kernel_rfl) (fun _ _ _ h => h) (by rfl) (fun w hSw => by (try dsimp only at hSw); obtain ⟨hSa, hSb⟩ := hSw; go_simp; first | done | with_reducible rfl) hp (fun hp => ?_)
      try simp only [Act.put, List.setIfInBounds_toArray, List.set_cons_zero, List.set_cons_succ]
      refine take_ph 109 (i := 3) rfl rfl (by decide) (by kernel_rfl) (by kernel_rfl) (by kernel_rfl) (fun _ _ _ h => h) (by rfl) (fun w hSw => by (try dsimp only at hSw); obtain ⟨hSa, hSb⟩ := hSw; go_simp; first | done | with_reducible rfl) hp (fun hp => ?_)
      try simp only [Act.put, List.setIfInBounds_toArray, List.set_cons_zero, List.set_cons_succ]
      refine take_ph 110 (i := 4) rfl rfl (by decide) (by kernel_rfl) (by kernel_rfl) (by kernel_rfl) (fun _ _ _ h => h) (by rfl) (fun w hSw => by (try dsimp only at hSw); obtain ⟨hSa, hSb⟩ := hSw; go_simp; first | done | with_reducible rfl) hp (fun hp => ?_)
      try simp only [Act.put, List.setIfInBounds_toArray, List.set_cons_zero, List.set_cons_succ]
      refine take_ph 111 (i := 5) rfl rfl (by decide) (by kernel_rfl) (by kernel_rfl) (by kernel_rfl) (fun _ _ _ h => h) (by rfl) (fun w hSw => by (try dsimp only at hSw); obtain ⟨hSa, hSb⟩ := hSw; go_simp; first | done | with_reducible rfl) hp (fun hp => ?_)
      try simp only [Act.put, List.setIfInBounds_toArray, List.set_cons_zero, List.set_cons_succ]
      refine take_ph 112 (i := 6) rfl rfl (by decide) (by kernel_rfl) (by kernel_rfl) (by kernel_rfl) (fun _ _ _ h => h) (by rfl) (fun w hSw => by (try dsimp only at hSw); obtain ⟨hSa, hSb⟩ := hSw; go_simp; first | done | with_reducible rfl) hp (fun hp => ?_)
      try simp only [Act.put, List.setIfInBounds_toArray, List.set_cons_zero, List.set_cons_succ]
      refine take_ph 113 (i := 7) (v := .slice (some ⟨gb, go, none⟩) np vc) rfl rfl (by decide) (by kernel_rfl) (by kernel_rfl) (by kernel_rfl) (fun _ _ _ h => h) (by rfl) (fun w hSw => ?hs) hp (fun hp => ?_)
      case hs =>
        go_simp
        first | done | (rw [if_pos ⟨by omega, hvc1⟩]; done) | (rw [if_pos ⟨by omega, hvc1⟩]; simp; done)
      try simp only [Act.put, List.setIfInBounds_toArray, List.set_cons_zero, List.set_cons_succ]
      refine AnyL.two (i := 8) (j := 13) (by kernel_rfl) rfl rfl (fun K hK => ?_) (fun K hK => ?_)
      · go_simp
        refine (hR.out _ (HB.out.trans (hbd.mono HB.out.size)) (hbq.trans (hbd.mono hbq.size))).mono ?_
        rintro e w11 ⟨rfl, hb11⟩
        have hbx := hbd.trans hb11
        refine hK.out _ _ (ph1 ⟨fun o => (hbx).cell (p := ⟨w3.heap.size, o, none⟩) hz6, fun o => (hbx).cell (p := ⟨w7.heap.size, o, none⟩) hz7⟩ trivial) (fun hp => ?_)
        clear hK
        try simp only [Act.put, List.setIfInBounds_toArray, List.set_cons_zero, List.set_cons_succ]
        refine take_ph 105 (i := 9) rfl rfl (by decide) (by kernel_rfl) (by kernel_rfl) (by kernel_rfl) (fun _ _ _ h => h) (by rfl) (fun w hSw => by (try dsimp only at hSw); obtain ⟨hSa, hSb⟩ := hSw; go_simp; first | done | with_reducible rfl) hp (fun hp => ?_)
        try simp only [Act.put, List.setIfInBounds_toArray, List.set_cons_zero, List.set_cons_succ]
        refine take_ph 115 (i := 10) rfl rfl (by decide) (by kernel_rfl) (by kernel_rfl) (by kernel_rfl) (fun _ _ _ h => h) (by rfl) (fun w hSw => by (try dsimp only at hSw); obtain ⟨hSa, hSb⟩ := hSw; go_simp; first | done | with_reducible rfl) hp (fun hp => ?_)
        try simp only [Act.put, List.setIfInBounds_toArray, List.set_cons_zero, List.set_cons_succ]
        refine take_ph 116 (i := 11) rfl rfl (by decide) (by kernel_rfl) (by kernel_rfl) (by kernel_rfl) (fun _ _ _ h => h) (by rfl) (fun w hSw => by (try dsimp only at hSw); obtain ⟨hSa, hSb⟩ := hSw; go_simp; first | done | with_reducible rfl) hp (fun hp => ?_)
        try simp only [Act.put, List.setIfInBounds_toArray, List.set_cons_zero, List.set_cons_succ]
        refine take_ph 117 (i := 12) rfl rfl (by decide) (by kernel_rfl) (by kernel_rfl) (by kernel_rfl) (fun _ _ _ h => h) (by rfl) (fun w hSw => by (try dsimp only at hSw); obtain ⟨hSa, hSb⟩ := hSw; go_simp; first | done | with_reducible rfl) hp (fun hp => ?_)
        try simp only [Act.put, List.setIfInBounds_toArray, List.set_cons_zero, List.set_cons_succ]
        refine AnyL.one (i := 13) (by kernel_rfl) rfl (fun K hK => ?_)
        go_simp
        refine hK.out _ _ (ph1 ⟨fun o => (hbx.alloc hbx.size (.cells #[.int .i64 0, .int .i64 0, .int .i64 0, .int .i64 0, .int .i64 0, .int .i64 0] 51 (0, 0))).cell (p := ⟨w3.heap.size, o, none⟩) hz6, fun o => (hbx.alloc hbx.size (.cells #[.int .i64 0, .int .i64 0, .int .i64 0, .int .i64 0, .int .i64 0, .int .i64 0] 51 (0, 0))).cell (p := ⟨w7.heap.size, o, none⟩) hz7⟩ trivial) (fun hp => ?_)
        clear hK
        try simp only [Act.put, List.setIfInBounds_toArray, List.set_cons_zero, List.set_cons_succ]
        refine AnyL.one (i := 14) (by kernel_rfl) rfl (fun K hK => ?_)
        have X16 := Lib.hid (show (w11.alloc (.cells #[.int .i64 za, .int .i64 zb, .int .i64 zsa, .int .i64 zsb, .int .i64 zga, .int .i64 zgb] 51 (0, 0))).heap[w11.heap.size]? = some (.cells #[.int .i64 za, .int .i64 zb, .int .i64 zsa, .int .i64 zsb, .int .i64 zga, .int .i64 zgb] 51 (0, 0)) from Array.getElem?_push_size)
        have hbz := hbx.alloc hbx.size (.cells #[.int .i64 za, .int .i64 zb, .int .i64 zsa, .int .i64 zsb, .int .i64 zga, .int .i64 zgb] 51 (0, 0))
        clear hbx hb11
        go_simp
        skip
        refine hK.out _ _ (ph1 ⟨fun o => (hbz).cell (p := ⟨w3.heap.size, o, none⟩) hz6, fun o => (hbz).cell (p := ⟨w7.heap.size, o, none⟩) hz7⟩ trivial) (fun hp => ?_)
        clear hK
        try simp only [Act.put, List.setIfInBounds_toArray, List.set_cons_zero, List.set_cons_succ]
        refine AnyL.one (i := 15) (by kernel_rfl) rfl (fun K hK => ?_)
        go_simp
        refine hK.out _ _ (ph1 ⟨fun o => (hbz).cell (p := ⟨w3.heap.size, o, none⟩) hz6, fun o => (hbz).cell (p := ⟨w7.heap.size, o, none⟩) hz7⟩ trivial) (fun hp => ?_)
        clear hK
        try simp only [Act.put, List.setIfInBounds_toArray, List.set_cons_zero, List.set_cons_succ]
        refine AnyL.one (i := 16) (by kernel_rfl) rfl (fun K hK => ?_)
        go_simp
        refine hK.out _ _ (ph1 ⟨fun o => (hbz).cell (p := ⟨w3.heap.size, o, none⟩) hz6, fun o => (hbz).cell (p := ⟨w7.heap.size, o, none⟩) hz7⟩ trivial) (fun hp => ?_)
        clear hK
        try simp only [Act.put, List.setIfInBounds_toArray, List.set_cons_zero, List.set_cons_succ]
        refine AnyL.done (by kernel_rfl) ?_ _
        simp only [Exit.then]
        generalize w11.alloc (.cells #[.int .i64 za, .int .i64 zb, .int .i64 zsa, .int .i64 zsb, .int .i64 zga, .int .i64 zgb] 51 (0, 0)) = WF at *
        generalize w11.heap.size = p16 at *
        skip
        have HV := Lib.hid (hbq.trans (hbz.mono hbq.size))
        replace X6 := Lib.hid (nxt hbz X6.out)
        replace X7 := Lib.hid (nxt hbz X7.out)
        replace HB := Lib.hid (HB.out.trans (hbz.mono HB.out.size))
        obtain ⟨e0, e1, e2, e3⟩ := Act1s.at (Hvr.out.ext HV.out).get (k := np) (by rw [Hlp.out]; omega)
        rw [hyp] at e0 e1 e2 e3
        dsimp only at e0 e1 e2 e3
        have hbw := (Below.refl WF.heap.size WF).alloc (Nat.le_refl _) (.cells #[.int .i64 tA, .int .i64 tB, .bool lA, .bool lB] 59 (0, 0))
        have X19 := Lib.hid (show (WF.alloc (.cells #[.int .i64 tA, .int .i64 tB, .bool lA, .bool lB] 59 (0, 0))).heap[WF.heap.size]? = some (.cells #[.int .i64 tA, .int .i64 tB, .bool lA, .bool lB] 59 (0, 0)) from Array.getElem?_push_size)
        clear hbz hbq hbd hz6 hz7 v0 v1 o0 o1 o2 o3 o4 o5 hp
        replace X6 := Lib.hid (nxt hbw X6.out)
        replace X7 := Lib.hid (nxt hbw X7.out)
        replace X16 := Lib.hid (nxt hbw X16.out)
        replace HB := Lib.hid (HB.out.trans ((hbw).mono HB.out.size))
        replace HV := Lib.hid (HV.out.trans ((hbw).mono HV.out.size))
        clear hbw
        have v0 := (Lib.cell_of_heap (X6.out) 0).trans rfl
        have v1 := (Lib.cell_of_heap (X6.out) 1).trans rfl
        have c0 := (Lib.cell_of_heap (X16.out) 0).trans rfl
        have c1 := (Lib.cell_of_heap (X16.out) 1).trans rfl
        have c2 := (Lib.cell_of_heap (X16.out) 2).trans rfl
        have c3 := (Lib.cell_of_heap (X16.out) 3).trans rfl
        have c4 := (Lib.cell_of_heap (X16.out) 4).trans rfl
        have c5 := (Lib.cell_of_heap (X16.out) 5).trans rfl
        have y0 := (Lib.cell_of_heap X19.out 0).trans rfl
        have y1 := (Lib.cell_of_heap X19.out 1).trans rfl
        have y2 := (Lib.cell_of_heap X19.out 2).trans rfl
        have y3 := (Lib.cell_of_heap X19.out 3).trans rfl
        have hnx := Lib.hid (spec_NextWorld _ rows T _ _ ⟨m0, t0⟩ ⟨za, zb, zsa, zsb, zga, zgb⟩ ⟨tA, tB, lA, lB⟩ _ (hT.out _ HB.out))
        rw [nextW_0 hcz (show TrnsOk ⟨tA, tB, lA, lB⟩ from hycan.1) hycan.2, hdo] at hnx
        simp only [Wld.cells] at hnx
        go_wp2_with fail
        refine hnx.out.mono ?_
        rintro e wn ⟨rfl, hbn⟩
        clear v0 v1 c0 c1 c2 c3 c4 c5 y0 y1 y2 y3 e0 e1 e2 e3 hnx
        replace X6 := Lib.hid (nxt hbn X6.out)
        replace X7 := Lib.hid (nxt hbn X7.out)
        replace X16 := Lib.hid (nxt hbn X16.out)
        replace HB := Lib.hid (HB.out.trans ((hbn).mono HB.out.size))
        replace HV := Lib.hid (HV.out.trans ((hbn).mono HV.out.size))
        replace X19 := Lib.hid (nxt hbn X19.out)
        have hbm := (Below.refl wn.heap.size wn).alloc (Nat.le_refl _) (.cells #[.int .i64 d1, .int .i64 d2, .int .i64 d3, .int .i64 d4, .int .i64 d5, .int .i64 d6] 51 (0, 0))
        replace X6 := Lib.hid (nxt hbm X6.out)
        replace X7 := Lib.hid (nxt hbm X7.out)
        replace X16 := Lib.hid (nxt hbm X16.out)
        replace HB := Lib.hid (HB.out.trans ((hbm).mono HB.out.size))
        replace HV := Lib.hid (HV.out.trans ((hbm).mono HV.out.size))
        replace X19 := Lib.hid (nxt hbm X19.out)
        clear hbn hbm
        have c0 := (Lib.cell_of_heap (X16.out) 0).trans rfl
        have c1 := (Lib.cell_of_heap (X16.out) 1).trans rfl
        have c2 := (Lib.cell_of_heap (X16.out) 2).trans rfl
        have c3 := (Lib.cell_of_heap (X16.out) 3).trans rfl
        have c4 := (Lib.cell_of_heap (X16.out) 4).trans rfl
        have c5 := (Lib.cell_of_heap (X16.out) 5).trans rfl
        have y0 := (Lib.cell_of_heap X19.out 0).trans rfl
        have y1 := (Lib.cell_of_heap X19.out 1).trans rfl
        have y2 := (Lib.cell_of_heap X19.out 2).trans rfl
        have y3 := (Lib.cell_of_heap X19.out 3).trans rfl
        have hiu := Lib.hid (impl_IsU _ rows T _ _ ⟨za, zb, zsa, zsb, zga, zgb⟩ ⟨tA, tB, lA, lB⟩ _ (hT.out _ HB.out) Hok.out hzok.in_ hycan.1.1 hycan.1.2)
        rw [hybad] at hiu
        simp only [Wld.cells, Act1.cells] at hiu
        go_wp2_with fail
        refine hiu.out.mono ?_
        rintro e wu ⟨rfl, hbu⟩
        replace X6 := Lib.hid (nxt hbu X6.out)
        replace X7 := Lib.hid (nxt hbu X7.out)
        replace X16 := Lib.hid (nxt hbu X16.out)
        replace HB := Lib.hid (HB.out.trans ((hbu).mono HB.out.size))
        replace HV := Lib.hid (HV.out.trans ((hbu).mono HV.out.size))
        have hzu := HV.out.size
        have hz1u := HB.out.size
        clear hbu hiu c0 c1 c2 c3 c4 c5 y0 y1 y2 y3 X19 X16
        have o0 := (Lib.cell_of_heap (X7.out) 0).trans rfl
        have o1 := (Lib.cell_of_heap (X7.out) 1).trans rfl
        have o2 := (Lib.cell_of_heap (X7.out) 2).trans rfl
        have o3 := (Lib.cell_of_heap (X7.out) 3).trans rfl
        have o4 := (Lib.cell_of_heap (X7.out) 4).trans rfl
        have o5 := (Lib.cell_of_heap (X7.out) 5).trans rfl
        have hbv := (Below.refl wu.heap.size wu).alloc (Nat.le_refl _) (.cells #[.int .i64 a0, .int .i64 b0, .int .i64 a0, .int .i64 b0, .int .i64 0, .int .i64 0] 51 (0, 0))
        have X22 := Lib.hid (show (wu.alloc (.cells #[.int .i64 a0, .int .i64 b0, .int .i64 a0, .int .i64 b0, .int .i64 0, .int .i64 0] 51 (0, 0))).heap[wu.heap.size]? = some (.cells #[.int .i64 a0, .int .i64 b0, .int .i64 a0, .int .i64 b0, .int .i64 0, .int .i64 0] 51 (0, 0)) from Array.getElem?_push_size)
        replace X6 := Lib.hid (nxt hbv X6.out)
        replace HB := Lib.hid (HB.out.trans (hbv.mono HB.out.size))
        replace HV := Lib.hid (HV.out.trans (hbv.mono HV.out.size))
        clear X7
        go_wp2_with fail
        clear o0 o1 o2 o3 o4 o5
        go_loopw [23] (fun i wr => ∃ (k : Nat) (x : Wld), i = .int .i64 k ∧ k ≤ np ∧ Hid (WalkP T ⟨m0, t0⟩ x (p.drop k) ⟨za, zb, zsa, zsb, zga, zgb⟩) ∧ Hid (x.ok ⟨m0, t0⟩) ∧ Hid (Below w1.heap.size w1 wr) ∧ Hid (Below w10.heap.size w10 wr) ∧ Hid (wr.heap[w3.heap.size]? = some (.cells #[.int .i64 m0, .int .i64 t0] 49 (0, 0))) ∧ Hid (wr.heap[wu.heap.size]? = some (.cells #[.int .i64 x.a, .int .i64 x.b, .int .i64 x.seenA, .int .i64 x.seenB, .int .i64 x.ageA, .int .i64 x.ageB] 51 (0, 0)))) (fun i _ => np - (intOf i).toNat)
        case atStart => exact ⟨0, ⟨a0, b0, a0, b0, 0, 0⟩, rfl, by omega, Lib.hid hwalk, hX0, HB, HV, X6, X22⟩
        case round =>
          clear HB HV X6 X22
          obtain ⟨k, x, rfl, hk, hW, hxok, HB, HV, X6, X22⟩ := hrel
          by_cases hkn : k < np
          · obtain ⟨hyc, hys, hyw⟩ := walk_at (by rw [Hnp.out]; exact hkn) hW.out
            obtain ⟨f0, f1, f2, f3⟩ := Act1s.at (Hvr.out.ext HV.out).get (k := k) (by rw [Hlp.out]; omega)
            have hyk : ∀ h, (p ++ [(⟨tA, tB, lA, lB⟩ : Act1)])[k]'h = p[k]'(by rw [Hnp.out]; exact hkn) := fun h => List.getElem_append_left (by rw [Hnp.out]; exact hkn)
            rw [hyk] at f0 f1 f2 f3
            obtain ⟨q, hq⟩ : ∃ q, p[k]'(by rw [Hnp.out]; exact hkn) = q := ⟨_, rfl⟩
            rw [hq] at hyc hys hyw f0 f1 f2 f3
            clear hyk hq
            obtain ⟨⟨htA, htB⟩, hcan⟩ := hyc
            have hok2 := Lib.hid (ok_do hxok.out htA htB hcan)
            have Hyw := Lib.hid hyw
            obtain ⟨qA, qB, mA, mB⟩ := q
            obtain ⟨xa, xb, xsa, xsb, xga, xgb⟩ := x
            dsimp only at X22 f0 f1 f2 f3
            have hiu := Lib.hid (fun W (hb : Below w1.heap.size w1 W) => spec_IsU _ rows T _ _ ⟨xa, xb, xsa, xsb, xga, xgb⟩ ⟨qA, qB, mA, mB⟩ W (hT.out _ hb) Hok.out hxok.out.in_ htA htB)
            have hnx := Lib.hid (fun W (hb : Below w1.heap.size w1 W) => spec_NextWorld _ rows T _ _ ⟨m0, t0⟩ ⟨xa, xb, xsa, xsb, xga, xgb⟩ ⟨qA, qB, mA, mB⟩ W (hT.out _ hb))
            have hcx : codeW T ⟨m0, t0⟩ ⟨xa, xb, xsa, xsb, xga, xgb⟩ = 0 := by unfold codeW; rw [if_pos Hok.out, if_pos hxok.out]
            obtain ⟨g1, g2, g3, g4, g5, g6, hdq⟩ : ∃ g1 g2 g3 g4 g5 g6, doW ⟨xa, xb, xsa, xsb, xga, xgb⟩ ⟨qA, qB, mA, mB⟩ = ⟨g1, g2, g3, g4, g5, g6⟩ := ⟨_, _, _, _, _, _, rfl⟩
            rw [nextW_0 hcx (show TrnsOk ⟨qA, qB, mA, mB⟩ from ⟨htA, htB⟩) hcan, hdq] at hnx
            rw [hys] at hiu
            rw [hdq] at hok2 Hyw
            simp only [Wld.cells, Act1.cells, Wtc.cells] at hiu hnx
            have hkn1 : (k : Int) < np := by omega
            have hkn2 : (k : Int) + 1 < (np : Int) + 1 := by omega
            have hk00 : (0 : Int) ≤ (k : Int) := by omega
            have hkn3 : (k : Int) < (np : Int) + 1 := by omega
            have hkn4 : (k : Int) < ((np + 1 : Nat) : Int) := by omega
            have hgl : gb < wr.heap.size := World.block_lt_of_cell? wr _ f0
            have hul := (Array.getElem?_eq_some_iff.1 X22.out).1
            have h3l := (Array.getElem?_eq_some_iff.1 X6.out).1
            have hzz : wr.heap.size ≤ wr.heap.size := Nat.le_refl _
            clear hcx hdq hyw hys hW hcan hxok
            have c0 := (Lib.cell_of_heap (X22.out) 0).trans rfl
            have c1 := (Lib.cell_of_heap (X22.out) 1).trans rfl
            have c2 := (Lib.cell_of_heap (X22.out) 2).trans rfl
            have c3 := (Lib.cell_of_heap (X22.out) 3).trans rfl
            have c4 := (Lib.cell_of_heap (X22.out) 4).trans rfl
            have c5 := (Lib.cell_of_heap (X22.out) 5).trans rfl
            go_wp2_with fail
            go_region_held3 (fun w' => (∀ o, w'.cell? ⟨wu.heap.size, o, none⟩ = wr.cell? ⟨wu.heap.size, o, none⟩) ∧ (∀ o, w'.cell? ⟨gb, o, none⟩ = wr.cell? ⟨gb, o, none⟩)) (first | exact ⟨fun _ => rfl, fun _ => rfl⟩ | exact ⟨fun o => hb26.cell (p := ⟨wu.heap.size, o, none⟩) hul, fun o => hb26.cell (p := ⟨gb, o, none⟩) hgl⟩)
              (first | (go_at_call 39; refine (hiu.out _ (HB.out.trans ((Below.refl _ _).drew.mono HB.out.size))).mono ?_; rintro e w26 ⟨rfl, hb26⟩))
            rename_i hHeld
            clear hHeld
            have hb6 := (Below.refl wr.heap.size wr).drew.trans hb26
            have f0 := (hb6.cell (p := ⟨gb, _, none⟩) hgl).trans f0
            have f1 := (hb6.cell (p := ⟨gb, _, none⟩) hgl).trans f1
            have f2 := (hb6.cell (p := ⟨gb, _, none⟩) hgl).trans f2
            have f3 := (hb6.cell (p := ⟨gb, _, none⟩) hgl).trans f3
            replace X6 := Lib.hid (nxt hb6 X6.out)
            replace X22 := Lib.hid (nxt hb6 X22.out)
            replace HB := Lib.hid (HB.out.trans (hb6.mono HB.out.size))
            replace HV := Lib.hid (HV.out.trans (hb6.mono HV.out.size))
            clear c0 c1 c2 c3 c4 c5 hb26 hb6 hgl hul h3l hzz hiu
            have hgl : gb < w26.heap.size := World.block_lt_of_cell? w26 _ f0
            have hul := (Array.getElem?_eq_some_iff.1 X22.out).1
            have h3l := (Array.getElem?_eq_some_iff.1 X6.out).1
            have v0 := (Lib.cell_of_heap (X6.out) 0).trans rfl
            have v1 := (Lib.cell_of_heap (X6.out) 1).trans rfl
            have c0 := (Lib.cell_of_heap (X22.out) 0).trans rfl
            have c1 := (Lib.cell_of_heap (X22.out) 1).trans rfl
            have c2 := (Lib.cell_of_heap (X22.out) 2).trans rfl
            have c3 := (Lib.cell_of_heap (X22.out) 3).trans rfl
            have c4 := (Lib.cell_of_heap (X22.out) 4).trans rfl
            have c5 := (Lib.cell_of_heap (X22.out) 5).trans rfl
            go_wp2_with fail
            refine region_ph 11 (fun w' => (∀ o, w'.cell? ⟨w3.heap.size, o, none⟩ = w26.cell? ⟨w3.heap.size, o, none⟩) ∧ (∀ o, w'.cell? ⟨gb, o, none⟩ = w26.cell? ⟨gb, o, none⟩)) (fun w' => ∀ o, w'.cell? ⟨wu.heap.size, o, none⟩ = w26.cell? ⟨wu.heap.size, o, none⟩) (by kernel_rfl) ⟨fun _ => rfl, fun _ => rfl⟩ (fun _ => rfl) (fun hp => ?_)
            refine take_ph 168 (i := 0) rfl rfl (by decide) (by kernel_rfl) (by kernel_rfl) (by kernel_rfl) (fun _ _ _ h => h) (by rfl) (fun w hSw => by (try dsimp only at hSw); obtain ⟨hSa, hSb⟩ := hSw; go_simp; first | done | with_reducible rfl) hp (fun hp => ?_)
            try simp only [Act.put, List.setIfInBounds_toArray, List.set_cons_zero, List.set_cons_succ]
            refine take_ph 169 (i := 1) rfl rfl (by decide) (by kernel_rfl) (by kernel_rfl) (by kernel_rfl) (fun _ _ _ h => h) (by rfl) (fun w hSw => by (try dsimp only at hSw); obtain ⟨hSa, hSb⟩ := hSw; go_simp; first | done | with_reducible rfl) hp (fun hp => ?_)
            try simp only [Act.put, List.setIfInBounds_toArray, List.set_cons_zero, List.set_cons_succ]
            refine take_ph1 170 (i := 2) rfl rfl (by decide) (by kernel_rfl) (by kernel_rfl) (by kernel_rfl) (by kernel_rfl) (by kernel_rfl) (fun _ _ _ h => h) (by rfl) (fun w hSw hBw => by (try dsimp only at hBw); go_simp; first | done | with_reducible rfl) hp (fun hp => ?_)
            try simp only [Act.put, List.setIfInBounds_toArray, List.set_cons_zero, List.set_cons_succ]
            refine take_ph 171 (i := 3) rfl rfl (by decide) (by kernel_rfl) (by kernel_rfl) (by kernel_rfl) (fun _ _ _ h => h) (by rfl) (fun w hSw => by (try dsimp only at hSw); obtain ⟨hSa, hSb⟩ := hSw; go_simp; first | done | with_reducible rfl) hp (fun hp => ?_)
            try simp only [Act.put, List.setIfInBounds_toArray, List.set_cons_zero, List.set_cons_succ]
            refine take_ph 172 (i := 4) rfl rfl (by decide) (by kernel_rfl) (by kernel_rfl) (by kernel_rfl) (fun _ _ _ h => h) (by rfl) (fun w hSw => by (try dsimp only at hSw); obtain ⟨hSa, hSb⟩ := hSw; go_simp; first | done | with_reducible rfl) hp (fun hp => ?_)
            try simp only [Act.put, List.setIfInBounds_toArray, List.set_cons_zero, List.set_cons_succ]
            refine take_ph 173 (i := 5) rfl rfl (by decide) (by kernel_rfl) (by kernel_rfl) (by kernel_rfl) (fun _ _ _ h => h) (by rfl) (fun w hSw => by (try dsimp only at hSw); obtain ⟨hSa, hSb⟩ := hSw; go_simp; first | done | with_reducible rfl) hp (fun hp => ?_)
            try simp only [Act.put, List.setIfInBounds_toArray, List.set_cons_zero, List.set_cons_succ]
            refine take_ph 174 (i := 6) rfl rfl (by decide) (by kernel_rfl) (by kernel_rfl) (by kernel_rfl) (fun _ _ _ h => h) (by rfl) (fun w hSw => by (try dsimp only at hSw); obtain ⟨hSa, hSb⟩ := hSw; go_simp; first | done | with_reducible rfl) hp (fun hp => ?_)
            try simp only [Act.put, List.setIfInBounds_toArray, List.set_cons_zero, List.set_cons_succ]
            refine AnyL.one (i := 7) (by kernel_rfl) rfl (fun K hK => ?_)
            go_simp
            have hb7 := (Below.refl w26.heap.size w26).drew
            refine (hnx.out _ (HB.out.trans (hb7.mono HB.out.size))).mono ?_
            rintro e w28 ⟨rfl, hb28⟩
            have hb8 := hb7.trans hb28
            refine hK.out _ _ (ph1 ⟨fun o => hb8.cell (p := ⟨w3.heap.size, o, none⟩) h3l, fun o => hb8.cell (p := ⟨gb, o, none⟩) hgl⟩ (fun o => hb8.cell (p := ⟨wu.heap.size, o, none⟩) hul)) (fun hp => ?_)
            clear hK
            try simp only [Act.put, List.setIfInBounds_toArray, List.set_cons_zero, List.set_cons_succ]
            refine take_ph 167 (i := 8) rfl rfl (by decide) (by kernel_rfl) (by kernel_rfl) (by kernel_rfl) (fun _ _ _ h => h) (by rfl) (fun w hSw => by (try dsimp only at hSw); obtain ⟨hSa, hSb⟩ := hSw; go_simp; first | done | with_reducible rfl) hp (fun hp => ?_)
            try simp only [Act.put, List.setIfInBounds_toArray, List.set_cons_zero, List.set_cons_succ]
            refine take_ph 176 (i := 9) rfl rfl (by decide) (by kernel_rfl) (by kernel_rfl) (by kernel_rfl) (fun _ _ _ h => h) (by rfl) (fun w hSw => by (try dsimp only at hSw); obtain ⟨hSa, hSb⟩ := hSw; go_simp; first | done | with_reducible rfl) hp (fun hp => ?_)
            try simp only [Act.put, List.setIfInBounds_toArray, List.set_cons_zero, List.set_cons_succ]
            refine take_ph 177 (i := 10) rfl rfl (by decide) (by kernel_rfl) (by kernel_rfl) (by kernel_rfl) (fun _ _ _ h => h) (by rfl) (fun w hSw => by (try dsimp only at hSw); obtain ⟨hSa, hSb⟩ := hSw; go_simp; first | done | with_reducible rfl) hp (fun hp => ?_)
            try simp only [Act.put, List.setIfInBounds_toArray, List.set_cons_zero, List.set_cons_succ]
            have hc3 := fun o => hb8.cell (p := ⟨w3.heap.size, o, none⟩) h3l
            have hcg := fun o => hb8.cell (p := ⟨gb, o, none⟩) hgl
            replace X6 := Lib.hid (nxt hb8 X6.out)
            replace X22 := Lib.hid (nxt hb8 X22.out)
            replace HB := Lib.hid (HB.out.trans (hb8.mono HB.out.size))
            replace HV := Lib.hid (HV.out.trans (hb8.mono HV.out.size))
            clear c0 c1 c2 c3 c4 c5 hb28 hb7
            have c0 := (Lib.cell_of_heap (X22.out) 0).trans rfl
            have c1 := (Lib.cell_of_heap (X22.out) 1).trans rfl
            have c2 := (Lib.cell_of_heap (X22.out) 2).trans rfl
            have c3 := (Lib.cell_of_heap (X22.out) 3).trans rfl
            have c4 := (Lib.cell_of_heap (X22.out) 4).trans rfl
            have c5 := (Lib.cell_of_heap (X22.out) 5).trans rfl
            have fz := fun j => Lib.frozen_of_heap X22.out j
            refine AnyL.one (i := 11) (by kernel_rfl) rfl (fun K hK => ?_)
            go_simp
            have hbs := below6 (p := wu.heap.size) w28 (Nat.le_refl _) (a0 := .int .i64 g1) (a1 := .int .i64 g2) (a2 := .int .i64 g3) (a3 := .int .i64 g4) (a4 := .int .i64 g5) (a5 := .int .i64 g6)
            replace X6 := Lib.hid (off6 (p := wu.heap.size) (a0 := .int .i64 g1) (a1 := .int .i64 g2) (a2 := .int .i64 g3) (a3 := .int .i64 g4) (a4 := .int .i64 g5) (a5 := .int .i64 g6) X6.out (by omega))
            replace X22 := Lib.hid (set6 (a0 := .int .i64 g1) (a1 := .int .i64 g2) (a2 := .int .i64 g3) (a3 := .int .i64 g4) (a4 := .int .i64 g5) (a5 := .int .i64 g6) X22.out)
            replace HB := Lib.hid (HB.out.trans (hbs.mono hz1u))
            replace HV := Lib.hid (HV.out.trans (hbs.mono hzu))
            refine hK.out _ _ (ph2 (by kernel_rfl) ⟨fun o => (hbs.cell (p := ⟨w3.heap.size, o, none⟩) (show w3.heap.size < wu.heap.size by omega)).trans (hc3 o), fun o => (hbs.cell (p := ⟨gb, o, none⟩) (show gb < wu.heap.size by omega)).trans (hcg o)⟩) (fun hp => ?_)
            clear hK hbs c0 c1 c2 c3 c4 c5 fz hc3 hcg hb8
            generalize ((((((w28.setCell ⟨wu.heap.size, 0, none⟩ (.int .i64 g1)).setCell ⟨wu.heap.size, 1, none⟩ (.int .i64 g2)).setCell ⟨wu.heap.size, 2, none⟩ (.int .i64 g3)).setCell ⟨wu.heap.size, 3, none⟩ (.int .i64 g4)).setCell ⟨wu.heap.size, 4, none⟩ (.int .i64 g5)).setCell ⟨wu.heap.size, 5, none⟩ (.int .i64 g6)) = wz at *
            try simp only [Act.put, List.setIfInBounds_toArray, List.set_cons_zero, List.set_cons_succ]
            refine AnyL.done (by kernel_rfl) ?_ _
            try simp only [Exit.inBlock, Exit.then]
            go_wp2_with fail
            go_roundw
            case rel => exact ⟨k + 1, ⟨g1, g2, g3, g4, g5, g6⟩, congrArg (Value.int .i64) (by omega), by omega, Hyw, hok2, HB, HV, X6, X22⟩
            case measure => simp [intOf]; omega
          · have hkn1 : ¬ (k : Int) < np := by omega
            have hkn2 : ¬ (k : Int) + 1 < (np : Int) + 1 := by omega
            go_wp2
            go_ret
            exact ⟨rfl, Hb1.out.trans (HB.out.mono Hb1.out.size)⟩
      · go_simp
        have X16 := Lib.hid (show (wq.drew.alloc (.cells #[.int .i64 0, .int .i64 0, .int .i64 0, .int .i64 0, .int .i64 0, .int .i64 0] 51 (0, 0))).heap[wq.heap.size]? = some (.cells #[.int .i64 0, .int .i64 0, .int .i64 0, .int .i64 0, .int .i64 0, .int .i64 0] 51 (0, 0)) from Array.getElem?_push_size)
        have hba := hbd.alloc hbd.size (.cells #[.int .i64 0, .int .i64 0, .int .i64 0, .int .i64 0, .int .i64 0, .int .i64 0] 51 (0, 0))
        refine hK.out _ _ (ph1 ⟨fun o => (hba).cell (p := ⟨w3.heap.size, o, none⟩) hz6, fun o => (hba).cell (p := ⟨w7.heap.size, o, none⟩) hz7⟩ trivial) (fun hp => ?_)
        clear hK
        try simp only [Act.put, List.setIfInBounds_toArray, List.set_cons_zero, List.set_cons_succ]
        refine AnyL.one (i := 8) (by kernel_rfl) rfl (fun K hK => ?_)
        go_simp
        refine (hR.out _ (HB.out.trans (hba.mono HB.out.size)) (hbq.trans (hba.mono hbq.size))).mono ?_
        rintro e w11 ⟨rfl, hb11⟩
        have hbx := hba.trans (hb11.mono hba.size)
        replace X16 := Lib.hid (nxt hb11 X16.out)
        refine hK.out _ _ (ph1 ⟨fun o => (hbx).cell (p := ⟨w3.heap.size, o, none⟩) hz6, fun o => (hbx).cell (p := ⟨w7.heap.size, o, none⟩) hz7⟩ trivial) (fun hp => ?_)
        clear hK hb11 hba
        try simp only [Act.put, List.setIfInBounds_toArray, List.set_cons_zero, List.set_cons_succ]
        refine take_ph 105 (i := 9) rfl rfl (by decide) (by kernel_rfl) (by kernel_rfl) (by kernel_rfl) (fun _ _ _ h => h) (by rfl) (fun w hSw => by (try dsimp only at hSw); obtain ⟨hSa, hSb⟩ := hSw; go_simp; first | done | with_reducible rfl) hp (fun hp => ?_)
        try simp only [Act.put, List.setIfInBounds_toArray, List.set_cons_zero, List.set_cons_succ]
        refine take_ph 115 (i := 10) rfl rfl (by decide) (by kernel_rfl) (by kernel_rfl) (by kernel_rfl) (fun _ _ _ h => h) (by rfl) (fun w hSw => by (try dsimp only at hSw); obtain ⟨hSa, hSb⟩ := hSw; go_simp; first | done | with_reducible rfl) hp (fun hp => ?_)
        try simp only [Act.put, List.setIfInBounds_toArray, List.set_cons_zero, List.set_cons_succ]
        refine take_ph 116 (i := 11) rfl rfl (by decide) (by kernel_rfl) (by kernel_rfl) (by kernel_rfl) (fun _ _ _ h => h) (by rfl) (fun w hSw => by (try dsimp only at hSw); obtain ⟨hSa, hSb⟩ := hSw; go_simp; first | done | with_reducible rfl) hp (fun hp => ?_)
        try simp only [Act.put, List.setIfInBounds_toArray, List.set_cons_zero, List.set_cons_succ]
        refine take_ph 117 (i := 12) rfl rfl (by decide) (by kernel_rfl) (by kernel_rfl) (by kernel_rfl) (fun _ _ _ h => h) (by rfl) (fun w hSw => by (try dsimp only at hSw); obtain ⟨hSa, hSb⟩ := hSw; go_simp; first | done | with_reducible rfl) hp (fun hp => ?_)
        try simp only [Act.put, List.setIfInBounds_toArray, List.set_cons_zero, List.set_cons_succ]
        have c0 := (Lib.cell_of_heap (X16.out) 0).trans rfl
        have c1 := (Lib.cell_of_heap (X16.out) 1).trans rfl
        have c2 := (Lib.cell_of_heap (X16.out) 2).trans rfl
        have c3 := (Lib.cell_of_heap (X16.out) 3).trans rfl
        have c4 := (Lib.cell_of_heap (X16.out) 4).trans rfl
        have c5 := (Lib.cell_of_heap (X16.out) 5).trans rfl
        have fz := fun j => Lib.frozen_of_heap X16.out j
        refine AnyL.one (i := 14) (by kernel_rfl) rfl (fun K hK => ?_)
        have hbz := hbx.trans (below6 (p := wq.heap.size) w11 (Nat.le_refl _) (a0 := .int .i64 za) (a1 := .int .i64 zb) (a2 := .int .i64 zsa) (a3 := .int .i64 zsb) (a4 := .int .i64 zga) (a5 := .int .i64 zgb))
        replace X16 := Lib.hid (set6 (a0 := .int .i64 za) (a1 := .int .i64 zb) (a2 := .int .i64 zsa) (a3 := .int .i64 zsb) (a4 := .int .i64 zga) (a5 := .int .i64 zgb) X16.out)
        clear hbx
        go_simp
        clear c0 c1 c2 c3 c4 c5 fz
        skip
        refine hK.out _ _ (ph1 ⟨fun o => (hbz).cell (p := ⟨w3.heap.size, o, none⟩) hz6, fun o => (hbz).cell (p := ⟨w7.heap.size, o, none⟩) hz7⟩ trivial) (fun hp => ?_)
        clear hK
        try simp only [Act.put, List.setIfInBounds_toArray, List.set_cons_zero, List.set_cons_succ]
        refine AnyL.one (i := 15) (by kernel_rfl) rfl (fun K hK => ?_)
        go_simp
        refine hK.out _ _ (ph1 ⟨fun o => (hbz).cell (p := ⟨w3.heap.size, o, none⟩) hz6, fun o => (hbz).cell (p := ⟨w7.heap.size, o, none⟩) hz7⟩ trivial) (fun hp => ?_)
        clear hK
        try simp only [Act.put, List.setIfInBounds_toArray, List.set_cons_zero, List.set_cons_succ]
        refine AnyL.one (i := 16) (by kernel_rfl) rfl (fun K hK => ?_)
        go_simp
        refine hK.out _ _ (ph1 ⟨fun o => (hbz).cell (p := ⟨w3.heap.size, o, none⟩) hz6, fun o => (hbz).cell (p := ⟨w7.heap.size, o, none⟩) hz7⟩ trivial) (fun hp => ?_)
        clear hK
        try simp only [Act.put, List.setIfInBounds_toArray, List.set_cons_zero, List.set_cons_succ]
        refine AnyL.done (by kernel_rfl) ?_ _
        simp only [Exit.then]
        generalize ((((((w11.setCell ⟨wq.heap.size, 0, none⟩ (.int .i64 za)).setCell ⟨wq.heap.size, 1, none⟩ (.int .i64 zb)).setCell ⟨wq.heap.size, 2, none⟩ (.int .i64 zsa)).setCell ⟨wq.heap.size, 3, none⟩ (.int .i64 zsb)).setCell ⟨wq.heap.size, 4, none⟩ (.int .i64 zga)).setCell ⟨wq.heap.size, 5, none⟩ (.int .i64 zgb)) = WF at *
        obtain ⟨p16, hp16⟩ : ∃ p16, wq.heap.size = p16 := ⟨_, rfl⟩
        rw [hp16] at X16 ⊢
        clear hp16
        skip
        have HV := Lib.hid (hbq.trans (hbz.mono hbq.size))
        replace X6 := Lib.hid (nxt hbz X6.out)
        replace X7 := Lib.hid (nxt hbz X7.out)
        replace HB := Lib.hid (HB.out.trans (hbz.mono HB.out.size))
        obtain ⟨e0, e1, e2, e3⟩ := Act1s.at (Hvr.out.ext HV.out).get (k := np) (by rw [Hlp.out]; omega)
        rw [hyp] at e0 e1 e2 e3
        dsimp only at e0 e1 e2 e3
        have hbw := (Below.refl WF.heap.size WF).alloc (Nat.le_refl _) (.cells #[.int .i64 tA, .int .i64 tB, .bool lA, .bool lB] 59 (0, 0))
        have X19 := Lib.hid (show (WF.alloc (.cells #[.int .i64 tA, .int .i64 tB, .bool lA, .bool lB] 59 (0, 0))).heap[WF.heap.size]? = some (.cells #[.int .i64 tA, .int .i64 tB, .bool lA, .bool lB] 59 (0, 0)) from Array.getElem?_push_size)
        clear hbz hbq hbd hz6 hz7 v0 v1 o0 o1 o2 o3 o4 o5 hp
        replace X6 := Lib.hid (nxt hbw X6.out)
        replace X7 := Lib.hid (nxt hbw X7.out)
        replace X16 := Lib.hid (nxt hbw X16.out)
        replace HB := Lib.hid (HB.out.trans ((hbw).mono HB.out.size))
        replace HV := Lib.hid (HV.out.trans ((hbw).mono HV.out.size))
        clear hbw
        have v0 := (Lib.cell_of_heap (X6.out) 0).trans rfl
        have v1 := (Lib.cell_of_heap (X6.out) 1).trans rfl
        have c0 := (Lib.cell_of_heap (X16.out) 0).trans rfl
        have c1 := (Lib.cell_of_heap (X16.out) 1).trans rfl
        have c2 := (Lib.cell_of_heap (X16.out) 2).trans rfl
        have c3 := (Lib.cell_of_heap (X16.out) 3).trans rfl
        have c4 := (Lib.cell_of_heap (X16.out) 4).trans rfl
        have c5 := (Lib.cell_of_heap (X16.out) 5).trans rfl
        have y0 := (Lib.cell_of_heap X19.out 0).trans rfl
        have y1 := (Lib.cell_of_heap X19.out 1).trans rfl
        have y2 := (Lib.cell_of_heap X19.out 2).trans rfl
        have y3 := (Lib.cell_of_heap X19.out 3).trans rfl
        have hnx := Lib.hid (spec_NextWorld _ rows T _ _ ⟨m0, t0⟩ ⟨za, zb, zsa, zsb, zga, zgb⟩ ⟨tA, tB, lA, lB⟩ _ (hT.out _ HB.out))
        rw [nextW_0 hcz (show TrnsOk ⟨tA, tB, lA, lB⟩ from hycan.1) hycan.2, hdo] at hnx
        simp only [Wld.cells] at hnx
        go_wp2_with fail
        refine hnx.out.mono ?_
        rintro e wn ⟨rfl, hbn⟩
        clear v0 v1 c0 c1 c2 c3 c4 c5 y0 y1 y2 y3 e0 e1 e2 e3 hnx
        replace X6 := Lib.hid (nxt hbn X6.out)
        replace X7 := Lib.hid (nxt hbn X7.out)
        replace X16 := Lib.hid (nxt hbn X16.out)
        replace HB := Lib.hid (HB.out.trans ((hbn).mono HB.out.size))
        replace HV := Lib.hid (HV.out.trans ((hbn).mono HV.out.size))
        replace X19 := Lib.hid (nxt hbn X19.out)
        have hbm := (Below.refl wn.heap.size wn).alloc (Nat.le_refl _) (.cells #[.int .i64 d1, .int .i64 d2, .int .i64 d3, .int .i64 d4, .int .i64 d5, .int .i64 d6] 51 (0, 0))
        replace X6 := Lib.hid (nxt hbm X6.out)
        replace X7 := Lib.hid (nxt hbm X7.out)
        replace X16 := Lib.hid (nxt hbm X16.out)
        replace HB := Lib.hid (HB.out.trans ((hbm).mono HB.out.size))
        replace HV := Lib.hid (HV.out.trans ((hbm).mono HV.out.size))
        replace X19 := Lib.hid (nxt hbm X19.out)
        clear hbn hbm
        have c0 := (Lib.cell_of_heap (X16.out) 0).trans rfl
        have c1 := (Lib.cell_of_heap (X16.out) 1).trans rfl
        have c2 := (Lib.cell_of_heap (X16.out) 2).trans rfl
        have c3 := (Lib.cell_of_heap (X16.out) 3).trans rfl
        have c4 := (Lib.cell_of_heap (X16.out) 4).trans rfl
        have c5 := (Lib.cell_of_heap (X16.out) 5).trans rfl
        have y0 := (Lib.cell_of_heap X19.out 0).trans rfl
        have y1 := (Lib.cell_of_heap X19.out 1).trans rfl
        have y2 := (Lib.cell_of_heap X19.out 2).trans rfl
        have y3 := (Lib.cell_of_heap X19.out 3).trans rfl
        have hiu := Lib.hid (impl_IsU _ rows T _ _ ⟨za, zb, zsa, zsb, zga, zgb⟩ ⟨tA, tB, lA, lB⟩ _ (hT.out _ HB.out) Hok.out hzok.in_ hycan.1.1 hycan.1.2)
        rw [hybad] at hiu
        simp only [Wld.cells, Act1.cells] at hiu
        go_wp2_with fail
        refine hiu.out.mono ?_
        rintro e wu ⟨rfl, hbu⟩
        replace X6 := Lib.hid (nxt hbu X6.out)
        replace X7 := Lib.hid (nxt hbu X7.out)
        replace X16 := Lib.hid (nxt hbu X16.out)
        replace HB := Lib.hid (HB.out.trans ((hbu).mono HB.out.size))
        replace HV := Lib.hid (HV.out.trans ((hbu).mono HV.out.size))
        have hzu := HV.out.size
        have hz1u := HB.out.size
        clear hbu hiu c0 c1 c2 c3 c4 c5 y0 y1 y2 y3 X19 X16
        have o0 := (Lib.cell_of_heap (X7.out) 0).trans rfl
        have o1 := (Lib.cell_of_heap (X7.out) 1).trans rfl
        have o2 := (Lib.cell_of_heap (X7.out) 2).trans rfl
        have o3 := (Lib.cell_of_heap (X7.out) 3).trans rfl
        have o4 := (Lib.cell_of_heap (X7.out) 4).trans rfl
        have o5 := (Lib.cell_of_heap (X7.out) 5).trans rfl
        have hbv := (Below.refl wu.heap.size wu).alloc (Nat.le_refl _) (.cells #[.int .i64 a0, .int .i64 b0, .int .i64 a0, .int .i64 b0, .int .i64 0, .int .i64 0] 51 (0, 0))
        have X22 := Lib.hid (show (wu.alloc (.cells #[.int .i64 a0, .int .i64 b0, .int .i64 a0, .int .i64 b0, .int .i64 0, .int .i64 0] 51 (0, 0))).heap[wu.heap.size]? = some (.cells #[.int .i64 a0, .int .i64 b0, .int .i64 a0, .int .i64 b0, .int .i64 0, .int .i64 0] 51 (0, 0)) from Array.getElem?_push_size)
        replace X6 := Lib.hid (nxt hbv X6.out)
        replace HB := Lib.hid (HB.out.trans (hbv.mono HB.out.size))
        replace HV := Lib.hid (HV.out.trans (hbv.mono HV.out.size))
        clear X7
        go_wp2_with fail
        clear o0 o1 o2 o3 o4 o5
        go_loopw [23] (fun i wr => ∃ (k : Nat) (x : Wld), i = .int .i64 k ∧ k ≤ np ∧ Hid (WalkP T ⟨m0, t0⟩ x (p.drop k) ⟨za, zb, zsa, zsb, zga, zgb⟩) ∧ Hid (x.ok ⟨m0, t0⟩) ∧ Hid (Below w1.heap.size w1 wr) ∧ Hid (Below w10.heap.size w10 wr) ∧ Hid (wr.heap[w3.heap.size]? = some (.cells #[.int .i64 m0, .int .i64 t0] 49 (0, 0))) ∧ Hid (wr.heap[wu.heap.size]? = some (.cells #[.int .i64 x.a, .int .i64 x.b, .int .i64 x.seenA, .int .i64 x.seenB, .int .i64 x.ageA, .int .i64 x.ageB] 51 (0, 0)))) (fun i _ => np - (intOf i).toNat)
        case atStart => exact ⟨0, ⟨a0, b0, a0, b0, 0, 0⟩, rfl, by omega, Lib.hid hwalk, hX0, HB, HV, X6, X22⟩
        case round =>
          clear HB HV X6 X22
          obtain ⟨k, x, rfl, hk, hW, hxok, HB, HV, X6, X22⟩ := hrel
          by_cases hkn : k < np
          · obtain ⟨hyc, hys, hyw⟩ := walk_at (by rw [Hnp.out]; exact hkn) hW.out
            obtain ⟨f0, f1, f2, f3⟩ := Act1s.at (Hvr.out.ext HV.out).get (k := k) (by rw [Hlp.out]; omega)
            have hyk : ∀ h, (p ++ [(⟨tA, tB, lA, lB⟩ : Act1)])[k]'h = p[k]'(by rw [Hnp.out]; exact hkn) := fun h => List.getElem_append_left (by rw [Hnp.out]; exact hkn)
            rw [hyk] at f0 f1 f2 f3
            obtain ⟨q, hq⟩ : ∃ q, p[k]'(by rw [Hnp.out]; exact hkn) = q := ⟨_, rfl⟩
            rw [hq] at hyc hys hyw f0 f1 f2 f3
            clear hyk hq
            obtain ⟨⟨htA, htB⟩, hcan⟩ := hyc
            have hok2 := Lib.hid (ok_do hxok.out htA htB hcan)
            have Hyw := Lib.hid hyw
            obtain ⟨qA, qB, mA, mB⟩ := q
            obtain ⟨xa, xb, xsa, xsb, xga, xgb⟩ := x
            dsimp only at X22 f0 f1 f2 f3
            have hiu := Lib.hid (fun W (hb : Below w1.heap.size w1 W) => spec_IsU _ rows T _ _ ⟨xa, xb, xsa, xsb, xga, xgb⟩ ⟨qA, qB, mA, mB⟩ W (hT.out _ hb) Hok.out hxok.out.in_ htA htB)
            have hnx := Lib.hid (fun W (hb : Below w1.heap.size w1 W) => spec_NextWorld _ rows T _ _ ⟨m0, t0⟩ ⟨xa, xb, xsa, xsb, xga, xgb⟩ ⟨qA, qB, mA, mB⟩ W (hT.out _ hb))
            have hcx : codeW T ⟨m0, t0⟩ ⟨xa, xb, xsa, xsb, xga, xgb⟩ = 0 := by unfold codeW; rw [if_pos Hok.out, if_pos hxok.out]
            obtain ⟨g1, g2, g3, g4, g5, g6, hdq⟩ : ∃ g1 g2 g3 g4 g5 g6, doW ⟨xa, xb, xsa, xsb, xga, xgb⟩ ⟨qA, qB, mA, mB⟩ = ⟨g1, g2, g3, g4, g5, g6⟩ := ⟨_, _, _, _, _, _, rfl⟩
            rw [nextW_0 hcx (show TrnsOk ⟨qA, qB, mA, mB⟩ from ⟨htA, htB⟩) hcan, hdq] at hnx
            rw [hys] at hiu
            rw [hdq] at hok2 Hyw
            simp only [Wld.cells, Act1.cells, Wtc.cells] at hiu hnx
            have hkn1 : (k : Int) < np := by omega
            have hkn2 : (k : Int) + 1 < (np : Int) + 1 := by omega
            have hk00 : (0 : Int) ≤ (k : Int) := by omega
            have hkn3 : (k : Int) < (np : Int) + 1 := by omega
            have hkn4 : (k : Int) < ((np + 1 : Nat) : Int) := by omega
            have hgl : gb < wr.heap.size := World.block_lt_of_cell? wr _ f0
            have hul := (Array.getElem?_eq_some_iff.1 X22.out).1
            have h3l := (Array.getElem?_eq_some_iff.1 X6.out).1
            have hzz : wr.heap.size ≤ wr.heap.size := Nat.le_refl _
            clear hcx hdq hyw hys hW hcan hxok
            have c0 := (Lib.cell_of_heap (X22.out) 0).trans rfl
            have c1 := (Lib.cell_of_heap (X22.out) 1).trans rfl
            have c2 := (Lib.cell_of_heap (X22.out) 2).trans rfl
            have c3 := (Lib.cell_of_heap (X22.out) 3).trans rfl
            have c4 := (Lib.cell_of_heap (X22.out) 4).trans rfl
            have c5 := (Lib.cell_of_heap (X22.out) 5).trans rfl
            go_wp2_with fail
            go_region_held3 (fun w' => (∀ o, w'.cell? ⟨wu.heap.size, o, none⟩ = wr.cell? ⟨wu.heap.size, o, none⟩) ∧ (∀ o, w'.cell? ⟨gb, o, none⟩ = wr.cell? ⟨gb, o, none⟩)) (first | exact ⟨fun _ => rfl, fun _ => rfl⟩ | exact ⟨fun o => hb26.cell (p := ⟨wu.heap.size, o, none⟩) hul, fun o => hb26.cell (p := ⟨gb, o, none⟩) hgl⟩)
              (first | (go_at_call 39; refine (hiu.out _ (HB.out.trans ((Below.refl _ _).drew.mono HB.out.size))).mono ?_; rintro e w26 ⟨rfl, hb26⟩))
            rename_i hHeld
            clear hHeld
            have hb6 := (Below.refl wr.heap.size wr).drew.trans hb26
            have f0 := (hb6.cell (p := ⟨gb, _, none⟩) hgl).trans f0
            have f1 := (hb6.cell (p := ⟨gb, _, none⟩) hgl).trans f1
            have f2 := (hb6.cell (p := ⟨gb, _, none⟩) hgl).trans f2
            have f3 := (hb6.cell (p := ⟨gb, _, none⟩) hgl).trans f3
            replace X6 := Lib.hid (nxt hb6 X6.out)
            replace X22 := Lib.hid (nxt hb6 X22.out)
            replace HB := Lib.hid (HB.out.trans (hb6.mono HB.out.size))
            replace HV := Lib.hid (HV.out.trans (hb6.mono HV.out.size))
            clear c0 c1 c2 c3 c4 c5 hb26 hb6 hgl hul h3l hzz hiu
            have hgl : gb < w26.heap.size := World.block_lt_of_cell? w26 _ f0
            have hul := (Array.getElem?_eq_some_iff.1 X22.out).1
            have h3l := (Array.getElem?_eq_some_iff.1 X6.out).1
            have v0 := (Lib.cell_of_heap (X6.out) 0).trans rfl
            have v1 := (Lib.cell_of_heap (X6.out) 1).trans rfl
            have c0 := (Lib.cell_of_heap (X22.out) 0).trans rfl
            have c1 := (Lib.cell_of_heap (X22.out) 1).trans rfl
            have c2 := (Lib.cell_of_heap (X22.out) 2).trans rfl
            have c3 := (Lib.cell_of_heap (X22.out) 3).trans rfl
            have c4 := (Lib.cell_of_heap (X22.out) 4).trans rfl
            have c5 := (Lib.cell_of_heap (X22.out) 5).trans rfl
            go_wp2_with fail
            refine region_ph 11 (fun w' => (∀ o, w'.cell? ⟨w3.heap.size, o, none⟩ = w26.cell? ⟨w3.heap.size, o, none⟩) ∧ (∀ o, w'.cell? ⟨gb, o, none⟩ = w26.cell? ⟨gb, o, none⟩)) (fun w' => ∀ o, w'.cell? ⟨wu.heap.size, o, none⟩ = w26.cell? ⟨wu.heap.size, o, none⟩) (by kernel_rfl) ⟨fun _ => rfl, fun _ => rfl⟩ (fun _ => rfl) (fun hp => ?_)
            refine take_ph 168 (i := 0) rfl rfl (by decide) (by kernel_rfl) (by kernel_rfl) (by kernel_rfl) (fun _ _ _ h => h) (by rfl) (fun w hSw => by (try dsimp only at hSw); obtain ⟨hSa, hSb⟩ := hSw; go_simp; first | done | with_reducible rfl) hp (fun hp => ?_)
            try simp only [Act.put, List.setIfInBounds_toArray, List.set_cons_zero, List.set_cons_succ]
            refine take_ph 169 (i := 1) rfl rfl (by decide) (by kernel_rfl) (by kernel_rfl) (by kernel_rfl) (fun _ _ _ h => h) (by rfl) (fun w hSw => by (try dsimp only at hSw); obtain ⟨hSa, hSb⟩ := hSw; go_simp; first | done | with_reducible rfl) hp (fun hp => ?_)
            try simp only [Act.put, List.setIfInBounds_toArray, List.set_cons_zero, List.set_cons_succ]
            refine take_ph1 170 (i := 2) rfl rfl (by decide) (by kernel_rfl) (by kernel_rfl) (by kernel_rfl) (by kernel_rfl) (by kernel_rfl) (fun _ _ _ h => h) (by rfl) (fun w hSw hBw => by (try dsimp only at hBw); go_simp; first | done | with_reducible rfl) hp (fun hp => ?_)
            try simp only [Act.put, List.setIfInBounds_toArray, List.set_cons_zero, List.set_cons_succ]
            refine take_ph 171 (i := 3) rfl rfl (by decide) (by kernel_rfl) (by kernel_rfl) (by kernel_rfl) (fun _ _ _ h => h) (by rfl) (fun w hSw => by (try dsimp only at hSw); obtain ⟨hSa, hSb⟩ := hSw; go_simp; first | done | with_reducible rfl) hp (fun hp => ?_)
            try simp only [Act.put, List.setIfInBounds_toArray, List.set_cons_zero, List.set_cons_succ]
            refine take_ph 172 (i := 4) rfl rfl (by decide) (by kernel_rfl) (by kernel_rfl) (by kernel_rfl) (fun _ _ _ h => h) (by rfl) (fun w hSw => by (try dsimp only at hSw); obtain ⟨hSa, hSb⟩ := hSw; go_simp; first | done | with_reducible rfl) hp (fun hp => ?_)
            try simp only [Act.put, List.setIfInBounds_toArray, List.set_cons_zero, List.set_cons_succ]
            refine take_ph 173 (i := 5) rfl rfl (by decide) (by kernel_rfl) (by kernel_rfl) (by kernel_rfl) (fun _ _ _ h => h) (by rfl) (fun w hSw => by (try dsimp only at hSw); obtain ⟨hSa, hSb⟩ := hSw; go_simp; first | done | with_reducible rfl) hp (fun hp => ?_)
            try simp only [Act.put, List.setIfInBounds_toArray, List.set_cons_zero, List.set_cons_succ]
            refine take_ph 174 (i := 6) rfl rfl (by decide) (by kernel_rfl) (by kernel_rfl) (by kernel_rfl) (fun _ _ _ h => h) (by rfl) (fun w hSw => by (try dsimp only at hSw); obtain ⟨hSa, hSb⟩ := hSw; go_simp; first | done | with_reducible rfl) hp (fun hp => ?_)
            try simp only [Act.put, List.setIfInBounds_toArray, List.set_cons_zero, List.set_cons_succ]
            refine AnyL.one (i := 7) (by kernel_rfl) rfl (fun K hK => ?_)
            go_simp
            have hb7 := (Below.refl w26.heap.size w26).drew
            refine (hnx.out _ (HB.out.trans (hb7.mono HB.out.size))).mono ?_
            rintro e w28 ⟨rfl, hb28⟩
            have hb8 := hb7.trans hb28
            refine hK.out _ _ (ph1 ⟨fun o => hb8.cell (p := ⟨w3.heap.size, o, none⟩) h3l, fun o => hb8.cell (p := ⟨gb, o, none⟩) hgl⟩ (fun o => hb8.cell (p := ⟨wu.heap.size, o, none⟩) hul)) (fun hp => ?_)
            clear hK
            try simp only [Act.put, List.setIfInBounds_toArray, List.set_cons_zero, List.set_cons_succ]
            refine take_ph 167 (i := 8) rfl rfl (by decide) (by kernel_rfl) (by kernel_rfl) (by kernel_rfl) (fun _ _ _ h => h) (by rfl) (fun w hSw => by (try dsimp only at hSw); obtain ⟨hSa, hSb⟩ := hSw; go_simp; first | done | with_reducible rfl) hp (fun hp => ?_)
            try simp only [Act.put, List.setIfInBounds_toArray, List.set_cons_zero, List.set_cons_succ]
            refine take_ph 176 (i := 9) rfl rfl (by decide) (by kernel_rfl) (by kernel_rfl) (by kernel_rfl) (fun _ _ _ h => h) (by rfl) (fun w hSw => by (try dsimp only at hSw); obtain ⟨hSa, hSb⟩ := hSw; go_simp; first | done | with_reducible rfl) hp (fun hp => ?_)
            try simp only [Act.put, List.setIfInBounds_toArray, List.set_cons_zero, List.set_cons_succ]
            refine take_ph 177 (i := 10) rfl rfl (by decide) (by kernel_rfl) (by kernel_rfl) (by kernel_rfl) (fun _ _ _ h => h) (by rfl) (fun w hSw => by (try dsimp only at hSw); obtain ⟨hSa, hSb⟩ := hSw; go_simp; first | done | with_reducible rfl) hp (fun hp => ?_)
            try simp only [Act.put, List.setIfInBounds_toArray, List.set_cons_zero, List.set_cons_succ]
            have hc3 := fun o => hb8.cell (p := ⟨w3.heap.size, o, none⟩) h3l
            have hcg := fun o => hb8.cell (p := ⟨gb, o, none⟩) hgl
            replace X6 := Lib.hid (nxt hb8 X6.out)
            replace X22 := Lib.hid (nxt hb8 X22.out)
            replace HB := Lib.hid (HB.out.trans (hb8.mono HB.out.size))
            replace HV := Lib.hid (HV.out.trans (hb8.mono HV.out.size))
            clear c0 c1 c2 c3 c4 c5 hb28 hb7
            have c0 := (Lib.cell_of_heap (X22.out) 0).trans rfl
            have c1 := (Lib.cell_of_heap (X22.out) 1).trans rfl
            have c2 := (Lib.cell_of_heap (X22.out) 2).trans rfl
            have c3 := (Lib.cell_of_heap (X22.out) 3).trans rfl
            have c4 := (Lib.cell_of_heap (X22.out) 4).trans rfl
            have c5 := (Lib.cell_of_heap (X22.out) 5).trans rfl
            have fz := fun j => Lib.frozen_of_heap X22.out j
            refine AnyL.one (i := 11) (by kernel_rfl) rfl (fun K hK => ?_)
            go_simp
            have hbs := below6 (p := wu.heap.size) w28 (Nat.le_refl _) (a0 := .int .i64 g1) (a1 := .int .i64 g2) (a2 := .int .i64 g3) (a3 := .int .i64 g4) (a4 := .int .i64 g5) (a5 := .int .i64 g6)
            replace X6 := Lib.hid (off6 (p := wu.heap.size) (a0 := .int .i64 g1) (a1 := .int .i64 g2) (a2 := .int .i64 g3) (a3 := .int .i64 g4) (a4 := .int .i64 g5) (a5 := .int .i64 g6) X6.out (by omega))
            replace X22 := Lib.hid (set6 (a0 := .int .i64 g1) (a1 := .int .i64 g2) (a2 := .int .i64 g3) (a3 := .int .i64 g4) (a4 := .int .i64 g5) (a5 := .int .i64 g6) X22.out)
            replace HB := Lib.hid (HB.out.trans (hbs.mono hz1u))
            replace HV := Lib.hid (HV.out.trans (hbs.mono hzu))
            refine hK.out _ _ (ph2 (by kernel_rfl) ⟨fun o => (hbs.cell (p := ⟨w3.heap.size, o, none⟩) (show w3.heap.size < wu.heap.size by omega)).trans (hc3 o), fun o => (hbs.cell (p := ⟨gb, o, none⟩) (show gb < wu.heap.size by omega)).trans (hcg o)⟩) (fun hp => ?_)
            clear hK hbs c0 c1 c2 c3 c4 c5 fz hc3 hcg hb8
            generalize ((((((w28.setCell ⟨wu.heap.size, 0, none⟩ (.int .i64 g1)).setCell ⟨wu.heap.size, 1, none⟩ (.int .i64 g2)).setCell ⟨wu.heap.size, 2, none⟩ (.int .i64 g3)).setCell ⟨wu.heap.size, 3, none⟩ (.int .i64 g4)).setCell ⟨wu.heap.size, 4, none⟩ (.int .i64 g5)).setCell ⟨wu.heap.size, 5, none⟩ (.int .i64 g6)) = wz at *
            try simp only [Act.put, List.setIfInBounds_toArray, List.set_cons_zero, List.set_cons_succ]
            refine AnyL.done (by kernel_rfl) ?_ _
            try simp only [Exit.inBlock, Exit.then]
            go_wp2_with fail
            go_roundw
            case rel => exact ⟨k + 1, ⟨g1, g2, g3, g4, g5, g6⟩, congrArg (Value.int .i64) (by omega), by omega, Hyw, hok2, HB, HV, X6, X22⟩
            case measure => simp [intOf]; omega
          · have hkn1 : ¬ (k : Int) < np := by omega
            have hkn2 : ¬ (k : Int) + 1 < (np : Int) + 1 := by omega
            go_wp2
            go_ret
            exact ⟨rfl, Hb1.out.trans (HB.out.mono Hb1.out.size)⟩
end Go.Proofs.Ytmkhapgkiecmaaa
