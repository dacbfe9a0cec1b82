/- The law FnWorlds. -/
import Derived.Test.YtmkhapgkiecmaaaWoS
import Derived.Test.YtmkhapgkiecmaaaDtD
import Derived.Test.YtmkhapgkiecmaaaNext
import Derived.WideShapes
namespace Go.Proofs.Ytmkhapgkiecmaaa
open Go.RowKit Go.Deep
theorem cells_uint8 : Try.prog.cellsOf 5 = 1 := by kernel_rfl
set_option maxRecDepth 100000 in
theorem open_Byte {H : Type} {enc : TypeId × Value → H} {W : World} {base : Nat} {spare : Nat → Bool} {held : Bool} (fuel : Nat) (cs : List Value) (y : DataW H × List MemPlace) (hy : DataW.trod enc Try.prog W base spare held fuel 5 cs = some y) :
    ∃ x : UInt8, cs = byteC x ∧ True := by
  obtain ⟨x, h1, _, hw⟩ := DataW.trod_int Try.underlying5 hy
  have hx : 0 ≤ x ∧ x ≤ 255 := by simpa [Lit.wf, IntKind.min, IntKind.max, IntKind.signed, IntKind.bits] using hw
  exact ⟨UInt8.ofNat x.toNat, by rw [h1]; unfold byteC; rw [UInt8.toNat_ofNat']; congr 2; omega, trivial⟩
set_option maxRecDepth 100000 in
theorem open_SByte {H : Type} {enc : TypeId × Value → H} {W : World} {base : Nat} {v : Value} {d : DataW H} {p : List MemPlace} (hv : Value.okWide Try.prog W .any base 22 v)
    (h : DataW.Trod enc Try.prog W 0 (fun _ => true) true 22 v d p) (_hlt : ∀ x ∈ p, x.block < W.heap.size) : ∃ l : List UInt8, Sl 1 byteC 0 W.heap.size W v l := by
  obtain ⟨l, hl, _⟩ := open_list Try.underlying22 cells_uint8 (by omega) open_Byte h (Go.WideShapes.okWide_slice Try.underlying22 hv)
  exact ⟨l, hl⟩
theorem nxt {w w1 : World} {p : Nat} {o : Obj} (hb : Below w.heap.size w w1) (h : w.heap[p]? = some o) : w1.heap[p]? = some o := (hb.block p (Array.getElem?_eq_some_iff.1 h).1).trans h
theorem fresh_ok {v : Wtc} (hv : v.ok) {a b : Int} (ha : Dir a) (hb : Dir b) : (⟨a, b, a, b, 0, 0⟩ : Wld).ok v := by
  have h : ∀ c : Int, Dir c → SeenOk v c c 0 := by
    intro c hc
    refine ⟨hc, hc, ⟨by omega, hv.2.1⟩, ?_⟩
    have h1 := tb_cases c c
    have h2 := absI_cases (tb c c)
    omega
  exact ⟨hv, h a ha, h b hb⟩
theorem app_off {α : Type} {n : Nat} {c : α → List Value} {lo p : Nat} {e T : TypeId} {w w' : World} {v : Value} {l : List α} {o : Obj} {cs : Array Value} {fz : Nat × Nat} (hown : Own n c lo e w v l) (hg : (w.alloc o).grownBy w' v.ownBlock) (h : w.heap[p]? = some (.cells cs T fz)) (hne : T ≠ e) : w'.heap[p]? = some (.cells cs T fz) := by
  have hlt := (Array.getElem?_eq_some_iff.1 h).1
  have h2 : (w.alloc o).heap[p]? = some (.cells cs T fz) := nxt ((Below.refl _ w).alloc (Nat.le_refl _) o) h
  refine (hg.block p (by simp; omega) (fun he => ?_)).trans h2
  obtain ⟨cur, fz', hc⟩ := hown.block he.symm
  rw [h] at hc
  injection hc with hc
  injection hc with _ h3 _
  exact hne h3
theorem set6 {V : World} {p : Nat} {T : TypeId} {fz : Nat × Nat} {c0 c1 c2 c3 c4 c5 a0 a1 a2 a3 a4 a5 : Value} (h : V.heap[p]? = some (.cells #[c0, c1, c2, c3, c4, c5] T fz)) :
    ((((((V.setCell ⟨p, 0, none⟩ a0).setCell ⟨p, 1, none⟩ a1).setCell ⟨p, 2, none⟩ a2).setCell ⟨p, 3, none⟩ a3).setCell ⟨p, 4, none⟩ a4).setCell ⟨p, 5, none⟩ a5).heap[p]? = some (.cells #[a0, a1, a2, a3, a4, a5] T fz) := by
  simp [World.setCell, Array.getElem?_modify, h]
theorem off6 {V : World} {p k : Nat} {o : Obj} {a0 a1 a2 a3 a4 a5 : Value} (h : V.heap[k]? = some o) (hk : k ≠ p) :
    ((((((V.setCell ⟨p, 0, none⟩ a0).setCell ⟨p, 1, none⟩ a1).setCell ⟨p, 2, none⟩ a2).setCell ⟨p, 3, none⟩ a3).setCell ⟨p, 4, none⟩ a4).setCell ⟨p, 5, none⟩ a5).heap[k]? = some o :=
  blk_off (blk_off (blk_off (blk_off (blk_off (blk_off h hk _) hk _) hk _) hk _) hk _) hk _
theorem below6 {B p : Nat} (V : World) {a0 a1 a2 a3 a4 a5 : Value} (hB : B ≤ p) : Below B V ((((((V.setCell ⟨p, 0, none⟩ a0).setCell ⟨p, 1, none⟩ a1).setCell ⟨p, 2, none⟩ a2).setCell ⟨p, 3, none⟩ a3).setCell ⟨p, 4, none⟩ a4).setCell ⟨p, 5, none⟩ a5) :=
  ((((((Below.refl B V).setCell hB _).setCell hB _).setCell hB _).setCell hB _).setCell hB _).setCell hB _
theorem own6 {α : Type} {n : Nat} {c : α → List Value} {lo p : Nat} {e T : TypeId} {V : World} {v : Value} {l : List α} {cs : Array Value} {fz : Nat × Nat} {a0 a1 a2 a3 a4 a5 : Value} (hown : Own n c lo e V v l) (h : V.heap[p]? = some (.cells cs T fz)) (hne : T ≠ e) :
    Own n c lo e ((((((V.setCell ⟨p, 0, none⟩ a0).setCell ⟨p, 1, none⟩ a1).setCell ⟨p, 2, none⟩ a2).setCell ⟨p, 3, none⟩ a3).setCell ⟨p, 4, none⟩ a4).setCell ⟨p, 5, none⟩ a5) v l := by
  obtain ⟨h1, h2⟩ := hown
  refine ⟨h1, ?_⟩
  rcases h2 with h2 | ⟨g, cap, cur, rfl, hb2, hg, r⟩
  · exact .inl h2
  · refine .inr ⟨g, cap, cur, rfl, hb2, ?_, r⟩
    refine off6 hg fun e => ?_
    subst e
    rw [h] at hg
    injection hg with hg
    injection hg with _ h3 _
    exact hne h3
set_option maxRecDepth 100000 in
set_option maxHeartbeats 8000000 in
theorem law_Worlds {v v2 : Value} (l l2 : List UInt8) (w : World) (h : Sl 1 byteC 0 w.heap.size w v l) (h2 : Sl 1 byteC 0 w.heap.size w v2 l2) :
    Calls Try.prog 4 #[v, v2] w fun e w' => e = .returned (.bool true) ∧ Below w.heap.size w w' := by
  have hcap : l.length ≤ 9223372036854775807 := by obtain ⟨a, cap, _, h, _⟩ := h; omega
  have hcap2 : l2.length ≤ 9223372036854775807 := by obtain ⟨a, cap, _, h, _⟩ := h2; omega
  by_cases hbig : 3000 < l.length
  · obtain ⟨a, cap, rfl, -⟩ := h
    obtain ⟨a2, cap2, rfl, -⟩ := h2
    have hn : decide ((3000 : Int) < (l.length : Int)) = true := decide_eq_true (by omega)
    go_enter Try.func4, Try.ntmps4
    go_wp2_with (first | (go_at_call 21; go_in))
    go_ret
    exact ⟨rfl, Below.refl _ _⟩
  by_cases hbig2 : 3000 < l2.length
  · obtain ⟨a, cap, rfl, -⟩ := h
    obtain ⟨a2, cap2, rfl, -⟩ := h2
    have hn : decide ((3000 : Int) < (l.length : Int)) = false := decide_eq_false (by omega)
    have hn2 : decide ((3000 : Int) < (l2.length : Int)) = true := decide_eq_true (by omega)
    go_enter Try.func4, Try.ntmps4
    go_wp2_with (first | (go_at_call 21; go_in))
    go_ret
    exact ⟨rfl, Below.refl _ _⟩
  have hd := Lib.hid (draw_A2 v l _ w h (Nat.le_refl _) (by omega))
  have hAt := Lib.hid (fun (kI n : Int) w' (hb : Below w.heap.size w w') (hk : 0 ≤ kI ∧ kI ≤ 1000000) (hn : 1 ≤ n ∧ n ≤ 1000000) => show Calls Try.prog 23 #[v2, .int .i64 kI, .int .i64 n] w' fun e w'' => (∃ q : Nat, e = .returned (.int .i64 q) ∧ (q : Int) < n) ∧ Below w'.heap.size w' w'' by
    obtain ⟨k, rfl⟩ : ∃ k : Nat, kI = k := ⟨kI.toNat, by omega⟩
    exact law_at v2 l2 0 _ k n w' (h2.below hb (Nat.le_refl _)) (by omega) (by omega) hn)
  obtain ⟨a, cap, rfl, -⟩ := h
  obtain ⟨a2, cap2, rfl, -⟩ := h2
  have hn : decide ((3000 : Int) < (l.length : Int)) = false := decide_eq_false (by omega)
  have hn2 : decide ((3000 : Int) < (l2.length : Int)) = false := decide_eq_false (by omega)
  clear hbig hbig2 hcap hcap2
  go_enter Try.func4, Try.ntmps4
  go_wp2_with (first | (go_at_call 21; go_in) | fail)
  refine hd.out.mono ?_
  rintro e w1 ⟨tv, rows, T, rfl, hw1, hok, hb1⟩
  have HT1 := Lib.hid hw1.r
  have Hok := Lib.hid hok
  clear hw1 hd hok hn hn2
  have hAt := Lib.hid (fun (kI n : Int) w' (hb : Below w1.heap.size w1 w') => hAt.out kI n w' (hb1.trans (hb.mono hb1.size)))
  have hT := Lib.hid (fun w' (hb : Below w1.heap.size w1 w') => HT1.out.ext hb)
  have Hb1 := Lib.hid hb1
  clear HT1 hb1
  go_wp2_with fail
  refine (hAt.out _ _ _ (Below.refl _ _) (by omega) (by omega)).mono ?_
  rintro e w2 ⟨⟨m0, rfl, hm0⟩, hb2⟩
  go_wp2_with fail
  refine (hAt.out _ _ _ hb2 (by omega) (by omega)).mono ?_
  rintro e w3 ⟨⟨t0, rfl, ht0⟩, hb3⟩
  have hB3 := hb2.trans (hb3.mono hb2.size)
  have hz13 := hB3.size
  have hb4 := (Below.refl w3.heap.size w3).alloc (Nat.le_refl _) (.cells #[.int .i64 m0, .int .i64 t0] 49 (0, 0))
  have X6 := Lib.hid (show (w3.alloc (.cells #[.int .i64 m0, .int .i64 t0] 49 (0, 0))).heap[w3.heap.size]? = some (.cells #[.int .i64 m0, .int .i64 t0] 49 (0, 0)) from Array.getElem?_push_size)
  have hB4 := hB3.trans (hb4.mono hB3.size)
  clear hb2 hb3
  go_wp2_with fail
  refine (hAt.out _ _ _ hB4 (by omega) (by omega)).mono ?_
  rintro e w5 ⟨⟨a0, rfl, ha0⟩, hb5⟩
  have X6 := Lib.hid (nxt hb5 X6.out)
  have hB5 := hB4.trans (hb5.mono hB4.size)
  have hC5 := Lib.hid (hb4.trans (hb5.mono hb4.size))
  clear hb5 hb4 hB4
  go_wp2_with fail
  refine (hAt.out _ _ _ hB5 (by omega) (by omega)).mono ?_
  rintro e w6 ⟨⟨b0, rfl, hb0⟩, hb6⟩
  have X6 := Lib.hid (nxt hb6 X6.out)
  have hB6 := hB5.trans (hb6.mono hB5.size)
  have hC6 := Lib.hid (hC5.out.trans (hb6.mono hC5.out.size))
  clear hb6 hB5 hC5
  go_wp2_with fail
  refine (impl_Fresh a0 b0 w6 (by unfold Dir; omega) (by unfold Dir; omega)).mono ?_
  rintro e w7 ⟨rfl, hb7⟩
  have X6 := Lib.hid (nxt hb7 X6.out)
  have hz37 := (Array.getElem?_eq_some_iff.1 X6.out).1
  have hB7 := hB6.trans (hb7.mono hB6.size)
  have hC7 := Lib.hid (hC6.out.trans (hb7.mono hC6.out.size))
  clear hb7 hB6 hC6
  have hV : Hid ((⟨m0, t0⟩ : Wtc).ok) := Lib.hid (by unfold Wtc.ok; dsimp only; omega)
  have hX0 := Lib.hid (fresh_ok (v := ⟨m0, t0⟩) hV.out (a := a0) (b := b0) (by unfold Dir; omega) (by unfold Dir; omega))
  have hz7 := hC7.out.size
  have hb8 := (Below.refl w7.heap.size w7).alloc (Nat.le_refl _) (.cells #[.int .i64 a0, .int .i64 b0, .int .i64 a0, .int .i64 b0, .int .i64 0, .int .i64 0] 51 (0, 0))
  have X7 := Lib.hid (show (w7.alloc (.cells #[.int .i64 a0, .int .i64 b0, .int .i64 a0, .int .i64 b0, .int .i64 0, .int .i64 0] 51 (0, 0))).heap[w7.heap.size]? = some (.cells #[.int .i64 a0, .int .i64 b0, .int .i64 a0, .int .i64 b0, .int .i64 0, .int .i64 0] 51 (0, 0)) from Array.getElem?_push_size)
  have X6 := Lib.hid (nxt hb8 X6.out)
  have hB8 := hB7.trans (hb8.mono hB7.size)
  have hC8 := Lib.hid (hC7.out.trans (hb8.mono hC7.out.size))
  clear hb8 hB7 hC7
  have v0 := (Lib.cell_of_heap (X6.out) 0).trans rfl
  have v1 := (Lib.cell_of_heap (X6.out) 1).trans rfl
  have o0 := (Lib.cell_of_heap (X7.out) 0).trans rfl
  have o1 := (Lib.cell_of_heap (X7.out) 1).trans rfl
  have o2 := (Lib.cell_of_heap (X7.out) 2).trans rfl
  have o3 := (Lib.cell_of_heap (X7.out) 3).trans rfl
  have o4 := (Lib.cell_of_heap (X7.out) 4).trans rfl
  have o5 := (Lib.cell_of_heap (X7.out) 5).trans rfl
  simp only [Wld.cells]
  go_wp2_with fail
  refine (spec_VW ⟨m0, t0⟩ ⟨a0, b0, a0, b0, 0, 0⟩ _).mono ?_
  rw [decide_eq_true hX0.out]
  rintro e w9 ⟨rfl, hb9⟩
  have X6 := Lib.hid (nxt hb9 X6.out)
  have X7 := Lib.hid (nxt hb9 X7.out)
  have hz79 := (Array.getElem?_eq_some_iff.1 X7.out).1
  have hB9 := hB8.trans (hb9.mono hB8.size)
  have hC9 := Lib.hid (hC8.out.trans (hb9.mono hC8.out.size))
  clear v0 v1 o0 o1 o2 o3 o4 o5 hb9 hB8 hC8
  have hz9 := hC9.out.size
  have hbl := (Below.refl w9.heap.size w9).alloc (Nat.le_refl _) (.cells #[] 59 (0, 0))
  have X6 := Lib.hid (nxt hbl X6.out)
  have X7 := Lib.hid (nxt hbl X7.out)
  have hO := Lib.hid (own_empty (n := 4) (c := Act1.cells) w9 59 w9.heap.size (Nat.le_refl _))
  have hBl := hB9.trans (hbl.mono hB9.size)
  have hCl := Lib.hid (hC9.out.trans (hbl.mono hC9.out.size))
  have o0 := (Lib.cell_of_heap (X7.out) 0).trans rfl
  have o1 := (Lib.cell_of_heap (X7.out) 1).trans rfl
  have o2 := (Lib.cell_of_heap (X7.out) 2).trans rfl
  have o3 := (Lib.cell_of_heap (X7.out) 3).trans rfl
  have o4 := (Lib.cell_of_heap (X7.out) 4).trans rfl
  have o5 := (Lib.cell_of_heap (X7.out) 5).trans rfl
  have hbx := (Below.refl (w9.alloc (.cells #[] 59 (0, 0))).heap.size (w9.alloc (.cells #[] 59 (0, 0)))).alloc (Nat.le_refl _) (.cells #[.int .i64 a0, .int .i64 b0, .int .i64 a0, .int .i64 b0, .int .i64 0, .int .i64 0] 51 (0, 0))
  have X10 : Hid (((w9.alloc (.cells #[] 59 (0, 0))).alloc (.cells #[.int .i64 a0, .int .i64 b0, .int .i64 a0, .int .i64 b0, .int .i64 0, .int .i64 0] 51 (0, 0))).heap[w9.heap.size + 1]? = some (.cells #[.int .i64 a0, .int .i64 b0, .int .i64 a0, .int .i64 b0, .int .i64 0, .int .i64 0] 51 (0, 0))) := Lib.hid (by have h := Array.getElem?_push_size (xs := (w9.alloc (.cells #[] 59 (0, 0))).heap) (x := Obj.cells #[.int .i64 a0, .int .i64 b0, .int .i64 a0, .int .i64 b0, .int .i64 0, .int .i64 0] 51 (0, 0)); rw [show (w9.alloc (.cells #[] 59 (0, 0))).heap.size = w9.heap.size + 1 by simp] at h; exact h)
  have X6 := Lib.hid (nxt hbx X6.out)
  have X7 := Lib.hid (nxt hbx X7.out)
  have hO := Lib.hid (hO.out.below hbx)
  have hBx := hBl.trans (hbx.mono hBl.size)
  have hCx := Lib.hid (hCl.out.trans (hbx.mono hCl.out.size))
  obtain ⟨x0, hx0⟩ : ∃ x0 : Wld, x0 = ⟨a0, b0, a0, b0, 0, 0⟩ := ⟨_, rfl⟩
  rw [← hx0] at hX0
  have Hx0 := Lib.hid hx0
  have HB := Lib.hid hBx
  clear hbl hbx hB9 hC9 hBl hCl hx0 hBx
  go_wp2_with fail
  clear o0 o1 o2 o3 o4 o5
  go_loopw [9, 11] (fun o i wr => ∃ (k : Nat) (acc : List Act1) (x : Wld), i = .int .i64 k ∧ k ≤ 6 ∧ Hid (acc.length = k) ∧ Hid (runW T ⟨m0, t0⟩ x0 acc 0 = (x, k)) ∧ Hid (x.ok ⟨m0, t0⟩) ∧ Hid (Below w1.heap.size w1 wr) ∧ Hid (Below w3.heap.size w3 wr) ∧ Hid (wr.heap[w3.heap.size]? = some (.cells #[.int .i64 m0, .int .i64 t0] 49 (0, 0))) ∧ Hid (wr.heap[w7.heap.size]? = some (.cells #[.int .i64 a0, .int .i64 b0, .int .i64 a0, .int .i64 b0, .int .i64 0, .int .i64 0] 51 (0, 0))) ∧ Hid (wr.heap[w9.heap.size + 1]? = some (.cells #[.int .i64 x.a, .int .i64 x.b, .int .i64 x.seenA, .int .i64 x.seenB, .int .i64 x.ageA, .int .i64 x.ageB] 51 (0, 0))) ∧ Hid (Own 4 Act1.cells w9.heap.size 59 wr o acc)) (fun _ i _ => 6 - (intOf i).toNat)
  case atStart => exact ⟨0, [], x0, rfl, by omega, Lib.hid rfl, Lib.hid rfl, hX0, HB, hCx, X6, X7, by rw [Hx0.out]; exact X10, hO⟩
  case round =>
    clear HB hCx X6 X7 X10 hO
    obtain ⟨k, acc, x, rfl, hk, hacc, hrun, hxok, HB, HC, X6, X7, X10, hO⟩ := hrel
    by_cases hk6 : k < 6
    · obtain ⟨xa, xb, xsa, xsb, xga, xgb⟩ := x
      dsimp only at X10
      have v0 := (Lib.cell_of_heap (X6.out) 0).trans rfl
      have v1 := (Lib.cell_of_heap (X6.out) 1).trans rfl
      have c0 := (Lib.cell_of_heap (X10.out) 0).trans rfl
      have c1 := (Lib.cell_of_heap (X10.out) 1).trans rfl
      have c2 := (Lib.cell_of_heap (X10.out) 2).trans rfl
      have c3 := (Lib.cell_of_heap (X10.out) 3).trans rfl
      have c4 := (Lib.cell_of_heap (X10.out) 4).trans rfl
      have c5 := (Lib.cell_of_heap (X10.out) 5).trans rfl
      have hA := Lib.hid (impl_ActsOf0 tv rows T _ _ ⟨m0, t0⟩ ⟨xa, xb, xsa, xsb, xga, xgb⟩ wr (hT.out _ HB.out) Hok.out hxok.out)
      have hki : (k : Int) < 6 := by omega
      go_wp2_with fail
      refine hA.out.mono ?_
      rintro e wa ⟨va, rfl, hva, hba⟩
      have hcan := Lib.hid (fun y (hy : y ∈ actsW T ⟨m0, t0⟩ ⟨xa, xb, xsa, xsb, xga, xgb⟩) => acts_can hy)
      have hne := acts_ne (T := T) (v := ⟨m0, t0⟩) (x := ⟨xa, xb, xsa, xsb, xga, xgb⟩)
      have h36 := acts_len36 T ⟨m0, t0⟩ ⟨xa, xb, xsa, xsb, xga, xgb⟩
      generalize actsW T ⟨m0, t0⟩ ⟨xa, xb, xsa, xsb, xga, xgb⟩ = LA at *
      replace X6 := Lib.hid (nxt hba X6.out)
      replace X7 := Lib.hid (nxt hba X7.out)
      replace X10 := Lib.hid (nxt hba X10.out)
      replace HB := Lib.hid (HB.out.trans ((hba).mono HB.out.size))
      replace HC := Lib.hid (HC.out.trans ((hba).mono HC.out.size))
      replace hO := Lib.hid (hO.out.below hba)
      obtain ⟨aa, ac, rfl, -⟩ := id hva
      obtain ⟨gb, go, rfl⟩ := hva.addr hne
      obtain ⟨na, hna⟩ : ∃ na, LA.length = na := ⟨_, rfl⟩
      rw [hna] at hva hne h36 ⊢
      have Hna := Lib.hid hna
      have hd1 : decide ((na : Int) = 0) = false := decide_eq_false (by omega)
      have hd2 : ((na : Int) == 0) = false := by simp; omega
      have Hva := Lib.hid hva
      clear hna hA hva hba v0 v1 c0 c1 c2 c3 c4 c5
      go_wp2_with fail
      refine (hAt.out _ _ _ HB.out (by omega) (by omega)).mono ?_
      rintro e wq ⟨⟨q, rfl, hq⟩, hbq⟩
      have hqn : q < LA.length := by rw [Hna.out]; omega
      have hq2 : q < na := by omega
      obtain ⟨y, hy⟩ : ∃ y, LA[q] = y := ⟨_, rfl⟩
      obtain ⟨⟨htA, htB⟩, hcy⟩ := hcan.out y (by rw [← hy]; exact List.getElem_mem _)
      obtain ⟨e0, e1, e2, e3⟩ := Act1s.at (Hva.out.ext hbq).get hqn
      rw [hy] at e0 e1 e2 e3
      clear hy
      replace X6 := Lib.hid (nxt hbq X6.out)
      replace X7 := Lib.hid (nxt hbq X7.out)
      replace X10 := Lib.hid (nxt hbq X10.out)
      replace HB := Lib.hid (HB.out.trans ((hbq).mono HB.out.size))
      replace HC := Lib.hid (HC.out.trans ((hbq).mono HC.out.size))
      replace hO := Lib.hid (hO.out.below hbq)
      obtain ⟨tA, tB, lA, lB⟩ := y
      dsimp only at e0 e1 e2 e3
      have hbz := (Below.refl wq.heap.size wq).alloc (Nat.le_refl _) (.cells #[.int .i64 tA, .int .i64 tB, .bool lA, .bool lB] 59 (0, 0))
      have X14 := Lib.hid (show (wq.alloc (.cells #[.int .i64 tA, .int .i64 tB, .bool lA, .bool lB] 59 (0, 0))).heap[wq.heap.size]? = some (.cells #[.int .i64 tA, .int .i64 tB, .bool lA, .bool lB] 59 (0, 0)) from Array.getElem?_push_size)
      replace X6 := Lib.hid (nxt hbz X6.out)
      replace X7 := Lib.hid (nxt hbz X7.out)
      replace X10 := Lib.hid (nxt hbz X10.out)
      replace HB := Lib.hid (HB.out.trans ((hbz).mono HB.out.size))
      replace HC := Lib.hid (HC.out.trans ((hbz).mono HC.out.size))
      replace hO := Lib.hid (hO.out.below hbz)
      have v0 := (Lib.cell_of_heap (X6.out) 0).trans rfl
      have v1 := (Lib.cell_of_heap (X6.out) 1).trans rfl
      have c0 := (Lib.cell_of_heap (X10.out) 0).trans rfl
      have c1 := (Lib.cell_of_heap (X10.out) 1).trans rfl
      have c2 := (Lib.cell_of_heap (X10.out) 2).trans rfl
      have c3 := (Lib.cell_of_heap (X10.out) 3).trans rfl
      have c4 := (Lib.cell_of_heap (X10.out) 4).trans rfl
      have c5 := (Lib.cell_of_heap (X10.out) 5).trans rfl
      have hnx := Lib.hid (impl_NextWorld tv rows T _ _ ⟨m0, t0⟩ ⟨xa, xb, xsa, xsb, xga, xgb⟩ ⟨tA, tB, lA, lB⟩ _ (hT.out _ HB.out))
      have hc0 : codeW T ⟨m0, t0⟩ ⟨xa, xb, xsa, xsb, xga, xgb⟩ = 0 := by unfold codeW; rw [if_pos Hok.out, if_pos hxok.out]
      rw [nextW_0 hc0 ⟨htA, htB⟩ hcy] at hnx
      clear hbz hbq hc0 Hva hd1 hd2 hqn
      go_wp2_with fail
      refine hnx.out.mono ?_
      obtain ⟨nA, nB, s1, s2, g1, g2, hdo, hnA, hnB⟩ : ∃ nA nB s1 s2 g1 g2, doW ⟨xa, xb, xsa, xsb, xga, xgb⟩ ⟨tA, tB, lA, lB⟩ = ⟨nA, nB, s1, s2, g1, g2⟩ ∧ (xa + tA) % 24 = nA ∧ (xb + tB) % 24 = nB := ⟨_, _, _, _, _, _, rfl, rfl, rfl⟩
      have hok2 := Lib.hid (ok_do hxok.out htA htB hcy)
      have hrun2 := Lib.hid (runW_snoc (y := ⟨tA, tB, lA, lB⟩) (by unfold stepB; rw [hcy, decide_eq_true (show TrnsOk ⟨tA, tB, lA, lB⟩ from ⟨htA, htB⟩)]; rfl) acc x0 0 (by rw [hrun.out, hacc.out, Nat.zero_add]))
      rw [hdo] at hok2 hrun2 ⊢
      obtain ⟨htA1, htA2⟩ := htA
      obtain ⟨htB1, htB2⟩ := htB
      try dsimp only at htA1 htA2 htB1 htB2
      have hdA : Dir xa := hxok.out.2.1.1
      have hdB : Dir xb := hxok.out.2.2.1
      have hsA : Dir xsa := hxok.out.2.1.2.1
      have hsB : Dir xsb := hxok.out.2.2.2.1
      have hgA : tA ≠ 0 → freeB T true nA.toNat xsb m0 = true := fun h => by
        rw [← hnA]
        unfold canB at hcy
        simp only [Bool.and_eq_true, Bool.or_eq_true, decide_eq_true_eq] at hcy
        exact hcy.1.1.resolve_left h
      have hgB : tB ≠ 0 → freeB T false nB.toNat xsa m0 = true := fun h => by
        rw [← hnB]
        unfold canB at hcy
        simp only [Bool.and_eq_true, Bool.or_eq_true, decide_eq_true_eq] at hcy
        exact hcy.1.2.resolve_left h
      have hrem : tA.tmod 2 = tA := by
        rcases (show tA = -1 ∨ tA = 0 ∨ tA = 1 by omega) with rfl | rfl | rfl <;> decide
      have hwr : IntKind.i64.wrap tA = tA := IntWalk.i64_in _ (by omega)
      have htb := Lib.hid (fun w => spec_TurnBy0 xa tA w hdA (by omega))
      rw [hnA] at htb
      have hnA2 : 0 ≤ nA ∧ nA < 24 := by omega
      have hnB2 : 0 ≤ nB ∧ nB < 24 := by omega
      have GA := Lib.hid (fun (h : tA ≠ 0) W (hb : Below w1.heap.size w1 W) => impl_Guard1 tv rows T _ _ ⟨m0, t0⟩ true nA.toNat xsb W (hT.out _ hb) Hok.out hV.out (by omega) hsB (hgA h))
      have GB := Lib.hid (fun (h : tB ≠ 0) W (hb : Below w1.heap.size w1 W) => impl_Guard1 tv rows T _ _ ⟨m0, t0⟩ false nB.toNat xsa W (hT.out _ hb) Hok.out hV.out (by omega) hsA (hgB h))
      rw [show ((nA.toNat : Nat) : Int) = nA by omega] at GA
      rw [show ((nB.toNat : Nat) : Int) = nB by omega] at GB
      clear hdo hnA hnB hdA hdB hsA hsB hgA hgB hcy hnx v0 v1 c0 c1 c2 c3 c4 c5 hcan e0 e1 e2 e3 hxok hrun
      simp only [Wld.cells]
      rintro e wn ⟨rfl, hbn⟩
      replace X6 := Lib.hid (nxt hbn X6.out)
      replace X7 := Lib.hid (nxt hbn X7.out)
      replace X10 := Lib.hid (nxt hbn X10.out)
      replace HB := Lib.hid (HB.out.trans ((hbn).mono HB.out.size))
      replace HC := Lib.hid (HC.out.trans ((hbn).mono HC.out.size))
      replace hO := Lib.hid (hO.out.below hbn)
      replace X14 := Lib.hid (nxt hbn X14.out)
      have hbm := (Below.refl wn.heap.size wn).alloc (Nat.le_refl _) (.cells #[.int .i64 nA, .int .i64 nB, .int .i64 s1, .int .i64 s2, .int .i64 g1, .int .i64 g2] 51 (0, 0))
      have X15 := Lib.hid (show (wn.alloc (.cells #[.int .i64 nA, .int .i64 nB, .int .i64 s1, .int .i64 s2, .int .i64 g1, .int .i64 g2] 51 (0, 0))).heap[wn.heap.size]? = some (.cells #[.int .i64 nA, .int .i64 nB, .int .i64 s1, .int .i64 s2, .int .i64 g1, .int .i64 g2] 51 (0, 0)) from Array.getElem?_push_size)
      replace X6 := Lib.hid (nxt hbm X6.out)
      replace X7 := Lib.hid (nxt hbm X7.out)
      replace X10 := Lib.hid (nxt hbm X10.out)
      replace HB := Lib.hid (HB.out.trans ((hbm).mono HB.out.size))
      replace HC := Lib.hid (HC.out.trans ((hbm).mono HC.out.size))
      replace hO := Lib.hid (hO.out.below hbm)
      replace X14 := Lib.hid (nxt hbm X14.out)
      have v0 := (Lib.cell_of_heap (X6.out) 0).trans rfl
      have v1 := (Lib.cell_of_heap (X6.out) 1).trans rfl
      have n0 := (Lib.cell_of_heap (X15.out) 0).trans rfl
      have n1 := (Lib.cell_of_heap (X15.out) 1).trans rfl
      have n2 := (Lib.cell_of_heap (X15.out) 2).trans rfl
      have n3 := (Lib.cell_of_heap (X15.out) 3).trans rfl
      have n4 := (Lib.cell_of_heap (X15.out) 4).trans rfl
      have n5 := (Lib.cell_of_heap (X15.out) 5).trans rfl
      clear hbn hbm
      go_wp2_with fail
      refine (impl_ValidWorld ⟨m0, t0⟩ ⟨nA, nB, s1, s2, g1, g2⟩ _).mono ?_
      rw [decide_eq_true hok2.out]
      rintro e we ⟨rfl, hbe⟩
      replace X6 := Lib.hid (nxt hbe X6.out)
      replace X7 := Lib.hid (nxt hbe X7.out)
      replace X10 := Lib.hid (nxt hbe X10.out)
      replace X14 := Lib.hid (nxt hbe X14.out)
      replace X15 := Lib.hid (nxt hbe X15.out)
      replace HB := Lib.hid (HB.out.trans ((hbe).mono HB.out.size))
      replace HC := Lib.hid (HC.out.trans ((hbe).mono HC.out.size))
      replace hO := Lib.hid (hO.out.below hbe)
      clear v0 v1 n0 n1 n2 n3 n4 n5 hbe
      have v0 := (Lib.cell_of_heap (X6.out) 0).trans rfl
      have v1 := (Lib.cell_of_heap (X6.out) 1).trans rfl
      have n0 := (Lib.cell_of_heap (X15.out) 0).trans rfl
      have n1 := (Lib.cell_of_heap (X15.out) 1).trans rfl
      have n2 := (Lib.cell_of_heap (X15.out) 2).trans rfl
      have n3 := (Lib.cell_of_heap (X15.out) 3).trans rfl
      have n4 := (Lib.cell_of_heap (X15.out) 4).trans rfl
      have n5 := (Lib.cell_of_heap (X15.out) 5).trans rfl
      go_wp2_with fail
      refine (spec_VW ⟨m0, t0⟩ ⟨nA, nB, s1, s2, g1, g2⟩ _).mono ?_
      rw [decide_eq_true hok2.out]
      rintro e wf ⟨rfl, hbf⟩
      replace X6 := Lib.hid (nxt hbf X6.out)
      replace X7 := Lib.hid (nxt hbf X7.out)
      replace X10 := Lib.hid (nxt hbf X10.out)
      replace X14 := Lib.hid (nxt hbf X14.out)
      replace X15 := Lib.hid (nxt hbf X15.out)
      replace HB := Lib.hid (HB.out.trans ((hbf).mono HB.out.size))
      replace HC := Lib.hid (HC.out.trans ((hbf).mono HC.out.size))
      replace hO := Lib.hid (hO.out.below hbf)
      clear v0 v1 n0 n1 n2 n3 n4 n5 hbf
      skip
      have v0 := (Lib.cell_of_heap (X6.out) 0).trans rfl
      have v1 := (Lib.cell_of_heap (X6.out) 1).trans rfl
      have c0 := (Lib.cell_of_heap (X10.out) 0).trans rfl
      have c1 := (Lib.cell_of_heap (X10.out) 1).trans rfl
      have c2 := (Lib.cell_of_heap (X10.out) 2).trans rfl
      have c3 := (Lib.cell_of_heap (X10.out) 3).trans rfl
      have c4 := (Lib.cell_of_heap (X10.out) 4).trans rfl
      have c5 := (Lib.cell_of_heap (X10.out) 5).trans rfl
      have n0 := (Lib.cell_of_heap (X15.out) 0).trans rfl
      have n1 := (Lib.cell_of_heap (X15.out) 1).trans rfl
      have n2 := (Lib.cell_of_heap (X15.out) 2).trans rfl
      have n3 := (Lib.cell_of_heap (X15.out) 3).trans rfl
      have n4 := (Lib.cell_of_heap (X15.out) 4).trans rfl
      have n5 := (Lib.cell_of_heap (X15.out) 5).trans rfl
      have y0 := (Lib.cell_of_heap X14.out 0).trans rfl
      have y1 := (Lib.cell_of_heap X14.out 1).trans rfl
      have y2 := (Lib.cell_of_heap X14.out 2).trans rfl
      have y3 := (Lib.cell_of_heap X14.out 3).trans rfl
      go_wp2_with fail
      refine (htb.out _).mono ?_
      rintro e w' ⟨rfl, rfl⟩
      have hAc : tA = 0 ∨ (tA ≠ 0 ∧ decide (tA = 0) = false ∧ (tA == 0) = false) := by
        by_cases h : tA = 0
        · exact .inl h
        · exact .inr ⟨h, decide_eq_false h, by simpa using h⟩
      have hBc : tB = 0 ∨ (tB ≠ 0 ∧ decide (tB = 0) = false ∧ (tB == 0) = false) := by
        by_cases h : tB = 0
        · exact .inl h
        · exact .inr ⟨h, decide_eq_false h, by simpa using h⟩
      rcases hAc with rfl | ⟨hA0, p1, p2⟩
      · rcases hBc with rfl | ⟨hB0, p3, p4⟩
        · skip
          obtain ⟨la, lc, rfl⟩ := own_valD hO.out
          obtain ⟨ln, hln⟩ : ∃ ln, acc.length = ln := ⟨_, rfl⟩
          rw [hln] at hO ⊢
          have Hln := Lib.hid hln
          clear hln
          have hz10 := (Array.getElem?_eq_some_iff.1 X10.out).1
          go_wp2_with (at_builtin; (refine wpList_app1 (c := Act1.cells) (bytes := 24) rfl _ _ 55 59 rfl Try.underlying55 info_ActA (by omega) Act1.len Act1.one w9.heap.size acc ⟨0, 0, lA, lB⟩ _ rfl wf rfl hO.out rfl (by rw [hacc.out]; omega) (by rw [hacc.out]; omega) (by omega) ?_); intro v9 wz hown9 hg9; (have Z6 := Lib.hid (app_off hO.out hg9 X6.out (by decide)); have Z7 := Lib.hid (app_off hO.out hg9 X7.out (by decide)); have Z10 := Lib.hid (app_off hO.out hg9 X10.out (by decide)); have Z15 := Lib.hid (app_off hO.out hg9 X15.out (by decide)); have ZB := Lib.hid (hO.out.app HB.out (by omega) HB.out.size hg9); have ZC := Lib.hid (hO.out.app HC.out (by omega) HC.out.size hg9); have Hown9 := Lib.hid hown9; clear hown9 hg9; have c0 := (Lib.cell_of_heap Z10.out 0).trans rfl; have c1 := (Lib.cell_of_heap Z10.out 1).trans rfl; have c2 := (Lib.cell_of_heap Z10.out 2).trans rfl; have c3 := (Lib.cell_of_heap Z10.out 3).trans rfl; have c4 := (Lib.cell_of_heap Z10.out 4).trans rfl; have c5 := (Lib.cell_of_heap Z10.out 5).trans rfl; have n0 := (Lib.cell_of_heap Z15.out 0).trans rfl; have n1 := (Lib.cell_of_heap Z15.out 1).trans rfl; have n2 := (Lib.cell_of_heap Z15.out 2).trans rfl; have n3 := (Lib.cell_of_heap Z15.out 3).trans rfl; have n4 := (Lib.cell_of_heap Z15.out 4).trans rfl; have n5 := (Lib.cell_of_heap Z15.out 5).trans rfl; have fz := fun j => Lib.frozen_of_heap Z10.out j))
          go_roundw
          case rel => exact ⟨k + 1, acc ++ [⟨0, 0, lA, lB⟩], ⟨nA, nB, s1, s2, g1, g2⟩, congrArg (Value.int .i64) (by omega), by omega, Lib.hid (by rw [List.length_append, List.length_singleton, hacc.out]), Lib.hid (by have h := hrun2.out; rw [hacc.out, Nat.zero_add] at h; exact h), hok2, Lib.hid (ZB.out.trans (below6 _ (by omega))), Lib.hid (ZC.out.trans (below6 _ (by omega))), Lib.hid (off6 Z6.out (by omega)), Lib.hid (off6 Z7.out (by omega)), Lib.hid (set6 Z10.out), Lib.hid (own6 Hown9.out Z10.out (by decide))⟩
          case measure => simp [intOf]; omega
        · go_wp2_with fail
          refine (GB.out hB0 _ HB.out).mono ?_
          rintro e wh ⟨rfl, hbh⟩
          replace X6 := Lib.hid (nxt hbh X6.out)
          replace X7 := Lib.hid (nxt hbh X7.out)
          replace X10 := Lib.hid (nxt hbh X10.out)
          replace X14 := Lib.hid (nxt hbh X14.out)
          replace X15 := Lib.hid (nxt hbh X15.out)
          replace HB := Lib.hid (HB.out.trans ((hbh).mono HB.out.size))
          replace HC := Lib.hid (HC.out.trans ((hbh).mono HC.out.size))
          replace hO := Lib.hid (hO.out.below hbh)
          clear v0 v1 c0 c1 c2 c3 c4 c5 n0 n1 n2 n3 n4 n5 y0 y1 y2 y3
          clear hbh
          skip
          have v0 := (Lib.cell_of_heap (X6.out) 0).trans rfl
          have v1 := (Lib.cell_of_heap (X6.out) 1).trans rfl
          have c0 := (Lib.cell_of_heap (X10.out) 0).trans rfl
          have c1 := (Lib.cell_of_heap (X10.out) 1).trans rfl
          have c2 := (Lib.cell_of_heap (X10.out) 2).trans rfl
          have c3 := (Lib.cell_of_heap (X10.out) 3).trans rfl
          have c4 := (Lib.cell_of_heap (X10.out) 4).trans rfl
          have c5 := (Lib.cell_of_heap (X10.out) 5).trans rfl
          have n0 := (Lib.cell_of_heap (X15.out) 0).trans rfl
          have n1 := (Lib.cell_of_heap (X15.out) 1).trans rfl
          have n2 := (Lib.cell_of_heap (X15.out) 2).trans rfl
          have n3 := (Lib.cell_of_heap (X15.out) 3).trans rfl
          have n4 := (Lib.cell_of_heap (X15.out) 4).trans rfl
          have n5 := (Lib.cell_of_heap (X15.out) 5).trans rfl
          have y0 := (Lib.cell_of_heap X14.out 0).trans rfl
          have y1 := (Lib.cell_of_heap X14.out 1).trans rfl
          have y2 := (Lib.cell_of_heap X14.out 2).trans rfl
          have y3 := (Lib.cell_of_heap X14.out 3).trans rfl
          skip
          obtain ⟨la, lc, rfl⟩ := own_valD hO.out
          obtain ⟨ln, hln⟩ : ∃ ln, acc.length = ln := ⟨_, rfl⟩
          rw [hln] at hO ⊢
          have Hln := Lib.hid hln
          clear hln
          have hz10 := (Array.getElem?_eq_some_iff.1 X10.out).1
          go_wp2_with (at_builtin; (refine wpList_app1 (c := Act1.cells) (bytes := 24) rfl _ _ 55 59 rfl Try.underlying55 info_ActA (by omega) Act1.len Act1.one w9.heap.size acc ⟨0, tB, lA, lB⟩ _ rfl wh rfl hO.out rfl (by rw [hacc.out]; omega) (by rw [hacc.out]; omega) (by omega) ?_); intro v9 wz hown9 hg9; (have Z6 := Lib.hid (app_off hO.out hg9 X6.out (by decide)); have Z7 := Lib.hid (app_off hO.out hg9 X7.out (by decide)); have Z10 := Lib.hid (app_off hO.out hg9 X10.out (by decide)); have Z15 := Lib.hid (app_off hO.out hg9 X15.out (by decide)); have ZB := Lib.hid (hO.out.app HB.out (by omega) HB.out.size hg9); have ZC := Lib.hid (hO.out.app HC.out (by omega) HC.out.size hg9); have Hown9 := Lib.hid hown9; clear hown9 hg9; have c0 := (Lib.cell_of_heap Z10.out 0).trans rfl; have c1 := (Lib.cell_of_heap Z10.out 1).trans rfl; have c2 := (Lib.cell_of_heap Z10.out 2).trans rfl; have c3 := (Lib.cell_of_heap Z10.out 3).trans rfl; have c4 := (Lib.cell_of_heap Z10.out 4).trans rfl; have c5 := (Lib.cell_of_heap Z10.out 5).trans rfl; have n0 := (Lib.cell_of_heap Z15.out 0).trans rfl; have n1 := (Lib.cell_of_heap Z15.out 1).trans rfl; have n2 := (Lib.cell_of_heap Z15.out 2).trans rfl; have n3 := (Lib.cell_of_heap Z15.out 3).trans rfl; have n4 := (Lib.cell_of_heap Z15.out 4).trans rfl; have n5 := (Lib.cell_of_heap Z15.out 5).trans rfl; have fz := fun j => Lib.frozen_of_heap Z10.out j))
          go_roundw
          case rel => exact ⟨k + 1, acc ++ [⟨0, tB, lA, lB⟩], ⟨nA, nB, s1, s2, g1, g2⟩, congrArg (Value.int .i64) (by omega), by omega, Lib.hid (by rw [List.length_append, List.length_singleton, hacc.out]), Lib.hid (by have h := hrun2.out; rw [hacc.out, Nat.zero_add] at h; exact h), hok2, Lib.hid (ZB.out.trans (below6 _ (by omega))), Lib.hid (ZC.out.trans (below6 _ (by omega))), Lib.hid (off6 Z6.out (by omega)), Lib.hid (off6 Z7.out (by omega)), Lib.hid (set6 Z10.out), Lib.hid (own6 Hown9.out Z10.out (by decide))⟩
          case measure => simp [intOf]; omega
      · go_wp2_with fail
        refine (GA.out hA0 _ HB.out).mono ?_
        rintro e wg ⟨rfl, hbg⟩
        replace X6 := Lib.hid (nxt hbg X6.out)
        replace X7 := Lib.hid (nxt hbg X7.out)
        replace X10 := Lib.hid (nxt hbg X10.out)
        replace X14 := Lib.hid (nxt hbg X14.out)
        replace X15 := Lib.hid (nxt hbg X15.out)
        replace HB := Lib.hid (HB.out.trans ((hbg).mono HB.out.size))
        replace HC := Lib.hid (HC.out.trans ((hbg).mono HC.out.size))
        replace hO := Lib.hid (hO.out.below hbg)
        clear v0 v1 c0 c1 c2 c3 c4 c5 n0 n1 n2 n3 n4 n5 y0 y1 y2 y3
        clear hbg
        skip
        have v0 := (Lib.cell_of_heap (X6.out) 0).trans rfl
        have v1 := (Lib.cell_of_heap (X6.out) 1).trans rfl
        have c0 := (Lib.cell_of_heap (X10.out) 0).trans rfl
        have c1 := (Lib.cell_of_heap (X10.out) 1).trans rfl
        have c2 := (Lib.cell_of_heap (X10.out) 2).trans rfl
        have c3 := (Lib.cell_of_heap (X10.out) 3).trans rfl
        have c4 := (Lib.cell_of_heap (X10.out) 4).trans rfl
        have c5 := (Lib.cell_of_heap (X10.out) 5).trans rfl
        have n0 := (Lib.cell_of_heap (X15.out) 0).trans rfl
        have n1 := (Lib.cell_of_heap (X15.out) 1).trans rfl
        have n2 := (Lib.cell_of_heap (X15.out) 2).trans rfl
        have n3 := (Lib.cell_of_heap (X15.out) 3).trans rfl
        have n4 := (Lib.cell_of_heap (X15.out) 4).trans rfl
        have n5 := (Lib.cell_of_heap (X15.out) 5).trans rfl
        have y0 := (Lib.cell_of_heap X14.out 0).trans rfl
        have y1 := (Lib.cell_of_heap X14.out 1).trans rfl
        have y2 := (Lib.cell_of_heap X14.out 2).trans rfl
        have y3 := (Lib.cell_of_heap X14.out 3).trans rfl
        rcases hBc with rfl | ⟨hB0, p3, p4⟩
        · skip
          obtain ⟨la, lc, rfl⟩ := own_valD hO.out
          obtain ⟨ln, hln⟩ : ∃ ln, acc.length = ln := ⟨_, rfl⟩
          rw [hln] at hO ⊢
          have Hln := Lib.hid hln
          clear hln
          have hz10 := (Array.getElem?_eq_some_iff.1 X10.out).1
          go_wp2_with (at_builtin; (refine wpList_app1 (c := Act1.cells) (bytes := 24) rfl _ _ 55 59 rfl Try.underlying55 info_ActA (by omega) Act1.len Act1.one w9.heap.size acc ⟨tA, 0, lA, lB⟩ _ rfl wg rfl hO.out rfl (by rw [hacc.out]; omega) (by rw [hacc.out]; omega) (by omega) ?_); intro v9 wz hown9 hg9; (have Z6 := Lib.hid (app_off hO.out hg9 X6.out (by decide)); have Z7 := Lib.hid (app_off hO.out hg9 X7.out (by decide)); have Z10 := Lib.hid (app_off hO.out hg9 X10.out (by decide)); have Z15 := Lib.hid (app_off hO.out hg9 X15.out (by decide)); have ZB := Lib.hid (hO.out.app HB.out (by omega) HB.out.size hg9); have ZC := Lib.hid (hO.out.app HC.out (by omega) HC.out.size hg9); have Hown9 := Lib.hid hown9; clear hown9 hg9; have c0 := (Lib.cell_of_heap Z10.out 0).trans rfl; have c1 := (Lib.cell_of_heap Z10.out 1).trans rfl; have c2 := (Lib.cell_of_heap Z10.out 2).trans rfl; have c3 := (Lib.cell_of_heap Z10.out 3).trans rfl; have c4 := (Lib.cell_of_heap Z10.out 4).trans rfl; have c5 := (Lib.cell_of_heap Z10.out 5).trans rfl; have n0 := (Lib.cell_of_heap Z15.out 0).trans rfl; have n1 := (Lib.cell_of_heap Z15.out 1).trans rfl; have n2 := (Lib.cell_of_heap Z15.out 2).trans rfl; have n3 := (Lib.cell_of_heap Z15.out 3).trans rfl; have n4 := (Lib.cell_of_heap Z15.out 4).trans rfl; have n5 := (Lib.cell_of_heap Z15.out 5).trans rfl; have fz := fun j => Lib.frozen_of_heap Z10.out j))
          go_roundw
          case rel => exact ⟨k + 1, acc ++ [⟨tA, 0, lA, lB⟩], ⟨nA, nB, s1, s2, g1, g2⟩, congrArg (Value.int .i64) (by omega), by omega, Lib.hid (by rw [List.length_append, List.length_singleton, hacc.out]), Lib.hid (by have h := hrun2.out; rw [hacc.out, Nat.zero_add] at h; exact h), hok2, Lib.hid (ZB.out.trans (below6 _ (by omega))), Lib.hid (ZC.out.trans (below6 _ (by omega))), Lib.hid (off6 Z6.out (by omega)), Lib.hid (off6 Z7.out (by omega)), Lib.hid (set6 Z10.out), Lib.hid (own6 Hown9.out Z10.out (by decide))⟩
          case measure => simp [intOf]; omega
        · go_wp2_with fail
          refine (GB.out hB0 _ HB.out).mono ?_
          rintro e wh ⟨rfl, hbh⟩
          replace X6 := Lib.hid (nxt hbh X6.out)
          replace X7 := Lib.hid (nxt hbh X7.out)
          replace X10 := Lib.hid (nxt hbh X10.out)
          replace X14 := Lib.hid (nxt hbh X14.out)
          replace X15 := Lib.hid (nxt hbh X15.out)
          replace HB := Lib.hid (HB.out.trans ((hbh).mono HB.out.size))
          replace HC := Lib.hid (HC.out.trans ((hbh).mono HC.out.size))
          replace hO := Lib.hid (hO.out.below hbh)
          clear v0 v1 c0 c1 c2 c3 c4 c5 n0 n1 n2 n3 n4 n5 y0 y1 y2 y3
          clear hbh
          skip
          have v0 := (Lib.cell_of_heap (X6.out) 0).trans rfl
          have v1 := (Lib.cell_of_heap (X6.out) 1).trans rfl
          have c0 := (Lib.cell_of_heap (X10.out) 0).trans rfl
          have c1 := (Lib.cell_of_heap (X10.out) 1).trans rfl
          have c2 := (Lib.cell_of_heap (X10.out) 2).trans rfl
          have c3 := (Lib.cell_of_heap (X10.out) 3).trans rfl
          have c4 := (Lib.cell_of_heap (X10.out) 4).trans rfl
          have c5 := (Lib.cell_of_heap (X10.out) 5).trans rfl
          have n0 := (Lib.cell_of_heap (X15.out) 0).trans rfl
          have n1 := (Lib.cell_of_heap (X15.out) 1).trans rfl
          have n2 := (Lib.cell_of_heap (X15.out) 2).trans rfl
          have n3 := (Lib.cell_of_heap (X15.out) 3).trans rfl
          have n4 := (Lib.cell_of_heap (X15.out) 4).trans rfl
          have n5 := (Lib.cell_of_heap (X15.out) 5).trans rfl
          have y0 := (Lib.cell_of_heap X14.out 0).trans rfl
          have y1 := (Lib.cell_of_heap X14.out 1).trans rfl
          have y2 := (Lib.cell_of_heap X14.out 2).trans rfl
          have y3 := (Lib.cell_of_heap X14.out 3).trans rfl
          skip
          obtain ⟨la, lc, rfl⟩ := own_valD hO.out
          obtain ⟨ln, hln⟩ : ∃ ln, acc.length = ln := ⟨_, rfl⟩
          rw [hln] at hO ⊢
          have Hln := Lib.hid hln
          clear hln
          have hz10 := (Array.getElem?_eq_some_iff.1 X10.out).1
          go_wp2_with (at_builtin; (refine wpList_app1 (c := Act1.cells) (bytes := 24) rfl _ _ 55 59 rfl Try.underlying55 info_ActA (by omega) Act1.len Act1.one w9.heap.size acc ⟨tA, tB, lA, lB⟩ _ rfl wh rfl hO.out rfl (by rw [hacc.out]; omega) (by rw [hacc.out]; omega) (by omega) ?_); intro v9 wz hown9 hg9; (have Z6 := Lib.hid (app_off hO.out hg9 X6.out (by decide)); have Z7 := Lib.hid (app_off hO.out hg9 X7.out (by decide)); have Z10 := Lib.hid (app_off hO.out hg9 X10.out (by decide)); have Z15 := Lib.hid (app_off hO.out hg9 X15.out (by decide)); have ZB := Lib.hid (hO.out.app HB.out (by omega) HB.out.size hg9); have ZC := Lib.hid (hO.out.app HC.out (by omega) HC.out.size hg9); have Hown9 := Lib.hid hown9; clear hown9 hg9; have c0 := (Lib.cell_of_heap Z10.out 0).trans rfl; have c1 := (Lib.cell_of_heap Z10.out 1).trans rfl; have c2 := (Lib.cell_of_heap Z10.out 2).trans rfl; have c3 := (Lib.cell_of_heap Z10.out 3).trans rfl; have c4 := (Lib.cell_of_heap Z10.out 4).trans rfl; have c5 := (Lib.cell_of_heap Z10.out 5).trans rfl; have n0 := (Lib.cell_of_heap Z15.out 0).trans rfl; have n1 := (Lib.cell_of_heap Z15.out 1).trans rfl; have n2 := (Lib.cell_of_heap Z15.out 2).trans rfl; have n3 := (Lib.cell_of_heap Z15.out 3).trans rfl; have n4 := (Lib.cell_of_heap Z15.out 4).trans rfl; have n5 := (Lib.cell_of_heap Z15.out 5).trans rfl; have fz := fun j => Lib.frozen_of_heap Z10.out j))
          go_roundw
          case rel => exact ⟨k + 1, acc ++ [⟨tA, tB, lA, lB⟩], ⟨nA, nB, s1, s2, g1, g2⟩, congrArg (Value.int .i64) (by omega), by omega, Lib.hid (by rw [List.length_append, List.length_singleton, hacc.out]), Lib.hid (by have h := hrun2.out; rw [hacc.out, Nat.zero_add] at h; exact h), hok2, Lib.hid (ZB.out.trans (below6 _ (by omega))), Lib.hid (ZC.out.trans (below6 _ (by omega))), Lib.hid (off6 Z6.out (by omega)), Lib.hid (off6 Z7.out (by omega)), Lib.hid (set6 Z10.out), Lib.hid (own6 Hown9.out Z10.out (by decide))⟩
          case measure => simp [intOf]; omega
    · obtain ⟨xa, xb, xsa, xsb, xga, xgb⟩ := x
      dsimp only at X10
      have v0 := (Lib.cell_of_heap (X6.out) 0).trans rfl
      have v1 := (Lib.cell_of_heap (X6.out) 1).trans rfl
      have c0 := (Lib.cell_of_heap (X10.out) 0).trans rfl
      have c1 := (Lib.cell_of_heap (X10.out) 1).trans rfl
      have c2 := (Lib.cell_of_heap (X10.out) 2).trans rfl
      have c3 := (Lib.cell_of_heap (X10.out) 3).trans rfl
      have c4 := (Lib.cell_of_heap (X10.out) 4).trans rfl
      have c5 := (Lib.cell_of_heap (X10.out) 5).trans rfl
      have o0 := (Lib.cell_of_heap (X7.out) 0).trans rfl
      have o1 := (Lib.cell_of_heap (X7.out) 1).trans rfl
      have o2 := (Lib.cell_of_heap (X7.out) 2).trans rfl
      have o3 := (Lib.cell_of_heap (X7.out) 3).trans rfl
      have o4 := (Lib.cell_of_heap (X7.out) 4).trans rfl
      have o5 := (Lib.cell_of_heap (X7.out) 5).trans rfl
      have hk66 : k = 6 := by omega
      have hcd : codeW T ⟨m0, t0⟩ x0 = 0 := by unfold codeW; rw [if_pos Hok.out, if_pos hX0.out]
      have hra := Lib.hid (impl_RunActs tv _ rows T _ _ _ _ ⟨m0, t0⟩ x0 acc wr (hT.out _ HB.out) (hO.out.slw Act1.len).1 (by rw [hacc.out]; omega))
      rw [runActs_0 hcd, hrun.out, hk66, Hx0.out] at hra
      have hki : ¬ (k : Int) < 6 := by omega
      obtain ⟨la, lc, rfl⟩ := own_valD hO.out
      simp only [Wtc.cells, Wld.cells] at hra
      clear hk66 hcd
      go_wp2_with fail
      refine hra.out.mono ?_
      rintro e ws ⟨rfl, hbs⟩
      replace X6 := Lib.hid (nxt hbs X6.out)
      replace X7 := Lib.hid (nxt hbs X7.out)
      replace X10 := Lib.hid (nxt hbs X10.out)
      replace HB := Lib.hid (HB.out.trans ((hbs).mono HB.out.size))
      replace HC := Lib.hid (HC.out.trans ((hbs).mono HC.out.size))
      replace hO := Lib.hid (hO.out.below hbs)
      clear v0 v1 c0 c1 c2 c3 c4 c5 o0 o1 o2 o3 o4 o5 hra
      have hbt := (Below.refl ws.heap.size ws).alloc (Nat.le_refl _) (.cells #[.int .i64 xa, .int .i64 xb, .int .i64 xsa, .int .i64 xsb, .int .i64 xga, .int .i64 xgb] 51 (0, 0))
      replace X6 := Lib.hid (nxt hbt X6.out)
      replace X7 := Lib.hid (nxt hbt X7.out)
      replace X10 := Lib.hid (nxt hbt X10.out)
      replace HB := Lib.hid (HB.out.trans ((hbt).mono HB.out.size))
      replace HC := Lib.hid (HC.out.trans ((hbt).mono HC.out.size))
      replace hO := Lib.hid (hO.out.below hbt)
      have c0 := (Lib.cell_of_heap (X10.out) 0).trans rfl
      have c1 := (Lib.cell_of_heap (X10.out) 1).trans rfl
      have c2 := (Lib.cell_of_heap (X10.out) 2).trans rfl
      have c3 := (Lib.cell_of_heap (X10.out) 3).trans rfl
      have c4 := (Lib.cell_of_heap (X10.out) 4).trans rfl
      have c5 := (Lib.cell_of_heap (X10.out) 5).trans rfl
      go_wp2_with fail
      go_ret
      exact ⟨rfl, Hb1.out.trans (HB.out.mono Hb1.out.size)⟩
end Go.Proofs.Ytmkhapgkiecmaaa
