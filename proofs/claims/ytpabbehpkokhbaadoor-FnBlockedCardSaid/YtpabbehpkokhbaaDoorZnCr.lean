/- Zones: the draw of a crane that is seldom not valid. Zones: the draw of a crane that is seldom not valid, its spoiling. -/
import Derived.Test.YtpabbehpkokhbaaDoorDsB
import Derived.Test.YtpabbehpkokhbaaDoorZnV
import Derived.Test.YtpabbehpkokhbaaDoorPh
import Derived.Test.YtpabbehpkokhbaaDoorTCrane
namespace Go.Proofs.YtpabbehpkokhbaaDoor
open Go.RowKit
/-- A chart that has been drawn: only its shape is told. -/
def CbOut (b A : Nat) (w : World) (e : Ending) (w' : World) : Prop := ∃ (s : SV) (l : List Chs), e = .returned s.v ∧ Sl 2 Chs.cells w.heap.size w'.heap.size w' s.v l ∧ Src b A w' ∧ Mod b (b + 1) w w'
set_option maxRecDepth 100000 in
set_option maxHeartbeats 4000000 in
theorem draw_Cbent (b A : Nat) (w : World) (h : Src b A w) (hA : A ≤ 50000) : Calls Tryd.prog 88 #[.pointer (some ⟨b, 0, none⟩)] w (CbOut b (A + 60) w) := by
  have hp := Lib.hid (fun A w' h hA n hn => src_pick b A n w' h hA hn)
  have hbl := Lib.hid h.lt
  have hS := Lib.hid h
  clear h
  go_enter Tryd.func88, Tryd.ntmps88
  go_wp2_with fail
  refine (draw_ChartV b A 700 w hS.out (by omega) (by omega)).mono ?_
  rintro e w1 ⟨v, l, rfl, hsl, -, hlen, -, hs1, hm1⟩
  have hSl1 := Lib.hid hsl
  obtain ⟨va, cap, rfl, _, hh⟩ := hsl.1
  obtain ⟨g, o, rfl, hg1, hg2, _⟩ := hh (by omega)
  have hS1 := Lib.hid hs1
  have hM1 := Lib.hid hm1
  clear hsl hs1 hm1 hh hS
  obtain ⟨n, hn⟩ : ∃ n, l.length = n := ⟨_, rfl⟩
  rw [hn] at hSl1 hlen ⊢
  have Hn := Lib.hid hn
  clear hn
  have hg1 : w.heap.size ≤ g := by omega
  have hgw : g < w1.heap.size := hg2
  go_wp2_with fail
  refine (hp.out _ _ hS1.out (by omega) n (by omega)).mono ?_
  rintro e w2 ⟨at', rfl, ⟨-, hat⟩, hs2, hm2⟩
  have hat := hat (by omega)
  have hSl2 := Lib.hid (hSl1.out.keep (hm2.same (Nat.le_refl _) (.inr hbl.out)))
  have hS2 := Lib.hid hs2
  have hM2 := Lib.hid (hM1.out.trans hm2)
  have hz2 := hm2.size
  clear hs2 hm2 hS1 hM1 hSl1
  go_wp2_with fail
  refine (hp.out _ _ hS2.out (by omega) 20 (by omega)).mono ?_
  rintro e w3 ⟨k, rfl, -, hs3, hm3⟩
  have hSl3 := Lib.hid (hSl2.out.keep (hm3.same hz2 (.inr hbl.out)))
  have hS3 := Lib.hid hs3
  have hM3 := Lib.hid (hM2.out.trans hm3)
  have hz3 : w1.heap.size ≤ w3.heap.size := Nat.le_trans hz2 hm3.size
  clear hs3 hm3 hS2 hM2 hSl2 hz2
  by_cases k0 : k = 0
  · have t0 : ((k : Int) == 0) = true := by rw [beq_iff_eq]; omega
    go_wp2_with fail
    refine (src_lit b _ [0, 1, 1000, 1001, -9223372036854775808] 5 _ w3 hS3.out (by omega) rfl rfl (by simp)).mono ?_
    rintro e w4 ⟨x, rfl, hs4, hm4⟩
    have hSl4 := hSl3.out.keep (hm4.same hz3 (.inr hbl.out))
    have hac : at' < l.length := by have := Hn.out; omega
    have hl0 : 0 < l.length := by omega
    obtain ⟨d0, d1⟩ := Chss.at hSl4.1.get hac
    have y0 := hSl4.2 hl0 g o n cap rfl (o + at' * 2)
    have hst := Lib.hid (hSl4.store1 (k := at') (j := 0) (o := o + at' * 2) (u := .int .i64 x) (x := { l[at'] with radius := x }) Chs.len hac (by omega) (by simp [Chs.cells]) (by simp))
    have hS5 := Lib.hid (src_setV (j := o + at' * 2) (q := g) hs4 (by have := hbl.out; omega) (.int .i64 x))
    have hM5 := Lib.hid (mod_setV (j := o + at' * 2) (q := g) (hM3.out.trans hm4) hg1 (.int .i64 x))
    have hz5 := Lib.hid (show w1.heap.size ≤ (w4.setCell ⟨g, o + at' * 2, none⟩ (.int .i64 x)).heap.size by have := hm4.size; simp; omega)
    clear hs4 hm4 hSl4 hl0
    go_wp2_with fail
    go_ret
    exact ⟨⟨some ⟨g, o, none⟩, n, cap⟩, _, rfl, hst.out.1.mono (Nat.le_refl _) hz5.out, hS5.out.mono (by omega), hM5.out⟩
  · have t0 : ((k : Int) == 0) = false := by rw [beq_eq_false_iff_ne]; omega
    by_cases k1 : k = 1
    · have t1 : ((k : Int) == 1) = true := by rw [beq_iff_eq]; omega
      go_wp2_with fail
      refine (src_lit b _ [-1, 0, 50000, 50001] 4 _ w3 hS3.out (by omega) rfl rfl (by simp)).mono ?_
      rintro e w4 ⟨x, rfl, hs4, hm4⟩
      have hSl4 := hSl3.out.keep (hm4.same hz3 (.inr hbl.out))
      have hac : at' < l.length := by have := Hn.out; omega
      have hl0 : 0 < l.length := by omega
      obtain ⟨d0, d1⟩ := Chss.at hSl4.1.get hac
      have y0 := hSl4.2 hl0 g o n cap rfl (o + at' * 2 + 1)
      have hst := Lib.hid (hSl4.store1 (k := at') (j := 1) (o := o + at' * 2 + 1) (u := .int .i64 x) (x := { l[at'] with load := x }) Chs.len hac (by omega) (by simp [Chs.cells]) (by simp))
      have hS5 := Lib.hid (src_setV (j := o + at' * 2 + 1) (q := g) hs4 (by have := hbl.out; omega) (.int .i64 x))
      have hM5 := Lib.hid (mod_setV (j := o + at' * 2 + 1) (q := g) (hM3.out.trans hm4) hg1 (.int .i64 x))
      have hz5 := Lib.hid (show w1.heap.size ≤ (w4.setCell ⟨g, o + at' * 2 + 1, none⟩ (.int .i64 x)).heap.size by have := hm4.size; simp; omega)
      clear hs4 hm4 hSl4 hl0
      go_wp2_with fail
      go_ret
      exact ⟨⟨some ⟨g, o, none⟩, n, cap⟩, _, rfl, hst.out.1.mono (Nat.le_refl _) hz5.out, hS5.out.mono (by omega), hM5.out⟩
    · have t1 : ((k : Int) == 1) = false := by rw [beq_eq_false_iff_ne]; omega
      by_cases k2 : k = 2
      · have t2 : ((k : Int) == 2) = true := by rw [beq_iff_eq]; omega
        have hO := own_empty (c := Chs.cells) (n := 2) w3 95 w3.heap.size (Nat.le_refl _)
        have hb4 := (Below.refl w3.heap.size w3).alloc (Nat.le_refl _) (.cells #[] 95 (0, 0))
        have HO := Lib.hid ((hO.slw Chs.len).1)
        have hS5 := Lib.hid (hS3.out.below hb4)
        have hM5 := Lib.hid (hM3.out.then hb4)
        have hz := Lib.hid hM3.out.size
        clear hO hb4
        go_wp2_with fail
        go_ret
        exact ⟨⟨some ⟨w3.heap.size, 0, none⟩, 0, 0⟩, [], rfl, HO.out.mono hz.out (Nat.le_refl _), hS5.out.mono (by omega), hM5.out⟩
      · have t2 : ((k : Int) == 2) = false := by rw [beq_eq_false_iff_ne]; omega
        by_cases k3 : k = 3
        · have t3 : ((k : Int) == 3) = true := by rw [beq_iff_eq]; omega
          have hO := own_empty (c := Chs.cells) (n := 2) w3 95 w3.heap.size (Nat.le_refl _)
          have hb4 := (Below.refl w3.heap.size w3).alloc (Nat.le_refl _) (.cells #[] 95 (0, 0))
          have HO := Lib.hid hO
          have hS5 := Lib.hid (hS3.out.below hb4)
          have hM5 := Lib.hid (hM3.out.then hb4)
          have hz := Lib.hid hM3.out.size
          clear hO hb4
          go_wp2_with fail
          generalize w3.alloc (.cells #[] 95 (0, 0)) = w4 at *
          obtain ⟨q, hq⟩ : ∃ q, w3.heap.size = q := ⟨_, rfl⟩
          rw [hq] at HO hz ⊢
          clear hq hz3 hgw
          refine (hp.out _ _ hS5.out (by omega) 2 (by omega)).mono ?_
          rintro e w5 ⟨j, rfl, ⟨-, hj⟩, hs6, hm6⟩
          have hj := hj (by omega)
          have wj : IntKind.i64.wrap (20 + (j : Int)) = 20 + (j : Int) := IntWalk.i64_in _ (by omega)
          have HO6 := Lib.hid (HO.out.mod hm6 (by have := hz.out; have := hbl.out; omega))
          have hS6 := Lib.hid hs6
          have hM6 := Lib.hid (hM5.out.trans hm6)
          have hq5 := Lib.hid (show q ≤ w5.heap.size by obtain ⟨cur, fz, hb⟩ := HO6.out.block rfl; exact Nat.le_of_lt (Array.getElem?_eq_some_iff.1 hb).1)
          have Hj := Lib.hid hj
          clear hs6 hm6 hj HO hS5 hM5
          go_wp2_with fail
          go_loopw [5, 6] (fun v i wr => ∃ (k : Nat) (acc : List Chs) (a : Option Addr) (n c : Nat), i = .int .i64 k ∧ v = .slice a n c ∧ Hid (k + acc.length ≤ 21) ∧ Hid (Own 2 Chs.cells q 95 wr (.slice a n c) acc) ∧ Hid (Below q w5 wr)) (fun _ i _ => (Go.RowKit.intOf i).toNat)
          case atStart => exact ⟨20 + j, [], _, _, _, by simp, rfl, Lib.hid (by have := Hj.out; simp; omega), HO6, Lib.hid (Below.refl _ _)⟩
          case round =>
            obtain ⟨k, acc, ua, un, uc, rfl, rfl, hkm, hO, hB⟩ := hrel
            by_cases hk0 : 0 < k
            · have hki : (0 : Int) < (k : Int) := by omega
              have Hk := Lib.hid hk0
              have hk21 : k ≤ 21 := by have := hkm.out; omega
              have wk : IntKind.i64.wrap ((k : Int) - 1) = (k : Int) - 1 := IntWalk.i64_in _ (by omega)
              have wa : IntKind.i64.wrap (10 * (k : Int)) = 10 * (k : Int) := IntWalk.i64_in _ (by omega)
              have wb : IntKind.i64.wrap (900 - 10 * (k : Int)) = 900 - 10 * (k : Int) := IntWalk.i64_in _ (by omega)
              have wc : IntKind.i64.wrap (100 + (k : Int)) = 100 + (k : Int) := IntWalk.i64_in _ (by omega)
              have hpw : q ≤ wr.heap.size := by have := hB.out.size; have := hq5.out; omega
              clear hk0 hk21
              go_wp2_with (at_builtin; refine wpList_app1 (c := Chs.cells) (bytes := 16) rfl _ _ 39 95 rfl Tryd.underlying39 info_stepV (by omega) Chs.len Chs.oneV q acc (⟨900 - 10 * (k : Int), 100 + (k : Int)⟩ : Chs) _ rfl wr rfl hO.out rfl (by have := hkm.out; omega) (by have := hkm.out; omega) hpw ?_; intro v6 w6 hown6 hg6; obtain ⟨xa, xc, rfl⟩ := own_sv hown6; have hB6 := Lib.hid (hB.out.trans (hO.out.app (Below.refl q wr) (Nat.le_refl _) hpw hg6)); rw [List.length_append, List.length_singleton] at hown6; have hO6 := Lib.hid hown6; clear hown6 hg6)
              go_roundw
              case rel => exact ⟨k - 1, acc ++ [⟨900 - 10 * (k : Int), 100 + (k : Int)⟩], _, _, _, by have := Hk.out; go_num, rfl, Lib.hid (by have := hkm.out; have := Hk.out; simp only [List.length_append, List.length_singleton]; omega), hO6, hB6⟩
              case measure => have := Hk.out; simp [Go.RowKit.intOf]; omega
            · obtain rfl : k = 0 := by omega
              have hki : ¬ (0 : Int) < ((0 : Nat) : Int) := by omega
              go_wp2_with fail
              go_ret
              exact ⟨⟨ua, un, uc⟩, acc, rfl, (hO.out.slw Chs.len).1.mono (by have := hz.out; omega) (Nat.le_refl _), (hS6.out.lo hB.out (by have := hbl.out; have := hz.out; omega)).mono (by omega), hM6.out.onV (hB.out.mono hz.out)⟩
        · have t3 : ((k : Int) == 3) = false := by rw [beq_eq_false_iff_ne]; omega
          go_wp2_with fail
          go_ret
          exact ⟨⟨some ⟨g, o, none⟩, n, cap⟩, l, rfl, hSl3.out.1.mono (Nat.le_refl _) hz3, hS3.out.mono (by omega), hM3.out⟩
/-- A crane in its box, the result's box, and the source. -/
structure CB (b A p q : Nat) (w0 : World) (nm : ByteArray) (x y h j k : Int) (s : SV) (l : List Chs) (W : World) : Prop where
  sr : Src b A W
  m : Mod b (b + 1) w0 W
  r : W.heap[q]? = some (.cells #[.string ByteArray.empty, .int .i64 0, .int .i64 0, .int .i64 0, .int .i64 0, .int .i64 0, .slice none 0 0] 41 (0, 0))
  z : W.heap[p]? = some (.cells #[.string nm, .int .i64 x, .int .i64 y, .int .i64 h, .int .i64 j, .int .i64 k, s.v] 41 (0, 0))
  c : ∃ lo hi, q < lo ∧ (hi ≤ p ∨ p < lo) ∧ hi ≤ W.heap.size ∧ Sl 2 Chs.cells lo hi W s.v l
  o : b < w0.heap.size ∧ w0.heap.size ≤ q ∧ q < p
  n : nm.size ≤ maxLen
section
variable {b A p q : Nat} {w0 W W' : World} {nm : ByteArray} {x y h j k : Int} {s : SV} {l : List Chs}
theorem CB.on {A' : Nat} (H : CB b A p q w0 nm x y h j k s l W) (hs : Src b A' W') (hm : Mod b (b + 1) W W') : CB b A' p q w0 nm x y h j k s l W' :=
  ⟨hs, H.m.trans hm, blk_modV H.r hm (by have := H.o; omega), blk_modV H.z hm (by have := H.o; omega), by
    obtain ⟨lo, hi, h1, h2, h3, h4⟩ := H.c
    exact ⟨lo, hi, h1, h2, Nat.le_trans h3 hm.size, h4.keep (hm.same h3 (.inr (by have := H.o; omega)))⟩, H.o, H.n⟩
theorem CB.up (H : CB b A p q w0 nm x y h j k s l W) (hb : Below W.heap.size W W') : CB b A p q w0 nm x y h j k s l W' := H.on (H.sr.below hb) (Mod.of_below hb)
/-- A store into the crane. -/
theorem CB.set {nm' : ByteArray} {x' y' h' j' k' : Int} {i : Nat} {u : Value} (H : CB b A p q w0 nm x y h j k s l W) (hn : nm'.size ≤ maxLen)
    (hc : (#[.string nm', .int .i64 x', .int .i64 y', .int .i64 h', .int .i64 j', .int .i64 k', s.v] : Array Value) = (#[.string nm, .int .i64 x, .int .i64 y, .int .i64 h, .int .i64 j, .int .i64 k, s.v] : Array Value).setIfInBounds i u) : CB b A p q w0 nm' x' y' h' j' k' s l (W.setCell ⟨p, i, none⟩ u) :=
  ⟨src_setV H.sr (by have := H.o; omega) _, mod_setV H.m (by have := H.o; omega) _, blk_offV H.r (by have := H.o; omega) _, blk_onV H.z hc, by
    obtain ⟨lo, hi, h1, h2, h3, h4⟩ := H.c
    exact ⟨lo, hi, h1, h2, by simpa using h3, h4.keep (fun k' hk1 hk2 => Below.heap_setCell W ⟨p, i, none⟩ u k' (show k' ≠ p by omega))⟩, H.o, hn⟩
/-- Another chart is stored. -/
theorem CB.setC {s' : SV} {l' : List Chs} {lo hi : Nat} (H : CB b A p q w0 nm x y h j k s l W) (hs : Sl 2 Chs.cells lo hi W s'.v l') (hlo : p < lo) (hhi : hi ≤ W.heap.size) : CB b A p q w0 nm x y h j k s' l' (W.setCell ⟨p, 6, none⟩ s'.v) :=
  ⟨src_setV H.sr (by have := H.o; omega) _, mod_setV H.m (by have := H.o; omega) _, blk_offV H.r (by have := H.o; omega) _, blk_onV H.z rfl,
    ⟨lo, hi, by have := H.o; omega, .inr hlo, by simpa using hhi, hs.keep (fun k' hk1 hk2 => Below.heap_setCell W ⟨p, 6, none⟩ s'.v k' (show k' ≠ p by omega))⟩, H.o, H.n⟩
def SpOut (b A p q : Nat) (w0 : World) (e : Ending) (w' : World) : Prop := e = .returned (.tuple #[]) ∧ ∃ (nm : ByteArray) (x y h j k : Int) (s : SV) (l : List Chs), CB b A p q w0 nm x y h j k s l w'
theorem CB.out {A' : Nat} (H : CB b A p q w0 nm x y h j k s l W) (hA : A ≤ A') : SpOut b A' p q w0 (.returned (.tuple #[])) W :=
  ⟨rfl, nm, x, y, h, j, k, s, l, ⟨H.sr.mono hA, H.m, H.r, H.z, H.c, H.o, H.n⟩⟩
/-- What stands when the result's box is written. -/
theorem CB.fin (H : CB b A p q w0 nm x y h j k s l W) : Chss w0.heap.size (((((((W.setCell ⟨q, 0, none⟩ (.string nm)).setCell ⟨q, 1, none⟩ (.int .i64 x)).setCell ⟨q, 2, none⟩ (.int .i64 y)).setCell ⟨q, 3, none⟩ (.int .i64 h)).setCell ⟨q, 4, none⟩ (.int .i64 j)).setCell ⟨q, 5, none⟩ (.int .i64 k)).setCell ⟨q, 6, none⟩ s.v).heap.size
    (((((((W.setCell ⟨q, 0, none⟩ (.string nm)).setCell ⟨q, 1, none⟩ (.int .i64 x)).setCell ⟨q, 2, none⟩ (.int .i64 y)).setCell ⟨q, 3, none⟩ (.int .i64 h)).setCell ⟨q, 4, none⟩ (.int .i64 j)).setCell ⟨q, 5, none⟩ (.int .i64 k)).setCell ⟨q, 6, none⟩ s.v) s.v l ∧
    Src b A (((((((W.setCell ⟨q, 0, none⟩ (.string nm)).setCell ⟨q, 1, none⟩ (.int .i64 x)).setCell ⟨q, 2, none⟩ (.int .i64 y)).setCell ⟨q, 3, none⟩ (.int .i64 h)).setCell ⟨q, 4, none⟩ (.int .i64 j)).setCell ⟨q, 5, none⟩ (.int .i64 k)).setCell ⟨q, 6, none⟩ s.v) ∧
    Mod b (b + 1) w0 (((((((W.setCell ⟨q, 0, none⟩ (.string nm)).setCell ⟨q, 1, none⟩ (.int .i64 x)).setCell ⟨q, 2, none⟩ (.int .i64 y)).setCell ⟨q, 3, none⟩ (.int .i64 h)).setCell ⟨q, 4, none⟩ (.int .i64 j)).setCell ⟨q, 5, none⟩ (.int .i64 k)).setCell ⟨q, 6, none⟩ s.v) := by
  have hq : b + 1 ≤ q := by have := H.o; omega
  have hq2 : w0.heap.size ≤ q := H.o.2.1
  refine ⟨?_, src_setV (src_setV (src_setV (src_setV (src_setV (src_setV (src_setV H.sr hq _) hq _) hq _) hq _) hq _) hq _) hq _, mod_setV (mod_setV (mod_setV (mod_setV (mod_setV (mod_setV (mod_setV H.m hq2 _) hq2 _) hq2 _) hq2 _) hq2 _) hq2 _) hq2 _⟩
  obtain ⟨lo, hi, h1, h2, h3, h4⟩ := H.c
  have hk : ∀ W (i : Nat) (u : Value), Sl 2 Chs.cells lo hi W s.v l → Sl 2 Chs.cells lo hi (W.setCell ⟨q, i, none⟩ u) s.v l := fun W i u h => h.keep (fun k' hk1 hk2 => Below.heap_setCell W ⟨q, i, none⟩ u k' (show k' ≠ q by omega))
  exact (hk _ _ _ (hk _ _ _ (hk _ _ _ (hk _ _ _ (hk _ _ _ (hk _ _ _ (hk _ _ _ h4))))))).mono (by omega) (by simp only [World.size_setCell]; exact h3)
theorem strC_lenZ (s : ByteArray) : (strC s).length = 1 := rfl
set_option maxRecDepth 100000 in
set_option maxHeartbeats 4000000 in
theorem draw_Spoil (H : CB b A p q w0 nm x y h j k s l W) (hA : A ≤ 40000) : Calls Tryd.prog 67 #[.pointer (some ⟨b, 0, none⟩), .pointer (some ⟨p, 0, none⟩)] W (SpOut b (A + 70) p q w0) := by
  have hp := Lib.hid (fun A w' h hA n hn => src_pick b A n w' h hA hn)
  have hX := Lib.hid H
  have Hb := Lib.hid (show b < W.heap.size ∧ p < W.heap.size from ⟨H.sr.lt, (Array.getElem?_eq_some_iff.1 H.z).1⟩)
  obtain ⟨sa, sl, sc⟩ := s
  clear H
  go_enter Tryd.func67, Tryd.ntmps67
  go_wp2_with fail
  refine (hp.out _ _ hX.out.sr (by omega) 6 (by omega)).mono ?_
  rintro e w1 ⟨n, rfl, -, hs1, hm1⟩
  have hP := Lib.hid (hX.out.on hs1 hm1)
  clear hs1 hm1 hX
  by_cases k0 : n = 0
  · have t0 : ((n : Int) == 0) = true := by rw [beq_iff_eq]; omega
    have hba : Below w1.heap.size w1 (w1.alloc (.cells #[.string ⟨#[]⟩, .string ⟨#[65, 100, 97]⟩, .string ⟨#[97, 100, 97]⟩] 9 (0, 0))) := (Below.refl _ _).alloc (Nat.le_refl _) _
    have hlt1 : b + 1 ≤ w1.heap.size := hP.out.sr.lt
    have hal := Lib.hid (src_text b _ (.slice (some ⟨w1.heap.size, 0, none⟩) 3 3) [⟨#[]⟩, ⟨#[65, 100, 97]⟩, ⟨#[97, 100, 97]⟩] _ _ _ (hP.out.sr.below hba) (by omega) (by simp) (sl_lit strC_lenZ _ w1 9 (cs := #[.string ⟨#[]⟩, .string ⟨#[65, 100, 97]⟩, .string ⟨#[97, 100, 97]⟩]) rfl (m := 3) rfl (by simp)) (.inr hlt1) (by simp))
    have hP1 := Lib.hid (hP.out.up hba)
    clear hba hlt1 hP
    go_wp2_with fail
    refine hal.out.mono ?_
    rintro e w2 ⟨nz, hnz, rfl, hs2, hm2⟩
    have hP2 := Lib.hid (hP1.out.on hs2 hm2)
    have hnz : nz.size ≤ maxLen := by unfold maxLen; simp only [List.mem_cons, List.not_mem_nil, or_false] at hnz; rcases hnz with rfl | rfl | rfl <;> decide
    clear hs2 hm2 hP1 hal
    have c0 := (Lib.cell_of_heap hP2.out.z 0).trans rfl
    have c1 := (Lib.cell_of_heap hP2.out.z 1).trans rfl
    have c2 := (Lib.cell_of_heap hP2.out.z 2).trans rfl
    have c3 := (Lib.cell_of_heap hP2.out.z 3).trans rfl
    have c4 := (Lib.cell_of_heap hP2.out.z 4).trans rfl
    have c5 := (Lib.cell_of_heap hP2.out.z 5).trans rfl
    have c6 := (Lib.cell_of_heap hP2.out.z 6).trans rfl
    have g0 := fun j => Lib.frozen_of_heap hP2.out.z j
    go_wp2
    exact bodyPost_end (v := .tuple #[]) (by simp [results, Tryd.results67, go_sem]) rfl ((hP2.out.set (i := 0) (nm' := nz) (x' := x) (y' := y) (h' := h) (j' := j) (k' := k) hnz rfl).out (A' := A + 70) (by omega))
  · have t0 : ((n : Int) == 0) = false := by rw [beq_eq_false_iff_ne]; omega
    by_cases k1 : n = 1
    · have t1 : ((n : Int) == 1) = true := by rw [beq_iff_eq]; omega
      go_wp2_with fail
      refine (src_lit b _ [0, 1, 2000, 2001] 4 _ w1 hP.out.sr (by omega) rfl rfl (by simp)).mono ?_
      rintro e w2 ⟨z, rfl, hs2, hm2⟩
      have hP2 := Lib.hid (hP.out.on hs2 hm2)
      clear hs2 hm2 hP
      have c0 := (Lib.cell_of_heap hP2.out.z 0).trans rfl
      have c1 := (Lib.cell_of_heap hP2.out.z 1).trans rfl
      have c2 := (Lib.cell_of_heap hP2.out.z 2).trans rfl
      have c3 := (Lib.cell_of_heap hP2.out.z 3).trans rfl
      have c4 := (Lib.cell_of_heap hP2.out.z 4).trans rfl
      have c5 := (Lib.cell_of_heap hP2.out.z 5).trans rfl
      have c6 := (Lib.cell_of_heap hP2.out.z 6).trans rfl
      have g0 := fun j => Lib.frozen_of_heap hP2.out.z j
      go_wp2
      exact bodyPost_end (v := .tuple #[]) (by simp [results, Tryd.results67, go_sem]) rfl ((hP2.out.set (i := 3) (x' := x) (y' := y) (h' := z) (j' := j) (k' := k) hP2.out.n rfl).out (A' := A + 70) (by omega))
    · have t1 : ((n : Int) == 1) = false := by rw [beq_eq_false_iff_ne]; omega
      by_cases k2 : n = 2
      · have t2 : ((n : Int) == 2) = true := by rw [beq_iff_eq]; omega
        go_wp2_with fail
        refine (src_lit b _ [0, 1000, 1001, -9223372036854775808] 4 _ w1 hP.out.sr (by omega) rfl rfl (by simp)).mono ?_
        rintro e w2 ⟨z, rfl, hs2, hm2⟩
        have hP2 := Lib.hid (hP.out.on hs2 hm2)
        clear hs2 hm2 hP
        have c0 := (Lib.cell_of_heap hP2.out.z 0).trans rfl
        have c1 := (Lib.cell_of_heap hP2.out.z 1).trans rfl
        have c2 := (Lib.cell_of_heap hP2.out.z 2).trans rfl
        have c3 := (Lib.cell_of_heap hP2.out.z 3).trans rfl
        have c4 := (Lib.cell_of_heap hP2.out.z 4).trans rfl
        have c5 := (Lib.cell_of_heap hP2.out.z 5).trans rfl
        have c6 := (Lib.cell_of_heap hP2.out.z 6).trans rfl
        have g0 := fun j => Lib.frozen_of_heap hP2.out.z j
        go_wp2
        exact bodyPost_end (v := .tuple #[]) (by simp [results, Tryd.results67, go_sem]) rfl ((hP2.out.set (i := 4) (x' := x) (y' := y) (h' := h) (j' := z) (k' := k) hP2.out.n rfl).out (A' := A + 70) (by omega))
      · have t2 : ((n : Int) == 2) = false := by rw [beq_eq_false_iff_ne]; omega
        by_cases k3 : n = 3
        · have t3 : ((n : Int) == 3) = true := by rw [beq_iff_eq]; omega
          have c0 := (Lib.cell_of_heap hP.out.z 0).trans rfl
          have c1 := (Lib.cell_of_heap hP.out.z 1).trans rfl
          have c2 := (Lib.cell_of_heap hP.out.z 2).trans rfl
          have c3 := (Lib.cell_of_heap hP.out.z 3).trans rfl
          have c4 := (Lib.cell_of_heap hP.out.z 4).trans rfl
          have c5 := (Lib.cell_of_heap hP.out.z 5).trans rfl
          have c6 := (Lib.cell_of_heap hP.out.z 6).trans rfl
          have g0 := fun j => Lib.frozen_of_heap hP.out.z j
          go_wp2_with fail
          clear c0 c1 c2 c3 c5 c6
          refine region_ph 99 (fun w' => w'.cell? ⟨p, 4, none⟩ = w1.cell? ⟨p, 4, none⟩) (fun _ => True) (by kernel_rfl) rfl trivial (fun hp' => ?_)
          have hp2 := hp
          clear hp
          have hp := hp'
          refine take_ph 32 (i := 0) rfl rfl (by decide) (by kernel_rfl) (by kernel_rfl) (by kernel_rfl) (fun _ _ _ h => h) (by rfl) (fun w hSw => by (try dsimp only at hSw); go_simp; first | done | with_reducible rfl) hp (fun hp => ?_)
          try simp only [Act.put, List.setIfInBounds_toArray, List.set_cons_zero, List.set_cons_succ]
          refine take_ph 33 (i := 1) rfl rfl (by decide) (by kernel_rfl) (by kernel_rfl) (by kernel_rfl) (fun _ _ _ h => h) (by rfl) (fun w hSw => by (try dsimp only at hSw); go_simp; first | done | with_reducible rfl) hp (fun hp => ?_)
          try simp only [Act.put, List.setIfInBounds_toArray, List.set_cons_zero, List.set_cons_succ]
          refine take_ph 34 (i := 2) rfl rfl (by decide) (by kernel_rfl) (by kernel_rfl) (by kernel_rfl) (fun _ _ _ h => h) (by rfl) (fun w hSw => by (try dsimp only at hSw); go_simp; first | done | with_reducible rfl) hp (fun hp => ?_)
          try simp only [Act.put, List.setIfInBounds_toArray, List.set_cons_zero, List.set_cons_succ]
          refine take_ph 35 (i := 3) rfl rfl (by decide) (by kernel_rfl) (by kernel_rfl) (by kernel_rfl) (fun _ _ _ h => h) (by rfl) (fun w hSw => by (try dsimp only at hSw); go_simp; first | done | with_reducible rfl) hp (fun hp => ?_)
          try simp only [Act.put, List.setIfInBounds_toArray, List.set_cons_zero, List.set_cons_succ]
          refine take_ph 36 (i := 4) rfl rfl (by decide) (by kernel_rfl) (by kernel_rfl) (by kernel_rfl) (fun _ _ _ h => h) (by rfl) (fun w hSw => by (try dsimp only at hSw); go_simp; first | done | with_reducible rfl) hp (fun hp => ?_)
          try simp only [Act.put, List.setIfInBounds_toArray, List.set_cons_zero, List.set_cons_succ]
          refine take_ph 37 (i := 5) rfl rfl (by decide) (by kernel_rfl) (by kernel_rfl) (by kernel_rfl) (fun _ _ _ h => h) (by rfl) (fun w hSw => by (try dsimp only at hSw); go_simp; first | done | with_reducible rfl) hp (fun hp => ?_)
          try simp only [Act.put, List.setIfInBounds_toArray, List.set_cons_zero, List.set_cons_succ]
          refine take_ph 38 (i := 6) rfl rfl (by decide) (by kernel_rfl) (by kernel_rfl) (by kernel_rfl) (fun _ _ _ h => h) (by rfl) (fun w hSw => by (try dsimp only at hSw); go_simp; first | done | with_reducible rfl) hp (fun hp => ?_)
          try simp only [Act.put, List.setIfInBounds_toArray, List.set_cons_zero, List.set_cons_succ]
          refine take_ph 39 (i := 7) rfl rfl (by decide) (by kernel_rfl) (by kernel_rfl) (by kernel_rfl) (fun _ _ _ h => h) (by rfl) (fun w hSw => by (try dsimp only at hSw); go_simp; first | done | with_reducible rfl) hp (fun hp => ?_)
          try simp only [Act.put, List.setIfInBounds_toArray, List.set_cons_zero, List.set_cons_succ]
          refine take_ph 40 (i := 8) rfl rfl (by decide) (by kernel_rfl) (by kernel_rfl) (by kernel_rfl) (fun _ _ _ h => h) (by rfl) (fun w hSw => by (try dsimp only at hSw); go_simp; first | done | with_reducible rfl) hp (fun hp => ?_)
          try simp only [Act.put, List.setIfInBounds_toArray, List.set_cons_zero, List.set_cons_succ]
          refine take_ph 41 (i := 9) rfl rfl (by decide) (by kernel_rfl) (by kernel_rfl) (by kernel_rfl) (fun _ _ _ h => h) (by rfl) (fun w hSw => by (try dsimp only at hSw); go_simp; first | done | with_reducible rfl) hp (fun hp => ?_)
          try simp only [Act.put, List.setIfInBounds_toArray, List.set_cons_zero, List.set_cons_succ]
          refine take_ph 42 (i := 10) rfl rfl (by decide) (by kernel_rfl) (by kernel_rfl) (by kernel_rfl) (fun _ _ _ h => h) (by rfl) (fun w hSw => by (try dsimp only at hSw); go_simp; first | done | with_reducible rfl) hp (fun hp => ?_)
          try simp only [Act.put, List.setIfInBounds_toArray, List.set_cons_zero, List.set_cons_succ]
          refine AnyL.one (i := 11) (by kernel_rfl) rfl (fun K hK => ?_)
          go_simp
          have hb2 := ((Below.refl w1.heap.size w1).drew).alloc (Nat.le_refl _) (.cells #[.int .i64 (-1), .int .i64 j, .int .i64 (IntKind.i64.wrap (j + 1))] 2 (0, 0))
          have hpw : p < w1.heap.size := (Array.getElem?_eq_some_iff.1 hP.out.z).1
          refine hK.out _ _ (ph1 (hb2.cell (p := ⟨p, 4, none⟩) hpw) trivial) (fun hp => ?_)
          clear hK
          try simp only [Act.put, List.setIfInBounds_toArray, List.set_cons_zero, List.set_cons_succ]
          refine AnyL.one (i := 12) (by kernel_rfl) rfl (fun K hK => ?_)
          go_simp
          have hPd := hP.out.up (Below.refl w1.heap.size w1).drew
          refine (src_lit b _ [-1, j, IntKind.i64.wrap (j + 1)] 3 _ w1.drew hPd.sr (by omega) rfl rfl (by simp)).mono ?_
          rintro e w2 ⟨z, rfl, hs2, hm2⟩
          have hP2 := Lib.hid (hPd.on hs2 hm2)
          have q2 : w2.heap[p]? = w1.heap[p]? := hP2.out.z.trans hP.out.z.symm
          refine hK.out _ _ (ph1 (World.cell?_of_block (a := ⟨p, 4, none⟩) q2) trivial) (fun hp => ?_)
          clear hK hs2 hm2 hPd hb2 c4 g0
          try simp only [Act.put, List.setIfInBounds_toArray, List.set_cons_zero, List.set_cons_succ]
          refine take_ph 45 (i := 13) rfl rfl (by decide) (by kernel_rfl) (by kernel_rfl) (by kernel_rfl) (fun _ _ _ h => h) (by rfl) (fun w hSw => by (try dsimp only at hSw); go_simp; first | done | with_reducible rfl) hp (fun hp => ?_)
          try simp only [Act.put, List.setIfInBounds_toArray, List.set_cons_zero, List.set_cons_succ]
          refine take_ph 46 (i := 14) rfl rfl (by decide) (by kernel_rfl) (by kernel_rfl) (by kernel_rfl) (fun _ _ _ h => h) (by rfl) (fun w hSw => by (try dsimp only at hSw); go_simp; first | done | with_reducible rfl) hp (fun hp => ?_)
          try simp only [Act.put, List.setIfInBounds_toArray, List.set_cons_zero, List.set_cons_succ]
          refine AnyL.one (i := 15) (by kernel_rfl) rfl (fun K hK => ?_)
          have c5 := (Lib.cell_of_heap hP2.out.z 5).trans rfl
          have g5 := Lib.frozen_of_heap hP2.out.z 5
          go_simp
          clear c5 g5
          have hP3 := hP2.out.set (i := 5) (u := .int .i64 z) (x' := x) (y' := y) (h' := h) (j' := j) (k' := z) hP2.out.n rfl
          refine hK.out _ _ (ph1 (((Lib.cell_of_heap hP3.z 4).trans rfl).trans ((Lib.cell_of_heap hP.out.z 4).trans rfl).symm) trivial) (fun hp => ?_)
          clear hK
          try simp only [Act.put, List.setIfInBounds_toArray, List.set_cons_zero, List.set_cons_succ]
          refine AnyL.done (by kernel_rfl) ?_ _
          (try simp only [Exit.then])
          clear hp
          go_wp2_with fail
          exact bodyPost_end (v := .tuple #[]) (by simp [results, Tryd.results67, go_sem]) rfl (hP3.out (A' := A + 70) (by omega))
        · have t3 : ((n : Int) == 3) = false := by rw [beq_eq_false_iff_ne]; omega
          by_cases k4 : n = 4
          · have t4 : ((n : Int) == 4) = true := by rw [beq_iff_eq]; omega
            go_wp2_with fail
            refine (draw_Cbent b _ w1 hP.out.sr (by omega)).mono ?_
            rintro e w2 ⟨⟨ta, tl, tc⟩, l', rfl, hsl, hs2, hm2⟩
            have hP2 := Lib.hid (hP.out.on hs2 hm2)
            have hP3 := Lib.hid (hP2.out.setC hsl ((Array.getElem?_eq_some_iff.1 hP.out.z).1) (Nat.le_refl _))
            clear hs2 hm2 hP hsl
            have c0 := (Lib.cell_of_heap hP2.out.z 0).trans rfl
            have c1 := (Lib.cell_of_heap hP2.out.z 1).trans rfl
            have c2 := (Lib.cell_of_heap hP2.out.z 2).trans rfl
            have c3 := (Lib.cell_of_heap hP2.out.z 3).trans rfl
            have c4 := (Lib.cell_of_heap hP2.out.z 4).trans rfl
            have c5 := (Lib.cell_of_heap hP2.out.z 5).trans rfl
            have c6 := (Lib.cell_of_heap hP2.out.z 6).trans rfl
            have g0 := fun j => Lib.frozen_of_heap hP2.out.z j
            simp only [SV.v] at *
            go_wp2
            exact bodyPost_end (v := .tuple #[]) (by simp [results, Tryd.results67, go_sem]) rfl (hP3.out.out (A' := A + 70) (by omega))
          · have t4 : ((n : Int) == 4) = false := by rw [beq_eq_false_iff_ne]; omega
            by_cases k5 : n = 5
            · have t5 : ((n : Int) == 5) = true := by rw [beq_iff_eq]; omega
              go_wp2_with fail
              refine (draw_PtB b _ w1 hP.out.sr (by omega)).mono ?_
              rintro e w2 ⟨x', y', rfl, hs2, hm2⟩
              have hP2 := Lib.hid (hP.out.on hs2 hm2)
              clear hs2 hm2 hP
              have c0 := (Lib.cell_of_heap hP2.out.z 0).trans rfl
              have c1 := (Lib.cell_of_heap hP2.out.z 1).trans rfl
              have c2 := (Lib.cell_of_heap hP2.out.z 2).trans rfl
              have c3 := (Lib.cell_of_heap hP2.out.z 3).trans rfl
              have c4 := (Lib.cell_of_heap hP2.out.z 4).trans rfl
              have c5 := (Lib.cell_of_heap hP2.out.z 5).trans rfl
              have c6 := (Lib.cell_of_heap hP2.out.z 6).trans rfl
              have g0 := fun j => Lib.frozen_of_heap hP2.out.z j
              go_wp2
              exact bodyPost_end (v := .tuple #[]) (by simp [results, Tryd.results67, go_sem]) rfl (((hP2.out.set (i := 1) (x' := x') (y' := y) (h' := h) (j' := j) (k' := k) hP2.out.n rfl).set (i := 2) (x' := x') (y' := y') (h' := h) (j' := j) (k' := k) hP2.out.n rfl).out (A' := A + 70) (by omega))
            · have t5 : ((n : Int) == 5) = false := by rw [beq_eq_false_iff_ne]; omega
              go_wp2_with fail
              exact bodyPost_end (v := .tuple #[]) (by simp [results, Tryd.results67, go_sem]) rfl (hP.out.out (A' := A + 70) (by omega))
end
/-- A crane that has been drawn: only its shape is told. -/
def CrOut (b A : Nat) (w : World) (e : Ending) (w' : World) : Prop := ∃ (f : CraneF) (s : SV) (l : List Chs), e = .returned (.agg (CraneR.cells ⟨f, s⟩).toArray) ∧ f.name.size ≤ maxLen ∧ Chss w.heap.size w'.heap.size w' s.v l ∧ Src b A w' ∧ Mod b (b + 1) w w'
set_option maxRecDepth 100000 in
set_option maxHeartbeats 4000000 in
theorem draw_One (b A : Nat) (w : World) (h : Src b A w) (hA : A ≤ 30000) : Calls Tryd.prog 44 #[.pointer (some ⟨b, 0, none⟩)] w (CrOut b (A + 130) w) := by
  have ho := Lib.hid (fun A w' h hA n hn => src_one b A n w' h hA hn)
  have hbl := Lib.hid h.lt
  have hb0 := (Below.refl w.heap.size w).alloc (Nat.le_refl _) (.cells #[.string ByteArray.empty, .int .i64 0, .int .i64 0, .int .i64 0, .int .i64 0, .int .i64 0, .slice none 0 0] 41 (0, 0))
  have hX0 := Lib.hid (blkN_new w (.cells #[.string ByteArray.empty, .int .i64 0, .int .i64 0, .int .i64 0, .int .i64 0, .int .i64 0, .slice none 0 0] 41 (0, 0)))
  have hS := Lib.hid (h.below hb0)
  have hM := Lib.hid (Mod.of_below (lo := b) (hi := b + 1) hb0)
  have hz0 : (w.alloc (.cells #[.string ByteArray.empty, .int .i64 0, .int .i64 0, .int .i64 0, .int .i64 0, .int .i64 0, .slice none 0 0] 41 (0, 0))).heap.size = w.heap.size + 1 := by simp
  clear h hb0
  go_enter Tryd.func44, Tryd.ntmps44
  go_wp2_with fail
  obtain ⟨q, hq⟩ : ∃ q, w.heap.size = q := ⟨_, rfl⟩
  have Hq := Lib.hid hq
  rw [hq] at hX0 hz0 hbl ⊢
  clear hq
  obtain ⟨nm0, hnm⟩ : ∃ nm0 : ByteArray, nm0 = ⟨#[110, 101, 119]⟩ := ⟨_, rfl⟩
  have hnz : nm0.size ≤ maxLen := by rw [hnm]; unfold maxLen; decide
  rw [← hnm]
  clear hnm
  refine (draw_CraneV b A nm0 (w.alloc (.cells #[.string ByteArray.empty, .int .i64 0, .int .i64 0, .int .i64 0, .int .i64 0, .int .i64 0, .slice none 0 0] 41 (0, 0))) hS.out (by omega)).mono ?_
  rintro e w2 ⟨x, y, h, j, k, v, l, rfl, -, -, -, -, -, hsl, -, -, -, hs2, hm2⟩
  obtain ⟨sa, sl, sc, rfl⟩ : ∃ sa sl sc, v = .slice sa sl sc := by obtain ⟨⟨a, cap, hv, _⟩, _⟩ := hsl; exact ⟨a, _, cap, hv⟩
  have hb3 := (Below.refl w2.heap.size w2).alloc (Nat.le_refl _) (.cells #[.string nm0, .int .i64 x, .int .i64 y, .int .i64 h, .int .i64 j, .int .i64 k, (.slice sa sl sc)] 41 (0, 0))
  have hX2 := blk_modV hX0.out hm2 hbl.out
  have hz2 := (Array.getElem?_eq_some_iff.1 hX2).1
  have hP := Lib.hid (show CB b (A + 50) w2.heap.size q w nm0 x y h j k ⟨sa, sl, sc⟩ l (w2.alloc (.cells #[.string nm0, .int .i64 x, .int .i64 y, .int .i64 h, .int .i64 j, .int .i64 k, (.slice sa sl sc)] 41 (0, 0))) from
    ⟨hs2.below hb3, (hM.out.trans hm2).then hb3, blkN_below hb3 hX2, blkN_new _ _, ⟨(w.alloc (.cells #[.string ByteArray.empty, .int .i64 0, .int .i64 0, .int .i64 0, .int .i64 0, .int .i64 0, .slice none 0 0] 41 (0, 0))).heap.size, w2.heap.size, by omega, .inl (Nat.le_refl _), by simp, hsl.1.ext hb3⟩, ⟨by rw [Hq.out]; exact hbl.out, Nat.le_of_eq Hq.out, hz2⟩, hnz⟩)
  clear hsl hs2 hm2 hb3 hX2 hX0 hS hM
  go_wp2_with fail
  generalize w2.alloc (.cells #[.string nm0, .int .i64 x, .int .i64 y, .int .i64 h, .int .i64 j, .int .i64 k, (.slice sa sl sc)] 41 (0, 0)) = w3 at *
  obtain ⟨p, hpe⟩ : ∃ p, w2.heap.size = p := ⟨_, rfl⟩
  rw [hpe] at hP hz2 ⊢
  clear hpe
  refine (ho.out _ _ hP.out.sr (by omega) 5 (by omega)).mono ?_
  rintro e w4 ⟨c, rfl, hs4, hm4⟩
  have hP4 := Lib.hid (hP.out.on hs4 hm4)
  clear hs4 hm4 hP
  cases c
  · have c0 := (Lib.cell_of_heap hP4.out.z 0).trans rfl
    have c1 := (Lib.cell_of_heap hP4.out.z 1).trans rfl
    have c2 := (Lib.cell_of_heap hP4.out.z 2).trans rfl
    have c3 := (Lib.cell_of_heap hP4.out.z 3).trans rfl
    have c4 := (Lib.cell_of_heap hP4.out.z 4).trans rfl
    have c5 := (Lib.cell_of_heap hP4.out.z 5).trans rfl
    have c6 := (Lib.cell_of_heap hP4.out.z 6).trans rfl
    have g0 := fun j => Lib.frozen_of_heap hP4.out.z j
    have r0 := (Lib.cell_of_heap hP4.out.r 0).trans rfl
    have r1 := (Lib.cell_of_heap hP4.out.r 1).trans rfl
    have r2 := (Lib.cell_of_heap hP4.out.r 2).trans rfl
    have r3 := (Lib.cell_of_heap hP4.out.r 3).trans rfl
    have r4 := (Lib.cell_of_heap hP4.out.r 4).trans rfl
    have r5 := (Lib.cell_of_heap hP4.out.r 5).trans rfl
    have r6 := (Lib.cell_of_heap hP4.out.r 6).trans rfl
    have f0 := fun j => Lib.frozen_of_heap hP4.out.r j
    simp only [SV.v] at c6
    have hD := Lib.hid hP4.out.fin
    simp only [SV.v] at hD
    go_wp2_with fail
    exact bodyPost_ret (v := .agg #[.string nm0, .int .i64 x, .int .i64 y, .int .i64 h, .int .i64 j, .int .i64 k, .slice sa sl sc]) (by simp [results, Tryd.results44, go_sem, r0, r1, r2, r3, r4, r5, r6]) rfl ⟨⟨nm0, x, y, h, j, k⟩, ⟨sa, sl, sc⟩, l, rfl, hP4.out.n, hD.out.1, hD.out.2.1.mono (by omega), hD.out.2.2⟩
  · go_wp2_with fail
    refine (draw_Spoil hP4.out (by omega)).mono ?_
    rintro e w5 ⟨rfl, nm', x', y', h', j', k', ⟨ta, tl, tc⟩, l', hP5⟩
    have hP5 := Lib.hid hP5
    clear hP4
    have c0 := (Lib.cell_of_heap hP5.out.z 0).trans rfl
    have c1 := (Lib.cell_of_heap hP5.out.z 1).trans rfl
    have c2 := (Lib.cell_of_heap hP5.out.z 2).trans rfl
    have c3 := (Lib.cell_of_heap hP5.out.z 3).trans rfl
    have c4 := (Lib.cell_of_heap hP5.out.z 4).trans rfl
    have c5 := (Lib.cell_of_heap hP5.out.z 5).trans rfl
    have c6 := (Lib.cell_of_heap hP5.out.z 6).trans rfl
    have g0 := fun j => Lib.frozen_of_heap hP5.out.z j
    have r0 := (Lib.cell_of_heap hP5.out.r 0).trans rfl
    have r1 := (Lib.cell_of_heap hP5.out.r 1).trans rfl
    have r2 := (Lib.cell_of_heap hP5.out.r 2).trans rfl
    have r3 := (Lib.cell_of_heap hP5.out.r 3).trans rfl
    have r4 := (Lib.cell_of_heap hP5.out.r 4).trans rfl
    have r5 := (Lib.cell_of_heap hP5.out.r 5).trans rfl
    have r6 := (Lib.cell_of_heap hP5.out.r 6).trans rfl
    have f0 := fun j => Lib.frozen_of_heap hP5.out.r j
    simp only [SV.v] at c6
    have hD := Lib.hid hP5.out.fin
    simp only [SV.v] at hD
    go_wp2_with fail
    exact bodyPost_ret (v := .agg #[.string nm', .int .i64 x', .int .i64 y', .int .i64 h', .int .i64 j', .int .i64 k', .slice ta tl tc]) (by simp [results, Tryd.results44, go_sem, r0, r1, r2, r3, r4, r5, r6]) rfl ⟨⟨nm', x', y', h', j', k'⟩, ⟨ta, tl, tc⟩, l', rfl, hP5.out.n, hD.out.1, hD.out.2.1.mono (by omega), hD.out.2.2⟩
end Go.Proofs.YtpabbehpkokhbaaDoor
