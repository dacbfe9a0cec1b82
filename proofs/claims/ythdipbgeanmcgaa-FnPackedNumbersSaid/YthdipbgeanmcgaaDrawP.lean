/- The draws of PackNumber, UnpackNumber and ReadHex. -/
import Derived.Test.YthdipbgeanmcgaaSrc
import Derived.Test.YthdipbgeanmcgaaPut
import Derived.Test.YthdipbgeanmcgaaHex
namespace Go.Proofs.Ythdipbgeanmcgaa
open Go.RowKit

set_option maxHeartbeats 2000000 in
theorem draw_PackNumber (v : Value) (l : List UInt8) (hi : Nat) (w : World) (h : Sl 1 byteC 0 hi w v l) (hhi : hi ≤ w.heap.size) (hl : l.length ≤ 1048576) : Calls Try.prog 20 #[v] w fun e w' => (∃ n : Int, e = .returned (.int .i64 n)) ∧ Below w.heap.size w w' := by
  have hf := Lib.hid (src_from v l hi w h hhi hl)
  have hp := Lib.hid (fun A w' h hA n hn => src_pick w.heap.size A n w' h hA hn)
  obtain ⟨a, cap, rfl, _⟩ := h
  go_enter Try.func20, Try.ntmps20
  go_wp2_with fail
  refine hf.out.mono ?_
  rintro e w1 ⟨rfl, hs1, hb1⟩
  have ho := Lib.hid (src_one w.heap.size 0 4 w1 hs1 (by omega) (by omega))
  have Hs1 := Lib.hid hs1
  clear hs1
  go_wp2_with fail
  refine ho.out.mono ?_
  rintro e w2 ⟨x, rfl, hs2, hm2⟩
  have Hs2 := Lib.hid hs2
  have hb2 := hb1.trans (hm2.below (Nat.le_refl _) hb1.size)
  clear hs2 hm2
  cases x with
  | true =>
    go_wp2_with fail
    have hb3 := hb2.alloc hb2.size (.cells #[.int .i64 (-1000000000001), .int .i64 (-1000000000000), .int .i64 1000000000000, .int .i64 1000000000001, .int .i64 (-64), .int .i64 (-65), .int .i64 63, .int .i64 64, .int .i64 (-9223372036854775808), .int .i64 9223372036854775807] 2)
    refine (src_among w.heap.size 2 _ [-1000000000001, -1000000000000, 1000000000000, 1000000000001, -64, -65, 63, 64, -9223372036854775808, 9223372036854775807] _ _ _ (Hs2.out.below ((Below.refl _ _).alloc (Nat.le_refl _) _)) (by omega) (by simp) (sl_lit intCells_len _ w2 2 rfl rfl (by simp)) (.inr (Hs2.out.lt)) (by simp)).mono ?_
    rintro e w3 ⟨x, _, rfl, hs3, hm3⟩
    have hb4 := hb3.trans (hm3.below (Nat.le_refl _) hb3.size)
    clear hs3 hm3
    go_wp2
    go_ret
    exact ⟨⟨_, rfl⟩, hb4⟩
  | false =>
    go_wp2_with fail
    refine (hp.out _ _ Hs2.out (by omega) _ (by omega)).mono ?_
    rintro e w3 ⟨x, rfl, ⟨hx, hx2⟩, hs3, hm3⟩
    have Hs3 := Lib.hid hs3
    have hb3 := hb2.trans (hm3.below (Nat.le_refl _) hb2.size)
    clear hs3 hm3
    go_wp2_with fail
    refine (hp.out _ _ Hs3.out (by omega) _ (by omega)).mono ?_
    rintro e w4 ⟨y, rfl, ⟨hy, hy2⟩, hs4, hm4⟩
    have Hs4 := Lib.hid hs4
    have hb4 := hb3.trans (hm4.below (Nat.le_refl _) hb3.size)
    clear hs4 hm4
    go_wp2_with fail
    refine (hp.out _ _ Hs4.out (by omega) _ (by omega)).mono ?_
    rintro e w5 ⟨z, rfl, ⟨hz, hz2⟩, hs5, hm5⟩
    have hb5 := hb4.trans (hm5.below (Nat.le_refl _) hb4.size)
    clear hs5 hm5
    go_wp2
    go_ret
    exact ⟨⟨_, rfl⟩, hb5⟩

theorem draw_val (x y z : Nat) (hx : x < 4000) (hy : y < 2) (hz : z < 100000) : Fit (wrap64 (((x : Int) - 2000) * wrap64 (1 + wrap64 ((y : Int) * z)))) := by
  have hw : wrap64 ((y : Int) * z) = ((y * z : Nat) : Int) ∧ y * z < 100000 := by
    obtain rfl | rfl : y = 0 ∨ y = 1 := by omega
    · simp [wrap64]
    · simp [wrap64]; omega
  rw [hw.1]
  generalize y * z = q at *
  have hq := hw.2
  rw [show wrap64 (1 + (q : Int)) = 1 + q by unfold wrap64; omega]
  have h1 : ((x : Int) - 2000) * (1 + q) ≤ 2000 * (1 + q) := Int.mul_le_mul_of_nonneg_right (by omega) (by omega)
  have h2 : (-2000 : Int) * (1 + q) ≤ ((x : Int) - 2000) * (1 + q) := Int.mul_le_mul_of_nonneg_right (by omega) (by omega)
  generalize ((x : Int) - 2000) * (1 + q) = t at *
  unfold Fit wrap64
  omega
theorem putB_pos (n : Nat) : 0 < (putB n).length := by
  by_cases h : n < 128
  · rw [putB_lt h]; simp
  · rw [putB_ge h]; simp

/-- Some bytes as a string, of length m at most. -/
def Text (m : Nat) (w : World) (e : Ending) (w' : World) : Prop := (∃ l : List UInt8, l.length ≤ m ∧ e = .returned (.string ⟨l.toArray⟩)) ∧ Below w.heap.size w w'
theorem byte_of {x : Nat} (h : x < 256) : (UInt8.ofNat x).toNat = x := by rw [UInt8.toNat_ofNat']; omega

set_option maxRecDepth 100000 in
set_option maxHeartbeats 8000000 in
theorem draw_UnpackNumber (v : Value) (l : List UInt8) (hi : Nat) (w : World) (h : Sl 1 byteC 0 hi w v l) (hhi : hi ≤ w.heap.size) (hl : l.length ≤ 1048576) : Calls Try.prog 21 #[v] w (Text 16 w) := by
  have hf := Lib.hid (src_from v l hi w h hhi hl)
  have hp := Lib.hid (fun A w' h hA n hn => src_pick w.heap.size A n w' h hA hn)
  have hput := Lib.hid (fun v n w' h1 h2 hn => spec_Put v [] (w.heap.size + 1) n w' h1 (by simp) h2 hn)
  obtain ⟨a, cap, rfl, _⟩ := h
  go_enter Try.func21, Try.ntmps21
  go_wp2_with fail
  refine hf.out.mono ?_
  rintro e w1 ⟨rfl, hs1, hb1⟩
  have Hs1 := Lib.hid hs1
  clear hs1
  go_wp2_with fail
  refine (hp.out _ _ Hs1.out (by omega) _ (by omega)).mono ?_
  rintro e w2 ⟨x, rfl, ⟨_, hxn⟩, hs2, hm2⟩
  have hx := Lib.hid (show x < 4000 by omega)
  clear hxn
  have Hs2 := Lib.hid hs2
  have hb2 := hb1.trans (hm2.below (Nat.le_refl _) hb1.size)
  have Hm2 := Lib.hid hm2
  clear hs2 hm2
  have hown := Lib.hid (own_empty (c := byteC) (n := 1) w2 5 (w.heap.size + 1) Hs2.out.lt)
  have Hs3 := Lib.hid (Hs2.out.below ((Below.refl _ w2).alloc (Nat.le_refl _) (.cells #[] 5)))
  have hb3 := hb2.alloc hb2.size (.cells #[] 5)
  go_wp2_with fail
  refine (hp.out _ _ Hs3.out (by omega) _ (by omega)).mono ?_
  rintro e w4 ⟨y, rfl, ⟨_, hyn⟩, hs4, hm4⟩
  have hy := Lib.hid (show y < 2 by omega)
  clear hyn
  have Hs4 := Lib.hid hs4
  have hb4 := hb3.trans (hm4.below (Nat.le_refl _) hb3.size)
  have Hm4 := Lib.hid hm4
  clear hs4 hm4
  go_wp2_with fail
  refine (hp.out _ _ Hs4.out (by omega) _ (by omega)).mono ?_
  rintro e w5 ⟨z, rfl, ⟨_, hzn⟩, hs5, hm5⟩
  have hz := Lib.hid (show z < 100000 by omega)
  clear hzn
  have Hs5 := Lib.hid hs5
  have hb5 := hb4.trans (hm5.below (Nat.le_refl _) hb4.size)
  have Hm5 := Lib.hid hm5
  clear hs5 hm5
  have hfit := Lib.hid (draw_val x y z hx.out hy.out hz.out)
  go_wp2_with fail
  refine (hput.out _ _ _ ((hown.out.mod Hm4.out (Nat.le_refl _)).mod Hm5.out (Nat.le_refl _)) (by have := Hs5.out.lt; omega) hfit.out).mono ?_
  rintro e w6 ⟨v', rfl, hown6, hB6⟩
  have hlen := putB_sgn hfit.out
  have hpos := putB_pos (sgn (wrap64 (((x : Int) - 2000) * wrap64 (1 + wrap64 ((y : Int) * z)))))
  have Hs6 := Lib.hid (Hs5.out.lo hB6 (Nat.le_refl _))
  have hb6 := hb5.trans (hB6.mono (by omega))
  rw [List.nil_append] at hown6
  generalize putB (sgn (wrap64 (((x : Int) - 2000) * wrap64 (1 + wrap64 ((y : Int) * z))))) = L at *
  have Hown6 := Lib.hid hown6
  clear hown6 hB6
  go_wp2_with fail
  refine (hp.out _ _ Hs6.out (by omega) _ (by omega)).mono ?_
  rintro e w7 ⟨k, rfl, ⟨_, hkn⟩, hs7, hm7⟩
  have hk := Lib.hid (show k < 8 by omega)
  clear hkn
  have Hs7 := Lib.hid hs7
  have hb7 := hb6.trans (hm7.below (Nat.le_refl _) hb6.size)
  have Hm7 := Lib.hid hm7
  clear hs7 hm7
  have Hown7 := Lib.hid (Hown6.out.mod Hm7.out (Nat.le_refl _))
  obtain rfl | rfl | rfl | rfl | rfl | hk5 : k = 0 ∨ k = 1 ∨ k = 2 ∨ k = 3 ∨ k = 4 ∨ 5 ≤ k := by have := hk.out; omega
  · obtain ⟨g, cap, hv, hgl⟩ : ∃ g cap, v' = .slice (some ⟨g, 0, none⟩) L.length cap ∧ w.heap.size ≤ g := by
      obtain ⟨_, h | ⟨g, cap, cur, h, hlo, _⟩⟩ := Hown7.out
      · omega
      · exact ⟨g, cap, h, by omega⟩
    subst hv
    go_wp2_with fail
    refine (hp.out _ _ Hs7.out (by omega) _ (by omega)).mono ?_
    rintro e w8 ⟨i, rfl, ⟨_, hin⟩, hs8, hm8⟩
    have hi := Lib.hid (show i < L.length by omega)
    clear hin
    have Hs8 := Lib.hid hs8
    have hb8 := hb7.trans (hm8.below (Nat.le_refl _) hb7.size)
    have Hm8 := Lib.hid hm8
    clear hs8 hm8
    go_wp2_with fail
    refine (hp.out _ _ Hs8.out (by omega) _ (by omega)).mono ?_
    rintro e w9 ⟨c, rfl, ⟨_, hcn⟩, hs9, hm9⟩
    have hc := Lib.hid (show c < 256 by omega)
    clear hcn
    have Hs9 := Lib.hid hs9
    have hb9 := hb8.trans (hm9.below (Nat.le_refl _) hb8.size)
    have Hm9 := Lib.hid hm9
    clear hs9 hm9
    have hsl := (((Hown7.out.mod Hm8.out (Nat.le_refl _)).mod Hm9.out (Nat.le_refl _))).slw byteC_len
    have hiv := hi.out
    have hcu : IntKind.u8.wrap (c : Int) = c := IntWalk.u8_in _ (by have := hc.out; omega)
    have f0 : w9.frozen? ⟨g, i, none⟩ = false := by
      obtain ⟨_, h | ⟨g', cap', cur, h, _, hg, _⟩⟩ := (Hown7.out.mod Hm8.out (Nat.le_refl _)).mod Hm9.out (Nat.le_refl _)
      · omega
      · cases h; exact Lib.frozen_of_heap hg i
    have c0 : w9.cell? ⟨g, i, none⟩ = some (.int .u8 L[i].toNat) := by simpa using hsl.1.at1 hiv
    have hst := hsl.store1 byteC_len hiv (j := 0) (by omega) (u := .int .u8 c) (x := UInt8.ofNat c) (by simp [byteC, byte_of hc.out]) (o := i) (by omega)
    have hcv := bytes_strS hst.1
    have hb10 := hb9.setCell (p := ⟨g, i, none⟩) hgl (.int .u8 c)
    clear hst hsl
    generalize L[i] = q at *
    go_wp2
    go_ret
    exact ⟨⟨L.set i (UInt8.ofNat c), by rw [List.length_set]; omega, rfl⟩, hb10⟩
  · go_wp2_with fail
    refine (hp.out _ _ Hs7.out (by omega) _ (by omega)).mono ?_
    rintro e w8 ⟨c, rfl, ⟨_, hcn⟩, hs8, hm8⟩
    have hc := Lib.hid (show c < 3 by omega)
    clear hcn
    have Hs8 := Lib.hid hs8
    have hb8 := hb7.trans (hm8.below (Nat.le_refl _) hb7.size)
    have Hm8 := Lib.hid hm8
    clear hs8 hm8
    have Hown8 := Lib.hid (Hown7.out.mod Hm8.out (Nat.le_refl _))
    have hcu : IntKind.u8.wrap (c : Int) = c := IntWalk.u8_in _ (by have := hc.out; omega)
    go_wp2_with (at_builtin; refine wpList_app1 (c := byteC) (bytes := 1) rfl _ _ 32 5 rfl Try.underlying32 info_uint8 (by omega) byteC_len byteC_one (w.heap.size + 1) L (UInt8.ofNat c) _ rfl w8 ?hw Hown8.out rfl (by omega) (by omega) (by have := Hs8.out.lt; omega) ?_)
    case hw => simp [byteC, byte_of (show c < 256 by have := hc.out; omega)]
    intro v'' w9 hown9 hg9
    have hb9 := Hown8.out.app hb8 (by omega) hb8.size hg9
    have hcv := bytes_str hown9
    clear hown9 hg9
    go_wp2
    go_ret
    exact ⟨⟨_, by rw [List.length_append]; simp; omega, rfl⟩, hb9⟩
  · obtain ⟨g, cap, hv, hgl⟩ : ∃ g cap, v' = .slice (some ⟨g, 0, none⟩) L.length cap ∧ w.heap.size ≤ g := by
      obtain ⟨_, h | ⟨g, cap, cur, h, hlo, _⟩⟩ := Hown7.out
      · omega
      · exact ⟨g, cap, h, by omega⟩
    subst hv
    have hsl := (Hown7.out.slw byteC_len).1
    have hcap := (by obtain ⟨_, _, h, h2, _⟩ := hsl; cases h; exact h2 : L.length ≤ cap ∧ cap ≤ 9223372036854775807)
    have hcv := bytes_strS (hsl.take (k := L.length - 1) (by omega))
    have hll : ∃ m, L.length = m + 1 := ⟨L.length - 1, by omega⟩
    obtain ⟨m, hm⟩ := hll
    have htk : (L.take (L.length - 1)).length ≤ 16 := by rw [List.length_take]; omega
    rw [hm] at hcv htk
    generalize L.take (m + 1 - 1) = LT at *
    simp only [Nat.add_sub_cancel] at hcv
    clear hsl
    go_wp2
    go_ret
    exact ⟨⟨_, htk, rfl⟩, hb7⟩
  · go_wp2_with fail
    refine (hp.out _ _ Hs7.out (by omega) _ (by omega)).mono ?_
    rintro e w8 ⟨c, rfl, ⟨_, hcn⟩, hs8, hm8⟩
    have hc := Lib.hid (show c < 256 by omega)
    clear hcn
    have Hs8 := Lib.hid hs8
    have hb8 := hb7.trans (hm8.below (Nat.le_refl _) hb7.size)
    have Hm8 := Lib.hid hm8
    clear hs8 hm8
    have hcu : IntKind.u8.wrap (c : Int) = c := IntWalk.u8_in _ (by have := hc.out; omega)
    have hb9 := hb8.alloc hb8.size (.cells #[.int .u8 255, .int .u8 255, .int .u8 255, .int .u8 255, .int .u8 255, .int .u8 255, .int .u8 c] 5)
    have hcv := bytes_strS (sl_lit byteC_len [255, 255, 255, 255, 255, 255, UInt8.ofNat c] w8 5 (cs := #[.int .u8 255, .int .u8 255, .int .u8 255, .int .u8 255, .int .u8 255, .int .u8 255, .int .u8 c]) (by simp [byteC, byte_of hc.out]) (m := 7) rfl (by simp))
    go_wp2
    go_ret
    exact ⟨⟨_, by simp, rfl⟩, hb9⟩
  · have hfit2 : ∀ q ∈ ([1000000000000, 1000000000001, -1000000000001] : List Int), Fit q := by intro q hq; simp at hq; unfold Fit; omega
    have Hfit2 := Lib.hid hfit2
    have Hown8 := Lib.hid (own_empty (c := byteC) (n := 1) w7 5 (w.heap.size + 1) Hs7.out.lt)
    have hb9 := (hb7.alloc hb7.size (.cells #[] 5)).alloc (by have := hb7.size; simp; omega) (.cells #[.int .i64 1000000000000, .int .i64 1000000000001, .int .i64 (-1000000000001)] 2)
    have Hs9 := Lib.hid ((Hs7.out.below ((Below.refl _ w7).alloc (Nat.le_refl _) (.cells #[] 5))).below ((Below.refl _ _).alloc (Nat.le_refl _) (.cells #[.int .i64 1000000000000, .int .i64 1000000000001, .int .i64 (-1000000000001)] 2)))
    have hal := (src_among w.heap.size _ _ [1000000000000, 1000000000001, -1000000000001] _ _ _ Hs9.out (by omega) (by simp) (sl_lit intCells_len _ (w7.alloc (.cells #[] 5)) 2 (cs := #[.int .i64 1000000000000, .int .i64 1000000000001, .int .i64 (-1000000000001)]) rfl (m := 3) rfl (by simp)) (.inr (by have := Hs7.out.lt; simp; omega)) (by simp))
    rw [show (w7.alloc (.cells #[] 5)).heap.size = w7.heap.size + 1 by simp] at hal
    have hal := Lib.hid hal
    have Hown9 := Lib.hid (Hown8.out.alloc (.cells #[.int .i64 1000000000000, .int .i64 1000000000001, .int .i64 (-1000000000001)] 2))
    clear hfit2
    go_wp2_with fail
    refine hal.out.mono ?_
    rintro e w10 ⟨q, hq, rfl, hs10, hm10⟩
    have hb10 := hb9.trans (hm10.below (Nat.le_refl _) hb9.size)
    have hfq := Lib.hid (Hfit2.out q hq)
    have Hown10 := Lib.hid (Hown9.out.mod hm10 (Nat.le_refl _))
    have hlt10 := hs10.lt
    clear hs10 hm10 hq
    go_wp2_with fail
    refine (hput.out _ _ _ Hown10.out (by omega) hfq.out).mono ?_
    rintro e w11 ⟨v'', rfl, hown11, hB11⟩
    have hlen := putB_sgn hfq.out
    rw [List.nil_append] at hown11
    have hb11 := hb10.trans (hB11.mono (by omega))
    have hcv := bytes_str hown11
    clear hown11 hB11
    generalize putB (sgn q) = LQ at *
    go_wp2
    go_ret
    exact ⟨⟨LQ, by omega, rfl⟩, hb11⟩
  · have hcv := bytes_str Hown7.out
    have k0 : ((k : Int) == 0) = false := by simp; omega
    have k1 : ((k : Int) == 1) = false := by simp; omega
    have k2 : ((k : Int) == 2) = false := by simp; omega
    have k3 : ((k : Int) == 3) = false := by simp; omega
    have k4 : ((k : Int) == 4) = false := by simp; omega
    clear hk5
    go_wp2
    go_ret
    exact ⟨⟨L, by omega, rfl⟩, hb7⟩
end Go.Proofs.Ythdipbgeanmcgaa
