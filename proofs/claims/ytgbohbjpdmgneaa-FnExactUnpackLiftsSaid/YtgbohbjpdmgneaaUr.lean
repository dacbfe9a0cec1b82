/- The program's reader, by what it reads when the bytes are those of a packed thing. -/
import Derived.Test.YtgbohbjpdmgneaaUnpN
import Derived.Test.YtgbohbjpdmgneaaPk1
import Derived.Test.YtgbohbjpdmgneaaBasic
import Derived.Test.YtgbohbjpdmgneaaPh
import Derived.Test.YtgbohbjpdmgneaaNX
import Derived.Test.YtgbohbjpdmgneaaPlS
namespace Go.Proofs.Ytgbohbjpdmgneaa
open Go.RowKit
/-- Numbers whose packed form has at most seven bytes. -/
def F49 (m : Int) : Prop := sgn m < 562949953421312
theorem f49_small {m : Int} (h : -1000000 ≤ m) (h2 : m ≤ 1000000) : F49 m := by unfold F49 sgn; split <;> omega
theorem dec_of_put {m : Int} (h : F49 m) (r : List UInt8) : ∃ c, dec 7 (putN m ++ r) = some (sgn m, r, c) := by
  obtain ⟨c, h1, _⟩ := dec_put 6 (sgn m) r (by unfold F49 at h; exact h)
  exact ⟨c, h1⟩
/-- The world's share of a reading: the reader's block alone. -/
def NumI (b : Nat) (l : List UInt8) (bad : Bool) (w : World) (e : Ending) (w' : World) : Prop :=
  ∃ (n : Int) (r : List UInt8) (bad' : Bool), e = .returned (.int .i64 n) ∧ Fit n ∧ Un b r bad' w' ∧ r.length ≤ 1048576 ∧ (∀ m r0, F49 m → l = putN m ++ r0 → n = m ∧ r = r0 ∧ bad' = bad) ∧ Mod b (b + 1) w w'
theorem impl_numR (b : Nat) (l : List UInt8) (bad : Bool) (w : World) (h : Un b l bad w) (hl : l.length ≤ 1048576) : Calls Try.prog 164 #[.pointer (some ⟨b, 0, none⟩)] w (NumI b l bad w) := by
  refine (impl_num b l bad w h hl).mono ?_
  rintro e w' ⟨h1, h2, hm⟩
  cases hd : dec 7 l with
  | none =>
    obtain ⟨n, r, rfl, hf, hr, hu⟩ := h2 hd
    refine ⟨n, r, true, rfl, hf, hu, hr, fun m r0 hm49 he => ?_, hm⟩
    obtain ⟨c, h3⟩ := dec_of_put hm49 r0
    rw [← he, hd] at h3; cases h3
  | some x =>
    obtain ⟨v, r, c⟩ := x
    obtain ⟨rfl, hu⟩ := h1 v r c hd
    obtain ⟨p, hp, _, _⟩ := dec_rest 7 l v r c hd
    have hvl := dec_lt 7 l v r c hd
    refine ⟨plain v, r, bad, rfl, plain_fit (Nat.lt_of_lt_of_le hvl (by decide)), hu, by rw [hp, List.length_append] at hl; omega, fun m r0 hm49 he => ?_, hm⟩
    obtain ⟨c', h3⟩ := dec_of_put hm49 r0
    rw [← he, hd] at h3
    simp only [Option.some.injEq, Prod.mk.injEq] at h3
    obtain ⟨rfl, rfl, _⟩ := h3
    exact ⟨plain_sgn m, rfl, rfl⟩
def CntI (b : Nat) (most : Int) (l : List UInt8) (bad : Bool) (w : World) (e : Ending) (w' : World) : Prop :=
  ∃ (n : Nat) (r : List UInt8) (bad' : Bool), e = .returned (.int .i64 n) ∧ (n : Int) ≤ most ∧ Un b r bad' w' ∧ r.length ≤ 1048576 ∧ (∀ (m : Nat) r0, (m : Int) ≤ most → F49 m → l = putN m ++ r0 → n = m ∧ r = r0 ∧ bad' = bad) ∧ Mod b (b + 1) w w'
set_option maxHeartbeats 1000000 in
theorem impl_cntR (b : Nat) (most : Int) (l : List UInt8) (bad : Bool) (w : World) (h : Un b l bad w) (hl : l.length ≤ 1048576) (hm0 : 0 ≤ most) : Calls Try.prog 115 #[.pointer (some ⟨b, 0, none⟩), .int .i64 most] w (CntI b most l bad w) := by
  have hN := Lib.hid (impl_numR b l bad w h hl)
  clear h
  go_enter Try.func115, Try.ntmps115
  go_wp2_with fail
  refine hN.out.mono ?_
  rintro e w1 ⟨n, r, bad', rfl, hf, hu, hr, hc, hm⟩
  have Hc := Lib.hid hc
  have Hu := Lib.hid hu
  have c1 := hu.c1
  have f1 := hu.f 1
  clear hc hu
  by_cases hin : 0 ≤ n ∧ n ≤ most
  · obtain ⟨h1, h2⟩ := hin
    go_wp2_with (go_at_call 125; first | (refine (impl_within_t _ _ _ _ (by omega) (by omega)).mono ?_; rintro e w' ⟨rfl, rfl⟩) | (refine (impl_within_f _ _ _ _ (by omega)).mono ?_; rintro e w' ⟨rfl, rfl⟩))
    go_ret
    obtain ⟨k, rfl⟩ := Int.eq_ofNat_of_zero_le h1
    exact ⟨k, r, bad', rfl, h2, Hu.out, hr, fun m r0 hm1 hm2 he => by obtain ⟨h3, h4⟩ := Hc.out m r0 hm2 he; exact ⟨by omega, h4⟩, hm⟩
  · go_wp2_with (go_at_call 125; first | (refine (impl_within_t _ _ _ _ (by omega) (by omega)).mono ?_; rintro e w' ⟨rfl, rfl⟩) | (refine (impl_within_f _ _ _ _ (by omega)).mono ?_; rintro e w' ⟨rfl, rfl⟩))
    go_ret
    exact ⟨0, r, true, rfl, hm0, Hu.out.setBad true, hr, fun m r0 hm1 hm2 he => by obtain ⟨h3, _⟩ := Hc.out m r0 hm2 he; exact absurd ⟨by omega, by omega⟩ hin, hm.setCell (p := ⟨b, 1, none⟩) (Nat.le_refl _) (Nat.lt_succ_self _) _⟩
theorem bs_cut (r : List UInt8) (n : Nat) : (bs r).extract 0 n = bs (r.take n) ∧ (bs r).extract n r.length = bs (r.drop n) := by
  unfold bs
  constructor
  · rw [ByteArray.extract_mk]; simp
  · rw [ByteArray.extract_mk]; simp; rw [List.take_of_length_le (by simp)]
theorem bs_of (t : ByteArray) : bs t.data.toList = t := rfl
def TxtI (b : Nat) (l : List UInt8) (bad : Bool) (w : World) (e : Ending) (w' : World) : Prop :=
  ∃ (s : ByteArray) (r : List UInt8) (bad' : Bool), e = .returned (.string s) ∧ s.size ≤ 1048576 ∧ Un b r bad' w' ∧ r.length ≤ 1048576 ∧ (∀ (t : ByteArray) r0, t.size ≤ 12 → l = textB t ++ r0 → s = t ∧ r = r0 ∧ bad' = bad) ∧ Mod b (b + 1) w w'
set_option maxHeartbeats 2000000 in
theorem impl_txtR (b : Nat) (l : List UInt8) (bad : Bool) (w : World) (h : Un b l bad w) (hl : l.length ≤ 1048576) : Calls Try.prog 165 #[.pointer (some ⟨b, 0, none⟩)] w (TxtI b l bad w) := by
  have hN := Lib.hid (impl_cntR b l.length l bad w h hl (by omega))
  have c0 := h.c0
  have hsz : (bs l).size = l.length := by simp [bs, ByteArray.size]
  clear h
  generalize hbl : bs l = bl at *
  go_enter Try.func165, Try.ntmps165
  go_wp2_with fail
  refine hN.out.mono ?_
  rintro e w1 ⟨n, r, bad', rfl, hn, hu, hr, hc, hm⟩
  have Hu := Lib.hid hu
  have e0 := hu.c0
  have e1 := hu.c1
  have f0 := hu.f 0
  have f1 := hu.f 1
  have hsr : (bs r).size = r.length := by simp [bs, ByteArray.size]
  have Hc : Hid (∀ (t : ByteArray) r0, t.size ≤ 12 → l = textB t ++ r0 → n = t.size ∧ r = t.data.toList ++ r0 ∧ bad' = bad) := Lib.hid (fun t r0 ht he => by
    unfold textB at he
    rw [List.append_assoc] at he
    have h1 := hc t.size (t.data.toList ++ r0) (by rw [he]; simp only [List.length_append, size_data]; omega) (f49_small (by omega) (by omega)) he
    exact h1)
  clear hc hu
  by_cases hin : n ≤ r.length
  · obtain ⟨x1, x2⟩ := bs_cut r n
    have hgt : decide ((r.length : Int) < (n : Int)) = false := decide_eq_false (by omega)
    have Hs := Lib.hid (Hu.out.setRest (r.drop n))
    have hln : (n : Int) ≤ (r.length : Int) := by omega
    have X1 := Lib.hid x1
    have X2 := Lib.hid x2
    clear x1 x2
    generalize hbr : bs r = br at *
    go_wp2
    go_ret
    refine ⟨bs (r.take n), r.drop n, bad', ret_string X1.out, by simp [bs, ByteArray.size]; omega, by rw [X2.out]; exact Hs.out, by rw [List.length_drop]; omega, fun t r0 ht he => ?_, hm.setCell (p := ⟨b, 0, none⟩) (Nat.le_refl _) (Nat.lt_succ_self _) _⟩
    obtain ⟨h3, h4, h5⟩ := Hc.out t r0 ht he
    rw [h4, h3, ← size_data, List.take_left, List.drop_left]
    exact ⟨rfl, rfl, h5⟩
  · have hgt : decide ((r.length : Int) < (n : Int)) = true := decide_eq_true (by omega)
    generalize hbr : bs r = br at *
    go_wp2
    go_ret
    exact ⟨⟨#[]⟩, r, true, rfl, by simp [ByteArray.size], Hu.out.setBad true, hr, fun t r0 ht he => by obtain ⟨h3, h4, _⟩ := Hc.out t r0 ht he; exfalso; rw [h4, List.length_append, size_data] at hin; omega, hm.setCell (p := ⟨b, 1, none⟩) (Nat.le_refl _) (Nat.lt_succ_self _) _⟩
end Go.Proofs.Ytgbohbjpdmgneaa

namespace Go.Proofs.Ytgbohbjpdmgneaa
open Go.RowKit
theorem Mod.new {lo hi : Nat} {a w : World} (h : Mod lo hi a w) {p : Addr} (hp : a.heap.size ≤ p.block) (u : Value) : Mod lo hi a (w.setCell p u) :=
  ⟨h.os, h.tape, h.output, Nat.le_trans h.size (by simp [World.setCell]), fun k hk ho => (Below.heap_setCell _ _ _ _ (by omega)).trans (h.block k hk ho)⟩
theorem Un.far {b : Nat} {l : List UInt8} {bad : Bool} {w : World} (h : Un b l bad w) {p : Addr} (hp : p.block ≠ b) (u : Value) : Un b l bad (w.setCell p u) := (Below.heap_setCell _ _ _ _ (Ne.symm hp)).trans h
theorem Un.ext {b : Nat} {l : List UInt8} {bad : Bool} {w w' : World} (h : Un b l bad w) (hb : Below w.heap.size w w') : Un b l bad w' := (hb.block _ h.lt).trans h
theorem Un.mod {b lo hi : Nat} {l : List UInt8} {bad : Bool} {w w' : World} (h : Un b l bad w) (hm : Mod lo hi w w') (hp : b < lo ∨ hi ≤ b) : Un b l bad w' := (hm.block _ h.lt hp).trans h
def PntI (b : Nat) (l : List UInt8) (bad : Bool) (w : World) (e : Ending) (w' : World) : Prop :=
  ∃ (x y : Int) (r : List UInt8) (bad' : Bool), e = .returned (.agg #[.int .i64 x, .int .i64 y]) ∧ Un b r bad' w' ∧ r.length ≤ 1048576 ∧ (∀ a c r0, F49 a → F49 c → l = ptB a c ++ r0 → x = a ∧ y = c ∧ r = r0 ∧ bad' = bad) ∧ Mod b (b + 1) w w'
set_option maxHeartbeats 2000000 in
theorem impl_pntR (b : Nat) (l : List UInt8) (bad : Bool) (w : World) (h : Un b l bad w) (hl : l.length ≤ 1048576) : Calls Try.prog 166 #[.pointer (some ⟨b, 0, none⟩)] w (PntI b l bad w) := by
  have hbl := h.lt
  have hba : Below w.heap.size w (w.alloc (.cells #[.int .i64 0, .int .i64 0] 46)) := (Below.refl _ _).alloc (Nat.le_refl _) _
  have hx0 := Lib.hid (blkN_new w (.cells #[.int .i64 0, .int .i64 0] 46))
  have hN := Lib.hid (impl_numR b l bad _ (h.ext hba) hl)
  clear h
  go_enter Try.func166, Try.ntmps166
  go_wp2_with fail
  refine hN.out.mono ?_
  rintro e w1 ⟨n, r, bad', rfl, hf, hu, hr, hc, hm⟩
  have hx1 := Lib.hid ((hm.block w.heap.size (by simp) (.inr (by omega))).trans hx0.out)
  have hN2 := Lib.hid (impl_numR b r bad' w1 hu hr)
  have Hc := Lib.hid hc
  have M1 := (Mod.of_below (lo := b) (hi := b + 1) hba).trans hm
  clear hc hu hm hN hx0
  go_wp2_with fail
  refine hN2.out.mono ?_
  rintro e w2 ⟨n2, r2, bad2, rfl, hf2, hu2, hr2, hc2, hm2⟩
  have hx2 := Lib.hid ((hm2.block w.heap.size (Array.getElem?_eq_some_iff.1 hx1.out).1 (.inr (by omega))).trans hx1.out)
  have Hc2 := Lib.hid hc2
  have Hu2 := Lib.hid hu2
  have M2 := M1.trans hm2
  have d0 : w2.cell? ⟨w.heap.size, 0, none⟩ = some _ := (Lib.cell_of_heap hx2.out 0).trans rfl
  have d1 : w2.cell? ⟨w.heap.size, 1, none⟩ = some _ := (Lib.cell_of_heap hx2.out 1).trans rfl
  have df : ∀ j, w2.frozen? ⟨w.heap.size, j, none⟩ = false := fun j => Lib.frozen_of_heap hx2.out j
  clear hc2 hu2 hm2 hN2 M1
  go_wp2
  exact bodyPost_ret (v := .agg #[.int .i64 n, .int .i64 n2]) (by simp [results, Try.results166, go_sem, d0, d1]) rfl ⟨n, n2, r2, bad2, rfl, (Hu2.out.far (p := ⟨w.heap.size, 0, none⟩) (show w.heap.size ≠ b by omega) _).far (p := ⟨w.heap.size, 1, none⟩) (show w.heap.size ≠ b by omega) _, hr2, fun a c r0 ha hc he => by
    unfold ptB at he
    rw [List.append_assoc] at he
    obtain ⟨h1, h2, h3⟩ := Hc.out a _ ha he
    obtain ⟨h4, h5, h6⟩ := Hc2.out c r0 hc h2
    exact ⟨h1, h4, h5, h6.trans h3⟩, (M2.new (p := ⟨w.heap.size, 0, none⟩) (Nat.le_refl _) _).new (p := ⟨w.heap.size, 1, none⟩) (Nat.le_refl _) _⟩
end Go.Proofs.Ytgbohbjpdmgneaa

namespace Go.Proofs.Ytgbohbjpdmgneaa
open Go.RowKit
theorem info_i64' : (Try.prog.info? 2).map (fun i => (i.zero.map (·.cells.size), i.size, i.bytes)) = some (some 1, 1, 8) := by kernel_rfl
def liftFit (x : LiftF × List Int) : Prop := x.1.name.size ≤ 12 ∧ F49 x.1.weight ∧ (F49 x.1.fx ∧ F49 x.1.fy) ∧ (F49 x.1.tx ∧ F49 x.1.ty) ∧ F49 x.1.height ∧ F49 x.1.deadline ∧ x.2.length ≤ 10 ∧ ∀ y ∈ x.2, F49 y
theorem liftFit_of {x : LiftF × List Int} {n : Nat} (h : liftOk x.1 x.2 n) (hn : n ≤ 10) : liftFit x := by
  obtain ⟨h1, h2, h3, h4, h5, h6, h7⟩ := h
  unfold Pl at h3 h4
  have hl := rises_len h7
  refine ⟨h1.2.1, f49_small (by omega) (by omega), ⟨f49_small (by omega) (by omega), f49_small (by omega) (by omega)⟩, ⟨f49_small (by omega) (by omega), f49_small (by omega) (by omega)⟩, f49_small (by omega) (by omega), f49_small (by omega) (by omega), by omega, fun y hy => ?_⟩
  obtain ⟨i, hi, rfl⟩ := List.getElem_of_mem hy
  have := (h7 i hi).1
  exact f49_small (by omega) (by omega)
def LftI (b : Nat) (l : List UInt8) (bad : Bool) (w : World) (e : Ending) (w' : World) : Prop :=
  ∃ (f : LiftF) (s : SV) (a : List Int) (r : List UInt8) (bad' : Bool), e = .returned (.agg (LiftR.cells ⟨f, s⟩).toArray) ∧ Own 1 intCells w.heap.size 2 w' s.v a ∧ a.length ≤ 10 ∧ f.name.size ≤ 1048576 ∧ Un b r bad' w' ∧ r.length ≤ 1048576 ∧
    (∀ x r0, liftFit x → l = liftBytes x ++ r0 → f = x.1 ∧ a = x.2 ∧ r = r0 ∧ bad' = bad) ∧ Mod b (b + 1) w w'
set_option maxRecDepth 100000 in
set_option maxHeartbeats 8000000 in
theorem impl_lftR (b : Nat) (l : List UInt8) (bad : Bool) (w : World) (h : Un b l bad w) (hl : l.length ≤ 1048576) : Calls Try.prog 116 #[.pointer (some ⟨b, 0, none⟩)] w (LftI b l bad w) := by
  have hbl := h.lt
  have hba : Below w.heap.size w (w.alloc (.cells #[.string ⟨#[]⟩, .int .i64 0, .int .i64 0, .int .i64 0, .int .i64 0, .int .i64 0, .int .i64 0, .int .i64 0, .slice none 0 0] 99)) := (Below.refl _ _).alloc (Nat.le_refl _) _
  have hx0 := Lib.hid (blkN_new w (.cells #[.string ⟨#[]⟩, .int .i64 0, .int .i64 0, .int .i64 0, .int .i64 0, .int .i64 0, .int .i64 0, .int .i64 0, .slice none 0 0] 99))
  have M0 : Mod b (b + 1) w (w.alloc (.cells #[.string ⟨#[]⟩, .int .i64 0, .int .i64 0, .int .i64 0, .int .i64 0, .int .i64 0, .int .i64 0, .int .i64 0, .slice none 0 0] 99)) := Mod.of_below hba
  have hN := Lib.hid (impl_txtR b l bad _ (h.ext hba) hl)
  clear h hba
  go_enter Try.func116, Try.ntmps116
  go_wp2_with fail
  refine hN.out.mono ?_
  rintro e w1 ⟨x0, r1, bad1, rfl, hs0, hu1, hr1, hc1, hm1⟩
  have hx1 := Lib.hid ((hm1.block w.heap.size (Array.getElem?_eq_some_iff.1 hx0.out).1 (.inr (by omega))).trans hx0.out)
  have M1 := M0.trans hm1
  have Hc1 := Lib.hid hc1
  clear hc1 hm1
  have hN := Lib.hid (impl_numR b r1 bad1 w1 hu1 hr1)
  go_wp2_with fail
  refine hN.out.mono ?_
  rintro e w2 ⟨x1, r2, bad2, rfl, -, hu2, hr2, hc2, hm2⟩
  have hx2 := Lib.hid ((hm2.block w.heap.size (Array.getElem?_eq_some_iff.1 hx1.out).1 (.inr (by omega))).trans hx1.out)
  have M2 := M1.trans hm2
  have Hc2 := Lib.hid hc2
  clear hc2 hm2
  have hN := Lib.hid (impl_pntR b r2 bad2 w2 hu2 hr2)
  go_wp2_with fail
  refine hN.out.mono ?_
  rintro e w3 ⟨x2, x3, r3, bad3, rfl, hu3, hr3, hc3, hm3⟩
  have hx3 := Lib.hid ((hm3.block w.heap.size (Array.getElem?_eq_some_iff.1 hx2.out).1 (.inr (by omega))).trans hx2.out)
  have M3 := M2.trans hm3
  have Hc3 := Lib.hid hc3
  clear hc3 hm3
  have hN := Lib.hid (impl_pntR b r3 bad3 w3 hu3 hr3)
  go_wp2_with fail
  refine hN.out.mono ?_
  rintro e w4 ⟨x4, x5, r4, bad4, rfl, hu4, hr4, hc4, hm4⟩
  have hx4 := Lib.hid ((hm4.block w.heap.size (Array.getElem?_eq_some_iff.1 hx3.out).1 (.inr (by omega))).trans hx3.out)
  have M4 := M3.trans hm4
  have Hc4 := Lib.hid hc4
  clear hc4 hm4
  have hN := Lib.hid (impl_numR b r4 bad4 w4 hu4 hr4)
  go_wp2_with fail
  refine hN.out.mono ?_
  rintro e w5 ⟨x6, r5, bad5, rfl, -, hu5, hr5, hc5, hm5⟩
  have hx5 := Lib.hid ((hm5.block w.heap.size (Array.getElem?_eq_some_iff.1 hx4.out).1 (.inr (by omega))).trans hx4.out)
  have M5 := M4.trans hm5
  have Hc5 := Lib.hid hc5
  clear hc5 hm5
  have hN := Lib.hid (impl_numR b r5 bad5 w5 hu5 hr5)
  go_wp2_with fail
  refine hN.out.mono ?_
  rintro e w6 ⟨x7, r6, bad6, rfl, -, hu6, hr6, hc6, hm6⟩
  have hx6 := Lib.hid ((hm6.block w.heap.size (Array.getElem?_eq_some_iff.1 hx5.out).1 (.inr (by omega))).trans hx5.out)
  have M6 := M5.trans hm6
  have Hc6 := Lib.hid hc6
  clear hc6 hm6
  have hal : Below w6.heap.size w6 (w6.alloc (.cells #[.string x0, .int .i64 x1, .int .i64 x2, .int .i64 x3, .int .i64 x4, .int .i64 x5, .int .i64 x6, .int .i64 x7, .slice none 0 0] 99)) := (Below.refl _ _).alloc (Nat.le_refl _) _
  have hN := Lib.hid (impl_cntR b 10 r6 bad6 _ (hu6.ext hal) hr6 (by omega))
  have hy6 := Lib.hid (blkN_new w6 (.cells #[.string x0, .int .i64 x1, .int .i64 x2, .int .i64 x3, .int .i64 x4, .int .i64 x5, .int .i64 x6, .int .i64 x7, .slice none 0 0] 99))
  have hx6a := Lib.hid (blkN_below hal hx6.out)
  have M6a := M6.then hal
  have hP := (Array.getElem?_eq_some_iff.1 hx6.out).1
  clear hu1 hu2 hu3 hu4 hu5 hu6 hal
  generalize hPP : w6.heap.size = P at *
  go_wp2_with fail
  refine hN.out.mono ?_
  rintro e w7 ⟨n, r7, bad7, rfl, hn10, hu7, hr7, hc7, hm7⟩
  have hx7 := Lib.hid ((hm7.block w.heap.size (Array.getElem?_eq_some_iff.1 hx6a.out).1 (.inr (by omega))).trans hx6a.out)
  have hy7 := Lib.hid ((hm7.block P (by simp [hPP]) (.inr (by omega))).trans hy6.out)
  have M7 := M6a.trans hm7
  have hP7 : P + 1 ≤ w7.heap.size := by have := hm7.size; simp [hPP] at this; omega
  have Hu7 := Lib.hid hu7
  -- what has been read when the bytes are a lift's
  have hcomp : Hid (∀ x r0, liftFit x → l = liftBytes x ++ r0 → (⟨x0, x1, x2, x3, x4, x5, x6, x7⟩ : LiftF) = x.1 ∧ n = x.2.length ∧ r7 = aftB x.2 ++ r0 ∧ bad7 = bad) := Lib.hid (by
    rintro ⟨⟨y0, y1, y2, y3, y4, y5, y6, y7⟩, a⟩ r0 ⟨f0, f1, f2, f3, f4, f5, f6, f7⟩ he
    unfold liftBytes liftHead at he
    simp only [List.append_assoc] at he
    dsimp only at *
    obtain ⟨rfl, g1, q1⟩ := Hc1.out _ _ f0 he
    obtain ⟨rfl, g2, q2⟩ := Hc2.out _ _ f1 g1
    obtain ⟨rfl, rfl, g3, q3⟩ := Hc3.out _ _ _ f2.1 f2.2 g2
    obtain ⟨rfl, rfl, g4, q4⟩ := Hc4.out _ _ _ f3.1 f3.2 g3
    obtain ⟨rfl, g5, q5⟩ := Hc5.out _ _ f4 g4
    obtain ⟨rfl, g6, q6⟩ := Hc6.out _ _ f5 g5
    obtain ⟨rfl, g7, q7⟩ := hc7 a.length _ (by omega) (f49_small (by omega) (by omega)) g6
    exact ⟨rfl, rfl, g7, by rw [q7, q6, q5, q4, q3, q2, q1]⟩)
  clear Hc1 Hc2 Hc3 Hc4 Hc5 Hc6 hc7 hm7 hu7 hN hx0 hx1 hx2 hx3 hx4 hx5 hx6 hx6a hy6 M0 M1 M2 M3 M4 M5 M6 M6a hPP hr1 hr2 hr3 hr4 hr5 hr6
  go_wp2
  go_loopw [19] (fun i wr => ∃ (k : Nat) (s : SV) (acc : List Int) (r : List UInt8) (bd : Bool), k ≤ n ∧ i = .int .i64 k ∧ Mod b (b + 1) w wr ∧ P + 1 ≤ wr.heap.size ∧ Hid (wr.heap[w.heap.size]? = some (.cells #[.string ⟨#[]⟩, .int .i64 0, .int .i64 0, .int .i64 0, .int .i64 0, .int .i64 0, .int .i64 0, .int .i64 0, .slice none 0 0] 99)) ∧ Hid (wr.heap[P]? = some (.cells #[.string x0, .int .i64 x1, .int .i64 x2, .int .i64 x3, .int .i64 x4, .int .i64 x5, .int .i64 x6, .int .i64 x7, s.v] 99)) ∧ Hid (Own 1 intCells (P + 1) 2 wr s.v acc) ∧ acc.length = k ∧ Hid (Un b r bd wr) ∧ r.length ≤ 1048576 ∧
    Hid (∀ x r0, liftFit x → l = liftBytes x ++ r0 → acc = x.2.take k ∧ r = aftB (x.2.drop k) ++ r0 ∧ bd = bad)) (fun i _ => n - (intOf i).toNat)
  case atStart => exact ⟨0, ⟨none, 0, 0⟩, [], r7, bad7, Nat.zero_le _, rfl, M7, hP7, hx7, hy7, Lib.hid (own_nil _ _ _), rfl, Hu7, hr7, Lib.hid (fun x r0 h1 h2 => by obtain ⟨_, _, h3, h4⟩ := hcomp.out x r0 h1 h2; exact ⟨by simp, by simpa using h3, h4⟩)⟩
  case round =>
    clear M7 hP7 hx7 hy7 Hu7 hr7
    obtain ⟨k, ⟨sa, sl, sc⟩, acc, r, bd, hk, rfl, hM, hsz, hx, hy, hown, hak, hu, hr, hcp⟩ := hrel
    have d0 : wr.cell? ⟨P, 0, none⟩ = some (.string x0) := (Lib.cell_of_heap hy.out 0).trans rfl
    have d1 : wr.cell? ⟨P, 1, none⟩ = some (.int .i64 x1) := (Lib.cell_of_heap hy.out 1).trans rfl
    have d2 : wr.cell? ⟨P, 2, none⟩ = some (.int .i64 x2) := (Lib.cell_of_heap hy.out 2).trans rfl
    have d3 : wr.cell? ⟨P, 3, none⟩ = some (.int .i64 x3) := (Lib.cell_of_heap hy.out 3).trans rfl
    have d4 : wr.cell? ⟨P, 4, none⟩ = some (.int .i64 x4) := (Lib.cell_of_heap hy.out 4).trans rfl
    have d5 : wr.cell? ⟨P, 5, none⟩ = some (.int .i64 x5) := (Lib.cell_of_heap hy.out 5).trans rfl
    have d6 : wr.cell? ⟨P, 6, none⟩ = some (.int .i64 x6) := (Lib.cell_of_heap hy.out 6).trans rfl
    have d7 : wr.cell? ⟨P, 7, none⟩ = some (.int .i64 x7) := (Lib.cell_of_heap hy.out 7).trans rfl
    have d8 : wr.cell? ⟨P, 8, none⟩ = some (.slice sa sl sc) := (Lib.cell_of_heap hy.out 8).trans rfl
    have hbP : b ≠ P := by omega
    by_cases hlt : k < n
    · have hN := Lib.hid (impl_numR b r bd wr.drew hu.out hr)
      go_wp2_with fail
      refine region_ph 5 (fun _ => True) (fun w' => w'.cell? ⟨P, 8, none⟩ = some (.slice sa sl sc)) (by kernel_rfl) trivial d8 (fun hp => ?_)
      refine take_ph 21 (i := 0) rfl rfl (by decide) (by kernel_rfl) (by kernel_rfl) (by kernel_rfl) (fun _ _ _ h => h) (by rfl) (fun w hSw => by (try dsimp only at hSw); go_simp; first | done | with_reducible rfl) hp (fun hp => ?_)
      try simp only [Act.put, List.setIfInBounds_toArray, List.set_cons_zero, List.set_cons_succ]
      refine take_ph1 22 (i := 1) rfl rfl (by decide) (by rfl) (by kernel_rfl) (by kernel_rfl) (by kernel_rfl) (by kernel_rfl) (fun _ _ _ h => h) (by rfl) (fun w hSw hBw => by (try dsimp only at hSw hBw); go_simp; first | done | with_reducible rfl) hp (fun hp => ?_)
      try simp only [Act.put, List.setIfInBounds_toArray, List.set_cons_zero, List.set_cons_succ]
      refine take_ph 23 (i := 2) rfl rfl (by decide) (by kernel_rfl) (by kernel_rfl) (by kernel_rfl) (fun _ _ _ h => h) (by rfl) (fun w hSw => by (try dsimp only at hSw); go_simp; first | done | with_reducible rfl) hp (fun hp => ?_)
      try simp only [Act.put, List.setIfInBounds_toArray, List.set_cons_zero, List.set_cons_succ]
      refine AnyL.one (i := 3) (by kernel_rfl) rfl (fun K hK => ?_)
      go_simp
      refine hN.out.mono ?_
      rintro e w8 ⟨v, r8, bd8, rfl, -, hu8, hr8, hc8, hm8⟩
      have m8 : Mod b (b + 1) wr w8 := (Mod.drewN (Mod.refl _ _ _) 1).trans hm8
      have hx8 := Lib.hid ((m8.block w.heap.size (Array.getElem?_eq_some_iff.1 hx.out).1 (.inr (by omega))).trans hx.out)
      have hy8 := Lib.hid ((m8.block P (by omega) (.inr (by omega))).trans hy.out)
      have ho8 := Lib.hid (own_mod2 hown.out m8 (by omega))
      have e8 : w8.cell? ⟨P, 8, none⟩ = some (.slice sa sl sc) := (Lib.cell_of_heap hy8.out 8).trans rfl
      have hs8 := m8.size
      have Hu8 := Lib.hid hu8
      have Hc8 := Lib.hid hc8
      clear hu8 hc8 hm8
      go_wp2_with fail
      refine hK.out _ _ (ph1 trivial e8) (fun hp => ?_)
      clear hK
      try simp only [Act.put, List.setIfInBounds_toArray, List.set_cons_zero, List.set_cons_succ]
      refine AnyL.one (i := 4) (by kernel_rfl) rfl (fun K hK => ?_)
      go_simp
      refine hK.out _ _ (ph1 trivial (by rw [World.cell?_alloc_lt _ _ _ (show P < _ by omega)]; exact e8)) (fun hp => ?_)
      clear hK
      try simp only [Act.put, List.setIfInBounds_toArray, List.set_cons_zero, List.set_cons_succ]
      refine AnyL.one (i := 5) (by kernel_rfl) rfl (fun K hK => ?_)
      refine step_app1 (c := intCells) (bytes := 8) rfl _ _ 58 2 rfl Try.underlying58 info_i64' (by omega) intCells_len intCells_one (P + 1) acc v (.slice sa sl sc) rfl w8 rfl ho8.out rfl (by omega) (by omega) (by omega) ?_
      intro v' w9 hown9 hg9
      have b9 : Below (P + 1) w8 w9 := ho8.out.app (Below.refl _ _) (Nat.le_refl _) (by omega) hg9
      obtain ⟨va, vc, rfl⟩ := own_sv hown9
      have hs9 := b9.size
      have hx9 := Lib.hid ((b9.block w.heap.size (by omega)).trans hx8.out)
      have hy9 := Lib.hid ((b9.block P (by omega)).trans hy8.out)
      have hu9 := Lib.hid (show Un b r8 bd8 w9 from (b9.block b (by omega)).trans Hu8.out)
      have m9 : Mod b (b + 1) w w9 := ⟨b9.os.trans (hM.trans m8).os, b9.tape.trans (hM.trans m8).tape, b9.output.trans (hM.trans m8).output, Nat.le_trans (hM.trans m8).size hs9, fun q hq ho => (b9.block q (by omega)).trans ((hM.trans m8).block q hq ho)⟩
      have hl9 : (acc ++ [v]).length = k + 1 := by rw [List.length_append, hak]; rfl
      rw [hl9]
      have Hown9 := Lib.hid (show Own 1 intCells (P + 1) 2 w9 (.slice va (k + 1) vc) (acc ++ [v]) from hl9 ▸ hown9)
      have f9 : ∀ j, w9.frozen? ⟨P, j, none⟩ = false := fun j => Lib.frozen_of_heap hy9.out j
      have e9 : w9.cell? ⟨P, 8, none⟩ = some (.slice sa sl sc) := (Lib.cell_of_heap hy9.out 8).trans rfl
      refine hK.out _ _ (ph2 rfl trivial) (fun hp => ?_)
      clear hK hown9 hg9
      try simp only [Act.put, List.setIfInBounds_toArray]
      refine take_ph 27 (i := 6) rfl rfl (by decide) (by kernel_rfl) (by kernel_rfl) (by kernel_rfl) (fun _ _ _ h => h) (by rfl) (fun w hSw => by (try dsimp only at hSw); go_simp; first | done | with_reducible rfl) hp (fun hp => ?_)
      try simp only [Act.put]
      refine AnyL.one (i := 7) (by kernel_rfl) rfl (fun K hK => ?_)
      go_simp
      refine hK.out _ _ (ph2 rfl trivial) (fun hp => ?_)
      clear hK
      refine AnyL.done (by kernel_rfl) ?_ _
      have hx10 := Lib.hid ((Below.heap_setCell w9 ⟨P, 8, none⟩ (.slice va (k + 1) vc) w.heap.size (show w.heap.size ≠ P by omega)).trans hx9.out)
      have hy10 : Hid ((w9.setCell ⟨P, 8, none⟩ (.slice va (k + 1) vc)).heap[P]? = some (.cells #[.string x0, .int .i64 x1, .int .i64 x2, .int .i64 x3, .int .i64 x4, .int .i64 x5, .int .i64 x6, .int .i64 x7, .slice va (k + 1) vc] 99)) := Lib.hid (by have := hy9.out; simp [World.setCell, Array.getElem?_modify, this])
      have ho10 := Lib.hid (own_mod2 Hown9.out ((Mod.refl P (P + 1) w9).setCell (p := ⟨P, 8, none⟩) (Nat.le_refl _) (Nat.lt_succ_self _) (.slice va (k + 1) vc)) (Nat.le_refl _))
      have hu10 := Lib.hid (hu9.out.far (p := ⟨P, 8, none⟩) (show P ≠ b by omega) (.slice va (k + 1) vc))
      have m10 := m9.new (p := ⟨P, 8, none⟩) (show w.heap.size ≤ P by omega) (.slice va (k + 1) vc)
      have hs10 : P + 1 ≤ (w9.setCell ⟨P, 8, none⟩ (.slice va (k + 1) vc)).heap.size := by simp; omega
      have hcp10 : Hid (∀ x r0, liftFit x → l = liftBytes x ++ r0 → acc ++ [v] = x.2.take (k + 1) ∧ r8 = aftB (x.2.drop (k + 1)) ++ r0 ∧ bd8 = bad) := Lib.hid (fun x r0 h1 h2 => by
        obtain ⟨_, hn, _, _⟩ := hcomp.out x r0 h1 h2
        obtain ⟨g1, g2, g3⟩ := hcp.out x r0 h1 h2
        have hkx : k < x.2.length := by omega
        rw [List.drop_eq_getElem_cons hkx] at g2
        unfold aftB at g2
        rw [List.flatMap_cons, List.append_assoc] at g2
        obtain ⟨g4, g5, g6⟩ := Hc8.out _ _ (h1.2.2.2.2.2.2.2 _ (List.getElem_mem hkx)) g2
        exact ⟨by rw [g1, g4, List.take_succ_eq_append_getElem hkx], g5, g6.trans g3⟩)
      go_wp2
      go_roundw
      case rel => exact ⟨k + 1, ⟨va, k + 1, vc⟩, acc ++ [v], r8, bd8, by omega, by go_num, m10, hs10, hx10, hy10, ho10, hl9, hu10, hr8, hcp10⟩
      case measure => simp [intOf]; omega
    · have hkk : k = n := by omega
      subst hkk
      have e0 : wr.cell? ⟨w.heap.size, 0, none⟩ = some _ := (Lib.cell_of_heap hx.out 0).trans rfl
      have e1 : wr.cell? ⟨w.heap.size, 1, none⟩ = some _ := (Lib.cell_of_heap hx.out 1).trans rfl
      have e2 : wr.cell? ⟨w.heap.size, 2, none⟩ = some _ := (Lib.cell_of_heap hx.out 2).trans rfl
      have e3 : wr.cell? ⟨w.heap.size, 3, none⟩ = some _ := (Lib.cell_of_heap hx.out 3).trans rfl
      have e4 : wr.cell? ⟨w.heap.size, 4, none⟩ = some _ := (Lib.cell_of_heap hx.out 4).trans rfl
      have e5 : wr.cell? ⟨w.heap.size, 5, none⟩ = some _ := (Lib.cell_of_heap hx.out 5).trans rfl
      have e6 : wr.cell? ⟨w.heap.size, 6, none⟩ = some _ := (Lib.cell_of_heap hx.out 6).trans rfl
      have e7 : wr.cell? ⟨w.heap.size, 7, none⟩ = some _ := (Lib.cell_of_heap hx.out 7).trans rfl
      have e8 : wr.cell? ⟨w.heap.size, 8, none⟩ = some _ := (Lib.cell_of_heap hx.out 8).trans rfl
      have ef : ∀ j, wr.frozen? ⟨w.heap.size, j, none⟩ = false := fun j => Lib.frozen_of_heap hx.out j
      have HM := Lib.hid hM
      have Hbl := Lib.hid hbl
      have hak10 : acc.length ≤ 10 := by omega
      clear hM
      have hfin : Hid (∀ x r0, liftFit x → l = liftBytes x ++ r0 → (⟨x0, x1, x2, x3, x4, x5, x6, x7⟩ : LiftF) = x.1 ∧ acc = x.2 ∧ r = r0 ∧ bd = bad) := Lib.hid (fun x r0 h1 h2 => by
        obtain ⟨g0, hn, _, _⟩ := hcomp.out x r0 h1 h2
        obtain ⟨g1, g2, g3⟩ := hcp.out x r0 h1 h2
        rw [hn, List.take_length] at g1
        rw [hn, List.drop_length] at g2
        exact ⟨g0, g1, by simpa [aftB] using g2, g3⟩)
      have hend : Hid (∀ W, Mod w.heap.size (w.heap.size + 1) wr W → Own 1 intCells w.heap.size 2 W (.slice sa sl sc) acc ∧ acc.length ≤ 10 ∧ x0.size ≤ 1048576 ∧ Un b r bd W ∧ r.length ≤ 1048576 ∧ (∀ x r0, liftFit x → l = liftBytes x ++ r0 → (⟨x0, x1, x2, x3, x4, x5, x6, x7⟩ : LiftF) = x.1 ∧ acc = x.2 ∧ r = r0 ∧ bd = bad) ∧ Mod b (b + 1) w W) := Lib.hid (fun W hW => ⟨(own_mod2 hown.out hW (by omega)).lower (by omega), hak10, hs0, hu.out.mod hW (.inl Hbl.out), hr, hfin.out, ⟨hW.os.trans HM.out.os, hW.tape.trans HM.out.tape, hW.output.trans HM.out.output, Nat.le_trans HM.out.size hW.size, fun q hq ho => (hW.block q (by have := HM.out.size; omega) (.inl hq)).trans (HM.out.block q hq ho)⟩⟩)
      clear hfin hcp hcomp
      go_wp2
      refine bodyPost_ret (v := .agg #[.string x0, .int .i64 x1, .int .i64 x2, .int .i64 x3, .int .i64 x4, .int .i64 x5, .int .i64 x6, .int .i64 x7, .slice sa sl sc]) (by simp [results, Try.results116, go_sem, e0, e1, e2, e3, e4, e5, e6, e7, e8]) rfl ?_
      refine ⟨⟨x0, x1, x2, x3, x4, x5, x6, x7⟩, ⟨sa, sl, sc⟩, acc, r, bd, rfl, hend.out _ ?_⟩
      exact (((((((((Mod.refl _ _ _).setCell (p := ⟨w.heap.size, 0, none⟩) (Nat.le_refl _) (Nat.lt_succ_self _) _).setCell (p := ⟨w.heap.size, 1, none⟩) (Nat.le_refl _) (Nat.lt_succ_self _) _).setCell (p := ⟨w.heap.size, 2, none⟩) (Nat.le_refl _) (Nat.lt_succ_self _) _).setCell (p := ⟨w.heap.size, 3, none⟩) (Nat.le_refl _) (Nat.lt_succ_self _) _).setCell (p := ⟨w.heap.size, 4, none⟩) (Nat.le_refl _) (Nat.lt_succ_self _) _).setCell (p := ⟨w.heap.size, 5, none⟩) (Nat.le_refl _) (Nat.lt_succ_self _) _).setCell (p := ⟨w.heap.size, 6, none⟩) (Nat.le_refl _) (Nat.lt_succ_self _) _).setCell (p := ⟨w.heap.size, 7, none⟩) (Nat.le_refl _) (Nat.lt_succ_self _) _).setCell (p := ⟨w.heap.size, 8, none⟩) (Nat.le_refl _) (Nat.lt_succ_self _) _
end Go.Proofs.Ytgbohbjpdmgneaa
