/- The program's reader, by what it reads when the bytes are those of a packed thing. -/
import Derived.Test.YtgbohbjpdmgneaaUnpN
import Derived.Test.YtgbohbjpdmgneaaPk1
import Derived.Test.YtgbohbjpdmgneaaBasic
import Derived.Test.YtgbohbjpdmgneaaPh
import Derived.Test.YtgbohbjpdmgneaaNX
namespace Go.Proofs.Ytgbohbjpdmgneaa
open Go.RowKit
/-- Numbers whose packed form has at most seven bytes. -/
def F49 (m : Int) : Prop := sgn m < 562949953421312
theorem f49_small {m : Int} (h : -1000000 ≤ m) (h2 : m ≤ 1000000) : F49 m := by unfold F49 sgn; split <;> omega
theorem dec_of_put {m : Int} (h : F49 m) (r : List UInt8) : ∃ c, dec 7 (putN m ++ r) = some (sgn m, r, c) := by
  obtain ⟨c, h1, _⟩ := dec_put 6 (sgn m) r (by unfold F49 at h; exact h)
  exact ⟨c, h1⟩
/-- The world's share of a reading: the reader's block alone. -/
def NumI (b : Nat) (l : List UInt8) (bad : Bool) (w : World) (e : Ending) (w' : World) : Prop :=
  ∃ (n : Int) (r : List UInt8) (bad' : Bool), e = .returned (.int .i64 n) ∧ Fit n ∧ Un b r bad' w' ∧ r.length ≤ 1048576 ∧ (∀ m r0, F49 m → l = putN m ++ r0 → n = m ∧ r = r0 ∧ bad' = bad) ∧ Mod b (b + 1) w w'
theorem impl_numR (b : Nat) (l : List UInt8) (bad : Bool) (w : World) (h : Un b l bad w) (hl : l.length ≤ 1048576) : Calls Try.prog 164 #[.pointer (some ⟨b, 0, none⟩)] w (NumI b l bad w) := by
  refine (impl_num b l bad w h hl).mono ?_
  rintro e w' ⟨h1, h2, hm⟩
  cases hd : dec 7 l with
  | none =>
    obtain ⟨n, r, rfl, hf, hr, hu⟩ := h2 hd
    refine ⟨n, r, true, rfl, hf, hu, hr, fun m r0 hm49 he => ?_, hm⟩
    obtain ⟨c, h3⟩ := dec_of_put hm49 r0
    rw [← he, hd] at h3; cases h3
  | some x =>
    obtain ⟨v, r, c⟩ := x
    obtain ⟨rfl, hu⟩ := h1 v r c hd
    obtain ⟨p, hp, _, _⟩ := dec_rest 7 l v r c hd
    have hvl := dec_lt 7 l v r c hd
    refine ⟨plain v, r, bad, rfl, plain_fit (Nat.lt_of_lt_of_le hvl (by decide)), hu, by rw [hp, List.length_append] at hl; omega, fun m r0 hm49 he => ?_, hm⟩
    obtain ⟨c', h3⟩ := dec_of_put hm49 r0
    rw [← he, hd] at h3
    simp only [Option.some.injEq, Prod.mk.injEq] at h3
    obtain ⟨rfl, rfl, _⟩ := h3
    exact ⟨plain_sgn m, rfl, rfl⟩
def CntI (b : Nat) (most : Int) (l : List UInt8) (bad : Bool) (w : World) (e : Ending) (w' : World) : Prop :=
  ∃ (n : Nat) (r : List UInt8) (bad' : Bool), e = .returned (.int .i64 n) ∧ (n : Int) ≤ most ∧ Un b r bad' w' ∧ r.length ≤ 1048576 ∧ (∀ (m : Nat) r0, (m : Int) ≤ most → F49 m → l = putN m ++ r0 → n = m ∧ r = r0 ∧ bad' = bad) ∧ Mod b (b + 1) w w'
set_option maxHeartbeats 1000000 in
theorem impl_cntR (b : Nat) (most : Int) (l : List UInt8) (bad : Bool) (w : World) (h : Un b l bad w) (hl : l.length ≤ 1048576) (hm0 : 0 ≤ most) : Calls Try.prog 115 #[.pointer (some ⟨b, 0, none⟩), .int .i64 most] w (CntI b most l bad w) := by
  have hN := Lib.hid (impl_numR b l bad w h hl)
  clear h
  go_enter Try.func115, Try.ntmps115
  go_wp2_with fail
  refine hN.out.mono ?_
  rintro e w1 ⟨n, r, bad', rfl, hf, hu, hr, hc, hm⟩
  have Hc := Lib.hid hc
  have Hu := Lib.hid hu
  have c1 := hu.c1
  have f1 := hu.f 1
  clear hc hu
  by_cases hin : 0 ≤ n ∧ n ≤ most
  · obtain ⟨h1, h2⟩ := hin
    go_wp2_with (go_at_call 125; first | (refine (impl_within_t _ _ _ _ (by omega) (by omega)).mono ?_; rintro e w' ⟨rfl, rfl⟩) | (refine (impl_within_f _ _ _ _ (by omega)).mono ?_; rintro e w' ⟨rfl, rfl⟩))
    go_ret
    obtain ⟨k, rfl⟩ := Int.eq_ofNat_of_zero_le h1
    exact ⟨k, r, bad', rfl, h2, Hu.out, hr, fun m r0 hm1 hm2 he => by obtain ⟨h3, h4⟩ := Hc.out m r0 hm2 he; exact ⟨by omega, h4⟩, hm⟩
  · go_wp2_with (go_at_call 125; first | (refine (impl_within_t _ _ _ _ (by omega) (by omega)).mono ?_; rintro e w' ⟨rfl, rfl⟩) | (refine (impl_within_f _ _ _ _ (by omega)).mono ?_; rintro e w' ⟨rfl, rfl⟩))
    go_ret
    exact ⟨0, r, true, rfl, hm0, Hu.out.setBad true, hr, fun m r0 hm1 hm2 he => by obtain ⟨h3, _⟩ := Hc.out m r0 hm2 he; exact absurd ⟨by omega, by omega⟩ hin, hm.setCell (p := ⟨b, 1, none⟩) (Nat.le_refl _) (Nat.lt_succ_self _) _⟩
theorem bs_cut (r : List UInt8) (n : Nat) : (bs r).extract 0 n = bs (r.take n) ∧ (bs r).extract n r.length = bs (r.drop n) := by
  unfold bs
  constructor
  · rw [ByteArray.extract_mk]; simp
  · rw [ByteArray.extract_mk]; simp; rw [List.take_of_length_le (by simp)]
theorem bs_of (t : ByteArray) : bs t.data.toList = t := rfl
def TxtI (b : Nat) (l : List UInt8) (bad : Bool) (w : World) (e : Ending) (w' : World) : Prop :=
  ∃ (s : ByteArray) (r : List UInt8) (bad' : Bool), e = .returned (.string s) ∧ s.size ≤ 1048576 ∧ Un b r bad' w' ∧ r.length ≤ 1048576 ∧ (∀ (t : ByteArray) r0, t.size ≤ 12 → l = textB t ++ r0 → s = t ∧ r = r0 ∧ bad' = bad) ∧ Mod b (b + 1) w w'
set_option maxHeartbeats 2000000 in
theorem impl_txtR (b : Nat) (l : List UInt8) (bad : Bool) (w : World) (h : Un b l bad w) (hl : l.length ≤ 1048576) : Calls Try.prog 165 #[.pointer (some ⟨b, 0, none⟩)] w (TxtI b l bad w) := by
  have hN := Lib.hid (impl_cntR b l.length l bad w h hl (by omega))
  have c0 := h.c0
  have hsz : (bs l).size = l.length := by simp [bs, ByteArray.size]
  clear h
  generalize hbl : bs l = bl at *
  go_enter Try.func165, Try.ntmps165
  go_wp2_with fail
  refine hN.out.mono ?_
  rintro e w1 ⟨n, r, bad', rfl, hn, hu, hr, hc, hm⟩
  have Hu := Lib.hid hu
  have e0 := hu.c0
  have e1 := hu.c1
  have f0 := hu.f 0
  have f1 := hu.f 1
  have hsr : (bs r).size = r.length := by simp [bs, ByteArray.size]
  have Hc : Hid (∀ (t : ByteArray) r0, t.size ≤ 12 → l = textB t ++ r0 → n = t.size ∧ r = t.data.toList ++ r0 ∧ bad' = bad) := Lib.hid (fun t r0 ht he => by
    unfold textB at he
    rw [List.append_assoc] at he
    have h1 := hc t.size (t.data.toList ++ r0) (by rw [he]; simp only [List.length_append, size_data]; omega) (f49_small (by omega) (by omega)) he
    exact h1)
  clear hc hu
  by_cases hin : n ≤ r.length
  · obtain ⟨x1, x2⟩ := bs_cut r n
    have hgt : decide ((r.length : Int) < (n : Int)) = false := decide_eq_false (by omega)
    have Hs := Lib.hid (Hu.out.setRest (r.drop n))
    have hln : (n : Int) ≤ (r.length : Int) := by omega
    have X1 := Lib.hid x1
    have X2 := Lib.hid x2
    clear x1 x2
    generalize hbr : bs r = br at *
    go_wp2
    go_ret
    refine ⟨bs (r.take n), r.drop n, bad', ret_string X1.out, by simp [bs, ByteArray.size]; omega, by rw [X2.out]; exact Hs.out, by rw [List.length_drop]; omega, fun t r0 ht he => ?_, hm.setCell (p := ⟨b, 0, none⟩) (Nat.le_refl _) (Nat.lt_succ_self _) _⟩
    obtain ⟨h3, h4, h5⟩ := Hc.out t r0 ht he
    rw [h4, h3, ← size_data, List.take_left, List.drop_left]
    exact ⟨rfl, rfl, h5⟩
  · have hgt : decide ((r.length : Int) < (n : Int)) = true := decide_eq_true (by omega)
    generalize hbr : bs r = br at *
    go_wp2
    go_ret
    exact ⟨⟨#[]⟩, r, true, rfl, by simp [ByteArray.size], Hu.out.setBad true, hr, fun t r0 ht he => by obtain ⟨h3, h4, _⟩ := Hc.out t r0 ht he; exfalso; rw [h4, List.length_append, size_data] at hin; omega, hm.setCell (p := ⟨b, 1, none⟩) (Nat.le_refl _) (Nat.lt_succ_self _) _⟩
end Go.Proofs.Ytgbohbjpdmgneaa

namespace Go.Proofs.Ytgbohbjpdmgneaa
open Go.RowKit
theorem Mod.new {lo hi : Nat} {a w : World} (h : Mod lo hi a w) {p : Addr} (hp : a.heap.size ≤ p.block) (u : Value) : Mod lo hi a (w.setCell p u) :=
  ⟨h.os, h.tape, h.output, Nat.le_trans h.size (by simp [World.setCell]), fun k hk ho => (Below.heap_setCell _ _ _ _ (by omega)).trans (h.block k hk ho)⟩
theorem Un.far {b : Nat} {l : List UInt8} {bad : Bool} {w : World} (h : Un b l bad w) {p : Addr} (hp : p.block ≠ b) (u : Value) : Un b l bad (w.setCell p u) := (Below.heap_setCell _ _ _ _ (Ne.symm hp)).trans h
theorem Un.ext {b : Nat} {l : List UInt8} {bad : Bool} {w w' : World} (h : Un b l bad w) (hb : Below w.heap.size w w') : Un b l bad w' := (hb.block _ h.lt).trans h
theorem Un.mod {b lo hi : Nat} {l : List UInt8} {bad : Bool} {w w' : World} (h : Un b l bad w) (hm : Mod lo hi w w') (hp : b < lo ∨ hi ≤ b) : Un b l bad w' := (hm.block _ h.lt hp).trans h
def PntI (b : Nat) (l : List UInt8) (bad : Bool) (w : World) (e : Ending) (w' : World) : Prop :=
  ∃ (x y : Int) (r : List UInt8) (bad' : Bool), e = .returned (.agg #[.int .i64 x, .int .i64 y]) ∧ (Fit x ∧ Fit y) ∧ Un b r bad' w' ∧ r.length ≤ 1048576 ∧ (∀ a c r0, F49 a → F49 c → l = ptB a c ++ r0 → x = a ∧ y = c ∧ r = r0 ∧ bad' = bad) ∧ Mod b (b + 1) w w'
set_option maxHeartbeats 2000000 in
theorem impl_pntR (b : Nat) (l : List UInt8) (bad : Bool) (w : World) (h : Un b l bad w) (hl : l.length ≤ 1048576) : Calls Try.prog 166 #[.pointer (some ⟨b, 0, none⟩)] w (PntI b l bad w) := by
  have hbl := h.lt
  have hba : Below w.heap.size w (w.alloc (.cells #[.int .i64 0, .int .i64 0] 46)) := (Below.refl _ _).alloc (Nat.le_refl _) _
  have hx0 := Lib.hid (blkN_new w (.cells #[.int .i64 0, .int .i64 0] 46))
  have hN := Lib.hid (impl_numR b l bad _ (h.ext hba) hl)
  clear h
  go_enter Try.func166, Try.ntmps166
  go_wp2_with fail
  refine hN.out.mono ?_
  rintro e w1 ⟨n, r, bad', rfl, hf, hu, hr, hc, hm⟩
  have hx1 := Lib.hid ((hm.block w.heap.size (by simp) (.inr (by omega))).trans hx0.out)
  have hN2 := Lib.hid (impl_numR b r bad' w1 hu hr)
  have Hc := Lib.hid hc
  have M1 := (Mod.of_below (lo := b) (hi := b + 1) hba).trans hm
  clear hc hu hm hN hx0
  go_wp2_with fail
  refine hN2.out.mono ?_
  rintro e w2 ⟨n2, r2, bad2, rfl, hf2, hu2, hr2, hc2, hm2⟩
  have hx2 := Lib.hid ((hm2.block w.heap.size (Array.getElem?_eq_some_iff.1 hx1.out).1 (.inr (by omega))).trans hx1.out)
  have Hc2 := Lib.hid hc2
  have Hu2 := Lib.hid hu2
  have M2 := M1.trans hm2
  have d0 : w2.cell? ⟨w.heap.size, 0, none⟩ = some _ := (Lib.cell_of_heap hx2.out 0).trans rfl
  have d1 : w2.cell? ⟨w.heap.size, 1, none⟩ = some _ := (Lib.cell_of_heap hx2.out 1).trans rfl
  have df : ∀ j, w2.frozen? ⟨w.heap.size, j, none⟩ = false := fun j => Lib.frozen_of_heap hx2.out j
  clear hc2 hu2 hm2 hN2 M1
  go_wp2
  exact bodyPost_ret (v := .agg #[.int .i64 n, .int .i64 n2]) (by simp [results, Try.results166, go_sem, d0, d1]) rfl ⟨n, n2, r2, bad2, rfl, ⟨hf, hf2⟩, (Hu2.out.far (p := ⟨w.heap.size, 0, none⟩) (show w.heap.size ≠ b by omega) _).far (p := ⟨w.heap.size, 1, none⟩) (show w.heap.size ≠ b by omega) _, hr2, fun a c r0 ha hc he => by
    unfold ptB at he
    rw [List.append_assoc] at he
    obtain ⟨h1, h2, h3⟩ := Hc.out a _ ha he
    obtain ⟨h4, h5, h6⟩ := Hc2.out c r0 hc h2
    exact ⟨h1, h4, h5, h6.trans h3⟩, (M2.new (p := ⟨w.heap.size, 0, none⟩) (Nat.le_refl _) _).new (p := ⟨w.heap.size, 1, none⟩) (Nat.le_refl _) _⟩
theorem un_new2 {s : ByteArray} {w : World} : Un w.heap.size s.data.toList false (w.alloc (.cells #[.string s, .bool false] 159)) := by
  unfold Un World.alloc
  simp [bs_of]
def ByteI (b : Nat) (l : List UInt8) (bad : Bool) (w : World) (e : Ending) (w' : World) : Prop :=
  ∃ (c : Int) (r : List UInt8) (bad' : Bool), e = .returned (.int .i64 c) ∧ Un b r bad' w' ∧ r.length ≤ 1048576 ∧ (∀ c0 r0, l = c0 :: r0 → r = r0 ∧ bad' = bad) ∧ Mod b (b + 1) w w'
theorem impl_byteR (b : Nat) (l : List UInt8) (bad : Bool) (w : World) (h : Un b l bad w) (hl : l.length ≤ 1048576) : Calls Try.prog 114 #[.pointer (some ⟨b, 0, none⟩)] w (ByteI b l bad w) := by
  cases l with
  | nil =>
    refine (oneByte_nil b bad w h).mono ?_
    rintro e w' ⟨rfl, hu, hm⟩
    exact ⟨0, [], true, rfl, hu, by simp, fun c0 r0 he => (by cases he), hm⟩
  | cons c r =>
    have hr : r.length ≤ 1048576 := by simp only [List.length_cons] at hl; omega
    refine (oneByte_cons b c r bad w h hr).mono ?_
    rintro e w' ⟨rfl, hu, hm⟩
    exact ⟨_, r, bad, rfl, hu, hr, fun c0 r0 he => (by cases he; exact ⟨rfl, rfl⟩), hm⟩
end Go.Proofs.Ytgbohbjpdmgneaa
