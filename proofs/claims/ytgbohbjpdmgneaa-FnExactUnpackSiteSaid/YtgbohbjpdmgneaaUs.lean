/- The reference's reader, by what it reads: numbers, counts, texts. -/
import Derived.Test.YtgbohbjpdmgneaaUr
import Derived.Test.YtgbohbjpdmgneaaUnpS
import Derived.Test.YtgbohbjpdmgneaaPk3
namespace Go.Proofs.Ytgbohbjpdmgneaa
open Go.RowKit
theorem dec_cut : ∀ (j : Nat) (p r : List UInt8) (v : Nat) (c : Bool), dec j (p ++ r) = some (v, r, c) → dec j p = some (v, [], c)
  | 0, _, _, _, _, h => by simp [dec] at h
  | j + 1, [], r, v, c, h => by
    obtain ⟨p', hp, h0, _⟩ := dec_rest _ _ _ _ _ h
    have := congrArg List.length hp
    simp only [List.nil_append, List.length_append] at this
    omega
  | j + 1, b :: p, r, v, c, h => by
    rw [List.cons_append, dec] at h
    rw [dec]
    split at h
    · rename_i hb
      rw [if_pos hb]
      simp only [Option.some.injEq, Prod.mk.injEq] at h
      obtain ⟨rfl, h2, rfl⟩ := h
      have hp : p = [] := by
        have := congrArg List.length h2
        simp only [List.length_append] at this
        exact List.eq_nil_of_length_eq_zero (by omega)
      rw [hp]
    · rename_i hb
      rw [if_neg hb]
      obtain ⟨⟨v', r', c'⟩, h1, h2⟩ := Option.map_eq_some_iff.1 h
      simp only [Prod.mk.injEq] at h2
      obtain ⟨rfl, rfl, rfl⟩ := h2
      rw [dec_cut j p r' v' c' h1]
      rfl
theorem dec_back2 {l r : List UInt8} {v : Nat} {c : Bool} (h : dec 7 l = some (v, r, c)) (hc : c = true ∨ l.length - r.length = 1) : l = putB v ++ r := by
  obtain ⟨p, rfl, h0, h7⟩ := dec_rest 7 l v r c h
  have h1 := dec_cut 7 p r v c h
  rw [dec_back 7 p v c h1 (hc.imp id (fun hc => by rw [List.length_append] at hc; omega))]
theorem drop_to {l pp r : List UInt8} {p : Nat} (h : l.drop p = pp ++ r) : r.length ≤ l.length ∧ l.drop (l.length - r.length) = r := by
  have hl : l = (l.take p ++ pp) ++ r := by rw [List.append_assoc, ← h, List.take_append_drop]
  have hn := congrArg List.length hl
  rw [List.length_append] at hn
  refine ⟨by omega, ?_⟩
  conv => lhs; rw [hl]
  rw [show (l.take p ++ pp ++ r).length - r.length = (l.take p ++ pp).length by rw [List.length_append]; omega, List.drop_left]
def NumS (b : Nat) (l : List UInt8) (p : Nat) (ok : Bool) (w : World) (e : Ending) (w' : World) : Prop :=
  ∃ (n : Int) (q : Nat) (ok' : Bool), e = .returned (.int .i64 n) ∧ Fit n ∧ q ≤ l.length ∧ Rd b l q ok' w' ∧ (ok = true → ∀ m r0, F49 m → l.drop p = putN m ++ r0 → n = m ∧ l.drop q = r0 ∧ ok' = true) ∧ (ok' = true → ok = true ∧ l.drop p = putN n ++ l.drop q) ∧ Mod b (b + 1) w w'
theorem Rd.lt {b : Nat} {l : List UInt8} {k : Nat} {ok : Bool} {w : World} (h : Rd b l k ok w) : b < w.heap.size := (Array.getElem?_eq_some_iff.1 h).1
set_option maxHeartbeats 1000000 in
theorem spec_num_bad (b : Nat) (l : List UInt8) (p : Nat) (w : World) (h : Rd b l p false w) : Calls Try.prog 161 #[.pointer (some ⟨b, 0, none⟩)] w fun e w' => e = .returned (.int .i64 0) ∧ Rd b l p false w' ∧ Mod b (b + 1) w w' := by
  have c2 := h.c2
  have f2 := h.f 2
  have Hs := Lib.hid (h.setOk false)
  clear h
  go_enter Try.func161, Try.ntmps161
  go_wp2
  go_loopw [3, 4] (fun a i wr => wr = w ∧ a = .int .i64 0 ∧ i = .int .i64 0) (fun _ _ _ => 0)
  case atStart => exact ⟨rfl, rfl, rfl⟩
  case round =>
    obtain ⟨rfl, rfl, rfl⟩ := hrel
    go_wp2_with fail
    go_quiet (fail)
    go_wp2
    go_ret
    exact ⟨rfl, Hs.out, ((Mod.refl _ _ _).drewN _).setCell (p := ⟨b, 2, none⟩) (Nat.le_refl _) (Nat.lt_succ_self _) _⟩
theorem spec_numR (b : Nat) (l : List UInt8) (p : Nat) (ok : Bool) (w : World) (h : Rd b l p ok w) (hl : l.length ≤ 1048576) (hp : p ≤ l.length) : Calls Try.prog 161 #[.pointer (some ⟨b, 0, none⟩)] w (NumS b l p ok w) := by
  cases ok with
  | false =>
    refine (spec_num_bad b l p w h).mono ?_
    rintro e w' ⟨rfl, hr, hm⟩
    exact ⟨0, p, false, rfl, by unfold Fit; omega, hp, hr, (fun h => by cases h), (fun h => by cases h), hm⟩
  | true =>
    refine (spec_num b l p w h hl hp).mono ?_
    rintro e w' ⟨h1, h2, hm⟩
    cases hd : dec 7 (l.drop p) with
    | none =>
      obtain ⟨rfl, q, hq, hr⟩ := h2 hd
      refine ⟨0, q, false, rfl, by unfold Fit; omega, hq, hr, fun _ m r0 hm49 he => ?_, (fun h => by cases h), hm⟩
      obtain ⟨c, h3⟩ := dec_of_put hm49 r0
      rw [← he, hd] at h3; cases h3
    | some x =>
      obtain ⟨v, r, c⟩ := x
      obtain ⟨rfl, hr⟩ := h1 v r c hd
      obtain ⟨pp, hpp, hp0, _⟩ := dec_rest 7 _ v r c hd
      have hvl := dec_lt 7 _ v r c hd
      obtain ⟨k1, k2⟩ := drop_to hpp
      have hlp := congrArg List.length hpp
      rw [List.length_drop, List.length_append] at hlp
      refine ⟨plain v, _, _, rfl, plain_fit (Nat.lt_of_lt_of_le hvl (by decide)), Nat.sub_le _ _, hr, fun _ m r0 hm49 he => ?_, fun hok => ⟨rfl, ?_⟩, hm⟩
      · obtain ⟨c', h3, h4⟩ := dec_put 6 (sgn m) r0 (by unfold F49 at hm49; exact hm49)
        have h5 : dec 7 (l.drop p) = some (sgn m, r0, c') := by rw [he]; exact h3
        rw [hd] at h5
        simp only [Option.some.injEq, Prod.mk.injEq] at h5
        obtain ⟨rfl, rfl, rfl⟩ := h5
        refine ⟨plain_sgn m, k2, ?_⟩
        rcases h4 with ⟨h4, _⟩ | h4
        · rw [h4]; rfl
        · have : (putN m).length = 1 := by unfold putN; rw [putB_lt h4]; rfl
          have h6 := congrArg List.length he
          rw [List.length_drop, List.length_append, this] at h6
          rw [decide_eq_true (by omega)]
          simp
      · rw [k2]
        unfold putN
        rw [sgn_plain]
        refine dec_back2 hd ?_
        rcases Bool.or_eq_true _ _ ▸ hok with h | h
        · exact .inl h
        · refine .inr ?_
          have := of_decide_eq_true h
          rw [List.length_drop]; omega
def CntS (b : Nat) (most : Int) (l : List UInt8) (p : Nat) (ok : Bool) (w : World) (e : Ending) (w' : World) : Prop :=
  ∃ (n : Nat) (q : Nat) (ok' : Bool), e = .returned (.int .i64 n) ∧ (n : Int) ≤ most ∧ q ≤ l.length ∧ Rd b l q ok' w' ∧ (ok = true → ∀ (m : Nat) r0, (m : Int) ≤ most → F49 m → l.drop p = putN m ++ r0 → n = m ∧ l.drop q = r0 ∧ ok' = true) ∧ (ok' = true → ok = true ∧ l.drop p = putN n ++ l.drop q) ∧ Mod b (b + 1) w w'
set_option maxHeartbeats 1000000 in
theorem spec_cntR (b : Nat) (most : Int) (l : List UInt8) (p : Nat) (ok : Bool) (w : World) (h : Rd b l p ok w) (hl : l.length ≤ 1048576) (hp : p ≤ l.length) (hm0 : 0 ≤ most) : Calls Try.prog 111 #[.pointer (some ⟨b, 0, none⟩), .int .i64 most] w (CntS b most l p ok w) := by
  have hN := Lib.hid (spec_numR b l p ok w h hl hp)
  clear h
  go_enter Try.func111, Try.ntmps111
  go_wp2_with fail
  refine hN.out.mono ?_
  rintro e w1 ⟨n, q, ok', rfl, hf, hq, hu, hc, hs, hm⟩
  have Hc := Lib.hid hc
  have Hs := Lib.hid hs
  have Hu := Lib.hid hu
  have c2 := hu.c2
  have f2 := hu.f 2
  clear hc hu hs hN
  by_cases hin : 0 ≤ n ∧ n ≤ most
  · obtain ⟨h1, h2⟩ := hin
    go_wp2_with (go_at_call 140; first | (refine (spec_In_t _ _ _ _ (by omega) (by omega)).mono ?_; rintro e w' ⟨rfl, rfl⟩) | (refine (spec_In_f _ _ _ _ (by omega)).mono ?_; rintro e w' ⟨rfl, rfl⟩))
    go_ret
    obtain ⟨k, rfl⟩ := Int.eq_ofNat_of_zero_le h1
    exact ⟨k, q, ok', rfl, h2, hq, Hu.out, fun h m r0 hm1 hm2 he => by obtain ⟨h3, h4⟩ := Hc.out h m r0 hm2 he; exact ⟨by omega, h4⟩, Hs.out, hm⟩
  · go_wp2_with (go_at_call 140; first | (refine (spec_In_t _ _ _ _ (by omega) (by omega)).mono ?_; rintro e w' ⟨rfl, rfl⟩) | (refine (spec_In_f _ _ _ _ (by omega)).mono ?_; rintro e w' ⟨rfl, rfl⟩))
    go_ret
    exact ⟨0, q, false, rfl, hm0, hq, Hu.out.setOk false, fun h m r0 hm1 hm2 he => by obtain ⟨h3, _⟩ := Hc.out h m r0 hm2 he; exact absurd ⟨by omega, by omega⟩ hin, (fun h => by cases h), hm.setCell (p := ⟨b, 2, none⟩) (Nat.le_refl _) (Nat.lt_succ_self _) _⟩
theorem bs_mid (l : List UInt8) (q n : Nat) : (bs l).extract q (q + n) = bs ((l.drop q).take n) := by
  unfold bs
  rw [ByteArray.extract_mk]
  simp [List.take_drop]
def TxtS (b : Nat) (l : List UInt8) (p : Nat) (ok : Bool) (w : World) (e : Ending) (w' : World) : Prop :=
  ∃ (s : ByteArray) (q : Nat) (ok' : Bool), e = .returned (.string s) ∧ s.size ≤ 12 ∧ q ≤ l.length ∧ Rd b l q ok' w' ∧ (ok = true → ∀ (t : ByteArray) r0, t.size ≤ 12 → l.drop p = textB t ++ r0 → s = t ∧ l.drop q = r0 ∧ ok' = true) ∧ (ok' = true → ok = true ∧ l.drop p = textB s ++ l.drop q) ∧ Mod b (b + 1) w w'
set_option maxHeartbeats 2000000 in
theorem spec_txtR (b : Nat) (l : List UInt8) (p : Nat) (ok : Bool) (w : World) (h : Rd b l p ok w) (hl : l.length ≤ 1048576) (hp : p ≤ l.length) : Calls Try.prog 162 #[.pointer (some ⟨b, 0, none⟩)] w (TxtS b l p ok w) := by
  have hN := Lib.hid (spec_cntR b 12 l p ok w h hl hp (by omega))
  have hsz : (bs l).size = l.length := by simp [bs, ByteArray.size]
  clear h
  go_enter Try.func162, Try.ntmps162
  go_wp2_with fail
  refine hN.out.mono ?_
  rintro e w1 ⟨n, q, ok', rfl, hn, hq, hu, hc, hs, hm⟩
  have Hu := Lib.hid hu
  have c0 := hu.c0
  have c1 := hu.c1
  have c2 := hu.c2
  have f1 := hu.f 1
  have f2 := hu.f 2
  have HM := Lib.hid hm
  have Hs := Lib.hid hs
  have Hc : Hid (ok = true → ∀ (t : ByteArray) r0, t.size ≤ 12 → l.drop p = textB t ++ r0 → n = t.size ∧ l.drop q = t.data.toList ++ r0 ∧ ok' = true) := Lib.hid (fun h t r0 ht he => by
    unfold textB at he
    rw [List.append_assoc] at he
    exact hc h t.size (t.data.toList ++ r0) (by omega) (f49_small (by omega) (by omega)) he)
  clear hc hu hs hm hN
  have hldr : (l.drop q).length = l.length - q := List.length_drop
  cases ok' with
  | false =>
    generalize bs l = s at *
    go_wp2_with fail
    go_quiet (fail)
    go_wp2
    go_ret
    exact ⟨⟨#[]⟩, q, false, rfl, by simp [ByteArray.size], hq, Hu.out.setOk false, (fun h t r0 ht he => by have := (Hc.out h t r0 ht he).2.2; cases this), (fun h => by cases h), (HM.out.drewN _).setCell (p := ⟨b, 2, none⟩) (Nat.le_refl _) (Nat.lt_succ_self _) _⟩
  | true =>
    by_cases hin : q + n ≤ l.length
    · have X1 := Lib.hid (bs_mid l q n)
      have hgt : decide ((l.length : Int) < ((q : Int) + (n : Int))) = false := decide_eq_false (by omega)
      have HA := Lib.hid (Hu.out.setAt (q + n))
      have hsum : IntKind.i64.wrap ((q : Int) + (n : Int)) = ((q + n : Nat) : Int) := by rw [IntWalk.i64_in _ (by omega)]; omega
      have hsub : IntKind.i64.wrap (((q + n : Nat) : Int) - (n : Int)) = (q : Int) := by rw [IntWalk.i64_in _ (by omega)]; omega
      generalize bs l = s at *
      go_wp2_with fail
      go_quiet (fail)
      go_wp2_with fail
      go_quiet (fail)
      go_wp2
      go_ret
      refine ⟨bs ((l.drop q).take n), q + n, true, ret_string X1.out, by simp [bs, ByteArray.size]; omega, hin, HA.out, fun h t r0 ht he => ?_, fun _ => ?_, ((HM.out.drewN _).setCell (p := ⟨b, 1, none⟩) (Nat.le_refl _) (Nat.lt_succ_self _) _).drewN _⟩
      · obtain ⟨h3, h4, h5⟩ := Hc.out h t r0 ht he
        refine ⟨?_, ?_, rfl⟩
        · rw [h4, h3, ← size_data, List.take_left]; rfl
        · rw [← List.drop_drop, h4, h3, ← size_data, List.drop_left]
      · obtain ⟨h1, h2⟩ := Hs.out (by trivial)
        refine ⟨h1, ?_⟩
        rw [h2]
        unfold textB
        have hz : (bs ((l.drop q).take n)).size = n := by simp [bs, ByteArray.size]; omega
        have ht : (bs ((l.drop q).take n)).data.toList = (l.drop q).take n := by simp [bs]
        rw [hz, ht, List.append_assoc, ← List.drop_drop, List.take_append_drop]
    · have hgt : decide ((l.length : Int) < ((q : Int) + (n : Int))) = true := decide_eq_true (by omega)
      have hsum : IntKind.i64.wrap ((q : Int) + (n : Int)) = ((q : Int) + (n : Int)) := by rw [IntWalk.i64_in _ (by omega)]
      generalize bs l = s at *
      go_wp2_with fail
      go_quiet (fail)
      go_wp2
      go_ret
      exact ⟨⟨#[]⟩, q, false, rfl, by simp [ByteArray.size], hq, Hu.out.setOk false, (fun h t r0 ht he => by obtain ⟨h3, h4, _⟩ := Hc.out h t r0 ht he; exfalso; rw [h4, List.length_append, size_data] at hldr; omega), (fun h => by cases h), (HM.out.drewN _).setCell (p := ⟨b, 2, none⟩) (Nat.le_refl _) (Nat.lt_succ_self _) _⟩
set_option maxHeartbeats 1000000 in
theorem spec_whole2 (b : Nat) (l : List UInt8) (p : Nat) (ok : Bool) (w : World) (h : Rd b l p ok w) :
    Calls Try.prog 113 #[.pointer (some ⟨b, 0, none⟩)] w fun e w' => e = .returned (.bool (ok && decide (p = l.length))) ∧ Below w.heap.size w w' := by
  have c0 := h.c0
  have c1 := h.c1
  have c2 := h.c2
  have hsz : (bs l).size = l.length := by simp [bs, ByteArray.size]
  generalize bs l = s at *
  clear h
  cases ok with
  | false =>
    go_enter Try.func113, Try.ntmps113
    go_wp2_with fail
    go_quiet (fail)
    go_wp2
    go_ret
    exact ⟨rfl, below_dN (Below.refl _ _) _⟩
  | true =>
    by_cases he : p = l.length
    · have hd : ((p : Int) == (l.length : Int)) = true := by simp; omega
      rw [decide_eq_true he]
      go_enter Try.func113, Try.ntmps113
      go_wp2_with fail
      go_quiet (fail)
      go_wp2
      go_ret
      exact ⟨rfl, below_dN (Below.refl _ _) _⟩
    · have hd : ((p : Int) == (l.length : Int)) = false := by simp; omega
      rw [decide_eq_false he]
      go_enter Try.func113, Try.ntmps113
      go_wp2_with fail
      go_quiet (fail)
      go_wp2
      go_ret
      exact ⟨rfl, below_dN (Below.refl _ _) _⟩

end Go.Proofs.Ytgbohbjpdmgneaa

namespace Go.Proofs.Ytgbohbjpdmgneaa
open Go.RowKit
theorem Rd.far {b : Nat} {l : List UInt8} {q : Nat} {ok : Bool} {w : World} (h : Rd b l q ok w) {p : Addr} (hp : p.block ≠ b) (u : Value) : Rd b l q ok (w.setCell p u) := (Below.heap_setCell _ _ _ _ (Ne.symm hp)).trans h
theorem Rd.ext {b : Nat} {l : List UInt8} {q : Nat} {ok : Bool} {w w' : World} (h : Rd b l q ok w) (hb : Below w.heap.size w w') : Rd b l q ok w' := (hb.block _ h.lt).trans h
theorem Rd.mod {b lo hi : Nat} {l : List UInt8} {q : Nat} {ok : Bool} {w w' : World} (h : Rd b l q ok w) (hm : Mod lo hi w w') (hp : b < lo ∨ hi ≤ b) : Rd b l q ok w' := (hm.block _ h.lt hp).trans h
def PntS (b : Nat) (l : List UInt8) (p : Nat) (ok : Bool) (w : World) (e : Ending) (w' : World) : Prop :=
  ∃ (x y : Int) (q : Nat) (ok' : Bool), e = .returned (.agg #[.int .i64 x, .int .i64 y]) ∧ (Fit x ∧ Fit y) ∧ q ≤ l.length ∧ Rd b l q ok' w' ∧ (ok = true → ∀ a c r0, F49 a → F49 c → l.drop p = ptB a c ++ r0 → x = a ∧ y = c ∧ l.drop q = r0 ∧ ok' = true) ∧ (ok' = true → ok = true ∧ l.drop p = ptB x y ++ l.drop q) ∧ Mod b (b + 1) w w'
set_option maxHeartbeats 2000000 in
theorem spec_pntR (b : Nat) (l : List UInt8) (p : Nat) (ok : Bool) (w : World) (h : Rd b l p ok w) (hl : l.length ≤ 1048576) (hp : p ≤ l.length) : Calls Try.prog 163 #[.pointer (some ⟨b, 0, none⟩)] w (PntS b l p ok w) := by
  have hbl := h.lt
  have hba : Below w.heap.size w (w.alloc (.cells #[.int .i64 0, .int .i64 0] 46)) := (Below.refl _ _).alloc (Nat.le_refl _) _
  have hx0 := Lib.hid (blkN_new w (.cells #[.int .i64 0, .int .i64 0] 46))
  have hN := Lib.hid (spec_numR b l p ok _ (h.ext hba) hl hp)
  clear h
  go_enter Try.func163, Try.ntmps163
  go_wp2_with fail
  refine hN.out.mono ?_
  rintro e w1 ⟨n, q, ok1, rfl, hf, hq, hu, hc, hs, hm⟩
  have hx1 := Lib.hid ((hm.block w.heap.size (by simp) (.inr (by omega))).trans hx0.out)
  have hN2 := Lib.hid (spec_numR b l q ok1 w1 hu hl hq)
  have Hc := Lib.hid hc
  have Hs := Lib.hid hs
  have M1 := (Mod.of_below (lo := b) (hi := b + 1) hba).trans hm
  clear hc hu hm hN hx0 hs
  go_wp2_with fail
  refine hN2.out.mono ?_
  rintro e w2 ⟨n2, q2, ok2, rfl, hf2, hq2, hu2, hc2, hs2, hm2⟩
  have hx2 := Lib.hid ((hm2.block w.heap.size (Array.getElem?_eq_some_iff.1 hx1.out).1 (.inr (by omega))).trans hx1.out)
  have Hc2 := Lib.hid hc2
  have Hs2 := Lib.hid hs2
  have Hu2 := Lib.hid hu2
  have M2 := M1.trans hm2
  have d0 : w2.cell? ⟨w.heap.size, 0, none⟩ = some _ := (Lib.cell_of_heap hx2.out 0).trans rfl
  have d1 : w2.cell? ⟨w.heap.size, 1, none⟩ = some _ := (Lib.cell_of_heap hx2.out 1).trans rfl
  have df : ∀ j, w2.frozen? ⟨w.heap.size, j, none⟩ = false := fun j => Lib.frozen_of_heap hx2.out j
  clear hc2 hu2 hm2 hN2 M1 hs2
  go_wp2
  exact bodyPost_ret (v := .agg #[.int .i64 n, .int .i64 n2]) (by simp [results, Try.results163, go_sem, d0, d1]) rfl ⟨n, n2, q2, ok2, rfl, ⟨hf, hf2⟩, hq2, (Hu2.out.far (p := ⟨w.heap.size, 0, none⟩) (show w.heap.size ≠ b by omega) _).far (p := ⟨w.heap.size, 1, none⟩) (show w.heap.size ≠ b by omega) _, fun h a c r0 ha hc he => by
    unfold ptB at he
    rw [List.append_assoc] at he
    obtain ⟨h1, h2, h3⟩ := Hc.out h a _ ha he
    obtain ⟨h4, h5, h6⟩ := Hc2.out h3 c r0 hc h2
    exact ⟨h1, h4, h5, h6⟩, fun h => by
    obtain ⟨h1, h2⟩ := Hs2.out h
    obtain ⟨h3, h4⟩ := Hs.out h1
    exact ⟨h3, by unfold ptB; rw [h4, h2, List.append_assoc]⟩, (M2.new (p := ⟨w.heap.size, 0, none⟩) (Nat.le_refl _) _).new (p := ⟨w.heap.size, 1, none⟩) (Nat.le_refl _) _⟩
end Go.Proofs.Ytgbohbjpdmgneaa

namespace Go.Proofs.Ytgbohbjpdmgneaa
open Go.RowKit
theorem endB_iff (l : List UInt8) (c1 c2 : UInt8) : endB l = [c1, c2] ↔ sumOf l = 256 * (c1.toNat : Int) + (c2.toNat : Int) := by
  obtain ⟨m, hm, hb⟩ := sumOf_nat l
  have h1 := c1.toNat_lt
  have h2 := c2.toNat_lt
  unfold endB
  rw [hm, Int.toNat_natCast]
  simp only [List.cons.injEq, and_true]
  constructor
  · rintro ⟨h3, h4⟩
    have h5 := congrArg UInt8.toNat h3
    have h6 := congrArg UInt8.toNat h4
    rw [UInt8.toNat_ofNat'] at h5 h6
    omega
  · intro h
    have h5 : m / 256 = c1.toNat := by omega
    have h6 : m % 256 = c2.toNat := by omega
    rw [h5, h6]
    exact ⟨UInt8.ofNat_toNat, UInt8.ofNat_toNat⟩
theorem cut3 {L : List UInt8} (h : 3 ≤ L.length) : ∃ c l c1 c2, L = c :: (l ++ [c1, c2]) := by
  cases L with
  | nil => simp at h
  | cons c r =>
    have hr : 2 ≤ r.length := by simp only [List.length_cons] at h; omega
    refine ⟨c, r.take (r.length - 2), r[r.length - 2], r[r.length - 1], ?_⟩
    congr 1
    have h1 : r.drop (r.length - 2) = [r[r.length - 2], r[r.length - 1]] := by
      rw [List.drop_eq_getElem_cons (by omega), List.drop_eq_getElem_cons (by omega), List.drop_eq_nil_of_le (by omega)]
      simp only [show r.length - 2 + 1 = r.length - 1 by omega]
    rw [← h1, List.take_append_drop]
def OpenS (kind : UInt8) (L : List UInt8) (w : World) (e : Ending) (w' : World) : Prop :=
  ∃ (l : List UInt8) (ok : Bool), e = .returned (.pointer (some ⟨w.heap.size, 0, none⟩)) ∧ Rd w.heap.size l 0 ok w' ∧ Below w.heap.size w w' ∧ l.length ≤ L.length ∧ ((ok = true ∧ L = kind :: (l ++ endB (kind :: l))) ∨ (ok = false ∧ ∀ l', ¬ L = kind :: (l' ++ endB (kind :: l'))))
theorem rd_zero (w : World) : Rd w.heap.size [] 0 false (w.alloc (.cells #[.string ⟨#[]⟩, .int .i64 0, .bool false] 154)) := by
  unfold Rd World.alloc
  simp [bs]
theorem rd_new2 (l : List UInt8) (w : World) : Rd w.heap.size l 0 true (w.alloc (.cells #[.string (bs l), .int .i64 0, .bool true] 154)) := by
  unfold Rd World.alloc
  simp
set_option maxRecDepth 100000 in
set_option maxHeartbeats 4000000 in
theorem spec_Open (kind : UInt8) (L : List UInt8) (w : World) (hL : L.length ≤ 1048576) : Calls Try.prog 110 #[.string (bs L), .int .u8 kind.toNat] w (OpenS kind L w) := by
  have hsz : (bs L).size = L.length := by simp [bs, ByteArray.size]
  by_cases h3 : L.length < 3
  · have hd : decide ((L.length : Int) < 3) = true := decide_eq_true (by omega)
    have hno : Hid (∀ l', ¬ L = kind :: (l' ++ endB (kind :: l'))) := Lib.hid (fun l' h => by rw [h] at h3; simp [endB] at h3; omega)
    generalize bs L = s at *
    go_enter Try.func110, Try.ntmps110
    go_wp2_with fail
    go_quiet (fail)
    go_wp2
    go_ret
    exact ⟨[], false, rfl, rd_zero _, (below_dN (Below.refl _ _) _).alloc (Nat.le_refl _) _, by simp, .inr ⟨rfl, hno.out⟩⟩
  · have hd : decide ((L.length : Int) < 3) = false := decide_eq_false (by omega)
    obtain ⟨c, l, c1, c2, hc⟩ := cut3 (L := L) (by omega)
    have hlen : L.length = l.length + 3 := by rw [hc]; simp
    have g0 : ∀ h : 0 < (bs L).size, (bs L)[0]'h = c := fun h => by
      have : (bs L)[0]'h = L[0]'(by omega) := rfl
      rw [this]; simp [hc]
    have g1 : ∀ h : l.length + 1 < (bs L).size, (bs L)[l.length + 1]'h = c1 := fun h => by
      have : (bs L)[l.length + 1]'h = L[l.length + 1]'(by omega) := rfl
      rw [this]; simp [hc]
    have g2 : ∀ h : l.length + 2 < (bs L).size, (bs L)[l.length + 2]'h = c2 := fun h => by
      have : (bs L)[l.length + 2]'h = L[l.length + 2]'(by omega) := rfl
      rw [this]; simp [hc]
    have X1 : Hid ((bs L).extract 0 (l.length + 1) = bs (c :: l)) := Lib.hid (by rw [(bs_cut L (l.length + 1)).1, hc]; simp)
    have X2 : Hid ((bs L).extract 1 (l.length + 1) = bs l) := Lib.hid (by
      have := bs_mid L 1 l.length
      rw [Nat.add_comm 1 l.length] at this
      rw [this, hc]; simp)
    have hw1 : IntKind.i64.wrap ((L.length : Int) - 1) = ((l.length + 2 : Nat) : Int) := by rw [IntWalk.i64_in _ (by omega)]; omega
    have hw2 : IntKind.i64.wrap ((L.length : Int) - 2) = ((l.length + 1 : Nat) : Int) := by rw [IntWalk.i64_in _ (by omega)]; omega
    have hinj : Hid (∀ l', L = kind :: (l' ++ endB (kind :: l')) → c = kind ∧ l' = l ∧ endB (kind :: l') = [c1, c2]) := Lib.hid (fun l' h => by
      rw [hc] at h
      obtain ⟨rfl, h4⟩ := List.cons.inj h
      obtain ⟨h5, h6⟩ := List.append_inj' h4 (by simp [endB])
      exact ⟨rfl, h5.symm, h6.symm⟩)
    have hll : l.length ≤ L.length := by omega
    have hq0 : 0 < (bs L).size := by omega
    have hq1 : l.length + 1 < (bs L).size := by omega
    have hq2 : l.length + 2 < (bs L).size := by omega
    have hn0 : 0 < L.length := by omega
    have hn1 : l.length + 1 < L.length := by omega
    have hn2 : l.length + 2 < L.length := by omega
    have hn3 : l.length + 1 ≤ L.length := by omega
    have hn4 : ((l.length + 1 : Nat) : Int) ≤ (L.length : Int) := by omega
    have hn5 : 1 ≤ l.length + 1 := by omega
    have hn6 : (1 : Int) ≤ ((l.length + 1 : Nat) : Int) := by omega
    clear hlen
    by_cases hk : c = kind
    · subst hk
      have hkk : ((c.toNat : Int) == (c.toNat : Int)) = true := by simp
      have hs2 : ∀ w', Calls Try.prog 160 #[.string ((bs L).extract 0 (l.length + 1))] w' fun e w'' => e = .returned (.int .i64 (sumOf (c :: l))) ∧ w' = w'' := fun w' => by
        rw [X1.out]
        exact spec_l27Sum (bs (c :: l)) w' (by have : (bs (c :: l)).size = l.length + 1 := by simp [bs, ByteArray.size]
                                               rw [this]; unfold maxLen; omega)
      have Hs := Lib.hid hs2
      have hc1 := c1.toNat_lt
      have hc2 := c2.toNat_lt
      have hm1 : IntKind.i64.wrap (256 * (c1.toNat : Int)) = 256 * (c1.toNat : Int) := IntWalk.i64_in _ (by omega)
      have hm2 : IntKind.i64.wrap (256 * (c1.toNat : Int) + (c2.toNat : Int)) = 256 * (c1.toNat : Int) + (c2.toNat : Int) := IntWalk.i64_in _ (by omega)
      have hend := Lib.hid (endB_iff (c :: l) c1 c2)
      have Hcc := Lib.hid hc
      clear hs2 hc
      generalize sumOf (c :: l) = S at *
      by_cases hS : S = 256 * (c1.toNat : Int) + (c2.toNat : Int)
      · have hSS : (S == 256 * (c1.toNat : Int) + (c2.toNat : Int)) = true := by simpa using hS
        have hfin : Hid (L = c :: (l ++ endB (c :: l))) := Lib.hid (by rw [hend.out.2 hS]; exact Hcc.out)
        clear hS
        generalize bs L = s at *
        generalize hnn : L.length = n at *
        have Hnn := Lib.hid hnn
        clear hnn
        generalize l.length + 1 = m1 at *
        generalize l.length + 2 = m2 at *
        have k0 := g0 hq0
        have k1 := g1 hq1
        have k2 := g2 hq2
        go_enter Try.func110, Try.ntmps110
        go_wp2_with fail
        go_quiet (first | (go_at_call 160; exact Calls.quiet_of_same (Calls.turn (Hs.out _))))
        go_wp2
        go_ret
        rw [X2.out]
        exact ⟨l, true, rfl, rd_new2 _ _, (below_dN (Below.refl _ _) _).alloc (Nat.le_refl _) _, by rw [Hnn.out]; exact hll, .inl ⟨rfl, hfin.out⟩⟩
      · have hSS : (S == 256 * (c1.toNat : Int) + (c2.toNat : Int)) = false := by simpa using hS
        have hno : Hid (∀ l', ¬ L = c :: (l' ++ endB (c :: l'))) := Lib.hid (fun l' h => by
          obtain ⟨_, rfl, h3⟩ := hinj.out l' h
          exact hS (hend.out.1 h3))
        generalize bs L = s at *
        generalize hnn : L.length = n at *
        have Hnn := Lib.hid hnn
        clear hnn
        generalize l.length + 1 = m1 at *
        generalize l.length + 2 = m2 at *
        have k0 := g0 hq0
        have k1 := g1 hq1
        have k2 := g2 hq2
        go_enter Try.func110, Try.ntmps110
        go_wp2_with fail
        go_quiet (first | (go_at_call 160; exact Calls.quiet_of_same (Calls.turn (Hs.out _))))
        go_wp2
        go_ret
        exact ⟨[], false, rfl, rd_zero _, (below_dN (Below.refl _ _) _).alloc (Nat.le_refl _) _, by simp, .inr ⟨rfl, hno.out⟩⟩
    · have hk1 : ¬ c.toNat = kind.toNat := fun h => hk (UInt8.toNat.inj h)
      have hk2 : ¬ (c.toNat : Int) = (kind.toNat : Int) := by omega
      have hkk : ((c.toNat : Int) == (kind.toNat : Int)) = false := by simpa using hk2
      have hk3 : ((c.toNat : Int) != (kind.toNat : Int)) = true := by simpa using hk2
      have hk4 : (c == kind) = false := by simpa using hk
      have hno : Hid (∀ l', ¬ L = kind :: (l' ++ endB (kind :: l'))) := Lib.hid (fun l' h => hk (hinj.out l' h).1)
      generalize bs L = s at *
      generalize L.length = n at *
      have k0 := g0 hq0
      clear hinj g1 g2 hc
      go_enter Try.func110, Try.ntmps110
      go_wp2_with fail
      go_quiet (fail)
      go_wp2
      go_ret
      exact ⟨[], false, rfl, rd_zero _, (below_dN (Below.refl _ _) _).alloc (Nat.le_refl _) _, by simp, .inr ⟨rfl, hno.out⟩⟩
end Go.Proofs.Ytgbohbjpdmgneaa
