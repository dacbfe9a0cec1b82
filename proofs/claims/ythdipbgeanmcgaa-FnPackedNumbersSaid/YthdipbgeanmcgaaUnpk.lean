/- UnpackNumber, in both packages. -/
import Derived.Test.YthdipbgeanmcgaaUnpS
namespace Go.Proofs.Ythdipbgeanmcgaa
open Go.RowKit

theorem bs_list (s : ByteArray) : bs s.data.toList = s := rfl
theorem good_iff {l : List UInt8} {v : Nat} {r : List UInt8} {c : Bool} (h : dec 7 l = some (v, r, c)) : (r = [] ∧ (c = true ∨ l.length - r.length = 1)) ↔ putB v = l := by
  constructor
  · rintro ⟨rfl, hc⟩
    exact dec_back 7 l v c h hc
  · intro he
    obtain ⟨c', h1, h2⟩ := dec_put 6 v [] (dec_lt 7 l v r c h)
    rw [List.append_nil, he, h] at h1
    simp only [Option.some.injEq, Prod.mk.injEq, true_and] at h1
    obtain ⟨rfl, rfl⟩ := h1
    refine ⟨rfl, ?_⟩
    rcases h2 with ⟨h2, _⟩ | h2
    · exact .inl h2
    · exact .inr (by rw [← he, putB_lt h2]; rfl)
def unpN (l : List UInt8) : Int × Int :=
  match dec 7 l with
  | some (v, _, _) => if InP (plain v) ∧ putB v = l then (plain v, 0) else (0, 8)
  | none => (0, 8)
theorem unpN_none {l : List UInt8} (h : dec 7 l = none) : unpN l = (0, 8) := by unfold unpN; rw [h]
theorem unpN_ok {l : List UInt8} {v : Nat} {r : List UInt8} {c : Bool} (h : dec 7 l = some (v, r, c)) (h1 : InP (plain v)) (h2 : putB v = l) : unpN l = (plain v, 0) := by unfold unpN; rw [h]; exact if_pos ⟨h1, h2⟩
theorem unpN_no {l : List UInt8} {v : Nat} {r : List UInt8} {c : Bool} (h : dec 7 l = some (v, r, c)) (h1 : ¬ (InP (plain v) ∧ putB v = l)) : unpN l = (0, 8) := by unfold unpN; rw [h]; exact if_neg h1

set_option maxHeartbeats 1000000 in
theorem spec_whole (b : Nat) (l : List UInt8) (p : Nat) (ok : Bool) (w : World) (h : Rd b l p ok w) :
    Calls Try.prog 33 #[.pointer (some ⟨b, 0, none⟩)] w fun e w' => e = .returned (.bool (ok && decide (p = l.length))) ∧ Below w.heap.size w w' := by
  have c0 := h.c0
  have c1 := h.c1
  have c2 := h.c2
  have hsz : (bs l).size = l.length := by simp [bs, ByteArray.size]
  generalize bs l = s at *
  clear h
  cases ok with
  | false =>
    go_enter Try.func33, Try.ntmps33
    go_wp2_with fail
    go_quiet (fail)
    go_wp2
    go_ret
    exact ⟨rfl, below_dN (Below.refl _ _) _⟩
  | true =>
    by_cases he : p = l.length
    · have hd : ((p : Int) == (l.length : Int)) = true := by simp; omega
      rw [decide_eq_true he]
      go_enter Try.func33, Try.ntmps33
      go_wp2_with fail
      go_quiet (fail)
      go_wp2
      go_ret
      exact ⟨rfl, below_dN (Below.refl _ _) _⟩
    · have hd : ((p : Int) == (l.length : Int)) = false := by simp; omega
      rw [decide_eq_false he]
      go_enter Try.func33, Try.ntmps33
      go_wp2_with fail
      go_quiet (fail)
      go_wp2
      go_ret
      exact ⟨rfl, below_dN (Below.refl _ _) _⟩

theorem rd_new {T : Nat} {s : ByteArray} {w : World} (hT : T = 52) : Rd w.heap.size s.data.toList 0 true (w.alloc (.cells #[.string s, .int .i64 0, .bool true] T)) := by
  subst hT
  unfold Rd World.alloc
  simp [bs_list]
theorem un_new {T : Nat} {s : ByteArray} {w : World} (hT : T = 57) : Un w.heap.size s.data.toList false (w.alloc (.cells #[.string s, .bool false] T)) := by
  subst hT
  unfold Un World.alloc
  simp [bs_list]

set_option maxHeartbeats 4000000 in
theorem spec_UnpackNumber (s : ByteArray) (w : World) (hs : s.size ≤ 1048576) :
    Calls Try.prog 17 #[.string s] w fun e w' => e = .returned (.tuple #[.int .i64 (unpN s.data.toList).1, .int .i64 (unpN s.data.toList).2]) ∧ Below w.heap.size w w' := by
  have hl : s.data.toList.length ≤ 1048576 := by simpa using hs
  have hnum := spec_num w.heap.size s.data.toList 0 _ (rd_new (s := s) (w := w) rfl) hl (by omega)
  have hwh := Lib.hid (fun b p ok w' h => spec_whole b s.data.toList p ok w' h)
  unfold SNum at hnum
  rw [List.drop_zero] at hnum
  have hB : ∀ {w2 : World}, Mod w.heap.size (w.heap.size + 1) (w.alloc (.cells #[.string s, .int .i64 0, .bool true] 52)) w2 → Below w.heap.size w w2 := fun h => ((Below.refl _ w).alloc (Nat.le_refl _) _).trans (h.below (Nat.le_refl _) (by simp))
  cases hd : dec 7 s.data.toList with
  | none =>
    rw [unpN_none hd]
    rw [hd] at hnum
    have Hnum := Lib.hid hnum
    clear hnum hd
    generalize s.data.toList = l at *
    go_enter Try.func17, Try.ntmps17
    go_wp2_with fail
    refine Hnum.out.mono ?_
    rintro e w2 ⟨-, h2, hm⟩
    obtain ⟨rfl, p, hp, hrd⟩ := h2 (by simp)
    have Hrd := Lib.hid hrd
    have hB1 := hB hm
    clear hrd h2 hm
    go_wp2_with fail
    refine (hwh.out _ _ _ _ Hrd.out).mono ?_
    rintro e w3 ⟨rfl, hB3⟩
    have hB2 := hB1.trans (hB3.mono hB1.size)
    go_wp2
    go_ret2
    exact ⟨rfl, hB2⟩
  | some x =>
    obtain ⟨v, r, c⟩ := x
    have Hnum := Lib.hid (hnum.mono (R' := fun e w' => e = .returned (.int .i64 (plain v)) ∧ Rd w.heap.size s.data.toList (s.data.toList.length - r.length) (c || decide (s.data.toList.length - r.length = 0 + 1)) w' ∧ Mod w.heap.size (w.heap.size + 1) (w.alloc (.cells #[.string s, .int .i64 0, .bool true] 52)) w') (fun e w' h => ⟨(h.1 _ _ _ hd).1, (h.1 _ _ _ hd).2, h.2.2⟩))
    clear hnum
    have hgi := good_iff hd
    obtain ⟨pp, hpp, hp0, -⟩ := dec_rest _ _ _ _ _ hd
    have hlen : s.data.toList.length = pp.length + r.length := by rw [hpp, List.length_append]
    have hwb : ((c || decide (s.data.toList.length - r.length = 0 + 1)) && decide (s.data.toList.length - r.length = s.data.toList.length)) = decide (putB v = s.data.toList) := by
      rw [Bool.eq_iff_iff, decide_eq_true_iff, ← hgi]
      cases r with
      | nil => simp
      | cons x r =>
        rw [decide_eq_false (show ¬ s.data.toList.length - (x :: r).length = s.data.toList.length by rw [List.length_cons] at hlen ⊢; omega)]
        simp
    rw [show (0 : Nat) + 1 = 1 from rfl] at hwb
    by_cases hp : putB v = s.data.toList
    · rw [decide_eq_true hp] at hwb
      by_cases hin : InP (plain v)
      · rw [unpN_ok hd hin hp]
        have Hwb := Lib.hid hwb
        clear hwb hgi hlen hpp hd hp
        generalize s.data.toList = l at *
        obtain ⟨h1, h2⟩ := hin
        generalize plain v = n at *
        go_enter Try.func17, Try.ntmps17
        go_wp2_with fail
        refine Hnum.out.mono ?_
        rintro e w2 ⟨rfl, hrd, hm⟩
        have Hwl := Lib.hid (hwh.out _ _ _ _ hrd)
        have hB1 := hB hm
        rw [Hwb.out] at Hwl
        clear hrd hm
        go_wp2_with fail
        refine Hwl.out.mono ?_
        rintro e w3 ⟨rfl, hB3⟩
        have hB2 := hB1.trans (hB3.mono hB1.size)
        clear Hwl
        go_wp2_with (first | (go_at_call 26; go_in) | (go_at_call 41; go_in))
        go_ret2
        exact ⟨rfl, hB2⟩
      · rw [unpN_no hd fun h => hin h.1]
        have Hwb := Lib.hid hwb
        clear hwb hgi hlen hpp hd hp
        generalize s.data.toList = l at *
        generalize plain v = n at *
        have hcs : (n < -1000000000000 ∧ decide (-1000000000000 ≤ n) = false) ∨ (1000000000000 < n ∧ decide (-1000000000000 ≤ n) = true ∧ decide (n ≤ 1000000000000) = false) := by
          unfold InP at hin
          simp only [decide_eq_false_iff_not, decide_eq_true_eq]
          omega
        clear hin
        rcases hcs with ⟨hc, hc1⟩ | ⟨hc, hc1, hc2⟩
        all_goals
          go_enter Try.func17, Try.ntmps17
          go_wp2_with fail
          refine Hnum.out.mono ?_
          rintro e w2 ⟨rfl, hrd, hm⟩
          have Hwl := Lib.hid (hwh.out _ _ _ _ hrd)
          have hB1 := hB hm
          rw [Hwb.out] at Hwl
          clear hrd hm
          go_wp2_with fail
          refine Hwl.out.mono ?_
          rintro e w3 ⟨rfl, hB3⟩
          have hB2 := hB1.trans (hB3.mono hB1.size)
          clear Hwl
          go_wp2_with (first | (go_at_call 26; go_in) | (go_at_call 41; go_in))
          go_ret2
          exact ⟨rfl, hB2⟩
    · rw [decide_eq_false hp] at hwb
      rw [unpN_no hd fun h => hp h.2]
      have Hwb := Lib.hid hwb
      clear hwb hgi hlen hpp hd hp
      generalize s.data.toList = l at *
      generalize plain v = n at *
      go_enter Try.func17, Try.ntmps17
      go_wp2_with fail
      refine Hnum.out.mono ?_
      rintro e w2 ⟨rfl, hrd, hm⟩
      have Hwl := Lib.hid (hwh.out _ _ _ _ hrd)
      have hB1 := hB hm
      rw [Hwb.out] at Hwl
      clear hrd hm
      go_wp2_with fail
      refine Hwl.out.mono ?_
      rintro e w3 ⟨rfl, hB3⟩
      have hB2 := hB1.trans (hB3.mono hB1.size)
      clear Hwl
      go_wp2_with (first | (go_at_call 26; go_in) | (go_at_call 41; go_in))
      go_ret2
      exact ⟨rfl, hB2⟩

set_option maxHeartbeats 4000000 in
theorem impl_UnpackNumber (s : ByteArray) (w : World) (hs : s.size ≤ 1048576) :
    Calls Try.prog 18 #[.string s] w fun e w' => e = .returned (.tuple #[.int .i64 (unpN s.data.toList).1, .int .i64 (unpN s.data.toList).2]) ∧ Below w.heap.size w w' := by
  have hl : s.data.toList.length ≤ 1048576 := by simpa using hs
  have hnum := impl_num w.heap.size s.data.toList false _ (un_new (s := s) (w := w) rfl) hl
  unfold NumPost at hnum
  have hB : ∀ {w2 : World}, Mod w.heap.size (w.heap.size + 1) (w.alloc (.cells #[.string s, .bool false] 57)) w2 → Below w.heap.size w w2 := fun h => ((Below.refl _ w).alloc (Nat.le_refl _) _).trans (h.below (Nat.le_refl _) (by simp))
  have hUm : ∀ {l : List UInt8} {bad : Bool} {w2 w3 : World}, Un w.heap.size l bad w2 → Below w2.heap.size w2 w3 → Un w.heap.size l bad w3 := fun h hb => (hb.block _ h.lt).trans h
  have hpk := Lib.hid (fun n w' => impl_PackNumber n w')
  cases hd : dec 7 s.data.toList with
  | none =>
    rw [unpN_none hd]
    have Hnum := Lib.hid (hnum.mono (R' := fun e w' => ∃ n r, e = .returned (.int .i64 n) ∧ Un w.heap.size r true w' ∧ Mod w.heap.size (w.heap.size + 1) (w.alloc (.cells #[.string s, .bool false] 57)) w') (fun e w' h => by obtain ⟨n, r, h1, _, h2⟩ := h.2.1 hd; exact ⟨n, r, h1, h2, h.2.2⟩))
    clear hnum hd
    go_enter Try.func18, Try.ntmps18
    go_wp2_with fail
    refine Hnum.out.mono ?_
    rintro e w2 ⟨n, r, rfl, hun, hm⟩
    have hB1 := hB hm
    have Hun := Lib.hid hun
    clear hm hun
    go_wp2_with fail
    refine (hpk.out _ _).mono ?_
    rintro e w3 ⟨rfl, hB3⟩
    generalize (packN n).2 = q at *
    generalize (packN n).1 = Q at *
    have Hun2 := hUm Hun.out hB3
    have c1 := Hun2.c1
    have hB2 := hB1.trans (hB3.mono hB1.size)
    clear Hun2
    go_wp2
    go_ret2
    exact ⟨rfl, hB2⟩
  | some x =>
    obtain ⟨v, r, c⟩ := x
    have Hnum := Lib.hid (hnum.mono (R' := fun e w' => e = .returned (.int .i64 (plain v)) ∧ Un w.heap.size r false w' ∧ Mod w.heap.size (w.heap.size + 1) (w.alloc (.cells #[.string s, .bool false] 57)) w') (fun e w' h => ⟨(h.1 _ _ _ hd).1, (h.1 _ _ _ hd).2, h.2.2⟩))
    clear hnum
    by_cases hin : InP (plain v)
    · have hpk2 := Lib.hid (fun w' => impl_PackNumber (plain v) w')
      rw [packN_in hin, sgn_plain] at hpk2
      by_cases hp : putB v = s.data.toList
      · rw [unpN_ok hd hin hp]
        rw [hp] at hpk2
        clear hin hp hd
        generalize plain v = n at *
        go_enter Try.func18, Try.ntmps18
        go_wp2_with fail
        refine Hnum.out.mono ?_
        rintro e w2 ⟨rfl, hun, hm⟩
        have hB1 := hB hm
        have Hun := Lib.hid hun
        clear hm hun
        go_wp2_with fail
        refine (hpk2.out _).mono ?_
        rintro e w3 ⟨rfl, hB3⟩
        have Hun2 := hUm Hun.out hB3
        have c1 := Hun2.c1
        have hB2 := hB1.trans (hB3.mono hB1.size)
        clear Hun2
        go_wp2
        go_ret2
        exact ⟨rfl, hB2⟩
      · rw [unpN_no hd fun h => hp h.2]
        have hne : ((⟨(putB v).toArray⟩ : ByteArray).toList == s.toList) = false := by
          rw [beq_eq_false_iff_ne]; intro e; exact hp (by simpa [ByteArray.toList_eq] using e)
        generalize (⟨(putB v).toArray⟩ : ByteArray) = t at *
        clear hin hp hd
        generalize plain v = n at *
        go_enter Try.func18, Try.ntmps18
        go_wp2_with fail
        refine Hnum.out.mono ?_
        rintro e w2 ⟨rfl, hun, hm⟩
        have hB1 := hB hm
        have Hun := Lib.hid hun
        clear hm hun
        go_wp2_with fail
        refine (hpk2.out _).mono ?_
        rintro e w3 ⟨rfl, hB3⟩
        have Hun2 := hUm Hun.out hB3
        have c1 := Hun2.c1
        have hB2 := hB1.trans (hB3.mono hB1.size)
        clear Hun2
        go_wp2
        go_ret2
        exact ⟨rfl, hB2⟩
    · have hpk2 := Lib.hid (fun w' => impl_PackNumber (plain v) w')
      rw [packN_out hin] at hpk2
      rw [unpN_no hd fun h => hin h.1]
      clear hin hd
      generalize plain v = n at *
      go_enter Try.func18, Try.ntmps18
      go_wp2_with fail
      refine Hnum.out.mono ?_
      rintro e w2 ⟨rfl, hun, hm⟩
      have hB1 := hB hm
      have Hun := Lib.hid hun
      clear hm hun
      go_wp2_with fail
      refine (hpk2.out _).mono ?_
      rintro e w3 ⟨rfl, hB3⟩
      have Hun2 := hUm Hun.out hB3
      have c1 := Hun2.c1
      have hB2 := hB1.trans (hB3.mono hB1.size)
      clear Hun2
      go_wp2
      go_ret2
      exact ⟨rfl, hB2⟩
end Go.Proofs.Ythdipbgeanmcgaa
