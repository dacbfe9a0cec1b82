/- Decimal numbers, the reference's reading, walked. -/
import Derived.Test.YtmglcdmccikinaaDoorNumS
import Derived.Test.YtmglcdmccikinaaDoorName
namespace Go.Proofs.YtmglcdmccikinaaDoor
open Go.RowKit
theorem getT {T : ByteArray} {k : Nat} (h : k < T.size) : T.data.toList[k]? = some T[k] := by
  rw [List.getElem?_eq_getElem (by rw [Array.length_toList]; exact h)]; rfl
/-- What stands in a text and the rest behind its sign. -/
structure Cut (s T : ByteArray) : Prop where
  list : T.data.toList = unS s.data.toList
  neg : T.size < s.size ↔ ∃ r, s.data.toList = 45 :: r
theorem cut_len {s T : ByteArray} (h : Cut s T) : (unS s.data.toList).length = T.size := by rw [← h.list]; exact Array.length_toList
theorem cut_len_no {s T : ByteArray} (h : Cut s T) (hl : T.size < 1 ∨ 18 < T.size) : ∀ n, ¬ NumOf s n := by
  rintro n ⟨h1, h2⟩
  rw [cut_len h] at h2
  rcases hl with hl | hl
  · have h3 := cut_len h
    rw [← h1, decStr_list, unS_itoa, Lib.decDigits_length] at h3
    have := Lib.nDigits_pos n.natAbs
    omega
  · omega
theorem cut_dig_no {s T : ByteArray} (h : Cut s T) {k : Nat} (hk : k < T.size) (hd : ¬ isDig T[k]) : ∀ n, ¬ NumOf s n := by
  rintro n ⟨h1, h2⟩
  have h3 := h.list
  rw [← h1, decStr_list, unS_itoa] at h3
  have h4 := getT hk
  rw [h3] at h4
  exact hd ((decDigits_val n.natAbs).2 _ (List.mem_of_getElem? h4))
theorem cut_val_no {s T : ByteArray} (h : Cut s T) {v : Nat} (hv : valD 0 T.data.toList = v) {n : Int} (hn : n = if T.size < s.size then -(v : Int) else v) (hne : ¬ decStr n = s) : ∀ m, ¬ NumOf s m := by
  rintro m ⟨h1, h2⟩
  apply hne
  have h3 := h.list
  rw [← h1, decStr_list, unS_itoa] at h3
  rw [h3, (decDigits_val m.natAbs).1] at hv
  have h4 : T.size < s.size ↔ m < 0 := by rw [h.neg, ← h1, decStr_list, itoa_neg_head]
  have h5 : n = m := by
    rw [hn]
    by_cases hm : m < 0
    · rw [if_pos (h4.2 hm)]; omega
    · rw [if_neg (fun x => hm (h4.1 x))]; omega
  rw [h5]; exact h1
theorem cut_yes {s T : ByteArray} (h : Cut s T) (hl : T.size ≤ 18) {n : Int} (hn : decStr n = s) : NumOf s n := ⟨hn, by rw [cut_len h]; exact hl⟩
theorem valD_take {T : ByteArray} {k : Nat} (hk : k < T.size) : valD 0 (T.data.toList.take (k + 1)) = 10 * valD 0 (T.data.toList.take k) + (T[k].toNat - 48) := by
  rw [List.take_add_one, getT hk, valD_append]
  rfl
theorem val_bd {T : ByteArray} {k : Nat} (h18 : T.size ≤ 18) (hk : k ≤ T.size) (hd : ∀ j (h : j < T.size), j < k → isDig T[j]) : valD 0 (T.data.toList.take k) < 1000000000000000000 := by
  have h1 := valD_bd (T.data.toList.take k) 0 (fun c hc => by
    obtain ⟨j, hj, rfl⟩ := List.getElem_of_mem hc
    rw [List.length_take, Array.length_toList] at hj
    have := hd j (by show j < T.data.size; omega) (by omega)
    rw [List.getElem_take]
    exact this)
  have h2 : (T.data.toList.take k).length ≤ 18 := by rw [List.length_take]; omega
  have h3 : (10 : Nat) ^ (T.data.toList.take k).length ≤ 10 ^ 18 := Nat.pow_le_pow_right (by omega) h2
  have h4 : (10 : Nat) ^ 18 = 1000000000000000000 := by decide
  omega
theorem cut_none {s : ByteArray} (h : ∀ r, ¬ s.data.toList = 45 :: r) : Cut s s := by
  refine ⟨?_, ⟨fun h => absurd h (Nat.lt_irrefl _), fun ⟨r, hr⟩ => absurd hr (h r)⟩⟩
  unfold unS
  cases hl : s.data.toList with
  | nil => rfl
  | cons c r =>
    have : ¬ c.toNat = 45 := fun e => h r (by rw [hl]; congr; exact UInt8.toNat_inj.1 e)
    simp [this]
theorem cut_sign {s : ByteArray} {r : List UInt8} (h : s.data.toList = 45 :: r) : Cut s (s.extract 1 s.size) := by
  have hsz : s.size = r.length + 1 := by
    have : s.data.toList.length = s.size := Array.length_toList
    rw [h] at this; simpa using this.symm
  have hl : (s.extract 1 s.size).data.toList = r := by
    rw [ByteArray.data_extract, Array.toList_extract, h]
    simp [List.extract, hsz]
  refine ⟨by rw [hl, h]; rfl, ⟨fun _ => ⟨r, h⟩, fun _ => ?_⟩⟩
  rw [ByteArray.size_extract]
  omega
theorem sm_eqN {s t : ByteArray} (h : s = t) : (s.toList == t.toList) = true := by rw [h]; simp
theorem sm_neN {s t : ByteArray} (h : ¬ s = t) : (s.toList == t.toList) = false := by
  rw [beq_eq_false_iff_ne]
  intro e
  apply h
  have e2 : s.data.toList = t.data.toList := by simpa [ByteArray.toList_eq] using e
  exact ByteArray.ext (Array.toList_inj.1 e2)
set_option maxRecDepth 100000 in
set_option maxHeartbeats 8000000 in
theorem spec_Number (s : ByteArray) (w : World) (hs : s.size ≤ maxLen) : Calls Tryd.prog 10 #[.string s] w fun e w' => e = .returned (.tuple #[.int .i64 (numV s), .bool (numB s)]) ∧ Below w.heap.size w w' := by
  unfold maxLen at hs
  by_cases h0 : s.size = 0
  · obtain rfl : s = ByteArray.empty := by
      apply ByteArray.ext
      exact Array.eq_empty_of_size_eq_zero h0
    have Hr := Lib.hid (num_f (cut_len_no (cut_none (s := ByteArray.empty) (fun r h => by cases h)) (.inl (by decide))))
    go_enter Tryd.func10, Tryd.ntmps10
    go_wp2
    go_ret2
    exact ⟨by rw [Hr.out.1, Hr.out.2]; rfl, Below.refl _ _⟩
  have hem : s.toList.isEmpty = false := by rw [← decide_eq_emptyBytes]; apply decide_eq_false; intro e; rw [e] at h0; exact absurd rfl h0
  have hs0 : 0 < s.size := by omega
  by_cases h45 : s[0].toNat = 45
  · obtain ⟨r, hr⟩ : ∃ r, s.data.toList = 45 :: r := by
      have h1 := getT (T := s) hs0
      cases hl : s.data.toList with
      | nil => rw [hl] at h1; simp at h1
      | cons c r =>
        rw [hl] at h1
        simp at h1
        exact ⟨r, by rw [show c = 45 from h1.trans (UInt8.toNat_inj.1 h45)]⟩
    have hC := cut_sign hr
    have hneg := hC.neg.2 ⟨r, hr⟩
    have hz : (s.extract 1 s.size).size = s.size - 1 := by rw [ByteArray.size_extract]; omega
    obtain ⟨T, hT⟩ : ∃ T, s.extract 1 s.size = T := ⟨_, rfl⟩
    rw [hT] at hC hneg hz
    have HC := Lib.hid hC
    have hq : ((s[0].toNat : Int) == 45) = true := by rw [beq_iff_eq]; omega
    have hlt : decide ((T.size : Int) < (s.size : Int)) = true := decide_eq_true (by omega)
    have Hsel := Lib.hid (show ∀ v : Nat, (if T.size < s.size then -(v : Int) else v) = -(v : Int) from fun v => if_pos hneg)
    clear hr hC h45
    by_cases hlen : T.size < 1 ∨ 18 < T.size
    · have Hr := Lib.hid (num_f (cut_len_no HC.out hlen))
      rcases hlen with h1 | h1
      · have h2 : T.size = 0 := by omega
        go_enter Tryd.func10, Tryd.ntmps10
        go_wp2
        go_ret2
        exact ⟨by rw [Hr.out.1, Hr.out.2]; rfl, Below.refl _ _⟩
      · have h2 : ¬ T.size = 0 := by omega
        go_enter Tryd.func10, Tryd.ntmps10
        go_wp2
        go_ret2
        exact ⟨by rw [Hr.out.1, Hr.out.2]; rfl, Below.refl _ _⟩
    have h1 : 1 ≤ T.size ∧ T.size ≤ 18 := by omega
    obtain ⟨h1, h18⟩ := h1
    clear hlen
    go_enter Tryd.func10, Tryd.ntmps10
    go_wp2
    go_loopw [5, 6] (fun n i wr => ∃ k : Nat, k ≤ T.size ∧ i = .int .i64 k ∧ n = .int .i64 ((valD 0 (T.data.toList.take k) : Nat) : Int) ∧ Below w.heap.size w wr ∧ Hid (∀ j (h : j < T.size), j < k → isDig T[j])) (fun _ i _ => T.size - (intOf i).toNat)
    case atStart => exact ⟨0, Nat.zero_le _, rfl, by simp [valD], Below.refl _ _, Lib.hid (fun _ _ h => absurd h (by omega))⟩
    case round =>
      obtain ⟨k, hk, rfl, rfl, hB, hd⟩ := hrel
      by_cases hkl : k < T.size
      · have hbd := val_bd h18 hk hd.out
        have Hv := Lib.hid (valD_take hkl)
        have Hno := Lib.hid (fun h => num_f (cut_dig_no HC.out hkl h))
        have Hst : Hid (isDig T[k] → ∀ j (h : j < T.size), j < k + 1 → isDig T[j]) := Lib.hid (fun h j hj hjk => by
          by_cases e : j < k
          · exact hd.out j hj e
          · have : j = k := by omega
            subst this; exact h)
        have Hbd2 : Hid (isDig T[k] → 10 * valD 0 (T.data.toList.take k) + (T[k].toNat - 48) < 1000000000000000000) := Lib.hid (fun h => by
          rw [← Hv.out]; exact val_bd h18 hkl (Hst.out h))
        have hc256 : T[k].toNat < 256 := T[k].toNat_lt
        generalize valD 0 (T.data.toList.take k) = v at *
        by_cases hdig : isDig T[k]
        · have Hd := Lib.hid (Hst.out hdig)
          have hbd2 := Hbd2.out hdig
          unfold isDig at hdig
          obtain ⟨d1, d2⟩ := hdig
          have hw1 : IntKind.u8.wrap ((T[k].toNat : Int) - 48) = ((T[k].toNat - 48 : Nat) : Int) := by unfold IntKind.wrap; simp [IntKind.bits, IntKind.signed]; omega
          have hw2 : IntKind.i64.wrap (10 * (v : Int)) = 10 * (v : Int) := IntWalk.i64_in _ (by omega)
          have hw3 : IntKind.i64.wrap (10 * (v : Int) + ((T[k].toNat - 48 : Nat) : Int)) = 10 * (v : Int) + ((T[k].toNat - 48 : Nat) : Int) := IntWalk.i64_in _ (by omega)
          clear Hst Hno Hbd2 hbd2
          go_wp2_with (go_at_call 20; refine (spec_digit_t _ _ ⟨d1, d2⟩).mono ?_; rintro e w' ⟨rfl, rfl⟩)
          go_roundw
          case rel => exact ⟨k + 1, by omega, by go_num, by first | (rw [Hv.out]; done) | (rw [Hv.out]; congr 1; done) | (rw [Hv.out]; congr 1; omega), hB, Hd⟩
          case measure => simp [intOf]; omega
        · have Hr := Lib.hid (Hno.out hdig)
          have hdig' : T[k].toNat < 48 ∨ 57 < T[k].toNat := by unfold isDig at hdig; omega
          clear hdig
          go_wp2_with (go_at_call 20; refine (spec_digit_f _ _ hdig').mono ?_; rintro e w' ⟨rfl, rfl⟩)
          go_ret2
          exact ⟨by rw [Hr.out.1, Hr.out.2]; rfl, hB⟩
      · have : k = T.size := by omega
        subst this
        have e : T.data.toList.take T.size = T.data.toList := List.take_of_length_le (Nat.le_of_eq Array.length_toList)
        have hbd := val_bd h18 (Nat.le_refl _) hd.out
        rw [e] at hbd ⊢
        have HN := Lib.hid (fun hn => cut_val_no HC.out (v := valD 0 T.data.toList) rfl (n := (-((valD 0 T.data.toList : Nat) : Int))) (by rw [Hsel.out]) hn)
        have HY := Lib.hid (fun hn => cut_yes HC.out h18 (n := (-((valD 0 T.data.toList : Nat) : Int))) hn)
        have HDec := Lib.hid (fun w' => spec_Dec (-((valD 0 T.data.toList : Nat) : Int)) w' ⟨by omega, by omega⟩)
        generalize valD 0 T.data.toList = v at *
        by_cases hres : decStr (-(v : Int)) = s
        · have Hr := Lib.hid (num_t (HY.out hres))
          have hne := sm_eqN hres
          clear HN HY hres
          go_wp2_with (go_at_call 21; refine (HDec.out _).mono ?_; rintro e w2 ⟨rfl, hb2⟩)
          go_ret2
          exact ⟨by rw [Hr.out.1, Hr.out.2]; rfl, hB.trans (hb2.mono hB.size)⟩
        · have Hr := Lib.hid (num_f (HN.out hres))
          have hne := sm_neN hres
          clear HN HY hres
          go_wp2_with (go_at_call 21; refine (HDec.out _).mono ?_; rintro e w2 ⟨rfl, hb2⟩)
          go_ret2
          exact ⟨by rw [Hr.out.1, Hr.out.2]; rfl, hB.trans (hb2.mono hB.size)⟩
  · have hC : Cut s s := cut_none (fun r h => h45 (by
      have h1 := getT (T := s) hs0
      rw [h] at h1
      simp at h1
      rw [← h1]; rfl))
    have HC := Lib.hid hC
    have hq : ((s[0].toNat : Int) == 45) = false := by rw [beq_eq_false_iff_ne]; omega
    have Hsel := Lib.hid (show ∀ v : Nat, (if s.size < s.size then -(v : Int) else v) = (v : Int) from fun v => if_neg (Nat.lt_irrefl _))
    clear hC h45
    by_cases hlen : s.size < 1 ∨ 18 < s.size
    · have Hr := Lib.hid (num_f (cut_len_no HC.out hlen))
      rcases hlen with h1 | h1
      · omega
      · have h2 : ¬ s.size = 0 := by omega
        go_enter Tryd.func10, Tryd.ntmps10
        go_wp2
        go_ret2
        exact ⟨by rw [Hr.out.1, Hr.out.2]; rfl, Below.refl _ _⟩
    have h1 : 1 ≤ s.size ∧ s.size ≤ 18 := by omega
    obtain ⟨h1, h18⟩ := h1
    clear hlen
    go_enter Tryd.func10, Tryd.ntmps10
    go_wp2
    go_loopw [5, 6] (fun n i wr => ∃ k : Nat, k ≤ s.size ∧ i = .int .i64 k ∧ n = .int .i64 ((valD 0 (s.data.toList.take k) : Nat) : Int) ∧ Below w.heap.size w wr ∧ Hid (∀ j (h : j < s.size), j < k → isDig s[j])) (fun _ i _ => s.size - (intOf i).toNat)
    case atStart => exact ⟨0, Nat.zero_le _, rfl, by simp [valD], Below.refl _ _, Lib.hid (fun _ _ h => absurd h (by omega))⟩
    case round =>
      obtain ⟨k, hk, rfl, rfl, hB, hd⟩ := hrel
      by_cases hkl : k < s.size
      · have hbd := val_bd h18 hk hd.out
        have Hv := Lib.hid (valD_take hkl)
        have Hno := Lib.hid (fun h => num_f (cut_dig_no HC.out hkl h))
        have Hst : Hid (isDig s[k] → ∀ j (h : j < s.size), j < k + 1 → isDig s[j]) := Lib.hid (fun h j hj hjk => by
          by_cases e : j < k
          · exact hd.out j hj e
          · have : j = k := by omega
            subst this; exact h)
        have Hbd2 : Hid (isDig s[k] → 10 * valD 0 (s.data.toList.take k) + (s[k].toNat - 48) < 1000000000000000000) := Lib.hid (fun h => by
          rw [← Hv.out]; exact val_bd h18 hkl (Hst.out h))
        have hc256 : s[k].toNat < 256 := s[k].toNat_lt
        generalize valD 0 (s.data.toList.take k) = v at *
        by_cases hdig : isDig s[k]
        · have Hd := Lib.hid (Hst.out hdig)
          have hbd2 := Hbd2.out hdig
          unfold isDig at hdig
          obtain ⟨d1, d2⟩ := hdig
          have hw1 : IntKind.u8.wrap ((s[k].toNat : Int) - 48) = ((s[k].toNat - 48 : Nat) : Int) := by unfold IntKind.wrap; simp [IntKind.bits, IntKind.signed]; omega
          have hw2 : IntKind.i64.wrap (10 * (v : Int)) = 10 * (v : Int) := IntWalk.i64_in _ (by omega)
          have hw3 : IntKind.i64.wrap (10 * (v : Int) + ((s[k].toNat - 48 : Nat) : Int)) = 10 * (v : Int) + ((s[k].toNat - 48 : Nat) : Int) := IntWalk.i64_in _ (by omega)
          clear Hst Hno Hbd2 hbd2
          go_wp2_with (go_at_call 20; refine (spec_digit_t _ _ ⟨d1, d2⟩).mono ?_; rintro e w' ⟨rfl, rfl⟩)
          go_roundw
          case rel => exact ⟨k + 1, by omega, by go_num, by first | (rw [Hv.out]; done) | (rw [Hv.out]; congr 1; done) | (rw [Hv.out]; congr 1; omega), hB, Hd⟩
          case measure => simp [intOf]; omega
        · have Hr := Lib.hid (Hno.out hdig)
          have hdig' : s[k].toNat < 48 ∨ 57 < s[k].toNat := by unfold isDig at hdig; omega
          clear hdig
          go_wp2_with (go_at_call 20; refine (spec_digit_f _ _ hdig').mono ?_; rintro e w' ⟨rfl, rfl⟩)
          go_ret2
          exact ⟨by rw [Hr.out.1, Hr.out.2]; rfl, hB⟩
      · have : k = s.size := by omega
        subst this
        have e : s.data.toList.take s.size = s.data.toList := List.take_of_length_le (Nat.le_of_eq Array.length_toList)
        have hbd := val_bd h18 (Nat.le_refl _) hd.out
        rw [e] at hbd ⊢
        have HN := Lib.hid (fun hn => cut_val_no HC.out (v := valD 0 s.data.toList) rfl (n := ((valD 0 s.data.toList : Nat) : Int)) (by rw [Hsel.out]) hn)
        have HY := Lib.hid (fun hn => cut_yes HC.out h18 (n := ((valD 0 s.data.toList : Nat) : Int)) hn)
        have HDec := Lib.hid (fun w' => spec_Dec ((valD 0 s.data.toList : Nat) : Int) w' ⟨by omega, by omega⟩)
        generalize valD 0 s.data.toList = v at *
        by_cases hres : decStr ((v : Int)) = s
        · have Hr := Lib.hid (num_t (HY.out hres))
          have hne := sm_eqN hres
          clear HN HY hres
          go_wp2_with (go_at_call 21; refine (HDec.out _).mono ?_; rintro e w2 ⟨rfl, hb2⟩)
          go_ret2
          exact ⟨by rw [Hr.out.1, Hr.out.2]; rfl, hB.trans (hb2.mono hB.size)⟩
        · have Hr := Lib.hid (num_f (HN.out hres))
          have hne := sm_neN hres
          clear HN HY hres
          go_wp2_with (go_at_call 21; refine (HDec.out _).mono ?_; rintro e w2 ⟨rfl, hb2⟩)
          go_ret2
          exact ⟨by rw [Hr.out.1, Hr.out.2]; rfl, hB.trans (hb2.mono hB.size)⟩
end Go.Proofs.YtmglcdmccikinaaDoor
