/- ReadHex, in both packages. -/
import Derived.Test.YthdipbgeanmcgaaHex
namespace Go.Proofs.Ythdipbgeanmcgaa
open Go.RowKit

def digV (c : UInt8) : Int := if 48 ≤ c.toNat ∧ c.toNat ≤ 57 then (c.toNat : Int) - 48 else if 97 ≤ c.toNat ∧ c.toNat ≤ 102 then (c.toNat : Int) - 97 + 10 else -1
theorem digV_cases (c : UInt8) : (48 ≤ c.toNat ∧ c.toNat ≤ 57 ∧ digV c = (c.toNat : Int) - 48) ∨ (97 ≤ c.toNat ∧ c.toNat ≤ 102 ∧ digV c = (c.toNat : Int) - 97 + 10) ∨ (c.toNat < 48 ∧ digV c = -1) ∨ (57 < c.toNat ∧ c.toNat < 97 ∧ digV c = -1) ∨ (102 < c.toNat ∧ digV c = -1) := by
  unfold digV
  by_cases h1 : 48 ≤ c.toNat ∧ c.toNat ≤ 57
  · rw [if_pos h1]; omega
  · rw [if_neg h1]
    by_cases h2 : 97 ≤ c.toNat ∧ c.toNat ≤ 102
    · rw [if_pos h2]; omega
    · rw [if_neg h2]; omega
theorem digV_lt (c : UInt8) : -1 ≤ digV c ∧ digV c ≤ 15 := by
  rcases digV_cases c with h | h | h | h | h <;> omega
theorem index_dig (c : UInt8) : Lib.indexByte digL c = digV c := by
  set_option maxRecDepth 100000 in
  have h : ∀ n : Fin 256, Lib.indexByte digL (UInt8.ofNat n.val) = digV (UInt8.ofNat n.val) := by decide
  have := h ⟨c.toNat, c.toNat_lt⟩
  simpa using this

def at8 (s : ByteArray) (i : Nat) : UInt8 := s.data.toList.getD i 0
theorem at8_eq {s : ByteArray} {i : Nat} (h : i < s.size) : s[i] = at8 s i := by
  unfold at8
  have h' : i < s.data.toList.length := by simpa using h
  rw [List.getD_eq_getElem?_getD, List.getElem?_eq_getElem h']
  simp; rfl
def okP (s : ByteArray) (k : Nat) : Bool := decide (0 ≤ digV (at8 s (2 * k))) && decide (0 ≤ digV (at8 s (2 * k + 1)))
def byteP (s : ByteArray) (k : Nat) : UInt8 := UInt8.ofNat (16 * digV (at8 s (2 * k)) + digV (at8 s (2 * k + 1))).toNat
def readHex (s : ByteArray) : List UInt8 × Bool := if s.size % 2 = 0 ∧ (List.range (s.size / 2)).all (okP s) = true then ((List.range (s.size / 2)).map (byteP s), true) else ([], false)
theorem readHex_odd {s : ByteArray} (h : ¬ s.size % 2 = 0) : readHex s = ([], false) := if_neg fun h' => h h'.1
theorem readHex_bad {s : ByteArray} {k : Nat} (hk : k < s.size / 2) (h : okP s k = false) : readHex s = ([], false) :=
  if_neg fun h' => by
    have := List.all_eq_true.1 h'.2 k (List.mem_range.2 hk)
    rw [h] at this; cases this
theorem readHex_end {s : ByteArray} (h : s.size % 2 = 0) (hall : ∀ k, k < s.size / 2 → okP s k = true) : readHex s = ((List.range (s.size / 2)).map (byteP s), true) :=
  if_pos ⟨h, List.all_eq_true.2 fun k hk => hall k (List.mem_range.1 hk)⟩
theorem byteP_val {s : ByteArray} {k : Nat} (h1 : 0 ≤ digV (at8 s (2 * k))) (h2 : 0 ≤ digV (at8 s (2 * k + 1))) : ((byteP s k).toNat : Int) = 16 * digV (at8 s (2 * k)) + digV (at8 s (2 * k + 1)) := by
  have := digV_lt (at8 s (2 * k)); have := digV_lt (at8 s (2 * k + 1))
  unfold byteP
  rw [UInt8.toNat_ofNat']
  omega
theorem map_range_succ {α : Type} (f : Nat → α) (k : Nat) : (List.range (k + 1)).map f = (List.range k).map f ++ [f k] := by rw [List.range_succ, List.map_append]; rfl

set_option maxHeartbeats 1000000 in
theorem spec_digit (c : UInt8) (w : World) : Calls Try.prog 30 #[.int .u8 c.toNat] w fun e w' => e = .returned (.int .i64 (digV c)) ∧ w' = w := by
  have h := digV_cases c
  have hlt := c.toNat_lt
  generalize digV c = d at *
  generalize c.toNat = n at *
  rcases h with ⟨h1, h2, rfl⟩ | ⟨h1, h2, rfl⟩ | ⟨h1, rfl⟩ | ⟨h1, h2, rfl⟩ | ⟨h1, rfl⟩
  all_goals
    go_enter Try.func30, Try.ntmps30
    go_wp2
    go_ret
    exact ⟨rfl, rfl⟩

theorem impl_digit (c : UInt8) (w : World) : Calls Try.prog 31 #[.string ⟨#[48, 49, 50, 51, 52, 53, 54, 55, 56, 57, 97, 98, 99, 100, 101, 102]⟩, .int .u8 c.toNat] w fun e w' => e = .returned (.int .i64 (digV c)) ∧ w' = w := by
  refine (strings_indexByte _ c.toNat w).mono ?_
  rintro e w' ⟨rfl, rfl⟩
  refine ⟨ret_int ?_, rfl⟩
  have h : ((c.toNat : Int).toNat.toUInt8) = c := by simp
  rw [h]
  exact index_dig c

theorem pair_cases (s : ByteArray) (k : Nat) : (digV (at8 s (2 * k)) < 0 ∧ okP s k = false) ∨ (0 ≤ digV (at8 s (2 * k)) ∧ digV (at8 s (2 * k + 1)) < 0 ∧ okP s k = false) ∨ (0 ≤ digV (at8 s (2 * k)) ∧ 0 ≤ digV (at8 s (2 * k + 1)) ∧ okP s k = true) := by
  unfold okP
  by_cases h1 : 0 ≤ digV (at8 s (2 * k))
  · by_cases h2 : 0 ≤ digV (at8 s (2 * k + 1))
    · exact .inr (.inr ⟨h1, h2, by simp [h1, h2]⟩)
    · exact .inr (.inl ⟨h1, by omega, by simp [h2]⟩)
  · exact .inl ⟨by omega, by simp [h1]⟩

set_option maxRecDepth 100000 in
set_option maxHeartbeats 4000000 in
theorem spec_ReadHex (s : ByteArray) (w : World) (hs : s.size ≤ 1048576) :
    Calls Try.prog 15 #[.string s] w fun e w' => e = .returned (.tuple #[.string ⟨(readHex s).1.toArray⟩, .bool (readHex s).2]) ∧ Below w.heap.size w w' := by
  by_cases hodd : s.size % 2 = 0
  case neg =>
    have hr := readHex_odd hodd
    have Hr := Lib.hid hr
    clear hr
    generalize readHex s = R at *
    have h1 : (s.size : Int).tmod 2 = 1 := by rw [Int.tmod_eq_emod_of_nonneg (by omega)]; omega
    go_enter Try.func15, Try.ntmps15
    go_wp2
    go_ret2
    exact ⟨by rw [Hr.out]; rfl, Below.refl _ _⟩
  have h1 : (s.size : Int).tmod 2 = 0 := by rw [Int.tmod_eq_emod_of_nonneg (by omega)]; omega
  have Hbad := Lib.hid (fun k hk h => readHex_bad (s := s) (k := k) hk h)
  have Hend := Lib.hid (fun h => readHex_end (s := s) hodd h)
  have hown0 := own_empty (α := UInt8) (n := 1) (c := byteC) w 5 w.heap.size (Nat.le_refl _)
  generalize readHex s = R at *
  go_enter Try.func15, Try.ntmps15
  go_wp2
  go_loopw [4, 5] (fun v i wr => ∃ k n : Nat, Hid (n = 2 * k) ∧ k ≤ s.size / 2 ∧ i = .int .i64 n ∧ Below w.heap.size w wr ∧ Hid (Own 1 byteC w.heap.size 5 wr v ((List.range k).map (byteP s))) ∧ Hid (∀ j, j < k → okP s j = true)) (fun _ i _ => s.size - (intOf i).toNat)
  case atStart => exact ⟨0, 0, Lib.hid rfl, Nat.zero_le _, rfl, (Below.refl _ _).alloc (Nat.le_refl _) _, Lib.hid hown0, Lib.hid (fun j h => absurd h (by omega))⟩
  case round =>
    obtain ⟨k, n, hn, hk, rfl, hB, hown, hall⟩ := hrel
    have hBs := hB.size
    by_cases hlt : n < s.size
    · have hlt2 : n + 1 < s.size := by have := hn.out; omega
      have hkk : k < s.size / 2 := by have := hn.out; omega
      have hnext := Lib.hid (map_range_succ (byteP s) k)
      have hlen : ((List.range k).map (byteP s)).length ≤ 1048576 := by simp; omega
      have e1 : s[n] = at8 s (2 * k) := by rw [at8_eq hlt, hn.out]
      have e2 : s[n + 1] = at8 s (2 * k + 1) := by rw [at8_eq hlt2, hn.out]
      have hcs : (digV s[n] < 0 ∧ okP s k = false) ∨ (0 ≤ digV s[n] ∧ digV s[n + 1] < 0 ∧ okP s k = false) ∨ (0 ≤ digV s[n] ∧ 0 ≤ digV s[n + 1] ∧ okP s k = true) := by rw [e1, e2]; exact pair_cases s k
      have hv : 0 ≤ digV s[n] → 0 ≤ digV s[n + 1] → ((byteP s k).toNat : Int) = 16 * digV s[n] + digV s[n + 1] := by rw [e1, e2]; exact byteP_val
      clear e1 e2
      have hb1 := digV_lt s[n]
      have hb2 := digV_lt s[n + 1]
      have hd1 := Lib.hid (fun w' => spec_digit s[n] w')
      have hd2 := Lib.hid (fun w' => spec_digit s[n + 1] w')
      generalize (List.range k).map (byteP s) = lk at *
      generalize byteP s k = y at *
      generalize digV s[n] = d1 at *
      generalize digV s[n + 1] = d2 at *
      rcases hcs with ⟨q1, q2⟩ | ⟨q1, q2, q3⟩ | ⟨q1, q2, q3⟩
      · have Hr := Lib.hid (Hbad.out k hkk q2)
        clear q2 hv
        go_wp2_with fail
        refine (hd1.out _).mono ?_
        rintro e w1 ⟨rfl, rfl⟩
        go_wp2_with fail
        refine (hd2.out _).mono ?_
        rintro e w1 ⟨rfl, rfl⟩
        go_wp2
        go_ret2
        exact ⟨by rw [Hr.out]; rfl, hB⟩
      · have Hr := Lib.hid (Hbad.out k hkk q3)
        clear q3 hv
        go_wp2_with fail
        refine (hd1.out _).mono ?_
        rintro e w1 ⟨rfl, rfl⟩
        go_wp2_with fail
        refine (hd2.out _).mono ?_
        rintro e w1 ⟨rfl, rfl⟩
        go_wp2
        go_ret2
        exact ⟨by rw [Hr.out]; rfl, hB⟩
      · have hy := hv q1 q2
        have Hq := Lib.hid q3
        clear q3 hv
        have hwr : IntKind.u8.wrap (16 * d1 + d2) = (y.toNat : Int) := by rw [IntWalk.u8_in _ (by omega)]; exact hy.symm
        have Hy := Lib.hid hy
        clear hy
        go_wp2_with fail
        refine (hd1.out _).mono ?_
        rintro e w1 ⟨rfl, rfl⟩
        go_wp2_with fail
        refine (hd2.out _).mono ?_
        rintro e w1 ⟨rfl, rfl⟩
        go_wp2_with (at_builtin; refine wpList_app1 (c := byteC) (bytes := 1) rfl _ _ 32 5 rfl Try.underlying32 info_uint8 (by omega) byteC_len byteC_one w.heap.size lk y _ rfl _ rfl hown.out rfl (by omega) (by omega) hBs ?_; intro v' w3 hown3 hg3; have hB3 := hown.out.app hB (Nat.le_refl _) hBs hg3)
        go_roundw
        case rel => exact ⟨k + 1, n + 2, Lib.hid (by have := hn.out; omega), by omega, by go_num, hB3, Lib.hid (by rw [hnext.out]; exact hown3), Lib.hid (fun j hj => by
          by_cases h : j = k
          · rw [h]; exact Hq.out
          · exact hall.out j (by omega))⟩
        case measure => simp [intOf]; omega
    · have hkk : k = s.size / 2 := by have := hn.out; omega
      subst hkk
      have Hr := Lib.hid (Hend.out hall.out)
      have hcv := bytes_str hown.out
      generalize (List.range (s.size / 2)).map (byteP s) = lk at *
      clear hown hall Hend
      go_wp2
      go_ret2
      exact ⟨by rw [Hr.out]; rfl, hB⟩

set_option maxRecDepth 100000 in
set_option maxHeartbeats 4000000 in
theorem impl_ReadHex (s : ByteArray) (w : World) (hs : s.size ≤ 1048576) :
    Calls Try.prog 16 #[.string s] w fun e w' => e = .returned (.tuple #[.string ⟨(readHex s).1.toArray⟩, .bool (readHex s).2]) ∧ Below w.heap.size w w' := by
  by_cases hodd : s.size % 2 = 0
  case neg =>
    have hr := readHex_odd hodd
    have Hr := Lib.hid hr
    clear hr
    generalize readHex s = R at *
    have h1 : (s.size : Int).tmod 2 = 1 := by rw [Int.tmod_eq_emod_of_nonneg (by omega)]; omega
    go_enter Try.func16, Try.ntmps16
    go_wp2
    go_ret2
    exact ⟨by rw [Hr.out]; rfl, Below.refl _ _⟩
  have h1 : (s.size : Int).tmod 2 = 0 := by rw [Int.tmod_eq_emod_of_nonneg (by omega)]; omega
  have Hbad := Lib.hid (fun k hk h => readHex_bad (s := s) (k := k) hk h)
  have Hend := Lib.hid (fun h => readHex_end (s := s) hodd h)
  have hB0 := bd_new (T := 38) (Nat.le_refl w.heap.size)
  generalize readHex s = R at *
  go_enter Try.func16, Try.ntmps16
  go_wp2
  go_loopw [5] (fun i wr => ∃ k n : Nat, Hid (n = 2 * k) ∧ k ≤ s.size / 2 ∧ i = .int .i64 n ∧ Below w.heap.size w wr ∧ Hid (Bd 38 w.heap.size w.heap.size ((List.range k).map (byteP s)) wr) ∧ Hid (∀ j, j < k → okP s j = true)) (fun i _ => s.size - (intOf i).toNat)
  case atStart => exact ⟨0, 0, Lib.hid rfl, Nat.zero_le _, rfl, (Below.refl _ _).alloc (Nat.le_refl _) _, Lib.hid hB0, Lib.hid (fun j h => absurd h (by omega))⟩
  case round =>
    obtain ⟨k, n, hn, hk, rfl, hB, hown, hall⟩ := hrel
    have hBs := hB.size
    by_cases hlt : n < s.size
    · have hlt2 : n + 1 < s.size := by have := hn.out; omega
      have hkk : k < s.size / 2 := by have := hn.out; omega
      have hnext := Lib.hid (map_range_succ (byteP s) k)
      have hlen : ((List.range k).map (byteP s)).length ≤ 1048576 := by simp; omega
      have e1 : s[n] = at8 s (2 * k) := by rw [at8_eq hlt, hn.out]
      have e2 : s[n + 1] = at8 s (2 * k + 1) := by rw [at8_eq hlt2, hn.out]
      have hcs : (digV s[n] < 0 ∧ okP s k = false) ∨ (0 ≤ digV s[n] ∧ digV s[n + 1] < 0 ∧ okP s k = false) ∨ (0 ≤ digV s[n] ∧ 0 ≤ digV s[n + 1] ∧ okP s k = true) := by rw [e1, e2]; exact pair_cases s k
      have hv : 0 ≤ digV s[n] → 0 ≤ digV s[n + 1] → ((byteP s k).toNat : Int) = 16 * digV s[n] + digV s[n + 1] := by rw [e1, e2]; exact byteP_val
      clear e1 e2
      have hb1 := digV_lt s[n]
      have hb2 := digV_lt s[n + 1]
      have hd1 := Lib.hid (fun w' => impl_digit s[n] w')
      have hd2 := Lib.hid (fun w' => impl_digit s[n + 1] w')
      generalize (List.range k).map (byteP s) = lk at *
      generalize byteP s k = y at *
      generalize digV s[n] = d1 at *
      generalize digV s[n + 1] = d2 at *
      have hadd1 : IntKind.i64.wrap ((n : Int) + 1) = (n : Int) + 1 := IntWalk.i64_in _ (by omega)
      rcases hcs with ⟨q1, q2⟩ | ⟨q1, q2, q3⟩ | ⟨q1, q2, q3⟩
      · have Hr := Lib.hid (Hbad.out k hkk q2)
        clear q2 hv
        go_wp2_with fail
        go_region_held3 (fun w' => (∀ b o, b < w.heap.size → w'.cell? ⟨b, o, none⟩ = wr.cell? ⟨b, o, none⟩) ∧ Below w.heap.size wr w') (first | exact heldB (Below.refl _ _).drew | exact heldB (Below.refl _ _))
          (first | (go_at_call 31; refine (hd1.out _).mono ?_; rintro e w2 ⟨rfl, rfl⟩) | (go_at_call 31; refine (hd2.out _).mono ?_; rintro e w2 ⟨rfl, rfl⟩))
        all_goals
          go_wp2
          go_ret2
          exact ⟨by rw [Hr.out]; rfl, by first | exact hB.drew | exact hB | (rename_i hh; exact hB.trans hh.2)⟩
      · have Hr := Lib.hid (Hbad.out k hkk q3)
        clear q3 hv
        go_wp2_with fail
        go_region_held3 (fun w' => (∀ b o, b < w.heap.size → w'.cell? ⟨b, o, none⟩ = wr.cell? ⟨b, o, none⟩) ∧ Below w.heap.size wr w') (first | exact heldB (Below.refl _ _).drew | exact heldB (Below.refl _ _))
          (first | (go_at_call 31; refine (hd1.out _).mono ?_; rintro e w2 ⟨rfl, rfl⟩) | (go_at_call 31; refine (hd2.out _).mono ?_; rintro e w2 ⟨rfl, rfl⟩))
        all_goals
          go_wp2
          go_ret2
          exact ⟨by rw [Hr.out]; rfl, by first | exact hB.drew | exact hB | (rename_i hh; exact hB.trans hh.2)⟩
      · have hy := hv q1 q2
        have Hq := Lib.hid q3
        clear q3 hv
        have hwr : IntKind.u8.wrap (16 * d1 + d2) = (y.toNat : Int) := by rw [IntWalk.u8_in _ (by omega)]; exact hy.symm
        have Hy := Lib.hid hy
        clear hy
        go_wp2_with fail
        go_region_held3 (fun w' => (∀ b o, b < w.heap.size → w'.cell? ⟨b, o, none⟩ = wr.cell? ⟨b, o, none⟩) ∧ Below w.heap.size wr w') (first | exact heldB (Below.refl _ _).drew | exact heldB (Below.refl _ _))
          (first | (go_at_call 31; refine (hd1.out _).mono ?_; rintro e w2 ⟨rfl, rfl⟩) | (go_at_call 31; refine (hd2.out _).mono ?_; rintro e w2 ⟨rfl, rfl⟩))
        all_goals
          go_wp2_with fail
          refine (bd_writeByte bdT_builder w.heap.size w.heap.size lk y _ hown.out.drew (by omega) (by simpa using hBs)).mono ?_
          rintro e w3 ⟨rfl, hbd3, hb3⟩
          have hB3 : Below w.heap.size w w3 := hB.drew.trans hb3
          have Hbd3 := Lib.hid hbd3
          clear hbd3
          go_wp2
          go_roundw
          case rel => exact ⟨k + 1, n + 2, Lib.hid (by have := hn.out; omega), by omega, by go_num, hB3, Lib.hid (by rw [hnext.out]; exact Hbd3.out), Lib.hid (fun j hj => by
            by_cases h : j = k
            · rw [h]; exact Hq.out
            · exact hall.out j (by omega))⟩
          case measure => simp [intOf]; omega
    · have hkk : k = s.size / 2 := by have := hn.out; omega
      subst hkk
      have Hr := Lib.hid (Hend.out hall.out)
      have Hbd := hown
      generalize (List.range (s.size / 2)).map (byteP s) = lk at *
      clear hown hall Hend
      go_wp2_with fail
      refine (bd_string w.heap.size w.heap.size _ wr Hbd.out hBs).mono ?_
      rintro e w1 ⟨rfl, _, hb1⟩
      go_wp2
      go_ret2
      exact ⟨by rw [Hr.out]; rfl, hB.trans hb1⟩
end Go.Proofs.Ythdipbgeanmcgaa
