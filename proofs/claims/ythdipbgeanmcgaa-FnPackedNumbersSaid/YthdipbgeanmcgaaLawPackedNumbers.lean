/- The law FnPackedNumbers. -/
import Derived.Test.YthdipbgeanmcgaaDrawP
import Derived.Test.YthdipbgeanmcgaaSpoil
import Derived.Test.YthdipbgeanmcgaaRead
import Derived.Test.YthdipbgeanmcgaaUnpk
import Derived.Test.YthdipbgeanmcgaaLawS
import Derived.Test.YthdipbgeanmcgaaOpen
import Derived.WideShapes
namespace Go.Proofs.Ythdipbgeanmcgaa
open Go.RowKit Go.Deep

theorem cells_uint8 : Try.prog.cellsOf 5 = 1 := by kernel_rfl
set_option maxRecDepth 100000 in
theorem open_Byte {H : Type} {enc : TypeId × Value → H} {W : World} {base : Nat} {spare : Nat → Bool} {held : Bool} (fuel : Nat) (cs : List Value) (y : DataW H × List MemPlace) (hy : DataW.trod enc Try.prog W base spare held fuel 5 cs = some y) :
    ∃ x : UInt8, cs = byteC x ∧ True := by
  obtain ⟨x, h1, _, hw⟩ := DataW.trod_int Try.underlying5 hy
  have hx : 0 ≤ x ∧ x ≤ 255 := by simpa [Lit.wf, IntKind.min, IntKind.max, IntKind.signed, IntKind.bits] using hw
  exact ⟨UInt8.ofNat x.toNat, by rw [h1]; unfold byteC; rw [UInt8.toNat_ofNat']; congr 2; omega, trivial⟩
set_option maxRecDepth 100000 in
theorem open_SByte {H : Type} {enc : TypeId × Value → H} {W : World} {base : Nat} {v : Value} {d : DataW H} {p : List MemPlace} (hv : Value.okWide Try.prog W .any base 32 v)
    (h : DataW.Trod enc Try.prog W 0 (fun _ => true) true 32 v d p) (_hlt : ∀ x ∈ p, x.block < W.heap.size) : ∃ l : List UInt8, Sl 1 byteC 0 W.heap.size W v l := by
  obtain ⟨l, hl, _⟩ := open_list Try.underlying32 cells_uint8 (by omega) open_Byte h (Go.WideShapes.okWide_slice Try.underlying32 hv)
  exact ⟨l, hl⟩

/-- A string of bytes at most m. -/
def Str (m : Nat) (w : World) (e : Ending) (w' : World) : Prop := (∃ s : ByteArray, s.size ≤ m ∧ e = .returned (.string s)) ∧ Below w.heap.size w w'
theorem hexL_len : ∀ l : List UInt8, (hexL l).length = 2 * l.length
  | [] => rfl
  | c :: r => by rw [hexL, List.length_cons, List.length_cons, List.length_cons, hexL_len r]; omega

set_option maxHeartbeats 2000000 in
theorem draw_ReadHex (v : Value) (l : List UInt8) (hi : Nat) (w : World) (h : Sl 1 byteC 0 hi w v l) (hhi : hi ≤ w.heap.size) (hl : l.length ≤ 1048576) : Calls Try.prog 22 #[v] w (Str 64 w) := by
  have hf := Lib.hid (src_from v l hi w h hhi hl)
  have hd := Lib.hid (fun w' (hb : Below w.heap.size w w') => draw_UnpackNumber v l hi w' (h.below hb hhi) (Nat.le_trans hhi hb.size) hl)
  obtain ⟨a, cap, rfl, _⟩ := h
  go_enter Try.func22, Try.ntmps22
  go_wp2_with fail
  refine hf.out.mono ?_
  rintro e w1 ⟨rfl, hs1, hb1⟩
  have Hs1 := Lib.hid hs1
  clear hs1
  go_wp2_with fail
  refine (hd.out _ hb1).mono ?_
  rintro e w2 ⟨⟨L, hL, rfl⟩, hB2⟩
  have Hs2 := Lib.hid (Hs1.out.below hB2)
  have hb2 := hb1.trans (hB2.mono hb1.size)
  clear hB2
  have hhex := Lib.hid (spec_HexOf ⟨L.toArray⟩ w2 (by simp [ByteArray.size]; omega))
  go_wp2_with fail
  refine hhex.out.mono ?_
  rintro e w3 ⟨rfl, hB3⟩
  have hlen := hexL_len L
  have Hs3 := Lib.hid (Hs2.out.below hB3)
  have hb3 := hb2.trans (hB3.mono hb2.size)
  clear hB3 hhex
  have hsz : (⟨(hexL L).toArray⟩ : ByteArray).size ≤ 32 := by simp [ByteArray.size]; omega
  generalize (⟨(hexL L).toArray⟩ : ByteArray) = t at *
  clear hlen
  have ho := Lib.hid (src_one w.heap.size 0 2 w3 Hs3.out (by omega) (by omega))
  go_wp2_with fail
  refine ho.out.mono ?_
  rintro e w4 ⟨x, rfl, hs4, hm4⟩
  have Hs4 := Lib.hid hs4
  have hb4 := hb3.trans (hm4.below (Nat.le_refl _) hb3.size)
  clear hs4 hm4
  cases x with
  | true =>
    go_wp2_with fail
    refine (spec_Spoil _ _ t _ Hs4.out (by omega) (by omega)).mono ?_
    rintro e w5 ⟨⟨s, rfl, hs⟩, hB5⟩
    have hb5 := hb4.trans hB5
    clear hB5
    go_wp2
    go_ret
    exact ⟨⟨s, by omega, rfl⟩, hb5⟩
  | false =>
    go_wp2
    go_ret
    exact ⟨⟨t, by omega, rfl⟩, hb4⟩

theorem unp_pack {n : Int} (h : InP n) : unpN (packN n).1 = (n, 0) := by
  rw [packN_in h]
  have hlt : sgn n < 128 ^ 7 := by have := sgn_cases n; unfold InP at h; omega
  obtain ⟨c, hc, _⟩ := dec_put 6 (sgn n) [] hlt
  rw [List.append_nil] at hc
  show unpN (putB (sgn n)) = _
  rw [unpN_ok hc (by rw [plain_sgn]; exact h) rfl, plain_sgn]
theorem pack_unp {l : List UInt8} : unpN l = (0, 8) ∨ ∃ x, unpN l = (x, 0) ∧ packN x = (l, 0) := by
  cases hd : dec 7 l with
  | none => exact .inl (unpN_none hd)
  | some x =>
    obtain ⟨v, r, c⟩ := x
    by_cases h : InP (plain v) ∧ putB v = l
    · exact .inr ⟨plain v, unpN_ok hd h.1 h.2, by rw [packN_in h.1, sgn_plain, h.2]⟩
    · exact .inl (unpN_no hd h)
theorem digV_dig {n : Nat} (h : n < 16) : digV (dig n) = n := by
  have h2 : ∀ k : Fin 16, digV (dig k.val) = k.val := by decide
  exact h2 ⟨n, h⟩
theorem hexL_at0 : ∀ (l : List UInt8) (k : Nat) (h : k < l.length), (hexL l).getD (2 * k) 0 = dig (l[k].toNat / 16)
  | [], _, h => absurd h (by simp)
  | c :: r, 0, _ => rfl
  | c :: r, k + 1, h => by
    rw [show 2 * (k + 1) = 2 * k + 1 + 1 by omega, hexL, List.getD_cons_succ, List.getD_cons_succ]
    exact hexL_at0 r k (by simpa using h)
theorem hexL_at1 : ∀ (l : List UInt8) (k : Nat) (h : k < l.length), (hexL l).getD (2 * k + 1) 0 = dig (l[k].toNat % 16)
  | [], _, h => absurd h (by simp)
  | c :: r, 0, _ => rfl
  | c :: r, k + 1, h => by
    rw [show 2 * (k + 1) + 1 = 2 * k + 1 + 1 + 1 by omega, hexL, List.getD_cons_succ, List.getD_cons_succ]
    exact hexL_at1 r k (by simpa using h)
theorem read_hexL (l : List UInt8) : readHex ⟨(hexL l).toArray⟩ = (l, true) := by
  have hsz : (⟨(hexL l).toArray⟩ : ByteArray).size = 2 * l.length := by simp [ByteArray.size, hexL_len]
  have h0 : ∀ k, (h : k < l.length) → digV (at8 ⟨(hexL l).toArray⟩ (2 * k)) = (l[k].toNat / 16 : Nat) := fun k h => by
    have e : at8 ⟨(hexL l).toArray⟩ (2 * k) = dig (l[k].toNat / 16) := hexL_at0 l k h
    rw [e, digV_dig (by have := l[k].toNat_lt; omega)]
  have h1 : ∀ k, (h : k < l.length) → digV (at8 ⟨(hexL l).toArray⟩ (2 * k + 1)) = (l[k].toNat % 16 : Nat) := fun k h => by
    have e : at8 ⟨(hexL l).toArray⟩ (2 * k + 1) = dig (l[k].toNat % 16) := hexL_at1 l k h
    rw [e, digV_dig (by omega)]
  rw [readHex_end (by omega) fun k hk => ?_]
  · rw [hsz, show 2 * l.length / 2 = l.length by omega]
    congr 1
    refine List.ext_getElem (by simp) fun k hk1 hk2 => ?_
    rw [List.getElem_map, List.getElem_range]
    unfold byteP
    rw [h0 k hk2, h1 k hk2]
    apply UInt8.toNat.inj
    rw [UInt8.toNat_ofNat']
    have := l[k].toNat_lt
    omega
  · have hk' : k < l.length := by omega
    unfold okP
    rw [h0 k hk', h1 k hk']
    simp
    omega

theorem hex_size (s : ByteArray) : (⟨(hexL s.data.toList).toArray⟩ : ByteArray).size = 2 * s.size := by
  have h1 := hexL_len s.data.toList
  have h2 : s.data.toList.length = s.size := by rw [Array.length_toList]; rfl
  have h3 : (⟨(hexL s.data.toList).toArray⟩ : ByteArray).size = (hexL s.data.toList).length := by simp only [ByteArray.size, List.size_toArray]
  omega
theorem pack_cases (n : Int) : ∃ (sQ : ByteArray) (q : Int), sQ.size ≤ 10 ∧ packN n = (sQ.data.toList, q) ∧ ((q = 0 ∧ unpN sQ.data.toList = (n, 0)) ∨ q = 2) := by
  by_cases h : InP n
  · have h1 := packN_in h
    have h2 := unp_pack h
    rw [h1] at h2
    exact ⟨⟨(putB (sgn n)).toArray⟩, 0, by have := putB_sgn h.fit; simpa [ByteArray.size] using this, h1, .inl ⟨rfl, h2⟩⟩
  · exact ⟨⟨#[]⟩, 2, by decide, packN_out h, .inr rfl⟩

set_option maxRecDepth 100000 in
set_option maxHeartbeats 8000000 in
theorem law_PackedNumbers {v : Value} (l : List UInt8) (w : World) (h : Sl 1 byteC 0 w.heap.size w v l) :
    Calls Try.prog 8 #[v] w fun e w' => e = .returned (.bool true) ∧ Below w.heap.size w w' := by
  have hcap : l.length ≤ 9223372036854775807 := by obtain ⟨a, cap, _, h, _⟩ := h; omega
  by_cases hbig : 4096 < l.length
  · obtain ⟨a, cap, rfl, _⟩ := h
    go_enter Try.func8, Try.ntmps8
    go_wp2_with (first | (go_at_call 19; go_in))
    go_ret
    exact ⟨rfl, Below.refl _ _⟩
  · have hd1 := Lib.hid (fun w' (hb : Below w.heap.size w w') => draw_PackNumber v l _ w' (h.below hb (Nat.le_refl _)) hb.size (by omega))
    have hd2 := Lib.hid (fun w' (hb : Below w.heap.size w w') => draw_UnpackNumber v l _ w' (h.below hb (Nat.le_refl _)) hb.size (by omega))
    have hd3 := Lib.hid (fun w' (hb : Below w.heap.size w w') => draw_ReadHex v l _ w' (h.below hb (Nat.le_refl _)) hb.size (by omega))
    obtain ⟨a, cap, rfl, _⟩ := h
    have hn : decide ((4096 : Int) < (l.length : Int)) = false := decide_eq_false (by omega)
    clear hbig hcap
    go_enter Try.func8, Try.ntmps8
    go_wp2_with (first | (go_at_call 19; go_in) | fail)
    refine (hd1.out _ (Below.refl _ _)).mono ?_
    rintro e w1 ⟨⟨n, rfl⟩, hB1⟩
    obtain ⟨sQ, q, hsQ, hq, hqc⟩ := pack_cases n
    have hp1 := Lib.hid (fun w' => impl_PackNumber n w')
    have hp2 := Lib.hid (fun w' => spec_PackNumber n w')
    have hu1 := Lib.hid (fun w' => impl_UnpackNumber sQ w' (by omega))
    rw [hq] at hp1 hp2
    have hB1' := hB1
    clear hq
    rcases hqc with ⟨rfl, hun⟩ | rfl
    all_goals
      try rw [hun] at hu1
      try clear hun
      go_wp2_with fail
      refine (hp1.out _).mono ?_
      rintro e w2 ⟨rfl, hB2⟩
      have hb2 := on hB1 hB2
      clear hB2
      go_wp2_with fail
      refine (hp2.out _).mono ?_
      rintro e w3 ⟨rfl, hB3⟩
      have hb3 := on hb2 hB3
      clear hB3
      go_wp2_with fail
      refine (hd2.out _ hb3).mono ?_
      rintro e w4 ⟨⟨LB, hLB, rfl⟩, hB4⟩
      have hb4 := on hb3 hB4
      clear hB4
      obtain ⟨sB, hsB, hsBl⟩ : ∃ sB : ByteArray, (⟨LB.toArray⟩ : ByteArray) = sB ∧ LB = sB.data.toList := ⟨_, rfl, rfl⟩
      rw [hsB]
      subst hsBl
      clear hsB
      have hsz : sB.size ≤ 16 := by simpa using hLB
      have hv1 := Lib.hid (fun w' => impl_UnpackNumber sB w' (by omega))
      have hv2 := Lib.hid (fun w' => spec_UnpackNumber sB w' (by omega))
      have hh1 := Lib.hid (fun w' => impl_HexOf sB w' (by omega))
      have hh2 := Lib.hid (fun w' => spec_HexOf sB w' (by omega))
      have hrb := Lib.hid (fun w' => impl_ReadHex ⟨(hexL sB.data.toList).toArray⟩ w' (by rw [hex_size]; omega))
      rw [read_hexL, show (⟨sB.data.toList.toArray⟩ : ByteArray) = sB by simp] at hrb
      rcases pack_unp (l := sB.data.toList) with hpu | ⟨x, hpu, hpx⟩
      all_goals
        rw [hpu] at hv1 hv2
        clear hpu
        try have hpp := Lib.hid (fun w' => impl_PackNumber x w')
        try rw [hpx, show (⟨sB.data.toList.toArray⟩ : ByteArray) = sB by simp] at hpp
        try clear hpx
        generalize (⟨(hexL sB.data.toList).toArray⟩ : ByteArray) = sH at *
        clear hLB
        go_wp2_with fail
        refine (hv1.out _).mono ?_
        rintro e w5 ⟨rfl, hB5⟩
        have hb5 := on hb4 hB5
        clear hB5
        go_wp2_with fail
        refine (hv2.out _).mono ?_
        rintro e w6 ⟨rfl, hB6⟩
        have hb6 := on hb5 hB6
        clear hB6
        go_wp2_with fail
        refine (hd3.out _ hb6).mono ?_
        rintro e w7 ⟨⟨sR, hsR, rfl⟩, hB7⟩
        have hb7 := on hb6 hB7
        clear hB7
        have hr1 := Lib.hid (fun w' => impl_ReadHex sR w' (by omega))
        have hr2 := Lib.hid (fun w' => spec_ReadHex sR w' (by omega))
        generalize (⟨(readHex sR).1.toArray⟩ : ByteArray) = sR1 at *
        generalize (readHex sR).2 = sR2 at *
        go_wp2_with fail
        refine (hr1.out _).mono ?_
        rintro e w8 ⟨rfl, hB8⟩
        have hb8 := on hb7 hB8
        clear hB8
        go_wp2_with fail
        refine (hr2.out _).mono ?_
        rintro e w9 ⟨rfl, hB9⟩
        have hb9 := on hb8 hB9
        clear hB9
        go_wp2_with fail
        refine (hh1.out _).mono ?_
        rintro e w10 ⟨rfl, hB10⟩
        have hb10 := on hb9 hB10
        clear hB10
        go_wp2_with fail
        refine (hrb.out _).mono ?_
        rintro e w11 ⟨rfl, hB11⟩
        have hb11 := on hb10 hB11
        clear hB11
        go_wp2_with fail
        refine (hh2.out _).mono ?_
        rintro e w12 ⟨rfl, hB12⟩
        have hb12 := on hb11 hB12
        clear hB12
        go_wp2_with fail
        try (refine (hpp.out _).mono ?_; rintro e w13 ⟨rfl, hB13⟩; have hb12 := on hb12 hB13; clear hB13; go_wp2_with fail)
        try (refine (hu1.out _).mono ?_; rintro e w14 ⟨rfl, hB14⟩; have hb12 := on hb12 hB14; clear hB14; go_wp2)
        go_ret
        exact ⟨rfl, hb12⟩
end Go.Proofs.Ythdipbgeanmcgaa
