/- The law FnLifts. -/
import Derived.Test.YtijpghlkbfmefaaDoorLfX
import Derived.Test.YtijpghlkbfmefaaDoorLfT
import Derived.Test.YtijpghlkbfmefaaDoorLfS
import Derived.Test.YtijpghlkbfmefaaDoorLfL
import Derived.Test.YtijpghlkbfmefaaDoorAt
import Derived.WideShapes
namespace Go.Proofs.YtijpghlkbfmefaaDoor
open Go.RowKit Go.Deep
theorem cells_uint8 : Tryd.prog.cellsOf 5 = 1 := by kernel_rfl
set_option maxRecDepth 100000 in
theorem open_Byte {H : Type} {enc : TypeId × Value → H} {W : World} {base : Nat} {spare : Nat → Bool} {held : Bool} (fuel : Nat) (cs : List Value) (y : DataW H × List MemPlace) (hy : DataW.trod enc Tryd.prog W base spare held fuel 5 cs = some y) :
    ∃ x : UInt8, cs = byteC x ∧ True := by
  obtain ⟨x, h1, _, hw⟩ := DataW.trod_int Tryd.underlying5 hy
  have hx : 0 ≤ x ∧ x ≤ 255 := by simpa [Lit.wf, IntKind.min, IntKind.max, IntKind.signed, IntKind.bits] using hw
  exact ⟨UInt8.ofNat x.toNat, by rw [h1]; unfold byteC; rw [UInt8.toNat_ofNat']; congr 2; omega, trivial⟩
set_option maxRecDepth 100000 in
theorem open_SByte {H : Type} {enc : TypeId × Value → H} {W : World} {base : Nat} {v : Value} {d : DataW H} {p : List MemPlace} (hv : Value.okWide Tryd.prog W .any base 22 v)
    (h : DataW.Trod enc Tryd.prog W 0 (fun _ => true) true 22 v d p) (_hlt : ∀ x ∈ p, x.block < W.heap.size) : ∃ l : List UInt8, Sl 1 byteC 0 W.heap.size W v l := by
  obtain ⟨l, hl, _⟩ := open_list Tryd.underlying22 cells_uint8 (by omega) open_Byte h (Go.WideShapes.okWide_slice Tryd.underlying22 hv)
  exact ⟨l, hl⟩
/-- The lift that the law adds. -/
def newB : ByteArray := ⟨#[110, 101, 119]⟩
def newF (q : Nat) : LiftF := ⟨newB, 1 + (q : Int), 0, 0, 0, 0, 5, 7⟩
theorem new_nm : isNm newB := by
  refine ⟨by decide, by decide, fun i hi => ?_⟩
  have hi3 : i < 3 := hi
  match i, hi3 with
  | 0, _ => exact .inl (show 97 ≤ (110 : UInt8).toNat ∧ (110 : UInt8).toNat ≤ 122 by decide)
  | 1, _ => exact .inl (show 97 ≤ (101 : UInt8).toNat ∧ (101 : UInt8).toNat ≤ 122 by decide)
  | 2, _ => exact .inl (show 97 ≤ (119 : UInt8).toNat ∧ (119 : UInt8).toNat ≤ 122 by decide)
theorem new_ok {q : Nat} {a : List Int} {n : Nat} (h : (q : Int) < 200) (ha : rises a n) : liftOk (newF q) a n := by
  refine ⟨new_nm, ⟨?_, ?_⟩, ⟨⟨?_, ?_⟩, ⟨?_, ?_⟩⟩, ⟨⟨?_, ?_⟩, ⟨?_, ?_⟩⟩, ⟨?_, ?_⟩, ⟨?_, ?_⟩, ha⟩
  all_goals (simp only [newF]; omega)
theorem nm_new {L : LiftsL} (h : DrLs L) (i : Nat) (hi : i < L.length) : ¬ L[i].1.name = newB := fun e => by
  rw [(h i hi).1] at e
  have h2 := congrArg ByteArray.size e
  have h3 : (nmL i).size = 1 := rfl
  have h4 : newB.size = 3 := rfl
  omega
theorem lifts_new {L : LiftsL} {q : Nat} {a : List Int} (h : DrLs L) (hl : L.length ≤ 6) (hq : (q : Int) < 200) (ha : rises a L.length) : liftsOk (L ++ [(newF q, a)]) := by
  have hok := h.ok hl
  refine ⟨fun i hi => ?_, by rw [List.length_append, List.length_singleton]; omega⟩
  unfold liftRow
  by_cases hil : i < L.length
  · rw [List.getElem_append_left hil]
    refine ⟨(hok.1 i hil).1, fun j hj => ?_⟩
    rw [List.getElem_append_left (by omega)]
    exact (hok.1 i hil).2 j hj
  · have e : i = L.length := by rw [List.length_append, List.length_singleton] at hi; omega
    subst e
    rw [List.getElem_append_right (Nat.le_refl _)]
    simp only [Nat.sub_self, List.getElem_singleton]
    refine ⟨new_ok hq ha, fun j hj => ?_⟩
    rw [List.getElem_append_left hj]
    exact nm_new h j hj
theorem ris_ge {a : List Int} {n : Int} (h : rises a n) : ∀ i (hi : i < a.length), (i : Int) ≤ a[i]
  | 0, hi => (h 0 hi).1.1
  | i + 1, hi => by
    have h1 := ris_ge h i (by omega)
    have h2 := (h (i + 1) hi).2 (by omega)
    simp only [Nat.add_sub_cancel] at h2
    omega
theorem ris_len {a : List Int} {n : Nat} (h : rises a n) : a.length ≤ n := by
  by_cases h0 : a.length = 0
  · omega
  · have h1 := ris_ge h (a.length - 1) (by omega)
    have h2 := (h (a.length - 1) (by omega)).1.2
    omega
theorem aft_sz {L : LiftsL} (h : liftsOk L) : ∀ i (hi : i < L.length), L[i].2.length ≤ 10 := fun i hi => by
  have := ris_len (h.1 i hi).1.2.2.2.2.2.2
  have := h.2
  omega
theorem aft_le {L : LiftsL} {n : Nat} (h : liftsOk L) (hn : n + 1 = L.length) : ∀ i (hi : i < L.length), ¬ (n : Int) ∈ L[i].2 ∧ ∀ a ∈ L[i].2, a ≤ (n : Int) := fun i hi => by
  have hlt : ∀ a ∈ L[i].2, a < (n : Int) := fun a ha => by
    obtain ⟨j, hj, rfl⟩ := List.getElem_of_mem ha
    have := ((h.1 i hi).1.2.2.2.2.2.2 j hj).1.2
    omega
  exact ⟨fun hm => by have := hlt _ hm; omega, fun a ha => by have := hlt _ ha; omega⟩
theorem spec_VLifts (v : Value) (rs : List LiftR) (L : LiftsL) (lo hi : Nat) (w : World) (h : Lifts lo hi w v rs L) (hok : liftsOk L) :
    Calls Tryd.prog 8 #[v] w fun e w' => e = .returned (.bool true) ∧ Below w.heap.size w w' := by
  have hV := spec_LiftsOk v rs L lo hi w h (lifts_nm hok) (by have := hok.2; omega)
  rw [liftsB_t hok] at hV
  have hV := Lib.hid hV
  clear h hok
  go_enter Tryd.func8, Tryd.ntmps8
  go_wp2_with fail
  refine hV.out.mono ?_
  rintro e w1 ⟨rfl, hb1⟩
  go_wp2
  go_ret
  exact ⟨rfl, hb1⟩
/-- The world of the law: the list with one more lift reads. -/
structure StL (w : World) (v : Value) (rs : List LiftR) (L : LiftsL) (W : World) : Prop where
  b : Below w.heap.size w W
  r : Lifts 0 W.heap.size W v rs L
theorem StL.on {w W W' : World} {v : Value} {rs : List LiftR} {L : LiftsL} (h : StL w v rs L W) (hb : Below W.heap.size W W') : StL w v rs L W' :=
  ⟨h.b.trans (hb.mono h.b.size), (NSr.ext h.r hb).mono (Nat.le_refl _) hb.size⟩
theorem str_ne {t : ByteArray} (h : 0 < t.size) : t.toList.isEmpty = false := by
  rw [List.isEmpty_eq_false_iff]
  intro e
  have h3 : t.data.toList = [] := by simpa [ByteArray.toList_eq] using e
  have h4 : t.data.toList.length = t.size := Array.length_toList
  rw [h3] at h4
  simp at h4
  omega
theorem lifts_v {lo hi : Nat} {w : World} {v : Value} {rs : List LiftR} {L : LiftsL} (h : Lifts lo hi w v rs L) : ∃ a c, v = .slice a L.length c := by
  obtain ⟨a, cap, hv, _⟩ := h.out
  exact ⟨a, cap, by rw [← h.len]; exact hv⟩
set_option maxRecDepth 100000 in
set_option maxHeartbeats 8000000 in
theorem law_Lifts {v v2 : Value} (l l2 : List UInt8) (w : World) (h : Sl 1 byteC 0 w.heap.size w v l) (h2 : Sl 1 byteC 0 w.heap.size w v2 l2) (h10 : P10 w) :
    Calls Tryd.prog 3 #[v, v2] w fun e w' => e = .returned (.bool true) ∧ Below w.heap.size w w' := by
  have hcap : l.length ≤ 9223372036854775807 := by obtain ⟨a, cap, _, h, _⟩ := h; omega
  have hcap2 : l2.length ≤ 9223372036854775807 := by obtain ⟨a, cap, _, h, _⟩ := h2; omega
  by_cases hbig : 3000 < l.length
  · obtain ⟨a, cap, rfl, -⟩ := h
    obtain ⟨a2, cap2, rfl, -⟩ := h2
    have hn : decide ((3000 : Int) < (l.length : Int)) = true := decide_eq_true (by omega)
    go_enter Tryd.func3, Tryd.ntmps3
    go_wp2_with (first | (go_at_call 4; go_in))
    go_ret
    exact ⟨rfl, Below.refl _ _⟩
  by_cases hbig2 : 3000 < l2.length
  · obtain ⟨a, cap, rfl, -⟩ := h
    obtain ⟨a2, cap2, rfl, -⟩ := h2
    have hn : decide ((3000 : Int) < (l.length : Int)) = false := decide_eq_false (by omega)
    have hn2 : decide ((3000 : Int) < (l2.length : Int)) = true := decide_eq_true (by omega)
    go_enter Tryd.func3, Tryd.ntmps3
    go_wp2_with (first | (go_at_call 4; go_in))
    go_ret
    exact ⟨rfl, Below.refl _ _⟩
  have H10 := Lib.hid h10
  have hd := Lib.hid (draw_A2Lifts v l _ w h (Nat.le_refl _) (by omega))
  have hAt := Lib.hid (fun (kI n : Int) W (hb : Below w.heap.size w W) (hk : 0 ≤ kI ∧ kI ≤ 1000000) (hn : 1 ≤ n ∧ n ≤ 1000000) => show Calls Tryd.prog 6 #[v2, .int .i64 kI, .int .i64 n] W fun e w'' => (∃ q : Nat, e = .returned (.int .i64 q) ∧ (q : Int) < n) ∧ Below W.heap.size W w'' by
    obtain ⟨k, rfl⟩ : ∃ k : Nat, kI = k := ⟨kI.toNat, by omega⟩
    exact law_at v2 l2 0 _ k n W (h2.below hb (Nat.le_refl _)) (by omega) (by omega) hn)
  obtain ⟨a, cap, rfl, -⟩ := h
  obtain ⟨a2, cap2, rfl, -⟩ := h2
  have hn : decide ((3000 : Int) < (l.length : Int)) = false := decide_eq_false (by omega)
  have hn2 : decide ((3000 : Int) < (l2.length : Int)) = false := decide_eq_false (by omega)
  clear hbig hbig2 hcap hcap2 h10
  go_enter Tryd.func3, Tryd.ntmps3
  go_wp2_with (first | (go_at_call 4; go_in) | fail)
  refine hd.out.mono ?_
  rintro e w1 ⟨v1, rs, L, rfl, hcr1, hl6, hdr, hb1⟩
  clear hd hn hn2
  obtain ⟨a', c', hv⟩ := lifts_v hcr1
  subst hv
  obtain ⟨n, hn⟩ : ∃ n, L.length = n := ⟨_, rfl⟩
  rw [hn] at hcr1 hl6 ⊢
  have Hn := Lib.hid hn
  have Hdr := Lib.hid hdr
  have Hcr1 := Lib.hid hcr1
  clear hcr1 hdr hn
  go_wp2_with fail
  refine (hAt.out _ _ w1 hb1 (by omega) (by omega)).mono ?_
  rintro e w2 ⟨⟨q, rfl, hq⟩, hb2⟩
  have Hcr2 := Lib.hid ((NSr.ext Hcr1.out hb2).mono (Nat.le_refl _) hb2.size)
  have B2 := hb1.trans (hb2.mono hb1.size)
  clear hb1 hb2 Hcr1
  have hb3 := (Below.refl w2.heap.size w2).alloc (Nat.le_refl _) (.cells #[.string ⟨#[110, 101, 119]⟩, .int .i64 (1 + (q : Int)), .int .i64 0, .int .i64 0, .int .i64 0, .int .i64 0, .int .i64 5, .int .i64 7, .slice none 0 0] 31 (0, 0))
  have hQ : Hid ((w2.alloc (.cells #[.string ⟨#[110, 101, 119]⟩, .int .i64 (1 + (q : Int)), .int .i64 0, .int .i64 0, .int .i64 0, .int .i64 0, .int .i64 5, .int .i64 7, .slice none 0 0] 31 (0, 0))).heap[w2.heap.size]? = some (.cells #[.string ⟨#[110, 101, 119]⟩, .int .i64 (1 + (q : Int)), .int .i64 0, .int .i64 0, .int .i64 0, .int .i64 0, .int .i64 5, .int .i64 7, .slice none 0 0] 31 (0, 0))) := Lib.hid (blkN_new _ _)
  have hcr3 := Lib.hid (NSr.ext Hcr2.out hb3)
  have B3 := B2.trans (hb3.mono B2.size)
  have hp3 : w2.heap.size < (w2.alloc (.cells #[.string ⟨#[110, 101, 119]⟩, .int .i64 (1 + (q : Int)), .int .i64 0, .int .i64 0, .int .i64 0, .int .i64 0, .int .i64 5, .int .i64 7, .slice none 0 0] 31 (0, 0))).heap.size := by simp
  clear Hcr2
  have hpw := B2.size
  go_wp2_with fail
  generalize w2.alloc (.cells #[.string ⟨#[110, 101, 119]⟩, .int .i64 (1 + (q : Int)), .int .i64 0, .int .i64 0, .int .i64 0, .int .i64 0, .int .i64 5, .int .i64 7, .slice none 0 0] 31 (0, 0)) = w3 at *
  obtain ⟨p, hp⟩ : ∃ p, w2.heap.size = p := ⟨_, rfl⟩
  rw [hp] at hQ hcr3 hp3 hpw ⊢
  clear hb3 B2 hp
  go_loopw [8] (fun i wr => ∃ (k : Nat) (s : SV) (acc : List Int), i = .int .i64 k ∧ k ≤ n ∧ Hid (Own 1 intCells w3.heap.size 2 wr s.v acc) ∧ Hid (rises acc k) ∧ Hid (wr.heap[p]? = some (.cells #[.string ⟨#[110, 101, 119]⟩, .int .i64 (1 + (q : Int)), .int .i64 0, .int .i64 0, .int .i64 0, .int .i64 0, .int .i64 5, .int .i64 7, s.v] 31 (0, 0))) ∧ Hid (Mod p (p + 1) w3 wr)) (fun i _ => n - (Go.RowKit.intOf i).toNat)
  case atStart => exact ⟨0, ⟨none, 0, 0⟩, [], rfl, Nat.zero_le _, Lib.hid (own_nil _ _ _), Lib.hid (fun i h => absurd h (by simp)), hQ, Lib.hid (Mod.refl _ _ _)⟩
  case round =>
    clear hQ
    obtain ⟨k, ⟨sa, sl, sc⟩, acc, rfl, hk, hown, hris, hQ, hM⟩ := hrel
    simp only [SV.v] at hown hQ
    have BR := B3.trans (hM.out.below hpw B3.size)
    by_cases hlt : k < n
    · have hlt' : (k : Int) < (n : Int) := by omega
      have hkw : IntKind.i64.wrap ((k : Int) + 1) = (k : Int) + 1 := IntWalk.i64_in _ (by omega)
      have hk6 : k < 6 := by omega
      have Hk := Lib.hid (show k < n from hlt)
      clear hlt hk
      go_wp2_with fail
      refine (hAt.out _ _ wr BR (by omega) (by omega)).mono ?_
      rintro e w4 ⟨⟨q2, rfl, hq2⟩, hb4⟩
      have hown := Lib.hid (hown.out.below hb4)
      have hQ := Lib.hid (blkN_below hb4 hQ.out)
      have hM := Lib.hid (hM.out.onV (hb4.mono hM.out.size))
      have hz4 := hM.out.size
      clear BR hb4
      by_cases hq0 : q2 = 0
      · have hz : ((q2 : Int) == 0) = true := by simp; omega
        obtain ⟨ga, gc, hv⟩ := own_sv hown.out
        obtain ⟨na, hna⟩ : ∃ na, acc.length = na := ⟨_, rfl⟩
        rw [hna] at hv
        obtain rfl : na = sl := by cases hv; rfl
        clear hv
        have Hna := Lib.hid hna
        have hnj : na ≤ 6 := by have := ris_len hris.out; omega
        clear hna hq0
        have c8 : w4.cell? ⟨p, 8, none⟩ = some (.slice sa na sc) := (Lib.cell_of_heap hQ.out 8).trans rfl
        go_wp2_with (at_builtin; refine wpList_app1 (c := intCells) (bytes := 8) rfl _ _ 29 2 rfl Tryd.underlying29 info_i64d (by omega) intCells_len intCells_one w3.heap.size acc (k : Int) _ rfl w4 rfl hown.out rfl (by rw [Hna.out]; omega) (by rw [Hna.out]; omega) hz4 ?_; intro v9 w9 hown9 hg9; obtain ⟨ga, gc, rfl⟩ := own_sv hown9; have hln : (acc ++ [(k : Int)]).length = na + 1 := (by rw [List.length_append, Hna.out]; rfl); rw [hln] at hown9 ⊢; have hB9 := hown.out.app (Below.refl w3.heap.size w4) (Nat.le_refl _) hz4 hg9; have hQ9 := Lib.hid (grown_block hown.out hQ.out (by decide) hg9); have f8 := Lib.frozen_of_heap hQ9.out 8; have d8 : w9.cell? ⟨p, 8, none⟩ = some (.slice sa na sc) := (Lib.cell_of_heap hQ9.out 8).trans rfl; have hO9 := Lib.hid hown9; clear hown9 hg9)
        go_roundw
        case rel => exact ⟨k + 1, ⟨ga, na + 1, gc⟩, acc ++ [(k : Int)], by go_num, by have := Hk.out; omega, Lib.hid (own_offL hO9.out hQ9.out (by decide)), Lib.hid (rises_push hris.out), Lib.hid (blk_onV hQ9.out rfl), Lib.hid ((hM.out.onV hB9).setCell (p := ⟨p, 8, none⟩) (Nat.le_refl _) (Nat.lt_succ_self _) _)⟩
        case measure => have := Hk.out; simp [Go.RowKit.intOf]; omega
      · have hz : ((q2 : Int) == 0) = false := by simp; omega
        clear hq0
        go_wp2_with fail
        go_roundw
        case rel => exact ⟨k + 1, ⟨sa, sl, sc⟩, acc, by go_num, by have := Hk.out; omega, hown, Lib.hid (rises_mono hris.out), hQ, hM⟩
        case measure => have := Hk.out; simp [Go.RowKit.intOf]; omega
    · have hkn : k = n := by omega
      have hlt' : ¬ (k : Int) < (n : Int) := by omega
      obtain ⟨ga, gc, hv⟩ := own_sv hown.out
      obtain ⟨na, hna⟩ : ∃ na, acc.length = na := ⟨_, rfl⟩
      rw [hna] at hv
      obtain rfl : na = sl := by cases hv; rfl
      clear hv
      have hris := Lib.hid (show rises acc n by rw [← hkn]; exact hris.out)
      have hcr := Lib.hid (NSr.keep hcr3.out (Mod.same hM.out (Nat.le_of_lt hp3) (.inl (Nat.le_refl p))))
      have hst : Hid (Sl 1 intCells w3.heap.size wr.heap.size wr (SV.v ⟨sa, na, sc⟩) acc) := Lib.hid (hown.out.slw intCells_len).1
      have c0 : wr.cell? ⟨p, 0, none⟩ = some (.string ⟨#[110, 101, 119]⟩) := (Lib.cell_of_heap hQ.out 0).trans rfl
      have c1 : wr.cell? ⟨p, 1, none⟩ = some (.int .i64 (1 + (q : Int))) := (Lib.cell_of_heap hQ.out 1).trans rfl
      have c2 : wr.cell? ⟨p, 2, none⟩ = some (.int .i64 0) := (Lib.cell_of_heap hQ.out 2).trans rfl
      have c3 : wr.cell? ⟨p, 3, none⟩ = some (.int .i64 0) := (Lib.cell_of_heap hQ.out 3).trans rfl
      have c4 : wr.cell? ⟨p, 4, none⟩ = some (.int .i64 0) := (Lib.cell_of_heap hQ.out 4).trans rfl
      have c5 : wr.cell? ⟨p, 5, none⟩ = some (.int .i64 0) := (Lib.cell_of_heap hQ.out 5).trans rfl
      have c6 : wr.cell? ⟨p, 6, none⟩ = some (.int .i64 5) := (Lib.cell_of_heap hQ.out 6).trans rfl
      have c7 : wr.cell? ⟨p, 7, none⟩ = some (.int .i64 7) := (Lib.cell_of_heap hQ.out 7).trans rfl
      have c8 : wr.cell? ⟨p, 8, none⟩ = some (.slice sa na sc) := (Lib.cell_of_heap hQ.out 8).trans rfl
      have HL := Lib.hid (lifts_new (q := q) (a := acc) Hdr.out (by rw [Hn.out]; exact hl6) hq (by rw [Hn.out]; exact hris.out))
      have hAdd := impl_AddLift (.slice a' n c') rs L 0 p _ _ (newF q) ⟨sa, na, sc⟩ acc wr hcr.out hst.out (Hdr.out.ok (by rw [Hn.out]; exact hl6)) HL.out (by rw [Hn.out]; exact hl6) (fun x hx => by obtain ⟨i, hi, rfl⟩ := List.getElem_of_mem hx; have := aft_sz HL.out i hi; omega) (fun i hi => nm_new Hdr.out i hi)
      simp only [newF, newB, LiftR.cells, SV.v] at hAdd
      have hce : (L ++ [(({ name := { data := #[110, 101, 119] }, weight := 1 + (q : Int), fx := 0, fy := 0, tx := 0, ty := 0, height := 5, deadline := 7 } : LiftF), acc)] : LiftsL) = L ++ [(newF q, acc)] := rfl
      rw [hce] at hAdd
      have hAdd := Lib.hid hAdd
      clear hce hna hM hQ hris hst hown hcr3 hkn
      go_wp2_with fail
      refine hAdd.out.mono ?_
      rintro e w5 ⟨xv, rx, rfl, hns, hb5⟩
      have hln : (L ++ [(newF q, acc)]).length = n + 1 := by rw [List.length_append, Hn.out]; rfl
      have her : (L ++ [(newF q, acc)]).eraseIdx n = L := by
        rw [List.eraseIdx_append_of_length_le (by rw [Hn.out]; exact Nat.le_refl _), Hn.out]
        simp
      have hat : ∀ h : n < (L ++ [(newF q, acc)]).length, (L ++ [(newF q, acc)])[n].2 = acc := fun h => by rw [List.getElem_append_right (by rw [Hn.out]; exact Nat.le_refl _)]; simp only [Hn.out, Nat.sub_self, List.getElem_singleton]
      clear hAdd c0 c1 c2 c3 c4 c5 c6 c7 c8 Hdr
      obtain ⟨Lx, hLx⟩ : ∃ Lx : LiftsL, L ++ [(newF q, acc)] = Lx := ⟨_, rfl⟩
      rw [hLx] at hns hln her HL
      have Hat : Hid (∀ h : n < Lx.length, Lx[n].2 = acc) := Lib.hid (by subst hLx; exact hat)
      clear hat hLx
      obtain ⟨xa, xc, hv⟩ := lifts_v hns.r
      rw [hln] at hv
      subst hv
      obtain ⟨m, hm⟩ : ∃ m, n + 1 = m := ⟨_, rfl⟩
      rw [hm] at hns hln ⊢
      have hmb : ((m : Int) != (n : Int) + 1) = false := by rw [bne_eq_false_iff_eq]; omega
      have Hm := Lib.hid hm
      have Hln := Lib.hid hln
      have Her := Lib.hid her
      have hE := Lib.hid (show StL w (.slice xa m xc) rx Lx w5 from ⟨BR.trans (hb5.mono BR.size), hns.r.mono (Nat.zero_le _) (Nat.le_refl _)⟩)
      have hcr := Lib.hid (NSr.ext hcr.out hb5)
      clear hns hln her hb5 BR B3 hp3 hpw hm
      have hV := Lib.hid (spec_VLifts _ rx Lx _ _ w5 hE.out.r HL.out)
      go_wp2_with fail
      refine hV.out.mono ?_
      rintro e w6 ⟨rfl, hb6⟩
      have hE := Lib.hid (hE.out.on hb6)
      have hcr := Lib.hid (NSr.ext hcr.out hb6)
      clear hV hb6
      have hle := aft_le HL.out (n := n) (by rw [Hln.out]; exact Hm.out)
      have hD := impl_DropLift _ rx Lx _ _ n w6 hE.out.r HL.out (by rw [Hln.out]; exact Hm.out) (fun i hi => ⟨(hle i hi).1, by have := aft_sz HL.out i hi; omega⟩) (fun i hi => (hle i hi).2)
      rw [Her.out] at hD
      have hD := Lib.hid hD
      clear hle
      go_wp2_with fail
      refine hD.out.mono ?_
      rintro e w7 ⟨yv, ry, rfl, hns, hb7⟩
      have hE := Lib.hid (hE.out.on hb7)
      have hcr := Lib.hid (NSr.ext hcr.out hb7)
      have hcy := Lib.hid hns.r
      obtain ⟨ya, yc, hv⟩ := lifts_v hns.r
      rw [Hn.out] at hv
      subst hv
      clear hns hD hb7
      have hN := impl_NeededLifts _ rx Lx _ _ n w7 hE.out.r (Nat.le_refl _) HL.out (by rw [Hln.out]; have := Hm.out; omega)
      rw [Hat.out] at hN
      have hN := Lib.hid hN
      go_wp2_with fail
      refine hN.out.mono ?_
      rintro e w8 ⟨N, rfl, hNn, hNb, hb8⟩
      have HNb := Lib.hid hNb
      have hE := Lib.hid (hE.out.on hb8)
      have hcr := Lib.hid (NSr.ext hcr.out hb8)
      have hcy := Lib.hid (NSr.ext hcy.out hb8)
      clear hN hb8 hNb
      have hS := Lib.hid (spec_EqLifts _ _ ry rs L _ _ _ _ w8 hcy.out hcr.out)
      go_wp2_with fail
      refine hS.out.mono ?_
      rintro e _ ⟨rfl, q9, rfl⟩
      have hE := Lib.hid (hE.out.on (below_dN (Below.refl _ _) q9))
      have hN0 : ¬ (N : Int) < 0 := by omega
      have hsh : ¬ wrap64 ((2 : Int) ^ n) ≤ (N : Int) := by rw [wrap_pow (by omega)]; generalize 2 ^ n = z at *; omega
      have hNm : N < 2 ^ Lx.length := by rw [Hln.out, ← Hm.out, Nat.pow_succ]; omega
      have hR := Lib.hid (impl_ReadyLifts _ rx Lx _ _ N (w8.drewN q9) hE.out.r HL.out hNm)
      have hcan : canN Lx N n = true := by
        have hnL : n < Lx.length := by rw [Hln.out]; have := Hm.out; omega
        rw [canN_at hnL, Hat.out, Nat.testBit_lt_two_pow hNn]
        simp only [Bool.not_false, Bool.true_and, List.all_eq_true]
        exact HNb.out
      have Hcan := Lib.hid hcan
      clear hS hcr hcy Her hNm hcan
      have HNn := Lib.hid hNn
      clear hNn
      go_wp2_with fail
      generalize w8.drewN q9 = w9 at *
      refine hR.out.mono ?_
      rintro e w10 ⟨vr, lr, rfl, hsl, hpk, hb10⟩
      have hE := Lib.hid (hE.out.on hb10)
      have Hr := Lib.hid (show Ints 0 w10.heap.size w10 vr lr from hsl.1.mono (Nat.zero_le _) (Nat.le_refl _))
      have Hhas := Lib.hid (show hasB lr (n : Int) = true from (hpk.nat (by rw [Hln.out]; have := Hm.out; omega)).trans Hcan.out)
      clear hR hsl hpk hb10 Hcan hN0 hsh
      have hU := Lib.hid (impl_UrgentOrder _ rx Lx _ _ w10 hE.out.r HL.out)
      go_wp2_with fail
      refine hU.out.mono ?_
      rintro e w11 ⟨vo, lo, ro, rfl, hsl, hor, hol, hb11⟩
      have hE := Lib.hid (hE.out.on hb11)
      have Hr := Lib.hid (Sl.ext Hr.out hb11)
      have Ho := Lib.hid (show Ints 0 w11.heap.size w11 vo lo from hsl.1.mono (Nat.zero_le _) (Nat.le_refl _))
      have Hor := Lib.hid (And.intro hor hol)
      clear hU hsl hor hol hb11
      have hV := Lib.hid (impl_LevelsOf _ rx Lx _ _ w11 hE.out.r HL.out)
      go_wp2_with fail
      refine hV.out.mono ?_
      rintro e w12 ⟨vl, lv, rfl, hsl, hlv, hll, hb12⟩
      have hE := Lib.hid (hE.out.on hb12)
      have Hr := Lib.hid (Sl.ext Hr.out hb12)
      have Ho := Lib.hid (Sl.ext Ho.out hb12)
      obtain ⟨la, lc, rfl, -⟩ := id hsl.1
      have hll2 := hll.trans Hln.out
      rw [hll2] at hsl ⊢
      have Hl := Lib.hid (show Ints 0 w12.heap.size w12 (.slice la m lc) lv from hsl.1.mono (Nat.zero_le _) (Nat.le_refl _))
      have Hlv := Lib.hid (And.intro hlv hll2)
      clear hV hsl hlv hll hll2 hb12
      have h1 := law_Has vr lr _ _ (n : Int) w12 Hr.out
      rw [Hhas.out] at h1
      have h1 := Lib.hid h1
      go_wp2_with fail
      refine h1.out.mono ?_
      rintro e _ ⟨rfl, rfl⟩
      have h2 := Lib.hid (spec_IsOrder _ vo rx Lx _ _ _ _ lo ro w12 hE.out.r HL.out Ho.out Hor.out.1 Hor.out.2)
      clear h1 Hr Hhas
      go_wp2_with fail
      refine h2.out.mono ?_
      rintro e w13 ⟨rfl, hb13⟩
      have hE := Lib.hid (hE.out.on hb13)
      have Ho := Lib.hid (Sl.ext Ho.out hb13)
      have Hl := Lib.hid ((Sl.ext Hl.out hb13).mono (Nat.le_refl _) hb13.size)
      clear h2 hb13
      have h2 := Lib.hid (impl_IsOrder _ vo rx Lx _ _ _ _ lo ro w13 hE.out.r HL.out Ho.out Hor.out.1 Hor.out.2)
      go_wp2_with fail
      refine h2.out.mono ?_
      rintro e w14 ⟨rfl, hb14⟩
      have hE := Lib.hid (hE.out.on hb14)
      have Hl := Lib.hid ((Sl.ext Hl.out hb14).mono (Nat.le_refl _) hb14.size)
      clear h2 hb14 Ho Hor
      have Hsz := Lib.hid (aft_sz HL.out)
      go_wp2_with fail
      go_loopw [21] (fun i wr => ∃ k : Nat, k ≤ n + 1 ∧ i = .int .i64 k ∧ Hid (StL w (.slice xa m xc) rx Lx wr) ∧ Hid (Ints 0 wr.heap.size wr (.slice la m lc) lv)) (fun i _ => n + 1 - (Go.RowKit.intOf i).toNat)
      case atStart => exact ⟨0, by omega, rfl, hE, Hl⟩
      case round =>
        clear hE Hl
        obtain ⟨k, hk, rfl, hE, Hl⟩ := hrel
        by_cases hlt : k ≤ n
        · have hlt' : (k : Int) ≤ (n : Int) := by omega
          have hkL : k < Lx.length := by rw [Hln.out]; have := Hm.out; omega
          have hkR : k < rx.length := by rw [hE.out.r.len]; exact hkL
          have hkm : (k : Int) < (m : Int) := by have := Hm.out; omega
          have hk0 : (0 : Int) ≤ (k : Int) := Int.natCast_nonneg _
          have hlL : k < lv.length := by rw [Hlv.out.2]; have := Hm.out; omega
          obtain ⟨xb, xo, hxa⟩ := hE.out.r.out.addr (show 0 < rx.length by omega)
          subst hxa
          obtain ⟨lb, lo, hla⟩ := Hl.out.addr (show 0 < lv.length by omega)
          subst hla
          have hr := hE.out.r
          obtain ⟨-, -, -, -, -, -, -, -, c8⟩ := Lifts_at hr hkR
          have hrow := (hr.one hkL hkR).2
          have Hris := Lib.hid (HL.out.1 k hkL).1.2.2.2.2.2.2
          have HT := Lib.hid (impl_LiftText _ rx Lx _ _ k wr hr HL.out hkL (by have := Hsz.out k hkL; omega) (H10.out.ext hE.out.b))
          have Heq := Lib.hid (Hlv.out.1.eq k hlL hkL)
          have Hak := Lib.hid (show k = n → ∀ a ∈ Lx[k].2, N.testBit a.toNat = true from fun e => by subst e; rw [Hat.out]; exact HNb.out)
          have hl0 := Ints.at Hl.out.get hlL
          have HL10 := Lib.hid (HL.out.2)
          clear hr
          generalize rx[k].s = sk at *
          obtain ⟨ta, tl, tc⟩ := sk
          generalize Lx[k].2 = aft at *
          simp only [SV.v] at c8 hrow
          have hrow0 := hrow
          obtain ⟨_, _, hv, hcp2, _⟩ := hrow
          obtain rfl : aft.length = tl := by cases hv; rfl
          have Hrow := Lib.hid hrow0
          clear hv hrow0
          go_wp2_with fail
          obtain ⟨wo, hwo⟩ : ∃ wo, wo = wr := ⟨wr, rfl⟩
          rw [← hwo] at hE Hl c8 Hrow HT hl0 ⊢
          clear hwo
          go_loopw [22, 23] (fun o i wy => ∃ (j : Nat) (x : Int), j ≤ aft.length ∧ i = .int .i64 j ∧ o = .int .i64 x ∧ Hid (mxL lv (aft.drop j) x = mxL lv aft 0) ∧ wy = wo) (fun _ i _ => aft.length - (Go.RowKit.intOf i).toNat)
          case atStart => exact ⟨0, 0, Nat.zero_le _, rfl, rfl, Lib.hid rfl, rfl⟩
          case round =>
            obtain ⟨j, x, hj, rfl, rfl, hmx, rfl⟩ := hrel
            by_cases hjl : j < aft.length
            · obtain ⟨ba, oa, rfl⟩ := Hrow.out.addr (by omega)
              have ca := Ints.at Hrow.out.get hjl
              have hri := (Hris.out j hjl).1
              obtain ⟨i, hi⟩ : ∃ i : Nat, aft[j] = (i : Int) := ⟨(aft[j]).toNat, by omega⟩
              have hil : i < lv.length := by omega
              have cl := Ints.at Hl.out.get hil
              have Hst := Lib.hid (show mxL lv (aft.drop (j + 1)) (max x lv[i]) = mxL lv aft 0 by
                rw [← hmx.out, mxL_step hjl, hi, Int.toNat_natCast, List.getD_eq_getElem?_getD, List.getElem?_eq_getElem hil]; rfl)
              have hiI : (i : Int) < (m : Int) := by omega
              have hi0 : (0 : Int) ≤ (i : Int) := Int.natCast_nonneg _
              have hbit : k = n → N.testBit i = true := fun e => by have := Hak.out e aft[j] (List.getElem_mem hjl); rw [hi] at this; exact this
              rw [hi] at ca
              obtain ⟨y, hy⟩ : ∃ y, lv[i] = y := ⟨_, rfl⟩
              rw [hy] at cl Hst
              have hi10 : i < 10 := by have := HL10.out; omega
              clear hri hi hil hy
              by_cases hkn : k = n
              · have hkb : ((k : Int) == (n : Int)) = true := by simp; omega
                have hf := has_f N i
                rw [hbit hkn] at hf
                clear hbit hkn
                go_wp2_with fail
                go_roundw
                case rel => exact ⟨j + 1, max x y, by omega, by go_num, congrArg (Value.int .i64) (by first | rfl | (rw [Int.max_def]; (repeat' split) <;> omega)), Hst, trivial⟩
                case measure => simp [Go.RowKit.intOf]; omega
              · have hkb : ((k : Int) == (n : Int)) = false := by simp; omega
                clear hbit
                go_wp2_with fail
                go_roundw
                case rel => exact ⟨j + 1, max x y, by omega, by go_num, congrArg (Value.int .i64) (by first | rfl | (rw [Int.max_def]; (repeat' split) <;> omega)), Hst, trivial⟩
                case measure => simp [Go.RowKit.intOf]; omega
            · have hje : j = aft.length := by omega
              have hxe : x = mxL lv aft 0 := by rw [← hmx.out, hje, List.drop_length]; rfl
              have hlx : lv[k] = x + 1 := by rw [Heq.out, hxe]
              have hbd := Hlv.out.1.bd k hlL
              rw [hlx] at hl0 hbd
              have hx1 : IntKind.i64.wrap (x + 1) = x + 1 := IntWalk.i64_in _ (by omega)
              have hne : ((x + 1) != (x + 1)) = false := by simp
              clear hxe hje hlx hmx hbd
              go_wp2_with fail
              refine HT.out.mono ?_
              rintro e w15 ⟨t, rfl, ht, hb15⟩
              have hE := Lib.hid (hE.out.on hb15)
              have Hl := Lib.hid ((Sl.ext Hl.out hb15).mono (Nat.le_refl _) hb15.size)
              have hte := str_ne ht
              clear hb15 HT ht hl0 c8
              go_wp2_with fail
              go_roundw
              case rel => exact ⟨k + 1, by omega, by go_num, hE, Hl⟩
              case measure => simp [Go.RowKit.intOf]; omega
        · have hlt' : ¬ (k : Int) ≤ (n : Int) := by omega
          have B := hE.out.b
          go_wp2
          go_ret
          exact ⟨rfl, B⟩
end Go.Proofs.YtijpghlkbfmefaaDoor
