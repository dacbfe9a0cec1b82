/- What can be done next, the program. Orders and levels of lifts, the program and the reference. -/
import Derived.Test.YtijpghlkbfmefaaDoorLfP
import Derived.Deep.LoopGhost
namespace Go.Proofs.YtijpghlkbfmefaaDoor
open Go.RowKit
theorem info_i64r : (Tryd.prog.info? 2).map (fun i => (i.zero.map (·.cells.size), i.size, i.bytes)) = some (some 1, 1, 8) := by kernel_rfl
theorem can_no {L : LiftsL} {S k : Nat} (hk : k < L.length) (h : S.testBit k = true) : canN L S k = false := by rw [canN_at hk, h]; rfl
theorem can_not {L : LiftsL} {S k i : Nat} (hk : k < L.length) (hi : i < L[k].2.length) (h : S.testBit (L[k].2[i]).toNat = false) : canN L S k = false := by
  rw [canN_at hk]
  have : L[k].2.all (fun a => S.testBit a.toNat) = false := by
    rw [Bool.eq_false_iff]
    intro h2
    rw [List.all_eq_true] at h2
    rw [h2 _ (List.getElem_mem hi)] at h
    cases h
  rw [this, Bool.and_false]
theorem can_yes {L : LiftsL} {S k : Nat} (hk : k < L.length) (h : S.testBit k = false) (h2 : ∀ i (h : i < L[k].2.length), S.testBit (L[k].2[i]).toNat = true) : canN L S k = true := by
  rw [canN_at hk, h, Bool.not_false, Bool.true_and, List.all_eq_true]
  intro a ha
  obtain ⟨i, hi, rfl⟩ := List.getElem_of_mem ha
  exact h2 i hi
set_option maxRecDepth 100000 in
set_option maxHeartbeats 8000000 in
theorem impl_Ready (v : Value) (rs : List LiftR) (L : LiftsL) (lo hi S : Nat) (w : World) (h : Lifts lo hi w v rs L) (hok : liftsOk L) :
    Calls Tryd.prog 34 #[v, .int .i64 S] w (PickOut (canN L S) L.length w) := by
  have hl1 := h.len
  have hcap : rs.length ≤ 9223372036854775807 := by obtain ⟨a, cap, _, hc, _⟩ := h.out; omega
  have Hs := Lib.hid h
  obtain ⟨⟨a, cap, rfl, _⟩, _, _⟩ := h
  rw [hl1] at hcap ⊢
  have Hl1 := Lib.hid hl1
  have Hok := Lib.hid hok
  have hL10 := hok.2
  clear hl1 hok
  go_enter Tryd.func34, Tryd.ntmps34
  go_wp2
  go_step3
  go_wp2
  go_step3
  go_wp2
  go_loopg [5, 12] L.length (fun g o i wr => ∃ (k : Nat) (acc : List Int), k + g = L.length ∧ i = .int .i64 k ∧ Below w.heap.size w wr ∧ Hid (Own 1 intCells w.heap.size 2 wr o acc) ∧ Hid (Picks (canN L S) k acc))
  case atStart => exact ⟨0, [], by omega, rfl, Below.refl _ _, Lib.hid (own_nil _ _ _), Lib.hid (Picks.zero _)⟩
  case round =>
    obtain ⟨k, acc, hkg, rfl, hB, hown, hpk⟩ := hrel
    have hBs := hB.size
    obtain ⟨va, vc, rfl⟩ := own_sv hown.out
    have hal := hpk.out.len
    obtain ⟨na, hna⟩ : ∃ na, acc.length = na := ⟨_, rfl⟩
    rw [hna] at hal hown ⊢
    have Hna := Lib.hid hna
    clear hna
    by_cases hlt : k < L.length
    · have hk1 : k < rs.length := by rw [Hl1.out]; exact hlt
      have hs : Lifts lo hi wr (.slice a L.length cap) rs L := by rw [← Hl1.out]; exact Hs.out.ext hB
      obtain ⟨hfl, hrow⟩ := hs.one hlt hk1
      obtain ⟨b, off, rfl⟩ := hs.out.addr (by omega)
      obtain ⟨c0, c1, c2, c3, c4, c5, c6, c7, c8⟩ := Lifts_at hs hk1
      rw [hfl] at c0 c1 c2 c3 c4 c5 c6 c7
      have Hyes := Lib.hid (fun h => hpk.out.yes (k := k) h)
      have Hno := Lib.hid (fun h => hpk.out.no (k := k) h)
      have Hno1 := Lib.hid (fun h => can_no (L := L) (S := S) hlt h)
      have Hno2 := Lib.hid (fun i hi h => can_not (L := L) (S := S) (i := i) hlt hi h)
      have Hy2 := Lib.hid (fun h h2 => can_yes (L := L) (S := S) hlt h h2)
      have Hris := Lib.hid ((Hok.out.1 k hlt).1.2.2.2.2.2.2)
      clear hs hfl
      generalize rs[k].s = sk at *
      obtain ⟨ta, tl, tc⟩ := sk
      simp only [SV.v] at c8 hrow
      generalize L[k].2 = aft at *
      generalize L[k].1 = f at *
      obtain ⟨g0, g1, g2, g3, g4, g5, g6, g7⟩ := f
      dsimp only at *
      have hbx : Below wr.heap.size wr (wr.alloc (.cells #[.string g0, .int .i64 g1, .int .i64 g2, .int .i64 g3, .int .i64 g4, .int .i64 g5, .int .i64 g6, .int .i64 g7, .slice ta tl tc] 31 (0, 0))) := (Below.refl _ _).alloc (Nat.le_refl _) _
      have hX := Lib.hid (blkN_new wr (.cells #[.string g0, .int .i64 g1, .int .i64 g2, .int .i64 g3, .int .i64 g4, .int .i64 g5, .int .i64 g6, .int .i64 g7, .slice ta tl tc] 31 (0, 0)))
      have hrow1 := Lib.hid (hrow.ext hbx)
      have hown1 := Lib.hid (hown.out.below hbx)
      have hB1 := hB.trans (hbx.mono hBs)
      obtain ⟨_, _, hv, hcp2, _⟩ := hrow
      obtain rfl : aft.length = tl := by cases hv; rfl
      clear hv hown
      cases hb : S.testBit k
      · go_wp2_with (first | (go_at_call 55; refine (impl_Has S k _ (by omega)).mono ?_; rw [hb]; rintro e _ ⟨rfl, rfl⟩) | fail)
        obtain ⟨wo, hwo⟩ : ∃ wo, wr.alloc (.cells #[.string g0, .int .i64 g1, .int .i64 g2, .int .i64 g3, .int .i64 g4, .int .i64 g5, .int .i64 g6, .int .i64 g7, .slice ta aft.length tc] 31 (0, 0)) = wo := ⟨_, rfl⟩
        rw [hwo] at hbx hX hrow1 hown1 hB1 ⊢
        obtain ⟨go, hgo⟩ : ∃ go, gk = go := ⟨_, rfl⟩
        rw [hgo] at hkg
        have Hgo := Lib.hid hgo
        have Hb := Lib.hid hb
        clear hgo hb hwo hX
        go_loopg [23] aft.length (fun g2 i wy => ∃ j : Nat, j + g2 = aft.length ∧ i = .int .i64 j ∧ Hid (∀ i (h : i < aft.length), i < j → S.testBit (aft[i]).toNat = true) ∧ wy = wo)
        case atStart => exact ⟨0, by omega, rfl, Lib.hid (fun i h h2 => absurd h2 (by omega)), rfl⟩
        case round =>
          obtain ⟨j, hjg, rfl, hall, rfl⟩ := hrel
          by_cases hjl : j < aft.length
          · obtain ⟨ba, oa, rfl⟩ := hrow1.out.addr (by omega)
            have ca := Ints.at hrow1.out.get hjl
            have hri := (Hris.out j hjl).1
            obtain ⟨m, hm⟩ : ∃ m : Nat, aft[j] = (m : Int) := ⟨(aft[j]).toNat, by omega⟩
            have hm10 : m ≤ 10 := by omega
            have Hn2 := Lib.hid (fun h => Hno2.out j hjl h)
            have Hst := Lib.hid (fun (h : S.testBit (aft[j]).toNat = true) => (show ∀ i (h : i < aft.length), i < j + 1 → S.testBit (aft[i]).toNat = true from fun i hi hij => by
              by_cases e : i < j
              · exact hall.out i hi e
              · have : i = j := by omega
                subst this; exact h))
            rw [hm] at ca Hn2 Hst
            simp only [Int.toNat_natCast] at Hn2 Hst
            clear hri hm
            cases hbm : S.testBit m
            · have Hd := Lib.hid (Hno.out (Hn2.out hbm))
              go_wp2_with (first | (go_at_call 55; refine (impl_Has S m _ hm10).mono ?_; rw [hbm]; rintro e _ ⟨rfl, rfl⟩) | fail)
              go_roundg (go - 1)
              case measure => have := Hgo.out; omega
              case rel => exact ⟨k + 1, acc, by omega, by go_num, hB1, hown1, Hd⟩
            · have Hd := Lib.hid (Hst.out hbm)
              go_wp2_with (first | (go_at_call 55; refine (impl_Has S m _ hm10).mono ?_; rw [hbm]; rintro e _ ⟨rfl, rfl⟩) | fail)
              go_roundg (gk - 1)
              case measure => omega
              case rel => exact ⟨j + 1, by omega, by go_num, Hd, rfl⟩
          · have Hd := Lib.hid (Hyes.out (Hy2.out Hb.out (fun i hi => hall.out i hi (by omega))))
            have hBs1 := hB1.size
            go_wp2_with (at_builtin; refine wpList_app1 (c := intCells) (bytes := 8) rfl _ _ 29 2 rfl Tryd.underlying29 info_i64r (by omega) intCells_len intCells_one w.heap.size acc (k : Int) _ rfl _ rfl hown1.out rfl (by have := Hna.out; omega) (by have := Hna.out; omega) hBs1 ?_; intro v' w3 hown3 hg3; have hB3 := hown1.out.app hB1 (Nat.le_refl _) hBs1 hg3; have Hown3 := Lib.hid hown3; clear hown3)
            go_roundg (go - 1)
            case measure => have := Hgo.out; omega
            case rel => exact ⟨k + 1, acc ++ [(k : Int)], by omega, by go_num, hB3, Hown3, Hd⟩
      · have Hd := Lib.hid (Hno.out (Hno1.out hb))
        go_wp2_with (first | (go_at_call 55; refine (impl_Has S k _ (by omega)).mono ?_; rw [hb]; rintro e _ ⟨rfl, rfl⟩) | fail)
        go_roundg (gk - 1)
        case measure => omega
        case rel => exact ⟨k + 1, acc, by omega, by go_num, hB1, hown1, Hd⟩
    · have hkk : k = L.length := by omega
      subst hkk
      have Hown := Lib.hid hown.out
      go_wp2
      try rw [Exit.noGoto_ret]
      go_ret
      exact ⟨_, acc, rfl, Hown.out.slw intCells_len, hpk.out, hB⟩
def PairOut (ok : Nat → Bool) (n : Nat) (w : World) (e : Ending) (w' : World) : Prop := ∃ v l, e = .returned (.tuple #[v, .int .i64 0]) ∧ Slw 1 intCells w.heap.size w'.heap.size w' v l ∧ Picks ok n l ∧ Below w.heap.size w w'
theorem lifts_nm {L : LiftsL} (h : liftsOk L) : ∀ x ∈ L, x.1.name.size ≤ maxLen := fun x hx => by
  obtain ⟨i, hi, rfl⟩ := List.getElem_of_mem hx
  have := (h.1 i hi).1.1.2.1
  unfold maxLen; omega
theorem pow_b {n : Nat} (h : n ≤ 10) : 2 ^ n ≤ 1024 := Nat.pow_le_pow_right (by omega) h
theorem pow_i (n : Nat) : (2 : Int) ^ n = ((2 ^ n : Nat) : Int) := by rw [Int.natCast_pow]; rfl
theorem wrap_pow {n : Nat} (h : n ≤ 10) : wrap64 ((2 : Int) ^ n) = ((2 ^ n : Nat) : Int) := by
  have := pow_b h
  rw [pow_i]
  generalize 2 ^ n = p at *
  unfold wrap64
  omega
theorem wrap_pow1 {n : Nat} (h : n ≤ 10) : wrap64 (wrap64 ((2 : Int) ^ n) - 1) = ((2 ^ n : Nat) : Int) - 1 := by
  have := pow_b h
  rw [wrap_pow h]
  generalize 2 ^ n = p at *
  unfold wrap64
  omega
set_option maxRecDepth 100000 in
set_option maxHeartbeats 2000000 in
theorem impl_ReadyLifts (v : Value) (rs : List LiftR) (L : LiftsL) (lo hi S : Nat) (w : World) (h : Lifts lo hi w v rs L) (hok : liftsOk L) (hS : S < 2 ^ L.length) :
    Calls Tryd.prog 12 #[v, .int .i64 S] w (PairOut (canN L S) L.length w) := by
  have hV := impl_LiftsOk v rs L lo hi w h (lifts_nm hok) (by have := hok.2; omega)
  rw [liftsB_t hok] at hV
  have hR := Lib.hid (fun W (hb : Below w.heap.size w W) => impl_Ready v rs L lo hi S W (h.ext hb) hok)
  have hl1 := h.len
  obtain ⟨⟨a, cap, rfl, _⟩, _, _⟩ := h
  rw [hl1] at hV hR ⊢
  have hV := Lib.hid hV
  obtain ⟨n, hn⟩ : ∃ n, L.length = n := ⟨_, rfl⟩
  rw [hn] at hS hV hR ⊢
  have hn10 : n ≤ 10 := by have := hok.2; omega
  clear hok hl1 hn
  go_enter Tryd.func12, Tryd.ntmps12
  go_wp2_with fail
  refine hV.out.mono ?_
  rintro e w1 ⟨rfl, hb1⟩
  have hp1 := wrap_pow1 hn10
  have hSi : (S : Int) ≤ (2 : Int) ^ n - 1 := by rw [pow_i]; generalize 2 ^ n = p at *; omega
  rw [← pow_i] at hp1
  go_wp2_with (first | (go_at_call 33; refine (impl_within_t _ _ _ _ (by omega) (by omega)).mono ?_; rintro e _ ⟨rfl, rfl⟩) | fail)
  refine (hR.out _ hb1).mono ?_
  rintro e w2 ⟨v2, l, rfl, hsl, hpk, hb2⟩
  have Hsl := Lib.hid (hsl.widenN hb1.size (Nat.le_refl _))
  have Hpk := Lib.hid hpk
  have B2 := hb1.trans (hb2.mono hb1.size)
  clear hsl hpk hb2 hb1 hR hV hp1
  go_wp2
  go_ret2
  exact ⟨_, l, rfl, Hsl.out, Hpk.out, B2⟩
def sliceLen : Value → Nat | .slice _ n _ => n | _ => 0
def AnyB (w : World) (e : Ending) (w' : World) : Prop := ∃ x : Bool, e = .returned (.bool x) ∧ Below w.heap.size w w'
set_option maxRecDepth 100000 in
set_option maxHeartbeats 2000000 in
theorem impl_UoFn (v : Value) (rs : List LiftR) (L : LiftsL) (lo hi q a b : Nat) (w : World) (h : Lifts lo hi w v rs L) (hL : L.length ≤ 10) (hq : w.cell? ⟨q, 0, none⟩ = some v) (ha : a < L.length) (hb : b < L.length) :
    Calls Tryd.prog 57 #[.int .i64 a, .int .i64 b, .pointer (some ⟨q, 0, none⟩)] w (AnyB w) := by
  have hl1 := h.len
  have hln : ∃ p cap, v = .slice p L.length cap := by obtain ⟨p, cap, hv, _⟩ := h.out; exact ⟨p, cap, by rw [← hl1]; exact hv⟩
  obtain ⟨p, cap, rfl⟩ := hln
  obtain ⟨bb, off, rfl⟩ := h.out.addr (by omega)
  obtain ⟨-, -, -, -, -, -, -, c7, -⟩ := Lifts_at h (k := a) (by omega)
  obtain ⟨-, -, -, -, -, -, -, d7, -⟩ := Lifts_at h (k := b) (by omega)
  generalize (rs[a]'(by omega)).f.deadline = x at *
  generalize (rs[b]'(by omega)).f.deadline = y at *
  obtain ⟨n, hn⟩ : ∃ n, L.length = n := ⟨_, rfl⟩
  rw [hn] at hq ha hb hL
  have ha' : (a : Int) < (n : Int) := by omega
  have hb' : (b : Int) < (n : Int) := by omega
  clear h hl1 hn
  go_enter Tryd.func57, Tryd.ntmps57
  go_wp2_with (go_quiet (fail))
  go_ret
  exact ⟨_, rfl, below_dN (Below.refl _ _) _⟩
def OrdOut (L : LiftsL) (w : World) (e : Ending) (w' : World) : Prop := ∃ v l r, e = .returned v ∧ Slw 1 intCells w.heap.size w'.heap.size w' v l ∧ OrdOk L l r ∧ l.length = L.length ∧ Below w.heap.size w w'
theorem info_i64o : (Tryd.prog.info? 2).map (fun i => (i.zero.map (·.cells.size), i.size, i.bytes)) = some (some 1, 1, 8) := by kernel_rfl
theorem set_bits {L : LiftsL} (hL : L.length ≤ 10) {r : List Nat} (h : ordRev L r) {k : Nat} (hk : k ≤ 10) : bits .or .i64 ((setOf r : Nat) : Int) ((2 : Int) ^ k) = ((setOf (k :: r) : Nat) : Int) := by
  have h1 := ord_lt hL r h
  have h2 := pow_b hL
  have h3 := pow_b hk
  rw [pow_i, or_i64 _ _ (by omega) (by omega)]
  rfl
/-- Some lift is ready while the order is shorter than the list. -/
theorem ready_some {L : LiftsL} (hok : liftsOk L) {r : List Nat} (h : ordRev L r) (hlt : r.length < L.length) {l : List Int} (hp : Picks (canN L (setOf r)) L.length l) : 0 < l.length := by
  obtain ⟨k, hk, hc⟩ := can_ex hok (S := setOf r) (by rw [ord_cnt r h]; exact hlt)
  have hm := (hp.mem (k : Int)).2 ⟨k, hk, rfl, hc⟩
  exact List.length_pos_of_mem hm
theorem pick_at {ok : Nat → Bool} {n : Nat} {l : List Int} (hp : Picks ok n l) {i : Nat} (hi : i < l.length) : ∃ k : Nat, k < n ∧ l[i] = k ∧ ok k = true := (hp.mem _).1 (List.getElem_mem hi)
set_option maxRecDepth 100000 in
set_option maxHeartbeats 8000000 in
theorem impl_OrderBy (v : Value) (rs : List LiftR) (L : LiftsL) (lo hi q : Nat) (w : World) (h : Lifts lo hi w v rs L) (hok : liftsOk L) (hq : w.cell? ⟨q, 0, none⟩ = some v) :
    Calls Tryd.prog 56 #[v, .func (.func 57) #[] #[.pointer (some ⟨q, 0, none⟩)]] w (OrdOut L w) := by
  have hl1 := h.len
  have hql := World.block_lt_of_cell? w _ hq
  have hR := Lib.hid (fun S W (hb : Below w.heap.size w W) => impl_Ready v rs L lo hi S W (h.ext hb) hok)
  have hF := Lib.hid (fun a b W (hb : Below w.heap.size w W) (ha : a < L.length) (hbb : b < L.length) => impl_UoFn v rs L lo hi q a b W (h.ext hb) hok.2 ((hb.cell (p := ⟨q, 0, none⟩) hql).trans hq) ha hbb)
  obtain ⟨⟨a, cap, rfl, _⟩, _, _⟩ := h
  rw [hl1] at hR ⊢
  have Hok := Lib.hid hok
  obtain ⟨n, hn⟩ : ∃ n, L.length = n := ⟨_, rfl⟩
  have hn10 : n ≤ 10 := by have := hok.2; omega
  have Hn := Lib.hid hn
  rw [hn] at hR hF ⊢
  clear hok hl1 hq hql hn
  go_enter Tryd.func56, Tryd.ntmps56
  go_wp2
  go_loopw [5, 6] (fun o d wr => ∃ (acc : List Int) (r : List Nat), d = .int .i64 ((setOf r : Nat) : Int) ∧ Below w.heap.size w wr ∧ Hid (Own 1 intCells w.heap.size 2 wr o acc) ∧ Hid (OrdOk L acc r) ∧ Hid (acc.length ≤ n)) (fun o _ _ => n - (sliceLen o))
  case atStart => exact ⟨[], [], rfl, Below.refl _ _, Lib.hid (own_nil _ _ _), Lib.hid (OrdOk.zero L), Lib.hid (by simp)⟩
  case round =>
    obtain ⟨acc, r, rfl, hB, hown, hord, hle⟩ := hrel
    have hBs := hB.size
    obtain ⟨va, vc, rfl⟩ := own_sv hown.out
    obtain ⟨na, hna⟩ : ∃ na, acc.length = na := ⟨_, rfl⟩
    rw [hna] at hown hle ⊢
    have Hna := Lib.hid hna
    have hle' := hle.out
    clear hna hle
    by_cases hlt : na < n
    · have hc := Lib.hid (hR.out (setOf r) wr hB)
      have hpos := Lib.hid (fun l (hp : Picks (canN L (setOf r)) n l) => ready_some Hok.out hord.out.ok (by rw [← hord.out.len, Hna.out, Hn.out]; exact hlt) (show Picks (canN L (setOf r)) L.length l by rw [Hn.out]; exact hp))
      go_wp2_with fail
      refine hc.out.mono ?_
      rintro e w2 ⟨v7, l7, rfl, hsl, hpk, hb2⟩
      have hp0 := hpos.out l7 hpk
      have hl7 := hpk.len
      have hsl7 := hsl.1
      obtain ⟨p7, c7, rfl, ⟨hcc, hcc2⟩, -⟩ := hsl.1
      obtain ⟨ba, oa, rfl⟩ := hsl7.addr hp0
      have Hc := Lib.hid (fun W (hb : Below w2.heap.size w2 W) i (hi : i < l7.length) => Ints.at (hsl7.ext hb).get hi)
      have Hpk := Lib.hid hpk
      have B2 := hB.trans (hb2.mono hBs)
      have hown2 := Lib.hid (hown.out.below hb2)
      have Hpk0 := Lib.hid (fun i (hi : i < l7.length) => pick_at hpk hi)
      obtain ⟨m0, hm0, hm0e, hm0c⟩ := pick_at hpk hp0
      have c0 := Hc.out w2 (Below.refl _ _) 0 hp0
      rw [hm0e] at c0
      simp only [Nat.add_zero] at c0
      have Hm0 := Lib.hid (show m0 < n ∧ canN L (setOf r) m0 = true from ⟨hm0, hm0c⟩)
      obtain ⟨n7, hn7⟩ : ∃ n7, l7.length = n7 := ⟨_, rfl⟩
      rw [hn7] at hp0 hl7 hcc ⊢
      have Hn7 := Lib.hid hn7
      have hB2s := B2.size
      clear hsl hsl7 hpk hb2 hc hpos hm0 hm0e hm0c hn7 hown
      by_cases hc1 : c7 = 1
      · have hn71 : n7 = 1 := by omega
        subst hc1
        subst hn71
        go_wp2_with fail
        go_loopw [8, 25] (fun b i wy => ∃ m j : Nat, b = .int .i64 m ∧ i = .int .i64 j ∧ Hid (m < n ∧ canN L (setOf r) m = true) ∧ Below w2.heap.size w2 wy) (fun _ i _ => 0)
        case atStart => exact ⟨m0, 0, rfl, rfl, Hm0, Below.refl _ _⟩
        case round =>
          obtain ⟨m, j, rfl, rfl, Hm, hby⟩ := hrel
          have hnj : ¬ (j : Int) < 0 := by omega
          skip
          have hown3 := Lib.hid (hown2.out.below hby)
          have B3 := B2.trans (hby.mono B2.size)
          have hB3s := B3.size
          have hm10 : m ≤ 10 := by have := Hm.out.1; omega
          have hw := wrap_pow hm10
          rw [← pow_i] at hw
          have hbits := set_bits (by rw [Hn.out]; exact hn10) hord.out.ok hm10
          have Hord := Lib.hid (hord.out.push Hm.out.2)
          clear c0
          go_wp2_with (at_builtin; refine wpList_app1 (c := intCells) (bytes := 8) rfl _ _ 29 2 rfl Tryd.underlying29 info_i64o (by omega) intCells_len intCells_one w.heap.size acc (m : Int) _ rfl _ rfl hown3.out rfl (by have := Hna.out; omega) (by have := Hna.out; omega) hB3s ?_; intro v' w4 hown4 hg4; have hB4 := hown3.out.app B3 (Nat.le_refl _) hB3s hg4; have Hown4 := Lib.hid hown4; obtain ⟨ga, gc, rfl⟩ := own_sv hown4; have hln : (acc ++ [(m : Int)]).length = na + 1 := (by rw [List.length_append, Hna.out]; rfl); rw [hln] at Hown4 ⊢; clear hown4 hg4)
          go_roundw
          case rel => exact ⟨acc ++ [(m : Int)], m :: r, rfl, hB4, Hown4, Hord, Lib.hid (by rw [hln]; omega)⟩
          case measure => simp [sliceLen]; omega
      · go_wp2_with fail
        go_loopw [8, 25] (fun b i wy => ∃ m j : Nat, b = .int .i64 m ∧ i = .int .i64 j ∧ j + 1 ≤ n7 ∧ Hid (m < n ∧ canN L (setOf r) m = true) ∧ Below w2.heap.size w2 wy) (fun _ i _ => n7 - (intOf i).toNat)
        case atStart => exact ⟨m0, 0, rfl, rfl, by omega, Hm0, Below.refl _ _⟩
        case round =>
          obtain ⟨m, j, rfl, rfl, hj, Hm, hby⟩ := hrel
          by_cases hjl : j + 1 < n7
          · have hnj : (j : Int) < ((n7 - 1 : Nat) : Int) := by omega
            have hjl7 : j + 1 < l7.length := by rw [Hn7.out]; exact hjl
            obtain ⟨mj, hmj, hmje, hmjc⟩ := Hpk0.out (j + 1) hjl7
            have cj := Hc.out wr hby (j + 1) hjl7
            rw [hmje, show oa + (j + 1) = oa + 1 + j by omega] at cj
            have hcl := Lib.hid (hF.out mj m wr (B2.trans (hby.mono B2.size)) hmj Hm.out.1)
            have Hmj := Lib.hid (show mj < n ∧ canN L (setOf r) mj = true from ⟨hmj, hmjc⟩)
            clear hjl7 hmj hmje hmjc c0
            go_wp2_with fail
            refine hcl.out.mono ?_
            rintro e w3 ⟨x, rfl, hb3⟩
            have hby3 := hby.trans (hb3.mono hby.size)
            clear hb3 hcl
            cases x
            · go_wp2
              go_roundw
              case rel => exact ⟨m, j + 1, rfl, by go_num, by omega, Hm, hby3⟩
              case measure => simp [intOf]; omega
            · go_wp2
              go_roundw
              case rel => exact ⟨mj, j + 1, rfl, by go_num, by omega, Hmj, hby3⟩
              case measure => simp [intOf]; omega
          · have hnj : ¬ (j : Int) < ((n7 - 1 : Nat) : Int) := by omega
            skip
            have hown3 := Lib.hid (hown2.out.below hby)
            have B3 := B2.trans (hby.mono B2.size)
            have hB3s := B3.size
            have hm10 : m ≤ 10 := by have := Hm.out.1; omega
            have hw := wrap_pow hm10
            rw [← pow_i] at hw
            have hbits := set_bits (by rw [Hn.out]; exact hn10) hord.out.ok hm10
            have Hord := Lib.hid (hord.out.push Hm.out.2)
            clear c0
            go_wp2_with (at_builtin; refine wpList_app1 (c := intCells) (bytes := 8) rfl _ _ 29 2 rfl Tryd.underlying29 info_i64o (by omega) intCells_len intCells_one w.heap.size acc (m : Int) _ rfl _ rfl hown3.out rfl (by have := Hna.out; omega) (by have := Hna.out; omega) hB3s ?_; intro v' w4 hown4 hg4; have hB4 := hown3.out.app B3 (Nat.le_refl _) hB3s hg4; have Hown4 := Lib.hid hown4; obtain ⟨ga, gc, rfl⟩ := own_sv hown4; have hln : (acc ++ [(m : Int)]).length = na + 1 := (by rw [List.length_append, Hna.out]; rfl); rw [hln] at Hown4 ⊢; clear hown4 hg4)
            go_roundw
            case rel => exact ⟨acc ++ [(m : Int)], m :: r, rfl, hB4, Hown4, Hord, Lib.hid (by rw [hln]; omega)⟩
            case measure => simp [sliceLen]; omega
    · have hnn : na = n := by omega
      subst hnn
      have Hown := Lib.hid (hown.out.slw intCells_len)
      go_wp2
      go_ret
      exact ⟨_, acc, r, rfl, Hown.out, hord.out, by rw [Hna.out, Hn.out], hB⟩
end Go.Proofs.YtijpghlkbfmefaaDoor
