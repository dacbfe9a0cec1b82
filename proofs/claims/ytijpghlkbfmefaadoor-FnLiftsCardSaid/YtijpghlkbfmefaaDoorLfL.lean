/- Levels of lifts, the program. -/
import Derived.Test.YtijpghlkbfmefaaDoorLfQ
namespace Go.Proofs.YtijpghlkbfmefaaDoor
open Go.RowKit
theorem mxL_push {lv : List Int} {x : Int} : ∀ (ds : List Int) (m : Int), (∀ a ∈ ds, a.toNat < lv.length) → mxL (lv ++ [x]) ds m = mxL lv ds m
  | [], _, _ => rfl
  | a :: r, m, h => by
    have h1 : (lv ++ [x]).getD a.toNat 0 = lv.getD a.toNat 0 := by
      have := h a (List.mem_cons_self ..)
      rw [List.getD_eq_getElem?_getD, List.getD_eq_getElem?_getD, List.getElem?_append_left this]
    unfold mxL
    rw [h1]
    exact mxL_push r _ (fun b hb => h b (List.mem_cons_of_mem _ hb))
theorem mxL_bd {lv : List Int} {k : Int} (hlv : ∀ i (h : i < lv.length), 0 ≤ lv[i] ∧ lv[i] ≤ k) : ∀ (ds : List Int) (m : Int), 0 ≤ m → m ≤ k → 0 ≤ mxL lv ds m ∧ mxL lv ds m ≤ k
  | [], m, h0, h1 => ⟨h0, h1⟩
  | a :: r, m, h0, h1 => by
    unfold mxL
    have hg : 0 ≤ lv.getD a.toNat 0 ∧ lv.getD a.toNat 0 ≤ k := by
      rw [List.getD_eq_getElem?_getD]
      by_cases h : a.toNat < lv.length
      · rw [List.getElem?_eq_getElem h]; exact hlv _ h
      · rw [List.getElem?_eq_none (by omega)]; exact ⟨Int.le_refl _, by show (0 : Int) ≤ k; omega⟩
    exact mxL_bd hlv r _ (by omega) (by omega)
/-- Levels ds far ds they have been told. -/
structure LvSt (L : LiftsL) (lv : List Int) : Prop where
  le : lv.length ≤ L.length
  eq : ∀ i (h : i < lv.length) (h2 : i < L.length), lv[i] = mxL lv L[i].2 0 + 1
  bd : ∀ i (h : i < lv.length), 0 ≤ lv[i] ∧ lv[i] ≤ (i : Int) + 1
theorem aft_lt {L : LiftsL} (hok : liftsOk L) {i : Nat} (hi : i < L.length) {a : Int} (ha : a ∈ L[i].2) : a.toNat < i ∧ 0 ≤ a := by
  obtain ⟨j, hj, rfl⟩ := List.getElem_of_mem ha
  have := ((hok.1 i hi).1.2.2.2.2.2.2 j hj).1
  omega
theorem LvSt.push {L : LiftsL} {lv : List Int} (hok : liftsOk L) (h : LvSt L lv) (hk : lv.length < L.length) : LvSt L (lv ++ [mxL lv (L[lv.length]'hk).2 0 + 1]) := by
  have hlen : (lv ++ [mxL lv (L[lv.length]'hk).2 0 + 1]).length = lv.length + 1 := by simp
  have hm := mxL_bd (lv := lv) (k := (lv.length : Int)) (fun i hi => by have := h.bd i hi; omega) (L[lv.length]'hk).2 0 (Int.le_refl _) (by omega)
  refine ⟨by omega, fun i hi h2 => ?_, fun i hi => ?_⟩
  · by_cases hl : i < lv.length
    · rw [List.getElem_append_left hl, mxL_push _ _ (fun a ha => by have := (aft_lt hok h2 ha).1; omega)]
      exact h.eq i hl h2
    · have e : i = lv.length := by omega
      subst e
      rw [List.getElem_append_right (Nat.le_refl _)]
      simp only [Nat.sub_self, List.getElem_singleton]
      rw [mxL_push _ _ (fun a ha => (aft_lt hok h2 ha).1)]
  · by_cases hl : i < lv.length
    · rw [List.getElem_append_left hl]; exact h.bd i hl
    · have e : i = lv.length := by omega
      subst e
      rw [List.getElem_append_right (Nat.le_refl _)]
      simp only [Nat.sub_self, List.getElem_singleton]
      omega
theorem mxL_step {lv ds : List Int} {j : Nat} (hj : j < ds.length) (m : Int) : mxL lv (ds.drop j) m = mxL lv (ds.drop (j + 1)) (max m (lv.getD (ds[j]).toNat 0)) := by
  rw [List.drop_eq_getElem_cons hj]
  rfl
theorem impl_LvFn (k : Nat) (w : World) : Calls Tryd.prog 37 #[.int .i64 k] w fun e w' => e = .returned (.int .i64 1) ∧ w = w' := by
  go_enter Tryd.func37, Tryd.ntmps37
  go_wp2
  go_ret
  exact ⟨rfl, rfl⟩
def LvOut (L : LiftsL) (w : World) (e : Ending) (w' : World) : Prop := ∃ v l, e = .returned v ∧ Slw 1 intCells w.heap.size w'.heap.size w' v l ∧ LvSt L l ∧ l.length = L.length ∧ Below w.heap.size w w'
set_option maxRecDepth 100000 in
set_option maxHeartbeats 8000000 in
theorem impl_Sums (v : Value) (rs : List LiftR) (L : LiftsL) (lo hi : Nat) (w : World) (h : Lifts lo hi w v rs L) (hok : liftsOk L) :
    Calls Tryd.prog 36 #[v, .func (.func 37) #[] #[]] w (LvOut L w) := by
  have hl1 := h.len
  have hcap : rs.length ≤ 9223372036854775807 := by obtain ⟨a, cap, _, hc, _⟩ := h.out; omega
  have Hs := Lib.hid h
  obtain ⟨⟨a, cap, rfl, _⟩, _, _⟩ := h
  rw [hl1] at hcap ⊢
  have Hl1 := Lib.hid hl1
  have Hok := Lib.hid hok
  have hL10 := hok.2
  clear hl1 hok
  go_enter Tryd.func36, Tryd.ntmps36
  go_wp2
  go_loopw [5, 13] (fun o i wr => ∃ (k : Nat) (acc : List Int), k ≤ L.length ∧ i = .int .i64 k ∧ Below w.heap.size w wr ∧ Hid (Own 1 intCells w.heap.size 2 wr o acc) ∧ Hid (LvSt L acc) ∧ Hid (acc.length = k)) (fun _ i _ => L.length - (intOf i).toNat)
  case atStart => exact ⟨0, [], Nat.zero_le _, rfl, Below.refl _ _, Lib.hid (own_nil _ _ _), Lib.hid ⟨Nat.zero_le _, fun i h => absurd h (by simp), fun i h => absurd h (by simp)⟩, Lib.hid rfl⟩
  case round =>
    obtain ⟨k, acc, hk, rfl, hB, hown, hlv, hacc⟩ := hrel
    have hBs := hB.size
    obtain ⟨va, vc, rfl⟩ := own_sv hown.out
    rw [hacc.out] at hown ⊢
    by_cases hlt : k < L.length
    · have hk1 : k < rs.length := by rw [Hl1.out]; exact hlt
      have hs : Lifts lo hi wr (.slice a L.length cap) rs L := by rw [← Hl1.out]; exact Hs.out.ext hB
      obtain ⟨hfl, hrow⟩ := hs.one hlt hk1
      obtain ⟨b, off, rfl⟩ := hs.out.addr (by omega)
      obtain ⟨c0, c1, c2, c3, c4, c5, c6, c7, c8⟩ := Lifts_at hs hk1
      rw [hfl] at c0 c1 c2 c3 c4 c5 c6 c7
      have Hpush := Lib.hid (show LvSt L (acc ++ [mxL acc L[k].2 0 + 1]) by have h := hlv.out.push Hok.out (by rw [hacc.out]; exact hlt); simpa only [hacc.out] using h)
      have Hris := Lib.hid ((Hok.out.1 k hlt).1.2.2.2.2.2.2)
      clear hs hfl
      generalize rs[k].s = sk at *
      obtain ⟨ta, tl, tc⟩ := sk
      simp only [SV.v] at c8 hrow
      generalize L[k].2 = aft at *
      generalize L[k].1 = f at *
      obtain ⟨g0, g1, g2, g3, g4, g5, g6, g7⟩ := f
      dsimp only at *
      have hrow0 := hrow
      obtain ⟨_, _, hv, hcp2, _⟩ := hrow
      obtain rfl : aft.length = tl := by cases hv; rfl
      have hbx : Below wr.heap.size wr (wr.alloc (.cells #[.string g0, .int .i64 g1, .int .i64 g2, .int .i64 g3, .int .i64 g4, .int .i64 g5, .int .i64 g6, .int .i64 g7, .slice ta aft.length tc] 31 (0, 0))) := (Below.refl _ _).alloc (Nat.le_refl _) _
      have hrow1 := Lib.hid (hrow0.ext hbx)
      have hown1 := Lib.hid (hown.out.below hbx)
      have hB1 := hB.trans (hbx.mono hBs)
      clear hv hown hrow0
      go_wp2_with fail
      obtain ⟨wo, hwo⟩ : ∃ wo, wr.alloc (.cells #[.string g0, .int .i64 g1, .int .i64 g2, .int .i64 g3, .int .i64 g4, .int .i64 g5, .int .i64 g6, .int .i64 g7, .slice ta aft.length tc] 31 (0, 0)) = wo := ⟨_, rfl⟩
      rw [hwo] at hbx hrow1 hown1 hB1 ⊢
      clear hwo
      go_loopw [8, 21] (fun m i wy => ∃ (j : Nat) (x : Int), j ≤ aft.length ∧ i = .int .i64 j ∧ m = .int .i64 x ∧ Hid (mxL acc (aft.drop j) x = mxL acc aft 0) ∧ Hid (0 ≤ x ∧ x ≤ 11) ∧ wy = wo) (fun _ i _ => aft.length - (intOf i).toNat)
      case atStart => exact ⟨0, 0, Nat.zero_le _, rfl, rfl, Lib.hid rfl, Lib.hid ⟨by omega, by omega⟩, rfl⟩
      case round =>
        obtain ⟨j, x, hj, rfl, rfl, hmx, hx, rfl⟩ := hrel
        by_cases hjl : j < aft.length
        · obtain ⟨ba, oa, rfl⟩ := hrow1.out.addr (by omega)
          have ca := Ints.at hrow1.out.get hjl
          have hri := (Hris.out j hjl).1
          obtain ⟨m, hm⟩ : ∃ m : Nat, aft[j] = (m : Int) := ⟨(aft[j]).toNat, by omega⟩
          have hmk : m < k := by omega
          have hma : m < acc.length := by rw [hacc.out]; exact hmk
          have hsl := (hown1.out.slw intCells_len).1
          obtain ⟨bo, oo, rfl⟩ := hsl.addr (by omega)
          have co := Ints.at hsl.get hma
          have Hst := Lib.hid (show mxL acc (aft.drop (j + 1)) (max x acc[m]) = mxL acc aft 0 by
            rw [← hmx.out, mxL_step hjl, hm, Int.toNat_natCast, List.getD_eq_getElem?_getD, List.getElem?_eq_getElem hma]; rfl)
          have hb := hlv.out.bd m hma
          have Hx := Lib.hid (show 0 ≤ max x acc[m] ∧ max x acc[m] ≤ 11 by have := hx.out; omega)
          have hmI : (m : Int) < (k : Int) := by omega
          rw [hm] at ca
          obtain ⟨y, hy⟩ : ∃ y, acc[m] = y := ⟨_, rfl⟩
          rw [hy] at co Hst Hx
          clear hri hm hsl hb hy
          go_wp2_with fail
          go_roundw
          case rel => exact ⟨j + 1, max x y, by omega, by go_num, congrArg (Value.int .i64) (by rw [Int.max_def]; split <;> split <;> omega), Hst, Hx, trivial⟩
          case measure => simp [intOf]; omega
        · have hje : j = aft.length := by omega
          have hxe : x = mxL acc aft 0 := by rw [← hmx.out, hje, List.drop_length]; rfl
          have hx1 : IntKind.i64.wrap (x + 1) = x + 1 := IntWalk.i64_in _ (by have := hx.out; omega)
          have Hp := Lib.hid (show LvSt L (acc ++ [x + 1]) by rw [hxe]; exact Hpush.out)
          have hB1s := hB1.size
          have hln := Lib.hid (show (acc ++ [x + 1]).length = k + 1 by rw [List.length_append, hacc.out]; rfl)
          clear hxe hje
          go_wp2_with fail
          refine (impl_LvFn k _).mono ?_
          rintro e _ ⟨rfl, rfl⟩
          go_wp2_with (at_builtin; refine wpList_app1 (c := intCells) (bytes := 8) rfl _ _ 29 2 rfl Tryd.underlying29 info_i64o (by omega) intCells_len intCells_one w.heap.size acc (x + 1) _ rfl _ rfl hown1.out rfl (by have := hacc.out; omega) (by have := hacc.out; omega) hB1s ?_; intro v' w4 hown4 hg4; have hB4 := hown1.out.app hB1 (Nat.le_refl _) hB1s hg4; have Hown4 := Lib.hid hown4; clear hown4 hg4)
          go_roundw
          case rel => exact ⟨k + 1, acc ++ [x + 1], by omega, by go_num, hB4, Hown4, Hp, hln⟩
          case measure => simp [intOf]; omega
    · have hkk : k = L.length := by omega
      have Hown := Lib.hid (hown.out.slw intCells_len)
      go_wp2
      go_ret
      exact ⟨_, acc, rfl, Hown.out, hlv.out, by rw [hacc.out, hkk], hB⟩
def LevOut (L : LiftsL) (w : World) (e : Ending) (w' : World) : Prop := ∃ v l, e = .returned (.tuple #[v, .int .i64 0]) ∧ Slw 1 intCells w.heap.size w'.heap.size w' v l ∧ LvSt L l ∧ l.length = L.length ∧ Below w.heap.size w w'
set_option maxHeartbeats 2000000 in
theorem impl_LevelsOf (v : Value) (rs : List LiftR) (L : LiftsL) (lo hi : Nat) (w : World) (h : Lifts lo hi w v rs L) (hok : liftsOk L) :
    Calls Tryd.prog 14 #[v] w (LevOut L w) := by
  have hV := impl_LiftsOk v rs L lo hi w h (lifts_nm hok) (by have := hok.2; omega)
  rw [liftsB_t hok] at hV
  have hV := Lib.hid hV
  have hO := Lib.hid (fun W (hb : Below w.heap.size w W) => impl_Sums v rs L lo hi W (h.ext hb) hok)
  have hln : ∃ p cap, v = .slice p L.length cap := by obtain ⟨p, cap, hv, _⟩ := h.out; exact ⟨p, cap, by rw [← h.len]; exact hv⟩
  obtain ⟨p, cap, rfl⟩ := hln
  clear h hok
  go_enter Tryd.func14, Tryd.ntmps14
  go_wp2_with fail
  refine hV.out.mono ?_
  rintro e w1 ⟨rfl, hb1⟩
  go_wp2_with fail
  refine (hO.out w1 hb1).mono ?_
  rintro e w2 ⟨v2, l, rfl, hsl, hlv, hlen, hb2⟩
  have Hx := Lib.hid (show LvSt L l ∧ l.length = L.length from ⟨hlv, hlen⟩)
  clear hlv hlen
  go_wp2
  go_ret2
  exact ⟨v2, l, rfl, hsl.widenN hb1.size (Nat.le_refl _), Hx.out.1, Hx.out.2, hb1.trans (hb2.mono hb1.size)⟩
end Go.Proofs.YtijpghlkbfmefaaDoor
