/- The log: EntriesBy and EntriesBetween, the program. -/
import Derived.Test.YtjjibdjliejcfaaGreatDoorLgB
namespace Go.Proofs.YtjjibdjliejcfaaGreatDoor
open Go.RowKit
set_option maxHeartbeats 2000000 in
theorem impl_IsBy (x : Ent) (who : ByteArray) (bx : Nat) (w : World) (d0 : w.cell? ⟨bx, 0, none⟩ = some (.string who)) :
    Calls Tryz.prog 47 #[.agg #[.int .i64 x.second, .string x.who, .string x.what], .pointer (some ⟨bx, 0, none⟩)] w fun e w' => e = .returned (.bool (decide (x.who = who))) ∧ Below w.heap.size w w' := by
  have hb := World.block_lt_of_cell? w _ d0
  by_cases hx : x.who = who
  · have hq := sm_eqN hx
    rw [decide_eq_true hx]
    clear hx
    go_enter Tryz.func47, Tryz.ntmps47
    go_wp2
    go_ret
    exact ⟨rfl, (Below.refl _ _).alloc (Nat.le_refl _) _⟩
  · have hq := sm_neN hx
    rw [decide_eq_false hx]
    clear hx
    go_enter Tryz.func47, Tryz.ntmps47
    go_wp2
    go_ret
    exact ⟨rfl, (Below.refl _ _).alloc (Nat.le_refl _) _⟩
set_option maxRecDepth 100000 in
set_option maxHeartbeats 8000000 in
theorem impl_ThatBy {B Bo q : Nat} {sa : Option Addr} {n cap : Nat} {t : LgSt} (who : ByteArray) (bx : Nat) (w : World) (hj : JBox B Bo q sa n cap t w) (d0 : w.cell? ⟨bx, 0, none⟩ = some (.string who)) :
    Calls Tryz.prog 42 #[.pointer (some ⟨q, 0, none⟩), .func (.func 47) #[] #[.pointer (some ⟨bx, 0, none⟩)]] w fun e w' => ∃ v', e = .returned v' ∧ Slw 3 Ent.cells w.heap.size w'.heap.size w' v' (t.es.filter (fun x : Ent => decide (x.who = who))) ∧ Below w.heap.size w w' := by
  have hbx := World.block_lt_of_cell? w _ d0
  have D0 := Lib.hid d0
  have Hj := Lib.hid hj
  have hcn : t.es.length ≤ 4000 := Nat.le_trans hj.cnt hj.pos
  obtain ⟨ea, ec, c0, c1, c2, c3, hes, -⟩ := hj.cells
  have Hes := Lib.hid hes
  clear hes hj d0
  go_enter Tryz.func42, Tryz.ntmps42
  go_wp2
  go_loopw [5, 13] (fun vo vi wr => ∃ k : Nat, k ≤ t.es.length ∧ vi = .int .i64 k ∧ Below w.heap.size w wr ∧ Hid (Own 3 Ent.cells w.heap.size 48 wr vo ((t.es.take k).filter (fun x : Ent => decide (x.who = who))))) (fun _ vi _ => t.es.length - (intOf vi).toNat)
  case atStart => exact ⟨0, Nat.zero_le _, rfl, Below.refl _ _, Lib.hid (own_nil _ _ _)⟩
  case round =>
    obtain ⟨k, hk, rfl, hB, hown⟩ := hrel
    have hzr := hB.size
    by_cases hlt : k < t.es.length
    · have hsl := (Hes.out.slw Ent.len).1.ext hB
      obtain ⟨jb, jo, hja⟩ := hsl.addr (by omega)
      subst hja
      obtain ⟨y0, y1, y2⟩ := Ents.at hsl.get hlt
      have hfs := filter_step (p := (fun x : Ent => decide (x.who = who))) hlt
      have hfl := filter_le (fun x : Ent => decide (x.who = who)) t.es k
      clear hsl
      generalize t.es[k] = x at *
      have hba : Below wr.heap.size wr (wr.alloc (.cells #[.int .i64 x.second, .string x.who, .string x.what] 48)) := (Below.refl _ _).alloc (Nat.le_refl _) _
      have hBA := hB.trans (hba.mono hzr)
      have HF := Lib.hid (impl_IsBy x who bx (wr.alloc (.cells #[.int .i64 x.second, .string x.who, .string x.what] 48)) ((hBA.cell (p := ⟨bx, 0, none⟩) hbx).trans D0.out))
      have hxb := blkN_new wr (.cells #[.int .i64 x.second, .string x.who, .string x.what] 48)
      have Hxb := Lib.hid hxb
      clear hxb
      go_wp2_with fail
      refine HF.out.mono ?_
      rintro e w4 ⟨rfl, b4⟩
      have hB4 : Below w.heap.size w w4 := hBA.trans (b4.mono (Nat.le_trans hzr hba.size))
      have hown4 := Lib.hid (hown.out.below (hba.trans (b4.mono hba.size)))
      have hx4 := blkN_below b4 Hxb.out
      have x0 : w4.cell? ⟨wr.heap.size, 0, none⟩ = some _ := (Lib.cell_of_heap hx4 0).trans rfl
      have x1 : w4.cell? ⟨wr.heap.size, 1, none⟩ = some _ := (Lib.cell_of_heap hx4 1).trans rfl
      have x2 : w4.cell? ⟨wr.heap.size, 2, none⟩ = some _ := (Lib.cell_of_heap hx4 2).trans rfl
      have hz4 := hB4.size
      clear hx4 b4 hba HF Hxb y0 y1 y2
      cases hp : (decide (x.who = who))
      · rw [hp] at hfs
        simp only [if_neg (by decide : ¬ false = true), List.append_nil] at hfs
        have Hfs := Lib.hid hfs
        clear hfs hp
        go_wp2
        go_roundw
        case rel => exact ⟨k + 1, by omega, by go_num, hB4, Lib.hid (by rw [Hfs.out]; exact hown4.out)⟩
        case measure => simp [intOf]; omega
      · rw [hp] at hfs
        simp only [if_pos (rfl : true = true)] at hfs
        have Hfs := Lib.hid hfs
        clear hfs hp
        generalize (t.es.take k).filter (fun x : Ent => decide (x.who = who)) = acc at *
        go_wp2_with (at_builtin; refine wpList_app1 (c := Ent.cells) (bytes := 40) rfl _ _ 24 48 rfl Tryz.underlying24 info_Ent2 (by omega) Ent.len Ent.one2 w.heap.size _ x _ rfl w4 rfl hown4.out rfl (by omega) (by omega) (by first | omega | (simp; omega)) ?_; intro v' w5 hown5 hg5)
        have hB5 := hown4.out.app hB4 (Nat.le_refl _) hz4 hg5
        have Hown5 := Lib.hid hown5
        obtain ⟨wa, wc, rfl⟩ := own_sv hown5
        clear hown5 hg5
        go_wp2
        go_roundw
        case rel => exact ⟨k + 1, by omega, by go_num, hB5, Lib.hid (by rw [Hfs.out]; exact Hown5.out)⟩
        case measure => simp [intOf]; omega
    · have hkk : k = t.es.length := by omega
      subst hkk
      have Hfin := Lib.hid (hown.out.slw Ent.len)
      go_wp2
      go_ret
      exact ⟨_, rfl, by have := Hfin.out; rw [List.take_of_length_le (Nat.le_refl _)] at this; exact this, hB⟩
set_option maxRecDepth 100000 in
set_option maxHeartbeats 4000000 in
theorem impl_EntriesBy (v : Value) (l : List Sgn) (lo hi : Nat) (s : ByteArray) (who : ByteArray) (w : World) (hl : Sgns lo hi w v l) (hhi : hi ≤ w.heap.size) (hwf : ∀ x ∈ l, x.wf) (hs : s.size ≤ 1048576) (hm : ML w) (h10 : P10 w) (hev : EV w) :
    Calls Tryz.prog 25 #[v, .string s, .string who] w (EntsRes (keyOf l who = 0) 3 (fun x : Ent => decide (x.who = who)) l s w) := by
  have hl0 := hl
  obtain ⟨sa, cap, rfl, -⟩ := hl
  have hb0 : Below w.heap.size w (w.alloc (.cells #[.string who] 9)) := ((Below.refl _ _).alloc (Nat.le_refl _) _)
  have HB := Lib.hid (impl_OpenLog sa l cap lo hi s (w.alloc (.cells #[.string who] 9)) (hl0.ext hb0) (Nat.le_trans hhi hb0.size) hwf hs (hm.ext hb0) (h10.ext hb0) (hev.ext hb0))
  have Hl := Lib.hid hl0
  have hx0 := blkN_new w (.cells #[.string who] 9)
  have Hx0 := Lib.hid hx0
  have hb1 := hb0.size
  clear hl0 hm h10 hev hx0
  go_enter Tryz.func25, Tryz.ntmps25
  go_wp2_with fail
  refine HB.out.mono ?_
  rintro e w1 ⟨pv, c, t, rfl, hc, hb, b1⟩
  have Hc := Lib.hid hc
  have Hb1 := Lib.hid (hb0.trans (b1.mono hb1))
  have hx1' := blkN_below b1 Hx0.out
  have d0 : w1.cell? ⟨w.heap.size, 0, none⟩ = some _ := (Lib.cell_of_heap hx1' 0).trans rfl
  clear hx1' hb0 b1 HB
  by_cases h0 : c = 0
  · subst h0
    obtain ⟨q, Bo, rfl, hBo, hj⟩ := hb rfl
    have hz1 := Hb1.out.size
    have Hj := Lib.hid hj
    have hcn : t.es.length ≤ 4000 := Nat.le_trans hj.cnt hj.pos
    clear hb hc hj
    have HS := Lib.hid (impl_Signer _ l lo hi who w1 (Hl.out.ext Hb1.out))
    go_wp2_with fail
    refine HS.out.mono ?_
    rintro e w2 ⟨i, rfl, hi2, b2⟩
    have Hb2 := Lib.hid (Hb1.out.trans (b2.mono hz1))
    have d2 := (b2.cell (p := ⟨w.heap.size, 0, none⟩) (World.block_lt_of_cell? w1 _ d0)).trans d0
    have HT := Lib.hid (impl_ThatBy who w.heap.size w2 (Hj.out.ext b2) d2)
    have hz2 := Hb2.out.size
    rcases hi2 with ⟨m, hm2, rfl, hmn, hmk⟩ | ⟨rfl, hno⟩
    · have Hk : Hid (¬ keyOf l who = 0) := Lib.hid (by
        rw [← hmk]
        have := (Hc.out.ok.1.1 m hm2).1.2.1
        omega)
      have hm0 : decide ((m : Int) < 0) = false := decide_eq_false (by omega)
      clear hmn hmk b2
      go_wp2_with fail
      refine HT.out.mono ?_
      rintro e w3 ⟨v', rfl, hsl, b3⟩
      have Hsl := Lib.hid hsl
      clear hsl
      go_wp2
      go_ret2
      exact ⟨_, 0, ⟨0, t, Hc.out, .inr (.inr ⟨rfl, Hk.out, rfl, rfl⟩)⟩, Nat.le_trans (List.length_filter_le _ _) hcn, _, rfl, Hsl.out.mono' hz2, Hb2.out.trans (b3.mono hz2)⟩
    · have Hk := Lib.hid (keyOf_miss hno)
      clear hno b2
      go_wp2
      go_ret2
      exact ents_none ⟨0, t, Hc.out, .inr (.inl ⟨rfl, Hk.out, rfl, rfl⟩)⟩ Hb2.out
  · have hq : (c != 0) = true := by rw [bne_iff_ne]; exact h0
    have H0 := Lib.hid h0
    clear hb hc h0
    go_wp2
    go_ret2
    exact ents_none ⟨c, t, Hc.out, .inl ⟨H0.out, rfl, rfl⟩⟩ Hb1.out
set_option maxHeartbeats 2000000 in
theorem impl_IsBetween (x : Ent) (a b : Int) (bx by0 : Nat) (w : World) (d0 : w.cell? ⟨bx, 0, none⟩ = some (.int .i64 a)) (d1 : w.cell? ⟨by0, 0, none⟩ = some (.int .i64 b)) :
    Calls Tryz.prog 43 #[.agg #[.int .i64 x.second, .string x.who, .string x.what], .pointer (some ⟨bx, 0, none⟩), .pointer (some ⟨by0, 0, none⟩)] w fun e w' => e = .returned (.bool (decide (a ≤ x.second ∧ x.second ≤ b))) ∧ Below w.heap.size w w' := by
  have hb := World.block_lt_of_cell? w _ d0
  have hb1 := World.block_lt_of_cell? w _ d1
  by_cases hx : a ≤ x.second ∧ x.second ≤ b
  · rw [decide_eq_true hx]
    obtain ⟨h1, h2⟩ := hx
    go_enter Tryz.func43, Tryz.ntmps43
    go_wp2_with (go_at_call 44; refine (impl_within_t _ _ _ _ (by omega) (by omega)).mono ?_; rintro e w' ⟨rfl, rfl⟩)
    go_ret
    exact ⟨rfl, (Below.refl _ _).alloc (Nat.le_refl _) _⟩
  · rw [decide_eq_false hx]
    go_enter Tryz.func43, Tryz.ntmps43
    go_wp2_with (go_at_call 44; refine (impl_within_f _ _ _ _ (by omega)).mono ?_; rintro e w' ⟨rfl, rfl⟩)
    go_ret
    exact ⟨rfl, (Below.refl _ _).alloc (Nat.le_refl _) _⟩
set_option maxRecDepth 100000 in
set_option maxHeartbeats 8000000 in
theorem impl_ThatBetween {B Bo q : Nat} {sa : Option Addr} {n cap : Nat} {t : LgSt} (a b : Int) (bx by0 : Nat) (w : World) (hj : JBox B Bo q sa n cap t w) (d0 : w.cell? ⟨bx, 0, none⟩ = some (.int .i64 a)) (d1 : w.cell? ⟨by0, 0, none⟩ = some (.int .i64 b)) :
    Calls Tryz.prog 42 #[.pointer (some ⟨q, 0, none⟩), .func (.func 43) #[] #[.pointer (some ⟨bx, 0, none⟩), .pointer (some ⟨by0, 0, none⟩)]] w fun e w' => ∃ v', e = .returned v' ∧ Slw 3 Ent.cells w.heap.size w'.heap.size w' v' (t.es.filter (fun x : Ent => decide (a ≤ x.second ∧ x.second ≤ b))) ∧ Below w.heap.size w w' := by
  have hbx := World.block_lt_of_cell? w _ d0
  have hby := World.block_lt_of_cell? w _ d1
  have D0 := Lib.hid d0
  have D1 := Lib.hid d1
  have Hj := Lib.hid hj
  have hcn : t.es.length ≤ 4000 := Nat.le_trans hj.cnt hj.pos
  obtain ⟨ea, ec, c0, c1, c2, c3, hes, -⟩ := hj.cells
  have Hes := Lib.hid hes
  clear hes hj d0 d1
  go_enter Tryz.func42, Tryz.ntmps42
  go_wp2
  go_loopw [5, 13] (fun vo vi wr => ∃ k : Nat, k ≤ t.es.length ∧ vi = .int .i64 k ∧ Below w.heap.size w wr ∧ Hid (Own 3 Ent.cells w.heap.size 48 wr vo ((t.es.take k).filter (fun x : Ent => decide (a ≤ x.second ∧ x.second ≤ b))))) (fun _ vi _ => t.es.length - (intOf vi).toNat)
  case atStart => exact ⟨0, Nat.zero_le _, rfl, Below.refl _ _, Lib.hid (own_nil _ _ _)⟩
  case round =>
    obtain ⟨k, hk, rfl, hB, hown⟩ := hrel
    have hzr := hB.size
    by_cases hlt : k < t.es.length
    · have hsl := (Hes.out.slw Ent.len).1.ext hB
      obtain ⟨jb, jo, hja⟩ := hsl.addr (by omega)
      subst hja
      obtain ⟨y0, y1, y2⟩ := Ents.at hsl.get hlt
      have hfs := filter_step (p := (fun x : Ent => decide (a ≤ x.second ∧ x.second ≤ b))) hlt
      have hfl := filter_le (fun x : Ent => decide (a ≤ x.second ∧ x.second ≤ b)) t.es k
      clear hsl
      generalize t.es[k] = x at *
      have hba : Below wr.heap.size wr (wr.alloc (.cells #[.int .i64 x.second, .string x.who, .string x.what] 48)) := (Below.refl _ _).alloc (Nat.le_refl _) _
      have hBA := hB.trans (hba.mono hzr)
      have HF := Lib.hid (impl_IsBetween x a b bx by0 (wr.alloc (.cells #[.int .i64 x.second, .string x.who, .string x.what] 48)) ((hBA.cell (p := ⟨bx, 0, none⟩) hbx).trans D0.out) ((hBA.cell (p := ⟨by0, 0, none⟩) hby).trans D1.out))
      have hxb := blkN_new wr (.cells #[.int .i64 x.second, .string x.who, .string x.what] 48)
      have Hxb := Lib.hid hxb
      clear hxb
      go_wp2_with fail
      refine HF.out.mono ?_
      rintro e w4 ⟨rfl, b4⟩
      have hB4 : Below w.heap.size w w4 := hBA.trans (b4.mono (Nat.le_trans hzr hba.size))
      have hown4 := Lib.hid (hown.out.below (hba.trans (b4.mono hba.size)))
      have hx4 := blkN_below b4 Hxb.out
      have x0 : w4.cell? ⟨wr.heap.size, 0, none⟩ = some _ := (Lib.cell_of_heap hx4 0).trans rfl
      have x1 : w4.cell? ⟨wr.heap.size, 1, none⟩ = some _ := (Lib.cell_of_heap hx4 1).trans rfl
      have x2 : w4.cell? ⟨wr.heap.size, 2, none⟩ = some _ := (Lib.cell_of_heap hx4 2).trans rfl
      have hz4 := hB4.size
      clear hx4 b4 hba HF Hxb y0 y1 y2
      cases hp : (decide (a ≤ x.second ∧ x.second ≤ b))
      · rw [hp] at hfs
        simp only [if_neg (by decide : ¬ false = true), List.append_nil] at hfs
        have Hfs := Lib.hid hfs
        clear hfs hp
        go_wp2
        go_roundw
        case rel => exact ⟨k + 1, by omega, by go_num, hB4, Lib.hid (by rw [Hfs.out]; exact hown4.out)⟩
        case measure => simp [intOf]; omega
      · rw [hp] at hfs
        simp only [if_pos (rfl : true = true)] at hfs
        have Hfs := Lib.hid hfs
        clear hfs hp
        generalize (t.es.take k).filter (fun x : Ent => decide (a ≤ x.second ∧ x.second ≤ b)) = acc at *
        go_wp2_with (at_builtin; refine wpList_app1 (c := Ent.cells) (bytes := 40) rfl _ _ 24 48 rfl Tryz.underlying24 info_Ent2 (by omega) Ent.len Ent.one2 w.heap.size _ x _ rfl w4 rfl hown4.out rfl (by omega) (by omega) (by first | omega | (simp; omega)) ?_; intro v' w5 hown5 hg5)
        have hB5 := hown4.out.app hB4 (Nat.le_refl _) hz4 hg5
        have Hown5 := Lib.hid hown5
        obtain ⟨wa, wc, rfl⟩ := own_sv hown5
        clear hown5 hg5
        go_wp2
        go_roundw
        case rel => exact ⟨k + 1, by omega, by go_num, hB5, Lib.hid (by rw [Hfs.out]; exact Hown5.out)⟩
        case measure => simp [intOf]; omega
    · have hkk : k = t.es.length := by omega
      subst hkk
      have Hfin := Lib.hid (hown.out.slw Ent.len)
      go_wp2
      go_ret
      exact ⟨_, rfl, by have := Hfin.out; rw [List.take_of_length_le (Nat.le_refl _)] at this; exact this, hB⟩
set_option maxRecDepth 100000 in
set_option maxHeartbeats 4000000 in
theorem impl_EntriesBetween (v : Value) (l : List Sgn) (lo hi : Nat) (s : ByteArray) (a b : Int) (w : World) (hl : Sgns lo hi w v l) (hhi : hi ≤ w.heap.size) (hwf : ∀ x ∈ l, x.wf) (hs : s.size ≤ 1048576) (hm : ML w) (h10 : P10 w) (hev : EV w) :
    Calls Tryz.prog 23 #[v, .string s, .int .i64 a, .int .i64 b] w (EntsRes (a < 0 ∨ b < a) 2 (fun x : Ent => decide (a ≤ x.second ∧ x.second ≤ b)) l s w) := by
  have hl0 := hl
  obtain ⟨sa, cap, rfl, -⟩ := hl
  have hb0 : Below w.heap.size w ((w.alloc (.cells #[.int .i64 a] 2)).alloc (.cells #[.int .i64 b] 2)) := (((Below.refl _ _).alloc (Nat.le_refl _) _).alloc (by simp) _)
  have HB := Lib.hid (impl_OpenLog sa l cap lo hi s ((w.alloc (.cells #[.int .i64 a] 2)).alloc (.cells #[.int .i64 b] 2)) (hl0.ext hb0) (Nat.le_trans hhi hb0.size) hwf hs (hm.ext hb0) (h10.ext hb0) (hev.ext hb0))
  have Hl := Lib.hid hl0
  have hx0 := blkN_below ((Below.refl _ _).alloc (Nat.le_refl _) (.cells #[.int .i64 b] 2)) (blkN_new w (.cells #[.int .i64 a] 2))
  have hx1 := blkN_new (w.alloc (.cells #[.int .i64 a] 2)) (.cells #[.int .i64 b] 2)
  rw [World.size_alloc] at hx1
  have Hx0 := Lib.hid hx0
  have Hx1 := Lib.hid hx1
  have hb1 := hb0.size
  clear hl0 hm h10 hev hx0 hx1
  go_enter Tryz.func23, Tryz.ntmps23
  go_wp2_with fail
  refine HB.out.mono ?_
  rintro e w1 ⟨pv, c, t, rfl, hc, hb, b1⟩
  have Hc := Lib.hid hc
  have Hb1 := Lib.hid (hb0.trans (b1.mono hb1))
  have hx1' := blkN_below b1 Hx0.out
  have d0 : w1.cell? ⟨w.heap.size, 0, none⟩ = some _ := (Lib.cell_of_heap hx1' 0).trans rfl
  have hx2' := blkN_below b1 Hx1.out
  have d1 : w1.cell? ⟨w.heap.size + 1, 0, none⟩ = some _ := (Lib.cell_of_heap hx2' 0).trans rfl
  clear hx2'
  clear hx1' hb0 b1 HB
  by_cases h0 : c = 0
  · subst h0
    obtain ⟨q, Bo, rfl, hBo, hj⟩ := hb rfl
    have hz1 := Hb1.out.size
    have Hj := Lib.hid hj
    have hcn : t.es.length ≤ 4000 := Nat.le_trans hj.cnt hj.pos
    clear hb hc hj
    by_cases hk : a < 0 ∨ b < a
    · have Hk := Lib.hid hk
      by_cases hk1 : a < 0
      · have hq1 : decide (a < 0) = true := decide_eq_true hk1
        clear hk hk1
        go_wp2
        go_ret2
        exact ents_none ⟨0, t, Hc.out, .inr (.inl ⟨rfl, Hk.out, rfl, rfl⟩)⟩ Hb1.out
      · have hq1 : decide (a < 0) = false := decide_eq_false hk1
        have hq2 : decide (b < a) = true := decide_eq_true (by omega)
        clear hk hk1
        go_wp2
        go_ret2
        exact ents_none ⟨0, t, Hc.out, .inr (.inl ⟨rfl, Hk.out, rfl, rfl⟩)⟩ Hb1.out
    · have Hk := Lib.hid hk
      have hq1 : decide (a < 0) = false := decide_eq_false (by omega)
      have hq2 : decide (b < a) = false := decide_eq_false (by omega)
      have HT := Lib.hid (impl_ThatBetween a b w.heap.size (w.heap.size + 1) w1 Hj.out d0 d1)
      clear hk
      go_wp2_with fail
      refine HT.out.mono ?_
      rintro e w3 ⟨v', rfl, hsl, b3⟩
      have Hsl := Lib.hid hsl
      clear hsl
      go_wp2
      go_ret2
      exact ⟨_, 0, ⟨0, t, Hc.out, .inr (.inr ⟨rfl, Hk.out, rfl, rfl⟩)⟩, Nat.le_trans (List.length_filter_le _ _) hcn, _, rfl, Hsl.out.mono' hz1, Hb1.out.trans (b3.mono hz1)⟩
  · have hq : (c != 0) = true := by rw [bne_iff_ne]; exact h0
    have H0 := Lib.hid h0
    clear hb hc h0
    go_wp2
    go_ret2
    exact ents_none ⟨c, t, Hc.out, .inl ⟨H0.out, rfl, rfl⟩⟩ Hb1.out
end Go.Proofs.YtjjibdjliejcfaaGreatDoor
