/- The log: EntriesOf, EntriesBy and EntriesBetween, in both packages. -/
import Derived.Test.YtjjibdjliejcfaaGreatDoorLgE
import Derived.Test.YtjjibdjliejcfaaGreatDoorLgJ
namespace Go.Proofs.YtjjibdjliejcfaaGreatDoor
open Go.RowKit
/-- What the functions answer that list entries. -/
def FilC (bad : Prop) (code : Int) (p : Ent → Bool) (l : List Sgn) (s : ByteArray) (es : List Ent) (b : Int) : Prop :=
  ∃ c t, CodeC l s c t ∧ ((¬ c = 0 ∧ es = [] ∧ b = c) ∨ (c = 0 ∧ bad ∧ es = [] ∧ b = code) ∨ (c = 0 ∧ ¬ bad ∧ es = t.es.filter p ∧ b = 0))
theorem FilC.uniq {bad : Prop} {code : Int} {p : Ent → Bool} {l : List Sgn} {s : ByteArray} {es es2 : List Ent} {b b2 : Int} (h : FilC bad code p l s es b) (h2 : FilC bad code p l s es2 b2) : es = es2 ∧ b = b2 := by
  obtain ⟨c, t, h, hh⟩ := h
  obtain ⟨c2, t2, h2, hh2⟩ := h2
  obtain ⟨rfl, ht⟩ := h.uniq h2
  rcases hh with ⟨n, rfl, rfl⟩ | ⟨rfl, n, rfl, rfl⟩ | ⟨rfl, n, rfl, rfl⟩ <;> rcases hh2 with ⟨n', rfl, rfl⟩ | ⟨n', m, rfl, rfl⟩ | ⟨n', m, rfl, rfl⟩ <;> first | exact ⟨rfl, rfl⟩ | exact absurd n' n | exact absurd rfl n' | exact absurd n m | exact absurd m n | (rw [ht rfl]; exact ⟨rfl, rfl⟩)
theorem CodeC.ok {l : List Sgn} {s : ByteArray} {t : LgSt} (h : CodeC l s 0 t) : sgnsOk l ∧ s.size ≤ 4000 := by
  have key : OpenC l s 0 t → sgnsOk l ∧ s.size ≤ 4000 := fun h => by
    rcases h with ⟨-, h⟩ | ⟨-, -, h⟩ | ⟨h1, h2, -, -⟩
    · exact absurd h (by decide)
    · exact absurd h (by decide)
    · exact ⟨h1, h2⟩
  rcases h with ⟨h, h2⟩ | ⟨h, -, -⟩ | ⟨h, -, -⟩
  · exact absurd rfl h2
  · exact key h
  · exact key h
def EntsRes (bad : Prop) (code : Int) (p : Ent → Bool) (l : List Sgn) (s : ByteArray) (w : World) (e : Ending) (w' : World) : Prop := ∃ es b, FilC bad code p l s es b ∧ es.length ≤ 4000 ∧ ListRes Ent.cells 3 w es b e w'
theorem filter_step {p : Ent → Bool} {l : List Ent} {k : Nat} (h : k < l.length) : (l.take (k + 1)).filter p = (l.take k).filter p ++ (if p l[k] then [l[k]] else []) := by
  rw [List.take_succ_eq_append_getElem h, List.filter_append]
  congr 1
  simp only [List.filter_cons, List.filter_nil]
theorem filter_le (p : Ent → Bool) (l : List Ent) (k : Nat) : ((l.take k).filter p).length ≤ l.length := Nat.le_trans (List.length_filter_le _ _) (by rw [List.length_take]; omega)
/-- No result but a code. -/
theorem ents_none {bad : Prop} {code : Int} {p : Ent → Bool} {l : List Sgn} {s : ByteArray} {w w' : World} {b : Int} (h : FilC bad code p l s [] b) (hb : Below w.heap.size w w') : EntsRes bad code p l s w (.returned (.tuple #[.slice none 0 0, .int .i64 b])) w' :=
  ⟨[], b, h, Nat.zero_le _, _, rfl, slw_nil, hb⟩
set_option maxRecDepth 100000 in
set_option maxHeartbeats 4000000 in
theorem spec_EntriesOf (v : Value) (l : List Sgn) (lo hi : Nat) (s : ByteArray) (w : World) (hl : Sgns lo hi w v l) (hwf : ∀ x ∈ l, x.wf) (hs : s.size ≤ 1048576) :
    Calls Tryz.prog 9 #[v, .string s] w (EntsRes False 0 (fun _ => true) l s w) := by
  have hl0 := hl
  obtain ⟨sa, cap, rfl, -⟩ := hl
  have HB := Lib.hid (spec_CodeL sa l cap lo hi s w hl0 hwf hs)
  clear hl0
  go_enter Tryz.func9, Tryz.ntmps9
  go_wp2_with fail
  refine HB.out.mono ?_
  rintro e w1 ⟨p, t, c, rfl, hc, hb, b1⟩
  have Hc := Lib.hid hc
  by_cases h0 : c = 0
  · subst h0
    have Hb := Lib.hid (hb rfl)
    obtain ⟨ea, en, ec, c0, c1, c2, c3, c4, c5, hown, -⟩ := Hb.out.cells
    have Hown := Lib.hid (hown.slw Ent.len)
    clear hb hc hown
    go_wp2
    go_ret2
    exact ⟨t.es, 0, ⟨0, t, Hc.out, .inr (.inr ⟨rfl, fun h => h, (List.filter_eq_self.2 (fun _ _ => rfl)).symm, rfl⟩)⟩, by have := Hb.out.cnt; have := Hb.out.pos; have := Hc.out.ok.2; omega, _, rfl, Hown.out, b1⟩
  · have hq : (c != 0) = true := by rw [bne_iff_ne]; exact h0
    have H0 := Lib.hid h0
    clear hb hc h0
    go_wp2
    go_ret2
    exact ents_none ⟨c, t, Hc.out, .inl ⟨H0.out, rfl, rfl⟩⟩ b1
set_option maxRecDepth 100000 in
set_option maxHeartbeats 4000000 in
theorem impl_EntriesOf (v : Value) (l : List Sgn) (lo hi : Nat) (s : ByteArray) (w : World) (hl : Sgns lo hi w v l) (hhi : hi ≤ w.heap.size) (hwf : ∀ x ∈ l, x.wf) (hs : s.size ≤ 1048576) (hm : ML w) (h10 : P10 w) (hev : EV w) :
    Calls Tryz.prog 11 #[v, .string s] w (EntsRes False 0 (fun _ => true) l s w) := by
  have hl0 := hl
  obtain ⟨sa, cap, rfl, -⟩ := hl
  have HB := Lib.hid (impl_OpenLog sa l cap lo hi s w hl0 hhi hwf hs hm h10 hev)
  clear hl0 hm h10 hev
  go_enter Tryz.func11, Tryz.ntmps11
  go_wp2_with fail
  refine HB.out.mono ?_
  rintro e w1 ⟨pv, c, t, rfl, hc, hb, b1⟩
  have Hc := Lib.hid hc
  by_cases h0 : c = 0
  · subst h0
    obtain ⟨q, Bo, rfl, hBo, hj⟩ := hb rfl
    obtain ⟨ea, ec, c0, c1, c2, c3, hown, -⟩ := hj.cells
    have Hown := Lib.hid ((hown.slw Ent.len).mono' hj.lob)
    have Hj := Lib.hid hj
    clear hb hc hown hj
    go_wp2
    go_ret2
    exact ⟨t.es, 0, ⟨0, t, Hc.out, .inr (.inr ⟨rfl, fun h => h, (List.filter_eq_self.2 (fun _ _ => rfl)).symm, rfl⟩)⟩, Nat.le_trans Hj.out.cnt Hj.out.pos, _, rfl, Hown.out, b1⟩
  · have hq : (c != 0) = true := by rw [bne_iff_ne]; exact h0
    have H0 := Lib.hid h0
    clear hb hc h0
    go_wp2
    go_ret2
    exact ents_none ⟨c, t, Hc.out, .inl ⟨H0.out, rfl, rfl⟩⟩ b1
set_option maxRecDepth 100000 in
set_option maxHeartbeats 8000000 in
theorem spec_EntriesBy (v : Value) (l : List Sgn) (lo hi : Nat) (s : ByteArray) (who : ByteArray) (w : World) (hl : Sgns lo hi w v l) (hwf : ∀ x ∈ l, x.wf) (hs : s.size ≤ 1048576) :
    Calls Tryz.prog 24 #[v, .string s, .string who] w (EntsRes (keyOf l who = 0) 3 (fun x => decide (x.who = who)) l s w) := by
  have hl0 := hl
  obtain ⟨sa, cap, rfl, -⟩ := hl
  have HB := Lib.hid (spec_CodeL sa l cap lo hi s w hl0 hwf hs)
  have Hl := Lib.hid hl0
  clear hl0
  go_enter Tryz.func24, Tryz.ntmps24
  go_wp2_with fail
  refine HB.out.mono ?_
  rintro e w1 ⟨p, t, c, rfl, hc, hb, b1⟩
  have Hc := Lib.hid hc
  by_cases h0 : c = 0
  · subst h0
    have Hb := Lib.hid (hb rfl)
    have hcn : t.es.length ≤ 4000 := by have := Hb.out.cnt; have := Hb.out.pos; have := hc.ok.2; omega
    have hz1 := b1.size
    clear hb hc
    have hK := spec_Key _ l who lo hi w1 (Hl.out.ext b1)
    by_cases hk : keyOf l who = 0
    · rw [hk] at hK
      have HK := Lib.hid hK
      have Hk := Lib.hid hk
      clear hk hK
      go_wp2_with (go_at_call 45; refine HK.out.mono ?_; rintro e w' ⟨rfl, rfl⟩)
      go_ret2
      exact ents_none ⟨0, t, Hc.out, .inr (.inl ⟨rfl, Hk.out, rfl, rfl⟩)⟩ b1
    · have Hk := Lib.hid hk
      have HK := Lib.hid hK
      clear hK
      have hq : (keyOf l who == 0) = false := beq_eq_false_iff_ne.2 hk
      clear hk
      generalize keyOf l who = kk at HK hq
      go_wp2_with (go_at_call 45; refine HK.out.mono ?_; rintro e w' ⟨rfl, rfl⟩)
      clear HB
      go_loopw [10, 11] (fun vo vi wr => ∃ k : Nat, k ≤ t.es.length ∧ vi = .int .i64 k ∧ Below w1.heap.size w1 wr ∧ Hid (Own 3 Ent.cells w1.heap.size 48 wr vo ((t.es.take k).filter (fun x => decide (x.who = who))))) (fun _ vi _ => t.es.length - (intOf vi).toNat)
      case atStart => exact ⟨0, Nat.zero_le _, rfl, (Below.refl _ _).alloc (Nat.le_refl _) _, Lib.hid (own_empty w1 48 w1.heap.size (Nat.le_refl _))⟩
      case round =>
        obtain ⟨k, hk, rfl, hB, hown⟩ := hrel
        obtain ⟨ea, en, ec, c0, c1, c2, c3, c4, c5, hes, -⟩ := (Hb.out.ext hB).cells
        have hown2 := hown
        have hzr := hB.size
        obtain ⟨va, vc, he⟩ := own_sv hes
        cases he
        by_cases hlt : k < t.es.length
        · have hsl := (hes.slw Ent.len).1
          obtain ⟨jb, jo, hja⟩ := hsl.addr (by omega)
          subst hja
          obtain ⟨y0, y1, y2⟩ := Ents.at hsl.get hlt
          have hfs := filter_step (p := (fun x => decide (x.who = who))) hlt
          have hfl := filter_le (fun x => decide (x.who = who)) t.es k
          clear hsl hes
          generalize t.es[k] = x at *
          by_cases hp : x.who = who
          · have hq2 := sm_eqN hp
            rw [decide_eq_true hp, if_pos rfl] at hfs
            have Hfs := Lib.hid hfs
            clear hfs hp
            generalize (t.es.take k).filter (fun x => decide (x.who = who)) = acc at *
            go_wp2_with (at_builtin; refine wpList_app1 (c := Ent.cells) (bytes := 40) rfl _ _ 24 48 rfl Tryz.underlying24 info_Ent2 (by omega) Ent.len Ent.one2 w1.heap.size _ x _ rfl wr rfl hown2.out rfl (by omega) (by omega) (by first | omega | (simp; omega)) ?_; intro v' w5 hown5 hg5)
            have hB5 := hown2.out.app hB (Nat.le_refl _) hzr hg5
            have Hown5 := Lib.hid hown5
            obtain ⟨wa, wc, rfl⟩ := own_sv hown5
            clear hown5 hg5
            go_wp2
            go_roundw
            case rel => exact ⟨k + 1, by omega, by go_num, hB5, Lib.hid (by rw [Hfs.out]; exact Hown5.out)⟩
            case measure => simp [intOf]; omega
          · have hq2 := sm_neN hp
            rw [decide_eq_false hp, if_neg (by decide), List.append_nil] at hfs
            have Hfs := Lib.hid hfs
            clear hfs hp
            go_wp2
            go_roundw
            case rel => exact ⟨k + 1, by omega, by go_num, hB, Lib.hid (by rw [Hfs.out]; exact hown2.out)⟩
            case measure => simp [intOf]; omega
        · have hkk : k = t.es.length := by omega
          subst hkk
          have Hfin := Lib.hid (hown2.out.slw Ent.len)
          go_wp2
          go_ret2
          exact ⟨_, 0, ⟨0, t, Hc.out, .inr (.inr ⟨rfl, Hk.out, rfl, rfl⟩)⟩, Nat.le_trans (List.length_filter_le _ _) hcn, _, rfl, by have := Hfin.out; rw [List.take_of_length_le (Nat.le_refl _)] at this; exact this.mono' hz1, b1.trans (hB.mono hz1)⟩
  · have hq : (c == 0) = false := beq_eq_false_iff_ne.2 h0
    have hq2 : (c != 0) = true := by rw [bne_iff_ne]; exact h0
    have H0 := Lib.hid h0
    clear hb hc h0
    go_wp2
    go_ret2
    exact ents_none ⟨c, t, Hc.out, .inl ⟨H0.out, rfl, rfl⟩⟩ b1
set_option maxRecDepth 100000 in
set_option maxHeartbeats 8000000 in
theorem spec_EntriesBetween (v : Value) (l : List Sgn) (lo hi : Nat) (s : ByteArray) (a b : Int) (w : World) (hl : Sgns lo hi w v l) (hwf : ∀ x ∈ l, x.wf) (hs : s.size ≤ 1048576) :
    Calls Tryz.prog 22 #[v, .string s, .int .i64 a, .int .i64 b] w (EntsRes (a < 0 ∨ b < a) 2 (fun x => decide (a ≤ x.second ∧ x.second ≤ b)) l s w) := by
  have hl0 := hl
  obtain ⟨sa, cap, rfl, -⟩ := hl
  have HB := Lib.hid (spec_CodeL sa l cap lo hi s w hl0 hwf hs)
  have Hl := Lib.hid hl0
  clear hl0
  go_enter Tryz.func22, Tryz.ntmps22
  go_wp2_with fail
  refine HB.out.mono ?_
  rintro e w1 ⟨p, t, c, rfl, hc, hb, b1⟩
  have Hc := Lib.hid hc
  by_cases h0 : c = 0
  · subst h0
    have Hb := Lib.hid (hb rfl)
    have hcn : t.es.length ≤ 4000 := by have := Hb.out.cnt; have := Hb.out.pos; have := hc.ok.2; omega
    have hz1 := b1.size
    clear hb hc
    by_cases hk : a < 0 ∨ b < a
    · have Hk := Lib.hid hk
      by_cases hk1 : a < 0
      · have hq1 : decide (a < 0) = true := decide_eq_true hk1
        clear hk hk1
        go_wp2
        go_ret2
        exact ents_none ⟨0, t, Hc.out, .inr (.inl ⟨rfl, Hk.out, rfl, rfl⟩)⟩ b1
      · have hq1 : decide (a < 0) = false := decide_eq_false hk1
        have hq2 : decide (b < a) = true := decide_eq_true (by omega)
        clear hk hk1
        go_wp2
        go_ret2
        exact ents_none ⟨0, t, Hc.out, .inr (.inl ⟨rfl, Hk.out, rfl, rfl⟩)⟩ b1
    · have Hk := Lib.hid hk
      have hq1 : decide (a < 0) = false := decide_eq_false (by omega)
      have hq2 : decide (b < a) = false := decide_eq_false (by omega)
      clear hk
      go_wp2
      clear HB
      go_loopw [12, 13] (fun vo vi wr => ∃ k : Nat, k ≤ t.es.length ∧ vi = .int .i64 k ∧ Below w1.heap.size w1 wr ∧ Hid (Own 3 Ent.cells w1.heap.size 48 wr vo ((t.es.take k).filter (fun x => decide (a ≤ x.second ∧ x.second ≤ b))))) (fun _ vi _ => t.es.length - (intOf vi).toNat)
      case atStart => exact ⟨0, Nat.zero_le _, rfl, (Below.refl _ _).alloc (Nat.le_refl _) _, Lib.hid (own_empty w1 48 w1.heap.size (Nat.le_refl _))⟩
      case round =>
        obtain ⟨k, hk, rfl, hB, hown⟩ := hrel
        obtain ⟨ea, en, ec, c0, c1, c2, c3, c4, c5, hes, -⟩ := (Hb.out.ext hB).cells
        have hown2 := hown
        have hzr := hB.size
        obtain ⟨va, vc, he⟩ := own_sv hes
        cases he
        by_cases hlt : k < t.es.length
        · have hsl := (hes.slw Ent.len).1
          obtain ⟨jb, jo, hja⟩ := hsl.addr (by omega)
          subst hja
          obtain ⟨y0, y1, y2⟩ := Ents.at hsl.get hlt
          have hfs := filter_step (p := (fun x => decide (a ≤ x.second ∧ x.second ≤ b))) hlt
          have hfl := filter_le (fun x => decide (a ≤ x.second ∧ x.second ≤ b)) t.es k
          clear hsl hes
          generalize t.es[k] = x at *
          by_cases hp : a ≤ x.second ∧ x.second ≤ b
          · rw [decide_eq_true hp, if_pos rfl] at hfs
            have Hfs := Lib.hid hfs
            obtain ⟨hp1, hp2⟩ := hp
            clear hfs
            generalize (t.es.take k).filter (fun x => decide (a ≤ x.second ∧ x.second ≤ b)) = acc at *
            go_wp2_with (first | (go_at_call 41; refine (spec_In_t _ _ _ _ (by omega) (by omega)).mono ?_; rintro e w' ⟨rfl, rfl⟩) | (at_builtin; refine wpList_app1 (c := Ent.cells) (bytes := 40) rfl _ _ 24 48 rfl Tryz.underlying24 info_Ent2 (by omega) Ent.len Ent.one2 w1.heap.size _ x _ rfl wr rfl hown2.out rfl (by omega) (by omega) (by first | omega | (simp; omega)) ?_; intro v' w5 hown5 hg5))
            have hB5 := hown2.out.app hB (Nat.le_refl _) hzr hg5
            have Hown5 := Lib.hid hown5
            obtain ⟨wa, wc, rfl⟩ := own_sv hown5
            clear hown5 hg5
            go_wp2
            go_roundw
            case rel => exact ⟨k + 1, by omega, by go_num, hB5, Lib.hid (by rw [Hfs.out]; exact Hown5.out)⟩
            case measure => simp [intOf]; omega
          · rw [decide_eq_false hp, if_neg (by decide), List.append_nil] at hfs
            have Hfs := Lib.hid hfs
            clear hfs
            go_wp2_with (go_at_call 41; refine (spec_In_f _ _ _ _ (by omega)).mono ?_; rintro e w' ⟨rfl, rfl⟩)
            go_roundw
            case rel => exact ⟨k + 1, by omega, by go_num, hB, Lib.hid (by rw [Hfs.out]; exact hown2.out)⟩
            case measure => simp [intOf]; omega
        · have hkk : k = t.es.length := by omega
          subst hkk
          have Hfin := Lib.hid (hown2.out.slw Ent.len)
          go_wp2
          go_ret2
          exact ⟨_, 0, ⟨0, t, Hc.out, .inr (.inr ⟨rfl, Hk.out, rfl, rfl⟩)⟩, Nat.le_trans (List.length_filter_le _ _) hcn, _, rfl, by have := Hfin.out; rw [List.take_of_length_le (Nat.le_refl _)] at this; exact this.mono' hz1, b1.trans (hB.mono hz1)⟩
  · have hq : (c == 0) = false := beq_eq_false_iff_ne.2 h0
    have hq2 : (c != 0) = true := by rw [bne_iff_ne]; exact h0
    have H0 := Lib.hid h0
    clear hb hc h0
    go_wp2
    go_ret2
    exact ents_none ⟨c, t, Hc.out, .inl ⟨H0.out, rfl, rfl⟩⟩ b1
end Go.Proofs.YtjjibdjliejcfaaGreatDoor
