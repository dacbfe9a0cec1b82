/- The log: RefusalsIn, in both packages. -/
import Derived.Test.YtjjibdjliejcfaaGreatDoorLgB
import Derived.Test.YtjjibdjliejcfaaGreatDoorTStr
namespace Go.Proofs.YtjjibdjliejcfaaGreatDoor
open Go.RowKit
theorem ref_cat : (⟨#[114, 101, 102, 117, 115, 101]⟩ : ByteArray) ++ (⟨#[32]⟩ : ByteArray) = (⟨#[114, 101, 102, 117, 115, 101, 32]⟩ : ByteArray) := by apply ByteArray.ext; rfl
/-- A text that begins with the word and has more. -/
def refT (t : ByteArray) : Prop := 7 < t.size ∧ t.extract 0 7 = (⟨#[114, 101, 102, 117, 115, 101, 32]⟩ : ByteArray)
def restT (t : ByteArray) : ByteArray := t.extract 7 t.size
/-- No later entry clears it. -/
def noClear (es : List Ent) (i : Nat) (r : ByteArray) : Prop := ∀ j (h : j < es.length), i < j → ¬ es[j].what = (⟨#[99, 108, 101, 97, 114, 32]⟩ : ByteArray) ++ r
def refP (es : List Ent) (i : Nat) (t : ByteArray) : Prop := refT t ∧ noClear es i (restT t)
open Classical in
/-- What the first k entries refuse, and no later one clears. -/
noncomputable def refTo (es : List Ent) : Nat → List ByteArray
  | 0 => []
  | k + 1 => refTo es k ++ (match es[k]? with | some x => if refP es k x.what then [restT x.what] else [] | none => [])
theorem refTo_yes {es : List Ent} {k : Nat} (h : k < es.length) (hp : refP es k es[k].what) : refTo es (k + 1) = refTo es k ++ [restT es[k].what] := by
  classical
  rw [refTo, List.getElem?_eq_getElem h]
  simp only
  rw [if_pos hp]
theorem refTo_no {es : List Ent} {k : Nat} (h : k < es.length) (hp : ¬ refP es k es[k].what) : refTo es (k + 1) = refTo es k := by
  classical
  rw [refTo, List.getElem?_eq_getElem h]
  simp only
  rw [if_neg hp, List.append_nil]
theorem refTo_len (es : List Ent) : ∀ k, (refTo es k).length ≤ k
  | 0 => Nat.le_refl _
  | k + 1 => by
    classical
    have := refTo_len es k
    rw [refTo, List.length_append]
    split
    · split <;> simp <;> omega
    · simp; omega
def RefC (l : List Sgn) (s : ByteArray) (rs : List ByteArray) (b : Int) : Prop := ∃ c t, CodeC l s c t ∧ ((¬ c = 0 ∧ rs = [] ∧ b = c) ∨ (c = 0 ∧ rs = refTo t.es t.es.length ∧ b = 0))
theorem RefC.uniq {l : List Sgn} {s : ByteArray} {rs rs2 : List ByteArray} {b b2 : Int} (h : RefC l s rs b) (h2 : RefC l s rs2 b2) : rs = rs2 ∧ b = b2 := by
  obtain ⟨c, t, h, hh⟩ := h
  obtain ⟨c2, t2, h2, hh2⟩ := h2
  obtain ⟨rfl, ht⟩ := h.uniq h2
  rcases hh with ⟨n, rfl, rfl⟩ | ⟨rfl, rfl, rfl⟩ <;> rcases hh2 with ⟨n', rfl, rfl⟩ | ⟨n', rfl, rfl⟩
  · exact ⟨rfl, rfl⟩
  · exact absurd n' n
  · exact absurd rfl n'
  · rw [ht rfl]; exact ⟨rfl, rfl⟩
def RefRes (l : List Sgn) (s : ByteArray) (w : World) (e : Ending) (w' : World) : Prop := ∃ rs b, RefC l s rs b ∧ rs.length ≤ 4000 ∧ ListRes strC 1 w rs b e w'
theorem refs_none {l : List Sgn} {s : ByteArray} {w w' : World} {b : Int} (h : RefC l s [] b) (hb : Below w.heap.size w w') : RefRes l s w (.returned (.tuple #[.slice none 0 0, .int .i64 b])) w' :=
  ⟨[], b, h, Nat.zero_le _, _, rfl, slw_nil, hb⟩
theorem lgN_plain {l : List Sgn} {s : ByteArray} : ∀ {n : Nat} {t : LgSt}, lgN l s n = some t → ∀ x ∈ t.es, Ent.plain x
  | 0, t, h => by cases h; exact fun x hx => absurd hx (by simp [lg0])
  | n + 1, t, h => by
    rw [lgN] at h
    cases hn : lgN l s n with
    | none => rw [hn] at h; cases h
    | some u =>
      rw [hn] at h
      have h : nextL l s u = some t := h
      obtain ⟨x, hx, -, -, -, -, -, -, he⟩ := nextI_step h
      intro y hy
      rw [he] at hy
      rcases List.mem_append.1 hy with hy | hy
      · exact lgN_plain hn y hy
      · rw [List.mem_singleton.1 hy]; exact hx
theorem CodeC.plain {l : List Sgn} {s : ByteArray} {t : LgSt} (h : CodeC l s 0 t) : ∀ x ∈ t.es, x.what.size ≤ 50 := by
  have key : OpenC l s 0 t → ∀ x ∈ t.es, x.what.size ≤ 50 := fun h x hx => by
    rcases h with ⟨-, h⟩ | ⟨-, -, h⟩ | ⟨-, -, ⟨n, hn, -⟩, -⟩
    · exact absurd h (by decide)
    · exact absurd h (by decide)
    · exact (lgN_plain hn x hx).2.2.2.2
  rcases h with ⟨h, h2⟩ | ⟨h, -, -⟩ | ⟨h, -, -⟩
  · exact absurd rfl h2
  · exact key h
  · exact key h
set_option maxRecDepth 100000 in
set_option maxHeartbeats 4000000 in
theorem spec_After (t : ByteArray) (w : World) (hs : t.size ≤ maxLen) : Calls Tryz.prog 37 #[.string t, .string ⟨#[114, 101, 102, 117, 115, 101]⟩] w fun e w' => (∃ r ok, e = .returned (.tuple #[.string r, .bool ok]) ∧ (ok = true ↔ refT t) ∧ (ok = true → r = restT t)) ∧ w = w' := by
  unfold maxLen at hs
  by_cases h1 : t.size ≤ 7
  · have hq : decide ((t.size : Int) ≤ 7) = true := decide_eq_true (by omega)
    have hn : Hid (¬ refT t) := Lib.hid (fun h => by have := h.1; omega)
    go_enter Tryz.func37, Tryz.ntmps37
    go_wp2
    go_ret2
    exact ⟨⟨_, false, rfl, ⟨(fun h => absurd h (by decide)), fun h => absurd h hn.out⟩, (fun h => absurd h (by decide))⟩, rfl⟩
  · have hq : decide ((t.size : Int) ≤ 7) = false := decide_eq_false (by omega)
    have h7 : (7 : Int) ≤ (t.size : Int) := by omega
    have h7' : 7 ≤ t.size := by omega
    by_cases h2 : t.extract 0 7 = (⟨#[114, 101, 102, 117, 115, 101]⟩ : ByteArray) ++ (⟨#[32]⟩ : ByteArray)
    · have hr : Hid (refT t) := Lib.hid ⟨by omega, by rw [h2]; exact ref_cat⟩
      have hq2 := sm_eqN h2
      clear h2
      go_enter Tryz.func37, Tryz.ntmps37
      go_wp2
      go_ret2
      exact ⟨⟨_, true, rfl, ⟨fun _ => hr.out, fun _ => rfl⟩, fun _ => rfl⟩, rfl⟩
    · have hr : Hid (¬ refT t) := Lib.hid (fun h => h2 (h.2.trans ref_cat.symm))
      have hq2 := sm_neN h2
      clear h2
      go_enter Tryz.func37, Tryz.ntmps37
      go_wp2
      go_ret2
      exact ⟨⟨_, false, rfl, ⟨(fun h => absurd h (by decide)), fun h => absurd h hr.out⟩, (fun h => absurd h (by decide))⟩, rfl⟩
theorem orB_f {a b : Prop} (h : (false = true ∧ a) ∨ (false = false ∧ b)) : b := by
  rcases h with ⟨h, -⟩ | ⟨-, h⟩
  · exact absurd h (by decide)
  · exact h
theorem orB_t {a b : Prop} (h : (true = true ∧ a) ∨ (true = false ∧ b)) : a := by
  rcases h with ⟨-, h⟩ | ⟨h, -⟩
  · exact h
  · exact absurd h (by decide)
theorem info_strz : (Tryz.prog.info? 9).map (fun i => (i.zero.map (·.cells.size), i.size, i.bytes)) = some (some 1, 1, 16) := by kernel_rfl
theorem clear_step {es : List Ent} {i k : Nat} {r : ByteArray} (hk : k < es.length) (h : ∀ j (h : j < es.length), i < j → j < k → ¬ es[j].what = (⟨#[99, 108, 101, 97, 114, 32]⟩ : ByteArray) ++ r) (hn : ¬ es[k].what = (⟨#[99, 108, 101, 97, 114, 32]⟩ : ByteArray) ++ r) : ∀ j (h : j < es.length), i < j → j < k + 1 → ¬ es[j].what = (⟨#[99, 108, 101, 97, 114, 32]⟩ : ByteArray) ++ r := by
  intro j hj h1 h2
  by_cases e : j < k
  · exact h j hj h1 e
  · have : j = k := by omega
    subst this; exact hn
set_option maxRecDepth 100000 in
set_option maxHeartbeats 8000000 in
theorem spec_RefusalsIn (v : Value) (l : List Sgn) (lo hi : Nat) (s : ByteArray) (w : World) (hl : Sgns lo hi w v l) (hwf : ∀ x ∈ l, x.wf) (hs : s.size ≤ 1048576) :
    Calls Tryz.prog 17 #[v, .string s] w (RefRes l s w) := by
  have hl0 := hl
  obtain ⟨sa, cap, rfl, -⟩ := hl
  have HB := Lib.hid (spec_CodeL sa l cap lo hi s w hl0 hwf hs)
  clear hl0
  go_enter Tryz.func17, Tryz.ntmps17
  go_wp2_with fail
  refine HB.out.mono ?_
  rintro e w1 ⟨p, t, c, rfl, hc, hb, b1⟩
  have Hc := Lib.hid hc
  by_cases h0 : c = 0
  · subst h0
    have Hb := Lib.hid (hb rfl)
    have hcn : t.es.length ≤ 4000 := by have := Hb.out.cnt; have := Hb.out.pos; have := hc.ok.2; omega
    have hz1 := b1.size
    have Hpl := Lib.hid hc.plain
    clear hb hc HB
    go_wp2
    go_loopw [8, 9] (fun vo vi wr => ∃ k : Nat, k ≤ t.es.length ∧ vi = .int .i64 k ∧ Below w1.heap.size w1 wr ∧ Hid (Own 1 strC w1.heap.size 9 wr vo (refTo t.es k))) (fun _ vi _ => t.es.length - (intOf vi).toNat)
    case atStart => exact ⟨0, Nat.zero_le _, rfl, (Below.refl _ _).alloc (Nat.le_refl _) _, Lib.hid (own_empty w1 9 w1.heap.size (Nat.le_refl _))⟩
    case round =>
      obtain ⟨k, hk, rfl, hB, hown⟩ := hrel
      obtain ⟨ea, en, ec, c0, c1, c2, c3, c4, c5, hes, -⟩ := (Hb.out.ext hB).cells
      have hzr := hB.size
      obtain ⟨va, vc, he⟩ := own_sv hes
      cases he
      by_cases hlt : k < t.es.length
      · have hsl := (hes.slw Ent.len).1
        obtain ⟨jb, jo, hja⟩ := hsl.addr (by omega)
        subst hja
        obtain ⟨y0, y1, y2⟩ := Ents.at hsl.get hlt
        have Hsl := Lib.hid hsl
        have hpk := Hpl.out _ (List.getElem_mem hlt)
        have Hyes := Lib.hid (fun h => refTo_yes hlt h)
        have Hno := Lib.hid (fun h => refTo_no hlt h)
        have hfl := refTo_len t.es k
        have hA := Lib.hid (spec_After t.es[k].what wr (by unfold maxLen; omega))
        have hrz : (restT t.es[k].what).size ≤ 50 := by unfold restT; rw [ByteArray.size_extract]; omega
        clear hsl hes
        generalize hxk : t.es[k].what = tx at *
        clear hxk
        go_wp2_with fail
        refine hA.out.mono ?_
        rintro e w2 ⟨⟨r, ok, rfl, hok, hr⟩, rfl⟩
        cases ok
        · have Hn := Lib.hid (Hno.out (fun h => absurd (hok.2 h.1) (by decide)))
          clear hok hr
          by_cases hml : k + 1 < t.es.length
          · have hml' : decide ((k : Int) + 1 < (t.es.length : Int)) = true := decide_eq_true (by omega)
            go_wp2
            refine wp_loop_rounds 1 ?_
            rw [rounds_succ]
            go_wp2
            go_roundw
            case rel => exact ⟨k + 1, by omega, by go_num, hB, Lib.hid (by rw [Hn.out]; exact hown.out)⟩
            case measure => simp [intOf]; omega
          · have hml' : decide ((k : Int) + 1 < (t.es.length : Int)) = false := decide_eq_false (by omega)
            go_wp2
            refine wp_loop_rounds 1 ?_
            rw [rounds_succ]
            go_wp2
            go_roundw
            case rel => exact ⟨k + 1, by omega, by go_num, hB, Lib.hid (by rw [Hn.out]; exact hown.out)⟩
            case measure => simp [intOf]; omega
        · obtain rfl := hr rfl
          have Href := Lib.hid (hok.1 rfl)
          clear hok hr
          have Hp1 := Lib.hid (fun h => Hyes.out ⟨Href.out, h⟩)
          have Hp0 := Lib.hid (fun (h : ¬ noClear t.es k (restT tx)) => Hno.out (fun hp => h hp.2))
          clear Hyes Hno
          generalize restT tx = r at *
          have hsa : ¬ 9223372036854775807 < 6 + r.size := by omega
          go_wp2
          go_loop [11, 12] (fun vo vi => ∃ (m : Nat) (ok : Bool), k + 1 ≤ m ∧ m ≤ t.es.length ∧ vi = .int .i64 m ∧ vo = .bool ok ∧ Hid ((ok = true ∧ ∀ j (h : j < t.es.length), k < j → j < m → ¬ t.es[j].what = (⟨#[99, 108, 101, 97, 114, 32]⟩ : ByteArray) ++ r) ∨ (ok = false ∧ ¬ noClear t.es k r))) (fun _ vi => t.es.length - (intOf vi).toNat)
          case atStart => exact ⟨k + 1, true, Nat.le_refl _, hlt, by go_num, rfl, Lib.hid (.inl ⟨rfl, fun j _ h1 h2 => absurd h1 (by omega)⟩)⟩
          case round =>
            obtain ⟨m, ok, hm1, hm, rfl, rfl, hh⟩ := hrel
            cases ok
            · have hh1 := Lib.hid (orB_f hh.out)
              have Hn := Lib.hid (Hp0.out hh1.out)
              by_cases hml : m < t.es.length
              · have hml' : decide ((m : Int) < (t.es.length : Int)) = true := decide_eq_true (by omega)
                go_wp2
                go_roundw
                case rel => exact ⟨k + 1, by omega, by go_num, hB, Lib.hid (by rw [Hn.out]; exact hown.out)⟩
                case measure => simp [intOf]; omega
              · have hml' : decide ((m : Int) < (t.es.length : Int)) = false := decide_eq_false (by omega)
                go_wp2
                go_roundw
                case rel => exact ⟨k + 1, by omega, by go_num, hB, Lib.hid (by rw [Hn.out]; exact hown.out)⟩
                case measure => simp [intOf]; omega
            · have hh1 := Lib.hid (orB_t hh.out)
              by_cases hml : m < t.es.length
              · have hml' : decide ((m : Int) < (t.es.length : Int)) = true := decide_eq_true (by omega)
                obtain ⟨-, -, x2⟩ := Ents.at (Sl.get Hsl.out) hml
                have Hst := Lib.hid (fun h => clear_step hml hh1.out h)
                have Hbad := Lib.hid (fun (h : t.es[m].what = (⟨#[99, 108, 101, 97, 114, 32]⟩ : ByteArray) ++ r) (hn : noClear t.es k r) => hn m hml (by omega) h)
                generalize t.es[m].what = wm at *
                by_cases he : wm = (⟨#[99, 108, 101, 97, 114, 32]⟩ : ByteArray) ++ r
                · have Hb2 := Lib.hid (Hbad.out he)
                  have hq2 := sm_eqN he
                  clear he Hst Hbad hh1
                  go_wp2
                  go_round
                  case rel => exact ⟨m + 1, false, by omega, by omega, by go_num, rfl, Lib.hid (.inr ⟨rfl, Hb2.out⟩)⟩
                  case measure => simp [intOf]; omega
                · have Hb2 := Lib.hid (Hst.out he)
                  have hq2 := sm_neN he
                  clear he Hst Hbad hh1
                  go_wp2
                  go_round
                  case rel => exact ⟨m + 1, true, by omega, by omega, by go_num, rfl, Lib.hid (.inl ⟨rfl, Hb2.out⟩)⟩
                  case measure => simp [intOf]; omega
              · have hml' : decide ((m : Int) < (t.es.length : Int)) = false := decide_eq_false (by omega)
                have Hn := Lib.hid (Hp1.out (fun j hj h1 => hh1.out j hj h1 (by omega)))
                have hown2 := hown
                generalize refTo t.es k = acc at *
                go_wp2_with (at_builtin; refine wpList_app1 (c := strC) (bytes := 16) rfl _ _ 34 9 rfl Tryz.underlying34 info_strz (by omega) strC_len strC_one w1.heap.size _ r _ rfl wr rfl hown2.out rfl (by omega) (by omega) (by first | omega | (simp; omega)) ?_; intro v' w5 hown5 hg5)
                have hB5 := hown2.out.app hB (Nat.le_refl _) hzr hg5
                have Hown5 := Lib.hid hown5
                obtain ⟨wa, wc, rfl⟩ := own_sv hown5
                clear hown5 hg5
                go_wp2
                go_roundw
                case rel => exact ⟨k + 1, by omega, by go_num, hB5, Lib.hid (by rw [Hn.out]; exact Hown5.out)⟩
                case measure => simp [intOf]; omega
      · have hkk : k = t.es.length := by omega
        subst hkk
        have Hfin := Lib.hid (hown.out.slw strC_len)
        go_wp2
        go_ret2
        exact ⟨_, 0, ⟨0, t, Hc.out, .inr ⟨rfl, rfl, rfl⟩⟩, Nat.le_trans (refTo_len _ _) hcn, _, rfl, Hfin.out.mono' hz1, b1.trans (hB.mono hz1)⟩
  · have hq : (c != 0) = true := by rw [bne_iff_ne]; exact h0
    have H0 := Lib.hid h0
    clear hb hc h0
    go_wp2
    go_ret2
    exact refs_none ⟨c, t, Hc.out, .inl ⟨H0.out, rfl, rfl⟩⟩ b1
set_option maxHeartbeats 2000000 in
theorem impl_Ref1 (x : Ent) (r : ByteArray) (bx : Nat) (w : World) (hr : r.size ≤ 50) (d0 : w.cell? ⟨bx, 0, none⟩ = some (.string r)) (ok : Bool) (hok : ok = true ↔ x.what = (⟨#[99, 108, 101, 97, 114, 32]⟩ : ByteArray) ++ r) :
    Calls Tryz.prog 40 #[.agg #[.int .i64 x.second, .string x.who, .string x.what], .pointer (some ⟨bx, 0, none⟩)] w fun e w' => e = .returned (.bool ok) ∧ Below w.heap.size w w' := by
  have hb := World.block_lt_of_cell? w _ d0
  have hsa : ¬ 9223372036854775807 < 6 + r.size := by omega
  cases ok
  · have hx : ¬ x.what = (⟨#[99, 108, 101, 97, 114, 32]⟩ : ByteArray) ++ r := fun h => absurd (hok.2 h) (by decide)
    have hq := sm_neN hx
    clear hx hok
    go_enter Tryz.func40, Tryz.ntmps40
    go_wp2
    go_ret
    exact ⟨rfl, (Below.refl _ _).alloc (Nat.le_refl _) _⟩
  · have hq := sm_eqN (hok.1 rfl)
    clear hok
    go_enter Tryz.func40, Tryz.ntmps40
    go_wp2
    go_ret
    exact ⟨rfl, (Below.refl _ _).alloc (Nat.le_refl _) _⟩
/-- Where the first entry stands that clears; a negative number if there is none. -/
def ClrRes (l : List Ent) (r : ByteArray) (w : World) (e : Ending) (w' : World) : Prop :=
  ∃ i : Int, e = .returned (.int .i64 i) ∧ ((∃ k : Nat, ∃ h : k < l.length, i = (k : Int) ∧ l[k].what = (⟨#[99, 108, 101, 97, 114, 32]⟩ : ByteArray) ++ r) ∨ (i = -1 ∧ ∀ j (hj : j < l.length), ¬ l[j].what = (⟨#[99, 108, 101, 97, 114, 32]⟩ : ByteArray) ++ r)) ∧ Below w.heap.size w w'
set_option maxRecDepth 100000 in
set_option maxHeartbeats 4000000 in
theorem impl_ClrIdx (v : Value) (l : List Ent) (lo hi : Nat) (r : ByteArray) (b : Nat) (w : World) (h : Ents lo hi w v l) (hr : r.size ≤ 50) (c0 : w.cell? ⟨b, 0, none⟩ = some (.string r)) :
    Calls Tryz.prog 55 #[v, .func (.func 40) #[] #[.pointer (some ⟨b, 0, none⟩)]] w (ClrRes l r w) := by
  have hsl := h
  obtain ⟨a, cap, rfl, hlen, hh⟩ := h
  clear hh
  have hbb := World.block_lt_of_cell? w _ c0
  have C0 := Lib.hid c0
  clear c0
  go_enter Tryz.func55, Tryz.ntmps55
  go_wp2
  go_loopw [8] (fun i wr => ∃ k : Nat, k ≤ l.length ∧ i = .int .i64 k ∧ Below w.heap.size w wr ∧ Hid (∀ j (h : j < l.length), j < k → ¬ l[j].what = (⟨#[99, 108, 101, 97, 114, 32]⟩ : ByteArray) ++ r)) (fun i _ => l.length - (intOf i).toNat)
  case atStart => exact ⟨0, Nat.zero_le _, rfl, Below.refl _ _, Lib.hid (fun _ _ h => absurd h (by omega))⟩
  case round =>
    obtain ⟨k, hk, rfl, hB, hno⟩ := hrel
    by_cases hlt : k < l.length
    · obtain ⟨b2, off, rfl⟩ := hsl.addr (by omega)
      obtain ⟨d0, d1, d2⟩ := Ents.at (Sl.get (hsl.ext hB)) hlt
      have Hst : Hid (¬ l[k].what = (⟨#[99, 108, 101, 97, 114, 32]⟩ : ByteArray) ++ r → ∀ j (h : j < l.length), j < k + 1 → ¬ l[j].what = (⟨#[99, 108, 101, 97, 114, 32]⟩ : ByteArray) ++ r) := Lib.hid (fun h j hj hjk => by
        by_cases e : j < k
        · exact hno.out j hj e
        · have : j = k := by omega
          subst this; exact h)
      have Hhit := Lib.hid (fun (h : l[k].what = (⟨#[99, 108, 101, 97, 114, 32]⟩ : ByteArray) ++ r) => (⟨k, hlt, rfl, h⟩ : ∃ k' : Nat, ∃ h : k' < l.length, (k : Int) = (k' : Int) ∧ l[k'].what = (⟨#[99, 108, 101, 97, 114, 32]⟩ : ByteArray) ++ r))
      have hcell := (hB.cell (p := ⟨b, 0, none⟩) hbb).trans C0.out
      clear hsl
      generalize l[k] = x at *
      by_cases hx : x.what = (⟨#[99, 108, 101, 97, 114, 32]⟩ : ByteArray) ++ r
      · have Hr := Lib.hid (Hhit.out hx)
        have Hcall := Lib.hid (impl_Ref1 x r b wr hr hcell true ⟨fun _ => hx, fun _ => rfl⟩)
        clear hx Hst Hhit hcell
        go_wp2_with (go_at_call 40; refine Hcall.out.mono ?_; rintro e w1 ⟨rfl, hb1⟩)
        go_ret
        exact ⟨_, rfl, .inl Hr.out, hB.trans (hb1.mono hB.size)⟩
      · have Hn := Lib.hid (Hst.out hx)
        have Hcall := Lib.hid (impl_Ref1 x r b wr hr hcell false ⟨fun h => absurd h (by decide), fun h => absurd h hx⟩)
        clear hx Hst Hhit hcell
        go_wp2_with (go_at_call 40; refine Hcall.out.mono ?_; rintro e w1 ⟨rfl, hb1⟩)
        go_roundw
        case rel => exact ⟨k + 1, by omega, by go_num, hB.trans (hb1.mono hB.size), Hn⟩
        case measure => simp [intOf]; omega
    · have Hn : Hid (∀ j (hj : j < l.length), ¬ l[j].what = (⟨#[99, 108, 101, 97, 114, 32]⟩ : ByteArray) ++ r) := Lib.hid (fun j hj => hno.out j hj (by omega))
      go_wp2
      go_ret
      exact ⟨_, rfl, .inr ⟨rfl, Hn.out⟩, hB⟩
set_option maxHeartbeats 1000000 in
theorem impl_Clr (v : Value) (l : List Ent) (lo hi : Nat) (r : ByteArray) (b : Nat) (w : World) (h : Ents lo hi w v l) (hr : r.size ≤ 50) (c0 : w.cell? ⟨b, 0, none⟩ = some (.string r)) :
    Calls Tryz.prog 39 #[v, .func (.func 40) #[] #[.pointer (some ⟨b, 0, none⟩)]] w fun e w' => (∃ ok : Nat, e = .returned (.bool (decide (ok = 0))) ∧ (ok = 0 ↔ ∃ j, ∃ hj : j < l.length, l[j].what = (⟨#[99, 108, 101, 97, 114, 32]⟩ : ByteArray) ++ r)) ∧ Below w.heap.size w w' := by
  have H := Lib.hid (impl_ClrIdx v l lo hi r b w h hr c0)
  obtain ⟨a, cap, rfl, -⟩ := h
  clear c0
  go_enter Tryz.func39, Tryz.ntmps39
  go_wp2_with fail
  refine H.out.mono ?_
  rintro e w1 ⟨i, rfl, hi, b1⟩
  rcases hi with ⟨k, hk, rfl, hx⟩ | ⟨rfl, hno⟩
  · have hq : decide ((0 : Int) ≤ (k : Int)) = true := decide_eq_true (by omega)
    have Hx := Lib.hid hx
    clear hx
    go_wp2
    go_ret
    exact ⟨⟨0, rfl, ⟨fun _ => ⟨k, hk, Hx.out⟩, fun _ => rfl⟩⟩, b1⟩
  · have Hno := Lib.hid hno
    clear hno
    go_wp2
    go_ret
    exact ⟨⟨1, rfl, ⟨fun h => absurd h (by decide), fun ⟨j, hj, h⟩ => absurd h (Hno.out j hj)⟩⟩, b1⟩
theorem drop_clear {es : List Ent} {i : Nat} {r : ByteArray} : (∃ j, ∃ hj : j < (es.drop (i + 1)).length, (es.drop (i + 1))[j].what = (⟨#[99, 108, 101, 97, 114, 32]⟩ : ByteArray) ++ r) ↔ ¬ noClear es i r := by
  constructor
  · rintro ⟨j, hj, h⟩ hn
    rw [List.length_drop] at hj
    rw [List.getElem_drop] at h
    exact hn (i + 1 + j) (by omega) (by omega) h
  · intro h
    apply Classical.byContradiction
    intro hne
    refine h (fun j hj hij he => hne ⟨j - (i + 1), by rw [List.length_drop]; omega, ?_⟩)
    rw [List.getElem_drop]
    have : i + 1 + (j - (i + 1)) = j := by omega
    simp only [this]
    exact he
theorem pre_ref {t : ByteArray} : Lib.hasPrefix t.data.toList (⟨#[114, 101, 102, 117, 115, 101, 32]⟩ : ByteArray).data.toList = true ↔ 7 ≤ t.size ∧ t.extract 0 7 = (⟨#[114, 101, 102, 117, 115, 101, 32]⟩ : ByteArray) := by
  have h7 : (⟨#[114, 101, 102, 117, 115, 101, 32]⟩ : ByteArray).data.toList.length = 7 := rfl
  have hts : t.data.toList.length = t.size := Array.length_toList
  unfold Lib.hasPrefix
  rw [List.isPrefixOf_iff_prefix, List.prefix_iff_eq_take, h7]
  constructor
  · intro h
    have h1 := congrArg List.length h
    rw [h7, List.length_take] at h1
    refine ⟨by omega, ?_⟩
    apply ByteArray.ext
    apply Array.toList_inj.1
    rw [h]
    simp [ByteArray.data_extract]
  · rintro ⟨-, h⟩
    rw [← h]
    simp [ByteArray.data_extract]
theorem cut_ref {t : ByteArray} (h : Lib.hasPrefix t.data.toList (⟨#[114, 101, 102, 117, 115, 101, 32]⟩ : ByteArray).data.toList = true) : (⟨(Lib.trimPrefix t.data.toList (⟨#[114, 101, 102, 117, 115, 101, 32]⟩ : ByteArray).data.toList).toArray⟩ : ByteArray) = restT t := by
  unfold Lib.trimPrefix
  rw [if_pos h]
  unfold restT
  apply ByteArray.ext
  apply Array.toList_inj.1
  have h7 : (⟨#[114, 101, 102, 117, 115, 101, 32]⟩ : ByteArray).data.toList.length = 7 := rfl
  rw [h7]
  simp [ByteArray.data_extract]
  rw [List.take_of_length_le]
  rw [List.length_drop, Array.length_toList]
  show _ ≤ t.data.size - 7
  omega
theorem Sl.drop {α : Type} {n : Nat} {c : α → List Value} {lo hi : Nat} {w : World} {b off len cap k m cap2 : Nat} {l : List α} (h : Sl n c lo hi w (.slice (some ⟨b, off, none⟩) len cap) l) (hk : k ≤ l.length) (hm : m = l.length - k) (hc : m ≤ cap2 ∧ cap2 ≤ 9223372036854775807) {o2 : Nat} (ho : o2 = off + k * n) : Sl n c lo hi w (.slice (some ⟨b, o2, none⟩) m cap2) (l.drop k) := by
  subst ho hm
  have hlen : (l.drop k).length = l.length - k := List.length_drop
  refine ⟨_, cap2, by rw [hlen], by omega, fun h0 => ?_⟩
  rw [hlen] at h0
  obtain ⟨a, cap', hv, _, hh⟩ := h
  cases hv
  obtain ⟨b', off', ha, h1, h2, hcc⟩ := hh (by omega)
  cases ha
  refine ⟨b, off + k * n, rfl, h1, h2, fun i hi j u hu => ?_⟩
  rw [List.getElem_drop] at hu
  have := hcc (k + i) (by omega) j u hu
  rw [← this, Nat.add_mul]
  congr 2
  omega
theorem sl_zero {es : List Ent} {k lo hi : Nat} {w : World} {a : Option Addr} (h : es.length ≤ k) : Ents lo hi w (.slice a 0 0) (es.drop k) := by
  rw [List.drop_eq_nil_of_le h]
  exact ⟨a, 0, rfl, ⟨Nat.le_refl _, by omega⟩, fun h0 => absurd h0 (by simp)⟩
theorem emp_t {r : ByteArray} (h : r = ⟨#[]⟩) : r.toList.isEmpty = true := by rw [h]; simp
theorem emp_f {r : ByteArray} (h : ¬ r = ⟨#[]⟩) : r.toList.isEmpty = false := by
  have := sm_neN h
  simpa using this
theorem blkN_new2z (w : World) (o o2 : Obj) : ((w.alloc o).alloc o2).heap[w.heap.size + 1]? = some o2 := by
  have h : ((w.alloc o).alloc o2).heap[(w.alloc o).heap.size]? = some o2 := Array.getElem?_push_size
  rwa [World.size_alloc] at h
theorem ref_iff {t : ByteArray} : refT t ↔ Lib.hasPrefix t.data.toList (⟨#[114, 101, 102, 117, 115, 101, 32]⟩ : ByteArray).data.toList = true ∧ ¬ restT t = ⟨#[]⟩ := by
  have hz : (restT t).size = t.size - 7 := by unfold restT; rw [ByteArray.size_extract]; omega
  constructor
  · rintro ⟨h1, h2⟩
    refine ⟨pre_ref.2 ⟨by omega, h2⟩, fun h => ?_⟩
    have := congrArg ByteArray.size h
    rw [hz] at this
    have h0 : (⟨#[]⟩ : ByteArray).size = 0 := rfl
    omega
  · rintro ⟨h1, h2⟩
    obtain ⟨h3, h4⟩ := pre_ref.1 h1
    refine ⟨?_, h4⟩
    apply Nat.lt_of_not_le
    intro hle
    apply h2
    have : (restT t).size = 0 := by omega
    exact ByteArray.size_eq_zero_iff.1 this
set_option maxRecDepth 100000 in
set_option maxHeartbeats 8000000 in
theorem impl_RefusalsIn (v : Value) (l : List Sgn) (lo hi : Nat) (s : ByteArray) (w : World) (hl : Sgns lo hi w v l) (hhi : hi ≤ w.heap.size) (hwf : ∀ x ∈ l, x.wf) (hs : s.size ≤ 1048576) (hm : ML w) (h10 : P10 w) (hev : EV w) :
    Calls Tryz.prog 18 #[v, .string s] w (RefRes l s w) := by
  have hl0 := hl
  obtain ⟨sa, cap, rfl, -⟩ := hl
  have HB := Lib.hid (impl_OpenLog sa l cap lo hi s w hl0 hhi hwf hs hm h10 hev)
  clear hl0 hm h10 hev
  go_enter Tryz.func18, Tryz.ntmps18
  go_wp2_with fail
  refine HB.out.mono ?_
  rintro e w1 ⟨pv, c, t, rfl, hc, hb, b1⟩
  have Hc := Lib.hid hc
  by_cases h0 : c = 0
  · subst h0
    obtain ⟨q, Bo, rfl, hBo, hj⟩ := hb rfl
    have hcn : t.es.length ≤ 4000 := Nat.le_trans hj.cnt hj.pos
    have hz1 := b1.size
    have Hpl := Lib.hid hc.plain
    obtain ⟨ea, ec, c0, c1, c2, c3, hes, hqw⟩ := hj.cells
    have Hsl := Lib.hid (hes.slw Ent.len).1
    have hcap : t.es.length ≤ ec ∧ ec ≤ 9223372036854775807 := by
      obtain ⟨_, _, hv, hcc, -⟩ := (hes.slw Ent.len).1
      cases hv
      exact hcc
    have Hc1 := Lib.hid c1
    clear hb hc HB hj hes
    go_wp2
    go_loopw [8, 27] (fun vo vi wr => ∃ k : Nat, k ≤ t.es.length ∧ vi = .int .i64 k ∧ Below w1.heap.size w1 wr ∧ Hid (Own 1 strC w1.heap.size 9 wr vo (refTo t.es k))) (fun _ vi _ => t.es.length - (intOf vi).toNat)
    case atStart => exact ⟨0, Nat.zero_le _, rfl, Below.refl _ _, Lib.hid (own_nil _ _ _)⟩
    case round =>
      clear c0 c1 c2 c3
      obtain ⟨k, hk, rfl, hB, hown⟩ := hrel
      have hzr := hB.size
      by_cases hlt : k < t.es.length
      · have hsl := Hsl.out.ext hB
        obtain ⟨jb, jo, hja⟩ := hsl.addr (by omega)
        subst hja
        obtain ⟨y0, y1, y2⟩ := Ents.at (Sl.get hsl) hlt
        have hpk := Hpl.out _ (List.getElem_mem hlt)
        have Hyes := Lib.hid (fun h => refTo_yes hlt h)
        have Hno := Lib.hid (fun h => refTo_no hlt h)
        have hfl := refTo_len t.es k
        clear hsl
        generalize t.es[k] = x at *
        have hrz : (restT x.what).size ≤ 50 := by unfold restT; rw [ByteArray.size_extract]; omega
        have HR := Lib.hid (ref_iff (t := x.what))
        have hCP := fun w' => (Tryz.strings_CutPrefix x.what (⟨#[114, 101, 102, 117, 115, 101, 32]⟩ : ByteArray) w').mono (fun e w2 h => (⟨h.1, h.2.symm⟩ : e = _ ∧ w' = w2))
        have hcut := cut_ref (t := x.what)
        cases hpf : Lib.hasPrefix x.what.data.toList (⟨#[114, 101, 102, 117, 115, 101, 32]⟩ : ByteArray).data.toList
        · rw [hpf] at hCP
          have Hn := Lib.hid (Hno.out (fun h => by
            have := (HR.out.1 h.1).1
            rw [hpf] at this
            cases this))
          generalize (⟨(Lib.trimPrefix x.what.data.toList (⟨#[114, 101, 102, 117, 115, 101, 32]⟩ : ByteArray).data.toList).toArray⟩ : ByteArray) = cut at *
          have HCP := Lib.hid hCP
          clear hcut hpf hCP Hyes Hno HR
          have hbn : Below wr.heap.size wr ((wr.alloc (.cells #[.int .i64 x.second, .string x.who, .string x.what] 48)).alloc (.cells #[.string cut] 9)) := ((Below.refl _ _).alloc (Nat.le_refl _) _).alloc (by simp) _
          have Hown2 := Lib.hid (hown.out.below hbn)
          have hB2 := hB.trans (hbn.mono hzr)
          go_wp2_with (go_at_call 38; refine (HCP.out _).mono ?_; rintro e w2 ⟨rfl, rfl⟩)
          go_roundw
          case rel => exact ⟨k + 1, by omega, by go_num, hB2, Lib.hid (by rw [Hn.out]; exact Hown2.out)⟩
          case measure => simp [intOf]; omega
        · rw [hpf, hcut hpf] at hCP
          have HCP := Lib.hid hCP
          clear hcut hCP
          have hbn : Below wr.heap.size wr ((wr.alloc (.cells #[.int .i64 x.second, .string x.who, .string x.what] 48)).alloc (.cells #[.string (restT x.what)] 9)) := ((Below.refl _ _).alloc (Nat.le_refl _) _).alloc (by simp) _
          have Hown2 := Lib.hid (hown.out.below hbn)
          have hB2 := hB.trans (hbn.mono hzr)
          have hxx := blkN_new2z wr (.cells #[.int .i64 x.second, .string x.who, .string x.what] 48) (.cells #[.string (restT x.what)] 9)
          by_cases hem : restT x.what = ⟨#[]⟩
          · have Hn := Lib.hid (Hno.out (fun h => (HR.out.1 h.1).2 hem))
            have hq := sm_eqN hem
            have hqe := emp_t hem
            clear hpf Hyes Hno HR hem hxx
            generalize restT x.what = r at *
            go_wp2_with (go_at_call 38; refine (HCP.out _).mono ?_; rintro e w2 ⟨rfl, rfl⟩)
            go_roundw
            case rel => exact ⟨k + 1, by omega, by go_num, hB2, Lib.hid (by rw [Hn.out]; exact Hown2.out)⟩
            case measure => simp [intOf]; omega
          · have Href := Lib.hid (HR.out.2 ⟨hpf, hem⟩)
            have hq := sm_neN hem
            have hqe := emp_f hem
            have Hp1 := Lib.hid (fun h => Hyes.out ⟨Href.out, h⟩)
            have Hp0 := Lib.hid (fun (h : ¬ noClear t.es k (restT x.what)) => Hno.out (fun hp => h hp.2))
            have hdrop := Lib.hid (Sl.drop (k := k + 1) (m := t.es.length - (k + 1)) (cap2 := ec - (k + 1)) (o2 := jo + (k + 1) * 3) ((Hsl.out.ext hB).ext hbn) (by omega) rfl ⟨by omega, by omega⟩ rfl)
            have hc1' := (hB.cell (p := ⟨q, 1, none⟩) hqw).trans Hc1.out
            have hqr : q < wr.heap.size := Nat.lt_of_lt_of_le hqw hzr
            have hqr1 : q < wr.heap.size + 1 := by omega
            have hw1 : IntKind.i64.wrap ((k : Int) + 1) = ((k + 1 : Nat) : Int) := by rw [IntKind.wrap_i64]; omega
            have hk3 : (k : Int) + 1 ≤ (t.es.length : Int) := by omega
            have hk4 : (0 : Int) ≤ (k : Int) + 1 := by omega
            have hk5 : k + 1 ≤ t.es.length := hlt
            have hk6 : k + 1 ≤ ec := by omega
            have hk7 : (t.es.length : Int) ≤ (ec : Int) := by omega
            have d0 := (Lib.cell_of_heap hxx 0).trans rfl
            have hdc := drop_clear (es := t.es) (i := k) (r := restT x.what)
            have Hdc := Lib.hid hdc
            have Hxx := Lib.hid hxx
            clear hpf Hyes Hno HR hem hdc hxx
            generalize restT x.what = r at *
            have hz2 := hB2.size
            by_cases hcz : ec = k + 1
            · subst hcz
              have HC := Lib.hid (impl_Clr _ (t.es.drop (k + 1)) 0 0 r (wr.heap.size + 1) _ (sl_zero (a := some ⟨jb, jo, none⟩) (by omega)) hrz d0)
              go_wp2_with (go_at_call 38; refine (HCP.out _).mono ?_; rintro e w2 ⟨rfl, rfl⟩)
              refine HC.out.mono ?_
              rintro e w4 ⟨⟨ok, rfl, hok⟩, b4⟩
              have hB4 := hB2.trans (b4.mono hz2)
              have hown4 := Lib.hid (Hown2.out.below b4)
              have d4 := blkN_below b4 Hxx.out
              have d5 : w4.cell? ⟨wr.heap.size + 1, 0, none⟩ = some (.string r) := (Lib.cell_of_heap d4 0).trans rfl
              have hz4 := hB4.size
              clear d4 b4
              by_cases hz : ok = 0
              · have Hn := Lib.hid (Hp0.out (Hdc.out.1 (hok.1 hz)))
                subst hz
                clear hok
                go_wp2
                go_roundw
                case rel => exact ⟨k + 1, by omega, by go_num, hB4, Lib.hid (by rw [Hn.out]; exact hown4.out)⟩
                case measure => simp [intOf]; omega
              · have Hn := Lib.hid (Hp1.out (Classical.byContradiction fun h => hz (hok.2 (Hdc.out.2 h))))
                clear hok
                generalize refTo t.es k = acc at *
                go_wp2_with (at_builtin; refine wpList_app1 (c := strC) (bytes := 16) rfl _ _ 34 9 rfl Tryz.underlying34 info_strz (by omega) strC_len strC_one w1.heap.size _ r _ rfl w4 rfl hown4.out rfl (by omega) (by omega) (by first | omega | (simp; omega)) ?_; intro v' w5 hown5 hg5)
                have hB5 := hown4.out.app hB4 (Nat.le_refl _) hz4 hg5
                have Hown5 := Lib.hid hown5
                obtain ⟨wa, wc, rfl⟩ := own_sv hown5
                clear hown5 hg5
                go_wp2
                go_roundw
                case rel => exact ⟨k + 1, by omega, by go_num, hB5, Lib.hid (by rw [Hn.out]; exact Hown5.out)⟩
                case measure => simp [intOf]; omega
            · have HC := Lib.hid (impl_Clr _ (t.es.drop (k + 1)) _ _ r (wr.heap.size + 1) _ hdrop.out hrz d0)
              go_wp2_with (go_at_call 38; refine (HCP.out _).mono ?_; rintro e w2 ⟨rfl, rfl⟩)
              refine HC.out.mono ?_
              rintro e w4 ⟨⟨ok, rfl, hok⟩, b4⟩
              have hB4 := hB2.trans (b4.mono hz2)
              have hown4 := Lib.hid (Hown2.out.below b4)
              have d4 := blkN_below b4 Hxx.out
              have d5 : w4.cell? ⟨wr.heap.size + 1, 0, none⟩ = some (.string r) := (Lib.cell_of_heap d4 0).trans rfl
              have hz4 := hB4.size
              clear d4 b4
              by_cases hz : ok = 0
              · have Hn := Lib.hid (Hp0.out (Hdc.out.1 (hok.1 hz)))
                subst hz
                clear hok
                go_wp2
                go_roundw
                case rel => exact ⟨k + 1, by omega, by go_num, hB4, Lib.hid (by rw [Hn.out]; exact hown4.out)⟩
                case measure => simp [intOf]; omega
              · have Hn := Lib.hid (Hp1.out (Classical.byContradiction fun h => hz (hok.2 (Hdc.out.2 h))))
                clear hok
                generalize refTo t.es k = acc at *
                go_wp2_with (at_builtin; refine wpList_app1 (c := strC) (bytes := 16) rfl _ _ 34 9 rfl Tryz.underlying34 info_strz (by omega) strC_len strC_one w1.heap.size _ r _ rfl w4 rfl hown4.out rfl (by omega) (by omega) (by first | omega | (simp; omega)) ?_; intro v' w5 hown5 hg5)
                have hB5 := hown4.out.app hB4 (Nat.le_refl _) hz4 hg5
                have Hown5 := Lib.hid hown5
                obtain ⟨wa, wc, rfl⟩ := own_sv hown5
                clear hown5 hg5
                go_wp2
                go_roundw
                case rel => exact ⟨k + 1, by omega, by go_num, hB5, Lib.hid (by rw [Hn.out]; exact Hown5.out)⟩
                case measure => simp [intOf]; omega
      · have hkk : k = t.es.length := by omega
        subst hkk
        have Hfin := Lib.hid (hown.out.slw strC_len)
        go_wp2
        go_ret2
        exact ⟨_, 0, ⟨0, t, Hc.out, .inr ⟨rfl, rfl, rfl⟩⟩, Nat.le_trans (refTo_len _ _) hcn, _, rfl, Hfin.out.mono' hz1, b1.trans (hB.mono hz1)⟩
  · have hq : (c != 0) = true := by rw [bne_iff_ne]; exact h0
    have H0 := Lib.hid h0
    clear hb hc h0
    go_wp2
    go_ret2
    exact refs_none ⟨c, t, Hc.out, .inl ⟨H0.out, rfl, rfl⟩⟩ b1
end Go.Proofs.YtjjibdjliejcfaaGreatDoor
