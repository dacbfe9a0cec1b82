/- The log: entries added one after the other, in plain Lean; the reference adds one. -/
import Derived.Test.YtjjibdjliejcfaaGreatDoorLgE
import Derived.Test.YtjjibdjliejcfaaGreatDoorLgJ
namespace Go.Proofs.YtjjibdjliejcfaaGreatDoor
open Go.RowKit
theorem cat_extract {s r : ByteArray} {a b : Nat} (hb : b ≤ s.size) : (s ++ r).extract a b = s.extract a b := by
  rw [ByteArray.extract_append]
  have h : r.extract (a - s.size) (b - s.size) = ByteArray.empty := by
    have hz : (r.extract (a - s.size) (b - s.size)).size = 0 := by rw [ByteArray.size_extract]; omega
    exact ByteArray.size_eq_zero_iff.1 hz
  rw [h, ByteArray.append_empty]
theorem StepL.cat {l : List Sgn} {s r : ByteArray} {t u : LgSt} (h : StepL l s t u) : StepL l (s ++ r) t u := by
  obtain ⟨x, h1, h2, h3, h4, h5, h6, h7, h8⟩ := h
  exact ⟨x, h1, h2, h3, h4, by rw [ByteArray.size_append]; omega, by rw [cat_extract h5]; exact h6, h7, h8⟩
theorem lgN_cat {l : List Sgn} {s r : ByteArray} : ∀ {n : Nat} {t : LgSt}, lgN l s n = some t → lgN l (s ++ r) n = some t
  | 0, t, h => h
  | n + 1, t, h => by
    rw [lgN] at h ⊢
    cases hn : lgN l s n with
    | none => rw [hn] at h; cases h
    | some u =>
      rw [hn] at h
      have h : nextL l s u = some t := h
      rw [lgN_cat hn]
      exact nextL_some (nextI_step h).cat
/-- What has been read is all of the text. -/
def Whole (l : List Sgn) (s : ByteArray) (t : LgSt) : Prop := ∃ n, lgN l s n = some t ∧ t.pos = s.size
theorem Whole.zero (l : List Sgn) : Whole l ⟨#[]⟩ lg0 := ⟨0, rfl, rfl⟩
theorem Whole.reads {l : List Sgn} {s : ByteArray} {t : LgSt} (h : Whole l s t) : ReadsTo l s t := by
  obtain ⟨n, hn, hp⟩ := h
  exact ⟨n, hn, nextL_none (step_none (fun i hi => by obtain ⟨h1, h2, -⟩ := hi; omega))⟩
theorem Whole.add {l : List Sgn} {s : ByteArray} {t : LgSt} {x : Ent} (h : Whole l s t) (hx : AddC l t x 0) : Whole l (s ++ lineB (signE (keyOf l x.who) t.sign x) x) (addL l t x) := by
  obtain ⟨n, hn, hp⟩ := h
  obtain ⟨h1, h2, h3⟩ : x.plain ∧ ¬ keyOf l x.who = 0 ∧ t.last ≤ x.second := by
    rcases hx with ⟨-, h⟩ | ⟨-, -, h⟩ | ⟨-, -, -, h⟩ | ⟨-, -, -, -, h⟩ | ⟨h1, h2, h3, -, -⟩
    · exact absurd h (by decide)
    · exact absurd h (by decide)
    · exact absurd h (by decide)
    · exact absurd h (by decide)
    · exact ⟨h1, h2, h3⟩
  refine ⟨n + 1, ?_, ?_⟩
  · rw [lgN, lgN_cat hn]
    refine nextL_some ⟨x, h1, h2, h3, rfl, ?_, ?_, rfl, rfl⟩
    · rw [ByteArray.size_append]
      show t.pos + _ ≤ _
      omega
    · show ByteArray.extract _ t.pos (t.pos + (lineB (signE (keyOf l x.who) t.sign x) x).size) = _
      rw [hp]
      exact ByteArray.extract_append_eq_right rfl (by first | rfl | (rw [ByteArray.size_append]))
  · show t.pos + (lineB (signE (keyOf l x.who) t.sign x) x).size = _
    rw [ByteArray.size_append, hp]
/-- Entries are added one after the other to a text; the code, and the text. -/
def MakeC (l : List Sgn) : List Ent → ByteArray → LgSt → Int → ByteArray → Prop
  | [], s, _, c, r => c = 0 ∧ r = s
  | x :: es, s, t, c, r => (AddC l t x 0 ∧ MakeC l es (s ++ lineB (signE (keyOf l x.who) t.sign x) x) (addL l t x) c r) ∨ (AddC l t x c ∧ ¬ c = 0 ∧ r = ⟨#[]⟩)
theorem MakeC.uniq {l : List Sgn} : ∀ {es : List Ent} {s : ByteArray} {t : LgSt} {c c2 : Int} {r r2 : ByteArray}, MakeC l es s t c r → MakeC l es s t c2 r2 → c = c2 ∧ r = r2
  | [], _, _, _, _, _, _, ⟨rfl, rfl⟩, ⟨rfl, rfl⟩ => ⟨rfl, rfl⟩
  | x :: es, s, t, c, c2, r, r2, h, h2 => by
    rcases h with ⟨a, b⟩ | ⟨a, b, rfl⟩ <;> rcases h2 with ⟨a', b'⟩ | ⟨a', b', rfl⟩
    · exact MakeC.uniq b b'
    · exact absurd (a'.uniq a) b'
    · exact absurd (a.uniq a') b
    · exact ⟨a.uniq a', rfl⟩
/-- What LogOf answers. -/
def LogC (l : List Sgn) (es : List Ent) (r : ByteArray) (c : Int) : Prop := (¬ sgnsOk l ∧ r = ⟨#[]⟩ ∧ c = 1) ∨ (sgnsOk l ∧ MakeC l es ⟨#[]⟩ lg0 c r)
theorem LogC.uniq {l : List Sgn} {es : List Ent} {r r2 : ByteArray} {c c2 : Int} (h : LogC l es r c) (h2 : LogC l es r2 c2) : r = r2 ∧ c = c2 := by
  rcases h with ⟨a, rfl, rfl⟩ | ⟨a, b⟩ <;> rcases h2 with ⟨a', rfl, rfl⟩ | ⟨a', b'⟩
  · exact ⟨rfl, rfl⟩
  · exact absurd a' a
  · exact absurd a a'
  · exact ⟨(b.uniq b').2, (b.uniq b').1⟩
def AddRes (l : List Sgn) (t : LgSt) (x : Ent) (w : World) (e : Ending) (w' : World) : Prop :=
  ∃ r c, e = .returned (.tuple #[.string r, .int .i64 c]) ∧ AddC l t x c ∧ Below w.heap.size w w' ∧ ((c = 0 ∧ r = lineB (signE (keyOf l x.who) t.sign x) x) ∨ (¬ c = 0 ∧ r = ⟨#[]⟩))
set_option maxRecDepth 100000 in
set_option maxHeartbeats 8000000 in
theorem spec_Add (B p : Nat) (sa : Option Addr) (l : List Sgn) (cap lo hi : Nat) (s : ByteArray) (t : LgSt) (x : Ent) (b o : Nat) (w : World) (h : RBox B p sa l.length cap s t w) (hl : Sgns lo hi w (.slice sa l.length cap) l) (hs : s.size ≤ 4000) (hp : t.pos = s.size)
    (hc : ∀ j u, x.cells[j]? = some u → w.cell? ⟨b, o + j, none⟩ = some u) (hx : x.wf) (hkb : ∀ y ∈ l, 1 ≤ y.key ∧ y.key ≤ 65520) :
    Calls Tryz.prog 48 #[.pointer (some ⟨p, 0, none⟩), .pointer (some ⟨b, o, none⟩)] w (AddRes l t x w) := by
  have c0 := hc 0 _ rfl
  have c1 := hc 1 _ rfl
  simp only [Nat.add_zero] at c0
  have HP := Lib.hid (spec_Plain b o x w hc hx)
  have Hcl := Lib.hid (fun w' (hb : Below w.heap.size w w') j u hu => (hb.cell (p := ⟨b, o + j, none⟩) (World.block_lt_of_cell? w _ (hc j u hu))).trans (hc j u hu))
  have Hbox := Lib.hid h
  obtain ⟨ea, en, ec, d0, d1, d2, d3, d4, d5, -, hpw⟩ := h.cells
  have HK := Lib.hid (fun n => spec_Key _ l x.who lo hi (w.drewN n) (hl.ext (below_dN (Below.refl _ _) n)))
  clear hc h hl
  by_cases hpl : x.plain
  · have HP := HP.out
    rw [plainB_t hpl] at HP
    have HP := Lib.hid HP
    have Hpl := Lib.hid hpl
    by_cases hk : keyOf l x.who = 0
    · have Hk := Lib.hid hk
      have HK := HK.out
      rw [hk] at HK
      have HK := Lib.hid HK
      clear hk hpl
      go_enter Tryz.func48, Tryz.ntmps48
      go_wp2_with (go_at_call 58; refine HP.out.mono ?_; rintro e w6 ⟨rfl, rfl⟩)
      go_wp2_with (go_quiet (first | (go_at_call 45; exact Calls.quiet_of_same (Calls.turn (HK.out _)))))
      go_ret2
      exact ⟨_, 3, rfl, .inr (.inl ⟨Hpl.out, Hk.out, rfl⟩), below_dN (Below.refl _ _) _, .inr ⟨by decide, rfl⟩⟩
    · have hkbd := keyOf_bd hkb hk
      have Hk := Lib.hid hk
      have hkq : (keyOf l x.who == 0) = false := beq_eq_false_iff_ne.2 hk
      have HS := Lib.hid (fun w' (hb : Below w.heap.size w w') => spec_Sign (keyOf l x.who) t.sign b o x w' hkbd Hbox.out.sg (Hcl.out w' hb) hpl)
      have hsgb := signE_bd (keyOf l x.who) t.sign x
      have HL := Lib.hid (fun w' (hb : Below w.heap.size w w') => spec_Line (signE (keyOf l x.who) t.sign x) b o x w' hsgb (Hcl.out w' hb) hpl)
      have hln := line_size (signE (keyOf l x.who) t.sign x) hsgb hpl
      have Hpos : Hid ((addL l t x).pos = s.size + (lineB (signE (keyOf l x.who) t.sign x) x).size) := Lib.hid (by rw [← hp]; rfl)
      have Hfin : Hid (∀ e w', (∃ r c, e = .returned (.tuple #[.string r, .int .i64 c]) ∧ AddC l t x c ∧ Below w.heap.size w w' ∧ ((c = 0 ∧ r = lineB (signE (keyOf l x.who) t.sign x) x) ∨ (¬ c = 0 ∧ r = ⟨#[]⟩))) → AddRes l t x w e w') := Lib.hid (fun e w' h => h)
      generalize lineB (signE (keyOf l x.who) t.sign x) x = ln at *
      generalize signE (keyOf l x.who) t.sign x = sg at *
      have Hkk := Lib.hid hk
      clear hk hpl
      by_cases hla : t.last ≤ x.second
      · have hq1 : decide (x.second < t.last) = false := decide_eq_false (by omega)
        have Hla := Lib.hid hla
        have hwp : IntKind.i64.wrap ((s.size : Int) + (ln.size : Int)) = (s.size : Int) + (ln.size : Int) := by rw [IntKind.wrap_i64]; omega
        clear hla
        go_enter Tryz.func48, Tryz.ntmps48
        go_wp2_with (go_at_call 58; refine HP.out.mono ?_; rintro e w6 ⟨rfl, rfl⟩)
        go_wp2_with (go_quiet (first | (go_at_call 45; exact Calls.quiet_of_same (Calls.turn (HK.out _)))))
        go_wp2_with (go_quiet (fail))
        refine (HS.out _ (by first | exact below_dN (Below.refl _ _) _ | exact below_dN (below_dN (Below.refl _ _) _) _)).mono ?_
        rintro e w7 ⟨rfl, b7⟩
        have B7 : Below w.heap.size w w7 := by first | exact (below_dN (below_dN (Below.refl _ _) _) _).trans b7 | exact (below_dN (Below.refl _ _) _).trans b7
        clear b7
        go_wp2_with fail
        refine (HL.out _ B7).mono ?_
        rintro e w8 ⟨rfl, b8⟩
        have B8 := B7.trans (b8.mono B7.size)
        have e1 := (B8.cell (p := ⟨p, 1, none⟩) hpw).trans d1
        clear b8 d0 d1 d2 d3 d4 d5 c0 c1 B7
        by_cases hfull : 4000 < s.size + ln.size
        · have hfl : decide ((4000 : Int) < (s.size : Int) + (ln.size : Int)) = true := decide_eq_true (by omega)
          go_wp2
          go_ret2
          exact Hfin.out _ _ ⟨_, 5, rfl, .inr (.inr (.inr (.inl ⟨Hpl.out, Hk.out, Hla.out, by rw [Hpos.out]; exact hfull, rfl⟩))), B8, .inr ⟨by decide, rfl⟩⟩
        · have hfl : decide ((4000 : Int) < (s.size : Int) + (ln.size : Int)) = false := decide_eq_false (by omega)
          go_wp2
          go_ret2
          exact Hfin.out _ _ ⟨_, 0, rfl, .inr (.inr (.inr (.inr ⟨Hpl.out, Hk.out, Hla.out, by rw [Hpos.out]; omega, rfl⟩))), B8, .inl ⟨rfl, rfl⟩⟩
      · have hq1 : decide (x.second < t.last) = true := decide_eq_true (by omega)
        have Hla := Lib.hid (show x.second < t.last by omega)
        clear hla
        go_enter Tryz.func48, Tryz.ntmps48
        go_wp2_with (go_at_call 58; refine HP.out.mono ?_; rintro e w6 ⟨rfl, rfl⟩)
        go_wp2_with (go_quiet (first | (go_at_call 45; exact Calls.quiet_of_same (Calls.turn (HK.out _)))))
        go_wp2_with (go_quiet (fail))
        go_ret2
        exact ⟨_, 6, rfl, .inr (.inr (.inl ⟨Hpl.out, Hk.out, Hla.out, rfl⟩)), by first | exact below_dN (Below.refl _ _) _ | exact below_dN (below_dN (Below.refl _ _) _) _, .inr ⟨by decide, rfl⟩⟩
  · have HP := HP.out
    rw [plainB_f hpl] at HP
    have HP := Lib.hid HP
    have Hpl := Lib.hid hpl
    clear hpl
    go_enter Tryz.func48, Tryz.ntmps48
    go_wp2_with (go_at_call 58; refine HP.out.mono ?_; rintro e w6 ⟨rfl, rfl⟩)
    go_ret2
    exact ⟨_, 7, rfl, .inl ⟨Hpl.out, rfl⟩, Below.refl _ _, .inr ⟨by decide, rfl⟩⟩
end Go.Proofs.YtjjibdjliejcfaaGreatDoor
