/- The log: LogOf, in both packages. -/
import Derived.Test.YtjjibdjliejcfaaDoorLgX
import Derived.Test.YtjjibdjliejcfaaDoorAs
import Derived.Test.YtjjibdjliejcfaaDoorBldW
import Derived.Test.YtjjibdjliejcfaaDoorLgW
namespace Go.Proofs.YtjjibdjliejcfaaDoor
open Go.RowKit
def MakeRes (l : List Sgn) (es : List Ent) (w : World) (e : Ending) (w' : World) : Prop := ∃ r c, e = .returned (.tuple #[.string r, .int .i64 c]) ∧ MakeC l es ⟨#[]⟩ lg0 c r ∧ Below w.heap.size w w'
def LogRes (l : List Sgn) (es : List Ent) (w : World) (e : Ending) (w' : World) : Prop := ∃ r c, e = .returned (.tuple #[.string r, .int .i64 c]) ∧ LogC l es r c ∧ Below w.heap.size w w'
theorem make_yes {l : List Sgn} {es : List Ent} {s : ByteArray} {t : LgSt} {k : Nat} (hk : k < es.length) (h : ∀ c r, MakeC l (es.drop k) s t c r → MakeC l es ⟨#[]⟩ lg0 c r) (hx : AddC l t es[k] 0) :
    ∀ c r, MakeC l (es.drop (k + 1)) (s ++ lineB (signE (keyOf l es[k].who) t.sign es[k]) es[k]) (addL l t es[k]) c r → MakeC l es ⟨#[]⟩ lg0 c r := fun c r hc => by
  refine h c r ?_
  rw [List.drop_eq_getElem_cons hk]
  exact .inl ⟨hx, hc⟩
theorem make_no {l : List Sgn} {es : List Ent} {s : ByteArray} {t : LgSt} {k : Nat} {c : Int} (hk : k < es.length) (h : ∀ c r, MakeC l (es.drop k) s t c r → MakeC l es ⟨#[]⟩ lg0 c r) (hx : AddC l t es[k] c) (hc : ¬ c = 0) : MakeC l es ⟨#[]⟩ lg0 c ⟨#[]⟩ := by
  refine h c _ ?_
  rw [List.drop_eq_getElem_cons hk]
  exact .inr ⟨hx, hc, rfl⟩
theorem make_end {l : List Sgn} {es : List Ent} {s : ByteArray} {t : LgSt} (h : ∀ c r, MakeC l (es.drop es.length) s t c r → MakeC l es ⟨#[]⟩ lg0 c r) : MakeC l es ⟨#[]⟩ lg0 0 s := by
  refine h 0 s ?_
  rw [List.drop_length]
  exact ⟨rfl, rfl⟩
theorem add_bound {l : List Sgn} {t : LgSt} {x : Ent} (h : AddC l t x 0) : (addL l t x).pos ≤ 4000 := by
  rcases h with ⟨-, h⟩ | ⟨-, -, h⟩ | ⟨-, -, -, h⟩ | ⟨-, -, -, -, h⟩ | ⟨-, -, -, h, -⟩
  · exact absurd h (by decide)
  · exact absurd h (by decide)
  · exact absurd h (by decide)
  · exact absurd h (by decide)
  · exact h
theorem add_size {l : List Sgn} {s : ByteArray} {t : LgSt} {x : Ent} (hw : Whole l s t) (h : AddC l t x 0) : (s ++ lineB (signE (keyOf l x.who) t.sign x) x).size ≤ 4000 := by
  have h1 := add_bound h
  have h2 : (addL l t x).pos = t.pos + (lineB (signE (keyOf l x.who) t.sign x) x).size := rfl
  obtain ⟨n, -, hp⟩ := hw
  rw [ByteArray.size_append]
  omega
set_option maxRecDepth 100000 in
set_option maxHeartbeats 8000000 in
theorem spec_Make (sa : Option Addr) (l : List Sgn) (cap lo hi : Nat) (v2 : Value) (es : List Ent) (lo2 hi2 : Nat) (w : World) (hl : Sgns lo hi w (.slice sa l.length cap) l) (hkb : ∀ y ∈ l, 1 ≤ y.key ∧ y.key ≤ 65520) (he : Ents lo2 hi2 w v2 es) (hwf : ∀ x ∈ es, x.wf) :
    Calls Tryd.prog 38 #[.slice sa l.length cap, v2] w (MakeRes l es w) := by
  have hsl := he
  obtain ⟨ea, ec, rfl, hlen, hh⟩ := he
  clear hh
  have Hl := Lib.hid hl
  have Hk := Lib.hid hkb
  have Hwf := Lib.hid hwf
  have Hsl := Lib.hid hsl
  clear hl hkb hwf hsl
  go_enter Tryd.func38, Tryd.ntmps38
  go_wp2
  go_loopw [6, 7] (fun vo vi wr => ∃ (k : Nat) (s : ByteArray) (t : LgSt), k ≤ es.length ∧ vo = .string s ∧ vi = .int .i64 k ∧ Hid (Whole l s t) ∧ s.size ≤ 4000 ∧ Hid (∀ c r, MakeC l (es.drop k) s t c r → MakeC l es ⟨#[]⟩ lg0 c r) ∧ Below w.heap.size w wr) (fun _ vi _ => es.length - (intOf vi).toNat)
  case atStart => exact ⟨0, ⟨#[]⟩, lg0, Nat.zero_le _, rfl, rfl, Lib.hid (Whole.zero l), by decide, Lib.hid (fun c r h => h), Below.refl _ _⟩
  case round =>
    obtain ⟨k, s, t, hk, rfl, rfl, hw, hs, hm, hB⟩ := hrel
    by_cases hlt : k < es.length
    · obtain ⟨jb, jo, rfl⟩ := Hsl.out.addr (by omega)
      have hg := Sl.get (Hsl.out.ext hB) k hlt 0 _ rfl
      have hbe := World.block_lt_of_cell? wr _ hg
      have Hyes := Lib.hid (fun (h : AddC l t es[k] 0) => make_yes hlt hm.out h)
      have Hno := Lib.hid (fun c (h : AddC l t es[k] c) h2 => make_no hlt hm.out h h2)
      have Hsz := Lib.hid (fun (h : AddC l t es[k] 0) => add_size hw.out h)
      have Hwa := Lib.hid (fun (h : AddC l t es[k] 0) => hw.out.add h)
      have Hx := Lib.hid (Hwf.out _ (List.getElem_mem hlt))
      have Hcl := Lib.hid (fun w' (hb : Below wr.heap.size wr w') => Sl.get ((Hsl.out.ext hB).ext hb) k hlt)
      have Hl1 := Lib.hid (fun w' (hb : Below wr.heap.size wr w') => (Hl.out.ext hB).ext hb)
      have HR := Lib.hid (fun w' (hb : Below wr.heap.size wr w') => spec_Read sa l cap lo hi s w' (Hl1.out w' hb) hs Hk.out)
      have Hrd := Lib.hid hw.out.reads
      have hpe : Hid (t.pos = s.size) := Lib.hid (by obtain ⟨_, _, h⟩ := hw.out; exact h)
      have hwo := Lib.hid hw
      clear hw hg
      generalize es[k] = x at *
      have hk1 : (0 : Int) ≤ (k : Int) := by omega
      have hk2 : (k : Int) < (es.length : Int) := by omega
      go_wp2_with fail
      go_region_held3 (fun w' => (∀ b' o', b' < wr.heap.size → w'.cell? ⟨b', o', none⟩ = wr.cell? ⟨b', o', none⟩) ∧ Below wr.heap.size wr w') (first | (refine heldB ?_; go_grown; done))
        (first
          | (go_at_call 71; refine (HR.out _ ?hb).mono ?_; (case hb => go_grown); rintro e w1 ⟨p, t1, rfl, hrd1, hbox1, hb1⟩; have b1 : Below wr.heap.size wr w1 := Below.trans (by go_grown) (hb1.mono (by go_size)); obtain rfl := hrd1.uniq Hrd.out; have Hbox1 := Lib.hid hbox1; clear hbox1 hrd1)
          | (go_at_call 70; refine (spec_Add _ _ sa l cap lo hi s t1 x jb (jo + k * 3) w1 Hbox1.out (Hl1.out w1 b1) hs hpe.out (Hcl.out w1 b1) Hx.out Hk.out).mono ?_; rintro e w2 ⟨r, c, rfl, hc, hb2, hcase⟩; have b2 : Below wr.heap.size wr w2 := b1.trans (hb2.mono b1.size)))
      have hB2 := hB.trans (b2.mono hB.size)
      clear b1 b2 hb1 hb2 Hbox1
      rcases hcase with ⟨rfl, rfl⟩ | ⟨h0, rfl⟩
      · have Hn := Lib.hid (Hyes.out hc)
        have hs2 := Hsz.out hc
        have Hw2 := Lib.hid (Hwa.out hc)
        have hsa : ¬ 9223372036854775807 < s.size + (lineB (signE (keyOf l x.who) t1.sign x) x).size := by rw [ByteArray.size_append] at hs2; omega
        clear hc
        generalize lineB (signE (keyOf l x.who) t1.sign x) x = ln at *
        go_wp2
        go_roundw
        case rel => exact ⟨k + 1, s ++ ln, addL l t1 x, by omega, rfl, by go_num, Hw2, hs2, Hn, hB2⟩
        case measure => simp [intOf]; omega
      · have Hr := Lib.hid (Hno.out c hc h0)
        have hq : (c != 0) = true := by rw [bne_iff_ne]; exact h0
        clear hc h0
        go_wp2
        go_ret2
        exact ⟨_, c, rfl, Hr.out, hB2⟩
    · have hkk : k = es.length := by omega
      subst hkk
      have Hr := Lib.hid (make_end hm.out)
      go_wp2
      go_ret2
      exact ⟨_, _, rfl, Hr.out, hB⟩
theorem spec_LogOf (v v2 : Value) (l : List Sgn) (es : List Ent) (lo hi lo2 hi2 : Nat) (w : World) (hl : Sgns lo hi w v l) (hwl : ∀ x ∈ l, x.wf) (he : Ents lo2 hi2 w v2 es) (hwf : ∀ x ∈ es, x.wf) :
    Calls Tryd.prog 14 #[v, v2] w (LogRes l es w) := by
  have hl0 := hl
  obtain ⟨sa, cap, rfl, -⟩ := hl
  have hO := spec_SgnOk _ l lo hi w hl0 hwl
  by_cases hok : sgnsOk l
  · rw [sgnsB_t hok] at hO
    have HO := Lib.hid hO
    have Hok := Lib.hid hok
    have HM := Lib.hid (fun w' (hb : Below w.heap.size w w') => spec_Make sa l cap lo hi v2 es lo2 hi2 w' (hl0.ext hb) (sgnsOk_keys hok) (he.ext hb) hwf)
    clear hO hok hl0 he
    go_enter Tryd.func14, Tryd.ntmps14
    go_wp2_with fail
    refine HO.out.mono ?_
    rintro e w1 ⟨rfl, b1⟩
    go_wp2_with fail
    refine (HM.out _ b1).mono ?_
    rintro e w2 ⟨r, c, rfl, hm, b2⟩
    have Hm := Lib.hid hm
    clear hm
    go_wp2
    go_ret2
    exact ⟨r, c, rfl, .inr ⟨Hok.out, Hm.out⟩, b1.trans (b2.mono b1.size)⟩
  · rw [sgnsB_f hok] at hO
    have HO := Lib.hid hO
    have Hok := Lib.hid hok
    clear hO hok hl0 he
    go_enter Tryd.func14, Tryd.ntmps14
    go_wp2_with fail
    refine HO.out.mono ?_
    rintro e w1 ⟨rfl, b1⟩
    go_wp2
    go_ret2
    exact ⟨_, _, rfl, .inl ⟨Hok.out, rfl, rfl⟩, b1⟩
theorem Bd.fr {T : TypeId} {BB b Bo p : Nat} {l : List UInt8} {w w' : World} {cs : Array Value} {f : Nat × Nat} (h : Bd T BB b l w) (hT : ¬ T = 73) (hF : Fr Bo p w w') (hb : b ≠ p) (hp : w.heap[p]? = some (.cells cs 77 f)) : Bd T BB b l w' := by
  have key : ∀ q, Lib.BuilderAtF T 5 BB b q (Lib.byteCells l) w → Lib.BuilderAtF T 5 BB b q (Lib.byteCells l) w' := fun q ⟨h1, v, h2, h3, h4⟩ => by
    refine ⟨h1, v, hF _ _ h2 hb (.inr (fun cs f e => by injection e with _ e2; exact hT e2)), ⟨h3.1, ?_⟩, h4⟩
    rcases h3.2 with hn | ⟨g, cap, cur, fz, rfl, hb, hgg, hr⟩
    · exact .inl hn
    · refine .inr ⟨g, cap, cur, fz, rfl, hb, hF _ _ hgg ?_ (.inr (fun cs f e => by injection e with _ e2; exact absurd e2 (by decide))), hr⟩
      intro e
      subst e
      rw [hgg] at hp
      injection hp with hp
      injection hp with _ e2
      exact absurd e2 (by decide)
  exact Or.elim h (fun h => .inl (key _ h)) (fun h => .inr (key _ h))
theorem Bd.blk {T : TypeId} {BB b : Nat} {l : List UInt8} {w : World} (h : Bd T BB b l w) : ∃ cs, w.heap[b]? = some (.cells cs T (0, 0)) :=
  Or.elim h (fun ⟨_, _, h2, _⟩ => ⟨_, h2⟩) (fun ⟨_, _, h2, _⟩ => ⟨_, h2⟩)
theorem JBox.keepB {B Bo p b : Nat} {sa : Option Addr} {n cap : Nat} {t : LgSt} {w w' : World} {cs : Array Value} {T : TypeId} (h : JBox B Bo p sa n cap t w) (hk : KeepB b w w') (hp : p ≠ b) (hb : w.heap[b]? = some (.cells cs T (0, 0))) (hT : ¬ T = 73) : JBox B Bo p sa n cap t w' := by
  obtain ⟨ea, ec, hx, ho⟩ := h.box
  refine ⟨h.lo, h.lob, ⟨ea, ec, (hk _ _ _ _ hx (by decide) hp).trans hx, ⟨ho.1, ?_⟩⟩, h.pos, h.sg, h.cnt, h.last⟩
  rcases ho.2 with hn | ⟨g, cap2, cur, hv, hbb, hgg, hr⟩
  · exact .inl hn
  · refine .inr ⟨g, cap2, cur, hv, hbb, (hk _ _ _ _ hgg (by decide) ?_).trans hgg, hr⟩
    intro e
    subst e
    rw [hgg] at hb
    injection hb with hb
    injection hb with _ e2
    exact hT e2.symm
theorem cat_list (s r : ByteArray) : s.data.toList ++ r.data.toList = (s ++ r).data.toList := by rw [ByteArray.data_append, Array.toList_append]
theorem back_arr (s : ByteArray) : (⟨s.data.toList.toArray⟩ : ByteArray) = s := by cases s; simp
set_option maxRecDepth 100000 in
set_option maxHeartbeats 8000000 in
theorem impl_LogOf (v v2 : Value) (l : List Sgn) (es : List Ent) (lo hi lo2 hi2 : Nat) (w : World) (hl : Sgns lo hi w v l) (hwl : ∀ x ∈ l, x.wf) (he : Ents lo2 hi2 w v2 es) (hwf : ∀ x ∈ es, x.wf) (h10 : P10 w) (hhd : HD w) :
    Calls Tryd.prog 17 #[v, v2] w (LogRes l es w) := by
  have hl0 := hl
  obtain ⟨sa, cap, rfl, -⟩ := hl
  have hsl := he
  obtain ⟨ea, ec, rfl, hlen, hh⟩ := he
  clear hh
  have hO := impl_SgnOk _ l lo hi w hl0 hwl
  by_cases hok : sgnsOk l
  · rw [sgnsB_t hok] at hO
    have HO := Lib.hid hO
    have Hok := Lib.hid hok
    have Hl := Lib.hid hl0
    have Hsl := Lib.hid hsl
    have Hwf := Lib.hid hwf
    have H10 := Lib.hid h10
    have Hhd := Lib.hid hhd
    clear hO hok hl0 hsl hwf h10 hhd
    go_enter Tryd.func17, Tryd.ntmps17
    go_wp2_with fail
    refine HO.out.mono ?_
    rintro e w1 ⟨rfl, b1⟩
    have hz1 := b1.size
    have hJ0 : JBox w1.heap.size (w1.heap.size + 2) w1.heap.size sa l.length cap lg0 ((w1.alloc (.cells #[.slice sa l.length cap, .slice none 0 0, .int .i64 0, .int .i64 0] 77)).alloc (.cells #[.pointer none, .slice none 0 0] 81)) :=
      ⟨Nat.le_refl _, by omega, ⟨none, 0, blkN_below ((Below.refl _ _).alloc (Nat.le_refl _) _) (blkN_new w1 _), own_nil _ _ _⟩, Nat.zero_le _, ⟨Int.le_refl _, (by decide : (0 : Int) ≤ 65520)⟩, Nat.le_refl _, .inl ⟨rfl, rfl⟩⟩
    have hBd0 : Bd 81 w1.heap.size (w1.heap.size + 1) [] ((w1.alloc (.cells #[.slice sa l.length cap, .slice none 0 0, .int .i64 0, .int .i64 0] 77)).alloc (.cells #[.pointer none, .slice none 0 0] 81)) := by
      have h := bd_new (T := 81) (w := w1.alloc (.cells #[.slice sa l.length cap, .slice none 0 0, .int .i64 0, .int .i64 0] 77)) (B := w1.heap.size) (by simp)
      rwa [World.size_alloc] at h
    have HJ0 := Lib.hid hJ0
    have HBd0 := Lib.hid hBd0
    have hB0 : Below w1.heap.size w1 ((w1.alloc (.cells #[.slice sa l.length cap, .slice none 0 0, .int .i64 0, .int .i64 0] 77)).alloc (.cells #[.pointer none, .slice none 0 0] 81)) := ((Below.refl _ _).alloc (Nat.le_refl _) _).alloc (by simp) _
    clear hJ0 hBd0
    go_wp2
    go_loopw [20] (fun vi wr => ∃ (k : Nat) (s : ByteArray) (t : LgSt), k ≤ es.length ∧ vi = .int .i64 k ∧ Hid (JBox w1.heap.size (w1.heap.size + 2) w1.heap.size sa l.length cap t wr) ∧ Hid (Bd 81 w1.heap.size (w1.heap.size + 1) s.data.toList wr) ∧ Hid (Whole l s t) ∧ s.size ≤ 4000 ∧
      Hid (∀ c r, MakeC l (es.drop k) s t c r → MakeC l es ⟨#[]⟩ lg0 c r) ∧ Below w1.heap.size w1 wr ∧ w1.heap.size + 2 ≤ wr.heap.size) (fun vi _ => es.length - (intOf vi).toNat)
    case atStart => exact ⟨0, ⟨#[]⟩, lg0, Nat.zero_le _, rfl, HJ0, HBd0, Lib.hid (Whole.zero l), by decide, Lib.hid (fun c r h => h), hB0, by simp⟩
    case round =>
      clear HJ0 HBd0 hB0
      obtain ⟨k, s, t, hk, rfl, hj, hbd, hw, hs, hm, hB, hzr⟩ := hrel
      have hBw := b1.trans (hB.mono hz1)
      by_cases hlt : k < es.length
      · obtain ⟨jb, jo, rfl⟩ := Hsl.out.addr (by omega)
        have Hyes := Lib.hid (fun (h : AddC l t es[k] 0) => make_yes hlt hm.out h)
        have Hno := Lib.hid (fun c (h : AddC l t es[k] c) h2 => make_no hlt hm.out h h2)
        have Hsz := Lib.hid (fun (h : AddC l t es[k] 0) => add_size hw.out h)
        have Hwa := Lib.hid (fun (h : AddC l t es[k] 0) => hw.out.add h)
        have Hx := Lib.hid (Hwf.out _ (List.getElem_mem hlt))
        have hg := Sl.get (Hsl.out.ext hBw) k hlt
        have c0 := hg 0 _ rfl
        have c1 := hg 1 _ rfl
        have c2 := hg 2 _ rfl
        simp only [Nat.add_zero] at c0
        clear hg hw hm
        generalize es[k] = x at *
        have hba : Below wr.heap.size wr (wr.alloc (.cells #[.int .i64 x.second, .string x.who, .string x.what] 73)) := (Below.refl _ _).alloc (Nat.le_refl _) _
        have HT := Lib.hid (impl_Take w1.heap.size (w1.heap.size + 2) w1.heap.size sa l cap lo hi t x (wr.alloc (.cells #[.int .i64 x.second, .string x.who, .string x.what] 73)) (hj.out.ext hba) (Hl.out.ext (hBw.trans (hba.mono hBw.size))) (Nat.le_trans hzr hba.size) Hok.out Hx.out (H10.out.ext (hBw.trans (hba.mono hBw.size))))
        have Hbd1 := Lib.hid (hbd.out.ext hba)
        have Hj1 := Lib.hid (hj.out.ext hba)
        have hB1 : Below w1.heap.size w1 (wr.alloc (.cells #[.int .i64 x.second, .string x.who, .string x.what] 73)) := hB.trans (hba.mono hB.size)
        have hz2 : w1.heap.size + 2 ≤ (wr.alloc (.cells #[.int .i64 x.second, .string x.who, .string x.what] 73)).heap.size := Nat.le_trans hzr hba.size
        clear hj hbd hba
        go_wp2_with fail
        refine HT.out.mono ?_
        rintro e w3 ⟨c, hc, hb3, hF, hcase⟩
        have hB3 := hB1.trans hb3
        have hz3 := Nat.le_trans hz2 hb3.size
        obtain ⟨ja, jc, hjx, -⟩ := Hj1.out.box
        rcases hcase with ⟨rfl, rfl, hj3⟩ | ⟨h0, -, -, q, hq, rfl, hqx⟩
        · have Hj3 := Lib.hid hj3
          have hbd3 := Hbd1.out.fr (by decide) hF (by omega) hjx
          have Hbd3 := Lib.hid hbd3
          have Hn := Lib.hid (Hyes.out hc)
          have hs2 := Hsz.out hc
          have Hw2 := Lib.hid (Hwa.out hc)
          clear hj3 hbd3 hjx hF hc c0 c1 c2 Hj1 Hbd1 HT
          generalize lineB (signE (keyOf l x.who) t.sign x) x = ln at *
          have hW := Lib.hid (bd_writeString bdT_builder w1.heap.size (w1.heap.size + 1) s.data.toList ln w3 Hbd3.out (by rw [ByteArray.size_append] at hs2; rw [Array.length_toList]; show s.size + ln.size ≤ _; omega) hB3.size)
          go_wp2_with fail
          refine hW.out.mono ?_
          rintro e w4 ⟨rfl, hbd4, hb4, hk4⟩
          obtain ⟨cs, hbx⟩ := Hbd3.out.blk
          have Hj4 := Lib.hid (Hj3.out.keepB hk4 (by omega) hbx (by decide))
          have Hbd4 := Lib.hid (show Bd 81 w1.heap.size (w1.heap.size + 1) (s ++ ln).data.toList w4 by rw [← cat_list]; exact hbd4)
          have hB4 := hB3.trans hb4
          have hz4 := Nat.le_trans hz3 hb4.size
          clear hbd4 hb4 hk4 hbx
          go_wp2
          go_roundw
          case rel => exact ⟨k + 1, s ++ ln, addL l t x, by omega, by go_num, Hj4, Hbd4, Hw2, hs2, Hn, hB4, hz4⟩
          case measure => simp [intOf]; omega
        · have Hr := Lib.hid (Hno.out c hc h0)
          have hBw3 := b1.trans (hB3.mono hz1)
          have hC := Lib.hid (impl_CodeOf q c w3 hqx (Hhd.out.ext hBw3))
          have Hh0 := Lib.hid h0
          clear hc h0 hqx hjx hF
          go_wp2_with fail
          refine hC.out.mono ?_
          rintro e w4 ⟨rfl, b4⟩
          go_wp2
          go_ret2
          exact ⟨_, c, rfl, .inr ⟨Hok.out, Hr.out⟩, hBw3.trans (b4.mono hBw3.size)⟩
      · have hkk : k = es.length := by omega
        subst hkk
        have Hr := Lib.hid (make_end hm.out)
        have hS := Lib.hid (bd_string w1.heap.size (w1.heap.size + 1) s.data.toList wr hbd.out hB.size)
        go_wp2_with fail
        refine hS.out.mono ?_
        rintro e w4 ⟨rfl, -, b4⟩
        go_wp2
        go_ret2
        exact ⟨_, 0, rfl, .inr ⟨Hok.out, by rw [back_arr]; exact Hr.out⟩, b1.trans ((hB.trans b4).mono hz1)⟩
  · rw [sgnsB_f hok] at hO
    have HO := Lib.hid hO
    have Hok := Lib.hid hok
    clear hO hok hl0 hsl
    go_enter Tryd.func17, Tryd.ntmps17
    go_wp2_with fail
    refine HO.out.mono ?_
    rintro e w1 ⟨rfl, b1⟩
    go_wp2
    go_ret2
    exact ⟨_, _, rfl, .inl ⟨Hok.out, rfl, rfl⟩, b1⟩
end Go.Proofs.YtjjibdjliejcfaaDoor
