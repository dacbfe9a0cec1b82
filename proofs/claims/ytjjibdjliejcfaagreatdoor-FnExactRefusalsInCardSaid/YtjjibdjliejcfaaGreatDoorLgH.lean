/- The log: the program takes an entry into its journal. -/
import Derived.Test.YtjjibdjliejcfaaGreatDoorLgF
import Derived.Test.YtjjibdjliejcfaaGreatDoorLgV
import Derived.Test.YtjjibdjliejcfaaGreatDoorLgT
import Derived.Test.YtjjibdjliejcfaaGreatDoorLgQ
import Derived.Test.YtjjibdjliejcfaaGreatDoorLgL
import Derived.Test.YtjjibdjliejcfaaGreatDoorPh
import Derived.Test.YtjjibdjliejcfaaGreatDoorOwf
import Derived.Test.YtjjibdjliejcfaaGreatDoorNX
namespace Go.Proofs.YtjjibdjliejcfaaGreatDoor
open Go.RowKit
/-- The second of the last entry, if there is one. -/
def lastOk (t : LgSt) : Prop := (t.es = [] ∧ t.last = 0) ∨ ∃ r y, t.es = r ++ [y] ∧ t.last = y.second
/-- The program's journal, in block p (from B on). -/
structure JBox (B Bo p : Nat) (sa : Option Addr) (n cap : Nat) (t : LgSt) (w : World) : Prop where
  lo : B ≤ p
  lob : B ≤ Bo
  box : ∃ ea ec, w.heap[p]? = some (.cells #[.slice sa n cap, .slice ea t.es.length ec, .int .i64 t.sign, .int .i64 t.pos] 65 (0, 0)) ∧ Own 3 Ent.cells Bo 48 w (.slice ea t.es.length ec) t.es
  pos : t.pos ≤ 4000
  sg : 0 ≤ t.sign ∧ t.sign ≤ 65520
  cnt : t.es.length ≤ t.pos
  last : lastOk t
theorem JBox.ext {B Bo p : Nat} {sa : Option Addr} {n cap : Nat} {t : LgSt} {w w' : World} (h : JBox B Bo p sa n cap t w) (hb : Below w.heap.size w w') : JBox B Bo p sa n cap t w' := by
  obtain ⟨ea, ec, h1, ho⟩ := h.box
  exact ⟨h.lo, h.lob, ⟨ea, ec, (hb.block p (Array.getElem?_eq_some_iff.1 h1).1).trans h1, ho.below hb⟩, h.pos, h.sg, h.cnt, h.last⟩
theorem JBox.cells {B Bo p : Nat} {sa : Option Addr} {n cap : Nat} {t : LgSt} {w : World} (h : JBox B Bo p sa n cap t w) : ∃ ea ec, w.cell? ⟨p, 0, none⟩ = some (.slice sa n cap) ∧ w.cell? ⟨p, 1, none⟩ = some (.slice ea t.es.length ec) ∧ w.cell? ⟨p, 2, none⟩ = some (.int .i64 t.sign) ∧ w.cell? ⟨p, 3, none⟩ = some (.int .i64 t.pos) ∧ Own 3 Ent.cells Bo 48 w (.slice ea t.es.length ec) t.es ∧ p < w.heap.size := by
  obtain ⟨ea, ec, hb, ho⟩ := h.box
  exact ⟨ea, ec, (Lib.cell_of_heap hb 0).trans rfl, (Lib.cell_of_heap hb 1).trans rfl, (Lib.cell_of_heap hb 2).trans rfl, (Lib.cell_of_heap hb 3).trans rfl, ho, (Array.getElem?_eq_some_iff.1 hb).1⟩
/-- The journal with one more entry. -/
def addL (l : List Sgn) (t : LgSt) (x : Ent) : LgSt := ⟨t.pos + (lineB (signE (keyOf l x.who) t.sign x) x).size, signE (keyOf l x.who) t.sign x, x.second, t.es ++ [x]⟩
/-- The code of adding an entry. -/
def AddC (l : List Sgn) (t : LgSt) (x : Ent) (c : Int) : Prop :=
  (¬ x.plain ∧ c = 7) ∨ (x.plain ∧ keyOf l x.who = 0 ∧ c = 3) ∨ (x.plain ∧ ¬ keyOf l x.who = 0 ∧ x.second < t.last ∧ c = 6) ∨
    (x.plain ∧ ¬ keyOf l x.who = 0 ∧ t.last ≤ x.second ∧ 4000 < (addL l t x).pos ∧ c = 5) ∨ (x.plain ∧ ¬ keyOf l x.who = 0 ∧ t.last ≤ x.second ∧ (addL l t x).pos ≤ 4000 ∧ c = 0)
theorem AddC.uniq {l : List Sgn} {t : LgSt} {x : Ent} {c c2 : Int} (h : AddC l t x c) (h2 : AddC l t x c2) : c = c2 := by
  rcases h with ⟨a, rfl⟩ | ⟨a, b, rfl⟩ | ⟨a, b, d, rfl⟩ | ⟨a, b, d, f, rfl⟩ | ⟨a, b, d, f, rfl⟩ <;> rcases h2 with ⟨a', rfl⟩ | ⟨a', b', rfl⟩ | ⟨a', b', d', rfl⟩ | ⟨a', b', d', f', rfl⟩ | ⟨a', b', d', f', rfl⟩ <;> first | rfl | exact absurd a a' | exact absurd a' a | exact absurd b b' | exact absurd b' b | omega
theorem line_size {x : Ent} (sg : Int) (hs : 0 ≤ sg ∧ sg ≤ 65520) (hx : x.plain) : 1 ≤ (lineB sg x).size ∧ (lineB sg x).size ≤ 120 := by
  obtain ⟨h0, h1, h2⟩ := hx
  have e1 := decStr_size (n := sg) ⟨by omega, by omega⟩
  have e2 := decStr_size (n := x.second) ⟨by omega, by omega⟩
  have e3 := h1.2.1
  have e4 := h2.2.2
  unfold lineB
  simp only [ByteArray.size_append]
  have e5 : (⟨#[32]⟩ : ByteArray).size = 1 := rfl
  have e6 : (⟨#[10]⟩ : ByteArray).size = 1 := rfl
  omega
theorem info_Ent2 : (Tryz.prog.info? 48).map (fun i => (i.zero.map (·.cells.size), i.size, i.bytes)) = some (some 3, 3, 40) := by kernel_rfl
theorem Ent.one2 (x : Ent) : ∀ u ∈ x.cells, u.oneCell' = true := by intro u hu; simp [Ent.cells] at hu; rcases hu with rfl | rfl | rfl <;> rfl
theorem JBox.made {B Bo p : Nat} {sa : Option Addr} {n cap : Nat} {w : World} {b c : Int} {v0 : Value} {va : Option Addr} {m vc pos : Nat} {sg la P : Int} {es : List Ent} (hlo : B ≤ p) (hlob : B ≤ Bo) (hx : w.heap[p]? = some (.cells #[.slice sa n cap, v0, .int .i64 b, .int .i64 c] 65 (0, 0)))
    (ho : Own 3 Ent.cells Bo 48 w (.slice va es.length vc) es) (hpos : pos ≤ 4000) (hsg : 0 ≤ sg ∧ sg ≤ 65520) (hc : es.length ≤ pos) (hla : lastOk ⟨pos, sg, la, es⟩) (hm : m = es.length) (hP : P = (pos : Int) := by rfl) :
    JBox B Bo p sa n cap ⟨pos, sg, la, es⟩ (((w.setCell ⟨p, 1, none⟩ (.slice va m vc)).setCell ⟨p, 2, none⟩ (.int .i64 sg)).setCell ⟨p, 3, none⟩ (.int .i64 P)) := by
  subst hP hm
  obtain ⟨o1, c1, h1, rfl⟩ := own_keepP (j := 1) (u := .slice va es.length vc) ho hx (by decide)
  obtain ⟨o2, c2, h2, rfl⟩ := own_keepP (j := 2) (u := .int .i64 sg) o1 h1 (by decide)
  obtain ⟨o3, c3, h3, rfl⟩ := own_keepP (j := 3) (u := .int .i64 pos) o2 h2 (by decide)
  refine ⟨hlo, hlob, ⟨va, vc, ?_, o3⟩, hpos, hsg, hc, hla⟩
  rw [h3]
  rfl
theorem JBox.ext0 {B Bo p : Nat} {sa ja : Option Addr} {n cap jc : Nat} {t : LgSt} {w0 w w' : World} (h : JBox B Bo p sa n cap t w0) (hbx : w.heap[p]? = some (.cells #[.slice sa n cap, .slice ja t.es.length jc, .int .i64 t.sign, .int .i64 t.pos] 65 (0, 0)))
    (hown : Own 3 Ent.cells Bo 48 w (.slice ja t.es.length jc) t.es) (hb : Below w.heap.size w w') : JBox B Bo p sa n cap t w' :=
  ⟨h.lo, h.lob, ⟨ja, jc, (hb.block p (Array.getElem?_eq_some_iff.1 hbx).1).trans hbx, hown.below hb⟩, h.pos, h.sg, h.cnt, h.last⟩
/-- Only block p, and blocks of entries from Bo on, may have turned. -/
def Fr (Bo p : Nat) (w w' : World) : Prop := ∀ k o, w.heap[k]? = some o → k ≠ p → (k < Bo ∨ ∀ cs f, o ≠ .cells cs 48 f) → w'.heap[k]? = some o
theorem Fr.of {Bo p : Nat} {w w' : World} (h : Below w.heap.size w w') : Fr Bo p w w' := fun k _ hk _ _ => (h.block k (Array.getElem?_eq_some_iff.1 hk).1).trans hk
theorem Fr.of_own {Bo p : Nat} {w wd w9 : World} {va : Value} {l : List Ent} {cs : Array Value} {t9 : TypeId} (hown : Own 3 Ent.cells Bo 48 w va l) (hb : Below w.heap.size w wd) (hg : (wd.alloc (.cells cs t9)).grownBy w9 va.ownBlock) : Fr Bo p w w9 := by
  intro k o hk _ ho
  have hlt := (Array.getElem?_eq_some_iff.1 hk).1
  have hlt2 := Nat.lt_of_lt_of_le hlt hb.size
  rw [hg.block k (by rw [World.size_alloc]; omega) ?_, Below.heap_alloc _ _ _ hlt2, hb.block k hlt]
  · exact hk
  · intro e
    obtain ⟨-, h2⟩ := hown
    rcases h2 with ⟨rfl, -⟩ | ⟨g, cap, cur, rfl, hb, hg, -⟩
    · simp [Value.ownBlock] at e
    · simp [Value.ownBlock] at e
      subst e
      rw [hg] at hk
      rcases ho with ho | ho
      · omega
      · exact ho _ _ (Option.some.inj hk).symm
theorem Fr.set {Bo p : Nat} {w w' : World} (h : Fr Bo p w w') (j : Nat) (u : Value) : Fr Bo p w (w'.setCell ⟨p, j, none⟩ u) := fun k o hk hkp ho => (Below.heap_setCell _ _ _ _ hkp).trans (h k o hk hkp ho)
/-- What taking an entry returns. -/
def TakeRes (B Bo p : Nat) (sa : Option Addr) (l : List Sgn) (cap : Nat) (t : LgSt) (x : Ent) (w : World) (e : Ending) (w' : World) : Prop :=
  ∃ c, AddC l t x c ∧ Below B w w' ∧ Fr Bo p w w' ∧
    ((c = 0 ∧ e = .returned (.tuple #[.string (lineB (signE (keyOf l x.who) t.sign x) x), .nilIface]) ∧ JBox B Bo p sa l.length cap (addL l t x) w') ∨
      (¬ c = 0 ∧ JBox B Bo p sa l.length cap t w' ∧ Below w.heap.size w w' ∧ ∃ q, w.heap.size ≤ q ∧ e = .returned (.tuple #[.string ⟨#[]⟩, .iface 93 (.pointer (some ⟨q, 0, none⟩))]) ∧ w'.heap[q]? = some (.cells #[.int .i64 c] 95 (0, 0))))
set_option maxRecDepth 100000 in
set_option maxHeartbeats 8000000 in
theorem impl_Take (B Bo p : Nat) (sa : Option Addr) (l : List Sgn) (cap lo hi : Nat) (t : LgSt) (x : Ent) (w : World) (h : JBox B Bo p sa l.length cap t w) (hl : Sgns lo hi w (.slice sa l.length cap) l) (hBo : Bo ≤ w.heap.size) (hok : sgnsOk l) (hx : x.wf) (h10 : P10 w) :
    Calls Tryz.prog 49 #[.pointer (some ⟨p, 0, none⟩), .agg x.cells.toArray] w (TakeRes B Bo p sa l cap t x w) := by
  obtain ⟨sb, off, rfl⟩ := hl.addr (by have := hok.2.1; omega)
  have hba : Below w.heap.size w (w.alloc (.cells #[.int .i64 x.second, .string x.who, .string x.what] 48)) := (Below.refl _ _).alloc (Nat.le_refl _) _
  have eA : (w.alloc (.cells #[.int .i64 x.second, .string x.who, .string x.what] 48)).heap[w.heap.size]? = some (.cells #[.int .i64 x.second, .string x.who, .string x.what] 48) := Array.getElem?_push_size
  obtain ⟨W, hW⟩ : ∃ W, w.alloc (.cells #[.int .i64 x.second, .string x.who, .string x.what] 48) = W := ⟨_, rfl⟩
  rw [hW] at hba eA
  have HW := Lib.hid hW
  have Hbox := Lib.hid (h.ext hba)
  have Hl := Lib.hid (hl.ext hba)
  have H10 := Lib.hid (h10.ext hba)
  have Hba := Lib.hid hba
  have EA := Lib.hid eA
  have HP := Lib.hid (impl_Plain x W hx)
  have Hok := Lib.hid hok
  obtain ⟨ja, jc, hbx0, hown0⟩ := h.box
  have hlo := h.lo
  have hlob := h.lob
  have hB : B ≤ w.heap.size := Nat.le_trans hlob hBo
  have Hbx0 := Lib.hid hbx0
  have Hown0 := Lib.hid hown0
  have hgq : ∀ g, (Value.slice ja t.es.length jc).ownBlock = some g → g < w.heap.size := fun g hg => (World.ownsRow.lt hown0 g hg).2
  clear h hl h10 hW hok hbx0 hown0
  simp only [Ent.cells]
  by_cases hpl : x.plain
  · have HP := HP.out
    rw [plainB_t hpl] at HP
    have HP := Lib.hid HP
    simp only [Ent.cells] at HP
    have d0 : W.cell? ⟨w.heap.size, 0, none⟩ = some (.int .i64 x.second) := (Lib.cell_of_heap eA 0).trans rfl
    have d1 : W.cell? ⟨w.heap.size, 1, none⟩ = some (.string x.who) := (Lib.cell_of_heap eA 1).trans rfl
    have d2 : W.cell? ⟨w.heap.size, 2, none⟩ = some (.string x.what) := (Lib.cell_of_heap eA 2).trans rfl
    go_enter Tryz.func49, Tryz.ntmps49
    go_wp2_with fail
    rw [HW.out]
    go_wp2_with fail
    refine HP.out.mono ?_
    rintro e w1 ⟨rfl, b1⟩
    have eA1 := (b1.block _ (Array.getElem?_eq_some_iff.1 eA).1).trans eA
    have hb1 := Hbox.out.ext b1
    have Hb1 := Lib.hid hb1
    have HS := Lib.hid (fun w' (hb : Below w1.heap.size w1 w') => impl_Signer (.slice (some ⟨sb, off, none⟩) l.length cap) l lo hi x.who w' ((Hl.out.ext b1).ext hb))
    have Hb1' := Lib.hid (Hba.out.trans (b1.mono Hba.out.size))
    have HEA1 := Lib.hid eA1
    have Hl1 := Lib.hid (Hl.out.ext b1)
    have H101 := Lib.hid (H10.out.ext b1)
    have Hpl := Lib.hid hpl
    have hz1 := Hb1'.out.size
    have hlt1 := (Array.getElem?_eq_some_iff.1 eA1).1
    clear d0 d1 d2 hpl HP H10 Hl Hbox EA HW eA
    have d0 : w1.cell? ⟨w.heap.size, 0, none⟩ = some (.int .i64 x.second) := (Lib.cell_of_heap eA1 0).trans rfl
    have d1 : w1.cell? ⟨w.heap.size, 1, none⟩ = some (.string x.who) := (Lib.cell_of_heap eA1 1).trans rfl
    have d2 : w1.cell? ⟨w.heap.size, 2, none⟩ = some (.string x.what) := (Lib.cell_of_heap eA1 2).trans rfl
    have hbx := ((Hb1').out.block p (Array.getElem?_eq_some_iff.1 Hbx0.out).1).trans Hbx0.out
    have c0 : w1.cell? ⟨p, 0, none⟩ = some (.slice (some ⟨sb, off, none⟩) l.length cap) := (Lib.cell_of_heap hbx 0).trans rfl
    have c1 : w1.cell? ⟨p, 1, none⟩ = some (.slice ja t.es.length jc) := (Lib.cell_of_heap hbx 1).trans rfl
    have c2 : w1.cell? ⟨p, 2, none⟩ = some (.int .i64 t.sign) := (Lib.cell_of_heap hbx 2).trans rfl
    have c3 : w1.cell? ⟨p, 3, none⟩ = some (.int .i64 t.pos) := (Lib.cell_of_heap hbx 3).trans rfl
    have hpw := (Array.getElem?_eq_some_iff.1 hbx).1
    clear hbx
    clear hb1 eA1 b1 hba
    go_wp2_with fail
    go_region_held3 (fun w' => (∀ b' o', b' < w1.heap.size → w'.cell? ⟨b', o', none⟩ = w1.cell? ⟨b', o', none⟩) ∧ Below w1.heap.size w1 w') (first | (refine heldB ?_; go_grown; done))
      (first | (go_at_call 46; refine (HS.out _ ?hb).mono ?_; (case hb => go_grown); rintro e w2 ⟨q, rfl, hq, hb2⟩; have b2 : Below w1.heap.size w1 w2 := Below.trans (by go_grown) (hb2.mono (by go_size))))
    rename_i hHeld
    clear hHeld
    have Hb2 := Lib.hid (Hb1.out.ext b2)
    have Hb2' := Lib.hid (Hb1'.out.trans (b2.mono Hb1'.out.size))
    have HEA2 := Lib.hid ((b2.block _ hlt1).trans HEA1.out)
    have Hl2 := Lib.hid (Hl1.out.ext b2)
    have H102 := Lib.hid (H101.out.ext b2)
    have hz2 := Hb2'.out.size
    clear HS Hb1 Hl1 H101 c0 c1 c2 c3 d0 d1 d2 b2 hb2 HEA1
    have hbx := ((Hb2').out.block p (Array.getElem?_eq_some_iff.1 Hbx0.out).1).trans Hbx0.out
    have c0 : w2.cell? ⟨p, 0, none⟩ = some (.slice (some ⟨sb, off, none⟩) l.length cap) := (Lib.cell_of_heap hbx 0).trans rfl
    have c1 : w2.cell? ⟨p, 1, none⟩ = some (.slice ja t.es.length jc) := (Lib.cell_of_heap hbx 1).trans rfl
    have c2 : w2.cell? ⟨p, 2, none⟩ = some (.int .i64 t.sign) := (Lib.cell_of_heap hbx 2).trans rfl
    have c3 : w2.cell? ⟨p, 3, none⟩ = some (.int .i64 t.pos) := (Lib.cell_of_heap hbx 3).trans rfl
    have hpw := (Array.getElem?_eq_some_iff.1 hbx).1
    clear hbx
    have d0 : w2.cell? ⟨w.heap.size, 0, none⟩ = some (.int .i64 x.second) := (Lib.cell_of_heap HEA2.out 0).trans rfl
    have d1 : w2.cell? ⟨w.heap.size, 1, none⟩ = some (.string x.who) := (Lib.cell_of_heap HEA2.out 1).trans rfl
    have d2 : w2.cell? ⟨w.heap.size, 2, none⟩ = some (.string x.what) := (Lib.cell_of_heap HEA2.out 2).trans rfl
    rcases hq with ⟨m, hm, rfl, hmn, hmk⟩ | ⟨rfl, hno⟩
    · obtain ⟨hk1, hk2⟩ : 1 ≤ keyOf l x.who ∧ keyOf l x.who ≤ 65520 := by rw [← hmk]; exact (Hok.out.1 m hm).1.2
      obtain ⟨-, k1⟩ := Sgns.at Hl2.out.get hm
      rw [hmk] at k1
      have hm0 : decide ((m : Int) < 0) = false := decide_eq_false (by omega)
      have hm1 : (0 : Int) ≤ (m : Int) := by omega
      have hm2 : (m : Int) < (l.length : Int) := by omega
      have hown2 := Hb2.out.box
      have hlast := Hb2.out.last
      have hcnt := Hb2.out.cnt
      have hpos := Hb2.out.pos
      have Hkey := Lib.hid hk1
      clear hmk hmn
      have HSg := Lib.hid (fun w' h => impl_Sign (keyOf l x.who) t.sign x w' ⟨hk1, hk2⟩ Hb2.out.sg Hpl.out h)
      have hsgb := signE_bd (keyOf l x.who) t.sign x
      have HLn := Lib.hid (fun w' h => impl_Line (signE (keyOf l x.who) t.sign x) x w' hsgb Hpl.out h)
      have hln := line_size (signE (keyOf l x.who) t.sign x) hsgb Hpl.out
      have Hadd : Hid (addL l t x = ⟨t.pos + (lineB (signE (keyOf l x.who) t.sign x) x).size, signE (keyOf l x.who) t.sign x, x.second, t.es ++ [x]⟩) := Lib.hid rfl
      have Hlnv : Hid (lineB (signE (keyOf l x.who) t.sign x) x = lineB (signE (keyOf l x.who) t.sign x) x) := Lib.hid rfl
      simp only [Ent.cells] at HSg HLn
      generalize hlne : lineB (signE (keyOf l x.who) t.sign x) x = ln at HLn hln Hadd
      have Hlne' := Lib.hid hlne
      clear hlne Hlnv
      generalize hsge : signE (keyOf l x.who) t.sign x = sg at HSg hsgb HLn Hadd
      have Hsge := Lib.hid hsge
      clear hsge
      generalize hkk : keyOf l x.who = kk at hk1 hk2 k1 HSg Hkey
      have Hkk := Lib.hid hkk
      clear hkk
      rcases hlast with ⟨hnil, hl0⟩ | ⟨r, y, hes, hly⟩
      · have hN : t.es.length = 0 := by rw [hnil]; rfl
        clear hnil
        rw [hN] at c1
        have Hlen := Lib.hid hN
        clear hN
        have hla : t.last ≤ x.second := by rw [hl0]; exact Hpl.out.1.1
        go_wp2_with (go_quiet (fail))
        obtain ⟨w3, hw3⟩ : ∃ w3, w2.drewN nq = w3 := ⟨_, rfl⟩
        have b3 : Below w2.heap.size w2 w3 := by rw [← hw3]; exact below_dN (Below.refl _ _) nq
        rw [hw3]
        have Hb3 := Lib.hid (Hb2.out.ext b3)
        have Hb3' := Lib.hid (Hb2'.out.trans (b3.mono hz2))
        have HEA3 := Lib.hid ((b3.block _ (Array.getElem?_eq_some_iff.1 HEA2.out).1).trans HEA2.out)
        have H103 := Lib.hid (H102.out.ext b3)
        have hlt3 := (Array.getElem?_eq_some_iff.1 HEA3.out).1
        have k3 := (b3.cell (p := ⟨sb, off + m * 2 + 1, none⟩) (World.block_lt_of_cell? w2 _ k1)).trans k1
        have hsb3 := World.block_lt_of_cell? w3 _ k3
        clear c0 c1 c2 c3 d0 d1 d2 k1 b3 hw3 hz2 Hb2 Hb2' HEA2 H102 hlt1 hz1
        have hbx := ((Hb3').out.block p (Array.getElem?_eq_some_iff.1 Hbx0.out).1).trans Hbx0.out
        have c0 : w3.cell? ⟨p, 0, none⟩ = some (.slice (some ⟨sb, off, none⟩) l.length cap) := (Lib.cell_of_heap hbx 0).trans rfl
        have c1 : w3.cell? ⟨p, 1, none⟩ = some (.slice ja t.es.length jc) := (Lib.cell_of_heap hbx 1).trans rfl
        have c2 : w3.cell? ⟨p, 2, none⟩ = some (.int .i64 t.sign) := (Lib.cell_of_heap hbx 2).trans rfl
        have c3 : w3.cell? ⟨p, 3, none⟩ = some (.int .i64 t.pos) := (Lib.cell_of_heap hbx 3).trans rfl
        have hpw := (Array.getElem?_eq_some_iff.1 hbx).1
        clear hbx
        have d0 : w3.cell? ⟨w.heap.size, 0, none⟩ = some (.int .i64 x.second) := (Lib.cell_of_heap HEA3.out 0).trans rfl
        have d1 : w3.cell? ⟨w.heap.size, 1, none⟩ = some (.string x.who) := (Lib.cell_of_heap HEA3.out 1).trans rfl
        have d2 : w3.cell? ⟨w.heap.size, 2, none⟩ = some (.string x.what) := (Lib.cell_of_heap HEA3.out 2).trans rfl
        have hla' := Lib.hid hla
        clear hla
        go_wp2_with fail
        go_region_held3 (fun w' => (∀ b' o', b' < w3.heap.size → w'.cell? ⟨b', o', none⟩ = w3.cell? ⟨b', o', none⟩) ∧ Below w3.heap.size w3 w') (first | (refine heldB ?_; go_grown; done))
          (first | (go_at_call 62; refine (HSg.out _ (H103.out.ext (by go_grown))).mono ?_; rintro e w4 ⟨rfl, hb4⟩; have b4 : Below w3.heap.size w3 w4 := Below.trans (by go_grown) (hb4.mono (by go_size))))
        rename_i hHeld
        clear hHeld
        have Hb4' := Lib.hid (Hb3'.out.trans (b4.mono Hb3'.out.size))
        have HEA4 := Lib.hid ((b4.block _ hlt3).trans HEA3.out)
        have H104 := Lib.hid (H103.out.ext b4)
        clear c0 c1 c2 c3 d0 d1 d2 k3 b4 hb4 Hb3' HEA3 H103 hlt3 hpw
        have d0 : w4.cell? ⟨w.heap.size, 0, none⟩ = some (.int .i64 x.second) := (Lib.cell_of_heap HEA4.out 0).trans rfl
        have d1 : w4.cell? ⟨w.heap.size, 1, none⟩ = some (.string x.who) := (Lib.cell_of_heap HEA4.out 1).trans rfl
        have d2 : w4.cell? ⟨w.heap.size, 2, none⟩ = some (.string x.what) := (Lib.cell_of_heap HEA4.out 2).trans rfl
        go_wp2_with fail
        refine (HLn.out _ H104.out).mono ?_
        rintro e w5 ⟨rfl, b5⟩
        have Hb5' := Lib.hid (Hb4'.out.trans (b5.mono Hb4'.out.size))
        have HEA5 := Lib.hid ((b5.block _ (Array.getElem?_eq_some_iff.1 HEA4.out).1).trans HEA4.out)
        have Hb5 := Lib.hid (Hb3.out.ext0 Hbx0.out Hown0.out Hb5'.out)
        clear d0 d1 d2 b5 Hb4' HEA4 H104 Hb3
        have hbx := ((Hb5').out.block p (Array.getElem?_eq_some_iff.1 Hbx0.out).1).trans Hbx0.out
        have c0 : w5.cell? ⟨p, 0, none⟩ = some (.slice (some ⟨sb, off, none⟩) l.length cap) := (Lib.cell_of_heap hbx 0).trans rfl
        have c1 : w5.cell? ⟨p, 1, none⟩ = some (.slice ja t.es.length jc) := (Lib.cell_of_heap hbx 1).trans rfl
        have c2 : w5.cell? ⟨p, 2, none⟩ = some (.int .i64 t.sign) := (Lib.cell_of_heap hbx 2).trans rfl
        have c3 : w5.cell? ⟨p, 3, none⟩ = some (.int .i64 t.pos) := (Lib.cell_of_heap hbx 3).trans rfl
        have hpw := (Array.getElem?_eq_some_iff.1 hbx).1
        clear hbx
        have hz5 := Hb5'.out.size
        have hwp : IntKind.i64.wrap ((t.pos : Int) + (ln.size : Int)) = (t.pos : Int) + (ln.size : Int) := by rw [IntKind.wrap_i64]; omega
        by_cases hfull : 4000 < t.pos + ln.size
        · have hfl : decide ((4000 : Int) < (t.pos : Int) + (ln.size : Int)) = true := decide_eq_true (by omega)
          go_wp2
          go_ret2
          have hnew : Below w5.heap.size w5 (w5.alloc (.cells #[.int .i64 5] 95)) := (Below.refl _ _).alloc (Nat.le_refl _) _
          have hall : Below w.heap.size w (w5.alloc (.cells #[.int .i64 5] 95)) := Hb5'.out.trans (hnew.mono hz5)
          exact ⟨5, .inr (.inr (.inr (.inl ⟨Hpl.out, by rw [Hkk.out]; omega, hla'.out, by rw [Hadd.out]; exact hfull, rfl⟩))), hall.mono hB, Fr.of hall, .inr ⟨by decide, Hb5.out.ext hnew, hall, w5.heap.size, hz5, rfl, Array.getElem?_push_size⟩⟩
        · have hfl : decide ((4000 : Int) < (t.pos : Int) + (ln.size : Int)) = false := decide_eq_false (by omega)
          have Hx5 := Lib.hid (show w5.drew.heap[p]? = _ from (Hb5'.out.block p (Array.getElem?_eq_some_iff.1 Hbx0.out).1).trans Hbx0.out)
          have Ho5 := Lib.hid (show Own 3 Ent.cells Bo 48 w5.drew (.slice ja t.es.length jc) t.es from (Hown0.out.below Hb5'.out).drew)
          have HA5 := Lib.hid (show w5.drew.heap[w.heap.size]? = _ from HEA5.out)
          have Hd5 := Lib.hid (show Below w.heap.size w w5.drew from Hb5'.out.drew)
          go_wp2_with fail
          clear c0 c1 c2 c3 HEA5 Hb5 Hb5' hz5 hpw
          have q0 : w5.drew.cell? ⟨w.heap.size, 0, none⟩ = some (.int .i64 x.second) := (Lib.cell_of_heap HA5.out 0).trans rfl
          have q1 : w5.drew.cell? ⟨w.heap.size, 1, none⟩ = some (.string x.who) := (Lib.cell_of_heap HA5.out 1).trans rfl
          have q2 : w5.drew.cell? ⟨w.heap.size, 2, none⟩ = some (.string x.what) := (Lib.cell_of_heap HA5.out 2).trans rfl
          have c1 : w5.drew.cell? ⟨p, 1, none⟩ = some (.slice ja t.es.length jc) := (Lib.cell_of_heap Hx5.out 1).trans rfl
          refine region_ph 7 (fun w' => w'.cell? ⟨w.heap.size, 0, none⟩ = some (.int .i64 x.second) ∧ w'.cell? ⟨w.heap.size, 1, none⟩ = some (.string x.who) ∧ w'.cell? ⟨w.heap.size, 2, none⟩ = some (.string x.what)) (fun w' => w'.cell? ⟨p, 1, none⟩ = some (.slice ja t.es.length jc)) (by kernel_rfl) ⟨q0, q1, q2⟩ c1 (fun hp => ?_)
          generalize w5.drew = wd at *
          refine take_ph 82 (i := 0) rfl rfl (by decide) (by kernel_rfl) (by kernel_rfl) (by kernel_rfl) (fun _ _ _ h => h) (by rfl) (fun w hSw => by (try dsimp only at hSw); go_simp; first | done | with_reducible rfl) hp (fun hp => ?_)
          try simp only [Act.put, List.setIfInBounds_toArray, List.set_cons_zero, List.set_cons_succ]
          refine take_ph 83 (i := 1) rfl rfl (by decide) (by kernel_rfl) (by kernel_rfl) (by kernel_rfl) (fun _ _ _ h => h) (by rfl) (fun w hSw => by (try dsimp only at hSw); go_simp; first | done | with_reducible rfl) hp (fun hp => ?_)
          try simp only [Act.put, List.setIfInBounds_toArray, List.set_cons_zero, List.set_cons_succ]
          refine take_ph 84 (i := 2) rfl rfl (by decide) (by kernel_rfl) (by kernel_rfl) (by kernel_rfl) (fun _ _ _ h => h) (by rfl) (fun w hSw => by (try dsimp only at hSw); go_simp; first | done | with_reducible rfl) hp (fun hp => ?_)
          try simp only [Act.put, List.setIfInBounds_toArray, List.set_cons_zero, List.set_cons_succ]
          refine take_ph 85 (i := 3) rfl rfl (by decide) (by kernel_rfl) (by kernel_rfl) (by kernel_rfl) (fun _ _ _ h => h) (by rfl) (fun w hSw => by (try dsimp only at hSw); go_simp; first | done | with_reducible rfl) hp (fun hp => ?_)
          try simp only [Act.put, List.setIfInBounds_toArray, List.set_cons_zero, List.set_cons_succ]
          refine take_ph1 86 (i := 4) rfl rfl (by decide) (by rfl) (by kernel_rfl) (by kernel_rfl) (by kernel_rfl) (by kernel_rfl) (fun _ _ _ h => h) (by rfl) (fun w hSw hBw => by (try dsimp only at hSw hBw); go_simp; first | done | with_reducible rfl) hp (fun hp => ?_)
          try simp only [Act.put, List.setIfInBounds_toArray, List.set_cons_zero, List.set_cons_succ]
          refine take_ph 87 (i := 5) rfl rfl (by decide) (by kernel_rfl) (by kernel_rfl) (by kernel_rfl) (fun _ _ _ h => h) (by rfl) (fun w hSw => by (try dsimp only at hSw); go_simp; first | done | with_reducible rfl) hp (fun hp => ?_)
          try simp only [Act.put, List.setIfInBounds_toArray, List.set_cons_zero, List.set_cons_succ]
          refine AnyL.one (i := 6) (by kernel_rfl) rfl (fun K hK => ?_)
          go_simp
          have hAlt := (Array.getElem?_eq_some_iff.1 HA5.out).1
          have hp8 := (Array.getElem?_eq_some_iff.1 Hx5.out).1
          have hBd : Bo ≤ wd.heap.size := Nat.le_trans hBo Hd5.out.size
          refine hK.out _ _ (ph1 ⟨by rw [World.cell?_alloc_lt _ _ _ (show w.heap.size < _ from hAlt)]; exact q0, by rw [World.cell?_alloc_lt _ _ _ (show w.heap.size < _ from hAlt)]; exact q1, by rw [World.cell?_alloc_lt _ _ _ (show w.heap.size < _ from hAlt)]; exact q2⟩ (by rw [World.cell?_alloc_lt _ _ _ (show p < _ from hp8)]; exact c1)) (fun hp => ?_)
          clear hK
          try simp only [Act.put, List.setIfInBounds_toArray, List.set_cons_zero, List.set_cons_succ]
          refine AnyL.one (i := 7) (by kernel_rfl) rfl (fun K hK => ?_)
          have hnp := own_ne Ho5.out Hx5.out (by decide)
          have hpq : ¬ p = w.heap.size := Nat.ne_of_lt (Array.getElem?_eq_some_iff.1 Hbx0.out).1
          refine step_app1 (c := Ent.cells) (bytes := 40) rfl _ _ 24 48 rfl Tryz.underlying24 info_Ent2 (by omega) Ent.len Ent.one2 Bo t.es x (.slice ja t.es.length jc) rfl wd rfl Ho5.out rfl (by omega) (by omega) hBd ?_
          intro v' w9 hown9 hg9
          have b9 : Below Bo wd w9 := Ho5.out.app (Below.refl _ _) (Nat.le_refl _) hBd hg9
          obtain ⟨va, vc, rfl⟩ := own_sv hown9
          have hx9 : w9.heap[p]? = wd.heap[p]? := (hg9.block p (by simp; omega) (fun e => hnp e.symm)).trans (Below.heap_alloc _ _ _ hp8)
          have hA9 : w9.heap[w.heap.size]? = wd.heap[w.heap.size]? := (hg9.block _ (by simp; omega) (fun e => absurd (hgq _ e.symm) (Nat.lt_irrefl _))).trans (Below.heap_alloc _ _ _ hAlt)
          have hx9 := hx9.trans Hx5.out
          have hA9 := hA9.trans HA5.out
          have f9 : ∀ j, w9.frozen? ⟨p, j, none⟩ = false := fun j => Lib.frozen_of_heap hx9 j
          have r0 : w9.cell? ⟨w.heap.size, 0, none⟩ = some (.int .i64 x.second) := (Lib.cell_of_heap hA9 0).trans rfl
          have r1 : w9.cell? ⟨w.heap.size, 1, none⟩ = some (.string x.who) := (Lib.cell_of_heap hA9 1).trans rfl
          have r2 : w9.cell? ⟨w.heap.size, 2, none⟩ = some (.string x.what) := (Lib.cell_of_heap hA9 2).trans rfl
          have e0 : w9.cell? ⟨p, 0, none⟩ = some _ := (Lib.cell_of_heap hx9 0).trans rfl
          have e1 : w9.cell? ⟨p, 1, none⟩ = some _ := (Lib.cell_of_heap hx9 1).trans rfl
          have e2 : w9.cell? ⟨p, 2, none⟩ = some _ := (Lib.cell_of_heap hx9 2).trans rfl
          have e3 : w9.cell? ⟨p, 3, none⟩ = some _ := (Lib.cell_of_heap hx9 3).trans rfl
          have Hown9 := Lib.hid hown9
          have HF9 := Lib.hid (Fr.of_own (p := p) Hown0.out Hd5.out hg9)
          have B9 := Lib.hid ((Hd5.out.mono hB).trans (b9.mono hlob))
          have Hx9 := Lib.hid hx9
          clear hown9 hx9 hA9 hg9 b9 q0 q1 q2 c1
          refine hK.out _ _ (ph2 rfl ⟨r0, r1, r2⟩) (fun hp => ?_)
          clear hK
          try simp only [Act.put, List.setIfInBounds_toArray]
          refine take_ph 90 (i := 8) rfl rfl (by decide) (by kernel_rfl) (by kernel_rfl) (by kernel_rfl) (fun _ _ _ h => h) (by rfl) (fun w hSw => by (try dsimp only at hSw); go_simp; first | done | with_reducible rfl) hp (fun hp => ?_)
          try simp only [Act.put]
          refine take_ph 91 (i := 9) rfl rfl (by decide) (by kernel_rfl) (by kernel_rfl) (by kernel_rfl) (fun _ _ _ h => h) (by rfl) (fun w hSw => by (try dsimp only at hSw); go_simp; first | done | with_reducible rfl) hp (fun hp => ?_)
          try simp only [Act.put]
          refine AnyL.one (i := 10) (by kernel_rfl) rfl (fun K hK => ?_)
          go_simp
          refine hK.out _ _ (ph2 rfl ⟨?_, ?_, ?_⟩) (fun hp => ?_)
          · rw [World.cell?_setCell_other _ _ _ _ (fun e => hpq (congrArg Addr.block e))]; exact r0
          · rw [World.cell?_setCell_other _ _ _ _ (fun e => hpq (congrArg Addr.block e))]; exact r1
          · rw [World.cell?_setCell_other _ _ _ _ (fun e => hpq (congrArg Addr.block e))]; exact r2
          clear hK
          refine AnyL.done (by kernel_rfl) ?_ _
          go_wp2
          go_ret2
          refine ⟨0, .inr (.inr (.inr (.inr ⟨Hpl.out, by rw [Hkk.out]; omega, hla'.out, by rw [Hadd.out]; show t.pos + ln.size ≤ 4000; omega, rfl⟩))), ((B9.out.setCell (p := ⟨p, 1, none⟩) hlo _).setCell (p := ⟨p, 2, none⟩) hlo _).setCell (p := ⟨p, 3, none⟩) hlo _, ((HF9.out.set 1 _).set 2 _).set 3 _, .inl ⟨rfl, by rw [Hlne'.out]; rfl, ?_⟩⟩
          rw [Hadd.out]
          exact JBox.made hlo hlob Hx9.out Hown9.out (by omega) hsgb (by simp; omega) (.inr ⟨t.es, x, rfl, rfl⟩) (by simp)
      · have hN : t.es.length = r.length + 1 := by rw [hes]; simp
        obtain ⟨ja', jc', hbx', hown'⟩ := hown2
        have hcj : (.slice ja t.es.length jc : Value) = .slice ja' t.es.length jc' := by
          have := (Lib.cell_of_heap hbx' 1).symm.trans c1
          exact (Option.some.inj this).symm
        rw [← hcj] at hown'
        have hsl := (hown'.slw Ent.len).1
        obtain ⟨jb, jo, hja⟩ := hsl.addr (by omega)
        rw [hja] at hsl
        obtain ⟨y0, -, -⟩ := Ents.at hsl.get (k := r.length) (by omega)
        have hyy : t.es[r.length]'(by omega) = y := by simp [hes]
        rw [hyy] at y0
        rw [hN, hja] at c1
        have Hlen := Lib.hid hN
        clear hja
        have Hes := Lib.hid hes
        have hMb : r.length + 1 ≤ 4000 := by omega
        clear hN hsl hown' hbx' hyy hes hcj
        generalize r.length = M at *
        have hw1 : IntKind.i64.wrap ((M : Int) + 1 - 1) = (M : Int) := by rw [IntKind.wrap_i64]; omega
        have hw2 : IntKind.i64.wrap (M : Int) = (M : Int) := by rw [IntKind.wrap_i64]; omega
        have hM0 : decide ((0 : Int) < (M : Int) + 1) = true := decide_eq_true (by omega)
        have hM1 : (0 : Int) ≤ (M : Int) := by omega
        have hM2 : (M : Int) < (M : Int) + 1 := by omega
        by_cases hla : t.last ≤ x.second
        · have hlt : decide (x.second < y.second) = false := decide_eq_false (by omega)
          go_wp2_with (go_quiet (fail))
          obtain ⟨w3, hw3⟩ : ∃ w3, w2.drewN nq = w3 := ⟨_, rfl⟩
          have b3 : Below w2.heap.size w2 w3 := by rw [← hw3]; exact below_dN (Below.refl _ _) nq
          rw [hw3]
          have Hb3 := Lib.hid (Hb2.out.ext b3)
          have Hb3' := Lib.hid (Hb2'.out.trans (b3.mono hz2))
          have HEA3 := Lib.hid ((b3.block _ (Array.getElem?_eq_some_iff.1 HEA2.out).1).trans HEA2.out)
          have H103 := Lib.hid (H102.out.ext b3)
          have hlt3 := (Array.getElem?_eq_some_iff.1 HEA3.out).1
          have k3 := (b3.cell (p := ⟨sb, off + m * 2 + 1, none⟩) (World.block_lt_of_cell? w2 _ k1)).trans k1
          have hsb3 := World.block_lt_of_cell? w3 _ k3
          clear c0 c1 c2 c3 d0 d1 d2 k1 b3 hw3 hz2 Hb2 Hb2' HEA2 H102 hlt1 hz1
          have hbx := ((Hb3').out.block p (Array.getElem?_eq_some_iff.1 Hbx0.out).1).trans Hbx0.out
          have c0 : w3.cell? ⟨p, 0, none⟩ = some (.slice (some ⟨sb, off, none⟩) l.length cap) := (Lib.cell_of_heap hbx 0).trans rfl
          have c1 : w3.cell? ⟨p, 1, none⟩ = some (.slice ja t.es.length jc) := (Lib.cell_of_heap hbx 1).trans rfl
          have c2 : w3.cell? ⟨p, 2, none⟩ = some (.int .i64 t.sign) := (Lib.cell_of_heap hbx 2).trans rfl
          have c3 : w3.cell? ⟨p, 3, none⟩ = some (.int .i64 t.pos) := (Lib.cell_of_heap hbx 3).trans rfl
          have hpw := (Array.getElem?_eq_some_iff.1 hbx).1
          clear hbx
          have d0 : w3.cell? ⟨w.heap.size, 0, none⟩ = some (.int .i64 x.second) := (Lib.cell_of_heap HEA3.out 0).trans rfl
          have d1 : w3.cell? ⟨w.heap.size, 1, none⟩ = some (.string x.who) := (Lib.cell_of_heap HEA3.out 1).trans rfl
          have d2 : w3.cell? ⟨w.heap.size, 2, none⟩ = some (.string x.what) := (Lib.cell_of_heap HEA3.out 2).trans rfl
          have hla' := Lib.hid hla
          clear hla
          go_wp2_with fail
          go_region_held3 (fun w' => (∀ b' o', b' < w3.heap.size → w'.cell? ⟨b', o', none⟩ = w3.cell? ⟨b', o', none⟩) ∧ Below w3.heap.size w3 w') (first | (refine heldB ?_; go_grown; done))
            (first | (go_at_call 62; refine (HSg.out _ (H103.out.ext (by go_grown))).mono ?_; rintro e w4 ⟨rfl, hb4⟩; have b4 : Below w3.heap.size w3 w4 := Below.trans (by go_grown) (hb4.mono (by go_size))))
          rename_i hHeld
          clear hHeld
          have Hb4' := Lib.hid (Hb3'.out.trans (b4.mono Hb3'.out.size))
          have HEA4 := Lib.hid ((b4.block _ hlt3).trans HEA3.out)
          have H104 := Lib.hid (H103.out.ext b4)
          clear c0 c1 c2 c3 d0 d1 d2 k3 b4 hb4 Hb3' HEA3 H103 hlt3 hpw
          have d0 : w4.cell? ⟨w.heap.size, 0, none⟩ = some (.int .i64 x.second) := (Lib.cell_of_heap HEA4.out 0).trans rfl
          have d1 : w4.cell? ⟨w.heap.size, 1, none⟩ = some (.string x.who) := (Lib.cell_of_heap HEA4.out 1).trans rfl
          have d2 : w4.cell? ⟨w.heap.size, 2, none⟩ = some (.string x.what) := (Lib.cell_of_heap HEA4.out 2).trans rfl
          go_wp2_with fail
          refine (HLn.out _ H104.out).mono ?_
          rintro e w5 ⟨rfl, b5⟩
          have Hb5' := Lib.hid (Hb4'.out.trans (b5.mono Hb4'.out.size))
          have HEA5 := Lib.hid ((b5.block _ (Array.getElem?_eq_some_iff.1 HEA4.out).1).trans HEA4.out)
          have Hb5 := Lib.hid (Hb3.out.ext0 Hbx0.out Hown0.out Hb5'.out)
          clear d0 d1 d2 b5 Hb4' HEA4 H104 Hb3
          have hbx := ((Hb5').out.block p (Array.getElem?_eq_some_iff.1 Hbx0.out).1).trans Hbx0.out
          have c0 : w5.cell? ⟨p, 0, none⟩ = some (.slice (some ⟨sb, off, none⟩) l.length cap) := (Lib.cell_of_heap hbx 0).trans rfl
          have c1 : w5.cell? ⟨p, 1, none⟩ = some (.slice ja t.es.length jc) := (Lib.cell_of_heap hbx 1).trans rfl
          have c2 : w5.cell? ⟨p, 2, none⟩ = some (.int .i64 t.sign) := (Lib.cell_of_heap hbx 2).trans rfl
          have c3 : w5.cell? ⟨p, 3, none⟩ = some (.int .i64 t.pos) := (Lib.cell_of_heap hbx 3).trans rfl
          have hpw := (Array.getElem?_eq_some_iff.1 hbx).1
          clear hbx
          have hz5 := Hb5'.out.size
          have hwp : IntKind.i64.wrap ((t.pos : Int) + (ln.size : Int)) = (t.pos : Int) + (ln.size : Int) := by rw [IntKind.wrap_i64]; omega
          by_cases hfull : 4000 < t.pos + ln.size
          · have hfl : decide ((4000 : Int) < (t.pos : Int) + (ln.size : Int)) = true := decide_eq_true (by omega)
            go_wp2
            go_ret2
            have hnew : Below w5.heap.size w5 (w5.alloc (.cells #[.int .i64 5] 95)) := (Below.refl _ _).alloc (Nat.le_refl _) _
            have hall : Below w.heap.size w (w5.alloc (.cells #[.int .i64 5] 95)) := Hb5'.out.trans (hnew.mono hz5)
            exact ⟨5, .inr (.inr (.inr (.inl ⟨Hpl.out, by rw [Hkk.out]; omega, hla'.out, by rw [Hadd.out]; exact hfull, rfl⟩))), hall.mono hB, Fr.of hall, .inr ⟨by decide, Hb5.out.ext hnew, hall, w5.heap.size, hz5, rfl, Array.getElem?_push_size⟩⟩
          · have hfl : decide ((4000 : Int) < (t.pos : Int) + (ln.size : Int)) = false := decide_eq_false (by omega)
            have Hx5 := Lib.hid (show w5.drew.heap[p]? = _ from (Hb5'.out.block p (Array.getElem?_eq_some_iff.1 Hbx0.out).1).trans Hbx0.out)
            have Ho5 := Lib.hid (show Own 3 Ent.cells Bo 48 w5.drew (.slice ja t.es.length jc) t.es from (Hown0.out.below Hb5'.out).drew)
            have HA5 := Lib.hid (show w5.drew.heap[w.heap.size]? = _ from HEA5.out)
            have Hd5 := Lib.hid (show Below w.heap.size w w5.drew from Hb5'.out.drew)
            go_wp2_with fail
            clear c0 c1 c2 c3 HEA5 Hb5 Hb5' hz5 hpw
            have q0 : w5.drew.cell? ⟨w.heap.size, 0, none⟩ = some (.int .i64 x.second) := (Lib.cell_of_heap HA5.out 0).trans rfl
            have q1 : w5.drew.cell? ⟨w.heap.size, 1, none⟩ = some (.string x.who) := (Lib.cell_of_heap HA5.out 1).trans rfl
            have q2 : w5.drew.cell? ⟨w.heap.size, 2, none⟩ = some (.string x.what) := (Lib.cell_of_heap HA5.out 2).trans rfl
            have c1 : w5.drew.cell? ⟨p, 1, none⟩ = some (.slice ja t.es.length jc) := (Lib.cell_of_heap Hx5.out 1).trans rfl
            refine region_ph 7 (fun w' => w'.cell? ⟨w.heap.size, 0, none⟩ = some (.int .i64 x.second) ∧ w'.cell? ⟨w.heap.size, 1, none⟩ = some (.string x.who) ∧ w'.cell? ⟨w.heap.size, 2, none⟩ = some (.string x.what)) (fun w' => w'.cell? ⟨p, 1, none⟩ = some (.slice ja t.es.length jc)) (by kernel_rfl) ⟨q0, q1, q2⟩ c1 (fun hp => ?_)
            generalize w5.drew = wd at *
            refine take_ph 82 (i := 0) rfl rfl (by decide) (by kernel_rfl) (by kernel_rfl) (by kernel_rfl) (fun _ _ _ h => h) (by rfl) (fun w hSw => by (try dsimp only at hSw); go_simp; first | done | with_reducible rfl) hp (fun hp => ?_)
            try simp only [Act.put, List.setIfInBounds_toArray, List.set_cons_zero, List.set_cons_succ]
            refine take_ph 83 (i := 1) rfl rfl (by decide) (by kernel_rfl) (by kernel_rfl) (by kernel_rfl) (fun _ _ _ h => h) (by rfl) (fun w hSw => by (try dsimp only at hSw); go_simp; first | done | with_reducible rfl) hp (fun hp => ?_)
            try simp only [Act.put, List.setIfInBounds_toArray, List.set_cons_zero, List.set_cons_succ]
            refine take_ph 84 (i := 2) rfl rfl (by decide) (by kernel_rfl) (by kernel_rfl) (by kernel_rfl) (fun _ _ _ h => h) (by rfl) (fun w hSw => by (try dsimp only at hSw); go_simp; first | done | with_reducible rfl) hp (fun hp => ?_)
            try simp only [Act.put, List.setIfInBounds_toArray, List.set_cons_zero, List.set_cons_succ]
            refine take_ph 85 (i := 3) rfl rfl (by decide) (by kernel_rfl) (by kernel_rfl) (by kernel_rfl) (fun _ _ _ h => h) (by rfl) (fun w hSw => by (try dsimp only at hSw); go_simp; first | done | with_reducible rfl) hp (fun hp => ?_)
            try simp only [Act.put, List.setIfInBounds_toArray, List.set_cons_zero, List.set_cons_succ]
            refine take_ph1 86 (i := 4) rfl rfl (by decide) (by rfl) (by kernel_rfl) (by kernel_rfl) (by kernel_rfl) (by kernel_rfl) (fun _ _ _ h => h) (by rfl) (fun w hSw hBw => by (try dsimp only at hSw hBw); go_simp; first | done | with_reducible rfl) hp (fun hp => ?_)
            try simp only [Act.put, List.setIfInBounds_toArray, List.set_cons_zero, List.set_cons_succ]
            refine take_ph 87 (i := 5) rfl rfl (by decide) (by kernel_rfl) (by kernel_rfl) (by kernel_rfl) (fun _ _ _ h => h) (by rfl) (fun w hSw => by (try dsimp only at hSw); go_simp; first | done | with_reducible rfl) hp (fun hp => ?_)
            try simp only [Act.put, List.setIfInBounds_toArray, List.set_cons_zero, List.set_cons_succ]
            refine AnyL.one (i := 6) (by kernel_rfl) rfl (fun K hK => ?_)
            go_simp
            have hAlt := (Array.getElem?_eq_some_iff.1 HA5.out).1
            have hp8 := (Array.getElem?_eq_some_iff.1 Hx5.out).1
            have hBd : Bo ≤ wd.heap.size := Nat.le_trans hBo Hd5.out.size
            refine hK.out _ _ (ph1 ⟨by rw [World.cell?_alloc_lt _ _ _ (show w.heap.size < _ from hAlt)]; exact q0, by rw [World.cell?_alloc_lt _ _ _ (show w.heap.size < _ from hAlt)]; exact q1, by rw [World.cell?_alloc_lt _ _ _ (show w.heap.size < _ from hAlt)]; exact q2⟩ (by rw [World.cell?_alloc_lt _ _ _ (show p < _ from hp8)]; exact c1)) (fun hp => ?_)
            clear hK
            try simp only [Act.put, List.setIfInBounds_toArray, List.set_cons_zero, List.set_cons_succ]
            refine AnyL.one (i := 7) (by kernel_rfl) rfl (fun K hK => ?_)
            have hnp := own_ne Ho5.out Hx5.out (by decide)
            have hpq : ¬ p = w.heap.size := Nat.ne_of_lt (Array.getElem?_eq_some_iff.1 Hbx0.out).1
            refine step_app1 (c := Ent.cells) (bytes := 40) rfl _ _ 24 48 rfl Tryz.underlying24 info_Ent2 (by omega) Ent.len Ent.one2 Bo t.es x (.slice ja t.es.length jc) rfl wd rfl Ho5.out rfl (by omega) (by omega) hBd ?_
            intro v' w9 hown9 hg9
            have b9 : Below Bo wd w9 := Ho5.out.app (Below.refl _ _) (Nat.le_refl _) hBd hg9
            obtain ⟨va, vc, rfl⟩ := own_sv hown9
            have hx9 : w9.heap[p]? = wd.heap[p]? := (hg9.block p (by simp; omega) (fun e => hnp e.symm)).trans (Below.heap_alloc _ _ _ hp8)
            have hA9 : w9.heap[w.heap.size]? = wd.heap[w.heap.size]? := (hg9.block _ (by simp; omega) (fun e => absurd (hgq _ e.symm) (Nat.lt_irrefl _))).trans (Below.heap_alloc _ _ _ hAlt)
            have hx9 := hx9.trans Hx5.out
            have hA9 := hA9.trans HA5.out
            have f9 : ∀ j, w9.frozen? ⟨p, j, none⟩ = false := fun j => Lib.frozen_of_heap hx9 j
            have r0 : w9.cell? ⟨w.heap.size, 0, none⟩ = some (.int .i64 x.second) := (Lib.cell_of_heap hA9 0).trans rfl
            have r1 : w9.cell? ⟨w.heap.size, 1, none⟩ = some (.string x.who) := (Lib.cell_of_heap hA9 1).trans rfl
            have r2 : w9.cell? ⟨w.heap.size, 2, none⟩ = some (.string x.what) := (Lib.cell_of_heap hA9 2).trans rfl
            have e0 : w9.cell? ⟨p, 0, none⟩ = some _ := (Lib.cell_of_heap hx9 0).trans rfl
            have e1 : w9.cell? ⟨p, 1, none⟩ = some _ := (Lib.cell_of_heap hx9 1).trans rfl
            have e2 : w9.cell? ⟨p, 2, none⟩ = some _ := (Lib.cell_of_heap hx9 2).trans rfl
            have e3 : w9.cell? ⟨p, 3, none⟩ = some _ := (Lib.cell_of_heap hx9 3).trans rfl
            have Hown9 := Lib.hid hown9
            have HF9 := Lib.hid (Fr.of_own (p := p) Hown0.out Hd5.out hg9)
            have B9 := Lib.hid ((Hd5.out.mono hB).trans (b9.mono hlob))
            have Hx9 := Lib.hid hx9
            clear hown9 hx9 hA9 hg9 b9 q0 q1 q2 c1
            refine hK.out _ _ (ph2 rfl ⟨r0, r1, r2⟩) (fun hp => ?_)
            clear hK
            try simp only [Act.put, List.setIfInBounds_toArray]
            refine take_ph 90 (i := 8) rfl rfl (by decide) (by kernel_rfl) (by kernel_rfl) (by kernel_rfl) (fun _ _ _ h => h) (by rfl) (fun w hSw => by (try dsimp only at hSw); go_simp; first | done | with_reducible rfl) hp (fun hp => ?_)
            try simp only [Act.put]
            refine take_ph 91 (i := 9) rfl rfl (by decide) (by kernel_rfl) (by kernel_rfl) (by kernel_rfl) (fun _ _ _ h => h) (by rfl) (fun w hSw => by (try dsimp only at hSw); go_simp; first | done | with_reducible rfl) hp (fun hp => ?_)
            try simp only [Act.put]
            refine AnyL.one (i := 10) (by kernel_rfl) rfl (fun K hK => ?_)
            go_simp
            refine hK.out _ _ (ph2 rfl ⟨?_, ?_, ?_⟩) (fun hp => ?_)
            · rw [World.cell?_setCell_other _ _ _ _ (fun e => hpq (congrArg Addr.block e))]; exact r0
            · rw [World.cell?_setCell_other _ _ _ _ (fun e => hpq (congrArg Addr.block e))]; exact r1
            · rw [World.cell?_setCell_other _ _ _ _ (fun e => hpq (congrArg Addr.block e))]; exact r2
            clear hK
            refine AnyL.done (by kernel_rfl) ?_ _
            go_wp2
            go_ret2
            refine ⟨0, .inr (.inr (.inr (.inr ⟨Hpl.out, by rw [Hkk.out]; omega, hla'.out, by rw [Hadd.out]; show t.pos + ln.size ≤ 4000; omega, rfl⟩))), ((B9.out.setCell (p := ⟨p, 1, none⟩) hlo _).setCell (p := ⟨p, 2, none⟩) hlo _).setCell (p := ⟨p, 3, none⟩) hlo _, ((HF9.out.set 1 _).set 2 _).set 3 _, .inl ⟨rfl, by rw [Hlne'.out]; rfl, ?_⟩⟩
            rw [Hadd.out]
            exact JBox.made hlo hlob Hx9.out Hown9.out (by omega) hsgb (by simp; omega) (.inr ⟨t.es, x, rfl, rfl⟩) (by simp)
        · have hlt : decide (x.second < y.second) = true := decide_eq_true (by omega)
          go_wp2_with (go_quiet (fail))
          go_ret2
          have hnew : Below w2.heap.size w2 ((w2.drewN nq).alloc (.cells #[.int .i64 6] 95)) := (below_dN (Below.refl _ _) nq).alloc (Nat.le_refl _) _
          have hall : Below w.heap.size w ((w2.drewN nq).alloc (.cells #[.int .i64 6] 95)) := Hb2'.out.trans (hnew.mono hz2)
          exact ⟨6, .inr (.inr (.inl ⟨Hpl.out, by rw [Hkk.out]; omega, by omega, rfl⟩)), hall.mono hB, Fr.of hall, .inr ⟨by decide, Hb2.out.ext hnew, hall, w2.heap.size, hz2, rfl, Array.getElem?_push_size⟩⟩
    · have Hr := Lib.hid (keyOf_miss hno)
      clear hno
      go_wp2

      go_ret2
      have hnew : Below w2.heap.size w2 (w2.alloc (.cells #[.int .i64 3] 95)) := (Below.refl _ _).alloc (Nat.le_refl _) _
      have hall : Below w.heap.size w (w2.alloc (.cells #[.int .i64 3] 95)) := Hb2'.out.trans (hnew.mono hz2)
      exact ⟨3, .inr (.inl ⟨Hpl.out, Hr.out, rfl⟩), hall.mono hB, Fr.of hall, .inr ⟨by decide, Hb2.out.ext hnew, hall, w2.heap.size, hz2, rfl, Array.getElem?_push_size⟩⟩
  · have HP := HP.out
    rw [plainB_f hpl] at HP
    have HP := Lib.hid HP
    simp only [Ent.cells] at HP
    have Hpl := Lib.hid hpl
    have d0 : W.cell? ⟨w.heap.size, 0, none⟩ = some (.int .i64 x.second) := (Lib.cell_of_heap eA 0).trans rfl
    have d1 : W.cell? ⟨w.heap.size, 1, none⟩ = some (.string x.who) := (Lib.cell_of_heap eA 1).trans rfl
    have d2 : W.cell? ⟨w.heap.size, 2, none⟩ = some (.string x.what) := (Lib.cell_of_heap eA 2).trans rfl
    clear hpl eA
    go_enter Tryz.func49, Tryz.ntmps49
    go_wp2_with fail
    rw [HW.out]
    go_wp2_with fail
    refine HP.out.mono ?_
    rintro e w1 ⟨rfl, b1⟩
    clear d0 d1 d2
    have hz1 := Hba.out.size
    have hz2 := b1.size
    go_wp2
    go_ret2
    have hnew : Below w1.heap.size w1 (w1.alloc (.cells #[.int .i64 7] 95)) := (Below.refl _ _).alloc (Nat.le_refl _) _
    have hall : Below w.heap.size w (w1.alloc (.cells #[.int .i64 7] 95)) := Hba.out.trans ((b1.trans (hnew.mono hz2)).mono hz1)
    exact ⟨7, .inl ⟨Hpl.out, rfl⟩, hall.mono hB, Fr.of hall, .inr ⟨by decide, Hbox.out.ext (b1.trans (hnew.mono hz2)), hall, w1.heap.size, Nat.le_trans hz1 hz2, rfl, Array.getElem?_push_size⟩⟩
end Go.Proofs.YtjjibdjliejcfaaGreatDoor
