/- The log: the reference reads the longest beginning that is a log. -/
import Derived.Test.YtjjibdjliejcfaaGreatDoorLgD
import Derived.Test.YtjjibdjliejcfaaGreatDoorLgO
namespace Go.Proofs.YtjjibdjliejcfaaGreatDoor
open Go.RowKit
theorem nextL_step {l : List Sgn} {s : ByteArray} {t u : LgSt} (h : nextL l s t = some u) : StepL l s t u := by
  classical
  unfold nextL at h
  split at h
  · rename_i he
    cases h
    exact he.choose_spec
  · cases h
theorem step_pos {l : List Sgn} {s : ByteArray} {t u : LgSt} (h : StepL l s t u) : t.pos < u.pos ∧ u.pos ≤ s.size := by
  obtain ⟨x, -, -, -, -, hp, hl, -⟩ := h
  refine ⟨?_, hp⟩
  have hsz := congrArg ByteArray.size hl
  rw [ByteArray.size_extract, lineB_body, ByteArray.size_append] at hsz
  have e : (⟨#[10]⟩ : ByteArray).size = 1 := rfl
  omega
/-- What reading a log returns. -/
def ReadRes (sa : Option Addr) (l : List Sgn) (cap : Nat) (s : ByteArray) (w : World) (e : Ending) (w' : World) : Prop :=
  ∃ p t, e = .returned (.pointer (some ⟨p, 0, none⟩)) ∧ ReadsTo l s t ∧ RBox w.heap.size p sa l.length cap s t w' ∧ Below w.heap.size w w'
def posAt (p : Nat) (w : World) : Nat := match w.cell? ⟨p, 2, none⟩ with | some v => (intOf v).toNat | none => 0
theorem posAt_box {B p : Nat} {sa : Option Addr} {n cap : Nat} {s : ByteArray} {t : LgSt} {w : World} (h : RBox B p sa n cap s t w) : posAt p w = t.pos := by
  obtain ⟨ea, en, ec, c0, c1, c2, -⟩ := h.cells
  unfold posAt
  rw [c2]
  simp [intOf]
theorem blkN_new2 (w : World) (o o2 : Obj) : ((w.alloc o).alloc o2).heap[w.heap.size + 1]? = some o2 := by
  have h : ((w.alloc o).alloc o2).heap[(w.alloc o).heap.size]? = some o2 := Array.getElem?_push_size
  rwa [World.size_alloc] at h
set_option maxRecDepth 100000 in
set_option maxHeartbeats 4000000 in
theorem spec_Read (sa : Option Addr) (l : List Sgn) (cap lo hi : Nat) (s : ByteArray) (w : World) (hl : Sgns lo hi w (.slice sa l.length cap) l) (hs : s.size ≤ 4000) (hkb : ∀ y ∈ l, 1 ≤ y.key ∧ y.key ≤ 65520) :
    Calls Tryz.prog 66 #[.slice sa l.length cap, .string s] w (ReadRes sa l cap s w) := by
  have Hl := Lib.hid hl
  have Hk := Lib.hid hkb
  clear hl hkb
  obtain ⟨W, hW⟩ : ∃ W, (w.alloc (.cells #[] 48)).alloc (.cells #[.slice sa l.length cap, .string s, .int .i64 0, .int .i64 0, .int .i64 0, .slice (some ⟨w.heap.size, 0, none⟩) 0 0] 58) = W := ⟨_, rfl⟩
  have hB0 : Below w.heap.size w W := by rw [← hW]; exact ((Below.refl _ _).alloc (Nat.le_refl _) _).alloc (by simp) _
  have hbox : RBox w.heap.size (w.heap.size + 1) sa l.length cap s lg0 W := by
    rw [← hW]
    refine ⟨by omega, ⟨some ⟨w.heap.size, 0, none⟩, 0, 0, ?_, ?_⟩, Nat.zero_le _, ⟨Int.le_refl _, (by decide : (0 : Int) ≤ 65520)⟩, ⟨Int.le_refl _, (by decide : (0 : Int) ≤ 1000000)⟩, Nat.le_refl _⟩
    · exact blkN_new2 w _ _
    · exact (own_empty w 48 w.heap.size (Nat.le_refl _)).alloc _
  have HW := Lib.hid hW
  have Hbox := Lib.hid hbox
  clear hbox hW
  go_enter Tryz.func66, Tryz.ntmps66
  go_wp2_with fail
  rw [HW.out]
  go_loopw [12] (fun _ wr => ∃ (t : LgSt) (n : Nat), Hid (lgN l s n = some t) ∧ Hid (RBox w.heap.size (w.heap.size + 1) sa l.length cap s t wr) ∧ Below w.heap.size w wr) (fun _ wr => s.size - posAt (w.heap.size + 1) wr)
  case atStart => exact ⟨lg0, 0, Lib.hid rfl, Hbox, hB0⟩
  case round =>
    obtain ⟨t, n, hn, hb, hB⟩ := hrel
    have HC := Lib.hid (spec_LineR w.heap.size (w.heap.size + 1) sa l cap lo hi s t wr hb.out (Hl.out.ext hB) hs hB.size Hk.out)
    go_wp2_with fail
    refine HC.out.mono ?_
    rintro e w2 (⟨u, hu, rfl, hb2, hB2⟩ | ⟨hu, rfl, hb2, hB2⟩)
    · have hn2 : Hid (lgN l s (n + 1) = some u) := Lib.hid (by rw [lgN, hn.out]; exact hu)
      have hp := step_pos (nextL_step hu)
      have e1 := posAt_box hb.out
      have e2 := posAt_box hb2
      have Hb2 := Lib.hid hb2
      clear hu hb2
      go_wp2
      go_roundw
      case rel => exact ⟨u, n + 1, hn2, Hb2, hB.trans hB2⟩
      case measure => rw [e1, e2]; omega
    · have Hr := Lib.hid (show ReadsTo l s t from ⟨n, hn.out, hu⟩)
      have Hb2 := Lib.hid hb2
      clear hu hb2
      go_wp2
      go_ret
      exact ⟨_, t, rfl, Hr.out, Hb2.out, hB.trans hB2⟩
/-- What opening returns: a code, and where that is none, what has been read. -/
def BeginRes (C : Int → LgSt → Prop) (sa : Option Addr) (l : List Sgn) (cap : Nat) (s : ByteArray) (w : World) (e : Ending) (w' : World) : Prop :=
  ∃ p t c, e = .returned (.tuple #[.pointer (some ⟨p, 0, none⟩), .int .i64 c]) ∧ C c t ∧ (c = 0 → RBox w.heap.size p sa l.length cap s t w') ∧ Below w.heap.size w w'
set_option maxRecDepth 100000 in
set_option maxHeartbeats 4000000 in
theorem spec_Begin (sa : Option Addr) (l : List Sgn) (cap lo hi : Nat) (s : ByteArray) (w : World) (hl : Sgns lo hi w (.slice sa l.length cap) l) (hwf : ∀ x ∈ l, x.wf) (hs : s.size ≤ 1048576) :
    Calls Tryz.prog 51 #[.slice sa l.length cap, .string s] w (BeginRes (OpenC l s) sa l cap s w) := by
  have HO := Lib.hid (spec_SgnOk _ l lo hi w hl hwf)
  have Hl := Lib.hid hl
  clear hl
  by_cases h1 : sgnsOk l
  · have HO := HO.out
    rw [sgnsB_t h1] at HO
    have HO := Lib.hid HO
    by_cases h2 : s.size ≤ 4000
    · have H1 := Lib.hid h1
      have HR := Lib.hid (fun w' (hb : Below w.heap.size w w') => spec_Read sa l cap lo hi s w' (Hl.out.ext hb) h2 (sgnsOk_keys h1))
      have e1 : decide ((4000 : Int) < (s.size : Int)) = false := decide_eq_false (by omega)
      clear h1
      go_enter Tryz.func51, Tryz.ntmps51
      go_wp2_with fail
      refine HO.out.mono ?_
      rintro e w1 ⟨rfl, b1⟩
      go_wp2_with fail
      refine (HR.out _ b1).mono ?_
      rintro e w2 ⟨p, t, rfl, hr, hb, b2⟩
      have Hr := Lib.hid hr
      have Hb := Lib.hid hb
      clear hr hb
      go_wp2
      go_ret2
      exact ⟨p, t, 0, rfl, .inr (.inr ⟨H1.out, h2, Hr.out, rfl⟩), fun _ => ⟨Nat.le_trans b1.size Hb.out.lo, by obtain ⟨ea, en, ec, x1, x2⟩ := Hb.out.box; exact ⟨ea, en, ec, x1, x2.lower b1.size⟩, Hb.out.pos, Hb.out.sg, Hb.out.last, Hb.out.cnt⟩, b1.trans (b2.mono b1.size)⟩
    · have H1 := Lib.hid h1
      have e1 : decide ((4000 : Int) < (s.size : Int)) = true := decide_eq_true (by omega)
      clear h1
      go_enter Tryz.func51, Tryz.ntmps51
      go_wp2_with fail
      refine HO.out.mono ?_
      rintro e w1 ⟨rfl, b1⟩
      have hz1 := b1.size
      go_wp2
      go_ret2
      exact ⟨_, lg0, 5, rfl, .inr (.inl ⟨H1.out, by omega, rfl⟩), (fun h => absurd h (by decide)), by go_grown⟩
  · have HO := HO.out
    rw [sgnsB_f h1] at HO
    have HO := Lib.hid HO
    have H1 := Lib.hid h1
    clear h1
    go_enter Tryz.func51, Tryz.ntmps51
    go_wp2_with fail
    refine HO.out.mono ?_
    rintro e w1 ⟨rfl, b1⟩
    have hz1 := b1.size
    go_wp2
    go_ret2
    exact ⟨_, lg0, 1, rfl, .inl ⟨H1.out, rfl⟩, (fun h => absurd h (by decide)), by go_grown⟩
set_option maxRecDepth 100000 in
set_option maxHeartbeats 4000000 in
theorem spec_CodeL (sa : Option Addr) (l : List Sgn) (cap lo hi : Nat) (s : ByteArray) (w : World) (hl : Sgns lo hi w (.slice sa l.length cap) l) (hwf : ∀ x ∈ l, x.wf) (hs : s.size ≤ 1048576) :
    Calls Tryz.prog 31 #[.slice sa l.length cap, .string s] w (BeginRes (CodeC l s) sa l cap s w) := by
  have HO := Lib.hid (spec_Begin sa l cap lo hi s w hl hwf hs)
  clear hl hwf
  go_enter Tryz.func31, Tryz.ntmps31
  go_wp2_with fail
  refine HO.out.mono ?_
  rintro e w1 ⟨p, t, c, rfl, hc, hb, b1⟩
  by_cases h0 : c = 0
  · subst h0
    have Hc := Lib.hid hc
    have Hb := Lib.hid (hb rfl)
    obtain ⟨ea, en, ec, c0, c1, c2, -⟩ := Hb.out.cells
    clear hb hc
    by_cases h1 : t.pos = s.size
    · have hq : ((t.pos : Int) != (s.size : Int)) = false := by rw [bne_eq_false_iff_eq]; omega
      have H1 := Lib.hid h1
      clear h1
      go_wp2
      go_ret2
      exact ⟨p, t, 0, rfl, .inr (.inl ⟨Hc.out, H1.out, rfl⟩), fun _ => Hb.out, b1⟩
    · have hq : ((t.pos : Int) != (s.size : Int)) = true := by rw [bne_iff_ne]; omega
      have H1 := Lib.hid h1
      clear h1
      go_wp2
      go_ret2
      exact ⟨p, t, 8, rfl, .inr (.inr ⟨Hc.out, H1.out, rfl⟩), (fun h => absurd h (by decide)), b1⟩
  · have hq : (c == 0) = false := beq_eq_false_iff_ne.2 h0
    have Hc := Lib.hid hc
    have H0 := Lib.hid h0
    clear hb hc h0
    go_wp2
    go_ret2
    exact ⟨p, t, c, rfl, .inl ⟨Hc.out, H0.out⟩, fun h => absurd h H0.out, b1⟩
end Go.Proofs.YtjjibdjliejcfaaGreatDoor
