/- The log: the program opens a text that must be a log. -/
import Derived.Test.YtjjibdjliejcfaaGreatDoorLgI
import Derived.Test.YtjjibdjliejcfaaGreatDoorLgW
import Derived.Test.YtjjibdjliejcfaaGreatDoorLgO
namespace Go.Proofs.YtjjibdjliejcfaaGreatDoor
open Go.RowKit
/-- What opening a text asks first. -/
def TextC (l : List Sgn) (s : ByteArray) (c : Int) : Prop := (¬ sgnsOk l ∧ c = 1) ∨ (sgnsOk l ∧ 4000 < s.size ∧ c = 5) ∨ (sgnsOk l ∧ s.size ≤ 4000 ∧ c = 0)
set_option maxRecDepth 100000 in
set_option maxHeartbeats 4000000 in
theorem impl_TextCode (v : Value) (l : List Sgn) (lo hi : Nat) (s : ByteArray) (w : World) (hl : Sgns lo hi w v l) (hwf : ∀ x ∈ l, x.wf) (hs : s.size ≤ 1048576) :
    Calls Tryz.prog 52 #[v, .string s] w fun e w' => (∃ c, e = .returned (.int .i64 c) ∧ TextC l s c) ∧ Below w.heap.size w w' := by
  have hO := impl_SgnOk v l lo hi w hl hwf
  by_cases h1 : sgnsOk l
  · rw [sgnsB_t h1] at hO
    have HO := Lib.hid hO
    have H1 := Lib.hid h1
    clear hO h1
    by_cases h2 : s.size ≤ 4000
    · have e1 : decide ((4000 : Int) < (s.size : Int)) = false := decide_eq_false (by omega)
      go_enter Tryz.func52, Tryz.ntmps52
      go_wp2_with fail
      refine HO.out.mono ?_
      rintro e w1 ⟨rfl, b1⟩
      go_wp2
      go_ret
      exact ⟨⟨0, rfl, .inr (.inr ⟨H1.out, h2, rfl⟩)⟩, b1⟩
    · have e1 : decide ((4000 : Int) < (s.size : Int)) = true := decide_eq_true (by omega)
      go_enter Tryz.func52, Tryz.ntmps52
      go_wp2_with fail
      refine HO.out.mono ?_
      rintro e w1 ⟨rfl, b1⟩
      go_wp2
      go_ret
      exact ⟨⟨5, rfl, .inr (.inl ⟨H1.out, by omega, rfl⟩)⟩, b1⟩
  · rw [sgnsB_f h1] at hO
    have HO := Lib.hid hO
    have H1 := Lib.hid h1
    clear hO h1
    go_enter Tryz.func52, Tryz.ntmps52
    go_wp2_with fail
    refine HO.out.mono ?_
    rintro e w1 ⟨rfl, b1⟩
    go_wp2
    go_ret
    exact ⟨⟨1, rfl, .inl ⟨H1.out, rfl⟩⟩, b1⟩
theorem TextC.open {l : List Sgn} {s : ByteArray} {c : Int} (h : TextC l s c) (hc : ¬ c = 0) (t : LgSt) : OpenC l s c t := by
  rcases h with ⟨a, b⟩ | ⟨a, b, d⟩ | ⟨a, b, d⟩
  · exact .inl ⟨a, b⟩
  · exact .inr (.inl ⟨a, b, d⟩)
  · exact absurd d hc
theorem TextC.read {l : List Sgn} {s : ByteArray} {t : LgSt} (h : TextC l s 0) (hr : ReadsTo l s t) : OpenC l s 0 t := by
  rcases h with ⟨a, b⟩ | ⟨a, b, d⟩ | ⟨a, b, d⟩
  · exact absurd b (by decide)
  · exact absurd d (by decide)
  · exact .inr (.inr ⟨a, b, hr, rfl⟩)
def OpenRes (sa : Option Addr) (l : List Sgn) (cap : Nat) (s : ByteArray) (w : World) (e : Ending) (w' : World) : Prop :=
  ∃ pv c t, e = .returned (.tuple #[.pointer pv, .int .i64 c]) ∧ CodeC l s c t ∧ (c = 0 → ∃ q Bo, pv = some ⟨q, 0, none⟩ ∧ Bo ≤ w'.heap.size ∧ JBox w.heap.size Bo q sa l.length cap t w') ∧ Below w.heap.size w w'
set_option maxRecDepth 100000 in
set_option maxHeartbeats 4000000 in
theorem impl_OpenLog (sa : Option Addr) (l : List Sgn) (cap lo hi : Nat) (s : ByteArray) (w : World) (hl : Sgns lo hi w (.slice sa l.length cap) l) (hhi : hi ≤ w.heap.size) (hwf : ∀ x ∈ l, x.wf) (hs : s.size ≤ 1048576) (hm : ML w) (h10 : P10 w) (hev : EV w) :
    Calls Tryz.prog 33 #[.slice sa l.length cap, .string s] w (OpenRes sa l cap s w) := by
  have HT := Lib.hid (impl_TextCode _ l lo hi s w hl hwf hs)
  have HR := Lib.hid (fun w' (hb : Below w.heap.size w w') (hok : sgnsOk l) (hs : s.size ≤ 4000) => impl_ReadLog sa l cap lo hi s w' (hl.ext hb) (Nat.le_trans hhi hb.size) hok hs (hm.ext hb) (h10.ext hb) (hev.ext hb))
  clear hl hm h10 hev
  go_enter Tryz.func33, Tryz.ntmps33
  go_wp2_with fail
  refine HT.out.mono ?_
  rintro e w1 ⟨⟨c, rfl, hc⟩, b1⟩
  by_cases h0 : c = 0
  · subst h0
    have Hc := Lib.hid hc
    obtain ⟨hok, hsz⟩ : sgnsOk l ∧ s.size ≤ 4000 := by
      rcases hc with ⟨-, h⟩ | ⟨-, -, h⟩ | ⟨h1, h2, -⟩
      · exact absurd h (by decide)
      · exact absurd h (by decide)
      · exact ⟨h1, h2⟩
    have HR1 := Lib.hid (HR.out w1 b1 hok hsz)
    clear hok hc HR
    go_wp2_with fail
    refine HR1.out.mono ?_
    rintro e w2 ⟨q, t, rfl, hrd, c3, hj, b2⟩
    have Hrd := Lib.hid hrd
    have Hj := Lib.hid hj
    have Hb := Lib.hid (b1.trans (b2.mono b1.size))
    have hz := b1.size
    clear hrd hj
    by_cases hp : t.pos = s.size
    · have hq : ((t.pos : Int) != (s.size : Int)) = false := by rw [bne_eq_false_iff_eq]; omega
      have Hp := Lib.hid hp
      clear hp
      go_wp2
      go_ret2
      refine ⟨_, 0, t, rfl, .inr (.inl ⟨Hc.out.read Hrd.out, Hp.out, rfl⟩), fun _ => ?_, Hb.out⟩
      obtain ⟨Bo, hBo, hj⟩ := Hj.out Hp.out
      exact ⟨q, Bo, rfl, hBo, ⟨Nat.le_trans hz hj.lo, Nat.le_trans hz hj.lob, hj.box, hj.pos, hj.sg, hj.cnt, hj.last⟩⟩
    · have hq : ((t.pos : Int) != (s.size : Int)) = true := by rw [bne_iff_ne]; omega
      have Hp := Lib.hid hp
      clear hp
      go_wp2
      go_ret2
      exact ⟨_, 8, t, rfl, .inr (.inr ⟨Hc.out.read Hrd.out, Hp.out, rfl⟩), (fun h => absurd h (by decide)), Hb.out⟩
  · have hq : (c != 0) = true := by rw [bne_iff_ne]; exact h0
    have Hc := Lib.hid hc
    have H0 := Lib.hid h0
    clear hc h0 HR
    go_wp2
    go_ret2
    exact ⟨_, c, lg0, rfl, .inl ⟨Hc.out.open H0.out _, H0.out⟩, fun h => absurd h H0.out, b1⟩
end Go.Proofs.YtjjibdjliejcfaaGreatDoor
