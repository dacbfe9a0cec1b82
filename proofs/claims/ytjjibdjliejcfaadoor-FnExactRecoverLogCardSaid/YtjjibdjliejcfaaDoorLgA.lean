/- The log: CheckLog and RecoverLog, in both packages. -/
import Derived.Test.YtjjibdjliejcfaaDoorLgE
import Derived.Test.YtjjibdjliejcfaaDoorLgJ
namespace Go.Proofs.YtjjibdjliejcfaaDoor
open Go.RowKit
def ChkRes (l : List Sgn) (s : ByteArray) (w : World) (e : Ending) (w' : World) : Prop := ∃ a b, e = .returned (.tuple #[.int .i64 a, .int .i64 b]) ∧ ChkC l s a b ∧ Below w.heap.size w w'
def RecRes (l : List Sgn) (s : ByteArray) (w : World) (e : Ending) (w' : World) : Prop := ∃ r a b, e = .returned (.tuple #[.string r, .int .i64 a, .int .i64 b]) ∧ RecC l s r a b ∧ Below w.heap.size w w'
set_option maxRecDepth 100000 in
set_option maxHeartbeats 4000000 in
theorem spec_CheckLog (v : Value) (l : List Sgn) (lo hi : Nat) (s : ByteArray) (w : World) (hl : Sgns lo hi w v l) (hwf : ∀ x ∈ l, x.wf) (hs : s.size ≤ 1048576) : Calls Tryd.prog 20 #[v, .string s] w (ChkRes l s w) := by
  have hl0 := hl
  obtain ⟨sa, cap, rfl, -⟩ := hl
  have HB := Lib.hid (spec_Begin sa l cap lo hi s w hl0 hwf hs)
  clear hl0
  go_enter Tryd.func20, Tryd.ntmps20
  go_wp2_with fail
  refine HB.out.mono ?_
  rintro e w1 ⟨p, t, c, rfl, hc, hb, b1⟩
  have Hc := Lib.hid hc
  by_cases h0 : c = 0
  · subst h0
    have Hb := Lib.hid (hb rfl)
    obtain ⟨ea, en, ec, c0, c1, c2, -⟩ := Hb.out.cells
    clear hb hc
    go_wp2
    go_ret2
    exact ⟨_, _, rfl, ⟨0, t, Hc.out, .inr ⟨rfl, rfl, Hb.out.pos, rfl⟩⟩, b1⟩
  · have hq : (c != 0) = true := by rw [bne_iff_ne]; exact h0
    have H0 := Lib.hid h0
    clear hb hc h0
    go_wp2
    go_ret2
    exact ⟨_, _, rfl, ⟨c, t, Hc.out, .inl ⟨H0.out, rfl, rfl⟩⟩, b1⟩
set_option maxRecDepth 100000 in
set_option maxHeartbeats 4000000 in
theorem impl_CheckLog (v : Value) (l : List Sgn) (lo hi : Nat) (s : ByteArray) (w : World) (hl : Sgns lo hi w v l) (hhi : hi ≤ w.heap.size) (hwf : ∀ x ∈ l, x.wf) (hs : s.size ≤ 1048576) (hm : ML w) (h10 : P10 w) (hev : EV w) : Calls Tryd.prog 21 #[v, .string s] w (ChkRes l s w) := by
  have hl0 := hl
  obtain ⟨sa, cap, rfl, -⟩ := hl
  have HT := Lib.hid (impl_TextCode _ l lo hi s w hl0 hwf hs)
  have HR := Lib.hid (fun w' (hb : Below w.heap.size w w') (hok : sgnsOk l) (hs : s.size ≤ 4000) => impl_ReadLog sa l cap lo hi s w' (hl0.ext hb) (Nat.le_trans hhi hb.size) hok hs (hm.ext hb) (h10.ext hb) (hev.ext hb))
  clear hl0 hm h10 hev
  go_enter Tryd.func21, Tryd.ntmps21
  go_wp2_with fail
  refine HT.out.mono ?_
  rintro e w1 ⟨⟨c, rfl, hc⟩, b1⟩
  have Hc := Lib.hid hc
  by_cases h0 : c = 0
  · subst h0
    obtain ⟨hok, hsz⟩ : sgnsOk l ∧ s.size ≤ 4000 := by
      rcases hc with ⟨-, h⟩ | ⟨-, -, h⟩ | ⟨h1, h2, -⟩
      · exact absurd h (by decide)
      · exact absurd h (by decide)
      · exact ⟨h1, h2⟩
    have HR1 := Lib.hid (HR.out w1 b1 hok hsz)
    clear hok hc HR
    go_wp2_with fail
    refine HR1.out.mono ?_
    rintro e w2 ⟨q, t, rfl, hrd, c3, hj, b2⟩
    have Hrd := Lib.hid hrd
    clear hrd hj
    go_wp2
    go_ret2
    exact ⟨_, _, rfl, ⟨0, t, Hc.out.read Hrd.out, .inr ⟨rfl, rfl, Hrd.out.pos_le, rfl⟩⟩, b1.trans (b2.mono b1.size)⟩
  · have hq : (c != 0) = true := by rw [bne_iff_ne]; exact h0
    have H0 := Lib.hid h0
    clear hc h0 HR
    go_wp2
    go_ret2
    exact ⟨_, _, rfl, ⟨c, lg0, Hc.out.open H0.out _, .inl ⟨H0.out, rfl, rfl⟩⟩, b1⟩
set_option maxRecDepth 100000 in
set_option maxHeartbeats 4000000 in
theorem spec_RecoverLog (v : Value) (l : List Sgn) (lo hi : Nat) (s : ByteArray) (w : World) (hl : Sgns lo hi w v l) (hwf : ∀ x ∈ l, x.wf) (hs : s.size ≤ 1048576) : Calls Tryd.prog 22 #[v, .string s] w (RecRes l s w) := by
  have hl0 := hl
  obtain ⟨sa, cap, rfl, -⟩ := hl
  have HB := Lib.hid (spec_Begin sa l cap lo hi s w hl0 hwf hs)
  clear hl0
  go_enter Tryd.func22, Tryd.ntmps22
  go_wp2_with fail
  refine HB.out.mono ?_
  rintro e w1 ⟨p, t, c, rfl, hc, hb, b1⟩
  have Hc := Lib.hid hc
  by_cases h0 : c = 0
  · subst h0
    have Hb := Lib.hid (hb rfl)
    obtain ⟨ea, en, ec, c0, c1, c2, -⟩ := Hb.out.cells
    have hp1 := Hb.out.pos
    have hp2 : (t.pos : Int) ≤ (s.size : Int) := by omega
    have hp3 : (0 : Int) ≤ (t.pos : Int) := by omega
    have hw1 : IntKind.i64.wrap ((s.size : Int) - (t.pos : Int)) = (s.size : Int) - (t.pos : Int) := by rw [IntKind.wrap_i64]; omega
    clear hb hc
    go_wp2_with (go_quiet (fail))
    go_ret3
    exact ⟨_, _, _, rfl, ⟨0, t, Hc.out, .inr ⟨rfl, rfl, rfl, rfl⟩⟩, below_dN b1 _⟩
  · have hq : (c != 0) = true := by rw [bne_iff_ne]; exact h0
    have H0 := Lib.hid h0
    clear hb hc h0
    go_wp2
    go_ret3
    exact ⟨_, _, _, rfl, ⟨c, t, Hc.out, .inl ⟨H0.out, rfl, rfl, rfl⟩⟩, b1⟩
set_option maxRecDepth 100000 in
set_option maxHeartbeats 4000000 in
theorem impl_RecoverLog (v : Value) (l : List Sgn) (lo hi : Nat) (s : ByteArray) (w : World) (hl : Sgns lo hi w v l) (hhi : hi ≤ w.heap.size) (hwf : ∀ x ∈ l, x.wf) (hs : s.size ≤ 1048576) (hm : ML w) (h10 : P10 w) (hev : EV w) : Calls Tryd.prog 23 #[v, .string s] w (RecRes l s w) := by
  have HC := Lib.hid (impl_CheckLog v l lo hi s w hl hhi hwf hs hm h10 hev)
  clear hl hm h10 hev
  go_enter Tryd.func23, Tryd.ntmps23
  go_wp2_with fail
  refine HC.out.mono ?_
  rintro e w1 ⟨a, b, rfl, ⟨c, t, hc, hh⟩, b1⟩
  have Hc := Lib.hid hc
  rcases hh with ⟨h0, rfl, rfl⟩ | ⟨rfl, rfl, hp1, rfl⟩
  · have hq : (b != 0) = true := by rw [bne_iff_ne]; exact h0
    have H0 := Lib.hid h0
    clear hc h0
    go_wp2
    go_ret3
    exact ⟨_, _, _, rfl, ⟨b, t, Hc.out, .inl ⟨H0.out, rfl, rfl, rfl⟩⟩, b1⟩
  · have hp2 : (t.pos : Int) ≤ (s.size : Int) := by omega
    have hp3 : (0 : Int) ≤ (t.pos : Int) := by omega
    have hw1 : IntKind.i64.wrap ((s.size : Int) - (t.pos : Int)) = (s.size : Int) - (t.pos : Int) := by rw [IntKind.wrap_i64]; omega
    clear hc
    go_wp2
    go_ret3
    exact ⟨_, _, _, rfl, ⟨0, t, Hc.out, .inr ⟨rfl, rfl, rfl, rfl⟩⟩, b1⟩
end Go.Proofs.YtjjibdjliejcfaaDoor
