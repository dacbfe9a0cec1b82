/- The log: the program opens a text that must be a log. -/
import Derived.Test.YtjjibdjliejcfaaDoorLgI
import Derived.Test.YtjjibdjliejcfaaDoorLgW
import Derived.Test.YtjjibdjliejcfaaDoorLgO
namespace Go.Proofs.YtjjibdjliejcfaaDoor
open Go.RowKit
/-- What opening a text asks first. -/
def TextC (l : List Sgn) (s : ByteArray) (c : Int) : Prop := (¬ sgnsOk l ∧ c = 1) ∨ (sgnsOk l ∧ 4000 < s.size ∧ c = 5) ∨ (sgnsOk l ∧ s.size ≤ 4000 ∧ c = 0)
set_option maxRecDepth 100000 in
set_option maxHeartbeats 4000000 in
theorem impl_TextCode (v : Value) (l : List Sgn) (lo hi : Nat) (s : ByteArray) (w : World) (hl : Sgns lo hi w v l) (hwf : ∀ x ∈ l, x.wf) (hs : s.size ≤ 1048576) :
    Calls Tryd.prog 49 #[v, .string s] w fun e w' => (∃ c, e = .returned (.int .i64 c) ∧ TextC l s c) ∧ Below w.heap.size w w' := by
  have hO := impl_SgnOk v l lo hi w hl hwf
  by_cases h1 : sgnsOk l
  · rw [sgnsB_t h1] at hO
    have HO := Lib.hid hO
    have H1 := Lib.hid h1
    clear hO h1
    by_cases h2 : s.size ≤ 4000
    · have e1 : decide ((4000 : Int) < (s.size : Int)) = false := decide_eq_false (by omega)
      go_enter Tryd.func49, Tryd.ntmps49
      go_wp2_with fail
      refine HO.out.mono ?_
      rintro e w1 ⟨rfl, b1⟩
      go_wp2
      go_ret
      exact ⟨⟨0, rfl, .inr (.inr ⟨H1.out, h2, rfl⟩)⟩, b1⟩
    · have e1 : decide ((4000 : Int) < (s.size : Int)) = true := decide_eq_true (by omega)
      go_enter Tryd.func49, Tryd.ntmps49
      go_wp2_with fail
      refine HO.out.mono ?_
      rintro e w1 ⟨rfl, b1⟩
      go_wp2
      go_ret
      exact ⟨⟨5, rfl, .inr (.inl ⟨H1.out, by omega, rfl⟩)⟩, b1⟩
  · rw [sgnsB_f h1] at hO
    have HO := Lib.hid hO
    have H1 := Lib.hid h1
    clear hO h1
    go_enter Tryd.func49, Tryd.ntmps49
    go_wp2_with fail
    refine HO.out.mono ?_
    rintro e w1 ⟨rfl, b1⟩
    go_wp2
    go_ret
    exact ⟨⟨1, rfl, .inl ⟨H1.out, rfl⟩⟩, b1⟩
theorem TextC.open {l : List Sgn} {s : ByteArray} {c : Int} (h : TextC l s c) (hc : ¬ c = 0) (t : LgSt) : OpenC l s c t := by
  rcases h with ⟨a, b⟩ | ⟨a, b, d⟩ | ⟨a, b, d⟩
  · exact .inl ⟨a, b⟩
  · exact .inr (.inl ⟨a, b, d⟩)
  · exact absurd d hc
theorem TextC.read {l : List Sgn} {s : ByteArray} {t : LgSt} (h : TextC l s 0) (hr : ReadsTo l s t) : OpenC l s 0 t := by
  rcases h with ⟨a, b⟩ | ⟨a, b, d⟩ | ⟨a, b, d⟩
  · exact absurd b (by decide)
  · exact absurd d (by decide)
  · exact .inr (.inr ⟨a, b, hr, rfl⟩)
def OpenRes (sa : Option Addr) (l : List Sgn) (cap : Nat) (s : ByteArray) (w : World) (e : Ending) (w' : World) : Prop :=
  ∃ pv c t, e = .returned (.tuple #[.pointer pv, .int .i64 c]) ∧ CodeC l s c t ∧ (c = 0 → ∃ q Bo, pv = some ⟨q, 0, none⟩ ∧ Bo ≤ w'.heap.size ∧ JBox w.heap.size Bo q sa l.length cap t w') ∧ Below w.heap.size w w'
end Go.Proofs.YtjjibdjliejcfaaDoor
