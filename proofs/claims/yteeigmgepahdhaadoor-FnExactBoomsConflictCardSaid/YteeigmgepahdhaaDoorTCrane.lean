/- Crane: its reading, and the laws' helpers. -/
import Derived.Test.YteeigmgepahdhaaDoorChecked
import Derived.Test.YteeigmgepahdhaaDoorOpen
import Derived.Test.YteeigmgepahdhaaDoorMarkT
import Derived.Test.YteeigmgepahdhaaDoorNSO
import Derived.Test.YteeigmgepahdhaaDoorPt
import Derived.Test.YteeigmgepahdhaaDoorTChartStep
import Derived.Handy
namespace Go.Proofs.YteeigmgepahdhaaDoor
open Go.RowKit Go.WideShapes Go.ChangeShapes Go.Deep
structure CraneF where
  name : ByteArray
  x : Int
  y : Int
  height : Int
  jib : Int
  back : Int
deriving DecidableEq
structure CraneR where
  f : CraneF
  s : SV
def CraneR.cells (r : CraneR) : List Value := [.string r.f.name, .int .i64 r.f.x, .int .i64 r.f.y, .int .i64 r.f.height, .int .i64 r.f.jib, .int .i64 r.f.back, r.s.v]
theorem CraneR.len (r : CraneR) : r.cells.length = 7 := rfl
abbrev Cranes (lo hi : Nat) (w : World) (v : Value) (rs : List CraneR) (L : List (CraneF × List Chs)) : Prop := NSr 7 CraneR.cells CraneR.f CraneR.s 2 Chs.cells lo hi w v rs L
abbrev CraneW (lo hi : Nat) (w : World) (v : Value) (rs : List CraneR) (L : List (CraneF × List Chs)) : Prop := NSw 7 CraneR.cells CraneR.f CraneR.s 2 Chs.cells lo hi w v rs L
theorem Cranes_at {lo hi b off len cap : Nat} {w : World} {rs : List CraneR} {L : List (CraneF × List Chs)} (h : Cranes lo hi w (.slice (some ⟨b, off, none⟩) len cap) rs L) {k : Nat} (hk : k < rs.length) :
    w.cell? ⟨b, off + k * 7, none⟩ = some (.string rs[k].f.name) ∧ w.cell? ⟨b, off + k * 7 + 1, none⟩ = some (.int .i64 rs[k].f.x) ∧ w.cell? ⟨b, off + k * 7 + 2, none⟩ = some (.int .i64 rs[k].f.y) ∧ w.cell? ⟨b, off + k * 7 + 3, none⟩ = some (.int .i64 rs[k].f.height) ∧ w.cell? ⟨b, off + k * 7 + 4, none⟩ = some (.int .i64 rs[k].f.jib) ∧ w.cell? ⟨b, off + k * 7 + 5, none⟩ = some (.int .i64 rs[k].f.back) ∧ w.cell? ⟨b, off + k * 7 + 6, none⟩ = some (rs[k].s.v) :=
  ⟨h.at hk 0 _ rfl, h.at hk 1 _ rfl, h.at hk 2 _ rfl, h.at hk 3 _ rfl, h.at hk 4 _ rfl, h.at hk 5 _ rfl, h.at hk 6 _ rfl⟩
def CraneF.wf (x : CraneF) : Prop := x.name.size ≤ maxLen ∧ I64 x.x ∧ I64 x.y ∧ I64 x.height ∧ I64 x.jib ∧ I64 x.back
instance : Inhabited CraneF := ⟨⟨ByteArray.empty, 0, 0, 0, 0, 0⟩⟩
instance : Inhabited CraneR := ⟨⟨default, ⟨none, 0, 0⟩⟩⟩
theorem cellsOf_Crane : Tryd.prog.cellsOf 51 = 7 := by kernel_rfl
theorem cellsOf_Crane_int : Tryd.prog.cellsOf 2 = 1 := by kernel_rfl
theorem cellsOf_Crane_str : Tryd.prog.cellsOf 9 = 1 := by kernel_rfl
theorem cellsOf_Crane_pt : Tryd.prog.cellsOf 48 = 2 := by kernel_rfl
theorem cellsOf_Crane_sl : Tryd.prog.cellsOf 49 = 1 := by kernel_rfl
set_option maxRecDepth 100000 in
theorem open_Crane {H : Type} {enc : TypeId × Value → H} {W : World} {base : Nat} {spare : Nat → Bool} {held : Bool} (fuel : Nat) (cs : List Value) (y : DataW H × List MemPlace) (hy : DataW.trod enc Tryd.prog W base spare held fuel 51 cs = some y) :
    ∃ r : CraneR, cs = r.cells ∧ r.f.wf ∧ ∃ l, Sl 2 Chs.cells 0 W.heap.size W r.s.v l ∧ ∀ x ∈ l, x.wf := by
  obtain ⟨xs, n, rfl, rfl, hl, hxs, hf⟩ := DataW.trod_struct Tryd.underlying51 hy
  rw [cellsOf_Crane] at hl
  have hxs' : xs.length = 6 := hxs
  obtain ⟨x0, e0, w0⟩ := field_string (m := 0) (i := 0) (by omega) Tryd.underlying9 cellsOf_Crane_str (hf 0 _ rfl) rfl
  obtain ⟨p1, ep1, wp1⟩ := open_Point n _ _ (field_sub (i := 1) (by omega) (hf 1 _ rfl))
  have ep1 : (cs.drop 1).take (Tryd.prog.cellsOf 48) = p1.cells := ep1
  have e1 := (sub_at (o := 1) ep1 (j := 0) (by rw [cellsOf_Crane_pt]; omega))
  have e2 := (sub_at (o := 1) ep1 (j := 1) (by rw [cellsOf_Crane_pt]; omega))
  obtain ⟨x3, e3, w3⟩ := field_int (m := 3) (i := 2) (by omega) Tryd.underlying2 cellsOf_Crane_int (hf 2 _ rfl) rfl
  obtain ⟨x4, e4, w4⟩ := field_int (m := 4) (i := 3) (by omega) Tryd.underlying2 cellsOf_Crane_int (hf 3 _ rfl) rfl
  obtain ⟨x5, e5, w5⟩ := field_int (m := 5) (i := 4) (by omega) Tryd.underlying2 cellsOf_Crane_int (hf 4 _ rfl) rfl
  obtain ⟨s, es, l, hsl, hgood⟩ : ∃ s : SV, cs[6]? = some s.v ∧ ∃ l, Sl 2 Chs.cells 0 W.heap.size W s.v l ∧ ∀ x ∈ l, x.wf := by
    have hy2 := field_sub (i := 5) (by omega) (hf 5 _ rfl)
    obtain ⟨s, hs⟩ : ∃ s : SV, (cs.drop 6).take (Tryd.prog.cellsOf 49) = one s := by
      rcases open_slice Tryd.underlying49 hy2 with ⟨hcs, _⟩ | ⟨a, len, cap, m, _, D, Pl, hcs, _⟩
      · exact ⟨⟨none, 0, 0⟩, hcs⟩
      · exact ⟨⟨some a, len, cap⟩, hcs⟩
    have hy3 : DataW.trod enc Tryd.prog W base spare held n 49 (one s) = _ := hs ▸ hy2
    obtain ⟨l, h1, h2⟩ := open_list (P := Tryd.prog) (v := s.v) (n := 2) (c := Chs.cells) Tryd.underlying49 cellsOf_ChartStep (by omega) open_ChartStep ⟨n, hy3⟩ ⟨s.a, s.len, s.cap, rfl⟩
    exact ⟨s, (sub_at (o := 6) hs (j := 0) (by rw [cellsOf_Crane_sl]; omega)), l, h1, h2⟩
  refine ⟨⟨⟨x0, p1.x, p1.y, x3, x4, x5⟩, s⟩, ?_, ⟨w0, wp1.1, wp1.2, i64_of_wf w3, i64_of_wf w4, i64_of_wf w5⟩, l, hsl, hgood⟩
  refine List.ext_getElem? fun i => ?_
  match i with
  | 0 => exact e0
  | 1 => exact e1
  | 2 => exact e2
  | 3 => exact e3
  | 4 => exact e4
  | 5 => exact e5
  | 6 => exact es
  | i + 7 => rw [List.getElem?_eq_none (by omega), List.getElem?_eq_none (by simp [CraneR.cells])]
set_option maxRecDepth 100000 in
theorem open_ACrane {H : Type} {enc : TypeId × Value → H} {W : World} {base : Nat} {v : Value} {d : DataW H} {p : List MemPlace} (hv : Value.okWide Tryd.prog W .any base 51 v)
    (h : DataW.Trod enc Tryd.prog W 0 (fun _ => true) true 51 v d p) (_hlt : ∀ x ∈ p, x.block < W.heap.size) : ∃ r : CraneR, v = .agg r.cells.toArray ∧ r.f.wf ∧ ∃ l, Sl 2 Chs.cells 0 W.heap.size W r.s.v l ∧ ∀ x ∈ l, x.wf := by
  obtain ⟨cs, rfl, _⟩ := okWide_struct Tryd.underlying51 hv
  obtain ⟨fuel, hf⟩ := h
  obtain ⟨x, hx, hw⟩ := open_Crane fuel _ _ hf
  exact ⟨x, by rw [← hx]; simp [Value.cells], hw⟩
end Go.Proofs.YteeigmgepahdhaaDoor
