/- Lift: its reading, and the laws' helpers. -/
import Derived.Test.YtdadadiipmenbaaDoorChecked
import Derived.Test.YtdadadiipmenbaaDoorOpen
import Derived.Test.YtdadadiipmenbaaDoorMarkT
import Derived.Test.YtdadadiipmenbaaDoorNSO
import Derived.Test.YtdadadiipmenbaaDoorPt
import Derived.Test.YtdadadiipmenbaaDoorTIntS
import Derived.Handy
namespace Go.Proofs.YtdadadiipmenbaaDoor
open Go.RowKit Go.WideShapes Go.ChangeShapes Go.Deep
structure LiftF where
  name : ByteArray
  weight : Int
  fx : Int
  fy : Int
  tx : Int
  ty : Int
  height : Int
  deadline : Int
deriving DecidableEq
structure LiftR where
  f : LiftF
  s : SV
def LiftR.cells (r : LiftR) : List Value := [.string r.f.name, .int .i64 r.f.weight, .int .i64 r.f.fx, .int .i64 r.f.fy, .int .i64 r.f.tx, .int .i64 r.f.ty, .int .i64 r.f.height, .int .i64 r.f.deadline, r.s.v]
theorem LiftR.len (r : LiftR) : r.cells.length = 9 := rfl
abbrev Lifts (lo hi : Nat) (w : World) (v : Value) (rs : List LiftR) (L : List (LiftF × List Int)) : Prop := NSr 9 LiftR.cells LiftR.f LiftR.s 1 intCells lo hi w v rs L
abbrev LiftW (lo hi : Nat) (w : World) (v : Value) (rs : List LiftR) (L : List (LiftF × List Int)) : Prop := NSw 9 LiftR.cells LiftR.f LiftR.s 1 intCells lo hi w v rs L
theorem Lifts_at {lo hi b off len cap : Nat} {w : World} {rs : List LiftR} {L : List (LiftF × List Int)} (h : Lifts lo hi w (.slice (some ⟨b, off, none⟩) len cap) rs L) {k : Nat} (hk : k < rs.length) :
    w.cell? ⟨b, off + k * 9, none⟩ = some (.string rs[k].f.name) ∧ w.cell? ⟨b, off + k * 9 + 1, none⟩ = some (.int .i64 rs[k].f.weight) ∧ w.cell? ⟨b, off + k * 9 + 2, none⟩ = some (.int .i64 rs[k].f.fx) ∧ w.cell? ⟨b, off + k * 9 + 3, none⟩ = some (.int .i64 rs[k].f.fy) ∧ w.cell? ⟨b, off + k * 9 + 4, none⟩ = some (.int .i64 rs[k].f.tx) ∧ w.cell? ⟨b, off + k * 9 + 5, none⟩ = some (.int .i64 rs[k].f.ty) ∧ w.cell? ⟨b, off + k * 9 + 6, none⟩ = some (.int .i64 rs[k].f.height) ∧ w.cell? ⟨b, off + k * 9 + 7, none⟩ = some (.int .i64 rs[k].f.deadline) ∧ w.cell? ⟨b, off + k * 9 + 8, none⟩ = some (rs[k].s.v) :=
  ⟨h.at hk 0 _ rfl, h.at hk 1 _ rfl, h.at hk 2 _ rfl, h.at hk 3 _ rfl, h.at hk 4 _ rfl, h.at hk 5 _ rfl, h.at hk 6 _ rfl, h.at hk 7 _ rfl, h.at hk 8 _ rfl⟩
def LiftF.wf (x : LiftF) : Prop := x.name.size ≤ maxLen ∧ I64 x.weight ∧ I64 x.fx ∧ I64 x.fy ∧ I64 x.tx ∧ I64 x.ty ∧ I64 x.height ∧ I64 x.deadline
instance : Inhabited LiftF := ⟨⟨ByteArray.empty, 0, 0, 0, 0, 0, 0, 0⟩⟩
instance : Inhabited LiftR := ⟨⟨default, ⟨none, 0, 0⟩⟩⟩
theorem cellsOf_Lift : Tryd.prog.cellsOf 31 = 9 := by kernel_rfl
theorem cellsOf_Lift_int : Tryd.prog.cellsOf 2 = 1 := by kernel_rfl
theorem cellsOf_Lift_str : Tryd.prog.cellsOf 9 = 1 := by kernel_rfl
theorem cellsOf_Lift_pt : Tryd.prog.cellsOf 23 = 2 := by kernel_rfl
theorem cellsOf_Lift_sl : Tryd.prog.cellsOf 29 = 1 := by kernel_rfl
set_option maxRecDepth 100000 in
theorem open_Lift {H : Type} {enc : TypeId × Value → H} {W : World} {base : Nat} {spare : Nat → Bool} {held : Bool} (fuel : Nat) (cs : List Value) (y : DataW H × List MemPlace) (hy : DataW.trod enc Tryd.prog W base spare held fuel 31 cs = some y) :
    ∃ r : LiftR, cs = r.cells ∧ r.f.wf ∧ ∃ l, Sl 1 intCells 0 W.heap.size W r.s.v l ∧ ∀ x ∈ l, I64 x := by
  obtain ⟨xs, n, rfl, rfl, hl, hxs, hf⟩ := DataW.trod_struct Tryd.underlying31 hy
  rw [cellsOf_Lift] at hl
  have hxs' : xs.length = 7 := hxs
  obtain ⟨x0, e0, w0⟩ := field_string (m := 0) (i := 0) (by omega) Tryd.underlying9 cellsOf_Lift_str (hf 0 _ rfl) rfl
  obtain ⟨x1, e1, w1⟩ := field_int (m := 1) (i := 1) (by omega) Tryd.underlying2 cellsOf_Lift_int (hf 1 _ rfl) rfl
  obtain ⟨p2, ep2, wp2⟩ := open_Point n _ _ (field_sub (i := 2) (by omega) (hf 2 _ rfl))
  have ep2 : (cs.drop 2).take (Tryd.prog.cellsOf 23) = p2.cells := ep2
  have e2 := (sub_at (o := 2) ep2 (j := 0) (by rw [cellsOf_Lift_pt]; omega))
  have e3 := (sub_at (o := 2) ep2 (j := 1) (by rw [cellsOf_Lift_pt]; omega))
  obtain ⟨p3, ep3, wp3⟩ := open_Point n _ _ (field_sub (i := 3) (by omega) (hf 3 _ rfl))
  have ep3 : (cs.drop 4).take (Tryd.prog.cellsOf 23) = p3.cells := ep3
  have e4 := (sub_at (o := 4) ep3 (j := 0) (by rw [cellsOf_Lift_pt]; omega))
  have e5 := (sub_at (o := 4) ep3 (j := 1) (by rw [cellsOf_Lift_pt]; omega))
  obtain ⟨x6, e6, w6⟩ := field_int (m := 6) (i := 4) (by omega) Tryd.underlying2 cellsOf_Lift_int (hf 4 _ rfl) rfl
  obtain ⟨x7, e7, w7⟩ := field_int (m := 7) (i := 5) (by omega) Tryd.underlying2 cellsOf_Lift_int (hf 5 _ rfl) rfl
  obtain ⟨s, es, l, hsl, hgood⟩ : ∃ s : SV, cs[8]? = some s.v ∧ ∃ l, Sl 1 intCells 0 W.heap.size W s.v l ∧ ∀ x ∈ l, I64 x := by
    have hy2 := field_sub (i := 6) (by omega) (hf 6 _ rfl)
    obtain ⟨s, hs⟩ : ∃ s : SV, (cs.drop 8).take (Tryd.prog.cellsOf 29) = one s := by
      rcases open_slice Tryd.underlying29 hy2 with ⟨hcs, _⟩ | ⟨a, len, cap, m, _, D, Pl, hcs, _⟩
      · exact ⟨⟨none, 0, 0⟩, hcs⟩
      · exact ⟨⟨some a, len, cap⟩, hcs⟩
    have hy3 : DataW.trod enc Tryd.prog W base spare held n 29 (one s) = _ := hs ▸ hy2
    obtain ⟨l, h1, h2⟩ := open_list (P := Tryd.prog) (v := s.v) (n := 1) (c := intCells) Tryd.underlying29 cellsOf_int64 (by omega) open_int64 ⟨n, hy3⟩ ⟨s.a, s.len, s.cap, rfl⟩
    exact ⟨s, (sub_at (o := 8) hs (j := 0) (by rw [cellsOf_Lift_sl]; omega)), l, h1, h2⟩
  refine ⟨⟨⟨x0, x1, p2.x, p2.y, p3.x, p3.y, x6, x7⟩, s⟩, ?_, ⟨w0, i64_of_wf w1, wp2.1, wp2.2, wp3.1, wp3.2, i64_of_wf w6, i64_of_wf w7⟩, l, hsl, hgood⟩
  refine List.ext_getElem? fun i => ?_
  match i with
  | 0 => exact e0
  | 1 => exact e1
  | 2 => exact e2
  | 3 => exact e3
  | 4 => exact e4
  | 5 => exact e5
  | 6 => exact e6
  | 7 => exact e7
  | 8 => exact es
  | i + 9 => rw [List.getElem?_eq_none (by omega), List.getElem?_eq_none (by simp [LiftR.cells])]
set_option maxRecDepth 100000 in
theorem open_ALift {H : Type} {enc : TypeId × Value → H} {W : World} {base : Nat} {v : Value} {d : DataW H} {p : List MemPlace} (hv : Value.okWide Tryd.prog W .any base 31 v)
    (h : DataW.Trod enc Tryd.prog W 0 (fun _ => true) true 31 v d p) (_hlt : ∀ x ∈ p, x.block < W.heap.size) : ∃ r : LiftR, v = .agg r.cells.toArray ∧ r.f.wf ∧ ∃ l, Sl 1 intCells 0 W.heap.size W r.s.v l ∧ ∀ x ∈ l, I64 x := by
  obtain ⟨cs, rfl, _⟩ := okWide_struct Tryd.underlying31 hv
  obtain ⟨fuel, hf⟩ := h
  obtain ⟨x, hx, hw⟩ := open_Lift fuel _ _ hf
  exact ⟨x, by rw [← hx]; simp [Value.cells], hw⟩
end Go.Proofs.YtdadadiipmenbaaDoor
