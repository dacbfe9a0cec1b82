/- Lift: its reading, and the laws' helpers. -/
import Derived.Test.YtimggihbldeleaaChecked
import Derived.Test.YtimggihbldeleaaOpen
import Derived.Test.YtimggihbldeleaaMarkT
import Derived.Test.YtimggihbldeleaaNSO
import Derived.Test.YtimggihbldeleaaPt
import Derived.Test.YtimggihbldeleaaTIntS
import Derived.Handy
namespace Go.Proofs.Ytimggihbldeleaa
open Go.RowKit Go.WideShapes Go.ChangeShapes Go.Deep
structure LiftF where
  name : ByteArray
  weight : Int
  fx : Int
  fy : Int
  tx : Int
  ty : Int
  height : Int
  deadline : Int
deriving DecidableEq
structure LiftR where
  f : LiftF
  s : SV
def LiftR.cells (r : LiftR) : List Value := [.string r.f.name, .int .i64 r.f.weight, .int .i64 r.f.fx, .int .i64 r.f.fy, .int .i64 r.f.tx, .int .i64 r.f.ty, .int .i64 r.f.height, .int .i64 r.f.deadline, r.s.v]
theorem LiftR.len (r : LiftR) : r.cells.length = 9 := rfl
abbrev Lifts (lo hi : Nat) (w : World) (v : Value) (rs : List LiftR) (L : List (LiftF × List Int)) : Prop := NSr 9 LiftR.cells LiftR.f LiftR.s 1 intCells lo hi w v rs L
abbrev LiftW (lo hi : Nat) (w : World) (v : Value) (rs : List LiftR) (L : List (LiftF × List Int)) : Prop := NSw 9 LiftR.cells LiftR.f LiftR.s 1 intCells lo hi w v rs L
theorem Lifts_at {lo hi b off len cap : Nat} {w : World} {rs : List LiftR} {L : List (LiftF × List Int)} (h : Lifts lo hi w (.slice (some ⟨b, off, none⟩) len cap) rs L) {k : Nat} (hk : k < rs.length) :
    w.cell? ⟨b, off + k * 9, none⟩ = some (.string rs[k].f.name) ∧ w.cell? ⟨b, off + k * 9 + 1, none⟩ = some (.int .i64 rs[k].f.weight) ∧ w.cell? ⟨b, off + k * 9 + 2, none⟩ = some (.int .i64 rs[k].f.fx) ∧ w.cell? ⟨b, off + k * 9 + 3, none⟩ = some (.int .i64 rs[k].f.fy) ∧ w.cell? ⟨b, off + k * 9 + 4, none⟩ = some (.int .i64 rs[k].f.tx) ∧ w.cell? ⟨b, off + k * 9 + 5, none⟩ = some (.int .i64 rs[k].f.ty) ∧ w.cell? ⟨b, off + k * 9 + 6, none⟩ = some (.int .i64 rs[k].f.height) ∧ w.cell? ⟨b, off + k * 9 + 7, none⟩ = some (.int .i64 rs[k].f.deadline) ∧ w.cell? ⟨b, off + k * 9 + 8, none⟩ = some (rs[k].s.v) :=
  ⟨h.at hk 0 _ rfl, h.at hk 1 _ rfl, h.at hk 2 _ rfl, h.at hk 3 _ rfl, h.at hk 4 _ rfl, h.at hk 5 _ rfl, h.at hk 6 _ rfl, h.at hk 7 _ rfl, h.at hk 8 _ rfl⟩
def LiftF.wf (x : LiftF) : Prop := x.name.size ≤ maxLen ∧ I64 x.weight ∧ I64 x.fx ∧ I64 x.fy ∧ I64 x.tx ∧ I64 x.ty ∧ I64 x.height ∧ I64 x.deadline
instance : Inhabited LiftF := ⟨⟨ByteArray.empty, 0, 0, 0, 0, 0, 0, 0⟩⟩
instance : Inhabited LiftR := ⟨⟨default, ⟨none, 0, 0⟩⟩⟩
theorem cellsOf_Lift : Try.prog.cellsOf 77 = 9 := by kernel_rfl
theorem cellsOf_Lift_int : Try.prog.cellsOf 2 = 1 := by kernel_rfl
theorem cellsOf_Lift_str : Try.prog.cellsOf 9 = 1 := by kernel_rfl
theorem cellsOf_Lift_pt : Try.prog.cellsOf 75 = 2 := by kernel_rfl
theorem cellsOf_Lift_sl : Try.prog.cellsOf 28 = 1 := by kernel_rfl
set_option maxRecDepth 100000 in
theorem open_Lift {H : Type} {enc : TypeId × Value → H} {W : World} {base : Nat} {spare : Nat → Bool} {held : Bool} (fuel : Nat) (cs : List Value) (y : DataW H × List MemPlace) (hy : DataW.trod enc Try.prog W base spare held fuel 77 cs = some y) :
    ∃ r : LiftR, cs = r.cells ∧ r.f.wf ∧ ∃ l, Sl 1 intCells 0 W.heap.size W r.s.v l ∧ ∀ x ∈ l, I64 x := by
  obtain ⟨xs, n, rfl, rfl, hl, hxs, hf⟩ := DataW.trod_struct Try.underlying77 hy
  rw [cellsOf_Lift] at hl
  have hxs' : xs.length = 7 := hxs
  obtain ⟨x0, e0, w0⟩ := field_string (m := 0) (i := 0) (by omega) Try.underlying9 cellsOf_Lift_str (hf 0 _ rfl) rfl
  obtain ⟨x1, e1, w1⟩ := field_int (m := 1) (i := 1) (by omega) Try.underlying2 cellsOf_Lift_int (hf 1 _ rfl) rfl
  obtain ⟨p2, ep2, wp2⟩ := open_Point n _ _ (field_sub (i := 2) (by omega) (hf 2 _ rfl))
  have ep2 : (cs.drop 2).take (Try.prog.cellsOf 75) = p2.cells := ep2
  have e2 := (sub_at (o := 2) ep2 (j := 0) (by rw [cellsOf_Lift_pt]; omega))
  have e3 := (sub_at (o := 2) ep2 (j := 1) (by rw [cellsOf_Lift_pt]; omega))
  obtain ⟨p3, ep3, wp3⟩ := open_Point n _ _ (field_sub (i := 3) (by omega) (hf 3 _ rfl))
  have ep3 : (cs.drop 4).take (Try.prog.cellsOf 75) = p3.cells := ep3
  have e4 := (sub_at (o := 4) ep3 (j := 0) (by rw [cellsOf_Lift_pt]; omega))
  have e5 := (sub_at (o := 4) ep3 (j := 1) (by rw [cellsOf_Lift_pt]; omega))
  obtain ⟨x6, e6, w6⟩ := field_int (m := 6) (i := 4) (by omega) Try.underlying2 cellsOf_Lift_int (hf 4 _ rfl) rfl
  obtain ⟨x7, e7, w7⟩ := field_int (m := 7) (i := 5) (by omega) Try.underlying2 cellsOf_Lift_int (hf 5 _ rfl) rfl
  obtain ⟨s, es, l, hsl, hgood⟩ : ∃ s : SV, cs[8]? = some s.v ∧ ∃ l, Sl 1 intCells 0 W.heap.size W s.v l ∧ ∀ x ∈ l, I64 x := by
    have hy2 := field_sub (i := 6) (by omega) (hf 6 _ rfl)
    obtain ⟨s, hs⟩ : ∃ s : SV, (cs.drop 8).take (Try.prog.cellsOf 28) = one s := by
      rcases open_slice Try.underlying28 hy2 with ⟨hcs, _⟩ | ⟨a, len, cap, m, _, D, Pl, hcs, _⟩
      · exact ⟨⟨none, 0, 0⟩, hcs⟩
      · exact ⟨⟨some a, len, cap⟩, hcs⟩
    have hy3 : DataW.trod enc Try.prog W base spare held n 28 (one s) = _ := hs ▸ hy2
    obtain ⟨l, h1, h2⟩ := open_list (P := Try.prog) (v := s.v) (n := 1) (c := intCells) Try.underlying28 cellsOf_int64 (by omega) open_int64 ⟨n, hy3⟩ ⟨s.a, s.len, s.cap, rfl⟩
    exact ⟨s, (sub_at (o := 8) hs (j := 0) (by rw [cellsOf_Lift_sl]; omega)), l, h1, h2⟩
  refine ⟨⟨⟨x0, x1, p2.x, p2.y, p3.x, p3.y, x6, x7⟩, s⟩, ?_, ⟨w0, i64_of_wf w1, wp2.1, wp2.2, wp3.1, wp3.2, i64_of_wf w6, i64_of_wf w7⟩, l, hsl, hgood⟩
  refine List.ext_getElem? fun i => ?_
  match i with
  | 0 => exact e0
  | 1 => exact e1
  | 2 => exact e2
  | 3 => exact e3
  | 4 => exact e4
  | 5 => exact e5
  | 6 => exact e6
  | 7 => exact e7
  | 8 => exact es
  | i + 9 => rw [List.getElem?_eq_none (by omega), List.getElem?_eq_none (by simp [LiftR.cells])]
set_option maxRecDepth 100000 in
theorem open_ALift {H : Type} {enc : TypeId × Value → H} {W : World} {base : Nat} {v : Value} {d : DataW H} {p : List MemPlace} (hv : Value.okWide Try.prog W .any base 77 v)
    (h : DataW.Trod enc Try.prog W 0 (fun _ => true) true 77 v d p) (_hlt : ∀ x ∈ p, x.block < W.heap.size) : ∃ r : LiftR, v = .agg r.cells.toArray ∧ r.f.wf ∧ ∃ l, Sl 1 intCells 0 W.heap.size W r.s.v l ∧ ∀ x ∈ l, I64 x := by
  obtain ⟨cs, rfl, _⟩ := okWide_struct Try.underlying77 hv
  obtain ⟨fuel, hf⟩ := h
  obtain ⟨x, hx, hw⟩ := open_Lift fuel _ _ hf
  exact ⟨x, by rw [← hx]; simp [Value.cells], hw⟩
theorem choose_Lift {W : World} : ∀ (rs : List LiftR), (∀ r ∈ rs, r.f.wf ∧ ∃ l, Sl 1 intCells 0 W.heap.size W r.s.v l ∧ ∀ x ∈ l, I64 x) → ∃ L : List (LiftF × List Int), rs.length = L.length ∧ (∀ (i : Nat) (r : LiftR) (x : LiftF × List Int), rs[i]? = some r → L[i]? = some x → r.f = x.1 ∧ Sl 1 intCells 0 W.heap.size W r.s.v x.2) ∧ ∀ x ∈ L, x.1.wf ∧ ∀ y ∈ x.2, I64 y
  | [], _ => ⟨[], rfl, fun i r x h => by simp at h, fun x h => by cases h⟩
  | r :: rs, h => by
    obtain ⟨L, hl, hL, hw⟩ := choose_Lift rs fun s hs => h s (List.mem_cons_of_mem _ hs)
    obtain ⟨hr0, l, hr, hg⟩ := h r List.mem_cons_self
    refine ⟨(r.f, l) :: L, by simp [hl], fun i s x hs hx => ?_, fun x hx => ?_⟩
    · cases i with
      | zero => simp at hs hx; subst hs hx; exact ⟨rfl, hr⟩
      | succ i => exact hL i s x (by simpa using hs) (by simpa using hx)
    · rcases List.mem_cons.1 hx with rfl | hx
      · exact ⟨hr0, hg⟩
      · exact hw x hx
set_option maxRecDepth 100000 in
theorem open_SLift' {H : Type} {enc : TypeId × Value → H} {W : World} {base : Nat} {spare : Nat → Bool} {held : Bool} {v : Value} {d : DataW H} {p : List MemPlace} (h : DataW.Trod enc Try.prog W base spare held 38 v d p) (hv : ∃ a len cap, v = .slice a len cap) :
    ∃ L : List (LiftF × List Int), (∃ rs, Lifts 0 W.heap.size W v rs L) ∧ ∀ x ∈ L, x.1.wf ∧ ∀ y ∈ x.2, I64 y := by
  obtain ⟨rs, hr, hg⟩ := open_list Try.underlying38 cellsOf_Lift (by omega) open_Lift h hv
  obtain ⟨L, hl, hL, hw⟩ := choose_Lift rs hg
  exact ⟨L, ⟨rs, hr, hl, hL⟩, hw⟩
set_option maxRecDepth 100000 in
theorem open_SLift {H : Type} {enc : TypeId × Value → H} {W : World} {base : Nat} {v : Value} {d : DataW H} {p : List MemPlace} (hv : Value.okWide Try.prog W .any base 38 v)
    (h : DataW.Trod enc Try.prog W 0 (fun _ => true) true 38 v d p) (_hlt : ∀ x ∈ p, x.block < W.heap.size) : ∃ L : List (LiftF × List Int), (∃ rs, Lifts 0 W.heap.size W v rs L) ∧ ∀ x ∈ L, x.1.wf ∧ ∀ y ∈ x.2, I64 y :=
  open_SLift' h (okWide_slice Try.underlying38 hv)
end Go.Proofs.Ytimggihbldeleaa
