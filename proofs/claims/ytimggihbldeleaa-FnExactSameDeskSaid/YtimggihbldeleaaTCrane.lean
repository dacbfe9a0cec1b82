/- Crane: its reading, and the laws' helpers. -/
import Derived.Test.YtimggihbldeleaaChecked
import Derived.Test.YtimggihbldeleaaOpen
import Derived.Test.YtimggihbldeleaaMarkT
import Derived.Test.YtimggihbldeleaaNSO
import Derived.Test.YtimggihbldeleaaPt
import Derived.Test.YtimggihbldeleaaTChartStep
import Derived.Handy
namespace Go.Proofs.Ytimggihbldeleaa
open Go.RowKit Go.WideShapes Go.ChangeShapes Go.Deep
structure CraneF where
  name : ByteArray
  x : Int
  y : Int
  height : Int
  jib : Int
  back : Int
deriving DecidableEq
structure CraneR where
  f : CraneF
  s : SV
def CraneR.cells (r : CraneR) : List Value := [.string r.f.name, .int .i64 r.f.x, .int .i64 r.f.y, .int .i64 r.f.height, .int .i64 r.f.jib, .int .i64 r.f.back, r.s.v]
theorem CraneR.len (r : CraneR) : r.cells.length = 7 := rfl
abbrev Cranes (lo hi : Nat) (w : World) (v : Value) (rs : List CraneR) (L : List (CraneF × List Chs)) : Prop := NSr 7 CraneR.cells CraneR.f CraneR.s 2 Chs.cells lo hi w v rs L
abbrev CraneW (lo hi : Nat) (w : World) (v : Value) (rs : List CraneR) (L : List (CraneF × List Chs)) : Prop := NSw 7 CraneR.cells CraneR.f CraneR.s 2 Chs.cells lo hi w v rs L
theorem Cranes_at {lo hi b off len cap : Nat} {w : World} {rs : List CraneR} {L : List (CraneF × List Chs)} (h : Cranes lo hi w (.slice (some ⟨b, off, none⟩) len cap) rs L) {k : Nat} (hk : k < rs.length) :
    w.cell? ⟨b, off + k * 7, none⟩ = some (.string rs[k].f.name) ∧ w.cell? ⟨b, off + k * 7 + 1, none⟩ = some (.int .i64 rs[k].f.x) ∧ w.cell? ⟨b, off + k * 7 + 2, none⟩ = some (.int .i64 rs[k].f.y) ∧ w.cell? ⟨b, off + k * 7 + 3, none⟩ = some (.int .i64 rs[k].f.height) ∧ w.cell? ⟨b, off + k * 7 + 4, none⟩ = some (.int .i64 rs[k].f.jib) ∧ w.cell? ⟨b, off + k * 7 + 5, none⟩ = some (.int .i64 rs[k].f.back) ∧ w.cell? ⟨b, off + k * 7 + 6, none⟩ = some (rs[k].s.v) :=
  ⟨h.at hk 0 _ rfl, h.at hk 1 _ rfl, h.at hk 2 _ rfl, h.at hk 3 _ rfl, h.at hk 4 _ rfl, h.at hk 5 _ rfl, h.at hk 6 _ rfl⟩
def CraneF.wf (x : CraneF) : Prop := x.name.size ≤ maxLen ∧ I64 x.x ∧ I64 x.y ∧ I64 x.height ∧ I64 x.jib ∧ I64 x.back
instance : Inhabited CraneF := ⟨⟨ByteArray.empty, 0, 0, 0, 0, 0⟩⟩
instance : Inhabited CraneR := ⟨⟨default, ⟨none, 0, 0⟩⟩⟩
theorem cellsOf_Crane : Try.prog.cellsOf 93 = 7 := by kernel_rfl
theorem cellsOf_Crane_int : Try.prog.cellsOf 2 = 1 := by kernel_rfl
theorem cellsOf_Crane_str : Try.prog.cellsOf 9 = 1 := by kernel_rfl
theorem cellsOf_Crane_pt : Try.prog.cellsOf 75 = 2 := by kernel_rfl
theorem cellsOf_Crane_sl : Try.prog.cellsOf 91 = 1 := by kernel_rfl
set_option maxRecDepth 100000 in
theorem open_Crane {H : Type} {enc : TypeId × Value → H} {W : World} {base : Nat} {spare : Nat → Bool} {held : Bool} (fuel : Nat) (cs : List Value) (y : DataW H × List MemPlace) (hy : DataW.trod enc Try.prog W base spare held fuel 93 cs = some y) :
    ∃ r : CraneR, cs = r.cells ∧ r.f.wf ∧ ∃ l, Sl 2 Chs.cells 0 W.heap.size W r.s.v l ∧ ∀ x ∈ l, x.wf := by
  obtain ⟨xs, n, rfl, rfl, hl, hxs, hf⟩ := DataW.trod_struct Try.underlying93 hy
  rw [cellsOf_Crane] at hl
  have hxs' : xs.length = 6 := hxs
  obtain ⟨x0, e0, w0⟩ := field_string (m := 0) (i := 0) (by omega) Try.underlying9 cellsOf_Crane_str (hf 0 _ rfl) rfl
  obtain ⟨p1, ep1, wp1⟩ := open_Point n _ _ (field_sub (i := 1) (by omega) (hf 1 _ rfl))
  have ep1 : (cs.drop 1).take (Try.prog.cellsOf 75) = p1.cells := ep1
  have e1 := (sub_at (o := 1) ep1 (j := 0) (by rw [cellsOf_Crane_pt]; omega))
  have e2 := (sub_at (o := 1) ep1 (j := 1) (by rw [cellsOf_Crane_pt]; omega))
  obtain ⟨x3, e3, w3⟩ := field_int (m := 3) (i := 2) (by omega) Try.underlying2 cellsOf_Crane_int (hf 2 _ rfl) rfl
  obtain ⟨x4, e4, w4⟩ := field_int (m := 4) (i := 3) (by omega) Try.underlying2 cellsOf_Crane_int (hf 3 _ rfl) rfl
  obtain ⟨x5, e5, w5⟩ := field_int (m := 5) (i := 4) (by omega) Try.underlying2 cellsOf_Crane_int (hf 4 _ rfl) rfl
  obtain ⟨s, es, l, hsl, hgood⟩ : ∃ s : SV, cs[6]? = some s.v ∧ ∃ l, Sl 2 Chs.cells 0 W.heap.size W s.v l ∧ ∀ x ∈ l, x.wf := by
    have hy2 := field_sub (i := 5) (by omega) (hf 5 _ rfl)
    obtain ⟨s, hs⟩ : ∃ s : SV, (cs.drop 6).take (Try.prog.cellsOf 91) = one s := by
      rcases open_slice Try.underlying91 hy2 with ⟨hcs, _⟩ | ⟨a, len, cap, m, _, D, Pl, hcs, _⟩
      · exact ⟨⟨none, 0, 0⟩, hcs⟩
      · exact ⟨⟨some a, len, cap⟩, hcs⟩
    have hy3 : DataW.trod enc Try.prog W base spare held n 91 (one s) = _ := hs ▸ hy2
    obtain ⟨l, h1, h2⟩ := open_list (P := Try.prog) (v := s.v) (n := 2) (c := Chs.cells) Try.underlying91 cellsOf_ChartStep (by omega) open_ChartStep ⟨n, hy3⟩ ⟨s.a, s.len, s.cap, rfl⟩
    exact ⟨s, (sub_at (o := 6) hs (j := 0) (by rw [cellsOf_Crane_sl]; omega)), l, h1, h2⟩
  refine ⟨⟨⟨x0, p1.x, p1.y, x3, x4, x5⟩, s⟩, ?_, ⟨w0, wp1.1, wp1.2, i64_of_wf w3, i64_of_wf w4, i64_of_wf w5⟩, l, hsl, hgood⟩
  refine List.ext_getElem? fun i => ?_
  match i with
  | 0 => exact e0
  | 1 => exact e1
  | 2 => exact e2
  | 3 => exact e3
  | 4 => exact e4
  | 5 => exact e5
  | 6 => exact es
  | i + 7 => rw [List.getElem?_eq_none (by omega), List.getElem?_eq_none (by simp [CraneR.cells])]
set_option maxRecDepth 100000 in
theorem open_ACrane {H : Type} {enc : TypeId × Value → H} {W : World} {base : Nat} {v : Value} {d : DataW H} {p : List MemPlace} (hv : Value.okWide Try.prog W .any base 93 v)
    (h : DataW.Trod enc Try.prog W 0 (fun _ => true) true 93 v d p) (_hlt : ∀ x ∈ p, x.block < W.heap.size) : ∃ r : CraneR, v = .agg r.cells.toArray ∧ r.f.wf ∧ ∃ l, Sl 2 Chs.cells 0 W.heap.size W r.s.v l ∧ ∀ x ∈ l, x.wf := by
  obtain ⟨cs, rfl, _⟩ := okWide_struct Try.underlying93 hv
  obtain ⟨fuel, hf⟩ := h
  obtain ⟨x, hx, hw⟩ := open_Crane fuel _ _ hf
  exact ⟨x, by rw [← hx]; simp [Value.cells], hw⟩
theorem choose_Crane {W : World} : ∀ (rs : List CraneR), (∀ r ∈ rs, r.f.wf ∧ ∃ l, Sl 2 Chs.cells 0 W.heap.size W r.s.v l ∧ ∀ x ∈ l, x.wf) → ∃ L : List (CraneF × List Chs), rs.length = L.length ∧ (∀ (i : Nat) (r : CraneR) (x : CraneF × List Chs), rs[i]? = some r → L[i]? = some x → r.f = x.1 ∧ Sl 2 Chs.cells 0 W.heap.size W r.s.v x.2) ∧ ∀ x ∈ L, x.1.wf ∧ ∀ y ∈ x.2, y.wf
  | [], _ => ⟨[], rfl, fun i r x h => by simp at h, fun x h => by cases h⟩
  | r :: rs, h => by
    obtain ⟨L, hl, hL, hw⟩ := choose_Crane rs fun s hs => h s (List.mem_cons_of_mem _ hs)
    obtain ⟨hr0, l, hr, hg⟩ := h r List.mem_cons_self
    refine ⟨(r.f, l) :: L, by simp [hl], fun i s x hs hx => ?_, fun x hx => ?_⟩
    · cases i with
      | zero => simp at hs hx; subst hs hx; exact ⟨rfl, hr⟩
      | succ i => exact hL i s x (by simpa using hs) (by simpa using hx)
    · rcases List.mem_cons.1 hx with rfl | hx
      · exact ⟨hr0, hg⟩
      · exact hw x hx
set_option maxRecDepth 100000 in
theorem open_SCrane' {H : Type} {enc : TypeId × Value → H} {W : World} {base : Nat} {spare : Nat → Bool} {held : Bool} {v : Value} {d : DataW H} {p : List MemPlace} (h : DataW.Trod enc Try.prog W base spare held 35 v d p) (hv : ∃ a len cap, v = .slice a len cap) :
    ∃ L : List (CraneF × List Chs), (∃ rs, Cranes 0 W.heap.size W v rs L) ∧ ∀ x ∈ L, x.1.wf ∧ ∀ y ∈ x.2, y.wf := by
  obtain ⟨rs, hr, hg⟩ := open_list Try.underlying35 cellsOf_Crane (by omega) open_Crane h hv
  obtain ⟨L, hl, hL, hw⟩ := choose_Crane rs hg
  exact ⟨L, ⟨rs, hr, hl, hL⟩, hw⟩
set_option maxRecDepth 100000 in
theorem open_SCrane {H : Type} {enc : TypeId × Value → H} {W : World} {base : Nat} {v : Value} {d : DataW H} {p : List MemPlace} (hv : Value.okWide Try.prog W .any base 35 v)
    (h : DataW.Trod enc Try.prog W 0 (fun _ => true) true 35 v d p) (_hlt : ∀ x ∈ p, x.block < W.heap.size) : ∃ L : List (CraneF × List Chs), (∃ rs, Cranes 0 W.heap.size W v rs L) ∧ ∀ x ∈ L, x.1.wf ∧ ∀ y ∈ x.2, y.wf :=
  open_SCrane' h (okWide_slice Try.underlying35 hv)
end Go.Proofs.Ytimggihbldeleaa
