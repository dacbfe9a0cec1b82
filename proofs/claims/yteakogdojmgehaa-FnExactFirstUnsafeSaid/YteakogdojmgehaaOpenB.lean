/- [][]bool opened. -/
import Derived.Test.YteakogdojmgehaaTBool
import Derived.Test.YteakogdojmgehaaOpen
import Derived.WideShapes
namespace Go.Proofs.Yteakogdojmgehaa
open Go.RowKit Go.Deep Go.WideShapes

theorem cells_bool : Try.prog.cellsOf 4 = 1 := by kernel_rfl
theorem cells_Sbool : Try.prog.cellsOf 78 = 1 := by kernel_rfl
instance : Inhabited SV := ⟨⟨none, 0, 0⟩⟩
theorem open_bool1 {H : Type} {enc : TypeId × Value → H} {W : World} {base : Nat} {spare : Nat → Bool} {held : Bool} (fuel : Nat) (cs : List Value) (y : DataW H × List MemPlace) (hy : DataW.trod enc Try.prog W base spare held fuel 4 cs = some y) :
    ∃ x : Bool, cs = boolCells x ∧ True := by
  obtain ⟨x, h1, _⟩ := DataW.trod_bool Try.underlying4 hy
  exact ⟨x, h1, trivial⟩
set_option maxRecDepth 100000 in
theorem open_Sbool1 {H : Type} {enc : TypeId × Value → H} {W : World} {base : Nat} {spare : Nat → Bool} {held : Bool} (fuel : Nat) (cs : List Value) (y : DataW H × List MemPlace) (hy : DataW.trod enc Try.prog W base spare held fuel 78 cs = some y) :
    ∃ r : SV, cs = one r ∧ ∃ l, Sl 1 boolCells 0 W.heap.size W r.v l := by
  obtain ⟨r, rfl⟩ : ∃ r : SV, cs = one r := by
    rcases open_slice Try.underlying78 hy with ⟨hcs, _⟩ | ⟨a, len, cap, m, _, D, Pl, hcs, _⟩
    · exact ⟨⟨none, 0, 0⟩, hcs⟩
    · exact ⟨⟨some a, len, cap⟩, hcs⟩
  obtain ⟨l, hl, _⟩ := open_list (P := Try.prog) (v := r.v) Try.underlying78 cells_bool (by omega) open_bool1 ⟨fuel, hy⟩ ⟨r.a, r.len, r.cap, rfl⟩
  exact ⟨r, rfl, l, hl⟩
theorem choose_rows {lo hi : Nat} {w : World} : ∀ (rows : List SV), (∀ r ∈ rows, ∃ l, Sl 1 boolCells lo hi w r.v l) → ∃ L : List (List Bool), rows.length = L.length ∧ ∀ (i : Nat) (r : SV) (x : List Bool), rows[i]? = some r → L[i]? = some x → Sl 1 boolCells lo hi w r.v x
  | [], _ => ⟨[], rfl, fun i r x h => by simp at h⟩
  | r :: rs, h => by
    obtain ⟨L, hl, hL⟩ := choose_rows rs fun s hs => h s (List.mem_cons_of_mem _ hs)
    obtain ⟨l, hr⟩ := h r List.mem_cons_self
    refine ⟨l :: L, by simp [hl], fun i s x hs hx => ?_⟩
    cases i with
    | zero => simp at hs hx; subst hs hx; exact hr
    | succ i => exact hL i s x (by simpa using hs) (by simpa using hx)
set_option maxRecDepth 100000 in
theorem open_SSbool {H : Type} {enc : TypeId × Value → H} {W : World} {base : Nat} {v : Value} {d : DataW H} {p : List MemPlace} (hv : Value.okWide Try.prog W .any base 44 v)
    (h : DataW.Trod enc Try.prog W 0 (fun _ => true) true 44 v d p) (_hlt : ∀ x ∈ p, x.block < W.heap.size) : ∃ L : List (List Bool), ∃ rows, SSr 1 boolCells 0 W.heap.size W v rows L := by
  obtain ⟨rows, hr, hg⟩ := open_list Try.underlying44 cells_Sbool (by omega) open_Sbool1 h (okWide_slice Try.underlying44 hv)
  obtain ⟨L, hl, hL⟩ := choose_rows rows hg
  exact ⟨L, rows, hr, hl, hL⟩
end Go.Proofs.Yteakogdojmgehaa
