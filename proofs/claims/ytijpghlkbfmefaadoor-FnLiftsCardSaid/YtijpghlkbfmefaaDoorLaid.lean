/- What the laid variables hold, out of the row's condition. -/
import Derived.Test.YtijpghlkbfmefaaDoorDecI
namespace Go.Proofs.YtijpghlkbfmefaaDoor
open Go.RowKit
theorem laidVars_at {P : Program} {w : World} : ∀ {l : List (String × DataW Unit)} {ps : List MemPlace}, DataW.LaidVars P w l ps → ∀ {n : String} {d : DataW Unit}, (n, d) ∈ l →
    ∃ g t cs fuel p, P.globalNamed n = some g ∧ (P.globals[g]?).map (·.type) = some t ∧ w.var? P n = some cs ∧ DataW.trod (fun _ => ()) P w 0 (fun _ => true) false fuel t cs.toList = some (d, p)
  | [], _, _, _, _, h => by cases h
  | (n, d) :: r, ps, h, n', d', hm => by
    obtain ⟨g, t, cs, fuel, p, q, h1, h2, h3, h4, h5, _⟩ := h
    rcases List.mem_cons.1 hm with e | hm
    · cases e
      exact ⟨g, t, cs, fuel, p, h1, h2, h3, h4⟩
    · exact laidVars_at h5 hm
theorem gT10 : (Tryd.prog.globals[0]?).map (·.type) = some 117 := by kernel_rfl
theorem cellsOf_u64 : Tryd.prog.cellsOf 73 = 1 := by kernel_rfl
theorem cellsOf_20u64 : Tryd.prog.cellsOf 117 = 20 := by kernel_rfl
theorem p10_of_laid {W : World} {l : List (String × DataW Unit)} (h : laidMet Tryd.prog l W) (hm : ("internal/strconv.uint64pow10", (Lib.tabData .u64 Lib.pow10Tab : DataW Unit)) ∈ l) : P10 W := by
  obtain ⟨ps, hl, _⟩ := h
  obtain ⟨g', t', cs, fuel, p, hg', ht', hvar, hd⟩ := laidVars_at hl hm
  obtain rfl := Option.some.inj (g10.symm.trans hg')
  obtain rfl := Option.some.inj (gT10.symm.trans ht')
  unfold P10 Lib.TabIs
  rw [hvar, ← Lib.cells_of_tab Tryd.underlying117 Tryd.underlying73 cellsOf_u64 cellsOf_20u64 hd]
end Go.Proofs.YtijpghlkbfmefaaDoor
