/- []bool and [][]bool: the laws' helpers. -/
import Derived.Test.YtmkhapgkiecmaaaChecked
import Derived.Test.YtmkhapgkiecmaaaSS
import Derived.Test.YtmkhapgkiecmaaaLawS
import Derived.Test.YtmkhapgkiecmaaaMark
namespace Go.Proofs.Ytmkhapgkiecmaaa
open Go.RowKit

def boolCells (x : Bool) : List Value := [.bool x]
theorem boolCells_len (x : Bool) : (boolCells x).length = 1 := rfl
theorem boolCells_one (x : Bool) : ∀ u ∈ boolCells x, u.oneCell' = true := by intro u hu; simp [boolCells] at hu; subst hu; rfl
abbrev Bools (lo hi : Nat) (w : World) (v : Value) (l : List Bool) : Prop := Sl 1 boolCells lo hi w v l
theorem Bools.at {w : World} {b off : Nat} {l : List Bool} (hc : ∀ i (h : i < l.length) j u, (boolCells l[i])[j]? = some u → w.cell? ⟨b, off + i * 1 + j, none⟩ = some u) {k : Nat} (hk : k < l.length) : w.cell? ⟨b, off + k, none⟩ = some (.bool l[k]) := by
  simpa using hc k hk 0 (.bool l[k]) rfl

theorem SSr.at {α : Type} {n : Nat} {c : α → List Value} {lo hi b off len cap : Nat} {w : World} {rows : List SV} {L : List (List α)} (h : SSr n c lo hi w (.slice (some ⟨b, off, none⟩) len cap) rows L) {k : Nat} (hk : k < rows.length) : w.cell? ⟨b, off + k, none⟩ = some rows[k].v := by
  simpa using h.out.get k hk 0 rows[k].v rfl



end Go.Proofs.Ytmkhapgkiecmaaa
