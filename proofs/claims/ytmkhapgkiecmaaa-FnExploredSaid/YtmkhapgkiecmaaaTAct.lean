/- Act: its reading, and the laws' helpers. -/
import Derived.Test.YtmkhapgkiecmaaaChecked
import Derived.Test.YtmkhapgkiecmaaaOpen
import Derived.Test.YtmkhapgkiecmaaaMark
namespace Go.Proofs.Ytmkhapgkiecmaaa
open Go.RowKit Go.WideShapes Go.ChangeShapes
structure Act1 where
  turnA : Int
  turnB : Int
  loseA : Bool
  loseB : Bool
deriving DecidableEq

def Act1.cells (x : Act1) : List Value := [.int .i64 x.turnA, .int .i64 x.turnB, .bool x.loseA, .bool x.loseB]
abbrev Act1s := Sl 4 Act1.cells
theorem Act1.len (x : Act1) : x.cells.length = 4 := rfl
theorem Act1s.at {w : World} {b off : Nat} {l : List Act1} (hc : ∀ i (h : i < l.length) j u, (Act1.cells l[i])[j]? = some u → w.cell? ⟨b, off + i * 4 + j, none⟩ = some u) {k : Nat} (hk : k < l.length) :
    w.cell? ⟨b, off + k * 4, none⟩ = some (.int .i64 l[k].turnA) ∧ w.cell? ⟨b, off + k * 4 + 1, none⟩ = some (.int .i64 l[k].turnB) ∧ w.cell? ⟨b, off + k * 4 + 2, none⟩ = some (.bool l[k].loseA) ∧ w.cell? ⟨b, off + k * 4 + 3, none⟩ = some (.bool l[k].loseB) :=
  ⟨hc k hk 0 _ rfl, hc k hk 1 _ rfl, hc k hk 2 _ rfl, hc k hk 3 _ rfl⟩
def Act1.wf (x : Act1) : Prop := I64 x.turnA ∧ I64 x.turnB ∧ True ∧ True
instance : Inhabited Act1 := ⟨⟨0, 0, false, false⟩⟩
end Go.Proofs.Ytmkhapgkiecmaaa
