/- Watch: its reading, and the laws' helpers. -/
import Derived.Test.YtmkhapgkiecmaaaChecked
import Derived.Test.YtmkhapgkiecmaaaOpen
import Derived.Test.YtmkhapgkiecmaaaMark
namespace Go.Proofs.Ytmkhapgkiecmaaa
open Go.RowKit Go.WideShapes Go.ChangeShapes
structure Wtc where
  margin : Int
  lost : Int
deriving DecidableEq

def Wtc.cells (x : Wtc) : List Value := [.int .i64 x.margin, .int .i64 x.lost]
abbrev Wtcs := Sl 2 Wtc.cells
theorem Wtc.len (x : Wtc) : x.cells.length = 2 := rfl
theorem Wtcs.at {w : World} {b off : Nat} {l : List Wtc} (hc : ∀ i (h : i < l.length) j u, (Wtc.cells l[i])[j]? = some u → w.cell? ⟨b, off + i * 2 + j, none⟩ = some u) {k : Nat} (hk : k < l.length) :
    w.cell? ⟨b, off + k * 2, none⟩ = some (.int .i64 l[k].margin) ∧ w.cell? ⟨b, off + k * 2 + 1, none⟩ = some (.int .i64 l[k].lost) :=
  ⟨hc k hk 0 _ rfl, hc k hk 1 _ rfl⟩
def Wtc.wf (x : Wtc) : Prop := I64 x.margin ∧ I64 x.lost
instance : Inhabited Wtc := ⟨⟨0, 0⟩⟩
end Go.Proofs.Ytmkhapgkiecmaaa
