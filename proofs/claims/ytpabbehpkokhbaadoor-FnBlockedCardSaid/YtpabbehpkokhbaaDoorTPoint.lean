/- Point: its reading, and the laws' helpers. -/
import Derived.Test.YtpabbehpkokhbaaDoorChecked
import Derived.Test.YtpabbehpkokhbaaDoorOpen
import Derived.Test.YtpabbehpkokhbaaDoorMark
namespace Go.Proofs.YtpabbehpkokhbaaDoor
open Go.RowKit Go.WideShapes Go.ChangeShapes
structure Pnt where
  x : Int
  y : Int
deriving DecidableEq

def Pnt.cells (x : Pnt) : List Value := [.int .i64 x.x, .int .i64 x.y]
abbrev Pnts := Sl 2 Pnt.cells
theorem Pnt.len (x : Pnt) : x.cells.length = 2 := rfl
theorem Pnts.at {w : World} {b off : Nat} {l : List Pnt} (hc : ∀ i (h : i < l.length) j u, (Pnt.cells l[i])[j]? = some u → w.cell? ⟨b, off + i * 2 + j, none⟩ = some u) {k : Nat} (hk : k < l.length) :
    w.cell? ⟨b, off + k * 2, none⟩ = some (.int .i64 l[k].x) ∧ w.cell? ⟨b, off + k * 2 + 1, none⟩ = some (.int .i64 l[k].y) :=
  ⟨hc k hk 0 _ rfl, hc k hk 1 _ rfl⟩
def Pnt.wf (x : Pnt) : Prop := I64 x.x ∧ I64 x.y
instance : Inhabited Pnt := ⟨⟨0, 0⟩⟩
end Go.Proofs.YtpabbehpkokhbaaDoor
