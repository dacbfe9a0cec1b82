/- ChartStep: its reading, and the laws' helpers. -/
import Derived.Test.YtpabbehpkokhbaaDoorChecked
import Derived.Test.YtpabbehpkokhbaaDoorOpen
import Derived.Test.YtpabbehpkokhbaaDoorMark
namespace Go.Proofs.YtpabbehpkokhbaaDoor
open Go.RowKit Go.WideShapes Go.ChangeShapes
structure Chs where
  radius : Int
  load : Int
deriving DecidableEq

def Chs.cells (x : Chs) : List Value := [.int .i64 x.radius, .int .i64 x.load]
abbrev Chss := Sl 2 Chs.cells
theorem Chs.len (x : Chs) : x.cells.length = 2 := rfl
theorem Chss.at {w : World} {b off : Nat} {l : List Chs} (hc : ∀ i (h : i < l.length) j u, (Chs.cells l[i])[j]? = some u → w.cell? ⟨b, off + i * 2 + j, none⟩ = some u) {k : Nat} (hk : k < l.length) :
    w.cell? ⟨b, off + k * 2, none⟩ = some (.int .i64 l[k].radius) ∧ w.cell? ⟨b, off + k * 2 + 1, none⟩ = some (.int .i64 l[k].load) :=
  ⟨hc k hk 0 _ rfl, hc k hk 1 _ rfl⟩
def Chs.wf (x : Chs) : Prop := I64 x.radius ∧ I64 x.load
instance : Inhabited Chs := ⟨⟨0, 0⟩⟩
end Go.Proofs.YtpabbehpkokhbaaDoor
