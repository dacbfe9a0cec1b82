/- Finding: its reading, and the laws' helpers. -/
import Derived.Test.YtmkhapgkiecmaaaChecked
import Derived.Test.YtmkhapgkiecmaaaOpen
import Derived.Test.YtmkhapgkiecmaaaMarkT
namespace Go.Proofs.Ytmkhapgkiecmaaa
open Go.RowKit Go.WideShapes Go.ChangeShapes
structure Fnd where
  crane : Int
  day : Int
  grade : Int
  closed : Int
deriving DecidableEq

def Fnd.cells (x : Fnd) : List Value := [.int .i64 x.crane, .int .i64 x.day, .int .i64 x.grade, .int .i64 x.closed]
abbrev Fnds := Sl 4 Fnd.cells
theorem Fnd.len (x : Fnd) : x.cells.length = 4 := rfl
theorem Fnds.at {w : World} {b off : Nat} {l : List Fnd} (hc : ∀ i (h : i < l.length) j u, (Fnd.cells l[i])[j]? = some u → w.cell? ⟨b, off + i * 4 + j, none⟩ = some u) {k : Nat} (hk : k < l.length) :
    w.cell? ⟨b, off + k * 4, none⟩ = some (.int .i64 l[k].crane) ∧ w.cell? ⟨b, off + k * 4 + 1, none⟩ = some (.int .i64 l[k].day) ∧ w.cell? ⟨b, off + k * 4 + 2, none⟩ = some (.int .i64 l[k].grade) ∧ w.cell? ⟨b, off + k * 4 + 3, none⟩ = some (.int .i64 l[k].closed) :=
  ⟨hc k hk 0 _ rfl, hc k hk 1 _ rfl, hc k hk 2 _ rfl, hc k hk 3 _ rfl⟩
def Fnd.wf (x : Fnd) : Prop := I64 x.crane ∧ I64 x.day ∧ I64 x.grade ∧ I64 x.closed
instance : Inhabited Fnd := ⟨⟨0, 0, 0, 0⟩⟩
end Go.Proofs.Ytmkhapgkiecmaaa
