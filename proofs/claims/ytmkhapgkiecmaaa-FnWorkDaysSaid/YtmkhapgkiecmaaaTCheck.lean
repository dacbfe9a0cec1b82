/- Check: its reading, and the laws' helpers. -/
import Derived.Test.YtmkhapgkiecmaaaChecked
import Derived.Test.YtmkhapgkiecmaaaOpen
import Derived.Test.YtmkhapgkiecmaaaMarkT
namespace Go.Proofs.Ytmkhapgkiecmaaa
open Go.RowKit Go.WideShapes Go.ChangeShapes
structure Chk where
  crane : Int
  name : ByteArray
  every : Int
  last : Int
deriving DecidableEq

def Chk.cells (x : Chk) : List Value := [.int .i64 x.crane, .string x.name, .int .i64 x.every, .int .i64 x.last]
abbrev Chks := Sl 4 Chk.cells
theorem Chk.len (x : Chk) : x.cells.length = 4 := rfl
theorem Chks.at {w : World} {b off : Nat} {l : List Chk} (hc : ∀ i (h : i < l.length) j u, (Chk.cells l[i])[j]? = some u → w.cell? ⟨b, off + i * 4 + j, none⟩ = some u) {k : Nat} (hk : k < l.length) :
    w.cell? ⟨b, off + k * 4, none⟩ = some (.int .i64 l[k].crane) ∧ w.cell? ⟨b, off + k * 4 + 1, none⟩ = some (.string l[k].name) ∧ w.cell? ⟨b, off + k * 4 + 2, none⟩ = some (.int .i64 l[k].every) ∧ w.cell? ⟨b, off + k * 4 + 3, none⟩ = some (.int .i64 l[k].last) :=
  ⟨hc k hk 0 _ rfl, hc k hk 1 _ rfl, hc k hk 2 _ rfl, hc k hk 3 _ rfl⟩
def Chk.wf (x : Chk) : Prop := I64 x.crane ∧ x.name.size ≤ maxLen ∧ I64 x.every ∧ I64 x.last
instance : Inhabited Chk := ⟨⟨0, ByteArray.empty, 0, 0⟩⟩
end Go.Proofs.Ytmkhapgkiecmaaa
