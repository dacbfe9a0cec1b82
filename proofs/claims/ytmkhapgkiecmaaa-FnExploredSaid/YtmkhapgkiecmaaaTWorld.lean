/- World: its reading, and the laws' helpers. -/
import Derived.Test.YtmkhapgkiecmaaaChecked
import Derived.Test.YtmkhapgkiecmaaaOpen
import Derived.Test.YtmkhapgkiecmaaaMark
namespace Go.Proofs.Ytmkhapgkiecmaaa
open Go.RowKit Go.WideShapes Go.ChangeShapes
structure Wld where
  a : Int
  b : Int
  seenA : Int
  seenB : Int
  ageA : Int
  ageB : Int
deriving DecidableEq

def Wld.cells (x : Wld) : List Value := [.int .i64 x.a, .int .i64 x.b, .int .i64 x.seenA, .int .i64 x.seenB, .int .i64 x.ageA, .int .i64 x.ageB]
abbrev Wlds := Sl 6 Wld.cells
theorem Wld.len (x : Wld) : x.cells.length = 6 := rfl
theorem Wlds.at {w : World} {b off : Nat} {l : List Wld} (hc : ∀ i (h : i < l.length) j u, (Wld.cells l[i])[j]? = some u → w.cell? ⟨b, off + i * 6 + j, none⟩ = some u) {k : Nat} (hk : k < l.length) :
    w.cell? ⟨b, off + k * 6, none⟩ = some (.int .i64 l[k].a) ∧ w.cell? ⟨b, off + k * 6 + 1, none⟩ = some (.int .i64 l[k].b) ∧ w.cell? ⟨b, off + k * 6 + 2, none⟩ = some (.int .i64 l[k].seenA) ∧ w.cell? ⟨b, off + k * 6 + 3, none⟩ = some (.int .i64 l[k].seenB) ∧ w.cell? ⟨b, off + k * 6 + 4, none⟩ = some (.int .i64 l[k].ageA) ∧ w.cell? ⟨b, off + k * 6 + 5, none⟩ = some (.int .i64 l[k].ageB) :=
  ⟨hc k hk 0 _ rfl, hc k hk 1 _ rfl, hc k hk 2 _ rfl, hc k hk 3 _ rfl, hc k hk 4 _ rfl, hc k hk 5 _ rfl⟩
def Wld.wf (x : Wld) : Prop := I64 x.a ∧ I64 x.b ∧ I64 x.seenA ∧ I64 x.seenB ∧ I64 x.ageA ∧ I64 x.ageB
instance : Inhabited Wld := ⟨⟨0, 0, 0, 0, 0, 0⟩⟩
end Go.Proofs.Ytmkhapgkiecmaaa
