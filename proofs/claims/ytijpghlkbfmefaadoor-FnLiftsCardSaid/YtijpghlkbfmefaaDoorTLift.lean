/- Lift: its reading, and the laws' helpers. -/
import Derived.Test.YtijpghlkbfmefaaDoorChecked
import Derived.Test.YtijpghlkbfmefaaDoorOpen
import Derived.Test.YtijpghlkbfmefaaDoorMarkT
import Derived.Test.YtijpghlkbfmefaaDoorNSO
import Derived.Test.YtijpghlkbfmefaaDoorTIntS
import Derived.Handy
namespace Go.Proofs.YtijpghlkbfmefaaDoor
open Go.RowKit Go.WideShapes Go.ChangeShapes Go.Deep
structure LiftF where
  name : ByteArray
  weight : Int
  fx : Int
  fy : Int
  tx : Int
  ty : Int
  height : Int
  deadline : Int
deriving DecidableEq
structure LiftR where
  f : LiftF
  s : SV
def LiftR.cells (r : LiftR) : List Value := [.string r.f.name, .int .i64 r.f.weight, .int .i64 r.f.fx, .int .i64 r.f.fy, .int .i64 r.f.tx, .int .i64 r.f.ty, .int .i64 r.f.height, .int .i64 r.f.deadline, r.s.v]
theorem LiftR.len (r : LiftR) : r.cells.length = 9 := rfl
abbrev Lifts (lo hi : Nat) (w : World) (v : Value) (rs : List LiftR) (L : List (LiftF × List Int)) : Prop := NSr 9 LiftR.cells LiftR.f LiftR.s 1 intCells lo hi w v rs L
abbrev LiftW (lo hi : Nat) (w : World) (v : Value) (rs : List LiftR) (L : List (LiftF × List Int)) : Prop := NSw 9 LiftR.cells LiftR.f LiftR.s 1 intCells lo hi w v rs L
theorem Lifts_at {lo hi b off len cap : Nat} {w : World} {rs : List LiftR} {L : List (LiftF × List Int)} (h : Lifts lo hi w (.slice (some ⟨b, off, none⟩) len cap) rs L) {k : Nat} (hk : k < rs.length) :
    w.cell? ⟨b, off + k * 9, none⟩ = some (.string rs[k].f.name) ∧ w.cell? ⟨b, off + k * 9 + 1, none⟩ = some (.int .i64 rs[k].f.weight) ∧ w.cell? ⟨b, off + k * 9 + 2, none⟩ = some (.int .i64 rs[k].f.fx) ∧ w.cell? ⟨b, off + k * 9 + 3, none⟩ = some (.int .i64 rs[k].f.fy) ∧ w.cell? ⟨b, off + k * 9 + 4, none⟩ = some (.int .i64 rs[k].f.tx) ∧ w.cell? ⟨b, off + k * 9 + 5, none⟩ = some (.int .i64 rs[k].f.ty) ∧ w.cell? ⟨b, off + k * 9 + 6, none⟩ = some (.int .i64 rs[k].f.height) ∧ w.cell? ⟨b, off + k * 9 + 7, none⟩ = some (.int .i64 rs[k].f.deadline) ∧ w.cell? ⟨b, off + k * 9 + 8, none⟩ = some (rs[k].s.v) :=
  ⟨h.at hk 0 _ rfl, h.at hk 1 _ rfl, h.at hk 2 _ rfl, h.at hk 3 _ rfl, h.at hk 4 _ rfl, h.at hk 5 _ rfl, h.at hk 6 _ rfl, h.at hk 7 _ rfl, h.at hk 8 _ rfl⟩
def LiftF.wf (x : LiftF) : Prop := x.name.size ≤ maxLen ∧ I64 x.weight ∧ I64 x.fx ∧ I64 x.fy ∧ I64 x.tx ∧ I64 x.ty ∧ I64 x.height ∧ I64 x.deadline
instance : Inhabited LiftF := ⟨⟨ByteArray.empty, 0, 0, 0, 0, 0, 0, 0⟩⟩
instance : Inhabited LiftR := ⟨⟨default, ⟨none, 0, 0⟩⟩⟩
end Go.Proofs.YtijpghlkbfmefaaDoor
