/- Crane: its reading, and the laws' helpers. -/
import Derived.Test.YtpabbehpkokhbaaDoorChecked
import Derived.Test.YtpabbehpkokhbaaDoorOpen
import Derived.Test.YtpabbehpkokhbaaDoorMarkT
import Derived.Test.YtpabbehpkokhbaaDoorNSO
import Derived.Test.YtpabbehpkokhbaaDoorPlP
import Derived.Test.YtpabbehpkokhbaaDoorTChartStep
import Derived.Handy
namespace Go.Proofs.YtpabbehpkokhbaaDoor
open Go.RowKit Go.WideShapes Go.ChangeShapes Go.Deep
structure CraneR where
  f : CraneF
  s : SV
def CraneR.cells (r : CraneR) : List Value := [.string r.f.name, .int .i64 r.f.x, .int .i64 r.f.y, .int .i64 r.f.height, .int .i64 r.f.jib, .int .i64 r.f.back, r.s.v]
theorem CraneR.len (r : CraneR) : r.cells.length = 7 := rfl
abbrev Cranes (lo hi : Nat) (w : World) (v : Value) (rs : List CraneR) (L : List (CraneF × List Chs)) : Prop := NSr 7 CraneR.cells CraneR.f CraneR.s 2 Chs.cells lo hi w v rs L
abbrev CraneW (lo hi : Nat) (w : World) (v : Value) (rs : List CraneR) (L : List (CraneF × List Chs)) : Prop := NSw 7 CraneR.cells CraneR.f CraneR.s 2 Chs.cells lo hi w v rs L
theorem Cranes_at {lo hi b off len cap : Nat} {w : World} {rs : List CraneR} {L : List (CraneF × List Chs)} (h : Cranes lo hi w (.slice (some ⟨b, off, none⟩) len cap) rs L) {k : Nat} (hk : k < rs.length) :
    w.cell? ⟨b, off + k * 7, none⟩ = some (.string rs[k].f.name) ∧ w.cell? ⟨b, off + k * 7 + 1, none⟩ = some (.int .i64 rs[k].f.x) ∧ w.cell? ⟨b, off + k * 7 + 2, none⟩ = some (.int .i64 rs[k].f.y) ∧ w.cell? ⟨b, off + k * 7 + 3, none⟩ = some (.int .i64 rs[k].f.height) ∧ w.cell? ⟨b, off + k * 7 + 4, none⟩ = some (.int .i64 rs[k].f.jib) ∧ w.cell? ⟨b, off + k * 7 + 5, none⟩ = some (.int .i64 rs[k].f.back) ∧ w.cell? ⟨b, off + k * 7 + 6, none⟩ = some (rs[k].s.v) :=
  ⟨h.at hk 0 _ rfl, h.at hk 1 _ rfl, h.at hk 2 _ rfl, h.at hk 3 _ rfl, h.at hk 4 _ rfl, h.at hk 5 _ rfl, h.at hk 6 _ rfl⟩
def CraneF.wf (x : CraneF) : Prop := x.name.size ≤ maxLen ∧ I64 x.x ∧ I64 x.y ∧ I64 x.height ∧ I64 x.jib ∧ I64 x.back
instance : Inhabited CraneF := ⟨⟨ByteArray.empty, 0, 0, 0, 0, 0⟩⟩
instance : Inhabited CraneR := ⟨⟨default, ⟨none, 0, 0⟩⟩⟩
end Go.Proofs.YtpabbehpkokhbaaDoor
