/- Site: its reading, and the laws' helpers. -/
import Derived.Test.YtejicefmbodpdaaTCrane
namespace Go.Proofs.Ytejicefmbodpdaa
open Go.RowKit Go.WideShapes Go.ChangeShapes Go.Deep
abbrev SiteL := List (CraneF × List Chs)
def SiteL.wf (L : SiteL) : Prop := ∀ x ∈ L, x.1.wf ∧ ∀ y ∈ x.2, y.wf
def SiteL.cost (L : SiteL) : Nat := L.length + totN (fun f : CraneF => f.name.size) L
end Go.Proofs.Ytejicefmbodpdaa
