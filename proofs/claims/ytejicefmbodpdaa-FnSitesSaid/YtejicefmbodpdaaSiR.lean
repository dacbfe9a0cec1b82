/- What a call that returns a site and a code returns. -/
import Derived.Test.YtejicefmbodpdaaCb
import Derived.Test.YtejicefmbodpdaaNM
import Derived.Test.YtejicefmbodpdaaCpyI
import Derived.Test.YtejicefmbodpdaaSiteW
namespace Go.Proofs.Ytejicefmbodpdaa
open Go.RowKit
def SiteRes (P : SiteL × Int) (w : World) (e : Ending) (w' : World) : Prop :=
  ∃ (s : SV) (rs : List CraneR), e = .returned (.tuple #[.agg #[s.v], .int .i64 P.2]) ∧ CraneW w.heap.size w'.heap.size w' s.v rs P.1 ∧ Below w.heap.size w w'
end Go.Proofs.Ytejicefmbodpdaa
