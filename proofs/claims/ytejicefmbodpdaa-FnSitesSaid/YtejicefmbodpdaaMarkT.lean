/- markText. -/
import Derived.Test.YtejicefmbodpdaaChecked
import Derived.Test.YtejicefmbodpdaaMark
namespace Go.Proofs.Ytejicefmbodpdaa
open Go.RowKit

end Go.Proofs.Ytejicefmbodpdaa
