/- []int64: the laws' helpers. -/
import Derived.Test.YtijpghlkbfmefaaDoorChecked
import Derived.Test.YtijpghlkbfmefaaDoorOwn
namespace Go.Proofs.YtijpghlkbfmefaaDoor
open Go.RowKit


end Go.Proofs.YtijpghlkbfmefaaDoor
