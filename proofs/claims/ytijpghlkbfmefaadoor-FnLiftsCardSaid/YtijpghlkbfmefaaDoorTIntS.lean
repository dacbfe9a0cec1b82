/- []int64: the laws' helpers to and sz. -/
import Derived.Test.YtijpghlkbfmefaaDoorChecked
import Derived.Test.YtijpghlkbfmefaaDoorTInt
import Derived.Test.YtijpghlkbfmefaaDoorMark
namespace Go.Proofs.YtijpghlkbfmefaaDoor
open Go.RowKit

end Go.Proofs.YtijpghlkbfmefaaDoor
