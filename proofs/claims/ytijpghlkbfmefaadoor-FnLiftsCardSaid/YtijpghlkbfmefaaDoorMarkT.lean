/- markText. -/
import Derived.Test.YtijpghlkbfmefaaDoorChecked
import Derived.Test.YtijpghlkbfmefaaDoorMark
namespace Go.Proofs.YtijpghlkbfmefaaDoor
open Go.RowKit

end Go.Proofs.YtijpghlkbfmefaaDoor
