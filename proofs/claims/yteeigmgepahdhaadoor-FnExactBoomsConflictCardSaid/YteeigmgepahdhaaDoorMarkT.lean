/- markText. -/
import Derived.Test.YteeigmgepahdhaaDoorChecked
import Derived.Test.YteeigmgepahdhaaDoorMark
namespace Go.Proofs.YteeigmgepahdhaaDoor
open Go.RowKit

end Go.Proofs.YteeigmgepahdhaaDoor
