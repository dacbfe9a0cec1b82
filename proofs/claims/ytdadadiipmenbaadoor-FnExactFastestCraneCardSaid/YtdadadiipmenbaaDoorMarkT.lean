/- markText. -/
import Derived.Test.YtdadadiipmenbaaDoorChecked
import Derived.Test.YtdadadiipmenbaaDoorMark
namespace Go.Proofs.YtdadadiipmenbaaDoor
open Go.RowKit

end Go.Proofs.YtdadadiipmenbaaDoor
