/- markText. -/
import Derived.Test.YtmkhapgkiecmaaaChecked
import Derived.Test.YtmkhapgkiecmaaaMark
namespace Go.Proofs.Ytmkhapgkiecmaaa
open Go.RowKit

end Go.Proofs.Ytmkhapgkiecmaaa
