/- markText. -/
import Derived.Test.YtpabbehpkokhbaaDoorChecked
import Derived.Test.YtpabbehpkokhbaaDoorMark
namespace Go.Proofs.YtpabbehpkokhbaaDoor
open Go.RowKit

end Go.Proofs.YtpabbehpkokhbaaDoor
