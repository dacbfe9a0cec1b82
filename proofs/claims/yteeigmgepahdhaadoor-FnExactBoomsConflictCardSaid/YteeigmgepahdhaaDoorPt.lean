/- Points: the laws' helpers, field by field. -/
import Derived.Test.YteeigmgepahdhaaDoorTPoint
namespace Go.Proofs.YteeigmgepahdhaaDoor
open Go.RowKit
theorem law_toPoint' (x y : Int) (w : World) : Calls Tryd.prog 44 #[.agg #[.int .i64 x, .int .i64 y]] w fun e w' => e = .returned (.agg #[.int .i64 x, .int .i64 y]) ∧ Below w.heap.size w w' := law_toPoint ⟨x, y⟩ w
theorem law_eqPoint' (x y : Int) (w : World) : Calls Tryd.prog 46 #[.agg #[.int .i64 x, .int .i64 y], .agg #[.int .i64 x, .int .i64 y]] w fun e w' => e = .returned (.bool true) ∧ Below w.heap.size w w' := law_eqPoint ⟨x, y⟩ w
end Go.Proofs.YteeigmgepahdhaaDoor
