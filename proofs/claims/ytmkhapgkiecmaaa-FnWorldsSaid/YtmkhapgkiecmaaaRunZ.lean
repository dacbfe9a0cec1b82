/- RunActs, both packages, for every argument. -/
import Derived.Test.YtmkhapgkiecmaaaRunI
namespace Go.Proofs.Ytmkhapgkiecmaaa
open Go.RowKit
theorem spec_RunActs (tv lv : Value) (rows : List SV) (T : Tab) (lo hi lo2 hi2 : Nat) (v : Wtc) (x : Wld) (l : List Act1) (w : World) (h : TabR lo hi w tv rows T) (hl : Act1s lo2 hi2 w lv l) (hlen : l.length ≤ 1048576) :
    Calls Try.prog 36 #[tv, .agg v.cells.toArray, .agg x.cells.toArray, lv] w fun e w' => e = .returned (.tuple #[.agg (runActs T v x l).1.cells.toArray, .int .i64 (runActs T v x l).2.1, .int .i64 (runActs T v x l).2.2]) ∧ Below w.heap.size w w' := by
  rcases codeW_cases T v x with hc | hc | ⟨hc, hT, hx⟩
  · exact spec_RunActs_code tv lv rows T lo hi v x l w h (by omega)
  · exact spec_RunActs_code tv lv rows T lo hi v x l w h (by omega)
  · exact spec_RunActs_ok tv lv rows T lo hi lo2 hi2 v x l w h hl hlen hc hT hx
theorem impl_RunActs (tv lv : Value) (rows : List SV) (T : Tab) (lo hi lo2 hi2 : Nat) (v : Wtc) (x : Wld) (l : List Act1) (w : World) (h : TabR lo hi w tv rows T) (hl : Act1s lo2 hi2 w lv l) (hlen : l.length ≤ 1048576) :
    Calls Try.prog 31 #[tv, .agg v.cells.toArray, .agg x.cells.toArray, lv] w fun e w' => e = .returned (.tuple #[.agg (runActs T v x l).1.cells.toArray, .int .i64 (runActs T v x l).2.1, .int .i64 (runActs T v x l).2.2]) ∧ Below w.heap.size w w' := by
  rcases codeW_cases T v x with hc | hc | ⟨hc, hT, hx⟩
  · exact impl_RunActs_code tv lv rows T lo hi v x l w h (by omega)
  · exact impl_RunActs_code tv lv rows T lo hi v x l w h (by omega)
  · exact impl_RunActs_ok tv lv rows T lo hi lo2 hi2 v x l w h hl hlen hc hT hx
end Go.Proofs.Ytmkhapgkiecmaaa
