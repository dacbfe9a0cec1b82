/-
  NARROWER THAN 'FOR EVERY INPUT', by the rows' own cells (each row's printed sentence says how): FnConflicts: laid · FnExactBoomsConflict: laid · FnExactConflictTable: laid.
  DERIVED. THE GIVEN ROWS OF THIS SEAT. 3 by the template 'for every input the law returns true; each argument reads behind the call as it read before'; 0 by the template 'total and deterministic' (their statements: YteeigmgepahdhaaDoorTotals.lean).
  GIVEN WITH THE SEED: the statements are not yours to turn. If you find one false, say at which input.
  Laid BY PROGRAM, IN A SANDBOX (cutbox-rows.mjs): the forced cells as the released guide's own fill.sh prints them over the translation 7aa6b57d7df80598… (all of the seat's roots in one cut). By AI agents, Wed Nov 11 2026. No macro, syntax, notation, axiom, sorry.
-/
import Derived.Test.YteeigmgepahdhaaDoorChecked
import GoSem.Claim
import GoSem.ClaimJoined
import GoSem.ClaimMapViews
import Derived.JoinedTies
import Derived.KernelRfl
namespace Go.Proofs.YteeigmgepahdhaaDoor
/- THE CELL 'sum', in the pinned program and in every row, IS THE sha256 OF THE DUMP (.gsa) THAT YteeigmgepahdhaaDoorProg.lean LOADS. Nothing in Lean hashes anything: it is a label: what it is worth is what the hold of that sum in a sandbox is worth. -/
noncomputable def Tryd.pinned : Pinned := { name := "yteeigmgepahdhaadoor", sum := "7aa6b57d7df80598f8a0d7ed50bea9f3837201c6fcab64292dcfb92cd8518e8e", checked := Tryd.checked }
namespace Rows
def none {H : Type} : Left H := { results := [], args := [] }

/- WHAT THE LISTED PACKAGE-LEVEL VARIABLES READ AS WHEN THE CALL BEGINS. Each datum BY PROGRAM (the guide's laid-datum.mjs) off the statement by which the dump's own 'gosem.cut.vars' lays the variable. In a bare row this is a premise. The card (YteeigmgepahdhaaDoorCards.lean) ties it to the program's text. -/
def laid_loop_example_g00932_impl_quarter {H : Type} : DataW H := .agg [.agg [.lit (.int .i64 1000), .lit (.int .i64 0)], .agg [.lit (.int .i64 966), .lit (.int .i64 259)], .agg [.lit (.int .i64 866), .lit (.int .i64 500)], .agg [.lit (.int .i64 707), .lit (.int .i64 707)], .agg [.lit (.int .i64 500), .lit (.int .i64 866)], .agg [.lit (.int .i64 259), .lit (.int .i64 966)]]

/-- 'laws.FnConflicts': WHATEVER THE INPUT: true; the input reads as it did. -/
def fnConflictsSpec : ChangeSpec := { name := "fnConflicts", vars := ["loop.example/g00932/impl.quarter"], fn := fun _ => fun
  | [d1, d2, g1] => { results := [.lit (.bool true)], args := [d1, d2], vars := [g1] }
  | _ => none }
def fnConflictsRow : OpenClaim := { program := "yteeigmgepahdhaadoor", sum := "7aa6b57d7df80598f8a0d7ed50bea9f3837201c6fcab64292dcfb92cd8518e8e", func := "loop.example/g00932/laws.FnConflicts", spec := "fnConflicts", unfollowed := true, recurses := true, named := ["loop.example/g00932/impl.quarter"], leaving := true, apart := false, laid := [("loop.example/g00932/impl.quarter", laid_loop_example_g00932_impl_quarter)] }
def FnConflictsSaid : Prop := fnConflictsRow.holds Tryd.pinned (OpenSpec.ofChange fnConflictsSpec)

/-- ITS FALSE NEIGHBOUR: 'it returns false'. Refute it at one input. -/
def fnConflictsWrong : ChangeSpec := { name := "fnConflicts", vars := ["loop.example/g00932/impl.quarter"], fn := fun _ => fun
  | [d1, d2, g1] => { results := [.lit (.bool false)], args := [d1, d2], vars := [g1] }
  | _ => none }
def FnConflictsWrongFalsely : Prop := fnConflictsRow.holds Tryd.pinned (OpenSpec.ofChange fnConflictsWrong)

/-- 'laws.FnExactBoomsConflict': WHATEVER THE INPUT: true; the input reads as it did. -/
def fnExactBoomsConflictSpec : ChangeSpec := { name := "fnExactBoomsConflict", vars := ["loop.example/g00932/impl.quarter"], fn := fun _ => fun
  | [d1, d2, d3, d4, d5, g1] => { results := [.lit (.bool true)], args := [d1, d2, d3, d4, d5], vars := [g1] }
  | _ => none }
def fnExactBoomsConflictRow : OpenClaim := { program := "yteeigmgepahdhaadoor", sum := "7aa6b57d7df80598f8a0d7ed50bea9f3837201c6fcab64292dcfb92cd8518e8e", func := "loop.example/g00932/laws.FnExactBoomsConflict", spec := "fnExactBoomsConflict", named := ["loop.example/g00932/impl.quarter"], apart := false, laid := [("loop.example/g00932/impl.quarter", laid_loop_example_g00932_impl_quarter)] }
def FnExactBoomsConflictSaid : Prop := fnExactBoomsConflictRow.holds Tryd.pinned (OpenSpec.ofChange fnExactBoomsConflictSpec)

/-- ITS FALSE NEIGHBOUR: 'it returns false'. Refute it at one input. -/
def fnExactBoomsConflictWrong : ChangeSpec := { name := "fnExactBoomsConflict", vars := ["loop.example/g00932/impl.quarter"], fn := fun _ => fun
  | [d1, d2, d3, d4, d5, g1] => { results := [.lit (.bool false)], args := [d1, d2, d3, d4, d5], vars := [g1] }
  | _ => none }
def FnExactBoomsConflictWrongFalsely : Prop := fnExactBoomsConflictRow.holds Tryd.pinned (OpenSpec.ofChange fnExactBoomsConflictWrong)

/-- 'laws.FnExactConflictTable': WHATEVER THE INPUT: true; the input reads as it did. -/
def fnExactConflictTableSpec : ChangeSpec := { name := "fnExactConflictTable", vars := ["loop.example/g00932/impl.quarter"], fn := fun _ => fun
  | [d1, d2, d3, g1] => { results := [.lit (.bool true)], args := [d1, d2, d3], vars := [g1] }
  | _ => none }
def fnExactConflictTableRow : OpenClaim := { program := "yteeigmgepahdhaadoor", sum := "7aa6b57d7df80598f8a0d7ed50bea9f3837201c6fcab64292dcfb92cd8518e8e", func := "loop.example/g00932/laws.FnExactConflictTable", spec := "fnExactConflictTable", named := ["loop.example/g00932/impl.quarter"], leaving := true, apart := false, laid := [("loop.example/g00932/impl.quarter", laid_loop_example_g00932_impl_quarter)] }
def FnExactConflictTableSaid : Prop := fnExactConflictTableRow.holds Tryd.pinned (OpenSpec.ofChange fnExactConflictTableSpec)

/-- ITS FALSE NEIGHBOUR: 'it returns false'. Refute it at one input. -/
def fnExactConflictTableWrong : ChangeSpec := { name := "fnExactConflictTable", vars := ["loop.example/g00932/impl.quarter"], fn := fun _ => fun
  | [d1, d2, d3, g1] => { results := [.lit (.bool false)], args := [d1, d2, d3], vars := [g1] }
  | _ => none }
def FnExactConflictTableWrongFalsely : Prop := fnExactConflictTableRow.holds Tryd.pinned (OpenSpec.ofChange fnExactConflictTableWrong)

/- THE SECOND FORM. 'bulk': how many values and letters a reading holds, each counted each time it is reached (what is shared counts as often as it is met; a slice's spare places count too). A statement '..UptoSaid' is the law's where the arguments, and the package variables that the reading takes, are together of bulk at most 1048576: NARROWER than '..Said'. Prove '..Said' where nothing that the law and all that it calls make is longer than what came in: it says more and counts as full. Else prove '..UptoSaid'. A law counts once. -/
mutual
def uptoBulk {H : Type} : DataW H → Nat
  | .lit (.string bytes) => bytes.length + 1
  | .lit _ => 1
  | .nil => 1
  | .ptr d => uptoBulk d + 1
  | .slice elems spare => uptoBulkAll elems + uptoBulkAll spare + 1
  | .agg parts => uptoBulkAll parts + 1
  | .iface _ d => uptoBulk d + 1
  | .map entries => uptoBulkEntries entries + 1
  | .held _ => 1
def uptoBulkAll {H : Type} : List (DataW H) → Nat
  | [] => 0
  | d :: r => uptoBulk d + uptoBulkAll r
def uptoBulkEntries {H : Type} : List (Lit × DataW H) → Nat
  | [] => 0
  | x :: r => uptoBulkEntry x + uptoBulkEntries r
def uptoBulkEntry {H : Type} : Lit × DataW H → Nat
  | (.string bytes, d) => bytes.length + uptoBulk d + 1
  | (_, d) => uptoBulk d + 1
 end
def uptoSmall : (H : Type) → List (DataW H) → Bool := fun _ ds => decide (uptoBulkAll ds ≤ 1048576)
def OpenSpec.upto (s : _root_.Go.ChangeSpec) : _root_.Go.OpenSpec := { _root_.Go.OpenSpec.ofChange s with cond := some uptoSmall }

/-- 'laws.FnConflicts', WHERE WHAT IT READS IS OF BULK AT MOST 1048576: true; the input reads as it did. -/
def fnConflictsUptoRow : OpenClaim := { program := "yteeigmgepahdhaadoor", sum := "7aa6b57d7df80598f8a0d7ed50bea9f3837201c6fcab64292dcfb92cd8518e8e", func := "loop.example/g00932/laws.FnConflicts", spec := "fnConflicts", unfollowed := true, recurses := true, named := ["loop.example/g00932/impl.quarter"], leaving := true, apart := false, laid := [("loop.example/g00932/impl.quarter", laid_loop_example_g00932_impl_quarter)], narrowed := true }
def FnConflictsUptoSaid : Prop := fnConflictsUptoRow.holds Tryd.pinned (OpenSpec.upto fnConflictsSpec)

/-- 'laws.FnExactBoomsConflict', WHERE WHAT IT READS IS OF BULK AT MOST 1048576: true; the input reads as it did. -/
def fnExactBoomsConflictUptoRow : OpenClaim := { program := "yteeigmgepahdhaadoor", sum := "7aa6b57d7df80598f8a0d7ed50bea9f3837201c6fcab64292dcfb92cd8518e8e", func := "loop.example/g00932/laws.FnExactBoomsConflict", spec := "fnExactBoomsConflict", named := ["loop.example/g00932/impl.quarter"], apart := false, laid := [("loop.example/g00932/impl.quarter", laid_loop_example_g00932_impl_quarter)], narrowed := true }
def FnExactBoomsConflictUptoSaid : Prop := fnExactBoomsConflictUptoRow.holds Tryd.pinned (OpenSpec.upto fnExactBoomsConflictSpec)

/-- 'laws.FnExactConflictTable', WHERE WHAT IT READS IS OF BULK AT MOST 1048576: true; the input reads as it did. -/
def fnExactConflictTableUptoRow : OpenClaim := { program := "yteeigmgepahdhaadoor", sum := "7aa6b57d7df80598f8a0d7ed50bea9f3837201c6fcab64292dcfb92cd8518e8e", func := "loop.example/g00932/laws.FnExactConflictTable", spec := "fnExactConflictTable", named := ["loop.example/g00932/impl.quarter"], leaving := true, apart := false, laid := [("loop.example/g00932/impl.quarter", laid_loop_example_g00932_impl_quarter)], narrowed := true }
def FnExactConflictTableUptoSaid : Prop := fnExactConflictTableUptoRow.holds Tryd.pinned (OpenSpec.upto fnExactConflictTableSpec)

end Rows
end Go.Proofs.YteeigmgepahdhaaDoor
