/-
  No cell of these rows narrows 'for every input' (looked for: loops, veiled, ifaces, maps, wideKeys, modest, calm, conditions, laid).
  DERIVED. THE GIVEN ROWS OF THIS SEAT. 3 by the template 'for every input the law returns true; each argument reads behind the call as it read before'; 0 by the template 'total and deterministic' (their statements: YtmkhapgkiecmaaaTotals.lean).
  GIVEN WITH THE SEED: the statements are not yours to turn. If you find one false, say at which input.
  Laid BY PROGRAM, IN A SANDBOX (cutbox-rows.mjs): the forced cells as the released guide's own fill.sh prints them over the translation cdf2b72bf6ec7a76… (all of the seat's roots in one cut). By AI agents, Wed Nov 11 2026. No macro, syntax, notation, axiom, sorry.
-/
import Derived.Test.YtmkhapgkiecmaaaChecked
import GoSem.Claim
import GoSem.ClaimJoined
import GoSem.ClaimMapViews
import Derived.JoinedTies
import Derived.KernelRfl
namespace Go.Proofs.Ytmkhapgkiecmaaa
/- THE CELL 'sum', in the pinned program and in every row, IS THE sha256 OF THE DUMP (.gsa) THAT YtmkhapgkiecmaaaProg.lean LOADS. Nothing in Lean hashes anything: it is a label: what it is worth is what the hold of that sum in a sandbox is worth. -/
noncomputable def Try.pinned : Pinned := { name := "ytmkhapgkiecmaaa", sum := "cdf2b72bf6ec7a76e725ffd160bcfec71822270494c91fdfc73e4516f77aad33", checked := Try.checked }
namespace Rows
def none {H : Type} : Left H := { results := [], args := [] }

/-- 'laws.FnWorkDays': WHATEVER THE INPUT: true; the input reads as it did. -/
def fnWorkDaysSpec : ChangeSpec := { name := "fnWorkDays", fn := fun _ => fun
  | [d] => { results := [.lit (.bool true)], args := [d] }
  | _ => none }
def fnWorkDaysRow : OpenClaim := { program := "ytmkhapgkiecmaaa", sum := "cdf2b72bf6ec7a76e725ffd160bcfec71822270494c91fdfc73e4516f77aad33", func := "loop.example/g00932/laws.FnWorkDays", spec := "fnWorkDays", unfollowed := true, recurses := true, plainKeys := false, apart := false }
def FnWorkDaysSaid : Prop := fnWorkDaysRow.holds Try.pinned (OpenSpec.ofChange fnWorkDaysSpec)

/-- ITS FALSE NEIGHBOUR: 'it returns false'. Refute it at one input. -/
def fnWorkDaysWrong : ChangeSpec := { name := "fnWorkDays", fn := fun _ => fun
  | [d] => { results := [.lit (.bool false)], args := [d] }
  | _ => none }
def FnWorkDaysWrongFalsely : Prop := fnWorkDaysRow.holds Try.pinned (OpenSpec.ofChange fnWorkDaysWrong)

/-- 'laws.FnWorlds': WHATEVER THE INPUT: true; the input reads as it did. -/
def fnWorldsSpec : ChangeSpec := { name := "fnWorlds", fn := fun _ => fun
  | [d1, d2] => { results := [.lit (.bool true)], args := [d1, d2] }
  | _ => none }
def fnWorldsRow : OpenClaim := { program := "ytmkhapgkiecmaaa", sum := "cdf2b72bf6ec7a76e725ffd160bcfec71822270494c91fdfc73e4516f77aad33", func := "loop.example/g00932/laws.FnWorlds", spec := "fnWorlds", unfollowed := true, recurses := true, plainKeys := false, apart := false }
def FnWorldsSaid : Prop := fnWorldsRow.holds Try.pinned (OpenSpec.ofChange fnWorldsSpec)

/-- ITS FALSE NEIGHBOUR: 'it returns false'. Refute it at one input. -/
def fnWorldsWrong : ChangeSpec := { name := "fnWorlds", fn := fun _ => fun
  | [d1, d2] => { results := [.lit (.bool false)], args := [d1, d2] }
  | _ => none }
def FnWorldsWrongFalsely : Prop := fnWorldsRow.holds Try.pinned (OpenSpec.ofChange fnWorldsWrong)

/-- 'laws.FnExplored': WHATEVER THE INPUT: true; the input reads as it did. -/
def fnExploredSpec : ChangeSpec := { name := "fnExplored", fn := fun _ => fun
  | [d1, d2] => { results := [.lit (.bool true)], args := [d1, d2] }
  | _ => none }
def fnExploredRow : OpenClaim := { program := "ytmkhapgkiecmaaa", sum := "cdf2b72bf6ec7a76e725ffd160bcfec71822270494c91fdfc73e4516f77aad33", func := "loop.example/g00932/laws.FnExplored", spec := "fnExplored", unfollowed := true, recurses := true, plainKeys := false, apart := false }
def FnExploredSaid : Prop := fnExploredRow.holds Try.pinned (OpenSpec.ofChange fnExploredSpec)

/-- ITS FALSE NEIGHBOUR: 'it returns false'. Refute it at one input. -/
def fnExploredWrong : ChangeSpec := { name := "fnExplored", fn := fun _ => fun
  | [d1, d2] => { results := [.lit (.bool false)], args := [d1, d2] }
  | _ => none }
def FnExploredWrongFalsely : Prop := fnExploredRow.holds Try.pinned (OpenSpec.ofChange fnExploredWrong)

/- THE SECOND FORM. 'bulk': how many values and letters a reading holds, each counted each time it is reached (what is shared counts as often as it is met; a slice's spare places count too). A statement '..UptoSaid' is the law's where the arguments, and the package variables that the reading takes, are together of bulk at most 1048576: NARROWER than '..Said'. Prove '..Said' where nothing that the law and all that it calls make is longer than what came in: it says more and counts as full. Else prove '..UptoSaid'. A law counts once. -/
mutual
def uptoBulk {H : Type} : DataW H → Nat
  | .lit (.string bytes) => bytes.length + 1
  | .lit _ => 1
  | .nil => 1
  | .ptr d => uptoBulk d + 1
  | .slice elems spare => uptoBulkAll elems + uptoBulkAll spare + 1
  | .agg parts => uptoBulkAll parts + 1
  | .iface _ d => uptoBulk d + 1
  | .map entries => uptoBulkEntries entries + 1
  | .held _ => 1
def uptoBulkAll {H : Type} : List (DataW H) → Nat
  | [] => 0
  | d :: r => uptoBulk d + uptoBulkAll r
def uptoBulkEntries {H : Type} : List (Lit × DataW H) → Nat
  | [] => 0
  | x :: r => uptoBulkEntry x + uptoBulkEntries r
def uptoBulkEntry {H : Type} : Lit × DataW H → Nat
  | (.string bytes, d) => bytes.length + uptoBulk d + 1
  | (_, d) => uptoBulk d + 1
 end
def uptoSmall : (H : Type) → List (DataW H) → Bool := fun _ ds => decide (uptoBulkAll ds ≤ 1048576)
def OpenSpec.upto (s : _root_.Go.ChangeSpec) : _root_.Go.OpenSpec := { _root_.Go.OpenSpec.ofChange s with cond := some uptoSmall }

/-- 'laws.FnWorkDays', WHERE WHAT IT READS IS OF BULK AT MOST 1048576: true; the input reads as it did. -/
def fnWorkDaysUptoRow : OpenClaim := { program := "ytmkhapgkiecmaaa", sum := "cdf2b72bf6ec7a76e725ffd160bcfec71822270494c91fdfc73e4516f77aad33", func := "loop.example/g00932/laws.FnWorkDays", spec := "fnWorkDays", unfollowed := true, recurses := true, plainKeys := false, apart := false, narrowed := true }
def FnWorkDaysUptoSaid : Prop := fnWorkDaysUptoRow.holds Try.pinned (OpenSpec.upto fnWorkDaysSpec)

/-- 'laws.FnWorlds', WHERE WHAT IT READS IS OF BULK AT MOST 1048576: true; the input reads as it did. -/
def fnWorldsUptoRow : OpenClaim := { program := "ytmkhapgkiecmaaa", sum := "cdf2b72bf6ec7a76e725ffd160bcfec71822270494c91fdfc73e4516f77aad33", func := "loop.example/g00932/laws.FnWorlds", spec := "fnWorlds", unfollowed := true, recurses := true, plainKeys := false, apart := false, narrowed := true }
def FnWorldsUptoSaid : Prop := fnWorldsUptoRow.holds Try.pinned (OpenSpec.upto fnWorldsSpec)

/-- 'laws.FnExplored', WHERE WHAT IT READS IS OF BULK AT MOST 1048576: true; the input reads as it did. -/
def fnExploredUptoRow : OpenClaim := { program := "ytmkhapgkiecmaaa", sum := "cdf2b72bf6ec7a76e725ffd160bcfec71822270494c91fdfc73e4516f77aad33", func := "loop.example/g00932/laws.FnExplored", spec := "fnExplored", unfollowed := true, recurses := true, plainKeys := false, apart := false, narrowed := true }
def FnExploredUptoSaid : Prop := fnExploredUptoRow.holds Try.pinned (OpenSpec.upto fnExploredSpec)

end Rows
end Go.Proofs.Ytmkhapgkiecmaaa
