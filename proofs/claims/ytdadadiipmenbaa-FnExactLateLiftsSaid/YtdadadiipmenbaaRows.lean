/-
  No cell of these rows narrows 'for every input' (looked for: loops, veiled, ifaces, maps, wideKeys, modest, calm, conditions, laid).
  DERIVED. THE GIVEN ROWS OF THIS SEAT. 3 by the template 'for every input the law returns true; each argument reads behind the call as it read before'; 0 by the template 'total and deterministic' (their statements: YtdadadiipmenbaaTotals.lean).
  GIVEN WITH THE SEED: the statements are not yours to turn. If you find one false, say at which input.
  Laid BY PROGRAM, IN A SANDBOX (cutbox-rows.mjs): the forced cells as the released guide's own fill.sh prints them over the translation 8cd3dfc5348d2887… (all of the seat's roots in one cut). By AI agents, Wed Nov 11 2026. No macro, syntax, notation, axiom, sorry.
-/
import Derived.Test.YtdadadiipmenbaaChecked
import GoSem.Claim
import GoSem.ClaimJoined
import GoSem.ClaimMapViews
import Derived.JoinedTies
import Derived.KernelRfl
namespace Go.Proofs.Ytdadadiipmenbaa
/- THE CELL 'sum', in the pinned program and in every row, IS THE sha256 OF THE DUMP (.gsa) THAT YtdadadiipmenbaaProg.lean LOADS. Nothing in Lean hashes anything: it is a label: what it is worth is what the hold of that sum in a sandbox is worth. -/
noncomputable def Try.pinned : Pinned := { name := "ytdadadiipmenbaa", sum := "8cd3dfc5348d288777598af93bf6dfad0319c4b874108b058d2794ea0b7253ad", checked := Try.checked }
namespace Rows
def none {H : Type} : Left H := { results := [], args := [] }

/-- 'laws.FnExactImpossibleLifts': WHATEVER THE INPUT: true; the input reads as it did. -/
def fnExactImpossibleLiftsSpec : ChangeSpec := { name := "fnExactImpossibleLifts", fn := fun _ => fun
  | [d1, d2] => { results := [.lit (.bool true)], args := [d1, d2] }
  | _ => none }
def fnExactImpossibleLiftsRow : OpenClaim := { program := "ytdadadiipmenbaa", sum := "8cd3dfc5348d288777598af93bf6dfad0319c4b874108b058d2794ea0b7253ad", func := "loop.example/g00932/laws.FnExactImpossibleLifts", spec := "fnExactImpossibleLifts", unfollowed := true, recurses := true, apart := false }
def FnExactImpossibleLiftsSaid : Prop := fnExactImpossibleLiftsRow.holds Try.pinned (OpenSpec.ofChange fnExactImpossibleLiftsSpec)

/-- ITS FALSE NEIGHBOUR: 'it returns false'. Refute it at one input. -/
def fnExactImpossibleLiftsWrong : ChangeSpec := { name := "fnExactImpossibleLifts", fn := fun _ => fun
  | [d1, d2] => { results := [.lit (.bool false)], args := [d1, d2] }
  | _ => none }
def FnExactImpossibleLiftsWrongFalsely : Prop := fnExactImpossibleLiftsRow.holds Try.pinned (OpenSpec.ofChange fnExactImpossibleLiftsWrong)

/-- 'laws.FnExactAbilityTable': WHATEVER THE INPUT: true; the input reads as it did. -/
def fnExactAbilityTableSpec : ChangeSpec := { name := "fnExactAbilityTable", fn := fun _ => fun
  | [d1, d2] => { results := [.lit (.bool true)], args := [d1, d2] }
  | _ => none }
def fnExactAbilityTableRow : OpenClaim := { program := "ytdadadiipmenbaa", sum := "8cd3dfc5348d288777598af93bf6dfad0319c4b874108b058d2794ea0b7253ad", func := "loop.example/g00932/laws.FnExactAbilityTable", spec := "fnExactAbilityTable", unfollowed := true, recurses := true, apart := false }
def FnExactAbilityTableSaid : Prop := fnExactAbilityTableRow.holds Try.pinned (OpenSpec.ofChange fnExactAbilityTableSpec)

/-- ITS FALSE NEIGHBOUR: 'it returns false'. Refute it at one input. -/
def fnExactAbilityTableWrong : ChangeSpec := { name := "fnExactAbilityTable", fn := fun _ => fun
  | [d1, d2] => { results := [.lit (.bool false)], args := [d1, d2] }
  | _ => none }
def FnExactAbilityTableWrongFalsely : Prop := fnExactAbilityTableRow.holds Try.pinned (OpenSpec.ofChange fnExactAbilityTableWrong)

/-- 'laws.FnExactLateLifts': WHATEVER THE INPUT: true; the input reads as it did. -/
def fnExactLateLiftsSpec : ChangeSpec := { name := "fnExactLateLifts", fn := fun _ => fun
  | [d1, d2] => { results := [.lit (.bool true)], args := [d1, d2] }
  | _ => none }
def fnExactLateLiftsRow : OpenClaim := { program := "ytdadadiipmenbaa", sum := "8cd3dfc5348d288777598af93bf6dfad0319c4b874108b058d2794ea0b7253ad", func := "loop.example/g00932/laws.FnExactLateLifts", spec := "fnExactLateLifts", recurses := true, apart := false }
def FnExactLateLiftsSaid : Prop := fnExactLateLiftsRow.holds Try.pinned (OpenSpec.ofChange fnExactLateLiftsSpec)

/-- ITS FALSE NEIGHBOUR: 'it returns false'. Refute it at one input. -/
def fnExactLateLiftsWrong : ChangeSpec := { name := "fnExactLateLifts", fn := fun _ => fun
  | [d1, d2] => { results := [.lit (.bool false)], args := [d1, d2] }
  | _ => none }
def FnExactLateLiftsWrongFalsely : Prop := fnExactLateLiftsRow.holds Try.pinned (OpenSpec.ofChange fnExactLateLiftsWrong)

/- THE SECOND FORM. 'bulk': how many values and letters a reading holds, each counted each time it is reached (what is shared counts as often as it is met; a slice's spare places count too). A statement '..UptoSaid' is the law's where the arguments, and the package variables that the reading takes, are together of bulk at most 1048576: NARROWER than '..Said'. Prove '..Said' where nothing that the law and all that it calls make is longer than what came in: it says more and counts as full. Else prove '..UptoSaid'. A law counts once. -/
mutual
def uptoBulk {H : Type} : DataW H → Nat
  | .lit (.string bytes) => bytes.length + 1
  | .lit _ => 1
  | .nil => 1
  | .ptr d => uptoBulk d + 1
  | .slice elems spare => uptoBulkAll elems + uptoBulkAll spare + 1
  | .agg parts => uptoBulkAll parts + 1
  | .iface _ d => uptoBulk d + 1
  | .map entries => uptoBulkEntries entries + 1
  | .held _ => 1
def uptoBulkAll {H : Type} : List (DataW H) → Nat
  | [] => 0
  | d :: r => uptoBulk d + uptoBulkAll r
def uptoBulkEntries {H : Type} : List (Lit × DataW H) → Nat
  | [] => 0
  | x :: r => uptoBulkEntry x + uptoBulkEntries r
def uptoBulkEntry {H : Type} : Lit × DataW H → Nat
  | (.string bytes, d) => bytes.length + uptoBulk d + 1
  | (_, d) => uptoBulk d + 1
 end
def uptoSmall : (H : Type) → List (DataW H) → Bool := fun _ ds => decide (uptoBulkAll ds ≤ 1048576)
def OpenSpec.upto (s : _root_.Go.ChangeSpec) : _root_.Go.OpenSpec := { _root_.Go.OpenSpec.ofChange s with cond := some uptoSmall }

/-- 'laws.FnExactImpossibleLifts', WHERE WHAT IT READS IS OF BULK AT MOST 1048576: true; the input reads as it did. -/
def fnExactImpossibleLiftsUptoRow : OpenClaim := { program := "ytdadadiipmenbaa", sum := "8cd3dfc5348d288777598af93bf6dfad0319c4b874108b058d2794ea0b7253ad", func := "loop.example/g00932/laws.FnExactImpossibleLifts", spec := "fnExactImpossibleLifts", unfollowed := true, recurses := true, apart := false, narrowed := true }
def FnExactImpossibleLiftsUptoSaid : Prop := fnExactImpossibleLiftsUptoRow.holds Try.pinned (OpenSpec.upto fnExactImpossibleLiftsSpec)

/-- 'laws.FnExactAbilityTable', WHERE WHAT IT READS IS OF BULK AT MOST 1048576: true; the input reads as it did. -/
def fnExactAbilityTableUptoRow : OpenClaim := { program := "ytdadadiipmenbaa", sum := "8cd3dfc5348d288777598af93bf6dfad0319c4b874108b058d2794ea0b7253ad", func := "loop.example/g00932/laws.FnExactAbilityTable", spec := "fnExactAbilityTable", unfollowed := true, recurses := true, apart := false, narrowed := true }
def FnExactAbilityTableUptoSaid : Prop := fnExactAbilityTableUptoRow.holds Try.pinned (OpenSpec.upto fnExactAbilityTableSpec)

/-- 'laws.FnExactLateLifts', WHERE WHAT IT READS IS OF BULK AT MOST 1048576: true; the input reads as it did. -/
def fnExactLateLiftsUptoRow : OpenClaim := { program := "ytdadadiipmenbaa", sum := "8cd3dfc5348d288777598af93bf6dfad0319c4b874108b058d2794ea0b7253ad", func := "loop.example/g00932/laws.FnExactLateLifts", spec := "fnExactLateLifts", recurses := true, apart := false, narrowed := true }
def FnExactLateLiftsUptoSaid : Prop := fnExactLateLiftsUptoRow.holds Try.pinned (OpenSpec.upto fnExactLateLiftsSpec)

end Rows
end Go.Proofs.Ytdadadiipmenbaa
