/-
  No cell of these rows narrows 'for every input' (looked for: loops, veiled, ifaces, maps, wideKeys, modest, calm, conditions, laid).
  DERIVED. THE GIVEN ROWS OF THIS SEAT. 12 by the template 'for every input the law returns true; each argument reads behind the call as it read before'; 0 by the template 'total and deterministic' (their statements: YtfnmmfopbfmkaaaTotals.lean).
  GIVEN WITH THE SEED: the statements are not yours to turn. If you find one false, say at which input.
  Laid BY PROGRAM, IN A SANDBOX (cutbox-rows.mjs): the forced cells as the released guide's own fill.sh prints them over the translation d156b232dc88ea4e… (all of the seat's roots in one cut). By AI agents, Wed Nov 11 2026. No macro, syntax, notation, axiom, sorry.
-/
import Derived.Test.YtfnmmfopbfmkaaaChecked
import GoSem.Claim
import GoSem.ClaimJoined
import GoSem.ClaimMapViews
import Derived.JoinedTies
import Derived.KernelRfl
namespace Go.Proofs.Ytfnmmfopbfmkaaa
/- THE CELL 'sum', in the pinned program and in every row, IS THE sha256 OF THE DUMP (.gsa) THAT YtfnmmfopbfmkaaaProg.lean LOADS. Nothing in Lean hashes anything: it is a label: what it is worth is what the hold of that sum in a sandbox is worth. -/
noncomputable def Try.pinned : Pinned := { name := "ytfnmmfopbfmkaaa", sum := "d156b232dc88ea4e9301e2c6750ffeec0d2ca7fb355bf760f0b02def3732335f", checked := Try.checked }
namespace Rows
def none {H : Type} : Left H := { results := [], args := [] }

/-- 'laws.FnExactValidFindings': WHATEVER THE INPUT: true; the input reads as it did. -/
def fnExactValidFindingsSpec : ChangeSpec := { name := "fnExactValidFindings", fn := fun _ => fun
  | [d] => { results := [.lit (.bool true)], args := [d] }
  | _ => none }
def fnExactValidFindingsRow : OpenClaim := { program := "ytfnmmfopbfmkaaa", sum := "d156b232dc88ea4e9301e2c6750ffeec0d2ca7fb355bf760f0b02def3732335f", func := "loop.example/g00932/laws.FnExactValidFindings", spec := "fnExactValidFindings", unfollowed := true, recurses := true, apart := false }
def FnExactValidFindingsSaid : Prop := fnExactValidFindingsRow.holds Try.pinned (OpenSpec.ofChange fnExactValidFindingsSpec)

/-- ITS FALSE NEIGHBOUR: 'it returns false'. Refute it at one input. -/
def fnExactValidFindingsWrong : ChangeSpec := { name := "fnExactValidFindings", fn := fun _ => fun
  | [d] => { results := [.lit (.bool false)], args := [d] }
  | _ => none }
def FnExactValidFindingsWrongFalsely : Prop := fnExactValidFindingsRow.holds Try.pinned (OpenSpec.ofChange fnExactValidFindingsWrong)

/-- 'laws.FnExactSameChecks': WHATEVER THE INPUT: true; the input reads as it did. -/
def fnExactSameChecksSpec : ChangeSpec := { name := "fnExactSameChecks", fn := fun _ => fun
  | [d1, d2] => { results := [.lit (.bool true)], args := [d1, d2] }
  | _ => none }
def fnExactSameChecksRow : OpenClaim := { program := "ytfnmmfopbfmkaaa", sum := "d156b232dc88ea4e9301e2c6750ffeec0d2ca7fb355bf760f0b02def3732335f", func := "loop.example/g00932/laws.FnExactSameChecks", spec := "fnExactSameChecks", apart := false }
def FnExactSameChecksSaid : Prop := fnExactSameChecksRow.holds Try.pinned (OpenSpec.ofChange fnExactSameChecksSpec)

/-- ITS FALSE NEIGHBOUR: 'it returns false'. Refute it at one input. -/
def fnExactSameChecksWrong : ChangeSpec := { name := "fnExactSameChecks", fn := fun _ => fun
  | [d1, d2] => { results := [.lit (.bool false)], args := [d1, d2] }
  | _ => none }
def FnExactSameChecksWrongFalsely : Prop := fnExactSameChecksRow.holds Try.pinned (OpenSpec.ofChange fnExactSameChecksWrong)

/-- 'laws.FnWorkDays': WHATEVER THE INPUT: true; the input reads as it did. -/
def fnWorkDaysSpec : ChangeSpec := { name := "fnWorkDays", fn := fun _ => fun
  | [d] => { results := [.lit (.bool true)], args := [d] }
  | _ => none }
def fnWorkDaysRow : OpenClaim := { program := "ytfnmmfopbfmkaaa", sum := "d156b232dc88ea4e9301e2c6750ffeec0d2ca7fb355bf760f0b02def3732335f", func := "loop.example/g00932/laws.FnWorkDays", spec := "fnWorkDays", unfollowed := true, recurses := true, apart := false }
def FnWorkDaysSaid : Prop := fnWorkDaysRow.holds Try.pinned (OpenSpec.ofChange fnWorkDaysSpec)

/-- ITS FALSE NEIGHBOUR: 'it returns false'. Refute it at one input. -/
def fnWorkDaysWrong : ChangeSpec := { name := "fnWorkDays", fn := fun _ => fun
  | [d] => { results := [.lit (.bool false)], args := [d] }
  | _ => none }
def FnWorkDaysWrongFalsely : Prop := fnWorkDaysRow.holds Try.pinned (OpenSpec.ofChange fnWorkDaysWrong)

/-- 'laws.FnExactValidChecks': WHATEVER THE INPUT: true; the input reads as it did. -/
def fnExactValidChecksSpec : ChangeSpec := { name := "fnExactValidChecks", fn := fun _ => fun
  | [d] => { results := [.lit (.bool true)], args := [d] }
  | _ => none }
def fnExactValidChecksRow : OpenClaim := { program := "ytfnmmfopbfmkaaa", sum := "d156b232dc88ea4e9301e2c6750ffeec0d2ca7fb355bf760f0b02def3732335f", func := "loop.example/g00932/laws.FnExactValidChecks", spec := "fnExactValidChecks", unfollowed := true, recurses := true, apart := false }
def FnExactValidChecksSaid : Prop := fnExactValidChecksRow.holds Try.pinned (OpenSpec.ofChange fnExactValidChecksSpec)

/-- ITS FALSE NEIGHBOUR: 'it returns false'. Refute it at one input. -/
def fnExactValidChecksWrong : ChangeSpec := { name := "fnExactValidChecks", fn := fun _ => fun
  | [d] => { results := [.lit (.bool false)], args := [d] }
  | _ => none }
def FnExactValidChecksWrongFalsely : Prop := fnExactValidChecksRow.holds Try.pinned (OpenSpec.ofChange fnExactValidChecksWrong)

/-- 'laws.FnExactCloseFinding': WHATEVER THE INPUT: true; the input reads as it did. -/
def fnExactCloseFindingSpec : ChangeSpec := { name := "fnExactCloseFinding", fn := fun _ => fun
  | [d1, d2, d3] => { results := [.lit (.bool true)], args := [d1, d2, d3] }
  | _ => none }
def fnExactCloseFindingRow : OpenClaim := { program := "ytfnmmfopbfmkaaa", sum := "d156b232dc88ea4e9301e2c6750ffeec0d2ca7fb355bf760f0b02def3732335f", func := "loop.example/g00932/laws.FnExactCloseFinding", spec := "fnExactCloseFinding", unfollowed := true, recurses := true, apart := false }
def FnExactCloseFindingSaid : Prop := fnExactCloseFindingRow.holds Try.pinned (OpenSpec.ofChange fnExactCloseFindingSpec)

/-- ITS FALSE NEIGHBOUR: 'it returns false'. Refute it at one input. -/
def fnExactCloseFindingWrong : ChangeSpec := { name := "fnExactCloseFinding", fn := fun _ => fun
  | [d1, d2, d3] => { results := [.lit (.bool false)], args := [d1, d2, d3] }
  | _ => none }
def FnExactCloseFindingWrongFalsely : Prop := fnExactCloseFindingRow.holds Try.pinned (OpenSpec.ofChange fnExactCloseFindingWrong)

/-- 'laws.FnExactOpenFindings': WHATEVER THE INPUT: true; the input reads as it did. -/
def fnExactOpenFindingsSpec : ChangeSpec := { name := "fnExactOpenFindings", fn := fun _ => fun
  | [d1, d2] => { results := [.lit (.bool true)], args := [d1, d2] }
  | _ => none }
def fnExactOpenFindingsRow : OpenClaim := { program := "ytfnmmfopbfmkaaa", sum := "d156b232dc88ea4e9301e2c6750ffeec0d2ca7fb355bf760f0b02def3732335f", func := "loop.example/g00932/laws.FnExactOpenFindings", spec := "fnExactOpenFindings", unfollowed := true, recurses := true, apart := false }
def FnExactOpenFindingsSaid : Prop := fnExactOpenFindingsRow.holds Try.pinned (OpenSpec.ofChange fnExactOpenFindingsSpec)

/-- ITS FALSE NEIGHBOUR: 'it returns false'. Refute it at one input. -/
def fnExactOpenFindingsWrong : ChangeSpec := { name := "fnExactOpenFindings", fn := fun _ => fun
  | [d1, d2] => { results := [.lit (.bool false)], args := [d1, d2] }
  | _ => none }
def FnExactOpenFindingsWrongFalsely : Prop := fnExactOpenFindingsRow.holds Try.pinned (OpenSpec.ofChange fnExactOpenFindingsWrong)

/-- 'laws.FnExactDueDays': WHATEVER THE INPUT: true; the input reads as it did. -/
def fnExactDueDaysSpec : ChangeSpec := { name := "fnExactDueDays", fn := fun _ => fun
  | [d] => { results := [.lit (.bool true)], args := [d] }
  | _ => none }
def fnExactDueDaysRow : OpenClaim := { program := "ytfnmmfopbfmkaaa", sum := "d156b232dc88ea4e9301e2c6750ffeec0d2ca7fb355bf760f0b02def3732335f", func := "loop.example/g00932/laws.FnExactDueDays", spec := "fnExactDueDays", unfollowed := true, recurses := true, apart := false }
def FnExactDueDaysSaid : Prop := fnExactDueDaysRow.holds Try.pinned (OpenSpec.ofChange fnExactDueDaysSpec)

/-- ITS FALSE NEIGHBOUR: 'it returns false'. Refute it at one input. -/
def fnExactDueDaysWrong : ChangeSpec := { name := "fnExactDueDays", fn := fun _ => fun
  | [d] => { results := [.lit (.bool false)], args := [d] }
  | _ => none }
def FnExactDueDaysWrongFalsely : Prop := fnExactDueDaysRow.holds Try.pinned (OpenSpec.ofChange fnExactDueDaysWrong)

/-- 'laws.FnExactDoCheck': WHATEVER THE INPUT: true; the input reads as it did. -/
def fnExactDoCheckSpec : ChangeSpec := { name := "fnExactDoCheck", fn := fun _ => fun
  | [d1, d2, d3] => { results := [.lit (.bool true)], args := [d1, d2, d3] }
  | _ => none }
def fnExactDoCheckRow : OpenClaim := { program := "ytfnmmfopbfmkaaa", sum := "d156b232dc88ea4e9301e2c6750ffeec0d2ca7fb355bf760f0b02def3732335f", func := "loop.example/g00932/laws.FnExactDoCheck", spec := "fnExactDoCheck", unfollowed := true, recurses := true, apart := false }
def FnExactDoCheckSaid : Prop := fnExactDoCheckRow.holds Try.pinned (OpenSpec.ofChange fnExactDoCheckSpec)

/-- ITS FALSE NEIGHBOUR: 'it returns false'. Refute it at one input. -/
def fnExactDoCheckWrong : ChangeSpec := { name := "fnExactDoCheck", fn := fun _ => fun
  | [d1, d2, d3] => { results := [.lit (.bool false)], args := [d1, d2, d3] }
  | _ => none }
def FnExactDoCheckWrongFalsely : Prop := fnExactDoCheckRow.holds Try.pinned (OpenSpec.ofChange fnExactDoCheckWrong)

/-- 'laws.FnExactOverdueChecks': WHATEVER THE INPUT: true; the input reads as it did. -/
def fnExactOverdueChecksSpec : ChangeSpec := { name := "fnExactOverdueChecks", fn := fun _ => fun
  | [d1, d2] => { results := [.lit (.bool true)], args := [d1, d2] }
  | _ => none }
def fnExactOverdueChecksRow : OpenClaim := { program := "ytfnmmfopbfmkaaa", sum := "d156b232dc88ea4e9301e2c6750ffeec0d2ca7fb355bf760f0b02def3732335f", func := "loop.example/g00932/laws.FnExactOverdueChecks", spec := "fnExactOverdueChecks", unfollowed := true, recurses := true, apart := false }
def FnExactOverdueChecksSaid : Prop := fnExactOverdueChecksRow.holds Try.pinned (OpenSpec.ofChange fnExactOverdueChecksSpec)

/-- ITS FALSE NEIGHBOUR: 'it returns false'. Refute it at one input. -/
def fnExactOverdueChecksWrong : ChangeSpec := { name := "fnExactOverdueChecks", fn := fun _ => fun
  | [d1, d2] => { results := [.lit (.bool false)], args := [d1, d2] }
  | _ => none }
def FnExactOverdueChecksWrongFalsely : Prop := fnExactOverdueChecksRow.holds Try.pinned (OpenSpec.ofChange fnExactOverdueChecksWrong)

/-- 'laws.FnExactPlanChecks': WHATEVER THE INPUT: true; the input reads as it did. -/
def fnExactPlanChecksSpec : ChangeSpec := { name := "fnExactPlanChecks", fn := fun _ => fun
  | [d1, d2] => { results := [.lit (.bool true)], args := [d1, d2] }
  | _ => none }
def fnExactPlanChecksRow : OpenClaim := { program := "ytfnmmfopbfmkaaa", sum := "d156b232dc88ea4e9301e2c6750ffeec0d2ca7fb355bf760f0b02def3732335f", func := "loop.example/g00932/laws.FnExactPlanChecks", spec := "fnExactPlanChecks", unfollowed := true, recurses := true, apart := false }
def FnExactPlanChecksSaid : Prop := fnExactPlanChecksRow.holds Try.pinned (OpenSpec.ofChange fnExactPlanChecksSpec)

/-- ITS FALSE NEIGHBOUR: 'it returns false'. Refute it at one input. -/
def fnExactPlanChecksWrong : ChangeSpec := { name := "fnExactPlanChecks", fn := fun _ => fun
  | [d1, d2] => { results := [.lit (.bool false)], args := [d1, d2] }
  | _ => none }
def FnExactPlanChecksWrongFalsely : Prop := fnExactPlanChecksRow.holds Try.pinned (OpenSpec.ofChange fnExactPlanChecksWrong)

/-- 'laws.FnExactMayWork': WHATEVER THE INPUT: true; the input reads as it did. -/
def fnExactMayWorkSpec : ChangeSpec := { name := "fnExactMayWork", fn := fun _ => fun
  | [d1, d2, d3, d4] => { results := [.lit (.bool true)], args := [d1, d2, d3, d4] }
  | _ => none }
def fnExactMayWorkRow : OpenClaim := { program := "ytfnmmfopbfmkaaa", sum := "d156b232dc88ea4e9301e2c6750ffeec0d2ca7fb355bf760f0b02def3732335f", func := "loop.example/g00932/laws.FnExactMayWork", spec := "fnExactMayWork", unfollowed := true, recurses := true, apart := false }
def FnExactMayWorkSaid : Prop := fnExactMayWorkRow.holds Try.pinned (OpenSpec.ofChange fnExactMayWorkSpec)

/-- ITS FALSE NEIGHBOUR: 'it returns false'. Refute it at one input. -/
def fnExactMayWorkWrong : ChangeSpec := { name := "fnExactMayWork", fn := fun _ => fun
  | [d1, d2, d3, d4] => { results := [.lit (.bool false)], args := [d1, d2, d3, d4] }
  | _ => none }
def FnExactMayWorkWrongFalsely : Prop := fnExactMayWorkRow.holds Try.pinned (OpenSpec.ofChange fnExactMayWorkWrong)

/-- 'laws.FnExactFirstWorkDay': WHATEVER THE INPUT: true; the input reads as it did. -/
def fnExactFirstWorkDaySpec : ChangeSpec := { name := "fnExactFirstWorkDay", fn := fun _ => fun
  | [d1, d2, d3, d4] => { results := [.lit (.bool true)], args := [d1, d2, d3, d4] }
  | _ => none }
def fnExactFirstWorkDayRow : OpenClaim := { program := "ytfnmmfopbfmkaaa", sum := "d156b232dc88ea4e9301e2c6750ffeec0d2ca7fb355bf760f0b02def3732335f", func := "loop.example/g00932/laws.FnExactFirstWorkDay", spec := "fnExactFirstWorkDay", unfollowed := true, recurses := true, apart := false }
def FnExactFirstWorkDaySaid : Prop := fnExactFirstWorkDayRow.holds Try.pinned (OpenSpec.ofChange fnExactFirstWorkDaySpec)

/-- ITS FALSE NEIGHBOUR: 'it returns false'. Refute it at one input. -/
def fnExactFirstWorkDayWrong : ChangeSpec := { name := "fnExactFirstWorkDay", fn := fun _ => fun
  | [d1, d2, d3, d4] => { results := [.lit (.bool false)], args := [d1, d2, d3, d4] }
  | _ => none }
def FnExactFirstWorkDayWrongFalsely : Prop := fnExactFirstWorkDayRow.holds Try.pinned (OpenSpec.ofChange fnExactFirstWorkDayWrong)

/- THE SECOND FORM. 'bulk': how many values and letters a reading holds, each counted each time it is reached (what is shared counts as often as it is met; a slice's spare places count too). A statement '..UptoSaid' is the law's where the arguments, and the package variables that the reading takes, are together of bulk at most 1048576: NARROWER than '..Said'. Prove '..Said' where nothing that the law and all that it calls make is longer than what came in: it says more and counts as full. Else prove '..UptoSaid'. A law counts once. -/
mutual
def uptoBulk {H : Type} : DataW H → Nat
  | .lit (.string bytes) => bytes.length + 1
  | .lit _ => 1
  | .nil => 1
  | .ptr d => uptoBulk d + 1
  | .slice elems spare => uptoBulkAll elems + uptoBulkAll spare + 1
  | .agg parts => uptoBulkAll parts + 1
  | .iface _ d => uptoBulk d + 1
  | .map entries => uptoBulkEntries entries + 1
  | .held _ => 1
def uptoBulkAll {H : Type} : List (DataW H) → Nat
  | [] => 0
  | d :: r => uptoBulk d + uptoBulkAll r
def uptoBulkEntries {H : Type} : List (Lit × DataW H) → Nat
  | [] => 0
  | x :: r => uptoBulkEntry x + uptoBulkEntries r
def uptoBulkEntry {H : Type} : Lit × DataW H → Nat
  | (.string bytes, d) => bytes.length + uptoBulk d + 1
  | (_, d) => uptoBulk d + 1
 end
def uptoSmall : (H : Type) → List (DataW H) → Bool := fun _ ds => decide (uptoBulkAll ds ≤ 1048576)
def OpenSpec.upto (s : _root_.Go.ChangeSpec) : _root_.Go.OpenSpec := { _root_.Go.OpenSpec.ofChange s with cond := some uptoSmall }

/-- 'laws.FnExactValidFindings', WHERE WHAT IT READS IS OF BULK AT MOST 1048576: true; the input reads as it did. -/
def fnExactValidFindingsUptoRow : OpenClaim := { program := "ytfnmmfopbfmkaaa", sum := "d156b232dc88ea4e9301e2c6750ffeec0d2ca7fb355bf760f0b02def3732335f", func := "loop.example/g00932/laws.FnExactValidFindings", spec := "fnExactValidFindings", unfollowed := true, recurses := true, apart := false, narrowed := true }
def FnExactValidFindingsUptoSaid : Prop := fnExactValidFindingsUptoRow.holds Try.pinned (OpenSpec.upto fnExactValidFindingsSpec)

/-- 'laws.FnExactSameChecks', WHERE WHAT IT READS IS OF BULK AT MOST 1048576: true; the input reads as it did. -/
def fnExactSameChecksUptoRow : OpenClaim := { program := "ytfnmmfopbfmkaaa", sum := "d156b232dc88ea4e9301e2c6750ffeec0d2ca7fb355bf760f0b02def3732335f", func := "loop.example/g00932/laws.FnExactSameChecks", spec := "fnExactSameChecks", apart := false, narrowed := true }
def FnExactSameChecksUptoSaid : Prop := fnExactSameChecksUptoRow.holds Try.pinned (OpenSpec.upto fnExactSameChecksSpec)

/-- 'laws.FnWorkDays', WHERE WHAT IT READS IS OF BULK AT MOST 1048576: true; the input reads as it did. -/
def fnWorkDaysUptoRow : OpenClaim := { program := "ytfnmmfopbfmkaaa", sum := "d156b232dc88ea4e9301e2c6750ffeec0d2ca7fb355bf760f0b02def3732335f", func := "loop.example/g00932/laws.FnWorkDays", spec := "fnWorkDays", unfollowed := true, recurses := true, apart := false, narrowed := true }
def FnWorkDaysUptoSaid : Prop := fnWorkDaysUptoRow.holds Try.pinned (OpenSpec.upto fnWorkDaysSpec)

/-- 'laws.FnExactValidChecks', WHERE WHAT IT READS IS OF BULK AT MOST 1048576: true; the input reads as it did. -/
def fnExactValidChecksUptoRow : OpenClaim := { program := "ytfnmmfopbfmkaaa", sum := "d156b232dc88ea4e9301e2c6750ffeec0d2ca7fb355bf760f0b02def3732335f", func := "loop.example/g00932/laws.FnExactValidChecks", spec := "fnExactValidChecks", unfollowed := true, recurses := true, apart := false, narrowed := true }
def FnExactValidChecksUptoSaid : Prop := fnExactValidChecksUptoRow.holds Try.pinned (OpenSpec.upto fnExactValidChecksSpec)

/-- 'laws.FnExactCloseFinding', WHERE WHAT IT READS IS OF BULK AT MOST 1048576: true; the input reads as it did. -/
def fnExactCloseFindingUptoRow : OpenClaim := { program := "ytfnmmfopbfmkaaa", sum := "d156b232dc88ea4e9301e2c6750ffeec0d2ca7fb355bf760f0b02def3732335f", func := "loop.example/g00932/laws.FnExactCloseFinding", spec := "fnExactCloseFinding", unfollowed := true, recurses := true, apart := false, narrowed := true }
def FnExactCloseFindingUptoSaid : Prop := fnExactCloseFindingUptoRow.holds Try.pinned (OpenSpec.upto fnExactCloseFindingSpec)

/-- 'laws.FnExactOpenFindings', WHERE WHAT IT READS IS OF BULK AT MOST 1048576: true; the input reads as it did. -/
def fnExactOpenFindingsUptoRow : OpenClaim := { program := "ytfnmmfopbfmkaaa", sum := "d156b232dc88ea4e9301e2c6750ffeec0d2ca7fb355bf760f0b02def3732335f", func := "loop.example/g00932/laws.FnExactOpenFindings", spec := "fnExactOpenFindings", unfollowed := true, recurses := true, apart := false, narrowed := true }
def FnExactOpenFindingsUptoSaid : Prop := fnExactOpenFindingsUptoRow.holds Try.pinned (OpenSpec.upto fnExactOpenFindingsSpec)

/-- 'laws.FnExactDueDays', WHERE WHAT IT READS IS OF BULK AT MOST 1048576: true; the input reads as it did. -/
def fnExactDueDaysUptoRow : OpenClaim := { program := "ytfnmmfopbfmkaaa", sum := "d156b232dc88ea4e9301e2c6750ffeec0d2ca7fb355bf760f0b02def3732335f", func := "loop.example/g00932/laws.FnExactDueDays", spec := "fnExactDueDays", unfollowed := true, recurses := true, apart := false, narrowed := true }
def FnExactDueDaysUptoSaid : Prop := fnExactDueDaysUptoRow.holds Try.pinned (OpenSpec.upto fnExactDueDaysSpec)

/-- 'laws.FnExactDoCheck', WHERE WHAT IT READS IS OF BULK AT MOST 1048576: true; the input reads as it did. -/
def fnExactDoCheckUptoRow : OpenClaim := { program := "ytfnmmfopbfmkaaa", sum := "d156b232dc88ea4e9301e2c6750ffeec0d2ca7fb355bf760f0b02def3732335f", func := "loop.example/g00932/laws.FnExactDoCheck", spec := "fnExactDoCheck", unfollowed := true, recurses := true, apart := false, narrowed := true }
def FnExactDoCheckUptoSaid : Prop := fnExactDoCheckUptoRow.holds Try.pinned (OpenSpec.upto fnExactDoCheckSpec)

/-- 'laws.FnExactOverdueChecks', WHERE WHAT IT READS IS OF BULK AT MOST 1048576: true; the input reads as it did. -/
def fnExactOverdueChecksUptoRow : OpenClaim := { program := "ytfnmmfopbfmkaaa", sum := "d156b232dc88ea4e9301e2c6750ffeec0d2ca7fb355bf760f0b02def3732335f", func := "loop.example/g00932/laws.FnExactOverdueChecks", spec := "fnExactOverdueChecks", unfollowed := true, recurses := true, apart := false, narrowed := true }
def FnExactOverdueChecksUptoSaid : Prop := fnExactOverdueChecksUptoRow.holds Try.pinned (OpenSpec.upto fnExactOverdueChecksSpec)

/-- 'laws.FnExactPlanChecks', WHERE WHAT IT READS IS OF BULK AT MOST 1048576: true; the input reads as it did. -/
def fnExactPlanChecksUptoRow : OpenClaim := { program := "ytfnmmfopbfmkaaa", sum := "d156b232dc88ea4e9301e2c6750ffeec0d2ca7fb355bf760f0b02def3732335f", func := "loop.example/g00932/laws.FnExactPlanChecks", spec := "fnExactPlanChecks", unfollowed := true, recurses := true, apart := false, narrowed := true }
def FnExactPlanChecksUptoSaid : Prop := fnExactPlanChecksUptoRow.holds Try.pinned (OpenSpec.upto fnExactPlanChecksSpec)

/-- 'laws.FnExactMayWork', WHERE WHAT IT READS IS OF BULK AT MOST 1048576: true; the input reads as it did. -/
def fnExactMayWorkUptoRow : OpenClaim := { program := "ytfnmmfopbfmkaaa", sum := "d156b232dc88ea4e9301e2c6750ffeec0d2ca7fb355bf760f0b02def3732335f", func := "loop.example/g00932/laws.FnExactMayWork", spec := "fnExactMayWork", unfollowed := true, recurses := true, apart := false, narrowed := true }
def FnExactMayWorkUptoSaid : Prop := fnExactMayWorkUptoRow.holds Try.pinned (OpenSpec.upto fnExactMayWorkSpec)

/-- 'laws.FnExactFirstWorkDay', WHERE WHAT IT READS IS OF BULK AT MOST 1048576: true; the input reads as it did. -/
def fnExactFirstWorkDayUptoRow : OpenClaim := { program := "ytfnmmfopbfmkaaa", sum := "d156b232dc88ea4e9301e2c6750ffeec0d2ca7fb355bf760f0b02def3732335f", func := "loop.example/g00932/laws.FnExactFirstWorkDay", spec := "fnExactFirstWorkDay", unfollowed := true, recurses := true, apart := false, narrowed := true }
def FnExactFirstWorkDayUptoSaid : Prop := fnExactFirstWorkDayUptoRow.holds Try.pinned (OpenSpec.upto fnExactFirstWorkDaySpec)

end Rows
end Go.Proofs.Ytfnmmfopbfmkaaa
