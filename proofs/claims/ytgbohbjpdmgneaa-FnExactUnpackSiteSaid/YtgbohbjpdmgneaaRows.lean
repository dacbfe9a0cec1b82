/-
  No cell of these rows narrows 'for every input' (looked for: loops, veiled, ifaces, maps, wideKeys, modest, calm, conditions, laid).
  DERIVED. THE GIVEN ROWS OF THIS SEAT. 9 by the template 'for every input the law returns true; each argument reads behind the call as it read before'; 0 by the template 'total and deterministic' (their statements: YtgbohbjpdmgneaaTotals.lean).
  GIVEN WITH THE SEED: the statements are not yours to turn. If you find one false, say at which input.
  Laid BY PROGRAM, IN A SANDBOX (cutbox-rows.mjs): the forced cells as the released guide's own fill.sh prints them over the translation 56afa714732f8976… (all of the seat's roots in one cut). By AI agents, Wed Nov 11 2026. No macro, syntax, notation, axiom, sorry.
-/
import Derived.Test.YtgbohbjpdmgneaaChecked
import GoSem.Claim
import GoSem.ClaimJoined
import GoSem.ClaimMapViews
import Derived.JoinedTies
import Derived.KernelRfl
namespace Go.Proofs.Ytgbohbjpdmgneaa
/- THE CELL 'sum', in the pinned program and in every row, IS THE sha256 OF THE DUMP (.gsa) THAT YtgbohbjpdmgneaaProg.lean LOADS. Nothing in Lean hashes anything: it is a label: what it is worth is what the hold of that sum in a sandbox is worth. -/
noncomputable def Try.pinned : Pinned := { name := "ytgbohbjpdmgneaa", sum := "56afa714732f897629d1e0a3214fa293b7420cc8890f4fa26e3dfa5dd7a9a054", checked := Try.checked }
namespace Rows
def none {H : Type} : Left H := { results := [], args := [] }

/-- 'laws.FnExactPackLifts': WHATEVER THE INPUT: true; the input reads as it did. -/
def fnExactPackLiftsSpec : ChangeSpec := { name := "fnExactPackLifts", fn := fun _ => fun
  | [d] => { results := [.lit (.bool true)], args := [d] }
  | _ => none }
def fnExactPackLiftsRow : OpenClaim := { program := "ytgbohbjpdmgneaa", sum := "56afa714732f897629d1e0a3214fa293b7420cc8890f4fa26e3dfa5dd7a9a054", func := "loop.example/g00932/laws.FnExactPackLifts", spec := "fnExactPackLifts", inPlace := ["internal/abi.NoEscape"], apart := false }
def FnExactPackLiftsSaid : Prop := fnExactPackLiftsRow.holds Try.pinned (OpenSpec.ofChange fnExactPackLiftsSpec)

/-- ITS FALSE NEIGHBOUR: 'it returns false'. Refute it at one input. -/
def fnExactPackLiftsWrong : ChangeSpec := { name := "fnExactPackLifts", fn := fun _ => fun
  | [d] => { results := [.lit (.bool false)], args := [d] }
  | _ => none }
def FnExactPackLiftsWrongFalsely : Prop := fnExactPackLiftsRow.holds Try.pinned (OpenSpec.ofChange fnExactPackLiftsWrong)

/-- 'laws.FnExactPackSite': WHATEVER THE INPUT: true; the input reads as it did. -/
def fnExactPackSiteSpec : ChangeSpec := { name := "fnExactPackSite", fn := fun _ => fun
  | [d] => { results := [.lit (.bool true)], args := [d] }
  | _ => none }
def fnExactPackSiteRow : OpenClaim := { program := "ytgbohbjpdmgneaa", sum := "56afa714732f897629d1e0a3214fa293b7420cc8890f4fa26e3dfa5dd7a9a054", func := "loop.example/g00932/laws.FnExactPackSite", spec := "fnExactPackSite", inPlace := ["internal/abi.NoEscape"], apart := false }
def FnExactPackSiteSaid : Prop := fnExactPackSiteRow.holds Try.pinned (OpenSpec.ofChange fnExactPackSiteSpec)

/-- ITS FALSE NEIGHBOUR: 'it returns false'. Refute it at one input. -/
def fnExactPackSiteWrong : ChangeSpec := { name := "fnExactPackSite", fn := fun _ => fun
  | [d] => { results := [.lit (.bool false)], args := [d] }
  | _ => none }
def FnExactPackSiteWrongFalsely : Prop := fnExactPackSiteRow.holds Try.pinned (OpenSpec.ofChange fnExactPackSiteWrong)

/-- 'laws.FnSites': WHATEVER THE INPUT: true; the input reads as it did. -/
def fnSitesSpec : ChangeSpec := { name := "fnSites", fn := fun _ => fun
  | [d1, d2] => { results := [.lit (.bool true)], args := [d1, d2] }
  | _ => none }
def fnSitesRow : OpenClaim := { program := "ytgbohbjpdmgneaa", sum := "56afa714732f897629d1e0a3214fa293b7420cc8890f4fa26e3dfa5dd7a9a054", func := "loop.example/g00932/laws.FnSites", spec := "fnSites", unfollowed := true, recurses := true, apart := false }
def FnSitesSaid : Prop := fnSitesRow.holds Try.pinned (OpenSpec.ofChange fnSitesSpec)

/-- ITS FALSE NEIGHBOUR: 'it returns false'. Refute it at one input. -/
def fnSitesWrong : ChangeSpec := { name := "fnSites", fn := fun _ => fun
  | [d1, d2] => { results := [.lit (.bool false)], args := [d1, d2] }
  | _ => none }
def FnSitesWrongFalsely : Prop := fnSitesRow.holds Try.pinned (OpenSpec.ofChange fnSitesWrong)

/-- 'laws.FnExactRemoveCrane': WHATEVER THE INPUT: true; the input reads as it did. -/
def fnExactRemoveCraneSpec : ChangeSpec := { name := "fnExactRemoveCrane", fn := fun _ => fun
  | [d1, d2] => { results := [.lit (.bool true)], args := [d1, d2] }
  | _ => none }
def fnExactRemoveCraneRow : OpenClaim := { program := "ytgbohbjpdmgneaa", sum := "56afa714732f897629d1e0a3214fa293b7420cc8890f4fa26e3dfa5dd7a9a054", func := "loop.example/g00932/laws.FnExactRemoveCrane", spec := "fnExactRemoveCrane", apart := false }
def FnExactRemoveCraneSaid : Prop := fnExactRemoveCraneRow.holds Try.pinned (OpenSpec.ofChange fnExactRemoveCraneSpec)

/-- ITS FALSE NEIGHBOUR: 'it returns false'. Refute it at one input. -/
def fnExactRemoveCraneWrong : ChangeSpec := { name := "fnExactRemoveCrane", fn := fun _ => fun
  | [d1, d2] => { results := [.lit (.bool false)], args := [d1, d2] }
  | _ => none }
def FnExactRemoveCraneWrongFalsely : Prop := fnExactRemoveCraneRow.holds Try.pinned (OpenSpec.ofChange fnExactRemoveCraneWrong)

/-- 'laws.FnExactAddCrane': WHATEVER THE INPUT: true; the input reads as it did. -/
def fnExactAddCraneSpec : ChangeSpec := { name := "fnExactAddCrane", fn := fun _ => fun
  | [d1, d2] => { results := [.lit (.bool true)], args := [d1, d2] }
  | _ => none }
def fnExactAddCraneRow : OpenClaim := { program := "ytgbohbjpdmgneaa", sum := "56afa714732f897629d1e0a3214fa293b7420cc8890f4fa26e3dfa5dd7a9a054", func := "loop.example/g00932/laws.FnExactAddCrane", spec := "fnExactAddCrane", unfollowed := true, recurses := true, apart := false }
def FnExactAddCraneSaid : Prop := fnExactAddCraneRow.holds Try.pinned (OpenSpec.ofChange fnExactAddCraneSpec)

/-- ITS FALSE NEIGHBOUR: 'it returns false'. Refute it at one input. -/
def fnExactAddCraneWrong : ChangeSpec := { name := "fnExactAddCrane", fn := fun _ => fun
  | [d1, d2] => { results := [.lit (.bool false)], args := [d1, d2] }
  | _ => none }
def FnExactAddCraneWrongFalsely : Prop := fnExactAddCraneRow.holds Try.pinned (OpenSpec.ofChange fnExactAddCraneWrong)

/-- 'laws.FnExactUnpackLifts': WHATEVER THE INPUT: true; the input reads as it did. -/
def fnExactUnpackLiftsSpec : ChangeSpec := { name := "fnExactUnpackLifts", fn := fun _ => fun
  | [d] => { results := [.lit (.bool true)], args := [d] }
  | _ => none }
def fnExactUnpackLiftsRow : OpenClaim := { program := "ytgbohbjpdmgneaa", sum := "56afa714732f897629d1e0a3214fa293b7420cc8890f4fa26e3dfa5dd7a9a054", func := "loop.example/g00932/laws.FnExactUnpackLifts", spec := "fnExactUnpackLifts", inPlace := ["internal/abi.NoEscape"], apart := false }
def FnExactUnpackLiftsSaid : Prop := fnExactUnpackLiftsRow.holds Try.pinned (OpenSpec.ofChange fnExactUnpackLiftsSpec)

/-- ITS FALSE NEIGHBOUR: 'it returns false'. Refute it at one input. -/
def fnExactUnpackLiftsWrong : ChangeSpec := { name := "fnExactUnpackLifts", fn := fun _ => fun
  | [d] => { results := [.lit (.bool false)], args := [d] }
  | _ => none }
def FnExactUnpackLiftsWrongFalsely : Prop := fnExactUnpackLiftsRow.holds Try.pinned (OpenSpec.ofChange fnExactUnpackLiftsWrong)

/-- 'laws.FnExactUnpackSite': WHATEVER THE INPUT: true; the input reads as it did. -/
def fnExactUnpackSiteSpec : ChangeSpec := { name := "fnExactUnpackSite", fn := fun _ => fun
  | [d] => { results := [.lit (.bool true)], args := [d] }
  | _ => none }
def fnExactUnpackSiteRow : OpenClaim := { program := "ytgbohbjpdmgneaa", sum := "56afa714732f897629d1e0a3214fa293b7420cc8890f4fa26e3dfa5dd7a9a054", func := "loop.example/g00932/laws.FnExactUnpackSite", spec := "fnExactUnpackSite", inPlace := ["internal/abi.NoEscape"], apart := false }
def FnExactUnpackSiteSaid : Prop := fnExactUnpackSiteRow.holds Try.pinned (OpenSpec.ofChange fnExactUnpackSiteSpec)

/-- ITS FALSE NEIGHBOUR: 'it returns false'. Refute it at one input. -/
def fnExactUnpackSiteWrong : ChangeSpec := { name := "fnExactUnpackSite", fn := fun _ => fun
  | [d] => { results := [.lit (.bool false)], args := [d] }
  | _ => none }
def FnExactUnpackSiteWrongFalsely : Prop := fnExactUnpackSiteRow.holds Try.pinned (OpenSpec.ofChange fnExactUnpackSiteWrong)

/-- 'laws.FnExactClimbHeights': WHATEVER THE INPUT: true; the input reads as it did. -/
def fnExactClimbHeightsSpec : ChangeSpec := { name := "fnExactClimbHeights", fn := fun _ => fun
  | [d1, d2, d3] => { results := [.lit (.bool true)], args := [d1, d2, d3] }
  | _ => none }
def fnExactClimbHeightsRow : OpenClaim := { program := "ytgbohbjpdmgneaa", sum := "56afa714732f897629d1e0a3214fa293b7420cc8890f4fa26e3dfa5dd7a9a054", func := "loop.example/g00932/laws.FnExactClimbHeights", spec := "fnExactClimbHeights", unfollowed := true, recurses := true, apart := false }
def FnExactClimbHeightsSaid : Prop := fnExactClimbHeightsRow.holds Try.pinned (OpenSpec.ofChange fnExactClimbHeightsSpec)

/-- ITS FALSE NEIGHBOUR: 'it returns false'. Refute it at one input. -/
def fnExactClimbHeightsWrong : ChangeSpec := { name := "fnExactClimbHeights", fn := fun _ => fun
  | [d1, d2, d3] => { results := [.lit (.bool false)], args := [d1, d2, d3] }
  | _ => none }
def FnExactClimbHeightsWrongFalsely : Prop := fnExactClimbHeightsRow.holds Try.pinned (OpenSpec.ofChange fnExactClimbHeightsWrong)

/-- 'laws.FnExactClimbedSite': WHATEVER THE INPUT: true; the input reads as it did. -/
def fnExactClimbedSiteSpec : ChangeSpec := { name := "fnExactClimbedSite", fn := fun _ => fun
  | [d1, d2, d3] => { results := [.lit (.bool true)], args := [d1, d2, d3] }
  | _ => none }
def fnExactClimbedSiteRow : OpenClaim := { program := "ytgbohbjpdmgneaa", sum := "56afa714732f897629d1e0a3214fa293b7420cc8890f4fa26e3dfa5dd7a9a054", func := "loop.example/g00932/laws.FnExactClimbedSite", spec := "fnExactClimbedSite", unfollowed := true, recurses := true, apart := false }
def FnExactClimbedSiteSaid : Prop := fnExactClimbedSiteRow.holds Try.pinned (OpenSpec.ofChange fnExactClimbedSiteSpec)

/-- ITS FALSE NEIGHBOUR: 'it returns false'. Refute it at one input. -/
def fnExactClimbedSiteWrong : ChangeSpec := { name := "fnExactClimbedSite", fn := fun _ => fun
  | [d1, d2, d3] => { results := [.lit (.bool false)], args := [d1, d2, d3] }
  | _ => none }
def FnExactClimbedSiteWrongFalsely : Prop := fnExactClimbedSiteRow.holds Try.pinned (OpenSpec.ofChange fnExactClimbedSiteWrong)

/- THE SECOND FORM. 'bulk': how many values and letters a reading holds, each counted each time it is reached (what is shared counts as often as it is met; a slice's spare places count too). A statement '..UptoSaid' is the law's where the arguments, and the package variables that the reading takes, are together of bulk at most 1048576: NARROWER than '..Said'. Prove '..Said' where nothing that the law and all that it calls make is longer than what came in: it says more and counts as full. Else prove '..UptoSaid'. A law counts once. -/
mutual
def uptoBulk {H : Type} : DataW H → Nat
  | .lit (.string bytes) => bytes.length + 1
  | .lit _ => 1
  | .nil => 1
  | .ptr d => uptoBulk d + 1
  | .slice elems spare => uptoBulkAll elems + uptoBulkAll spare + 1
  | .agg parts => uptoBulkAll parts + 1
  | .iface _ d => uptoBulk d + 1
  | .map entries => uptoBulkEntries entries + 1
  | .held _ => 1
def uptoBulkAll {H : Type} : List (DataW H) → Nat
  | [] => 0
  | d :: r => uptoBulk d + uptoBulkAll r
def uptoBulkEntries {H : Type} : List (Lit × DataW H) → Nat
  | [] => 0
  | x :: r => uptoBulkEntry x + uptoBulkEntries r
def uptoBulkEntry {H : Type} : Lit × DataW H → Nat
  | (.string bytes, d) => bytes.length + uptoBulk d + 1
  | (_, d) => uptoBulk d + 1
 end
def uptoSmall : (H : Type) → List (DataW H) → Bool := fun _ ds => decide (uptoBulkAll ds ≤ 1048576)
def OpenSpec.upto (s : _root_.Go.ChangeSpec) : _root_.Go.OpenSpec := { _root_.Go.OpenSpec.ofChange s with cond := some uptoSmall }

/-- 'laws.FnExactPackLifts', WHERE WHAT IT READS IS OF BULK AT MOST 1048576: true; the input reads as it did. -/
def fnExactPackLiftsUptoRow : OpenClaim := { program := "ytgbohbjpdmgneaa", sum := "56afa714732f897629d1e0a3214fa293b7420cc8890f4fa26e3dfa5dd7a9a054", func := "loop.example/g00932/laws.FnExactPackLifts", spec := "fnExactPackLifts", inPlace := ["internal/abi.NoEscape"], apart := false, narrowed := true }
def FnExactPackLiftsUptoSaid : Prop := fnExactPackLiftsUptoRow.holds Try.pinned (OpenSpec.upto fnExactPackLiftsSpec)

/-- 'laws.FnExactPackSite', WHERE WHAT IT READS IS OF BULK AT MOST 1048576: true; the input reads as it did. -/
def fnExactPackSiteUptoRow : OpenClaim := { program := "ytgbohbjpdmgneaa", sum := "56afa714732f897629d1e0a3214fa293b7420cc8890f4fa26e3dfa5dd7a9a054", func := "loop.example/g00932/laws.FnExactPackSite", spec := "fnExactPackSite", inPlace := ["internal/abi.NoEscape"], apart := false, narrowed := true }
def FnExactPackSiteUptoSaid : Prop := fnExactPackSiteUptoRow.holds Try.pinned (OpenSpec.upto fnExactPackSiteSpec)

/-- 'laws.FnSites', WHERE WHAT IT READS IS OF BULK AT MOST 1048576: true; the input reads as it did. -/
def fnSitesUptoRow : OpenClaim := { program := "ytgbohbjpdmgneaa", sum := "56afa714732f897629d1e0a3214fa293b7420cc8890f4fa26e3dfa5dd7a9a054", func := "loop.example/g00932/laws.FnSites", spec := "fnSites", unfollowed := true, recurses := true, apart := false, narrowed := true }
def FnSitesUptoSaid : Prop := fnSitesUptoRow.holds Try.pinned (OpenSpec.upto fnSitesSpec)

/-- 'laws.FnExactRemoveCrane', WHERE WHAT IT READS IS OF BULK AT MOST 1048576: true; the input reads as it did. -/
def fnExactRemoveCraneUptoRow : OpenClaim := { program := "ytgbohbjpdmgneaa", sum := "56afa714732f897629d1e0a3214fa293b7420cc8890f4fa26e3dfa5dd7a9a054", func := "loop.example/g00932/laws.FnExactRemoveCrane", spec := "fnExactRemoveCrane", apart := false, narrowed := true }
def FnExactRemoveCraneUptoSaid : Prop := fnExactRemoveCraneUptoRow.holds Try.pinned (OpenSpec.upto fnExactRemoveCraneSpec)

/-- 'laws.FnExactAddCrane', WHERE WHAT IT READS IS OF BULK AT MOST 1048576: true; the input reads as it did. -/
def fnExactAddCraneUptoRow : OpenClaim := { program := "ytgbohbjpdmgneaa", sum := "56afa714732f897629d1e0a3214fa293b7420cc8890f4fa26e3dfa5dd7a9a054", func := "loop.example/g00932/laws.FnExactAddCrane", spec := "fnExactAddCrane", unfollowed := true, recurses := true, apart := false, narrowed := true }
def FnExactAddCraneUptoSaid : Prop := fnExactAddCraneUptoRow.holds Try.pinned (OpenSpec.upto fnExactAddCraneSpec)

/-- 'laws.FnExactUnpackLifts', WHERE WHAT IT READS IS OF BULK AT MOST 1048576: true; the input reads as it did. -/
def fnExactUnpackLiftsUptoRow : OpenClaim := { program := "ytgbohbjpdmgneaa", sum := "56afa714732f897629d1e0a3214fa293b7420cc8890f4fa26e3dfa5dd7a9a054", func := "loop.example/g00932/laws.FnExactUnpackLifts", spec := "fnExactUnpackLifts", inPlace := ["internal/abi.NoEscape"], apart := false, narrowed := true }
def FnExactUnpackLiftsUptoSaid : Prop := fnExactUnpackLiftsUptoRow.holds Try.pinned (OpenSpec.upto fnExactUnpackLiftsSpec)

/-- 'laws.FnExactUnpackSite', WHERE WHAT IT READS IS OF BULK AT MOST 1048576: true; the input reads as it did. -/
def fnExactUnpackSiteUptoRow : OpenClaim := { program := "ytgbohbjpdmgneaa", sum := "56afa714732f897629d1e0a3214fa293b7420cc8890f4fa26e3dfa5dd7a9a054", func := "loop.example/g00932/laws.FnExactUnpackSite", spec := "fnExactUnpackSite", inPlace := ["internal/abi.NoEscape"], apart := false, narrowed := true }
def FnExactUnpackSiteUptoSaid : Prop := fnExactUnpackSiteUptoRow.holds Try.pinned (OpenSpec.upto fnExactUnpackSiteSpec)

/-- 'laws.FnExactClimbHeights', WHERE WHAT IT READS IS OF BULK AT MOST 1048576: true; the input reads as it did. -/
def fnExactClimbHeightsUptoRow : OpenClaim := { program := "ytgbohbjpdmgneaa", sum := "56afa714732f897629d1e0a3214fa293b7420cc8890f4fa26e3dfa5dd7a9a054", func := "loop.example/g00932/laws.FnExactClimbHeights", spec := "fnExactClimbHeights", unfollowed := true, recurses := true, apart := false, narrowed := true }
def FnExactClimbHeightsUptoSaid : Prop := fnExactClimbHeightsUptoRow.holds Try.pinned (OpenSpec.upto fnExactClimbHeightsSpec)

/-- 'laws.FnExactClimbedSite', WHERE WHAT IT READS IS OF BULK AT MOST 1048576: true; the input reads as it did. -/
def fnExactClimbedSiteUptoRow : OpenClaim := { program := "ytgbohbjpdmgneaa", sum := "56afa714732f897629d1e0a3214fa293b7420cc8890f4fa26e3dfa5dd7a9a054", func := "loop.example/g00932/laws.FnExactClimbedSite", spec := "fnExactClimbedSite", unfollowed := true, recurses := true, apart := false, narrowed := true }
def FnExactClimbedSiteUptoSaid : Prop := fnExactClimbedSiteUptoRow.holds Try.pinned (OpenSpec.upto fnExactClimbedSiteSpec)

end Rows
end Go.Proofs.Ytgbohbjpdmgneaa
