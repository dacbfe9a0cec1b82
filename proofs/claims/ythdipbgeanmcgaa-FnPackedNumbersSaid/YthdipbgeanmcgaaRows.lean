/-
  No cell of these rows narrows 'for every input' (looked for: loops, veiled, ifaces, maps, wideKeys, modest, calm, conditions, laid).
  DERIVED. THE GIVEN ROWS OF THIS SEAT. 6 by the template 'for every input the law returns true; each argument reads behind the call as it read before'; 0 by the template 'total and deterministic' (their statements: YthdipbgeanmcgaaTotals.lean).
  GIVEN WITH THE SEED: the statements are not yours to turn. If you find one false, say at which input.
  Laid BY PROGRAM, IN A SANDBOX (cutbox-rows.mjs): the forced cells as the released guide's own fill.sh prints them over the translation 511d5a84fa63adf1… (all of the seat's roots in one cut). By AI agents, Wed Nov 11 2026. No macro, syntax, notation, axiom, sorry.
-/
import Derived.Test.YthdipbgeanmcgaaChecked
import GoSem.Claim
import GoSem.ClaimJoined
import GoSem.ClaimMapViews
import Derived.JoinedTies
import Derived.KernelRfl
namespace Go.Proofs.Ythdipbgeanmcgaa
/- THE CELL 'sum', in the pinned program and in every row, IS THE sha256 OF THE DUMP (.gsa) THAT YthdipbgeanmcgaaProg.lean LOADS. Nothing in Lean hashes anything: it is a label: what it is worth is what the hold of that sum in a sandbox is worth. -/
noncomputable def Try.pinned : Pinned := { name := "ythdipbgeanmcgaa", sum := "511d5a84fa63adf135c820924e42e2b5a3bf9b05d3356b77097d18d8efe066ec", checked := Try.checked }
namespace Rows
def none {H : Type} : Left H := { results := [], args := [] }

/-- 'laws.FnExactSumOf': WHATEVER THE INPUT: true; the input reads as it did. -/
def fnExactSumOfSpec : ChangeSpec := { name := "fnExactSumOf", fn := fun _ => fun
  | [d] => { results := [.lit (.bool true)], args := [d] }
  | _ => none }
def fnExactSumOfRow : OpenClaim := { program := "ythdipbgeanmcgaa", sum := "511d5a84fa63adf135c820924e42e2b5a3bf9b05d3356b77097d18d8efe066ec", func := "loop.example/g00932/laws.FnExactSumOf", spec := "fnExactSumOf", apart := false }
def FnExactSumOfSaid : Prop := fnExactSumOfRow.holds Try.pinned (OpenSpec.ofChange fnExactSumOfSpec)

/-- ITS FALSE NEIGHBOUR: 'it returns false'. Refute it at one input. -/
def fnExactSumOfWrong : ChangeSpec := { name := "fnExactSumOf", fn := fun _ => fun
  | [d] => { results := [.lit (.bool false)], args := [d] }
  | _ => none }
def FnExactSumOfWrongFalsely : Prop := fnExactSumOfRow.holds Try.pinned (OpenSpec.ofChange fnExactSumOfWrong)

/-- 'laws.FnExactHexOf': WHATEVER THE INPUT: true; the input reads as it did. -/
def fnExactHexOfSpec : ChangeSpec := { name := "fnExactHexOf", fn := fun _ => fun
  | [d] => { results := [.lit (.bool true)], args := [d] }
  | _ => none }
def fnExactHexOfRow : OpenClaim := { program := "ythdipbgeanmcgaa", sum := "511d5a84fa63adf135c820924e42e2b5a3bf9b05d3356b77097d18d8efe066ec", func := "loop.example/g00932/laws.FnExactHexOf", spec := "fnExactHexOf", inPlace := ["internal/abi.NoEscape"], apart := false }
def FnExactHexOfSaid : Prop := fnExactHexOfRow.holds Try.pinned (OpenSpec.ofChange fnExactHexOfSpec)

/-- ITS FALSE NEIGHBOUR: 'it returns false'. Refute it at one input. -/
def fnExactHexOfWrong : ChangeSpec := { name := "fnExactHexOf", fn := fun _ => fun
  | [d] => { results := [.lit (.bool false)], args := [d] }
  | _ => none }
def FnExactHexOfWrongFalsely : Prop := fnExactHexOfRow.holds Try.pinned (OpenSpec.ofChange fnExactHexOfWrong)

/-- 'laws.FnExactPackNumber': WHATEVER THE INPUT: true; the input reads as it did. -/
def fnExactPackNumberSpec : ChangeSpec := { name := "fnExactPackNumber", fn := fun _ => fun
  | [d] => { results := [.lit (.bool true)], args := [d] }
  | _ => none }
def fnExactPackNumberRow : OpenClaim := { program := "ythdipbgeanmcgaa", sum := "511d5a84fa63adf135c820924e42e2b5a3bf9b05d3356b77097d18d8efe066ec", func := "loop.example/g00932/laws.FnExactPackNumber", spec := "fnExactPackNumber", inPlace := ["internal/abi.NoEscape"], apart := false }
def FnExactPackNumberSaid : Prop := fnExactPackNumberRow.holds Try.pinned (OpenSpec.ofChange fnExactPackNumberSpec)

/-- ITS FALSE NEIGHBOUR: 'it returns false'. Refute it at one input. -/
def fnExactPackNumberWrong : ChangeSpec := { name := "fnExactPackNumber", fn := fun _ => fun
  | [d] => { results := [.lit (.bool false)], args := [d] }
  | _ => none }
def FnExactPackNumberWrongFalsely : Prop := fnExactPackNumberRow.holds Try.pinned (OpenSpec.ofChange fnExactPackNumberWrong)

/-- 'laws.FnExactReadHex': WHATEVER THE INPUT: true; the input reads as it did. -/
def fnExactReadHexSpec : ChangeSpec := { name := "fnExactReadHex", fn := fun _ => fun
  | [d] => { results := [.lit (.bool true)], args := [d] }
  | _ => none }
def fnExactReadHexRow : OpenClaim := { program := "ythdipbgeanmcgaa", sum := "511d5a84fa63adf135c820924e42e2b5a3bf9b05d3356b77097d18d8efe066ec", func := "loop.example/g00932/laws.FnExactReadHex", spec := "fnExactReadHex", inPlace := ["internal/bytealg.IndexByteString", "internal/abi.NoEscape"], apart := false }
def FnExactReadHexSaid : Prop := fnExactReadHexRow.holds Try.pinned (OpenSpec.ofChange fnExactReadHexSpec)

/-- ITS FALSE NEIGHBOUR: 'it returns false'. Refute it at one input. -/
def fnExactReadHexWrong : ChangeSpec := { name := "fnExactReadHex", fn := fun _ => fun
  | [d] => { results := [.lit (.bool false)], args := [d] }
  | _ => none }
def FnExactReadHexWrongFalsely : Prop := fnExactReadHexRow.holds Try.pinned (OpenSpec.ofChange fnExactReadHexWrong)

/-- 'laws.FnExactUnpackNumber': WHATEVER THE INPUT: true; the input reads as it did. -/
def fnExactUnpackNumberSpec : ChangeSpec := { name := "fnExactUnpackNumber", fn := fun _ => fun
  | [d] => { results := [.lit (.bool true)], args := [d] }
  | _ => none }
def fnExactUnpackNumberRow : OpenClaim := { program := "ythdipbgeanmcgaa", sum := "511d5a84fa63adf135c820924e42e2b5a3bf9b05d3356b77097d18d8efe066ec", func := "loop.example/g00932/laws.FnExactUnpackNumber", spec := "fnExactUnpackNumber", inPlace := ["internal/abi.NoEscape"], apart := false }
def FnExactUnpackNumberSaid : Prop := fnExactUnpackNumberRow.holds Try.pinned (OpenSpec.ofChange fnExactUnpackNumberSpec)

/-- ITS FALSE NEIGHBOUR: 'it returns false'. Refute it at one input. -/
def fnExactUnpackNumberWrong : ChangeSpec := { name := "fnExactUnpackNumber", fn := fun _ => fun
  | [d] => { results := [.lit (.bool false)], args := [d] }
  | _ => none }
def FnExactUnpackNumberWrongFalsely : Prop := fnExactUnpackNumberRow.holds Try.pinned (OpenSpec.ofChange fnExactUnpackNumberWrong)

/-- 'laws.FnPackedNumbers': WHATEVER THE INPUT: true; the input reads as it did. -/
def fnPackedNumbersSpec : ChangeSpec := { name := "fnPackedNumbers", fn := fun _ => fun
  | [d] => { results := [.lit (.bool true)], args := [d] }
  | _ => none }
def fnPackedNumbersRow : OpenClaim := { program := "ythdipbgeanmcgaa", sum := "511d5a84fa63adf135c820924e42e2b5a3bf9b05d3356b77097d18d8efe066ec", func := "loop.example/g00932/laws.FnPackedNumbers", spec := "fnPackedNumbers", inPlace := ["internal/abi.NoEscape", "internal/bytealg.IndexByteString"], apart := false }
def FnPackedNumbersSaid : Prop := fnPackedNumbersRow.holds Try.pinned (OpenSpec.ofChange fnPackedNumbersSpec)

/-- ITS FALSE NEIGHBOUR: 'it returns false'. Refute it at one input. -/
def fnPackedNumbersWrong : ChangeSpec := { name := "fnPackedNumbers", fn := fun _ => fun
  | [d] => { results := [.lit (.bool false)], args := [d] }
  | _ => none }
def FnPackedNumbersWrongFalsely : Prop := fnPackedNumbersRow.holds Try.pinned (OpenSpec.ofChange fnPackedNumbersWrong)

/- THE SECOND FORM. 'bulk': how many values and letters a reading holds, each counted each time it is reached (what is shared counts as often as it is met; a slice's spare places count too). A statement '..UptoSaid' is the law's where the arguments, and the package variables that the reading takes, are together of bulk at most 1048576: NARROWER than '..Said'. Prove '..Said' where nothing that the law and all that it calls make is longer than what came in: it says more and counts as full. Else prove '..UptoSaid'. A law counts once. -/
mutual
def uptoBulk {H : Type} : DataW H → Nat
  | .lit (.string bytes) => bytes.length + 1
  | .lit _ => 1
  | .nil => 1
  | .ptr d => uptoBulk d + 1
  | .slice elems spare => uptoBulkAll elems + uptoBulkAll spare + 1
  | .agg parts => uptoBulkAll parts + 1
  | .iface _ d => uptoBulk d + 1
  | .map entries => uptoBulkEntries entries + 1
  | .held _ => 1
def uptoBulkAll {H : Type} : List (DataW H) → Nat
  | [] => 0
  | d :: r => uptoBulk d + uptoBulkAll r
def uptoBulkEntries {H : Type} : List (Lit × DataW H) → Nat
  | [] => 0
  | x :: r => uptoBulkEntry x + uptoBulkEntries r
def uptoBulkEntry {H : Type} : Lit × DataW H → Nat
  | (.string bytes, d) => bytes.length + uptoBulk d + 1
  | (_, d) => uptoBulk d + 1
 end
def uptoSmall : (H : Type) → List (DataW H) → Bool := fun _ ds => decide (uptoBulkAll ds ≤ 1048576)
def OpenSpec.upto (s : _root_.Go.ChangeSpec) : _root_.Go.OpenSpec := { _root_.Go.OpenSpec.ofChange s with cond := some uptoSmall }

/-- 'laws.FnExactSumOf', WHERE WHAT IT READS IS OF BULK AT MOST 1048576: true; the input reads as it did. -/
def fnExactSumOfUptoRow : OpenClaim := { program := "ythdipbgeanmcgaa", sum := "511d5a84fa63adf135c820924e42e2b5a3bf9b05d3356b77097d18d8efe066ec", func := "loop.example/g00932/laws.FnExactSumOf", spec := "fnExactSumOf", apart := false, narrowed := true }
def FnExactSumOfUptoSaid : Prop := fnExactSumOfUptoRow.holds Try.pinned (OpenSpec.upto fnExactSumOfSpec)

/-- 'laws.FnExactHexOf', WHERE WHAT IT READS IS OF BULK AT MOST 1048576: true; the input reads as it did. -/
def fnExactHexOfUptoRow : OpenClaim := { program := "ythdipbgeanmcgaa", sum := "511d5a84fa63adf135c820924e42e2b5a3bf9b05d3356b77097d18d8efe066ec", func := "loop.example/g00932/laws.FnExactHexOf", spec := "fnExactHexOf", inPlace := ["internal/abi.NoEscape"], apart := false, narrowed := true }
def FnExactHexOfUptoSaid : Prop := fnExactHexOfUptoRow.holds Try.pinned (OpenSpec.upto fnExactHexOfSpec)

/-- 'laws.FnExactPackNumber', WHERE WHAT IT READS IS OF BULK AT MOST 1048576: true; the input reads as it did. -/
def fnExactPackNumberUptoRow : OpenClaim := { program := "ythdipbgeanmcgaa", sum := "511d5a84fa63adf135c820924e42e2b5a3bf9b05d3356b77097d18d8efe066ec", func := "loop.example/g00932/laws.FnExactPackNumber", spec := "fnExactPackNumber", inPlace := ["internal/abi.NoEscape"], apart := false, narrowed := true }
def FnExactPackNumberUptoSaid : Prop := fnExactPackNumberUptoRow.holds Try.pinned (OpenSpec.upto fnExactPackNumberSpec)

/-- 'laws.FnExactReadHex', WHERE WHAT IT READS IS OF BULK AT MOST 1048576: true; the input reads as it did. -/
def fnExactReadHexUptoRow : OpenClaim := { program := "ythdipbgeanmcgaa", sum := "511d5a84fa63adf135c820924e42e2b5a3bf9b05d3356b77097d18d8efe066ec", func := "loop.example/g00932/laws.FnExactReadHex", spec := "fnExactReadHex", inPlace := ["internal/bytealg.IndexByteString", "internal/abi.NoEscape"], apart := false, narrowed := true }
def FnExactReadHexUptoSaid : Prop := fnExactReadHexUptoRow.holds Try.pinned (OpenSpec.upto fnExactReadHexSpec)

/-- 'laws.FnExactUnpackNumber', WHERE WHAT IT READS IS OF BULK AT MOST 1048576: true; the input reads as it did. -/
def fnExactUnpackNumberUptoRow : OpenClaim := { program := "ythdipbgeanmcgaa", sum := "511d5a84fa63adf135c820924e42e2b5a3bf9b05d3356b77097d18d8efe066ec", func := "loop.example/g00932/laws.FnExactUnpackNumber", spec := "fnExactUnpackNumber", inPlace := ["internal/abi.NoEscape"], apart := false, narrowed := true }
def FnExactUnpackNumberUptoSaid : Prop := fnExactUnpackNumberUptoRow.holds Try.pinned (OpenSpec.upto fnExactUnpackNumberSpec)

/-- 'laws.FnPackedNumbers', WHERE WHAT IT READS IS OF BULK AT MOST 1048576: true; the input reads as it did. -/
def fnPackedNumbersUptoRow : OpenClaim := { program := "ythdipbgeanmcgaa", sum := "511d5a84fa63adf135c820924e42e2b5a3bf9b05d3356b77097d18d8efe066ec", func := "loop.example/g00932/laws.FnPackedNumbers", spec := "fnPackedNumbers", inPlace := ["internal/abi.NoEscape", "internal/bytealg.IndexByteString"], apart := false, narrowed := true }
def FnPackedNumbersUptoSaid : Prop := fnPackedNumbersUptoRow.holds Try.pinned (OpenSpec.upto fnPackedNumbersSpec)

end Rows
end Go.Proofs.Ythdipbgeanmcgaa
