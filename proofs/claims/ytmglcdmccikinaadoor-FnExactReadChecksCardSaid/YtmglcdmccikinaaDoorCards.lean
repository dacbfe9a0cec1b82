/-
  DERIVED. GIVEN WITH THE SEED: THE CARDS: each row of YtmglcdmccikinaaDoorRows.lean that lists a variable, with what it lists TIED to the program's text (the seventh form; the later family's looks); each row that meets fmt, with fmt's text TOLD by the authors' own Lean function (tested against real Go, not proved from fmt's source: count such statements apart). THE CARD IS WHAT COUNTS. Prove the row's statement (the work); the ties are given (YtmglcdmccikinaaDoorTie.lean); close each card by the builder's one call (the guide's Derived/Test/ToyasCard.lean, 'card_holds'). Laid BY PROGRAM, IN A SANDBOX (cutbox-door.mjs). By AI agents, Wed Nov 11 2026. No macro, syntax, notation, axiom, sorry.
-/
import Derived.Test.YtmglcdmccikinaaDoorRows
import GoSem.ClaimSeven
namespace Go.Proofs.YtmglcdmccikinaaDoor
namespace Rows

/-- THE TIED CARD OF 'laws.FnExactReadChecks'. -/
def fnExactReadChecksCard : Claim7 := { stood := { row := fnExactReadChecksRow, standIns := [], harness := (true, "90c8ade96ff47ce6d794c0ff950b750a8058b40117d6fc447356170d547116a1"), looks := true }, kinds := [], alts := [], laidByText := true, laidKinds := [.data, .data, .data, .sentinel, .sentinel], laidTests := true, laidLooks := .later }
def FnExactReadChecksCardSaid : Prop := Claim7.holds Tryd.pinned (.plain (OpenSpec.ofChange fnExactReadChecksSpec)) fnExactReadChecksCard

/-- THE SECOND FORM's CARD OF 'laws.FnExactReadChecks'. -/
def fnExactReadChecksUptoCard : Claim7 := { stood := { row := fnExactReadChecksUptoRow, standIns := [], harness := (true, "90c8ade96ff47ce6d794c0ff950b750a8058b40117d6fc447356170d547116a1"), looks := true }, kinds := [], alts := [], laidByText := true, laidKinds := [.data, .data, .data, .sentinel, .sentinel], laidTests := true, laidLooks := .later }
def FnExactReadChecksUptoCardSaid : Prop := Claim7.holds Tryd.pinned (.plain (OpenSpec.upto fnExactReadChecksSpec)) fnExactReadChecksUptoCard
end Rows
end Go.Proofs.YtmglcdmccikinaaDoor
