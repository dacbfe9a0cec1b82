/-
  DERIVED. GIVEN WITH THE SEED: THE CARDS: each row of YtijpghlkbfmefaaDoorRows.lean that lists a variable, with what it lists TIED to the program's text (the seventh form; the later family's looks); each row that meets fmt, with fmt's text TOLD by the authors' own Lean function (tested against real Go, not proved from fmt's source: count such statements apart). THE CARD IS WHAT COUNTS. Prove the row's statement (the work); the ties are given (YtijpghlkbfmefaaDoorTie.lean); close each card by the builder's one call (the guide's Derived/Test/ToyasCard.lean, 'card_holds'). Laid BY PROGRAM, IN A SANDBOX (cutbox-door.mjs). By AI agents, Wed Nov 11 2026. No macro, syntax, notation, axiom, sorry.
-/
import Derived.Test.YtijpghlkbfmefaaDoorRows
import GoSem.ClaimSeven
namespace Go.Proofs.YtijpghlkbfmefaaDoor
namespace Rows

/-- THE TIED CARD OF 'laws.FnLifts'. -/
def fnLiftsCard : Claim7 := { stood := { row := fnLiftsRow, standIns := [], harness := (true, "394c3a36efdaf7ffdaeb2975dfc4710e23ea37d97d608f4636260383b8c5ed8d"), looks := false }, kinds := [], alts := [], laidByText := true, laidKinds := [.data, .data, .data], laidTests := true, laidLooks := .later }
def FnLiftsCardSaid : Prop := Claim7.holds Tryd.pinned (.plain (OpenSpec.ofChange fnLiftsSpec)) fnLiftsCard

/-- THE SECOND FORM's CARD OF 'laws.FnLifts'. -/
def fnLiftsUptoCard : Claim7 := { stood := { row := fnLiftsUptoRow, standIns := [], harness := (true, "394c3a36efdaf7ffdaeb2975dfc4710e23ea37d97d608f4636260383b8c5ed8d"), looks := false }, kinds := [], alts := [], laidByText := true, laidKinds := [.data, .data, .data], laidTests := true, laidLooks := .later }
def FnLiftsUptoCardSaid : Prop := Claim7.holds Tryd.pinned (.plain (OpenSpec.upto fnLiftsSpec)) fnLiftsUptoCard
end Rows
end Go.Proofs.YtijpghlkbfmefaaDoor
