/-
  DERIVED. GIVEN WITH THE SEED: THE CARDS: each row of YtpabbehpkokhbaaDoorRows.lean that lists a variable, with what it lists TIED to the program's text (the seventh form; the later family's looks); each row that meets fmt, with fmt's text TOLD by the authors' own Lean function (tested against real Go, not proved from fmt's source: count such statements apart). THE CARD IS WHAT COUNTS. Prove the row's statement (the work); the ties are given (YtpabbehpkokhbaaDoorTie.lean); close each card by the builder's one call (the guide's Derived/Test/ToyasCard.lean, 'card_holds'). Laid BY PROGRAM, IN A SANDBOX (cutbox-door.mjs). By AI agents, Wed Nov 11 2026. No macro, syntax, notation, axiom, sorry.
-/
import Derived.Test.YtpabbehpkokhbaaDoorRows
import GoSem.ClaimSeven
namespace Go.Proofs.YtpabbehpkokhbaaDoor
namespace Rows

/-- THE TIED CARD OF 'laws.FnBlocked'. -/
def fnBlockedCard : Claim7 := { stood := { row := fnBlockedRow, standIns := [], harness := (true, "5223de1ee274875236e4c47bd6b6a532bb8f9d06bff33ec5a6c38fa2ab20ac67"), looks := false }, kinds := [], alts := [], laidByText := true, laidKinds := [.data], laidTests := true, laidLooks := .later }
def FnBlockedCardSaid : Prop := Claim7.holds Tryd.pinned (.plain (OpenSpec.ofChange fnBlockedSpec)) fnBlockedCard

/-- THE SECOND FORM's CARD OF 'laws.FnBlocked'. -/
def fnBlockedUptoCard : Claim7 := { stood := { row := fnBlockedUptoRow, standIns := [], harness := (true, "5223de1ee274875236e4c47bd6b6a532bb8f9d06bff33ec5a6c38fa2ab20ac67"), looks := false }, kinds := [], alts := [], laidByText := true, laidKinds := [.data], laidTests := true, laidLooks := .later }
def FnBlockedUptoCardSaid : Prop := Claim7.holds Tryd.pinned (.plain (OpenSpec.upto fnBlockedSpec)) fnBlockedUptoCard
end Rows
end Go.Proofs.YtpabbehpkokhbaaDoor
