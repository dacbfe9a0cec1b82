/-
  DERIVED. GIVEN WITH THE SEED: THE CARDS: each row of YteeigmgepahdhaaDoorRows.lean that lists a variable, with what it lists TIED to the program's text (the seventh form; the later family's looks); each row that meets fmt, with fmt's text TOLD by the authors' own Lean function (tested against real Go, not proved from fmt's source: count such statements apart). THE CARD IS WHAT COUNTS. Prove the row's statement (the work); the ties are given (YteeigmgepahdhaaDoorTie.lean); close each card by the builder's one call (the guide's Derived/Test/ToyasCard.lean, 'card_holds'). Laid BY PROGRAM, IN A SANDBOX (cutbox-door.mjs). By AI agents, Wed Nov 11 2026. No macro, syntax, notation, axiom, sorry.
-/
import Derived.Test.YteeigmgepahdhaaDoorRows
import GoSem.ClaimSeven
namespace Go.Proofs.YteeigmgepahdhaaDoor
namespace Rows

/-- THE TIED CARD OF 'laws.FnConflicts'. -/
def fnConflictsCard : Claim7 := { stood := { row := fnConflictsRow, standIns := [], harness := (true, "e6cb1ecade96fec5852dd648ae6a43f7c5081aa872eba44fc23e39c42d06964a"), looks := false }, kinds := [], alts := [], goes := true, laidByText := true, laidKinds := [.data], laidTests := true, laidLooks := .later }
def FnConflictsCardSaid : Prop := Claim7.holds Tryd.pinned (.plain (OpenSpec.ofChange fnConflictsSpec)) fnConflictsCard

/-- THE TIED CARD OF 'laws.FnExactBoomsConflict'. -/
def fnExactBoomsConflictCard : Claim7 := { stood := { row := fnExactBoomsConflictRow, standIns := [], harness := (true, "e6cb1ecade96fec5852dd648ae6a43f7c5081aa872eba44fc23e39c42d06964a"), looks := false }, kinds := [], alts := [], laidByText := true, laidKinds := [.data], laidTests := true, laidLooks := .later }
def FnExactBoomsConflictCardSaid : Prop := Claim7.holds Tryd.pinned (.plain (OpenSpec.ofChange fnExactBoomsConflictSpec)) fnExactBoomsConflictCard

/-- THE TIED CARD OF 'laws.FnExactConflictTable'. -/
def fnExactConflictTableCard : Claim7 := { stood := { row := fnExactConflictTableRow, standIns := [], harness := (true, "e6cb1ecade96fec5852dd648ae6a43f7c5081aa872eba44fc23e39c42d06964a"), looks := false }, kinds := [], alts := [], goes := true, laidByText := true, laidKinds := [.data], laidTests := true, laidLooks := .later }
def FnExactConflictTableCardSaid : Prop := Claim7.holds Tryd.pinned (.plain (OpenSpec.ofChange fnExactConflictTableSpec)) fnExactConflictTableCard

/-- THE SECOND FORM's CARD OF 'laws.FnConflicts'. -/
def fnConflictsUptoCard : Claim7 := { stood := { row := fnConflictsUptoRow, standIns := [], harness := (true, "e6cb1ecade96fec5852dd648ae6a43f7c5081aa872eba44fc23e39c42d06964a"), looks := false }, kinds := [], alts := [], goes := true, laidByText := true, laidKinds := [.data], laidTests := true, laidLooks := .later }
def FnConflictsUptoCardSaid : Prop := Claim7.holds Tryd.pinned (.plain (OpenSpec.upto fnConflictsSpec)) fnConflictsUptoCard

/-- THE SECOND FORM's CARD OF 'laws.FnExactBoomsConflict'. -/
def fnExactBoomsConflictUptoCard : Claim7 := { stood := { row := fnExactBoomsConflictUptoRow, standIns := [], harness := (true, "e6cb1ecade96fec5852dd648ae6a43f7c5081aa872eba44fc23e39c42d06964a"), looks := false }, kinds := [], alts := [], laidByText := true, laidKinds := [.data], laidTests := true, laidLooks := .later }
def FnExactBoomsConflictUptoCardSaid : Prop := Claim7.holds Tryd.pinned (.plain (OpenSpec.upto fnExactBoomsConflictSpec)) fnExactBoomsConflictUptoCard

/-- THE SECOND FORM's CARD OF 'laws.FnExactConflictTable'. -/
def fnExactConflictTableUptoCard : Claim7 := { stood := { row := fnExactConflictTableUptoRow, standIns := [], harness := (true, "e6cb1ecade96fec5852dd648ae6a43f7c5081aa872eba44fc23e39c42d06964a"), looks := false }, kinds := [], alts := [], goes := true, laidByText := true, laidKinds := [.data], laidTests := true, laidLooks := .later }
def FnExactConflictTableUptoCardSaid : Prop := Claim7.holds Tryd.pinned (.plain (OpenSpec.upto fnExactConflictTableSpec)) fnExactConflictTableUptoCard
end Rows
end Go.Proofs.YteeigmgepahdhaaDoor
