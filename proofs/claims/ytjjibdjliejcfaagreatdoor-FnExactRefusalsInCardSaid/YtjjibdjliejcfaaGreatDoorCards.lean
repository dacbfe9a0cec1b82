/-
  DERIVED. GIVEN WITH THE SEED: THE CARDS: each row of YtjjibdjliejcfaaGreatDoorRows.lean that lists a variable, with what it lists TIED to the program's text (the seventh form; the later family's looks); each row that meets fmt, with fmt's text TOLD by the authors' own Lean function (tested against real Go, not proved from fmt's source: count such statements apart). THE CARD IS WHAT COUNTS. Prove the row's statement (the work); the ties are given (YtjjibdjliejcfaaGreatDoorTie.lean); close each card by the builder's one call (the guide's Derived/Test/ToyasCard.lean, 'card_holds'). Laid BY PROGRAM, IN A SANDBOX (cutbox-door.mjs). By AI agents, Wed Nov 11 2026. No macro, syntax, notation, axiom, sorry.
-/
import Derived.Test.YtjjibdjliejcfaaGreatDoorRows
import GoSem.ClaimSeven
namespace Go.Proofs.YtjjibdjliejcfaaGreatDoor
namespace Rows

/-- THE TIED CARD OF 'laws.FnExactEntriesOf'. -/
def fnExactEntriesOfCard : Claim7 := { stood := { row := fnExactEntriesOfRow, standIns := [], harness := (true, "f42d2fb1f0f920d5caa85f0e78897ffcb0c615b253412ae065644bcb24f7c06b"), looks := true }, kinds := [], alts := [], laidByText := true, laidKinds := [.data, .data, .data, .data, .sentinel, .sentinel, .pinned], laidTests := true, laidLooks := .later }
def FnExactEntriesOfCardSaid : Prop := Claim7.holds Tryz.pinned (.plain (OpenSpec.ofChange fnExactEntriesOfSpec)) fnExactEntriesOfCard

/-- THE TIED CARD OF 'laws.FnExactRefusalsIn'. -/
def fnExactRefusalsInCard : Claim7 := { stood := { row := fnExactRefusalsInRow, standIns := [], harness := (true, "f42d2fb1f0f920d5caa85f0e78897ffcb0c615b253412ae065644bcb24f7c06b"), looks := true }, kinds := [], alts := [], laidByText := true, laidKinds := [.data, .data, .data, .data, .sentinel, .sentinel, .pinned], laidTests := true, laidLooks := .later }
def FnExactRefusalsInCardSaid : Prop := Claim7.holds Tryz.pinned (.plain (OpenSpec.ofChange fnExactRefusalsInSpec)) fnExactRefusalsInCard

/-- THE TIED CARD OF 'laws.FnExactEntriesBetween'. -/
def fnExactEntriesBetweenCard : Claim7 := { stood := { row := fnExactEntriesBetweenRow, standIns := [], harness := (true, "f42d2fb1f0f920d5caa85f0e78897ffcb0c615b253412ae065644bcb24f7c06b"), looks := true }, kinds := [], alts := [], laidByText := true, laidKinds := [.data, .data, .data, .data, .sentinel, .sentinel, .pinned], laidTests := true, laidLooks := .later }
def FnExactEntriesBetweenCardSaid : Prop := Claim7.holds Tryz.pinned (.plain (OpenSpec.ofChange fnExactEntriesBetweenSpec)) fnExactEntriesBetweenCard

/-- THE TIED CARD OF 'laws.FnExactEntriesBy'. -/
def fnExactEntriesByCard : Claim7 := { stood := { row := fnExactEntriesByRow, standIns := [], harness := (true, "f42d2fb1f0f920d5caa85f0e78897ffcb0c615b253412ae065644bcb24f7c06b"), looks := true }, kinds := [], alts := [], laidByText := true, laidKinds := [.data, .data, .data, .data, .sentinel, .sentinel, .pinned], laidTests := true, laidLooks := .later }
def FnExactEntriesByCardSaid : Prop := Claim7.holds Tryz.pinned (.plain (OpenSpec.ofChange fnExactEntriesBySpec)) fnExactEntriesByCard

/-- THE TIED CARD OF 'laws.FnExactAddEntry'. -/
def fnExactAddEntryCard : Claim7 := { stood := { row := fnExactAddEntryRow, standIns := [], harness := (true, "f42d2fb1f0f920d5caa85f0e78897ffcb0c615b253412ae065644bcb24f7c06b"), looks := true }, kinds := [], alts := [], laidByText := true, laidKinds := [.data, .data, .data, .data, .handle, .sentinel, .sentinel, .pinned], laidTests := true, laidLooks := .later }
def FnExactAddEntryCardSaid : Prop := Claim7.holds Tryz.pinned (.plain (OpenSpec.ofChange fnExactAddEntrySpec)) fnExactAddEntryCard

/-- THE SECOND FORM's CARD OF 'laws.FnExactEntriesOf'. -/
def fnExactEntriesOfUptoCard : Claim7 := { stood := { row := fnExactEntriesOfUptoRow, standIns := [], harness := (true, "f42d2fb1f0f920d5caa85f0e78897ffcb0c615b253412ae065644bcb24f7c06b"), looks := true }, kinds := [], alts := [], laidByText := true, laidKinds := [.data, .data, .data, .data, .sentinel, .sentinel, .pinned], laidTests := true, laidLooks := .later }
def FnExactEntriesOfUptoCardSaid : Prop := Claim7.holds Tryz.pinned (.plain (OpenSpec.upto fnExactEntriesOfSpec)) fnExactEntriesOfUptoCard

/-- THE SECOND FORM's CARD OF 'laws.FnExactRefusalsIn'. -/
def fnExactRefusalsInUptoCard : Claim7 := { stood := { row := fnExactRefusalsInUptoRow, standIns := [], harness := (true, "f42d2fb1f0f920d5caa85f0e78897ffcb0c615b253412ae065644bcb24f7c06b"), looks := true }, kinds := [], alts := [], laidByText := true, laidKinds := [.data, .data, .data, .data, .sentinel, .sentinel, .pinned], laidTests := true, laidLooks := .later }
def FnExactRefusalsInUptoCardSaid : Prop := Claim7.holds Tryz.pinned (.plain (OpenSpec.upto fnExactRefusalsInSpec)) fnExactRefusalsInUptoCard

/-- THE SECOND FORM's CARD OF 'laws.FnExactEntriesBetween'. -/
def fnExactEntriesBetweenUptoCard : Claim7 := { stood := { row := fnExactEntriesBetweenUptoRow, standIns := [], harness := (true, "f42d2fb1f0f920d5caa85f0e78897ffcb0c615b253412ae065644bcb24f7c06b"), looks := true }, kinds := [], alts := [], laidByText := true, laidKinds := [.data, .data, .data, .data, .sentinel, .sentinel, .pinned], laidTests := true, laidLooks := .later }
def FnExactEntriesBetweenUptoCardSaid : Prop := Claim7.holds Tryz.pinned (.plain (OpenSpec.upto fnExactEntriesBetweenSpec)) fnExactEntriesBetweenUptoCard

/-- THE SECOND FORM's CARD OF 'laws.FnExactEntriesBy'. -/
def fnExactEntriesByUptoCard : Claim7 := { stood := { row := fnExactEntriesByUptoRow, standIns := [], harness := (true, "f42d2fb1f0f920d5caa85f0e78897ffcb0c615b253412ae065644bcb24f7c06b"), looks := true }, kinds := [], alts := [], laidByText := true, laidKinds := [.data, .data, .data, .data, .sentinel, .sentinel, .pinned], laidTests := true, laidLooks := .later }
def FnExactEntriesByUptoCardSaid : Prop := Claim7.holds Tryz.pinned (.plain (OpenSpec.upto fnExactEntriesBySpec)) fnExactEntriesByUptoCard

/-- THE SECOND FORM's CARD OF 'laws.FnExactAddEntry'. -/
def fnExactAddEntryUptoCard : Claim7 := { stood := { row := fnExactAddEntryUptoRow, standIns := [], harness := (true, "f42d2fb1f0f920d5caa85f0e78897ffcb0c615b253412ae065644bcb24f7c06b"), looks := true }, kinds := [], alts := [], laidByText := true, laidKinds := [.data, .data, .data, .data, .handle, .sentinel, .sentinel, .pinned], laidTests := true, laidLooks := .later }
def FnExactAddEntryUptoCardSaid : Prop := Claim7.holds Tryz.pinned (.plain (OpenSpec.upto fnExactAddEntrySpec)) fnExactAddEntryUptoCard
end Rows
end Go.Proofs.YtjjibdjliejcfaaGreatDoor
