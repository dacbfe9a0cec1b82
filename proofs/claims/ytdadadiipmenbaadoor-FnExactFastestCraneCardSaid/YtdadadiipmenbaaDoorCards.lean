/-
  DERIVED. GIVEN WITH THE SEED: THE CARDS: each row of YtdadadiipmenbaaDoorRows.lean that lists a variable, with what it lists TIED to the program's text (the seventh form; the later family's looks); each row that meets fmt, with fmt's text TOLD by the authors' own Lean function (tested against real Go, not proved from fmt's source: count such statements apart). THE CARD IS WHAT COUNTS. Prove the row's statement (the work); the ties are given (YtdadadiipmenbaaDoorTie.lean); close each card by the builder's one call (the guide's Derived/Test/ToyasCard.lean, 'card_holds'). Laid BY PROGRAM, IN A SANDBOX (cutbox-door.mjs). By AI agents, Wed Nov 11 2026. No macro, syntax, notation, axiom, sorry.
-/
import Derived.Test.YtdadadiipmenbaaDoorRows
import GoSem.ClaimSeven
namespace Go.Proofs.YtdadadiipmenbaaDoor
namespace Rows

/-- THE TIED CARD OF 'laws.FnExactLiftTime'. -/
def fnExactLiftTimeCard : Claim7 := { stood := { row := fnExactLiftTimeRow, standIns := [], harness := (true, "2779518548923c634ecb7b42144e172b78736a157b4a1d8bacbe0b858af0968a"), looks := false }, kinds := [], alts := [], laidByText := true, laidKinds := [.data], laidTests := true, laidLooks := .later }
def FnExactLiftTimeCardSaid : Prop := Claim7.holds Tryd.pinned (.plain (OpenSpec.ofChange fnExactLiftTimeSpec)) fnExactLiftTimeCard

/-- THE TIED CARD OF 'laws.FnExactJobTime'. -/
def fnExactJobTimeCard : Claim7 := { stood := { row := fnExactJobTimeRow, standIns := [], harness := (true, "2779518548923c634ecb7b42144e172b78736a157b4a1d8bacbe0b858af0968a"), looks := false }, kinds := [], alts := [], laidByText := true, laidKinds := [.data], laidTests := true, laidLooks := .later }
def FnExactJobTimeCardSaid : Prop := Claim7.holds Tryd.pinned (.plain (OpenSpec.ofChange fnExactJobTimeSpec)) fnExactJobTimeCard

/-- THE TIED CARD OF 'laws.FnExactFastestCrane'. -/
def fnExactFastestCraneCard : Claim7 := { stood := { row := fnExactFastestCraneRow, standIns := [], harness := (true, "2779518548923c634ecb7b42144e172b78736a157b4a1d8bacbe0b858af0968a"), looks := false }, kinds := [], alts := [], laidByText := true, laidKinds := [.data], laidTests := true, laidLooks := .later }
def FnExactFastestCraneCardSaid : Prop := Claim7.holds Tryd.pinned (.plain (OpenSpec.ofChange fnExactFastestCraneSpec)) fnExactFastestCraneCard

/-- THE TIED CARD OF 'laws.FnLifts'. -/
def fnLiftsCard : Claim7 := { stood := { row := fnLiftsRow, standIns := [], harness := (true, "2779518548923c634ecb7b42144e172b78736a157b4a1d8bacbe0b858af0968a"), looks := false }, kinds := [], alts := [], laidByText := true, laidKinds := [.data, .data, .data], laidTests := true, laidLooks := .later }
def FnLiftsCardSaid : Prop := Claim7.holds Tryd.pinned (.plain (OpenSpec.ofChange fnLiftsSpec)) fnLiftsCard

/-- THE SECOND FORM's CARD OF 'laws.FnExactLiftTime'. -/
def fnExactLiftTimeUptoCard : Claim7 := { stood := { row := fnExactLiftTimeUptoRow, standIns := [], harness := (true, "2779518548923c634ecb7b42144e172b78736a157b4a1d8bacbe0b858af0968a"), looks := false }, kinds := [], alts := [], laidByText := true, laidKinds := [.data], laidTests := true, laidLooks := .later }
def FnExactLiftTimeUptoCardSaid : Prop := Claim7.holds Tryd.pinned (.plain (OpenSpec.upto fnExactLiftTimeSpec)) fnExactLiftTimeUptoCard

/-- THE SECOND FORM's CARD OF 'laws.FnExactJobTime'. -/
def fnExactJobTimeUptoCard : Claim7 := { stood := { row := fnExactJobTimeUptoRow, standIns := [], harness := (true, "2779518548923c634ecb7b42144e172b78736a157b4a1d8bacbe0b858af0968a"), looks := false }, kinds := [], alts := [], laidByText := true, laidKinds := [.data], laidTests := true, laidLooks := .later }
def FnExactJobTimeUptoCardSaid : Prop := Claim7.holds Tryd.pinned (.plain (OpenSpec.upto fnExactJobTimeSpec)) fnExactJobTimeUptoCard

/-- THE SECOND FORM's CARD OF 'laws.FnExactFastestCrane'. -/
def fnExactFastestCraneUptoCard : Claim7 := { stood := { row := fnExactFastestCraneUptoRow, standIns := [], harness := (true, "2779518548923c634ecb7b42144e172b78736a157b4a1d8bacbe0b858af0968a"), looks := false }, kinds := [], alts := [], laidByText := true, laidKinds := [.data], laidTests := true, laidLooks := .later }
def FnExactFastestCraneUptoCardSaid : Prop := Claim7.holds Tryd.pinned (.plain (OpenSpec.upto fnExactFastestCraneSpec)) fnExactFastestCraneUptoCard

/-- THE SECOND FORM's CARD OF 'laws.FnLifts'. -/
def fnLiftsUptoCard : Claim7 := { stood := { row := fnLiftsUptoRow, standIns := [], harness := (true, "2779518548923c634ecb7b42144e172b78736a157b4a1d8bacbe0b858af0968a"), looks := false }, kinds := [], alts := [], laidByText := true, laidKinds := [.data, .data, .data], laidTests := true, laidLooks := .later }
def FnLiftsUptoCardSaid : Prop := Claim7.holds Tryd.pinned (.plain (OpenSpec.upto fnLiftsSpec)) fnLiftsUptoCard
end Rows
end Go.Proofs.YtdadadiipmenbaaDoor
