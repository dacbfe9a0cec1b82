/-
  DERIVED. GIVEN WITH THE SEED: THE CARDS: each row of YtjjibdjliejcfaaDoorRows.lean that lists a variable, with what it lists TIED to the program's text (the seventh form; the later family's looks); each row that meets fmt, with fmt's text TOLD by the authors' own Lean function (tested against real Go, not proved from fmt's source: count such statements apart). THE CARD IS WHAT COUNTS. Prove the row's statement (the work); the ties are given (YtjjibdjliejcfaaDoorTie.lean); close each card by the builder's one call (the guide's Derived/Test/ToyasCard.lean, 'card_holds'). Laid BY PROGRAM, IN A SANDBOX (cutbox-door.mjs). By AI agents, Wed Nov 11 2026. No macro, syntax, notation, axiom, sorry.
-/
import Derived.Test.YtjjibdjliejcfaaDoorRows
import GoSem.ClaimSeven
namespace Go.Proofs.YtjjibdjliejcfaaDoor
namespace Rows

/-- THE TIED CARD OF 'laws.FnExactReadChecks'. -/
def fnExactReadChecksCard : Claim7 := { stood := { row := fnExactReadChecksRow, standIns := [], harness := (true, "6bb5ac8d24ea86f1a0c2fa4828078aee7352ff9195697bd04a7e7b5511444978"), looks := true }, kinds := [], alts := [], laidByText := true, laidKinds := [.data, .data, .data, .sentinel, .sentinel], laidTests := true, laidLooks := .later }
def FnExactReadChecksCardSaid : Prop := Claim7.holds Tryd.pinned (.plain (OpenSpec.ofChange fnExactReadChecksSpec)) fnExactReadChecksCard

/-- THE TIED CARD OF 'laws.FnExactLogOf'. -/
def fnExactLogOfCard : Claim7 := { stood := { row := fnExactLogOfRow, standIns := [], harness := (true, "6bb5ac8d24ea86f1a0c2fa4828078aee7352ff9195697bd04a7e7b5511444978"), looks := true }, kinds := [], alts := [], laidByText := true, laidKinds := [.data, .data, .data, .handle], laidTests := true, laidLooks := .later }
def FnExactLogOfCardSaid : Prop := Claim7.holds Tryd.pinned (.plain (OpenSpec.ofChange fnExactLogOfSpec)) fnExactLogOfCard

/-- THE TIED CARD OF 'laws.FnExactCheckLog'. -/
def fnExactCheckLogCard : Claim7 := { stood := { row := fnExactCheckLogRow, standIns := [], harness := (true, "6bb5ac8d24ea86f1a0c2fa4828078aee7352ff9195697bd04a7e7b5511444978"), looks := true }, kinds := [], alts := [], laidByText := true, laidKinds := [.data, .data, .data, .data, .sentinel, .sentinel, .pinned], laidTests := true, laidLooks := .later }
def FnExactCheckLogCardSaid : Prop := Claim7.holds Tryd.pinned (.plain (OpenSpec.ofChange fnExactCheckLogSpec)) fnExactCheckLogCard

/-- THE TIED CARD OF 'laws.FnExactRecoverLog'. -/
def fnExactRecoverLogCard : Claim7 := { stood := { row := fnExactRecoverLogRow, standIns := [], harness := (true, "6bb5ac8d24ea86f1a0c2fa4828078aee7352ff9195697bd04a7e7b5511444978"), looks := true }, kinds := [], alts := [], laidByText := true, laidKinds := [.data, .data, .data, .data, .sentinel, .sentinel, .pinned], laidTests := true, laidLooks := .later }
def FnExactRecoverLogCardSaid : Prop := Claim7.holds Tryd.pinned (.plain (OpenSpec.ofChange fnExactRecoverLogSpec)) fnExactRecoverLogCard

/-- THE SECOND FORM's CARD OF 'laws.FnExactReadChecks'. -/
def fnExactReadChecksUptoCard : Claim7 := { stood := { row := fnExactReadChecksUptoRow, standIns := [], harness := (true, "6bb5ac8d24ea86f1a0c2fa4828078aee7352ff9195697bd04a7e7b5511444978"), looks := true }, kinds := [], alts := [], laidByText := true, laidKinds := [.data, .data, .data, .sentinel, .sentinel], laidTests := true, laidLooks := .later }
def FnExactReadChecksUptoCardSaid : Prop := Claim7.holds Tryd.pinned (.plain (OpenSpec.upto fnExactReadChecksSpec)) fnExactReadChecksUptoCard

/-- THE SECOND FORM's CARD OF 'laws.FnExactLogOf'. -/
def fnExactLogOfUptoCard : Claim7 := { stood := { row := fnExactLogOfUptoRow, standIns := [], harness := (true, "6bb5ac8d24ea86f1a0c2fa4828078aee7352ff9195697bd04a7e7b5511444978"), looks := true }, kinds := [], alts := [], laidByText := true, laidKinds := [.data, .data, .data, .handle], laidTests := true, laidLooks := .later }
def FnExactLogOfUptoCardSaid : Prop := Claim7.holds Tryd.pinned (.plain (OpenSpec.upto fnExactLogOfSpec)) fnExactLogOfUptoCard

/-- THE SECOND FORM's CARD OF 'laws.FnExactCheckLog'. -/
def fnExactCheckLogUptoCard : Claim7 := { stood := { row := fnExactCheckLogUptoRow, standIns := [], harness := (true, "6bb5ac8d24ea86f1a0c2fa4828078aee7352ff9195697bd04a7e7b5511444978"), looks := true }, kinds := [], alts := [], laidByText := true, laidKinds := [.data, .data, .data, .data, .sentinel, .sentinel, .pinned], laidTests := true, laidLooks := .later }
def FnExactCheckLogUptoCardSaid : Prop := Claim7.holds Tryd.pinned (.plain (OpenSpec.upto fnExactCheckLogSpec)) fnExactCheckLogUptoCard

/-- THE SECOND FORM's CARD OF 'laws.FnExactRecoverLog'. -/
def fnExactRecoverLogUptoCard : Claim7 := { stood := { row := fnExactRecoverLogUptoRow, standIns := [], harness := (true, "6bb5ac8d24ea86f1a0c2fa4828078aee7352ff9195697bd04a7e7b5511444978"), looks := true }, kinds := [], alts := [], laidByText := true, laidKinds := [.data, .data, .data, .data, .sentinel, .sentinel, .pinned], laidTests := true, laidLooks := .later }
def FnExactRecoverLogUptoCardSaid : Prop := Claim7.holds Tryd.pinned (.plain (OpenSpec.upto fnExactRecoverLogSpec)) fnExactRecoverLogUptoCard
end Rows
end Go.Proofs.YtjjibdjliejcfaaDoor
