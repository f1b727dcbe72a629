/-
  DERIVED. GIVEN WITH THE SEED: THE CARDS: each row of YtblcmajhdndmfaaDoorRows.lean that lists a variable, with what it lists TIED to the program's text (the seventh form; the later family's looks); each row that meets fmt, with fmt's text TOLD by the authors' own Lean function (tested against real Go, not proved from fmt's source: count such statements apart). THE CARD IS WHAT COUNTS. Prove the row's statement (the work); the ties are given (YtblcmajhdndmfaaDoorTie.lean); close each card by the builder's one call (the guide's Derived/Test/ToyasCard.lean, 'card_holds'). Laid BY PROGRAM, IN A SANDBOX (cutbox-door.mjs). By AI agents, Wed Nov 11 2026. No macro, syntax, notation, axiom, sorry.
-/
import Derived.Test.YtblcmajhdndmfaaDoorRows
import GoSem.ClaimSeven
namespace Go.Proofs.YtblcmajhdndmfaaDoor
namespace Rows

/-- THE TIED CARD OF 'laws.FnExactSummary'. -/
def fnExactSummaryCard : Claim7 := { stood := { row := fnExactSummaryRow, standIns := [], harness := (true, "eab5b78f00f343b2c98cb9978e9c6f936d6d4b66eda5b26c81dae2dd05567f3c"), looks := false }, kinds := [], alts := [], laidByText := true, laidKinds := [.data, .data, .data], laidTests := true, laidLooks := .later }
def FnExactSummaryCardSaid : Prop := Claim7.holds Tryd.pinned (.plain (OpenSpec.ofChange fnExactSummarySpec)) fnExactSummaryCard

/-- THE TIED CARD OF 'laws.FnExactOutText'. -/
def fnExactOutTextCard : Claim7 := { stood := { row := fnExactOutTextRow, standIns := [], harness := (true, "eab5b78f00f343b2c98cb9978e9c6f936d6d4b66eda5b26c81dae2dd05567f3c"), looks := false }, kinds := [], alts := [], laidByText := true, laidKinds := [.data, .data, .data], laidTests := true, laidLooks := .later }
def FnExactOutTextCardSaid : Prop := Claim7.holds Tryd.pinned (.plain (OpenSpec.ofChange fnExactOutTextSpec)) fnExactOutTextCard

/-- THE SECOND FORM's CARD OF 'laws.FnExactSummary'. -/
def fnExactSummaryUptoCard : Claim7 := { stood := { row := fnExactSummaryUptoRow, standIns := [], harness := (true, "eab5b78f00f343b2c98cb9978e9c6f936d6d4b66eda5b26c81dae2dd05567f3c"), looks := false }, kinds := [], alts := [], laidByText := true, laidKinds := [.data, .data, .data], laidTests := true, laidLooks := .later }
def FnExactSummaryUptoCardSaid : Prop := Claim7.holds Tryd.pinned (.plain (OpenSpec.upto fnExactSummarySpec)) fnExactSummaryUptoCard

/-- THE SECOND FORM's CARD OF 'laws.FnExactOutText'. -/
def fnExactOutTextUptoCard : Claim7 := { stood := { row := fnExactOutTextUptoRow, standIns := [], harness := (true, "eab5b78f00f343b2c98cb9978e9c6f936d6d4b66eda5b26c81dae2dd05567f3c"), looks := false }, kinds := [], alts := [], laidByText := true, laidKinds := [.data, .data, .data], laidTests := true, laidLooks := .later }
def FnExactOutTextUptoCardSaid : Prop := Claim7.holds Tryd.pinned (.plain (OpenSpec.upto fnExactOutTextSpec)) fnExactOutTextUptoCard
end Rows
end Go.Proofs.YtblcmajhdndmfaaDoor
