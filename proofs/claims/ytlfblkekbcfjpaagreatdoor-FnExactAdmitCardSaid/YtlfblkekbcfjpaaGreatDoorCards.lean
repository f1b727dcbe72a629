/-
  DERIVED. GIVEN WITH THE SEED: THE CARDS: each row of YtlfblkekbcfjpaaGreatDoorRows.lean that lists a variable, with what it lists TIED to the program's text (the seventh form; the later family's looks); each row that meets fmt, with fmt's text TOLD by the authors' own Lean function (tested against real Go, not proved from fmt's source: count such statements apart). THE CARD IS WHAT COUNTS. Prove the row's statement (the work); the ties are given (YtlfblkekbcfjpaaGreatDoorTie.lean); close each card by the builder's one call (the guide's Derived/Test/ToyasCard.lean, 'card_holds'). Laid BY PROGRAM, IN A SANDBOX (cutbox-door.mjs). By AI agents, Wed Nov 11 2026. No macro, syntax, notation, axiom, sorry.
-/
import Derived.Test.YtlfblkekbcfjpaaGreatDoorRows
import GoSem.ClaimSeven
namespace Go.Proofs.YtlfblkekbcfjpaaGreatDoor
namespace Rows

/-- THE TIED CARD OF 'laws.FnExactAdmit'. -/
def fnExactAdmitCard : Claim7 := { stood := { row := fnExactAdmitRow, standIns := [], harness := (true, "10db81089f1436b1db5a8aaae569049419fb7eb0ab5a93629fa22f588286d222"), looks := true }, kinds := [], alts := [], laidByText := true, laidKinds := [.data, .data, .data, .data, .sentinel, .sentinel, .pinned, .pinned], laidTests := true, laidLooks := .later }
def FnExactAdmitCardSaid : Prop := Claim7.holds Tryz.pinned (.plain (OpenSpec.ofChange fnExactAdmitSpec)) fnExactAdmitCard

/-- THE TIED CARD OF 'laws.FnExactPick'. -/
def fnExactPickCard : Claim7 := { stood := { row := fnExactPickRow, standIns := [], harness := (true, "10db81089f1436b1db5a8aaae569049419fb7eb0ab5a93629fa22f588286d222"), looks := true }, kinds := [], alts := [], laidByText := true, laidKinds := [.data, .data, .data, .data, .sentinel, .sentinel, .pinned, .pinned], laidTests := true, laidLooks := .later }
def FnExactPickCardSaid : Prop := Claim7.holds Tryz.pinned (.plain (OpenSpec.ofChange fnExactPickSpec)) fnExactPickCard

/-- THE SECOND FORM's CARD OF 'laws.FnExactAdmit'. -/
def fnExactAdmitUptoCard : Claim7 := { stood := { row := fnExactAdmitUptoRow, standIns := [], harness := (true, "10db81089f1436b1db5a8aaae569049419fb7eb0ab5a93629fa22f588286d222"), looks := true }, kinds := [], alts := [], laidByText := true, laidKinds := [.data, .data, .data, .data, .sentinel, .sentinel, .pinned, .pinned], laidTests := true, laidLooks := .later }
def FnExactAdmitUptoCardSaid : Prop := Claim7.holds Tryz.pinned (.plain (OpenSpec.upto fnExactAdmitSpec)) fnExactAdmitUptoCard

/-- THE SECOND FORM's CARD OF 'laws.FnExactPick'. -/
def fnExactPickUptoCard : Claim7 := { stood := { row := fnExactPickUptoRow, standIns := [], harness := (true, "10db81089f1436b1db5a8aaae569049419fb7eb0ab5a93629fa22f588286d222"), looks := true }, kinds := [], alts := [], laidByText := true, laidKinds := [.data, .data, .data, .data, .sentinel, .sentinel, .pinned, .pinned], laidTests := true, laidLooks := .later }
def FnExactPickUptoCardSaid : Prop := Claim7.holds Tryz.pinned (.plain (OpenSpec.upto fnExactPickSpec)) fnExactPickUptoCard
end Rows
end Go.Proofs.YtlfblkekbcfjpaaGreatDoor
