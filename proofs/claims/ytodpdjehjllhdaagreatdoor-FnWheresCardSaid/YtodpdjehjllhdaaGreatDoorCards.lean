/-
  DERIVED. GIVEN WITH THE SEED: THE CARDS: each row of YtodpdjehjllhdaaGreatDoorRows.lean that lists a variable, with what it lists TIED to the program's text (the seventh form; the later family's looks); each row that meets fmt, with fmt's text TOLD by the authors' own Lean function (tested against real Go, not proved from fmt's source: count such statements apart). THE CARD IS WHAT COUNTS. Prove the row's statement (the work); the ties are given (YtodpdjehjllhdaaGreatDoorTie.lean); close each card by the builder's one call (the guide's Derived/Test/ToyasCard.lean, 'card_holds'). Laid BY PROGRAM, IN A SANDBOX (cutbox-door.mjs). By AI agents, Wed Nov 11 2026. No macro, syntax, notation, axiom, sorry.
-/
import Derived.Test.YtodpdjehjllhdaaGreatDoorRows
import GoSem.ClaimSeven
namespace Go.Proofs.YtodpdjehjllhdaaGreatDoor
namespace Rows

/-- THE TIED CARD OF 'laws.FnSettles'. -/
def fnSettlesCard : Claim7 := { stood := { row := fnSettlesRow, standIns := [], harness := (true, "fc80001daf9d8a8410740766b29bf19d4f1bd2fea513bd112ee3731e2a8830c1"), looks := false }, kinds := [], alts := [], laidByText := true, laidKinds := [.data, .data, .data, .data, .pinned], laidTests := true, laidLooks := .later }
def FnSettlesCardSaid : Prop := Claim7.holds Tryz.pinned (.plain (OpenSpec.ofChange fnSettlesSpec)) fnSettlesCard

/-- THE TIED CARD OF 'laws.FnWheres'. -/
def fnWheresCard : Claim7 := { stood := { row := fnWheresRow, standIns := [], harness := (true, "fc80001daf9d8a8410740766b29bf19d4f1bd2fea513bd112ee3731e2a8830c1"), looks := false }, kinds := [], alts := [], laidByText := true, laidKinds := [.data, .data, .data, .data, .pinned], laidTests := true, laidLooks := .later }
def FnWheresCardSaid : Prop := Claim7.holds Tryz.pinned (.plain (OpenSpec.ofChange fnWheresSpec)) fnWheresCard

/-- THE TIED CARD OF 'laws.FnTells'. -/
def fnTellsCard : Claim7 := { stood := { row := fnTellsRow, standIns := [], harness := (true, "fc80001daf9d8a8410740766b29bf19d4f1bd2fea513bd112ee3731e2a8830c1"), looks := false }, kinds := [], alts := [], laidByText := true, laidKinds := [.data, .data, .data, .data, .pinned], laidTests := true, laidLooks := .later }
def FnTellsCardSaid : Prop := Claim7.holds Tryz.pinned (.plain (OpenSpec.ofChange fnTellsSpec)) fnTellsCard

/-- THE TIED CARD OF 'laws.FnKepts'. -/
def fnKeptsCard : Claim7 := { stood := { row := fnKeptsRow, standIns := [], harness := (true, "fc80001daf9d8a8410740766b29bf19d4f1bd2fea513bd112ee3731e2a8830c1"), looks := false }, kinds := [], alts := [], laidByText := true, laidKinds := [.data, .data, .data, .data, .pinned], laidTests := true, laidLooks := .later }
def FnKeptsCardSaid : Prop := Claim7.holds Tryz.pinned (.plain (OpenSpec.ofChange fnKeptsSpec)) fnKeptsCard

/-- THE TIED CARD OF 'laws.FnBests'. -/
def fnBestsCard : Claim7 := { stood := { row := fnBestsRow, standIns := [], harness := (true, "fc80001daf9d8a8410740766b29bf19d4f1bd2fea513bd112ee3731e2a8830c1"), looks := false }, kinds := [], alts := [], laidByText := true, laidKinds := [.data, .data, .data, .data, .pinned], laidTests := true, laidLooks := .later }
def FnBestsCardSaid : Prop := Claim7.holds Tryz.pinned (.plain (OpenSpec.ofChange fnBestsSpec)) fnBestsCard

/-- THE SECOND FORM's CARD OF 'laws.FnSettles'. -/
def fnSettlesUptoCard : Claim7 := { stood := { row := fnSettlesUptoRow, standIns := [], harness := (true, "fc80001daf9d8a8410740766b29bf19d4f1bd2fea513bd112ee3731e2a8830c1"), looks := false }, kinds := [], alts := [], laidByText := true, laidKinds := [.data, .data, .data, .data, .pinned], laidTests := true, laidLooks := .later }
def FnSettlesUptoCardSaid : Prop := Claim7.holds Tryz.pinned (.plain (OpenSpec.upto fnSettlesSpec)) fnSettlesUptoCard

/-- THE SECOND FORM's CARD OF 'laws.FnWheres'. -/
def fnWheresUptoCard : Claim7 := { stood := { row := fnWheresUptoRow, standIns := [], harness := (true, "fc80001daf9d8a8410740766b29bf19d4f1bd2fea513bd112ee3731e2a8830c1"), looks := false }, kinds := [], alts := [], laidByText := true, laidKinds := [.data, .data, .data, .data, .pinned], laidTests := true, laidLooks := .later }
def FnWheresUptoCardSaid : Prop := Claim7.holds Tryz.pinned (.plain (OpenSpec.upto fnWheresSpec)) fnWheresUptoCard

/-- THE SECOND FORM's CARD OF 'laws.FnTells'. -/
def fnTellsUptoCard : Claim7 := { stood := { row := fnTellsUptoRow, standIns := [], harness := (true, "fc80001daf9d8a8410740766b29bf19d4f1bd2fea513bd112ee3731e2a8830c1"), looks := false }, kinds := [], alts := [], laidByText := true, laidKinds := [.data, .data, .data, .data, .pinned], laidTests := true, laidLooks := .later }
def FnTellsUptoCardSaid : Prop := Claim7.holds Tryz.pinned (.plain (OpenSpec.upto fnTellsSpec)) fnTellsUptoCard

/-- THE SECOND FORM's CARD OF 'laws.FnKepts'. -/
def fnKeptsUptoCard : Claim7 := { stood := { row := fnKeptsUptoRow, standIns := [], harness := (true, "fc80001daf9d8a8410740766b29bf19d4f1bd2fea513bd112ee3731e2a8830c1"), looks := false }, kinds := [], alts := [], laidByText := true, laidKinds := [.data, .data, .data, .data, .pinned], laidTests := true, laidLooks := .later }
def FnKeptsUptoCardSaid : Prop := Claim7.holds Tryz.pinned (.plain (OpenSpec.upto fnKeptsSpec)) fnKeptsUptoCard

/-- THE SECOND FORM's CARD OF 'laws.FnBests'. -/
def fnBestsUptoCard : Claim7 := { stood := { row := fnBestsUptoRow, standIns := [], harness := (true, "fc80001daf9d8a8410740766b29bf19d4f1bd2fea513bd112ee3731e2a8830c1"), looks := false }, kinds := [], alts := [], laidByText := true, laidKinds := [.data, .data, .data, .data, .pinned], laidTests := true, laidLooks := .later }
def FnBestsUptoCardSaid : Prop := Claim7.holds Tryz.pinned (.plain (OpenSpec.upto fnBestsSpec)) fnBestsUptoCard
end Rows
end Go.Proofs.YtodpdjehjllhdaaGreatDoor
