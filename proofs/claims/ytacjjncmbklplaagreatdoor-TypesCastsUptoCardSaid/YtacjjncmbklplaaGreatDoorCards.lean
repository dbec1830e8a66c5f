/-
  DERIVED. GIVEN WITH THE SEED: THE CARDS: each row of YtacjjncmbklplaaGreatDoorRows.lean that lists a variable, with what it lists TIED to the program's text (the seventh form; the later family's looks); each row that meets fmt, with fmt's text TOLD by the authors' own Lean function (tested against real Go, not proved from fmt's source: count such statements apart). THE CARD IS WHAT COUNTS. Prove the row's statement (the work); the ties are given (YtacjjncmbklplaaGreatDoorTie.lean); close each card by the builder's one call (the guide's Derived/Test/ToyasCard.lean, 'card_holds'). Laid BY PROGRAM, IN A SANDBOX (cutbox-door.mjs). By AI agents, Wed Nov 11 2026. No macro, syntax, notation, axiom, sorry.
-/
import Derived.Test.YtacjjncmbklplaaGreatDoorRows
import GoSem.ClaimSeven
namespace Go.Proofs.YtacjjncmbklplaaGreatDoor
namespace Rows

/-- THE TIED CARD OF 'stilelaw02.TypesNames'. -/
def typesNamesCard : Claim7 := { stood := { row := typesNamesRow, standIns := [], harness := (true, "e85e744fd3839fd287a5de8ce2adb4664960d8e70c8894bd449a97869a0de7ce"), looks := true }, kinds := [], alts := [], laidByText := true, laidKinds := [.data, .data, .data, .data, .sentinel, .sentinel, .data, .pinned], laidTests := true, laidLooks := .later }
def TypesNamesCardSaid : Prop := Claim7.holds Tryz.pinned (.plain (OpenSpec.ofChange typesNamesSpec)) typesNamesCard

/-- THE TIED CARD OF 'stilelaw02.TypesAssigns'. -/
def typesAssignsCard : Claim7 := { stood := { row := typesAssignsRow, standIns := [], harness := (true, "e85e744fd3839fd287a5de8ce2adb4664960d8e70c8894bd449a97869a0de7ce"), looks := true }, kinds := [], alts := [], laidByText := true, laidKinds := [.data, .data, .data, .data, .sentinel, .sentinel, .data, .pinned], laidTests := true, laidLooks := .later }
def TypesAssignsCardSaid : Prop := Claim7.holds Tryz.pinned (.plain (OpenSpec.ofChange typesAssignsSpec)) typesAssignsCard

/-- THE TIED CARD OF 'stilelaw02.TypesCasts'. -/
def typesCastsCard : Claim7 := { stood := { row := typesCastsRow, standIns := [], harness := (true, "e85e744fd3839fd287a5de8ce2adb4664960d8e70c8894bd449a97869a0de7ce"), looks := true }, kinds := [], alts := [], laidByText := true, laidKinds := [.data, .data, .data, .data, .sentinel, .sentinel, .data, .pinned], laidTests := true, laidLooks := .later }
def TypesCastsCardSaid : Prop := Claim7.holds Tryz.pinned (.plain (OpenSpec.ofChange typesCastsSpec)) typesCastsCard

/-- THE TIED CARD OF 'stilelaw02.TypesFixed'. -/
def typesFixedCard : Claim7 := { stood := { row := typesFixedRow, standIns := [], harness := (true, "e85e744fd3839fd287a5de8ce2adb4664960d8e70c8894bd449a97869a0de7ce"), looks := true }, kinds := [], alts := [], laidByText := true, laidKinds := [.data, .data, .data, .data, .sentinel, .sentinel, .data, .pinned], laidTests := true, laidLooks := .later }
def TypesFixedCardSaid : Prop := Claim7.holds Tryz.pinned (.plain (OpenSpec.ofChange typesFixedSpec)) typesFixedCard

/-- THE SECOND FORM's CARD OF 'stilelaw02.TypesNames'. -/
def typesNamesUptoCard : Claim7 := { stood := { row := typesNamesUptoRow, standIns := [], harness := (true, "e85e744fd3839fd287a5de8ce2adb4664960d8e70c8894bd449a97869a0de7ce"), looks := true }, kinds := [], alts := [], laidByText := true, laidKinds := [.data, .data, .data, .data, .sentinel, .sentinel, .data, .pinned], laidTests := true, laidLooks := .later }
def TypesNamesUptoCardSaid : Prop := Claim7.holds Tryz.pinned (.plain (OpenSpec.upto typesNamesSpec)) typesNamesUptoCard

/-- THE SECOND FORM's CARD OF 'stilelaw02.TypesAssigns'. -/
def typesAssignsUptoCard : Claim7 := { stood := { row := typesAssignsUptoRow, standIns := [], harness := (true, "e85e744fd3839fd287a5de8ce2adb4664960d8e70c8894bd449a97869a0de7ce"), looks := true }, kinds := [], alts := [], laidByText := true, laidKinds := [.data, .data, .data, .data, .sentinel, .sentinel, .data, .pinned], laidTests := true, laidLooks := .later }
def TypesAssignsUptoCardSaid : Prop := Claim7.holds Tryz.pinned (.plain (OpenSpec.upto typesAssignsSpec)) typesAssignsUptoCard

/-- THE SECOND FORM's CARD OF 'stilelaw02.TypesCasts'. -/
def typesCastsUptoCard : Claim7 := { stood := { row := typesCastsUptoRow, standIns := [], harness := (true, "e85e744fd3839fd287a5de8ce2adb4664960d8e70c8894bd449a97869a0de7ce"), looks := true }, kinds := [], alts := [], laidByText := true, laidKinds := [.data, .data, .data, .data, .sentinel, .sentinel, .data, .pinned], laidTests := true, laidLooks := .later }
def TypesCastsUptoCardSaid : Prop := Claim7.holds Tryz.pinned (.plain (OpenSpec.upto typesCastsSpec)) typesCastsUptoCard

/-- THE SECOND FORM's CARD OF 'stilelaw02.TypesFixed'. -/
def typesFixedUptoCard : Claim7 := { stood := { row := typesFixedUptoRow, standIns := [], harness := (true, "e85e744fd3839fd287a5de8ce2adb4664960d8e70c8894bd449a97869a0de7ce"), looks := true }, kinds := [], alts := [], laidByText := true, laidKinds := [.data, .data, .data, .data, .sentinel, .sentinel, .data, .pinned], laidTests := true, laidLooks := .later }
def TypesFixedUptoCardSaid : Prop := Claim7.holds Tryz.pinned (.plain (OpenSpec.upto typesFixedSpec)) typesFixedUptoCard
end Rows
end Go.Proofs.YtacjjncmbklplaaGreatDoor
