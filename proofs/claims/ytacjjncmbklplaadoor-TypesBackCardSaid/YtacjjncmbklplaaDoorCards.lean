/-
  DERIVED. GIVEN WITH THE SEED: THE CARDS: each row of YtacjjncmbklplaaDoorRows.lean that lists a variable, with what it lists TIED to the program's text (the seventh form; the later family's looks); each row that meets fmt, with fmt's text TOLD by the authors' own Lean function (tested against real Go, not proved from fmt's source: count such statements apart). THE CARD IS WHAT COUNTS. Prove the row's statement (the work); the ties are given (YtacjjncmbklplaaDoorTie.lean); close each card by the builder's one call (the guide's Derived/Test/ToyasCard.lean, 'card_holds'). Laid BY PROGRAM, IN A SANDBOX (cutbox-door.mjs). By AI agents, Wed Nov 11 2026. No macro, syntax, notation, axiom, sorry.
-/
import Derived.Test.YtacjjncmbklplaaDoorRows
import GoSem.ClaimSeven
namespace Go.Proofs.YtacjjncmbklplaaDoor
namespace Rows

/-- THE TIED CARD OF 'stilelaw02.TypesBack'. -/
def typesBackCard : Claim7 := { stood := { row := typesBackRow, standIns := [], harness := (true, "aee563e91f55f42f9ae27cd0d49af38eb08d4277fbddc704ec638b77b640f1a2"), looks := true }, kinds := [], alts := [], laidByText := true, laidKinds := [.data, .data, .data, .data, .sentinel, .sentinel, .data, .pinned], laidTests := true, laidLooks := .later }
def TypesBackCardSaid : Prop := Claim7.holds Tryd.pinned (.plain (OpenSpec.ofChange typesBackSpec)) typesBackCard

/-- THE TIED CARD OF 'stilelaw02.TypesRanges'. -/
def typesRangesCard : Claim7 := { stood := { row := typesRangesRow, standIns := [], harness := (true, "aee563e91f55f42f9ae27cd0d49af38eb08d4277fbddc704ec638b77b640f1a2"), looks := true }, kinds := [], alts := [], laidByText := true, laidKinds := [.data, .data, .data, .data, .sentinel, .sentinel, .data, .pinned], laidTests := true, laidLooks := .later }
def TypesRangesCardSaid : Prop := Claim7.holds Tryd.pinned (.plain (OpenSpec.ofChange typesRangesSpec)) typesRangesCard

/-- THE TIED CARD OF 'stilelaw02.TypesLong'. -/
def typesLongCard : Claim7 := { stood := { row := typesLongRow, standIns := [], harness := (true, "aee563e91f55f42f9ae27cd0d49af38eb08d4277fbddc704ec638b77b640f1a2"), looks := true }, kinds := [], alts := [], laidByText := true, laidKinds := [.data, .data, .data, .data, .sentinel, .sentinel, .data, .pinned], laidTests := true, laidLooks := .later }
def TypesLongCardSaid : Prop := Claim7.holds Tryd.pinned (.plain (OpenSpec.ofChange typesLongSpec)) typesLongCard

/-- THE SECOND FORM's CARD OF 'stilelaw02.TypesBack'. -/
def typesBackUptoCard : Claim7 := { stood := { row := typesBackUptoRow, standIns := [], harness := (true, "aee563e91f55f42f9ae27cd0d49af38eb08d4277fbddc704ec638b77b640f1a2"), looks := true }, kinds := [], alts := [], laidByText := true, laidKinds := [.data, .data, .data, .data, .sentinel, .sentinel, .data, .pinned], laidTests := true, laidLooks := .later }
def TypesBackUptoCardSaid : Prop := Claim7.holds Tryd.pinned (.plain (OpenSpec.upto typesBackSpec)) typesBackUptoCard

/-- THE SECOND FORM's CARD OF 'stilelaw02.TypesRanges'. -/
def typesRangesUptoCard : Claim7 := { stood := { row := typesRangesUptoRow, standIns := [], harness := (true, "aee563e91f55f42f9ae27cd0d49af38eb08d4277fbddc704ec638b77b640f1a2"), looks := true }, kinds := [], alts := [], laidByText := true, laidKinds := [.data, .data, .data, .data, .sentinel, .sentinel, .data, .pinned], laidTests := true, laidLooks := .later }
def TypesRangesUptoCardSaid : Prop := Claim7.holds Tryd.pinned (.plain (OpenSpec.upto typesRangesSpec)) typesRangesUptoCard

/-- THE SECOND FORM's CARD OF 'stilelaw02.TypesLong'. -/
def typesLongUptoCard : Claim7 := { stood := { row := typesLongUptoRow, standIns := [], harness := (true, "aee563e91f55f42f9ae27cd0d49af38eb08d4277fbddc704ec638b77b640f1a2"), looks := true }, kinds := [], alts := [], laidByText := true, laidKinds := [.data, .data, .data, .data, .sentinel, .sentinel, .data, .pinned], laidTests := true, laidLooks := .later }
def TypesLongUptoCardSaid : Prop := Claim7.holds Tryd.pinned (.plain (OpenSpec.upto typesLongSpec)) typesLongUptoCard
end Rows
end Go.Proofs.YtacjjncmbklplaaDoor
