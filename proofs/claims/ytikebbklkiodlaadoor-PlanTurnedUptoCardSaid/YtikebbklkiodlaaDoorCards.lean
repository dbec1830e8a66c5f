/-
  DERIVED. GIVEN WITH THE SEED: THE CARDS: each row of YtikebbklkiodlaaDoorRows.lean that lists a variable, with what it lists TIED to the program's text (the seventh form; the later family's looks); each row that meets fmt, with fmt's text TOLD by the authors' own Lean function (tested against real Go, not proved from fmt's source: count such statements apart). THE CARD IS WHAT COUNTS. Prove the row's statement (the work); the ties are given (YtikebbklkiodlaaDoorTie.lean); close each card by the builder's one call (the guide's Derived/Test/ToyasCard.lean, 'card_holds'). Laid BY PROGRAM, IN A SANDBOX (cutbox-door.mjs). By AI agents, Wed Nov 11 2026. No macro, syntax, notation, axiom, sorry.
-/
import Derived.Test.YtikebbklkiodlaaDoorRows
import GoSem.ClaimSeven
namespace Go.Proofs.YtikebbklkiodlaaDoor
namespace Rows

/-- THE TIED CARD OF 'stilelaw18.PlanLocks'. -/
def planLocksCard : Claim7 := { stood := { row := planLocksRow, standIns := [], harness := (true, "bee6a8b95cf84d0f8d987bb0ed832fef7dcd783ff3eb059bae6acb6a5c991276"), looks := false }, kinds := [], alts := [], laidByText := true, laidKinds := [.data, .data, .pinned], laidTests := true, laidLooks := .later }
def PlanLocksCardSaid : Prop := Claim7.holds Tryd.pinned (.plain (OpenSpec.ofChange planLocksSpec)) planLocksCard

/-- THE TIED CARD OF 'stilelaw18.PlanStronger'. -/
def planStrongerCard : Claim7 := { stood := { row := planStrongerRow, standIns := [], harness := (true, "bee6a8b95cf84d0f8d987bb0ed832fef7dcd783ff3eb059bae6acb6a5c991276"), looks := false }, kinds := [], alts := [], laidByText := true, laidKinds := [.data, .data, .pinned], laidTests := true, laidLooks := .later }
def PlanStrongerCardSaid : Prop := Claim7.holds Tryd.pinned (.plain (OpenSpec.ofChange planStrongerSpec)) planStrongerCard

/-- THE TIED CARD OF 'stilelaw18.PlanTurned'. -/
def planTurnedCard : Claim7 := { stood := { row := planTurnedRow, standIns := [], harness := (true, "bee6a8b95cf84d0f8d987bb0ed832fef7dcd783ff3eb059bae6acb6a5c991276"), looks := false }, kinds := [], alts := [], laidByText := true, laidKinds := [.data, .data, .pinned], laidTests := true, laidLooks := .later }
def PlanTurnedCardSaid : Prop := Claim7.holds Tryd.pinned (.plain (OpenSpec.ofChange planTurnedSpec)) planTurnedCard

/-- THE SECOND FORM's CARD OF 'stilelaw18.PlanLocks'. -/
def planLocksUptoCard : Claim7 := { stood := { row := planLocksUptoRow, standIns := [], harness := (true, "bee6a8b95cf84d0f8d987bb0ed832fef7dcd783ff3eb059bae6acb6a5c991276"), looks := false }, kinds := [], alts := [], laidByText := true, laidKinds := [.data, .data, .pinned], laidTests := true, laidLooks := .later }
def PlanLocksUptoCardSaid : Prop := Claim7.holds Tryd.pinned (.plain (OpenSpec.upto planLocksSpec)) planLocksUptoCard

/-- THE SECOND FORM's CARD OF 'stilelaw18.PlanStronger'. -/
def planStrongerUptoCard : Claim7 := { stood := { row := planStrongerUptoRow, standIns := [], harness := (true, "bee6a8b95cf84d0f8d987bb0ed832fef7dcd783ff3eb059bae6acb6a5c991276"), looks := false }, kinds := [], alts := [], laidByText := true, laidKinds := [.data, .data, .pinned], laidTests := true, laidLooks := .later }
def PlanStrongerUptoCardSaid : Prop := Claim7.holds Tryd.pinned (.plain (OpenSpec.upto planStrongerSpec)) planStrongerUptoCard

/-- THE SECOND FORM's CARD OF 'stilelaw18.PlanTurned'. -/
def planTurnedUptoCard : Claim7 := { stood := { row := planTurnedUptoRow, standIns := [], harness := (true, "bee6a8b95cf84d0f8d987bb0ed832fef7dcd783ff3eb059bae6acb6a5c991276"), looks := false }, kinds := [], alts := [], laidByText := true, laidKinds := [.data, .data, .pinned], laidTests := true, laidLooks := .later }
def PlanTurnedUptoCardSaid : Prop := Claim7.holds Tryd.pinned (.plain (OpenSpec.upto planTurnedSpec)) planTurnedUptoCard
end Rows
end Go.Proofs.YtikebbklkiodlaaDoor
