/-
  DERIVED. GIVEN WITH THE SEED: THE CARDS: each row of YtcafoohjffcaeaaGreatDoorRows.lean that lists a variable, with what it lists TIED to the program's text (the seventh form; the later family's looks); each row that meets fmt, with fmt's text TOLD by the authors' own Lean function (tested against real Go, not proved from fmt's source: count such statements apart). THE CARD IS WHAT COUNTS. Prove the row's statement (the work); the ties are given (YtcafoohjffcaeaaGreatDoorTie.lean); close each card by the builder's one call (the guide's Derived/Test/ToyasCard.lean, 'card_holds'). Laid BY PROGRAM, IN A SANDBOX (cutbox-door.mjs). By AI agents, Wed Nov 11 2026. No macro, syntax, notation, axiom, sorry.
-/
import Derived.Test.YtcafoohjffcaeaaGreatDoorRows
import GoSem.ClaimSeven
namespace Go.Proofs.YtcafoohjffcaeaaGreatDoor
namespace Rows

/-- THE TIED CARD OF 'stilelaw17.EvalTotals'. -/
def evalTotalsCard : Claim7 := { stood := { row := evalTotalsRow, standIns := [], harness := (true, "351d1608e60939dfb75bdcdbee6331bc3f929d03c913784d6d656b8375ebdad9"), looks := true }, kinds := [], alts := [], laidByText := true, laidKinds := [.data, .data, .data, .data, .sentinel, .sentinel, .data, .pinned], laidTests := true, laidLooks := .later }
def EvalTotalsCardSaid : Prop := Claim7.holds Tryz.pinned (.plain (OpenSpec.ofChange evalTotalsSpec)) evalTotalsCard

/-- THE TIED CARD OF 'stilelaw17.EvalOnly'. -/
def evalOnlyCard : Claim7 := { stood := { row := evalOnlyRow, standIns := [], harness := (true, "351d1608e60939dfb75bdcdbee6331bc3f929d03c913784d6d656b8375ebdad9"), looks := true }, kinds := [], alts := [], laidByText := true, laidKinds := [.data, .data, .data, .data, .sentinel, .sentinel, .data, .pinned], laidTests := true, laidLooks := .later }
def EvalOnlyCardSaid : Prop := Claim7.holds Tryz.pinned (.plain (OpenSpec.ofChange evalOnlySpec)) evalOnlyCard

/-- THE TIED CARD OF 'stilelaw17.EvalSame'. -/
def evalSameCard : Claim7 := { stood := { row := evalSameRow, standIns := [], harness := (true, "351d1608e60939dfb75bdcdbee6331bc3f929d03c913784d6d656b8375ebdad9"), looks := true }, kinds := [], alts := [], laidByText := true, laidKinds := [.data, .data, .data, .data, .sentinel, .sentinel, .data, .pinned], laidTests := true, laidLooks := .later }
def EvalSameCardSaid : Prop := Claim7.holds Tryz.pinned (.plain (OpenSpec.ofChange evalSameSpec)) evalSameCard

/-- THE TIED CARD OF 'stilelaw17.EvalCounts'. -/
def evalCountsCard : Claim7 := { stood := { row := evalCountsRow, standIns := [], harness := (true, "351d1608e60939dfb75bdcdbee6331bc3f929d03c913784d6d656b8375ebdad9"), looks := true }, kinds := [], alts := [], laidByText := true, laidKinds := [.data, .data, .data, .data, .sentinel, .sentinel, .data, .pinned], laidTests := true, laidLooks := .later }
def EvalCountsCardSaid : Prop := Claim7.holds Tryz.pinned (.plain (OpenSpec.ofChange evalCountsSpec)) evalCountsCard

/-- THE SECOND FORM's CARD OF 'stilelaw17.EvalTotals'. -/
def evalTotalsUptoCard : Claim7 := { stood := { row := evalTotalsUptoRow, standIns := [], harness := (true, "351d1608e60939dfb75bdcdbee6331bc3f929d03c913784d6d656b8375ebdad9"), looks := true }, kinds := [], alts := [], laidByText := true, laidKinds := [.data, .data, .data, .data, .sentinel, .sentinel, .data, .pinned], laidTests := true, laidLooks := .later }
def EvalTotalsUptoCardSaid : Prop := Claim7.holds Tryz.pinned (.plain (OpenSpec.upto evalTotalsSpec)) evalTotalsUptoCard

/-- THE SECOND FORM's CARD OF 'stilelaw17.EvalOnly'. -/
def evalOnlyUptoCard : Claim7 := { stood := { row := evalOnlyUptoRow, standIns := [], harness := (true, "351d1608e60939dfb75bdcdbee6331bc3f929d03c913784d6d656b8375ebdad9"), looks := true }, kinds := [], alts := [], laidByText := true, laidKinds := [.data, .data, .data, .data, .sentinel, .sentinel, .data, .pinned], laidTests := true, laidLooks := .later }
def EvalOnlyUptoCardSaid : Prop := Claim7.holds Tryz.pinned (.plain (OpenSpec.upto evalOnlySpec)) evalOnlyUptoCard

/-- THE SECOND FORM's CARD OF 'stilelaw17.EvalSame'. -/
def evalSameUptoCard : Claim7 := { stood := { row := evalSameUptoRow, standIns := [], harness := (true, "351d1608e60939dfb75bdcdbee6331bc3f929d03c913784d6d656b8375ebdad9"), looks := true }, kinds := [], alts := [], laidByText := true, laidKinds := [.data, .data, .data, .data, .sentinel, .sentinel, .data, .pinned], laidTests := true, laidLooks := .later }
def EvalSameUptoCardSaid : Prop := Claim7.holds Tryz.pinned (.plain (OpenSpec.upto evalSameSpec)) evalSameUptoCard

/-- THE SECOND FORM's CARD OF 'stilelaw17.EvalCounts'. -/
def evalCountsUptoCard : Claim7 := { stood := { row := evalCountsUptoRow, standIns := [], harness := (true, "351d1608e60939dfb75bdcdbee6331bc3f929d03c913784d6d656b8375ebdad9"), looks := true }, kinds := [], alts := [], laidByText := true, laidKinds := [.data, .data, .data, .data, .sentinel, .sentinel, .data, .pinned], laidTests := true, laidLooks := .later }
def EvalCountsUptoCardSaid : Prop := Claim7.holds Tryz.pinned (.plain (OpenSpec.upto evalCountsSpec)) evalCountsUptoCard
end Rows
end Go.Proofs.YtcafoohjffcaeaaGreatDoor
