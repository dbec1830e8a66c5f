/-
  DERIVED. GIVEN WITH THE SEED: THE CARDS: each row of YtafjhlangdcefaaDoorRows.lean that lists a variable, with what it lists TIED to the program's text (the seventh form; the later family's looks); each row that meets fmt, with fmt's text TOLD by the authors' own Lean function (tested against real Go, not proved from fmt's source: count such statements apart). THE CARD IS WHAT COUNTS. Prove the row's statement (the work); the ties are given (YtafjhlangdcefaaDoorTie.lean); close each card by the builder's one call (the guide's Derived/Test/ToyasCard.lean, 'card_holds'). Laid BY PROGRAM, IN A SANDBOX (cutbox-door.mjs). By AI agents, Wed Nov 11 2026. No macro, syntax, notation, axiom, sorry.
-/
import Derived.Test.YtafjhlangdcefaaDoorRows
import GoSem.ClaimSeven
namespace Go.Proofs.YtafjhlangdcefaaDoor
namespace Rows

/-- THE TIED CARD OF 'stilelaw03.KeyOrder'. -/
def keyOrderCard : Claim7 := { stood := { row := keyOrderRow, standIns := [], harness := (true, "6d400ef47fe29e9cedf0f9d5aecefef15708d4f1a726442f008802189ee7c4d1"), looks := true }, kinds := [], alts := [], laidByText := true, laidKinds := [.data, .pinned], laidTests := true, laidLooks := .later }
def KeyOrderCardSaid : Prop := Claim7.holds Tryd.pinned (.plain (OpenSpec.ofChange keyOrderSpec)) keyOrderCard

/-- THE TIED CARD OF 'stilelaw03.KeyBack'. -/
def keyBackCard : Claim7 := { stood := { row := keyBackRow, standIns := [], harness := (true, "6d400ef47fe29e9cedf0f9d5aecefef15708d4f1a726442f008802189ee7c4d1"), looks := true }, kinds := [], alts := [], laidByText := true, laidKinds := [.data, .pinned], laidTests := true, laidLooks := .later }
def KeyBackCardSaid : Prop := Claim7.holds Tryd.pinned (.plain (OpenSpec.ofChange keyBackSpec)) keyBackCard

/-- THE TIED CARD OF 'stilelaw03.KeyJoined'. -/
def keyJoinedCard : Claim7 := { stood := { row := keyJoinedRow, standIns := [], harness := (true, "6d400ef47fe29e9cedf0f9d5aecefef15708d4f1a726442f008802189ee7c4d1"), looks := true }, kinds := [], alts := [], laidByText := true, laidKinds := [.data, .pinned], laidTests := true, laidLooks := .later }
def KeyJoinedCardSaid : Prop := Claim7.holds Tryd.pinned (.plain (OpenSpec.ofChange keyJoinedSpec)) keyJoinedCard

/-- THE TIED CARD OF 'stilelaw03.KeyCodes'. -/
def keyCodesCard : Claim7 := { stood := { row := keyCodesRow, standIns := [], harness := (true, "6d400ef47fe29e9cedf0f9d5aecefef15708d4f1a726442f008802189ee7c4d1"), looks := true }, kinds := [], alts := [], laidByText := true, laidKinds := [.data, .pinned], laidTests := true, laidLooks := .later }
def KeyCodesCardSaid : Prop := Claim7.holds Tryd.pinned (.plain (OpenSpec.ofChange keyCodesSpec)) keyCodesCard

/-- THE TIED CARD OF 'stilelaw03.KeyAbove'. -/
def keyAboveCard : Claim7 := { stood := { row := keyAboveRow, standIns := [], harness := (true, "6d400ef47fe29e9cedf0f9d5aecefef15708d4f1a726442f008802189ee7c4d1"), looks := true }, kinds := [], alts := [], laidByText := true, laidKinds := [.data, .pinned], laidTests := true, laidLooks := .later }
def KeyAboveCardSaid : Prop := Claim7.holds Tryd.pinned (.plain (OpenSpec.ofChange keyAboveSpec)) keyAboveCard

/-- THE SECOND FORM's CARD OF 'stilelaw03.KeyOrder'. -/
def keyOrderUptoCard : Claim7 := { stood := { row := keyOrderUptoRow, standIns := [], harness := (true, "6d400ef47fe29e9cedf0f9d5aecefef15708d4f1a726442f008802189ee7c4d1"), looks := true }, kinds := [], alts := [], laidByText := true, laidKinds := [.data, .pinned], laidTests := true, laidLooks := .later }
def KeyOrderUptoCardSaid : Prop := Claim7.holds Tryd.pinned (.plain (OpenSpec.upto keyOrderSpec)) keyOrderUptoCard

/-- THE SECOND FORM's CARD OF 'stilelaw03.KeyBack'. -/
def keyBackUptoCard : Claim7 := { stood := { row := keyBackUptoRow, standIns := [], harness := (true, "6d400ef47fe29e9cedf0f9d5aecefef15708d4f1a726442f008802189ee7c4d1"), looks := true }, kinds := [], alts := [], laidByText := true, laidKinds := [.data, .pinned], laidTests := true, laidLooks := .later }
def KeyBackUptoCardSaid : Prop := Claim7.holds Tryd.pinned (.plain (OpenSpec.upto keyBackSpec)) keyBackUptoCard

/-- THE SECOND FORM's CARD OF 'stilelaw03.KeyJoined'. -/
def keyJoinedUptoCard : Claim7 := { stood := { row := keyJoinedUptoRow, standIns := [], harness := (true, "6d400ef47fe29e9cedf0f9d5aecefef15708d4f1a726442f008802189ee7c4d1"), looks := true }, kinds := [], alts := [], laidByText := true, laidKinds := [.data, .pinned], laidTests := true, laidLooks := .later }
def KeyJoinedUptoCardSaid : Prop := Claim7.holds Tryd.pinned (.plain (OpenSpec.upto keyJoinedSpec)) keyJoinedUptoCard

/-- THE SECOND FORM's CARD OF 'stilelaw03.KeyCodes'. -/
def keyCodesUptoCard : Claim7 := { stood := { row := keyCodesUptoRow, standIns := [], harness := (true, "6d400ef47fe29e9cedf0f9d5aecefef15708d4f1a726442f008802189ee7c4d1"), looks := true }, kinds := [], alts := [], laidByText := true, laidKinds := [.data, .pinned], laidTests := true, laidLooks := .later }
def KeyCodesUptoCardSaid : Prop := Claim7.holds Tryd.pinned (.plain (OpenSpec.upto keyCodesSpec)) keyCodesUptoCard

/-- THE SECOND FORM's CARD OF 'stilelaw03.KeyAbove'. -/
def keyAboveUptoCard : Claim7 := { stood := { row := keyAboveUptoRow, standIns := [], harness := (true, "6d400ef47fe29e9cedf0f9d5aecefef15708d4f1a726442f008802189ee7c4d1"), looks := true }, kinds := [], alts := [], laidByText := true, laidKinds := [.data, .pinned], laidTests := true, laidLooks := .later }
def KeyAboveUptoCardSaid : Prop := Claim7.holds Tryd.pinned (.plain (OpenSpec.upto keyAboveSpec)) keyAboveUptoCard
end Rows
end Go.Proofs.YtafjhlangdcefaaDoor
