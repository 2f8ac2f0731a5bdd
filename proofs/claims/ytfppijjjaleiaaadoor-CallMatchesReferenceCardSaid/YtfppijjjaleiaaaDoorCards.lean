/-
  DERIVED. GIVEN WITH THE SEED: THE CARDS: each row of YtfppijjjaleiaaaDoorRows.lean that lists a variable, with what it lists TIED to the program's text (the seventh form; the later family's looks); each row that meets fmt, with fmt's text TOLD by the authors' own Lean function (tested against real Go, not proved from fmt's source: count such statements apart). THE CARD IS WHAT COUNTS. Prove the row's statement (the work); the ties are given (YtfppijjjaleiaaaDoorTie.lean); close each card by the builder's one call (the guide's Derived/Test/ToyasCard.lean, 'card_holds'). Laid BY PROGRAM, IN A SANDBOX (cutbox-door.mjs). By AI agents, Wed Nov 11 2026. No macro, syntax, notation, axiom, sorry.
-/
import Derived.Test.YtfppijjjaleiaaaDoorRows
import GoSem.ClaimSeven
namespace Go.Proofs.YtfppijjjaleiaaaDoor
namespace Rows

/-- THE TIED CARD OF 'partbooklaw29.CallMatchesReference'. -/
def callMatchesReferenceCard : Claim7 := { stood := { row := callMatchesReferenceRow, standIns := [], harness := (true, "d841bc83f7709927e18c6d32b4f06aa751e7de2fec174850993dc5720031e039"), looks := true }, kinds := [], alts := [], laidByText := true, laidKinds := [.data, .data, .data, .sentinel, .sentinel], laidTests := true, laidLooks := .later }
def CallMatchesReferenceCardSaid : Prop := Claim7.holds Tryd.pinned (.plain (OpenSpec.ofChange callMatchesReferenceSpec)) callMatchesReferenceCard

/-- THE TIED CARD OF 'partbooklaw29.CallBack'. -/
def callBackCard : Claim7 := { stood := { row := callBackRow, standIns := [], harness := (true, "d841bc83f7709927e18c6d32b4f06aa751e7de2fec174850993dc5720031e039"), looks := true }, kinds := [], alts := [], laidByText := true, laidKinds := [.data, .data, .data, .sentinel, .sentinel], laidTests := true, laidLooks := .later }
def CallBackCardSaid : Prop := Claim7.holds Tryd.pinned (.plain (OpenSpec.ofChange callBackSpec)) callBackCard

/-- THE TIED CARD OF 'partbooklaw29.CallSources'. -/
def callSourcesCard : Claim7 := { stood := { row := callSourcesRow, standIns := [], harness := (true, "d841bc83f7709927e18c6d32b4f06aa751e7de2fec174850993dc5720031e039"), looks := true }, kinds := [], alts := [], laidByText := true, laidKinds := [.data, .data, .data, .sentinel, .sentinel], laidTests := true, laidLooks := .later }
def CallSourcesCardSaid : Prop := Claim7.holds Tryd.pinned (.plain (OpenSpec.ofChange callSourcesSpec)) callSourcesCard

/-- THE TIED CARD OF 'partbooklaw29.CallBlanks'. -/
def callBlanksCard : Claim7 := { stood := { row := callBlanksRow, standIns := [], harness := (true, "d841bc83f7709927e18c6d32b4f06aa751e7de2fec174850993dc5720031e039"), looks := true }, kinds := [], alts := [], laidByText := true, laidKinds := [.data, .data, .data, .sentinel, .sentinel], laidTests := true, laidLooks := .later }
def CallBlanksCardSaid : Prop := Claim7.holds Tryd.pinned (.plain (OpenSpec.ofChange callBlanksSpec)) callBlanksCard

/-- THE TIED CARD OF 'partbooklaw29.CallDifferent'. -/
def callDifferentCard : Claim7 := { stood := { row := callDifferentRow, standIns := [], harness := (true, "d841bc83f7709927e18c6d32b4f06aa751e7de2fec174850993dc5720031e039"), looks := true }, kinds := [], alts := [], laidByText := true, laidKinds := [.data, .data, .data, .sentinel, .sentinel], laidTests := true, laidLooks := .later }
def CallDifferentCardSaid : Prop := Claim7.holds Tryd.pinned (.plain (OpenSpec.ofChange callDifferentSpec)) callDifferentCard

/-- THE TIED CARD OF 'partbooklaw29.CallParts'. -/
def callPartsCard : Claim7 := { stood := { row := callPartsRow, standIns := [], harness := (true, "d841bc83f7709927e18c6d32b4f06aa751e7de2fec174850993dc5720031e039"), looks := true }, kinds := [], alts := [], laidByText := true, laidKinds := [.data, .data, .data, .sentinel, .sentinel], laidTests := true, laidLooks := .later }
def CallPartsCardSaid : Prop := Claim7.holds Tryd.pinned (.plain (OpenSpec.ofChange callPartsSpec)) callPartsCard

/-- THE SECOND FORM's CARD OF 'partbooklaw29.CallMatchesReference'. -/
def callMatchesReferenceUptoCard : Claim7 := { stood := { row := callMatchesReferenceUptoRow, standIns := [], harness := (true, "d841bc83f7709927e18c6d32b4f06aa751e7de2fec174850993dc5720031e039"), looks := true }, kinds := [], alts := [], laidByText := true, laidKinds := [.data, .data, .data, .sentinel, .sentinel], laidTests := true, laidLooks := .later }
def CallMatchesReferenceUptoCardSaid : Prop := Claim7.holds Tryd.pinned (.plain (OpenSpec.upto callMatchesReferenceSpec)) callMatchesReferenceUptoCard

/-- THE SECOND FORM's CARD OF 'partbooklaw29.CallBack'. -/
def callBackUptoCard : Claim7 := { stood := { row := callBackUptoRow, standIns := [], harness := (true, "d841bc83f7709927e18c6d32b4f06aa751e7de2fec174850993dc5720031e039"), looks := true }, kinds := [], alts := [], laidByText := true, laidKinds := [.data, .data, .data, .sentinel, .sentinel], laidTests := true, laidLooks := .later }
def CallBackUptoCardSaid : Prop := Claim7.holds Tryd.pinned (.plain (OpenSpec.upto callBackSpec)) callBackUptoCard

/-- THE SECOND FORM's CARD OF 'partbooklaw29.CallSources'. -/
def callSourcesUptoCard : Claim7 := { stood := { row := callSourcesUptoRow, standIns := [], harness := (true, "d841bc83f7709927e18c6d32b4f06aa751e7de2fec174850993dc5720031e039"), looks := true }, kinds := [], alts := [], laidByText := true, laidKinds := [.data, .data, .data, .sentinel, .sentinel], laidTests := true, laidLooks := .later }
def CallSourcesUptoCardSaid : Prop := Claim7.holds Tryd.pinned (.plain (OpenSpec.upto callSourcesSpec)) callSourcesUptoCard

/-- THE SECOND FORM's CARD OF 'partbooklaw29.CallBlanks'. -/
def callBlanksUptoCard : Claim7 := { stood := { row := callBlanksUptoRow, standIns := [], harness := (true, "d841bc83f7709927e18c6d32b4f06aa751e7de2fec174850993dc5720031e039"), looks := true }, kinds := [], alts := [], laidByText := true, laidKinds := [.data, .data, .data, .sentinel, .sentinel], laidTests := true, laidLooks := .later }
def CallBlanksUptoCardSaid : Prop := Claim7.holds Tryd.pinned (.plain (OpenSpec.upto callBlanksSpec)) callBlanksUptoCard

/-- THE SECOND FORM's CARD OF 'partbooklaw29.CallDifferent'. -/
def callDifferentUptoCard : Claim7 := { stood := { row := callDifferentUptoRow, standIns := [], harness := (true, "d841bc83f7709927e18c6d32b4f06aa751e7de2fec174850993dc5720031e039"), looks := true }, kinds := [], alts := [], laidByText := true, laidKinds := [.data, .data, .data, .sentinel, .sentinel], laidTests := true, laidLooks := .later }
def CallDifferentUptoCardSaid : Prop := Claim7.holds Tryd.pinned (.plain (OpenSpec.upto callDifferentSpec)) callDifferentUptoCard

/-- THE SECOND FORM's CARD OF 'partbooklaw29.CallParts'. -/
def callPartsUptoCard : Claim7 := { stood := { row := callPartsUptoRow, standIns := [], harness := (true, "d841bc83f7709927e18c6d32b4f06aa751e7de2fec174850993dc5720031e039"), looks := true }, kinds := [], alts := [], laidByText := true, laidKinds := [.data, .data, .data, .sentinel, .sentinel], laidTests := true, laidLooks := .later }
def CallPartsUptoCardSaid : Prop := Claim7.holds Tryd.pinned (.plain (OpenSpec.upto callPartsSpec)) callPartsUptoCard
end Rows
end Go.Proofs.YtfppijjjaleiaaaDoor
