/-
  DERIVED. GIVEN WITH THE SEED: THE CARDS: each row of YtajijcfikihhjaaGreatDoorRows.lean that lists a variable, with what it lists TIED to the program's text (the seventh form; the later family's looks); each row that meets fmt, with fmt's text TOLD by the authors' own Lean function (tested against real Go, not proved from fmt's source: count such statements apart). THE CARD IS WHAT COUNTS. Prove the row's statement (the work); the ties are given (YtajijcfikihhjaaGreatDoorTie.lean); close each card by the builder's one call (the guide's Derived/Test/ToyasCard.lean, 'card_holds'). Laid BY PROGRAM, IN A SANDBOX (cutbox-door.mjs). By AI agents, Wed Nov 11 2026. No macro, syntax, notation, axiom, sorry.
-/
import Derived.Test.YtajijcfikihhjaaGreatDoorRows
import GoSem.ClaimSeven
namespace Go.Proofs.YtajijcfikihhjaaGreatDoor
namespace Rows

/-- THE TIED CARD OF 'partbooklaw39.AuditMatchesReference'. -/
def auditMatchesReferenceCard : Claim7 := { stood := { row := auditMatchesReferenceRow, standIns := [], harness := (true, "a2c6671bbf2d4a7cbac22d9cd890fd65172724366d0d5b8048734987ae026e0e"), looks := false }, kinds := [], alts := [], laidByText := true, laidKinds := [.data, .data, .data], laidTests := true, laidLooks := .later }
def AuditMatchesReferenceCardSaid : Prop := Claim7.holds Tryz.pinned (.plain (OpenSpec.ofChange auditMatchesReferenceSpec)) auditMatchesReferenceCard

/-- THE TIED CARD OF 'partbooklaw39.AuditEach'. -/
def auditEachCard : Claim7 := { stood := { row := auditEachRow, standIns := [], harness := (true, "a2c6671bbf2d4a7cbac22d9cd890fd65172724366d0d5b8048734987ae026e0e"), looks := false }, kinds := [], alts := [], laidByText := true, laidKinds := [.data, .data, .data], laidTests := true, laidLooks := .later }
def AuditEachCardSaid : Prop := Claim7.holds Tryz.pinned (.plain (OpenSpec.ofChange auditEachSpec)) auditEachCard

/-- THE TIED CARD OF 'partbooklaw39.AuditBegins'. -/
def auditBeginsCard : Claim7 := { stood := { row := auditBeginsRow, standIns := [], harness := (true, "a2c6671bbf2d4a7cbac22d9cd890fd65172724366d0d5b8048734987ae026e0e"), looks := false }, kinds := [], alts := [], laidByText := true, laidKinds := [.data, .data, .data], laidTests := true, laidLooks := .later }
def AuditBeginsCardSaid : Prop := Claim7.holds Tryz.pinned (.plain (OpenSpec.ofChange auditBeginsSpec)) auditBeginsCard

/-- THE TIED CARD OF 'partbooklaw39.AuditPrivate'. -/
def auditPrivateCard : Claim7 := { stood := { row := auditPrivateRow, standIns := [], harness := (true, "a2c6671bbf2d4a7cbac22d9cd890fd65172724366d0d5b8048734987ae026e0e"), looks := false }, kinds := [], alts := [], laidByText := true, laidKinds := [.data, .data, .data], laidTests := true, laidLooks := .later }
def AuditPrivateCardSaid : Prop := Claim7.holds Tryz.pinned (.plain (OpenSpec.ofChange auditPrivateSpec)) auditPrivateCard

/-- THE TIED CARD OF 'partbooklaw39.AuditFinds'. -/
def auditFindsCard : Claim7 := { stood := { row := auditFindsRow, standIns := [], harness := (true, "a2c6671bbf2d4a7cbac22d9cd890fd65172724366d0d5b8048734987ae026e0e"), looks := false }, kinds := [], alts := [], laidByText := true, laidKinds := [.data, .data, .data], laidTests := true, laidLooks := .later }
def AuditFindsCardSaid : Prop := Claim7.holds Tryz.pinned (.plain (OpenSpec.ofChange auditFindsSpec)) auditFindsCard

/-- THE TIED CARD OF 'partbooklaw39.AuditCorrect'. -/
def auditCorrectCard : Claim7 := { stood := { row := auditCorrectRow, standIns := [], harness := (true, "a2c6671bbf2d4a7cbac22d9cd890fd65172724366d0d5b8048734987ae026e0e"), looks := false }, kinds := [], alts := [], laidByText := true, laidKinds := [.data, .data, .data], laidTests := true, laidLooks := .later }
def AuditCorrectCardSaid : Prop := Claim7.holds Tryz.pinned (.plain (OpenSpec.ofChange auditCorrectSpec)) auditCorrectCard

/-- THE SECOND FORM's CARD OF 'partbooklaw39.AuditMatchesReference'. -/
def auditMatchesReferenceUptoCard : Claim7 := { stood := { row := auditMatchesReferenceUptoRow, standIns := [], harness := (true, "a2c6671bbf2d4a7cbac22d9cd890fd65172724366d0d5b8048734987ae026e0e"), looks := false }, kinds := [], alts := [], laidByText := true, laidKinds := [.data, .data, .data], laidTests := true, laidLooks := .later }
def AuditMatchesReferenceUptoCardSaid : Prop := Claim7.holds Tryz.pinned (.plain (OpenSpec.upto auditMatchesReferenceSpec)) auditMatchesReferenceUptoCard

/-- THE SECOND FORM's CARD OF 'partbooklaw39.AuditEach'. -/
def auditEachUptoCard : Claim7 := { stood := { row := auditEachUptoRow, standIns := [], harness := (true, "a2c6671bbf2d4a7cbac22d9cd890fd65172724366d0d5b8048734987ae026e0e"), looks := false }, kinds := [], alts := [], laidByText := true, laidKinds := [.data, .data, .data], laidTests := true, laidLooks := .later }
def AuditEachUptoCardSaid : Prop := Claim7.holds Tryz.pinned (.plain (OpenSpec.upto auditEachSpec)) auditEachUptoCard

/-- THE SECOND FORM's CARD OF 'partbooklaw39.AuditBegins'. -/
def auditBeginsUptoCard : Claim7 := { stood := { row := auditBeginsUptoRow, standIns := [], harness := (true, "a2c6671bbf2d4a7cbac22d9cd890fd65172724366d0d5b8048734987ae026e0e"), looks := false }, kinds := [], alts := [], laidByText := true, laidKinds := [.data, .data, .data], laidTests := true, laidLooks := .later }
def AuditBeginsUptoCardSaid : Prop := Claim7.holds Tryz.pinned (.plain (OpenSpec.upto auditBeginsSpec)) auditBeginsUptoCard

/-- THE SECOND FORM's CARD OF 'partbooklaw39.AuditPrivate'. -/
def auditPrivateUptoCard : Claim7 := { stood := { row := auditPrivateUptoRow, standIns := [], harness := (true, "a2c6671bbf2d4a7cbac22d9cd890fd65172724366d0d5b8048734987ae026e0e"), looks := false }, kinds := [], alts := [], laidByText := true, laidKinds := [.data, .data, .data], laidTests := true, laidLooks := .later }
def AuditPrivateUptoCardSaid : Prop := Claim7.holds Tryz.pinned (.plain (OpenSpec.upto auditPrivateSpec)) auditPrivateUptoCard

/-- THE SECOND FORM's CARD OF 'partbooklaw39.AuditFinds'. -/
def auditFindsUptoCard : Claim7 := { stood := { row := auditFindsUptoRow, standIns := [], harness := (true, "a2c6671bbf2d4a7cbac22d9cd890fd65172724366d0d5b8048734987ae026e0e"), looks := false }, kinds := [], alts := [], laidByText := true, laidKinds := [.data, .data, .data], laidTests := true, laidLooks := .later }
def AuditFindsUptoCardSaid : Prop := Claim7.holds Tryz.pinned (.plain (OpenSpec.upto auditFindsSpec)) auditFindsUptoCard

/-- THE SECOND FORM's CARD OF 'partbooklaw39.AuditCorrect'. -/
def auditCorrectUptoCard : Claim7 := { stood := { row := auditCorrectUptoRow, standIns := [], harness := (true, "a2c6671bbf2d4a7cbac22d9cd890fd65172724366d0d5b8048734987ae026e0e"), looks := false }, kinds := [], alts := [], laidByText := true, laidKinds := [.data, .data, .data], laidTests := true, laidLooks := .later }
def AuditCorrectUptoCardSaid : Prop := Claim7.holds Tryz.pinned (.plain (OpenSpec.upto auditCorrectSpec)) auditCorrectUptoCard
end Rows
end Go.Proofs.YtajijcfikihhjaaGreatDoor
