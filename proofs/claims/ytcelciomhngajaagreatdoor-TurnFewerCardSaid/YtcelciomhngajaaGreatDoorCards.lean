/-
  DERIVED. GIVEN WITH THE SEED: THE CARDS: each row of YtcelciomhngajaaGreatDoorRows.lean that lists a variable, with what it lists TIED to the program's text (the seventh form; the later family's looks); each row that meets fmt, with fmt's text TOLD by the authors' own Lean function (tested against real Go, not proved from fmt's source: count such statements apart). THE CARD IS WHAT COUNTS. Prove the row's statement (the work); the ties are given (YtcelciomhngajaaGreatDoorTie.lean); close each card by the builder's one call (the guide's Derived/Test/ToyasCard.lean, 'card_holds'). Laid BY PROGRAM, IN A SANDBOX (cutbox-door.mjs). By AI agents, Wed Nov 11 2026. No macro, syntax, notation, axiom, sorry.
-/
import Derived.Test.YtcelciomhngajaaGreatDoorRows
import GoSem.ClaimSeven
namespace Go.Proofs.YtcelciomhngajaaGreatDoor
namespace Rows

/-- THE TIED CARD OF 'partbooklaw25.TurnMatchesReference'. -/
def turnMatchesReferenceCard : Claim7 := { stood := { row := turnMatchesReferenceRow, standIns := [], harness := (true, "a5834828f8ae03bc09edae759bacd29da445380e0ceb9e193639cb9ba3666c13"), looks := false }, kinds := [], alts := [], laidByText := true, laidKinds := [.data], laidTests := true, laidLooks := .later }
def TurnMatchesReferenceCardSaid : Prop := Claim7.holds Tryz.pinned (.plain (OpenSpec.ofChange turnMatchesReferenceSpec)) turnMatchesReferenceCard

/-- THE TIED CARD OF 'partbooklaw25.TurnTogether'. -/
def turnTogetherCard : Claim7 := { stood := { row := turnTogetherRow, standIns := [], harness := (true, "a5834828f8ae03bc09edae759bacd29da445380e0ceb9e193639cb9ba3666c13"), looks := false }, kinds := [], alts := [], laidByText := true, laidKinds := [.data], laidTests := true, laidLooks := .later }
def TurnTogetherCardSaid : Prop := Claim7.holds Tryz.pinned (.plain (OpenSpec.ofChange turnTogetherSpec)) turnTogetherCard

/-- THE TIED CARD OF 'partbooklaw25.TurnRests'. -/
def turnRestsCard : Claim7 := { stood := { row := turnRestsRow, standIns := [], harness := (true, "a5834828f8ae03bc09edae759bacd29da445380e0ceb9e193639cb9ba3666c13"), looks := false }, kinds := [], alts := [], laidByText := true, laidKinds := [.data], laidTests := true, laidLooks := .later }
def TurnRestsCardSaid : Prop := Claim7.holds Tryz.pinned (.plain (OpenSpec.ofChange turnRestsSpec)) turnRestsCard

/-- THE TIED CARD OF 'partbooklaw25.TurnSame'. -/
def turnSameCard : Claim7 := { stood := { row := turnSameRow, standIns := [], harness := (true, "a5834828f8ae03bc09edae759bacd29da445380e0ceb9e193639cb9ba3666c13"), looks := false }, kinds := [], alts := [], laidByText := true, laidKinds := [.data], laidTests := true, laidLooks := .later }
def TurnSameCardSaid : Prop := Claim7.holds Tryz.pinned (.plain (OpenSpec.ofChange turnSameSpec)) turnSameCard

/-- THE TIED CARD OF 'partbooklaw25.TurnSlower'. -/
def turnSlowerCard : Claim7 := { stood := { row := turnSlowerRow, standIns := [], harness := (true, "a5834828f8ae03bc09edae759bacd29da445380e0ceb9e193639cb9ba3666c13"), looks := false }, kinds := [], alts := [], laidByText := true, laidKinds := [.data], laidTests := true, laidLooks := .later }
def TurnSlowerCardSaid : Prop := Claim7.holds Tryz.pinned (.plain (OpenSpec.ofChange turnSlowerSpec)) turnSlowerCard

/-- THE TIED CARD OF 'partbooklaw25.TurnFewer'. -/
def turnFewerCard : Claim7 := { stood := { row := turnFewerRow, standIns := [], harness := (true, "a5834828f8ae03bc09edae759bacd29da445380e0ceb9e193639cb9ba3666c13"), looks := false }, kinds := [], alts := [], laidByText := true, laidKinds := [.data], laidTests := true, laidLooks := .later }
def TurnFewerCardSaid : Prop := Claim7.holds Tryz.pinned (.plain (OpenSpec.ofChange turnFewerSpec)) turnFewerCard

/-- THE SECOND FORM's CARD OF 'partbooklaw25.TurnMatchesReference'. -/
def turnMatchesReferenceUptoCard : Claim7 := { stood := { row := turnMatchesReferenceUptoRow, standIns := [], harness := (true, "a5834828f8ae03bc09edae759bacd29da445380e0ceb9e193639cb9ba3666c13"), looks := false }, kinds := [], alts := [], laidByText := true, laidKinds := [.data], laidTests := true, laidLooks := .later }
def TurnMatchesReferenceUptoCardSaid : Prop := Claim7.holds Tryz.pinned (.plain (OpenSpec.upto turnMatchesReferenceSpec)) turnMatchesReferenceUptoCard

/-- THE SECOND FORM's CARD OF 'partbooklaw25.TurnTogether'. -/
def turnTogetherUptoCard : Claim7 := { stood := { row := turnTogetherUptoRow, standIns := [], harness := (true, "a5834828f8ae03bc09edae759bacd29da445380e0ceb9e193639cb9ba3666c13"), looks := false }, kinds := [], alts := [], laidByText := true, laidKinds := [.data], laidTests := true, laidLooks := .later }
def TurnTogetherUptoCardSaid : Prop := Claim7.holds Tryz.pinned (.plain (OpenSpec.upto turnTogetherSpec)) turnTogetherUptoCard

/-- THE SECOND FORM's CARD OF 'partbooklaw25.TurnRests'. -/
def turnRestsUptoCard : Claim7 := { stood := { row := turnRestsUptoRow, standIns := [], harness := (true, "a5834828f8ae03bc09edae759bacd29da445380e0ceb9e193639cb9ba3666c13"), looks := false }, kinds := [], alts := [], laidByText := true, laidKinds := [.data], laidTests := true, laidLooks := .later }
def TurnRestsUptoCardSaid : Prop := Claim7.holds Tryz.pinned (.plain (OpenSpec.upto turnRestsSpec)) turnRestsUptoCard

/-- THE SECOND FORM's CARD OF 'partbooklaw25.TurnSame'. -/
def turnSameUptoCard : Claim7 := { stood := { row := turnSameUptoRow, standIns := [], harness := (true, "a5834828f8ae03bc09edae759bacd29da445380e0ceb9e193639cb9ba3666c13"), looks := false }, kinds := [], alts := [], laidByText := true, laidKinds := [.data], laidTests := true, laidLooks := .later }
def TurnSameUptoCardSaid : Prop := Claim7.holds Tryz.pinned (.plain (OpenSpec.upto turnSameSpec)) turnSameUptoCard

/-- THE SECOND FORM's CARD OF 'partbooklaw25.TurnSlower'. -/
def turnSlowerUptoCard : Claim7 := { stood := { row := turnSlowerUptoRow, standIns := [], harness := (true, "a5834828f8ae03bc09edae759bacd29da445380e0ceb9e193639cb9ba3666c13"), looks := false }, kinds := [], alts := [], laidByText := true, laidKinds := [.data], laidTests := true, laidLooks := .later }
def TurnSlowerUptoCardSaid : Prop := Claim7.holds Tryz.pinned (.plain (OpenSpec.upto turnSlowerSpec)) turnSlowerUptoCard

/-- THE SECOND FORM's CARD OF 'partbooklaw25.TurnFewer'. -/
def turnFewerUptoCard : Claim7 := { stood := { row := turnFewerUptoRow, standIns := [], harness := (true, "a5834828f8ae03bc09edae759bacd29da445380e0ceb9e193639cb9ba3666c13"), looks := false }, kinds := [], alts := [], laidByText := true, laidKinds := [.data], laidTests := true, laidLooks := .later }
def TurnFewerUptoCardSaid : Prop := Claim7.holds Tryz.pinned (.plain (OpenSpec.upto turnFewerSpec)) turnFewerUptoCard
end Rows
end Go.Proofs.YtcelciomhngajaaGreatDoor
