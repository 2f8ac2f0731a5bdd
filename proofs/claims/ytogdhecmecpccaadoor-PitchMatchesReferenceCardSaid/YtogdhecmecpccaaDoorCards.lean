/-
  DERIVED. GIVEN WITH THE SEED: THE CARDS: each row of YtogdhecmecpccaaDoorRows.lean that lists a variable, with what it lists TIED to the program's text (the seventh form; the later family's looks); each row that meets fmt, with fmt's text TOLD by the authors' own Lean function (tested against real Go, not proved from fmt's source: count such statements apart). THE CARD IS WHAT COUNTS. Prove the row's statement (the work); the ties are given (YtogdhecmecpccaaDoorTie.lean); close each card by the builder's one call (the guide's Derived/Test/ToyasCard.lean, 'card_holds'). Laid BY PROGRAM, IN A SANDBOX (cutbox-door.mjs). By AI agents, Wed Nov 11 2026. No macro, syntax, notation, axiom, sorry.
-/
import Derived.Test.YtogdhecmecpccaaDoorRows
import GoSem.ClaimSeven
namespace Go.Proofs.YtogdhecmecpccaaDoor
namespace Rows

/-- THE TIED CARD OF 'partbooklaw02.PitchBetween'. -/
def pitchBetweenCard : Claim7 := { stood := { row := pitchBetweenRow, standIns := [], harness := (true, "df13241c330cba0a18e5a968d14f5fc9163e2628026d6b52dd497b04609d9cb7"), looks := true }, kinds := [], alts := [], laidByText := true, laidKinds := [.data, .data, .data, .sentinel, .sentinel, .data], laidTests := true, laidLooks := .later }
def PitchBetweenCardSaid : Prop := Claim7.holds Tryd.pinned (.plain (OpenSpec.ofChange pitchBetweenSpec)) pitchBetweenCard

/-- THE TIED CARD OF 'partbooklaw02.PitchNumbers'. -/
def pitchNumbersCard : Claim7 := { stood := { row := pitchNumbersRow, standIns := [], harness := (true, "df13241c330cba0a18e5a968d14f5fc9163e2628026d6b52dd497b04609d9cb7"), looks := true }, kinds := [], alts := [], laidByText := true, laidKinds := [.data, .data, .data, .sentinel, .sentinel, .data], laidTests := true, laidLooks := .later }
def PitchNumbersCardSaid : Prop := Claim7.holds Tryd.pinned (.plain (OpenSpec.ofChange pitchNumbersSpec)) pitchNumbersCard

/-- THE TIED CARD OF 'partbooklaw02.PitchTexts'. -/
def pitchTextsCard : Claim7 := { stood := { row := pitchTextsRow, standIns := [], harness := (true, "df13241c330cba0a18e5a968d14f5fc9163e2628026d6b52dd497b04609d9cb7"), looks := true }, kinds := [], alts := [], laidByText := true, laidKinds := [.data, .data, .data, .sentinel, .sentinel, .data], laidTests := true, laidLooks := .later }
def PitchTextsCardSaid : Prop := Claim7.holds Tryd.pinned (.plain (OpenSpec.ofChange pitchTextsSpec)) pitchTextsCard

/-- THE TIED CARD OF 'partbooklaw02.PitchBack'. -/
def pitchBackCard : Claim7 := { stood := { row := pitchBackRow, standIns := [], harness := (true, "df13241c330cba0a18e5a968d14f5fc9163e2628026d6b52dd497b04609d9cb7"), looks := true }, kinds := [], alts := [], laidByText := true, laidKinds := [.data, .data, .data, .sentinel, .sentinel, .data], laidTests := true, laidLooks := .later }
def PitchBackCardSaid : Prop := Claim7.holds Tryd.pinned (.plain (OpenSpec.ofChange pitchBackSpec)) pitchBackCard

/-- THE TIED CARD OF 'partbooklaw02.PitchJoins'. -/
def pitchJoinsCard : Claim7 := { stood := { row := pitchJoinsRow, standIns := [], harness := (true, "df13241c330cba0a18e5a968d14f5fc9163e2628026d6b52dd497b04609d9cb7"), looks := true }, kinds := [], alts := [], laidByText := true, laidKinds := [.data, .data, .data, .sentinel, .sentinel, .data], laidTests := true, laidLooks := .later }
def PitchJoinsCardSaid : Prop := Claim7.holds Tryd.pinned (.plain (OpenSpec.ofChange pitchJoinsSpec)) pitchJoinsCard

/-- THE TIED CARD OF 'partbooklaw02.PitchMatchesReference'. -/
def pitchMatchesReferenceCard : Claim7 := { stood := { row := pitchMatchesReferenceRow, standIns := [], harness := (true, "df13241c330cba0a18e5a968d14f5fc9163e2628026d6b52dd497b04609d9cb7"), looks := true }, kinds := [], alts := [], laidByText := true, laidKinds := [.data, .data, .data, .sentinel, .sentinel, .data], laidTests := true, laidLooks := .later }
def PitchMatchesReferenceCardSaid : Prop := Claim7.holds Tryd.pinned (.plain (OpenSpec.ofChange pitchMatchesReferenceSpec)) pitchMatchesReferenceCard

/-- THE SECOND FORM's CARD OF 'partbooklaw02.PitchBetween'. -/
def pitchBetweenUptoCard : Claim7 := { stood := { row := pitchBetweenUptoRow, standIns := [], harness := (true, "df13241c330cba0a18e5a968d14f5fc9163e2628026d6b52dd497b04609d9cb7"), looks := true }, kinds := [], alts := [], laidByText := true, laidKinds := [.data, .data, .data, .sentinel, .sentinel, .data], laidTests := true, laidLooks := .later }
def PitchBetweenUptoCardSaid : Prop := Claim7.holds Tryd.pinned (.plain (OpenSpec.upto pitchBetweenSpec)) pitchBetweenUptoCard

/-- THE SECOND FORM's CARD OF 'partbooklaw02.PitchNumbers'. -/
def pitchNumbersUptoCard : Claim7 := { stood := { row := pitchNumbersUptoRow, standIns := [], harness := (true, "df13241c330cba0a18e5a968d14f5fc9163e2628026d6b52dd497b04609d9cb7"), looks := true }, kinds := [], alts := [], laidByText := true, laidKinds := [.data, .data, .data, .sentinel, .sentinel, .data], laidTests := true, laidLooks := .later }
def PitchNumbersUptoCardSaid : Prop := Claim7.holds Tryd.pinned (.plain (OpenSpec.upto pitchNumbersSpec)) pitchNumbersUptoCard

/-- THE SECOND FORM's CARD OF 'partbooklaw02.PitchTexts'. -/
def pitchTextsUptoCard : Claim7 := { stood := { row := pitchTextsUptoRow, standIns := [], harness := (true, "df13241c330cba0a18e5a968d14f5fc9163e2628026d6b52dd497b04609d9cb7"), looks := true }, kinds := [], alts := [], laidByText := true, laidKinds := [.data, .data, .data, .sentinel, .sentinel, .data], laidTests := true, laidLooks := .later }
def PitchTextsUptoCardSaid : Prop := Claim7.holds Tryd.pinned (.plain (OpenSpec.upto pitchTextsSpec)) pitchTextsUptoCard

/-- THE SECOND FORM's CARD OF 'partbooklaw02.PitchBack'. -/
def pitchBackUptoCard : Claim7 := { stood := { row := pitchBackUptoRow, standIns := [], harness := (true, "df13241c330cba0a18e5a968d14f5fc9163e2628026d6b52dd497b04609d9cb7"), looks := true }, kinds := [], alts := [], laidByText := true, laidKinds := [.data, .data, .data, .sentinel, .sentinel, .data], laidTests := true, laidLooks := .later }
def PitchBackUptoCardSaid : Prop := Claim7.holds Tryd.pinned (.plain (OpenSpec.upto pitchBackSpec)) pitchBackUptoCard

/-- THE SECOND FORM's CARD OF 'partbooklaw02.PitchJoins'. -/
def pitchJoinsUptoCard : Claim7 := { stood := { row := pitchJoinsUptoRow, standIns := [], harness := (true, "df13241c330cba0a18e5a968d14f5fc9163e2628026d6b52dd497b04609d9cb7"), looks := true }, kinds := [], alts := [], laidByText := true, laidKinds := [.data, .data, .data, .sentinel, .sentinel, .data], laidTests := true, laidLooks := .later }
def PitchJoinsUptoCardSaid : Prop := Claim7.holds Tryd.pinned (.plain (OpenSpec.upto pitchJoinsSpec)) pitchJoinsUptoCard

/-- THE SECOND FORM's CARD OF 'partbooklaw02.PitchMatchesReference'. -/
def pitchMatchesReferenceUptoCard : Claim7 := { stood := { row := pitchMatchesReferenceUptoRow, standIns := [], harness := (true, "df13241c330cba0a18e5a968d14f5fc9163e2628026d6b52dd497b04609d9cb7"), looks := true }, kinds := [], alts := [], laidByText := true, laidKinds := [.data, .data, .data, .sentinel, .sentinel, .data], laidTests := true, laidLooks := .later }
def PitchMatchesReferenceUptoCardSaid : Prop := Claim7.holds Tryd.pinned (.plain (OpenSpec.upto pitchMatchesReferenceSpec)) pitchMatchesReferenceUptoCard
end Rows
end Go.Proofs.YtogdhecmecpccaaDoor
