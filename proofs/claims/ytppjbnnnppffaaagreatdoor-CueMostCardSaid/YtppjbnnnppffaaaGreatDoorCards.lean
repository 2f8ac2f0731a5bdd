/-
  DERIVED. GIVEN WITH THE SEED: THE CARDS: each row of YtppjbnnnppffaaaGreatDoorRows.lean that lists a variable, with what it lists TIED to the program's text (the seventh form; the later family's looks); each row that meets fmt, with fmt's text TOLD by the authors' own Lean function (tested against real Go, not proved from fmt's source: count such statements apart). THE CARD IS WHAT COUNTS. Prove the row's statement (the work); the ties are given (YtppjbnnnppffaaaGreatDoorTie.lean); close each card by the builder's one call (the guide's Derived/Test/ToyasCard.lean, 'card_holds'). Laid BY PROGRAM, IN A SANDBOX (cutbox-door.mjs). By AI agents, Wed Nov 11 2026. No macro, syntax, notation, axiom, sorry.
-/
import Derived.Test.YtppjbnnnppffaaaGreatDoorRows
import GoSem.ClaimSeven
namespace Go.Proofs.YtppjbnnnppffaaaGreatDoor
namespace Rows

/-- THE TIED CARD OF 'partbooklaw17.CueMatchesReference'. -/
def cueMatchesReferenceCard : Claim7 := { stood := { row := cueMatchesReferenceRow, standIns := [], harness := (true, "c2228ca7c9adcb5eaf5ca5c59d324039aaebb862574507d88ab8e3a808a6ad32"), looks := false }, kinds := [], alts := [], laidByText := true, laidKinds := [.data], laidTests := true, laidLooks := .later }
def CueMatchesReferenceCardSaid : Prop := Claim7.holds Tryz.pinned (.plain (OpenSpec.ofChange cueMatchesReferenceSpec)) cueMatchesReferenceCard

/-- THE TIED CARD OF 'partbooklaw17.CueLonger'. -/
def cueLongerCard : Claim7 := { stood := { row := cueLongerRow, standIns := [], harness := (true, "c2228ca7c9adcb5eaf5ca5c59d324039aaebb862574507d88ab8e3a808a6ad32"), looks := false }, kinds := [], alts := [], laidByText := true, laidKinds := [.data], laidTests := true, laidLooks := .later }
def CueLongerCardSaid : Prop := Claim7.holds Tryz.pinned (.plain (OpenSpec.ofChange cueLongerSpec)) cueLongerCard

/-- THE TIED CARD OF 'partbooklaw14.ViewMatchesReference'. -/
def viewMatchesReferenceCard : Claim7 := { stood := { row := viewMatchesReferenceRow, standIns := [], harness := (true, "c2228ca7c9adcb5eaf5ca5c59d324039aaebb862574507d88ab8e3a808a6ad32"), looks := false }, kinds := [], alts := [], laidByText := true, laidKinds := [.data], laidTests := true, laidLooks := .later }
def ViewMatchesReferenceCardSaid : Prop := Claim7.holds Tryz.pinned (.plain (OpenSpec.ofChange viewMatchesReferenceSpec)) viewMatchesReferenceCard

/-- THE TIED CARD OF 'partbooklaw14.ViewBack'. -/
def viewBackCard : Claim7 := { stood := { row := viewBackRow, standIns := [], harness := (true, "c2228ca7c9adcb5eaf5ca5c59d324039aaebb862574507d88ab8e3a808a6ad32"), looks := false }, kinds := [], alts := [], laidByText := true, laidKinds := [.data], laidTests := true, laidLooks := .later }
def ViewBackCardSaid : Prop := Claim7.holds Tryz.pinned (.plain (OpenSpec.ofChange viewBackSpec)) viewBackCard

/-- THE TIED CARD OF 'partbooklaw14.ViewEqual'. -/
def viewEqualCard : Claim7 := { stood := { row := viewEqualRow, standIns := [], harness := (true, "c2228ca7c9adcb5eaf5ca5c59d324039aaebb862574507d88ab8e3a808a6ad32"), looks := false }, kinds := [], alts := [], laidByText := true, laidKinds := [.data], laidTests := true, laidLooks := .later }
def ViewEqualCardSaid : Prop := Claim7.holds Tryz.pinned (.plain (OpenSpec.ofChange viewEqualSpec)) viewEqualCard

/-- THE TIED CARD OF 'partbooklaw17.CueEntries'. -/
def cueEntriesCard : Claim7 := { stood := { row := cueEntriesRow, standIns := [], harness := (true, "c2228ca7c9adcb5eaf5ca5c59d324039aaebb862574507d88ab8e3a808a6ad32"), looks := false }, kinds := [], alts := [], laidByText := true, laidKinds := [.data], laidTests := true, laidLooks := .later }
def CueEntriesCardSaid : Prop := Claim7.holds Tryz.pinned (.plain (OpenSpec.ofChange cueEntriesSpec)) cueEntriesCard

/-- THE TIED CARD OF 'partbooklaw17.CueMost'. -/
def cueMostCard : Claim7 := { stood := { row := cueMostRow, standIns := [], harness := (true, "c2228ca7c9adcb5eaf5ca5c59d324039aaebb862574507d88ab8e3a808a6ad32"), looks := false }, kinds := [], alts := [], laidByText := true, laidKinds := [.data], laidTests := true, laidLooks := .later }
def CueMostCardSaid : Prop := Claim7.holds Tryz.pinned (.plain (OpenSpec.ofChange cueMostSpec)) cueMostCard

/-- THE TIED CARD OF 'partbooklaw14.ViewOthers'. -/
def viewOthersCard : Claim7 := { stood := { row := viewOthersRow, standIns := [], harness := (true, "c2228ca7c9adcb5eaf5ca5c59d324039aaebb862574507d88ab8e3a808a6ad32"), looks := false }, kinds := [], alts := [], laidByText := true, laidKinds := [.data], laidTests := true, laidLooks := .later }
def ViewOthersCardSaid : Prop := Claim7.holds Tryz.pinned (.plain (OpenSpec.ofChange viewOthersSpec)) viewOthersCard

/-- THE TIED CARD OF 'partbooklaw14.ViewSteps'. -/
def viewStepsCard : Claim7 := { stood := { row := viewStepsRow, standIns := [], harness := (true, "c2228ca7c9adcb5eaf5ca5c59d324039aaebb862574507d88ab8e3a808a6ad32"), looks := false }, kinds := [], alts := [], laidByText := true, laidKinds := [.data], laidTests := true, laidLooks := .later }
def ViewStepsCardSaid : Prop := Claim7.holds Tryz.pinned (.plain (OpenSpec.ofChange viewStepsSpec)) viewStepsCard

/-- THE TIED CARD OF 'partbooklaw14.ViewScales'. -/
def viewScalesCard : Claim7 := { stood := { row := viewScalesRow, standIns := [], harness := (true, "c2228ca7c9adcb5eaf5ca5c59d324039aaebb862574507d88ab8e3a808a6ad32"), looks := false }, kinds := [], alts := [], laidByText := true, laidKinds := [.data, .widerDeep], laidTests := true, laidLooks := .later }
def ViewScalesCardSaid : Prop := Claim7.holds Tryz.pinned (.plain (OpenSpec.ofChange viewScalesSpec)) viewScalesCard

/-- THE SECOND FORM's CARD OF 'partbooklaw17.CueMatchesReference'. -/
def cueMatchesReferenceUptoCard : Claim7 := { stood := { row := cueMatchesReferenceUptoRow, standIns := [], harness := (true, "c2228ca7c9adcb5eaf5ca5c59d324039aaebb862574507d88ab8e3a808a6ad32"), looks := false }, kinds := [], alts := [], laidByText := true, laidKinds := [.data], laidTests := true, laidLooks := .later }
def CueMatchesReferenceUptoCardSaid : Prop := Claim7.holds Tryz.pinned (.plain (OpenSpec.upto cueMatchesReferenceSpec)) cueMatchesReferenceUptoCard

/-- THE SECOND FORM's CARD OF 'partbooklaw17.CueLonger'. -/
def cueLongerUptoCard : Claim7 := { stood := { row := cueLongerUptoRow, standIns := [], harness := (true, "c2228ca7c9adcb5eaf5ca5c59d324039aaebb862574507d88ab8e3a808a6ad32"), looks := false }, kinds := [], alts := [], laidByText := true, laidKinds := [.data], laidTests := true, laidLooks := .later }
def CueLongerUptoCardSaid : Prop := Claim7.holds Tryz.pinned (.plain (OpenSpec.upto cueLongerSpec)) cueLongerUptoCard

/-- THE SECOND FORM's CARD OF 'partbooklaw14.ViewMatchesReference'. -/
def viewMatchesReferenceUptoCard : Claim7 := { stood := { row := viewMatchesReferenceUptoRow, standIns := [], harness := (true, "c2228ca7c9adcb5eaf5ca5c59d324039aaebb862574507d88ab8e3a808a6ad32"), looks := false }, kinds := [], alts := [], laidByText := true, laidKinds := [.data], laidTests := true, laidLooks := .later }
def ViewMatchesReferenceUptoCardSaid : Prop := Claim7.holds Tryz.pinned (.plain (OpenSpec.upto viewMatchesReferenceSpec)) viewMatchesReferenceUptoCard

/-- THE SECOND FORM's CARD OF 'partbooklaw14.ViewBack'. -/
def viewBackUptoCard : Claim7 := { stood := { row := viewBackUptoRow, standIns := [], harness := (true, "c2228ca7c9adcb5eaf5ca5c59d324039aaebb862574507d88ab8e3a808a6ad32"), looks := false }, kinds := [], alts := [], laidByText := true, laidKinds := [.data], laidTests := true, laidLooks := .later }
def ViewBackUptoCardSaid : Prop := Claim7.holds Tryz.pinned (.plain (OpenSpec.upto viewBackSpec)) viewBackUptoCard

/-- THE SECOND FORM's CARD OF 'partbooklaw14.ViewEqual'. -/
def viewEqualUptoCard : Claim7 := { stood := { row := viewEqualUptoRow, standIns := [], harness := (true, "c2228ca7c9adcb5eaf5ca5c59d324039aaebb862574507d88ab8e3a808a6ad32"), looks := false }, kinds := [], alts := [], laidByText := true, laidKinds := [.data], laidTests := true, laidLooks := .later }
def ViewEqualUptoCardSaid : Prop := Claim7.holds Tryz.pinned (.plain (OpenSpec.upto viewEqualSpec)) viewEqualUptoCard

/-- THE SECOND FORM's CARD OF 'partbooklaw17.CueEntries'. -/
def cueEntriesUptoCard : Claim7 := { stood := { row := cueEntriesUptoRow, standIns := [], harness := (true, "c2228ca7c9adcb5eaf5ca5c59d324039aaebb862574507d88ab8e3a808a6ad32"), looks := false }, kinds := [], alts := [], laidByText := true, laidKinds := [.data], laidTests := true, laidLooks := .later }
def CueEntriesUptoCardSaid : Prop := Claim7.holds Tryz.pinned (.plain (OpenSpec.upto cueEntriesSpec)) cueEntriesUptoCard

/-- THE SECOND FORM's CARD OF 'partbooklaw17.CueMost'. -/
def cueMostUptoCard : Claim7 := { stood := { row := cueMostUptoRow, standIns := [], harness := (true, "c2228ca7c9adcb5eaf5ca5c59d324039aaebb862574507d88ab8e3a808a6ad32"), looks := false }, kinds := [], alts := [], laidByText := true, laidKinds := [.data], laidTests := true, laidLooks := .later }
def CueMostUptoCardSaid : Prop := Claim7.holds Tryz.pinned (.plain (OpenSpec.upto cueMostSpec)) cueMostUptoCard

/-- THE SECOND FORM's CARD OF 'partbooklaw14.ViewOthers'. -/
def viewOthersUptoCard : Claim7 := { stood := { row := viewOthersUptoRow, standIns := [], harness := (true, "c2228ca7c9adcb5eaf5ca5c59d324039aaebb862574507d88ab8e3a808a6ad32"), looks := false }, kinds := [], alts := [], laidByText := true, laidKinds := [.data], laidTests := true, laidLooks := .later }
def ViewOthersUptoCardSaid : Prop := Claim7.holds Tryz.pinned (.plain (OpenSpec.upto viewOthersSpec)) viewOthersUptoCard

/-- THE SECOND FORM's CARD OF 'partbooklaw14.ViewSteps'. -/
def viewStepsUptoCard : Claim7 := { stood := { row := viewStepsUptoRow, standIns := [], harness := (true, "c2228ca7c9adcb5eaf5ca5c59d324039aaebb862574507d88ab8e3a808a6ad32"), looks := false }, kinds := [], alts := [], laidByText := true, laidKinds := [.data], laidTests := true, laidLooks := .later }
def ViewStepsUptoCardSaid : Prop := Claim7.holds Tryz.pinned (.plain (OpenSpec.upto viewStepsSpec)) viewStepsUptoCard

/-- THE SECOND FORM's CARD OF 'partbooklaw14.ViewScales'. -/
def viewScalesUptoCard : Claim7 := { stood := { row := viewScalesUptoRow, standIns := [], harness := (true, "c2228ca7c9adcb5eaf5ca5c59d324039aaebb862574507d88ab8e3a808a6ad32"), looks := false }, kinds := [], alts := [], laidByText := true, laidKinds := [.data, .widerDeep], laidTests := true, laidLooks := .later }
def ViewScalesUptoCardSaid : Prop := Claim7.holds Tryz.pinned (.plain (OpenSpec.upto viewScalesSpec)) viewScalesUptoCard
end Rows
end Go.Proofs.YtppjbnnnppffaaaGreatDoor
