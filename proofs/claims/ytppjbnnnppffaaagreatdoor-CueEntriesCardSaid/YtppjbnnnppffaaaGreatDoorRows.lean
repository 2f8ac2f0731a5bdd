/-
  NARROWER THAN 'FOR EVERY INPUT', by the rows' own cells (each row's printed sentence says how): CueMatchesReference: laid · CueLonger: laid · ViewMatchesReference: laid · ViewBack: laid · ViewEqual: laid · CueEntries: laid · CueMost: laid · ViewOthers: laid · ViewSteps: laid · ViewScales: laid.
  DERIVED. THE GIVEN ROWS OF THIS SEAT. 10 by the template 'for every input the law returns true; each argument reads behind the call as it read before'; 0 by the template 'total and deterministic' (their statements: YtppjbnnnppffaaaGreatDoorTotals.lean).
  GIVEN WITH THE SEED: the statements are not yours to turn. If you find one false, say at which input.
  Laid BY PROGRAM, IN A SANDBOX (cutbox-rows.mjs): the forced cells as the released guide's own fill.sh prints them over the translation 3b78b5b81af56091… (all of the seat's roots in one cut). By AI agents, Wed Nov 11 2026. No macro, syntax, notation, axiom, sorry.
-/
import Derived.Test.YtppjbnnnppffaaaGreatDoorChecked
import GoSem.Claim
import GoSem.ClaimJoined
import GoSem.ClaimMapViews
import Derived.JoinedTies
import Derived.KernelRfl
namespace Go.Proofs.YtppjbnnnppffaaaGreatDoor
/- THE CELL 'sum', in the pinned program and in every row, IS THE sha256 OF THE DUMP (.gsa) THAT YtppjbnnnppffaaaGreatDoorProg.lean LOADS. Nothing in Lean hashes anything: it is a label: what it is worth is what the hold of that sum in a sandbox is worth. -/
noncomputable def Tryz.pinned : Pinned := { name := "ytppjbnnnppffaaagreatdoor", sum := "3b78b5b81af56091ac44b9e58e87529e5f40f3a4d05c194247c4551430ce2ae8", checked := Tryz.checked }
namespace Rows
def none {H : Type} : Left H := { results := [], args := [] }

/- WHAT THE LISTED PACKAGE-LEVEL VARIABLES READ AS WHEN THE CALL BEGINS. Each datum BY PROGRAM (the guide's laid-datum.mjs) off the statement by which the dump's own 'gosem.cut.vars' lays the variable. In a bare row this is a premise. The card (YtppjbnnnppffaaaGreatDoorCards.lean) ties it to the program's text. -/
def laid_partbook_pitch_naturals {H : Type} : DataW H := .agg [.lit (.int .i64 0), .lit (.int .i64 2), .lit (.int .i64 4), .lit (.int .i64 5), .lit (.int .i64 7), .lit (.int .i64 9), .lit (.int .i64 11)]
def laid_partbook_key_sharps {H : Type} : DataW H := .agg [.lit (.int .i64 3), .lit (.int .i64 0), .lit (.int .i64 4), .lit (.int .i64 1), .lit (.int .i64 5), .lit (.int .i64 2), .lit (.int .i64 6)]

/-- 'partbooklaw17.CueMatchesReference': WHATEVER THE INPUT: true; the input reads as it did. -/
def cueMatchesReferenceSpec : ChangeSpec := { name := "cueMatchesReference", fn := fun _ => fun
  | [d1, d2, d3, d4] => { results := [.lit (.bool true)], args := [d1, d2, d3, d4] }
  | _ => none }
def cueMatchesReferenceRow : OpenClaim := { program := "ytppjbnnnppffaaagreatdoor", sum := "3b78b5b81af56091ac44b9e58e87529e5f40f3a4d05c194247c4551430ce2ae8", func := "partbook/partbooklaw17.CueMatchesReference", spec := "cueMatchesReference", unfollowed := true, recurses := true, named := ["partbook/pitch.naturals"], apart := false, laid := [("partbook/pitch.naturals", laid_partbook_pitch_naturals)] }
def CueMatchesReferenceSaid : Prop := cueMatchesReferenceRow.holds Tryz.pinned (OpenSpec.ofChange cueMatchesReferenceSpec)

/-- ITS FALSE NEIGHBOUR: 'it returns false'. Refute it at one input. -/
def cueMatchesReferenceWrong : ChangeSpec := { name := "cueMatchesReference", fn := fun _ => fun
  | [d1, d2, d3, d4] => { results := [.lit (.bool false)], args := [d1, d2, d3, d4] }
  | _ => none }
def CueMatchesReferenceWrongFalsely : Prop := cueMatchesReferenceRow.holds Tryz.pinned (OpenSpec.ofChange cueMatchesReferenceWrong)

/-- 'partbooklaw17.CueLonger': WHATEVER THE INPUT: true; the input reads as it did. -/
def cueLongerSpec : ChangeSpec := { name := "cueLonger", fn := fun _ => fun
  | [d1, d2, d3, d4, d5] => { results := [.lit (.bool true)], args := [d1, d2, d3, d4, d5] }
  | _ => none }
def cueLongerRow : OpenClaim := { program := "ytppjbnnnppffaaagreatdoor", sum := "3b78b5b81af56091ac44b9e58e87529e5f40f3a4d05c194247c4551430ce2ae8", func := "partbook/partbooklaw17.CueLonger", spec := "cueLonger", unfollowed := true, recurses := true, named := ["partbook/pitch.naturals"], apart := false, laid := [("partbook/pitch.naturals", laid_partbook_pitch_naturals)] }
def CueLongerSaid : Prop := cueLongerRow.holds Tryz.pinned (OpenSpec.ofChange cueLongerSpec)

/-- ITS FALSE NEIGHBOUR: 'it returns false'. Refute it at one input. -/
def cueLongerWrong : ChangeSpec := { name := "cueLonger", fn := fun _ => fun
  | [d1, d2, d3, d4, d5] => { results := [.lit (.bool false)], args := [d1, d2, d3, d4, d5] }
  | _ => none }
def CueLongerWrongFalsely : Prop := cueLongerRow.holds Tryz.pinned (OpenSpec.ofChange cueLongerWrong)

/-- 'partbooklaw14.ViewMatchesReference': WHATEVER THE INPUT: true; the input reads as it did. -/
def viewMatchesReferenceSpec : ChangeSpec := { name := "viewMatchesReference", fn := fun _ => fun
  | [d1, d2, d3] => { results := [.lit (.bool true)], args := [d1, d2, d3] }
  | _ => none }
def viewMatchesReferenceRow : OpenClaim := { program := "ytppjbnnnppffaaagreatdoor", sum := "3b78b5b81af56091ac44b9e58e87529e5f40f3a4d05c194247c4551430ce2ae8", func := "partbook/partbooklaw14.ViewMatchesReference", spec := "viewMatchesReference", unfollowed := true, recurses := true, named := ["partbook/pitch.naturals"], apart := false, laid := [("partbook/pitch.naturals", laid_partbook_pitch_naturals)] }
def ViewMatchesReferenceSaid : Prop := viewMatchesReferenceRow.holds Tryz.pinned (OpenSpec.ofChange viewMatchesReferenceSpec)

/-- ITS FALSE NEIGHBOUR: 'it returns false'. Refute it at one input. -/
def viewMatchesReferenceWrong : ChangeSpec := { name := "viewMatchesReference", fn := fun _ => fun
  | [d1, d2, d3] => { results := [.lit (.bool false)], args := [d1, d2, d3] }
  | _ => none }
def ViewMatchesReferenceWrongFalsely : Prop := viewMatchesReferenceRow.holds Tryz.pinned (OpenSpec.ofChange viewMatchesReferenceWrong)

/-- 'partbooklaw14.ViewBack': WHATEVER THE INPUT: true; the input reads as it did. -/
def viewBackSpec : ChangeSpec := { name := "viewBack", fn := fun _ => fun
  | [d] => { results := [.lit (.bool true)], args := [d] }
  | _ => none }
def viewBackRow : OpenClaim := { program := "ytppjbnnnppffaaagreatdoor", sum := "3b78b5b81af56091ac44b9e58e87529e5f40f3a4d05c194247c4551430ce2ae8", func := "partbook/partbooklaw14.ViewBack", spec := "viewBack", unfollowed := true, recurses := true, named := ["partbook/pitch.naturals"], apart := false, laid := [("partbook/pitch.naturals", laid_partbook_pitch_naturals)] }
def ViewBackSaid : Prop := viewBackRow.holds Tryz.pinned (OpenSpec.ofChange viewBackSpec)

/-- ITS FALSE NEIGHBOUR: 'it returns false'. Refute it at one input. -/
def viewBackWrong : ChangeSpec := { name := "viewBack", fn := fun _ => fun
  | [d] => { results := [.lit (.bool false)], args := [d] }
  | _ => none }
def ViewBackWrongFalsely : Prop := viewBackRow.holds Tryz.pinned (OpenSpec.ofChange viewBackWrong)

/-- 'partbooklaw14.ViewEqual': WHATEVER THE INPUT: true; the input reads as it did. -/
def viewEqualSpec : ChangeSpec := { name := "viewEqual", fn := fun _ => fun
  | [d1, d2, d3] => { results := [.lit (.bool true)], args := [d1, d2, d3] }
  | _ => none }
def viewEqualRow : OpenClaim := { program := "ytppjbnnnppffaaagreatdoor", sum := "3b78b5b81af56091ac44b9e58e87529e5f40f3a4d05c194247c4551430ce2ae8", func := "partbook/partbooklaw14.ViewEqual", spec := "viewEqual", unfollowed := true, recurses := true, named := ["partbook/pitch.naturals"], apart := false, laid := [("partbook/pitch.naturals", laid_partbook_pitch_naturals)] }
def ViewEqualSaid : Prop := viewEqualRow.holds Tryz.pinned (OpenSpec.ofChange viewEqualSpec)

/-- ITS FALSE NEIGHBOUR: 'it returns false'. Refute it at one input. -/
def viewEqualWrong : ChangeSpec := { name := "viewEqual", fn := fun _ => fun
  | [d1, d2, d3] => { results := [.lit (.bool false)], args := [d1, d2, d3] }
  | _ => none }
def ViewEqualWrongFalsely : Prop := viewEqualRow.holds Tryz.pinned (OpenSpec.ofChange viewEqualWrong)

/-- 'partbooklaw17.CueEntries': WHATEVER THE INPUT: true; the input reads as it did. -/
def cueEntriesSpec : ChangeSpec := { name := "cueEntries", fn := fun _ => fun
  | [d1, d2, d3] => { results := [.lit (.bool true)], args := [d1, d2, d3] }
  | _ => none }
def cueEntriesRow : OpenClaim := { program := "ytppjbnnnppffaaagreatdoor", sum := "3b78b5b81af56091ac44b9e58e87529e5f40f3a4d05c194247c4551430ce2ae8", func := "partbook/partbooklaw17.CueEntries", spec := "cueEntries", unfollowed := true, recurses := true, named := ["partbook/pitch.naturals"], apart := false, laid := [("partbook/pitch.naturals", laid_partbook_pitch_naturals)] }
def CueEntriesSaid : Prop := cueEntriesRow.holds Tryz.pinned (OpenSpec.ofChange cueEntriesSpec)

/-- ITS FALSE NEIGHBOUR: 'it returns false'. Refute it at one input. -/
def cueEntriesWrong : ChangeSpec := { name := "cueEntries", fn := fun _ => fun
  | [d1, d2, d3] => { results := [.lit (.bool false)], args := [d1, d2, d3] }
  | _ => none }
def CueEntriesWrongFalsely : Prop := cueEntriesRow.holds Tryz.pinned (OpenSpec.ofChange cueEntriesWrong)

/-- 'partbooklaw17.CueMost': WHATEVER THE INPUT: true; the input reads as it did. -/
def cueMostSpec : ChangeSpec := { name := "cueMost", fn := fun _ => fun
  | [d1, d2, d3] => { results := [.lit (.bool true)], args := [d1, d2, d3] }
  | _ => none }
def cueMostRow : OpenClaim := { program := "ytppjbnnnppffaaagreatdoor", sum := "3b78b5b81af56091ac44b9e58e87529e5f40f3a4d05c194247c4551430ce2ae8", func := "partbook/partbooklaw17.CueMost", spec := "cueMost", unfollowed := true, recurses := true, named := ["partbook/pitch.naturals"], apart := false, laid := [("partbook/pitch.naturals", laid_partbook_pitch_naturals)] }
def CueMostSaid : Prop := cueMostRow.holds Tryz.pinned (OpenSpec.ofChange cueMostSpec)

/-- ITS FALSE NEIGHBOUR: 'it returns false'. Refute it at one input. -/
def cueMostWrong : ChangeSpec := { name := "cueMost", fn := fun _ => fun
  | [d1, d2, d3] => { results := [.lit (.bool false)], args := [d1, d2, d3] }
  | _ => none }
def CueMostWrongFalsely : Prop := cueMostRow.holds Tryz.pinned (OpenSpec.ofChange cueMostWrong)

/-- 'partbooklaw14.ViewOthers': WHATEVER THE INPUT: true; the input reads as it did. -/
def viewOthersSpec : ChangeSpec := { name := "viewOthers", fn := fun _ => fun
  | [d1, d2, d3] => { results := [.lit (.bool true)], args := [d1, d2, d3] }
  | _ => none }
def viewOthersRow : OpenClaim := { program := "ytppjbnnnppffaaagreatdoor", sum := "3b78b5b81af56091ac44b9e58e87529e5f40f3a4d05c194247c4551430ce2ae8", func := "partbook/partbooklaw14.ViewOthers", spec := "viewOthers", unfollowed := true, recurses := true, named := ["partbook/pitch.naturals"], apart := false, laid := [("partbook/pitch.naturals", laid_partbook_pitch_naturals)] }
def ViewOthersSaid : Prop := viewOthersRow.holds Tryz.pinned (OpenSpec.ofChange viewOthersSpec)

/-- ITS FALSE NEIGHBOUR: 'it returns false'. Refute it at one input. -/
def viewOthersWrong : ChangeSpec := { name := "viewOthers", fn := fun _ => fun
  | [d1, d2, d3] => { results := [.lit (.bool false)], args := [d1, d2, d3] }
  | _ => none }
def ViewOthersWrongFalsely : Prop := viewOthersRow.holds Tryz.pinned (OpenSpec.ofChange viewOthersWrong)

/-- 'partbooklaw14.ViewSteps': WHATEVER THE INPUT: true; the input reads as it did. -/
def viewStepsSpec : ChangeSpec := { name := "viewSteps", fn := fun _ => fun
  | [d1, d2] => { results := [.lit (.bool true)], args := [d1, d2] }
  | _ => none }
def viewStepsRow : OpenClaim := { program := "ytppjbnnnppffaaagreatdoor", sum := "3b78b5b81af56091ac44b9e58e87529e5f40f3a4d05c194247c4551430ce2ae8", func := "partbook/partbooklaw14.ViewSteps", spec := "viewSteps", unfollowed := true, recurses := true, named := ["partbook/pitch.naturals"], apart := false, laid := [("partbook/pitch.naturals", laid_partbook_pitch_naturals)] }
def ViewStepsSaid : Prop := viewStepsRow.holds Tryz.pinned (OpenSpec.ofChange viewStepsSpec)

/-- ITS FALSE NEIGHBOUR: 'it returns false'. Refute it at one input. -/
def viewStepsWrong : ChangeSpec := { name := "viewSteps", fn := fun _ => fun
  | [d1, d2] => { results := [.lit (.bool false)], args := [d1, d2] }
  | _ => none }
def ViewStepsWrongFalsely : Prop := viewStepsRow.holds Tryz.pinned (OpenSpec.ofChange viewStepsWrong)

/-- 'partbooklaw14.ViewScales': WHATEVER THE INPUT: true; the input reads as it did. -/
def viewScalesSpec : ChangeSpec := { name := "viewScales", fn := fun _ => fun
  | [d1, d2] => { results := [.lit (.bool true)], args := [d1, d2] }
  | _ => none }
def viewScalesRow : OpenClaim := { program := "ytppjbnnnppffaaagreatdoor", sum := "3b78b5b81af56091ac44b9e58e87529e5f40f3a4d05c194247c4551430ce2ae8", func := "partbook/partbooklaw14.ViewScales", spec := "viewScales", unfollowed := true, recurses := true, named := ["partbook/pitch.naturals", "partbook/key.sharps"], apart := false, laid := [("partbook/pitch.naturals", laid_partbook_pitch_naturals), ("partbook/key.sharps", laid_partbook_key_sharps)] }
def ViewScalesSaid : Prop := viewScalesRow.holds Tryz.pinned (OpenSpec.ofChange viewScalesSpec)

/-- ITS FALSE NEIGHBOUR: 'it returns false'. Refute it at one input. -/
def viewScalesWrong : ChangeSpec := { name := "viewScales", fn := fun _ => fun
  | [d1, d2] => { results := [.lit (.bool false)], args := [d1, d2] }
  | _ => none }
def ViewScalesWrongFalsely : Prop := viewScalesRow.holds Tryz.pinned (OpenSpec.ofChange viewScalesWrong)

/- THE SECOND FORM. 'bulk': how many values and letters a reading holds, each counted each time it is reached (what is shared counts as often as it is met; a slice's spare places count too). A statement '..UptoSaid' is the law's where the arguments, and the package variables that the reading takes, are together of bulk at most 1048576: NARROWER than '..Said'. Prove '..Said' where nothing that the law and all that it calls make is longer than what came in: it says more and counts as full. Else prove '..UptoSaid'. A law counts once. -/
mutual
def uptoBulk {H : Type} : DataW H → Nat
  | .lit (.string bytes) => bytes.length + 1
  | .lit _ => 1
  | .nil => 1
  | .ptr d => uptoBulk d + 1
  | .slice elems spare => uptoBulkAll elems + uptoBulkAll spare + 1
  | .agg parts => uptoBulkAll parts + 1
  | .iface _ d => uptoBulk d + 1
  | .map entries => uptoBulkEntries entries + 1
  | .held _ => 1
def uptoBulkAll {H : Type} : List (DataW H) → Nat
  | [] => 0
  | d :: r => uptoBulk d + uptoBulkAll r
def uptoBulkEntries {H : Type} : List (Lit × DataW H) → Nat
  | [] => 0
  | x :: r => uptoBulkEntry x + uptoBulkEntries r
def uptoBulkEntry {H : Type} : Lit × DataW H → Nat
  | (.string bytes, d) => bytes.length + uptoBulk d + 1
  | (_, d) => uptoBulk d + 1
 end
def uptoSmall : (H : Type) → List (DataW H) → Bool := fun _ ds => decide (uptoBulkAll ds ≤ 1048576)
def OpenSpec.upto (s : _root_.Go.ChangeSpec) : _root_.Go.OpenSpec := { _root_.Go.OpenSpec.ofChange s with cond := some uptoSmall }

/-- 'partbooklaw17.CueMatchesReference', WHERE WHAT IT READS IS OF BULK AT MOST 1048576: true; the input reads as it did. -/
def cueMatchesReferenceUptoRow : OpenClaim := { program := "ytppjbnnnppffaaagreatdoor", sum := "3b78b5b81af56091ac44b9e58e87529e5f40f3a4d05c194247c4551430ce2ae8", func := "partbook/partbooklaw17.CueMatchesReference", spec := "cueMatchesReference", unfollowed := true, recurses := true, named := ["partbook/pitch.naturals"], apart := false, laid := [("partbook/pitch.naturals", laid_partbook_pitch_naturals)], narrowed := true }
def CueMatchesReferenceUptoSaid : Prop := cueMatchesReferenceUptoRow.holds Tryz.pinned (OpenSpec.upto cueMatchesReferenceSpec)

/-- 'partbooklaw17.CueLonger', WHERE WHAT IT READS IS OF BULK AT MOST 1048576: true; the input reads as it did. -/
def cueLongerUptoRow : OpenClaim := { program := "ytppjbnnnppffaaagreatdoor", sum := "3b78b5b81af56091ac44b9e58e87529e5f40f3a4d05c194247c4551430ce2ae8", func := "partbook/partbooklaw17.CueLonger", spec := "cueLonger", unfollowed := true, recurses := true, named := ["partbook/pitch.naturals"], apart := false, laid := [("partbook/pitch.naturals", laid_partbook_pitch_naturals)], narrowed := true }
def CueLongerUptoSaid : Prop := cueLongerUptoRow.holds Tryz.pinned (OpenSpec.upto cueLongerSpec)

/-- 'partbooklaw14.ViewMatchesReference', WHERE WHAT IT READS IS OF BULK AT MOST 1048576: true; the input reads as it did. -/
def viewMatchesReferenceUptoRow : OpenClaim := { program := "ytppjbnnnppffaaagreatdoor", sum := "3b78b5b81af56091ac44b9e58e87529e5f40f3a4d05c194247c4551430ce2ae8", func := "partbook/partbooklaw14.ViewMatchesReference", spec := "viewMatchesReference", unfollowed := true, recurses := true, named := ["partbook/pitch.naturals"], apart := false, laid := [("partbook/pitch.naturals", laid_partbook_pitch_naturals)], narrowed := true }
def ViewMatchesReferenceUptoSaid : Prop := viewMatchesReferenceUptoRow.holds Tryz.pinned (OpenSpec.upto viewMatchesReferenceSpec)

/-- 'partbooklaw14.ViewBack', WHERE WHAT IT READS IS OF BULK AT MOST 1048576: true; the input reads as it did. -/
def viewBackUptoRow : OpenClaim := { program := "ytppjbnnnppffaaagreatdoor", sum := "3b78b5b81af56091ac44b9e58e87529e5f40f3a4d05c194247c4551430ce2ae8", func := "partbook/partbooklaw14.ViewBack", spec := "viewBack", unfollowed := true, recurses := true, named := ["partbook/pitch.naturals"], apart := false, laid := [("partbook/pitch.naturals", laid_partbook_pitch_naturals)], narrowed := true }
def ViewBackUptoSaid : Prop := viewBackUptoRow.holds Tryz.pinned (OpenSpec.upto viewBackSpec)

/-- 'partbooklaw14.ViewEqual', WHERE WHAT IT READS IS OF BULK AT MOST 1048576: true; the input reads as it did. -/
def viewEqualUptoRow : OpenClaim := { program := "ytppjbnnnppffaaagreatdoor", sum := "3b78b5b81af56091ac44b9e58e87529e5f40f3a4d05c194247c4551430ce2ae8", func := "partbook/partbooklaw14.ViewEqual", spec := "viewEqual", unfollowed := true, recurses := true, named := ["partbook/pitch.naturals"], apart := false, laid := [("partbook/pitch.naturals", laid_partbook_pitch_naturals)], narrowed := true }
def ViewEqualUptoSaid : Prop := viewEqualUptoRow.holds Tryz.pinned (OpenSpec.upto viewEqualSpec)

/-- 'partbooklaw17.CueEntries', WHERE WHAT IT READS IS OF BULK AT MOST 1048576: true; the input reads as it did. -/
def cueEntriesUptoRow : OpenClaim := { program := "ytppjbnnnppffaaagreatdoor", sum := "3b78b5b81af56091ac44b9e58e87529e5f40f3a4d05c194247c4551430ce2ae8", func := "partbook/partbooklaw17.CueEntries", spec := "cueEntries", unfollowed := true, recurses := true, named := ["partbook/pitch.naturals"], apart := false, laid := [("partbook/pitch.naturals", laid_partbook_pitch_naturals)], narrowed := true }
def CueEntriesUptoSaid : Prop := cueEntriesUptoRow.holds Tryz.pinned (OpenSpec.upto cueEntriesSpec)

/-- 'partbooklaw17.CueMost', WHERE WHAT IT READS IS OF BULK AT MOST 1048576: true; the input reads as it did. -/
def cueMostUptoRow : OpenClaim := { program := "ytppjbnnnppffaaagreatdoor", sum := "3b78b5b81af56091ac44b9e58e87529e5f40f3a4d05c194247c4551430ce2ae8", func := "partbook/partbooklaw17.CueMost", spec := "cueMost", unfollowed := true, recurses := true, named := ["partbook/pitch.naturals"], apart := false, laid := [("partbook/pitch.naturals", laid_partbook_pitch_naturals)], narrowed := true }
def CueMostUptoSaid : Prop := cueMostUptoRow.holds Tryz.pinned (OpenSpec.upto cueMostSpec)

/-- 'partbooklaw14.ViewOthers', WHERE WHAT IT READS IS OF BULK AT MOST 1048576: true; the input reads as it did. -/
def viewOthersUptoRow : OpenClaim := { program := "ytppjbnnnppffaaagreatdoor", sum := "3b78b5b81af56091ac44b9e58e87529e5f40f3a4d05c194247c4551430ce2ae8", func := "partbook/partbooklaw14.ViewOthers", spec := "viewOthers", unfollowed := true, recurses := true, named := ["partbook/pitch.naturals"], apart := false, laid := [("partbook/pitch.naturals", laid_partbook_pitch_naturals)], narrowed := true }
def ViewOthersUptoSaid : Prop := viewOthersUptoRow.holds Tryz.pinned (OpenSpec.upto viewOthersSpec)

/-- 'partbooklaw14.ViewSteps', WHERE WHAT IT READS IS OF BULK AT MOST 1048576: true; the input reads as it did. -/
def viewStepsUptoRow : OpenClaim := { program := "ytppjbnnnppffaaagreatdoor", sum := "3b78b5b81af56091ac44b9e58e87529e5f40f3a4d05c194247c4551430ce2ae8", func := "partbook/partbooklaw14.ViewSteps", spec := "viewSteps", unfollowed := true, recurses := true, named := ["partbook/pitch.naturals"], apart := false, laid := [("partbook/pitch.naturals", laid_partbook_pitch_naturals)], narrowed := true }
def ViewStepsUptoSaid : Prop := viewStepsUptoRow.holds Tryz.pinned (OpenSpec.upto viewStepsSpec)

/-- 'partbooklaw14.ViewScales', WHERE WHAT IT READS IS OF BULK AT MOST 1048576: true; the input reads as it did. -/
def viewScalesUptoRow : OpenClaim := { program := "ytppjbnnnppffaaagreatdoor", sum := "3b78b5b81af56091ac44b9e58e87529e5f40f3a4d05c194247c4551430ce2ae8", func := "partbook/partbooklaw14.ViewScales", spec := "viewScales", unfollowed := true, recurses := true, named := ["partbook/pitch.naturals", "partbook/key.sharps"], apart := false, laid := [("partbook/pitch.naturals", laid_partbook_pitch_naturals), ("partbook/key.sharps", laid_partbook_key_sharps)], narrowed := true }
def ViewScalesUptoSaid : Prop := viewScalesUptoRow.holds Tryz.pinned (OpenSpec.upto viewScalesSpec)

end Rows
end Go.Proofs.YtppjbnnnppffaaaGreatDoor
