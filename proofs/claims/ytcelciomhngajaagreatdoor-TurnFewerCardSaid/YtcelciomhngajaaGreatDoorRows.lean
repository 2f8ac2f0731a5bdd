/-
  NARROWER THAN 'FOR EVERY INPUT', by the rows' own cells (each row's printed sentence says how): TurnMatchesReference: laid · TurnTogether: laid · TurnRests: laid · TurnSame: laid · TurnSlower: laid · TurnFewer: laid.
  DERIVED. THE GIVEN ROWS OF THIS SEAT. 6 by the template 'for every input the law returns true; each argument reads behind the call as it read before'; 0 by the template 'total and deterministic' (their statements: YtcelciomhngajaaGreatDoorTotals.lean).
  GIVEN WITH THE SEED: the statements are not yours to turn. If you find one false, say at which input.
  Laid BY PROGRAM, IN A SANDBOX (cutbox-rows.mjs): the forced cells as the released guide's own fill.sh prints them over the translation 52fd996936c1d3ff… (all of the seat's roots in one cut). By AI agents, Wed Nov 11 2026. No macro, syntax, notation, axiom, sorry.
-/
import Derived.Test.YtcelciomhngajaaGreatDoorChecked
import GoSem.Claim
import GoSem.ClaimJoined
import GoSem.ClaimMapViews
import Derived.JoinedTies
import Derived.KernelRfl
namespace Go.Proofs.YtcelciomhngajaaGreatDoor
/- THE CELL 'sum', in the pinned program and in every row, IS THE sha256 OF THE DUMP (.gsa) THAT YtcelciomhngajaaGreatDoorProg.lean LOADS. Nothing in Lean hashes anything: it is a label: what it is worth is what the hold of that sum in a sandbox is worth. -/
noncomputable def Tryz.pinned : Pinned := { name := "ytcelciomhngajaagreatdoor", sum := "52fd996936c1d3ffd2de1d9a475193f9ab04475c7e4713cb631571f1b198d11e", checked := Tryz.checked }
namespace Rows
def none {H : Type} : Left H := { results := [], args := [] }

/- WHAT THE LISTED PACKAGE-LEVEL VARIABLES READ AS WHEN THE CALL BEGINS. Each datum BY PROGRAM (the guide's laid-datum.mjs) off the statement by which the dump's own 'gosem.cut.vars' lays the variable. In a bare row this is a premise. The card (YtcelciomhngajaaGreatDoorCards.lean) ties it to the program's text. -/
def laid_partbook_pitch_naturals {H : Type} : DataW H := .agg [.lit (.int .i64 0), .lit (.int .i64 2), .lit (.int .i64 4), .lit (.int .i64 5), .lit (.int .i64 7), .lit (.int .i64 9), .lit (.int .i64 11)]

/-- 'partbooklaw25.TurnMatchesReference': WHATEVER THE INPUT: true; the input reads as it did. -/
def turnMatchesReferenceSpec : ChangeSpec := { name := "turnMatchesReference", fn := fun _ => fun
  | [d1, d2, d3, d4, d5] => { results := [.lit (.bool true)], args := [d1, d2, d3, d4, d5] }
  | _ => none }
def turnMatchesReferenceRow : OpenClaim := { program := "ytcelciomhngajaagreatdoor", sum := "52fd996936c1d3ffd2de1d9a475193f9ab04475c7e4713cb631571f1b198d11e", func := "partbook/partbooklaw25.TurnMatchesReference", spec := "turnMatchesReference", unfollowed := true, recurses := true, named := ["partbook/pitch.naturals"], apart := false, laid := [("partbook/pitch.naturals", laid_partbook_pitch_naturals)] }
def TurnMatchesReferenceSaid : Prop := turnMatchesReferenceRow.holds Tryz.pinned (OpenSpec.ofChange turnMatchesReferenceSpec)

/-- ITS FALSE NEIGHBOUR: 'it returns false'. Refute it at one input. -/
def turnMatchesReferenceWrong : ChangeSpec := { name := "turnMatchesReference", fn := fun _ => fun
  | [d1, d2, d3, d4, d5] => { results := [.lit (.bool false)], args := [d1, d2, d3, d4, d5] }
  | _ => none }
def TurnMatchesReferenceWrongFalsely : Prop := turnMatchesReferenceRow.holds Tryz.pinned (OpenSpec.ofChange turnMatchesReferenceWrong)

/-- 'partbooklaw25.TurnTogether': WHATEVER THE INPUT: true; the input reads as it did. -/
def turnTogetherSpec : ChangeSpec := { name := "turnTogether", fn := fun _ => fun
  | [d1, d2, d3, d4, d5] => { results := [.lit (.bool true)], args := [d1, d2, d3, d4, d5] }
  | _ => none }
def turnTogetherRow : OpenClaim := { program := "ytcelciomhngajaagreatdoor", sum := "52fd996936c1d3ffd2de1d9a475193f9ab04475c7e4713cb631571f1b198d11e", func := "partbook/partbooklaw25.TurnTogether", spec := "turnTogether", unfollowed := true, recurses := true, named := ["partbook/pitch.naturals"], apart := false, laid := [("partbook/pitch.naturals", laid_partbook_pitch_naturals)] }
def TurnTogetherSaid : Prop := turnTogetherRow.holds Tryz.pinned (OpenSpec.ofChange turnTogetherSpec)

/-- ITS FALSE NEIGHBOUR: 'it returns false'. Refute it at one input. -/
def turnTogetherWrong : ChangeSpec := { name := "turnTogether", fn := fun _ => fun
  | [d1, d2, d3, d4, d5] => { results := [.lit (.bool false)], args := [d1, d2, d3, d4, d5] }
  | _ => none }
def TurnTogetherWrongFalsely : Prop := turnTogetherRow.holds Tryz.pinned (OpenSpec.ofChange turnTogetherWrong)

/-- 'partbooklaw25.TurnRests': WHATEVER THE INPUT: true; the input reads as it did. -/
def turnRestsSpec : ChangeSpec := { name := "turnRests", fn := fun _ => fun
  | [d1, d2, d3, d4] => { results := [.lit (.bool true)], args := [d1, d2, d3, d4] }
  | _ => none }
def turnRestsRow : OpenClaim := { program := "ytcelciomhngajaagreatdoor", sum := "52fd996936c1d3ffd2de1d9a475193f9ab04475c7e4713cb631571f1b198d11e", func := "partbook/partbooklaw25.TurnRests", spec := "turnRests", unfollowed := true, recurses := true, named := ["partbook/pitch.naturals"], apart := false, laid := [("partbook/pitch.naturals", laid_partbook_pitch_naturals)] }
def TurnRestsSaid : Prop := turnRestsRow.holds Tryz.pinned (OpenSpec.ofChange turnRestsSpec)

/-- ITS FALSE NEIGHBOUR: 'it returns false'. Refute it at one input. -/
def turnRestsWrong : ChangeSpec := { name := "turnRests", fn := fun _ => fun
  | [d1, d2, d3, d4] => { results := [.lit (.bool false)], args := [d1, d2, d3, d4] }
  | _ => none }
def TurnRestsWrongFalsely : Prop := turnRestsRow.holds Tryz.pinned (OpenSpec.ofChange turnRestsWrong)

/-- 'partbooklaw25.TurnSame': WHATEVER THE INPUT: true; the input reads as it did. -/
def turnSameSpec : ChangeSpec := { name := "turnSame", fn := fun _ => fun
  | [d1, d2, d3, d4] => { results := [.lit (.bool true)], args := [d1, d2, d3, d4] }
  | _ => none }
def turnSameRow : OpenClaim := { program := "ytcelciomhngajaagreatdoor", sum := "52fd996936c1d3ffd2de1d9a475193f9ab04475c7e4713cb631571f1b198d11e", func := "partbook/partbooklaw25.TurnSame", spec := "turnSame", unfollowed := true, recurses := true, named := ["partbook/pitch.naturals"], apart := false, laid := [("partbook/pitch.naturals", laid_partbook_pitch_naturals)] }
def TurnSameSaid : Prop := turnSameRow.holds Tryz.pinned (OpenSpec.ofChange turnSameSpec)

/-- ITS FALSE NEIGHBOUR: 'it returns false'. Refute it at one input. -/
def turnSameWrong : ChangeSpec := { name := "turnSame", fn := fun _ => fun
  | [d1, d2, d3, d4] => { results := [.lit (.bool false)], args := [d1, d2, d3, d4] }
  | _ => none }
def TurnSameWrongFalsely : Prop := turnSameRow.holds Tryz.pinned (OpenSpec.ofChange turnSameWrong)

/-- 'partbooklaw25.TurnSlower': WHATEVER THE INPUT: true; the input reads as it did. -/
def turnSlowerSpec : ChangeSpec := { name := "turnSlower", fn := fun _ => fun
  | [d1, d2, d3, d4] => { results := [.lit (.bool true)], args := [d1, d2, d3, d4] }
  | _ => none }
def turnSlowerRow : OpenClaim := { program := "ytcelciomhngajaagreatdoor", sum := "52fd996936c1d3ffd2de1d9a475193f9ab04475c7e4713cb631571f1b198d11e", func := "partbook/partbooklaw25.TurnSlower", spec := "turnSlower", unfollowed := true, recurses := true, named := ["partbook/pitch.naturals"], apart := false, laid := [("partbook/pitch.naturals", laid_partbook_pitch_naturals)] }
def TurnSlowerSaid : Prop := turnSlowerRow.holds Tryz.pinned (OpenSpec.ofChange turnSlowerSpec)

/-- ITS FALSE NEIGHBOUR: 'it returns false'. Refute it at one input. -/
def turnSlowerWrong : ChangeSpec := { name := "turnSlower", fn := fun _ => fun
  | [d1, d2, d3, d4] => { results := [.lit (.bool false)], args := [d1, d2, d3, d4] }
  | _ => none }
def TurnSlowerWrongFalsely : Prop := turnSlowerRow.holds Tryz.pinned (OpenSpec.ofChange turnSlowerWrong)

/-- 'partbooklaw25.TurnFewer': WHATEVER THE INPUT: true; the input reads as it did. -/
def turnFewerSpec : ChangeSpec := { name := "turnFewer", fn := fun _ => fun
  | [d1, d2, d3, d4, d5] => { results := [.lit (.bool true)], args := [d1, d2, d3, d4, d5] }
  | _ => none }
def turnFewerRow : OpenClaim := { program := "ytcelciomhngajaagreatdoor", sum := "52fd996936c1d3ffd2de1d9a475193f9ab04475c7e4713cb631571f1b198d11e", func := "partbook/partbooklaw25.TurnFewer", spec := "turnFewer", unfollowed := true, recurses := true, named := ["partbook/pitch.naturals"], apart := false, laid := [("partbook/pitch.naturals", laid_partbook_pitch_naturals)] }
def TurnFewerSaid : Prop := turnFewerRow.holds Tryz.pinned (OpenSpec.ofChange turnFewerSpec)

/-- ITS FALSE NEIGHBOUR: 'it returns false'. Refute it at one input. -/
def turnFewerWrong : ChangeSpec := { name := "turnFewer", fn := fun _ => fun
  | [d1, d2, d3, d4, d5] => { results := [.lit (.bool false)], args := [d1, d2, d3, d4, d5] }
  | _ => none }
def TurnFewerWrongFalsely : Prop := turnFewerRow.holds Tryz.pinned (OpenSpec.ofChange turnFewerWrong)

/- THE SECOND FORM. 'bulk': how many values and letters a reading holds, each counted each time it is reached (what is shared counts as often as it is met; a slice's spare places count too). A statement '..UptoSaid' is the law's where the arguments, and the package variables that the reading takes, are together of bulk at most 1048576: NARROWER than '..Said'. Prove '..Said' where nothing that the law and all that it calls make is longer than what came in: it says more and counts as full. Else prove '..UptoSaid'. A law counts once. -/
mutual
def uptoBulk {H : Type} : DataW H → Nat
  | .lit (.string bytes) => bytes.length + 1
  | .lit _ => 1
  | .nil => 1
  | .ptr d => uptoBulk d + 1
  | .slice elems spare => uptoBulkAll elems + uptoBulkAll spare + 1
  | .agg parts => uptoBulkAll parts + 1
  | .iface _ d => uptoBulk d + 1
  | .map entries => uptoBulkEntries entries + 1
  | .held _ => 1
def uptoBulkAll {H : Type} : List (DataW H) → Nat
  | [] => 0
  | d :: r => uptoBulk d + uptoBulkAll r
def uptoBulkEntries {H : Type} : List (Lit × DataW H) → Nat
  | [] => 0
  | x :: r => uptoBulkEntry x + uptoBulkEntries r
def uptoBulkEntry {H : Type} : Lit × DataW H → Nat
  | (.string bytes, d) => bytes.length + uptoBulk d + 1
  | (_, d) => uptoBulk d + 1
 end
def uptoSmall : (H : Type) → List (DataW H) → Bool := fun _ ds => decide (uptoBulkAll ds ≤ 1048576)
def OpenSpec.upto (s : _root_.Go.ChangeSpec) : _root_.Go.OpenSpec := { _root_.Go.OpenSpec.ofChange s with cond := some uptoSmall }

/-- 'partbooklaw25.TurnMatchesReference', WHERE WHAT IT READS IS OF BULK AT MOST 1048576: true; the input reads as it did. -/
def turnMatchesReferenceUptoRow : OpenClaim := { program := "ytcelciomhngajaagreatdoor", sum := "52fd996936c1d3ffd2de1d9a475193f9ab04475c7e4713cb631571f1b198d11e", func := "partbook/partbooklaw25.TurnMatchesReference", spec := "turnMatchesReference", unfollowed := true, recurses := true, named := ["partbook/pitch.naturals"], apart := false, laid := [("partbook/pitch.naturals", laid_partbook_pitch_naturals)], narrowed := true }
def TurnMatchesReferenceUptoSaid : Prop := turnMatchesReferenceUptoRow.holds Tryz.pinned (OpenSpec.upto turnMatchesReferenceSpec)

/-- 'partbooklaw25.TurnTogether', WHERE WHAT IT READS IS OF BULK AT MOST 1048576: true; the input reads as it did. -/
def turnTogetherUptoRow : OpenClaim := { program := "ytcelciomhngajaagreatdoor", sum := "52fd996936c1d3ffd2de1d9a475193f9ab04475c7e4713cb631571f1b198d11e", func := "partbook/partbooklaw25.TurnTogether", spec := "turnTogether", unfollowed := true, recurses := true, named := ["partbook/pitch.naturals"], apart := false, laid := [("partbook/pitch.naturals", laid_partbook_pitch_naturals)], narrowed := true }
def TurnTogetherUptoSaid : Prop := turnTogetherUptoRow.holds Tryz.pinned (OpenSpec.upto turnTogetherSpec)

/-- 'partbooklaw25.TurnRests', WHERE WHAT IT READS IS OF BULK AT MOST 1048576: true; the input reads as it did. -/
def turnRestsUptoRow : OpenClaim := { program := "ytcelciomhngajaagreatdoor", sum := "52fd996936c1d3ffd2de1d9a475193f9ab04475c7e4713cb631571f1b198d11e", func := "partbook/partbooklaw25.TurnRests", spec := "turnRests", unfollowed := true, recurses := true, named := ["partbook/pitch.naturals"], apart := false, laid := [("partbook/pitch.naturals", laid_partbook_pitch_naturals)], narrowed := true }
def TurnRestsUptoSaid : Prop := turnRestsUptoRow.holds Tryz.pinned (OpenSpec.upto turnRestsSpec)

/-- 'partbooklaw25.TurnSame', WHERE WHAT IT READS IS OF BULK AT MOST 1048576: true; the input reads as it did. -/
def turnSameUptoRow : OpenClaim := { program := "ytcelciomhngajaagreatdoor", sum := "52fd996936c1d3ffd2de1d9a475193f9ab04475c7e4713cb631571f1b198d11e", func := "partbook/partbooklaw25.TurnSame", spec := "turnSame", unfollowed := true, recurses := true, named := ["partbook/pitch.naturals"], apart := false, laid := [("partbook/pitch.naturals", laid_partbook_pitch_naturals)], narrowed := true }
def TurnSameUptoSaid : Prop := turnSameUptoRow.holds Tryz.pinned (OpenSpec.upto turnSameSpec)

/-- 'partbooklaw25.TurnSlower', WHERE WHAT IT READS IS OF BULK AT MOST 1048576: true; the input reads as it did. -/
def turnSlowerUptoRow : OpenClaim := { program := "ytcelciomhngajaagreatdoor", sum := "52fd996936c1d3ffd2de1d9a475193f9ab04475c7e4713cb631571f1b198d11e", func := "partbook/partbooklaw25.TurnSlower", spec := "turnSlower", unfollowed := true, recurses := true, named := ["partbook/pitch.naturals"], apart := false, laid := [("partbook/pitch.naturals", laid_partbook_pitch_naturals)], narrowed := true }
def TurnSlowerUptoSaid : Prop := turnSlowerUptoRow.holds Tryz.pinned (OpenSpec.upto turnSlowerSpec)

/-- 'partbooklaw25.TurnFewer', WHERE WHAT IT READS IS OF BULK AT MOST 1048576: true; the input reads as it did. -/
def turnFewerUptoRow : OpenClaim := { program := "ytcelciomhngajaagreatdoor", sum := "52fd996936c1d3ffd2de1d9a475193f9ab04475c7e4713cb631571f1b198d11e", func := "partbook/partbooklaw25.TurnFewer", spec := "turnFewer", unfollowed := true, recurses := true, named := ["partbook/pitch.naturals"], apart := false, laid := [("partbook/pitch.naturals", laid_partbook_pitch_naturals)], narrowed := true }
def TurnFewerUptoSaid : Prop := turnFewerUptoRow.holds Tryz.pinned (OpenSpec.upto turnFewerSpec)

end Rows
end Go.Proofs.YtcelciomhngajaaGreatDoor
