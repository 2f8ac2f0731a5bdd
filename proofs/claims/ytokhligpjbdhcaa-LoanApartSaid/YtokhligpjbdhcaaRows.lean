/-
  No cell of these rows narrows 'for every input' (looked for: loops, veiled, ifaces, maps, wideKeys, modest, calm, conditions, laid).
  DERIVED. THE GIVEN ROWS OF THIS SEAT. 5 by the template 'for every input the law returns true; each argument reads behind the call as it read before'; 0 by the template 'total and deterministic' (their statements: YtokhligpjbdhcaaTotals.lean).
  GIVEN WITH THE SEED: the statements are not yours to turn. If you find one false, say at which input.
  Laid BY PROGRAM, IN A SANDBOX (cutbox-rows.mjs): the forced cells as the released guide's own fill.sh prints them over the translation 99fcc55e9db499c4… (all of the seat's roots in one cut). By AI agents, Wed Nov 11 2026. No macro, syntax, notation, axiom, sorry.
-/
import Derived.Test.YtokhligpjbdhcaaChecked
import GoSem.Claim
import GoSem.ClaimJoined
import GoSem.ClaimMapViews
import Derived.JoinedTies
import Derived.KernelRfl
namespace Go.Proofs.Ytokhligpjbdhcaa
/- THE CELL 'sum', in the pinned program and in every row, IS THE sha256 OF THE DUMP (.gsa) THAT YtokhligpjbdhcaaProg.lean LOADS. Nothing in Lean hashes anything: it is a label: what it is worth is what the hold of that sum in a sandbox is worth. -/
noncomputable def Try.pinned : Pinned := { name := "ytokhligpjbdhcaa", sum := "99fcc55e9db499c40708f4a8753fec64d72a63e933ab822cc98e12dcceecbbd3", checked := Try.checked }
namespace Rows
def none {H : Type} : Left H := { results := [], args := [] }

/-- 'partbooklaw28.LoanMatchesReference': WHATEVER THE INPUT: true; the input reads as it did. -/
def loanMatchesReferenceSpec : ChangeSpec := { name := "loanMatchesReference", fn := fun _ => fun
  | [d1, d2, d3, d4, d5] => { results := [.lit (.bool true)], args := [d1, d2, d3, d4, d5] }
  | _ => none }
def loanMatchesReferenceRow : OpenClaim := { program := "ytokhligpjbdhcaa", sum := "99fcc55e9db499c40708f4a8753fec64d72a63e933ab822cc98e12dcceecbbd3", func := "partbook/partbooklaw28.LoanMatchesReference", spec := "loanMatchesReference", unfollowed := true, recurses := true, apart := false }
def LoanMatchesReferenceSaid : Prop := loanMatchesReferenceRow.holds Try.pinned (OpenSpec.ofChange loanMatchesReferenceSpec)

/-- ITS FALSE NEIGHBOUR: 'it returns false'. Refute it at one input. -/
def loanMatchesReferenceWrong : ChangeSpec := { name := "loanMatchesReference", fn := fun _ => fun
  | [d1, d2, d3, d4, d5] => { results := [.lit (.bool false)], args := [d1, d2, d3, d4, d5] }
  | _ => none }
def LoanMatchesReferenceWrongFalsely : Prop := loanMatchesReferenceRow.holds Try.pinned (OpenSpec.ofChange loanMatchesReferenceWrong)

/-- 'partbooklaw28.LoanHolders': WHATEVER THE INPUT: true; the input reads as it did. -/
def loanHoldersSpec : ChangeSpec := { name := "loanHolders", fn := fun _ => fun
  | [d1, d2, d3, d4] => { results := [.lit (.bool true)], args := [d1, d2, d3, d4] }
  | _ => none }
def loanHoldersRow : OpenClaim := { program := "ytokhligpjbdhcaa", sum := "99fcc55e9db499c40708f4a8753fec64d72a63e933ab822cc98e12dcceecbbd3", func := "partbook/partbooklaw28.LoanHolders", spec := "loanHolders", unfollowed := true, recurses := true, apart := false }
def LoanHoldersSaid : Prop := loanHoldersRow.holds Try.pinned (OpenSpec.ofChange loanHoldersSpec)

/-- ITS FALSE NEIGHBOUR: 'it returns false'. Refute it at one input. -/
def loanHoldersWrong : ChangeSpec := { name := "loanHolders", fn := fun _ => fun
  | [d1, d2, d3, d4] => { results := [.lit (.bool false)], args := [d1, d2, d3, d4] }
  | _ => none }
def LoanHoldersWrongFalsely : Prop := loanHoldersRow.holds Try.pinned (OpenSpec.ofChange loanHoldersWrong)

/-- 'partbooklaw28.LoanPushes': WHATEVER THE INPUT: true; the input reads as it did. -/
def loanPushesSpec : ChangeSpec := { name := "loanPushes", fn := fun _ => fun
  | [d1, d2, d3, d4] => { results := [.lit (.bool true)], args := [d1, d2, d3, d4] }
  | _ => none }
def loanPushesRow : OpenClaim := { program := "ytokhligpjbdhcaa", sum := "99fcc55e9db499c40708f4a8753fec64d72a63e933ab822cc98e12dcceecbbd3", func := "partbook/partbooklaw28.LoanPushes", spec := "loanPushes", unfollowed := true, recurses := true, apart := false }
def LoanPushesSaid : Prop := loanPushesRow.holds Try.pinned (OpenSpec.ofChange loanPushesSpec)

/-- ITS FALSE NEIGHBOUR: 'it returns false'. Refute it at one input. -/
def loanPushesWrong : ChangeSpec := { name := "loanPushes", fn := fun _ => fun
  | [d1, d2, d3, d4] => { results := [.lit (.bool false)], args := [d1, d2, d3, d4] }
  | _ => none }
def LoanPushesWrongFalsely : Prop := loanPushesRow.holds Try.pinned (OpenSpec.ofChange loanPushesWrong)

/-- 'partbooklaw28.LoanTimes': WHATEVER THE INPUT: true; the input reads as it did. -/
def loanTimesSpec : ChangeSpec := { name := "loanTimes", fn := fun _ => fun
  | [d1, d2, d3, d4] => { results := [.lit (.bool true)], args := [d1, d2, d3, d4] }
  | _ => none }
def loanTimesRow : OpenClaim := { program := "ytokhligpjbdhcaa", sum := "99fcc55e9db499c40708f4a8753fec64d72a63e933ab822cc98e12dcceecbbd3", func := "partbook/partbooklaw28.LoanTimes", spec := "loanTimes", unfollowed := true, recurses := true, apart := false }
def LoanTimesSaid : Prop := loanTimesRow.holds Try.pinned (OpenSpec.ofChange loanTimesSpec)

/-- ITS FALSE NEIGHBOUR: 'it returns false'. Refute it at one input. -/
def loanTimesWrong : ChangeSpec := { name := "loanTimes", fn := fun _ => fun
  | [d1, d2, d3, d4] => { results := [.lit (.bool false)], args := [d1, d2, d3, d4] }
  | _ => none }
def LoanTimesWrongFalsely : Prop := loanTimesRow.holds Try.pinned (OpenSpec.ofChange loanTimesWrong)

/-- 'partbooklaw28.LoanApart': WHATEVER THE INPUT: true; the input reads as it did. -/
def loanApartSpec : ChangeSpec := { name := "loanApart", fn := fun _ => fun
  | [d1, d2, d3, d4] => { results := [.lit (.bool true)], args := [d1, d2, d3, d4] }
  | _ => none }
def loanApartRow : OpenClaim := { program := "ytokhligpjbdhcaa", sum := "99fcc55e9db499c40708f4a8753fec64d72a63e933ab822cc98e12dcceecbbd3", func := "partbook/partbooklaw28.LoanApart", spec := "loanApart", unfollowed := true, recurses := true, apart := false }
def LoanApartSaid : Prop := loanApartRow.holds Try.pinned (OpenSpec.ofChange loanApartSpec)

/-- ITS FALSE NEIGHBOUR: 'it returns false'. Refute it at one input. -/
def loanApartWrong : ChangeSpec := { name := "loanApart", fn := fun _ => fun
  | [d1, d2, d3, d4] => { results := [.lit (.bool false)], args := [d1, d2, d3, d4] }
  | _ => none }
def LoanApartWrongFalsely : Prop := loanApartRow.holds Try.pinned (OpenSpec.ofChange loanApartWrong)

/- THE SECOND FORM. 'bulk': how many values and letters a reading holds, each counted each time it is reached (what is shared counts as often as it is met; a slice's spare places count too). A statement '..UptoSaid' is the law's where the arguments, and the package variables that the reading takes, are together of bulk at most 1048576: NARROWER than '..Said'. Prove '..Said' where nothing that the law and all that it calls make is longer than what came in: it says more and counts as full. Else prove '..UptoSaid'. A law counts once. -/
mutual
def uptoBulk {H : Type} : DataW H → Nat
  | .lit (.string bytes) => bytes.length + 1
  | .lit _ => 1
  | .nil => 1
  | .ptr d => uptoBulk d + 1
  | .slice elems spare => uptoBulkAll elems + uptoBulkAll spare + 1
  | .agg parts => uptoBulkAll parts + 1
  | .iface _ d => uptoBulk d + 1
  | .map entries => uptoBulkEntries entries + 1
  | .held _ => 1
def uptoBulkAll {H : Type} : List (DataW H) → Nat
  | [] => 0
  | d :: r => uptoBulk d + uptoBulkAll r
def uptoBulkEntries {H : Type} : List (Lit × DataW H) → Nat
  | [] => 0
  | x :: r => uptoBulkEntry x + uptoBulkEntries r
def uptoBulkEntry {H : Type} : Lit × DataW H → Nat
  | (.string bytes, d) => bytes.length + uptoBulk d + 1
  | (_, d) => uptoBulk d + 1
 end
def uptoSmall : (H : Type) → List (DataW H) → Bool := fun _ ds => decide (uptoBulkAll ds ≤ 1048576)
def OpenSpec.upto (s : _root_.Go.ChangeSpec) : _root_.Go.OpenSpec := { _root_.Go.OpenSpec.ofChange s with cond := some uptoSmall }

/-- 'partbooklaw28.LoanMatchesReference', WHERE WHAT IT READS IS OF BULK AT MOST 1048576: true; the input reads as it did. -/
def loanMatchesReferenceUptoRow : OpenClaim := { program := "ytokhligpjbdhcaa", sum := "99fcc55e9db499c40708f4a8753fec64d72a63e933ab822cc98e12dcceecbbd3", func := "partbook/partbooklaw28.LoanMatchesReference", spec := "loanMatchesReference", unfollowed := true, recurses := true, apart := false, narrowed := true }
def LoanMatchesReferenceUptoSaid : Prop := loanMatchesReferenceUptoRow.holds Try.pinned (OpenSpec.upto loanMatchesReferenceSpec)

/-- 'partbooklaw28.LoanHolders', WHERE WHAT IT READS IS OF BULK AT MOST 1048576: true; the input reads as it did. -/
def loanHoldersUptoRow : OpenClaim := { program := "ytokhligpjbdhcaa", sum := "99fcc55e9db499c40708f4a8753fec64d72a63e933ab822cc98e12dcceecbbd3", func := "partbook/partbooklaw28.LoanHolders", spec := "loanHolders", unfollowed := true, recurses := true, apart := false, narrowed := true }
def LoanHoldersUptoSaid : Prop := loanHoldersUptoRow.holds Try.pinned (OpenSpec.upto loanHoldersSpec)

/-- 'partbooklaw28.LoanPushes', WHERE WHAT IT READS IS OF BULK AT MOST 1048576: true; the input reads as it did. -/
def loanPushesUptoRow : OpenClaim := { program := "ytokhligpjbdhcaa", sum := "99fcc55e9db499c40708f4a8753fec64d72a63e933ab822cc98e12dcceecbbd3", func := "partbook/partbooklaw28.LoanPushes", spec := "loanPushes", unfollowed := true, recurses := true, apart := false, narrowed := true }
def LoanPushesUptoSaid : Prop := loanPushesUptoRow.holds Try.pinned (OpenSpec.upto loanPushesSpec)

/-- 'partbooklaw28.LoanTimes', WHERE WHAT IT READS IS OF BULK AT MOST 1048576: true; the input reads as it did. -/
def loanTimesUptoRow : OpenClaim := { program := "ytokhligpjbdhcaa", sum := "99fcc55e9db499c40708f4a8753fec64d72a63e933ab822cc98e12dcceecbbd3", func := "partbook/partbooklaw28.LoanTimes", spec := "loanTimes", unfollowed := true, recurses := true, apart := false, narrowed := true }
def LoanTimesUptoSaid : Prop := loanTimesUptoRow.holds Try.pinned (OpenSpec.upto loanTimesSpec)

/-- 'partbooklaw28.LoanApart', WHERE WHAT IT READS IS OF BULK AT MOST 1048576: true; the input reads as it did. -/
def loanApartUptoRow : OpenClaim := { program := "ytokhligpjbdhcaa", sum := "99fcc55e9db499c40708f4a8753fec64d72a63e933ab822cc98e12dcceecbbd3", func := "partbook/partbooklaw28.LoanApart", spec := "loanApart", unfollowed := true, recurses := true, apart := false, narrowed := true }
def LoanApartUptoSaid : Prop := loanApartUptoRow.holds Try.pinned (OpenSpec.upto loanApartSpec)

end Rows
end Go.Proofs.Ytokhligpjbdhcaa
