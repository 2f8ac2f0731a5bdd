/-
  No cell of these rows narrows 'for every input' (looked for: loops, veiled, ifaces, maps, wideKeys, modest, calm, conditions, laid).
  DERIVED. THE GIVEN ROWS OF THIS SEAT. 7 by the template 'for every input the law returns true; each argument reads behind the call as it read before'; 0 by the template 'total and deterministic' (their statements: YtehdhbnbajfanaaGreatTotals.lean).
  GIVEN WITH THE SEED: the statements are not yours to turn. If you find one false, say at which input.
  Laid BY PROGRAM, IN A SANDBOX (cutbox-rows.mjs): the forced cells as the released guide's own fill.sh prints them over the translation ded52040c86317bb… (all of the seat's roots in one cut). By AI agents, Wed Nov 11 2026. No macro, syntax, notation, axiom, sorry.
-/
import Derived.Test.YtehdhbnbajfanaaGreatChecked
import GoSem.Claim
import GoSem.ClaimJoined
import GoSem.ClaimMapViews
import Derived.JoinedTies
import Derived.KernelRfl
namespace Go.Proofs.YtehdhbnbajfanaaGreat
/- THE CELL 'sum', in the pinned program and in every row, IS THE sha256 OF THE DUMP (.gsa) THAT YtehdhbnbajfanaaGreatProg.lean LOADS. Nothing in Lean hashes anything: it is a label: what it is worth is what the hold of that sum in a sandbox is worth. -/
noncomputable def Tryz.pinned : Pinned := { name := "ytehdhbnbajfanaagreat", sum := "ded52040c86317bb1fbdf9f753d64d95ea673728f9b941ff0ea424970370de68", checked := Tryz.checked }
namespace Rows
def none {H : Type} : Left H := { results := [], args := [] }

/-- 'partbooklaw36.PlanMatchesReference': WHATEVER THE INPUT: true; the input reads as it did. -/
def planMatchesReferenceSpec : ChangeSpec := { name := "planMatchesReference", fn := fun _ => fun
  | [d1, d2, d3, d4] => { results := [.lit (.bool true)], args := [d1, d2, d3, d4] }
  | _ => none }
def planMatchesReferenceRow : OpenClaim := { program := "ytehdhbnbajfanaagreat", sum := "ded52040c86317bb1fbdf9f753d64d95ea673728f9b941ff0ea424970370de68", func := "partbook/partbooklaw36.PlanMatchesReference", spec := "planMatchesReference", unfollowed := true, recurses := true, apart := false }
def PlanMatchesReferenceSaid : Prop := planMatchesReferenceRow.holds Tryz.pinned (OpenSpec.ofChange planMatchesReferenceSpec)

/-- ITS FALSE NEIGHBOUR: 'it returns false'. Refute it at one input. -/
def planMatchesReferenceWrong : ChangeSpec := { name := "planMatchesReference", fn := fun _ => fun
  | [d1, d2, d3, d4] => { results := [.lit (.bool false)], args := [d1, d2, d3, d4] }
  | _ => none }
def PlanMatchesReferenceWrongFalsely : Prop := planMatchesReferenceRow.holds Tryz.pinned (OpenSpec.ofChange planMatchesReferenceWrong)

/-- 'partbooklaw36.PlanGives': WHATEVER THE INPUT: true; the input reads as it did. -/
def planGivesSpec : ChangeSpec := { name := "planGives", fn := fun _ => fun
  | [d1, d2, d3] => { results := [.lit (.bool true)], args := [d1, d2, d3] }
  | _ => none }
def planGivesRow : OpenClaim := { program := "ytehdhbnbajfanaagreat", sum := "ded52040c86317bb1fbdf9f753d64d95ea673728f9b941ff0ea424970370de68", func := "partbook/partbooklaw36.PlanGives", spec := "planGives", unfollowed := true, recurses := true, apart := false }
def PlanGivesSaid : Prop := planGivesRow.holds Tryz.pinned (OpenSpec.ofChange planGivesSpec)

/-- ITS FALSE NEIGHBOUR: 'it returns false'. Refute it at one input. -/
def planGivesWrong : ChangeSpec := { name := "planGives", fn := fun _ => fun
  | [d1, d2, d3] => { results := [.lit (.bool false)], args := [d1, d2, d3] }
  | _ => none }
def PlanGivesWrongFalsely : Prop := planGivesRow.holds Tryz.pinned (OpenSpec.ofChange planGivesWrong)

/-- 'partbooklaw36.PlanLeast': WHATEVER THE INPUT: true; the input reads as it did. -/
def planLeastSpec : ChangeSpec := { name := "planLeast", fn := fun _ => fun
  | [d1, d2, d3, d4] => { results := [.lit (.bool true)], args := [d1, d2, d3, d4] }
  | _ => none }
def planLeastRow : OpenClaim := { program := "ytehdhbnbajfanaagreat", sum := "ded52040c86317bb1fbdf9f753d64d95ea673728f9b941ff0ea424970370de68", func := "partbook/partbooklaw36.PlanLeast", spec := "planLeast", unfollowed := true, recurses := true, apart := false }
def PlanLeastSaid : Prop := planLeastRow.holds Tryz.pinned (OpenSpec.ofChange planLeastSpec)

/-- ITS FALSE NEIGHBOUR: 'it returns false'. Refute it at one input. -/
def planLeastWrong : ChangeSpec := { name := "planLeast", fn := fun _ => fun
  | [d1, d2, d3, d4] => { results := [.lit (.bool false)], args := [d1, d2, d3, d4] }
  | _ => none }
def PlanLeastWrongFalsely : Prop := planLeastRow.holds Tryz.pinned (OpenSpec.ofChange planLeastWrong)

/-- 'partbooklaw36.PlanRefuses': WHATEVER THE INPUT: true; the input reads as it did. -/
def planRefusesSpec : ChangeSpec := { name := "planRefuses", fn := fun _ => fun
  | [d1, d2, d3, d4] => { results := [.lit (.bool true)], args := [d1, d2, d3, d4] }
  | _ => none }
def planRefusesRow : OpenClaim := { program := "ytehdhbnbajfanaagreat", sum := "ded52040c86317bb1fbdf9f753d64d95ea673728f9b941ff0ea424970370de68", func := "partbook/partbooklaw36.PlanRefuses", spec := "planRefuses", unfollowed := true, recurses := true, apart := false }
def PlanRefusesSaid : Prop := planRefusesRow.holds Tryz.pinned (OpenSpec.ofChange planRefusesSpec)

/-- ITS FALSE NEIGHBOUR: 'it returns false'. Refute it at one input. -/
def planRefusesWrong : ChangeSpec := { name := "planRefuses", fn := fun _ => fun
  | [d1, d2, d3, d4] => { results := [.lit (.bool false)], args := [d1, d2, d3, d4] }
  | _ => none }
def PlanRefusesWrongFalsely : Prop := planRefusesRow.holds Tryz.pinned (OpenSpec.ofChange planRefusesWrong)

/-- 'partbooklaw36.PlanNotBoth': WHATEVER THE INPUT: true; the input reads as it did. -/
def planNotBothSpec : ChangeSpec := { name := "planNotBoth", fn := fun _ => fun
  | [d1, d2, d3, d4] => { results := [.lit (.bool true)], args := [d1, d2, d3, d4] }
  | _ => none }
def planNotBothRow : OpenClaim := { program := "ytehdhbnbajfanaagreat", sum := "ded52040c86317bb1fbdf9f753d64d95ea673728f9b941ff0ea424970370de68", func := "partbook/partbooklaw36.PlanNotBoth", spec := "planNotBoth", unfollowed := true, recurses := true, apart := false }
def PlanNotBothSaid : Prop := planNotBothRow.holds Tryz.pinned (OpenSpec.ofChange planNotBothSpec)

/-- ITS FALSE NEIGHBOUR: 'it returns false'. Refute it at one input. -/
def planNotBothWrong : ChangeSpec := { name := "planNotBoth", fn := fun _ => fun
  | [d1, d2, d3, d4] => { results := [.lit (.bool false)], args := [d1, d2, d3, d4] }
  | _ => none }
def PlanNotBothWrongFalsely : Prop := planNotBothRow.holds Tryz.pinned (OpenSpec.ofChange planNotBothWrong)

/-- 'partbooklaw36.PlanFewer': WHATEVER THE INPUT: true; the input reads as it did. -/
def planFewerSpec : ChangeSpec := { name := "planFewer", fn := fun _ => fun
  | [d1, d2, d3, d4, d5] => { results := [.lit (.bool true)], args := [d1, d2, d3, d4, d5] }
  | _ => none }
def planFewerRow : OpenClaim := { program := "ytehdhbnbajfanaagreat", sum := "ded52040c86317bb1fbdf9f753d64d95ea673728f9b941ff0ea424970370de68", func := "partbook/partbooklaw36.PlanFewer", spec := "planFewer", unfollowed := true, recurses := true, apart := false }
def PlanFewerSaid : Prop := planFewerRow.holds Tryz.pinned (OpenSpec.ofChange planFewerSpec)

/-- ITS FALSE NEIGHBOUR: 'it returns false'. Refute it at one input. -/
def planFewerWrong : ChangeSpec := { name := "planFewer", fn := fun _ => fun
  | [d1, d2, d3, d4, d5] => { results := [.lit (.bool false)], args := [d1, d2, d3, d4, d5] }
  | _ => none }
def PlanFewerWrongFalsely : Prop := planFewerRow.holds Tryz.pinned (OpenSpec.ofChange planFewerWrong)

/-- 'partbooklaw36.PlanOrder': WHATEVER THE INPUT: true; the input reads as it did. -/
def planOrderSpec : ChangeSpec := { name := "planOrder", fn := fun _ => fun
  | [d1, d2, d3, d4] => { results := [.lit (.bool true)], args := [d1, d2, d3, d4] }
  | _ => none }
def planOrderRow : OpenClaim := { program := "ytehdhbnbajfanaagreat", sum := "ded52040c86317bb1fbdf9f753d64d95ea673728f9b941ff0ea424970370de68", func := "partbook/partbooklaw36.PlanOrder", spec := "planOrder", unfollowed := true, recurses := true, apart := false }
def PlanOrderSaid : Prop := planOrderRow.holds Tryz.pinned (OpenSpec.ofChange planOrderSpec)

/-- ITS FALSE NEIGHBOUR: 'it returns false'. Refute it at one input. -/
def planOrderWrong : ChangeSpec := { name := "planOrder", fn := fun _ => fun
  | [d1, d2, d3, d4] => { results := [.lit (.bool false)], args := [d1, d2, d3, d4] }
  | _ => none }
def PlanOrderWrongFalsely : Prop := planOrderRow.holds Tryz.pinned (OpenSpec.ofChange planOrderWrong)

/- THE SECOND FORM. 'bulk': how many values and letters a reading holds, each counted each time it is reached (what is shared counts as often as it is met; a slice's spare places count too). A statement '..UptoSaid' is the law's where the arguments, and the package variables that the reading takes, are together of bulk at most 1048576: NARROWER than '..Said'. Prove '..Said' where nothing that the law and all that it calls make is longer than what came in: it says more and counts as full. Else prove '..UptoSaid'. A law counts once. -/
mutual
def uptoBulk {H : Type} : DataW H → Nat
  | .lit (.string bytes) => bytes.length + 1
  | .lit _ => 1
  | .nil => 1
  | .ptr d => uptoBulk d + 1
  | .slice elems spare => uptoBulkAll elems + uptoBulkAll spare + 1
  | .agg parts => uptoBulkAll parts + 1
  | .iface _ d => uptoBulk d + 1
  | .map entries => uptoBulkEntries entries + 1
  | .held _ => 1
def uptoBulkAll {H : Type} : List (DataW H) → Nat
  | [] => 0
  | d :: r => uptoBulk d + uptoBulkAll r
def uptoBulkEntries {H : Type} : List (Lit × DataW H) → Nat
  | [] => 0
  | x :: r => uptoBulkEntry x + uptoBulkEntries r
def uptoBulkEntry {H : Type} : Lit × DataW H → Nat
  | (.string bytes, d) => bytes.length + uptoBulk d + 1
  | (_, d) => uptoBulk d + 1
 end
def uptoSmall : (H : Type) → List (DataW H) → Bool := fun _ ds => decide (uptoBulkAll ds ≤ 1048576)
def OpenSpec.upto (s : _root_.Go.ChangeSpec) : _root_.Go.OpenSpec := { _root_.Go.OpenSpec.ofChange s with cond := some uptoSmall }

/-- 'partbooklaw36.PlanMatchesReference', WHERE WHAT IT READS IS OF BULK AT MOST 1048576: true; the input reads as it did. -/
def planMatchesReferenceUptoRow : OpenClaim := { program := "ytehdhbnbajfanaagreat", sum := "ded52040c86317bb1fbdf9f753d64d95ea673728f9b941ff0ea424970370de68", func := "partbook/partbooklaw36.PlanMatchesReference", spec := "planMatchesReference", unfollowed := true, recurses := true, apart := false, narrowed := true }
def PlanMatchesReferenceUptoSaid : Prop := planMatchesReferenceUptoRow.holds Tryz.pinned (OpenSpec.upto planMatchesReferenceSpec)

/-- 'partbooklaw36.PlanGives', WHERE WHAT IT READS IS OF BULK AT MOST 1048576: true; the input reads as it did. -/
def planGivesUptoRow : OpenClaim := { program := "ytehdhbnbajfanaagreat", sum := "ded52040c86317bb1fbdf9f753d64d95ea673728f9b941ff0ea424970370de68", func := "partbook/partbooklaw36.PlanGives", spec := "planGives", unfollowed := true, recurses := true, apart := false, narrowed := true }
def PlanGivesUptoSaid : Prop := planGivesUptoRow.holds Tryz.pinned (OpenSpec.upto planGivesSpec)

/-- 'partbooklaw36.PlanLeast', WHERE WHAT IT READS IS OF BULK AT MOST 1048576: true; the input reads as it did. -/
def planLeastUptoRow : OpenClaim := { program := "ytehdhbnbajfanaagreat", sum := "ded52040c86317bb1fbdf9f753d64d95ea673728f9b941ff0ea424970370de68", func := "partbook/partbooklaw36.PlanLeast", spec := "planLeast", unfollowed := true, recurses := true, apart := false, narrowed := true }
def PlanLeastUptoSaid : Prop := planLeastUptoRow.holds Tryz.pinned (OpenSpec.upto planLeastSpec)

/-- 'partbooklaw36.PlanRefuses', WHERE WHAT IT READS IS OF BULK AT MOST 1048576: true; the input reads as it did. -/
def planRefusesUptoRow : OpenClaim := { program := "ytehdhbnbajfanaagreat", sum := "ded52040c86317bb1fbdf9f753d64d95ea673728f9b941ff0ea424970370de68", func := "partbook/partbooklaw36.PlanRefuses", spec := "planRefuses", unfollowed := true, recurses := true, apart := false, narrowed := true }
def PlanRefusesUptoSaid : Prop := planRefusesUptoRow.holds Tryz.pinned (OpenSpec.upto planRefusesSpec)

/-- 'partbooklaw36.PlanNotBoth', WHERE WHAT IT READS IS OF BULK AT MOST 1048576: true; the input reads as it did. -/
def planNotBothUptoRow : OpenClaim := { program := "ytehdhbnbajfanaagreat", sum := "ded52040c86317bb1fbdf9f753d64d95ea673728f9b941ff0ea424970370de68", func := "partbook/partbooklaw36.PlanNotBoth", spec := "planNotBoth", unfollowed := true, recurses := true, apart := false, narrowed := true }
def PlanNotBothUptoSaid : Prop := planNotBothUptoRow.holds Tryz.pinned (OpenSpec.upto planNotBothSpec)

/-- 'partbooklaw36.PlanFewer', WHERE WHAT IT READS IS OF BULK AT MOST 1048576: true; the input reads as it did. -/
def planFewerUptoRow : OpenClaim := { program := "ytehdhbnbajfanaagreat", sum := "ded52040c86317bb1fbdf9f753d64d95ea673728f9b941ff0ea424970370de68", func := "partbook/partbooklaw36.PlanFewer", spec := "planFewer", unfollowed := true, recurses := true, apart := false, narrowed := true }
def PlanFewerUptoSaid : Prop := planFewerUptoRow.holds Tryz.pinned (OpenSpec.upto planFewerSpec)

/-- 'partbooklaw36.PlanOrder', WHERE WHAT IT READS IS OF BULK AT MOST 1048576: true; the input reads as it did. -/
def planOrderUptoRow : OpenClaim := { program := "ytehdhbnbajfanaagreat", sum := "ded52040c86317bb1fbdf9f753d64d95ea673728f9b941ff0ea424970370de68", func := "partbook/partbooklaw36.PlanOrder", spec := "planOrder", unfollowed := true, recurses := true, apart := false, narrowed := true }
def PlanOrderUptoSaid : Prop := planOrderUptoRow.holds Tryz.pinned (OpenSpec.upto planOrderSpec)

end Rows
end Go.Proofs.YtehdhbnbajfanaaGreat
