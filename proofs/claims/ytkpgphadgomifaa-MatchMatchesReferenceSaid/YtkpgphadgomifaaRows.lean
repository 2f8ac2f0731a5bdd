/-
  No cell of these rows narrows 'for every input' (looked for: loops, veiled, ifaces, maps, wideKeys, modest, calm, conditions, laid).
  DERIVED. THE GIVEN ROWS OF THIS SEAT. 6 by the template 'for every input the law returns true; each argument reads behind the call as it read before'; 0 by the template 'total and deterministic' (their statements: YtkpgphadgomifaaTotals.lean).
  GIVEN WITH THE SEED: the statements are not yours to turn. If you find one false, say at which input.
  Laid BY PROGRAM, IN A SANDBOX (cutbox-rows.mjs): the forced cells as the released guide's own fill.sh prints them over the translation fd3e92b0328c189c… (all of the seat's roots in one cut). By AI agents, Wed Nov 11 2026. No macro, syntax, notation, axiom, sorry.
-/
import Derived.Test.YtkpgphadgomifaaChecked
import GoSem.Claim
import GoSem.ClaimJoined
import GoSem.ClaimMapViews
import Derived.JoinedTies
import Derived.KernelRfl
namespace Go.Proofs.Ytkpgphadgomifaa
/- THE CELL 'sum', in the pinned program and in every row, IS THE sha256 OF THE DUMP (.gsa) THAT YtkpgphadgomifaaProg.lean LOADS. Nothing in Lean hashes anything: it is a label: what it is worth is what the hold of that sum in a sandbox is worth. -/
noncomputable def Try.pinned : Pinned := { name := "ytkpgphadgomifaa", sum := "fd3e92b0328c189c3a054a461c60162c0cddc94533c5fc96c4f338e376e7fb39", checked := Try.checked }
namespace Rows
def none {H : Type} : Left H := { results := [], args := [] }

/-- 'partbooklaw35.MatchMatchesReference': WHATEVER THE INPUT: true; the input reads as it did. -/
def matchMatchesReferenceSpec : ChangeSpec := { name := "matchMatchesReference", fn := fun _ => fun
  | [d1, d2, d3, d4] => { results := [.lit (.bool true)], args := [d1, d2, d3, d4] }
  | _ => none }
def matchMatchesReferenceRow : OpenClaim := { program := "ytkpgphadgomifaa", sum := "fd3e92b0328c189c3a054a461c60162c0cddc94533c5fc96c4f338e376e7fb39", func := "partbook/partbooklaw35.MatchMatchesReference", spec := "matchMatchesReference", unfollowed := true, recurses := true, apart := false }
def MatchMatchesReferenceSaid : Prop := matchMatchesReferenceRow.holds Try.pinned (OpenSpec.ofChange matchMatchesReferenceSpec)

/-- ITS FALSE NEIGHBOUR: 'it returns false'. Refute it at one input. -/
def matchMatchesReferenceWrong : ChangeSpec := { name := "matchMatchesReference", fn := fun _ => fun
  | [d1, d2, d3, d4] => { results := [.lit (.bool false)], args := [d1, d2, d3, d4] }
  | _ => none }
def MatchMatchesReferenceWrongFalsely : Prop := matchMatchesReferenceRow.holds Try.pinned (OpenSpec.ofChange matchMatchesReferenceWrong)

/-- 'partbooklaw35.MatchLeast': WHATEVER THE INPUT: true; the input reads as it did. -/
def matchLeastSpec : ChangeSpec := { name := "matchLeast", fn := fun _ => fun
  | [d1, d2] => { results := [.lit (.bool true)], args := [d1, d2] }
  | _ => none }
def matchLeastRow : OpenClaim := { program := "ytkpgphadgomifaa", sum := "fd3e92b0328c189c3a054a461c60162c0cddc94533c5fc96c4f338e376e7fb39", func := "partbook/partbooklaw35.MatchLeast", spec := "matchLeast", unfollowed := true, recurses := true, apart := false }
def MatchLeastSaid : Prop := matchLeastRow.holds Try.pinned (OpenSpec.ofChange matchLeastSpec)

/-- ITS FALSE NEIGHBOUR: 'it returns false'. Refute it at one input. -/
def matchLeastWrong : ChangeSpec := { name := "matchLeast", fn := fun _ => fun
  | [d1, d2] => { results := [.lit (.bool false)], args := [d1, d2] }
  | _ => none }
def MatchLeastWrongFalsely : Prop := matchLeastRow.holds Try.pinned (OpenSpec.ofChange matchLeastWrong)

/-- 'partbooklaw35.MatchProves': WHATEVER THE INPUT: true; the input reads as it did. -/
def matchProvesSpec : ChangeSpec := { name := "matchProves", fn := fun _ => fun
  | [d1, d2, d3, d4, d5] => { results := [.lit (.bool true)], args := [d1, d2, d3, d4, d5] }
  | _ => none }
def matchProvesRow : OpenClaim := { program := "ytkpgphadgomifaa", sum := "fd3e92b0328c189c3a054a461c60162c0cddc94533c5fc96c4f338e376e7fb39", func := "partbook/partbooklaw35.MatchProves", spec := "matchProves", unfollowed := true, recurses := true, apart := false }
def MatchProvesSaid : Prop := matchProvesRow.holds Try.pinned (OpenSpec.ofChange matchProvesSpec)

/-- ITS FALSE NEIGHBOUR: 'it returns false'. Refute it at one input. -/
def matchProvesWrong : ChangeSpec := { name := "matchProves", fn := fun _ => fun
  | [d1, d2, d3, d4, d5] => { results := [.lit (.bool false)], args := [d1, d2, d3, d4, d5] }
  | _ => none }
def MatchProvesWrongFalsely : Prop := matchProvesRow.holds Try.pinned (OpenSpec.ofChange matchProvesWrong)

/-- 'partbooklaw35.MatchShort': WHATEVER THE INPUT: true; the input reads as it did. -/
def matchShortSpec : ChangeSpec := { name := "matchShort", fn := fun _ => fun
  | [d1, d2] => { results := [.lit (.bool true)], args := [d1, d2] }
  | _ => none }
def matchShortRow : OpenClaim := { program := "ytkpgphadgomifaa", sum := "fd3e92b0328c189c3a054a461c60162c0cddc94533c5fc96c4f338e376e7fb39", func := "partbook/partbooklaw35.MatchShort", spec := "matchShort", unfollowed := true, recurses := true, apart := false }
def MatchShortSaid : Prop := matchShortRow.holds Try.pinned (OpenSpec.ofChange matchShortSpec)

/-- ITS FALSE NEIGHBOUR: 'it returns false'. Refute it at one input. -/
def matchShortWrong : ChangeSpec := { name := "matchShort", fn := fun _ => fun
  | [d1, d2] => { results := [.lit (.bool false)], args := [d1, d2] }
  | _ => none }
def MatchShortWrongFalsely : Prop := matchShortRow.holds Try.pinned (OpenSpec.ofChange matchShortWrong)

/-- 'partbooklaw35.MatchMore': WHATEVER THE INPUT: true; the input reads as it did. -/
def matchMoreSpec : ChangeSpec := { name := "matchMore", fn := fun _ => fun
  | [d1, d2, d3, d4] => { results := [.lit (.bool true)], args := [d1, d2, d3, d4] }
  | _ => none }
def matchMoreRow : OpenClaim := { program := "ytkpgphadgomifaa", sum := "fd3e92b0328c189c3a054a461c60162c0cddc94533c5fc96c4f338e376e7fb39", func := "partbook/partbooklaw35.MatchMore", spec := "matchMore", unfollowed := true, recurses := true, apart := false }
def MatchMoreSaid : Prop := matchMoreRow.holds Try.pinned (OpenSpec.ofChange matchMoreSpec)

/-- ITS FALSE NEIGHBOUR: 'it returns false'. Refute it at one input. -/
def matchMoreWrong : ChangeSpec := { name := "matchMore", fn := fun _ => fun
  | [d1, d2, d3, d4] => { results := [.lit (.bool false)], args := [d1, d2, d3, d4] }
  | _ => none }
def MatchMoreWrongFalsely : Prop := matchMoreRow.holds Try.pinned (OpenSpec.ofChange matchMoreWrong)

/-- 'partbooklaw35.MatchFewer': WHATEVER THE INPUT: true; the input reads as it did. -/
def matchFewerSpec : ChangeSpec := { name := "matchFewer", fn := fun _ => fun
  | [d1, d2] => { results := [.lit (.bool true)], args := [d1, d2] }
  | _ => none }
def matchFewerRow : OpenClaim := { program := "ytkpgphadgomifaa", sum := "fd3e92b0328c189c3a054a461c60162c0cddc94533c5fc96c4f338e376e7fb39", func := "partbook/partbooklaw35.MatchFewer", spec := "matchFewer", unfollowed := true, recurses := true, apart := false }
def MatchFewerSaid : Prop := matchFewerRow.holds Try.pinned (OpenSpec.ofChange matchFewerSpec)

/-- ITS FALSE NEIGHBOUR: 'it returns false'. Refute it at one input. -/
def matchFewerWrong : ChangeSpec := { name := "matchFewer", fn := fun _ => fun
  | [d1, d2] => { results := [.lit (.bool false)], args := [d1, d2] }
  | _ => none }
def MatchFewerWrongFalsely : Prop := matchFewerRow.holds Try.pinned (OpenSpec.ofChange matchFewerWrong)

/- THE SECOND FORM. 'bulk': how many values and letters a reading holds, each counted each time it is reached (what is shared counts as often as it is met; a slice's spare places count too). A statement '..UptoSaid' is the law's where the arguments, and the package variables that the reading takes, are together of bulk at most 1048576: NARROWER than '..Said'. Prove '..Said' where nothing that the law and all that it calls make is longer than what came in: it says more and counts as full. Else prove '..UptoSaid'. A law counts once. -/
mutual
def uptoBulk {H : Type} : DataW H → Nat
  | .lit (.string bytes) => bytes.length + 1
  | .lit _ => 1
  | .nil => 1
  | .ptr d => uptoBulk d + 1
  | .slice elems spare => uptoBulkAll elems + uptoBulkAll spare + 1
  | .agg parts => uptoBulkAll parts + 1
  | .iface _ d => uptoBulk d + 1
  | .map entries => uptoBulkEntries entries + 1
  | .held _ => 1
def uptoBulkAll {H : Type} : List (DataW H) → Nat
  | [] => 0
  | d :: r => uptoBulk d + uptoBulkAll r
def uptoBulkEntries {H : Type} : List (Lit × DataW H) → Nat
  | [] => 0
  | x :: r => uptoBulkEntry x + uptoBulkEntries r
def uptoBulkEntry {H : Type} : Lit × DataW H → Nat
  | (.string bytes, d) => bytes.length + uptoBulk d + 1
  | (_, d) => uptoBulk d + 1
 end
def uptoSmall : (H : Type) → List (DataW H) → Bool := fun _ ds => decide (uptoBulkAll ds ≤ 1048576)
def OpenSpec.upto (s : _root_.Go.ChangeSpec) : _root_.Go.OpenSpec := { _root_.Go.OpenSpec.ofChange s with cond := some uptoSmall }

/-- 'partbooklaw35.MatchMatchesReference', WHERE WHAT IT READS IS OF BULK AT MOST 1048576: true; the input reads as it did. -/
def matchMatchesReferenceUptoRow : OpenClaim := { program := "ytkpgphadgomifaa", sum := "fd3e92b0328c189c3a054a461c60162c0cddc94533c5fc96c4f338e376e7fb39", func := "partbook/partbooklaw35.MatchMatchesReference", spec := "matchMatchesReference", unfollowed := true, recurses := true, apart := false, narrowed := true }
def MatchMatchesReferenceUptoSaid : Prop := matchMatchesReferenceUptoRow.holds Try.pinned (OpenSpec.upto matchMatchesReferenceSpec)

/-- 'partbooklaw35.MatchLeast', WHERE WHAT IT READS IS OF BULK AT MOST 1048576: true; the input reads as it did. -/
def matchLeastUptoRow : OpenClaim := { program := "ytkpgphadgomifaa", sum := "fd3e92b0328c189c3a054a461c60162c0cddc94533c5fc96c4f338e376e7fb39", func := "partbook/partbooklaw35.MatchLeast", spec := "matchLeast", unfollowed := true, recurses := true, apart := false, narrowed := true }
def MatchLeastUptoSaid : Prop := matchLeastUptoRow.holds Try.pinned (OpenSpec.upto matchLeastSpec)

/-- 'partbooklaw35.MatchProves', WHERE WHAT IT READS IS OF BULK AT MOST 1048576: true; the input reads as it did. -/
def matchProvesUptoRow : OpenClaim := { program := "ytkpgphadgomifaa", sum := "fd3e92b0328c189c3a054a461c60162c0cddc94533c5fc96c4f338e376e7fb39", func := "partbook/partbooklaw35.MatchProves", spec := "matchProves", unfollowed := true, recurses := true, apart := false, narrowed := true }
def MatchProvesUptoSaid : Prop := matchProvesUptoRow.holds Try.pinned (OpenSpec.upto matchProvesSpec)

/-- 'partbooklaw35.MatchShort', WHERE WHAT IT READS IS OF BULK AT MOST 1048576: true; the input reads as it did. -/
def matchShortUptoRow : OpenClaim := { program := "ytkpgphadgomifaa", sum := "fd3e92b0328c189c3a054a461c60162c0cddc94533c5fc96c4f338e376e7fb39", func := "partbook/partbooklaw35.MatchShort", spec := "matchShort", unfollowed := true, recurses := true, apart := false, narrowed := true }
def MatchShortUptoSaid : Prop := matchShortUptoRow.holds Try.pinned (OpenSpec.upto matchShortSpec)

/-- 'partbooklaw35.MatchMore', WHERE WHAT IT READS IS OF BULK AT MOST 1048576: true; the input reads as it did. -/
def matchMoreUptoRow : OpenClaim := { program := "ytkpgphadgomifaa", sum := "fd3e92b0328c189c3a054a461c60162c0cddc94533c5fc96c4f338e376e7fb39", func := "partbook/partbooklaw35.MatchMore", spec := "matchMore", unfollowed := true, recurses := true, apart := false, narrowed := true }
def MatchMoreUptoSaid : Prop := matchMoreUptoRow.holds Try.pinned (OpenSpec.upto matchMoreSpec)

/-- 'partbooklaw35.MatchFewer', WHERE WHAT IT READS IS OF BULK AT MOST 1048576: true; the input reads as it did. -/
def matchFewerUptoRow : OpenClaim := { program := "ytkpgphadgomifaa", sum := "fd3e92b0328c189c3a054a461c60162c0cddc94533c5fc96c4f338e376e7fb39", func := "partbook/partbooklaw35.MatchFewer", spec := "matchFewer", unfollowed := true, recurses := true, apart := false, narrowed := true }
def MatchFewerUptoSaid : Prop := matchFewerUptoRow.holds Try.pinned (OpenSpec.upto matchFewerSpec)

end Rows
end Go.Proofs.Ytkpgphadgomifaa
