/- MatchMatchesReference: for all costs, columns and prices the law returns true; no condition. -/
import Derived.Test.YtkpgphadgomifaaMatchFrame
import Derived.Test.YtkpgphadgomifaaMatchLaw6
namespace Go.Proofs.Ytkpgphadgomifaa
set_option linter.unusedSimpArgs false
set_option linter.unusedVariables false
open Go.ChangeShapes Go.WideShapes Go.ChangeAt Go.RowKit Go.Sort

set_option maxRecDepth 100000 in
theorem matches_lifted (os : Os) (started : os.Started) (H : Type) (enc : TypeId × Value → H) :
    ReturnsInHanded {} Try.checked os 3 .any (Rows.matchMatchesReferenceSpec.pre6 enc Try.prog Try.f3 Rows.matchMatchesReferenceRow.domain false) (Rows.matchMatchesReferenceSpec.post enc Try.prog Try.f3 false true false false) := by
  refine returnsInHanded_of_change (C := Try.checked) ownT started (by kernel_rfl) Try.func3
    (ChangeSpec.witness6 (enc := enc) (C := Try.checked) false ⟨#[], #[.slice none 0 0, .slice none 0 0, .slice none 0 0, .slice none 0 0], []⟩ 8 (by kernel_rfl) (by kernel_rfl) (by kernel_rfl) (by kernel_rfl)) ?_
  intro W base args ds gs before hval0 hW hcnd _
  have hval : ∀ (j : Nat) t v, Try.f3.params[j]? = some t → args[j]? = some v → Value.okWide Try.prog W .any base t v := hval0
  have hW' := hW
  obtain ⟨p, q, hA0, hV, rfl, hfz, hnd⟩ := hW
  have hA : DataW.TrodAll enc Try.prog W 0 (fun _ => true) true Try.f3.params.toList args.toList ds p := hA0
  rw [Try.params3] at hA hval
  have hK := hA
  obtain ⟨v0, v1, v2, v3, d0, d1, d2, d3, p0, p1, p2, p3, rfl, rfl, h0, h1, h2, h3⟩ := args_4 hA
  obtain ⟨rfl, rfl⟩ := trodVars_none hV
  simp only [List.append_nil] at hW'
  have hlt : ∀ y ∈ p, y.block < W.heap.size := fun y hy => hW'.lt y hy
  obtain ⟨a, cap, c, rfl, hl, hs, hm⟩ := mat_of (hval 0 _ _ rfl rfl) h0; obtain ⟨a1, cap1, l1, rfl, hl1, _, i1⟩ := ints_of (hval 1 _ _ rfl rfl) h1; obtain ⟨a2, cap2, l2, rfl, hl2, _, i2⟩ := ints_of (hval 2 _ _ rfl rfl) h2; obtain ⟨a3, cap3, l3, rfl, hl3, _, i3⟩ := ints_of (hval 3 _ _ rfl rfl) h3
  clear hA0 hval0
  refine (matches_law a a1 a2 a3 cap cap1 cap2 cap3 c l1 l2 l3 W hl hl1 hl2 hl3 hm hs i1 i2 i3).mono fun e W' ⟨he, bel⟩ => ?_
  subst he
  refine ⟨_, rfl, ⟨_, _, _, [], p, [], hW', ?_, ?_, rfl, bel.frame _, fun h => by cases h⟩⟩
  · exact trodAll_mk1 (shut_bool Try.underlying4 true)
  · exact trodAll_below laidOutT (fun t ht => by have e : (decide (t < Try.prog.types.size) && Try.prog.readableRec t) = true := List.all_eq_true.1 (show ([22, 23, 23, 23] : List TypeId).all (fun t => decide (t < Try.prog.types.size) && Try.prog.readableRec t) = true by kernel_rfl) t ht; rw [Bool.and_eq_true] at e; exact ⟨e.2, of_decide_eq_true e.1⟩) hK bel hlt
theorem matches_holds : Rows.MatchMatchesReferenceSaid :=
  OpenClaim.holds_of_wide 3 Try.f3 rfl rfl rfl rfl rfl rfl rfl ⟨rfl, rfl, rfl, rfl, rfl⟩ rfl rfl rfl rfl rfl (by kernel_rfl) Try.func3 (by kernel_rfl)
    (of_decide_eq_true (by kernel_rfl)) (by unfold Func.isWrapper; rw [if_neg (by decide +kernel)]; exact ⟨rfl, rfl⟩)
    (fun os started H enc _ => matches_lifted os started H enc)
#print axioms matches_holds

end Go.Proofs.Ytkpgphadgomifaa
