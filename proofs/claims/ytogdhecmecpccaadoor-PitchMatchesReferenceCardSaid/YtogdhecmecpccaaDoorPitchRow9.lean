/- The row and the card PitchMatchesReference: for all pitches, intervals and strings the law returns true. -/
import Derived.Test.YtogdhecmecpccaaDoorPitchRow
import Derived.Test.YtogdhecmecpccaaDoorPitchLaw6
import Derived.Test.YtogdhecmecpccaaDoorTie
import Derived.Test.YtogdhecmecpccaaDoorCards
import Derived.SevenTiedAt
namespace Go.Proofs.YtogdhecmecpccaaDoor
set_option linter.unusedSimpArgs false
set_option linter.unusedVariables false
open Go.ChangeShapes Go.WideShapes Go.ChangeAt Go.RowKit Go.Sort

set_option maxRecDepth 100000 in
theorem matches_lifted (os : Os) (started : os.Started) (H : Type) (enc : TypeId × Value → H) :
    ReturnsInHanded {} Tryd.checked os 8 .any (fun w args => (Rows.pitchMatchesReferenceSpec.pre enc Tryd.prog Tryd.f8 [] false w args ∧ laidMetH Tryd.prog laidL w) ∧ sizedMet enc Tryd.prog Tryd.f8 (OpenSpec.ofChange Rows.pitchMatchesReferenceSpec) false w args) (Rows.pitchMatchesReferenceSpec.post enc Tryd.prog Tryd.f8 false true false false) := by
  refine returnsInHanded_of_change_and (C := Tryd.checked) (X := fun w _ => laidMetH Tryd.prog laidL w) (fun _ _ _ hh h => h.of_heap hh) ownT started (by kernel_rfl) Tryd.func8
    (ChangeSpec.witness_shaped (enc := enc) (C := Tryd.checked) (os := os) (X := fun w _ => laidMetH Tryd.prog laidL w) false (World.doorLaid Tryd.prog 67 os) #[.agg #[.int .i64 0, .int .i64 0, .int .i64 0], .agg #[.int .i64 0, .int .i64 0, .int .i64 0], .agg #[.int .i64 0, .int .i64 0], .agg #[.int .i64 0, .int .i64 0], .string ⟨#[]⟩] 8 rfl (World.shaped_of_RefB (by kernel_rfl) (by kernel_rfl)) (by kernel_rfl) (by kernel_rfl) (by kernel_rfl) (door_met os _)) ?_
  intro W base args ds gs before hval0 hW _ _ hL _
  have hval : ∀ (j : Nat) t v, Tryd.f8.params[j]? = some t → args[j]? = some v → Value.okWide Tryd.prog W .any base t v := hval0
  have hW' := hW
  obtain ⟨p, q, hA0, hV, rfl, hfz, hnd⟩ := hW
  have hA : DataW.TrodAll enc Tryd.prog W 0 (fun _ => true) true Tryd.f8.params.toList args.toList ds p := hA0
  rw [Tryd.params8] at hA hval
  have hK := hA
  obtain ⟨v0, v1, v2, v3, v4, d0, d1, d2, d3, d4, p0, p1, p2, p3, p4, rfl, rfl, h0, h1, h2, h3, h4⟩ := args_5 hA
  obtain ⟨rfl, rfl⟩ := trodVars_none hV
  simp only [List.append_nil] at hW'
  have hlt : ∀ y ∈ p, y.block < W.heap.size := fun y hy => hW'.lt y hy
  have hE := env_of_laid hL
  obtain ⟨s, a, o, rfl⟩ := pi_of (hval 0 _ _ rfl rfl) h0; obtain ⟨s', a', o', rfl⟩ := pi_of (hval 1 _ _ rfl rfl) h1; obtain ⟨x, y, rfl⟩ := iv_of (hval 2 _ _ rfl rfl) h2; obtain ⟨x', y', rfl⟩ := iv_of (hval 3 _ _ rfl rfl) h3; obtain ⟨z, rfl, _, _, _⟩ := Go.ChangeMaps.open_string Tryd.underlying9 (hval 4 _ _ rfl rfl) h4
  clear hA0 hval0
  refine (matches_any s a o s' a' o' x y x' y' z W hE).mono fun e W' ⟨he, bel⟩ => ?_
  subst he
  refine ⟨_, rfl, ⟨_, _, _, [], p, [], hW', ?_, ?_, rfl, bel.frame _, fun h => by cases h⟩⟩
  · exact trodAll_mk1 (shut_bool Tryd.underlying4 true)
  · exact trodAll_below laidOutT (fun t ht => by have e : (decide (t < Tryd.prog.types.size) && Tryd.prog.readableRec t) = true := List.all_eq_true.1 (show ([23, 23, 25, 25, 9] : List TypeId).all (fun t => decide (t < Tryd.prog.types.size) && Tryd.prog.readableRec t) = true by kernel_rfl) t ht; rw [Bool.and_eq_true] at e; exact ⟨e.2, of_decide_eq_true e.1⟩) hK bel hlt
theorem matches_holds : Rows.PitchMatchesReferenceSaid :=
  OpenClaim.holds_of_wide 8 Tryd.f8 rfl rfl rfl rfl rfl rfl rfl ⟨rfl, rfl, rfl, rfl, rfl⟩ rfl rfl rfl rfl rfl (by kernel_rfl) Tryd.func8 (by kernel_rfl)
    (of_decide_eq_true (by kernel_rfl)) (by unfold Func.isWrapper; rw [if_neg (by decide +kernel)]; exact ⟨rfl, rfl⟩)
    (fun os started H enc _ => matches_lifted os started H enc)
theorem matches_card : Rows.PitchMatchesReferenceCardSaid :=
  Claim7.holds_tied_plain_at .later [] Rows.pitchMatchesReferenceCard.laidKinds true Rows.pitchMatchesReferenceCard.stood.harness true matches_holds (fun _ h => by cases h) (by kernel_rfl) (fun _ h => by cases h) pitchMatchesReference_row_tie rfl ⟨rfl, rfl⟩ (by kernel_rfl) rfl
    (fun f fn hf hfn => by
      obtain rfl : f = 8 := Option.some.inj ((show Tryd.prog.funcNamed Rows.pitchMatchesReferenceRow.func = some 8 by kernel_rfl).symm.trans hf) |>.symm
      obtain rfl : fn = Tryd.f8 := (Option.some.inj (Tryd.func8.symm.trans hfn)).symm
      exact ⟨by kernel_rfl, fun j t ht => by
        rw [Tryd.params8] at ht
        have hm : t ∈ [23, 23, 25, 25, 9] := by simpa using Array.mem_of_getElem? ht
        have hall : (([23, 23, 25, 25, 9] : List TypeId).all fun u => !Tryd.prog.wantsStandIn u) = true := by kernel_rfl
        exact (show Tryd.prog.wantsStandIn t = false by simpa using List.all_eq_true.1 hall t hm)⟩)
    (by kernel_rfl)
#print axioms matches_card

end Go.Proofs.YtogdhecmecpccaaDoor
