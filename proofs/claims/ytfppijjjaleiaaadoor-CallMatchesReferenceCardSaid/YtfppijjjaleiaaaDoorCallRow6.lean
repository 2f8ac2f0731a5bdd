
/- The row and the card CallMatchesReference. -/
import Derived.Test.YtfppijjjaleiaaaDoorCallRow0
import Derived.Test.YtfppijjjaleiaaaDoorCallLaw6
import Derived.Test.YtfppijjjaleiaaaDoorTie
import Derived.Test.YtfppijjjaleiaaaDoorCards
import Derived.SevenTiedAt
namespace Go.Proofs.YtfppijjjaleiaaaDoor
set_option linter.unusedSimpArgs false
set_option linter.unusedVariables false
open Go.ChangeShapes Go.WideShapes Go.ChangeAt Go.RowKit Go.Sort

theorem cmatches_s (c : Cl) (z : ByteArray) (W : World) (hE : EnvB W.heap.size W) : Calls Tryd.prog 3 #[.agg #[.string (mkS c.letter), .int .i64 c.number, .int .i64 c.bars, .int .i64 c.n, .int .i64 c.d, .int .i64 c.pass], .string z] W fun e w' => e = .returned (.bool true) ∧ Below W.heap.size W w' := by
  have := cmatches_any c (bsS z) W hE
  rwa [mk_bs] at this
set_option maxRecDepth 100000 in
theorem cmatches_lifted (os : Os) (started : os.Started) (H : Type) (enc : TypeId × Value → H) :
    ReturnsInHanded {} Tryd.checked os 3 .any (fun w args => (Rows.callMatchesReferenceSpec.pre enc Tryd.prog Tryd.f3 [] false w args ∧ laidMetH Tryd.prog laidL w) ∧ sizedMet enc Tryd.prog Tryd.f3 (OpenSpec.ofChange Rows.callMatchesReferenceSpec) false w args) (Rows.callMatchesReferenceSpec.post enc Tryd.prog Tryd.f3 false true false false) := by
  refine returnsInHanded_and_shaped (C := Tryd.checked) (X := fun w _ => laidMetH Tryd.prog laidL w) (fun _ _ _ hh h => h.of_heap hh) ownT started (by kernel_rfl) Tryd.func3
    (ChangeSpec.witness_shaped (enc := enc) (C := Tryd.checked) (os := os) (X := fun w _ => laidMetH Tryd.prog laidL w) false (World.doorLaid Tryd.prog 124 os) #[.agg #[.string ⟨#[]⟩, .int .i64 0, .int .i64 0, .int .i64 0, .int .i64 0, .int .i64 0], .string ⟨#[]⟩] 8 rfl (World.shaped_of_RefB (by kernel_rfl) (by kernel_rfl)) (by kernel_rfl) (by kernel_rfl) (by kernel_rfl) (door_met os _)) ?_
  intro W base args ds gs before hSh hval0 hW hL
  have hval : ∀ (j : Nat) t v, Tryd.f3.params[j]? = some t → args[j]? = some v → Value.okWide Tryd.prog W .any base t v := hval0
  have hW' := hW
  obtain ⟨p, q, hA0, hV, rfl, hfz, hnd⟩ := hW
  have hA : DataW.TrodAll enc Tryd.prog W 0 (fun _ => true) true Tryd.f3.params.toList args.toList ds p := hA0
  rw [Tryd.params3] at hA hval
  have hK := hA
  obtain ⟨v0, v1, d0, d1, p0, p1, rfl, rfl, h0, h1⟩ := args_2 hA
  obtain ⟨rfl, rfl⟩ := trodVars_none hV
  simp only [List.append_nil] at hW'
  have hlt : ∀ y ∈ p, y.block < W.heap.size := fun y hy => hW'.lt y hy
  have hE := env_of_laid hL hSh
  obtain ⟨c, rfl⟩ := ca_of (hval 0 _ _ rfl rfl) h0; obtain ⟨z, rfl, _, _, _⟩ := Go.ChangeMaps.open_string Tryd.underlying9 (hval 1 _ _ rfl rfl) h1
  clear hA0 hval0
  refine (cmatches_s c z W hE).mono fun e W' ⟨he, bel⟩ => ?_
  subst he
  refine ⟨_, rfl, ⟨_, _, _, [], p, [], hW', ?_, ?_, rfl, bel.frame _, fun h => by cases h⟩⟩
  · exact trodAll_mk1 (shut_bool Tryd.underlying4 true)
  · exact trodAll_below laidOutT (fun t ht => by have e : (decide (t < Tryd.prog.types.size) && Tryd.prog.readableRec t) = true := List.all_eq_true.1 (show ([25, 9] : List TypeId).all (fun t => decide (t < Tryd.prog.types.size) && Tryd.prog.readableRec t) = true by kernel_rfl) t ht; rw [Bool.and_eq_true] at e; exact ⟨e.2, of_decide_eq_true e.1⟩) hK bel hlt
theorem cmatches_holds : Rows.CallMatchesReferenceSaid :=
  OpenClaim.holds_of_wide 3 Tryd.f3 rfl rfl rfl rfl rfl rfl rfl ⟨rfl, rfl, rfl, rfl, rfl⟩ rfl rfl rfl rfl rfl (by kernel_rfl) Tryd.func3 (by kernel_rfl)
    (of_decide_eq_true (by kernel_rfl)) (by unfold Func.isWrapper; rw [if_neg (by decide +kernel)]; exact ⟨rfl, rfl⟩)
    (fun os started H enc _ => cmatches_lifted os started H enc)
theorem cmatches_card : Rows.CallMatchesReferenceCardSaid :=
  Claim7.holds_tied_plain_at .later [] Rows.callMatchesReferenceCard.laidKinds true Rows.callMatchesReferenceCard.stood.harness true cmatches_holds (fun _ h => by cases h) (by kernel_rfl) (fun _ h => by cases h) callMatchesReference_row_tie rfl ⟨rfl, rfl⟩ (by kernel_rfl) rfl
    (fun f fn hf hfn => by
      obtain rfl : f = 3 := Option.some.inj ((show Tryd.prog.funcNamed Rows.callMatchesReferenceRow.func = some 3 by kernel_rfl).symm.trans hf) |>.symm
      obtain rfl : fn = Tryd.f3 := (Option.some.inj (Tryd.func3.symm.trans hfn)).symm
      exact ⟨by kernel_rfl, fun j t ht => by
        rw [Tryd.params3] at ht
        have hm : t ∈ [25, 9] := by simpa using Array.mem_of_getElem? ht
        have hall : (([25, 9] : List TypeId).all fun u => !Tryd.prog.wantsStandIn u) = true := by kernel_rfl
        exact (show Tryd.prog.wantsStandIn t = false by simpa using List.all_eq_true.1 hall t hm)⟩)
    (by kernel_rfl)
#print axioms cmatches_card

end Go.Proofs.YtfppijjjaleiaaaDoor
