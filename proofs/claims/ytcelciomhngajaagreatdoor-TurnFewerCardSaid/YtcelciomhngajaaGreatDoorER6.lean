import Derived.Test.YtcelciomhngajaaGreatDoorER0
import Derived.Test.YtcelciomhngajaaGreatDoorEL9
import Derived.Test.YtcelciomhngajaaGreatDoorTie
import Derived.Test.YtcelciomhngajaaGreatDoorCards
import Derived.SevenTiedAt
import Derived.SizedLaws

/- The card TurnFewer: for all scores, tempos, parts, notes and places the law returns true; no condition. -/
namespace Go.Proofs.YtcelciomhngajaaGreatDoor
set_option linter.unusedSimpArgs false
set_option linter.unusedVariables false
open Go.ChangeShapes Go.WideShapes Go.ChangeAt Go.RowKit Go.Sort Go.Deep

set_option maxRecDepth 100000 in
theorem turnfewer_lifted (os : Os) (started : os.Started) (H : Type) (enc : TypeId × Value → H) :
    ReturnsInHanded {} Tryz.checked os 8 .any (fun w args => (Rows.turnFewerSpec.pre enc Tryz.prog Tryz.f8 [] false w args ∧ laidMetH Tryz.prog laidL w) ∧ sizedMet enc Tryz.prog Tryz.f8 (OpenSpec.ofChange Rows.turnFewerSpec) false w args) (Rows.turnFewerSpec.post enc Tryz.prog Tryz.f8 false true false false) := by
  refine returnsInHanded_of_change_and (C := Tryz.checked) (X := fun w _ => laidMetH Tryz.prog laidL w) (fun _ _ _ hh h => h.of_heap hh) ownT started (by kernel_rfl) Tryz.func8
    (ChangeSpec.witness_shaped (enc := enc) (C := Tryz.checked) (os := os) (X := fun w _ => laidMetH Tryz.prog laidL w) false (World.doorLaid Tryz.prog 240 os) #[.agg #[.int .i64 0, .slice none 0 0, .slice none 0 0, .slice none 0 0], .slice none 0 0, .int .u8 0, .int .u8 0, .int .u8 0] 8 rfl (World.shaped_of_RefB (by kernel_rfl) (by kernel_rfl)) (by kernel_rfl) (by kernel_rfl) (by kernel_rfl) (door_met os _)) ?_
  intro W base args ds gs before hval0 hW _ _ hL _
  have hval : ∀ (j : Nat) t v, Tryz.f8.params[j]? = some t → args[j]? = some v → Value.okWide Tryz.prog W .any base t v := hval0
  have hW' := hW
  obtain ⟨p, q, hA0, hV, rfl, hfz, hnd⟩ := hW
  have hA : DataW.TrodAll enc Tryz.prog W 0 (fun _ => true) true Tryz.f8.params.toList args.toList ds p := hA0
  rw [Tryz.params8] at hA hval
  have hK := hA
  obtain ⟨v0, v1, v2, v3, v4, d0, d1, d2, d3, d4, p0, p1, p2, p3, p4, rfl, rfl, h0, h1, h2, h3, h4⟩ := args_5 hA
  obtain ⟨rfl, rfl⟩ := trodVars_none hV
  simp only [List.append_nil] at hW'
  have hlt : ∀ y ∈ p, y.block < W.heap.size := fun y hy => hW'.lt y hy
  have hE := env_of_laid hL
  obtain ⟨s, q, rfl, hs⟩ := sc_of (hval 0 _ _ rfl rfl) h0; obtain ⟨ta, tcap, l, rfl, ht⟩ := tempos_of (hval 1 _ _ rfl rfl) h1; obtain ⟨k, rfl, rfl, rfl, wf2⟩ := open_int Tryz.underlying5 (hval 2 _ _ rfl rfl) h2; obtain ⟨k, rfl⟩ := Int.eq_ofNat_of_zero_le (wf_u8 wf2).1; obtain ⟨i, rfl, rfl, rfl, wf3⟩ := open_int Tryz.underlying5 (hval 3 _ _ rfl rfl) h3; obtain ⟨i, rfl⟩ := Int.eq_ofNat_of_zero_le (wf_u8 wf3).1; obtain ⟨j, rfl, rfl, rfl, wf4⟩ := open_int Tryz.underlying5 (hval 4 _ _ rfl rfl) h4; obtain ⟨j, rfl⟩ := Int.eq_ofNat_of_zero_le (wf_u8 wf4).1
  clear hA0 hval0
  refine (TurnFewer_any s q ta tcap l k i j (by have := (wf_u8 wf2).2; omega) (by have := (wf_u8 wf3).2; omega) (by have := (wf_u8 wf4).2; omega) W hs ht hE).mono fun e W' ⟨he, bel⟩ => ?_
  subst he
  refine ⟨_, rfl, ⟨_, _, _, [], p, [], hW', ?_, ?_, rfl, bel.frame _, fun h => by cases h⟩⟩
  · exact trodAll_mk1 (shut_bool Tryz.underlying4 true)
  · exact trodAll_below laidOutT (fun t ht => by have e : (decide (t < Tryz.prog.types.size) && Tryz.prog.readableRec t) = true := List.all_eq_true.1 (show ([26, 27, 5, 5, 5] : List TypeId).all (fun t => decide (t < Tryz.prog.types.size) && Tryz.prog.readableRec t) = true by kernel_rfl) t ht; rw [Bool.and_eq_true] at e; exact ⟨e.2, of_decide_eq_true e.1⟩) hK bel hlt
theorem turnfewer_holds : Rows.TurnFewerSaid :=
  OpenClaim.holds_of_wide 8 Tryz.f8 rfl rfl rfl rfl rfl rfl rfl ⟨rfl, rfl, rfl, rfl, rfl⟩ rfl rfl rfl rfl rfl (by kernel_rfl) Tryz.func8 (by kernel_rfl)
    (of_decide_eq_true (by kernel_rfl)) (by unfold Func.isWrapper; rw [if_neg (by decide +kernel)]; exact ⟨rfl, rfl⟩)
    (fun os started H enc _ => turnfewer_lifted os started H enc)
theorem turnfewer_card : Rows.TurnFewerCardSaid :=
  Claim7.holds_tied_plain_at .later [] Rows.turnFewerCard.laidKinds true Rows.turnFewerCard.stood.harness false turnfewer_holds (fun _ h => by cases h) (by kernel_rfl) (fun _ h => by cases h) turnFewer_row_tie rfl ⟨rfl, rfl⟩ (by kernel_rfl) rfl
    (fun f fn hf hfn => by
      obtain rfl : f = 8 := Option.some.inj ((show Tryz.prog.funcNamed Rows.turnFewerRow.func = some 8 by kernel_rfl).symm.trans hf) |>.symm
      obtain rfl : fn = Tryz.f8 := (Option.some.inj (Tryz.func8.symm.trans hfn)).symm
      exact ⟨by kernel_rfl, fun j t ht => by
        rw [Tryz.params8] at ht
        have hm : t ∈ [26, 27, 5, 5, 5] := by simpa using Array.mem_of_getElem? ht
        have hall : (([26, 27, 5, 5, 5] : List TypeId).all fun u => !Tryz.prog.wantsStandIn u) = true := by kernel_rfl
        exact (show Tryz.prog.wantsStandIn t = false by simpa using List.all_eq_true.1 hall t hm)⟩)
    (by kernel_rfl)
#print axioms turnfewer_card

end Go.Proofs.YtcelciomhngajaaGreatDoor

