import Derived.Test.YtppjbnnnppffaaaGreatDoorSP
import Derived.Test.YtppjbnnnppffaaaGreatDoorEL5
import Derived.Test.YtppjbnnnppffaaaGreatDoorTie
import Derived.Test.YtppjbnnnppffaaaGreatDoorCards
import Derived.SevenTiedAt
import Derived.LaidSub

/- The card ViewScales: for all scores and the byte the law returns true; no condition. -/
namespace Go.Proofs.YtppjbnnnppffaaaGreatDoor
set_option linter.unusedSimpArgs false
set_option linter.unusedVariables false
open Go.ChangeShapes Go.WideShapes Go.ChangeAt Go.RowKit Go.Sort
set_option maxRecDepth 100000
def laidLS : List (String × DataW Unit) := Rows.viewScalesRow.laid
theorem env_of_laidS {W : World} (h : laidMetH Tryz.prog laidLS W) : Env W ∧ EnvS W := by
  have h2 := h.filter (fun x => x.1 == "partbook/key.sharps")
  rw [show laidLS.filter (fun x => x.1 == "partbook/key.sharps") = [("partbook/key.sharps", Lib.tabData .i64 [3, 0, 4, 1, 5, 2, 6])] from by kernel_rfl] at h2
  rw [MakeChecks.laidMetH_plain _ _ _ (by kernel_rfl)] at h h2
  have hn := Lib.tabIs_of_head (P := Tryz.prog) (k := .i64) (zs := [0, 2, 4, 5, 7, 9, 11]) (g := 0) (t := 176) (e := 3) (n := 7) (by kernel_rfl) (by kernel_rfl) Tryz.underlying176 Tryz.underlying3 (by kernel_rfl) (by kernel_rfl) h
  have hs := Lib.tabIs_of_head (P := Tryz.prog) (k := .i64) (zs := [3, 0, 4, 1, 5, 2, 6]) (g := 1) (t := 176) (e := 3) (n := 7) (by kernel_rfl) (by kernel_rfl) Tryz.underlying176 Tryz.underlying3 (by kernel_rfl) (by kernel_rfl) h2
  refine ⟨⟨fun j hj => ?_⟩, fun i r hr => ?_⟩
  · have := World.var?_cell (show Tryz.prog.globalNamed _ = some 0 by kernel_rfl) hn j
    rw [this]
    have hj' : j = 0 ∨ j = 1 ∨ j = 2 ∨ j = 3 ∨ j = 4 ∨ j = 5 ∨ j = 6 := by omega
    rcases hj' with rfl | rfl | rfl | rfl | rfl | rfl | rfl <;> rfl
  · have hv := World.var?_cell (show Tryz.prog.globalNamed _ = some 1 by kernel_rfl) hs
    have hi : i < 7 := by have := (List.getElem?_eq_some_iff.1 hr).1; simpa [shL] using this
    have hc : W.cell? ⟨1, i, none⟩ = some (.int .i64 (shL.getD i 0)) ∧ r = [.int .i64 (shL.getD i 0)] := by
      have h9 := hv i
      have hj' : i = 0 ∨ i = 1 ∨ i = 2 ∨ i = 3 ∨ i = 4 ∨ i = 5 ∨ i = 6 := by omega
      rcases hj' with rfl | rfl | rfl | rfl | rfl | rfl | rfl <;> exact ⟨h9, (Option.some.inj hr).symm⟩
    obtain ⟨hc, rfl⟩ := hc
    refine ⟨1, 0, rfl, World.block_lt_of_cell? _ _ hc, rfl, fun j u hu => ?_⟩
    cases j with
    | zero =>
      have e : u = .int .i64 (shL.getD i 0) := (Option.some.inj hu).symm
      subst e
      rw [show 0 + i * 1 + 0 = i by omega]; exact hc
    | succ j => cases hu
theorem door_metS (os : Os) (args : Array Value) : laidMetH Tryz.prog laidLS ((World.doorLaid Tryz.prog 40 os).forCall (fun _ _ => 0) ⟨#[], args, []⟩).memory :=
  laidMetH_of_parts3 (fuel := 8) (laidMet_of_run' 8 (by kernel_rfl) (by kernel_rfl)) (by kernel_rfl) (by kernel_rfl)

set_option maxRecDepth 100000 in
theorem viewscales_lifted (os : Os) (started : os.Started) (H : Type) (enc : TypeId × Value → H) :
    ReturnsInHanded {} Tryz.checked os 12 .any (fun w args => (Rows.viewScalesSpec.pre enc Tryz.prog Tryz.f12 [] false w args ∧ laidMetH Tryz.prog laidLS w) ∧ sizedMet enc Tryz.prog Tryz.f12 (OpenSpec.ofChange Rows.viewScalesSpec) false w args) (Rows.viewScalesSpec.post enc Tryz.prog Tryz.f12 false true false false) := by
  refine returnsInHanded_of_change_and (C := Tryz.checked) (X := fun w _ => laidMetH Tryz.prog laidLS w) (fun _ _ _ hh h => h.of_heap hh) ownT started (by kernel_rfl) Tryz.func12
    (ChangeSpec.witness_shaped (enc := enc) (C := Tryz.checked) (os := os) (X := fun w _ => laidMetH Tryz.prog laidLS w) false (World.doorLaid Tryz.prog 40 os) #[.agg #[.int .i64 0, .slice none 0 0, .slice none 0 0, .slice none 0 0], .int .u8 0] 8 rfl (World.shaped_of_RefB (by kernel_rfl) (by kernel_rfl)) (by kernel_rfl) (by kernel_rfl) (by kernel_rfl) (door_metS os _)) ?_
  intro W base args ds gs before hval0 hW _ _ hL _
  have hval : ∀ (j : Nat) t v, Tryz.f12.params[j]? = some t → args[j]? = some v → Value.okWide Tryz.prog W .any base t v := hval0
  have hW' := hW
  obtain ⟨p, q, hA0, hV, rfl, hfz, hnd⟩ := hW
  have hA : DataW.TrodAll enc Tryz.prog W 0 (fun _ => true) true Tryz.f12.params.toList args.toList ds p := hA0
  rw [Tryz.params12] at hA hval
  have hK := hA
  obtain ⟨v0, v1, d0, d1, p0, p1, rfl, rfl, h0, h1⟩ := args_2 hA
  obtain ⟨rfl, rfl⟩ := trodVars_none hV
  simp only [List.append_nil] at hW'
  have hlt : ∀ y ∈ p, y.block < W.heap.size := fun y hy => hW'.lt y hy
  have hE := env_of_laidS hL
  obtain ⟨s, q, rfl, hs⟩ := sc_of (hval 0 _ _ rfl rfl) h0; obtain ⟨x, rfl, rfl, rfl, wf1⟩ := open_int Tryz.underlying5 (hval 1 _ _ rfl rfl) h1; obtain ⟨x, rfl⟩ := Int.eq_ofNat_of_zero_le (wf_u8 wf1).1
  clear hA0 hval0
  refine (ViewScales_any s q x W hs hE.1 hE.2 (by have := (wf_u8 wf1).2; omega)).mono fun e W' ⟨he, bel⟩ => ?_
  subst he
  refine ⟨_, rfl, ⟨_, _, _, [], p, [], hW', ?_, ?_, rfl, bel.frame _, fun h => by cases h⟩⟩
  · exact trodAll_mk1 (shut_bool Tryz.underlying4 true)
  · exact trodAll_below laidOutT (fun t ht => by have e : (decide (t < Tryz.prog.types.size) && Tryz.prog.readableRec t) = true := List.all_eq_true.1 (show ([26, 5] : List TypeId).all (fun t => decide (t < Tryz.prog.types.size) && Tryz.prog.readableRec t) = true by kernel_rfl) t ht; rw [Bool.and_eq_true] at e; exact ⟨e.2, of_decide_eq_true e.1⟩) hK bel hlt
theorem viewscales_holds : Rows.ViewScalesSaid :=
  OpenClaim.holds_of_wide 12 Tryz.f12 rfl rfl rfl rfl rfl rfl rfl ⟨rfl, rfl, rfl, rfl, rfl⟩ rfl rfl rfl rfl rfl (by kernel_rfl) Tryz.func12 (by kernel_rfl)
    (of_decide_eq_true (by kernel_rfl)) (by unfold Func.isWrapper; rw [if_neg (by decide +kernel)]; exact ⟨rfl, rfl⟩)
    (fun os started H enc _ => viewscales_lifted os started H enc)
theorem viewscales_card : Rows.ViewScalesCardSaid :=
  Claim7.holds_tied_plain_at .later [] Rows.viewScalesCard.laidKinds true Rows.viewScalesCard.stood.harness false viewscales_holds (fun _ h => by cases h) (by kernel_rfl) (fun _ h => by cases h) viewScales_row_tie rfl ⟨rfl, rfl⟩ (by kernel_rfl) rfl
    (fun f fn hf hfn => by
      obtain rfl : f = 12 := Option.some.inj ((show Tryz.prog.funcNamed Rows.viewScalesRow.func = some 12 by kernel_rfl).symm.trans hf) |>.symm
      obtain rfl : fn = Tryz.f12 := (Option.some.inj (Tryz.func12.symm.trans hfn)).symm
      exact ⟨by kernel_rfl, fun j t ht => by
        rw [Tryz.params12] at ht
        have hm : t ∈ [26, 5] := by simpa using Array.mem_of_getElem? ht
        have hall : (([26, 5] : List TypeId).all fun u => !Tryz.prog.wantsStandIn u) = true := by kernel_rfl
        exact (show Tryz.prog.wantsStandIn t = false by simpa using List.all_eq_true.1 hall t hm)⟩)
    (by kernel_rfl)
#print axioms viewscales_card

end Go.Proofs.YtppjbnnnppffaaaGreatDoor
