import Derived.Test.YtehdhbnbajfanaaGreatGQ
import Derived.Test.YtehdhbnbajfanaaGreatEL7
import Derived.Test.YtehdhbnbajfanaaGreatGP

/- PlanOrder: for all demands, copies, halls and exchanges the law returns true; no condition. -/
namespace Go.Proofs.YtehdhbnbajfanaaGreat
set_option linter.unusedSimpArgs false
set_option linter.unusedVariables false
open Go.ChangeShapes Go.WideShapes Go.ChangeAt Go.RowKit Go.Deep Go.Sort

set_option maxRecDepth 100000 in
theorem order_lifted (os : Os) (started : os.Started) (H : Type) (enc : TypeId × Value → H) :
    ReturnsInHanded {} Tryz.checked os 9 .any (Rows.planOrderSpec.pre6 enc Tryz.prog Tryz.f9 Rows.planOrderRow.domain false) (Rows.planOrderSpec.post enc Tryz.prog Tryz.f9 false true false false) := by
  refine returnsInHanded_of_change (C := Tryz.checked) ownT started (by kernel_rfl) Tryz.func9
    (ChangeSpec.witness6 (enc := enc) (C := Tryz.checked) false ⟨#[], #[.slice none 0 0, .slice none 0 0, .int .i64 0, .slice none 0 0], []⟩ 8 (by kernel_rfl) (by kernel_rfl) (by kernel_rfl) (by kernel_rfl)) ?_
  intro W base args ds gs before hval0 hW hcnd _
  have hval : ∀ (j : Nat) t v, Tryz.f9.params[j]? = some t → args[j]? = some v → Value.okWide Tryz.prog W .any base t v := hval0
  have hW' := hW
  obtain ⟨p, q, hA0, hV, rfl, hfz, hnd⟩ := hW
  have hA : DataW.TrodAll enc Tryz.prog W 0 (fun _ => true) true Tryz.f9.params.toList args.toList ds p := hA0
  rw [Tryz.params9] at hA hval
  have hK := hA
  obtain ⟨v0, v1, v2, v3, d0, d1, d2, d3, p0, p1, p2, p3, rfl, rfl, h0, h1, h2, h3⟩ := args_4 hA
  obtain ⟨rfl, rfl⟩ := trodVars_none hV
  simp only [List.append_nil] at hW'
  have hlt : ∀ y ∈ p, y.block < W.heap.size := fun y hy => hW'.lt y hy
  obtain ⟨a, cap, ds, rfl, hl, hs, hm, he⟩ := dems_of (hval 0 _ _ rfl rfl) h0; obtain ⟨a1, cap1, cs, rfl, hl1, hs1, hc⟩ := cops_of (hval 1 _ _ rfl rfl) h1; obtain ⟨hall, rfl, rfl, rfl, _⟩ := open_int Tryz.underlying3 (hval 2 _ _ rfl rfl) h2; obtain ⟨a3, cap3, os', rfl, hl3, hi, hos⟩ := u8s_of (hval 3 _ _ rfl rfl) h3
  clear hA0 hval0
  refine (order_law refuses_c a a1 a3 cap cap1 cap3 ds cs hall os' W hl hl1 hl3 he hs hm hs1 hc hi hos).mono fun e W' ⟨he, bel⟩ => ?_
  subst he
  refine ⟨_, rfl, ⟨_, _, _, [], p, [], hW', ?_, ?_, rfl, bel.frame _, fun h => by cases h⟩⟩
  · exact trodAll_mk1 (shut_bool Tryz.underlying4 true)
  · exact trodAll_below laidOutT (fun t ht => by have e : (decide (t < Tryz.prog.types.size) && Tryz.prog.readableRec t) = true := List.all_eq_true.1 (show ([22, 23, 3, 48] : List TypeId).all (fun t => decide (t < Tryz.prog.types.size) && Tryz.prog.readableRec t) = true by kernel_rfl) t ht; rw [Bool.and_eq_true] at e; exact ⟨e.2, of_decide_eq_true e.1⟩) hK bel hlt
theorem order_holds : Rows.PlanOrderSaid :=
  OpenClaim.holds_of_wide 9 Tryz.f9 rfl rfl rfl rfl rfl rfl rfl ⟨rfl, rfl, rfl, rfl, rfl⟩ rfl rfl rfl rfl rfl (by kernel_rfl) Tryz.func9 (by kernel_rfl)
    (of_decide_eq_true (by kernel_rfl)) (by unfold Func.isWrapper; rw [if_neg (by decide +kernel)]; exact ⟨rfl, rfl⟩)
    (fun os started H enc _ => order_lifted os started H enc)
#print axioms order_holds

end Go.Proofs.YtehdhbnbajfanaaGreat
