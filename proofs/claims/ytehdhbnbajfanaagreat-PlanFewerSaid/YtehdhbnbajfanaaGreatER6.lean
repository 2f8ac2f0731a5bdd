import Derived.Test.YtehdhbnbajfanaaGreatGQ
import Derived.Test.YtehdhbnbajfanaaGreatEL6
import Derived.SizedLaws
import Derived.Test.YtehdhbnbajfanaaGreatGP

/- PlanFewer: for all demands, copies, halls, bytes and a further copy the law returns true; no condition. -/
namespace Go.Proofs.YtehdhbnbajfanaaGreat
set_option linter.unusedSimpArgs false
set_option linter.unusedVariables false
open Go.ChangeShapes Go.WideShapes Go.ChangeAt Go.RowKit Go.Deep Go.Sort

theorem bytesCo : Tryz.prog.bytesOf 44 = 32 := by kernel_rfl
/-- What a slice of copies reads as. -/
theorem cops_size {H : Type} {enc : TypeId × Value → H} {w : World} {held : Bool} {v : Value} {d : DataW H} {p : List MemPlace} (h : DataW.Trod enc Tryz.prog w 0 (fun _ => true) held 23 v d p) :
    (∃ el sp, d = .slice el sp ∧ ∀ a n cap, v = .slice a n cap → el.length = n) ∨ ∀ a n cap, v = .slice a n cap → n = 0 := by
  obtain ⟨fuel, hf⟩ := h
  rcases open_slice Tryz.underlying23 hf with ⟨hcs, _⟩ | ⟨a, len, cap, m, n, D, Pl, hcs, _, hl, hmx, hm, hx, hi⟩
  · right
    rintro a n cap rfl
    simp [Value.cells] at hcs
    exact hcs.2.1
  · left
    simp only [Prod.mk.injEq] at hx
    refine ⟨_, _, hx.1, ?_⟩
    rintro a' n' cap' rfl
    simp [Value.cells] at hcs
    simp [hcs.2.1]
theorem size_le {H : Type} {ts : List TypeId} {d0 d1 d2 d3 d4 : DataW H} {a : Option Addr} {cs : List Co} {cap : Nat} (h : (∃ el sp, d1 = .slice el sp ∧ ∀ a' n cap', Value.slice a cs.length cap = .slice a' n cap' → el.length = n) ∨ ∀ a' n cap', Value.slice a cs.length cap = .slice a' n cap' → n = 0)
    (hsz : (DataW.weightsEach Tryz.prog ([22, 23, 3, 5, 44] ++ ts) ([d0, d1, d2, d3, d4] ++ [])).all (· ≤ reachBytes) = true) : cs.length ≤ 4398046510976 := by
  rcases h with ⟨el, sp, rfl, h⟩ | h
  · have h1 := h a cs.length cap rfl
    have h2 := sized_slice hsz (j := 1) (t := 23) (e := 44) rfl rfl Tryz.underlying23
    rw [bytesCo] at h2
    unfold reachBytes at h2
    omega
  · have := h a cs.length cap rfl
    omega
set_option maxRecDepth 100000 in
theorem fewer_lifted (os : Os) (started : os.Started) (H : Type) (enc : TypeId × Value → H) :
    ReturnsInHanded {} Tryz.checked os 8 .any (Rows.planFewerSpec.pre6 enc Tryz.prog Tryz.f8 Rows.planFewerRow.domain false) (Rows.planFewerSpec.post enc Tryz.prog Tryz.f8 false true false false) := by
  refine returnsInHanded_of_change_sized (C := Tryz.checked) ownT started (by kernel_rfl) Tryz.func8
    (ChangeSpec.witness6 (enc := enc) (C := Tryz.checked) false ⟨#[], #[.slice none 0 0, .slice none 0 0, .int .i64 0, .int .u8 0, .agg #[.int .i64 0, .int .i64 0, .int .i64 0, .int .i64 0]], []⟩ 8 (by kernel_rfl) (by kernel_rfl) (by kernel_rfl) (by kernel_rfl)) ?_
  intro W base args ds gs before hval0 hW hcnd hsz0 _
  have hval : ∀ (j : Nat) t v, Tryz.f8.params[j]? = some t → args[j]? = some v → Value.okWide Tryz.prog W .any base t v := hval0
  have hW' := hW
  obtain ⟨p, q, hA0, hV, rfl, hfz, hnd⟩ := hW
  have hA : DataW.TrodAll enc Tryz.prog W 0 (fun _ => true) true Tryz.f8.params.toList args.toList ds p := hA0
  have hsz : (DataW.weightsEach Tryz.prog (Tryz.f8.params.toList ++ Rows.planFewerSpec.plain.varTypes Tryz.prog) (ds ++ gs)).all (· ≤ reachBytes) = true := hsz0
  rw [Tryz.params8] at hA hval hsz
  have hK := hA
  obtain ⟨v0, v1, v2, v3, v4, d0, d1, d2, d3, d4, p0, p1, p2, p3, p4, rfl, rfl, h0, h1, h2, h3, h4⟩ := args_5 hA
  obtain ⟨rfl, rfl⟩ := trodVars_none hV
  simp only [List.append_nil] at hW'
  have hlt : ∀ y ∈ p, y.block < W.heap.size := fun y hy => hW'.lt y hy
  obtain ⟨a, cap, ds, rfl, hl, hs, hm, he⟩ := dems_of (hval 0 _ _ rfl rfl) h0; have hd1 := cops_size h1; obtain ⟨a1, cap1, cs, rfl, hl1, hs1, hc⟩ := cops_of (hval 1 _ _ rfl rfl) h1; obtain ⟨hall, rfl, rfl, rfl, _⟩ := open_int Tryz.underlying3 (hval 2 _ _ rfl rfl) h2; obtain ⟨x, rfl, rfl, rfl, w3⟩ := open_int Tryz.underlying5 (hval 3 _ _ rfl rfl) h3; obtain ⟨w4, w5⟩ := wf_u8 w3; obtain ⟨y, rfl⟩ : ∃ y : Nat, x = y := ⟨x.toNat, by omega⟩; obtain ⟨z, rfl⟩ := cop_of (hval 4 _ _ rfl rfl) h4; have hcl := size_le hd1 hsz
  clear hA0 hval0 hsz0
  refine (fewer_law refuses_c a a1 cap cap1 ds cs hall y z W hl hcl he (by omega) hm hc hs1).mono fun e W' ⟨he, bel⟩ => ?_
  subst he
  refine ⟨_, rfl, ⟨_, _, _, [], p, [], hW', ?_, ?_, rfl, bel.frame _, fun h => by cases h⟩⟩
  · exact trodAll_mk1 (shut_bool Tryz.underlying4 true)
  · exact trodAll_below laidOutT (fun t ht => by have e : (decide (t < Tryz.prog.types.size) && Tryz.prog.readableRec t) = true := List.all_eq_true.1 (show ([22, 23, 3, 5, 44] : List TypeId).all (fun t => decide (t < Tryz.prog.types.size) && Tryz.prog.readableRec t) = true by kernel_rfl) t ht; rw [Bool.and_eq_true] at e; exact ⟨e.2, of_decide_eq_true e.1⟩) hK bel hlt
theorem fewer_holds : Rows.PlanFewerSaid :=
  OpenClaim.holds_of_wide 8 Tryz.f8 rfl rfl rfl rfl rfl rfl rfl ⟨rfl, rfl, rfl, rfl, rfl⟩ rfl rfl rfl rfl rfl (by kernel_rfl) Tryz.func8 (by kernel_rfl)
    (of_decide_eq_true (by kernel_rfl)) (by unfold Func.isWrapper; rw [if_neg (by decide +kernel)]; exact ⟨rfl, rfl⟩)
    (fun os started H enc _ => fewer_lifted os started H enc)
#print axioms fewer_holds

end Go.Proofs.YtehdhbnbajfanaaGreat
