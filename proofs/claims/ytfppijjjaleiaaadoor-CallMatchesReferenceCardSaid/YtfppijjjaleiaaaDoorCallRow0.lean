
/- What the rows' condition on package-level variables gives; what the arguments are; the row with the world's shape kept. -/
import Derived.Test.YtfppijjjaleiaaaDoorCallHead
import Derived.Test.YtfppijjjaleiaaaDoorRowLib
import Derived.LaidMore
import Derived.OpenShut
import Derived.Stop.Joined
import Derived.Stop.LaidErr
import Derived.Lib.LaidTab
import Derived.MakeChecks
import Derived.HandedShaped
namespace Go.Proofs.YtfppijjjaleiaaaDoor
set_option linter.unusedSimpArgs false
set_option linter.unusedVariables false
open Go.ChangeShapes Go.WideShapes Go.ChangeAt Go.RowKit Go.Sort
set_option maxRecDepth 100000
def laidL : List (String × DataW Unit) := Rows.callBackRow.laid
theorem err_star : "*" ++ "errors.errorString" = "*errors.errorString" := by decide
theorem err_row (u : TypeId) (h : Tryd.prog.typeName? 3 u = some "*errors.errorString") : u = 119 :=
  typeName_ptr_named (nm := "errors.errorString") (by rw [err_star]; kernel_rfl) (by kernel_rfl) (by decide) u (by rw [err_star]; exact h)
theorem env_of_laid {W : World} (h : laidMetH Tryd.prog laidL W) (hs : W.ShapedOpen Tryd.prog) : EnvB W.heap.size W := by
  rw [MakeChecks.laidMetH_plain _ _ _ (by kernel_rfl)] at h
  have h2 := h.tail.tail
  have h3 := h2.tail
  have h4 := h3.tail
  have ht := Lib.tabIs_of_head (P := Tryd.prog) (k := .u64) (zs := Lib.pow10Tab) (g := 1) (t := 105) (e := 38) (n := 20) (by kernel_rfl) (by kernel_rfl) Tryd.underlying105 Tryd.underlying38 (by kernel_rfl) (by kernel_rfl) h2
  obtain ⟨a3, s3, hv3, _⟩ := laid_sentinel h3 (g := 3) (by kernel_rfl) (by kernel_rfl) Tryd.underlying58 err_row Tryd.underlying119 Tryd.underlying121 rfl rfl Tryd.underlying9 (by kernel_rfl) (by kernel_rfl)
  obtain ⟨a4, s4, hv4, _⟩ := laid_sentinel h4 (g := 2) (by kernel_rfl) (by kernel_rfl) Tryd.underlying58 err_row Tryd.underlying119 Tryd.underlying121 rfl rfl Tryd.underlying9 (by kernel_rfl) (by kernel_rfl)
  have hml : ∃ m : Int, W.cell? ⟨0, 0, none⟩ = some (.int .i64 m) := by
    exact Go.Proofs.cell_of_shapedOpen_int (P := Tryd.prog) (g := 0) (t := 3) (zero := #[.int .i64 0]) hs (of_decide_eq_true (by kernel_rfl)) (by kernel_rfl) rfl (by kernel_rfl) (by kernel_rfl) Tryd.underlying3
  have hsy := World.var?_cell (show Tryd.prog.globalNamed _ = some 2 by kernel_rfl) hv4 0
  have hrg := World.var?_cell (show Tryd.prog.globalNamed _ = some 3 by kernel_rfl) hv3 0
  refine ⟨⟨hml, ht, ⟨_, hsy, .inr ⟨_, _, rfl⟩⟩, ⟨_, hrg, .inr ⟨_, _, rfl⟩⟩⟩, ?_, ?_, World.block_lt_of_cell? _ _ hsy, World.block_lt_of_cell? _ _ hrg⟩
  · obtain ⟨m, hm⟩ := hml
    exact World.block_lt_of_cell? _ _ hm
  · have ht' : Lib.TabIs Tryd.prog W powName .u64 Lib.pow10Tab := ht
    unfold Lib.TabIs World.var? at ht'
    rw [pow_named] at ht'
    simp only [Option.bind_some] at ht'
    by_cases hlt : 1 < W.heap.size
    · exact hlt
    · rw [Array.getElem?_eq_none (by omega)] at ht'; cases ht'
theorem door_met (os : Os) (args : Array Value) : laidMetH Tryd.prog laidL ((World.doorLaid Tryd.prog 124 os).forCall (fun _ _ => 0) ⟨#[], args, []⟩).memory :=
  laidMetH_of_parts3 (fuel := 8) (laidMet_of_run' 8 (by kernel_rfl) (by kernel_rfl)) (by kernel_rfl) (by kernel_rfl)
theorem args_1 {H : Type} {enc : TypeId × Value → H} {P : Program} {w : World} {base : Nat} {spare : Nat → Bool} {held : Bool} {t0 : TypeId} {args : Array Value} {ds : List (DataW H)} {ps : List MemPlace} (h : DataW.TrodAll enc P w base spare held [t0] args.toList ds ps) :
    ∃ v0 d0 p0, args = #[v0] ∧ ds = [d0] ∧ DataW.Trod enc P w base spare held t0 v0 d0 p0 := by
  obtain ⟨v0, vs, d0, ds, p0, q0, e, rfl, rfl, h0, r0⟩ := trodAll_cons h
  obtain ⟨rfl, rfl, rfl⟩ := trodAll_nil r0
  exact ⟨v0, d0, p0, by cases args; simp_all, rfl, h0⟩
section
variable {H : Type} {enc : TypeId × Value → H} {w : World} {base : Nat} {spare : Nat → Bool} {held : Bool}
theorem int_trod {n : Nat} {c : Value} {z : DataW H × List MemPlace} (h : DataW.trod enc Tryd.prog w base spare held n 3 [c] = some z) : ∃ m : Int, c = .int .i64 m := by
  obtain ⟨m, e, _⟩ := DataW.trod_int Tryd.underlying3 h
  exact ⟨m, by simpa using e⟩
theorem rat_trod {n : Nat} {cs : List Value} {y : DataW H × List MemPlace} (h : DataW.trod enc Tryd.prog w base spare held n 23 cs = some y) : ∃ x y : Int, cs = [.int .i64 x, .int .i64 y] := by
  obtain ⟨xs, n', _, _, hlen, hxl, hg⟩ := DataW.trod_struct Tryd.underlying23 h
  have h5 : cs.length = 2 := hlen.trans (by kernel_rfl)
  have hx5 : xs.length = 2 := hxl
  match cs, h5 with
  | [c0, c1], _ =>
    have hc : Tryd.prog.cellsOf 3 = 1 := by kernel_rfl
    have g0 : DataW.trod enc Tryd.prog w base spare held n' 3 [c0] = some xs[0] := by
      rw [← List.getElem?_eq_getElem (show 0 < xs.length by omega)]; have := hg 0 _ rfl; simpa [hc] using this
    have g1 : DataW.trod enc Tryd.prog w base spare held n' 3 [c1] = some xs[1] := by
      rw [← List.getElem?_eq_getElem (show 1 < xs.length by omega)]; have := hg 1 _ rfl; simpa [hc] using this
    obtain ⟨m0, rfl⟩ := int_trod g0
    obtain ⟨m1, rfl⟩ := int_trod g1
    exact ⟨m0, m1, rfl⟩
theorem ca_trod {n : Nat} {cs : List Value} {y : DataW H × List MemPlace} (h : DataW.trod enc Tryd.prog w base spare held n 25 cs = some y) : ∃ c : Cl, cs = [.string (mkS c.letter), .int .i64 c.number, .int .i64 c.bars, .int .i64 c.n, .int .i64 c.d, .int .i64 c.pass] := by
  obtain ⟨xs, n', _, _, hlen, hxl, hg⟩ := DataW.trod_struct Tryd.underlying25 h
  have h5 : cs.length = 6 := hlen.trans (by kernel_rfl)
  have hx5 : xs.length = 5 := hxl
  match cs, h5 with
  | [c0, c1, c2, c3, c4, c5], _ =>
    have hc : Tryd.prog.cellsOf 3 = 1 := by kernel_rfl
    have hcs : Tryd.prog.cellsOf 9 = 1 := by kernel_rfl
    have hcr : Tryd.prog.cellsOf 23 = 2 := by kernel_rfl
    have g0 : DataW.trod enc Tryd.prog w base spare held n' 9 [c0] = some xs[0] := by
      rw [← List.getElem?_eq_getElem (show 0 < xs.length by omega)]; have := hg 0 _ rfl; simpa [hcs] using this
    have g1 : DataW.trod enc Tryd.prog w base spare held n' 3 [c1] = some xs[1] := by
      rw [← List.getElem?_eq_getElem (show 1 < xs.length by omega)]; have := hg 1 _ rfl; simpa [hc] using this
    have g2 : DataW.trod enc Tryd.prog w base spare held n' 3 [c2] = some xs[2] := by
      rw [← List.getElem?_eq_getElem (show 2 < xs.length by omega)]; have := hg 2 _ rfl; simpa [hc] using this
    have g3 : DataW.trod enc Tryd.prog w base spare held n' 23 [c3, c4] = some xs[3] := by
      rw [← List.getElem?_eq_getElem (show 3 < xs.length by omega)]; have := hg 3 _ rfl; simpa [hcr] using this
    have g4 : DataW.trod enc Tryd.prog w base spare held n' 3 [c5] = some xs[4] := by
      rw [← List.getElem?_eq_getElem (show 4 < xs.length by omega)]; have := hg 4 _ rfl; simpa [hc] using this
    obtain ⟨s, e0, _⟩ := DataW.trod_string Tryd.underlying9 g0
    obtain ⟨m1, rfl⟩ := int_trod g1
    obtain ⟨m2, rfl⟩ := int_trod g2
    obtain ⟨m3, m4, e3⟩ := rat_trod g3
    obtain ⟨m5, rfl⟩ := int_trod g4
    cases e0; cases e3
    exact ⟨⟨bsS s, m1, m2, m3, m4, m5⟩, by simp [mk_bs]⟩
theorem ca_of {v : Value} {d : DataW H} {p : List MemPlace} (hv : Value.okWide Tryd.prog w .any base 25 v) (h : DataW.Trod enc Tryd.prog w 0 (fun _ => true) held 25 v d p) :
    ∃ c : Cl, v = .agg #[.string (mkS c.letter), .int .i64 c.number, .int .i64 c.bars, .int .i64 c.n, .int .i64 c.d, .int .i64 c.pass] := by
  obtain ⟨cs, rfl, hsz⟩ := okWide_struct Tryd.underlying25 hv
  obtain ⟨fuel, hf⟩ := h
  obtain ⟨c, e⟩ := ca_trod hf
  refine ⟨c, ?_⟩
  simp only [Value.cells] at e
  rw [← e]
/-- The row, with the shape of the first world kept. -/
theorem returnsInHanded_and_shaped {a : Assume} {C : Checked} {os : Os} {f : FuncId} {fn : Func} {s : ChangeSpec} {conds : List PathCond} {apart fresh handsOn again : Bool} {X : World → Array Value → Prop}
    (hX : ∀ (w w' : World) (args : Array Value), w.heap = w'.heap → X w args → X w' args)
    (own : ownKnob C.prog.godebug = none) (started : os.Started) (noInit : C.prog.inits.idxOf? f = none) (hfn : C.prog.funcs[f]? = some fn)
    (witness : ∃ (w : World) (tape : Tape) (i : Input), w.os = os ∧ (w.forCall tape i).Shaped C.prog ∧ i.vars = [] ∧ Input.okWide C.prog (w.forCall tape i) .any w.heap.size f i ∧
      ((s.pre enc C.prog fn conds apart (w.forCall tape i).memory i.args ∧ X (w.forCall tape i).memory i.args) ∧ sizedMet enc C.prog fn (OpenSpec.ofChange s) apart (w.forCall tape i).memory i.args) ∧ a.holds C.prog (lone (Frame.enter C.prog f i.args .normal) [] (w.forCall tape i)))
    (contract : ∀ (W : World) (base : Nat) (args : Array Value) (ds gs : List (DataW H)) (before : List MemPlace), W.ShapedOpen C.prog →
      (∀ (j : Nat) t v, fn.params[j]? = some t → args[j]? = some v → Value.okWide C.prog W .any base t v) →
      DataW.Whole enc C.prog fn.params.toList s.vars apart W args.toList ds gs before → X W args →
      Calls C.prog f args W fun e W' => ∃ v, e = .returned v ∧ s.post enc C.prog fn apart fresh handsOn again W args v W') :
    ReturnsInHanded a C os f .any (fun w args => (s.pre enc C.prog fn conds apart w args ∧ X w args) ∧ sizedMet enc C.prog fn (OpenSpec.ofChange s) apart w args) (s.post enc C.prog fn apart fresh handsOn again) := by
  refine returnsInHanded_of_calls own started noInit witness ?_
  intro w tape i _ hsh _ hok hpre hholds
  obtain ⟨_, _, _, fn', hfn', _, _, _, _, hval⟩ := hok
  have e : fn' = fn := Option.some.inj (hfn'.symm.trans hfn)
  subst e
  obtain ⟨⟨⟨ds, gs, before, hw, hc⟩, hx⟩, hz⟩ := hpre
  have hw' := DataW.Whole.of_heap (w' := w.forCall tape i) (by rfl) hw
  refine (contract (w.forCall tape i) w.heap.size i.args ds gs before hsh hval hw' (hX _ _ _ (by rfl) hx)).mono fun e W' ⟨v, he, hp⟩ => ?_
  subst he
  exact ChangeSpec.post_blind hp
end
end Go.Proofs.YtfppijjjaleiaaaDoor
