/- What the rows' condition on package-level variables gives; what the arguments are. -/
import Derived.Test.YtogdhecmecpccaaDoorPitchLaws
import Derived.Test.YtogdhecmecpccaaDoorRowLib
import Derived.LaidMore
import Derived.OpenShut
import Derived.Stop.Joined
import Derived.Stop.LaidErr
import Derived.Lib.LaidTab
import Derived.MakeChecks
namespace Go.Proofs.YtogdhecmecpccaaDoor
set_option linter.unusedSimpArgs false
set_option linter.unusedVariables false
open Go.ChangeShapes Go.WideShapes Go.ChangeAt Go.RowKit Go.Sort
set_option maxRecDepth 100000
def laidL : List (String × DataW Unit) := Rows.pitchBetweenRow.laid
theorem err_star : "*" ++ "errors.errorString" = "*errors.errorString" := by decide
theorem err_row (u : TypeId) (h : Tryd.prog.typeName? 3 u = some "*errors.errorString") : u = 98 :=
  typeName_ptr_named (nm := "errors.errorString") (by rw [err_star]; kernel_rfl) (by kernel_rfl) (by decide) u (by rw [err_star]; exact h)
theorem env_of_laid {W : World} (h : laidMetH Tryd.prog laidL W) : Env W := by
  rw [MakeChecks.laidMetH_plain _ _ _ (by kernel_rfl)] at h
  have h2 := h.tail.tail
  have h3 := h2.tail
  have h4 := h3.tail
  have h5 := h4.tail
  have ht := Lib.tabIs_of_head (P := Tryd.prog) (k := .u64) (zs := Lib.pow10Tab) (g := 4) (t := 110) (e := 82) (n := 20) (by kernel_rfl) (by kernel_rfl) Tryd.underlying110 Tryd.underlying82 (by kernel_rfl) (by kernel_rfl) h2
  obtain ⟨a3, s3, hv3, _⟩ := laid_sentinel h3 (g := 3) (by kernel_rfl) (by kernel_rfl) Tryd.underlying52 err_row Tryd.underlying98 Tryd.underlying100 rfl rfl Tryd.underlying9 (by kernel_rfl) (by kernel_rfl)
  obtain ⟨a4, s4, hv4, _⟩ := laid_sentinel h4 (g := 2) (by kernel_rfl) (by kernel_rfl) Tryd.underlying52 err_row Tryd.underlying98 Tryd.underlying100 rfl rfl Tryd.underlying9 (by kernel_rfl) (by kernel_rfl)
  have hn := Lib.tabIs_of_head (P := Tryd.prog) (k := .i64) (zs := [0, 2, 4, 5, 7, 9, 11]) (g := 0) (t := 59) (e := 3) (n := 7) (by kernel_rfl) (by kernel_rfl) Tryd.underlying59 Tryd.underlying3 (by kernel_rfl) (by kernel_rfl) h5
  refine ⟨fun j hj => ?_, ht, ⟨_, World.var?_cell (show Tryd.prog.globalNamed _ = some 2 by kernel_rfl) hv4 0, .inr ⟨_, _, rfl⟩⟩, ⟨_, World.var?_cell (show Tryd.prog.globalNamed _ = some 3 by kernel_rfl) hv3 0, .inr ⟨_, _, rfl⟩⟩⟩
  have := World.var?_cell (show Tryd.prog.globalNamed _ = some 0 by kernel_rfl) hn j
  rw [this]
  have hj' : j = 0 ∨ j = 1 ∨ j = 2 ∨ j = 3 ∨ j = 4 ∨ j = 5 ∨ j = 6 := by omega
  rcases hj' with rfl | rfl | rfl | rfl | rfl | rfl | rfl <;> rfl
theorem door_met (os : Os) (args : Array Value) : laidMetH Tryd.prog laidL ((World.doorLaid Tryd.prog 67 os).forCall (fun _ _ => 0) ⟨#[], args, []⟩).memory :=
  laidMetH_of_parts3 (fuel := 8) (laidMet_of_run' 8 (by kernel_rfl) (by kernel_rfl)) (by kernel_rfl) (by kernel_rfl)
section
variable {H : Type} {enc : TypeId × Value → H} {w : World} {base : Nat} {spare : Nat → Bool} {held : Bool}
theorem pi_trod {n : Nat} {cs : List Value} {y : DataW H × List MemPlace} (h : DataW.trod enc Tryd.prog w base spare held n 23 cs = some y) : ∃ s a o : Int, cs = [.int .i64 s, .int .i64 a, .int .i64 o] := by
  obtain ⟨xs, n', _, _, hlen, hxl, hg⟩ := DataW.trod_struct Tryd.underlying23 h
  have h5 : cs.length = 3 := hlen.trans (by kernel_rfl)
  have hx5 : xs.length = 3 := hxl
  match cs, h5 with
  | [c0, c1, c2], _ =>
    have g0 := hg 0 _ rfl
    have g1 := hg 1 _ rfl
    have g2 := hg 2 _ rfl
    have hc : Tryd.prog.cellsOf 3 = 1 := by kernel_rfl
    have go : ∀ (c : Value) (z : Option (DataW H × List MemPlace)), (∃ y, z = some y) → DataW.trod enc Tryd.prog w base spare held n' 3 [c] = z → ∃ m, c = .int .i64 m := by
      rintro c _ ⟨y, rfl⟩ hz
      obtain ⟨m, e, _⟩ := DataW.trod_int Tryd.underlying3 hz
      exact ⟨m, by simpa using e⟩
    obtain ⟨m0, rfl⟩ := go c0 _ ⟨_, List.getElem?_eq_getElem (show 0 < xs.length by omega)⟩ (by simpa [hc] using g0)
    obtain ⟨m1, rfl⟩ := go c1 _ ⟨_, List.getElem?_eq_getElem (show 1 < xs.length by omega)⟩ (by simpa [hc] using g1)
    obtain ⟨m2, rfl⟩ := go c2 _ ⟨_, List.getElem?_eq_getElem (show 2 < xs.length by omega)⟩ (by simpa [hc] using g2)
    exact ⟨m0, m1, m2, rfl⟩
theorem pi_of {v : Value} {d : DataW H} {p : List MemPlace} (hv : Value.okWide Tryd.prog w .any base 23 v) (h : DataW.Trod enc Tryd.prog w 0 (fun _ => true) held 23 v d p) : ∃ s a o : Int, v = .agg #[.int .i64 s, .int .i64 a, .int .i64 o] := by
  obtain ⟨cs, rfl, hsz⟩ := okWide_struct Tryd.underlying23 hv
  obtain ⟨fuel, hf⟩ := h
  obtain ⟨s, a, o, e⟩ := pi_trod hf
  refine ⟨s, a, o, ?_⟩
  simp only [Value.cells] at e
  rw [← e]
theorem iv_trod {n : Nat} {cs : List Value} {y : DataW H × List MemPlace} (h : DataW.trod enc Tryd.prog w base spare held n 25 cs = some y) : ∃ x y : Int, cs = [.int .i64 x, .int .i64 y] := by
  obtain ⟨xs, n', _, _, hlen, hxl, hg⟩ := DataW.trod_struct Tryd.underlying25 h
  have h5 : cs.length = 2 := hlen.trans (by kernel_rfl)
  have hx5 : xs.length = 2 := hxl
  match cs, h5 with
  | [c0, c1], _ =>
    have g0 := hg 0 _ rfl
    have g1 := hg 1 _ rfl
    have hc : Tryd.prog.cellsOf 3 = 1 := by kernel_rfl
    have go : ∀ (c : Value) (z : Option (DataW H × List MemPlace)), (∃ y, z = some y) → DataW.trod enc Tryd.prog w base spare held n' 3 [c] = z → ∃ m, c = .int .i64 m := by
      rintro c _ ⟨y, rfl⟩ hz
      obtain ⟨m, e, _⟩ := DataW.trod_int Tryd.underlying3 hz
      exact ⟨m, by simpa using e⟩
    obtain ⟨m0, rfl⟩ := go c0 _ ⟨_, List.getElem?_eq_getElem (show 0 < xs.length by omega)⟩ (by simpa [hc] using g0)
    obtain ⟨m1, rfl⟩ := go c1 _ ⟨_, List.getElem?_eq_getElem (show 1 < xs.length by omega)⟩ (by simpa [hc] using g1)
    exact ⟨m0, m1, rfl⟩
theorem iv_of {v : Value} {d : DataW H} {p : List MemPlace} (hv : Value.okWide Tryd.prog w .any base 25 v) (h : DataW.Trod enc Tryd.prog w 0 (fun _ => true) held 25 v d p) : ∃ x y : Int, v = .agg #[.int .i64 x, .int .i64 y] := by
  obtain ⟨cs, rfl, hsz⟩ := okWide_struct Tryd.underlying25 hv
  obtain ⟨fuel, hf⟩ := h
  obtain ⟨x, y, e⟩ := iv_trod hf
  refine ⟨x, y, ?_⟩
  simp only [Value.cells] at e
  rw [← e]
end

end Go.Proofs.YtogdhecmecpccaaDoor
