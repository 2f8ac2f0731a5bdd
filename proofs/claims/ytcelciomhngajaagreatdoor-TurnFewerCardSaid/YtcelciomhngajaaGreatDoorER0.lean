import Derived.Test.YtcelciomhngajaaGreatDoorSA
import Derived.Test.YtcelciomhngajaaGreatDoorSP
import Derived.Test.YtcelciomhngajaaGreatDoorTC
import Derived.LaidMore
import Derived.OpenShut
import Derived.Stop.Joined
import Derived.Lib.LaidTab
import Derived.MakeChecks

/- The rows of layer 25: what the condition on package-level variables gives; what the arguments are. -/
namespace Go.Proofs.YtcelciomhngajaaGreatDoor
set_option linter.unusedSimpArgs false
set_option linter.unusedVariables false
open Go.ChangeShapes Go.WideShapes Go.ChangeAt Go.RowKit Go.Sort Go.Deep
set_option maxRecDepth 100000
def laidL : List (String × DataW Unit) := Rows.turnSameRow.laid
theorem env_of_laid {W : World} (h : laidMetH Tryz.prog laidL W) : Env W := by
  rw [MakeChecks.laidMetH_plain _ _ _ (by kernel_rfl)] at h
  have hn := Lib.tabIs_of_head (P := Tryz.prog) (k := .i64) (zs := [0, 2, 4, 5, 7, 9, 11]) (g := 0) (t := 213) (e := 3) (n := 7) (by kernel_rfl) (by kernel_rfl) Tryz.underlying213 Tryz.underlying3 (by kernel_rfl) (by kernel_rfl) h
  refine ⟨fun j hj => ?_⟩
  have := World.var?_cell (show Tryz.prog.globalNamed _ = some 0 by kernel_rfl) hn j
  rw [this]
  have hj' : j = 0 ∨ j = 1 ∨ j = 2 ∨ j = 3 ∨ j = 4 ∨ j = 5 ∨ j = 6 := by omega
  rcases hj' with rfl | rfl | rfl | rfl | rfl | rfl | rfl <;> rfl
theorem door_met (os : Os) (args : Array Value) : laidMetH Tryz.prog laidL ((World.doorLaid Tryz.prog 240 os).forCall (fun _ _ => 0) ⟨#[], args, []⟩).memory :=
  laidMetH_of_parts3 (fuel := 8) (laidMet_of_run' 8 (by kernel_rfl) (by kernel_rfl)) (by kernel_rfl) (by kernel_rfl)
variable {H : Type} {enc : TypeId × Value → H} {w : World} {base : Nat} {spare : Nat → Bool} {held : Bool}
theorem te_trod {n : Nat} {cs : List Value} {y : DataW H × List MemPlace} (h : DataW.trod enc Tryz.prog w base spare held n 70 cs = some y) : ∃ x : Te, cs = x.cells := by
  obtain ⟨xs, n', _, hy, hlen, hxl, hg⟩ := DataW.trod_struct Tryz.underlying70 h
  have h5 : cs.length = 3 := hlen.trans (by kernel_rfl)
  have hx5 : xs.length = 2 := hxl
  match cs, h5 with
  | [c0, c1, c2], _ =>
    have hc_int : Tryz.prog.cellsOf 3 = 1 := by kernel_rfl
    have hc_rat : Tryz.prog.cellsOf 32 = 2 := by kernel_rfl
    have g0 : DataW.trod enc Tryz.prog w base spare held n' 3 [c0] = some xs[0] := by
      rw [← List.getElem?_eq_getElem (show 0 < xs.length by omega)]
      have := hg 0 _ rfl
      simpa [hc_int, hc_rat] using this
    have g1 : DataW.trod enc Tryz.prog w base spare held n' 32 [c1, c2] = some xs[1] := by
      rw [← List.getElem?_eq_getElem (show 1 < xs.length by omega)]
      have := hg 1 _ rfl
      simpa [hc_int, hc_rat] using this
    obtain ⟨m0, e0⟩ := int_trod g0
    obtain ⟨m1, e1⟩ := rt_trod g1
    cases e0
    simp only [Rt.cells, List.cons.injEq, and_true] at e1
    obtain ⟨rfl, rfl⟩ := e1
    exact ⟨⟨m0, m1⟩, rfl⟩
theorem tes_trod {n : Nat} {cs : List Value} {y : DataW H × List MemPlace} (h : DataW.trod enc Tryz.prog w 0 spare held n 27 cs = some y) (hsp : ∀ b, spare b = true) :
    ∃ (a : Option Addr) (cap : Nat) (l : List Te), cs = [.slice a l.length cap] ∧ SlAt w a 3 (l.map Te.cells) := by
  rcases open_slice Tryz.underlying27 h with ⟨rfl, _⟩ | ⟨a, len, cap, m, n', D, Pl, rfl, _, hl, hmx, hm, hy, hi⟩
  · exact ⟨none, 0, [], rfl, SlAt.nil _ _ _⟩
  · have hC : Tryz.prog.cellsOf 70 = 3 := by kernel_rfl
    rw [hsp, if_pos rfl] at hm
    obtain ⟨l, rfl, h1, h2⟩ := rows_of (w := w) (a := a) (n := len) (α := Te) (cells := Te.cells) (k := 3) (Q := fun x => True) (fun _ => rfl) (by decide) fun i hlt => by
      obtain ⟨cs', k1, k2⟩ := hi i (by omega)
      obtain ⟨x, rfl⟩ := te_trod k2
      exact ⟨x, by rw [hC] at k1; exact k1, trivial⟩
    exact ⟨_, cap, l, rfl, h1⟩
theorem tempos_of {v : Value} {d : DataW H} {p : List MemPlace} (hv : Value.okWide Tryz.prog w .any base 27 v) (h : DataW.Trod enc Tryz.prog w 0 (fun _ => true) held 27 v d p) :
    ∃ (a : Option Addr) (cap : Nat) (l : List Te), v = .slice a l.length cap ∧ TeAt w a l := by
  obtain ⟨a0, len0, cap0, rfl⟩ := okWide_slice Tryz.underlying27 hv
  obtain ⟨fuel, hf⟩ := h
  obtain ⟨a, cap, l, e, h3⟩ := tes_trod hf fun _ => rfl
  simp [Value.cells] at e
  obtain ⟨rfl, rfl, rfl⟩ := e
  exact ⟨a0, cap0, l, rfl, h3⟩
theorem rat_of {v : Value} {d : DataW H} {p : List MemPlace} (hv : Value.okWide Tryz.prog w .any base 32 v) (h : DataW.Trod enc Tryz.prog w 0 (fun _ => true) held 32 v d p) : ∃ x : Rt, v = .agg #[.int .i64 x.n, .int .i64 x.d] := by
  obtain ⟨cs, rfl, hsz⟩ := okWide_struct Tryz.underlying32 hv
  obtain ⟨fuel, hf⟩ := h
  obtain ⟨x, e⟩ := rt_trod hf
  simp only [Value.cells] at e
  exact ⟨x, by rw [show (#[.int .i64 x.n, .int .i64 x.d] : Array Value) = x.cells.toArray from rfl, ← e]⟩
end Go.Proofs.YtcelciomhngajaaGreatDoor

