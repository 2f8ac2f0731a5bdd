
/- What a call's functions ask of the package-level variables; the library's number and text contracts with it. -/
import Derived.Test.YtfppijjjaleiaaaDoorCallLay
import Derived.Test.YtfppijjjaleiaaaDoorCallStr
import Derived.Test.YtfppijjjaleiaaaDoorCallPure2
import Derived.Test.YtfppijjjaleiaaaDoorCallPure3
import Derived.Test.YtfppijjjaleiaaaDoorLib2
import Derived.Test.YtfppijjjaleiaaaDoorRegLib
import Derived.IntWalk
namespace Go.Proofs.YtfppijjjaleiaaaDoor
set_option linter.unusedSimpArgs false
set_option linter.unusedVariables false
open Go.RowKit Go.Sort

/-- The name of the table of powers of ten, off the row. -/
def powName : String := ((Rows.callBackRow.laid.map Prod.fst).getD 2 default)
theorem pow_named : Tryd.prog.globalNamed powName = some 1 := by kernel_rfl
theorem var_below {P : Program} {w w' : World} {n : String} {g : Nat} {cs : Array Value} (h : w.var? P n = some cs) (hg : P.globalNamed n = some g) (hb : Below w.heap.size w w') : w'.var? P n = some cs := by
  unfold World.var? at *
  rw [hg] at h ⊢
  simp only [Option.bind_some] at h ⊢
  have hlt : g < w.heap.size := by
    by_cases hlt : g < w.heap.size
    · exact hlt
    · rw [Array.getElem?_eq_none (by omega)] at h; cases h
  rw [hb.block g hlt]; exact h
/-- What lies in memory of the package-level variables that are read. -/
structure Env (w : World) : Prop where
  ml : ∃ m : Int, w.cell? ⟨0, 0, none⟩ = some (.int .i64 m)
  tab : Lib.TabIs Tryd.prog w powName .u64 Lib.pow10Tab
  syn : ∃ ev, w.cell? ⟨2, 0, none⟩ = some ev ∧ (ev = .nilIface ∨ ∃ te pe, ev = .iface te pe)
  rng : ∃ ev, w.cell? ⟨3, 0, none⟩ = some ev ∧ (ev = .nilIface ∨ ∃ te pe, ev = .iface te pe)
/-- What lies ahead of block B, lies on. -/
theorem Env.below {w w' : World} (h : Env w) (hb : Below w.heap.size w w') : Env w' := by
  refine ⟨?_, var_below h.tab pow_named hb, ?_, ?_⟩
  · obtain ⟨m, h1⟩ := h.ml
    exact ⟨m, (hb.cell (p := ⟨_, 0, none⟩) (World.block_lt_of_cell? _ _ h1)).trans h1⟩
  · obtain ⟨ev, h1, h2⟩ := h.syn
    exact ⟨ev, (hb.cell (p := ⟨_, 0, none⟩) (World.block_lt_of_cell? _ _ h1)).trans h1, h2⟩
  · obtain ⟨ev, h1, h2⟩ := h.rng
    exact ⟨ev, (hb.cell (p := ⟨_, 0, none⟩) (World.block_lt_of_cell? _ _ h1)).trans h1, h2⟩
theorem itoa_any (n : Int) (w : World) (h0 : -9223372036854775808 ≤ n) (h1 : n ≤ 9223372036854775807) (hE : Env w) :
    Calls Tryd.prog 31 #[.int .i64 n] w fun e w' => e = .returned (.string (mkS (Lib.itoa n))) ∧ Below w.heap.size w w' := by
  refine (Any.strconv_Itoa Lay.pM171 n h0 h1 w hE.tab).mono ?_
  rintro e w' ⟨he, k, os, rfl⟩
  exact ⟨he, (below_drewN w k).trans (below_regrown (w.drewN k) _ os)⟩
/-- strconv.Atoi at whatever short string: a number and no error, or an error. -/
def AtoiPost (x : ByteArray) (w : World) (e : Ending) (w' : World) : Prop :=
  ∃ (n : Int) (ev : Value), e = .returned (.tuple #[.int .i64 n, ev]) ∧ Below w.heap.size w w' ∧ (ev = .nilIface ∧ Lib.atoiAll (bsS x) = .ok n ∨ (∃ t a, ev = .iface t (.pointer (some a))) ∧ ∀ v, Lib.atoiAll (bsS x) ≠ .ok v)
theorem atoi_any (x : ByteArray) (w : World) (hx : x.size ≤ 1000) (hE : Env w) : Calls Tryd.prog 59 #[.string x] w (AtoiPost x w) := by
  rcases h : Lib.atoiAll x.data.toList with v | _ | _
  · refine (Any.strconv_Atoi_ok Lay.pC172 x (by omega) v h w).mono ?_
    rintro e w' ⟨he, hw⟩
    refine ⟨v, _, he, ?_, .inl ⟨rfl, h⟩⟩
    rcases hw with rfl | ⟨t, rfl⟩
    · exact Below.refl _ _
    · exact Lib.bytesWorld_below w _ t
  · obtain ⟨ev, h1, h2⟩ := hE.syn
    refine (Any.strconv_Atoi_syntax Lay.pC172 x (by omega) h ev w h1 h2).mono ?_
    rintro e w' ⟨N, he, _, _, hb⟩
    exact ⟨_, _, he, hb, .inr ⟨⟨_, _, rfl⟩, fun v hv => by rw [bsS, h] at hv; cases hv⟩⟩
  · obtain ⟨ev, h1, h2⟩ := hE.rng
    refine (Any.strconv_Atoi_range Lay.pC172 x (by omega) h ev w h1 h2).mono ?_
    rintro e w' ⟨N, he, _, _, hb⟩
    exact ⟨_, _, he, hb, .inr ⟨⟨_, _, rfl⟩, fun v hv => by rw [bsS, h] at hv; cases hv⟩⟩
theorem cut_any (s : ByteArray) (w : World) (hs : s.size ≤ 1000) (hE : Env w) : Calls Tryd.prog 44 #[.string s, .string ⟨#[47]⟩] w fun e w' =>
    e = .returned (.tuple #[.string (mkS (cutP (bsS s)).1), .string (mkS ((cutP (bsS s)).2.getD [])), .bool (cutP (bsS s)).2.isSome]) ∧ Below w.heap.size w w' := by
  obtain ⟨m, hm⟩ := hE.ml
  refine (Any.strings_Cut Lay.p145 s ⟨#[47]⟩ m w (by omega) hm).mono ?_
  rintro e w' ⟨rfl, n, rfl⟩
  refine ⟨?_, below_drewN w n⟩
  have := cut_slash (bsS s)
  rw [show (⟨#[47]⟩ : ByteArray).data.toList = [47] from rfl, show s.data.toList = bsS s from rfl, this]
  rfl
end Go.Proofs.YtfppijjjaleiaaaDoor
