/- What the rows' arguments are: a slice of loans, a loan, numbers. -/
import Derived.Test.YtokhligpjbdhcaaLoanLaw1
import Derived.Test.YtokhligpjbdhcaaRowLib
import Derived.ProofKit
import Derived.Deep.Slices
import Derived.Deep.Fields
namespace Go.Proofs.Ytokhligpjbdhcaa
set_option linter.unusedSimpArgs false
set_option linter.unusedVariables false
open Go.ChangeShapes Go.WideShapes Go.ChangeAt Go.RowKit Go.Deep Go.Sort
variable {H : Type} {enc : TypeId × Value → H} {w : World} {base : Nat} {spare : Nat → Bool} {held : Bool}

theorem take1 (cs : List Value) (j : Nat) (hj : j < cs.length) : (cs.drop j).take 1 = [cs[j]] := by
  rw [List.drop_eq_getElem_cons hj]; rfl
instance : Inhabited Lo := ⟨lo0⟩
/-- A loan's cells. -/
theorem loan_of_trod {n : Nat} {cs : List Value} {y : DataW H × List MemPlace} (h : DataW.trod enc Try.prog w base spare held n 24 cs = some y) : ∃ x : Lo, cs = x.cells := by
  obtain ⟨xs, n', _, _, hlen, hxl, hg⟩ := DataW.trod_struct Try.underlying24 h
  have h5 : cs.length = 5 := hlen.trans (by kernel_rfl)
  have hx5 : xs.length = 5 := hxl
  match cs, h5 with
  | [c0, c1, c2, c3, c4], _ =>
    have g0 := hg 0 _ rfl
    have g1 := hg 1 _ rfl
    have g2 := hg 2 _ rfl
    have g3 := hg 3 _ rfl
    have g4 := hg 4 _ rfl
    have hc : Try.prog.cellsOf 3 = 1 := by kernel_rfl
    have go : ∀ (c : Value) (z : Option (DataW H × List MemPlace)), (∃ y, z = some y) → DataW.trod enc Try.prog w base spare held n' 3 [c] = z → ∃ m, c = .int .i64 m := by
      rintro c _ ⟨y, rfl⟩ hz
      obtain ⟨m, e, _⟩ := DataW.trod_int Try.underlying3 hz
      exact ⟨m, by simpa using e⟩
    obtain ⟨m0, rfl⟩ := go c0 _ ⟨_, List.getElem?_eq_getElem (show 0 < xs.length by omega)⟩ (by simpa [hc] using g0)
    obtain ⟨m1, rfl⟩ := go c1 _ ⟨_, List.getElem?_eq_getElem (show 1 < xs.length by omega)⟩ (by simpa [hc] using g1)
    obtain ⟨m2, rfl⟩ := go c2 _ ⟨_, List.getElem?_eq_getElem (show 2 < xs.length by omega)⟩ (by simpa [hc] using g2)
    obtain ⟨m3, rfl⟩ := go c3 _ ⟨_, List.getElem?_eq_getElem (show 3 < xs.length by omega)⟩ (by simpa [hc] using g3)
    obtain ⟨m4, rfl⟩ := go c4 _ ⟨_, List.getElem?_eq_getElem (show 4 < xs.length by omega)⟩ (by simpa [hc] using g4)
    exact ⟨⟨m0, m1, m2, m3, m4⟩, rfl⟩

theorem spot_of {a : Addr} {n cap : Nat} (hv : Value.okWide Try.prog w .any base 22 (.slice (some a) n cap)) : a.spot = none ∧ n ≤ cap := by
  unfold Value.okWide at hv
  rw [Try.underlying22] at hv
  unfold Cell.okWide at hv
  simp only [Try.underlying22] at hv
  unfold Cell.ok at hv
  simp only [Try.underlying22] at hv
  exact ⟨hv.2.2.2.1, hv.1⟩

/-- An argument that is a slice of loans. -/
theorem slo_of {v : Value} {d : DataW H} {p : List MemPlace} (hv : Value.okWide Try.prog w .any base 22 v) (h : DataW.Trod enc Try.prog w 0 (fun _ => true) held 22 v d p) :
    ∃ (a : Option Addr) (n cap : Nat) (l : List Lo), v = .slice a n cap ∧ n = l.length ∧ n ≤ 9223372036854775807 ∧ SlOk a n cap ∧ LoAt w a l := by
  obtain ⟨a0, len0, cap0, rfl⟩ := okWide_slice Try.underlying22 hv
  obtain ⟨fuel, hf⟩ := h
  rcases open_slice Try.underlying22 hf with ⟨hcs, _⟩ | ⟨a, len, cap, m, n, D, Pl, hcs, _, hl, hmx, hm, _, hi⟩
  · simp [Value.cells] at hcs
    obtain ⟨rfl, rfl, rfl⟩ := hcs
    exact ⟨none, 0, 0, [], rfl, rfl, by omega, SlOk.nil, SlAt.nil _ _ _⟩
  · simp [Value.cells] at hcs
    obtain ⟨rfl, rfl, rfl⟩ := hcs
    have hsp := (spot_of hv).1
    obtain ⟨b, off, sp⟩ := a
    obtain rfl : sp = none := hsp
    have hC : Try.prog.cellsOf 24 = 5 := by kernel_rfl
    rw [if_pos rfl] at hm
    have hx : ∀ i, i < len0 → ∃ x : Lo, w.cells? 0 ((⟨b, off, none⟩ : Addr).add (i * 5)) 5 = some x.cells := by
      intro i hlt
      obtain ⟨cs', h1, h2⟩ := hi i (by omega)
      obtain ⟨x, rfl⟩ := loan_of_trod h2
      exact ⟨x, by rw [hC] at h1; exact h1⟩
    obtain ⟨f, hf2⟩ := choose_lt (α := Lo) hx
    refine ⟨_, len0, cap0, (List.range len0).map f, rfl, by simp, by unfold maxLen at hmx; omega, ⟨hl, (fun e => by cases e), (fun ad e => by cases e; rfl)⟩, ?_⟩
    intro i r hr
    simp only [List.map_map, List.getElem?_map, Option.map_eq_some_iff] at hr
    obtain ⟨j, hj, rfl⟩ := hr
    obtain ⟨hj1, hj2⟩ := List.getElem?_eq_some_iff.1 hj
    simp at hj2
    subst hj2
    have hlt : i < len0 := by simpa using hj1
    obtain ⟨_, _, hc⟩ := World.cells?_some (hf2 i hlt)
    have hcell : ∀ j u, (f i).cells[j]? = some u → w.cell? ⟨b, off + i * 5 + j, none⟩ = some u := by
      intro j u hu
      have hj5 : j < 5 := (List.getElem?_eq_some_iff.1 hu).1
      have := (hc j hj5).trans hu
      rw [Go.Deep.add_add] at this
      unfold Addr.add at this
      split at this
      · rename_i h0
        have e : off = off + i * 5 + j := by omega
        rw [← e]; exact this
      · rw [show off + i * 5 + j = off + (i * 5 + j) by omega]; exact this
    exact ⟨b, off, rfl, World.block_lt_of_cell? _ _ (hcell 0 _ rfl), rfl, hcell⟩
theorem lo_of {H : Type} {enc : TypeId × Value → H} {w : World} {base : Nat} {held : Bool} {v : Value} {d : DataW H} {p : List MemPlace} (hv : Value.okWide Try.prog w .any base 24 v) (h : DataW.Trod enc Try.prog w 0 (fun _ => true) held 24 v d p) : ∃ x : Lo, v = .agg x.cells.toArray := by
  obtain ⟨cs, rfl, hsz⟩ := okWide_struct Try.underlying24 hv
  obtain ⟨fuel, hf⟩ := h
  obtain ⟨x, e⟩ := loan_of_trod hf
  refine ⟨x, ?_⟩
  simp only [Value.cells] at e
  rw [← e]

end Go.Proofs.Ytokhligpjbdhcaa
