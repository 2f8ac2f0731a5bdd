/- What the rows' arguments are: a slice of slices of integers, a slice of integers. -/
import Derived.Test.YtkpgphadgomifaaMatchLaw1
import Derived.Test.YtkpgphadgomifaaRowLib
import Derived.ProofKit
import Derived.Deep.Slices
import Derived.Deep.Fields
import Derived.Deep.Matrix
namespace Go.Proofs.Ytkpgphadgomifaa
set_option linter.unusedSimpArgs false
set_option linter.unusedVariables false
open Go.ChangeShapes Go.WideShapes Go.ChangeAt Go.RowKit Go.Deep Go.Sort
variable {H : Type} {enc : TypeId × Value → H} {w : World} {base : Nat} {spare : Nat → Bool} {held : Bool}

theorem spotM {a : Addr} {n cap : Nat} (hv : Value.okWide Try.prog w .any base 22 (.slice (some a) n cap)) : a.spot = none ∧ n ≤ cap := by
  unfold Value.okWide at hv
  rw [Try.underlying22] at hv
  unfold Cell.okWide at hv
  simp only [Try.underlying22] at hv
  unfold Cell.ok at hv
  simp only [Try.underlying22] at hv
  exact ⟨hv.2.2.2.1, hv.1⟩
theorem spotI {a : Addr} {n cap : Nat} (hv : Value.okWide Try.prog w .any base 23 (.slice (some a) n cap)) : a.spot = none ∧ n ≤ cap := by
  unfold Value.okWide at hv
  rw [Try.underlying23] at hv
  unfold Cell.okWide at hv
  simp only [Try.underlying23] at hv
  unfold Cell.ok at hv
  simp only [Try.underlying23] at hv
  exact ⟨hv.2.2.2.1, hv.1⟩
theorem add_none (b off j : Nat) : (⟨b, off, none⟩ : Addr).add j = ⟨b, off + j, none⟩ := by
  unfold Addr.add
  split
  · rename_i h; subst h; rfl
  · rfl
/-- Cells that hold integers, one by one. -/
theorem in_cells {w : World} {a : Option Addr} {l : List Int} (h : l = [] ∨ ∃ ad, a = some ad ∧ ∀ i (hi : i < l.length), w.cell? (ad.add i) = some (.int .i64 l[i])) : InAt w a l := by
  rcases h with rfl | ⟨ad, rfl, hc⟩
  · exact SlAt.nil _ _ _
  intro i r hr
  obtain ⟨x, hx, rfl⟩ := by
    rw [List.getElem?_map] at hr
    exact Option.map_eq_some_iff.1 hr
  obtain ⟨hi, rfl⟩ := List.getElem?_eq_some_iff.1 hx
  have h0 := hc 0 (by omega)
  have hsp : ad.spot = none := by simpa [Addr.add] using World.cell?_spot h0
  obtain ⟨b, off, sp⟩ := ad
  obtain rfl : sp = none := hsp
  have h1 := hc i hi
  rw [add_none] at h1
  refine ⟨b, off, rfl, World.block_lt_of_cell? _ _ h1, rfl, fun j v hj => ?_⟩
  have : j = 0 := by
    have := (List.getElem?_eq_some_iff.1 hj).1
    simp [inRow] at this; omega
  subst this
  simp [inRow] at hj
  subst hj
  simpa using h1
/-- An argument that is a slice of integers. -/
theorem ints_of {v : Value} {d : DataW H} {p : List MemPlace} (hv : Value.okWide Try.prog w .any base 23 v) (h : DataW.Trod enc Try.prog w 0 (fun _ => true) held 23 v d p) :
    ∃ (a : Option Addr) (cap : Nat) (l : List Int), v = .slice a l.length cap ∧ l.length ≤ 9223372036854775807 ∧ SlOk a l.length cap ∧ InAt w a l := by
  obtain ⟨a0, len0, cap0, rfl⟩ := okWide_slice Try.underlying23 hv
  obtain ⟨fuel, hf⟩ := h
  rcases open_ints Try.underlying23 Try.underlying3 (by kernel_rfl) hf with ⟨hcs, _⟩ | ⟨a, len, cap, zs, hcs, _, hl, hmx, hz, _, hc, _⟩
  · simp [Value.cells] at hcs
    obtain ⟨rfl, rfl, rfl⟩ := hcs
    exact ⟨none, 0, [], rfl, by simp, SlOk.nil, SlAt.nil _ _ _⟩
  · simp [Value.cells] at hcs
    obtain ⟨rfl, rfl, rfl⟩ := hcs
    have hsp := (spotI hv).1
    rw [if_pos rfl] at hz
    have hlen : (zs.take len0).length = len0 := by rw [List.length_take]; omega
    refine ⟨_, cap0, zs.take len0, by rw [hlen], by rw [hlen]; unfold maxLen at hmx; omega, by rw [hlen]; exact ⟨hl, (fun e => by cases e), (fun ad e => by cases e; exact hsp)⟩, in_cells (.inr ⟨_, rfl, fun i hi => ?_⟩)⟩
    rw [hlen] at hi
    have := hc i (by omega)
    rw [this]
    simp [List.getD, show i < zs.length by omega]
/-- An argument that is a slice of slices of integers. -/
theorem mat_of {v : Value} {d : DataW H} {p : List MemPlace} (hv : Value.okWide Try.prog w .any base 22 v) (h : DataW.Trod enc Try.prog w 0 (fun _ => true) held 22 v d p) :
    ∃ (a : Option Addr) (cap : Nat) (c : List (List Int)), v = .slice a c.length cap ∧ c.length ≤ 9223372036854775807 ∧ SlOk a c.length cap ∧ MatAt w a c := by
  obtain ⟨a0, len0, cap0, rfl⟩ := okWide_slice Try.underlying22 hv
  obtain ⟨fuel, hf⟩ := h
  rcases open_int_rows Try.underlying22 Try.underlying23 Try.underlying3 (by kernel_rfl) (by kernel_rfl) hf with ⟨hcs, _⟩ | ⟨a, len, cap, A, L, C, Z, hcs, _, hl, hmx, _, hr⟩
  · simp [Value.cells] at hcs
    obtain ⟨rfl, rfl, rfl⟩ := hcs
    exact ⟨none, 0, [], rfl, by simp, SlOk.nil, [], SlAt.nil _ _ _, rfl, fun i hi => absurd hi (Nat.not_lt_zero _)⟩
  · simp [Value.cells] at hcs
    obtain ⟨rfl, rfl, rfl⟩ := hcs
    have hsp := (spotM hv).1
    obtain ⟨b, off, sp⟩ := a
    obtain rfl : sp = none := hsp
    have hlen : ((List.range len0).map fun r => (Z r).take (L r)).length = len0 := by simp
    have hrow : ∀ r, r < len0 → ((Z r).take (L r)).length = L r := fun r hr0 => by
      obtain ⟨_, h1, _, h2, _⟩ := hr r (by omega)
      rw [List.length_take]; omega
    refine ⟨_, cap0, (List.range len0).map fun r => (Z r).take (L r), by rw [hlen], by rw [hlen]; unfold maxLen at hmx; omega, by rw [hlen]; exact ⟨hl, (fun e => by cases e), (fun ad e => by cases e; rfl)⟩, (List.range len0).map fun r => .slice (A r) (L r) (C r), ?_, by simp, fun i hi => ?_⟩
    · intro i r hr0
      simp only [List.map_map, List.getElem?_map, Option.map_eq_some_iff] at hr0
      obtain ⟨j, hj, rfl⟩ := hr0
      obtain ⟨hj1, hj2⟩ := List.getElem?_eq_some_iff.1 hj
      simp at hj2
      subst hj2
      have hlt : i < len0 := by simpa using hj1
      have h1 := (hr i (by omega)).1
      rw [add_none] at h1
      refine ⟨b, off, rfl, World.block_lt_of_cell? _ _ h1, rfl, fun j v hj => ?_⟩
      have : j = 0 := by
        have := (List.getElem?_eq_some_iff.1 hj).1
        simp at this; omega
      subst this
      simp at hj
      subst hj
      simpa using h1
    · rw [hlen] at hi
      obtain ⟨h1, h2, h3, h4, _, h5, h6⟩ := hr i (by omega)
      refine ⟨A i, C i, ?_, ?_, ?_⟩
      · simp [hi]
        omega
      · simp only [List.getElem_map, List.getElem_range, hrow i hi]
        exact ⟨h2, h5⟩
      · simp only [List.getElem_map, List.getElem_range]
        refine in_cells ?_
        by_cases h0 : L i = 0
        · exact .inl (by rw [h0]; rfl)
        · right
          cases hA : A i with
          | none => have := h5 hA; omega
          | some ad =>
            refine ⟨ad, rfl, fun j hj => ?_⟩
            rw [hrow i hi] at hj
            rw [(h6 ad hA).2 j (by omega)]
            simp [List.getD, show j < (Z i).length by omega]
end Go.Proofs.Ytkpgphadgomifaa
