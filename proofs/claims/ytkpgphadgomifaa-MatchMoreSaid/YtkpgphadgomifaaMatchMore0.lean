/- More columns, a lesser cost: plain laws; rows that a law has made. -/
import Derived.Test.YtkpgphadgomifaaMatchLaw3
namespace Go.Proofs.Ytkpgphadgomifaa
set_option linter.unusedSimpArgs false
set_option linter.unusedVariables false
open Go.RowKit Go.Sort Go.Shelf

theorem cc_row {c : List (List Int)} {i k : Nat} (hi : i < c.length) : cc c i k = (c[i]).getD k (-1) := by simp [cc, List.getD, hi]
/-- Every cost is one that costs may hold: no error. -/
theorem form_of {c : List (List Int)} {n : Nat} (h1 : c.length ≤ 200) (h2 : n ≤ 200) (h3 : ∀ i (hi : i < c.length), (c[i]).length = n ∧ ∀ k (hk : k < (c[i]).length), -1 ≤ (c[i])[k] ∧ (c[i])[k] ≤ 1000000) : formE c = 0 ∧ (0 < c.length → wideL c = n) := by
  have hw : 0 < c.length → wideL c = n := fun h0 => by
    cases c with
    | nil => simp at h0
    | cons x c => exact (h3 0 (by simp)).1
  refine ⟨form_ok h1 ?_ fun i hi => ?_, hw⟩
  · rw [List.any_eq_false]
    intro x hx
    obtain ⟨i, hi, rfl⟩ := List.mem_iff_getElem.1 hx
    have := (h3 i hi).1
    simp; omega
  · obtain ⟨h4, h5⟩ := h3 i hi
    simp only [rowOk, Bool.and_eq_true, decide_eq_true_eq, List.all_eq_true, costOk]
    refine ⟨by rw [hw (by omega)]; exact h4, fun x hx => ?_⟩
    obtain ⟨k, hk, rfl⟩ := List.mem_iff_getElem.1 hx
    exact h5 k hk
/-- Costs d are no greater where c holds one: the best of d costs no more. -/
theorem better {c d : List (List Int)} {f : Nat → Nat} (hl : d.length = c.length) (hw : wideL c ≤ wideL d) (hf : Mt (may (cc c)) (fun i => i < c.length) (wideL c) f) (h : ∀ i k, i < c.length → k < wideL c → 0 ≤ cc c i k → 0 ≤ cc d i k ∧ cc d i k ≤ cc c i k) :
    Mt (may (cc d)) (fun i => i < d.length) (wideL d) f ∧ costOf (cc d) d.length f ≤ costOf (cc c) c.length f := by
  have hp : ∀ i, i < c.length → 0 ≤ cc d i (f i) ∧ cc d i (f i) ≤ cc c i (f i) := fun i hi => h i (f i) hi (hf.lt i hi) ((may_iff _ _ _).1 (hf.can i hi))
  refine ⟨⟨fun i hi => ?_, fun i hi => ?_, fun i j hi hj e => ?_⟩, ?_⟩
  · have := hf.lt i (by show i < c.length; omega)
    omega
  · exact (may_iff _ _ _).2 (hp i (by omega)).1
  · exact hf.inj i j (by show i < c.length; omega) (by show j < c.length; omega) e
  · unfold costOf
    rw [hl]
    exact sumN_le fun i hi => (hp i hi).2
/-- The cost of the further column. -/
def ext (col : List Int) (i : Nat) : Int := if h : i < col.length then max (-1) (min col[i] 1000000) else -1
theorem ext_ok (col : List Int) (i : Nat) : -1 ≤ ext col i ∧ ext col i ≤ 1000000 := by
  unfold ext; split <;> omega
def wideC (c : List (List Int)) (col : List Int) : List (List Int) := (List.range c.length).map fun i => c.getD i [] ++ [ext col i]
theorem wideC_len (c : List (List Int)) (col : List Int) : (wideC c col).length = c.length := by simp [wideC]
theorem wideC_get {c : List (List Int)} {col : List Int} {i : Nat} (hi : i < c.length) : (wideC c col)[i]'(by rw [wideC_len]; exact hi) = c[i] ++ [ext col i] := by simp [wideC, List.getD, hi]
theorem wideC_all {c : List (List Int)} {col : List Int} (he : formE c = 0) (hp : 0 < c.length) (h7 : c.length ≤ 7) (h8 : wideL c ≤ 8) : formE (wideC c col) = 0 ∧ wideL (wideC c col) = wideL c + 1 ∧ ∀ i k, i < c.length → k < wideL c → cc (wideC c col) i k = cc c i k := by
  obtain ⟨f1, f2, f3, f4⟩ := formE_ok he
  have h := form_of (c := wideC c col) (n := wideL c + 1) (by rw [wideC_len]; omega) (by omega) (fun i hi => by
    rw [wideC_len] at hi
    rw [wideC_get hi]
    refine ⟨by rw [List.length_append, f3 _ (List.getElem_mem hi)]; rfl, fun k hk => ?_⟩
    rw [List.getElem_append]
    split
    · exact f4 _ (List.getElem_mem hi) _ (List.getElem_mem _)
    · simp; exact ext_ok _ _)
  refine ⟨h.1, h.2 (by rw [wideC_len]; exact hp), fun i k hi hk => ?_⟩
  have hl := f3 _ (List.getElem_mem hi)
  rw [cc_row (by rw [wideC_len]; exact hi), wideC_get hi, cc_row hi]
  simp only [List.getD]
  rw [List.getElem?_append_left (by omega)]
/-- One cost less. -/
def half (x : Int) : Int := max 0 (x.tdiv 2)
theorem half_ok {x : Int} (h1 : -1 ≤ x) (h2 : x ≤ 1000000) : 0 ≤ half x ∧ half x ≤ 1000000 ∧ (0 ≤ x → half x ≤ x) := by
  unfold half
  by_cases h : 0 ≤ x
  · rw [Int.tdiv_eq_ediv_of_nonneg h]; omega
  · have : x = -1 := by omega
    subst this
    decide
def lessC (c : List (List Int)) (i0 k0 : Nat) : List (List Int) := (List.range c.length).map fun i => if i = i0 then (c.getD i []).set k0 (half (cc c i0 k0)) else c.getD i []
theorem lessC_len (c : List (List Int)) (i0 k0 : Nat) : (lessC c i0 k0).length = c.length := by simp [lessC]
theorem lessC_get {c : List (List Int)} {i0 k0 i : Nat} (hi : i < c.length) : (lessC c i0 k0)[i]'(by rw [lessC_len]; exact hi) = if i = i0 then (c[i]).set k0 (half (cc c i0 k0)) else c[i] := by simp [lessC, List.getD, hi]
theorem lessC_all {c : List (List Int)} {i0 k0 : Nat} (he : formE c = 0) (hi0 : i0 < c.length) (hk0 : k0 < wideL c) : formE (lessC c i0 k0) = 0 ∧ wideL (lessC c i0 k0) = wideL c ∧ ∀ i k, i < c.length → k < wideL c → 0 ≤ cc c i k → 0 ≤ cc (lessC c i0 k0) i k ∧ cc (lessC c i0 k0) i k ≤ cc c i k := by
  obtain ⟨f1, f2, f3, f4⟩ := formE_ok he
  obtain ⟨x1, x2⟩ := cc_le f3 f4 i0 k0 hi0 hk0
  obtain ⟨y1, y2, y3⟩ := half_ok x1 x2
  have h := form_of (c := lessC c i0 k0) (n := wideL c) (by rw [lessC_len]; exact f1) f2 (fun i hi => by
    rw [lessC_len] at hi
    rw [lessC_get hi]
    have hl := f3 _ (List.getElem_mem hi)
    split
    · refine ⟨by rw [List.length_set]; exact hl, fun k hk => ?_⟩
      rw [List.getElem_set]
      split
      · omega
      · exact f4 _ (List.getElem_mem hi) _ (List.getElem_mem _)
    · exact ⟨hl, fun k hk => f4 _ (List.getElem_mem hi) _ (List.getElem_mem _)⟩)
  refine ⟨h.1, h.2 (by rw [lessC_len]; omega), fun i k hi hk h0 => ?_⟩
  have hl := f3 _ (List.getElem_mem hi)
  rw [cc_row (by rw [lessC_len]; exact hi), lessC_get hi]
  split
  · rename_i e
    subst e
    have hks : k < ((c[i]).set k0 (half (cc c i k0))).length := by rw [List.length_set]; omega
    rw [show ((c[i]).set k0 (half (cc c i k0))).getD k (-1) = ((c[i]).set k0 (half (cc c i k0)))[k] by rw [List.getD, List.getElem?_eq_getElem hks, Option.getD_some], List.getElem_set]
    split
    · rename_i e
      subst e
      exact ⟨y1, y3 h0⟩
    · have : cc c i k = (c[i])[k]'(by omega) := cc_get hi (by omega)
      rw [← this]; omega
  · rw [← cc_row hi]; omega
end Go.Proofs.Ytkpgphadgomifaa
