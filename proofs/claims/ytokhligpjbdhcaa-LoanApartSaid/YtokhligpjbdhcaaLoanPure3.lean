/- Plain laws on lists of valid loans: a further one, a first part, those of one sheet, two neighbours exchanged. -/
import Derived.Test.YtokhligpjbdhcaaLoanPure2
namespace Go.Proofs.Ytokhligpjbdhcaa
set_option linter.unusedSimpArgs false
set_option linter.unusedVariables false
open Go.RowKit Go.Sort

/-- Can these loans happen behind those? -/
def okFrom : List Lo → List Lo → Bool
  | _, [] => true
  | p, x :: r => happens p x && okFrom (p ++ [x]) r
theorem okFrom_iff (l p : List Lo) : okFrom p l = true ↔ ∀ j (h : j < l.length), happens (p ++ l.take j) l[j] = true := by
  induction l generalizing p with
  | nil => simp [okFrom]
  | cons x l ih =>
    simp only [okFrom, Bool.and_eq_true, ih]
    constructor
    · rintro ⟨h0, h⟩ j hj
      cases j with
      | zero => simpa using h0
      | succ j => have := h j (by simpa using hj); simpa using this
    · intro h
      refine ⟨by have := h 0 (by simp); rw [List.take_zero, List.append_nil] at this; exact this, fun j hj => ?_⟩
      have := h (j + 1) (by simpa using hj); simpa using this
theorem okFrom_append (p a b : List Lo) : okFrom p (a ++ b) = (okFrom p a && okFrom (p ++ a) b) := by
  induction a generalizing p with
  | nil => simp [okFrom]
  | cons x a ih => simp only [List.cons_append, okFrom, ih, List.append_assoc, Bool.and_assoc, List.singleton_append, List.nil_append]
theorem happens_congr {p q : List Lo} {x : Lo} (h : hold p x.s = hold q x.s) : happens p x = happens q x := by unfold happens; rw [h]
theorem hold_more (p q : List Lo) (h : ∀ s, hold p s = hold q s) (x : Lo) : ∀ s, hold (p ++ [x]) s = hold (q ++ [x]) s := fun s => by rw [hold_snoc, hold_snoc, h]
theorem okFrom_congr (r p q : List Lo) (h : ∀ s, hold p s = hold q s) : okFrom p r = okFrom q r := by
  induction r generalizing p q with
  | nil => rfl
  | cons x r ih => simp only [okFrom]; rw [happens_congr (h x.s), ih _ _ (hold_more p q h x)]
def tLe (a b : Lo) : Prop := a.t ≤ b.t
theorem adj_pairwise (l : List Lo) (h : ∀ j (hj : j + 1 < l.length), l[j].t ≤ l[j + 1].t) : l.Pairwise tLe := by
  rw [List.pairwise_iff_getElem]
  intro i j hi hj hij
  obtain ⟨d, rfl⟩ : ∃ d, j = i + 1 + d := ⟨j - i - 1, by omega⟩
  induction d with
  | zero => exact h i hj
  | succ d ih => exact Int.le_trans (ih (by omega) (by omega)) (h (i + 1 + d) hj)
/-- What valid loans are. -/
theorem loansOk_iff (l : List Lo) : loansOk l = true ↔ l.length ≤ 20000 ∧ (∀ x ∈ l, loanOk x = true) ∧ l.Pairwise tLe ∧ okFrom [] l = true := by
  constructor
  · intro h
    refine ⟨by simp only [loansOk, Bool.and_eq_true, decide_eq_true_eq] at h; exact h.1, loansOk_each h, adj_pairwise l fun j hj => ?_, (okFrom_iff l []).2 fun j hj => ?_⟩
    · have := loansOk_step h (j + 1) hj
      rw [stepOk_succ l j hj] at this
      simp only [Bool.and_eq_true, decide_eq_true_eq] at this
      exact this.1.2
    · have := loansOk_step h j hj
      rw [stepOk_mk l j hj] at this
      simp only [Bool.and_eq_true] at this
      exact this.2
  · rintro ⟨h1, h2, h3, h4⟩
    rw [okFrom_iff] at h4
    simp only [loansOk, Bool.and_eq_true, decide_eq_true_eq, List.all_eq_true, List.mem_range]
    refine ⟨h1, fun j hj => ?_⟩
    have g1 := h2 l[j] (List.getElem_mem hj)
    have g2 := h4 j hj
    rw [List.nil_append] at g2
    cases j with
    | zero => rw [stepOk_mk l 0 hj]; simp only [Bool.and_eq_true]; exact ⟨⟨g1, by simp⟩, g2⟩
    | succ j =>
      rw [stepOk_succ l j hj]
      have := List.pairwise_iff_getElem.1 h3 j (j + 1) (by omega) hj (by omega)
      simp only [Bool.and_eq_true, decide_eq_true_eq]
      exact ⟨⟨g1, this⟩, g2⟩
theorem upTo_eq {l : List Lo} {t : Int} (h : ∀ x ∈ l, x.t ≤ t) : upTo l t = l := takeWhile_all _ l fun x hx => by simpa using h x hx
theorem upTo_max {l : List Lo} (h : loansOk l = true) : upTo l 1000000000 = l := upTo_eq fun x hx => by
  have := (loanOk_parts (loansOk_each h x hx)).1
  rw [inB_iff] at this; exact this.2
theorem lastT_le {l : List Lo} {x : Lo} (h : l.Pairwise tLe) (hl : l = [] ∨ lastT l ≤ x.t) : ∀ y ∈ l, y.t ≤ x.t := fun y hy => by
  rcases hl with rfl | hl
  · simp at hy
  · obtain ⟨i, hi, rfl⟩ := List.mem_iff_getElem.1 hy
    have e := lastT_eq l (l.length - 1) (by omega)
    by_cases hlt : i < l.length - 1
    · have := List.pairwise_iff_getElem.1 h i (l.length - 1) hi (by omega) hlt
      unfold tLe at this; omega
    · obtain rfl : i = l.length - 1 := by omega
      omega
theorem loansOk_push {l : List Lo} {x : Lo} (h : loansOk l = true) (hn : l.length < 20000) (hx : loanOk x = true) (hl : l = [] ∨ lastT l ≤ x.t) (hh : happens l x = true) : loansOk (l ++ [x]) = true := by
  rw [loansOk_iff] at h ⊢
  obtain ⟨h1, h2, h3, h4⟩ := h
  refine ⟨by simp; omega, fun y hy => ?_, ?_, by rw [okFrom_append, h4]; simp [okFrom, hh]⟩
  · rcases List.mem_append.1 hy with hy | hy
    · exact h2 y hy
    · simp at hy; subst hy; exact hx
  · rw [List.pairwise_append]
    exact ⟨h3, List.pairwise_singleton _ _, fun a ha b hb => by simp at hb; subst hb; exact lastT_le h3 hl a ha⟩
theorem upTo_push {l : List Lo} {x : Lo} (h : ∀ y ∈ l, y.t ≤ x.t) (t : Int) : upTo (l ++ [x]) t = if x.t ≤ t then l ++ [x] else upTo l t := by
  split
  · rename_i hx
    exact upTo_eq fun y hy => by
      rcases List.mem_append.1 hy with hy | hy
      · have := h y hy; omega
      · simp at hy; subst hy; exact hx
  · rename_i hx
    unfold upTo
    have e : ([x] : List Lo).takeWhile (fun x => decide (x.t ≤ t)) = [] := by rw [List.takeWhile_cons, if_neg (by simpa using hx)]
    rw [List.takeWhile_append, e, List.append_nil]
    split
    · rename_i hl
      exact (List.IsPrefix.eq_of_length (List.takeWhile_prefix _) hl).symm
    · rfl
theorem hallF_snoc (l : List Lo) (x : Lo) (s : Int) : hallF (l ++ [x]) s = if x.s = s ∧ x.k = 3 then x.h else hallF l s := by simp [hallF, List.foldl_append]
theorem loansOk_upTo {l : List Lo} (h : loansOk l = true) (t : Int) : loansOk (upTo l t) = true := by
  have hp : upTo l t <+: l := List.takeWhile_prefix _
  obtain ⟨r, hr⟩ := hp
  rw [loansOk_iff] at h ⊢
  obtain ⟨h1, h2, h3, h4⟩ := h
  rw [← hr] at h1 h2 h3 h4
  rw [okFrom_append, Bool.and_eq_true] at h4
  exact ⟨by simp at h1; omega, fun y hy => h2 y (List.mem_append_left _ hy), (List.pairwise_append.1 h3).1, h4.1⟩
theorem filter_upTo {l : List Lo} (h : l.Pairwise tLe) (t : Int) : l.filter (fun x => decide (x.t ≤ t)) = upTo l t := by
  induction l with
  | nil => rfl
  | cons x l ih =>
    rw [List.pairwise_cons] at h
    unfold upTo at *
    rw [List.takeWhile_cons, List.filter_cons]
    split
    · rw [ih h.2]
    · rename_i hx
      have hx' : t < x.t := by simpa using hx
      rw [List.filter_eq_nil_iff]
      intro y hy
      have := h.1 y hy
      unfold tLe at this
      simp; omega
/-- The loans of one sheet. -/
def ofS (s : Int) (l : List Lo) : List Lo := l.filter fun x => x.s == s
theorem ofS_append (s : Int) (a b : List Lo) : ofS s (a ++ b) = ofS s a ++ ofS s b := List.filter_append ..
theorem fold_ofS {α : Type} (f : α → Lo → α) (s : Int) (hf : ∀ z x, x.s ≠ s → f z x = z) (l : List Lo) (z : α) : (ofS s l).foldl f z = l.foldl f z := by
  induction l generalizing z with
  | nil => rfl
  | cons x l ih =>
    unfold ofS at *
    rw [List.filter_cons]
    split
    · rw [List.foldl_cons, List.foldl_cons, ih]
    · rename_i hx
      rw [List.foldl_cons, hf z x (by simpa using hx), ih]
theorem hold_ofS (s : Int) (l : List Lo) : hold (ofS s l) s = hold l s := fold_ofS _ s (fun z x hx => by rw [if_neg hx]) l 0
theorem hallF_ofS (s : Int) (l : List Lo) : hallF (ofS s l) s = hallF l s := fold_ofS _ s (fun z x hx => by rw [if_neg (fun h => hx h.1)]) l 0
theorem okFrom_ofS (s : Int) (l p : List Lo) (h : okFrom p l = true) : okFrom (ofS s p) (ofS s l) = true := by
  induction l generalizing p with
  | nil => rfl
  | cons x l ih =>
    simp only [okFrom, Bool.and_eq_true] at h
    have hi := ih _ h.2
    rw [ofS_append] at hi
    by_cases hx : x.s = s
    · have e : ofS s (x :: l) = x :: ofS s l := by unfold ofS; rw [List.filter_cons, if_pos (by simpa using hx)]
      have e1 : ofS s [x] = [x] := by simp [ofS, hx]
      rw [e1] at hi
      rw [e]
      simp only [okFrom, Bool.and_eq_true]
      refine ⟨?_, hi⟩
      rw [← h.1]
      exact happens_congr (by rw [hx, hold_ofS])
    · have e : ofS s (x :: l) = ofS s l := by unfold ofS; rw [List.filter_cons, if_neg (by simpa using hx)]
      have e1 : ofS s [x] = [] := by simp [ofS, hx]
      rw [e1, List.append_nil] at hi
      rw [e]; exact hi
theorem loansOk_ofS {l : List Lo} (h : loansOk l = true) (s : Int) : loansOk (ofS s l) = true := by
  rw [loansOk_iff] at h ⊢
  obtain ⟨h1, h2, h3, h4⟩ := h
  exact ⟨Nat.le_trans (List.length_filter_le _ _) h1, fun y hy => h2 y (List.mem_filter.1 hy).1, h3.filter _, okFrom_ofS s l [] h4⟩
theorem upTo_ofS {l : List Lo} (h : l.Pairwise tLe) (s t : Int) : upTo (ofS s l) t = ofS s (upTo l t) := by
  have h' : (ofS s l).Pairwise tLe := h.filter _
  rw [← filter_upTo h, ← filter_upTo h']
  unfold ofS
  rw [List.filter_filter, List.filter_filter]
  congr 1
  funext x
  rw [Bool.and_comm]
/-- Two neighbours exchanged. -/
theorem hold_swap (p r : List Lo) (x y : Lo) (hxy : x.s ≠ y.s) (s : Int) : hold (p ++ y :: x :: r) s = hold (p ++ x :: y :: r) s := by
  unfold hold
  simp only [List.foldl_append, List.foldl_cons]
  congr 1
  by_cases hx : x.s = s
  · have hy : ¬ y.s = s := fun e => hxy (hx.trans e.symm)
    simp [hx, hy]
  · simp [hx]
theorem hallF_swap (p r : List Lo) (x y : Lo) (hxy : x.s ≠ y.s) (s : Int) : hallF (p ++ y :: x :: r) s = hallF (p ++ x :: y :: r) s := by
  unfold hallF
  simp only [List.foldl_append, List.foldl_cons]
  congr 1
  by_cases hx : x.s = s
  · have hy : ¬ y.s = s := fun e => hxy (hx.trans e.symm)
    simp [hx, hy]
  · simp [hx]
theorem loansOk_swap {p r : List Lo} {x y : Lo} (h : loansOk (p ++ x :: y :: r) = true) (hxy : x.s ≠ y.s) (ht : x.t = y.t) : loansOk (p ++ y :: x :: r) = true := by
  rw [loansOk_iff] at h ⊢
  obtain ⟨h1, h2, h3, h4⟩ := h
  refine ⟨by simpa using h1, fun z hz => h2 z (by simp at hz ⊢; rcases hz with h | h | h | h <;> simp [h]), ?_, ?_⟩
  · rw [List.pairwise_append, List.pairwise_cons, List.pairwise_cons] at h3 ⊢
    obtain ⟨g1, ⟨g2, g3, g4⟩, g5⟩ := h3
    refine ⟨g1, ⟨fun z hz => ?_, fun z hz => g2 z (by simp [hz]), g4⟩, fun a ha b hb => g5 a ha b (by simp at hb ⊢; rcases hb with h | h | h <;> simp [h])⟩
    rcases List.mem_cons.1 hz with rfl | hz
    · exact Int.le_of_eq ht.symm
    · exact g3 z hz
  · rw [okFrom_append] at h4 ⊢
    simp only [okFrom, Bool.and_eq_true, List.nil_append, List.append_assoc, List.singleton_append] at h4 ⊢
    obtain ⟨g1, g2, g3, g4⟩ := h4
    refine ⟨g1, ?_, ?_, ?_⟩
    · rw [← g3]; exact happens_congr (by rw [hold_snoc, if_neg hxy])
    · rw [← g2]; exact happens_congr (by rw [hold_snoc, if_neg (fun e => hxy e.symm)])
    · rw [← g4]; exact okFrom_congr r _ _ fun s => by have := hold_swap p [] x y hxy s; simpa using this
theorem upTo_swap {p r : List Lo} {x y : Lo} (ht : x.t = y.t) (t : Int) : (∃ r', upTo (p ++ y :: x :: r) t = p ++ y :: x :: r' ∧ upTo (p ++ x :: y :: r) t = p ++ x :: y :: r') ∨ upTo (p ++ y :: x :: r) t = upTo (p ++ x :: y :: r) t := by
  unfold upTo
  rw [List.takeWhile_append, List.takeWhile_append]
  split
  · by_cases hx : x.t ≤ t
    · have hy : y.t ≤ t := by omega
      exact .inl ⟨r.takeWhile fun x => decide (x.t ≤ t), by simp [List.takeWhile_cons, hx, hy]⟩
    · have hy : ¬ y.t ≤ t := by omega
      exact .inr (by simp [List.takeWhile_cons, hx, hy])
  · exact .inr rfl
theorem swap_same {p r : List Lo} {x y : Lo} (hxy : x.s ≠ y.s) (ht : x.t = y.t) (t s : Int) : hold (upTo (p ++ y :: x :: r) t) s = hold (upTo (p ++ x :: y :: r) t) s ∧ hallF (upTo (p ++ y :: x :: r) t) s = hallF (upTo (p ++ x :: y :: r) t) s := by
  rcases upTo_swap (p := p) (r := r) ht t with ⟨r', e1, e2⟩ | e
  · rw [e1, e2]; exact ⟨hold_swap p r' x y hxy s, hallF_swap p r' x y hxy s⟩
  · rw [e]; exact ⟨rfl, rfl⟩
end Go.Proofs.Ytokhligpjbdhcaa
