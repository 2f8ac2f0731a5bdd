/- Sums, prices as a bound, rows and columns that can be matched apart can be matched together: plain laws. -/
import Derived.Test.YtkpgphadgomifaaMatchHung2
namespace Go.Proofs.Ytkpgphadgomifaa
set_option linter.unusedSimpArgs false
set_option linter.unusedVariables false

/-- The sum of F below n. -/
def sumN (F : Nat → Int) : Nat → Int
  | 0 => 0
  | n + 1 => sumN F n + F n
theorem sumN_congr {F G : Nat → Int} {n : Nat} (h : ∀ k, k < n → F k = G k) : sumN F n = sumN G n := by
  induction n with
  | zero => rfl
  | succ n ih => simp only [sumN]; rw [ih fun k hk => h k (by omega), h n (by omega)]
theorem sumN_add (F G : Nat → Int) (n : Nat) : sumN (fun k => F k + G k) n = sumN F n + sumN G n := by
  induction n with
  | zero => rfl
  | succ n ih => simp only [sumN]; rw [ih]; omega
theorem sumN_le {F G : Nat → Int} {n : Nat} (h : ∀ k, k < n → F k ≤ G k) : sumN F n ≤ sumN G n := by
  induction n with
  | zero => exact Int.le_refl _
  | succ n ih => simp only [sumN]; have := ih fun k hk => h k (by omega); have := h n (by omega); omega
theorem sumN_eq {F G : Nat → Int} {n : Nat} (h : ∀ k, k < n → F k ≤ G k) (e : sumN G n ≤ sumN F n) : ∀ k, k < n → F k = G k := by
  induction n with
  | zero => intro k hk; omega
  | succ n ih =>
    simp only [sumN] at e
    have h1 := sumN_le (n := n) fun k hk => h k (by omega)
    have h2 := h n (by omega)
    intro k hk
    by_cases q : k = n
    · subst q; omega
    · exact ih (fun k hk => h k (by omega)) (by omega) k (by omega)
theorem sumN_zero {F : Nat → Int} {n : Nat} (h : ∀ k, k < n → F k = 0) : sumN F n = 0 := by
  induction n with
  | zero => rfl
  | succ n ih => simp only [sumN]; rw [ih fun k hk => h k (by omega), h n (by omega)]; rfl
theorem sumN_upd (F : Nat → Int) (k n : Nat) (x : Int) (hk : k < n) : sumN (upd F k x) n = sumN F n - F k + x := by
  induction n with
  | zero => omega
  | succ n ih =>
    simp only [sumN]
    by_cases e : k = n
    · subst e
      rw [upd_same, sumN_congr (G := F) fun j hj => upd_ne _ _ (by omega)]
      omega
    · rw [ih (by omega), upd_ne _ _ (by omega)]; omega
/-- v without the columns that f gives to the first j rows. -/
def less (v : Nat → Int) (f : Nat → Nat) : Nat → Nat → Int
  | 0 => v
  | j + 1 => upd (less v f j) (f j) 0
theorem less_sum {can : Nat → Nat → Bool} {n m : Nat} {v : Nat → Int} {f : Nat → Nat} (hf : Mt can (fun i => i < m) n f) : ∀ j, j ≤ m → sumN (less v f j) n = sumN v n - sumN (fun i => v (f i)) j ∧ (∀ i, j ≤ i → i < m → less v f j (f i) = v (f i)) ∧ (∀ k, (∀ i, i < j → f i ≠ k) → less v f j k = v k) ∧ ∀ i, i < j → less v f j (f i) = 0
  | 0, _ => ⟨by simp [less, sumN], fun _ _ _ => rfl, fun _ _ => rfl, fun i hi => by omega⟩
  | j + 1, hj => by
    obtain ⟨h1, h2, h3, h4⟩ := less_sum (v := v) hf j (by omega)
    refine ⟨?_, fun i hi hm => ?_, fun k hk => ?_, fun i hi => ?_⟩
    · show sumN (upd _ _ _) n = _
      rw [sumN_upd _ _ _ _ (hf.lt j (by omega)), h1, h2 j (Nat.le_refl _) (by omega)]
      simp only [sumN]; omega
    · show upd _ _ _ _ = _
      rw [upd_ne _ _ fun e => by have := hf.inj i j hm (by show j < m; omega) e; omega]
      exact h2 i (by omega) hm
    · show upd _ _ _ _ = _
      rw [upd_ne _ _ fun e => hk j (by omega) e.symm]
      exact h3 k fun i hi => hk i (by omega)
    · show upd _ _ _ _ = _
      by_cases e : f i = f j
      · rw [e, upd_same]
      · rw [upd_ne _ _ e]
        have : i ≠ j := fun q => e (by rw [q])
        exact h4 i (by omega)
/-- What columns of a matching cost at prices up to 0 is no less than what all columns do; it is as much exactly if those that are left cost nothing. -/
theorem cols_sum {can : Nat → Nat → Bool} {n m : Nat} {v : Nat → Int} {f : Nat → Nat} (hf : Mt can (fun i => i < m) n f) (hv : ∀ k, k < n → v k ≤ 0) :
    sumN v n ≤ sumN (fun i => v (f i)) m ∧ (sumN (fun i => v (f i)) m ≤ sumN v n → ∀ k, k < n → v k ≠ 0 → ∃ i, i < m ∧ f i = k) ∧ ((∀ k, k < n → v k ≠ 0 → ∃ i, i < m ∧ f i = k) → sumN (fun i => v (f i)) m = sumN v n) := by
  obtain ⟨h1, _, h3, h4⟩ := less_sum (v := v) hf m (Nat.le_refl _)
  have hl : ∀ k, k < n → less v f m k ≤ 0 := fun k hk => by
    by_cases h : ∃ i, i < m ∧ f i = k
    · obtain ⟨i, hi, rfl⟩ := h
      rw [h4 i hi]; exact Int.le_refl _
    · rw [h3 k fun i hi e => h ⟨i, hi, e⟩]; exact hv k hk
  have h0 : sumN (fun _ => (0 : Int)) n = 0 := sumN_zero fun _ _ => rfl
  refine ⟨?_, fun he k hk hne => ?_, fun h => ?_⟩
  · have := sumN_le hl
    rw [h0] at this; omega
  · have := sumN_eq (F := less v f m) (G := fun _ => 0) (n := n) hl (by rw [h0]; omega) k hk
    by_cases h : ∃ i, i < m ∧ f i = k
    · exact h
    · rw [h3 k fun i hi e => h ⟨i, hi, e⟩] at this; exact absurd this hne
  · have : sumN (less v f m) n = 0 := sumN_zero fun k hk => by
      by_cases hz : v k = 0
      · by_cases h : ∃ i, i < m ∧ f i = k
        · obtain ⟨i, hi, rfl⟩ := h; exact h4 i hi
        · rw [h3 k fun i hi e => h ⟨i, hi, e⟩]; exact hz
      · obtain ⟨i, hi, rfl⟩ := h k hk hz; exact h4 i hi
    omega
/-- Prices. -/
structure Fair (C : Nat → Nat → Int) (n m : Nat) (u v : Nat → Int) : Prop where
  feas : ∀ i k, i < m → k < n → 0 ≤ C i k → u i + v k ≤ C i k
  vneg : ∀ k, k < n → v k ≤ 0
def costOf (C : Nat → Nat → Int) (m : Nat) (f : Nat → Nat) : Int := sumN (fun i => C i (f i)) m
def priceOf (n m : Nat) (u v : Nat → Int) : Int := sumN u m + sumN v n
/-- A matching on exact prices, to which all columns of a price belong. -/
structure Tight (C : Nat → Nat → Int) (n m : Nat) (u v : Nat → Int) (f : Nat → Nat) : Prop where
  mt : Mt (may C) (fun i => i < m) n f
  eq : ∀ i, i < m → u i + v (f i) = C i (f i)
  all : ∀ k, k < n → v k ≠ 0 → ∃ i, i < m ∧ f i = k
theorem fair_le {C : Nat → Nat → Int} {n m : Nat} {u v : Nat → Int} {f : Nat → Nat} (p : Fair C n m u v) (hf : Mt (may C) (fun i => i < m) n f) : priceOf n m u v ≤ costOf C m f ∧ (costOf C m f ≤ priceOf n m u v → Tight C n m u v f) := by
  obtain ⟨h1, h2, _⟩ := cols_sum hf p.vneg
  have h3 : ∀ i, i < m → u i + v (f i) ≤ C i (f i) := fun i hi => p.feas i (f i) hi (hf.lt i hi) ((may_iff _ _ _).1 (hf.can i hi))
  have h4 := sumN_le h3
  rw [sumN_add] at h4
  refine ⟨by unfold priceOf costOf; omega, fun he => ?_⟩
  unfold priceOf costOf at he
  refine ⟨hf, fun i hi => ?_, h2 (by omega)⟩
  exact sumN_eq h3 (by rw [sumN_add]; omega) i hi
theorem tight_eq {C : Nat → Nat → Int} {n m : Nat} {u v : Nat → Int} {f : Nat → Nat} (p : Fair C n m u v) (t : Tight C n m u v f) : costOf C m f = priceOf n m u v := by
  have h1 := (cols_sum t.mt p.vneg).2.2 t.all
  unfold costOf priceOf
  rw [sumN_congr (G := fun i => u i + v (f i)) fun i hi => (t.eq i hi).symm, sumN_add]; omega
theorem pot_fair {C : Nat → Nat → Int} {n m : Nat} {V : Int} {u v ow : Nat → Int} (p : Pot C n m V u v ow) : Fair C n m u v ∧ ∃ f, Tight C n m u v f := by
  refine ⟨⟨p.feas, p.vneg⟩, ?_⟩
  have hc : ∀ i, ∃ k, i < m → k < n ∧ ow k = (i : Int) := fun i => by
    by_cases hi : i < m
    · obtain ⟨k, hk, _, e⟩ := p.own.one i hi
      exact ⟨k, fun _ => ⟨hk, e⟩⟩
    · exact ⟨0, fun a => absurd a hi⟩
  refine ⟨fun i => Classical.choose (hc i), ⟨fun i hi => (Classical.choose_spec (hc i) hi).1, fun i hi => ?_, fun i j hi hj e => ?_⟩, fun i hi => ?_, fun k hk hne => ?_⟩
  · obtain ⟨a, b⟩ := Classical.choose_spec (hc i) hi
    rcases p.own.val _ a trivial with e | ⟨i', e, _, e2⟩
    · omega
    · have : i' = i := by omega
      subst this; exact e2
  · have a := (Classical.choose_spec (hc i) hi).2
    have b := (Classical.choose_spec (hc j) hj).2
    simp only [e] at a; omega
  · obtain ⟨a, b⟩ := Classical.choose_spec (hc i) hi
    exact p.tight _ i a b
  · rcases p.own.val k hk trivial with e | ⟨i, e, hi, _⟩
    · exact absurd (p.free k hk e) hne
    · refine ⟨i, hi, ?_⟩
      obtain ⟨a, b⟩ := Classical.choose_spec (hc i) hi
      exact p.own.inj _ k i a hk trivial trivial b e
theorem filter_lt (p q : Nat → Bool) (n : Nat) (h : ∀ k, k < n → p k = true → q k = true) (k0 : Nat) (h0 : k0 < n) (h1 : p k0 = false) (h2 : q k0 = true) : ((List.range n).filter p).length < ((List.range n).filter q).length := by
  induction n with
  | zero => omega
  | succ n ih =>
    rw [List.range_succ, List.filter_append, List.filter_append, List.length_append, List.length_append]
    have le : ((List.range n).filter p).length ≤ ((List.range n).filter q).length := by
      have : ∀ m, m ≤ n → ((List.range m).filter p).length ≤ ((List.range m).filter q).length := fun m => by
        induction m with
        | zero => intro _; exact Nat.le_refl _
        | succ m ihm =>
          intro hm
          rw [List.range_succ, List.filter_append, List.filter_append, List.length_append, List.length_append]
          have := ihm (by omega)
          cases hp : p m
          · simp [hp]; omega
          · simp [hp, h m (by omega) hp]; omega
      exact this n (Nat.le_refl _)
    by_cases e : k0 = n
    · subst e
      simp [h1, h2]; omega
    · have := ih (fun k hk => h k (by omega)) (by omega)
      cases hp : p n
      · simp [hp]; omega
      · simp [hp, h n (by omega) hp]; omega
/-- Rows that can be matched, and columns that can: then all of these together. -/
theorem together {can : Nat → Nat → Bool} {R : Nat → Prop} {n : Nat} (req : Nat → Bool) (g : Nat → Nat) (hg : ∀ k, k < n → req k = true → R (g k) ∧ can (g k) k = true) (hi : ∀ k k', k < n → k' < n → req k = true → req k' = true → g k = g k' → k = k') :
    ∀ (d : Nat) (f : Nat → Nat), Mt can R n f → n - ((List.range n).filter fun k => req k && f (g k) == k).length ≤ d → ∃ f', Mt can R n f' ∧ ∀ k, k < n → req k = true → ∃ i, R i ∧ f' i = k := by
  intro d
  induction d with
  | zero =>
    intro f hf hd
    refine ⟨f, hf, fun k hk hr => ?_⟩
    have hfull : ((List.range n).filter fun k => req k && f (g k) == k).length = n := by
      have := List.length_filter_le (fun k => req k && f (g k) == k) (List.range n)
      rw [List.length_range] at this; omega
    have hall : ∀ x ∈ List.range n, (req x && f (g x) == x) = true := by
      rw [← List.length_filter_eq_length_iff, hfull, List.length_range]
    have := hall k (List.mem_range.2 hk)
    simp only [Bool.and_eq_true, beq_iff_eq] at this
    exact ⟨g k, (hg k hk hr).1, this.2⟩
  | succ d ih =>
    intro f hf hd
    by_cases h : ∀ k, k < n → req k = true → ∃ i, R i ∧ f i = k
    · exact ⟨f, hf, h⟩
    · obtain ⟨k, hk⟩ := Classical.not_forall.1 h
      simp only [Classical.not_imp] at hk
      obtain ⟨hk, hr, hno⟩ := hk
      obtain ⟨hR, hcan⟩ := hg k hk hr
      have hun : ∀ i, R i → f i ≠ k := fun i hi e => hno ⟨i, hi, e⟩
      refine ih (upd f (g k) k) ⟨fun i hi => ?_, fun i hi => ?_, fun i j hi hj e => ?_⟩ ?_
      · by_cases e : i = g k
        · subst e; rw [upd_same]; exact hk
        · rw [upd_ne _ _ e]; exact hf.lt i hi
      · by_cases e : i = g k
        · subst e; rw [upd_same]; exact hcan
        · rw [upd_ne _ _ e]; exact hf.can i hi
      · by_cases e1 : i = g k <;> by_cases e2 : j = g k
        · rw [e1, e2]
        · subst e1
          rw [upd_same, upd_ne _ _ e2] at e
          exact absurd e.symm (hun j hj)
        · subst e2
          rw [upd_same, upd_ne _ _ e1] at e
          exact absurd e (hun i hi)
        · rw [upd_ne _ _ e1, upd_ne _ _ e2] at e
          exact hf.inj i j hi hj e
      · have := filter_lt (fun x => req x && f (g x) == x) (fun x => req x && upd f (g k) k (g x) == x) n (fun x hx h => by
          simp only [Bool.and_eq_true, beq_iff_eq] at h ⊢
          refine ⟨h.1, ?_⟩
          by_cases e : g x = g k
          · have := hi x k hx hk h.1 hr e
            subst this; exact upd_same _ _ _
          · rw [upd_ne _ _ e]; exact h.2) k hk (by
          rw [Bool.eq_false_iff]; intro h
          simp only [Bool.and_eq_true, beq_iff_eq] at h
          exact hun _ hR h.2) (by simp [hr, upd_same])
        omega
end Go.Proofs.Ytkpgphadgomifaa
