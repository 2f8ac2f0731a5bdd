/- What loan's shelf says is what the reference says, for loans that can have happened. -/
import Derived.Test.YtokhligpjbdhcaaLoanAt
namespace Go.Proofs.Ytokhligpjbdhcaa
set_option linter.unusedSimpArgs false
set_option linter.unusedVariables false
open Go.RowKit Go.Sort

theorem hold_nonneg (l : List Lo) (h : ∀ x ∈ l, x.k = 1 → 1 ≤ x.st) (s : Int) : 0 ≤ hold l s := by
  have g : ∀ (l : List Lo) (z : Int), 0 ≤ z → (∀ x ∈ l, x.k = 1 → 1 ≤ x.st) → 0 ≤ l.foldl (fun acc x => if x.s = s then (if x.k = 1 then x.st else 0) else acc) z := by
    intro l
    induction l with
    | nil => intro z hz _; exact hz
    | cons x l ih =>
      intro z hz hx
      rw [List.foldl_cons]
      refine ih _ ?_ fun y hy => hx y (by simp [hy])
      split
      · split
        · have := hx x (by simp) ‹_›; omega
        · omega
      · exact hz
  exact g l 0 (Int.le_refl _) h

theorem shAdd_1 (s : Sh) (x : Lo) (h : x.k = 1) : shAdd s x = ⟨mput s.hm x.s (.int .i64 x.st), s.gm⟩ := by unfold shAdd; rw [if_pos h]
theorem shAdd_2 (s : Sh) (x : Lo) (h : x.k = 2) : shAdd s x = ⟨mdel s.hm x.s, s.gm⟩ := by unfold shAdd; rw [if_neg (by omega), if_pos h]
theorem shAdd_3 (s : Sh) (x : Lo) (h : x.k = 3) : shAdd s x = ⟨s.hm, mput s.gm x.s (.int .i64 x.h)⟩ := by unfold shAdd; rw [if_neg (by omega), if_neg (by omega), if_pos h]
theorem loanOk_st {x : Lo} (h : loanOk x = true) : (x.k = 1 → 1 ≤ x.st) ∧ (x.k = 1 ∨ x.k = 2 ∨ x.k = 3) ∧ (x.k ≠ 1 → x.st = 0) ∧ (x.k ≠ 3 → x.h = 0) := by
  unfold loanOk at h
  simp only [Bool.and_eq_true] at h
  obtain ⟨_, h⟩ := h
  by_cases h1 : x.k = 1
  · simp [h1, inB] at h; refine ⟨fun _ => h.1.1, .inl h1, fun e => absurd h1 e, fun _ => h.2⟩
  · by_cases h2 : x.k = 2
    · simp [h2] at h; exact ⟨fun e => absurd e h1, .inr (.inl h2), fun _ => h.1, fun _ => h.2⟩
    · by_cases h3 : x.k = 3
      · simp [h3] at h; exact ⟨fun e => absurd e h1, .inr (.inr h3), fun _ => h.1, fun e => absurd h3 e⟩
      · simp [h1, h2, h3] at h

/-- The shelf behind valid loans, sheet by sheet. -/
def ShInv (l : List Lo) : Prop :=
  ∀ s, mget (shOf l).hm s = (if 0 < hold l s then some (Value.int .i64 (hold l s)) else none) ∧ (mget (shOf l).gm s).getD (.int .i64 0) = .int .i64 (hallF l s)
theorem ShInv.can {l : List Lo} (h : ShInv l) (x : Lo) : shCan (shOf l) x = happens l x := by
  unfold shCan shOut happens
  rw [(h x.s).1]
  by_cases h0 : 0 < hold l x.s <;> simp [h0]
theorem ShInv.step {l : List Lo} (h : ShInv l) (x : Lo) (hx : loanOk x = true) (hh : happens l x = true) : ShInv (l ++ [x]) := by
  obtain ⟨g1, g2, g3, g4⟩ := loanOk_st hx
  have hc : shCan (shOf l) x = true := by rw [h.can]; exact hh
  have hs : shOf (l ++ [x]) = shAdd (shOf l) x := by rw [shOf_snoc]; unfold shStep; rw [if_pos hc]
  have hf : ∀ s, hallF (l ++ [x]) s = if x.s = s ∧ x.k = 3 then x.h else hallF l s := fun s => by simp [hallF, List.foldl_append]
  intro s
  rw [hs, hold_snoc, hf]
  obtain ⟨i1, i2⟩ := h s
  rcases g2 with hk | hk | hk
  · have := g1 hk
    rw [shAdd_1 _ _ hk, if_neg (show ¬ (x.s = s ∧ x.k = 3) from fun e => by omega)]
    refine ⟨?_, i2⟩
    rw [mget_mput]
    by_cases e : s = x.s
    · subst e; simp [hk]; omega
    · have e' : ¬ x.s = s := fun a => e a.symm
      rw [if_neg e, if_neg e', i1]
  · rw [shAdd_2 _ _ hk, if_neg (show ¬ (x.s = s ∧ x.k = 3) from fun e => by omega)]
    refine ⟨?_, i2⟩
    rw [mget_mdel]
    by_cases e : s = x.s
    · subst e; simp [hk]
    · have e' : ¬ x.s = s := fun a => e a.symm
      rw [if_neg e, if_neg e', i1]
  · have h0 : ¬ 0 < hold l x.s := by
      unfold happens at hh
      simp [hk] at hh; omega
    rw [shAdd_3 _ _ hk]
    refine ⟨?_, ?_⟩
    · show mget (shOf l).hm s = _
      rw [i1]
      by_cases e : x.s = s
      · subst e; simp [h0, hk]
      · simp [e]
    · show (mget (mput (shOf l).gm x.s (.int .i64 x.h)) s).getD _ = _
      rw [mget_mput]
      by_cases e : s = x.s
      · subst e; simp [hk]
      · have e' : ¬ x.s = s := fun a => e a.symm
        rw [if_neg e, i2]; simp [e']
theorem shInv_nil : ShInv [] := fun s => by simp [shOf, mget_nil, hold, hallF]
theorem shInv_take (l : List Lo) (k : Nat) (hk : k ≤ l.length) (h : ∀ j, j < k → stepOk l j = true) : ShInv (l.take k) := by
  induction k with
  | zero => rw [List.take_zero]; exact shInv_nil
  | succ k ih =>
    have hlt : k < l.length := by omega
    have hs := h k (by omega)
    rw [stepOk_mk l k hlt] at hs
    simp only [Bool.and_eq_true] at hs
    rw [List.take_succ_eq_append_getElem hlt]
    exact (ih (by omega) fun j hj => h j (by omega)).step l[k] hs.1.1 hs.2
theorem loansOk_step {l : List Lo} (h : loansOk l = true) : ∀ j, j < l.length → stepOk l j = true := fun j hj => by
  simp only [loansOk, Bool.and_eq_true, List.all_eq_true, List.mem_range] at h
  exact h.2 j hj
theorem shInv_upTo {l : List Lo} (h : loansOk l = true) (time : Int) : ShInv (upTo l time) := by
  rw [upTo_take]
  exact shInv_take l _ (upTo_len l time) fun j hj => loansOk_step h j (Nat.lt_of_lt_of_le hj (upTo_len l time))

end Go.Proofs.Ytokhligpjbdhcaa
