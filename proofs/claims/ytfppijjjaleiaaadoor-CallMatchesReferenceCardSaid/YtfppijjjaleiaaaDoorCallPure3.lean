
/- Calls in plain Lean: what the library's searches say of words and names. -/
import Derived.Test.YtfppijjjaleiaaaDoorCallPure
import Derived.Lib.IndexAny
import Derived.Lib.IndexMore
import Derived.Laws.RangeAny
import Derived.Shelf.GgClosure.StringsIndexFunc
namespace Go.Proofs.YtfppijjjaleiaaaDoor
set_option linter.unusedSimpArgs false
set_option linter.unusedVariables false
open Go.Lib

theorem seps_contains (c : UInt8) : ([32, 44] : Bs).contains c = sepB c := by
  simp only [sepB, List.contains_cons, List.contains_nil, Bool.or_false]
theorem indexAny_split : ∀ (s : Bs) (k : Nat), indexAny s [32, 44] = (k : Int) → k < s.length ∧ (∀ c ∈ s.take k, sepB c = false) ∧ ∃ c r, s.drop k = c :: r ∧ sepB c = true
  | [], k, h => by simp [indexAny] at h
  | b :: l, k, h => by
    rw [indexAny, seps_contains] at h
    split at h
    · rename_i hb
      have : k = 0 := by omega
      subst this
      exact ⟨by simp, by simp, b, l, rfl, hb⟩
    · rename_i hb
      split at h
      · omega
      · have hge := indexAny_ge [32, 44] l
        rename_i hn
        have hn' : ¬ indexAny l [32, 44] = -1 := by simpa using hn
        cases k with
        | zero => omega
        | succ k =>
          obtain ⟨h1, h2, c, r, h3, h4⟩ := indexAny_split l k (by push_cast at h; omega)
          refine ⟨by simp; omega, ?_, c, r, by simpa using h3, h4⟩
          intro x hx
          rw [List.take_succ_cons, List.mem_cons] at hx
          rcases hx with rfl | hx
          · simpa using hb
          · exact h2 x hx
theorem indexAny_miss : ∀ (s : Bs), indexAny s [32, 44] < 0 → ∀ c ∈ s, sepB c = false
  | [], _ => by simp
  | b :: l, h => by
    rw [indexAny, seps_contains] at h
    split at h
    · omega
    · rename_i hb
      split at h
      · rename_i hn
        have hn' : indexAny l [32, 44] = -1 := by simpa using hn
        have ih := indexAny_miss l (by omega)
        intro c hc
        rw [List.mem_cons] at hc
        rcases hc with rfl | hc
        · simpa using hb
        · exact ih c hc
      · have hge := indexAny_ge [32, 44] l
        rename_i hn
        have hn' : ¬ indexAny l [32, 44] = -1 := by simpa using hn
        omega
theorem words_whole {s : Bs} (h0 : s ≠ []) (h : indexAny s [32, 44] < 0) : wordsL s = [s] := words_word ⟨h0, indexAny_miss s h⟩
theorem words_cut {s : Bs} {k : Nat} (hk : 0 < k) (h : indexAny s [32, 44] = (k : Int)) : wordsL s = s.take k :: wordsL (s.drop k) := by
  obtain ⟨h1, h2, c, r, h3, h4⟩ := indexAny_split s k h
  have hp : plainW (s.take k) := ⟨by
    intro e
    have : (s.take k).length = 0 := by rw [e]; rfl
    rw [List.length_take] at this
    omega, h2⟩
  have e : s = s.take k ++ s.drop k := (List.take_append_drop k s).symm
  rw [h3] at e ⊢
  simp only [sepB, Bool.or_eq_true, beq_iff_eq] at h4
  rcases h4 with rfl | rfl
  · rw [words_blank]
    conv => lhs; rw [e]
    rw [words_word_blank hp]
  · rw [words_comma]
    conv => lhs; rw [e]
    rw [words_word_comma hp]

/-- strings.Cut at a slash. -/
theorem index_slash : ∀ (s : Bs), index s [47] = match (cutP s).2 with | none => -1 | some _ => ((cutP s).1.length : Int)
  | [] => rfl
  | b :: l => by
    have ih := index_slash l
    rw [index, cutP]
    by_cases hb : b = 47
    · subst hb
      simp [List.isPrefixOf]
    · have : (([47] : Bs).isPrefixOf (b :: l)) = false := by
        simp [List.isPrefixOf]
        exact fun e => hb e.symm
      rw [this, ih, if_neg hb]
      simp only [Bool.false_eq_true, if_false]
      split
      · rfl
      · have hn : ¬ (((cutP l).1.length : Int) == -1) = true := by simp
        rw [if_neg hn, List.length_cons]
        push_cast
        rfl
theorem cut_slash (s : Bs) : cut s [47] = ((cutP s).1, (cutP s).2.getD [], (cutP s).2.isSome) := by
  unfold cut
  rw [index_slash]
  cases e : (cutP s).2 with
  | none =>
    have := cutP_none s (cutP s).1 (Prod.ext rfl e)
    simp [← this]
  | some b =>
    have := cutP_some s (cutP s).1 b (Prod.ext rfl e)
    have hl : (cutP s).1.length ≤ s.length := by have := congrArg List.length this; rw [List.length_append] at this; omega
    generalize (cutP s).1 = a at *
    subst this
    simp

/-- What is no name's rune. -/
def otherR (r : Nat) : Bool := (decide (r < 65) || decide (90 < r)) && (decide (r < 48) || decide (57 < r))
def otherI (r : Int) : Bool := (decide (r < 65) || decide (90 < r)) && (decide (r < 48) || decide (57 < r))
theorem other_nat (r : Nat) : otherI (r : Int) = otherR r := by
  unfold otherI otherR
  rw [Bool.eq_iff_iff]
  simp only [Bool.and_eq_true, Bool.or_eq_true, decide_eq_true_eq]
  omega
theorem other_byte (c : UInt8) : otherR c.toNat = !(upB c || digB c) := by
  unfold otherR upB digB
  rw [Bool.eq_iff_iff]
  simp only [Bool.and_eq_true, Bool.or_eq_true, Bool.not_eq_true', Bool.or_eq_false_iff, Bool.and_eq_false_iff, decide_eq_true_eq, decide_eq_false_iff_not]
  omega
theorem other_high {r : Nat} (h : 128 ≤ r) : otherR r = true := by
  unfold otherR
  simp only [Bool.and_eq_true, Bool.or_eq_true, decide_eq_true_eq]
  omega
theorem idx_name (s : ByteArray) : ∀ (f pos : Nat), s.size - pos ≤ f → (idxFuncFrom otherR true s f pos < 0 ↔ ∀ (j : Nat) (h : j < s.size), pos ≤ j → (upB s[j] || digB s[j]) = true)
  | 0, pos, hf => by
    constructor
    · intro _ j h hj
      omega
    · intro _
      simp [idxFuncFrom]
  | f + 1, pos, hf => by
    rw [idxFuncFrom]
    split
    · rename_i hp
      by_cases ha : (s[pos]'hp).toNat < 128
      · rw [decode_ascii s pos hp ha]
        simp only
        rw [other_byte]
        cases ho : upB (s[pos]'hp) || digB (s[pos]'hp) with
        | false =>
          simp only [Bool.not_false, if_true]
          constructor
          · intro h; omega
          · intro h
            have := h pos hp (Nat.le_refl _)
            rw [ho] at this; cases this
        | true =>
          simp only [Bool.not_true, Bool.false_eq_true, if_false]
          rw [idx_name s f (pos + 1) (by omega)]
          constructor
          · intro h j hj hl
            by_cases e : j = pos
            · subst e; exact ho
            · exact h j hj (by omega)
          · intro h j hj hl
            exact h j hj (by omega)
      · obtain ⟨d1, d2⟩ := decode_high s pos hp (by omega)
        rw [other_high d1]
        simp only [if_true]
        constructor
        · intro h; omega
        · intro h
          have := h pos hp (Nat.le_refl _)
          exfalso
          simp only [upB, digB, Bool.or_eq_true, Bool.and_eq_true, decide_eq_true_eq] at this
          omega
    · rename_i hp
      constructor
      · intro _ j h hj
        omega
      · intro _; omega
theorem idx_all (s : ByteArray) : decide (idxFunc otherR true s < 0) = s.data.toList.all fun c => upB c || digB c := by
  rw [Bool.eq_iff_iff, decide_eq_true_eq, idxFunc, idx_name s s.size 0 (by omega), List.all_eq_true]
  constructor
  · intro h c hc
    obtain ⟨j, hj, rfl⟩ := List.getElem_of_mem hc
    exact h j hj (Nat.zero_le _)
  · intro h j hj _
    exact h _ (List.getElem_mem (l := s.data.toList) (n := j) hj)
end Go.Proofs.YtfppijjjaleiaaaDoor
