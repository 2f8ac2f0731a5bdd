
/- Calls in plain Lean: further blanks, word by word (the loop of CallBlanks). -/
import Derived.Test.YtfppijjjaleiaaaDoorCallPure2
namespace Go.Proofs.YtfppijjjaleiaaaDoor
set_option linter.unusedSimpArgs false
set_option linter.unusedVariables false
open Go.Lib

theorem wide_app (f : Nat → Nat) : ∀ (a b : List Bs) (i : Nat), wideL f i (a ++ b) = wideL f i a ++ wideL f (i + a.length) b
  | [], b, i => by simp [wideL]
  | w :: a, b, i => by
    rw [List.cons_append, wideL, wideL, wide_app f a b (i + 1), List.length_cons]
    rw [show i + (a.length + 1) = i + 1 + a.length by omega]
    simp
theorem wide_succ (f : Nat → Nat) (l : List Bs) (i : Nat) (h : i < l.length) : wideL f 0 (l.take (i + 1)) = wideL f 0 (l.take i) ++ List.replicate (f i) 32 ++ (32 :: l[i]) := by
  rw [List.take_succ_eq_append_getElem h, wide_app]
  have : 0 + (l.take i).length = i := by rw [List.length_take]; omega
  rw [this, wideL, wideL]
  simp
/-- Whether the last word is one and no comma. -/
def lastB (b : Bool) (l : List Bs) : Bool := match l.getLast? with
  | none => b
  | some w => decide (w ≠ [44])
theorem last_cons (b : Bool) (w : Bs) (l : List Bs) : lastB b (w :: l) = lastB (decide (w ≠ [44])) l := by
  unfold lastB
  cases l with
  | nil => rfl
  | cons x l => rw [List.getLast?_cons_cons]; cases h : (x :: l).getLast? with
    | none => simp at h
    | some y => rfl
theorem tight_app : ∀ (a b : List Bs) (c : Bool), tightL c (a ++ b) = tightL c a ++ tightL (lastB c a) b
  | [], b, c => by simp [tightL, lastB]
  | w :: a, b, c => by
    rw [List.cons_append, tightL, tightL, tight_app a b, last_cons]
    simp
theorem tight_succ (l : List Bs) (i : Nat) (h : i < l.length) : tightL false (l.take (i + 1)) = tightL false (l.take i) ++ (if 0 < i ∧ l[i] ≠ [44] ∧ l[i - 1] ≠ [44] then 32 :: l[i] else l[i]) := by
  rw [List.take_succ_eq_append_getElem h, tight_app, tightL, tightL, List.append_nil]
  congr 1
  have e : lastB false (l.take i) = decide (0 < i ∧ l[i - 1] ≠ [44]) := by
    unfold lastB
    cases i with
    | zero => simp
    | succ k =>
      rw [List.take_succ_eq_append_getElem (by omega), List.getLast?_append]
      simp
  rw [e]
  by_cases h1 : 0 < i ∧ l[i - 1] ≠ [44]
  · by_cases h2 : l[i] ≠ [44]
    · rw [if_pos ⟨decide_eq_true h1, h2⟩, if_pos ⟨h1.1, h2, h1.2⟩]
    · simp only [h2, and_false, false_and, if_false]
  · have h1' : ¬ (0 < i ∧ l[i] ≠ [44] ∧ l[i - 1] ≠ [44]) := fun ⟨a, _, c⟩ => h1 ⟨a, c⟩
    rw [if_neg h1', if_neg]
    rintro ⟨a, _⟩
    exact h1 (of_decide_eq_true a)
theorem wide_all (f : Nat → Nat) (s : Bs) : wordsL (wideL f 0 (wordsL s)) = wordsL s := words_wide f _ 0 (words_ok s)
theorem tight_all (s : Bs) : wordsL (tightL false (wordsL s)) = wordsL s := (words_tight _ false (words_ok s)).1
theorem blanks_wide (f : Nat → Nat) {s : Bs} (hs : s.length ≤ 200) (h : (wideL f 0 (wordsL s)).length ≤ 200) : parseC (wideL f 0 (wordsL s)) = parseC s := parse_words hs h (wide_all f s)
theorem blanks_tight {s : Bs} (hs : s.length ≤ 200) : parseC (tightL false (wordsL s)) = parseC s := parse_words hs (Nat.le_trans (tight_short s) hs) (tight_all s)
/-- CallParts. -/
theorem parts_valid {c : Cl} (h : VC c) : VC { c with pass := 0 } ∧ VC { c with pass := 0, n := 0, d := 1 } :=
  ⟨⟨h.place, h.d1, h.gcd, h.n0, h.div, h.n1, h.b0, h.b1, (by decide : (0 : Int) ≤ 0), (by decide : (0 : Int) ≤ 20000)⟩, ⟨h.place, (by decide : (1 : Int) ≤ 1), (by decide : Nat.gcd (0 : Int).natAbs (1 : Int).natAbs = 1), (by decide : (0 : Int) ≤ 0), (by decide : (1680 : Int) % 1 = 0), (by decide : (0 : Int) < 24 * 1), h.b0, h.b1, (by decide : (0 : Int) ≤ 0), (by decide : (0 : Int) ≤ 20000)⟩⟩
theorem parts_text (c : Cl) : textC c = textC { c with pass := 0 } ++ passT c.pass ∧ textC { c with pass := 0 } = textC { c with pass := 0, n := 0, d := 1 } ++ beatT c.n c.d := by
  constructor
  · simp [textC, passT, placeT]
  · simp [textC, passT, beatT, placeT]
end Go.Proofs.YtfppijjjaleiaaaDoor
