
/- Calls in plain Lean: the examples at the head of each law. -/
import Derived.Test.YtfppijjjaleiaaaDoorCallPure2
namespace Go.Proofs.YtfppijjjaleiaaaDoor
set_option linter.unusedSimpArgs false
set_option linter.unusedVariables false
open Go.Lib

/-- "2 before B, beat 5/2, time 2" and the call that it says. -/
def exC : Cl := ⟨[66], 0, -2, 5, 2, 2⟩
def exS : Bs := [50, 32, 98, 101, 102, 111, 114, 101, 32, 66, 44, 32, 98, 101, 97, 116, 32, 53, 47, 50, 44, 32, 116, 105, 109, 101, 32, 50]
theorem dec_1 {k : Nat} (h : k < 10) : decDigits k = [UInt8.ofNat (48 + k)] := by rw [decDigits, dif_pos h]
theorem itoa_1 {n : Int} (h0 : 0 ≤ n) (h : n < 10) : itoa n = [UInt8.ofNat (48 + n.toNat)] := by rw [itoa_nat h0, dec_1 (by omega)]
theorem itoa_117 : itoa 117 = [49, 49, 55] := by
  rw [itoa_nat (by decide)]
  show decDigits 117 = _
  rw [decDigits, dif_neg (by decide), decDigits, dif_neg (by decide), dec_1 (by decide)]
  rfl
theorem ex_text : textC exC = exS := by
  simp [textC, barsT, placeT, beatT, fracT, passT, exC, exS, itoa_1]
theorem ex_valid : validC exC = true := by decide
theorem ex2_valid : validC ⟨[], 117, 0, 0, 1, 0⟩ = true := by decide
theorem ex3_valid : validC ⟨[], 0, 1, 3, 1, 0⟩ = true := by decide
theorem ex4_valid : validC ⟨[], 0, 0, 0, 0, 0⟩ = false := by decide
theorem ex2_text : textC ⟨[], 117, 0, 0, 1, 0⟩ = [49, 49, 55] := by simp [textC, barsT, placeT, beatT, fracT, passT, itoa_117]
theorem ex3_text : textC ⟨[], 0, 1, 3, 1, 0⟩ = [49, 32, 97, 102, 116, 101, 114, 32, 48, 44, 32, 98, 101, 97, 116, 32, 51] := by
  simp [textC, barsT, placeT, beatT, fracT, passT, itoa_1]
/-- "  2 before B ,beat 5/2,  time 2 " has the same words. -/
def exT : Bs := [32, 32, 50, 32, 98, 101, 102, 111, 114, 101, 32, 66, 32, 44, 98, 101, 97, 116, 32, 53, 47, 50, 44, 32, 32, 116, 105, 109, 101, 32, 50, 32]
theorem ex_words : wordsL exT = wordsL exS := by decide
theorem ex_parse : parseC exT = (exC, 0) := by
  have h := parse_back ((validC_iff exC).1 ex_valid)
  rw [ex_text] at h
  rw [parse_words (s := exS) (by decide) (by decide) ex_words, h]
theorem parse_no {s : Bs} (hs : s.length ≤ 200) (h : readC (wordsL s) = none) : parseC s = (⟨[], 0, 0, 0, 0, 0⟩, 8) := by
  unfold parseC
  rw [if_neg (by omega), h]
theorem numP_0 : numP [48] = some 0 := by
  have := numP_itoa (n := 0) (by decide) (by decide)
  rwa [itoa_1 (by decide) (by decide)] at this
/-- What is read has canonical words: so other words are not read. -/
theorem ex_no1 : parseC [48, 32, 97, 102, 116, 101, 114, 32, 66] = (⟨[], 0, 0, 0, 0, 0⟩, 8) := by
  refine parse_no (by decide) ?_
  have e : wordsL [48, 32, 97, 102, 116, 101, 114, 32, 66] = [[48], aftW, [66]] := by decide
  rw [e]
  simp [readC, barsP, posP, numP_0]
theorem numP_bad {s : Bs} (h : s.all digB = false) : numP s = none := by
  cases hn : numP s with
  | none => rfl
  | some n =>
    obtain ⟨h1, h2⟩ := numP_some hn
    have := (itoa_dig h2).2
    rw [h1] at this
    rw [← Bool.not_eq_true, List.all_eq_true] at h
    exact absurd this h
theorem ex_no3 : parseC [66, 32, 116, 105, 109, 101, 32, 50] = (⟨[], 0, 0, 0, 0, 0⟩, 8) := by
  refine parse_no (by decide) ?_
  have e : wordsL [66, 32, 116, 105, 109, 101, 32, 50] = [[66], timeW, [50]] := by decide
  rw [e]
  have n1 : ¬ timeW = aftW := by decide
  have n2 : ¬ timeW = befW := by decide
  have n3 : nameB [66] = true := by decide
  have n4 : ¬ timeW = [44] := by decide
  simp [readC, barsP, placeP, beatP, passP, n1, n2, n3, n4]
theorem ex_no4 : parseC [98] = (⟨[], 0, 0, 0, 0, 0⟩, 8) := by
  refine parse_no (by decide) ?_
  have e : wordsL [98] = [[98]] := by decide
  rw [e]
  have n3 : nameB [98] = false := by decide
  simp [readC, barsP, placeP, n3, numP_bad (show ([98] : Bs).all digB = false by decide)]
theorem ex_no5 : parseC [] = (⟨[], 0, 0, 0, 0, 0⟩, 8) := by
  refine parse_no (by decide) ?_
  simp [words_nil, readC, barsP, placeP]
/-- "B, beat 10/4": 10/4 is not reduced. -/
theorem ex_no2 : parseC [66, 44, 32, 98, 101, 97, 116, 32, 49, 48, 47, 52] = (⟨[], 0, 0, 0, 0, 0⟩, 8) := by
  refine parse_no (by decide) ?_
  have e : wordsL [66, 44, 32, 98, 101, 97, 116, 32, 49, 48, 47, 52] = [[66], [44], beatW, [49, 48, 47, 52]] := by decide
  rw [e]
  have n1 : ¬ ([44] : Bs) = aftW := by decide
  have n2 : ¬ ([44] : Bs) = befW := by decide
  have n3 : nameB [66] = true := by decide
  have i10 : itoa 10 = [49, 48] := by
    rw [itoa_nat (by decide)]
    show decDigits 10 = _
    rw [decDigits, dif_neg (by decide), dec_1 (by decide)]
    rfl
  have p10 : posP [49, 48] = some 10 := by
    have := posP_itoa (n := 10) (by decide) (by decide)
    rwa [i10] at this
  have p4 : numP [52] = some 4 := by
    have := numP_itoa (n := 4) (by decide) (by decide)
    rwa [itoa_1 (by decide) (by decide)] at this
  have c : cutP [49, 48, 47, 52] = ([49, 48], some [52]) := by decide
  have v : validC ⟨[66], 0, 0, 10, 4, 0⟩ = false := by decide
  simp [readC, barsP, placeP, beatP, passP, fracP, n1, n2, n3, p10, p4, c, v]
end Go.Proofs.YtfppijjjaleiaaaDoor
