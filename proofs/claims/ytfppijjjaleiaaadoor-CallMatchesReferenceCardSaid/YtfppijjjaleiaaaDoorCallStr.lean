
/- Strings as lists of bytes: sums, parts, equality. -/
import Derived.Test.YtfppijjjaleiaaaDoorCallPure
import Derived.Laws.RangeString
namespace Go.Proofs.YtfppijjjaleiaaaDoor
set_option linter.unusedSimpArgs false
set_option linter.unusedVariables false

/-- A string of bytes. -/
def mkS (l : Bs) : ByteArray := ⟨l.toArray⟩
def bsS (s : ByteArray) : Bs := s.data.toList
theorem bs_mk (l : Bs) : bsS (mkS l) = l := by simp [bsS, mkS]
theorem mk_bs (s : ByteArray) : mkS (bsS s) = s := by
  obtain ⟨⟨l⟩⟩ := s
  rfl
theorem mkS_inj {a b : Bs} (h : mkS a = mkS b) : a = b := by
  have := congrArg bsS h
  rwa [bs_mk, bs_mk] at this
theorem bsS_inj {a b : ByteArray} (h : bsS a = bsS b) : a = b := by
  rw [← mk_bs a, h, mk_bs]
theorem mkS_size (l : Bs) : (mkS l).size = l.length := rfl
theorem bsS_length (s : ByteArray) : (bsS s).length = s.size := rfl
theorem mkS_append (a b : Bs) : mkS a ++ mkS b = mkS (a ++ b) := by
  refine bsS_inj ?_
  rw [bs_mk]
  simp [bsS, mkS, ByteArray.data_append]
theorem bsS_append (a b : ByteArray) : bsS (a ++ b) = bsS a ++ bsS b := by simp [bsS, ByteArray.data_append]
theorem bsS_extract (s : ByteArray) (i j : Nat) : bsS (s.extract i j) = ((bsS s).take j).drop i := by
  simp [bsS, ByteArray.data_extract, List.drop_take]
theorem mkS_extract (l : Bs) (i j : Nat) : (mkS l).extract i j = mkS ((l.take j).drop i) := by
  refine bsS_inj ?_
  rw [bsS_extract, bs_mk, bs_mk]
theorem mkS_nil : mkS [] = ⟨#[]⟩ := rfl
theorem mk_list (y : Bs) : (mkS y).toList = y := by rw [Go.ByteArray.toList_eq]; rfl
/-- The test of two strings. -/
theorem str_eq (a b : ByteArray) : (a.toList == b.toList) = decide (bsS a = bsS b) := by
  rw [Go.ByteArray.toList_eq a, Go.ByteArray.toList_eq b]
  show (bsS a == bsS b) = _
  rw [Bool.eq_iff_iff]
  simp
end Go.Proofs.YtfppijjjaleiaaaDoor
