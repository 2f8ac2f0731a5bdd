/- More than 200 rows: every function answers ErrLimit, whatever the rows are; walked. -/
import Derived.Test.YtkpgphadgomifaaMatchLaw0
namespace Go.Proofs.Ytkpgphadgomifaa
set_option linter.unusedSimpArgs false
set_option linter.unusedVariables false
open Go.RowKit Go.Sort Go.Shelf

/-- One answer, and nothing turned. -/
def Says (v : Value) (w : World) (e : Ending) (w' : World) : Prop := e = .returned v ∧ Below w.heap.size w w'
section
variable (a a1 a2 a3 : Option Addr) (n cap n1 cap1 n2 cap2 n3 cap3 : Nat) (w : World) (h : 200 < n) (hn : n ≤ 9223372036854775807)
include h hn
theorem formed_long : Calls Try.prog 28 #[.slice a n cap] w (Says (.int .i64 2) w) := by
  go_enter Try.func28, Try.ntmps28
  go_wp2
  go_ret
  exact ⟨rfl, Below.refl _ _⟩
theorem RForm_long : Calls Try.prog 19 #[.slice a n cap] w (Says (.int .i64 2) w) := by
  go_enter Try.func19, Try.ntmps19
  go_wp2
  go_ret
  exact ⟨rfl, Below.refl _ _⟩
theorem Short_long : Calls Try.prog 16 #[.slice a n cap] w (Says (.tuple #[.slice none 0 0, .bool false, .int .i64 2]) w) := by
  go_enter Try.func16, Try.ntmps16
  go_wp2_with (fail)
  have hb := (Below.refl w.heap.size w).alloc (Nat.le_refl _) (.cells #[.slice a n cap] 22)
  have x0 := box_cells (heap_alloc_new w (.cells #[.slice a n cap] 22))
  generalize w.alloc (.cells #[.slice a n cap] 22) = w0 at *
  have HB := Lib.hid hb; clear hb
  refine (formed_long a n cap w0 h hn).mono ?_
  rintro e w' ⟨rfl, hb⟩
  replace HB := Lib.hid (HB.out.trans (hb.mono HB.out.size)); clear hb x0
  go_wp2
  go_ret3
  exact ⟨rfl, HB.out⟩
theorem Prices_long : Calls Try.prog 18 #[.slice a n cap] w (Says (.tuple #[.slice none 0 0, .slice none 0 0, .int .i64 2]) w) := by
  go_enter Try.func18, Try.ntmps18
  go_wp2_with (fail)
  refine (Short_long a n cap w h hn).mono ?_
  rintro e w' ⟨rfl, hb⟩
  have HB := Lib.hid hb; clear hb
  go_wp2
  go_ret3
  exact ⟨rfl, HB.out⟩
theorem Best_long : Calls Try.prog 11 #[.slice a n cap] w (Says (.tuple #[.slice none 0 0, .int .i64 0, .bool false, .int .i64 2]) w) := by
  go_enter Try.func11, Try.ntmps11
  go_wp2_with (fail)
  go_step3
  go_wp2_with (fail)
  refine (Prices_long a n cap _ h hn).mono ?_
  rintro e w1 ⟨rfl, hb⟩
  have x0 := box_below hb
  have HB := Lib.hid (allocB hb)
  have hc := box_cells x0; have hf := box_free x0; have hz := lt_blk x0
  clear x0 hb
  go_wp2
  rw [Exit.noGoto_ret]
  exact bodyPost_ret (v := .tuple #[.slice none 0 0, .int .i64 0, .bool false, .int .i64 2]) (by simp [results, Try.results11, go_sem]) rfl ⟨rfl, (HB.out.setCell (by simp <;> omega) _).setCell (by simp <;> omega) _⟩
theorem Proves_long : Calls Try.prog 14 #[.slice a n cap, .slice a1 n1 cap1, .slice a2 n2 cap2, .slice a3 n3 cap3] w (Says (.tuple #[.bool false, .int .i64 2]) w) := by
  go_enter Try.func14, Try.ntmps14
  go_wp2_with (fail)
  refine (formed_long a n cap w h hn).mono ?_
  rintro e w' ⟨rfl, hb⟩
  have HB := Lib.hid hb; clear hb
  go_wp2
  go_ret2
  exact ⟨rfl, HB.out⟩
theorem RProves_long : Calls Try.prog 15 #[.slice a n cap, .slice a1 n1 cap1, .slice a2 n2 cap2, .slice a3 n3 cap3] w (Says (.tuple #[.bool false, .int .i64 2]) w) := by
  go_enter Try.func15, Try.ntmps15
  go_wp2_with (fail)
  refine (RForm_long a n cap w h hn).mono ?_
  rintro e w' ⟨rfl, hb⟩
  have HB := Lib.hid hb; clear hb
  go_wp2
  go_ret2
  exact ⟨rfl, HB.out⟩
theorem RShort_long : Calls Try.prog 17 #[.slice a n cap] w (Says (.tuple #[.slice none 0 0, .bool false, .int .i64 2]) w) := by
  go_enter Try.func17, Try.ntmps17
  go_wp2_with (fail)
  refine (RForm_long a n cap w h hn).mono ?_
  rintro e w' ⟨rfl, hb⟩
  have HB := Lib.hid hb; clear hb
  go_wp2
  go_ret3
  exact ⟨rfl, HB.out⟩
theorem RBest_long : Calls Try.prog 12 #[.slice a n cap] w (Says (.tuple #[.slice none 0 0, .int .i64 0, .bool false, .int .i64 2]) w) := by
  go_enter Try.func12, Try.ntmps12
  go_wp2_with (fail)
  refine (RForm_long a n cap w h hn).mono ?_
  rintro e w' ⟨rfl, hb⟩
  have HB := Lib.hid hb; clear hb
  go_wp2
  exact bodyPost_ret (v := .tuple #[.slice none 0 0, .int .i64 0, .bool false, .int .i64 2]) (by simp [results, Try.results12, go_sem]) rfl ⟨rfl, HB.out⟩
end
end Go.Proofs.Ytkpgphadgomifaa
