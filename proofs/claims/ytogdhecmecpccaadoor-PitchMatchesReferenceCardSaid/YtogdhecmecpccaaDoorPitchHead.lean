/- The head of the laws on pitches: the examples of the chapter. -/
import Derived.Test.YtogdhecmecpccaaDoorPitchParse
namespace Go.Proofs.YtogdhecmecpccaaDoor
set_option linter.unusedSimpArgs false
set_option linter.unusedVariables false
open Go.RowKit Go.Sort

theorem itoa_inj {a b : Int} (h0 : -8 ≤ a) (h1 : a ≤ 20) (h2 : -8 ≤ b) (h3 : b ≤ 20) (h : Lib.itoa a = Lib.itoa b) : a = b := by
  have e1 := (itoa_ok a h0 h1).1
  have e2 := (itoa_ok b h2 h3).1
  rw [h, e2] at e1
  cases e1; rfl
theorem text_len {s a o s' a' o' : Int} (hv : vldB s a o = true) (hv' : vldB s' a' o' = true) (h : textS s a o = textS s' a' o') : ¬ a.natAbs < a'.natAbs := by
  intro hlt
  obtain ⟨⟨p1, p2⟩, _, p5, p6⟩ := (vld_iff s a o).1 hv
  obtain ⟨⟨q1, q2⟩, _⟩ := (vld_iff s' a' o').1 hv'
  have T := textAt s a o p1 p2
  have T' := textAt s' a' o' q1 q2
  rw [← h] at T'
  obtain ⟨c, hc, hc1, hc2, _⟩ := tail_at T p5 p6
  have := T'.sign (1 + a.natAbs) (by omega) (by omega)
  rw [hc] at this
  split at this
  · cases this; exact hc1 rfl
  · cases this; exact hc2 rfl
theorem text_inj {s a o s' a' o' : Int} (hv : vldB s a o = true) (hv' : vldB s' a' o' = true) (h : textS s a o = textS s' a' o') : s = s' ∧ a = a' ∧ o = o' := by
  have l1 := text_len hv hv' h
  have l2 := text_len hv' hv h.symm
  obtain ⟨⟨p1, p2⟩, _, p5, p6⟩ := (vld_iff s a o).1 hv
  obtain ⟨⟨q1, q2⟩, _, q5, q6⟩ := (vld_iff s' a' o').1 hv'
  have T := textAt s a o p1 p2
  have T' := textAt s' a' o' q1 q2
  rw [← h] at T'
  have he : a.natAbs = a'.natAbs := by omega
  refine ⟨?_, ?_, ?_⟩
  · obtain ⟨c, hc, _, hc2, _⟩ := letter_lt s.toNat (by omega)
    obtain ⟨c', hc', _, hc2', _⟩ := letter_lt s'.toNat (by omega)
    have e := T.first.symm.trans T'.first
    rw [hc, hc'] at e
    cases e
    rw [hc2] at hc2'
    omega
  · by_cases hz : a.natAbs = 0
    · omega
    · have e := (T.sign 1 (Nat.le_refl _) (by omega)).symm.trans (T'.sign 1 (Nat.le_refl _) (by omega))
      by_cases ha : 0 ≤ a <;> by_cases ha' : 0 ≤ a' <;> simp [ha, ha'] at e <;> omega
  · have e := T.tail.symm.trans (he ▸ T'.tail)
    exact itoa_inj p5 p6 q5 q6 e
/-- Parse at a text. -/
theorem Parse_text (s a o : Int) (x : ByteArray) (w : World) (hx : textS s a o = x) (hv : vldB s a o = true) (hE : Env w) :
    Calls Tryd.prog 14 #[.string x] w fun e w' => e = .returned (.tuple #[.agg #[.int .i64 s, .int .i64 a, .int .i64 o], .int .i64 0]) ∧ Below w.heap.size w w' := by
  subst hx
  obtain ⟨⟨p1, p2⟩, ⟨p3, p4⟩, p5, p6⟩ := (vld_iff s a o).1 hv
  have hsz : (textS s a o).size ≤ 1000 := by
    have h1 := (textAt s a o p1 p2).size
    have h2 := itoaS_size o (by omega) (by omega)
    have h3 : (itoaS o).size = (Lib.itoa o).length := rfl
    omega
  refine (Parse_any _ w hsz hE).mono ?_
  rintro e w' ⟨r0, r1, r2, r3, rfl, hp, hb⟩
  rcases hp with ⟨rfl, hv', ht⟩ | ⟨_, _, _, _, hno⟩
  · obtain ⟨rfl, rfl, rfl⟩ := text_inj hv' hv ht
    exact ⟨rfl, hb⟩
  · exact absurd rfl (hno s a o hv)
theorem Parse_no (x : ByteArray) (w : World) (hx : NoText x) (hs : x.size ≤ 1000) (hE : Env w) :
    Calls Tryd.prog 14 #[.string x] w fun e w' => e = .returned (.tuple #[.agg #[.int .i64 0, .int .i64 0, .int .i64 0], .int .i64 7]) ∧ Below w.heap.size w w' := by
  refine (Parse_any _ w hs hE).mono ?_
  rintro e w' ⟨r0, r1, r2, r3, rfl, hp, hb⟩
  rcases hp with ⟨rfl, hv', ht⟩ | ⟨rfl, rfl, rfl, rfl, hno⟩
  · exact absurd ht (hx _ _ _ hv')
  · exact ⟨rfl, hb⟩
theorem text_b : textS 6 (-2) (-1) = ⟨#[66, 98, 98, 45, 49]⟩ := by
  unfold textS textL; rw [itoa_small _ (by decide) (by decide)]; decide
theorem text_f : textS 3 1 4 = ⟨#[70, 35, 52]⟩ := by
  unfold textS textL; rw [itoa_small _ (by decide) (by decide)]; decide
theorem no_h4 : NoText ⟨#[72, 52]⟩ := by
  intro s a o hv ht
  obtain ⟨⟨p1, p2⟩, _⟩ := (vld_iff s a o).1 hv
  have T := (textAt s a o p1 p2).first
  rw [ht] at T
  have h : s = 0 ∨ s = 1 ∨ s = 2 ∨ s = 3 ∨ s = 4 ∨ s = 5 ∨ s = 6 := by omega
  rcases h with rfl | rfl | rfl | rfl | rfl | rfl | rfl <;> exact absurd T (by decide)
theorem of_any (s a o : Int) (w : World) : Calls Tryd.prog 27 #[.int .i64 s, .int .i64 a, .int .i64 o] w fun e w' => e = .returned (.agg #[.int .i64 s, .int .i64 a, .int .i64 o]) ∧ Below w.heap.size w w' := by
  go_enter Tryd.func27, Tryd.ntmps27
  go_wp2
  exact bodyPost_ret (v := .agg #[.int .i64 s, .int .i64 a, .int .i64 o]) (by simp [results, Tryd.results27, go_sem]) rfl ⟨rfl, (Below.refl _ _).alloc (Nat.le_refl _) _⟩
theorem eql_pi (s a o s' a' o' : Int) (w : World) : (binOp .eql 23 (.agg #[.int .i64 s, .int .i64 a, .int .i64 o]) (.agg #[.int .i64 s', .int .i64 a', .int .i64 o'])).run Tryd.prog w = .ok (.bool (s == s' && (a == a' && o == o'))) w := by
  rw [run_eql_struct]
  simp [go_sem]
  cases h1 : s == s' <;> cases h2 : a == a' <;> cases h3 : o == o' <;> simp_all [go_sem]

end Go.Proofs.YtogdhecmecpccaaDoor
