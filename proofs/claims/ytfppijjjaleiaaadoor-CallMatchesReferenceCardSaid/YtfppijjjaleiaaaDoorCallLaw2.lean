
/- The law CallSources: walked. -/
import Derived.Test.YtfppijjjaleiaaaDoorCallHead
import Derived.Test.YtfppijjjaleiaaaDoorCallRefW
namespace Go.Proofs.YtfppijjjaleiaaaDoor
set_option linter.unusedSimpArgs false
set_option linter.unusedVariables false
open Go.RowKit Go.Sort

theorem wordsA_count : ∀ (s cur : Bs), (wordsA cur s).length ≤ 2 * s.length + 1
  | [], cur => by rw [wordsA]; have := flush_len cur; omega
  | c :: r, cur => by
    have h1 := flush_len cur
    have h2 := wordsA_count r []
    have h3 := wordsA_count r (cur ++ [c])
    rw [wordsA]
    split
    · simp; omega
    · split
      · simp; omega
      · simp; omega
theorem words_count (s : Bs) : (wordsL s).length ≤ 2 * s.length + 1 := wordsA_count s []
theorem wordsA_short : ∀ (s cur : Bs), ∀ x ∈ wordsA cur s, x.length ≤ cur.length + s.length + 1
  | [], cur => by
    intro x hx
    simp only [wordsA, flushW] at hx
    split at hx
    · cases hx
    · rw [List.mem_singleton] at hx; subst hx; simp <;> omega
  | c :: r, cur => by
    intro x hx
    have hf : ∀ x ∈ flushW cur, x.length ≤ cur.length := by
      intro x hx
      simp only [flushW] at hx
      split at hx
      · cases hx
      · rw [List.mem_singleton] at hx; subst hx; exact Nat.le_refl _
    have h2 := wordsA_short r []
    have h3 := wordsA_short r (cur ++ [c])
    rw [wordsA] at hx
    split at hx
    · rcases List.mem_append.1 hx with hx | hx
      · have := hf x hx; simp; omega
      · have := h2 x hx; simp at this ⊢; omega
    · split at hx
      · rcases List.mem_append.1 hx with hx | hx
        · have := hf x hx; simp; omega
        · rcases List.mem_cons.1 hx with hx | hx
          · subst hx; simp
          · have := h2 x hx; simp at this ⊢; omega
      · have := h3 x hx; simp at this ⊢; omega
theorem words_short (s : Bs) : ∀ x ∈ wordsL s, x.length ≤ s.length + 1 := fun x hx => by have := wordsA_short s [] x hx; simpa using this
theorem parse_cases (s : Bs) : (200 < s.length ∧ parseC s = (⟨[], 0, 0, 0, 0, 0⟩, 2)) ∨ (s.length ≤ 200 ∧ parseC s = (⟨[], 0, 0, 0, 0, 0⟩, 8)) ∨ (s.length ≤ 200 ∧ ∃ c, parseC s = (c, 0) ∧ validC c = true ∧ wordsL (textC c) = wordsL s) := by
  by_cases hs : 200 < s.length
  · exact .inl ⟨hs, by unfold parseC; rw [if_pos hs]⟩
  · cases hr : readC (wordsL s) with
    | none => exact .inr (.inl ⟨by omega, by unfold parseC; rw [if_neg hs, hr]⟩)
    | some c =>
      have hp : parseC s = (c, 0) := by unfold parseC; rw [if_neg hs, hr]
      obtain ⟨h1, h2⟩ := parse_says hp
      exact .inr (.inr ⟨by omega, c, hp, (validC_iff c).2 h1, h2⟩)
set_option maxRecDepth 100000 in
set_option maxHeartbeats 4000000 in
theorem sources_any (s : Bs) (w : World) (hE : EnvB w.heap.size w) : Calls Tryd.prog 5 #[.string (mkS s)] w fun e w' => e = .returned (.bool true) ∧ Below w.heap.size w w' := by
  have HE := Lib.hid hE; have HB := Lib.hid (Below.refl w.heap.size w)
  clear hE
  have hz : (mkS s).size = s.length := rfl
  go_enter Tryd.func5, Tryd.ntmps5
  go_upto_region 2 with (go_at_call 9; refine (head_any _ HE.out).mono ?_; rintro e w' ⟨rfl, hb⟩; replace HE := Lib.hid ((HE.out.below hb).up hb.size); replace HB := Lib.hid (HB.out.trans (hb.mono HB.out.size)); clear hb)
  by_cases hl : (300 : Int) < (s.length : Int)
  · go_wp2
    go_ret
    exact ⟨rfl, HB.out⟩
  have q0 := mk_list []
  rcases parse_cases s with ⟨h1, hp⟩ | ⟨h1, hp⟩ | ⟨h1, c, hp, hv, hw⟩
  · have HP := Lib.hid (parse_is hp)
    have hg : (200 : Int) < (s.length : Int) := by omega
    clear hp
    go_wp2_with (fail)
    refine (HP.out _ HE.out).mono ?_
    rintro e w2 ⟨rfl, hb⟩
    replace HE := Lib.hid ((HE.out.below hb).up hb.size); replace HB := Lib.hid (HB.out.trans (hb.mono HB.out.size))
    clear hb
    have HX := Lib.hid (heap_alloc_new w2 (.cells #[.string (mkS zeroC.letter), .int .i64 zeroC.number, .int .i64 zeroC.bars, .int .i64 zeroC.n, .int .i64 zeroC.d, .int .i64 zeroC.pass] 25 (0, 0)))
    have hc := box_cells HX.out
    simp only [zeroC] at hc
    go_wp2
    go_ret
    exact ⟨ret_bool (by simp <;> omega), HB.out.alloc HB.out.size _⟩
  · have HP := Lib.hid (parse_is hp)
    have hg : ¬ (200 : Int) < (s.length : Int) := by omega
    clear hp
    go_wp2_with (fail)
    refine (HP.out _ HE.out).mono ?_
    rintro e w2 ⟨rfl, hb⟩
    replace HE := Lib.hid ((HE.out.below hb).up hb.size); replace HB := Lib.hid (HB.out.trans (hb.mono HB.out.size))
    clear hb
    have HX := Lib.hid (heap_alloc_new w2 (.cells #[.string (mkS zeroC.letter), .int .i64 zeroC.number, .int .i64 zeroC.bars, .int .i64 zeroC.n, .int .i64 zeroC.d, .int .i64 zeroC.pass] 25 (0, 0)))
    have hc := box_cells HX.out
    simp only [zeroC] at hc
    go_wp2
    go_ret
    exact ⟨ret_bool (by simp <;> omega), HB.out.alloc HB.out.size _⟩
  · have HP := Lib.hid (parse_is hp)
    have HPr := Lib.hid (print_yes hv)
    have HVa := Lib.hid (fun W => by have := cvalid_any c W; rw [hv] at this; exact this)
    have HL := Lib.hid (text_len ((validC_iff c).1 hv))
    have HW := Lib.hid hw
    clear hp hv hw
    go_upto_region 5 with (go_at_call 14; refine (HP.out _ HE.out).mono ?_; rintro e w2 ⟨rfl, hb⟩; replace HE := Lib.hid ((HE.out.below hb).up hb.size); replace HB := Lib.hid (HB.out.trans (hb.mono HB.out.size)); clear hb)
    have HX := Lib.hid (heap_alloc_new w2 (.cells #[.string (mkS c.letter), .int .i64 c.number, .int .i64 c.bars, .int .i64 c.n, .int .i64 c.d, .int .i64 c.pass] 25 (0, 0)))
    replace HE := Lib.hid (HE.out.box (.cells #[.string (mkS c.letter), .int .i64 c.number, .int .i64 c.bars, .int .i64 c.n, .int .i64 c.d, .int .i64 c.pass] 25 (0, 0))); replace HB := Lib.hid (HB.out.alloc HB.out.size (.cells #[.string (mkS c.letter), .int .i64 c.number, .int .i64 c.bars, .int .i64 c.n, .int .i64 c.d, .int .i64 c.pass] 25 (0, 0)))
    generalize w2.alloc (.cells #[.string (mkS c.letter), .int .i64 c.number, .int .i64 c.bars, .int .i64 c.n, .int .i64 c.d, .int .i64 c.pass] 25 (0, 0)) = W2 at *
    have hc := box_cells HX.out
    go_wp2_with (first | (go_at_call 10; refine (HPr.out _ HE.out).mono ?_; rintro e w3 ⟨rfl, hb⟩; replace HE := Lib.hid ((HE.out.below hb).up hb.size); replace HB := Lib.hid (HB.out.trans (hb.mono HB.out.size)); replace HX := Lib.hid (blk_keep HX.out hb); clear hb hc; have hc := box_cells HX.out) | (go_at_call 12; refine (HVa.out _).mono ?_; rintro e w4 ⟨rfl, hb⟩; replace HE := Lib.hid ((HE.out.below hb).up hb.size); replace HB := Lib.hid (HB.out.trans (hb.mono HB.out.size)); clear hb hc))
    refine (RWords_any (textC c) _ (by have := HL.out; omega)).mono ?_
    rintro e w5 ⟨a1, c1, rfl, hs1, ht1, hb⟩
    replace HE := Lib.hid ((HE.out.below hb).up hb.size); replace HB := Lib.hid (HB.out.trans (hb.mono HB.out.size))
    clear hb
    have HT1 := Lib.hid ht1
    rw [List.length_map]
    go_wp2_with (fail)
    refine (RWords_any s _ (by omega)).mono ?_
    rintro e w6 ⟨a2, c2, rfl, hs2, ht2, hb⟩
    replace HE := Lib.hid ((HE.out.below hb).up hb.size); replace HB := Lib.hid (HB.out.trans (hb.mono HB.out.size))
    replace HT1 := Lib.hid (SlAt.below HT1.out hb)
    clear hb
    rw [List.length_map]
    go_wp2_with (fail)
    refine (RSame_any (wordsL (textC c)) (wordsL s) a1 a2 c1 c2 _ HT1.out ht2 ?_).mono ?_
    · have := words_count (textC c); have := HL.out; omega
    rintro e w7 ⟨rfl, hb⟩
    rw [decide_eq_true HW.out]
    go_wp2
    go_ret
    exact ⟨rfl, HB.out.trans (hb.mono HB.out.size)⟩
end Go.Proofs.YtfppijjjaleiaaaDoor
