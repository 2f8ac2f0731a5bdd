
/- The reference's Parse. -/
import Derived.Test.YtfppijjjaleiaaaDoorCallRefR
import Derived.Test.YtfppijjjaleiaaaDoorCallRefD
import Derived.Test.YtfppijjjaleiaaaDoorCallRefW
import Derived.Test.YtfppijjjaleiaaaDoorCallLaw2
namespace Go.Proofs.YtfppijjjaleiaaaDoor
set_option linter.unusedSimpArgs false
set_option linter.unusedVariables false
open Go.RowKit Go.Sort

set_option maxRecDepth 100000 in
set_option maxHeartbeats 8000000 in
theorem Rparse_any (s : Bs) (w : World) : Calls Tryd.prog 15 #[.string (mkS s)] w fun e w' => e = .returned (.tuple #[.agg #[.string (mkS (parseR s).1.letter), .int .i64 (parseR s).1.number, .int .i64 (parseR s).1.bars, .int .i64 (parseR s).1.n, .int .i64 (parseR s).1.d, .int .i64 (parseR s).1.pass], .int .i64 (parseR s).2]) ∧ Below w.heap.size w w' := by
  have hz : (mkS s).size = s.length := rfl
  have HX0 := Lib.hid (heap_alloc_new w (.cells #[.string ⟨#[]⟩, .int .i64 0, .int .i64 0, .int .i64 0, .int .i64 0, .int .i64 0] 25 (0, 0)))
  have HB := Lib.hid ((Below.refl w.heap.size w).alloc (Nat.le_refl _) (.cells #[.string ⟨#[]⟩, .int .i64 0, .int .i64 0, .int .i64 0, .int .i64 0, .int .i64 0] 25 (0, 0)))
  go_enter Tryd.func15, Tryd.ntmps15
  go_upto_region 1 with (fail)
  generalize w.alloc (.cells #[.string ⟨#[]⟩, .int .i64 0, .int .i64 0, .int .i64 0, .int .i64 0, .int .i64 0] 25 (0, 0)) = W0 at *
  by_cases hl : (200 : Int) < (s.length : Int)
  · have HP := Lib.hid (show parseR s = (⟨[], 0, 0, 0, 0, 0⟩, 2) by unfold parseR; rw [if_pos (by omega)])
    have hf0 := box_free HX0.out; have hc0 := box_cells HX0.out
    go_wp2
    exact bodyPost_ret (v := .tuple #[.agg #[.string ⟨#[]⟩, .int .i64 0, .int .i64 0, .int .i64 0, .int .i64 0, .int .i64 0], .int .i64 2]) (by simp [results, Tryd.results15, go_sem, hc0, hf0]) rfl ⟨by rw [HP.out]; rfl, (((((HB.out.setCell (Nat.le_refl _) _).setCell (Nat.le_refl _) _).setCell (Nat.le_refl _) _).setCell (Nat.le_refl _) _).setCell (Nat.le_refl _) _).setCell (Nat.le_refl _) _⟩
  · have hs : s.length ≤ 200 := by omega
    have HPu := Lib.hid (show parseR s = if validC (readR (wordsL s)) = true ∧ wordsL (textC (readR (wordsL s))) = wordsL s then (readR (wordsL s), 0) else (⟨[], 0, 0, 0, 0, 0⟩, 8) by unfold parseR; rw [if_neg (by omega)])
    have HWc := Lib.hid (words_count s); have HWs := Lib.hid (words_short s)
    go_wp2_with (fail)
    refine (RWords_any s _ (by omega)).mono ?_
    rintro e w1 ⟨a1, k1, rfl, hs1, ht1, hb⟩
    replace HX0 := Lib.hid (blk_keep HX0.out hb); replace HB := Lib.hid (HB.out.trans (hb.mono HB.out.size))
    clear hb
    have HT1 := Lib.hid (show StrAt w1 a1 (wordsL s) from ht1)
    have HS1 := Lib.hid hs1.le
    clear ht1 hs1
    rw [List.length_map] at HS1 ⊢
    go_wp2_with (fail)
    refine (Rread_any (wordsL s) a1 k1 _ HT1.out HS1.out (by have := HWc.out; omega) (fun x hx => by have := HWs.out x hx; omega)).mono ?_
    rintro e w2 ⟨rfl, hb⟩
    replace HX0 := Lib.hid (blk_keep HX0.out hb); replace HB := Lib.hid (HB.out.trans (hb.mono HB.out.size))
    replace HT1 := Lib.hid (StrAt.below HT1.out hb)
    clear hb HS1
    generalize readR (wordsL s) = c at *
    go_upto_region 5 with (fail)
    have HX := Lib.hid (heap_alloc_new w2 (.cells #[.string (mkS c.letter), .int .i64 c.number, .int .i64 c.bars, .int .i64 c.n, .int .i64 c.d, .int .i64 c.pass] 25 (0, 0)))
    replace HX0 := Lib.hid (up_alloc HX0.out (.cells #[.string (mkS c.letter), .int .i64 c.number, .int .i64 c.bars, .int .i64 c.n, .int .i64 c.d, .int .i64 c.pass] 25 (0, 0)))
    replace HT1 := Lib.hid (StrAt.below HT1.out (below_box (.cells #[.string (mkS c.letter), .int .i64 c.number, .int .i64 c.bars, .int .i64 c.n, .int .i64 c.d, .int .i64 c.pass] 25 (0, 0))))
    replace HB := Lib.hid (HB.out.alloc HB.out.size (.cells #[.string (mkS c.letter), .int .i64 c.number, .int .i64 c.bars, .int .i64 c.n, .int .i64 c.d, .int .i64 c.pass] 25 (0, 0)))
    generalize w2.alloc (.cells #[.string (mkS c.letter), .int .i64 c.number, .int .i64 c.bars, .int .i64 c.n, .int .i64 c.d, .int .i64 c.pass] 25 (0, 0)) = W2 at *
    generalize w2.heap.size = bx at *
    have hc := box_cells HX.out
    have HVa := Lib.hid (fun V => RValid_any c V)
    cases hv : validC c
    · rw [hv] at HVa
      have HP := Lib.hid (show parseR s = (⟨[], 0, 0, 0, 0, 0⟩, 8) by rw [HPu.out, hv]; simp)
      go_upto_region 6 with (go_at_call 13; refine (HVa.out _).mono ?_; rintro e w' ⟨rfl, hb⟩; replace HX0 := Lib.hid (blk_keep HX0.out hb); replace HB := Lib.hid (HB.out.trans (hb.mono HB.out.size)); clear hb hc)
      have hf0 := box_free HX0.out; have hc0 := box_cells HX0.out
      go_wp2
      exact bodyPost_ret (v := .tuple #[.agg #[.string ⟨#[]⟩, .int .i64 0, .int .i64 0, .int .i64 0, .int .i64 0, .int .i64 0], .int .i64 8]) (by simp [results, Tryd.results15, go_sem, hc0, hf0]) rfl ⟨by rw [HP.out]; rfl, (((((HB.out.setCell (Nat.le_refl _) _).setCell (Nat.le_refl _) _).setCell (Nat.le_refl _) _).setCell (Nat.le_refl _) _).setCell (Nat.le_refl _) _).setCell (Nat.le_refl _) _⟩
    · rw [hv] at HVa
      rw [hv] at HPu
      have HV := Lib.hid ((validC_iff c).1 hv)
      have HL := Lib.hid (text_len ((validC_iff c).1 hv))
      clear hv
      go_wp2_with (first | (go_at_call 13; refine (HVa.out _).mono ?_; rintro e w' ⟨rfl, hb⟩; replace HX0 := Lib.hid (blk_keep HX0.out hb); replace HB := Lib.hid (HB.out.trans (hb.mono HB.out.size)); replace HX := Lib.hid (blk_keep HX.out hb); replace HT1 := Lib.hid (StrAt.below HT1.out hb); clear hb hc; have hc := box_cells HX.out) | (go_at_call 19; refine (Rtext_any c _ HV.out).mono ?_; rintro e w' ⟨rfl, hb⟩; replace HX0 := Lib.hid (blk_keep HX0.out hb); replace HB := Lib.hid (HB.out.trans (hb.mono HB.out.size)); replace HX := Lib.hid (blk_keep HX.out hb); replace HT1 := Lib.hid (StrAt.below HT1.out hb); clear hb hc; have hc := box_cells HX.out))
      refine (RWords_any (textC c) _ (by have := HL.out; omega)).mono ?_
      rintro e w5 ⟨a2, k2, rfl, hs2, ht2, hb⟩
      replace HX0 := Lib.hid (blk_keep HX0.out hb); replace HB := Lib.hid (HB.out.trans (hb.mono HB.out.size))
      replace HX := Lib.hid (blk_keep HX.out hb); replace HT1 := Lib.hid (StrAt.below HT1.out hb)
      clear hb hc
      have HT2 := Lib.hid (show StrAt w5 a2 (wordsL (textC c)) from ht2)
      clear ht2 hs2
      rw [List.length_map]
      go_wp2_with (fail)
      refine (RSame_any (wordsL (textC c)) (wordsL s) a2 a1 k2 k1 _ HT2.out HT1.out (by have := words_count (textC c); have := HL.out; omega)).mono ?_
      rintro e w6 ⟨rfl, hb⟩
      replace HX0 := Lib.hid (blk_keep HX0.out hb); replace HB := Lib.hid (HB.out.trans (hb.mono HB.out.size))
      replace HX := Lib.hid (blk_keep HX.out hb)
      clear hb
      have hc := box_cells HX.out
      have hf0 := box_free HX0.out; have hc0 := box_cells HX0.out
      by_cases he : wordsL (textC c) = wordsL s
      · rw [decide_eq_true he]
        have HP := Lib.hid (show parseR s = (c, 0) by rw [HPu.out, if_pos ⟨trivial, he⟩])
        clear he
        go_wp2
        exact bodyPost_ret (v := .tuple #[.agg #[.string (mkS c.letter), .int .i64 c.number, .int .i64 c.bars, .int .i64 c.n, .int .i64 c.d, .int .i64 c.pass], .int .i64 0]) (by simp [results, Tryd.results15, go_sem, hc0, hf0]) rfl ⟨by rw [HP.out], (((((HB.out.setCell (Nat.le_refl _) _).setCell (Nat.le_refl _) _).setCell (Nat.le_refl _) _).setCell (Nat.le_refl _) _).setCell (Nat.le_refl _) _).setCell (Nat.le_refl _) _⟩
      · rw [decide_eq_false he]
        have HP := Lib.hid (show parseR s = (⟨[], 0, 0, 0, 0, 0⟩, 8) by rw [HPu.out, if_neg (fun h => he h.2)])
        clear he
        go_wp2
        exact bodyPost_ret (v := .tuple #[.agg #[.string ⟨#[]⟩, .int .i64 0, .int .i64 0, .int .i64 0, .int .i64 0, .int .i64 0], .int .i64 8]) (by simp [results, Tryd.results15, go_sem, hc0, hf0]) rfl ⟨by rw [HP.out]; rfl, (((((HB.out.setCell (Nat.le_refl _) _).setCell (Nat.le_refl _) _).setCell (Nat.le_refl _) _).setCell (Nat.le_refl _) _).setCell (Nat.le_refl _) _).setCell (Nat.le_refl _) _⟩
end Go.Proofs.YtfppijjjaleiaaaDoor
