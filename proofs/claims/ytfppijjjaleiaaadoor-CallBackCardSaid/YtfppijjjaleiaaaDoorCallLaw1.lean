
/- The laws CallBack, CallDifferent: walked. -/
import Derived.Test.YtfppijjjaleiaaaDoorCallHead
namespace Go.Proofs.YtfppijjjaleiaaaDoor
set_option linter.unusedSimpArgs false
set_option linter.unusedVariables false
open Go.RowKit Go.Sort

set_option maxRecDepth 100000 in
set_option maxHeartbeats 4000000 in
theorem back_any (c : Cl) (w : World) (hE : EnvB w.heap.size w) : Calls Tryd.prog 4 #[.agg #[.string (mkS c.letter), .int .i64 c.number, .int .i64 c.bars, .int .i64 c.n, .int .i64 c.d, .int .i64 c.pass]] w fun e w' => e = .returned (.bool true) ∧ Below w.heap.size w w' := by
  have HX1 := Lib.hid (heap_alloc_new w (.cells #[.string (mkS c.letter), .int .i64 c.number, .int .i64 c.bars, .int .i64 c.n, .int .i64 c.d, .int .i64 c.pass] 25 (0, 0))); have HE := Lib.hid (hE.box (.cells #[.string (mkS c.letter), .int .i64 c.number, .int .i64 c.bars, .int .i64 c.n, .int .i64 c.d, .int .i64 c.pass] 25 (0, 0))); have HB := Lib.hid ((Below.refl w.heap.size w).alloc (Nat.le_refl _) (.cells #[.string (mkS c.letter), .int .i64 c.number, .int .i64 c.bars, .int .i64 c.n, .int .i64 c.d, .int .i64 c.pass] 25 (0, 0))); clear hE
  go_enter Tryd.func4, Tryd.ntmps4
  go_upto_region 1 with (fail)
  generalize w.alloc (.cells #[.string (mkS c.letter), .int .i64 c.number, .int .i64 c.bars, .int .i64 c.n, .int .i64 c.d, .int .i64 c.pass] 25 (0, 0)) = W at *
  have hc := box_cells HX1.out
  go_upto_region 2 with (go_at_call 9; refine (head_any _ HE.out).mono ?_; rintro e w' ⟨rfl, hb⟩; (replace HE := Lib.hid ((HE.out.below hb).up hb.size); replace HB := Lib.hid (HB.out.trans (hb.mono HB.out.size)); replace HX1 := Lib.hid (blk_keep HX1.out hb); clear hb hc; have hc := box_cells HX1.out))
  have hz : (mkS c.letter).size = c.letter.length := rfl
  by_cases hl : (300 : Int) < (c.letter.length : Int)
  · go_wp2
    go_ret
    exact ⟨rfl, HB.out⟩
  · cases hv : validC c
    · have HP := Lib.hid (print_no hv)
      have HVa := Lib.hid (fun W => by have := cvalid_any c W; rw [hv] at this; exact this)
      have q0 := mk_list []
      clear hv
      go_wp2_with (first | (go_at_call 10; refine (HP.out _ HE.out).mono ?_; rintro e w' ⟨rfl, hb⟩; (replace HE := Lib.hid ((HE.out.below hb).up hb.size); replace HB := Lib.hid (HB.out.trans (hb.mono HB.out.size)); replace HX1 := Lib.hid (blk_keep HX1.out hb); clear hb hc; have hc := box_cells HX1.out)) | (go_at_call 12; refine (HVa.out _).mono ?_; rintro e w' ⟨rfl, hb⟩; (replace HE := Lib.hid ((HE.out.below hb).up hb.size); replace HB := Lib.hid (HB.out.trans (hb.mono HB.out.size)); replace HX1 := Lib.hid (blk_keep HX1.out hb); clear hb hc; have hc := box_cells HX1.out)))
      go_ret
      exact ⟨rfl, HB.out⟩
    · have HP := Lib.hid (print_yes hv)
      have HQ := Lib.hid (parse_is (parse_back ((validC_iff c).1 hv)))
      have HVa := Lib.hid (fun W => by have := cvalid_any c W; rw [hv] at this; exact this)
      have HL := Lib.hid (text_len ((validC_iff c).1 hv))
      have heq := eql_cl c c
      rw [decide_eq_true rfl] at heq
      clear hv
      go_wp2_with (fail)
      refine (HP.out _ HE.out).mono ?_; rintro e w2 ⟨rfl, hb⟩; (replace HE := Lib.hid ((HE.out.below hb).up hb.size); replace HB := Lib.hid (HB.out.trans (hb.mono HB.out.size)); replace HX1 := Lib.hid (blk_keep HX1.out hb); clear hb hc; have hc := box_cells HX1.out)
      go_wp2_with (fail)
      refine (HQ.out _ HE.out).mono ?_; rintro e w3 ⟨rfl, hb⟩; (replace HE := Lib.hid ((HE.out.below hb).up hb.size); replace HB := Lib.hid (HB.out.trans (hb.mono HB.out.size)); replace HX1 := Lib.hid (blk_keep HX1.out hb); clear hb hc; have hc := box_cells HX1.out)
      go_upto_region 8 with (fail)
      replace HX1 := Lib.hid (up_alloc HX1.out (.cells #[.string (mkS c.letter), .int .i64 c.number, .int .i64 c.bars, .int .i64 c.n, .int .i64 c.d, .int .i64 c.pass] 25 (0, 0))); have HX2 := Lib.hid (heap_alloc_new w3 (.cells #[.string (mkS c.letter), .int .i64 c.number, .int .i64 c.bars, .int .i64 c.n, .int .i64 c.d, .int .i64 c.pass] 25 (0, 0))); replace HB := Lib.hid (HB.out.alloc HB.out.size (.cells #[.string (mkS c.letter), .int .i64 c.number, .int .i64 c.bars, .int .i64 c.n, .int .i64 c.d, .int .i64 c.pass] 25 (0, 0)))
      have hzt : (mkS (textC c)).size = (textC c).length := rfl
      have hl100 : ((textC c).length : Int) ≤ 200 := by have := HL.out; omega
      generalize w3.alloc (.cells #[.string (mkS c.letter), .int .i64 c.number, .int .i64 c.bars, .int .i64 c.n, .int .i64 c.d, .int .i64 c.pass] 25 (0, 0)) = W3 at *
      clear hc
      have hc := box_cells HX1.out; have hc2 := box_cells HX2.out
      go_wp2_with (go_at_call 12; refine (HVa.out _).mono ?_; rintro e w' ⟨rfl, hb⟩)
      go_ret
      exact ⟨rfl, HB.out.trans (hb.mono HB.out.size)⟩
set_option maxRecDepth 100000 in
set_option maxHeartbeats 4000000 in
theorem different_any (a b : Cl) (w : World) (hE : EnvB w.heap.size w) : Calls Tryd.prog 7 #[.agg #[.string (mkS a.letter), .int .i64 a.number, .int .i64 a.bars, .int .i64 a.n, .int .i64 a.d, .int .i64 a.pass], .agg #[.string (mkS b.letter), .int .i64 b.number, .int .i64 b.bars, .int .i64 b.n, .int .i64 b.d, .int .i64 b.pass]] w fun e w' => e = .returned (.bool true) ∧ Below w.heap.size w w' := by
  obtain ⟨x1, x2, hb0⟩ := box2 (w := w) (A := .cells #[.string (mkS a.letter), .int .i64 a.number, .int .i64 a.bars, .int .i64 a.n, .int .i64 a.d, .int .i64 a.pass] 25 (0, 0)) (B := .cells #[.string (mkS b.letter), .int .i64 b.number, .int .i64 b.bars, .int .i64 b.n, .int .i64 b.d, .int .i64 b.pass] 25 (0, 0)) (Below.refl _ _)
  have HX1 := Lib.hid x1; have HX2 := Lib.hid x2; have HB := Lib.hid hb0
  have HE := Lib.hid ((hE.box (.cells #[.string (mkS a.letter), .int .i64 a.number, .int .i64 a.bars, .int .i64 a.n, .int .i64 a.d, .int .i64 a.pass] 25 (0, 0))).box (.cells #[.string (mkS b.letter), .int .i64 b.number, .int .i64 b.bars, .int .i64 b.n, .int .i64 b.d, .int .i64 b.pass] 25 (0, 0)))
  clear x1 x2 hb0 hE
  go_enter Tryd.func7, Tryd.ntmps7
  go_upto_region 1 with (fail)
  generalize (w.alloc (.cells #[.string (mkS a.letter), .int .i64 a.number, .int .i64 a.bars, .int .i64 a.n, .int .i64 a.d, .int .i64 a.pass] 25 (0, 0))).alloc (.cells #[.string (mkS b.letter), .int .i64 b.number, .int .i64 b.bars, .int .i64 b.n, .int .i64 b.d, .int .i64 b.pass] 25 (0, 0)) = W at *
  have hc1 := box_cells HX1.out; have hc2 := box_cells HX2.out
  go_upto_region 2 with (go_at_call 9; refine (head_any _ HE.out).mono ?_; rintro e w' ⟨rfl, hb⟩; (replace HE := Lib.hid ((HE.out.below hb).up hb.size); replace HB := Lib.hid (HB.out.trans (hb.mono HB.out.size)); replace HX1 := Lib.hid (blk_keep HX1.out hb); replace HX2 := Lib.hid (blk_keep HX2.out hb); clear hb hc1 hc2; have hc1 := box_cells HX1.out; have hc2 := box_cells HX2.out))
  have hza : (mkS a.letter).size = a.letter.length := rfl
  have hzb : (mkS b.letter).size = b.letter.length := rfl
  by_cases hl : (300 : Int) < (a.letter.length : Int)
  · go_wp2
    go_ret
    exact ⟨rfl, HB.out⟩
  by_cases hl2 : (300 : Int) < (b.letter.length : Int)
  · go_wp2
    go_ret
    exact ⟨rfl, HB.out⟩
  have HPa := Lib.hid (prints_to a); have HPb := Lib.hid (prints_to b)
  cases hva : validC a
  · rw [show printC a = ([], 1) by simp [printC, hva]] at HPa
    generalize (printC b).2 = e2 at *
    generalize (printC b).1 = t2 at *
    clear hva
    go_wp2_with (first | (go_at_call 10; refine (HPa.out _ HE.out).mono ?_; rintro e w' ⟨rfl, hb⟩; (replace HE := Lib.hid ((HE.out.below hb).up hb.size); replace HB := Lib.hid (HB.out.trans (hb.mono HB.out.size)); replace HX1 := Lib.hid (blk_keep HX1.out hb); replace HX2 := Lib.hid (blk_keep HX2.out hb); clear hb hc1 hc2; have hc1 := box_cells HX1.out; have hc2 := box_cells HX2.out)) | (go_at_call 10; refine (HPb.out _ HE.out).mono ?_; rintro e w' ⟨rfl, hb⟩; (replace HE := Lib.hid ((HE.out.below hb).up hb.size); replace HB := Lib.hid (HB.out.trans (hb.mono HB.out.size)); replace HX1 := Lib.hid (blk_keep HX1.out hb); replace HX2 := Lib.hid (blk_keep HX2.out hb); clear hb hc1 hc2; have hc1 := box_cells HX1.out; have hc2 := box_cells HX2.out)))
    go_ret
    exact ⟨rfl, HB.out⟩
  · cases hvb : validC b
    · rw [show printC a = (textC a, 0) by simp [printC, hva]] at HPa
      rw [show printC b = ([], 1) by simp [printC, hvb]] at HPb
      clear hva hvb
      go_wp2_with (fail)
      refine (HPa.out _ HE.out).mono ?_; rintro e w' ⟨rfl, hb⟩; (replace HE := Lib.hid ((HE.out.below hb).up hb.size); replace HB := Lib.hid (HB.out.trans (hb.mono HB.out.size)); replace HX1 := Lib.hid (blk_keep HX1.out hb); replace HX2 := Lib.hid (blk_keep HX2.out hb); clear hb hc1 hc2; have hc1 := box_cells HX1.out; have hc2 := box_cells HX2.out)
      go_wp2_with (fail)
      refine (HPb.out _ HE.out).mono ?_; rintro e w' ⟨rfl, hb⟩; (replace HE := Lib.hid ((HE.out.below hb).up hb.size); replace HB := Lib.hid (HB.out.trans (hb.mono HB.out.size)); replace HX1 := Lib.hid (blk_keep HX1.out hb); replace HX2 := Lib.hid (blk_keep HX2.out hb); clear hb hc1 hc2; have hc1 := box_cells HX1.out; have hc2 := box_cells HX2.out)
      go_wp2
      go_ret
      exact ⟨rfl, HB.out⟩
    · rw [show printC a = (textC a, 0) by simp [printC, hva]] at HPa
      rw [show printC b = (textC b, 0) by simp [printC, hvb]] at HPb
      have heq := eql_cl a b
      have HT := Lib.hid (show decide (textC a = textC b) = decide (a = b) by
        rw [decide_eq_decide]
        exact ⟨fun h => text_inj ((validC_iff a).1 hva) ((validC_iff b).1 hvb) h, fun h => by rw [h]⟩)
      have hst := str_eq (mkS (textC a)) (mkS (textC b))
      rw [bs_mk, bs_mk, HT.out] at hst
      generalize decide (a = b) = q at *
      clear hva hvb
      go_wp2_with (fail)
      refine (HPa.out _ HE.out).mono ?_; rintro e w' ⟨rfl, hb⟩; (replace HE := Lib.hid ((HE.out.below hb).up hb.size); replace HB := Lib.hid (HB.out.trans (hb.mono HB.out.size)); replace HX1 := Lib.hid (blk_keep HX1.out hb); replace HX2 := Lib.hid (blk_keep HX2.out hb); clear hb hc1 hc2; have hc1 := box_cells HX1.out; have hc2 := box_cells HX2.out)
      go_wp2_with (fail)
      refine (HPb.out _ HE.out).mono ?_; rintro e w' ⟨rfl, hb⟩; (replace HE := Lib.hid ((HE.out.below hb).up hb.size); replace HB := Lib.hid (HB.out.trans (hb.mono HB.out.size)); replace HX1 := Lib.hid (blk_keep HX1.out hb); replace HX2 := Lib.hid (blk_keep HX2.out hb); clear hb hc1 hc2; have hc1 := box_cells HX1.out; have hc2 := box_cells HX2.out)
      cases q
      · go_wp2
        go_ret
        exact ⟨rfl, HB.out⟩
      · go_wp2
        go_ret
        exact ⟨rfl, HB.out⟩
end Go.Proofs.YtfppijjjaleiaaaDoor
