
/- The law CallMatchesReference: walked. -/
import Derived.Test.YtfppijjjaleiaaaDoorCallRefP
import Derived.Test.YtfppijjjaleiaaaDoorCallHead
namespace Go.Proofs.YtfppijjjaleiaaaDoor
set_option linter.unusedSimpArgs false
set_option linter.unusedVariables false
open Go.RowKit Go.Sort

set_option maxRecDepth 100000 in
set_option maxHeartbeats 4000000 in
theorem cmatches_any (c : Cl) (s : Bs) (w : World) (hE : EnvB w.heap.size w) : Calls Tryd.prog 3 #[.agg #[.string (mkS c.letter), .int .i64 c.number, .int .i64 c.bars, .int .i64 c.n, .int .i64 c.d, .int .i64 c.pass], .string (mkS s)] w fun e w' => e = .returned (.bool true) ∧ Below w.heap.size w w' := by
  have HE := Lib.hid hE; clear hE
  have hz0 : (mkS c.letter).size = c.letter.length := rfl
  have hz1 : (mkS s).size = s.length := rfl
  go_enter Tryd.func3, Tryd.ntmps3
  go_upto_region 1 with (fail)
  have HX := Lib.hid (heap_alloc_new w (.cells #[.string (mkS c.letter), .int .i64 c.number, .int .i64 c.bars, .int .i64 c.n, .int .i64 c.d, .int .i64 c.pass] 25 (0, 0)))
  have HB := Lib.hid ((Below.refl w.heap.size w).alloc (Nat.le_refl _) (.cells #[.string (mkS c.letter), .int .i64 c.number, .int .i64 c.bars, .int .i64 c.n, .int .i64 c.d, .int .i64 c.pass] 25 (0, 0)))
  generalize w.alloc (.cells #[.string (mkS c.letter), .int .i64 c.number, .int .i64 c.bars, .int .i64 c.n, .int .i64 c.d, .int .i64 c.pass] 25 (0, 0)) = W at *
  have hc := box_cells HX.out
  go_upto_region 2 with (go_at_call 9; refine (head_any _ ((HE.out.below HB.out).up HB.out.size)).mono ?_; rintro e w' ⟨rfl, hb⟩; replace HX := Lib.hid (blk_keep HX.out hb); replace HB := Lib.hid (HB.out.trans (hb.mono HB.out.size)); clear hb hc; have hc := box_cells HX.out)
  by_cases hl : (300 : Int) < (s.length : Int)
  · go_wp2
    go_ret
    exact ⟨rfl, HB.out⟩
  by_cases hl2 : (300 : Int) < (c.letter.length : Int)
  · go_wp2
    go_ret
    exact ⟨rfl, HB.out⟩
  have P1 := Lib.hid (prints_to c)
  have P2 := Lib.hid (fun V => RPrint_any c V)
  have HV1 := Lib.hid (fun V => cvalid_any c V)
  have HV2 := Lib.hid (fun V => RValid_any c V)
  have HPs := Lib.hid (parses_to s)
  have HPr := Lib.hid (fun V => Rparse_any s V)
  rw [← parse_same] at HPr
  generalize printC c = pr at *
  obtain ⟨pt, pe⟩ := pr
  generalize parseC s = ps at *
  obtain ⟨pc, pn⟩ := ps
  generalize validC c = VV at *
  go_upto_region 6 with (first | (go_at_call 10; refine (P1.out _ ((HE.out.below HB.out).up HB.out.size)).mono ?_; rintro e w' ⟨rfl, hb⟩; replace HX := Lib.hid (blk_keep HX.out hb); replace HB := Lib.hid (HB.out.trans (hb.mono HB.out.size)); clear hb hc; have hc := box_cells HX.out) | (go_at_call 11; refine (P2.out _).mono ?_; rintro e w' ⟨rfl, hb⟩; replace HX := Lib.hid (blk_keep HX.out hb); replace HB := Lib.hid (HB.out.trans (hb.mono HB.out.size)); clear hb hc; have hc := box_cells HX.out))
  generalize (w' : World) = V0 at *
  go_cut [5] from 33 (fun s5 V => s5 = .bool true ∧ Below V0.heap.size V0 V)
  case first =>
    have g0 := cell_regrown (box_cells HX.out 0); have g1 := cell_regrown (box_cells HX.out 1); have g2 := cell_regrown (box_cells HX.out 2); have g3 := cell_regrown (box_cells HX.out 3); have g4 := cell_regrown (box_cells HX.out 4); have g5 := cell_regrown (box_cells HX.out 5)
    cases VV
    · refine wp_quietB (by kernel_rfl) (by kernel_rfl) ?_
      repeat (go_big_quiet_step (first | (go_at_call 12; refine Calls.regrown_of (HV1.out _)) | (go_at_call 13; refine Calls.regrown_of (HV2.out _))))
      refine wpQuiet_nil ?_
      intro w2 hb2
      go_wp2
      go_meet
      case rel => exact ⟨rfl, hb2⟩
    · refine wp_quietB (by kernel_rfl) (by kernel_rfl) ?_
      repeat (go_big_quiet_step (first | (go_at_call 12; refine Calls.regrown_of (HV1.out _)) | (go_at_call 13; refine Calls.regrown_of (HV2.out _))))
      refine wpQuiet_nil ?_
      intro w2 hb2
      go_wp2
      go_meet
      case rel => exact ⟨rfl, hb2⟩
  case rest =>
  obtain ⟨rfl, hb⟩ := hcut
  replace HX := Lib.hid (blk_keep HX.out hb); replace HB := Lib.hid (HB.out.trans (hb.mono HB.out.size)); clear hb hc; have hc := box_cells HX.out
  generalize (wc : World) = V1 at *
  clear hc
  replace HE := Lib.hid ((HE.out.below HB.out).up HB.out.size)
  go_upto_region 8 with (go_at_call 14; refine (HPs.out _ HE.out).mono ?_; rintro e w2 ⟨rfl, hb⟩; replace HE := Lib.hid ((HE.out.below hb).up hb.size); replace HB := Lib.hid (HB.out.trans (hb.mono HB.out.size)); clear hb)
  replace HX := Lib.hid (heap_alloc_new w2 (.cells #[.string (mkS pc.letter), .int .i64 pc.number, .int .i64 pc.bars, .int .i64 pc.n, .int .i64 pc.d, .int .i64 pc.pass] 25 (0, 0)))
  replace HB := Lib.hid (HB.out.alloc HB.out.size (.cells #[.string (mkS pc.letter), .int .i64 pc.number, .int .i64 pc.bars, .int .i64 pc.n, .int .i64 pc.d, .int .i64 pc.pass] 25 (0, 0)))
  generalize w2.alloc (.cells #[.string (mkS pc.letter), .int .i64 pc.number, .int .i64 pc.bars, .int .i64 pc.n, .int .i64 pc.d, .int .i64 pc.pass] 25 (0, 0)) = W2 at *
  generalize w2.heap.size = b1 at *
  go_upto_region 9 with (go_at_call 15; refine (HPr.out _).mono ?_; rintro e w3 ⟨rfl, hb⟩; replace HX := Lib.hid (blk_keep HX.out hb); replace HB := Lib.hid (HB.out.trans (hb.mono HB.out.size)); clear hb)
  have HY := Lib.hid (heap_alloc_new w3 (.cells #[.string (mkS pc.letter), .int .i64 pc.number, .int .i64 pc.bars, .int .i64 pc.n, .int .i64 pc.d, .int .i64 pc.pass] 25 (0, 0)))
  replace HX := Lib.hid (up_alloc HX.out (.cells #[.string (mkS pc.letter), .int .i64 pc.number, .int .i64 pc.bars, .int .i64 pc.n, .int .i64 pc.d, .int .i64 pc.pass] 25 (0, 0)))
  replace HB := Lib.hid (HB.out.alloc HB.out.size (.cells #[.string (mkS pc.letter), .int .i64 pc.number, .int .i64 pc.bars, .int .i64 pc.n, .int .i64 pc.d, .int .i64 pc.pass] 25 (0, 0)))
  generalize w3.alloc (.cells #[.string (mkS pc.letter), .int .i64 pc.number, .int .i64 pc.bars, .int .i64 pc.n, .int .i64 pc.d, .int .i64 pc.pass] 25 (0, 0)) = W3 at *
  generalize w3.heap.size = b2 at *
  have hc1 := box_cells HX.out; have hc2 := box_cells HY.out
  have heq := eql_cl pc pc
  rw [decide_eq_true rfl] at heq
  go_wp2
  go_ret
  exact ⟨rfl, HB.out⟩
end Go.Proofs.YtfppijjjaleiaaaDoor
