
/- The law CallParts: walked. -/
import Derived.Test.YtfppijjjaleiaaaDoorCallHead
import Derived.Test.YtfppijjjaleiaaaDoorCallRefV
namespace Go.Proofs.YtfppijjjaleiaaaDoor
set_option linter.unusedSimpArgs false
set_option linter.unusedVariables false
open Go.RowKit Go.Sort

set_option maxRecDepth 100000 in
set_option maxHeartbeats 4000000 in
theorem parts_any (c : Cl) (w : World) (hE : EnvB w.heap.size w) : Calls Tryd.prog 8 #[.agg #[.string (mkS c.letter), .int .i64 c.number, .int .i64 c.bars, .int .i64 c.n, .int .i64 c.d, .int .i64 c.pass]] w fun e w' => e = .returned (.bool true) ∧ Below w.heap.size w w' := by
  have HE := Lib.hid hE; clear hE
  obtain ⟨lt, nu, ba, n, d, pa⟩ := c
  dsimp only
  have hz0 : (mkS lt).size = lt.length := rfl
  go_enter Tryd.func8, Tryd.ntmps8
  go_upto_region 1 with (fail)
  have HX := Lib.hid (heap_alloc_new w (.cells #[.string (mkS lt), .int .i64 nu, .int .i64 ba, .int .i64 n, .int .i64 d, .int .i64 pa] 25))
  have HB := Lib.hid ((Below.refl w.heap.size w).alloc (Nat.le_refl _) (.cells #[.string (mkS lt), .int .i64 nu, .int .i64 ba, .int .i64 n, .int .i64 d, .int .i64 pa] 25))
  generalize w.alloc (.cells #[.string (mkS lt), .int .i64 nu, .int .i64 ba, .int .i64 n, .int .i64 d, .int .i64 pa] 25) = W at *
  have hc := box_cells HX.out
  go_upto_region 2 with (go_at_call 9; refine (head_any _ ((HE.out.below HB.out).up HB.out.size)).mono ?_; rintro e w' ⟨rfl, hb⟩; replace HX := Lib.hid (blk_keep HX.out hb); replace HB := Lib.hid (HB.out.trans (hb.mono HB.out.size)); clear hb hc; have hc := box_cells HX.out)
  by_cases hl : (300 : Int) < (lt.length : Int)
  · go_wp2
    go_ret
    exact ⟨rfl, HB.out⟩
  have HVa := Lib.hid (fun V => RValid_any ⟨lt, nu, ba, n, d, pa⟩ V)
  cases hv : validC ⟨lt, nu, ba, n, d, pa⟩
  · rw [hv] at HVa
    go_wp2_with (go_at_call 13; refine (HVa.out _).mono ?_; rintro e w' ⟨rfl, hb⟩; replace HX := Lib.hid (blk_keep HX.out hb); replace HB := Lib.hid (HB.out.trans (hb.mono HB.out.size)); clear hb hc; have hc := box_cells HX.out)
    go_ret
    exact ⟨rfl, HB.out⟩
  · rw [hv] at HVa
    have hV := (validC_iff _).1 hv
    obtain ⟨hV1, hV2⟩ := parts_valid hV
    obtain ⟨ht1, ht2⟩ := parts_text ⟨lt, nu, ba, n, d, pa⟩
    dsimp only at hV1 hV2 ht1 ht2
    have P1 := Lib.hid (print_yes hv)
    have P2 := Lib.hid (print_yes ((validC_iff _).2 hV1))
    have P3 := Lib.hid (print_yes ((validC_iff _).2 hV2))
    have hs0 := text_len hV; have hs1 := text_len hV1; have hs2 := text_len hV2
    generalize textC ⟨lt, nu, ba, n, d, pa⟩ = s at *
    generalize textC ⟨lt, nu, ba, n, d, 0⟩ = t at *
    generalize textC ⟨lt, nu, ba, 0, 1, 0⟩ = u at *
    generalize passT pa = p at *
    generalize beatT n d = q at *
    have hx1 : (mkS s).extract 0 t.length = mkS t := by rw [mkS_extract, ht1]; simp
    have hx2 : (mkS t).extract 0 u.length = mkS u := by rw [mkS_extract, ht2]; simp
    have hl1 : ¬ (s.length : Int) < (t.length : Int) := by rw [ht1, List.length_append]; omega
    have hl2 : ¬ (t.length : Int) < (u.length : Int) := by rw [ht2, List.length_append]; omega
    have hzs : (mkS s).size = s.length := rfl
    have hzt : (mkS t).size = t.length := rfl
    have hzu : (mkS u).size = u.length := rfl
    clear hV hV1 hV2 ht1 ht2 hv
    go_upto_region 5 with (first | (go_at_call 13; refine (HVa.out _).mono ?_; rintro e w' ⟨rfl, hb⟩; replace HX := Lib.hid (blk_keep HX.out hb); replace HB := Lib.hid (HB.out.trans (hb.mono HB.out.size)); clear hb hc; have hc := box_cells HX.out) | (go_at_call 10; refine (P1.out _ ((HE.out.below HB.out).up HB.out.size)).mono ?_; rintro e w' ⟨rfl, hb⟩; replace HX := Lib.hid (blk_keep HX.out hb); replace HB := Lib.hid (HB.out.trans (hb.mono HB.out.size)); clear hb hc; have hc := box_cells HX.out))
    have hf := box_free HX.out
    go_upto_region 6 with (fail)
    have y1 : (w'.setCell ⟨w.heap.size, 5, none⟩ (.int .i64 0)).heap[w.heap.size]? = some (.cells #[.string (mkS lt), .int .i64 nu, .int .i64 ba, .int .i64 n, .int .i64 d, .int .i64 0] 25 (0, 0)) := heap_setCell_same _ _ _ _ _ _ HX.out
    have yb := HB.out.setCell (p := ⟨w.heap.size, 5, none⟩) (by simp <;> omega) (.int .i64 0)
    replace HX := Lib.hid y1; replace HB := Lib.hid yb
    clear y1 yb hc hf
    generalize w'.setCell ⟨w.heap.size, 5, none⟩ (.int .i64 0) = V1 at *
    have hc := box_cells HX.out
    go_upto_region 7 with (go_at_call 10; refine (P2.out _ ((HE.out.below HB.out).up HB.out.size)).mono ?_; rintro e w' ⟨rfl, hb⟩; replace HX := Lib.hid (blk_keep HX.out hb); replace HB := Lib.hid (HB.out.trans (hb.mono HB.out.size)); clear hb hc; have hc := box_cells HX.out)
    have hf := box_free HX.out
    go_upto_region 8 with (fail)
    have y0 : (w'.setCell ⟨w.heap.size, 3, none⟩ (.int .i64 0)).heap[w.heap.size]? = some (.cells #[.string (mkS lt), .int .i64 nu, .int .i64 ba, .int .i64 0, .int .i64 d, .int .i64 0] 25 (0, 0)) := heap_setCell_same _ _ _ _ _ _ HX.out
    have y1 : ((w'.setCell ⟨w.heap.size, 3, none⟩ (.int .i64 0)).setCell ⟨w.heap.size, 4, none⟩ (.int .i64 1)).heap[w.heap.size]? = some (.cells #[.string (mkS lt), .int .i64 nu, .int .i64 ba, .int .i64 0, .int .i64 1, .int .i64 0] 25 (0, 0)) := heap_setCell_same _ _ _ _ _ _ y0
    have yb := (HB.out.setCell (p := ⟨w.heap.size, 3, none⟩) (by simp <;> omega) (.int .i64 0)).setCell (p := ⟨w.heap.size, 4, none⟩) (by simp <;> omega) (.int .i64 1)
    replace HX := Lib.hid y1; replace HB := Lib.hid yb
    clear y0 y1 yb hc hf
    generalize (w'.setCell ⟨w.heap.size, 3, none⟩ (.int .i64 0)).setCell ⟨w.heap.size, 4, none⟩ (.int .i64 1) = V2 at *
    have hc := box_cells HX.out
    go_wp2_with (go_at_call 10; refine (P3.out _ ((HE.out.below HB.out).up HB.out.size)).mono ?_; rintro e w' ⟨rfl, hb⟩; replace HX := Lib.hid (blk_keep HX.out hb); replace HB := Lib.hid (HB.out.trans (hb.mono HB.out.size)); clear hb hc; have hc := box_cells HX.out)
    go_ret
    exact ⟨ret_bool (by simp [mk_list]), HB.out⟩
end Go.Proofs.YtfppijjjaleiaaaDoor
