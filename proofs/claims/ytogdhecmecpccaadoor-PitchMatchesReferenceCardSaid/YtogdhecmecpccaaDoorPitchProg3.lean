/- The contract of pitch.Add. -/
import Derived.Test.YtogdhecmecpccaaDoorPitchProg2
import Derived.Test.YtogdhecmecpccaaDoorRegLib
import Derived.IntWalk
namespace Go.Proofs.YtogdhecmecpccaaDoor
set_option linter.unusedSimpArgs false
set_option linter.unusedVariables false
open Go.RowKit Go.Sort
def addR (s a o x y : Int) : Int × Int × Int × Int :=
  if vldB s a o && frmB x y then
    if vldB ((7 * o + s + x) % 7) (12 * o + natI s + a + y - (12 * ((7 * o + s + x) / 7) + natI ((7 * o + s + x) % 7))) ((7 * o + s + x) / 7) then ((7 * o + s + x) % 7, 12 * o + natI s + a + y - (12 * ((7 * o + s + x) / 7) + natI ((7 * o + s + x) % 7)), (7 * o + s + x) / 7, 0) else (0, 0, 0, 3)
  else (0, 0, 0, 1)
/-- The cells of the pitch and of the interval that Add was called with. -/
def SA (B : Nat) (s a o x y : Int) (W : World) : Prop := (W.cell? ⟨B, 0, none⟩ = some (.int .i64 s) ∧ W.cell? ⟨B, 1, none⟩ = some (.int .i64 a) ∧ W.cell? ⟨B, 2, none⟩ = some (.int .i64 o)) ∧ W.cell? ⟨B + 1, 0, none⟩ = some (.int .i64 x) ∧ W.cell? ⟨B + 1, 1, none⟩ = some (.int .i64 y)
theorem eql_iv (x y x' y' : Int) (w : World) : (binOp .eql 25 (.agg #[.int .i64 x, .int .i64 y]) (.agg #[.int .i64 x', .int .i64 y'])).run Tryd.prog w = .ok (.bool (x == x' && y == y')) w := by
  rw [run_eql_struct]
  simp [go_sem]
  cases h1 : x == x' <;> cases h2 : y == y' <;> simp_all [go_sem]
set_option maxRecDepth 100000 in
set_option maxHeartbeats 4000000 in
theorem Add_bad (s a o x y : Int) (w : World) (hv : (vldB s a o && frmB x y) = false) : Calls Tryd.prog 11 #[.agg #[.int .i64 s, .int .i64 a, .int .i64 o], .agg #[.int .i64 x, .int .i64 y]] w fun e w' => e = .returned (.tuple #[.agg #[.int .i64 0, .int .i64 0, .int .i64 0], .int .i64 1]) ∧ Below w.heap.size w w' := by
  cases h1 : vldB s a o
  · clear hv
    go_enter Tryd.func11, Tryd.ntmps11
    go_wp2_with (go_at_call 17; refine (PValid_any _ _ _ _).mono ?_; rintro e w' ⟨rfl, hb⟩; obtain ⟨x1, x2, x3, hb'⟩ := box3 hb; have HX1 := Lib.hid x1; have HX2 := Lib.hid x2; have HX3 := Lib.hid x3; have hc1 := box_cells x1; have hc2 := box_cells x2; have hc3 := box_cells x3; have hf3 := box_free x3; have HB := Lib.hid hb'; clear hb hb' x1 x2 x3)
    exact bodyPost_ret (v := .tuple #[.agg #[.int .i64 0, .int .i64 0, .int .i64 0], .int .i64 1]) (by simp [results, Tryd.results11, go_sem, hc3, hf3]) rfl ⟨rfl, (((HB.out.setCell (by simp <;> omega) _).setCell (by simp <;> omega) _).setCell (by simp <;> omega) _)⟩
  · have h2 : frmB x y = false := by simpa [h1] using hv
    clear hv
    go_enter Tryd.func11, Tryd.ntmps11
    go_wp2_with (fail)
    refine (PValid_any _ _ _ _).mono ?_; rintro e w' ⟨rfl, hb⟩; obtain ⟨x1, x2, x3, hb'⟩ := box3 hb; have HX1 := Lib.hid x1; have HX2 := Lib.hid x2; have HX3 := Lib.hid x3; have hc1 := box_cells x1; have hc2 := box_cells x2; have hc3 := box_cells x3; have hf3 := box_free x3; have HB := Lib.hid hb'; clear hb hb' x1 x2 x3
    go_wp2_with (fail)
    refine (formed_any _ _ _).mono ?_; rintro e w' ⟨rfl, hb⟩; (try replace hb := drewB hb); replace HB := Lib.hid (HB.out.trans (hb.mono HB.out.size)); replace HX1 := Lib.hid (blk_keep HX1.out hb); replace HX2 := Lib.hid (blk_keep HX2.out hb); replace HX3 := Lib.hid (blk_keep HX3.out hb); (try replace HX4 := Lib.hid (blk_keep HX4.out hb)); replace hc1 := box_cells HX1.out; replace hc2 := box_cells HX2.out; replace hc3 := box_cells HX3.out; replace hf3 := box_free HX3.out; (try replace hc4 := box_cells HX4.out); (try replace hf4 := box_free HX4.out); clear hb
    go_wp2
    exact bodyPost_ret (v := .tuple #[.agg #[.int .i64 0, .int .i64 0, .int .i64 0], .int .i64 1]) (by simp [results, Tryd.results11, go_sem, hc3, hf3]) rfl ⟨rfl, (((HB.out.setCell (by simp <;> omega) _).setCell (by simp <;> omega) _).setCell (by simp <;> omega) _)⟩
set_option maxRecDepth 100000 in
set_option maxHeartbeats 4000000 in
theorem Add_zero (s a o : Int) (w : World) (hv : vldB s a o = true) : Calls Tryd.prog 11 #[.agg #[.int .i64 s, .int .i64 a, .int .i64 o], .agg #[.int .i64 0, .int .i64 0]] w fun e w' => e = .returned (.tuple #[.agg #[.int .i64 s, .int .i64 a, .int .i64 o], .int .i64 0]) ∧ Below w.heap.size w w' := by
  have hf : frmB 0 0 = true := by decide
  have heq := eql_iv 0 0 0 0
  go_enter Tryd.func11, Tryd.ntmps11
  go_wp2_with (fail)
  refine (PValid_any _ _ _ _).mono ?_; rintro e w' ⟨rfl, hb⟩; obtain ⟨x1, x2, x3, hb'⟩ := box3 hb; have HX1 := Lib.hid x1; have HX2 := Lib.hid x2; have HX3 := Lib.hid x3; have hc1 := box_cells x1; have hc2 := box_cells x2; have hc3 := box_cells x3; have hf3 := box_free x3; have HB := Lib.hid hb'; clear hb hb' x1 x2 x3
  go_wp2_with (fail)
  refine (formed_any _ _ _).mono ?_; rintro e w' ⟨rfl, hb⟩; (try replace hb := drewB hb); replace HB := Lib.hid (HB.out.trans (hb.mono HB.out.size)); replace HX1 := Lib.hid (blk_keep HX1.out hb); replace HX2 := Lib.hid (blk_keep HX2.out hb); replace HX3 := Lib.hid (blk_keep HX3.out hb); (try replace HX4 := Lib.hid (blk_keep HX4.out hb)); replace hc1 := box_cells HX1.out; replace hc2 := box_cells HX2.out; replace hc3 := box_cells HX3.out; replace hf3 := box_free HX3.out; (try replace hc4 := box_cells HX4.out); (try replace hf4 := box_free HX4.out); clear hb
  go_wp2
  exact bodyPost_ret (v := .tuple #[.agg #[.int .i64 s, .int .i64 a, .int .i64 o], .int .i64 0]) (by simp [results, Tryd.results11, go_sem, hc3, hf3]) rfl ⟨rfl, (((HB.out.setCell (by simp <;> omega) _).setCell (by simp <;> omega) _).setCell (by simp <;> omega) _)⟩
set_option maxRecDepth 100000 in
set_option maxHeartbeats 4000000 in
theorem Add_go (s a o x y o' s' a' : Int) (r0 r1 r2 r3 : Int) (w : World) (hE : Hid (Env w)) (hv : vldB s a o = true) (hf : frmB x y = true) (hz : (x == 0 && y == 0) = false)
    (ho : Hid ((7 * o + s + x) / 7 = o')) (hs : Hid ((7 * o + s + x) % 7 = s')) (ha : Hid (12 * o + natI s + a + y - (12 * o' + natI s') = a'))
    (p1 : 0 ≤ s) (p2 : s ≤ 6) (p3 : -4 ≤ a) (p4 : a ≤ 4) (p5 : -8 ≤ o) (p6 : o ≤ 20) (q1 : -70 ≤ x) (q2 : x ≤ 70) (q3 : -120 ≤ y) (q4 : y ≤ 120) (t1 : 0 ≤ s') (t2 : s' ≤ 6) (t3 : -100 ≤ o') (t4 : o' ≤ 100) (n1 : 0 ≤ natI s) (n2 : natI s ≤ 11) (n3 : 0 ≤ natI s') (n4 : natI s' ≤ 11)
    (hR : Hid (if vldB s' a' o' = true then r0 = s' ∧ r1 = a' ∧ r2 = o' ∧ r3 = 0 else r0 = 0 ∧ r1 = 0 ∧ r2 = 0 ∧ r3 = 3)) :
    Calls Tryd.prog 11 #[.agg #[.int .i64 s, .int .i64 a, .int .i64 o], .agg #[.int .i64 x, .int .i64 y]] w fun e w' => e = .returned (.tuple #[.agg #[.int .i64 r0, .int .i64 r1, .int .i64 r2], .int .i64 r3]) ∧ Below w.heap.size w w' := by
  have heq := eql_iv x y 0 0
  rw [hz] at heq
  have W1 := Lib.hid (IntWalk.i64_in (7 * o + s + x) (by omega))
  have W2 := Lib.hid (IntWalk.i64_in (12 * o + natI s + a + y) (by omega))
  have W3 := Lib.hid (IntWalk.i64_in a' (by have := ha.out; omega))
  go_enter Tryd.func11, Tryd.ntmps11
  go_wp2_with (fail)
  refine (PValid_any _ _ _ _).mono ?_; rintro e w' ⟨rfl, hb⟩; obtain ⟨x1, x2, x3, hb'⟩ := box3 hb; have HX1 := Lib.hid x1; have HX2 := Lib.hid x2; have HX3 := Lib.hid x3; have hc1 := box_cells x1; have hc2 := box_cells x2; have hc3 := box_cells x3; have hf3 := box_free x3; have HB := Lib.hid hb'; clear hb hb' x1 x2 x3
  go_wp2_with (fail)
  refine (formed_any _ _ _).mono ?_; rintro e w1 ⟨rfl, hb⟩; (try replace hb := drewB hb); replace HB := Lib.hid (HB.out.trans (hb.mono HB.out.size)); replace HX1 := Lib.hid (blk_keep HX1.out hb); replace HX2 := Lib.hid (blk_keep HX2.out hb); replace HX3 := Lib.hid (blk_keep HX3.out hb); (try replace HX4 := Lib.hid (blk_keep HX4.out hb)); replace hc1 := box_cells HX1.out; replace hc2 := box_cells HX2.out; replace hc3 := box_cells HX3.out; replace hf3 := box_free HX3.out; (try replace hc4 := box_cells HX4.out); (try replace hf4 := box_free HX4.out); clear hb
  have hz1 : w.heap.size + 2 < w1.heap.size := (Array.getElem?_eq_some_iff.1 HX3.out).1
  go_wp2
  have x4 := heap_alloc_new w1 (.cells #[.int .i64 0, .int .i64 0, .int .i64 0] 23)
  have hb := (Below.refl w1.heap.size w1).alloc (Nat.le_refl _) (.cells #[.int .i64 0, .int .i64 0, .int .i64 0] 23)
  have HX4 := Lib.hid x4; clear x4
  (try replace hb := drewB hb); replace HB := Lib.hid (HB.out.trans (hb.mono HB.out.size)); replace HX1 := Lib.hid (blk_keep HX1.out hb); replace HX2 := Lib.hid (blk_keep HX2.out hb); replace HX3 := Lib.hid (blk_keep HX3.out hb); (try replace HX4 := Lib.hid (blk_keep HX4.out hb)); replace hc1 := box_cells HX1.out; replace hc2 := box_cells HX2.out; replace hc3 := box_cells HX3.out; replace hf3 := box_free HX3.out; (try replace hc4 := box_cells HX4.out); (try replace hf4 := box_free HX4.out); clear hb
  generalize hW : w1.alloc (.cells #[.int .i64 0, .int .i64 0, .int .i64 0] 23) = W at *
  have hc4 := box_cells HX4.out
  have hf4 := box_free HX4.out
  have hN : w1.heap.size < W.heap.size := (Array.getElem?_eq_some_iff.1 HX4.out).1
  clear hW
  generalize hNN : w1.heap.size = N at *
  clear hNN
  go_region_held3 (fun W => (W.cell? ⟨w.heap.size, 0, none⟩ = some (.int .i64 s) ∧ W.cell? ⟨w.heap.size, 1, none⟩ = some (.int .i64 a) ∧ W.cell? ⟨w.heap.size, 2, none⟩ = some (.int .i64 o)) ∧ W.cell? ⟨w.heap.size + 1, 0, none⟩ = some (.int .i64 x) ∧ W.cell? ⟨w.heap.size + 1, 1, none⟩ = some (.int .i64 y))
    (first | exact ⟨cells3 HX1.out, cells2 HX2.out⟩ | exact ⟨cells3 ((heap_setCell_other _ _ _ _ (show _ ≠ _ by simp <;> omega)).trans HX1.out), cells2 ((heap_setCell_other _ _ _ _ (show _ ≠ _ by simp <;> omega)).trans HX2.out)⟩ | exact ⟨cells3 ((heap_setCell_other _ _ _ _ (show _ ≠ _ by simp <;> omega)).trans ((heap_setCell_other _ _ _ _ (show _ ≠ _ by simp <;> omega)).trans HX1.out)), cells2 ((heap_setCell_other _ _ _ _ (show _ ≠ _ by simp <;> omega)).trans ((heap_setCell_other _ _ _ _ (show _ ≠ _ by simp <;> omega)).trans HX2.out))⟩ | go_keep)
    (first | (go_at_call 29; refine (place_any _ _ _ _ (by omega) (by omega) (by omega) (by omega)).mono ?_; rintro e w2 ⟨rfl, hb⟩; (try replace hb := drewB hb); replace HB := Lib.hid (HB.out.trans (hb.mono HB.out.size)); replace HX1 := Lib.hid (blk_keep HX1.out hb); replace HX2 := Lib.hid (blk_keep HX2.out hb); replace HX3 := Lib.hid (blk_keep HX3.out hb); (try replace HX4 := Lib.hid (blk_keep HX4.out hb)); replace hc1 := box_cells HX1.out; replace hc2 := box_cells HX2.out; replace hc3 := box_cells HX3.out; replace hf3 := box_free HX3.out; (try replace hc4 := box_cells HX4.out); (try replace hf4 := box_free HX4.out); clear hb) | (go_at_call 32; (try rw [W1.out]); refine (split_any _ _ (by omega) (by omega)).mono ?_; rw [ho.out, hs.out]; rintro e w2 ⟨rfl, hb⟩; (try replace hb := drewB hb); replace HB := Lib.hid (HB.out.trans (hb.mono HB.out.size)); replace HX1 := Lib.hid (blk_keep HX1.out hb); replace HX2 := Lib.hid (blk_keep HX2.out hb); replace HX3 := Lib.hid (blk_keep HX3.out hb); (try replace HX4 := Lib.hid (blk_keep HX4.out hb)); replace hc1 := box_cells HX1.out; replace hc2 := box_cells HX2.out; replace hc3 := box_cells HX3.out; replace hf3 := box_free HX3.out; (try replace hc4 := box_cells HX4.out); (try replace hf4 := box_free HX4.out); clear hb))
  have y1 : ((w2.setCell ⟨N, 2, none⟩ (.int .i64 o')).setCell ⟨N, 0, none⟩ (.int .i64 s')).heap[w.heap.size]? = _ := (heap_setCell_other _ _ _ _ (show _ ≠ _ by simp <;> omega)).trans ((heap_setCell_other _ _ _ _ (show _ ≠ _ by simp <;> omega)).trans HX1.out)
  have y2 : ((w2.setCell ⟨N, 2, none⟩ (.int .i64 o')).setCell ⟨N, 0, none⟩ (.int .i64 s')).heap[w.heap.size + 1]? = _ := (heap_setCell_other _ _ _ _ (show _ ≠ _ by simp <;> omega)).trans ((heap_setCell_other _ _ _ _ (show _ ≠ _ by simp <;> omega)).trans HX2.out)
  have y3 : ((w2.setCell ⟨N, 2, none⟩ (.int .i64 o')).setCell ⟨N, 0, none⟩ (.int .i64 s')).heap[w.heap.size + 2]? = _ := (heap_setCell_other _ _ _ _ (show _ ≠ _ by simp <;> omega)).trans ((heap_setCell_other _ _ _ _ (show _ ≠ _ by simp <;> omega)).trans HX3.out)
  have y4 : ((w2.setCell ⟨N, 2, none⟩ (.int .i64 o')).setCell ⟨N, 0, none⟩ (.int .i64 s')).heap[N]? = some (.cells #[.int .i64 s', .int .i64 0, .int .i64 o'] 23 (0, 0)) := heap_setCell_same _ _ _ _ _ _ (heap_setCell_same _ _ _ _ _ _ HX4.out)
  have yb : Below w.heap.size w ((w2.setCell ⟨N, 2, none⟩ (.int .i64 o')).setCell ⟨N, 0, none⟩ (.int .i64 s')) := (HB.out.setCell (by simp <;> omega) _).setCell (by simp <;> omega) _
  clear HX1 HX2 HX3 HX4 HB hc1 hc2 hc3 hc4 hf3 hf4
  have HX1 := Lib.hid y1; have HX2 := Lib.hid y2; have HX3 := Lib.hid y3; have HX4 := Lib.hid y4; have HB := Lib.hid yb
  clear y1 y2 y3 y4 yb
  generalize ((w2.setCell ⟨N, 2, none⟩ (.int .i64 o')).setCell ⟨N, 0, none⟩ (.int .i64 s')) = V at *
  have hc1 := box_cells HX1.out; have hc2 := box_cells HX2.out; have hc3 := box_cells HX3.out; have hc4 := box_cells HX4.out; have hf3 := box_free HX3.out; have hf4 := box_free HX4.out
  go_wp2
  have hS0 : SA w.heap.size s a o x y V.drew := ⟨cells3 HX1.out, cells2 HX2.out⟩
  refine wp_region_held_drew (S := SA w.heap.size s a o x y) (by kernel_rfl) hS0 (fun hHeld => ?_)
  (refine wpAnyH_take1 0 (oi := ?_) (v := ?_) ?_ (by kernel_rfl) (by kernel_rfl) (by kernel_rfl) (by assumption) ?_ ?_ ?_; rotate_left 2; (· simp only [List.getElem?_toArray, List.getElem?_cons_succ, List.getElem?_cons_zero]; try rfl); (· refine ⟨by kernel_rfl, ?_⟩; intro wq hSw; obtain ⟨⟨z0, z1, z2⟩, z3, z4⟩ := hSw; go_simp; first | done | with_reducible rfl); (· exact fun _ _ _ h => h); try simp only [Act.put, List.setIfInBounds_toArray, List.set_cons_zero, List.set_cons_succ])
  (refine wpAnyH_take1 2 (oi := ?_) (v := ?_) ?_ (by kernel_rfl) (by kernel_rfl) (by kernel_rfl) (by assumption) ?_ ?_ ?_; rotate_left 2; (· simp only [List.getElem?_toArray, List.getElem?_cons_succ, List.getElem?_cons_zero]; try rfl); (· refine ⟨by kernel_rfl, ?_⟩; intro wq hSw; obtain ⟨⟨z0, z1, z2⟩, z3, z4⟩ := hSw; go_simp; first | done | with_reducible rfl); (· exact fun _ _ _ h => h); try simp only [Act.put, List.setIfInBounds_toArray, List.set_cons_zero, List.set_cons_succ])
  (refine wpAnyH_take1 3 (oi := ?_) (v := ?_) ?_ (by kernel_rfl) (by kernel_rfl) (by kernel_rfl) (by assumption) ?_ ?_ ?_; rotate_left 2; (· simp only [List.getElem?_toArray, List.getElem?_cons_succ, List.getElem?_cons_zero]; try rfl); (· refine ⟨by kernel_rfl, ?_⟩; intro wq hSw; obtain ⟨⟨z0, z1, z2⟩, z3, z4⟩ := hSw; go_simp; first | done | with_reducible rfl); (· exact fun _ _ _ h => h); try simp only [Act.put, List.setIfInBounds_toArray, List.set_cons_zero, List.set_cons_succ])
  (refine wpAnyH_two (i := 1) (j := 5) (o := ?_) (o' := ?_) (by kernel_rfl) ?_ ?_ (fun K hK => ?_) (fun K hK => ?_); rotate_left 2; (· simp only [List.getElem?_toArray, List.getElem?_cons_succ, List.getElem?_cons_zero]; try rfl); (· simp only [List.getElem?_toArray, List.getElem?_cons_succ, List.getElem?_cons_zero]; try rfl))
  · go_simp
    refine (number_any _ _ _ _ (by omega) (by omega) (by omega) (by omega) (by omega) (by omega) (by first | exact hE.out.below HB.out | exact (hE.out.below HB.out).drew)).mono ?_; rintro e w2 ⟨rfl, hb⟩; (try replace hb := drewB hb); replace HB := Lib.hid (HB.out.trans (hb.mono HB.out.size)); replace HX1 := Lib.hid (blk_keep HX1.out hb); replace HX2 := Lib.hid (blk_keep HX2.out hb); replace HX3 := Lib.hid (blk_keep HX3.out hb); (try replace HX4 := Lib.hid (blk_keep HX4.out hb)); replace hc1 := box_cells HX1.out; replace hc2 := box_cells HX2.out; replace hc3 := box_cells HX3.out; replace hf3 := box_free HX3.out; (try replace hc4 := box_cells HX4.out); (try replace hf4 := box_free HX4.out); clear hb; go_simp; refine hK.out _ _ ⟨cells3 HX1.out, cells2 HX2.out⟩ (fun hH => ?_); clear hK K hHeld; have hHeld := hH; clear hH
    (refine wpAnyH_take1 4 (oi := ?_) (v := ?_) ?_ (by kernel_rfl) (by kernel_rfl) (by kernel_rfl) (by assumption) ?_ ?_ ?_; rotate_left 2; (· simp only [List.getElem?_toArray, List.getElem?_cons_succ, List.getElem?_cons_zero]; try rfl); (· refine ⟨by kernel_rfl, ?_⟩; intro wq hSw; skip; go_simp; first | done | with_reducible rfl); (· exact fun _ _ _ h => h); try simp only [Act.put, List.setIfInBounds_toArray, List.set_cons_zero, List.set_cons_succ])
    (refine wpAnyH_call1 (i := 5) (o := ?_) (by kernel_rfl) ?_ (fun K hK => ?_); rotate_left 1; (· simp only [List.getElem?_toArray, List.getElem?_cons_succ, List.getElem?_cons_zero]; try rfl); go_simp)
    go_simp; refine hK.out _ _ ⟨cells3 HX1.out, cells2 HX2.out⟩ (fun hH => ?_); clear hK K hHeld; have hHeld := hH; clear hH
    (refine wpAnyH_call1 (i := 6) (o := ?_) (by kernel_rfl) ?_ (fun K hK => ?_); rotate_left 1; (· simp only [List.getElem?_toArray, List.getElem?_cons_succ, List.getElem?_cons_zero]; try rfl); go_simp)
    refine (number_any _ _ _ _ (by omega) (by omega) (by omega) (by omega) (by omega) (by omega) (by first | exact hE.out.below HB.out | exact (hE.out.below HB.out).drew)).mono ?_; rintro e w2 ⟨rfl, hb⟩; (try replace hb := drewB hb); replace HB := Lib.hid (HB.out.trans (hb.mono HB.out.size)); replace HX1 := Lib.hid (blk_keep HX1.out hb); replace HX2 := Lib.hid (blk_keep HX2.out hb); replace HX3 := Lib.hid (blk_keep HX3.out hb); (try replace HX4 := Lib.hid (blk_keep HX4.out hb)); replace hc1 := box_cells HX1.out; replace hc2 := box_cells HX2.out; replace hc3 := box_cells HX3.out; replace hf3 := box_free HX3.out; (try replace hc4 := box_cells HX4.out); (try replace hf4 := box_free HX4.out); clear hb; go_simp; refine hK.out _ _ ⟨cells3 HX1.out, cells2 HX2.out⟩ (fun hH => ?_); clear hK K hHeld; have hHeld := hH; clear hH
    (refine wpAnyH_take1 7 (oi := ?_) (v := ?_) ?_ (by kernel_rfl) (by kernel_rfl) (by kernel_rfl) (by assumption) ?_ ?_ ?_; rotate_left 2; (· simp only [List.getElem?_toArray, List.getElem?_cons_succ, List.getElem?_cons_zero]; try rfl); (· refine ⟨by kernel_rfl, ?_⟩; intro wq hSw; skip; go_simp; first | done | with_reducible rfl); (· exact fun _ _ _ h => h); try simp only [Act.put, List.setIfInBounds_toArray, List.set_cons_zero, List.set_cons_succ])
    (refine wpAnyH_take1 8 (oi := ?_) (v := ?_) ?_ (by kernel_rfl) (by kernel_rfl) (by kernel_rfl) (by assumption) ?_ ?_ ?_; rotate_left 2; (· simp only [List.getElem?_toArray, List.getElem?_cons_succ, List.getElem?_cons_zero]; try rfl); (· refine ⟨by kernel_rfl, ?_⟩; intro wq hSw; skip; go_simp; first | done | with_reducible rfl); (· exact fun _ _ _ h => h); try simp only [Act.put, List.setIfInBounds_toArray, List.set_cons_zero, List.set_cons_succ])
    (refine wpAnyH_call1 (i := 9) (o := ?_) (by kernel_rfl) ?_ (fun K hK => ?_); rotate_left 1; (· simp only [List.getElem?_toArray, List.getElem?_cons_succ, List.getElem?_cons_zero]; try rfl); go_simp)
    refine hK.out _ _ ⟨cells3 ((heap_setCell_other _ _ _ _ (show _ ≠ _ by simp <;> omega)).trans HX1.out), cells2 ((heap_setCell_other _ _ _ _ (show _ ≠ _ by simp <;> omega)).trans HX2.out)⟩ (fun hH => ?_)
    refine wpAnyH_done (by kernel_rfl) ?_ _
    simp only [W2.out, ha.out, W3.out]
    have y1 : (w2.setCell ⟨N, 1, none⟩ (.int .i64 a')).heap[w.heap.size]? = _ := (heap_setCell_other _ _ _ _ (show _ ≠ _ by simp <;> omega)).trans HX1.out
    have y2 : (w2.setCell ⟨N, 1, none⟩ (.int .i64 a')).heap[w.heap.size + 1]? = _ := (heap_setCell_other _ _ _ _ (show _ ≠ _ by simp <;> omega)).trans HX2.out
    have y3 : (w2.setCell ⟨N, 1, none⟩ (.int .i64 a')).heap[w.heap.size + 2]? = _ := (heap_setCell_other _ _ _ _ (show _ ≠ _ by simp <;> omega)).trans HX3.out
    have y4 : (w2.setCell ⟨N, 1, none⟩ (.int .i64 a')).heap[N]? = some (.cells #[.int .i64 s', .int .i64 a', .int .i64 o'] 23 (0, 0)) := heap_setCell_same _ _ _ _ _ _ HX4.out
    have yb : Below w.heap.size w (w2.setCell ⟨N, 1, none⟩ (.int .i64 a')) := HB.out.setCell (by simp <;> omega) _
    clear hK K hHeld HX1 HX2 HX3 HX4 HB hc1 hc2 hc3 hc4 hf3 hf4 hH
    have HX1 := Lib.hid y1; have HX2 := Lib.hid y2; have HX3 := Lib.hid y3; have HX4 := Lib.hid y4; have HB := Lib.hid yb
    clear y1 y2 y3 y4 yb
    generalize (w2.setCell ⟨N, 1, none⟩ (.int .i64 a')) = V2 at *
    have hc1 := box_cells HX1.out; have hc2 := box_cells HX2.out; have hc3 := box_cells HX3.out; have hc4 := box_cells HX4.out; have hf3 := box_free HX3.out; have hf4 := box_free HX4.out
    cases hvo : vldB s' a' o'
    · rw [hvo] at hR
      obtain ⟨rfl, rfl, rfl, rfl⟩ := hR.out
      go_wp2_with (fail)
      refine (PValid_any _ _ _ _).mono ?_; rintro e w' ⟨rfl, hb⟩; (try replace hb := drewB hb); replace HB := Lib.hid (HB.out.trans (hb.mono HB.out.size)); replace HX1 := Lib.hid (blk_keep HX1.out hb); replace HX2 := Lib.hid (blk_keep HX2.out hb); replace HX3 := Lib.hid (blk_keep HX3.out hb); (try replace HX4 := Lib.hid (blk_keep HX4.out hb)); replace hc1 := box_cells HX1.out; replace hc2 := box_cells HX2.out; replace hc3 := box_cells HX3.out; replace hf3 := box_free HX3.out; (try replace hc4 := box_cells HX4.out); (try replace hf4 := box_free HX4.out); clear hb
      go_wp2
      exact bodyPost_ret (v := .tuple #[.agg #[.int .i64 0, .int .i64 0, .int .i64 0], .int .i64 3]) (by simp [results, Tryd.results11, go_sem, hc3, hf3]) rfl ⟨rfl, (((HB.out.setCell (by simp <;> omega) _).setCell (by simp <;> omega) _).setCell (by simp <;> omega) _)⟩
    · rw [hvo] at hR
      obtain ⟨rfl, rfl, rfl, rfl⟩ := hR.out
      go_wp2_with (fail)
      refine (PValid_any _ _ _ _).mono ?_; rintro e w' ⟨rfl, hb⟩; (try replace hb := drewB hb); replace HB := Lib.hid (HB.out.trans (hb.mono HB.out.size)); replace HX1 := Lib.hid (blk_keep HX1.out hb); replace HX2 := Lib.hid (blk_keep HX2.out hb); replace HX3 := Lib.hid (blk_keep HX3.out hb); (try replace HX4 := Lib.hid (blk_keep HX4.out hb)); replace hc1 := box_cells HX1.out; replace hc2 := box_cells HX2.out; replace hc3 := box_cells HX3.out; replace hf3 := box_free HX3.out; (try replace hc4 := box_cells HX4.out); (try replace hf4 := box_free HX4.out); clear hb
      go_wp2
      exact bodyPost_ret (v := .tuple #[.agg #[.int .i64 r0, .int .i64 r1, .int .i64 r2], .int .i64 0]) (by simp [results, Tryd.results11, go_sem, hc3, hf3]) rfl ⟨rfl, (((HB.out.setCell (by simp <;> omega) _).setCell (by simp <;> omega) _).setCell (by simp <;> omega) _)⟩
  · go_simp; refine hK.out _ _ ⟨cells3 HX1.out, cells2 HX2.out⟩ (fun hH => ?_); clear hK K hHeld; have hHeld := hH; clear hH
    (refine wpAnyH_call1 (i := 1) (o := ?_) (by kernel_rfl) ?_ (fun K hK => ?_); rotate_left 1; (· simp only [List.getElem?_toArray, List.getElem?_cons_succ, List.getElem?_cons_zero]; try rfl); go_simp)
    refine (number_any _ _ _ _ (by omega) (by omega) (by omega) (by omega) (by omega) (by omega) (by first | exact hE.out.below HB.out | exact (hE.out.below HB.out).drew)).mono ?_; rintro e w2 ⟨rfl, hb⟩; (try replace hb := drewB hb); replace HB := Lib.hid (HB.out.trans (hb.mono HB.out.size)); replace HX1 := Lib.hid (blk_keep HX1.out hb); replace HX2 := Lib.hid (blk_keep HX2.out hb); replace HX3 := Lib.hid (blk_keep HX3.out hb); (try replace HX4 := Lib.hid (blk_keep HX4.out hb)); replace hc1 := box_cells HX1.out; replace hc2 := box_cells HX2.out; replace hc3 := box_cells HX3.out; replace hf3 := box_free HX3.out; (try replace hc4 := box_cells HX4.out); (try replace hf4 := box_free HX4.out); clear hb; go_simp; refine hK.out _ _ ⟨cells3 HX1.out, cells2 HX2.out⟩ (fun hH => ?_); clear hK K hHeld; have hHeld := hH; clear hH
    (refine wpAnyH_take1 4 (oi := ?_) (v := ?_) ?_ (by kernel_rfl) (by kernel_rfl) (by kernel_rfl) (by assumption) ?_ ?_ ?_; rotate_left 2; (· simp only [List.getElem?_toArray, List.getElem?_cons_succ, List.getElem?_cons_zero]; try rfl); (· refine ⟨by kernel_rfl, ?_⟩; intro wq hSw; skip; go_simp; first | done | with_reducible rfl); (· exact fun _ _ _ h => h); try simp only [Act.put, List.setIfInBounds_toArray, List.set_cons_zero, List.set_cons_succ])
    (refine wpAnyH_call1 (i := 6) (o := ?_) (by kernel_rfl) ?_ (fun K hK => ?_); rotate_left 1; (· simp only [List.getElem?_toArray, List.getElem?_cons_succ, List.getElem?_cons_zero]; try rfl); go_simp)
    refine (number_any _ _ _ _ (by omega) (by omega) (by omega) (by omega) (by omega) (by omega) (by first | exact hE.out.below HB.out | exact (hE.out.below HB.out).drew)).mono ?_; rintro e w2 ⟨rfl, hb⟩; (try replace hb := drewB hb); replace HB := Lib.hid (HB.out.trans (hb.mono HB.out.size)); replace HX1 := Lib.hid (blk_keep HX1.out hb); replace HX2 := Lib.hid (blk_keep HX2.out hb); replace HX3 := Lib.hid (blk_keep HX3.out hb); (try replace HX4 := Lib.hid (blk_keep HX4.out hb)); replace hc1 := box_cells HX1.out; replace hc2 := box_cells HX2.out; replace hc3 := box_cells HX3.out; replace hf3 := box_free HX3.out; (try replace hc4 := box_cells HX4.out); (try replace hf4 := box_free HX4.out); clear hb; go_simp; refine hK.out _ _ ⟨cells3 HX1.out, cells2 HX2.out⟩ (fun hH => ?_); clear hK K hHeld; have hHeld := hH; clear hH
    (refine wpAnyH_take1 7 (oi := ?_) (v := ?_) ?_ (by kernel_rfl) (by kernel_rfl) (by kernel_rfl) (by assumption) ?_ ?_ ?_; rotate_left 2; (· simp only [List.getElem?_toArray, List.getElem?_cons_succ, List.getElem?_cons_zero]; try rfl); (· refine ⟨by kernel_rfl, ?_⟩; intro wq hSw; skip; go_simp; first | done | with_reducible rfl); (· exact fun _ _ _ h => h); try simp only [Act.put, List.setIfInBounds_toArray, List.set_cons_zero, List.set_cons_succ])
    (refine wpAnyH_take1 8 (oi := ?_) (v := ?_) ?_ (by kernel_rfl) (by kernel_rfl) (by kernel_rfl) (by assumption) ?_ ?_ ?_; rotate_left 2; (· simp only [List.getElem?_toArray, List.getElem?_cons_succ, List.getElem?_cons_zero]; try rfl); (· refine ⟨by kernel_rfl, ?_⟩; intro wq hSw; skip; go_simp; first | done | with_reducible rfl); (· exact fun _ _ _ h => h); try simp only [Act.put, List.setIfInBounds_toArray, List.set_cons_zero, List.set_cons_succ])
    (refine wpAnyH_call1 (i := 9) (o := ?_) (by kernel_rfl) ?_ (fun K hK => ?_); rotate_left 1; (· simp only [List.getElem?_toArray, List.getElem?_cons_succ, List.getElem?_cons_zero]; try rfl); go_simp)
    refine hK.out _ _ ⟨cells3 ((heap_setCell_other _ _ _ _ (show _ ≠ _ by simp <;> omega)).trans HX1.out), cells2 ((heap_setCell_other _ _ _ _ (show _ ≠ _ by simp <;> omega)).trans HX2.out)⟩ (fun hH => ?_)
    refine wpAnyH_done (by kernel_rfl) ?_ _
    simp only [W2.out, ha.out, W3.out]
    have y1 : (w2.setCell ⟨N, 1, none⟩ (.int .i64 a')).heap[w.heap.size]? = _ := (heap_setCell_other _ _ _ _ (show _ ≠ _ by simp <;> omega)).trans HX1.out
    have y2 : (w2.setCell ⟨N, 1, none⟩ (.int .i64 a')).heap[w.heap.size + 1]? = _ := (heap_setCell_other _ _ _ _ (show _ ≠ _ by simp <;> omega)).trans HX2.out
    have y3 : (w2.setCell ⟨N, 1, none⟩ (.int .i64 a')).heap[w.heap.size + 2]? = _ := (heap_setCell_other _ _ _ _ (show _ ≠ _ by simp <;> omega)).trans HX3.out
    have y4 : (w2.setCell ⟨N, 1, none⟩ (.int .i64 a')).heap[N]? = some (.cells #[.int .i64 s', .int .i64 a', .int .i64 o'] 23 (0, 0)) := heap_setCell_same _ _ _ _ _ _ HX4.out
    have yb : Below w.heap.size w (w2.setCell ⟨N, 1, none⟩ (.int .i64 a')) := HB.out.setCell (by simp <;> omega) _
    clear hK K hHeld HX1 HX2 HX3 HX4 HB hc1 hc2 hc3 hc4 hf3 hf4 hH
    have HX1 := Lib.hid y1; have HX2 := Lib.hid y2; have HX3 := Lib.hid y3; have HX4 := Lib.hid y4; have HB := Lib.hid yb
    clear y1 y2 y3 y4 yb
    generalize (w2.setCell ⟨N, 1, none⟩ (.int .i64 a')) = V2 at *
    have hc1 := box_cells HX1.out; have hc2 := box_cells HX2.out; have hc3 := box_cells HX3.out; have hc4 := box_cells HX4.out; have hf3 := box_free HX3.out; have hf4 := box_free HX4.out
    cases hvo : vldB s' a' o'
    · rw [hvo] at hR
      obtain ⟨rfl, rfl, rfl, rfl⟩ := hR.out
      go_wp2_with (fail)
      refine (PValid_any _ _ _ _).mono ?_; rintro e w' ⟨rfl, hb⟩; (try replace hb := drewB hb); replace HB := Lib.hid (HB.out.trans (hb.mono HB.out.size)); replace HX1 := Lib.hid (blk_keep HX1.out hb); replace HX2 := Lib.hid (blk_keep HX2.out hb); replace HX3 := Lib.hid (blk_keep HX3.out hb); (try replace HX4 := Lib.hid (blk_keep HX4.out hb)); replace hc1 := box_cells HX1.out; replace hc2 := box_cells HX2.out; replace hc3 := box_cells HX3.out; replace hf3 := box_free HX3.out; (try replace hc4 := box_cells HX4.out); (try replace hf4 := box_free HX4.out); clear hb
      go_wp2
      exact bodyPost_ret (v := .tuple #[.agg #[.int .i64 0, .int .i64 0, .int .i64 0], .int .i64 3]) (by simp [results, Tryd.results11, go_sem, hc3, hf3]) rfl ⟨rfl, (((HB.out.setCell (by simp <;> omega) _).setCell (by simp <;> omega) _).setCell (by simp <;> omega) _)⟩
    · rw [hvo] at hR
      obtain ⟨rfl, rfl, rfl, rfl⟩ := hR.out
      go_wp2_with (fail)
      refine (PValid_any _ _ _ _).mono ?_; rintro e w' ⟨rfl, hb⟩; (try replace hb := drewB hb); replace HB := Lib.hid (HB.out.trans (hb.mono HB.out.size)); replace HX1 := Lib.hid (blk_keep HX1.out hb); replace HX2 := Lib.hid (blk_keep HX2.out hb); replace HX3 := Lib.hid (blk_keep HX3.out hb); (try replace HX4 := Lib.hid (blk_keep HX4.out hb)); replace hc1 := box_cells HX1.out; replace hc2 := box_cells HX2.out; replace hc3 := box_cells HX3.out; replace hf3 := box_free HX3.out; (try replace hc4 := box_cells HX4.out); (try replace hf4 := box_free HX4.out); clear hb
      go_wp2
      exact bodyPost_ret (v := .tuple #[.agg #[.int .i64 r0, .int .i64 r1, .int .i64 r2], .int .i64 0]) (by simp [results, Tryd.results11, go_sem, hc3, hf3]) rfl ⟨rfl, (((HB.out.setCell (by simp <;> omega) _).setCell (by simp <;> omega) _).setCell (by simp <;> omega) _)⟩


theorem Add_any (s a o x y : Int) (w : World) (hE : Env w) : Calls Tryd.prog 11 #[.agg #[.int .i64 s, .int .i64 a, .int .i64 o], .agg #[.int .i64 x, .int .i64 y]] w fun e w' => e = .returned (.tuple #[.agg #[.int .i64 (addR s a o x y).1, .int .i64 (addR s a o x y).2.1, .int .i64 (addR s a o x y).2.2.1], .int .i64 (addR s a o x y).2.2.2]) ∧ Below w.heap.size w w' := by
  cases hv : vldB s a o && frmB x y
  · have e : addR s a o x y = (0, 0, 0, 1) := by unfold addR; rw [hv]; rfl
    rw [e]
    exact Add_bad s a o x y w hv
  · simp only [Bool.and_eq_true] at hv
    obtain ⟨⟨p1, p2⟩, ⟨p3, p4⟩, p5, p6⟩ := (vld_iff s a o).1 hv.1
    obtain ⟨⟨q1, q2⟩, q3, q4⟩ := (frm_iff x y).1 hv.2
    have hns := natI_bd s p1 p2
    have hns' := natI_bd ((7 * o + s + x) % 7) (by omega) (by omega)
    cases hz : x == 0 && y == 0
    · refine Add_go s a o x y _ _ _ _ _ _ _ w hE hv.1 hv.2 hz rfl rfl rfl p1 p2 p3 p4 p5 p6 q1 q2 q3 q4 (by omega) (by omega) (by omega) (by omega) hns.1 hns.2 hns'.1 hns'.2 ?_
      show if _ then _ else _
      unfold addR
      rw [hv.1, hv.2, Bool.true_and, if_pos rfl]
      split <;> simp_all
    · simp only [Bool.and_eq_true, beq_iff_eq] at hz
      obtain ⟨rfl, rfl⟩ := hz
      have e1 : (7 * o + s + 0) % 7 = s := by omega
      have e2 : (7 * o + s + 0) / 7 = o := by omega
      have e3 : 12 * o + natI s + a + 0 - (12 * o + natI s) = a := by omega
      have e : addR s a o 0 0 = (s, a, o, 0) := by
        unfold addR
        rw [e1, e2, e3, hv.1, hv.2]; rfl
      rw [e]
      exact Add_zero s a o w hv.1

end Go.Proofs.YtogdhecmecpccaaDoor
