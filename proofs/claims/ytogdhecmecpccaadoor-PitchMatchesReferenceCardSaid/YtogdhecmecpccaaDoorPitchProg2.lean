/- Contracts of pitch.Between, pitch.Add. -/
import Derived.Test.YtogdhecmecpccaaDoorPitchProg
import Derived.IntWalk
namespace Go.Proofs.YtogdhecmecpccaaDoor
set_option linter.unusedSimpArgs false
set_option linter.unusedVariables false
open Go.RowKit Go.Sort
theorem drewB {w w' : World} (hb : Below w.drew.heap.size w.drew w') : Below w.heap.size w w' := ((Below.refl w.heap.size w).drew).trans hb
theorem blk_b {B : Nat} {w w' : World} {b : Nat} {o : Obj} (h : w.heap[b]? = some o) (hlt : b < B) (hb : Below B w w') : w'.heap[b]? = some o := (hb.block b hlt).trans h
theorem cells3 {w : World} {B : Nat} {a b c : Value} {T : TypeId} {fr : Nat × Nat} (h : w.heap[B]? = some (.cells #[a, b, c] T fr)) : w.cell? ⟨B, 0, none⟩ = some a ∧ w.cell? ⟨B, 1, none⟩ = some b ∧ w.cell? ⟨B, 2, none⟩ = some c := ⟨box_cells h 0, box_cells h 1, box_cells h 2⟩
theorem cells2 {w : World} {B : Nat} {a b : Value} {T : TypeId} {fr : Nat × Nat} (h : w.heap[B]? = some (.cells #[a, b] T fr)) : w.cell? ⟨B, 0, none⟩ = some a ∧ w.cell? ⟨B, 1, none⟩ = some b := ⟨box_cells h 0, box_cells h 1⟩
def betweenR (s a o s' a' o' : Int) : Int × Int × Int := if vldB s a o && vldB s' a' o' then checkedR (7 * o' + s' - (7 * o + s)) (12 * o' + natI s' + a' - (12 * o + natI s + a)) else (0, 0, 1)
set_option maxRecDepth 100000 in
set_option maxHeartbeats 4000000 in
theorem Between_any (s a o s' a' o' : Int) (w : World) (hE : Env w) : Calls Tryd.prog 10 #[.agg #[.int .i64 s, .int .i64 a, .int .i64 o], .agg #[.int .i64 s', .int .i64 a', .int .i64 o']] w fun e w' => e = .returned (.tuple #[.agg #[.int .i64 (betweenR s a o s' a' o').1, .int .i64 (betweenR s a o s' a' o').2.1], .int .i64 (betweenR s a o s' a' o').2.2]) ∧ Below w.heap.size w w' := by
  have HE := Lib.hid hE; clear hE
  cases hv : vldB s a o
  · rw [show betweenR s a o s' a' o' = (0, 0, 1) by simp [betweenR, hv]]
    go_enter Tryd.func10, Tryd.ntmps10
    go_wp2_with (go_at_call 17; refine (PValid_any _ _ _ _).mono ?_; rintro e w' ⟨rfl, hb⟩; obtain ⟨x1, x2, x3, hb'⟩ := box3 hb; have HX1 := Lib.hid x1; have HX2 := Lib.hid x2; have HX3 := Lib.hid x3; have hc1 := box_cells x1; have hc2 := box_cells x2; have hc3 := box_cells x3; have hf3 := box_free x3; have HB := Lib.hid hb'; clear hb hb' x1 x2 x3)
    exact bodyPost_ret (v := .tuple #[.agg #[.int .i64 0, .int .i64 0], .int .i64 1]) (by simp [results, Tryd.results10, go_sem, hc3, hf3]) rfl ⟨rfl, (HB.out.setCell (by simp <;> omega) _).setCell (by simp <;> omega) _⟩
  · obtain ⟨⟨p1, p2⟩, ⟨p3, p4⟩, p5, p6⟩ := (vld_iff s a o).1 hv
    cases hv' : vldB s' a' o'
    · rw [show betweenR s a o s' a' o' = (0, 0, 1) by simp [betweenR, hv']]
      go_enter Tryd.func10, Tryd.ntmps10
      go_wp2_with (fail)
      refine (PValid_any _ _ _ _).mono ?_; rintro e w' ⟨rfl, hb⟩; obtain ⟨x1, x2, x3, hb'⟩ := box3 hb; have HX1 := Lib.hid x1; have HX2 := Lib.hid x2; have HX3 := Lib.hid x3; have hc1 := box_cells x1; have hc2 := box_cells x2; have hc3 := box_cells x3; have hf3 := box_free x3; have HB := Lib.hid hb'; clear hb hb' x1 x2 x3
      go_wp2_with (fail)
      refine (PValid_any _ _ _ _).mono ?_; rintro e w' ⟨rfl, hb⟩; (try replace hb := drewB hb); replace HB := Lib.hid (HB.out.trans (hb.mono HB.out.size)); replace HX1 := Lib.hid (blk_keep HX1.out hb); replace HX2 := Lib.hid (blk_keep HX2.out hb); replace HX3 := Lib.hid (blk_keep HX3.out hb); replace hc1 := box_cells HX1.out; replace hc2 := box_cells HX2.out; replace hc3 := box_cells HX3.out; replace hf3 := box_free HX3.out; clear hb
      go_wp2
      exact bodyPost_ret (v := .tuple #[.agg #[.int .i64 0, .int .i64 0], .int .i64 1]) (by simp [results, Tryd.results10, go_sem, hc3, hf3]) rfl ⟨rfl, (HB.out.setCell (by simp <;> omega) _).setCell (by simp <;> omega) _⟩
    · obtain ⟨⟨q1, q2⟩, ⟨q3, q4⟩, q5, q6⟩ := (vld_iff s' a' o').1 hv'
      rw [show betweenR s a o s' a' o' = checkedR (7 * o' + s' - (7 * o + s)) (12 * o' + natI s' + a' - (12 * o + natI s + a)) by simp [betweenR, hv, hv']]
      have b1 := natI_bd s p1 p2
      have b2 := natI_bd s' q1 q2
      obtain ⟨b1, b1'⟩ := b1
      obtain ⟨b2, b2'⟩ := b2
      have W1 := Lib.hid (IntWalk.i64_in (7 * o' + s' - (7 * o + s)) (by omega))
      have W2 := Lib.hid (IntWalk.i64_in (12 * o' + natI s' + a' - (12 * o + natI s + a)) (by omega))
      generalize hR : checkedR (7 * o' + s' - (7 * o + s)) (12 * o' + natI s' + a' - (12 * o + natI s + a)) = R
      have HR := Lib.hid hR; clear hR
      go_enter Tryd.func10, Tryd.ntmps10
      go_wp2_with (fail)
      refine (PValid_any _ _ _ _).mono ?_; rintro e w' ⟨rfl, hb⟩; obtain ⟨x1, x2, x3, hb'⟩ := box3 hb; have HX1 := Lib.hid x1; have HX2 := Lib.hid x2; have HX3 := Lib.hid x3; have hc1 := box_cells x1; have hc2 := box_cells x2; have hc3 := box_cells x3; have hf3 := box_free x3; have HB := Lib.hid hb'; clear hb hb' x1 x2 x3
      go_wp2_with (fail)
      refine (PValid_any _ _ _ _).mono ?_; rintro e w' ⟨rfl, hb⟩; (try replace hb := drewB hb); replace HB := Lib.hid (HB.out.trans (hb.mono HB.out.size)); replace HX1 := Lib.hid (blk_keep HX1.out hb); replace HX2 := Lib.hid (blk_keep HX2.out hb); replace HX3 := Lib.hid (blk_keep HX3.out hb); replace hc1 := box_cells HX1.out; replace hc2 := box_cells HX2.out; replace hc3 := box_cells HX3.out; replace hf3 := box_free HX3.out; clear hb
      go_wp2
      go_region_held3 (fun W => (W.cell? ⟨w.heap.size, 0, none⟩ = some (.int .i64 s) ∧ W.cell? ⟨w.heap.size, 1, none⟩ = some (.int .i64 a) ∧ W.cell? ⟨w.heap.size, 2, none⟩ = some (.int .i64 o)) ∧ W.cell? ⟨w.heap.size + 1, 0, none⟩ = some (.int .i64 s') ∧ W.cell? ⟨w.heap.size + 1, 1, none⟩ = some (.int .i64 a') ∧ W.cell? ⟨w.heap.size + 1, 2, none⟩ = some (.int .i64 o'))
        (first | exact ⟨cells3 HX1.out, cells3 HX2.out⟩ | exact ⟨cells3 (blk_b HX1.out (by omega) (((Below.refl (w.heap.size + 2) _).setCell (by simp) _).setCell (by simp) _)), cells3 (blk_b HX2.out (by omega) (((Below.refl (w.heap.size + 2) _).setCell (by simp) _).setCell (by simp) _))⟩ | go_keep)
        (first | (go_at_call 29; refine (place_any _ _ _ _ (by omega) (by omega) (by omega) (by omega)).mono ?_; rintro e w2 ⟨rfl, hb⟩; (try replace hb := drewB hb); replace HB := Lib.hid (HB.out.trans (hb.mono HB.out.size)); replace HX1 := Lib.hid (blk_keep HX1.out hb); replace HX2 := Lib.hid (blk_keep HX2.out hb); replace HX3 := Lib.hid (blk_keep HX3.out hb); replace hc1 := box_cells HX1.out; replace hc2 := box_cells HX2.out; replace hc3 := box_cells HX3.out; replace hf3 := box_free HX3.out; clear hb) | (go_at_call 30; refine (number_any _ _ _ _ (by omega) (by omega) (by omega) (by omega) (by omega) (by omega) (HE.out.below HB.out)).mono ?_; rintro e w2 ⟨rfl, hb⟩; (try replace hb := drewB hb); replace HB := Lib.hid (HB.out.trans (hb.mono HB.out.size)); replace HX1 := Lib.hid (blk_keep HX1.out hb); replace HX2 := Lib.hid (blk_keep HX2.out hb); replace HX3 := Lib.hid (blk_keep HX3.out hb); replace hc1 := box_cells HX1.out; replace hc2 := box_cells HX2.out; replace hc3 := box_cells HX3.out; replace hf3 := box_free HX3.out; clear hb) | (go_at_call 28; refine (checked_any _ _ _).mono ?_; rw [W1.out, W2.out, HR.out]; rintro e w2 ⟨rfl, hb⟩; (try replace hb := drewB hb); replace HB := Lib.hid (HB.out.trans (hb.mono HB.out.size)); replace HX1 := Lib.hid (blk_keep HX1.out hb); replace HX2 := Lib.hid (blk_keep HX2.out hb); replace HX3 := Lib.hid (blk_keep HX3.out hb); replace hc1 := box_cells HX1.out; replace hc2 := box_cells HX2.out; replace hc3 := box_cells HX3.out; replace hf3 := box_free HX3.out; clear hb))
      go_wp2
      exact bodyPost_ret (v := .tuple #[.agg #[.int .i64 R.1, .int .i64 R.2.1], .int .i64 R.2.2]) (by simp [results, Tryd.results10, go_sem, hc3, hf3]) rfl ⟨rfl, (HB.out.setCell (by simp <;> omega) _).setCell (by simp <;> omega) _⟩

end Go.Proofs.YtogdhecmecpccaaDoor
