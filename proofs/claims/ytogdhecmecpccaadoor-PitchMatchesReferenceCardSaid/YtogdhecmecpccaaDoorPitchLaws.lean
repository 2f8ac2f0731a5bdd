/- The laws on pitches that are arithmetic: PitchBack, PitchBetween, PitchNumbers, PitchJoins: the walks. -/
import Derived.Test.YtogdhecmecpccaaDoorPitchHead2
namespace Go.Proofs.YtogdhecmecpccaaDoor
set_option linter.unusedSimpArgs false
set_option linter.unusedVariables false
open Go.RowKit Go.Sort

theorem lt_blk {w : World} {b : Nat} {o : Obj} (h : w.heap[b]? = some o) : b < w.heap.size := (Array.getElem?_eq_some_iff.1 h).1
theorem addR_err {s a o x y : Int} (h : (addR s a o x y).2.2.2 ≠ 0) : (addR s a o x y).1 = 0 ∧ (addR s a o x y).2.1 = 0 ∧ (addR s a o x y).2.2.1 = 0 := by
  unfold addR at *
  split
  · split
    · rename_i h1 h2; rw [if_pos h1, if_pos h2] at h; exact absurd rfl h
    · exact ⟨rfl, rfl, rfl⟩
  · exact ⟨rfl, rfl, rfl⟩
/-- What a pitch is that was moved. -/
theorem addR_ok {s a o x y s' a' o' : Int} (h : addR s a o x y = (s', a', o', 0)) : vldB s a o = true ∧ frmB x y = true ∧ vldB s' a' o' = true ∧ 7 * o' + s' = 7 * o + s + x ∧ 12 * o' + natI s' + a' = 12 * o + natI s + a + y := by
  unfold addR at h
  split at h
  · rename_i h1
    simp only [Bool.and_eq_true] at h1
    split at h
    · rename_i h2
      simp only [Prod.mk.injEq] at h
      obtain ⟨e1, e2, e3, _⟩ := h
      rw [e1, e3] at h2 e2
      rw [e2] at h2
      refine ⟨h1.1, h1.2, h2, by omega, by omega⟩
    · simp only [Prod.mk.injEq] at h; omega
  · simp only [Prod.mk.injEq] at h; omega
theorem addR_mk {s a o x y s' a' o' : Int} (h1 : vldB s a o = true) (h2 : frmB x y = true) (h3 : vldB s' a' o' = true) (h4 : 7 * o' + s' = 7 * o + s + x) (h5 : 12 * o' + natI s' + a' = 12 * o + natI s + a + y) : addR s a o x y = (s', a', o', 0) := by
  obtain ⟨⟨q1, q2⟩, _⟩ := (vld_iff s' a' o').1 h3
  have e1 : (7 * o + s + x) % 7 = s' := by omega
  have e2 : (7 * o + s + x) / 7 = o' := by omega
  have e3 : 12 * o + natI s + a + y - (12 * o' + natI s') = a' := by omega
  unfold addR
  rw [h1, h2, e1, e2, e3, h3]; rfl
theorem frm_neg {x y : Int} (h : frmB x y = true) : frmB (-x) (-y) = true := by
  obtain ⟨⟨q1, q2⟩, q3, q4⟩ := (frm_iff x y).1 h
  exact (frm_iff _ _).2 ⟨⟨by omega, by omega⟩, by omega, by omega⟩

set_option maxRecDepth 100000 in
set_option maxHeartbeats 4000000 in
theorem back_any (s a o x y : Int) (w : World) (hE : Env w) : Calls Tryd.prog 6 #[.agg #[.int .i64 s, .int .i64 a, .int .i64 o], .agg #[.int .i64 x, .int .i64 y]] w fun e w' => e = .returned (.bool true) ∧ Below w.heap.size w w' := by
  have HE := Lib.hid hE; clear hE
  have HE2 := Lib.hid (fun o1 o2 => HE.out.below (((Below.refl w.heap.size w).alloc (Nat.le_refl _) o1).alloc (by simp) o2))
  rcases hA : addR s a o x y with ⟨s1, a1, o1, e1⟩
  have HA := Lib.hid hA; clear hA
  by_cases he : e1 = 0
  · subst he
    obtain ⟨v1, v2, v3, v4, v5⟩ := addR_ok HA.out
    have HBk := Lib.hid (show backR x y = (-x, -y, 0) by simp [backR, v2])
    have HA2 := Lib.hid (addR_mk v3 (frm_neg v2) v1 (show 7 * o + s = 7 * o1 + s1 + -x by omega) (show 12 * o + natI s + a = 12 * o1 + natI s1 + a1 + -y by omega))
    have q1 := fun w => eql_pi s a o s a o w
    simp only [beq_self_eq_true, Bool.and_true, Bool.true_and] at q1
    clear v1 v2 v4 v5
    go_enter Tryd.func6, Tryd.ntmps6
    go_wp2_with (fail)
    refine (head_any _ (HE2.out _ _)).mono ?_; rintro e w1 ⟨rfl, hb⟩; obtain ⟨x1, x2, hb'⟩ := box2 hb; have HX1 := Lib.hid x1; have HX2 := Lib.hid x2; have hc1 := box_cells x1; have hc2 := box_cells x2; have HB := Lib.hid hb'; clear hb hb' x1 x2
    go_wp2_with (fail)
    refine (Add_any _ _ _ _ _ _ (HE.out.below HB.out)).mono ?_; rw [HA.out]; rintro e w1 ⟨rfl, hb⟩; replace HB := Lib.hid (HB.out.trans (hb.mono HB.out.size)); (try replace HX1 := Lib.hid (blk_keep HX1.out hb)); (try replace HX2 := Lib.hid (blk_keep HX2.out hb)); (try replace HX3 := Lib.hid (blk_keep HX3.out hb)); (try replace HX4 := Lib.hid (blk_keep HX4.out hb)); (try replace HX5 := Lib.hid (blk_keep HX5.out hb)); (try replace HX6 := Lib.hid (blk_keep HX6.out hb)); (try replace HX7 := Lib.hid (blk_keep HX7.out hb)); (try replace HX8 := Lib.hid (blk_keep HX8.out hb)); (try replace hc1 := box_cells HX1.out); (try replace hc2 := box_cells HX2.out); (try replace hc3 := box_cells HX3.out); (try replace hc4 := box_cells HX4.out); (try replace hc5 := box_cells HX5.out); (try replace hc6 := box_cells HX6.out); (try replace hc7 := box_cells HX7.out); (try replace hc8 := box_cells HX8.out); clear hb; (try clear hz1); (try have hz1 := lt_blk HX1.out); (try clear hz2); (try have hz2 := lt_blk HX2.out); (try clear hz3); (try have hz3 := lt_blk HX3.out); (try clear hz4); (try have hz4 := lt_blk HX4.out); (try clear hz5); (try have hz5 := lt_blk HX5.out); (try clear hz6); (try have hz6 := lt_blk HX6.out); (try clear hz7); (try have hz7 := lt_blk HX7.out); (try clear hz8); (try have hz8 := lt_blk HX8.out)
    go_wp2_with (fail)
    refine (Back_any _ _ _).mono ?_; rw [HBk.out]; rintro e w1 ⟨rfl, hb⟩; have x0 := box_below hb; have HX3 := Lib.hid x0; have hc3 := box_cells x0; clear x0; replace hb := allocB hb; replace HB := Lib.hid (HB.out.trans (hb.mono HB.out.size)); (try replace HX1 := Lib.hid (blk_keep HX1.out hb)); (try replace HX2 := Lib.hid (blk_keep HX2.out hb)); (try replace HX3 := Lib.hid (blk_keep HX3.out hb)); (try replace HX4 := Lib.hid (blk_keep HX4.out hb)); (try replace HX5 := Lib.hid (blk_keep HX5.out hb)); (try replace HX6 := Lib.hid (blk_keep HX6.out hb)); (try replace HX7 := Lib.hid (blk_keep HX7.out hb)); (try replace HX8 := Lib.hid (blk_keep HX8.out hb)); (try replace hc1 := box_cells HX1.out); (try replace hc2 := box_cells HX2.out); (try replace hc3 := box_cells HX3.out); (try replace hc4 := box_cells HX4.out); (try replace hc5 := box_cells HX5.out); (try replace hc6 := box_cells HX6.out); (try replace hc7 := box_cells HX7.out); (try replace hc8 := box_cells HX8.out); clear hb; (try clear hz1); (try have hz1 := lt_blk HX1.out); (try clear hz2); (try have hz2 := lt_blk HX2.out); (try clear hz3); (try have hz3 := lt_blk HX3.out); (try clear hz4); (try have hz4 := lt_blk HX4.out); (try clear hz5); (try have hz5 := lt_blk HX5.out); (try clear hz6); (try have hz6 := lt_blk HX6.out); (try clear hz7); (try have hz7 := lt_blk HX7.out); (try clear hz8); (try have hz8 := lt_blk HX8.out)
    go_wp2_with (fail)
    refine (Add_any _ _ _ _ _ _ (HE.out.below (HB.out.alloc HB.out.size _))).mono ?_; rw [HA2.out]; rintro e w1 ⟨rfl, hb⟩; have x0 := box_below hb; have HX4 := Lib.hid x0; have hc4 := box_cells x0; clear x0; replace hb := allocB hb; replace HB := Lib.hid (HB.out.trans (hb.mono HB.out.size)); (try replace HX1 := Lib.hid (blk_keep HX1.out hb)); (try replace HX2 := Lib.hid (blk_keep HX2.out hb)); (try replace HX3 := Lib.hid (blk_keep HX3.out hb)); (try replace HX4 := Lib.hid (blk_keep HX4.out hb)); (try replace HX5 := Lib.hid (blk_keep HX5.out hb)); (try replace HX6 := Lib.hid (blk_keep HX6.out hb)); (try replace HX7 := Lib.hid (blk_keep HX7.out hb)); (try replace HX8 := Lib.hid (blk_keep HX8.out hb)); (try replace hc1 := box_cells HX1.out); (try replace hc2 := box_cells HX2.out); (try replace hc3 := box_cells HX3.out); (try replace hc4 := box_cells HX4.out); (try replace hc5 := box_cells HX5.out); (try replace hc6 := box_cells HX6.out); (try replace hc7 := box_cells HX7.out); (try replace hc8 := box_cells HX8.out); clear hb; (try clear hz1); (try have hz1 := lt_blk HX1.out); (try clear hz2); (try have hz2 := lt_blk HX2.out); (try clear hz3); (try have hz3 := lt_blk HX3.out); (try clear hz4); (try have hz4 := lt_blk HX4.out); (try clear hz5); (try have hz5 := lt_blk HX5.out); (try clear hz6); (try have hz6 := lt_blk HX6.out); (try clear hz7); (try have hz7 := lt_blk HX7.out); (try clear hz8); (try have hz8 := lt_blk HX8.out)
    go_wp2_with (fail)
    refine (PValid_any _ _ _ _).mono ?_; rw [v3]; rintro e w1 ⟨rfl, hb⟩; have x0 := box_below hb; have HX5 := Lib.hid x0; have hc5 := box_cells x0; clear x0; replace hb := allocB hb; replace HB := Lib.hid (HB.out.trans (hb.mono HB.out.size)); (try replace HX1 := Lib.hid (blk_keep HX1.out hb)); (try replace HX2 := Lib.hid (blk_keep HX2.out hb)); (try replace HX3 := Lib.hid (blk_keep HX3.out hb)); (try replace HX4 := Lib.hid (blk_keep HX4.out hb)); (try replace HX5 := Lib.hid (blk_keep HX5.out hb)); (try replace HX6 := Lib.hid (blk_keep HX6.out hb)); (try replace HX7 := Lib.hid (blk_keep HX7.out hb)); (try replace HX8 := Lib.hid (blk_keep HX8.out hb)); (try replace hc1 := box_cells HX1.out); (try replace hc2 := box_cells HX2.out); (try replace hc3 := box_cells HX3.out); (try replace hc4 := box_cells HX4.out); (try replace hc5 := box_cells HX5.out); (try replace hc6 := box_cells HX6.out); (try replace hc7 := box_cells HX7.out); (try replace hc8 := box_cells HX8.out); clear hb; (try clear hz1); (try have hz1 := lt_blk HX1.out); (try clear hz2); (try have hz2 := lt_blk HX2.out); (try clear hz3); (try have hz3 := lt_blk HX3.out); (try clear hz4); (try have hz4 := lt_blk HX4.out); (try clear hz5); (try have hz5 := lt_blk HX5.out); (try clear hz6); (try have hz6 := lt_blk HX6.out); (try clear hz7); (try have hz7 := lt_blk HX7.out); (try clear hz8); (try have hz8 := lt_blk HX8.out)
    go_wp2
    go_ret
    exact ⟨rfl, HB.out⟩
  · obtain ⟨z1, z2, z3⟩ := addR_err (s := s) (a := a) (o := o) (x := x) (y := y) (by rw [HA.out]; exact he)
    rw [HA.out] at z1 z2 z3
    simp only at z1 z2 z3
    subst z1 z2 z3
    have q1 := fun w => eql_pi 0 0 0 0 0 0 w
    have he2 : (e1 != 0) = true := by simpa using he
    go_enter Tryd.func6, Tryd.ntmps6
    go_wp2_with (fail)
    refine (head_any _ (HE2.out _ _)).mono ?_; rintro e w1 ⟨rfl, hb⟩; obtain ⟨x1, x2, hb'⟩ := box2 hb; have HX1 := Lib.hid x1; have HX2 := Lib.hid x2; have hc1 := box_cells x1; have hc2 := box_cells x2; have HB := Lib.hid hb'; clear hb hb' x1 x2
    go_wp2_with (fail)
    refine (Add_any _ _ _ _ _ _ (HE.out.below HB.out)).mono ?_; rw [HA.out]; rintro e w1 ⟨rfl, hb⟩; replace HB := Lib.hid (HB.out.trans (hb.mono HB.out.size)); (try replace HX1 := Lib.hid (blk_keep HX1.out hb)); (try replace HX2 := Lib.hid (blk_keep HX2.out hb)); (try replace HX3 := Lib.hid (blk_keep HX3.out hb)); (try replace HX4 := Lib.hid (blk_keep HX4.out hb)); (try replace HX5 := Lib.hid (blk_keep HX5.out hb)); (try replace HX6 := Lib.hid (blk_keep HX6.out hb)); (try replace HX7 := Lib.hid (blk_keep HX7.out hb)); (try replace HX8 := Lib.hid (blk_keep HX8.out hb)); (try replace hc1 := box_cells HX1.out); (try replace hc2 := box_cells HX2.out); (try replace hc3 := box_cells HX3.out); (try replace hc4 := box_cells HX4.out); (try replace hc5 := box_cells HX5.out); (try replace hc6 := box_cells HX6.out); (try replace hc7 := box_cells HX7.out); (try replace hc8 := box_cells HX8.out); clear hb; (try clear hz1); (try have hz1 := lt_blk HX1.out); (try clear hz2); (try have hz2 := lt_blk HX2.out); (try clear hz3); (try have hz3 := lt_blk HX3.out); (try clear hz4); (try have hz4 := lt_blk HX4.out); (try clear hz5); (try have hz5 := lt_blk HX5.out); (try clear hz6); (try have hz6 := lt_blk HX6.out); (try clear hz7); (try have hz7 := lt_blk HX7.out); (try clear hz8); (try have hz8 := lt_blk HX8.out)
    go_wp2
    go_ret
    exact ⟨rfl, HB.out.alloc HB.out.size _⟩

end Go.Proofs.YtogdhecmecpccaaDoor
