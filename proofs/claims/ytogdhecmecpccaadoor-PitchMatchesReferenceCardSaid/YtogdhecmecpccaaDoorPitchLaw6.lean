/- The law PitchMatchesReference: the walk. -/
import Derived.Test.YtogdhecmecpccaaDoorPitchLaws
import Derived.Test.YtogdhecmecpccaaDoorPitchRef4
namespace Go.Proofs.YtogdhecmecpccaaDoor
set_option linter.unusedSimpArgs false
set_option linter.unusedVariables false
open Go.RowKit Go.Sort

/-- The four arguments' boxes, and nothing else has turned. -/
structure Mem (w : World) (s a o s' a' o' x y x' y' : Int) (W : World) : Prop where
  h1 : W.heap[w.heap.size]? = some (.cells #[.int .i64 s, .int .i64 a, .int .i64 o] 23 (0, 0))
  h2 : W.heap[w.heap.size + 1]? = some (.cells #[.int .i64 s', .int .i64 a', .int .i64 o'] 23 (0, 0))
  h3 : W.heap[w.heap.size + 1 + 1]? = some (.cells #[.int .i64 x, .int .i64 y] 25 (0, 0))
  h4 : W.heap[w.heap.size + 1 + 1 + 1]? = some (.cells #[.int .i64 x', .int .i64 y'] 25 (0, 0))
  hb : Below w.heap.size w W
theorem Mem.below {w W W' : World} {s a o s' a' o' x y x' y' : Int} (m : Mem w s a o s' a' o' x y x' y' W) (hb : Below W.heap.size W W') : Mem w s a o s' a' o' x y x' y' W' :=
  ⟨blk_keep m.h1 hb, blk_keep m.h2 hb, blk_keep m.h3 hb, blk_keep m.h4 hb, m.hb.trans (hb.mono m.hb.size)⟩
theorem Mem.size {w W : World} {s a o s' a' o' x y x' y' : Int} (m : Mem w s a o s' a' o' x y x' y' W) : w.heap.size + 4 ≤ W.heap.size := by
  have := lt_blk m.h4; omega
theorem set_ne {w : World} {b c : Nat} {o : Obj} (hx : w.heap[b]? = some o) (hne : b ≠ c) (k : Nat) (v : Value) : (w.setCell ⟨c, k, none⟩ v).heap[b]? = some o :=
  (heap_setCell_other _ _ _ _ (show _ ≠ _ by simpa using hne)).trans hx
theorem Mem.set {w W : World} {s a o s' a' o' x y x' y' : Int} (m : Mem w s a o s' a' o' x y x' y' W) {c : Nat} (hc : w.heap.size + 4 ≤ c) (k : Nat) (v : Value) : Mem w s a o s' a' o' x y x' y' (W.setCell ⟨c, k, none⟩ v) :=
  ⟨set_ne m.h1 (by omega) k v, set_ne m.h2 (by omega) k v, set_ne m.h3 (by omega) k v, set_ne m.h4 (by omega) k v, m.hb.setCell (p := ⟨c, k, none⟩) (show w.heap.size ≤ c by omega) v⟩
theorem Mem.start {w W : World} {s a o s' a' o' x y x' y' : Int} (hb : Below ((((w.alloc (.cells #[.int .i64 s, .int .i64 a, .int .i64 o] 23)).alloc (.cells #[.int .i64 s', .int .i64 a', .int .i64 o'] 23)).alloc (.cells #[.int .i64 x, .int .i64 y] 25)).alloc (.cells #[.int .i64 x', .int .i64 y'] 25)).heap.size ((((w.alloc (.cells #[.int .i64 s, .int .i64 a, .int .i64 o] 23)).alloc (.cells #[.int .i64 s', .int .i64 a', .int .i64 o'] 23)).alloc (.cells #[.int .i64 x, .int .i64 y] 25)).alloc (.cells #[.int .i64 x', .int .i64 y'] 25)) W) : Mem w s a o s' a' o' x y x' y' W := by
  have k1 := at_alloc w (.cells #[.int .i64 s, .int .i64 a, .int .i64 o] 23) rfl
  have k2 := at_alloc (w.alloc (.cells #[.int .i64 s, .int .i64 a, .int .i64 o] 23)) (.cells #[.int .i64 s', .int .i64 a', .int .i64 o'] 23) (k := w.heap.size + 1) (by simp)
  have k3 := at_alloc ((w.alloc (.cells #[.int .i64 s, .int .i64 a, .int .i64 o] 23)).alloc (.cells #[.int .i64 s', .int .i64 a', .int .i64 o'] 23)) (.cells #[.int .i64 x, .int .i64 y] 25) (k := w.heap.size + 1 + 1) (by simp)
  have k4 := at_alloc (((w.alloc (.cells #[.int .i64 s, .int .i64 a, .int .i64 o] 23)).alloc (.cells #[.int .i64 s', .int .i64 a', .int .i64 o'] 23)).alloc (.cells #[.int .i64 x, .int .i64 y] 25)) (.cells #[.int .i64 x', .int .i64 y'] 25) (k := w.heap.size + 1 + 1 + 1) (by simp)
  refine ⟨blk_keep (up_alloc (up_alloc (up_alloc k1 _) _) _) hb, blk_keep (up_alloc (up_alloc k2 _) _) hb, blk_keep (up_alloc k3 _) hb, blk_keep k4 hb, ?_⟩
  exact (((((Below.refl _ _).alloc (Nat.le_refl _) _).alloc (by simp) _).alloc (by simp; omega) _).alloc (by simp; omega) _).trans (hb.mono (by simp; omega))
theorem Mem.set2 {w W : World} {s a o s' a' o' x y x' y' : Int} (m : Mem w s a o s' a' o' x y x' y' W) {c : Nat} (hc : w.heap.size + 4 ≤ c) (u v : Value) : Mem w s a o s' a' o' x y x' y' ((W.setCell ⟨c, 0, none⟩ u).setCell ⟨c, 1, none⟩ v) := (m.set hc 0 u).set hc 1 v
theorem Mem.set3 {w W : World} {s a o s' a' o' x y x' y' : Int} (m : Mem w s a o s' a' o' x y x' y' W) {c : Nat} (hc : w.heap.size + 4 ≤ c) (u v t : Value) : Mem w s a o s' a' o' x y x' y' (((W.setCell ⟨c, 0, none⟩ u).setCell ⟨c, 1, none⟩ v).setCell ⟨c, 2, none⟩ t) := (m.set2 hc u v).set hc 2 t
theorem keep3' {w : World} {b c : Nat} {o : Obj} {u v t : Value} (hx : w.heap[b]? = some o) (hne : b ≠ c) : (((w.setCell ⟨c, 0, none⟩ u).setCell ⟨c, 1, none⟩ v).setCell ⟨c, 2, none⟩ t).heap[b]? = some o := set_ne (keep2 hx hne) hne 2 t
theorem set3' {w : World} {c : Nat} {a b d u v t : Value} {T : TypeId} (hx : w.heap[c]? = some (.cells #[a, b, d] T (0, 0))) : (((w.setCell ⟨c, 0, none⟩ u).setCell ⟨c, 1, none⟩ v).setCell ⟨c, 2, none⟩ t).heap[c]? = some (.cells #[u, v, t] T (0, 0)) :=
  heap_setCell_same _ _ _ _ _ _ (heap_setCell_same _ _ _ _ _ _ (heap_setCell_same _ _ _ _ _ _ hx))
theorem parse_same {z : ByteArray} {p0 p1 p2 p3 q0 q1 q2 q3 : Int} (h : ParseSays z p0 p1 p2 p3) (h' : ParseSays z q0 q1 q2 q3) : p0 = q0 ∧ p1 = q1 ∧ p2 = q2 ∧ p3 = q3 := by
  rcases h with ⟨a1, a2, a3⟩ | ⟨a1, a2, a3, a4, a5⟩
  · rcases h' with ⟨b1, b2, b3⟩ | ⟨_, _, _, _, b5⟩
    · obtain ⟨e1, e2, e3⟩ := text_inj a2 b2 (a3.trans b3.symm)
      exact ⟨e1, e2, e3, by rw [a1, b1]⟩
    · exact absurd a3 (b5 _ _ _ a2)
  · rcases h' with ⟨_, b2, b3⟩ | ⟨b1, b2, b3, b4, _⟩
    · exact absurd b3 (a5 _ _ _ b2)
    · exact ⟨by rw [a2, b2], by rw [a3, b3], by rw [a4, b4], by rw [a1, b1]⟩
set_option maxRecDepth 100000 in
set_option maxHeartbeats 16000000 in
theorem matches_any (s a o s' a' o' x y x' y' : Int) (z : ByteArray) (w : World) (hE : Env w) : Calls Tryd.prog 8 #[.agg #[.int .i64 s, .int .i64 a, .int .i64 o], .agg #[.int .i64 s', .int .i64 a', .int .i64 o'], .agg #[.int .i64 x, .int .i64 y], .agg #[.int .i64 x', .int .i64 y'], .string z] w fun e w' => e = .returned (.bool true) ∧ Below w.heap.size w w' := by
  have HE := Lib.hid hE; clear hE
  have HE4 := Lib.hid (fun o1 o2 o3 o4 => HE.out.below (((((Below.refl w.heap.size w).alloc (Nat.le_refl _) o1).alloc (by simp) o2).alloc (by simp; omega) o3).alloc (by simp; omega) o4))
  rcases hN : numberR s a o with ⟨n0, n1⟩
  rcases hA : addR s a o x y with ⟨r0, r1, r2, r3⟩
  rcases hT : betweenR s a o s' a' o' with ⟨t0, t1, t2⟩
  rcases hJ : joinR x y x' y' with ⟨j0, j1, j2⟩
  rcases hK : backR x y with ⟨k0, k1, k2⟩
  rcases hX : textR s a o with ⟨u0, u1⟩
  have HN := Lib.hid hN; have HA := Lib.hid hA; have HT := Lib.hid hT; have HJ := Lib.hid hJ; have HK := Lib.hid hK; have HXT := Lib.hid hX
  clear hN hA hT hJ hK hX
  go_enter Tryd.func8, Tryd.ntmps8
  go_wp2_with (fail)
  refine (head_any _ (HE4.out _ _ _ _)).mono ?_
  rintro e w1 ⟨rfl, hb⟩
  have HM := Lib.hid (Mem.start hb)
  clear hb HE4
  have c1 := box_cells HM.out.h1; have c2 := box_cells HM.out.h2; have c3 := box_cells HM.out.h3; have c4 := box_cells HM.out.h4
  by_cases hl : 100 < z.size
  · have hlb : (100 : Int) < z.size := by omega
    go_wp2; go_ret; exact ⟨rfl, HM.out.hb⟩
  have hlb : ¬ (100 : Int) < z.size := by omega
  go_wp2
  have g0 := cell_regrown (cells3 HM.out.h1).1; have g1 := cell_regrown (cells3 HM.out.h1).2.1; have g2 := cell_regrown (cells3 HM.out.h1).2.2
  refine wp_quietB (by kernel_rfl) (by kernel_rfl) ?_
  repeat (go_big_quiet_step (first | (go_at_call 17; exact Calls.regrown_of (PValid_any _ _ _ _)) | (go_at_call 19; exact Calls.regrown_of (RValid_any _ _ _ _))))
  refine wpQuiet_nil ?_
  intro w2 hb
  clear g0 g1 g2 hl hlb
  replace HM := Lib.hid (HM.out.below hb); clear c1 c2 c3 c4; have c1 := box_cells HM.out.h1; have c2 := box_cells HM.out.h2; have c3 := box_cells HM.out.h3; have c4 := box_cells HM.out.h4
  go_wp2_with (fail)
  refine (Number_any _ _ _ _ (HE.out.below HM.out.hb)).mono ?_
  rw [HN.out]; rintro e w3 ⟨rfl, hb⟩
  replace HM := Lib.hid (HM.out.below hb); clear c1 c2 c3 c4; have c1 := box_cells HM.out.h1; have c2 := box_cells HM.out.h2; have c3 := box_cells HM.out.h3; have c4 := box_cells HM.out.h4
  go_wp2_with (fail)
  refine (RNumber_any _ _ _ _).mono ?_
  rw [HN.out]; rintro e w4 ⟨rfl, hb⟩
  replace HM := Lib.hid (HM.out.below hb); clear c1 c2 c3 c4; have c1 := box_cells HM.out.h1; have c2 := box_cells HM.out.h2; have c3 := box_cells HM.out.h3; have c4 := box_cells HM.out.h4
  have e0 : (n0 == n0) = true := by simp
  have e1 : (n1 == n1) = true := by simp
  go_wp2_with (fail)
  clear e0 e1
  refine (Add_any _ _ _ _ _ _ (HE.out.below HM.out.hb)).mono ?_
  rw [HA.out]; rintro e w5 ⟨rfl, hb⟩
  replace HM := Lib.hid (HM.out.below hb); clear c1 c2 c3 c4; have c1 := box_cells HM.out.h1; have c2 := box_cells HM.out.h2; have c3 := box_cells HM.out.h3; have c4 := box_cells HM.out.h4
  have d1 := fun o => box_cells (up_alloc HM.out.h1 o); have d3 := fun o => box_cells (up_alloc HM.out.h3 o)
  go_wp2_with (fail)
  clear d1 d3
  refine (RAdd_any _ _ _ _ _ _).mono ?_
  rw [HA.out]; rintro e w6 ⟨rfl, hb⟩
  have HX5 := Lib.hid (box_below hb)
  have HL5 := Lib.hid HM.out.size
  replace hb := allocB hb
  replace HM := Lib.hid (HM.out.below hb); clear c1 c2 c3 c4; have c1 := box_cells HM.out.h1; have c2 := box_cells HM.out.h2; have c3 := box_cells HM.out.h3; have c4 := box_cells HM.out.h4
  have c5 := box_cells HX5.out
  have d1 := fun o => box_cells (up_alloc HM.out.h1 o); have d2 := fun o => box_cells (up_alloc HM.out.h2 o); have d5 := fun o => box_cells (up_alloc HX5.out o)
  have q1 := fun w => eql_pi r0 r1 r2 r0 r1 r2 w
  simp only [beq_self_eq_true, Bool.and_true, Bool.true_and] at q1
  have e3 : (r3 == r3) = true := by simp
  go_wp2_with (fail)
  clear d1 d2 d5 q1 e3
  refine (Between_any _ _ _ _ _ _ _ (HE.out.below (HM.out.hb.alloc HM.out.hb.size _))).mono ?_
  rw [HT.out]; rintro e w7 ⟨rfl, hb⟩
  have HX6 := Lib.hid (box_below hb)
  have HL6 := Lib.hid (lt_blk HX5.out)
  replace hb := allocB hb
  replace HX5 := Lib.hid (blk_keep HX5.out hb)
  replace HM := Lib.hid (HM.out.below hb); clear c1 c2 c3 c4; have c1 := box_cells HM.out.h1; have c2 := box_cells HM.out.h2; have c3 := box_cells HM.out.h3; have c4 := box_cells HM.out.h4
  have d1 := fun o => box_cells (up_alloc HM.out.h1 o); have d2 := fun o => box_cells (up_alloc HM.out.h2 o)
  go_wp2_with (fail)
  clear d1 d2
  refine (RBetween_any _ _ _ _ _ _ _).mono ?_
  rw [HT.out]; rintro e w8 ⟨rfl, hb⟩
  have HX7 := Lib.hid (box_below hb)
  have HL7 := Lib.hid (lt_blk HX6.out)
  replace hb := allocB hb
  replace HX5 := Lib.hid (blk_keep HX5.out hb); replace HX6 := Lib.hid (blk_keep HX6.out hb)
  replace HM := Lib.hid (HM.out.below hb); clear c1 c2 c3 c4; have c1 := box_cells HM.out.h1; have c2 := box_cells HM.out.h2; have c3 := box_cells HM.out.h3; have c4 := box_cells HM.out.h4
  have c7 := box_cells HX7.out
  have d3 := fun o => box_cells (up_alloc HM.out.h3 o); have d4 := fun o => box_cells (up_alloc HM.out.h4 o); have d7 := fun o => box_cells (up_alloc HX7.out o)
  have q1 := fun w => eql_iv t0 t1 t0 t1 w
  simp only [beq_self_eq_true, Bool.and_true, Bool.true_and] at q1
  have e3 : (t2 == t2) = true := by simp
  go_wp2_with (fail)
  clear d3 d4 d7 c7 q1 e3
  refine (Join_any _ _ _ _ _).mono ?_
  rw [HJ.out]; rintro e w9 ⟨rfl, hb⟩
  have HX8 := Lib.hid (box_below hb)
  have HL8 := Lib.hid (lt_blk HX7.out)
  replace hb := allocB hb
  replace HX5 := Lib.hid (blk_keep HX5.out hb); replace HX6 := Lib.hid (blk_keep HX6.out hb); replace HX7 := Lib.hid (blk_keep HX7.out hb)
  replace HM := Lib.hid (HM.out.below hb); clear c1 c2 c3 c4; have c1 := box_cells HM.out.h1; have c2 := box_cells HM.out.h2; have c3 := box_cells HM.out.h3; have c4 := box_cells HM.out.h4
  have NE := Lib.hid (show (w5.heap.size ≠ w7.heap.size ∧ w6.heap.size ≠ w7.heap.size ∧ w8.heap.size ≠ w7.heap.size) ∧ (w5.heap.size ≠ w8.heap.size ∧ w6.heap.size ≠ w8.heap.size ∧ w7.heap.size ≠ w8.heap.size) ∧ w6.heap.size ≠ w5.heap.size ∧ w.heap.size + 4 ≤ w5.heap.size ∧ w.heap.size + 4 ≤ w6.heap.size ∧ w.heap.size + 4 ≤ w7.heap.size ∧ w.heap.size + 4 ≤ w8.heap.size by
    have := HL5.out; have := HL6.out; have := HL7.out; have := HL8.out
    omega)
  clear HL5 HL6 HL7 HL8
  have c7 := box_cells HX7.out; have f7 := box_free HX7.out; replace HM := Lib.hid (HM.out.set2 NE.out.2.2.2.2.2.1 (.int .i64 j0) (.int .i64 j1)); replace HX5 := Lib.hid (keep2 (u := .int .i64 j0) (v := .int .i64 j1) HX5.out NE.out.1.1); replace HX6 := Lib.hid (keep2 (u := .int .i64 j0) (v := .int .i64 j1) HX6.out NE.out.1.2.1); replace HX8 := Lib.hid (keep2 (u := .int .i64 j0) (v := .int .i64 j1) HX8.out NE.out.1.2.2); replace HX7 := Lib.hid (set2 (u := .int .i64 j0) (v := .int .i64 j1) HX7.out); have d3 := box_cells HM.out.h3; have d4 := box_cells HM.out.h4
  go_wp2_with (fail)
  clear c7 f7 d3 d4
  refine (RJoin_any _ _ _ _ _).mono ?_
  rw [HJ.out]; rintro e w10 ⟨rfl, hb⟩
  replace HX5 := Lib.hid (blk_keep HX5.out hb); replace HX6 := Lib.hid (blk_keep HX6.out hb); replace HX7 := Lib.hid (blk_keep HX7.out hb); replace HX8 := Lib.hid (blk_keep HX8.out hb)
  replace HM := Lib.hid (HM.out.below hb); clear c1 c2 c3 c4; have c1 := box_cells HM.out.h1; have c2 := box_cells HM.out.h2; have c3 := box_cells HM.out.h3; have c4 := box_cells HM.out.h4
  have c8 := box_cells HX8.out; have f8 := box_free HX8.out; replace HM := Lib.hid (HM.out.set2 NE.out.2.2.2.2.2.2 (.int .i64 j0) (.int .i64 j1)); replace HX5 := Lib.hid (keep2 (u := .int .i64 j0) (v := .int .i64 j1) HX5.out NE.out.2.1.1); replace HX6 := Lib.hid (keep2 (u := .int .i64 j0) (v := .int .i64 j1) HX6.out NE.out.2.1.2.1); replace HX7 := Lib.hid (keep2 (u := .int .i64 j0) (v := .int .i64 j1) HX7.out NE.out.2.1.2.2); replace HX8 := Lib.hid (set2 (u := .int .i64 j0) (v := .int .i64 j1) HX8.out); have d3 := box_cells HM.out.h3; have d4 := box_cells HM.out.h4; have d7 := box_cells HX7.out; have d8 := box_cells HX8.out; have qn := fun w => eql_iv j0 j1 j0 j1 w; simp only [beq_self_eq_true, Bool.and_true, Bool.true_and] at qn; have en : (j2 == j2) = true := by simp
  go_wp2_with (fail)
  clear c8 f8 d3 d4 d7 d8 qn en
  refine (Back_any _ _ _).mono ?_
  rw [HK.out]; rintro e w11 ⟨rfl, hb⟩
  replace HX5 := Lib.hid (blk_keep HX5.out hb); replace HX6 := Lib.hid (blk_keep HX6.out hb); replace HX7 := Lib.hid (blk_keep HX7.out hb); replace HX8 := Lib.hid (blk_keep HX8.out hb)
  replace HM := Lib.hid (HM.out.below hb); clear c1 c2 c3 c4; have c1 := box_cells HM.out.h1; have c2 := box_cells HM.out.h2; have c3 := box_cells HM.out.h3; have c4 := box_cells HM.out.h4
  have c7 := box_cells HX7.out; have f7 := box_free HX7.out; replace HM := Lib.hid (HM.out.set2 NE.out.2.2.2.2.2.1 (.int .i64 k0) (.int .i64 k1)); replace HX5 := Lib.hid (keep2 (u := .int .i64 k0) (v := .int .i64 k1) HX5.out NE.out.1.1); replace HX6 := Lib.hid (keep2 (u := .int .i64 k0) (v := .int .i64 k1) HX6.out NE.out.1.2.1); replace HX8 := Lib.hid (keep2 (u := .int .i64 k0) (v := .int .i64 k1) HX8.out NE.out.1.2.2); replace HX7 := Lib.hid (set2 (u := .int .i64 k0) (v := .int .i64 k1) HX7.out); have d3 := box_cells HM.out.h3; have d4 := box_cells HM.out.h4
  go_wp2_with (fail)
  clear c7 f7 d3 d4
  refine (RBack_any _ _ _).mono ?_
  rw [HK.out]; rintro e w12 ⟨rfl, hb⟩
  replace HX5 := Lib.hid (blk_keep HX5.out hb); replace HX6 := Lib.hid (blk_keep HX6.out hb); replace HX7 := Lib.hid (blk_keep HX7.out hb); replace HX8 := Lib.hid (blk_keep HX8.out hb)
  replace HM := Lib.hid (HM.out.below hb); clear c1 c2 c3 c4; have c1 := box_cells HM.out.h1; have c2 := box_cells HM.out.h2; have c3 := box_cells HM.out.h3; have c4 := box_cells HM.out.h4
  have c8 := box_cells HX8.out; have f8 := box_free HX8.out; replace HM := Lib.hid (HM.out.set2 NE.out.2.2.2.2.2.2 (.int .i64 k0) (.int .i64 k1)); replace HX5 := Lib.hid (keep2 (u := .int .i64 k0) (v := .int .i64 k1) HX5.out NE.out.2.1.1); replace HX6 := Lib.hid (keep2 (u := .int .i64 k0) (v := .int .i64 k1) HX6.out NE.out.2.1.2.1); replace HX7 := Lib.hid (keep2 (u := .int .i64 k0) (v := .int .i64 k1) HX7.out NE.out.2.1.2.2); replace HX8 := Lib.hid (set2 (u := .int .i64 k0) (v := .int .i64 k1) HX8.out); have d3 := box_cells HM.out.h3; have d4 := box_cells HM.out.h4; have d7 := box_cells HX7.out; have d8 := box_cells HX8.out; have qn := fun w => eql_iv k0 k1 k0 k1 w; simp only [beq_self_eq_true, Bool.and_true, Bool.true_and] at qn; have en : (k2 == k2) = true := by simp
  have d1 := box_cells HM.out.h1
  go_wp2_with (fail)
  clear c8 f8 d3 d4 d7 d8 qn en
  clear d1
  refine (Text_any _ _ _ _ (HE.out.below HM.out.hb)).mono ?_
  rw [HXT.out]; rintro e w13 ⟨rfl, hb⟩
  replace HX5 := Lib.hid (blk_keep HX5.out hb); replace HX6 := Lib.hid (blk_keep HX6.out hb); replace HX7 := Lib.hid (blk_keep HX7.out hb); replace HX8 := Lib.hid (blk_keep HX8.out hb)
  replace HM := Lib.hid (HM.out.below hb); clear c1 c2 c3 c4; have c1 := box_cells HM.out.h1; have c2 := box_cells HM.out.h2; have c3 := box_cells HM.out.h3; have c4 := box_cells HM.out.h4
  go_wp2_with (fail)
  refine (RText_any _ _ _ _).mono ?_
  rw [HXT.out]; rintro e w14 ⟨rfl, hb⟩
  replace HX5 := Lib.hid (blk_keep HX5.out hb); replace HX6 := Lib.hid (blk_keep HX6.out hb); replace HX7 := Lib.hid (blk_keep HX7.out hb); replace HX8 := Lib.hid (blk_keep HX8.out hb)
  replace HM := Lib.hid (HM.out.below hb); clear c1 c2 c3 c4; have c1 := box_cells HM.out.h1; have c2 := box_cells HM.out.h2; have c3 := box_cells HM.out.h3; have c4 := box_cells HM.out.h4
  have e1 : (u0.toList == u0.toList) = true := by simp
  have e2 : (u1 == u1) = true := by simp
  go_wp2_with (fail)
  clear e1 e2
  refine (Parse_any z _ (by omega) (HE.out.below HM.out.hb)).mono ?_
  rintro e w15 ⟨p0, p1, p2, p3, rfl, hs1, hb⟩
  have HS1 := Lib.hid hs1
  replace HX5 := Lib.hid (blk_keep HX5.out hb); replace HX6 := Lib.hid (blk_keep HX6.out hb); replace HX7 := Lib.hid (blk_keep HX7.out hb); replace HX8 := Lib.hid (blk_keep HX8.out hb)
  clear hs1
  replace HM := Lib.hid (HM.out.below hb); clear c1 c2 c3 c4; have c1 := box_cells HM.out.h1; have c2 := box_cells HM.out.h2; have c3 := box_cells HM.out.h3; have c4 := box_cells HM.out.h4
  have c5 := box_cells HX5.out; have f5 := box_free HX5.out
  replace HM := Lib.hid (HM.out.set3 NE.out.2.2.2.1 (.int .i64 p0) (.int .i64 p1) (.int .i64 p2))
  replace HX6 := Lib.hid (keep3' (u := .int .i64 p0) (v := .int .i64 p1) (t := .int .i64 p2) HX6.out NE.out.2.2.1)
  replace HX5 := Lib.hid (set3' (u := .int .i64 p0) (v := .int .i64 p1) (t := .int .i64 p2) HX5.out)
  go_wp2_with (fail)
  clear c5 f5
  refine (RParse_any z _ (by omega)).mono ?_
  rintro e w16 ⟨q0, q1, q2, q3, rfl, hs2, hb⟩
  obtain ⟨rfl, rfl, rfl, rfl⟩ := parse_same HS1.out hs2
  replace HX5 := Lib.hid (blk_keep HX5.out hb); replace HX6 := Lib.hid (blk_keep HX6.out hb)
  clear hs2
  replace HM := Lib.hid (HM.out.below hb); clear c1 c2 c3 c4; have c1 := box_cells HM.out.h1; have c2 := box_cells HM.out.h2; have c3 := box_cells HM.out.h3; have c4 := box_cells HM.out.h4
  have c6 := box_cells HX6.out; have f6 := box_free HX6.out
  replace HM := Lib.hid (HM.out.set3 NE.out.2.2.2.2.1 (.int .i64 p0) (.int .i64 p1) (.int .i64 p2))
  have d5 := box_cells (keep3' (u := .int .i64 p0) (v := .int .i64 p1) (t := .int .i64 p2) HX5.out (Ne.symm NE.out.2.2.1))
  have d6 := box_cells (set3' (u := .int .i64 p0) (v := .int .i64 p1) (t := .int .i64 p2) HX6.out)
  have qq := fun w => eql_pi p0 p1 p2 p0 p1 p2 w
  simp only [beq_self_eq_true, Bool.and_true, Bool.true_and] at qq
  have e3 : (p3 == p3) = true := by simp
  go_wp2
  go_ret
  exact ⟨rfl, HM.out.hb⟩
end Go.Proofs.YtogdhecmecpccaaDoor
