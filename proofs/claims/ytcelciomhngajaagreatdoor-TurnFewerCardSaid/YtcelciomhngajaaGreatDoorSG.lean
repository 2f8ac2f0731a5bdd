/- Texts of this seat, laid together: ScIn1, ScIn2, ScIn3, ScVw1. -/
import Derived.Test.YtcelciomhngajaaGreatDoorSC
import Derived.Test.YtcelciomhngajaaGreatDoorSB
import Derived.Shelf.Abstract
import Derived.Test.YtcelciomhngajaaGreatDoorSF
/- Package instrument: within, sound, written: walked. -/
namespace Go.Proofs.YtcelciomhngajaaGreatDoor
set_option linter.unusedSimpArgs false
set_option linter.unusedVariables false
open Go.RowKit Go.Sort

theorem iwithin_any (n far : Int) (w : World) (h0 : 0 ≤ far) (h1 : far ≤ 1000) : Calls Tryz.prog 213 #[.int .i64 n, .int .i64 far] w fun e w' => e = .returned (.bool (inB n (-far) far)) ∧ w = w' := by
  go_enter Tryz.func213, Tryz.ntmps213
  go_wp2
  all_goals (go_ret; exact ⟨by simp [inB, *] <;> omega, rfl⟩)
theorem isound_any (s a o : Int) (w : World) (hE : Env w) : Calls Tryz.prog 214 #[.agg #[.int .i64 s, .int .i64 a, .int .i64 o]] w fun e w' => e = .returned (.int .i64 (numI ⟨s, a, o⟩)) ∧ Below w.heap.size w w' := by
  have HE := Lib.hid hE; clear hE
  have HN := Lib.hid (num_R s a o)
  go_enter Tryz.func214, Tryz.ntmps214
  go_wp2_with (go_at_call 144; refine (Number_any _ _ _ _ (HE.out.below ((Below.refl _ _).alloc (Nat.le_refl _) _))).mono ?_; rw [HN.out]; generalize (numberR s a o).2 = E at *; rintro e w2 ⟨rfl, hb⟩; have HB := Lib.hid (allocB hb); clear hb)
  go_ret
  exact ⟨rfl, HB.out⟩
theorem shift_eq (x y : Int) : shiftB ⟨x, y⟩ = (inB x (-21) 21 && inB y (-36) 36 && inB (7 * y - 12 * x) (-12) 12) := rfl
set_option maxRecDepth 100000 in
set_option maxHeartbeats 8000000 in
theorem iwritten_any (p : Pa) (w : World) (hE : Env w) : Calls Tryz.prog 197 #[.agg #[.int .i64 p.id, .int .i64 p.section_, .int .i64 p.of, .int .i64 p.octave, .int .i64 p.desks, .int .i64 p.shift.x, .int .i64 p.shift.y, .int .i64 p.low.s, .int .i64 p.low.a, .int .i64 p.low.o, .int .i64 p.high.s, .int .i64 p.high.a, .int .i64 p.high.o]] w fun e w' => e = .returned (.bool (writtenB p)) ∧ Below w.heap.size w w' := by
  have HE := Lib.hid hE; clear hE
  obtain ⟨id, sec, pof, oct, desks, ⟨x, y⟩, ⟨ls, la, lo⟩, ⟨hs, ha, ho⟩⟩ := p
  have HR := Lib.hid (show writtenB ⟨id, sec, pof, oct, desks, ⟨x, y⟩, ⟨ls, la, lo⟩, ⟨hs, ha, ho⟩⟩ = (shiftB ⟨x, y⟩ && vldB ls la lo && vldB hs ha ho && decide (numI ⟨ls, la, lo⟩ ≤ numI ⟨hs, ha, ho⟩)) from rfl)
  generalize writtenB ⟨id, sec, pof, oct, desks, ⟨x, y⟩, ⟨ls, la, lo⟩, ⟨hs, ha, ho⟩⟩ = R at *
  generalize hE7 : vldB ls la lo = b7 at *; have E7 := Lib.hid hE7; clear hE7
  generalize hE8 : vldB hs ha ho = b8 at *; have E8 := Lib.hid hE8; clear hE8
  generalize hE9 : numI ⟨ls, la, lo⟩ = nl at *; have E9 := Lib.hid hE9; clear hE9
  generalize hE10 : numI ⟨hs, ha, ho⟩ = nh at *; have E10 := Lib.hid hE10; clear hE10
  have V1 := Lib.hid (show ∀ w, Calls Tryz.prog 158 #[.agg #[.int .i64 ls, .int .i64 la, .int .i64 lo]] w fun e w' => e = .returned (.bool b7) ∧ Below w.heap.size w w' from fun w => E7.out ▸ PValid_any ls la lo w)
  have V2 := Lib.hid (show ∀ w, Calls Tryz.prog 158 #[.agg #[.int .i64 hs, .int .i64 ha, .int .i64 ho]] w fun e w' => e = .returned (.bool b8) ∧ Below w.heap.size w w' from fun w => E8.out ▸ PValid_any hs ha ho w)
  have N1 := Lib.hid (show ∀ w, Env w → Calls Tryz.prog 214 #[.agg #[.int .i64 ls, .int .i64 la, .int .i64 lo]] w fun e w' => e = .returned (.int .i64 nl) ∧ Below w.heap.size w w' from fun w hE => E9.out ▸ isound_any ls la lo w hE)
  have N2 := Lib.hid (show ∀ w, Env w → Calls Tryz.prog 214 #[.agg #[.int .i64 hs, .int .i64 ha, .int .i64 ho]] w fun e w' => e = .returned (.int .i64 nh) ∧ Below w.heap.size w w' from fun w hE => E10.out ▸ isound_any hs ha ho w hE)
  have HSE := Lib.hid (shift_eq x y)
  have HSF := Lib.hid (fun h : shiftB ⟨x, y⟩ = true => (shift_frm h : frmB x y = true))
  generalize shiftB ⟨x, y⟩ = S at *
  go_enter Tryz.func197, Tryz.ntmps197
  go_upto_region 1 with (fail)
  have x1 := heap_alloc_new w (.cells #[.int .i64 id, .int .i64 sec, .int .i64 pof, .int .i64 oct, .int .i64 desks, .int .i64 x, .int .i64 y, .int .i64 ls, .int .i64 la, .int .i64 lo, .int .i64 hs, .int .i64 ha, .int .i64 ho] 93)
  have hb := (Below.refl w.heap.size w).alloc (Nat.le_refl _) (.cells #[.int .i64 id, .int .i64 sec, .int .i64 pof, .int .i64 oct, .int .i64 desks, .int .i64 x, .int .i64 y, .int .i64 ls, .int .i64 la, .int .i64 lo, .int .i64 hs, .int .i64 ha, .int .i64 ho] 93)
  generalize w.alloc (.cells #[.int .i64 id, .int .i64 sec, .int .i64 pof, .int .i64 oct, .int .i64 desks, .int .i64 x, .int .i64 y, .int .i64 ls, .int .i64 la, .int .i64 lo, .int .i64 hs, .int .i64 ha, .int .i64 ho] 93) = W at *
  have HX := Lib.hid x1; have HB := Lib.hid hb; have hc := box_cells x1
  clear x1 hb
  cases hv : frmB x y
  · have HF := Lib.hid (show fifR x y = (0, 1) by simp [fifR, hv])
    have hS : S = false := by
      cases S
      · rfl
      · have h9 : frmB x y = true := HSF.out rfl
        rw [hv] at h9; cases h9
    subst hS
    clear HSE HSF hv
    obtain ⟨F, b1, b2, b3, E1, E2, E3⟩ : ∃ (F : Int) (b1 b2 b3 : Bool), Hid (inB x (-21) 21 = b1) ∧ Hid (inB y (-36) 36 = b2) ∧ Hid (inB F (-12) 12 = b3) := ⟨0, _, _, _, Lib.hid rfl, Lib.hid rfl, Lib.hid rfl⟩
    (go_upto_region 3 with (first | (go_at_call 213; refine (iwithin_any _ _ _ (by decide) (by decide)).mono ?_; (first | rw [E1.out] | rw [E2.out] | rw [E3.out]); rintro e w' ⟨rfl, rfl⟩) | (go_at_call 186; refine (Fifths_any _ _ _).mono ?_; rw [HF.out]; rintro e w2 ⟨rfl, hb⟩; replace HX := Lib.hid (blk_keep HX.out hb); replace HB := Lib.hid (HB.out.trans (hb.mono HB.out.size)); clear hb hc; have hc := box_cells HX.out)); refine wp_quietB (by kernel_rfl) (by kernel_rfl) ?_; (repeat (go_big_quiet_step (fail))); refine wpQuiet_nil ?_; intro w9 hb9; go_wp2; go_ret; refine ⟨ret_bool ?_, HB.out.trans (hb9.mono HB.out.size)⟩; rw [HR.out]; (first | (simp [*]; done) | (simp [*]; intros; omega)))
  · have HF := Lib.hid (show fifR x y = (7 * y - 12 * x, 0) by simp [fifR, hv])
    generalize 7 * y - 12 * x = F at *
    generalize hE1 : inB x (-21) 21 = b1 at *; have E1 := Lib.hid hE1; clear hE1
    generalize hE2 : inB y (-36) 36 = b2 at *; have E2 := Lib.hid hE2; clear hE2
    generalize hE3 : inB F (-12) 12 = b3 at *; have E3 := Lib.hid hE3; clear hE3
    have hS := HSE.out
    clear HSE HSF hv
    subst hS
    cases b1
    · (go_upto_region 3 with (first | (go_at_call 213; refine (iwithin_any _ _ _ (by decide) (by decide)).mono ?_; (first | rw [E1.out] | rw [E2.out] | rw [E3.out]); rintro e w' ⟨rfl, rfl⟩) | (go_at_call 186; refine (Fifths_any _ _ _).mono ?_; rw [HF.out]; rintro e w2 ⟨rfl, hb⟩; replace HX := Lib.hid (blk_keep HX.out hb); replace HB := Lib.hid (HB.out.trans (hb.mono HB.out.size)); clear hb hc; have hc := box_cells HX.out)); refine wp_quietB (by kernel_rfl) (by kernel_rfl) ?_; (repeat (go_big_quiet_step (fail))); refine wpQuiet_nil ?_; intro w9 hb9; go_wp2; go_ret; refine ⟨ret_bool ?_, HB.out.trans (hb9.mono HB.out.size)⟩; rw [HR.out]; (first | (simp [*]; done) | (simp [*]; intros; omega)))
    cases b2
    · (go_upto_region 3 with (first | (go_at_call 213; refine (iwithin_any _ _ _ (by decide) (by decide)).mono ?_; (first | rw [E1.out] | rw [E2.out] | rw [E3.out]); rintro e w' ⟨rfl, rfl⟩) | (go_at_call 186; refine (Fifths_any _ _ _).mono ?_; rw [HF.out]; rintro e w2 ⟨rfl, hb⟩; replace HX := Lib.hid (blk_keep HX.out hb); replace HB := Lib.hid (HB.out.trans (hb.mono HB.out.size)); clear hb hc; have hc := box_cells HX.out)); refine wp_quietB (by kernel_rfl) (by kernel_rfl) ?_; (repeat (go_big_quiet_step (fail))); refine wpQuiet_nil ?_; intro w9 hb9; go_wp2; go_ret; refine ⟨ret_bool ?_, HB.out.trans (hb9.mono HB.out.size)⟩; rw [HR.out]; (first | (simp [*]; done) | (simp [*]; intros; omega)))
    cases b3
    · (go_upto_region 3 with (first | (go_at_call 213; refine (iwithin_any _ _ _ (by decide) (by decide)).mono ?_; (first | rw [E1.out] | rw [E2.out] | rw [E3.out]); rintro e w' ⟨rfl, rfl⟩) | (go_at_call 186; refine (Fifths_any _ _ _).mono ?_; rw [HF.out]; rintro e w2 ⟨rfl, hb⟩; replace HX := Lib.hid (blk_keep HX.out hb); replace HB := Lib.hid (HB.out.trans (hb.mono HB.out.size)); clear hb hc; have hc := box_cells HX.out)); refine wp_quietB (by kernel_rfl) (by kernel_rfl) ?_; (repeat (go_big_quiet_step (fail))); refine wpQuiet_nil ?_; intro w9 hb9; go_wp2; go_ret; refine ⟨ret_bool ?_, HB.out.trans (hb9.mono HB.out.size)⟩; rw [HR.out]; (first | (simp [*]; done) | (simp [*]; intros; omega)))
    cases b7
    · go_upto_region 3 with (first | (go_at_call 213; refine (iwithin_any _ _ _ (by decide) (by decide)).mono ?_; (first | rw [E1.out] | rw [E2.out] | rw [E3.out]); rintro e w' ⟨rfl, rfl⟩) | (go_at_call 186; refine (Fifths_any _ _ _).mono ?_; rw [HF.out]; rintro e w2 ⟨rfl, hb⟩; replace HX := Lib.hid (blk_keep HX.out hb); replace HB := Lib.hid (HB.out.trans (hb.mono HB.out.size)); clear hb hc; have hc := box_cells HX.out)); have g0 := cell_regrown (hc 7); have g1 := cell_regrown (hc 8); have g2 := cell_regrown (hc 9); have g3 := cell_regrown (hc 10); have g4 := cell_regrown (hc 11); have g5 := cell_regrown (hc 12); refine wp_quietB (by kernel_rfl) (by kernel_rfl) ?_; (repeat (go_big_quiet_step (fail))); go_big_quiet_step ((go_at_call 158; refine Calls.regrown_of (V1.out _))); (repeat (go_big_quiet_step (fail)))
      (repeat (go_big_quiet_step (fail))); refine wpQuiet_nil ?_; intro w9 hb9; go_wp2; go_ret; refine ⟨ret_bool ?_, HB.out.trans (hb9.mono HB.out.size)⟩; rw [HR.out]; (first | (simp [*]; done) | (simp [*]; intros; omega))
    cases b8
    · go_upto_region 3 with (first | (go_at_call 213; refine (iwithin_any _ _ _ (by decide) (by decide)).mono ?_; (first | rw [E1.out] | rw [E2.out] | rw [E3.out]); rintro e w' ⟨rfl, rfl⟩) | (go_at_call 186; refine (Fifths_any _ _ _).mono ?_; rw [HF.out]; rintro e w2 ⟨rfl, hb⟩; replace HX := Lib.hid (blk_keep HX.out hb); replace HB := Lib.hid (HB.out.trans (hb.mono HB.out.size)); clear hb hc; have hc := box_cells HX.out)); have g0 := cell_regrown (hc 7); have g1 := cell_regrown (hc 8); have g2 := cell_regrown (hc 9); have g3 := cell_regrown (hc 10); have g4 := cell_regrown (hc 11); have g5 := cell_regrown (hc 12); refine wp_quietB (by kernel_rfl) (by kernel_rfl) ?_; (repeat (go_big_quiet_step (fail))); go_big_quiet_step ((go_at_call 158; refine Calls.regrown_of (V1.out _))); (repeat (go_big_quiet_step (fail)))
      go_big_quiet_step ((go_at_call 158; refine Calls.regrown_of (V2.out _))); (repeat (go_big_quiet_step (fail)))
      (repeat (go_big_quiet_step (fail))); refine wpQuiet_nil ?_; intro w9 hb9; go_wp2; go_ret; refine ⟨ret_bool ?_, HB.out.trans (hb9.mono HB.out.size)⟩; rw [HR.out]; (first | (simp [*]; done) | (simp [*]; intros; omega))
    by_cases c4 : nl ≤ nh
    · go_upto_region 3 with (first | (go_at_call 213; refine (iwithin_any _ _ _ (by decide) (by decide)).mono ?_; (first | rw [E1.out] | rw [E2.out] | rw [E3.out]); rintro e w' ⟨rfl, rfl⟩) | (go_at_call 186; refine (Fifths_any _ _ _).mono ?_; rw [HF.out]; rintro e w2 ⟨rfl, hb⟩; replace HX := Lib.hid (blk_keep HX.out hb); replace HB := Lib.hid (HB.out.trans (hb.mono HB.out.size)); clear hb hc; have hc := box_cells HX.out)); have g0 := cell_regrown (hc 7); have g1 := cell_regrown (hc 8); have g2 := cell_regrown (hc 9); have g3 := cell_regrown (hc 10); have g4 := cell_regrown (hc 11); have g5 := cell_regrown (hc 12); refine wp_quietB (by kernel_rfl) (by kernel_rfl) ?_; (repeat (go_big_quiet_step (fail))); go_big_quiet_step ((go_at_call 158; refine Calls.regrown_of (V1.out _))); (repeat (go_big_quiet_step (fail)))
      go_big_quiet_step ((go_at_call 158; refine Calls.regrown_of (V2.out _))); (repeat (go_big_quiet_step (fail)))
      go_big_quiet_step ((go_at_call 214; refine Calls.regrown_of (N1.out _ (HE.out.below (HB.out.trans ((below_regrown _ _ _).mono HB.out.size)))))); (repeat (go_big_quiet_step (fail))); go_big_quiet_step ((go_at_call 214; refine Calls.regrown_of (N2.out _ (HE.out.below (HB.out.trans ((below_regrown _ _ _).mono HB.out.size))))))
      (repeat (go_big_quiet_step (fail))); refine wpQuiet_nil ?_; intro w9 hb9; go_wp2; go_ret; refine ⟨ret_bool ?_, HB.out.trans (hb9.mono HB.out.size)⟩; rw [HR.out]; (first | (simp [*]; done) | (simp [*]; intros; omega))
    · go_upto_region 3 with (first | (go_at_call 213; refine (iwithin_any _ _ _ (by decide) (by decide)).mono ?_; (first | rw [E1.out] | rw [E2.out] | rw [E3.out]); rintro e w' ⟨rfl, rfl⟩) | (go_at_call 186; refine (Fifths_any _ _ _).mono ?_; rw [HF.out]; rintro e w2 ⟨rfl, hb⟩; replace HX := Lib.hid (blk_keep HX.out hb); replace HB := Lib.hid (HB.out.trans (hb.mono HB.out.size)); clear hb hc; have hc := box_cells HX.out)); have g0 := cell_regrown (hc 7); have g1 := cell_regrown (hc 8); have g2 := cell_regrown (hc 9); have g3 := cell_regrown (hc 10); have g4 := cell_regrown (hc 11); have g5 := cell_regrown (hc 12); refine wp_quietB (by kernel_rfl) (by kernel_rfl) ?_; (repeat (go_big_quiet_step (fail))); go_big_quiet_step ((go_at_call 158; refine Calls.regrown_of (V1.out _))); (repeat (go_big_quiet_step (fail)))
      go_big_quiet_step ((go_at_call 158; refine Calls.regrown_of (V2.out _))); (repeat (go_big_quiet_step (fail)))
      go_big_quiet_step ((go_at_call 214; refine Calls.regrown_of (N1.out _ (HE.out.below (HB.out.trans ((below_regrown _ _ _).mono HB.out.size)))))); (repeat (go_big_quiet_step (fail))); go_big_quiet_step ((go_at_call 214; refine Calls.regrown_of (N2.out _ (HE.out.below (HB.out.trans ((below_regrown _ _ _).mono HB.out.size))))))
      (repeat (go_big_quiet_step (fail))); refine wpQuiet_nil ?_; intro w9 hb9; go_wp2; go_ret; refine ⟨ret_bool ?_, HB.out.trans (hb9.mono HB.out.size)⟩; rw [HR.out]; (first | (simp [*]; done) | (simp [*]; intros; omega))
open Go.RowKit Go.Sort Go.Shelf

/-- A function value writes what it gets into a cell of its own. -/
def SetO (g : Nat) (T : TypeId) (zs : Array Value) (out : Int → Int → Int → Array Value) : Prop := ∀ (k x y : Int) (bt : Nat) (W : World), W.heap[bt]? = some (.cells zs T (0, 0)) →
  Calls Tryz.prog g #[.int .i64 k, .agg #[.int .i64 x, .int .i64 y], .pointer (some ⟨bt, 0, none⟩)] W fun e W' => e = .returned (.tuple #[]) ∧ W'.heap[bt]? = some (.cells (out k x y) T (0, 0)) ∧ KeepB W.heap.size [bt] W W'
theorem keep_alloc (S : List Nat) (W : World) (o : Obj) : KeepB W.heap.size S W (W.alloc o) := KeepB.of_below' ((Below.refl _ _).alloc (Nat.le_refl _) _)
theorem key1_set : SetO 176 3 #[.int .i64 0] (fun k _ _ => #[.int .i64 k]) := by
  intro k x y bt W h
  have h2 := up_alloc h (.cells #[.int .i64 x, .int .i64 y] 91)
  have HK := Lib.hid (keep_alloc [bt] W (.cells #[.int .i64 x, .int .i64 y] 91))
  have hlt := lt_blk h
  go_enter Tryz.func176, Tryz.ntmps176
  go_upto_region 1 with (fail)
  generalize W.alloc (.cells #[.int .i64 x, .int .i64 y] 91) = W2 at *
  have HX := Lib.hid h2
  have hc := box_cells h2; have hf := box_free h2; have hz := lt_blk h2
  clear h2
  go_wp2
  go_end0
  exact ⟨rfl, heap_setCell_same _ _ _ _ _ _ HX.out, HK.out.set (.inl (by simp)) _⟩
theorem write1_set : SetO 174 91 #[.int .i64 0, .int .i64 0] (fun _ x y => #[.int .i64 x, .int .i64 y]) := by
  intro k x y bt W h
  have h2 := up_alloc h (.cells #[.int .i64 x, .int .i64 y] 91)
  have h3 := heap_alloc_new W (.cells #[.int .i64 x, .int .i64 y] 91)
  have HK := Lib.hid (keep_alloc [bt] W (.cells #[.int .i64 x, .int .i64 y] 91))
  have hlt := lt_blk h
  go_enter Tryz.func174, Tryz.ntmps174
  go_upto_region 1 with (fail)
  generalize W.alloc (.cells #[.int .i64 x, .int .i64 y] 91) = W2 at *
  have HX := Lib.hid h2
  have hc := box_cells h2; have hf := box_free h2; have hz := lt_blk h2; have hc3 := box_cells h3
  clear h2 h3
  go_wp2
  go_end0
  exact ⟨rfl, heap_setCell_same _ _ _ _ _ _ (heap_setCell_same _ _ _ _ _ _ HX.out), (HK.out.set (.inl (by simp)) _).set (.inl (by simp)) _⟩
theorem enters_key1 : ∀ args w, (callFunc 176 args).run Tryz.prog w = .ok (.enter 176 args) w := enters_of Tryz.func176 (by kernel_rfl) rfl
theorem enters_write1 : ∀ args w, (callFunc 174 args).run Tryz.prog w = .ok (.enter 174 args) w := enters_of Tryz.func174 (by kernel_rfl) rfl
theorem move_bad {p : Pa} {k : Int} (hk : keyB k = false) : moveR k (-p.shift.x) (-p.shift.y) = (0, 0, 0, 1) := by
  have : inB k (-7) 7 = false := hk
  simp [moveR, this]
theorem move_good {p : Pa} {k : Int} (h : shiftB p.shift = true) (hk : keyB k = true) : moveR k (-p.shift.x) (-p.shift.y) = (mvK p k, mvX p k, mvY p k, 0) :=
  Prod.ext rfl (Prod.ext rfl (Prod.ext rfl (move_ok h hk).1))
theorem back_good {p : Pa} (h : shiftB p.shift = true) : backR p.shift.x p.shift.y = (-p.shift.x, -p.shift.y, 0) := by
  have : frmB p.shift.x p.shift.y = true := shift_frm h
  simp [backR, this]
/-- What moved says where there is a written key, and where there is none. -/
theorem moved_no_0 {p : Pa} (k : Int) (hw : writtenB p = false) (g : Nat) (T : TypeId) (zs : Array Value) (out : Int → Int → Int → Array Value) (bt : Nat) (w : World) (eg : ∀ args w, (callFunc g args).run Tryz.prog w = .ok (.enter g args) w) (hs : SetO g T zs out) (h0 : w.heap[bt]? = some (.cells zs T (0, 0))) (hE : Env w) :
    Calls Tryz.prog 173 #[.agg #[.int .i64 p.id, .int .i64 p.section_, .int .i64 p.of, .int .i64 p.octave, .int .i64 p.desks, .int .i64 p.shift.x, .int .i64 p.shift.y, .int .i64 p.low.s, .int .i64 p.low.a, .int .i64 p.low.o, .int .i64 p.high.s, .int .i64 p.high.a, .int .i64 p.high.o], .int .i64 k, .func (.func g) #[] #[.pointer (some ⟨bt, 0, none⟩)]] w fun e w' => e = .returned (.bool false) ∧ w'.heap[bt]? = some (.cells zs T (0, 0)) ∧ KeepB w.heap.size [bt] w w' := by
  have HE := Lib.hid hE; clear hE; have HS := Lib.hid hs; clear hs; have HCall := Lib.hid (fun W hE => iwritten_any p W hE); have HB := Lib.hid ((Below.refl w.heap.size w).alloc (Nat.le_refl _) (.cells #[.int .i64 p.id, .int .i64 p.section_, .int .i64 p.of, .int .i64 p.octave, .int .i64 p.desks, .int .i64 p.shift.x, .int .i64 p.shift.y, .int .i64 p.low.s, .int .i64 p.low.a, .int .i64 p.low.o, .int .i64 p.high.s, .int .i64 p.high.a, .int .i64 p.high.o] 93)); have HX1 := Lib.hid (heap_alloc_new w (.cells #[.int .i64 p.id, .int .i64 p.section_, .int .i64 p.of, .int .i64 p.octave, .int .i64 p.desks, .int .i64 p.shift.x, .int .i64 p.shift.y, .int .i64 p.low.s, .int .i64 p.low.a, .int .i64 p.low.o, .int .i64 p.high.s, .int .i64 p.high.a, .int .i64 p.high.o] 93)); have HX9 := Lib.hid (up_alloc h0 (.cells #[.int .i64 p.id, .int .i64 p.section_, .int .i64 p.of, .int .i64 p.octave, .int .i64 p.desks, .int .i64 p.shift.x, .int .i64 p.shift.y, .int .i64 p.low.s, .int .i64 p.low.a, .int .i64 p.low.o, .int .i64 p.high.s, .int .i64 p.high.a, .int .i64 p.high.o] 93)); clear h0
  rw [hw] at HCall
  clear hw
  go_enter Tryz.func173, Tryz.ntmps173; go_upto_region 1 with (fail); generalize w.alloc (.cells #[.int .i64 p.id, .int .i64 p.section_, .int .i64 p.of, .int .i64 p.octave, .int .i64 p.desks, .int .i64 p.shift.x, .int .i64 p.shift.y, .int .i64 p.low.s, .int .i64 p.low.a, .int .i64 p.low.o, .int .i64 p.high.s, .int .i64 p.high.a, .int .i64 p.high.o] 93) = W at *; have hc1 := box_cells HX1.out
  go_wp2_with ((go_at_call 197; refine (HCall.out _ (HE.out.below HB.out)).mono ?_; rintro e w2 ⟨rfl, hb⟩; (try replace hb := drewB hb); replace HB := Lib.hid (HB.out.trans (hb.mono HB.out.size)); (try (replace HX1 := Lib.hid (blk_keep HX1.out hb); replace hc1 := box_cells HX1.out; replace hf1 := box_free HX1.out; replace hz1 := lt_blk HX1.out)); (try (replace HX9 := Lib.hid (blk_keep HX9.out hb); replace hc9 := box_cells HX9.out; replace hf9 := box_free HX9.out; replace hz9 := lt_blk HX9.out)); clear hb))
  go_ret
  exact ⟨rfl, HX9.out, KeepB.of_below' HB.out⟩
set_option maxRecDepth 100000 in
set_option maxHeartbeats 4000000 in
theorem moved_no_1 {p : Pa} {k : Int} (hw : writtenB p = true) (hk : keyB k = false) (g : Nat) (T : TypeId) (zs : Array Value) (out : Int → Int → Int → Array Value) (bt : Nat) (w : World) (eg : ∀ args w, (callFunc g args).run Tryz.prog w = .ok (.enter g args) w) (hs : SetO g T zs out) (h0 : w.heap[bt]? = some (.cells zs T (0, 0))) (hE : Env w) :
    Calls Tryz.prog 173 #[.agg #[.int .i64 p.id, .int .i64 p.section_, .int .i64 p.of, .int .i64 p.octave, .int .i64 p.desks, .int .i64 p.shift.x, .int .i64 p.shift.y, .int .i64 p.low.s, .int .i64 p.low.a, .int .i64 p.low.o, .int .i64 p.high.s, .int .i64 p.high.a, .int .i64 p.high.o], .int .i64 k, .func (.func g) #[] #[.pointer (some ⟨bt, 0, none⟩)]] w fun e w' => e = .returned (.bool false) ∧ w'.heap[bt]? = some (.cells zs T (0, 0)) ∧ KeepB w.heap.size [bt] w w' := by
  have HE := Lib.hid hE; clear hE; have HS := Lib.hid hs; clear hs; have HCall := Lib.hid (fun W hE => iwritten_any p W hE); have HB := Lib.hid ((Below.refl w.heap.size w).alloc (Nat.le_refl _) (.cells #[.int .i64 p.id, .int .i64 p.section_, .int .i64 p.of, .int .i64 p.octave, .int .i64 p.desks, .int .i64 p.shift.x, .int .i64 p.shift.y, .int .i64 p.low.s, .int .i64 p.low.a, .int .i64 p.low.o, .int .i64 p.high.s, .int .i64 p.high.a, .int .i64 p.high.o] 93)); have HX1 := Lib.hid (heap_alloc_new w (.cells #[.int .i64 p.id, .int .i64 p.section_, .int .i64 p.of, .int .i64 p.octave, .int .i64 p.desks, .int .i64 p.shift.x, .int .i64 p.shift.y, .int .i64 p.low.s, .int .i64 p.low.a, .int .i64 p.low.o, .int .i64 p.high.s, .int .i64 p.high.a, .int .i64 p.high.o] 93)); have HX9 := Lib.hid (up_alloc h0 (.cells #[.int .i64 p.id, .int .i64 p.section_, .int .i64 p.of, .int .i64 p.octave, .int .i64 p.desks, .int .i64 p.shift.x, .int .i64 p.shift.y, .int .i64 p.low.s, .int .i64 p.low.a, .int .i64 p.low.o, .int .i64 p.high.s, .int .i64 p.high.a, .int .i64 p.high.o] 93)); clear h0
  rw [hw] at HCall
  have hsh : shiftB p.shift = true := by simp only [writtenB, Bool.and_eq_true] at hw; exact hw.1.1.1
  have HBk := Lib.hid (back_good hsh)
  have HM := Lib.hid (move_bad (p := p) hk)
  clear hw hk hsh
  go_enter Tryz.func173, Tryz.ntmps173; go_upto_region 1 with (fail); generalize w.alloc (.cells #[.int .i64 p.id, .int .i64 p.section_, .int .i64 p.of, .int .i64 p.octave, .int .i64 p.desks, .int .i64 p.shift.x, .int .i64 p.shift.y, .int .i64 p.low.s, .int .i64 p.low.a, .int .i64 p.low.o, .int .i64 p.high.s, .int .i64 p.high.a, .int .i64 p.high.o] 93) = W at *; have hc1 := box_cells HX1.out
  go_wp2_with (first | (go_at_call 197; refine (HCall.out _ (HE.out.below HB.out)).mono ?_; rintro e w2 ⟨rfl, hb⟩; (try replace hb := drewB hb); replace HB := Lib.hid (HB.out.trans (hb.mono HB.out.size)); (try (replace HX1 := Lib.hid (blk_keep HX1.out hb); replace hc1 := box_cells HX1.out; replace hf1 := box_free HX1.out; replace hz1 := lt_blk HX1.out)); (try (replace HX2 := Lib.hid (blk_keep HX2.out hb); replace hc2 := box_cells HX2.out; replace hf2 := box_free HX2.out; replace hz2 := lt_blk HX2.out)); (try (replace HX9 := Lib.hid (blk_keep HX9.out hb); replace hc9 := box_cells HX9.out; replace hf9 := box_free HX9.out; replace hz9 := lt_blk HX9.out)); clear hb) | (go_at_call 198; refine (Back_any _ _ _).mono ?_; rw [HBk.out]; rintro e w3 ⟨rfl, hb⟩; (try replace hb := drewB hb); replace HB := Lib.hid (HB.out.trans (hb.mono HB.out.size)); (try (replace HX1 := Lib.hid (blk_keep HX1.out hb); replace hc1 := box_cells HX1.out; replace hf1 := box_free HX1.out; replace hz1 := lt_blk HX1.out)); (try (replace HX2 := Lib.hid (blk_keep HX2.out hb); replace hc2 := box_cells HX2.out; replace hf2 := box_free HX2.out; replace hz2 := lt_blk HX2.out)); (try (replace HX9 := Lib.hid (blk_keep HX9.out hb); replace hc9 := box_cells HX9.out; replace hf9 := box_free HX9.out; replace hz9 := lt_blk HX9.out)); clear hb) | (go_at_call 199; refine (Move_any _ _ _ _).mono ?_; rw [HM.out]; rintro e w4 ⟨rfl, hb⟩; (try replace hb := drewB hb); have x0 := box_below hb; have HX2 := Lib.hid x0; have hc2 := box_cells x0; have hf2 := box_free x0; have hz2 := lt_blk x0; clear x0; replace hb := allocB hb; (try replace hb := drewB hb); replace HB := Lib.hid (HB.out.trans (hb.mono HB.out.size)); (try (replace HX1 := Lib.hid (blk_keep HX1.out hb); replace hc1 := box_cells HX1.out; replace hf1 := box_free HX1.out; replace hz1 := lt_blk HX1.out)); (try (replace HX2 := Lib.hid (blk_keep HX2.out hb); replace hc2 := box_cells HX2.out; replace hf2 := box_free HX2.out; replace hz2 := lt_blk HX2.out)); (try (replace HX9 := Lib.hid (blk_keep HX9.out hb); replace hc9 := box_cells HX9.out; replace hf9 := box_free HX9.out; replace hz9 := lt_blk HX9.out)); clear hb))
  go_ret
  exact ⟨rfl, up_alloc HX9.out _, KeepB.of_below' (HB.out.alloc HB.out.size _)⟩
theorem moved_no {p : Pa} {k : Int} (hv : (writtenB p && keyB k) = false) (g : Nat) (T : TypeId) (zs : Array Value) (out : Int → Int → Int → Array Value) (bt : Nat) (w : World) (eg : ∀ args w, (callFunc g args).run Tryz.prog w = .ok (.enter g args) w) (hs : SetO g T zs out) (h0 : w.heap[bt]? = some (.cells zs T (0, 0))) (hE : Env w) :
    Calls Tryz.prog 173 #[.agg #[.int .i64 p.id, .int .i64 p.section_, .int .i64 p.of, .int .i64 p.octave, .int .i64 p.desks, .int .i64 p.shift.x, .int .i64 p.shift.y, .int .i64 p.low.s, .int .i64 p.low.a, .int .i64 p.low.o, .int .i64 p.high.s, .int .i64 p.high.a, .int .i64 p.high.o], .int .i64 k, .func (.func g) #[] #[.pointer (some ⟨bt, 0, none⟩)]] w fun e w' => e = .returned (.bool false) ∧ w'.heap[bt]? = some (.cells zs T (0, 0)) ∧ KeepB w.heap.size [bt] w w' := by
  cases hw : writtenB p
  · exact moved_no_0 k hw g T zs out bt w eg hs h0 hE
  · exact moved_no_1 hw (by rw [hw] at hv; exact hv) g T zs out bt w eg hs h0 hE
set_option maxRecDepth 100000 in
set_option maxHeartbeats 4000000 in
theorem moved_yes {p : Pa} {k : Int} (hv : (writtenB p && keyB k) = true) (g : Nat) (T : TypeId) (zs : Array Value) (out : Int → Int → Int → Array Value) (bt : Nat) (w : World) (eg : ∀ args w, (callFunc g args).run Tryz.prog w = .ok (.enter g args) w) (hs : SetO g T zs out) (h0 : w.heap[bt]? = some (.cells zs T (0, 0))) (hE : Env w) :
    Calls Tryz.prog 173 #[.agg #[.int .i64 p.id, .int .i64 p.section_, .int .i64 p.of, .int .i64 p.octave, .int .i64 p.desks, .int .i64 p.shift.x, .int .i64 p.shift.y, .int .i64 p.low.s, .int .i64 p.low.a, .int .i64 p.low.o, .int .i64 p.high.s, .int .i64 p.high.a, .int .i64 p.high.o], .int .i64 k, .func (.func g) #[] #[.pointer (some ⟨bt, 0, none⟩)]] w fun e w' => e = .returned (.bool true) ∧ w'.heap[bt]? = some (.cells (out (mvK p k) (mvX p k) (mvY p k)) T (0, 0)) ∧ KeepB w.heap.size [bt] w w' := by
  obtain ⟨hw, hk⟩ := Bool.and_eq_true_iff.1 hv
  clear hv
  have HE := Lib.hid hE; clear hE; have HS := Lib.hid hs; clear hs; have HCall := Lib.hid (fun W hE => iwritten_any p W hE); have HB := Lib.hid ((Below.refl w.heap.size w).alloc (Nat.le_refl _) (.cells #[.int .i64 p.id, .int .i64 p.section_, .int .i64 p.of, .int .i64 p.octave, .int .i64 p.desks, .int .i64 p.shift.x, .int .i64 p.shift.y, .int .i64 p.low.s, .int .i64 p.low.a, .int .i64 p.low.o, .int .i64 p.high.s, .int .i64 p.high.a, .int .i64 p.high.o] 93)); have HX1 := Lib.hid (heap_alloc_new w (.cells #[.int .i64 p.id, .int .i64 p.section_, .int .i64 p.of, .int .i64 p.octave, .int .i64 p.desks, .int .i64 p.shift.x, .int .i64 p.shift.y, .int .i64 p.low.s, .int .i64 p.low.a, .int .i64 p.low.o, .int .i64 p.high.s, .int .i64 p.high.a, .int .i64 p.high.o] 93)); have HX9 := Lib.hid (up_alloc h0 (.cells #[.int .i64 p.id, .int .i64 p.section_, .int .i64 p.of, .int .i64 p.octave, .int .i64 p.desks, .int .i64 p.shift.x, .int .i64 p.shift.y, .int .i64 p.low.s, .int .i64 p.low.a, .int .i64 p.low.o, .int .i64 p.high.s, .int .i64 p.high.a, .int .i64 p.high.o] 93)); clear h0
  rw [hw] at HCall
  have hsh : shiftB p.shift = true := by simp only [writtenB, Bool.and_eq_true] at hw; exact hw.1.1.1
  have HBk := Lib.hid (back_good hsh)
  have HM := Lib.hid (move_good hsh hk)
  generalize mvK p k = K at *; generalize mvX p k = X at *; generalize mvY p k = Y at *
  clear hw hk hsh
  go_enter Tryz.func173, Tryz.ntmps173; go_upto_region 1 with (fail); generalize w.alloc (.cells #[.int .i64 p.id, .int .i64 p.section_, .int .i64 p.of, .int .i64 p.octave, .int .i64 p.desks, .int .i64 p.shift.x, .int .i64 p.shift.y, .int .i64 p.low.s, .int .i64 p.low.a, .int .i64 p.low.o, .int .i64 p.high.s, .int .i64 p.high.a, .int .i64 p.high.o] 93) = W at *; have hc1 := box_cells HX1.out
  go_upto_region 7 with (first | (go_at_call 197; refine (HCall.out _ (HE.out.below HB.out)).mono ?_; rintro e w2 ⟨rfl, hb⟩; (try replace hb := drewB hb); replace HB := Lib.hid (HB.out.trans (hb.mono HB.out.size)); (try (replace HX1 := Lib.hid (blk_keep HX1.out hb); replace hc1 := box_cells HX1.out; replace hf1 := box_free HX1.out; replace hz1 := lt_blk HX1.out)); (try (replace HX2 := Lib.hid (blk_keep HX2.out hb); replace hc2 := box_cells HX2.out; replace hf2 := box_free HX2.out; replace hz2 := lt_blk HX2.out)); (try (replace HX3 := Lib.hid (blk_keep HX3.out hb); replace hc3 := box_cells HX3.out; replace hf3 := box_free HX3.out; replace hz3 := lt_blk HX3.out)); (try (replace HX9 := Lib.hid (blk_keep HX9.out hb); replace hc9 := box_cells HX9.out; replace hf9 := box_free HX9.out; replace hz9 := lt_blk HX9.out)); clear hb) | (go_at_call 198; refine (Back_any _ _ _).mono ?_; rw [HBk.out]; rintro e w3 ⟨rfl, hb⟩; (try replace hb := drewB hb); replace HB := Lib.hid (HB.out.trans (hb.mono HB.out.size)); (try (replace HX1 := Lib.hid (blk_keep HX1.out hb); replace hc1 := box_cells HX1.out; replace hf1 := box_free HX1.out; replace hz1 := lt_blk HX1.out)); (try (replace HX2 := Lib.hid (blk_keep HX2.out hb); replace hc2 := box_cells HX2.out; replace hf2 := box_free HX2.out; replace hz2 := lt_blk HX2.out)); (try (replace HX3 := Lib.hid (blk_keep HX3.out hb); replace hc3 := box_cells HX3.out; replace hf3 := box_free HX3.out; replace hz3 := lt_blk HX3.out)); (try (replace HX9 := Lib.hid (blk_keep HX9.out hb); replace hc9 := box_cells HX9.out; replace hf9 := box_free HX9.out; replace hz9 := lt_blk HX9.out)); clear hb) | (go_at_call 199; refine (Move_any _ _ _ _).mono ?_; rw [HM.out]; rintro e w4 ⟨rfl, hb⟩; (try replace hb := drewB hb); have x0 := box_below hb; have HX2 := Lib.hid x0; have hc2 := box_cells x0; have hf2 := box_free x0; have hz2 := lt_blk x0; clear x0; replace hb := allocB hb; (try replace hb := drewB hb); replace HB := Lib.hid (HB.out.trans (hb.mono HB.out.size)); (try (replace HX1 := Lib.hid (blk_keep HX1.out hb); replace hc1 := box_cells HX1.out; replace hf1 := box_free HX1.out; replace hz1 := lt_blk HX1.out)); (try (replace HX2 := Lib.hid (blk_keep HX2.out hb); replace hc2 := box_cells HX2.out; replace hf2 := box_free HX2.out; replace hz2 := lt_blk HX2.out)); (try (replace HX3 := Lib.hid (blk_keep HX3.out hb); replace hc3 := box_cells HX3.out; replace hf3 := box_free HX3.out; replace hz3 := lt_blk HX3.out)); (try (replace HX9 := Lib.hid (blk_keep HX9.out hb); replace hc9 := box_cells HX9.out; replace hf9 := box_free HX9.out; replace hz9 := lt_blk HX9.out)); clear hb))
  have HX9' := Lib.hid (up_alloc HX9.out (.cells #[.int .i64 X, .int .i64 Y] 91))
  have HX3 := Lib.hid (heap_alloc_new w4 (.cells #[.int .i64 X, .int .i64 Y] 91))
  have HB' := Lib.hid (HB.out.alloc HB.out.size (.cells #[.int .i64 X, .int .i64 Y] 91))
  generalize w4.alloc (.cells #[.int .i64 X, .int .i64 Y] 91) = W5 at *
  have hc3 := box_cells HX3.out
  have hcall := HS.out K X Y bt W5 HX9'.out
  go_wp2_with (go_at_fn g; refine hcall.mono ?_; rintro e w6 ⟨rfl, h6, kb⟩; have H6 := Lib.hid h6; have HK := Lib.hid ((KeepB.of_below' (S := [bt]) HB'.out).trans (kb.weaken HB'.out.size (fun b hb _ => hb))); clear h6 kb)
  go_ret
  exact ⟨rfl, H6.out, HK.out⟩
set_option maxRecDepth 100000 in
set_option maxHeartbeats 4000000 in
theorem IKey_any (p : Pa) (k : Int) (w : World) (hE : Env w) :
    Calls Tryz.prog 153 #[.agg #[.int .i64 p.id, .int .i64 p.section_, .int .i64 p.of, .int .i64 p.octave, .int .i64 p.desks, .int .i64 p.shift.x, .int .i64 p.shift.y, .int .i64 p.low.s, .int .i64 p.low.a, .int .i64 p.low.o, .int .i64 p.high.s, .int .i64 p.high.a, .int .i64 p.high.o], .int .i64 k] w fun e w' => e = .returned (.tuple #[.int .i64 (keyR p k).1, .int .i64 (keyR p k).2]) ∧ Below w.heap.size w w' := by
  have HE := Lib.hid hE; clear hE
  obtain ⟨x1, x2, hb⟩ := box2 (w := w) (A := .cells #[.int .i64 p.id, .int .i64 p.section_, .int .i64 p.of, .int .i64 p.octave, .int .i64 p.desks, .int .i64 p.shift.x, .int .i64 p.shift.y, .int .i64 p.low.s, .int .i64 p.low.a, .int .i64 p.low.o, .int .i64 p.high.s, .int .i64 p.high.a, .int .i64 p.high.o] 93) (B := .cells #[.int .i64 0] 3) (Below.refl _ _)
  have HX1 := Lib.hid x1; have HX2 := Lib.hid x2; have HB := Lib.hid hb; clear x1 x2 hb
  cases hv : (writtenB p && keyB k)
  · have HR := Lib.hid (show keyR p k = (0, 1) by unfold keyR; rw [hv]; rfl)
    have HMv := Lib.hid (moved_no hv)
    go_enter Tryz.func153, Tryz.ntmps153
    go_upto_region 2 with (fail)
    generalize (w.alloc (.cells #[.int .i64 p.id, .int .i64 p.section_, .int .i64 p.of, .int .i64 p.octave, .int .i64 p.desks, .int .i64 p.shift.x, .int .i64 p.shift.y, .int .i64 p.low.s, .int .i64 p.low.a, .int .i64 p.low.o, .int .i64 p.high.s, .int .i64 p.high.a, .int .i64 p.high.o] 93)).alloc (.cells #[.int .i64 0] 3) = W at *
    have hc1 := box_cells HX1.out
    have hcall := HMv.out 176 3 _ _ (w.heap.size + 1) W enters_key1 key1_set HX2.out (HE.out.below HB.out)
    go_wp2_with (go_at_call 173; refine hcall.mono ?_; rintro e w2 ⟨rfl, h6, kb⟩; have H6 := Lib.hid h6; have HB2 := Lib.hid (HB.out.trans (KeepB.below (kb.weaken HB.out.size (fun b hb hlt => by simp at hb; omega)))); clear h6 kb)
    rw [HR.out]
    go_ret2
    exact ⟨rfl, HB2.out⟩
  · have HR := Lib.hid (show keyR p k = (mvK p k, 0) by unfold keyR; rw [hv]; rfl)
    have HMv := Lib.hid (moved_yes hv)
    go_enter Tryz.func153, Tryz.ntmps153
    go_upto_region 2 with (fail)
    generalize (w.alloc (.cells #[.int .i64 p.id, .int .i64 p.section_, .int .i64 p.of, .int .i64 p.octave, .int .i64 p.desks, .int .i64 p.shift.x, .int .i64 p.shift.y, .int .i64 p.low.s, .int .i64 p.low.a, .int .i64 p.low.o, .int .i64 p.high.s, .int .i64 p.high.a, .int .i64 p.high.o] 93)).alloc (.cells #[.int .i64 0] 3) = W at *
    have hc1 := box_cells HX1.out
    have hcall := HMv.out 176 3 _ _ (w.heap.size + 1) W enters_key1 key1_set HX2.out (HE.out.below HB.out)
    go_wp2_with (go_at_call 173; refine hcall.mono ?_; rintro e w2 ⟨rfl, h6, kb⟩; have hc6 := box_cells h6; have H6 := Lib.hid h6; have HB2 := Lib.hid (HB.out.trans (KeepB.below (kb.weaken HB.out.size (fun b hb hlt => by simp at hb; omega)))); clear h6 kb)
    rw [HR.out]
    go_ret2
    exact ⟨rfl, HB2.out⟩
open Go.RowKit Go.Sort Go.Shelf

theorem box4 {w w' : World} {A B C D : Obj} (hb : Below ((((w.alloc A).alloc B).alloc C).alloc D).heap.size ((((w.alloc A).alloc B).alloc C).alloc D) w') : w'.heap[w.heap.size]? = some A ∧ w'.heap[w.heap.size + 1]? = some B ∧ w'.heap[w.heap.size + 2]? = some C ∧ w'.heap[w.heap.size + 3]? = some D ∧ Below w.heap.size w w' := by
  have e : (w.alloc A).heap.size = w.heap.size + 1 := by simp
  have e2 : ((w.alloc A).alloc B).heap.size = w.heap.size + 2 := by simp
  have e3 : (((w.alloc A).alloc B).alloc C).heap.size = w.heap.size + 3 := by simp
  exact ⟨blk_keep (up_alloc (up_alloc (up_alloc (heap_alloc_new w A) B) C) D) hb, blk_keep (up_alloc (up_alloc (e ▸ heap_alloc_new (w.alloc A) B) C) D) hb, blk_keep (up_alloc (e2 ▸ heap_alloc_new ((w.alloc A).alloc B) C) D) hb, blk_keep (e3 ▸ heap_alloc_new (((w.alloc A).alloc B).alloc C) D) hb, (((((Below.refl _ _).alloc (Nat.le_refl _) _).alloc (by simp) _).alloc (by simp; omega) _).alloc (by simp; omega) _).trans (hb.mono (by simp; omega))⟩
set_option maxRecDepth 100000 in
set_option maxHeartbeats 4000000 in
theorem IWrite_any (p : Pa) (k : Int) (q : Pi) (w : World) (hE : Env w) :
    Calls Tryz.prog 152 #[.agg #[.int .i64 p.id, .int .i64 p.section_, .int .i64 p.of, .int .i64 p.octave, .int .i64 p.desks, .int .i64 p.shift.x, .int .i64 p.shift.y, .int .i64 p.low.s, .int .i64 p.low.a, .int .i64 p.low.o, .int .i64 p.high.s, .int .i64 p.high.a, .int .i64 p.high.o], .int .i64 k, .agg #[.int .i64 q.s, .int .i64 q.a, .int .i64 q.o]] w fun e w' => e = .returned (.tuple #[.agg #[.int .i64 (writeR p k q).1.s, .int .i64 (writeR p k q).1.a, .int .i64 (writeR p k q).1.o], .int .i64 (writeR p k q).2]) ∧ Below w.heap.size w w' := by
  have HE := Lib.hid hE; clear hE; obtain ⟨x1, x2, x3, x4, hb⟩ := box4 (w := w) (A := .cells #[.int .i64 p.id, .int .i64 p.section_, .int .i64 p.of, .int .i64 p.octave, .int .i64 p.desks, .int .i64 p.shift.x, .int .i64 p.shift.y, .int .i64 p.low.s, .int .i64 p.low.a, .int .i64 p.low.o, .int .i64 p.high.s, .int .i64 p.high.a, .int .i64 p.high.o] 93) (B := .cells #[.int .i64 q.s, .int .i64 q.a, .int .i64 q.o] 62) (C := .cells #[.int .i64 0, .int .i64 0, .int .i64 0] 62) (D := .cells #[.int .i64 0, .int .i64 0] 91) (Below.refl _ _); have HX1 := Lib.hid x1; have HX2 := Lib.hid x2; have HX3 := Lib.hid x3; have HX4 := Lib.hid x4; have HB := Lib.hid hb; clear x1 x2 x3 x4 hb
  cases hv : (writtenB p && keyB k)
  · have HR := Lib.hid (show writeR p k q = (⟨0, 0, 0⟩, 1) by unfold writeR; rw [hv]; rfl)
    have HMv := Lib.hid (moved_no hv)
    clear hv
    go_enter Tryz.func152, Tryz.ntmps152; go_upto_region 2 with (fail); generalize (((w.alloc (.cells #[.int .i64 p.id, .int .i64 p.section_, .int .i64 p.of, .int .i64 p.octave, .int .i64 p.desks, .int .i64 p.shift.x, .int .i64 p.shift.y, .int .i64 p.low.s, .int .i64 p.low.a, .int .i64 p.low.o, .int .i64 p.high.s, .int .i64 p.high.a, .int .i64 p.high.o] 93)).alloc (.cells #[.int .i64 q.s, .int .i64 q.a, .int .i64 q.o] 62)).alloc (.cells #[.int .i64 0, .int .i64 0, .int .i64 0] 62)).alloc (.cells #[.int .i64 0, .int .i64 0] 91) = W at *; have hc1 := box_cells HX1.out; have hcall := HMv.out 174 91 _ _ (w.heap.size + 3) W enters_write1 write1_set HX4.out (HE.out.below HB.out)
    go_wp2_with ((go_at_call 173; refine hcall.mono ?_; rintro e w2 ⟨rfl, h6, kb⟩; replace HX4 := Lib.hid h6; replace HX1 := Lib.hid ((kb.block _ (lt_blk HX1.out) (by simp <;> omega)).trans HX1.out); replace HX2 := Lib.hid ((kb.block _ (lt_blk HX2.out) (by simp <;> omega)).trans HX2.out); replace HX3 := Lib.hid ((kb.block _ (lt_blk HX3.out) (by simp <;> omega)).trans HX3.out); replace HB := Lib.hid (HB.out.trans (KeepB.below (kb.weaken HB.out.size (fun b hb hlt => by simp at hb; omega)))); clear h6 kb; (try (replace hc1 := box_cells HX1.out; replace hf1 := box_free HX1.out; replace hz1 := lt_blk HX1.out)); (try (replace hc2 := box_cells HX2.out; replace hf2 := box_free HX2.out; replace hz2 := lt_blk HX2.out)); (try (replace hc3 := box_cells HX3.out; replace hf3 := box_free HX3.out; replace hz3 := lt_blk HX3.out)); (try (replace hc4 := box_cells HX4.out; replace hf4 := box_free HX4.out; replace hz4 := lt_blk HX4.out)); ); have hc2 := box_cells HX2.out; have hf2 := box_free HX2.out; have hz2 := lt_blk HX2.out; have hc3 := box_cells HX3.out; have hf3 := box_free HX3.out; have hz3 := lt_blk HX3.out; have hc4 := box_cells HX4.out; have hf4 := box_free HX4.out; have hz4 := lt_blk HX4.out)
    exact bodyPost_ret (v := .tuple #[.agg #[.int .i64 0, .int .i64 0, .int .i64 0], .int .i64 1]) (by simp [results, Tryz.results152, go_sem, hc3, hf3]) rfl ⟨by rw [HR.out], ((HB.out.setCell (by simp <;> omega) _).setCell (by simp <;> omega) _).setCell (by simp <;> omega) _⟩
  · have HMv := Lib.hid (moved_yes hv)
    cases hq : vldP q
    · have HR := Lib.hid (show writeR p k q = (⟨0, 0, 0⟩, 1) by unfold writeR; rw [hv, hq]; rfl)
      have HV := Lib.hid (show vldB q.s q.a q.o = false from hq)
      clear hv hq
      go_enter Tryz.func152, Tryz.ntmps152; go_upto_region 2 with (fail); generalize (((w.alloc (.cells #[.int .i64 p.id, .int .i64 p.section_, .int .i64 p.of, .int .i64 p.octave, .int .i64 p.desks, .int .i64 p.shift.x, .int .i64 p.shift.y, .int .i64 p.low.s, .int .i64 p.low.a, .int .i64 p.low.o, .int .i64 p.high.s, .int .i64 p.high.a, .int .i64 p.high.o] 93)).alloc (.cells #[.int .i64 q.s, .int .i64 q.a, .int .i64 q.o] 62)).alloc (.cells #[.int .i64 0, .int .i64 0, .int .i64 0] 62)).alloc (.cells #[.int .i64 0, .int .i64 0] 91) = W at *; have hc1 := box_cells HX1.out; have hcall := HMv.out 174 91 _ _ (w.heap.size + 3) W enters_write1 write1_set HX4.out (HE.out.below HB.out)
      go_wp2_with (first | ((go_at_call 173; refine hcall.mono ?_; rintro e w2 ⟨rfl, h6, kb⟩; replace HX4 := Lib.hid h6; replace HX1 := Lib.hid ((kb.block _ (lt_blk HX1.out) (by simp <;> omega)).trans HX1.out); replace HX2 := Lib.hid ((kb.block _ (lt_blk HX2.out) (by simp <;> omega)).trans HX2.out); replace HX3 := Lib.hid ((kb.block _ (lt_blk HX3.out) (by simp <;> omega)).trans HX3.out); replace HB := Lib.hid (HB.out.trans (KeepB.below (kb.weaken HB.out.size (fun b hb hlt => by simp at hb; omega)))); clear h6 kb; (try (replace hc1 := box_cells HX1.out; replace hf1 := box_free HX1.out; replace hz1 := lt_blk HX1.out)); (try (replace hc2 := box_cells HX2.out; replace hf2 := box_free HX2.out; replace hz2 := lt_blk HX2.out)); (try (replace hc3 := box_cells HX3.out; replace hf3 := box_free HX3.out; replace hz3 := lt_blk HX3.out)); (try (replace hc4 := box_cells HX4.out; replace hf4 := box_free HX4.out; replace hz4 := lt_blk HX4.out)); ); have hc2 := box_cells HX2.out; have hf2 := box_free HX2.out; have hz2 := lt_blk HX2.out; have hc3 := box_cells HX3.out; have hf3 := box_free HX3.out; have hz3 := lt_blk HX3.out; have hc4 := box_cells HX4.out; have hf4 := box_free HX4.out; have hz4 := lt_blk HX4.out) | (go_at_call 158; refine (PValid_any _ _ _ _).mono ?_; rw [show vldB q.s q.a q.o = _ from HV.out]; rintro e w3 ⟨rfl, hb⟩; (try replace hb := drewB hb); replace HB := Lib.hid (HB.out.trans (hb.mono HB.out.size)); (try (replace HX1 := Lib.hid (blk_keep HX1.out hb); replace hc1 := box_cells HX1.out; replace hf1 := box_free HX1.out; replace hz1 := lt_blk HX1.out)); (try (replace HX2 := Lib.hid (blk_keep HX2.out hb); replace hc2 := box_cells HX2.out; replace hf2 := box_free HX2.out; replace hz2 := lt_blk HX2.out)); (try (replace HX3 := Lib.hid (blk_keep HX3.out hb); replace hc3 := box_cells HX3.out; replace hf3 := box_free HX3.out; replace hz3 := lt_blk HX3.out)); (try (replace HX4 := Lib.hid (blk_keep HX4.out hb); replace hc4 := box_cells HX4.out; replace hf4 := box_free HX4.out; replace hz4 := lt_blk HX4.out)); clear hb))
      exact bodyPost_ret (v := .tuple #[.agg #[.int .i64 0, .int .i64 0, .int .i64 0], .int .i64 1]) (by simp [results, Tryz.results152, go_sem, hc3, hf3]) rfl ⟨by rw [HR.out], ((HB.out.setCell (by simp <;> omega) _).setCell (by simp <;> omega) _).setCell (by simp <;> omega) _⟩
    · have HR := Lib.hid (show writeR p k q = addP q (mvX p k) (mvY p k) by unfold writeR; rw [hv, hq]; rfl)
      have HV := Lib.hid (show vldB q.s q.a q.o = true from hq)
      obtain ⟨⟨r1, r2, r3, r4⟩, hA⟩ : ∃ A, addR q.s q.a q.o (mvX p k) (mvY p k) = A := ⟨_, rfl⟩
      rw [addP, hA] at HR
      have HA := Lib.hid hA
      clear hv hq hA
      generalize writeR p k q = R at *
      go_enter Tryz.func152, Tryz.ntmps152; go_upto_region 2 with (fail); generalize (((w.alloc (.cells #[.int .i64 p.id, .int .i64 p.section_, .int .i64 p.of, .int .i64 p.octave, .int .i64 p.desks, .int .i64 p.shift.x, .int .i64 p.shift.y, .int .i64 p.low.s, .int .i64 p.low.a, .int .i64 p.low.o, .int .i64 p.high.s, .int .i64 p.high.a, .int .i64 p.high.o] 93)).alloc (.cells #[.int .i64 q.s, .int .i64 q.a, .int .i64 q.o] 62)).alloc (.cells #[.int .i64 0, .int .i64 0, .int .i64 0] 62)).alloc (.cells #[.int .i64 0, .int .i64 0] 91) = W at *; have hc1 := box_cells HX1.out; have hcall := HMv.out 174 91 _ _ (w.heap.size + 3) W enters_write1 write1_set HX4.out (HE.out.below HB.out)
      generalize mvX p k = X at *; generalize mvY p k = Y at *
      go_wp2_with (first | ((go_at_call 173; refine hcall.mono ?_; rintro e w2 ⟨rfl, h6, kb⟩; replace HX4 := Lib.hid h6; replace HX1 := Lib.hid ((kb.block _ (lt_blk HX1.out) (by simp <;> omega)).trans HX1.out); replace HX2 := Lib.hid ((kb.block _ (lt_blk HX2.out) (by simp <;> omega)).trans HX2.out); replace HX3 := Lib.hid ((kb.block _ (lt_blk HX3.out) (by simp <;> omega)).trans HX3.out); replace HB := Lib.hid (HB.out.trans (KeepB.below (kb.weaken HB.out.size (fun b hb hlt => by simp at hb; omega)))); clear h6 kb; (try (replace hc1 := box_cells HX1.out; replace hf1 := box_free HX1.out; replace hz1 := lt_blk HX1.out)); (try (replace hc2 := box_cells HX2.out; replace hf2 := box_free HX2.out; replace hz2 := lt_blk HX2.out)); (try (replace hc3 := box_cells HX3.out; replace hf3 := box_free HX3.out; replace hz3 := lt_blk HX3.out)); (try (replace hc4 := box_cells HX4.out; replace hf4 := box_free HX4.out; replace hz4 := lt_blk HX4.out)); ); have hc2 := box_cells HX2.out; have hf2 := box_free HX2.out; have hz2 := lt_blk HX2.out; have hc3 := box_cells HX3.out; have hf3 := box_free HX3.out; have hz3 := lt_blk HX3.out; have hc4 := box_cells HX4.out; have hf4 := box_free HX4.out; have hz4 := lt_blk HX4.out) | (go_at_call 158; refine (PValid_any _ _ _ _).mono ?_; rw [show vldB q.s q.a q.o = _ from HV.out]; rintro e w3 ⟨rfl, hb⟩; (try replace hb := drewB hb); replace HB := Lib.hid (HB.out.trans (hb.mono HB.out.size)); (try (replace HX1 := Lib.hid (blk_keep HX1.out hb); replace hc1 := box_cells HX1.out; replace hf1 := box_free HX1.out; replace hz1 := lt_blk HX1.out)); (try (replace HX2 := Lib.hid (blk_keep HX2.out hb); replace hc2 := box_cells HX2.out; replace hf2 := box_free HX2.out; replace hz2 := lt_blk HX2.out)); (try (replace HX3 := Lib.hid (blk_keep HX3.out hb); replace hc3 := box_cells HX3.out; replace hf3 := box_free HX3.out; replace hz3 := lt_blk HX3.out)); (try (replace HX4 := Lib.hid (blk_keep HX4.out hb); replace hc4 := box_cells HX4.out; replace hf4 := box_free HX4.out; replace hz4 := lt_blk HX4.out)); clear hb) | (go_at_call 175; refine (Add_any _ _ _ _ _ _ (HE.out.below HB.out)).mono ?_; rw [HA.out]; rintro e w5 ⟨rfl, hb⟩; (try replace hb := drewB hb); replace HB := Lib.hid (HB.out.trans (hb.mono HB.out.size)); (try (replace HX1 := Lib.hid (blk_keep HX1.out hb); replace hc1 := box_cells HX1.out; replace hf1 := box_free HX1.out; replace hz1 := lt_blk HX1.out)); (try (replace HX2 := Lib.hid (blk_keep HX2.out hb); replace hc2 := box_cells HX2.out; replace hf2 := box_free HX2.out; replace hz2 := lt_blk HX2.out)); (try (replace HX3 := Lib.hid (blk_keep HX3.out hb); replace hc3 := box_cells HX3.out; replace hf3 := box_free HX3.out; replace hz3 := lt_blk HX3.out)); (try (replace HX4 := Lib.hid (blk_keep HX4.out hb); replace hc4 := box_cells HX4.out; replace hf4 := box_free HX4.out; replace hz4 := lt_blk HX4.out)); clear hb))
      exact bodyPost_ret (v := .tuple #[.agg #[.int .i64 r1, .int .i64 r2, .int .i64 r3], .int .i64 r4]) (by simp [results, Tryz.results152, go_sem, hc3, hf3]) rfl ⟨by rw [HR.out], ((HB.out.setCell (by simp <;> omega) _).setCell (by simp <;> omega) _).setCell (by simp <;> omega) _⟩
open Go.RowKit Go.Sort Go.Shelf

set_option maxRecDepth 100000 in
set_option maxHeartbeats 4000000 in
theorem VMeasure_any (p : Pa) (b : Ba) (na : Option Addr) (n nc : Nat) (w : World) (hE : Env w) :
    Calls Tryz.prog 108 #[.agg #[.int .i64 p.id, .int .i64 p.section_, .int .i64 p.of, .int .i64 p.octave, .int .i64 p.desks, .int .i64 p.shift.x, .int .i64 p.shift.y, .int .i64 p.low.s, .int .i64 p.low.a, .int .i64 p.low.o, .int .i64 p.high.s, .int .i64 p.high.a, .int .i64 p.high.o], .agg #[.int .i64 b.id, .int .i64 b.len.n, .int .i64 b.len.d, .int .i64 b.key], .slice na n nc] w fun e w' => e = .returned (.agg #[.int .i64 b.id, .int .i64 (keyR p b.key).1, .int .i64 b.len.n, .int .i64 b.len.d, .slice na n nc]) ∧ Below w.heap.size w w' := by
  have HE := Lib.hid hE; clear hE
  obtain ⟨x1, x2, x3, hb⟩ := box3 (w := w) (A := .cells #[.int .i64 p.id, .int .i64 p.section_, .int .i64 p.of, .int .i64 p.octave, .int .i64 p.desks, .int .i64 p.shift.x, .int .i64 p.shift.y, .int .i64 p.low.s, .int .i64 p.low.a, .int .i64 p.low.o, .int .i64 p.high.s, .int .i64 p.high.a, .int .i64 p.high.o] 121) (B := .cells #[.int .i64 b.id, .int .i64 b.len.n, .int .i64 b.len.d, .int .i64 b.key] 105) (C := .cells #[.int .i64 0, .int .i64 0, .int .i64 0, .int .i64 0, .slice none 0 0] 60) (Below.refl _ _)
  have HX1 := Lib.hid x1; have HX2 := Lib.hid x2; have HX3 := Lib.hid x3; have HB := Lib.hid hb; clear x1 x2 x3 hb
  have HK := Lib.hid (fun W hE => IKey_any p b.key W hE)
  generalize (keyR p b.key).1 = K1 at *; generalize (keyR p b.key).2 = K2 at *
  go_enter Tryz.func108, Tryz.ntmps108
  go_upto_region 1 with (fail)
  generalize ((w.alloc (.cells #[.int .i64 p.id, .int .i64 p.section_, .int .i64 p.of, .int .i64 p.octave, .int .i64 p.desks, .int .i64 p.shift.x, .int .i64 p.shift.y, .int .i64 p.low.s, .int .i64 p.low.a, .int .i64 p.low.o, .int .i64 p.high.s, .int .i64 p.high.a, .int .i64 p.high.o] 121)).alloc (.cells #[.int .i64 b.id, .int .i64 b.len.n, .int .i64 b.len.d, .int .i64 b.key] 105)).alloc (.cells #[.int .i64 0, .int .i64 0, .int .i64 0, .int .i64 0, .slice none 0 0] 60) = W at *
  have hc1 := box_cells HX1.out; have hc2 := box_cells HX2.out; have hc3 := box_cells HX3.out; have hf3 := box_free HX3.out; have hz3 := lt_blk HX3.out
  go_wp2_with (go_at_call 153; refine (HK.out _ (HE.out.below HB.out)).mono ?_; rintro e w2 ⟨rfl, hb⟩; (try replace hb := drewB hb); replace HB := Lib.hid (HB.out.trans (hb.mono HB.out.size)); (try (replace HX1 := Lib.hid (blk_keep HX1.out hb); replace hc1 := box_cells HX1.out; replace hf1 := box_free HX1.out; replace hz1 := lt_blk HX1.out)); (try (replace HX2 := Lib.hid (blk_keep HX2.out hb); replace hc2 := box_cells HX2.out; replace hf2 := box_free HX2.out; replace hz2 := lt_blk HX2.out)); (try (replace HX3 := Lib.hid (blk_keep HX3.out hb); replace hc3 := box_cells HX3.out; replace hf3 := box_free HX3.out; replace hz3 := lt_blk HX3.out)); clear hb)
  exact bodyPost_ret (v := .agg #[.int .i64 b.id, .int .i64 K1, .int .i64 b.len.n, .int .i64 b.len.d, .slice na n nc]) (by simp [results, Tryz.results108, go_sem, hc3, hf3]) rfl ⟨rfl, ((((HB.out.setCell (by simp <;> omega) _).setCell (by simp <;> omega) _).setCell (by simp <;> omega) _).setCell (by simp <;> omega) _).setCell (by simp <;> omega) _⟩
set_option maxRecDepth 100000 in
set_option maxHeartbeats 4000000 in
theorem VWritten_any (p : Pa) (b : Ba) (n : No) (w : World) (hE : Env w) :
    Calls Tryz.prog 107 #[.agg #[.int .i64 p.id, .int .i64 p.section_, .int .i64 p.of, .int .i64 p.octave, .int .i64 p.desks, .int .i64 p.shift.x, .int .i64 p.shift.y, .int .i64 p.low.s, .int .i64 p.low.a, .int .i64 p.low.o, .int .i64 p.high.s, .int .i64 p.high.a, .int .i64 p.high.o], .agg #[.int .i64 b.id, .int .i64 b.len.n, .int .i64 b.len.d, .int .i64 b.key], .agg #[.int .i64 n.id, .int .i64 n.part, .int .i64 n.bar, .int .i64 n.voice, .int .i64 n.ossia, .int .i64 n.start.n, .int .i64 n.start.d, .int .i64 n.len.n, .int .i64 n.len.d, .int .i64 n.pitch.s, .int .i64 n.pitch.a, .int .i64 n.pitch.o]] w fun e w' => e = .returned (.agg #[.int .i64 (writtenW p b n).id, .int .i64 (writtenW p b n).voice, .int .i64 (writtenW p b n).ossia, .int .i64 (writtenW p b n).start.n, .int .i64 (writtenW p b n).start.d, .int .i64 (writtenW p b n).len.n, .int .i64 (writtenW p b n).len.d, .int .i64 (writtenW p b n).pitch.s, .int .i64 (writtenW p b n).pitch.a, .int .i64 (writtenW p b n).pitch.o]) ∧ Below w.heap.size w w' := by
  have HE := Lib.hid hE; clear hE
  obtain ⟨x1, x2, x3, x4, hb⟩ := box4 (w := w) (A := .cells #[.int .i64 p.id, .int .i64 p.section_, .int .i64 p.of, .int .i64 p.octave, .int .i64 p.desks, .int .i64 p.shift.x, .int .i64 p.shift.y, .int .i64 p.low.s, .int .i64 p.low.a, .int .i64 p.low.o, .int .i64 p.high.s, .int .i64 p.high.a, .int .i64 p.high.o] 121) (B := .cells #[.int .i64 b.id, .int .i64 b.len.n, .int .i64 b.len.d, .int .i64 b.key] 105) (C := .cells #[.int .i64 n.id, .int .i64 n.part, .int .i64 n.bar, .int .i64 n.voice, .int .i64 n.ossia, .int .i64 n.start.n, .int .i64 n.start.d, .int .i64 n.len.n, .int .i64 n.len.d, .int .i64 n.pitch.s, .int .i64 n.pitch.a, .int .i64 n.pitch.o] 128) (D := .cells #[.int .i64 0, .int .i64 0, .int .i64 0, .int .i64 0, .int .i64 0, .int .i64 0, .int .i64 0, .int .i64 0, .int .i64 0, .int .i64 0] 64) (Below.refl _ _)
  have HX1 := Lib.hid x1; have HX2 := Lib.hid x2; have HX3 := Lib.hid x3; have HX4 := Lib.hid x4; have HB := Lib.hid hb; clear x1 x2 x3 x4 hb
  have HW := Lib.hid (fun W hE => IWrite_any p b.key n.pitch W hE)
  obtain ⟨⟨r1, r2, r3⟩, hR⟩ : ∃ R, (writeR p b.key n.pitch).1 = R := ⟨_, rfl⟩
  have HR := Lib.hid (show writtenW p b n = ⟨n.id, n.voice, n.ossia, n.start, n.len, ⟨r1, r2, r3⟩⟩ by unfold writtenW; rw [hR])
  rw [hR] at HW
  simp only at HW
  clear hR
  generalize writtenW p b n = R at *
  generalize (writeR p b.key n.pitch).2 = K2 at *
  go_enter Tryz.func107, Tryz.ntmps107
  go_upto_region 1 with (fail)
  generalize (((w.alloc (.cells #[.int .i64 p.id, .int .i64 p.section_, .int .i64 p.of, .int .i64 p.octave, .int .i64 p.desks, .int .i64 p.shift.x, .int .i64 p.shift.y, .int .i64 p.low.s, .int .i64 p.low.a, .int .i64 p.low.o, .int .i64 p.high.s, .int .i64 p.high.a, .int .i64 p.high.o] 121)).alloc (.cells #[.int .i64 b.id, .int .i64 b.len.n, .int .i64 b.len.d, .int .i64 b.key] 105)).alloc (.cells #[.int .i64 n.id, .int .i64 n.part, .int .i64 n.bar, .int .i64 n.voice, .int .i64 n.ossia, .int .i64 n.start.n, .int .i64 n.start.d, .int .i64 n.len.n, .int .i64 n.len.d, .int .i64 n.pitch.s, .int .i64 n.pitch.a, .int .i64 n.pitch.o] 128)).alloc (.cells #[.int .i64 0, .int .i64 0, .int .i64 0, .int .i64 0, .int .i64 0, .int .i64 0, .int .i64 0, .int .i64 0, .int .i64 0, .int .i64 0] 64) = W at *
  have hc1 := box_cells HX1.out; have hc2 := box_cells HX2.out; have hc3 := box_cells HX3.out; have hc4 := box_cells HX4.out; have hf4 := box_free HX4.out; have hz4 := lt_blk HX4.out
  go_upto_region 2 with (go_at_call 152; refine (HW.out _ (HE.out.below HB.out)).mono ?_; rintro e w2 ⟨rfl, hb⟩; (try replace hb := drewB hb); replace HB := Lib.hid (HB.out.trans (hb.mono HB.out.size)); (try (replace HX1 := Lib.hid (blk_keep HX1.out hb); replace hc1 := box_cells HX1.out; replace hf1 := box_free HX1.out; replace hz1 := lt_blk HX1.out)); (try (replace HX2 := Lib.hid (blk_keep HX2.out hb); replace hc2 := box_cells HX2.out; replace hf2 := box_free HX2.out; replace hz2 := lt_blk HX2.out)); (try (replace HX3 := Lib.hid (blk_keep HX3.out hb); replace hc3 := box_cells HX3.out; replace hf3 := box_free HX3.out; replace hz3 := lt_blk HX3.out)); (try (replace HX4 := Lib.hid (blk_keep HX4.out hb); replace hc4 := box_cells HX4.out; replace hf4 := box_free HX4.out; replace hz4 := lt_blk HX4.out)); (try (replace HX5 := Lib.hid (blk_keep HX5.out hb); replace hc5 := box_cells HX5.out; replace hf5 := box_free HX5.out; replace hz5 := lt_blk HX5.out)); clear hb)
  have hb := (Below.refl w2.heap.size w2).alloc (Nat.le_refl _) (.cells #[.int .i64 r1, .int .i64 r2, .int .i64 r3] 62)
  (try replace hb := drewB hb); replace HB := Lib.hid (HB.out.trans (hb.mono HB.out.size)); (try (replace HX1 := Lib.hid (blk_keep HX1.out hb); replace hc1 := box_cells HX1.out; replace hf1 := box_free HX1.out; replace hz1 := lt_blk HX1.out)); (try (replace HX2 := Lib.hid (blk_keep HX2.out hb); replace hc2 := box_cells HX2.out; replace hf2 := box_free HX2.out; replace hz2 := lt_blk HX2.out)); (try (replace HX3 := Lib.hid (blk_keep HX3.out hb); replace hc3 := box_cells HX3.out; replace hf3 := box_free HX3.out; replace hz3 := lt_blk HX3.out)); (try (replace HX4 := Lib.hid (blk_keep HX4.out hb); replace hc4 := box_cells HX4.out; replace hf4 := box_free HX4.out; replace hz4 := lt_blk HX4.out)); (try (replace HX5 := Lib.hid (blk_keep HX5.out hb); replace hc5 := box_cells HX5.out; replace hf5 := box_free HX5.out; replace hz5 := lt_blk HX5.out)); clear hb
  have HX5 := Lib.hid (heap_alloc_new w2 (.cells #[.int .i64 r1, .int .i64 r2, .int .i64 r3] 62))
  generalize w2.alloc (.cells #[.int .i64 r1, .int .i64 r2, .int .i64 r3] 62) = W3 at *
  have hc5 := box_cells HX5.out
  go_wp2
  rw [HR.out]
  exact bodyPost_ret (v := .agg #[.int .i64 n.id, .int .i64 n.voice, .int .i64 n.ossia, .int .i64 n.start.n, .int .i64 n.start.d, .int .i64 n.len.n, .int .i64 n.len.d, .int .i64 r1, .int .i64 r2, .int .i64 r3]) (by simp [results, Tryz.results107, go_sem, hc4, hf4]) rfl ⟨rfl, (((((((((HB.out.setCell (by simp <;> omega) _).setCell (by simp <;> omega) _).setCell (by simp <;> omega) _).setCell (by simp <;> omega) _).setCell (by simp <;> omega) _).setCell (by simp <;> omega) _).setCell (by simp <;> omega) _).setCell (by simp <;> omega) _).setCell (by simp <;> omega) _).setCell (by simp <;> omega) _⟩
/-- The part that is found, or none. -/
def foundP (l : List Pa) (id : Int) : Pa := (partAt l id).getD default
set_option maxRecDepth 100000 in
set_option maxHeartbeats 4000000 in
theorem VFind_any (s : Sc) (q : Sp) (part : Int) (w : World) (hf : ScFew s) (hs : ScAt w s q) :
    Calls Tryz.prog 64 #[.agg #[.int .i64 s.version, .slice q.ab s.bars.length q.cb, .slice q.ap s.parts.length q.cp, .slice q.an s.notes.length q.cn], .int .i64 part] w fun e w' => e = .returned (.tuple #[.agg #[.int .i64 (foundP s.parts part).id, .int .i64 (foundP s.parts part).section_, .int .i64 (foundP s.parts part).of, .int .i64 (foundP s.parts part).octave, .int .i64 (foundP s.parts part).desks, .int .i64 (foundP s.parts part).shift.x, .int .i64 (foundP s.parts part).shift.y, .int .i64 (foundP s.parts part).low.s, .int .i64 (foundP s.parts part).low.a, .int .i64 (foundP s.parts part).low.o, .int .i64 (foundP s.parts part).high.s, .int .i64 (foundP s.parts part).high.a, .int .i64 (foundP s.parts part).high.o], .bool (partAt s.parts part).isSome]) ∧ Below w.heap.size w w' := by
  obtain ⟨x1, x2, x3, hb⟩ := box3 (w := w) (A := .cells #[.int .i64 s.version, .slice q.ab s.bars.length q.cb, .slice q.ap s.parts.length q.cp, .slice q.an s.notes.length q.cn] 26) (B := .cells #[.int .i64 part] 3) (C := .cells #[.int .i64 0, .int .i64 0, .int .i64 0, .int .i64 0, .int .i64 0, .int .i64 0, .int .i64 0, .int .i64 0, .int .i64 0, .int .i64 0, .int .i64 0, .int .i64 0, .int .i64 0] 121) (Below.refl _ _)
  have HX1 := Lib.hid x1; have HX2 := Lib.hid x2; have HX3 := Lib.hid x3; have HB := Lib.hid hb; clear x1 x2 x3 hb
  have HI := Lib.hid (fun W (hb : Below w.heap.size w W) (x2 : W.heap[w.heap.size + 1]? = some (.cells #[.int .i64 part] 3 (0, 0))) => IndexP_any 105 #[.pointer (some ⟨w.heap.size + 1, 0, none⟩)] enters_find W.heap.size (idP part) q.ap q.cp s.parts W (by have := hf.parts; omega) (fun p _ W' hW => findId_any part p (w.heap.size + 1) W' (blk_keep x2 hW)) (Nat.le_refl _) (hs.parts.below hb))
  have HS := Lib.hid hs; clear hs
  cases hp : partAt s.parts part with
  | none =>
    have hd : foundP s.parts part = default := by simp [foundP, hp]
    rw [hd]
    rw [part_none hp] at HI
    clear hp hd
    go_enter Tryz.func64, Tryz.ntmps64
    go_upto_region 1 with (fail)
    generalize ((w.alloc (.cells #[.int .i64 s.version, .slice q.ab s.bars.length q.cb, .slice q.ap s.parts.length q.cp, .slice q.an s.notes.length q.cn] 26)).alloc (.cells #[.int .i64 part] 3)).alloc (.cells #[.int .i64 0, .int .i64 0, .int .i64 0, .int .i64 0, .int .i64 0, .int .i64 0, .int .i64 0, .int .i64 0, .int .i64 0, .int .i64 0, .int .i64 0, .int .i64 0, .int .i64 0] 121) = W at *
    have hc1 := box_cells HX1.out; have hc2 := box_cells HX2.out; have hc3 := box_cells HX3.out; have hf3 := box_free HX3.out; have hz3 := lt_blk HX3.out
    have hcall := HI.out W HB.out HX2.out
    go_wp2_with (go_at_call 104; refine hcall.mono ?_; rintro e w2 ⟨rfl, hb⟩; (try replace hb := drewB hb); replace HB := Lib.hid (HB.out.trans (hb.mono HB.out.size)); (try (replace HX1 := Lib.hid (blk_keep HX1.out hb); replace hc1 := box_cells HX1.out; replace hf1 := box_free HX1.out; replace hz1 := lt_blk HX1.out)); (try (replace HX2 := Lib.hid (blk_keep HX2.out hb); replace hc2 := box_cells HX2.out; replace hf2 := box_free HX2.out; replace hz2 := lt_blk HX2.out)); (try (replace HX3 := Lib.hid (blk_keep HX3.out hb); replace hc3 := box_cells HX3.out; replace hf3 := box_free HX3.out; replace hz3 := lt_blk HX3.out)); clear hb)
    exact bodyPost_ret (v := .tuple #[.agg #[.int .i64 (default : Pa).id, .int .i64 (default : Pa).section_, .int .i64 (default : Pa).of, .int .i64 (default : Pa).octave, .int .i64 (default : Pa).desks, .int .i64 (default : Pa).shift.x, .int .i64 (default : Pa).shift.y, .int .i64 (default : Pa).low.s, .int .i64 (default : Pa).low.a, .int .i64 (default : Pa).low.o, .int .i64 (default : Pa).high.s, .int .i64 (default : Pa).high.a, .int .i64 (default : Pa).high.o], .bool false]) (by simp [results, Tryz.results64, go_sem, hc3, hf3]; exact ⟨rfl, rfl, rfl, rfl, rfl, rfl, rfl, rfl, rfl, rfl, rfl, rfl, rfl⟩) rfl ⟨rfl, (((((((((((((HB.out.setCell (by simp <;> omega) _).setCell (by simp <;> omega) _).setCell (by simp <;> omega) _).setCell (by simp <;> omega) _).setCell (by simp <;> omega) _).setCell (by simp <;> omega) _).setCell (by simp <;> omega) _).setCell (by simp <;> omega) _).setCell (by simp <;> omega) _).setCell (by simp <;> omega) _).setCell (by simp <;> omega) _).setCell (by simp <;> omega) _).setCell (by simp <;> omega) _)⟩
  | some p =>
    have hd : foundP s.parts part = p := by simp [foundP, hp]
    rw [hd]
    obtain ⟨i, hi, e1, e2, e3⟩ := part_some hp
    rw [e1] at HI
    have HP := Lib.hid e2
    clear hp hd e1 e2 e3
    obtain ⟨ab, cb, ap, cp, an, cn⟩ := q
    dsimp only at HX1 HI HB ⊢
    obtain ⟨b, off, hqa, _, e0, e1, e2, e3, e4, e5, e6, e7, e8, e9, e10, e11, e12⟩ := HS.out.parts.get i hi
    rw [HP.out] at e0 e1 e2 e3 e4 e5 e6 e7 e8 e9 e10 e11 e12
    have hqa2 : ap = some ⟨b, off, none⟩ := hqa
    subst hqa2
    clear hqa
    go_enter Tryz.func64, Tryz.ntmps64
    go_upto_region 1 with (fail)
    generalize ((w.alloc (.cells #[.int .i64 s.version, .slice ab s.bars.length cb, .slice (some ⟨b, off, none⟩) s.parts.length cp, .slice an s.notes.length cn] 26)).alloc (.cells #[.int .i64 part] 3)).alloc (.cells #[.int .i64 0, .int .i64 0, .int .i64 0, .int .i64 0, .int .i64 0, .int .i64 0, .int .i64 0, .int .i64 0, .int .i64 0, .int .i64 0, .int .i64 0, .int .i64 0, .int .i64 0] 121) = W at *
    have hc1 := box_cells HX1.out; have hc2 := box_cells HX2.out; have hc3 := box_cells HX3.out; have hf3 := box_free HX3.out; have hz3 := lt_blk HX3.out
    have hcall := HI.out W HB.out HX2.out
    go_wp2_with (go_at_call 104; refine hcall.mono ?_; rintro e w2 ⟨rfl, hb⟩; (try replace hb := drewB hb); replace HB := Lib.hid (HB.out.trans (hb.mono HB.out.size)); (try (replace HX1 := Lib.hid (blk_keep HX1.out hb); replace hc1 := box_cells HX1.out; replace hf1 := box_free HX1.out; replace hz1 := lt_blk HX1.out)); (try (replace HX2 := Lib.hid (blk_keep HX2.out hb); replace hc2 := box_cells HX2.out; replace hf2 := box_free HX2.out; replace hz2 := lt_blk HX2.out)); (try (replace HX3 := Lib.hid (blk_keep HX3.out hb); replace hc3 := box_cells HX3.out; replace hf3 := box_free HX3.out; replace hz3 := lt_blk HX3.out)); clear hb; have g0 := keepE e0 HB.out; have g1 := keepE e1 HB.out; have g2 := keepE e2 HB.out; have g3 := keepE e3 HB.out; have g4 := keepE e4 HB.out; have g5 := keepE e5 HB.out; have g6 := keepE e6 HB.out; have g7 := keepE e7 HB.out; have g8 := keepE e8 HB.out; have g9 := keepE e9 HB.out; have g10 := keepE e10 HB.out; have g11 := keepE e11 HB.out; have g12 := keepE e12 HB.out)
    exact bodyPost_ret (v := .tuple #[.agg #[.int .i64 p.id, .int .i64 p.section_, .int .i64 p.of, .int .i64 p.octave, .int .i64 p.desks, .int .i64 p.shift.x, .int .i64 p.shift.y, .int .i64 p.low.s, .int .i64 p.low.a, .int .i64 p.low.o, .int .i64 p.high.s, .int .i64 p.high.a, .int .i64 p.high.o], .bool true]) (by simp [results, Tryz.results64, go_sem, hc3, hf3]) rfl ⟨rfl, (((((((((((((HB.out.setCell (by simp <;> omega) _).setCell (by simp <;> omega) _).setCell (by simp <;> omega) _).setCell (by simp <;> omega) _).setCell (by simp <;> omega) _).setCell (by simp <;> omega) _).setCell (by simp <;> omega) _).setCell (by simp <;> omega) _).setCell (by simp <;> omega) _).setCell (by simp <;> omega) _).setCell (by simp <;> omega) _).setCell (by simp <;> omega) _).setCell (by simp <;> omega) _)⟩
end Go.Proofs.YtcelciomhngajaaGreatDoor

