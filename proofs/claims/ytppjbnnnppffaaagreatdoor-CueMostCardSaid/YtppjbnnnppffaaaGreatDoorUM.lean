/- Texts of this seat, laid together: ScVw2, ScVw3, ScCue1, ScCue3, ScCue6. -/
import Derived.Test.YtppjbnnnppffaaaGreatDoorUC
import Derived.Test.YtppjbnnnppffaaaGreatDoorUE
import Derived.Test.YtppjbnnnppffaaaGreatDoorUB
import Derived.IntWalk
import Derived.Test.YtppjbnnnppffaaaGreatDoorUD
import Derived.Test.YtppjbnnnppffaaaGreatDoorUJ
import Derived.Test.YtppjbnnnppffaaaGreatDoorUG
import Derived.Test.YtppjbnnnppffaaaGreatDoorUL

/- Package view: within, ticks, order: walked. -/
namespace Go.Proofs.YtppjbnnnppffaaaGreatDoor
set_option linter.unusedSimpArgs false
set_option linter.unusedVariables false
open Go.RowKit Go.Sort Go.Shelf

theorem vwithin_any (n lo hi : Int) (w : World) : Calls Tryz.prog 121 #[.int .i64 n, .int .i64 lo, .int .i64 hi] w fun e w' => e = .returned (.bool (inB n lo hi)) ∧ w = w' := by
  go_enter Tryz.func121, Tryz.ntmps121
  go_wp2
  all_goals (go_ret; exact ⟨by simp [inB, *] <;> omega, rfl⟩)
set_option maxHeartbeats 1000000 in
theorem vticks_any (n d : Int) (w : World) : Calls Tryz.prog 120 #[.agg #[.int .i64 n, .int .i64 d]] w fun e w' => e = .returned (.int .i64 (ticksI ⟨n, d⟩)) ∧ Below w.heap.size w w' := by
  have HD := Lib.hid (show durB ⟨n, d⟩ = (rtOk ⟨n, d⟩ && decide (0 ≤ n) && decide (1680 % d = 0)) from rfl)
  have HB0 := Lib.hid (fun h => ticks_nonneg (r := ⟨n, d⟩) h)
  cases hr : rtOk ⟨n, d⟩
  · have HF := Lib.hid (show durB ⟨n, d⟩ = false by rw [HD.out, hr]; rfl)
    have HG := Lib.hid (show ticksI ⟨n, d⟩ = -1 by simp [ticksI, HF.out])
    go_enter Tryz.func120, Tryz.ntmps120
    go_wp2_with (go_at_call 162; refine (RatValid_any _ _ _).mono ?_; rw [hr]; rintro e w2 ⟨rfl, hb⟩; have HB := Lib.hid (allocB hb); clear hb)
    go_ret
    exact ⟨ret_int HG.out.symm, HB.out⟩
  · obtain ⟨⟨q1, q2⟩, _⟩ := (rt_iff n d).1 hr
    have e0 : ¬ d = 0 := by omega
    have m1 := Int.emod_nonneg 1680 e0; have m2 := Int.emod_lt_of_pos 1680 (show 0 < d by omega)
    have e1 : Int.tmod 1680 d = 1680 % d := Int.tmod_eq_emod_of_nonneg (by decide)
    have e3 : Int.tdiv 1680 d = 1680 / d := Int.tdiv_eq_ediv_of_nonneg (by decide)
    have e4 : 0 ≤ 1680 / d := Int.ediv_nonneg (by decide) (by omega)
    have e5 : 1680 / d ≤ 1680 := Int.ediv_le_self _ (by decide)
    have HDef := Lib.hid (show durB ⟨n, d⟩ = true → ticksI ⟨n, d⟩ = n * (1680 / d) from fun h => by simp [ticksI, h])
    have e2 : IntKind.i64.wrap (1680 % d) = 1680 % d := IntWalk.i64_in _ (by omega)
    have e6 : IntKind.i64.wrap (1680 / d) = 1680 / d := IntWalk.i64_in _ (by omega)
    by_cases hg : 0 ≤ n ∧ 1680 % d = 0
    · obtain ⟨g1, g2⟩ := hg
      have HF := Lib.hid (show durB ⟨n, d⟩ = true by rw [HD.out, hr]; simp [g1, g2])
      have HG := Lib.hid (HDef.out HF.out)
      obtain ⟨b1, b2⟩ := HB0.out HF.out
      rw [HG.out] at b1 b2
      have e7 : IntKind.i64.wrap (n * (1680 / d)) = n * (1680 / d) := IntWalk.i64_in _ (by omega)
      rw [g2] at e1 e2
      go_enter Tryz.func120, Tryz.ntmps120
      go_wp2_with (go_at_call 162; refine (RatValid_any _ _ _).mono ?_; rw [hr]; rintro e w2 ⟨rfl, hb⟩; have x1 := box_below hb; have HB := Lib.hid (allocB hb); have hc := box_cells x1; clear hb x1)
      have q1 := cell_regrown (hc 0)
      go_quiet (fail)
      go_wp2
      go_ret
      exact ⟨ret_int HG.out.symm, below_drewN HB.out nq⟩
    · have HF := Lib.hid (show durB ⟨n, d⟩ = false by rw [HD.out, hr, ← Bool.not_eq_true]; simp; intro x y; exact hg ⟨x, y⟩)
      have HG := Lib.hid (show ticksI ⟨n, d⟩ = -1 by simp [ticksI, HF.out])
      have HN := Lib.hid hg; clear hg
      generalize 1680 % d = M at *
      by_cases hn : 0 ≤ n
      · have hM : ¬ M = 0 := fun e => HN.out ⟨hn, e⟩
        have hM2 : (M != 0) = true := by simpa using hM
        go_enter Tryz.func120, Tryz.ntmps120
        go_wp2_with (go_at_call 162; refine (RatValid_any _ _ _).mono ?_; rw [hr]; rintro e w2 ⟨rfl, hb⟩; have x1 := box_below hb; have HB := Lib.hid (allocB hb); have hc := box_cells x1; clear hb x1)
        go_ret
        exact ⟨ret_int HG.out.symm, HB.out⟩
      · go_enter Tryz.func120, Tryz.ntmps120
        go_wp2_with (go_at_call 162; refine (RatValid_any _ _ _).mono ?_; rw [hr]; rintro e w2 ⟨rfl, hb⟩; have x1 := box_below hb; have HB := Lib.hid (allocB hb); have hc := box_cells x1; clear hb x1)
        go_ret
        exact ⟨ret_int HG.out.symm, HB.out⟩
theorem ticksI_bd (r : Rt) : -1 ≤ ticksI r ∧ ticksI r ≤ 1680000000000 := by
  unfold ticksI
  split
  · rename_i h
    have := ticks_nonneg h
    rw [ticksI, if_pos h] at this; omega
  · omega
theorem vheight_any (x : Wr) (w : World) (hE : Env w) : Calls Tryz.prog 118 #[.agg #[.int .i64 x.id, .int .i64 x.voice, .int .i64 x.ossia, .int .i64 x.start.n, .int .i64 x.start.d, .int .i64 x.len.n, .int .i64 x.len.d, .int .i64 x.pitch.s, .int .i64 x.pitch.a, .int .i64 x.pitch.o]] w fun e w' => e = .returned (.int .i64 (numI x.pitch)) ∧ Below w.heap.size w w' := by
  have HN := Lib.hid (num_R x.pitch.s x.pitch.a x.pitch.o)
  have HE := Lib.hid hE; clear hE
  go_enter Tryz.func118, Tryz.ntmps118
  go_upto_region 1 with (fail)
  have HX1 := Lib.hid (heap_alloc_new w (.cells #[.int .i64 x.id, .int .i64 x.voice, .int .i64 x.ossia, .int .i64 x.start.n, .int .i64 x.start.d, .int .i64 x.len.n, .int .i64 x.len.d, .int .i64 x.pitch.s, .int .i64 x.pitch.a, .int .i64 x.pitch.o] 68))
  have HB := Lib.hid ((Below.refl w.heap.size w).alloc (Nat.le_refl _) (.cells #[.int .i64 x.id, .int .i64 x.voice, .int .i64 x.ossia, .int .i64 x.start.n, .int .i64 x.start.d, .int .i64 x.len.n, .int .i64 x.len.d, .int .i64 x.pitch.s, .int .i64 x.pitch.a, .int .i64 x.pitch.o] 68))
  generalize w.alloc (.cells #[.int .i64 x.id, .int .i64 x.voice, .int .i64 x.ossia, .int .i64 x.start.n, .int .i64 x.start.d, .int .i64 x.len.n, .int .i64 x.len.d, .int .i64 x.pitch.s, .int .i64 x.pitch.a, .int .i64 x.pitch.o] 68) = W at *
  have hc1 := box_cells HX1.out
  go_wp2_with (go_at_call 119; refine (Number_any _ _ _ _ (HE.out.below HB.out)).mono ?_; rintro e w2 ⟨rfl, hb⟩; (try replace hb := drewB hb); replace HB := Lib.hid (HB.out.trans (hb.mono HB.out.size)); (try (replace HX1 := Lib.hid (blk_keep HX1.out hb); replace hc1 := box_cells HX1.out; replace hf1 := box_free HX1.out; replace hz1 := lt_blk HX1.out)); (try (replace HX10 := Lib.hid (blk_keep HX10.out hb); replace hc10 := box_cells HX10.out; replace hf10 := box_free HX10.out; replace hz10 := lt_blk HX10.out)); clear hb)
  go_ret
  exact ⟨ret_int HN.out, HB.out⟩
/-- What cmp.Compare says. -/
def cmpI (x y : Int) : Int := if x < y then -1 else if y < x then 1 else 0
theorem nan_any (x : Int) (w : World) : Calls Tryz.prog 102 #[.int .i64 x] w fun e w' => e = .returned (.bool false) ∧ w = w' := by
  go_enter Tryz.func102, Tryz.ntmps102
  go_wp2
  go_ret
  exact ⟨by simp, rfl⟩
theorem cmpI_any (x y : Int) (w : World) : Calls Tryz.prog 48 #[.int .i64 x, .int .i64 y] w fun e w' => e = .returned (.int .i64 (cmpI x y)) ∧ w = w' := by
  have HC := Lib.hid (show cmpI x y = if x < y then -1 else if y < x then 1 else 0 from rfl)
  by_cases h1 : x < y
  · rw [if_pos h1] at HC
    go_enter Tryz.func48, Tryz.ntmps48
    go_wp2_with (go_at_call 102; refine (nan_any _ _).mono ?_; rintro e w2 ⟨rfl, rfl⟩)
    go_ret
    exact ⟨ret_int HC.out.symm, rfl⟩
  · rw [if_neg h1] at HC
    by_cases h2 : y < x
    · rw [if_pos h2] at HC
      go_enter Tryz.func48, Tryz.ntmps48
      go_wp2_with (go_at_call 102; refine (nan_any _ _).mono ?_; rintro e w2 ⟨rfl, rfl⟩)
      go_ret
      exact ⟨ret_int HC.out.symm, rfl⟩
    · rw [if_neg h2] at HC
      go_enter Tryz.func48, Tryz.ntmps48
      go_wp2_with (go_at_call 102; refine (nan_any _ _).mono ?_; rintro e w2 ⟨rfl, rfl⟩)
      go_ret
      exact ⟨ret_int HC.out.symm, rfl⟩
/-- The comparisons, one by one: the first one that is not 0 tells the order. -/
def cmpL (xs ys : List Int) : List Int := List.zipWith cmpI xs ys
theorem cmp_neg {xs ys : List Int} (hl : xs.length = ys.length) : decide (orL (cmpL xs ys) < 0) = lexLt xs ys := by
  induction xs generalizing ys with
  | nil =>
    cases ys with
    | nil => rfl
    | cons y ys => simp at hl
  | cons x xs ih =>
    cases ys with
    | nil => simp at hl
    | cons y ys =>
      simp only [cmpL, List.zipWith_cons_cons, orL, lexLt]
      by_cases e : x = y
      · subst e
        rw [if_pos (by simp [cmpI]), if_pos rfl]
        exact ih (by simpa using hl)
      · have hne : cmpI x y ≠ 0 := by unfold cmpI; split <;> (try split) <;> omega
        rw [if_neg hne, if_neg e, decide_eq_decide]
        unfold cmpI; split <;> (try split) <;> omega
end Go.Proofs.YtppjbnnnppffaaaGreatDoor


/- view.order: walked. -/
namespace Go.Proofs.YtppjbnnnppffaaaGreatDoor
set_option linter.unusedSimpArgs false
set_option linter.unusedVariables false
open Go.RowKit Go.Sort Go.Shelf

set_option maxRecDepth 100000 in
set_option maxHeartbeats 8000000 in
theorem vorder_any (x y : Wr) (w : World) (hE : Env w) : Calls Tryz.prog 64 #[.agg #[.int .i64 x.id, .int .i64 x.voice, .int .i64 x.ossia, .int .i64 x.start.n, .int .i64 x.start.d, .int .i64 x.len.n, .int .i64 x.len.d, .int .i64 x.pitch.s, .int .i64 x.pitch.a, .int .i64 x.pitch.o], .agg #[.int .i64 y.id, .int .i64 y.voice, .int .i64 y.ossia, .int .i64 y.start.n, .int .i64 y.start.d, .int .i64 y.len.n, .int .i64 y.len.d, .int .i64 y.pitch.s, .int .i64 y.pitch.a, .int .i64 y.pitch.o]] w fun e w' => e = .returned (.int .i64 (orL (cmpL (keysW x) (keysW y)))) ∧ Below w.heap.size w w' := by
  obtain ⟨x1, x2, hb⟩ := box2 (w := w) (A := .cells #[.int .i64 x.id, .int .i64 x.voice, .int .i64 x.ossia, .int .i64 x.start.n, .int .i64 x.start.d, .int .i64 x.len.n, .int .i64 x.len.d, .int .i64 x.pitch.s, .int .i64 x.pitch.a, .int .i64 x.pitch.o] 68) (B := .cells #[.int .i64 y.id, .int .i64 y.voice, .int .i64 y.ossia, .int .i64 y.start.n, .int .i64 y.start.d, .int .i64 y.len.n, .int .i64 y.len.d, .int .i64 y.pitch.s, .int .i64 y.pitch.a, .int .i64 y.pitch.o] 68) (Below.refl _ _)
  have HX1 := Lib.hid x1; have HX2 := Lib.hid x2; have HB := Lib.hid hb; clear x1 x2 hb
  have HE := Lib.hid hE; clear hE
  have HR := Lib.hid (show orL (cmpL (keysW x) (keysW y)) = orL [cmpI (ticksI x.start) (ticksI y.start), cmpI x.voice y.voice, cmpI (numI x.pitch) (numI y.pitch), cmpI x.id y.id] from rfl)
  generalize orL (cmpL (keysW x) (keysW y)) = R at *
  have T1 := Lib.hid (fun W => vticks_any x.start.n x.start.d W); have T2 := Lib.hid (fun W => vticks_any y.start.n y.start.d W)
  have H1 := Lib.hid (fun W hE => vheight_any x W hE); have H2 := Lib.hid (fun W hE => vheight_any y W hE)
  generalize hu1 : ticksI x.start = t1 at *; generalize hu2 : ticksI y.start = t2 at *
  generalize numI x.pitch = n1 at *; generalize numI y.pitch = n2 at *
  clear hu1 hu2
  have HC := Lib.hid (fun a b W => (cmpI_any a b W).mono fun e w' h => (⟨h.1, h.2 ▸ Below.refl _ _⟩ : _ ∧ Below W.heap.size W w'))
  go_enter Tryz.func64, Tryz.ntmps64
  go_upto_region 2 with (fail)
  generalize (w.alloc (.cells #[.int .i64 x.id, .int .i64 x.voice, .int .i64 x.ossia, .int .i64 x.start.n, .int .i64 x.start.d, .int .i64 x.len.n, .int .i64 x.len.d, .int .i64 x.pitch.s, .int .i64 x.pitch.a, .int .i64 x.pitch.o] 68)).alloc (.cells #[.int .i64 y.id, .int .i64 y.voice, .int .i64 y.ossia, .int .i64 y.start.n, .int .i64 y.start.d, .int .i64 y.len.n, .int .i64 y.len.d, .int .i64 y.pitch.s, .int .i64 y.pitch.a, .int .i64 y.pitch.o] 68) = W at *
  have hc1 := box_cells HX1.out; have hc2 := box_cells HX2.out
  have g0 := cell_regrown (hc1 0); have g1 := cell_regrown (hc1 1); have g2 := cell_regrown (hc1 2); have g3 := cell_regrown (hc1 3); have g4 := cell_regrown (hc1 4); have g5 := cell_regrown (hc1 5); have g6 := cell_regrown (hc1 6); have g7 := cell_regrown (hc1 7); have g8 := cell_regrown (hc1 8); have g9 := cell_regrown (hc1 9)
  have k0 := cell_regrown (hc2 0); have k1 := cell_regrown (hc2 1); have k2 := cell_regrown (hc2 2); have k3 := cell_regrown (hc2 3); have k4 := cell_regrown (hc2 4); have k5 := cell_regrown (hc2 5); have k6 := cell_regrown (hc2 6); have k7 := cell_regrown (hc2 7); have k8 := cell_regrown (hc2 8); have k9 := cell_regrown (hc2 9)
  refine wp_tailB 24 (by kernel_rfl) (by kernel_rfl) ?_
  simp only [List.take_succ_cons, List.take_zero, List.drop_succ_cons, List.drop_zero]
  (repeat (go_big_quiet_step (fail)))
  go_big_quiet_step ((go_at_call 120; refine Calls.regrown_of (T1.out _)))
  (repeat (go_big_quiet_step (fail)))
  go_big_quiet_step ((go_at_call 120; refine Calls.regrown_of (T2.out _)))
  (repeat (go_big_quiet_step (fail)))
  go_big_quiet_step ((go_at_call 48; refine Calls.regrown_of (HC.out _ _ _)))
  (repeat (go_big_quiet_step (fail)))
  go_big_quiet_step ((go_at_call 48; refine Calls.regrown_of (HC.out _ _ _)))
  (repeat (go_big_quiet_step (fail)))
  go_big_quiet_step ((go_at_call 118; refine Calls.regrown_of (H1.out _ (HE.out.below (HB.out.trans ((below_regrown _ _ _).mono HB.out.size))))))
  (repeat (go_big_quiet_step (fail)))
  go_big_quiet_step ((go_at_call 118; refine Calls.regrown_of (H2.out _ (HE.out.below (HB.out.trans ((below_regrown _ _ _).mono HB.out.size))))))
  (repeat (go_big_quiet_step (fail)))
  go_big_quiet_step ((go_at_call 48; refine Calls.regrown_of (HC.out _ _ _)))
  (repeat (go_big_quiet_step (fail)))
  go_big_quiet_step ((go_at_call 48; refine Calls.regrown_of (HC.out _ _ _)))
  (repeat (go_big_quiet_step (fail)))
  refine wpQuiet_nil ?_
  intro w6 hb6
  replace HB := Lib.hid (HB.out.trans (hb6.mono HB.out.size))
  clear hb6 g0 g1 g2 g3 g4 g5 g6 g7 g8 g9 k0 k1 k2 k3 k4 k5 k6 k7 k8 k9 hc1 hc2 HX1 HX2
  generalize cmpI t1 t2 = a1 at *; generalize cmpI x.voice y.voice = a2 at *; generalize cmpI n1 n2 = a3 at *; generalize cmpI x.id y.id = a4 at *
  have HO := Lib.hid (fun (b : Nat) (W' : World) (hx : W'.heap[b]? = some (.cells #[.int .i64 a1, .int .i64 a2, .int .i64 a3, .int .i64 a4] 3 (0, 0))) => (HR.out ▸ OrI_any (some ⟨b, 0, none⟩) 4 [a1, a2, a3, a4] W' (by simp) (inAt_row hx (by rfl)) : Calls Tryz.prog 47 #[.slice (some ⟨b, 0, none⟩) 4 4] W' fun e w' => e = .returned (.int .i64 R) ∧ W' = w'))
  go_wp2_with (fail)
  refine (HO.out _ _ (heap_alloc_new _ _)).mono ?_
  rintro e w9 ⟨rfl, rfl⟩
  go_wp2
  go_ret
  exact ⟨rfl, HB.out.alloc HB.out.size _⟩
end Go.Proofs.YtppjbnnnppffaaaGreatDoor


/- cue.height, how cue.written compares starts: walked. -/
namespace Go.Proofs.YtppjbnnnppffaaaGreatDoor
set_option linter.unusedSimpArgs false
set_option linter.unusedVariables false
open Go.RowKit Go.Sort Go.Shelf

theorem cheight_any (q : Pi) (w : World) (hE : Env w) : Calls Tryz.prog 107 #[.agg #[.int .i64 q.s, .int .i64 q.a, .int .i64 q.o]] w fun e w' => e = .returned (.int .i64 (numI q)) ∧ Below w.heap.size w w' := by
  have HN := Lib.hid (num_R q.s q.a q.o)
  have HE := Lib.hid hE; clear hE
  have HX1 := Lib.hid (heap_alloc_new w (.cells #[.int .i64 q.s, .int .i64 q.a, .int .i64 q.o] 57))
  have HB := Lib.hid ((Below.refl w.heap.size w).alloc (Nat.le_refl _) (.cells #[.int .i64 q.s, .int .i64 q.a, .int .i64 q.o] 57))
  go_enter Tryz.func107, Tryz.ntmps107
  go_upto_region 1 with (fail)
  generalize w.alloc (.cells #[.int .i64 q.s, .int .i64 q.a, .int .i64 q.o] 57) = W at *
  have hc1 := box_cells HX1.out
  go_wp2_with (go_at_call 119; refine (Number_any _ _ _ _ (HE.out.below HB.out)).mono ?_; rintro e w2 ⟨rfl, hb⟩; (try replace hb := drewB hb); replace HB := Lib.hid (HB.out.trans (hb.mono HB.out.size)); (try (replace HX1 := Lib.hid (blk_keep HX1.out hb); replace hc1 := box_cells HX1.out; replace hf1 := box_free HX1.out; replace hz1 := lt_blk HX1.out)); (try (replace HX10 := Lib.hid (blk_keep HX10.out hb); replace hc10 := box_cells HX10.out; replace hf10 := box_free HX10.out; replace hz10 := lt_blk HX10.out)); clear hb)
  go_ret
  exact ⟨ret_int HN.out, HB.out⟩
/-- Two durations are compared as their parts of a quarter are. -/
theorem early_ticks {a b : Rt} (ha : durB a = true) (hb : durB b = true) : cmpI (a.n * b.d) (b.n * a.d) = cmpI (ticksI a) (ticksI b) := by
  obtain ⟨⟨a1, _, a3⟩, ⟨a4, _⟩, _⟩ := (durB_iff a).1 ha
  obtain ⟨⟨b1, _, b3⟩, ⟨b4, _⟩, _⟩ := (durB_iff b).1 hb
  rw [show ticksI a = a.n * (1680 / a.d) by rw [ticksI, if_pos ha], show ticksI b = b.n * (1680 / b.d) by rw [ticksI, if_pos hb]]
  have ea : (1680 : Int) = a.d * (1680 / a.d) := (Int.mul_ediv_cancel' (Int.dvd_of_emod_eq_zero a3)).symm
  have eb : (1680 : Int) = b.d * (1680 / b.d) := (Int.mul_ediv_cancel' (Int.dvd_of_emod_eq_zero b3)).symm
  generalize 1680 / a.d = p at *
  generalize 1680 / b.d = q at *
  have hp : 0 < p := by
    rcases Int.lt_or_le 0 p with h | h
    · exact h
    · have := Int.mul_nonpos_of_nonneg_of_nonpos (show 0 ≤ a.d by omega) h; omega
  have hq : 0 < q := by
    rcases Int.lt_or_le 0 q with h | h
    · exact h
    · have := Int.mul_nonpos_of_nonneg_of_nonpos (show 0 ≤ b.d by omega) h; omega
  have hpq : 0 < p * q := Int.mul_pos hp hq
  have e1 : (a.n * b.d) * (p * q) = 1680 * (a.n * p) := by
    calc (a.n * b.d) * (p * q) = (b.d * q) * (a.n * p) := by simp only [Int.mul_assoc, Int.mul_left_comm, Int.mul_comm]
      _ = 1680 * (a.n * p) := by rw [← eb]
  have e2 : (b.n * a.d) * (p * q) = 1680 * (b.n * q) := by
    calc (b.n * a.d) * (p * q) = (a.d * p) * (b.n * q) := by simp only [Int.mul_assoc, Int.mul_left_comm, Int.mul_comm]
      _ = 1680 * (b.n * q) := by rw [← ea]
  have key : ∀ x y x' y' : Int, x * (p * q) = 1680 * x' → y * (p * q) = 1680 * y' → (x < y ↔ x' < y') := by
    intro x y x' y' h1 h2
    constructor
    · intro h
      have := Int.mul_lt_mul_of_pos_right h hpq
      rw [h1, h2] at this; omega
    · intro h
      have : x * (p * q) < y * (p * q) := by rw [h1, h2]; omega
      exact Int.lt_of_mul_lt_mul_right this (Int.le_of_lt hpq)
  have k1 := key _ _ _ _ e1 e2
  have k2 := key _ _ _ _ e2 e1
  unfold cmpI
  by_cases h1 : a.n * b.d < b.n * a.d
  · rw [if_pos h1, if_pos (k1.1 h1)]
  · rw [if_neg h1, if_neg (fun h => h1 (k1.2 h))]
    by_cases h2 : b.n * a.d < a.n * b.d
    · rw [if_pos h2, if_pos (k2.1 h2)]
    · rw [if_neg h2, if_neg (fun h => h2 (k2.2 h))]
theorem prod_bd {a b : Rt} (ha : durB a = true) (hb : durB b = true) : 0 ≤ a.n * b.d ∧ a.n * b.d ≤ 1680000000000 := by
  obtain ⟨⟨a1, _, a3⟩, ⟨a4, a5⟩, _⟩ := (durB_iff a).1 ha
  obtain ⟨⟨b1, b2, b3⟩, ⟨b4, _⟩, _⟩ := (durB_iff b).1 hb
  refine ⟨Int.mul_nonneg a4 (by omega), ?_⟩
  have h1 : a.n * b.d ≤ 1000000000 * b.d := Int.mul_le_mul_of_nonneg_right a5 (by omega)
  omega
set_option maxHeartbeats 1000000 in
theorem cearly_any (a b : Rt) (w : World) (ha : durB a = true) (hb : durB b = true) : Calls Tryz.prog 104 #[.agg #[.int .i64 a.n, .int .i64 a.d], .agg #[.int .i64 b.n, .int .i64 b.d]] w fun e w' => e = .returned (.int .i64 (cmpI (ticksI a) (ticksI b))) ∧ Below w.heap.size w w' := by
  have HT := Lib.hid (early_ticks ha hb)
  obtain ⟨p1, p2⟩ := prod_bd ha hb
  obtain ⟨p3, p4⟩ := prod_bd hb ha
  obtain ⟨x1, x2, hb2⟩ := box2 (w := w) (A := .cells #[.int .i64 a.n, .int .i64 a.d] 63) (B := .cells #[.int .i64 b.n, .int .i64 b.d] 63) (Below.refl _ _)
  have HX1 := Lib.hid x1; have HX2 := Lib.hid x2; have HB := Lib.hid hb2; clear x1 x2 hb2 ha hb
  have hw1 : IntKind.i64.wrap (a.n * b.d) = a.n * b.d := IntWalk.i64_in _ (by omega)
  have hw2 : IntKind.i64.wrap (b.n * a.d) = b.n * a.d := IntWalk.i64_in _ (by omega)
  go_enter Tryz.func104, Tryz.ntmps104
  go_upto_region 1 with (fail)
  generalize (w.alloc (.cells #[.int .i64 a.n, .int .i64 a.d] 63)).alloc (.cells #[.int .i64 b.n, .int .i64 b.d] 63) = W at *
  have hc1 := box_cells HX1.out; have hc2 := box_cells HX2.out
  go_wp2_with (go_at_call 48; refine (cmpI_any _ _ _).mono ?_; rintro e w2 ⟨rfl, rfl⟩)
  go_ret
  exact ⟨ret_int HT.out, HB.out⟩
set_option maxRecDepth 100000 in
set_option maxHeartbeats 8000000 in
theorem corder_any (x y : Wr) (fb : Nat) (w : World) (hE : Env w) (hx : durB x.start = true) (hy : durB y.start = true) (hfb : w.heap[fb]? = some (.cells #[.func (.func 104) #[] #[]] 146 (0, 0))) : Calls Tryz.prog 106 #[.agg #[.int .i64 x.id, .int .i64 x.voice, .int .i64 x.ossia, .int .i64 x.start.n, .int .i64 x.start.d, .int .i64 x.len.n, .int .i64 x.len.d, .int .i64 x.pitch.s, .int .i64 x.pitch.a, .int .i64 x.pitch.o], .agg #[.int .i64 y.id, .int .i64 y.voice, .int .i64 y.ossia, .int .i64 y.start.n, .int .i64 y.start.d, .int .i64 y.len.n, .int .i64 y.len.d, .int .i64 y.pitch.s, .int .i64 y.pitch.a, .int .i64 y.pitch.o], .pointer (some ⟨fb, 0, none⟩)] w fun e w' => e = .returned (.int .i64 (orL (cmpL (keysW x) (keysW y)))) ∧ Below w.heap.size w w' := by
  obtain ⟨x1, x2, hb⟩ := box2 (w := w) (A := .cells #[.int .i64 x.id, .int .i64 x.voice, .int .i64 x.ossia, .int .i64 x.start.n, .int .i64 x.start.d, .int .i64 x.len.n, .int .i64 x.len.d, .int .i64 x.pitch.s, .int .i64 x.pitch.a, .int .i64 x.pitch.o] 68) (B := .cells #[.int .i64 y.id, .int .i64 y.voice, .int .i64 y.ossia, .int .i64 y.start.n, .int .i64 y.start.d, .int .i64 y.len.n, .int .i64 y.len.d, .int .i64 y.pitch.s, .int .i64 y.pitch.a, .int .i64 y.pitch.o] 68) (Below.refl _ _)
  have HX1 := Lib.hid x1; have HX2 := Lib.hid x2; have HB := Lib.hid hb; clear x1 x2 hb
  have HE := Lib.hid hE; clear hE
  have HF := Lib.hid (up_alloc (up_alloc hfb (.cells #[.int .i64 x.id, .int .i64 x.voice, .int .i64 x.ossia, .int .i64 x.start.n, .int .i64 x.start.d, .int .i64 x.len.n, .int .i64 x.len.d, .int .i64 x.pitch.s, .int .i64 x.pitch.a, .int .i64 x.pitch.o] 68)) (.cells #[.int .i64 y.id, .int .i64 y.voice, .int .i64 y.ossia, .int .i64 y.start.n, .int .i64 y.start.d, .int .i64 y.len.n, .int .i64 y.len.d, .int .i64 y.pitch.s, .int .i64 y.pitch.a, .int .i64 y.pitch.o] 68)); clear hfb
  have HR := Lib.hid (show orL (cmpL (keysW x) (keysW y)) = orL [cmpI (ticksI x.start) (ticksI y.start), cmpI x.voice y.voice, cmpI (numI x.pitch) (numI y.pitch), cmpI x.id y.id] from rfl)
  generalize orL (cmpL (keysW x) (keysW y)) = R at *
  have T1 := Lib.hid (fun W => cearly_any x.start y.start W hx hy)
  have H1 := Lib.hid (fun W hE => cheight_any x.pitch W hE); have H2 := Lib.hid (fun W hE => cheight_any y.pitch W hE)
  clear hx hy
  generalize cmpI (ticksI x.start) (ticksI y.start) = a1 at *
  generalize numI x.pitch = n1 at *; generalize numI y.pitch = n2 at *
  have HC := Lib.hid (fun a b W => (cmpI_any a b W).mono fun e w' h => (⟨h.1, h.2 ▸ Below.refl _ _⟩ : _ ∧ Below W.heap.size W w'))
  go_enter Tryz.func106, Tryz.ntmps106
  go_upto_region 1 with (fail)
  generalize (w.alloc (.cells #[.int .i64 x.id, .int .i64 x.voice, .int .i64 x.ossia, .int .i64 x.start.n, .int .i64 x.start.d, .int .i64 x.len.n, .int .i64 x.len.d, .int .i64 x.pitch.s, .int .i64 x.pitch.a, .int .i64 x.pitch.o] 68)).alloc (.cells #[.int .i64 y.id, .int .i64 y.voice, .int .i64 y.ossia, .int .i64 y.start.n, .int .i64 y.start.d, .int .i64 y.len.n, .int .i64 y.len.d, .int .i64 y.pitch.s, .int .i64 y.pitch.a, .int .i64 y.pitch.o] 68) = W at *
  have hc1 := box_cells HX1.out; have hc2 := box_cells HX2.out; have hcf := box_cells HF.out
  have g0 := cell_regrown (hc1 0); have g1 := cell_regrown (hc1 1); have g2 := cell_regrown (hc1 2); have g3 := cell_regrown (hc1 3); have g4 := cell_regrown (hc1 4); have g5 := cell_regrown (hc1 5); have g6 := cell_regrown (hc1 6); have g7 := cell_regrown (hc1 7); have g8 := cell_regrown (hc1 8); have g9 := cell_regrown (hc1 9)
  have k0 := cell_regrown (hc2 0); have k1 := cell_regrown (hc2 1); have k2 := cell_regrown (hc2 2); have k3 := cell_regrown (hc2 3); have k4 := cell_regrown (hc2 4); have k5 := cell_regrown (hc2 5); have k6 := cell_regrown (hc2 6); have k7 := cell_regrown (hc2 7); have k8 := cell_regrown (hc2 8); have k9 := cell_regrown (hc2 9)
  have f0 := cell_regrown (hcf 0)
  refine wp_tailB 23 (by kernel_rfl) (by kernel_rfl) ?_
  simp only [List.take_succ_cons, List.take_zero, List.drop_succ_cons, List.drop_zero]
  (repeat (go_big_quiet_step (fail)))
  go_big_quiet_step ((go_at_call 104; refine Calls.regrown_of (T1.out _)))
  (repeat (go_big_quiet_step (fail)))
  go_big_quiet_step ((go_at_call 48; refine Calls.regrown_of (HC.out _ _ _)))
  (repeat (go_big_quiet_step (fail)))
  go_big_quiet_step ((go_at_call 107; refine Calls.regrown_of (H1.out _ (HE.out.below (HB.out.trans ((below_regrown _ _ _).mono HB.out.size))))))
  (repeat (go_big_quiet_step (fail)))
  go_big_quiet_step ((go_at_call 107; refine Calls.regrown_of (H2.out _ (HE.out.below (HB.out.trans ((below_regrown _ _ _).mono HB.out.size))))))
  (repeat (go_big_quiet_step (fail)))
  go_big_quiet_step ((go_at_call 48; refine Calls.regrown_of (HC.out _ _ _)))
  (repeat (go_big_quiet_step (fail)))
  go_big_quiet_step ((go_at_call 48; refine Calls.regrown_of (HC.out _ _ _)))
  (repeat (go_big_quiet_step (fail)))
  refine wpQuiet_nil ?_
  intro w6 hb6
  replace HB := Lib.hid (HB.out.trans (hb6.mono HB.out.size))
  clear hb6 g0 g1 g2 g3 g4 g5 g6 g7 g8 g9 k0 k1 k2 k3 k4 k5 k6 k7 k8 k9 f0 hc1 hc2 hcf HX1 HX2 HF
  generalize cmpI x.voice y.voice = a2 at *; generalize cmpI n1 n2 = a3 at *; generalize cmpI x.id y.id = a4 at *
  have HO := Lib.hid (fun (b : Nat) (W' : World) (hx : W'.heap[b]? = some (.cells #[.int .i64 a1, .int .i64 a2, .int .i64 a3, .int .i64 a4] 3 (0, 0))) => (HR.out ▸ OrI_any (some ⟨b, 0, none⟩) 4 [a1, a2, a3, a4] W' (by simp) (inAt_row hx (by rfl)) : Calls Tryz.prog 47 #[.slice (some ⟨b, 0, none⟩) 4 4] W' fun e w' => e = .returned (.int .i64 R) ∧ W' = w'))
  go_wp2_with (fail)
  refine (HO.out _ _ (heap_alloc_new _ _)).mono ?_
  rintro e w9 ⟨rfl, rfl⟩
  go_wp2
  go_ret
  exact ⟨rfl, HB.out.alloc HB.out.size _⟩
end Go.Proofs.YtppjbnnnppffaaaGreatDoor


/- How cue.written compares (no draw is taken back); slices.SortFunc over written notes; for not too many notes. -/
namespace Go.Proofs.YtppjbnnnppffaaaGreatDoor
set_option linter.unusedSimpArgs false
set_option linter.unusedVariables false
open Go.RowKit Go.Sort Go.Shelf

theorem cheight_up (q : Pi) (w : World) (hE : Env w) : Calls Tryz.prog 107 #[.agg #[.int .i64 q.s, .int .i64 q.a, .int .i64 q.o]] w fun e w' => e = .returned (.int .i64 (numI q)) ∧ Up w w' := by
  have HN := Lib.hid (num_R q.s q.a q.o)
  have HE := Lib.hid hE; clear hE
  have HX1 := Lib.hid (heap_alloc_new w (.cells #[.int .i64 q.s, .int .i64 q.a, .int .i64 q.o] 57))
  have HB := Lib.hid (Up.alloc w (.cells #[.int .i64 q.s, .int .i64 q.a, .int .i64 q.o] 57))
  go_enter Tryz.func107, Tryz.ntmps107
  go_upto_region 1 with (fail)
  generalize w.alloc (.cells #[.int .i64 q.s, .int .i64 q.a, .int .i64 q.o] 57) = W at *
  have hc1 := box_cells HX1.out
  go_wp2_with (go_at_call 119; refine (Number_up _ _ _ _ (HE.out.below HB.out.below)).mono ?_; rintro e w2 ⟨rfl, hb⟩; replace HB := Lib.hid (HB.out.trans hb); clear hb)
  go_ret
  exact ⟨ret_int HN.out, HB.out⟩
set_option maxHeartbeats 1000000 in
theorem cearly_up (a b : Rt) (w : World) (ha : durB a = true) (hb : durB b = true) : Calls Tryz.prog 104 #[.agg #[.int .i64 a.n, .int .i64 a.d], .agg #[.int .i64 b.n, .int .i64 b.d]] w fun e w' => e = .returned (.int .i64 (cmpI (ticksI a) (ticksI b))) ∧ Up w w' := by
  have HT := Lib.hid (early_ticks ha hb)
  obtain ⟨p1, p2⟩ := prod_bd ha hb
  obtain ⟨p3, p4⟩ := prod_bd hb ha
  obtain ⟨x1, x2, hb2⟩ := box2 (w := w) (A := .cells #[.int .i64 a.n, .int .i64 a.d] 63) (B := .cells #[.int .i64 b.n, .int .i64 b.d] 63) (Below.refl _ _)
  have HX1 := Lib.hid x1; have HX2 := Lib.hid x2; have HB := Lib.hid (show Up w _ from ⟨hb2, Nat.le_refl _⟩); clear x1 x2 hb2 ha hb
  have hw1 : IntKind.i64.wrap (a.n * b.d) = a.n * b.d := IntWalk.i64_in _ (by omega)
  have hw2 : IntKind.i64.wrap (b.n * a.d) = b.n * a.d := IntWalk.i64_in _ (by omega)
  go_enter Tryz.func104, Tryz.ntmps104
  go_upto_region 1 with (fail)
  generalize (w.alloc (.cells #[.int .i64 a.n, .int .i64 a.d] 63)).alloc (.cells #[.int .i64 b.n, .int .i64 b.d] 63) = W at *
  have hc1 := box_cells HX1.out; have hc2 := box_cells HX2.out
  go_wp2_with (go_at_call 48; refine (cmpI_any _ _ _).mono ?_; rintro e w2 ⟨rfl, rfl⟩)
  go_ret
  exact ⟨ret_int HT.out, HB.out⟩
set_option maxRecDepth 100000 in
set_option maxHeartbeats 8000000 in
theorem corder_up (x y : Wr) (fb : Nat) (w : World) (hE : Env w) (hx : durB x.start = true) (hy : durB y.start = true) (hfb : w.heap[fb]? = some (.cells #[.func (.func 104) #[] #[]] 146 (0, 0))) : Calls Tryz.prog 106 #[.agg #[.int .i64 x.id, .int .i64 x.voice, .int .i64 x.ossia, .int .i64 x.start.n, .int .i64 x.start.d, .int .i64 x.len.n, .int .i64 x.len.d, .int .i64 x.pitch.s, .int .i64 x.pitch.a, .int .i64 x.pitch.o], .agg #[.int .i64 y.id, .int .i64 y.voice, .int .i64 y.ossia, .int .i64 y.start.n, .int .i64 y.start.d, .int .i64 y.len.n, .int .i64 y.len.d, .int .i64 y.pitch.s, .int .i64 y.pitch.a, .int .i64 y.pitch.o], .pointer (some ⟨fb, 0, none⟩)] w fun e w' => e = .returned (.int .i64 (orL (cmpL (keysW x) (keysW y)))) ∧ Up w w' := by
  obtain ⟨x1, x2, hb⟩ := box2 (w := w) (A := .cells #[.int .i64 x.id, .int .i64 x.voice, .int .i64 x.ossia, .int .i64 x.start.n, .int .i64 x.start.d, .int .i64 x.len.n, .int .i64 x.len.d, .int .i64 x.pitch.s, .int .i64 x.pitch.a, .int .i64 x.pitch.o] 68) (B := .cells #[.int .i64 y.id, .int .i64 y.voice, .int .i64 y.ossia, .int .i64 y.start.n, .int .i64 y.start.d, .int .i64 y.len.n, .int .i64 y.len.d, .int .i64 y.pitch.s, .int .i64 y.pitch.a, .int .i64 y.pitch.o] 68) (Below.refl _ _)
  have HX1 := Lib.hid x1; have HX2 := Lib.hid x2; have HB := Lib.hid (show Up w _ from ⟨hb, Nat.le_refl _⟩); clear x1 x2 hb
  have HE := Lib.hid hE; clear hE
  have HF := Lib.hid (up_alloc (up_alloc hfb (.cells #[.int .i64 x.id, .int .i64 x.voice, .int .i64 x.ossia, .int .i64 x.start.n, .int .i64 x.start.d, .int .i64 x.len.n, .int .i64 x.len.d, .int .i64 x.pitch.s, .int .i64 x.pitch.a, .int .i64 x.pitch.o] 68)) (.cells #[.int .i64 y.id, .int .i64 y.voice, .int .i64 y.ossia, .int .i64 y.start.n, .int .i64 y.start.d, .int .i64 y.len.n, .int .i64 y.len.d, .int .i64 y.pitch.s, .int .i64 y.pitch.a, .int .i64 y.pitch.o] 68)); clear hfb
  have HR := Lib.hid (show orL (cmpL (keysW x) (keysW y)) = orL [cmpI (ticksI x.start) (ticksI y.start), cmpI x.voice y.voice, cmpI (numI x.pitch) (numI y.pitch), cmpI x.id y.id] from rfl)
  generalize orL (cmpL (keysW x) (keysW y)) = R at *
  have T1 := Lib.hid (fun W => cearly_up x.start y.start W hx hy)
  have H1 := Lib.hid (fun W hE => cheight_up x.pitch W hE); have H2 := Lib.hid (fun W hE => cheight_up y.pitch W hE)
  clear hx hy
  generalize cmpI (ticksI x.start) (ticksI y.start) = a1 at *
  generalize numI x.pitch = n1 at *; generalize numI y.pitch = n2 at *
  have HC := Lib.hid (fun a b W => (cmpI_any a b W).mono fun e w' h => (⟨h.1, h.2 ▸ Up.refl _⟩ : _ ∧ Up W w'))
  go_enter Tryz.func106, Tryz.ntmps106
  go_upto_region 1 with (fail)
  generalize (w.alloc (.cells #[.int .i64 x.id, .int .i64 x.voice, .int .i64 x.ossia, .int .i64 x.start.n, .int .i64 x.start.d, .int .i64 x.len.n, .int .i64 x.len.d, .int .i64 x.pitch.s, .int .i64 x.pitch.a, .int .i64 x.pitch.o] 68)).alloc (.cells #[.int .i64 y.id, .int .i64 y.voice, .int .i64 y.ossia, .int .i64 y.start.n, .int .i64 y.start.d, .int .i64 y.len.n, .int .i64 y.len.d, .int .i64 y.pitch.s, .int .i64 y.pitch.a, .int .i64 y.pitch.o] 68) = W at *
  have hc1 := box_cells HX1.out; have hc2 := box_cells HX2.out; have hcf := box_cells HF.out
  have g0 := cell_up (hc1 0); have g1 := cell_up (hc1 1); have g2 := cell_up (hc1 2); have g3 := cell_up (hc1 3); have g4 := cell_up (hc1 4); have g5 := cell_up (hc1 5); have g6 := cell_up (hc1 6); have g7 := cell_up (hc1 7); have g8 := cell_up (hc1 8); have g9 := cell_up (hc1 9)
  have k0 := cell_up (hc2 0); have k1 := cell_up (hc2 1); have k2 := cell_up (hc2 2); have k3 := cell_up (hc2 3); have k4 := cell_up (hc2 4); have k5 := cell_up (hc2 5); have k6 := cell_up (hc2 6); have k7 := cell_up (hc2 7); have k8 := cell_up (hc2 8); have k9 := cell_up (hc2 9)
  have f0 := cell_up (hcf 0)
  refine wp_tailU 23 (by kernel_rfl) (by kernel_rfl) ?_
  simp only [List.take_succ_cons, List.take_zero, List.drop_succ_cons, List.drop_zero]
  (repeat (go_big_quiet_step (fail)))
  go_big_quiet_step ((go_at_call 104; refine Calls.up_of (T1.out _)))
  (repeat (go_big_quiet_step (fail)))
  go_big_quiet_step ((go_at_call 48; refine Calls.up_of (HC.out _ _ _)))
  (repeat (go_big_quiet_step (fail)))
  go_big_quiet_step ((go_at_call 107; refine Calls.up_of (H1.out _ (HE.out.below (HB.out.trans (Up.grown _ _ _)).below))))
  (repeat (go_big_quiet_step (fail)))
  go_big_quiet_step ((go_at_call 107; refine Calls.up_of (H2.out _ (HE.out.below (HB.out.trans (Up.grown _ _ _)).below))))
  (repeat (go_big_quiet_step (fail)))
  go_big_quiet_step ((go_at_call 48; refine Calls.up_of (HC.out _ _ _)))
  (repeat (go_big_quiet_step (fail)))
  go_big_quiet_step ((go_at_call 48; refine Calls.up_of (HC.out _ _ _)))
  (repeat (go_big_quiet_step (fail)))
  refine wpQuiet_nil ?_
  intro w6 hb6
  replace HB := Lib.hid (HB.out.trans hb6)
  clear hb6 g0 g1 g2 g3 g4 g5 g6 g7 g8 g9 k0 k1 k2 k3 k4 k5 k6 k7 k8 k9 f0 hc1 hc2 hcf HX1 HX2 HF
  generalize cmpI x.voice y.voice = a2 at *; generalize cmpI n1 n2 = a3 at *; generalize cmpI x.id y.id = a4 at *
  have HO := Lib.hid (fun (b : Nat) (W' : World) (hx : W'.heap[b]? = some (.cells #[.int .i64 a1, .int .i64 a2, .int .i64 a3, .int .i64 a4] 3 (0, 0))) => (HR.out ▸ OrI_any (some ⟨b, 0, none⟩) 4 [a1, a2, a3, a4] W' (by simp) (inAt_row hx (by rfl)) : Calls Tryz.prog 47 #[.slice (some ⟨b, 0, none⟩) 4 4] W' fun e w' => e = .returned (.int .i64 R) ∧ W' = w'))
  go_wp2_with (fail)
  refine (HO.out _ _ (heap_alloc_new _ _)).mono ?_
  rintro e w9 ⟨rfl, rfl⟩
  go_wp2
  go_ret
  exact ⟨rfl, HB.out.trans (Up.alloc _ _)⟩
/-- Written notes whose starts are right. -/
abbrev WrR := { x : Wr // durB x.start = true }
def encWr (x : WrR) : List Value := x.1.cells
def cfW (x y : WrR) : Int := orL (cmpL (keysW x.1) (keysW y.1))
theorem keysW_len (x y : Wr) : (keysW x).length = (keysW y).length := rfl
theorem lt_cfW (x y : WrR) : ltOf cfW x y = beforeW x.1 y.1 := cmp_neg (keysW_len x.1 y.1)
theorem swoW : SWO (ltOf cfW) where
  irrefl x := by rw [lt_cfW]; exact lex_irrefl _
  trans x y z h1 h2 := by rw [lt_cfW] at *; exact lex_trans h1 h2
  ntrans x y z h1 h2 := by rw [lt_cfW] at *; exact lex_ntrans (keysW_len _ _) (keysW_len _ _) h1 h2
theorem sorted_other {α : Type} [Inhabited α] {enc : α → List Value} {k g n j : Nat} {w : World} {d : Array α} {os : Array Obj} (hj : j < w.heap.size) (hne : j ≠ g) : (sortWorldK enc k w g 0 n d os).heap[j]? = w.heap[j]? := by
  unfold sortWorldK putRowK putRow Go.Sort.grow mapBlock Sort.ahead
  simp only
  rw [Array.getElem?_append_left (by simp; exact hj), Array.getElem?_modify, if_neg (fun e => hne e.symm)]
theorem cmpWr [Inhabited WrR] (g fb size : Nat) (w : World) (hE : Env w) (hfb : w.heap[fb]? = some (.cells #[.func (.func 104) #[] #[]] 146 (0, 0))) (he : 0 < g) (hb : fb ≠ g) (hg : g ≤ w.heap.size) :
    CmpLays Tryz.prog 106 #[.pointer (some ⟨fb, 0, none⟩)] encWr 10 cfW g 0 size w := by
  intro m os dk _ x y
  obtain ⟨x, hx⟩ := x
  obtain ⟨y, hy⟩ := y
  have hB : RowKit.Below g w (sortWorldK encWr 10 w g 0 m dk os) := below_sortedK hg (Nat.le_refl _)
  have hO : (sortWorldK encWr 10 w g 0 m dk os).heap[fb]? = w.heap[fb]? := sorted_other (lt_blk hfb) hb
  generalize sortWorldK encWr 10 w g 0 m dk os = W at *
  have hE' : Env W := ⟨fun j hj => (hB.cell (p := ⟨0, j, none⟩) he).trans (hE.nat j hj)⟩
  exact (corder_up x y fb W hE' hx hy (hO.trans hfb)).mono fun e w' ⟨he, hu⟩ => ⟨he, by obtain ⟨p, hp⟩ := hu.grow; exact ⟨p.n, p.os, hp⟩⟩
theorem lift_wr {l : List Wr} (h : ∀ x ∈ l, durB x.start = true) : ∃ L : List WrR, L.map Subtype.val = l := by
  induction l with
  | nil => exact ⟨[], rfl⟩
  | cons d l ih =>
    obtain ⟨L, e⟩ := ih fun x hx => h x (by simp [hx])
    exact ⟨⟨d, h d (by simp)⟩ :: L, by simp [e]⟩
theorem encWr_map (L : List WrR) : L.map encWr = (L.map Subtype.val).map Wr.cells := by simp [encWr, Function.comp_def]
/-- A block of cells that holds rows is a row of the call's own. -/
theorem OwnR.ofCells {w : World} {B g cap sz : Nat} {E : TypeId} {cur : Array Value} {rows : List (List Value)} (hB : B ≤ g) (hc : w.heap[g]? = some (.cells cur E (0, 0))) (hle : rows.length ≤ cap) (hm : cap ≤ maxLen) (hs : cur.size = cap * sz) (hw : ∀ r ∈ rows, r.length = sz) (h : SlAt w (some ⟨g, 0, none⟩) sz rows) : OwnR w B E sz (.slice (some ⟨g, 0, none⟩) rows.length cap) rows := by
  have hfl := flat_len rows sz hw
  refine ⟨hw, hfl, .inr ⟨g, cap, cur, rfl, hB, hc, hle, hm, hs, ?_⟩⟩
  apply List.ext_getElem?
  intro k
  rw [List.getElem?_take]
  by_cases hk : k < rows.length * sz
  · rw [if_pos hk]
    have hk2 : k < rows.flatten.length := by omega
    have h1 := h.flat k rows.flatten[k] (by simp [hk2])
    have hadd : (⟨g, 0, none⟩ : Addr).add k = ⟨g, k, none⟩ := by unfold Addr.add; split <;> simp_all
    rw [hadd, box_cells hc] at h1
    rw [Array.getElem?_toList, h1]
    simp [hk2]
  · rw [if_neg hk, List.getElem?_eq_none (by omega)]
theorem sorted_blk {α : Type} [Inhabited α] {enc : α → List Value} {k g n : Nat} {w : World} {cur : Array Value} {E : TypeId} {fr : Nat × Nat} {d : Array α} {os : Array Obj} (hc : w.heap[g]? = some (.cells cur E fr)) :
    ∃ cur', (sortWorldK enc k w g 0 n d os).heap[g]? = some (.cells cur' E fr) ∧ cur'.size = cur.size := by
  have hlt := lt_blk hc
  refine ⟨putCells id 0 (flatK enc k d) cur, ?_, by simp [putCells]⟩
  unfold sortWorldK putRowK putRow Go.Sort.grow mapBlock Sort.ahead
  simp only
  rw [Array.getElem?_append_left (by simp; exact hlt), Array.getElem?_modify, if_pos rfl, hc]
  rfl
/-- What the sort of written notes says: the row stays in its place. -/
theorem sortW_any (B : Nat) (a : Option Addr) (cap0 : Nat) (l : List Wr) (fb : Nat) (w : World) (h0 : l ≠ []) (hl : l.length ≤ 100000) (hn : (l.map Wr.id).Nodup) (hid : ∀ x ∈ l, durB x.start = true) (o : OwnR w B 68 10 (.slice a l.length cap0) (l.map Wr.cells)) (hB : B ≤ w.heap.size) (hE : Env w) (hfb : w.heap[fb]? = some (.cells #[.func (.func 104) #[] #[]] 146 (0, 0))) (he : 0 < B) :
    Calls Tryz.prog 105 #[.slice a l.length cap0, .func (.func 106) #[] #[.pointer (some ⟨fb, 0, none⟩)]] w fun e w' => e = .returned (.tuple #[]) ∧ OwnR w' B 68 10 (.slice a (sortW l).length cap0) ((sortW l).map Wr.cells) ∧ RowKit.Below B w w' := by
  obtain ⟨L, rfl⟩ := lift_wr hid
  obtain ⟨hwd, h1, h2⟩ := o
  have hs := OwnR.slAt ⟨hwd, h1, h2⟩
  rcases h2 with ⟨_, h2⟩ | ⟨g, cap, cur, ev, hg, hc, h3', h4, h5, h6⟩
  · exact absurd (List.length_eq_zero_iff.1 (by simpa using h2)) h0
  obtain ⟨a', cap', ev', hok, hs⟩ := hs
  simp only [List.length_map] at ev ev'
  cases ev'
  cases ev
  rw [← encWr_map] at hs
  haveI : Inhabited WrR := ⟨L.head (by rintro rfl; exact h0 rfl)⟩
  have hlt : g < w.heap.size := lt_blk hc
  have hne : fb ≠ g := fun e => by
    subst e
    rw [hfb] at hc
    cases hc
  have eg : ∀ args w, (callFunc 106 args).run Tryz.prog w = .ok (.enter 106 args) w := enters_of Tryz.func106 (by kernel_rfl) rfl
  have hcon := AnyQ.slices_SortFunc (P := Tryz.prog) Lay.sortW 10 (fun w => by kernel_rfl) (fun w => by kernel_rfl) encWr (fun _ => rfl) (fun x v hv => eltWr.one x.1 v hv) cfW swoW 106 #[.pointer (some ⟨fb, 0, none⟩)] g 0 cap0 L.toArray w eg (cmpWr g fb _ w hE hfb (by omega) hne (by omega)) (holds_ofK (by decide) hc hs) hlt (by simp at hl ⊢; omega)
  simp only [List.length_map, List.size_toArray] at hcon ⊢
  refine Calls.mono hcon ?_
  rintro e w' ⟨rfl, d', n, os, hp, hso, rfl⟩
  obtain ⟨hsz, _, hp⟩ := hp
  have hh := holdsK_sortWorldK_c encWr 10 w g 0 L.toArray d' n os (holds_ofK (by decide) hc hs) hlt hsz
  have hpm : (d'.toList.map Subtype.val).Perm (L.map Subtype.val) := by
    have e1 : d'.extract 0 L.length = d' := by simp at hsz; rw [← hsz]; simp
    have e2 : L.toArray.extract 0 L.length = L.toArray := by simp
    rw [e1, e2] at hp
    exact hp.map Subtype.val
  have hpw : (d'.toList.map Subtype.val).Pairwise fun a b => beforeW b a = false := by
    rw [List.pairwise_map, List.pairwise_iff_getElem]
    intro i j hi hj hij
    have h7 := hso i j (Nat.zero_le _) hij (by simp at hsz hj ⊢; omega)
    rw [lt_cfW] at h7
    simp only [Array.length_toList] at hi hj
    rw [getElem!_pos d' i hi, getElem!_pos d' j hj] at h7
    simpa using h7
  have hS := sortW_uniq hn hpm hpw
  have hlen : (d'.toList.map Subtype.val).length = L.length := by simpa using hsz
  have hsl := slat_ofK (enc := encWr) (sz := 10) (fun _ => rfl) (Nat.lt_of_lt_of_le hlt (size_sortedK _ _ _ _ _)) (by simpa using hh)
  obtain ⟨cur', hc', hcs⟩ := sorted_blk (enc := encWr) (k := 10) (n := n) (d := d') (os := os) hc
  rw [encWr_map] at hsl
  refine ⟨rfl, ?_, below_sortedK hB hg⟩
  rw [← hS]
  have := OwnR.ofCells (B := B) (cap := cap0) hg hc' (by rw [List.length_map, hlen]; simpa using h3') h4 (by rw [hcs]; exact h5) (fun r hr => by obtain ⟨x, _, rfl⟩ := List.mem_map.1 hr; rfl) hsl
  rwa [List.length_map] at this
end Go.Proofs.YtppjbnnnppffaaaGreatDoor


/- cue.written: walked. -/
namespace Go.Proofs.YtppjbnnnppffaaaGreatDoor
set_option linter.unusedSimpArgs false
set_option linter.unusedVariables false
open Go.RowKit Go.Sort Go.Shelf

/-- Written notes that are handed back, in a row of the call's own. -/
def RetWs (l : List Wr) (w : World) (e : Ending) (w' : World) : Prop := ∃ a cap, e = .returned (.slice a l.length cap) ∧ OwnR w' w.heap.size 68 10 (.slice a l.length cap) (l.map Wr.cells) ∧ Below w.heap.size w w'
set_option maxRecDepth 100000 in
set_option maxHeartbeats 8000000 in
theorem cwritten_any (rd : Pa) (b : Ba) (aL : Option Addr) (cL : Nat) (L : List No) (w : World) (h0 : L ≠ []) (hl : L.length ≤ 1000) (hd : ∀ n ∈ L, durB n.start = true) (hn : (L.map No.id).Nodup) (hL : NoAt w aL L) (hE : Env w) :
    Calls Tryz.prog 50 #[.agg #[.int .i64 rd.id, .int .i64 rd.section_, .int .i64 rd.of, .int .i64 rd.octave, .int .i64 rd.desks, .int .i64 rd.shift.x, .int .i64 rd.shift.y, .int .i64 rd.low.s, .int .i64 rd.low.a, .int .i64 rd.low.o, .int .i64 rd.high.s, .int .i64 rd.high.a, .int .i64 rd.high.o], .agg #[.int .i64 b.id, .int .i64 b.len.n, .int .i64 b.len.d, .int .i64 b.key], .slice aL L.length cL] w (RetWs (sortW (L.map (writtenW rd b))) w) := by
  obtain ⟨x1, x2, hb⟩ := box2 (w := w) (A := .cells #[.int .i64 rd.id, .int .i64 rd.section_, .int .i64 rd.of, .int .i64 rd.octave, .int .i64 rd.desks, .int .i64 rd.shift.x, .int .i64 rd.shift.y, .int .i64 rd.low.s, .int .i64 rd.low.a, .int .i64 rd.low.o, .int .i64 rd.high.s, .int .i64 rd.high.a, .int .i64 rd.high.o] 59) (B := .cells #[.int .i64 b.id, .int .i64 b.len.n, .int .i64 b.len.d, .int .i64 b.key] 82) (Below.refl _ _)
  have HX1 := Lib.hid x1; have HX2 := Lib.hid x2; have HB := Lib.hid hb; clear x1 x2 hb
  have HLa := Lib.hid (fun W (hb : Below w.heap.size w W) => show NoAt W aL L from SlAt.below hL hb)
  have HE := Lib.hid (fun W (hb : Below w.heap.size w W) => hE.below hb)
  have HNat := Lib.hid hE.lt
  have HSo := Lib.hid (fun (B : Nat) (a : Option Addr) (cap fb : Nat) (W : World) (o : OwnR W B 68 10 (.slice a L.length cap) ((L.map (writtenW rd b)).map Wr.cells)) (hB : B ≤ W.heap.size) (hE : Env W) (hfb : W.heap[fb]? = some (.cells #[.func (.func 104) #[] #[]] 146)) (he : 0 < B) =>
    show Calls Tryz.prog 105 #[.slice a L.length cap, .func (.func 106) #[] #[.pointer (some ⟨fb, 0, none⟩)]] W (fun e w' => e = .returned (.tuple #[]) ∧ OwnR w' B 68 10 (.slice a L.length cap) ((sortW (L.map (writtenW rd b))).map Wr.cells) ∧ RowKit.Below B W w') from by
      have hll : (L.map (writtenW rd b)).length = L.length := List.length_map _
      have := sortW_any B a cap (L.map (writtenW rd b)) fb W (by simpa using h0) (by omega) (by rw [List.map_map]; exact hn) (by intro x hx; obtain ⟨n, hn, rfl⟩ := List.mem_map.1 hx; exact hd n hn) (by rw [hll]; exact o) hB hE hfb he
      rw [sortW_len, hll] at this
      exact this)
  have HSl := Lib.hid (show (sortW (L.map (writtenW rd b))).length = L.length by rw [sortW_len, List.length_map])
  clear hE hL hd hn h0
  go_enter Tryz.func50, Tryz.ntmps50
  go_upto_region 1 with (fail)
  generalize (w.alloc (.cells #[.int .i64 rd.id, .int .i64 rd.section_, .int .i64 rd.of, .int .i64 rd.octave, .int .i64 rd.desks, .int .i64 rd.shift.x, .int .i64 rd.shift.y, .int .i64 rd.low.s, .int .i64 rd.low.a, .int .i64 rd.low.o, .int .i64 rd.high.s, .int .i64 rd.high.a, .int .i64 rd.high.o] 59)).alloc (.cells #[.int .i64 b.id, .int .i64 b.len.n, .int .i64 b.len.d, .int .i64 b.key] 82) = W at *
  have HB0 := Lib.hid HB.out
  have hlt1 := lt_blk HX1.out; have hlt2 := lt_blk HX2.out
  clear HB
  go_wp2
  go_loopw [7, 15] (fun s7 s15 wi => ∃ j : Nat, j ≤ L.length ∧ s15 = .int .i64 j ∧ OwnR wi W.heap.size 68 10 s7 (((L.take j).map (writtenW rd b)).map Wr.cells) ∧ Below W.heap.size W wi) (fun _ s15 _ => L.length - (intOf s15).toNat)
  case atStart => exact ⟨0, Nat.zero_le _, rfl, OwnR.nil _ _ _ _, Below.refl _ _⟩
  case round =>
    obtain ⟨j, hj, rfl, ho, hb⟩ := hrel
    have HO := Lib.hid ho; have HBe := Lib.hid hb
    clear ho hb
    have HB := Lib.hid (HB0.out.trans (HBe.out.mono HB0.out.size))
    by_cases hlt : j < L.length
    · obtain ⟨lb, loff, hqa, _, d0, d1, d2, d3, d4, d5, d6, d7, d8, d9, d10, d11⟩ := (HLa.out _ HB.out).get j hlt
      subst hqa
      have HTk := Lib.hid (show (L.take (j + 1)).map (writtenW rd b) = (L.take j).map (writtenW rd b) ++ [writtenW rd b L[j]] by rw [List.take_succ_eq_append_getElem hlt, List.map_append]; rfl)
      have hll : ((L.take j).map (writtenW rd b)).length = j := by rw [List.length_map, List.length_take]; omega
      generalize L[j] = n at *
      generalize (L.take j).map (writtenW rd b) = ws at *
      have HIW := Lib.hid (fun W hE => IWrite_any rd b.key n.pitch W hE)
      obtain ⟨pw, hpw⟩ : ∃ pw, pw = (writeR rd b.key n.pitch).1 := ⟨_, rfl⟩
      obtain ⟨wn, hwn⟩ : ∃ wn, wn = writtenW rd b n := ⟨_, rfl⟩
      have HWn := Lib.hid (show wn = ⟨n.id, n.voice, n.ossia, n.start, n.len, pw⟩ by rw [hwn, hpw]; rfl)
      rw [← hpw] at HIW
      rw [← hwn] at HTk
      clear hpw hwn
      generalize (writeR rd b.key n.pitch).2 = er at *
      have hc1 := box_cells (blk_keep HX1.out HBe.out); have hc2 := box_cells (blk_keep HX2.out HBe.out)
      go_upto_region 5 with (fail)
      have HXn := Lib.hid (heap_alloc_new wr (.cells #[.int .i64 n.id, .int .i64 n.part, .int .i64 n.bar, .int .i64 n.voice, .int .i64 n.ossia, .int .i64 n.start.n, .int .i64 n.start.d, .int .i64 n.len.n, .int .i64 n.len.d, .int .i64 n.pitch.s, .int .i64 n.pitch.a, .int .i64 n.pitch.o] 73))
      have hb := below_box (w := wr) (.cells #[.int .i64 n.id, .int .i64 n.part, .int .i64 n.bar, .int .i64 n.voice, .int .i64 n.ossia, .int .i64 n.start.n, .int .i64 n.start.d, .int .i64 n.len.n, .int .i64 n.len.d, .int .i64 n.pitch.s, .int .i64 n.pitch.a, .int .i64 n.pitch.o] 73)
      replace HO := Lib.hid (HO.out.below hb); replace HBe := Lib.hid (HBe.out.trans (hb.mono HBe.out.size)); replace HB := Lib.hid (HB.out.trans (hb.mono HB.out.size))
      clear hb d0 d1 d2 d3 d4 d5 d6 d7 d8 d9 d10 d11 hc1 hc2
      generalize wr.alloc (.cells #[.int .i64 n.id, .int .i64 n.part, .int .i64 n.bar, .int .i64 n.voice, .int .i64 n.ossia, .int .i64 n.start.n, .int .i64 n.start.d, .int .i64 n.len.n, .int .i64 n.len.d, .int .i64 n.pitch.s, .int .i64 n.pitch.a, .int .i64 n.pitch.o] 73) = W4 at *
      generalize wr.heap.size = nb at *
      have hc1 := box_cells (blk_keep HX1.out HBe.out); have hc2 := box_cells (blk_keep HX2.out HBe.out); have hcn := box_cells HXn.out
      go_upto_region 6 with (go_at_call 103; refine (HIW.out _ (HE.out _ HB.out)).mono ?_; rintro e w5 ⟨rfl, hb⟩; replace HO := Lib.hid (HO.out.below hb); replace HBe := Lib.hid (HBe.out.trans (hb.mono HBe.out.size)); replace HB := Lib.hid (HB.out.trans (hb.mono HB.out.size)); replace HXn := Lib.hid (blk_keep HXn.out hb); clear hb)
      clear hc1 hc2 hcn
      have HXp := Lib.hid (heap_alloc_new w5 (.cells #[.int .i64 pw.s, .int .i64 pw.a, .int .i64 pw.o] 57))
      have hb := below_box (w := w5) (.cells #[.int .i64 pw.s, .int .i64 pw.a, .int .i64 pw.o] 57)
      replace HO := Lib.hid (HO.out.below hb); replace HBe := Lib.hid (HBe.out.trans (hb.mono HBe.out.size)); replace HXn := Lib.hid (blk_keep HXn.out hb)
      clear hb HB
      generalize w5.alloc (.cells #[.int .i64 pw.s, .int .i64 pw.a, .int .i64 pw.o] 57) = W5 at *
      generalize w5.heap.size = pb at *
      have hcn := box_cells HXn.out; have hcp := box_cells HXp.out
      go_wp2_with (at_builtin; go_must (refine appE eltWr rfl (.tmp 28) (.tmp 41) rfl W.heap.size _ ws rfl (HO.out.below (below_box _)) _ _ _ [wn] rfl rfl (fun e => by cases e) (eltWr.new _ wn _ _ (by rw [HWn.out]; rfl)) (by simp; omega) (by have := HBe.out.size; simp; omega) ?_); intro v5 w6 ho5 hg5)
      have HB3 := Lib.hid (below_grown (HBe.out.alloc HBe.out.size _) (HO.out.below (below_box _)) (by have := HBe.out.size; simp; omega) hg5)
      exact ⟨⟨j + 1, by omega, by go_num, by rw [HTk.out]; exact ho5, HB3.out⟩, by simp [intOf]; omega⟩
    · obtain rfl : j = L.length := by omega
      rw [List.take_length] at HO
      obtain ⟨a9, c9, e9, _, _⟩ := HO.out.slAt
      rw [List.length_map, List.length_map] at e9
      subst e9
      go_upto_region 9 with (fail)
      have HXf := Lib.hid (heap_alloc_new wr (.cells #[.func (.func 104) #[] #[]] 146))
      have hb := below_box (w := wr) (.cells #[.func (.func 104) #[] #[]] 146)
      replace HO := Lib.hid (HO.out.below hb); replace HBe := Lib.hid (HBe.out.trans (hb.mono HBe.out.size)); replace HB := Lib.hid (HB.out.trans (hb.mono HB.out.size))
      clear hb
      generalize wr.alloc (.cells #[.func (.func 104) #[] #[]] 146) = W8 at *
      generalize wr.heap.size = fb at *
      have hnl : 0 < W.heap.size := by have := HNat.out; omega
      go_wp2_with (go_at_call 105; refine (HSo.out W.heap.size a9 c9 fb _ HO.out HBe.out.size (HE.out _ HB.out) HXf.out hnl).mono ?_; rintro e w9 ⟨rfl, ho9, hb9⟩; have HO9 := Lib.hid ho9; have HB9 := Lib.hid (HB.out.trans (hb9.mono HB0.out.size)); clear ho9 hb9)
      go_ret
      exact ⟨a9, c9, by rw [HSl.out]; rfl, by rw [HSl.out]; exact HO9.out.mono HB0.out.size, HB9.out⟩
end Go.Proofs.YtppjbnnnppffaaaGreatDoor
