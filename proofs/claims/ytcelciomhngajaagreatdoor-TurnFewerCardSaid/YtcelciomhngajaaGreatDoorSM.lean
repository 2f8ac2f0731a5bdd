/- Texts of this seat, laid together: ScVw2, ScVw3, ScVw5, ScPure12, ScVw4, ScVw6, ScR14g, ScVw7. -/
import Derived.Test.YtcelciomhngajaaGreatDoorSC
import Derived.Test.YtcelciomhngajaaGreatDoorSE
import Derived.Test.YtcelciomhngajaaGreatDoorSB
import Derived.Test.YtcelciomhngajaaGreatDoorSL
import Derived.Test.YtcelciomhngajaaGreatDoorSG
/- Package view: within, ticks, order: walked. -/
namespace Go.Proofs.YtcelciomhngajaaGreatDoor
set_option linter.unusedSimpArgs false
set_option linter.unusedVariables false
open Go.RowKit Go.Sort Go.Shelf

theorem vwithin_any (n lo hi : Int) (w : World) : Calls Tryz.prog 157 #[.int .i64 n, .int .i64 lo, .int .i64 hi] w fun e w' => e = .returned (.bool (inB n lo hi)) ∧ w = w' := by
  go_enter Tryz.func157, Tryz.ntmps157
  go_wp2
  all_goals (go_ret; exact ⟨by simp [inB, *] <;> omega, rfl⟩)
set_option maxHeartbeats 1000000 in
theorem vticks_any (n d : Int) (w : World) : Calls Tryz.prog 156 #[.agg #[.int .i64 n, .int .i64 d]] w fun e w' => e = .returned (.int .i64 (ticksI ⟨n, d⟩)) ∧ Below w.heap.size w w' := by
  have HD := Lib.hid (show durB ⟨n, d⟩ = (rtOk ⟨n, d⟩ && decide (0 ≤ n) && decide (1680 % d = 0)) from rfl)
  have HB0 := Lib.hid (fun h => ticks_nonneg (r := ⟨n, d⟩) h)
  cases hr : rtOk ⟨n, d⟩
  · have HF := Lib.hid (show durB ⟨n, d⟩ = false by rw [HD.out, hr]; rfl)
    have HG := Lib.hid (show ticksI ⟨n, d⟩ = -1 by simp [ticksI, HF.out])
    go_enter Tryz.func156, Tryz.ntmps156
    go_wp2_with (go_at_call 39; refine (RatValid_any _ _ _).mono ?_; rw [hr]; rintro e w2 ⟨rfl, hb⟩; have HB := Lib.hid (allocB hb); clear hb)
    go_ret
    exact ⟨ret_int HG.out.symm, HB.out⟩
  · obtain ⟨⟨q1, q2⟩, _⟩ := (rt_iff n d).1 hr
    have e0 : ¬ d = 0 := by omega
    have m1 := Int.emod_nonneg 1680 e0; have m2 := Int.emod_lt_of_pos 1680 (show 0 < d by omega)
    have e1 : Int.tmod 1680 d = 1680 % d := Int.tmod_eq_emod_of_nonneg (by decide)
    have e3 : Int.tdiv 1680 d = 1680 / d := Int.tdiv_eq_ediv_of_nonneg (by decide)
    have e4 : 0 ≤ 1680 / d := Int.ediv_nonneg (by decide) (by omega)
    have e5 : 1680 / d ≤ 1680 := Int.ediv_le_self _ (by decide)
    have HDef := Lib.hid (show durB ⟨n, d⟩ = true → ticksI ⟨n, d⟩ = n * (1680 / d) from fun h => by simp [ticksI, h])
    have e2 : IntKind.i64.wrap (1680 % d) = 1680 % d := IntWalk.i64_in _ (by omega)
    have e6 : IntKind.i64.wrap (1680 / d) = 1680 / d := IntWalk.i64_in _ (by omega)
    by_cases hg : 0 ≤ n ∧ 1680 % d = 0
    · obtain ⟨g1, g2⟩ := hg
      have HF := Lib.hid (show durB ⟨n, d⟩ = true by rw [HD.out, hr]; simp [g1, g2])
      have HG := Lib.hid (HDef.out HF.out)
      obtain ⟨b1, b2⟩ := HB0.out HF.out
      rw [HG.out] at b1 b2
      have e7 : IntKind.i64.wrap (n * (1680 / d)) = n * (1680 / d) := IntWalk.i64_in _ (by omega)
      rw [g2] at e1 e2
      go_enter Tryz.func156, Tryz.ntmps156
      go_wp2_with (go_at_call 39; refine (RatValid_any _ _ _).mono ?_; rw [hr]; rintro e w2 ⟨rfl, hb⟩; have x1 := box_below hb; have HB := Lib.hid (allocB hb); have hc := box_cells x1; clear hb x1)
      have q1 := cell_regrown (hc 0)
      go_quiet (fail)
      go_wp2
      go_ret
      exact ⟨ret_int HG.out.symm, below_drewN HB.out nq⟩
    · have HF := Lib.hid (show durB ⟨n, d⟩ = false by rw [HD.out, hr, ← Bool.not_eq_true]; simp; intro x y; exact hg ⟨x, y⟩)
      have HG := Lib.hid (show ticksI ⟨n, d⟩ = -1 by simp [ticksI, HF.out])
      have HN := Lib.hid hg; clear hg
      generalize 1680 % d = M at *
      by_cases hn : 0 ≤ n
      · have hM : ¬ M = 0 := fun e => HN.out ⟨hn, e⟩
        have hM2 : (M != 0) = true := by simpa using hM
        go_enter Tryz.func156, Tryz.ntmps156
        go_wp2_with (go_at_call 39; refine (RatValid_any _ _ _).mono ?_; rw [hr]; rintro e w2 ⟨rfl, hb⟩; have x1 := box_below hb; have HB := Lib.hid (allocB hb); have hc := box_cells x1; clear hb x1)
        go_ret
        exact ⟨ret_int HG.out.symm, HB.out⟩
      · go_enter Tryz.func156, Tryz.ntmps156
        go_wp2_with (go_at_call 39; refine (RatValid_any _ _ _).mono ?_; rw [hr]; rintro e w2 ⟨rfl, hb⟩; have x1 := box_below hb; have HB := Lib.hid (allocB hb); have hc := box_cells x1; clear hb x1)
        go_ret
        exact ⟨ret_int HG.out.symm, HB.out⟩
theorem ticksI_bd (r : Rt) : -1 ≤ ticksI r ∧ ticksI r ≤ 1680000000000 := by
  unfold ticksI
  split
  · rename_i h
    have := ticks_nonneg h
    rw [ticksI, if_pos h] at this; omega
  · omega
theorem vheight_any (x : Wr) (w : World) (hE : Env w) : Calls Tryz.prog 154 #[.agg #[.int .i64 x.id, .int .i64 x.voice, .int .i64 x.ossia, .int .i64 x.start.n, .int .i64 x.start.d, .int .i64 x.len.n, .int .i64 x.len.d, .int .i64 x.pitch.s, .int .i64 x.pitch.a, .int .i64 x.pitch.o]] w fun e w' => e = .returned (.int .i64 (numI x.pitch)) ∧ Below w.heap.size w w' := by
  have HN := Lib.hid (num_R x.pitch.s x.pitch.a x.pitch.o)
  have HE := Lib.hid hE; clear hE
  go_enter Tryz.func154, Tryz.ntmps154
  go_upto_region 1 with (fail)
  have HX1 := Lib.hid (heap_alloc_new w (.cells #[.int .i64 x.id, .int .i64 x.voice, .int .i64 x.ossia, .int .i64 x.start.n, .int .i64 x.start.d, .int .i64 x.len.n, .int .i64 x.len.d, .int .i64 x.pitch.s, .int .i64 x.pitch.a, .int .i64 x.pitch.o] 64))
  have HB := Lib.hid ((Below.refl w.heap.size w).alloc (Nat.le_refl _) (.cells #[.int .i64 x.id, .int .i64 x.voice, .int .i64 x.ossia, .int .i64 x.start.n, .int .i64 x.start.d, .int .i64 x.len.n, .int .i64 x.len.d, .int .i64 x.pitch.s, .int .i64 x.pitch.a, .int .i64 x.pitch.o] 64))
  generalize w.alloc (.cells #[.int .i64 x.id, .int .i64 x.voice, .int .i64 x.ossia, .int .i64 x.start.n, .int .i64 x.start.d, .int .i64 x.len.n, .int .i64 x.len.d, .int .i64 x.pitch.s, .int .i64 x.pitch.a, .int .i64 x.pitch.o] 64) = W at *
  have hc1 := box_cells HX1.out
  go_wp2_with (go_at_call 144; refine (Number_any _ _ _ _ (HE.out.below HB.out)).mono ?_; rintro e w2 ⟨rfl, hb⟩; (try replace hb := drewB hb); replace HB := Lib.hid (HB.out.trans (hb.mono HB.out.size)); (try (replace HX1 := Lib.hid (blk_keep HX1.out hb); replace hc1 := box_cells HX1.out; replace hf1 := box_free HX1.out; replace hz1 := lt_blk HX1.out)); clear hb)
  go_ret
  exact ⟨ret_int HN.out, HB.out⟩
/-- What cmp.Compare says. -/
def cmpI (x y : Int) : Int := if x < y then -1 else if y < x then 1 else 0
theorem nan_any (x : Int) (w : World) : Calls Tryz.prog 177 #[.int .i64 x] w fun e w' => e = .returned (.bool false) ∧ w = w' := by
  go_enter Tryz.func177, Tryz.ntmps177
  go_wp2
  go_ret
  exact ⟨by simp, rfl⟩
theorem cmpI_any (x y : Int) (w : World) : Calls Tryz.prog 155 #[.int .i64 x, .int .i64 y] w fun e w' => e = .returned (.int .i64 (cmpI x y)) ∧ w = w' := by
  have HC := Lib.hid (show cmpI x y = if x < y then -1 else if y < x then 1 else 0 from rfl)
  by_cases h1 : x < y
  · rw [if_pos h1] at HC
    go_enter Tryz.func155, Tryz.ntmps155
    go_wp2_with (go_at_call 177; refine (nan_any _ _).mono ?_; rintro e w2 ⟨rfl, rfl⟩)
    go_ret
    exact ⟨ret_int HC.out.symm, rfl⟩
  · rw [if_neg h1] at HC
    by_cases h2 : y < x
    · rw [if_pos h2] at HC
      go_enter Tryz.func155, Tryz.ntmps155
      go_wp2_with (go_at_call 177; refine (nan_any _ _).mono ?_; rintro e w2 ⟨rfl, rfl⟩)
      go_ret
      exact ⟨ret_int HC.out.symm, rfl⟩
    · rw [if_neg h2] at HC
      go_enter Tryz.func155, Tryz.ntmps155
      go_wp2_with (go_at_call 177; refine (nan_any _ _).mono ?_; rintro e w2 ⟨rfl, rfl⟩)
      go_ret
      exact ⟨ret_int HC.out.symm, rfl⟩
/-- The comparisons, one by one: the first one that is not 0 tells the order. -/
def cmpL (xs ys : List Int) : List Int := List.zipWith cmpI xs ys
theorem cmp_neg {xs ys : List Int} (hl : xs.length = ys.length) : decide (orL (cmpL xs ys) < 0) = lexLt xs ys := by
  induction xs generalizing ys with
  | nil =>
    cases ys with
    | nil => rfl
    | cons y ys => simp at hl
  | cons x xs ih =>
    cases ys with
    | nil => simp at hl
    | cons y ys =>
      simp only [cmpL, List.zipWith_cons_cons, orL, lexLt]
      by_cases e : x = y
      · subst e
        rw [if_pos (by simp [cmpI]), if_pos rfl]
        exact ih (by simpa using hl)
      · have hne : cmpI x y ≠ 0 := by unfold cmpI; split <;> (try split) <;> omega
        rw [if_neg hne, if_neg e, decide_eq_decide]
        unfold cmpI; split <;> (try split) <;> omega
open Go.RowKit Go.Sort Go.Shelf

set_option maxRecDepth 100000 in
set_option maxHeartbeats 8000000 in
theorem vorder_any (x y : Wr) (w : World) (hE : Env w) : Calls Tryz.prog 110 #[.agg #[.int .i64 x.id, .int .i64 x.voice, .int .i64 x.ossia, .int .i64 x.start.n, .int .i64 x.start.d, .int .i64 x.len.n, .int .i64 x.len.d, .int .i64 x.pitch.s, .int .i64 x.pitch.a, .int .i64 x.pitch.o], .agg #[.int .i64 y.id, .int .i64 y.voice, .int .i64 y.ossia, .int .i64 y.start.n, .int .i64 y.start.d, .int .i64 y.len.n, .int .i64 y.len.d, .int .i64 y.pitch.s, .int .i64 y.pitch.a, .int .i64 y.pitch.o]] w fun e w' => e = .returned (.int .i64 (orL (cmpL (keysW x) (keysW y)))) ∧ Below w.heap.size w w' := by
  obtain ⟨x1, x2, hb⟩ := box2 (w := w) (A := .cells #[.int .i64 x.id, .int .i64 x.voice, .int .i64 x.ossia, .int .i64 x.start.n, .int .i64 x.start.d, .int .i64 x.len.n, .int .i64 x.len.d, .int .i64 x.pitch.s, .int .i64 x.pitch.a, .int .i64 x.pitch.o] 64) (B := .cells #[.int .i64 y.id, .int .i64 y.voice, .int .i64 y.ossia, .int .i64 y.start.n, .int .i64 y.start.d, .int .i64 y.len.n, .int .i64 y.len.d, .int .i64 y.pitch.s, .int .i64 y.pitch.a, .int .i64 y.pitch.o] 64) (Below.refl _ _)
  have HX1 := Lib.hid x1; have HX2 := Lib.hid x2; have HB := Lib.hid hb; clear x1 x2 hb
  have HE := Lib.hid hE; clear hE
  have HR := Lib.hid (show orL (cmpL (keysW x) (keysW y)) = orL [cmpI (ticksI x.start) (ticksI y.start), cmpI x.voice y.voice, cmpI (numI x.pitch) (numI y.pitch), cmpI x.id y.id] from rfl)
  generalize orL (cmpL (keysW x) (keysW y)) = R at *
  have T1 := Lib.hid (fun W => vticks_any x.start.n x.start.d W); have T2 := Lib.hid (fun W => vticks_any y.start.n y.start.d W)
  have H1 := Lib.hid (fun W hE => vheight_any x W hE); have H2 := Lib.hid (fun W hE => vheight_any y W hE)
  generalize hu1 : ticksI x.start = t1 at *; generalize hu2 : ticksI y.start = t2 at *
  generalize numI x.pitch = n1 at *; generalize numI y.pitch = n2 at *
  clear hu1 hu2
  have HC := Lib.hid (fun a b W => (cmpI_any a b W).mono fun e w' h => (⟨h.1, h.2 ▸ Below.refl _ _⟩ : _ ∧ Below W.heap.size W w'))
  go_enter Tryz.func110, Tryz.ntmps110
  go_upto_region 2 with (fail)
  generalize (w.alloc (.cells #[.int .i64 x.id, .int .i64 x.voice, .int .i64 x.ossia, .int .i64 x.start.n, .int .i64 x.start.d, .int .i64 x.len.n, .int .i64 x.len.d, .int .i64 x.pitch.s, .int .i64 x.pitch.a, .int .i64 x.pitch.o] 64)).alloc (.cells #[.int .i64 y.id, .int .i64 y.voice, .int .i64 y.ossia, .int .i64 y.start.n, .int .i64 y.start.d, .int .i64 y.len.n, .int .i64 y.len.d, .int .i64 y.pitch.s, .int .i64 y.pitch.a, .int .i64 y.pitch.o] 64) = W at *
  have hc1 := box_cells HX1.out; have hc2 := box_cells HX2.out
  have g0 := cell_regrown (hc1 0); have g1 := cell_regrown (hc1 1); have g2 := cell_regrown (hc1 2); have g3 := cell_regrown (hc1 3); have g4 := cell_regrown (hc1 4); have g5 := cell_regrown (hc1 5); have g6 := cell_regrown (hc1 6); have g7 := cell_regrown (hc1 7); have g8 := cell_regrown (hc1 8); have g9 := cell_regrown (hc1 9)
  have k0 := cell_regrown (hc2 0); have k1 := cell_regrown (hc2 1); have k2 := cell_regrown (hc2 2); have k3 := cell_regrown (hc2 3); have k4 := cell_regrown (hc2 4); have k5 := cell_regrown (hc2 5); have k6 := cell_regrown (hc2 6); have k7 := cell_regrown (hc2 7); have k8 := cell_regrown (hc2 8); have k9 := cell_regrown (hc2 9)
  refine wp_tailB 24 (by kernel_rfl) (by kernel_rfl) ?_
  simp only [List.take_succ_cons, List.take_zero, List.drop_succ_cons, List.drop_zero]
  (repeat (go_big_quiet_step (fail)))
  go_big_quiet_step ((go_at_call 156; refine Calls.regrown_of (T1.out _)))
  (repeat (go_big_quiet_step (fail)))
  go_big_quiet_step ((go_at_call 156; refine Calls.regrown_of (T2.out _)))
  (repeat (go_big_quiet_step (fail)))
  go_big_quiet_step ((go_at_call 155; refine Calls.regrown_of (HC.out _ _ _)))
  (repeat (go_big_quiet_step (fail)))
  go_big_quiet_step ((go_at_call 155; refine Calls.regrown_of (HC.out _ _ _)))
  (repeat (go_big_quiet_step (fail)))
  go_big_quiet_step ((go_at_call 154; refine Calls.regrown_of (H1.out _ (HE.out.below (HB.out.trans ((below_regrown _ _ _).mono HB.out.size))))))
  (repeat (go_big_quiet_step (fail)))
  go_big_quiet_step ((go_at_call 154; refine Calls.regrown_of (H2.out _ (HE.out.below (HB.out.trans ((below_regrown _ _ _).mono HB.out.size))))))
  (repeat (go_big_quiet_step (fail)))
  go_big_quiet_step ((go_at_call 155; refine Calls.regrown_of (HC.out _ _ _)))
  (repeat (go_big_quiet_step (fail)))
  go_big_quiet_step ((go_at_call 155; refine Calls.regrown_of (HC.out _ _ _)))
  (repeat (go_big_quiet_step (fail)))
  refine wpQuiet_nil ?_
  intro w6 hb6
  replace HB := Lib.hid (HB.out.trans (hb6.mono HB.out.size))
  clear hb6 g0 g1 g2 g3 g4 g5 g6 g7 g8 g9 k0 k1 k2 k3 k4 k5 k6 k7 k8 k9 hc1 hc2 HX1 HX2
  generalize cmpI t1 t2 = a1 at *; generalize cmpI x.voice y.voice = a2 at *; generalize cmpI n1 n2 = a3 at *; generalize cmpI x.id y.id = a4 at *
  have HO := Lib.hid (fun (b : Nat) (W' : World) (hx : W'.heap[b]? = some (.cells #[.int .i64 a1, .int .i64 a2, .int .i64 a3, .int .i64 a4] 3 (0, 0))) => (HR.out ▸ OrI_any (some ⟨b, 0, none⟩) 4 [a1, a2, a3, a4] W' (by simp) (inAt_row hx (by rfl)) : Calls Tryz.prog 149 #[.slice (some ⟨b, 0, none⟩) 4 4] W' fun e w' => e = .returned (.int .i64 R) ∧ W' = w'))
  go_wp2_with (fail)
  refine (HO.out _ _ (heap_alloc_new _ _)).mono ?_
  rintro e w9 ⟨rfl, rfl⟩
  go_wp2
  go_ret
  exact ⟨rfl, HB.out.alloc HB.out.size _⟩
open Go.RowKit Go.Sort Go.Shelf

/-- Does none of them come before the one ahead of it? -/
def nsW (l : List Wr) : Bool := (List.range (l.length - 1)).all fun i => !beforeW (l.getD (i + 1) default) (l.getD i default)
theorem nsW_bad {l : List Wr} {j : Nat} (hj : j + 1 < l.length) (h : beforeW l[j + 1] l[j] = true) : nsW l = false := by
  unfold nsW
  rw [← Bool.not_eq_true]; intro hh
  have := List.all_eq_true.1 hh j (List.mem_range.2 (by omega))
  have e1 : l.getD j default = l[j] := by simp [List.getD, show j < l.length by omega]
  have e2 : l.getD (j + 1) default = l[j + 1] := by simp [List.getD, hj]
  rw [e1, e2, h] at this; cases this
theorem nsW_done {l : List Wr} (h : ∀ j (hj : j + 1 < l.length), beforeW l[j + 1] l[j] = false) : nsW l = true := by
  unfold nsW
  rw [List.all_eq_true]
  intro j hj
  have hj := List.mem_range.1 hj
  have e1 : l.getD j default = l[j] := by simp [List.getD, show j < l.length by omega]
  have e2 : l.getD (j + 1) default = l[j + 1] := by simp [List.getD, show j + 1 < l.length by omega]
  rw [e1, e2, h j (by omega)]; rfl
set_option maxRecDepth 100000 in
set_option maxHeartbeats 4000000 in
theorem IsSortedW_any (a : Option Addr) (cap : Nat) (l : List Wr) (w : World) (hl : l.length ≤ 100000) (hm : WrAt w a l) (hE : Env w) :
    Calls Tryz.prog 109 #[.slice a l.length cap, .func (.func 110) #[] #[]] w fun e w' => e = .returned (.bool (nsW l)) ∧ Below w.heap.size w w' := by
  have HM := Lib.hid hm; have HE := Lib.hid hE; clear hm hE
  have HBad := Lib.hid (fun j hj h => nsW_bad (l := l) (j := j) hj h)
  have HDone := Lib.hid (fun h => nsW_done (l := l) h)
  generalize nsW l = R at *
  go_enter Tryz.func109, Tryz.ntmps109
  go_wp2
  go_loopw [5] (fun s5 wr => ∃ i : Int, s5 = .int .i64 i ∧ -1 ≤ i ∧ i ≤ (l.length : Int) - 1 ∧ (∀ j (hj : j + 1 < l.length), i ≤ (j : Int) → beforeW l[j + 1] l[j] = false) ∧ Below w.heap.size w wr) (fun s5 _ => (intOf s5).toNat)
  case atStart => exact ⟨_, rfl, by omega, by omega, fun j hj h => by omega, Below.refl _ _⟩
  case round =>
    obtain ⟨i, rfl, h1, h2, hall, hb⟩ := hrel
    have HA := Lib.hid hall; have HB := Lib.hid hb; clear hall hb
    by_cases hpos : 0 < i
    · obtain ⟨j, hj⟩ : ∃ j : Nat, i = (j : Int) + 1 := ⟨(i - 1).toNat, by omega⟩
      subst hj
      have hjl : j + 1 < l.length := by omega
      obtain ⟨b, off, hqa, _, c0, c1, c2, c3, c4, c5, c6, c7, c8, c9⟩ := HM.out.get j (by omega)
      obtain ⟨b', off', hqb, _, d0, d1, d2, d3, d4, d5, d6, d7, d8, d9⟩ := HM.out.get (j + 1) hjl
      subst hqa
      cases hqb
      have HO := Lib.hid (fun W hE => vorder_any l[j + 1] l[j] W hE)
      have HN := Lib.hid (show decide (orL (cmpL (keysW l[j + 1]) (keysW l[j])) < 0) = beforeW l[j + 1] l[j] from cmp_neg rfl)
      have HF := Lib.hid (HBad.out j hjl)
      have HS := Lib.hid (fun h : beforeW l[j + 1] l[j] = false => (fun k (hk : k + 1 < l.length) (hjk : (j : Int) ≤ k) => if e : k = j then by subst e; exact h else HA.out k hk (by omega) : ∀ k (hk : k + 1 < l.length), (j : Int) ≤ k → beforeW l[k + 1] l[k] = false))
      generalize l[j + 1] = y at *; generalize l[j] = x at *
      generalize orL (cmpL (keysW y) (keysW x)) = C at *
      generalize beforeW y x = Q at *
      replace c0 := cell_regrown (keepE c0 HB.out); replace c1 := cell_regrown (keepE c1 HB.out); replace c2 := cell_regrown (keepE c2 HB.out); replace c3 := cell_regrown (keepE c3 HB.out); replace c4 := cell_regrown (keepE c4 HB.out); replace c5 := cell_regrown (keepE c5 HB.out); replace c6 := cell_regrown (keepE c6 HB.out); replace c7 := cell_regrown (keepE c7 HB.out); replace c8 := cell_regrown (keepE c8 HB.out); replace c9 := cell_regrown (keepE c9 HB.out)
      replace d0 := cell_regrown (keepE d0 HB.out); replace d1 := cell_regrown (keepE d1 HB.out); replace d2 := cell_regrown (keepE d2 HB.out); replace d3 := cell_regrown (keepE d3 HB.out); replace d4 := cell_regrown (keepE d4 HB.out); replace d5 := cell_regrown (keepE d5 HB.out); replace d6 := cell_regrown (keepE d6 HB.out); replace d7 := cell_regrown (keepE d7 HB.out); replace d8 := cell_regrown (keepE d8 HB.out); replace d9 := cell_regrown (keepE d9 HB.out)
      have hw1 : IntKind.i64.wrap ((j : Int) + 1 - 1) = (j : Int) := by rw [IntWalk.i64_in _ (by omega)]; omega
      go_wp2
      refine wp_quietB (by kernel_rfl) (by kernel_rfl) ?_
      (repeat (go_big_quiet_step (fail)))
      go_big_quiet_step ((go_at_call 110; refine Calls.regrown_of (HO.out _ (HE.out.below (HB.out.trans ((below_regrown _ _ _).mono HB.out.size))))))
      (repeat (go_big_quiet_step (fail)))
      refine wpQuiet_nil ?_
      intro w9 hb9
      replace HB := Lib.hid (HB.out.trans (hb9.mono HB.out.size))
      clear hb9 c0 c1 c2 c3 c4 c5 c6 c7 c8 c9 d0 d1 d2 d3 d4 d5 d6 d7 d8 d9
      have hn := HN.out
      cases Q
      · have HS2 := Lib.hid (HS.out rfl)
        have hc0 : ¬ C < 0 := of_decide_eq_false hn
        clear hn
        go_wp2
        exact ⟨⟨(j : Int), by simp, by omega, by omega, HS2.out, HB.out⟩, by simp [intOf]⟩
      · have HF2 := Lib.hid (HF.out rfl)
        have hc0 : C < 0 := of_decide_eq_true hn
        clear hn
        go_wp2
        go_ret
        exact ⟨ret_bool HF2.out.symm, HB.out⟩
    · have HD := Lib.hid (HDone.out fun j hj => HA.out j hj (by omega))
      go_wp2
      go_ret
      exact ⟨ret_bool HD.out.symm, HB.out⟩
open Go.RowKit Go.Sort

/-- How many different numbers a list has. -/
def cntI : List Int → Nat
  | [] => 0
  | x :: l => if l.contains x then cntI l else cntI l + 1
theorem cntI_le (l : List Int) : cntI l ≤ l.length := by
  induction l with
  | nil => exact Nat.le_refl _
  | cons p l ih => unfold cntI; split <;> simp <;> omega
theorem cntI_nodup (l : List Int) : cntI l = l.length ↔ l.Nodup := by
  induction l with
  | nil => simp [cntI]
  | cons p l ih =>
    unfold cntI
    have := cntI_le l
    by_cases h : p ∈ l
    · rw [if_pos (by simpa using h)]
      constructor
      · intro e; simp at e; omega
      · intro hn
        rw [List.nodup_cons] at hn
        exact absurd h hn.1
    · rw [if_neg (by simpa using h), List.nodup_cons, ← ih]
      constructor
      · intro e; exact ⟨h, by simpa using e⟩
      · intro e; simp [e.2]
theorem cntI_snoc (l : List Int) (x : Int) : cntI (l ++ [x]) = if l.contains x then cntI l else cntI l + 1 := by
  induction l with
  | nil => simp [cntI]
  | cons q l ih =>
    rw [List.cons_append, cntI, cntI, ih]
    by_cases e : q = x
    · subst e
      have h1 : (l ++ [q]).contains q = true := by simp
      have h2 : (q :: l).contains q = true := by simp
      rw [h1, h2]
      try rfl
    · have e1 : (l ++ [x]).contains q = l.contains q := by
        rw [Bool.eq_iff_iff]; simp [e]
      have e2 : (q :: l).contains x = l.contains x := by
        rw [Bool.eq_iff_iff]; simp [show ¬ x = q from fun h => e h.symm]
      rw [e1, e2]
      cases l.contains q <;> cases l.contains x <;> simp
/-- Block r is a set of these numbers. -/
def SetAt (W : World) (r : Nat) (l : List Int) : Prop := ∃ m : List (Int × Value), MapAt W encJ r m ∧ (∀ x, (mget m x).isSome = l.contains x) ∧ m.length = cntI l
theorem SetAt.below {W W' : World} {r : Nat} {l : List Int} (h : SetAt W r l) (hb : Below W.heap.size W W') : SetAt W' r l := by
  obtain ⟨m, h1, h2⟩ := h; exact ⟨m, h1.below hb, h2⟩
theorem SetAt.lt {W : World} {r : Nat} {l : List Int} (h : SetAt W r l) : r < W.heap.size := by obtain ⟨m, h1, _⟩ := h; exact h1.lt
theorem set_put {m : List (Int × Value)} {l : List Int} {x : Int} (v : Value) (h : ∀ x, (mget m x).isSome = l.contains x) (hn : m.length = cntI l) : (∀ y, (mget (mput m x v) y).isSome = (l ++ [x]).contains y) ∧ (mput m x v).length = cntI (l ++ [x]) := by
  refine ⟨fun y => ?_, ?_⟩
  · rw [mget_mput]
    by_cases e : y = x
    · subst e; simp
    · rw [if_neg e, h]; rw [Bool.eq_iff_iff]; simp [e]
  · rw [mput_len_eq, cntI_snoc, h, hn]
/-- No written note comes before the one ahead of it; if no ID is there twice, this is their order. -/
theorem nsW_sorted {l : List Wr} (hn : (l.map Wr.id).Nodup) : nsW l = sortedW l := by
  unfold nsW sortedW
  rw [Bool.eq_iff_iff, List.all_eq_true, List.all_eq_true]
  have key : ∀ j, j ∈ List.range (l.length - 1) → ((!beforeW (l.getD (j + 1) default) (l.getD j default)) = true ↔ beforeW (l.getD j default) (l.getD (j + 1) default) = true) := by
    intro j hj
    have hj := List.mem_range.1 hj
    have h1 : j < l.length := by omega
    have h2 : j + 1 < l.length := by omega
    have e1 : l.getD j default = l[j] := by simp [List.getD, h1]
    have e2 : l.getD (j + 1) default = l[j + 1] := by simp [List.getD, h2]
    rw [e1, e2, Bool.not_eq_true']
    constructor
    · intro h
      have hne : keysW l[j] ≠ keysW l[j + 1] := by
        intro e
        have : l[j].id = l[j + 1].id := by
          have := congrArg (fun k : List Int => k.getD 3 0) e
          exact this
        have h3 := List.pairwise_iff_getElem.1 hn j (j + 1) (by simpa using h1) (by simpa using h2) (by omega)
        simp only [List.getElem_map] at h3
        exact h3 this
      have hlk : (keysW l[j]).length = (keysW l[j + 1]).length := by unfold keysW; rfl
      rcases lex_total hlk hne with h4 | h4
      · exact h4
      · unfold beforeW at h; rw [h4] at h; cases h
    · intro h; exact lex_asymm h
  exact ⟨fun h j hj => (key j hj).1 (h j hj), fun h j hj => (key j hj).2 (h j hj)⟩
/-- What view.Valid asks of a measure. -/
def measureN (p : Pa) (b : Ba) (m : MeP) : Bool := decide (m.bar = b.id) && decide (m.key = (keyR p b.key).1) && decide (m.len = b.len) && nsW m.notes && m.notes.all (fun w => formW w m.len)
theorem measureN_eq {p : Pa} {b : Ba} {m : MeP} (hn : (m.notes.map Wr.id).Nodup) : measureN p b m = measureB p b m := by
  unfold measureN measureB
  rw [nsW_sorted hn]
  cases sortedW m.notes <;> cases m.notes.all (fun w => formW w m.len) <;> simp
theorem allW_nodup {l : List MeP} (h : ((allW l).map Wr.id).Nodup) (i : Nat) (hi : i < l.length) : (l[i].notes.map Wr.id).Nodup := by
  rw [allW_split hi, List.map_append, List.map_append] at h
  exact (List.nodup_append.1 (List.nodup_append.1 h).2.1).1
theorem validN_bad {s : Sc} {part : Int} {p : Pa} {l : List MeP} (h : validS s = true) (hl : l.length = s.bars.length) (hp : partAt s.parts part = some p) (i : Nat) (hi : i < l.length) (hb : measureN p (s.bars[i]'(by omega)) l[i] = false) : validV s part l = false := by
  by_cases hd : ((allW l).map Wr.id).Nodup
  · exact validV_bad h hl hp i hi (by rw [← measureN_eq (allW_nodup hd i hi)]; exact hb)
  · exact validV_dup h hl hp hd
theorem validN_done {s : Sc} {part : Int} {p : Pa} {l : List MeP} (h : validS s = true) (hl : l.length = s.bars.length) (hp : partAt s.parts part = some p) (hm : ∀ i (hi : i < l.length), measureN p (s.bars[i]'(by omega)) l[i] = true) : validV s part l = (decide ((allW l).length ≤ 20000) && decide (cntI ((allW l).map Wr.id) = (allW l).length)) := by
  have hc := cntI_nodup ((allW l).map Wr.id)
  rw [List.length_map] at hc
  by_cases hd : ((allW l).map Wr.id).Nodup
  · rw [decide_eq_true (hc.2 hd)]
    by_cases hn : (allW l).length ≤ 20000
    · rw [decide_eq_true hn, validV_done h hl hp (fun i hi => by rw [← measureN_eq (allW_nodup hd i hi)]; exact hm i hi) hd hn]; rfl
    · rw [decide_eq_false hn, validV_many h hl hp (by omega)]; rfl
  · rw [decide_eq_false (fun e => hd (hc.1 e)), validV_dup h hl hp hd, Bool.and_false]
open Go.RowKit Go.Sort Go.Shelf

set_option maxRecDepth 100000 in
set_option maxHeartbeats 8000000 in
theorem vformed_any (x : Wr) (l : Rt) (w : World) :
    Calls Tryz.prog 111 #[.agg #[.int .i64 x.id, .int .i64 x.voice, .int .i64 x.ossia, .int .i64 x.start.n, .int .i64 x.start.d, .int .i64 x.len.n, .int .i64 x.len.d, .int .i64 x.pitch.s, .int .i64 x.pitch.a, .int .i64 x.pitch.o], .agg #[.int .i64 l.n, .int .i64 l.d]] w fun e w' => e = .returned (.bool (formW x l)) ∧ Below w.heap.size w w' := by
  obtain ⟨x1, x2, hb⟩ := box2 (w := w) (A := .cells #[.int .i64 x.id, .int .i64 x.voice, .int .i64 x.ossia, .int .i64 x.start.n, .int .i64 x.start.d, .int .i64 x.len.n, .int .i64 x.len.d, .int .i64 x.pitch.s, .int .i64 x.pitch.a, .int .i64 x.pitch.o] 64) (B := .cells #[.int .i64 l.n, .int .i64 l.d] 32) (Below.refl _ _)
  have HX1 := Lib.hid x1; have HX2 := Lib.hid x2; have HB := Lib.hid hb; clear x1 x2 hb
  have HR := Lib.hid (show formW x l = (inB x.id 1 1000000 && inB x.voice 0 9 && inB x.ossia 0 20 && vldP x.pitch && decide (0 ≤ ticksI x.start) && decide (0 < ticksI x.len) && decide (ticksI x.start + ticksI x.len ≤ ticksI l)) from rfl)
  obtain ⟨s1, s2⟩ := ticksI_bd x.start; obtain ⟨l1, l2⟩ := ticksI_bd x.len; obtain ⟨m1, m2⟩ := ticksI_bd l
  have T1 := Lib.hid (fun W => vticks_any x.start.n x.start.d W); have T2 := Lib.hid (fun W => vticks_any x.len.n x.len.d W)
  generalize formW x l = R at *
  obtain ⟨bn, bd⟩ := l
  obtain ⟨nid, nvoice, nossia, ⟨sn, sd⟩, ⟨ln, ld⟩, ⟨ps, pa, po⟩⟩ := x
  simp only at *
  generalize ticksI ⟨sn, sd⟩ = S at *
  generalize ticksI ⟨ln, ld⟩ = L at *
  generalize hE3 : ticksI ⟨bn, bd⟩ = M at *; have E3 := Lib.hid hE3; clear hE3
  generalize hE7 : vldP ⟨ps, pa, po⟩ = P at *; have E7 := Lib.hid (show vldB ps pa po = P from hE7); clear hE7
  generalize hE8 : inB nid 1 1000000 = b1 at *; have E8 := Lib.hid hE8; clear hE8
  generalize hE10 : inB nvoice 0 9 = b3 at *; have E10 := Lib.hid hE10; clear hE10
  generalize hE11 : inB nossia 0 20 = b4 at *; have E11 := Lib.hid hE11; clear hE11
  go_enter Tryz.func111, Tryz.ntmps111
  go_upto_region 1 with (fail)
  generalize (w.alloc (.cells #[.int .i64 (⟨nid, nvoice, nossia, ⟨sn, sd⟩, ⟨ln, ld⟩, ⟨ps, pa, po⟩⟩ : Wr).id, .int .i64 (⟨nid, nvoice, nossia, ⟨sn, sd⟩, ⟨ln, ld⟩, ⟨ps, pa, po⟩⟩ : Wr).voice, .int .i64 (⟨nid, nvoice, nossia, ⟨sn, sd⟩, ⟨ln, ld⟩, ⟨ps, pa, po⟩⟩ : Wr).ossia, .int .i64 (⟨nid, nvoice, nossia, ⟨sn, sd⟩, ⟨ln, ld⟩, ⟨ps, pa, po⟩⟩ : Wr).start.n, .int .i64 (⟨nid, nvoice, nossia, ⟨sn, sd⟩, ⟨ln, ld⟩, ⟨ps, pa, po⟩⟩ : Wr).start.d, .int .i64 (⟨nid, nvoice, nossia, ⟨sn, sd⟩, ⟨ln, ld⟩, ⟨ps, pa, po⟩⟩ : Wr).len.n, .int .i64 (⟨nid, nvoice, nossia, ⟨sn, sd⟩, ⟨ln, ld⟩, ⟨ps, pa, po⟩⟩ : Wr).len.d, .int .i64 (⟨nid, nvoice, nossia, ⟨sn, sd⟩, ⟨ln, ld⟩, ⟨ps, pa, po⟩⟩ : Wr).pitch.s, .int .i64 (⟨nid, nvoice, nossia, ⟨sn, sd⟩, ⟨ln, ld⟩, ⟨ps, pa, po⟩⟩ : Wr).pitch.a, .int .i64 (⟨nid, nvoice, nossia, ⟨sn, sd⟩, ⟨ln, ld⟩, ⟨ps, pa, po⟩⟩ : Wr).pitch.o] 64)).alloc (.cells #[.int .i64 bn, .int .i64 bd] 32) = W at *
  have hc1 := box_cells HX1.out; have hc2 := box_cells HX2.out
  cases b1
  · (go_upto_region 2 with (first | (go_at_call 157; refine (vwithin_any _ _ _ _).mono ?_; (first | rw [E8.out] | rw [E10.out] | rw [E11.out]); rintro e w' ⟨rfl, rfl⟩) | (go_at_call 158; refine (PValid_any _ _ _ _).mono ?_; rw [E7.out]; rintro e w2 ⟨rfl, hb⟩; (try replace hb := drewB hb); replace HB := Lib.hid (HB.out.trans (hb.mono HB.out.size)); (try (replace HX1 := Lib.hid (blk_keep HX1.out hb); replace hc1 := box_cells HX1.out; replace hf1 := box_free HX1.out; replace hz1 := lt_blk HX1.out)); (try (replace HX2 := Lib.hid (blk_keep HX2.out hb); replace hc2 := box_cells HX2.out; replace hf2 := box_free HX2.out; replace hz2 := lt_blk HX2.out)); clear hb) | (go_at_call 156; refine (vticks_any _ _ _).mono ?_; rw [E3.out]; rintro e w2 ⟨rfl, hb⟩; (try replace hb := drewB hb); replace HB := Lib.hid (HB.out.trans (hb.mono HB.out.size)); (try (replace HX1 := Lib.hid (blk_keep HX1.out hb); replace hc1 := box_cells HX1.out; replace hf1 := box_free HX1.out; replace hz1 := lt_blk HX1.out)); (try (replace HX2 := Lib.hid (blk_keep HX2.out hb); replace hc2 := box_cells HX2.out; replace hf2 := box_free HX2.out; replace hz2 := lt_blk HX2.out)); clear hb)); have g3 := cell_regrown (hc1 3); have g4 := cell_regrown (hc1 4); have g5 := cell_regrown (hc1 5); have g6 := cell_regrown (hc1 6); refine wp_quietB (by kernel_rfl) (by kernel_rfl) ?_; (repeat (go_big_quiet_step (fail))); go_big_quiet_step ((go_at_call 156; refine Calls.regrown_of (T1.out _))); (repeat (go_big_quiet_step (fail))); go_big_quiet_step ((go_at_call 156; refine Calls.regrown_of (T2.out _))); (repeat (go_big_quiet_step (fail))); refine wpQuiet_nil ?_; intro w6 hb; clear g3 g4 g5 g6; (try replace hb := drewB hb); replace HB := Lib.hid (HB.out.trans (hb.mono HB.out.size)); (try (replace HX1 := Lib.hid (blk_keep HX1.out hb); replace hc1 := box_cells HX1.out; replace hf1 := box_free HX1.out; replace hz1 := lt_blk HX1.out)); (try (replace HX2 := Lib.hid (blk_keep HX2.out hb); replace hc2 := box_cells HX2.out; replace hf2 := box_free HX2.out; replace hz2 := lt_blk HX2.out)); clear hb; go_wp2_with (first | (go_at_call 157; refine (vwithin_any _ _ _ _).mono ?_; (first | rw [E8.out] | rw [E10.out] | rw [E11.out]); rintro e w' ⟨rfl, rfl⟩) | (go_at_call 158; refine (PValid_any _ _ _ _).mono ?_; rw [E7.out]; rintro e w2 ⟨rfl, hb⟩; (try replace hb := drewB hb); replace HB := Lib.hid (HB.out.trans (hb.mono HB.out.size)); (try (replace HX1 := Lib.hid (blk_keep HX1.out hb); replace hc1 := box_cells HX1.out; replace hf1 := box_free HX1.out; replace hz1 := lt_blk HX1.out)); (try (replace HX2 := Lib.hid (blk_keep HX2.out hb); replace hc2 := box_cells HX2.out; replace hf2 := box_free HX2.out; replace hz2 := lt_blk HX2.out)); clear hb) | (go_at_call 156; refine (vticks_any _ _ _).mono ?_; rw [E3.out]; rintro e w2 ⟨rfl, hb⟩; (try replace hb := drewB hb); replace HB := Lib.hid (HB.out.trans (hb.mono HB.out.size)); (try (replace HX1 := Lib.hid (blk_keep HX1.out hb); replace hc1 := box_cells HX1.out; replace hf1 := box_free HX1.out; replace hz1 := lt_blk HX1.out)); (try (replace HX2 := Lib.hid (blk_keep HX2.out hb); replace hc2 := box_cells HX2.out; replace hf2 := box_free HX2.out; replace hz2 := lt_blk HX2.out)); clear hb)); go_ret; exact ⟨ret_bool (by rw [HR.out]; (first | rfl | (simp; done) | (simp; intros; omega))), HB.out⟩)
  cases b3
  · (go_upto_region 2 with (first | (go_at_call 157; refine (vwithin_any _ _ _ _).mono ?_; (first | rw [E8.out] | rw [E10.out] | rw [E11.out]); rintro e w' ⟨rfl, rfl⟩) | (go_at_call 158; refine (PValid_any _ _ _ _).mono ?_; rw [E7.out]; rintro e w2 ⟨rfl, hb⟩; (try replace hb := drewB hb); replace HB := Lib.hid (HB.out.trans (hb.mono HB.out.size)); (try (replace HX1 := Lib.hid (blk_keep HX1.out hb); replace hc1 := box_cells HX1.out; replace hf1 := box_free HX1.out; replace hz1 := lt_blk HX1.out)); (try (replace HX2 := Lib.hid (blk_keep HX2.out hb); replace hc2 := box_cells HX2.out; replace hf2 := box_free HX2.out; replace hz2 := lt_blk HX2.out)); clear hb) | (go_at_call 156; refine (vticks_any _ _ _).mono ?_; rw [E3.out]; rintro e w2 ⟨rfl, hb⟩; (try replace hb := drewB hb); replace HB := Lib.hid (HB.out.trans (hb.mono HB.out.size)); (try (replace HX1 := Lib.hid (blk_keep HX1.out hb); replace hc1 := box_cells HX1.out; replace hf1 := box_free HX1.out; replace hz1 := lt_blk HX1.out)); (try (replace HX2 := Lib.hid (blk_keep HX2.out hb); replace hc2 := box_cells HX2.out; replace hf2 := box_free HX2.out; replace hz2 := lt_blk HX2.out)); clear hb)); have g3 := cell_regrown (hc1 3); have g4 := cell_regrown (hc1 4); have g5 := cell_regrown (hc1 5); have g6 := cell_regrown (hc1 6); refine wp_quietB (by kernel_rfl) (by kernel_rfl) ?_; (repeat (go_big_quiet_step (fail))); go_big_quiet_step ((go_at_call 156; refine Calls.regrown_of (T1.out _))); (repeat (go_big_quiet_step (fail))); go_big_quiet_step ((go_at_call 156; refine Calls.regrown_of (T2.out _))); (repeat (go_big_quiet_step (fail))); refine wpQuiet_nil ?_; intro w6 hb; clear g3 g4 g5 g6; (try replace hb := drewB hb); replace HB := Lib.hid (HB.out.trans (hb.mono HB.out.size)); (try (replace HX1 := Lib.hid (blk_keep HX1.out hb); replace hc1 := box_cells HX1.out; replace hf1 := box_free HX1.out; replace hz1 := lt_blk HX1.out)); (try (replace HX2 := Lib.hid (blk_keep HX2.out hb); replace hc2 := box_cells HX2.out; replace hf2 := box_free HX2.out; replace hz2 := lt_blk HX2.out)); clear hb; go_wp2_with (first | (go_at_call 157; refine (vwithin_any _ _ _ _).mono ?_; (first | rw [E8.out] | rw [E10.out] | rw [E11.out]); rintro e w' ⟨rfl, rfl⟩) | (go_at_call 158; refine (PValid_any _ _ _ _).mono ?_; rw [E7.out]; rintro e w2 ⟨rfl, hb⟩; (try replace hb := drewB hb); replace HB := Lib.hid (HB.out.trans (hb.mono HB.out.size)); (try (replace HX1 := Lib.hid (blk_keep HX1.out hb); replace hc1 := box_cells HX1.out; replace hf1 := box_free HX1.out; replace hz1 := lt_blk HX1.out)); (try (replace HX2 := Lib.hid (blk_keep HX2.out hb); replace hc2 := box_cells HX2.out; replace hf2 := box_free HX2.out; replace hz2 := lt_blk HX2.out)); clear hb) | (go_at_call 156; refine (vticks_any _ _ _).mono ?_; rw [E3.out]; rintro e w2 ⟨rfl, hb⟩; (try replace hb := drewB hb); replace HB := Lib.hid (HB.out.trans (hb.mono HB.out.size)); (try (replace HX1 := Lib.hid (blk_keep HX1.out hb); replace hc1 := box_cells HX1.out; replace hf1 := box_free HX1.out; replace hz1 := lt_blk HX1.out)); (try (replace HX2 := Lib.hid (blk_keep HX2.out hb); replace hc2 := box_cells HX2.out; replace hf2 := box_free HX2.out; replace hz2 := lt_blk HX2.out)); clear hb)); go_ret; exact ⟨ret_bool (by rw [HR.out]; (first | rfl | (simp; done) | (simp; intros; omega))), HB.out⟩)
  cases b4
  · (go_upto_region 2 with (first | (go_at_call 157; refine (vwithin_any _ _ _ _).mono ?_; (first | rw [E8.out] | rw [E10.out] | rw [E11.out]); rintro e w' ⟨rfl, rfl⟩) | (go_at_call 158; refine (PValid_any _ _ _ _).mono ?_; rw [E7.out]; rintro e w2 ⟨rfl, hb⟩; (try replace hb := drewB hb); replace HB := Lib.hid (HB.out.trans (hb.mono HB.out.size)); (try (replace HX1 := Lib.hid (blk_keep HX1.out hb); replace hc1 := box_cells HX1.out; replace hf1 := box_free HX1.out; replace hz1 := lt_blk HX1.out)); (try (replace HX2 := Lib.hid (blk_keep HX2.out hb); replace hc2 := box_cells HX2.out; replace hf2 := box_free HX2.out; replace hz2 := lt_blk HX2.out)); clear hb) | (go_at_call 156; refine (vticks_any _ _ _).mono ?_; rw [E3.out]; rintro e w2 ⟨rfl, hb⟩; (try replace hb := drewB hb); replace HB := Lib.hid (HB.out.trans (hb.mono HB.out.size)); (try (replace HX1 := Lib.hid (blk_keep HX1.out hb); replace hc1 := box_cells HX1.out; replace hf1 := box_free HX1.out; replace hz1 := lt_blk HX1.out)); (try (replace HX2 := Lib.hid (blk_keep HX2.out hb); replace hc2 := box_cells HX2.out; replace hf2 := box_free HX2.out; replace hz2 := lt_blk HX2.out)); clear hb)); have g3 := cell_regrown (hc1 3); have g4 := cell_regrown (hc1 4); have g5 := cell_regrown (hc1 5); have g6 := cell_regrown (hc1 6); refine wp_quietB (by kernel_rfl) (by kernel_rfl) ?_; (repeat (go_big_quiet_step (fail))); go_big_quiet_step ((go_at_call 156; refine Calls.regrown_of (T1.out _))); (repeat (go_big_quiet_step (fail))); go_big_quiet_step ((go_at_call 156; refine Calls.regrown_of (T2.out _))); (repeat (go_big_quiet_step (fail))); refine wpQuiet_nil ?_; intro w6 hb; clear g3 g4 g5 g6; (try replace hb := drewB hb); replace HB := Lib.hid (HB.out.trans (hb.mono HB.out.size)); (try (replace HX1 := Lib.hid (blk_keep HX1.out hb); replace hc1 := box_cells HX1.out; replace hf1 := box_free HX1.out; replace hz1 := lt_blk HX1.out)); (try (replace HX2 := Lib.hid (blk_keep HX2.out hb); replace hc2 := box_cells HX2.out; replace hf2 := box_free HX2.out; replace hz2 := lt_blk HX2.out)); clear hb; go_wp2_with (first | (go_at_call 157; refine (vwithin_any _ _ _ _).mono ?_; (first | rw [E8.out] | rw [E10.out] | rw [E11.out]); rintro e w' ⟨rfl, rfl⟩) | (go_at_call 158; refine (PValid_any _ _ _ _).mono ?_; rw [E7.out]; rintro e w2 ⟨rfl, hb⟩; (try replace hb := drewB hb); replace HB := Lib.hid (HB.out.trans (hb.mono HB.out.size)); (try (replace HX1 := Lib.hid (blk_keep HX1.out hb); replace hc1 := box_cells HX1.out; replace hf1 := box_free HX1.out; replace hz1 := lt_blk HX1.out)); (try (replace HX2 := Lib.hid (blk_keep HX2.out hb); replace hc2 := box_cells HX2.out; replace hf2 := box_free HX2.out; replace hz2 := lt_blk HX2.out)); clear hb) | (go_at_call 156; refine (vticks_any _ _ _).mono ?_; rw [E3.out]; rintro e w2 ⟨rfl, hb⟩; (try replace hb := drewB hb); replace HB := Lib.hid (HB.out.trans (hb.mono HB.out.size)); (try (replace HX1 := Lib.hid (blk_keep HX1.out hb); replace hc1 := box_cells HX1.out; replace hf1 := box_free HX1.out; replace hz1 := lt_blk HX1.out)); (try (replace HX2 := Lib.hid (blk_keep HX2.out hb); replace hc2 := box_cells HX2.out; replace hf2 := box_free HX2.out; replace hz2 := lt_blk HX2.out)); clear hb)); go_ret; exact ⟨ret_bool (by rw [HR.out]; (first | rfl | (simp; done) | (simp; intros; omega))), HB.out⟩)
  cases P
  · (go_upto_region 2 with (first | (go_at_call 157; refine (vwithin_any _ _ _ _).mono ?_; (first | rw [E8.out] | rw [E10.out] | rw [E11.out]); rintro e w' ⟨rfl, rfl⟩) | (go_at_call 158; refine (PValid_any _ _ _ _).mono ?_; rw [E7.out]; rintro e w2 ⟨rfl, hb⟩; (try replace hb := drewB hb); replace HB := Lib.hid (HB.out.trans (hb.mono HB.out.size)); (try (replace HX1 := Lib.hid (blk_keep HX1.out hb); replace hc1 := box_cells HX1.out; replace hf1 := box_free HX1.out; replace hz1 := lt_blk HX1.out)); (try (replace HX2 := Lib.hid (blk_keep HX2.out hb); replace hc2 := box_cells HX2.out; replace hf2 := box_free HX2.out; replace hz2 := lt_blk HX2.out)); clear hb) | (go_at_call 156; refine (vticks_any _ _ _).mono ?_; rw [E3.out]; rintro e w2 ⟨rfl, hb⟩; (try replace hb := drewB hb); replace HB := Lib.hid (HB.out.trans (hb.mono HB.out.size)); (try (replace HX1 := Lib.hid (blk_keep HX1.out hb); replace hc1 := box_cells HX1.out; replace hf1 := box_free HX1.out; replace hz1 := lt_blk HX1.out)); (try (replace HX2 := Lib.hid (blk_keep HX2.out hb); replace hc2 := box_cells HX2.out; replace hf2 := box_free HX2.out; replace hz2 := lt_blk HX2.out)); clear hb)); have g3 := cell_regrown (hc1 3); have g4 := cell_regrown (hc1 4); have g5 := cell_regrown (hc1 5); have g6 := cell_regrown (hc1 6); refine wp_quietB (by kernel_rfl) (by kernel_rfl) ?_; (repeat (go_big_quiet_step (fail))); go_big_quiet_step ((go_at_call 156; refine Calls.regrown_of (T1.out _))); (repeat (go_big_quiet_step (fail))); go_big_quiet_step ((go_at_call 156; refine Calls.regrown_of (T2.out _))); (repeat (go_big_quiet_step (fail))); refine wpQuiet_nil ?_; intro w6 hb; clear g3 g4 g5 g6; (try replace hb := drewB hb); replace HB := Lib.hid (HB.out.trans (hb.mono HB.out.size)); (try (replace HX1 := Lib.hid (blk_keep HX1.out hb); replace hc1 := box_cells HX1.out; replace hf1 := box_free HX1.out; replace hz1 := lt_blk HX1.out)); (try (replace HX2 := Lib.hid (blk_keep HX2.out hb); replace hc2 := box_cells HX2.out; replace hf2 := box_free HX2.out; replace hz2 := lt_blk HX2.out)); clear hb; go_wp2_with (first | (go_at_call 157; refine (vwithin_any _ _ _ _).mono ?_; (first | rw [E8.out] | rw [E10.out] | rw [E11.out]); rintro e w' ⟨rfl, rfl⟩) | (go_at_call 158; refine (PValid_any _ _ _ _).mono ?_; rw [E7.out]; rintro e w2 ⟨rfl, hb⟩; (try replace hb := drewB hb); replace HB := Lib.hid (HB.out.trans (hb.mono HB.out.size)); (try (replace HX1 := Lib.hid (blk_keep HX1.out hb); replace hc1 := box_cells HX1.out; replace hf1 := box_free HX1.out; replace hz1 := lt_blk HX1.out)); (try (replace HX2 := Lib.hid (blk_keep HX2.out hb); replace hc2 := box_cells HX2.out; replace hf2 := box_free HX2.out; replace hz2 := lt_blk HX2.out)); clear hb) | (go_at_call 156; refine (vticks_any _ _ _).mono ?_; rw [E3.out]; rintro e w2 ⟨rfl, hb⟩; (try replace hb := drewB hb); replace HB := Lib.hid (HB.out.trans (hb.mono HB.out.size)); (try (replace HX1 := Lib.hid (blk_keep HX1.out hb); replace hc1 := box_cells HX1.out; replace hf1 := box_free HX1.out; replace hz1 := lt_blk HX1.out)); (try (replace HX2 := Lib.hid (blk_keep HX2.out hb); replace hc2 := box_cells HX2.out; replace hf2 := box_free HX2.out; replace hz2 := lt_blk HX2.out)); clear hb)); go_ret; exact ⟨ret_bool (by rw [HR.out]; (first | rfl | (simp; done) | (simp; intros; omega))), HB.out⟩)
  by_cases q1 : 0 ≤ S
  case neg => (go_upto_region 2 with (first | (go_at_call 157; refine (vwithin_any _ _ _ _).mono ?_; (first | rw [E8.out] | rw [E10.out] | rw [E11.out]); rintro e w' ⟨rfl, rfl⟩) | (go_at_call 158; refine (PValid_any _ _ _ _).mono ?_; rw [E7.out]; rintro e w2 ⟨rfl, hb⟩; (try replace hb := drewB hb); replace HB := Lib.hid (HB.out.trans (hb.mono HB.out.size)); (try (replace HX1 := Lib.hid (blk_keep HX1.out hb); replace hc1 := box_cells HX1.out; replace hf1 := box_free HX1.out; replace hz1 := lt_blk HX1.out)); (try (replace HX2 := Lib.hid (blk_keep HX2.out hb); replace hc2 := box_cells HX2.out; replace hf2 := box_free HX2.out; replace hz2 := lt_blk HX2.out)); clear hb) | (go_at_call 156; refine (vticks_any _ _ _).mono ?_; rw [E3.out]; rintro e w2 ⟨rfl, hb⟩; (try replace hb := drewB hb); replace HB := Lib.hid (HB.out.trans (hb.mono HB.out.size)); (try (replace HX1 := Lib.hid (blk_keep HX1.out hb); replace hc1 := box_cells HX1.out; replace hf1 := box_free HX1.out; replace hz1 := lt_blk HX1.out)); (try (replace HX2 := Lib.hid (blk_keep HX2.out hb); replace hc2 := box_cells HX2.out; replace hf2 := box_free HX2.out; replace hz2 := lt_blk HX2.out)); clear hb)); have g3 := cell_regrown (hc1 3); have g4 := cell_regrown (hc1 4); have g5 := cell_regrown (hc1 5); have g6 := cell_regrown (hc1 6); refine wp_quietB (by kernel_rfl) (by kernel_rfl) ?_; (repeat (go_big_quiet_step (fail))); go_big_quiet_step ((go_at_call 156; refine Calls.regrown_of (T1.out _))); (repeat (go_big_quiet_step (fail))); go_big_quiet_step ((go_at_call 156; refine Calls.regrown_of (T2.out _))); (repeat (go_big_quiet_step (fail))); refine wpQuiet_nil ?_; intro w6 hb; clear g3 g4 g5 g6; (try replace hb := drewB hb); replace HB := Lib.hid (HB.out.trans (hb.mono HB.out.size)); (try (replace HX1 := Lib.hid (blk_keep HX1.out hb); replace hc1 := box_cells HX1.out; replace hf1 := box_free HX1.out; replace hz1 := lt_blk HX1.out)); (try (replace HX2 := Lib.hid (blk_keep HX2.out hb); replace hc2 := box_cells HX2.out; replace hf2 := box_free HX2.out; replace hz2 := lt_blk HX2.out)); clear hb; go_wp2_with (first | (go_at_call 157; refine (vwithin_any _ _ _ _).mono ?_; (first | rw [E8.out] | rw [E10.out] | rw [E11.out]); rintro e w' ⟨rfl, rfl⟩) | (go_at_call 158; refine (PValid_any _ _ _ _).mono ?_; rw [E7.out]; rintro e w2 ⟨rfl, hb⟩; (try replace hb := drewB hb); replace HB := Lib.hid (HB.out.trans (hb.mono HB.out.size)); (try (replace HX1 := Lib.hid (blk_keep HX1.out hb); replace hc1 := box_cells HX1.out; replace hf1 := box_free HX1.out; replace hz1 := lt_blk HX1.out)); (try (replace HX2 := Lib.hid (blk_keep HX2.out hb); replace hc2 := box_cells HX2.out; replace hf2 := box_free HX2.out; replace hz2 := lt_blk HX2.out)); clear hb) | (go_at_call 156; refine (vticks_any _ _ _).mono ?_; rw [E3.out]; rintro e w2 ⟨rfl, hb⟩; (try replace hb := drewB hb); replace HB := Lib.hid (HB.out.trans (hb.mono HB.out.size)); (try (replace HX1 := Lib.hid (blk_keep HX1.out hb); replace hc1 := box_cells HX1.out; replace hf1 := box_free HX1.out; replace hz1 := lt_blk HX1.out)); (try (replace HX2 := Lib.hid (blk_keep HX2.out hb); replace hc2 := box_cells HX2.out; replace hf2 := box_free HX2.out; replace hz2 := lt_blk HX2.out)); clear hb)); go_ret; exact ⟨ret_bool (by rw [HR.out]; (first | rfl | (simp; done) | (simp; intros; omega))), HB.out⟩)
  by_cases q2 : 0 < L
  case neg => (go_upto_region 2 with (first | (go_at_call 157; refine (vwithin_any _ _ _ _).mono ?_; (first | rw [E8.out] | rw [E10.out] | rw [E11.out]); rintro e w' ⟨rfl, rfl⟩) | (go_at_call 158; refine (PValid_any _ _ _ _).mono ?_; rw [E7.out]; rintro e w2 ⟨rfl, hb⟩; (try replace hb := drewB hb); replace HB := Lib.hid (HB.out.trans (hb.mono HB.out.size)); (try (replace HX1 := Lib.hid (blk_keep HX1.out hb); replace hc1 := box_cells HX1.out; replace hf1 := box_free HX1.out; replace hz1 := lt_blk HX1.out)); (try (replace HX2 := Lib.hid (blk_keep HX2.out hb); replace hc2 := box_cells HX2.out; replace hf2 := box_free HX2.out; replace hz2 := lt_blk HX2.out)); clear hb) | (go_at_call 156; refine (vticks_any _ _ _).mono ?_; rw [E3.out]; rintro e w2 ⟨rfl, hb⟩; (try replace hb := drewB hb); replace HB := Lib.hid (HB.out.trans (hb.mono HB.out.size)); (try (replace HX1 := Lib.hid (blk_keep HX1.out hb); replace hc1 := box_cells HX1.out; replace hf1 := box_free HX1.out; replace hz1 := lt_blk HX1.out)); (try (replace HX2 := Lib.hid (blk_keep HX2.out hb); replace hc2 := box_cells HX2.out; replace hf2 := box_free HX2.out; replace hz2 := lt_blk HX2.out)); clear hb)); have g3 := cell_regrown (hc1 3); have g4 := cell_regrown (hc1 4); have g5 := cell_regrown (hc1 5); have g6 := cell_regrown (hc1 6); refine wp_quietB (by kernel_rfl) (by kernel_rfl) ?_; (repeat (go_big_quiet_step (fail))); go_big_quiet_step ((go_at_call 156; refine Calls.regrown_of (T1.out _))); (repeat (go_big_quiet_step (fail))); go_big_quiet_step ((go_at_call 156; refine Calls.regrown_of (T2.out _))); (repeat (go_big_quiet_step (fail))); refine wpQuiet_nil ?_; intro w6 hb; clear g3 g4 g5 g6; (try replace hb := drewB hb); replace HB := Lib.hid (HB.out.trans (hb.mono HB.out.size)); (try (replace HX1 := Lib.hid (blk_keep HX1.out hb); replace hc1 := box_cells HX1.out; replace hf1 := box_free HX1.out; replace hz1 := lt_blk HX1.out)); (try (replace HX2 := Lib.hid (blk_keep HX2.out hb); replace hc2 := box_cells HX2.out; replace hf2 := box_free HX2.out; replace hz2 := lt_blk HX2.out)); clear hb; go_wp2_with (first | (go_at_call 157; refine (vwithin_any _ _ _ _).mono ?_; (first | rw [E8.out] | rw [E10.out] | rw [E11.out]); rintro e w' ⟨rfl, rfl⟩) | (go_at_call 158; refine (PValid_any _ _ _ _).mono ?_; rw [E7.out]; rintro e w2 ⟨rfl, hb⟩; (try replace hb := drewB hb); replace HB := Lib.hid (HB.out.trans (hb.mono HB.out.size)); (try (replace HX1 := Lib.hid (blk_keep HX1.out hb); replace hc1 := box_cells HX1.out; replace hf1 := box_free HX1.out; replace hz1 := lt_blk HX1.out)); (try (replace HX2 := Lib.hid (blk_keep HX2.out hb); replace hc2 := box_cells HX2.out; replace hf2 := box_free HX2.out; replace hz2 := lt_blk HX2.out)); clear hb) | (go_at_call 156; refine (vticks_any _ _ _).mono ?_; rw [E3.out]; rintro e w2 ⟨rfl, hb⟩; (try replace hb := drewB hb); replace HB := Lib.hid (HB.out.trans (hb.mono HB.out.size)); (try (replace HX1 := Lib.hid (blk_keep HX1.out hb); replace hc1 := box_cells HX1.out; replace hf1 := box_free HX1.out; replace hz1 := lt_blk HX1.out)); (try (replace HX2 := Lib.hid (blk_keep HX2.out hb); replace hc2 := box_cells HX2.out; replace hf2 := box_free HX2.out; replace hz2 := lt_blk HX2.out)); clear hb)); go_ret; exact ⟨ret_bool (by rw [HR.out]; (first | rfl | (simp; done) | (simp; intros; omega))), HB.out⟩)
  by_cases q3 : S + L ≤ M
  · (go_upto_region 2 with (first | (go_at_call 157; refine (vwithin_any _ _ _ _).mono ?_; (first | rw [E8.out] | rw [E10.out] | rw [E11.out]); rintro e w' ⟨rfl, rfl⟩) | (go_at_call 158; refine (PValid_any _ _ _ _).mono ?_; rw [E7.out]; rintro e w2 ⟨rfl, hb⟩; (try replace hb := drewB hb); replace HB := Lib.hid (HB.out.trans (hb.mono HB.out.size)); (try (replace HX1 := Lib.hid (blk_keep HX1.out hb); replace hc1 := box_cells HX1.out; replace hf1 := box_free HX1.out; replace hz1 := lt_blk HX1.out)); (try (replace HX2 := Lib.hid (blk_keep HX2.out hb); replace hc2 := box_cells HX2.out; replace hf2 := box_free HX2.out; replace hz2 := lt_blk HX2.out)); clear hb) | (go_at_call 156; refine (vticks_any _ _ _).mono ?_; rw [E3.out]; rintro e w2 ⟨rfl, hb⟩; (try replace hb := drewB hb); replace HB := Lib.hid (HB.out.trans (hb.mono HB.out.size)); (try (replace HX1 := Lib.hid (blk_keep HX1.out hb); replace hc1 := box_cells HX1.out; replace hf1 := box_free HX1.out; replace hz1 := lt_blk HX1.out)); (try (replace HX2 := Lib.hid (blk_keep HX2.out hb); replace hc2 := box_cells HX2.out; replace hf2 := box_free HX2.out; replace hz2 := lt_blk HX2.out)); clear hb)); have g3 := cell_regrown (hc1 3); have g4 := cell_regrown (hc1 4); have g5 := cell_regrown (hc1 5); have g6 := cell_regrown (hc1 6); refine wp_quietB (by kernel_rfl) (by kernel_rfl) ?_; (repeat (go_big_quiet_step (fail))); go_big_quiet_step ((go_at_call 156; refine Calls.regrown_of (T1.out _))); (repeat (go_big_quiet_step (fail))); go_big_quiet_step ((go_at_call 156; refine Calls.regrown_of (T2.out _))); (repeat (go_big_quiet_step (fail))); refine wpQuiet_nil ?_; intro w6 hb; clear g3 g4 g5 g6; (try replace hb := drewB hb); replace HB := Lib.hid (HB.out.trans (hb.mono HB.out.size)); (try (replace HX1 := Lib.hid (blk_keep HX1.out hb); replace hc1 := box_cells HX1.out; replace hf1 := box_free HX1.out; replace hz1 := lt_blk HX1.out)); (try (replace HX2 := Lib.hid (blk_keep HX2.out hb); replace hc2 := box_cells HX2.out; replace hf2 := box_free HX2.out; replace hz2 := lt_blk HX2.out)); clear hb; go_wp2_with (first | (go_at_call 157; refine (vwithin_any _ _ _ _).mono ?_; (first | rw [E8.out] | rw [E10.out] | rw [E11.out]); rintro e w' ⟨rfl, rfl⟩) | (go_at_call 158; refine (PValid_any _ _ _ _).mono ?_; rw [E7.out]; rintro e w2 ⟨rfl, hb⟩; (try replace hb := drewB hb); replace HB := Lib.hid (HB.out.trans (hb.mono HB.out.size)); (try (replace HX1 := Lib.hid (blk_keep HX1.out hb); replace hc1 := box_cells HX1.out; replace hf1 := box_free HX1.out; replace hz1 := lt_blk HX1.out)); (try (replace HX2 := Lib.hid (blk_keep HX2.out hb); replace hc2 := box_cells HX2.out; replace hf2 := box_free HX2.out; replace hz2 := lt_blk HX2.out)); clear hb) | (go_at_call 156; refine (vticks_any _ _ _).mono ?_; rw [E3.out]; rintro e w2 ⟨rfl, hb⟩; (try replace hb := drewB hb); replace HB := Lib.hid (HB.out.trans (hb.mono HB.out.size)); (try (replace HX1 := Lib.hid (blk_keep HX1.out hb); replace hc1 := box_cells HX1.out; replace hf1 := box_free HX1.out; replace hz1 := lt_blk HX1.out)); (try (replace HX2 := Lib.hid (blk_keep HX2.out hb); replace hc2 := box_cells HX2.out; replace hf2 := box_free HX2.out; replace hz2 := lt_blk HX2.out)); clear hb)); go_ret; exact ⟨ret_bool (by rw [HR.out]; (first | rfl | (simp; done) | (simp; intros; omega))), HB.out⟩)
  · (go_upto_region 2 with (first | (go_at_call 157; refine (vwithin_any _ _ _ _).mono ?_; (first | rw [E8.out] | rw [E10.out] | rw [E11.out]); rintro e w' ⟨rfl, rfl⟩) | (go_at_call 158; refine (PValid_any _ _ _ _).mono ?_; rw [E7.out]; rintro e w2 ⟨rfl, hb⟩; (try replace hb := drewB hb); replace HB := Lib.hid (HB.out.trans (hb.mono HB.out.size)); (try (replace HX1 := Lib.hid (blk_keep HX1.out hb); replace hc1 := box_cells HX1.out; replace hf1 := box_free HX1.out; replace hz1 := lt_blk HX1.out)); (try (replace HX2 := Lib.hid (blk_keep HX2.out hb); replace hc2 := box_cells HX2.out; replace hf2 := box_free HX2.out; replace hz2 := lt_blk HX2.out)); clear hb) | (go_at_call 156; refine (vticks_any _ _ _).mono ?_; rw [E3.out]; rintro e w2 ⟨rfl, hb⟩; (try replace hb := drewB hb); replace HB := Lib.hid (HB.out.trans (hb.mono HB.out.size)); (try (replace HX1 := Lib.hid (blk_keep HX1.out hb); replace hc1 := box_cells HX1.out; replace hf1 := box_free HX1.out; replace hz1 := lt_blk HX1.out)); (try (replace HX2 := Lib.hid (blk_keep HX2.out hb); replace hc2 := box_cells HX2.out; replace hf2 := box_free HX2.out; replace hz2 := lt_blk HX2.out)); clear hb)); have g3 := cell_regrown (hc1 3); have g4 := cell_regrown (hc1 4); have g5 := cell_regrown (hc1 5); have g6 := cell_regrown (hc1 6); refine wp_quietB (by kernel_rfl) (by kernel_rfl) ?_; (repeat (go_big_quiet_step (fail))); go_big_quiet_step ((go_at_call 156; refine Calls.regrown_of (T1.out _))); (repeat (go_big_quiet_step (fail))); go_big_quiet_step ((go_at_call 156; refine Calls.regrown_of (T2.out _))); (repeat (go_big_quiet_step (fail))); refine wpQuiet_nil ?_; intro w6 hb; clear g3 g4 g5 g6; (try replace hb := drewB hb); replace HB := Lib.hid (HB.out.trans (hb.mono HB.out.size)); (try (replace HX1 := Lib.hid (blk_keep HX1.out hb); replace hc1 := box_cells HX1.out; replace hf1 := box_free HX1.out; replace hz1 := lt_blk HX1.out)); (try (replace HX2 := Lib.hid (blk_keep HX2.out hb); replace hc2 := box_cells HX2.out; replace hf2 := box_free HX2.out; replace hz2 := lt_blk HX2.out)); clear hb; go_wp2_with (first | (go_at_call 157; refine (vwithin_any _ _ _ _).mono ?_; (first | rw [E8.out] | rw [E10.out] | rw [E11.out]); rintro e w' ⟨rfl, rfl⟩) | (go_at_call 158; refine (PValid_any _ _ _ _).mono ?_; rw [E7.out]; rintro e w2 ⟨rfl, hb⟩; (try replace hb := drewB hb); replace HB := Lib.hid (HB.out.trans (hb.mono HB.out.size)); (try (replace HX1 := Lib.hid (blk_keep HX1.out hb); replace hc1 := box_cells HX1.out; replace hf1 := box_free HX1.out; replace hz1 := lt_blk HX1.out)); (try (replace HX2 := Lib.hid (blk_keep HX2.out hb); replace hc2 := box_cells HX2.out; replace hf2 := box_free HX2.out; replace hz2 := lt_blk HX2.out)); clear hb) | (go_at_call 156; refine (vticks_any _ _ _).mono ?_; rw [E3.out]; rintro e w2 ⟨rfl, hb⟩; (try replace hb := drewB hb); replace HB := Lib.hid (HB.out.trans (hb.mono HB.out.size)); (try (replace HX1 := Lib.hid (blk_keep HX1.out hb); replace hc1 := box_cells HX1.out; replace hf1 := box_free HX1.out; replace hz1 := lt_blk HX1.out)); (try (replace HX2 := Lib.hid (blk_keep HX2.out hb); replace hc2 := box_cells HX2.out; replace hf2 := box_free HX2.out; replace hz2 := lt_blk HX2.out)); clear hb)); go_ret; exact ⟨ret_bool (by rw [HR.out]; (first | rfl | (simp; done) | (simp; intros; omega))), HB.out⟩)
open Go.RowKit Go.Sort

noncomputable def vvalBody (i : Nat) : Code := ((Tryz.f67.body.map loopsOf).getD []).getD i .skip
theorem SetAt.kept {W W' : World} {r : Nat} {l : List Int} {row : Option Nat} (h : SetAt W r l) (hg : W.grownBy W' row) (hne : row ≠ some r) : SetAt W' r l := by
  obtain ⟨m, h1, h2⟩ := h; exact ⟨m, h1.kept hg hne, h2⟩
theorem MapAt.neCells {W : World} {κ : Type} [DecidableEq κ] {enc : κ → Value} {r mb : Nat} {m : List (κ × Value)} {cs : Array Value} {T : TypeId} {fr : Nat × Nat} (h : MapAt W enc r m) (hc : W.heap[mb]? = some (.cells cs T fr)) : mb ≠ r := by
  rintro rfl
  obtain ⟨es, c, h1, _⟩ := h.ex
  rw [h1] at hc; cases hc
theorem SetAt.neCells {W : World} {r mb : Nat} {l : List Int} {cs : Array Value} {T : TypeId} {fr : Nat × Nat} (h : SetAt W r l) (hc : W.heap[mb]? = some (.cells cs T fr)) : mb ≠ r := by
  obtain ⟨m, h1, _⟩ := h; exact h1.neCells hc
theorem KeepB.grownS {B : Nat} {S : List Nat} {w w' w2 : World} {row : Option Nat} (a : KeepB B S w w') (hg : w'.grownBy w2 row) (hB : B ≤ w'.heap.size) (hr : ∀ k, row = some k → k ∈ S ∨ B ≤ k) : KeepB B S w w2 :=
  ⟨hg.os.trans a.os, hg.tape.trans a.tape, hg.output.trans a.output, Nat.le_trans a.size hg.size, fun k hk hn => (hg.block k (by have := a.size; omega) (fun e => by rcases hr k e.symm with h | h; exact hn h; omega)).trans (a.block k hk hn)⟩
/-- What the inner loop of view.Valid rests on. -/
structure VVL (M : Me) (A0 : List Int) (mb r : Nat) (R : Bool) (wo : World) : Prop where
  m : wo.heap[mb]? = some (.cells #[.int .i64 M.bar, .int .i64 M.key, .int .i64 M.len.n, .int .i64 M.len.d, .slice M.na M.notes.length M.ncap] 60)
  s : SetAt wo r A0
  n : ∀ W, KeepB wo.heap.size [r] wo W → WrAt W M.na M.notes
  few : M.notes.length ≤ 1000
  form : ∀ k (hk : k < M.notes.length), formW M.notes[k] M.len = false → R = false
theorem all_snoc {α : Type} (f : α → Bool) {l : List α} {k : Nat} (hk : k < l.length) (h : (l.take k).all f = true) (h1 : f l[k] = true) : (l.take (k + 1)).all f = true := by
  rw [List.take_succ_eq_append_getElem hk, List.all_append, h]; simp [h1]
set_option maxRecDepth 1000000 in
set_option maxHeartbeats 8000000 in
theorem vval2_any {M : Me} {A0 : List Int} {mb r : Nat} {R : Bool} {wo : World} (X : VVL M A0 mb r R wo)
    (b off : Nat) (hna : M.notes ≠ [] → M.na = some ⟨b, off, none⟩) {s0 s1 s2 s3 s4 s5 s6 s8 s9 s11 s12 s13 s14 s15 s16 s17 s18 s19 s20 s21 s22 s23 s24 s25 s26 s27 s28 s29 s30 s31 s32 s33 s34 s35 s36 s37 s38 s39 s40 s41 s42 s43 s44 s45 s46 s47 s48 s49 s50 s51 s52 s53 s54 s55 s56 s57 s58 s59 s60 s61 s62 s63 s64 s65 s66 s67 s68 s69 s70 s71 s72 s73 s74 s75 s76 s80 s81 s82 s83 s84 s85 s86 s87 s88 s89 s90 s91 s92 s93 s94 s95 s96 s97 s98 s99 s100 s101 s102 s103 s104 s105 : Value} (Q : Exit → Act → World → Prop)
    (hfail : ∀ (t13 t79 t80 t81 t82 t83 t84 t85 t86 t87 t88 t89 t90 t91 : Value) (W' : World), R = false → KeepB wo.heap.size [r] wo W' → Q .ret ⟨(List.toArray (s0 :: s1 :: s2 :: s3 :: .bool false :: s5 :: s6 :: .map (some r) :: s8 :: s9 :: .pointer (some ⟨mb, 0, none⟩) :: s11 :: s12 :: t13 :: s14 :: s15 :: s16 :: s17 :: s18 :: s19 :: s20 :: s21 :: s22 :: s23 :: s24 :: s25 :: s26 :: s27 :: s28 :: s29 :: s30 :: s31 :: s32 :: s33 :: s34 :: s35 :: s36 :: s37 :: s38 :: s39 :: s40 :: s41 :: s42 :: s43 :: s44 :: s45 :: s46 :: s47 :: s48 :: s49 :: s50 :: s51 :: s52 :: s53 :: s54 :: s55 :: s56 :: s57 :: s58 :: s59 :: s60 :: s61 :: s62 :: s63 :: s64 :: s65 :: s66 :: s67 :: s68 :: s69 :: s70 :: s71 :: s72 :: s73 :: s74 :: s75 :: s76 :: .slice M.na M.notes.length M.ncap :: .int .i64 M.notes.length :: t79 :: t80 :: t81 :: t82 :: t83 :: t84 :: t85 :: t86 :: t87 :: t88 :: t89 :: t90 :: t91 :: s92 :: s93 :: s94 :: s95 :: s96 :: s97 :: s98 :: s99 :: s100 :: s101 :: s102 :: s103 :: s104 :: s105 :: List.nil)), []⟩ W')
    (hexit : ∀ (t4 t13 t79 t80 t81 t82 t83 t84 t85 t86 t87 t88 t89 t90 t91 : Value) (W' : World), SetAt W' r (A0 ++ M.notes.map Wr.id) → M.notes.all (fun x => formW x M.len) = true → KeepB wo.heap.size [r] wo W' → Q (.exit 2) ⟨(List.toArray (s0 :: s1 :: s2 :: s3 :: t4 :: s5 :: s6 :: .map (some r) :: s8 :: s9 :: .pointer (some ⟨mb, 0, none⟩) :: s11 :: s12 :: t13 :: s14 :: s15 :: s16 :: s17 :: s18 :: s19 :: s20 :: s21 :: s22 :: s23 :: s24 :: s25 :: s26 :: s27 :: s28 :: s29 :: s30 :: s31 :: s32 :: s33 :: s34 :: s35 :: s36 :: s37 :: s38 :: s39 :: s40 :: s41 :: s42 :: s43 :: s44 :: s45 :: s46 :: s47 :: s48 :: s49 :: s50 :: s51 :: s52 :: s53 :: s54 :: s55 :: s56 :: s57 :: s58 :: s59 :: s60 :: s61 :: s62 :: s63 :: s64 :: s65 :: s66 :: s67 :: s68 :: s69 :: s70 :: s71 :: s72 :: s73 :: s74 :: s75 :: s76 :: .slice M.na M.notes.length M.ncap :: .int .i64 M.notes.length :: t79 :: t80 :: t81 :: t82 :: t83 :: t84 :: t85 :: t86 :: t87 :: t88 :: t89 :: t90 :: t91 :: s92 :: s93 :: s94 :: s95 :: s96 :: s97 :: s98 :: s99 :: s100 :: s101 :: s102 :: s103 :: s104 :: s105 :: List.nil)), []⟩ W') :
    Code.wp Tryz.prog (Code.loop (vvalBody 1)) Q ⟨(List.toArray (s0 :: s1 :: s2 :: s3 :: s4 :: s5 :: s6 :: .map (some r) :: s8 :: s9 :: .pointer (some ⟨mb, 0, none⟩) :: s11 :: s12 :: s13 :: s14 :: s15 :: s16 :: s17 :: s18 :: s19 :: s20 :: s21 :: s22 :: s23 :: s24 :: s25 :: s26 :: s27 :: s28 :: s29 :: s30 :: s31 :: s32 :: s33 :: s34 :: s35 :: s36 :: s37 :: s38 :: s39 :: s40 :: s41 :: s42 :: s43 :: s44 :: s45 :: s46 :: s47 :: s48 :: s49 :: s50 :: s51 :: s52 :: s53 :: s54 :: s55 :: s56 :: s57 :: s58 :: s59 :: s60 :: s61 :: s62 :: s63 :: s64 :: s65 :: s66 :: s67 :: s68 :: s69 :: s70 :: s71 :: s72 :: s73 :: s74 :: s75 :: s76 :: .slice M.na M.notes.length M.ncap :: .int .i64 M.notes.length :: .int .i64 0 :: s80 :: s81 :: s82 :: s83 :: s84 :: s85 :: s86 :: s87 :: s88 :: s89 :: s90 :: s91 :: s92 :: s93 :: s94 :: s95 :: s96 :: s97 :: s98 :: s99 :: s100 :: s101 :: s102 :: s103 :: s104 :: s105 :: List.nil)), []⟩ wo := by
  have HX0 := Lib.hid X; have HQ := Lib.hid hexit; have HQf := Lib.hid hfail
  have hL := X.few
  clear X hexit hfail
  conv => arg 2; arg 1; whnf
  go_loopw [79] (fun i wi => ∃ (k : Nat), k ≤ M.notes.length ∧ i = .int .i64 k ∧ SetAt wi r (A0 ++ (M.notes.take k).map Wr.id) ∧ (M.notes.take k).all (fun x => formW x M.len) = true ∧ wi.heap[mb]? = some (.cells #[.int .i64 M.bar, .int .i64 M.key, .int .i64 M.len.n, .int .i64 M.len.d, .slice M.na M.notes.length M.ncap] 60) ∧ KeepB wo.heap.size [r] wo wi) (fun i _ => M.notes.length - (intOf i).toNat)
  case atStart => exact ⟨0, Nat.zero_le _, rfl, by simpa using HX0.out.s, rfl, HX0.out.m, KeepB.refl _ _ _⟩
  case round =>
    obtain ⟨k, hk, rfl, hu, hall, hm, hkb⟩ := hrel
    have HU := Lib.hid hu; have HA := Lib.hid hall; have HKB := Lib.hid hkb; have HM := Lib.hid hm
    clear hu hall hkb hm
    by_cases hlt : k < M.notes.length
    · have hqa := hna (fun e => by rw [e] at hlt; simp at hlt)
      obtain ⟨b', off', e', _, c0, c1, c2, c3, c4, c5, c6, c7, c8, c9⟩ := (HX0.out.n _ HKB.out).get k hlt
      rw [hqa] at e'
      cases e'
      have HBad := Lib.hid (HX0.out.form k hlt)
      have HAS := Lib.hid (fun h => all_snoc (fun x => formW x M.len) hlt HA.out h)
      have HFo := Lib.hid (fun W => vformed_any M.notes[k] M.len W)
      have HTk := Lib.hid (show A0 ++ (M.notes.take (k + 1)).map Wr.id = (A0 ++ (M.notes.take k).map Wr.id) ++ [M.notes[k].id] by rw [List.take_succ_eq_append_getElem hlt, List.map_append, List.append_assoc]; rfl)
      have HNo := Lib.hid hqa; clear hqa
      have hc9 := box_cells HM.out
      rw [HNo.out]
      generalize M.notes[k] = x at *
      generalize A0 ++ (M.notes.take k).map Wr.id = A1 at *
      obtain ⟨E, hE⟩ : ∃ E, E = formW x M.len := ⟨_, rfl⟩
      rw [← hE] at HBad HFo HAS
      clear hE
      go_upto_region 17 with (fail)
      have HX := Lib.hid (heap_alloc_new wr (.cells #[.int .i64 x.id, .int .i64 x.voice, .int .i64 x.ossia, .int .i64 x.start.n, .int .i64 x.start.d, .int .i64 x.len.n, .int .i64 x.len.d, .int .i64 x.pitch.s, .int .i64 x.pitch.a, .int .i64 x.pitch.o] 64))
      have hb := (Below.refl wr.heap.size wr).alloc (Nat.le_refl _) (.cells #[.int .i64 x.id, .int .i64 x.voice, .int .i64 x.ossia, .int .i64 x.start.n, .int .i64 x.start.d, .int .i64 x.len.n, .int .i64 x.len.d, .int .i64 x.pitch.s, .int .i64 x.pitch.a, .int .i64 x.pitch.o] 64)
      replace HM := Lib.hid (blk_keep HM.out hb); replace HU := Lib.hid (HU.out.below hb); replace HKB := Lib.hid (HKB.out.andBelow hb HKB.out.size)
      generalize wr.alloc (.cells #[.int .i64 x.id, .int .i64 x.voice, .int .i64 x.ossia, .int .i64 x.start.n, .int .i64 x.start.d, .int .i64 x.len.n, .int .i64 x.len.d, .int .i64 x.pitch.s, .int .i64 x.pitch.a, .int .i64 x.pitch.o] 64) = W at *
      clear hb c0 c1 c2 c3 c4 c5 c6 c7 c8 c9 hc9
      have hc := box_cells HX.out; have hc9 := box_cells HM.out
      cases E
      · have HF := Lib.hid (HBad.out rfl)
        go_wp2_with ((go_at_call 111; refine (HFo.out _).mono ?_; rintro e w5 ⟨rfl, hb⟩; replace HX := Lib.hid (blk_keep HX.out hb); replace HM := Lib.hid (blk_keep HM.out hb); replace HU := Lib.hid (HU.out.below hb); replace HKB := Lib.hid (HKB.out.andBelow hb HKB.out.size); clear hc hc9; have hc := box_cells HX.out; have hc9 := box_cells HM.out; clear hb; obtain ⟨m, hmap, hsp, hln⟩ := HU.out; have HMap := Lib.hid hmap; have HPut := Lib.hid (set_put (x := x.id) (.bool true) hsp hln); clear hmap hsp hln))
        rw [← HNo.out]
        exact HQf.out _ _ _ _ _ _ _ _ _ _ _ _ _ _ _ HF.out HKB.out
      · have HA2 := Lib.hid (HAS.out rfl)
        go_wp2_with (first | (go_at_call 111; refine (HFo.out _).mono ?_; rintro e w5 ⟨rfl, hb⟩; replace HX := Lib.hid (blk_keep HX.out hb); replace HM := Lib.hid (blk_keep HM.out hb); replace HU := Lib.hid (HU.out.below hb); replace HKB := Lib.hid (HKB.out.andBelow hb HKB.out.size); clear hc hc9; have hc := box_cells HX.out; have hc9 := box_cells HM.out; clear hb; obtain ⟨m, hmap, hsp, hln⟩ := HU.out; have HMap := Lib.hid hmap; have HPut := Lib.hid (set_put (x := x.id) (.bool true) hsp hln); clear hmap hsp hln) | (refine wpList_mapUpdate_at rfl (.tmp 88) (.tmp 90) _ 147 (.inl rfl) Tryz.underlying147 keyJ r m rfl HMap.out x.id rfl (.bool true) rfl ?_; intro w6 hm6 hg6; have HM6 := Lib.hid hm6; have HG6 := Lib.hid hg6; clear hm6 hg6))
        rw [← HNo.out]
        refine ⟨⟨k + 1, by omega, by go_num, ?_, HA2.out, ?_, ?_⟩, by simp [intOf]; omega⟩
        · rw [HTk.out]; exact ⟨_, HM6.out, HPut.out.1, HPut.out.2⟩
        · exact (HG6.out.block mb (lt_blk HM.out) (fun e => HMap.out.neCells HM.out (by cases e; rfl))).trans HM.out
        · exact HKB.out.grownS HG6.out HKB.out.size (fun j e => by cases e; exact .inl (by simp))
    · obtain rfl : k = M.notes.length := by omega
      go_wp2
      refine HQ.out _ _ _ _ _ _ _ _ _ _ _ _ _ _ _ wr (by have := HU.out; rwa [List.take_length] at this) (by have := HA.out; rwa [List.take_length] at this) HKB.out
open Go.RowKit Go.Sort

theorem WrAt.addr {w : World} {a : Option Addr} {l : List Wr} (h : WrAt w a l) : ∃ b off, l ≠ [] → a = some ⟨b, off, none⟩ := by
  by_cases e : l = []
  · exact ⟨0, 0, fun h => absurd e h⟩
  · obtain ⟨b, off, e1, _⟩ := h.get 0 (List.length_pos_iff.2 e)
    exact ⟨b, off, fun _ => e1⟩
theorem all_bad {M : Me} {k : Nat} (hk : k < M.notes.length) (h : formW M.notes[k] M.len = false) : M.notes.all (fun w => formW w M.len) = false := by
  rw [List.all_eq_false]; exact ⟨_, List.getElem_mem hk, by simp [h]⟩
open Go.RowKit Go.Sort Go.Shelf

theorem SetAt.len {W : World} {r : Nat} {l : List Int} (h : SetAt W r l) (ty : TypeId) : (Builtin.len_ #[147] ty #[.map (some r)]).run Tryz.prog W = .ok (.int .i64 (cntI l : Nat)) W := by
  obtain ⟨m, ⟨⟨es, c, hb, he, _⟩, _⟩, _, h3⟩ := h
  have hl : es.size = cntI l := by
    rw [← h3]
    have := congrArg List.length he
    simpa using this
  rw [run_len_map W 147 ty r es c (by kernel_rfl) hb, hl]; rfl
theorem SetAt.new (w : World) : SetAt (w.alloc (.map #[] 0)) w.heap.size [] := ⟨[], MapAt.new w encJ, fun x => by simp [mget_nil], rfl⟩
theorem neq_rt (x y x' y' : Int) (w : World) : (binOp .neq 32 (.agg #[.int .i64 x, .int .i64 y]) (.agg #[.int .i64 x', .int .i64 y'])).run Tryz.prog w = .ok (.bool (!(x == x' && y == y'))) w := by
  rw [run_neq_struct]
  simp [go_sem]
  by_cases h0 : x = x'
  · simp [h0]
    by_cases h1 : y = y' <;> simp [h1]
  · simp [h0]
/-- What is asked of the k-th measure. -/
def goodM (p : Pa) (bars : List Ba) (ms : List Me) (k : Nat) : Bool := match bars[k]?, ms[k]? with | some b, some m => measureN p b m.says | _, _ => true
theorem goodM_at {p : Pa} {bars : List Ba} {ms : List Me} {k : Nat} (h1 : k < bars.length) (h2 : k < ms.length) : goodM p bars ms k = measureN p bars[k] ms[k].says := by simp [goodM, h1, h2]
theorem allW_len (ms : List Me) (k : Nat) : (allW ((ms.map Me.says).take k)).length = sumK ms k := by
  unfold allW sumK
  rw [← List.map_take, List.map_map, List.length_flatten, List.map_map]; rfl
set_option maxRecDepth 100000 in
set_option maxHeartbeats 8000000 in
theorem VValid_any (s : Sc) (q : Sp) (part : Int) (a : Option Addr) (cap : Nat) (ms : List Me) (w : World) (hf : ScFew s) (hs : ScAt w s q) (hE : Env w) (hl : ms.length ≤ 1000) (hn : ∀ m ∈ ms, m.notes.length ≤ 1000) (hm : MeAt w a ms) :
    Calls Tryz.prog 67 #[.agg #[.int .i64 s.version, .slice q.ab s.bars.length q.cb, .slice q.ap s.parts.length q.cp, .slice q.an s.notes.length q.cn], .agg #[.int .i64 part, .slice a ms.length cap]] w fun e w' => e = .returned (.bool (validV s part (ms.map Me.says))) ∧ Below w.heap.size w w' := by
  have hmm := @run_makeMap Tryz.prog
  have HS := Lib.hid hs; have HM := Lib.hid hm; have HE := Lib.hid hE
  have HC := Lib.hid (fun W (hb : Below w.heap.size w W) => SValid_any s q W hf (hs.below hb) (hE.below hb))
  have HFi := Lib.hid (fun W (hb : Below w.heap.size w W) => VFind_any s q part W hf (hs.below hb))
  obtain ⟨x1, x2, hb⟩ := box2 (w := w) (A := .cells #[.int .i64 s.version, .slice q.ab s.bars.length q.cb, .slice q.ap s.parts.length q.cp, .slice q.an s.notes.length q.cn] 26) (B := .cells #[.int .i64 part, .slice a ms.length cap] 30) (Below.refl _ _)
  have HX1 := Lib.hid x1; have HX2 := Lib.hid x2; have HB := Lib.hid hb; clear x1 x2 hb
  cases hv : validS s
  · have HR := Lib.hid (show validV s part (ms.map Me.says) = false by unfold validV; rw [hv]; rfl)
    rw [hv] at HC
    clear hv hs hf hm hE
    go_enter Tryz.func67, Tryz.ntmps67; go_upto_region 1 with (fail); generalize (w.alloc (.cells #[.int .i64 s.version, .slice q.ab s.bars.length q.cb, .slice q.ap s.parts.length q.cp, .slice q.an s.notes.length q.cn] 26)).alloc (.cells #[.int .i64 part, .slice a ms.length cap] 30) = W at *; have hc1 := box_cells HX1.out; have hc2 := box_cells HX2.out
    go_wp2_with ((go_at_call 56; refine (HC.out _ HB.out).mono ?_; rintro e w2 ⟨rfl, hb⟩; (try replace hb := drewB hb); replace HB := Lib.hid (HB.out.trans (hb.mono HB.out.size)); (try (replace HX1 := Lib.hid (blk_keep HX1.out hb); replace hc1 := box_cells HX1.out; replace hf1 := box_free HX1.out; replace hz1 := lt_blk HX1.out)); (try (replace HX2 := Lib.hid (blk_keep HX2.out hb); replace hc2 := box_cells HX2.out; replace hf2 := box_free HX2.out; replace hz2 := lt_blk HX2.out)); (try (replace HX5 := Lib.hid (blk_keep HX5.out hb); replace hc5 := box_cells HX5.out; replace hf5 := box_free HX5.out; replace hz5 := lt_blk HX5.out)); (try (replace HX8 := Lib.hid (blk_keep HX8.out hb); replace hc8 := box_cells HX8.out; replace hf8 := box_free HX8.out; replace hz8 := lt_blk HX8.out)); (try (replace HX9 := Lib.hid (blk_keep HX9.out hb); replace hc9 := box_cells HX9.out; replace hf9 := box_free HX9.out; replace hz9 := lt_blk HX9.out)); clear hb))
    go_ret
    exact ⟨ret_bool HR.out.symm, HB.out⟩
  rw [hv] at HC
  by_cases hlen : ms.length = s.bars.length
  case neg =>
    have HR := Lib.hid (show validV s part (ms.map Me.says) = false by unfold validV; rw [decide_eq_false (by rw [List.length_map]; exact hlen)]; simp)
    have hd : ((ms.length : Int) != (s.bars.length : Int)) = true := by simp; omega
    clear hv hs hf hm hE hlen
    go_enter Tryz.func67, Tryz.ntmps67; go_upto_region 1 with (fail); generalize (w.alloc (.cells #[.int .i64 s.version, .slice q.ab s.bars.length q.cb, .slice q.ap s.parts.length q.cp, .slice q.an s.notes.length q.cn] 26)).alloc (.cells #[.int .i64 part, .slice a ms.length cap] 30) = W at *; have hc1 := box_cells HX1.out; have hc2 := box_cells HX2.out
    go_wp2_with ((go_at_call 56; refine (HC.out _ HB.out).mono ?_; rintro e w2 ⟨rfl, hb⟩; (try replace hb := drewB hb); replace HB := Lib.hid (HB.out.trans (hb.mono HB.out.size)); (try (replace HX1 := Lib.hid (blk_keep HX1.out hb); replace hc1 := box_cells HX1.out; replace hf1 := box_free HX1.out; replace hz1 := lt_blk HX1.out)); (try (replace HX2 := Lib.hid (blk_keep HX2.out hb); replace hc2 := box_cells HX2.out; replace hf2 := box_free HX2.out; replace hz2 := lt_blk HX2.out)); (try (replace HX5 := Lib.hid (blk_keep HX5.out hb); replace hc5 := box_cells HX5.out; replace hf5 := box_free HX5.out; replace hz5 := lt_blk HX5.out)); (try (replace HX8 := Lib.hid (blk_keep HX8.out hb); replace hc8 := box_cells HX8.out; replace hf8 := box_free HX8.out; replace hz8 := lt_blk HX8.out)); (try (replace HX9 := Lib.hid (blk_keep HX9.out hb); replace hc9 := box_cells HX9.out; replace hf9 := box_free HX9.out; replace hz9 := lt_blk HX9.out)); clear hb))
    go_ret
    exact ⟨ret_bool HR.out.symm, HB.out⟩
  have hd : ((ms.length : Int) != (s.bars.length : Int)) = false := by simp; omega
  cases hp : partAt s.parts part with
  | none =>
    have HR := Lib.hid (show validV s part (ms.map Me.says) = false by unfold validV; rw [hp]; simp)
    rw [hp] at HFi
    simp only [Option.isSome_none] at HFi
    clear hv hs hf hm hE hp hlen
    go_enter Tryz.func67, Tryz.ntmps67; go_upto_region 1 with (fail); generalize (w.alloc (.cells #[.int .i64 s.version, .slice q.ab s.bars.length q.cb, .slice q.ap s.parts.length q.cp, .slice q.an s.notes.length q.cn] 26)).alloc (.cells #[.int .i64 part, .slice a ms.length cap] 30) = W at *; have hc1 := box_cells HX1.out; have hc2 := box_cells HX2.out
    go_wp2_with (first | (go_at_call 56; refine (HC.out _ HB.out).mono ?_; rintro e w2 ⟨rfl, hb⟩; (try replace hb := drewB hb); replace HB := Lib.hid (HB.out.trans (hb.mono HB.out.size)); (try (replace HX1 := Lib.hid (blk_keep HX1.out hb); replace hc1 := box_cells HX1.out; replace hf1 := box_free HX1.out; replace hz1 := lt_blk HX1.out)); (try (replace HX2 := Lib.hid (blk_keep HX2.out hb); replace hc2 := box_cells HX2.out; replace hf2 := box_free HX2.out; replace hz2 := lt_blk HX2.out)); (try (replace HX5 := Lib.hid (blk_keep HX5.out hb); replace hc5 := box_cells HX5.out; replace hf5 := box_free HX5.out; replace hz5 := lt_blk HX5.out)); (try (replace HX8 := Lib.hid (blk_keep HX8.out hb); replace hc8 := box_cells HX8.out; replace hf8 := box_free HX8.out; replace hz8 := lt_blk HX8.out)); (try (replace HX9 := Lib.hid (blk_keep HX9.out hb); replace hc9 := box_cells HX9.out; replace hf9 := box_free HX9.out; replace hz9 := lt_blk HX9.out)); clear hb) | (go_at_call 64; refine (HFi.out _ HB.out).mono ?_; rintro e w3 ⟨rfl, hb⟩; (try replace hb := drewB hb); replace HB := Lib.hid (HB.out.trans (hb.mono HB.out.size)); (try (replace HX1 := Lib.hid (blk_keep HX1.out hb); replace hc1 := box_cells HX1.out; replace hf1 := box_free HX1.out; replace hz1 := lt_blk HX1.out)); (try (replace HX2 := Lib.hid (blk_keep HX2.out hb); replace hc2 := box_cells HX2.out; replace hf2 := box_free HX2.out; replace hz2 := lt_blk HX2.out)); (try (replace HX5 := Lib.hid (blk_keep HX5.out hb); replace hc5 := box_cells HX5.out; replace hf5 := box_free HX5.out; replace hz5 := lt_blk HX5.out)); (try (replace HX8 := Lib.hid (blk_keep HX8.out hb); replace hc8 := box_cells HX8.out; replace hf8 := box_free HX8.out; replace hz8 := lt_blk HX8.out)); (try (replace HX9 := Lib.hid (blk_keep HX9.out hb); replace hc9 := box_cells HX9.out; replace hf9 := box_free HX9.out; replace hz9 := lt_blk HX9.out)); clear hb))
    go_ret
    exact ⟨ret_bool HR.out.symm, HB.out.alloc HB.out.size _⟩
  | some p =>
    rw [show foundP s.parts part = p by simp [foundP, hp], hp] at HFi
    simp only [Option.isSome_some] at HFi
    obtain ⟨VV, hVV⟩ : ∃ V, V = validV s part (ms.map Me.says) := ⟨_, rfl⟩
    have hlM : (ms.map Me.says).length = s.bars.length := by rw [List.length_map]; exact hlen
    have HBad := Lib.hid (fun k (hk : k < ms.length) (h : goodM p s.bars ms k = false) => show VV = false from hVV.trans (validN_bad hv hlM hp k (by rw [List.length_map]; exact hk) (by rw [List.getElem_map, ← goodM_at (by omega) hk]; exact h)))
    have HDone := Lib.hid (fun (hm : ∀ k, k < ms.length → goodM p s.bars ms k = true) => show VV = (decide (sumK ms ms.length ≤ 20000) && decide (cntI ((allW ((ms.map Me.says).take ms.length)).map Wr.id) = sumK ms ms.length)) from hVV.trans (by
      rw [validN_done hv hlM hp (fun k hk => by rw [List.getElem_map, ← goodM_at (by omega) (by simpa using hk)]; exact hm k (by simpa using hk)), ← allW_len, List.take_of_length_le (by simp)]))
    have HNl := Lib.hid hn
    rw [← hVV]
    have HLen := Lib.hid hlen
    have HGo := Lib.hid (fun k h1 h2 => goodM_at (p := p) (bars := s.bars) (ms := ms) (k := k) h1 h2)
    generalize goodM p s.bars ms = G at *
    have hnb := hf.bars
    have HBar := Lib.hid hs.bars
    clear hv hs hm hE hVV hp hlM hlen hn hf
    obtain ⟨ab, cb, ap, cp, an, cn⟩ := q
    dsimp only at *
    go_enter Tryz.func67, Tryz.ntmps67; go_upto_region 1 with (fail); generalize (w.alloc (.cells #[.int .i64 s.version, .slice (⟨ab, cb, ap, cp, an, cn⟩ : Sp).ab s.bars.length (⟨ab, cb, ap, cp, an, cn⟩ : Sp).cb, .slice (⟨ab, cb, ap, cp, an, cn⟩ : Sp).ap s.parts.length (⟨ab, cb, ap, cp, an, cn⟩ : Sp).cp, .slice (⟨ab, cb, ap, cp, an, cn⟩ : Sp).an s.notes.length (⟨ab, cb, ap, cp, an, cn⟩ : Sp).cn] 26)).alloc (.cells #[.int .i64 part, .slice a ms.length cap] 30) = W at *; have hc1 := box_cells HX1.out; have hc2 := box_cells HX2.out
    go_upto_region 6 with (first | (go_at_call 56; refine (HC.out _ HB.out).mono ?_; rintro e w2 ⟨rfl, hb⟩; (try replace hb := drewB hb); replace HB := Lib.hid (HB.out.trans (hb.mono HB.out.size)); (try (replace HX1 := Lib.hid (blk_keep HX1.out hb); replace hc1 := box_cells HX1.out; replace hf1 := box_free HX1.out; replace hz1 := lt_blk HX1.out)); (try (replace HX2 := Lib.hid (blk_keep HX2.out hb); replace hc2 := box_cells HX2.out; replace hf2 := box_free HX2.out; replace hz2 := lt_blk HX2.out)); (try (replace HX5 := Lib.hid (blk_keep HX5.out hb); replace hc5 := box_cells HX5.out; replace hf5 := box_free HX5.out; replace hz5 := lt_blk HX5.out)); (try (replace HX8 := Lib.hid (blk_keep HX8.out hb); replace hc8 := box_cells HX8.out; replace hf8 := box_free HX8.out; replace hz8 := lt_blk HX8.out)); (try (replace HX9 := Lib.hid (blk_keep HX9.out hb); replace hc9 := box_cells HX9.out; replace hf9 := box_free HX9.out; replace hz9 := lt_blk HX9.out)); clear hb) | (go_at_call 64; refine (HFi.out _ HB.out).mono ?_; rintro e w3 ⟨rfl, hb⟩; (try replace hb := drewB hb); replace HB := Lib.hid (HB.out.trans (hb.mono HB.out.size)); (try (replace HX1 := Lib.hid (blk_keep HX1.out hb); replace hc1 := box_cells HX1.out; replace hf1 := box_free HX1.out; replace hz1 := lt_blk HX1.out)); (try (replace HX2 := Lib.hid (blk_keep HX2.out hb); replace hc2 := box_cells HX2.out; replace hf2 := box_free HX2.out; replace hz2 := lt_blk HX2.out)); (try (replace HX5 := Lib.hid (blk_keep HX5.out hb); replace hc5 := box_cells HX5.out; replace hf5 := box_free HX5.out; replace hz5 := lt_blk HX5.out)); (try (replace HX8 := Lib.hid (blk_keep HX8.out hb); replace hc8 := box_cells HX8.out; replace hf8 := box_free HX8.out; replace hz8 := lt_blk HX8.out)); (try (replace HX9 := Lib.hid (blk_keep HX9.out hb); replace hc9 := box_cells HX9.out; replace hf9 := box_free HX9.out; replace hz9 := lt_blk HX9.out)); clear hb))
    have HX5 := Lib.hid (heap_alloc_new w3 (.cells #[.int .i64 p.id, .int .i64 p.section_, .int .i64 p.of, .int .i64 p.octave, .int .i64 p.desks, .int .i64 p.shift.x, .int .i64 p.shift.y, .int .i64 p.low.s, .int .i64 p.low.a, .int .i64 p.low.o, .int .i64 p.high.s, .int .i64 p.high.a, .int .i64 p.high.o] 121))
    have hb := (Below.refl w3.heap.size w3).alloc (Nat.le_refl _) (.cells #[.int .i64 p.id, .int .i64 p.section_, .int .i64 p.of, .int .i64 p.octave, .int .i64 p.desks, .int .i64 p.shift.x, .int .i64 p.shift.y, .int .i64 p.low.s, .int .i64 p.low.a, .int .i64 p.low.o, .int .i64 p.high.s, .int .i64 p.high.a, .int .i64 p.high.o] 121)
    have hrb := HB.out.size
    replace HB := Lib.hid (HB.out.trans (hb.mono HB.out.size)); replace HX1 := Lib.hid (blk_keep HX1.out hb); replace HX2 := Lib.hid (blk_keep HX2.out hb)
    clear hb hc1 hc2 hf1 hf2 hz1 hz2 hd HC HFi
    generalize w3.alloc (.cells #[.int .i64 p.id, .int .i64 p.section_, .int .i64 p.of, .int .i64 p.octave, .int .i64 p.desks, .int .i64 p.shift.x, .int .i64 p.shift.y, .int .i64 p.low.s, .int .i64 p.low.a, .int .i64 p.low.o, .int .i64 p.high.s, .int .i64 p.high.a, .int .i64 p.high.o] 121) = W3 at *
    have hc1 := box_cells HX1.out; have hc2 := box_cells HX2.out
    have HRl := Lib.hid (lt_blk HX5.out)
    generalize w3.heap.size = rb at *
    go_upto_region 8 with (fail)
    have hb := (Below.refl W3.heap.size W3).alloc (Nat.le_refl _) (.map #[] 0)
    have HU0 := Lib.hid (SetAt.new W3)
    have hr0 := HB.out.size
    replace HB := Lib.hid (HB.out.trans (hb.mono HB.out.size)); replace HX1 := Lib.hid (blk_keep HX1.out hb); replace HX2 := Lib.hid (blk_keep HX2.out hb); replace HX5 := Lib.hid (blk_keep HX5.out hb)
    clear hb hc1 hc2 hmm
    have HNe := Lib.hid (show w.heap.size ≠ W3.heap.size ∧ rb ≠ W3.heap.size by have := lt_blk HX1.out; have h5 := HRl.out; exact ⟨by omega, by omega⟩)
    have HL1 := Lib.hid (lt_blk HX1.out); have HL5 := Lib.hid (lt_blk HX5.out)
    generalize W3.alloc (.map #[] 0) = W0 at *
    generalize W3.heap.size = r at *
    have hc2 := box_cells HX2.out
    go_wp2
    clear hc2 HX2
    go_loopw [8, 39] (fun s8 s39 wi => ∃ k : Nat, k ≤ ms.length ∧ s39 = .int .i64 k ∧ s8 = .int .i64 (sumK ms k : Nat) ∧ SetAt wi r ((allW ((ms.map Me.says).take k)).map Wr.id) ∧ (∀ j, j < k → G j = true) ∧ KeepB W0.heap.size [r] W0 wi) (fun _ s39 _ => ms.length - (intOf s39).toNat)
    case atStart => exact ⟨0, Nat.zero_le _, rfl, by simp [sumK], by simpa [allW] using HU0.out, fun j h => by omega, KeepB.refl _ _ _⟩
    case round =>
      obtain ⟨k, hk, rfl, rfl, hu, hall, hkb⟩ := hrel
      have HU := Lib.hid hu; have HA := Lib.hid hall; have HKB := Lib.hid hkb
      have HBB := Lib.hid (hkb.onBelow HB.out HB.out.size (fun b hb => by simp at hb; omega))
      have HZ1 := Lib.hid (hkb.at_ HX1.out HL1.out (by simp; exact HNe.out.1)); have HZ5 := Lib.hid (hkb.at_ HX5.out HL5.out (by simp; exact HNe.out.2))
      clear hu hall hkb HU0
      have hsl := sumK_le HNl.out k
      have hc1 := box_cells HZ1.out; have hc5 := box_cells HZ5.out
      by_cases hlt : k < ms.length
      · have hltb : k < s.bars.length := by have := HLen.out; omega
        obtain ⟨b1, o1, hqa, hb1, c0, c1, c2, c3, c4⟩ := (HM.out.below HBB.out).get k hlt
        subst hqa
        have HMk := Lib.hid (fun W (hb : Below w.heap.size w W) => ((HM.out.below hb).notes _ (List.getElem_mem hlt)))
        have HNk := Lib.hid (HNl.out _ (List.getElem_mem hlt))
        have HBk := Lib.hid (HBad.out k hlt)
        have hkM : k < (ms.map Me.says).length := by simpa using hlt
        have hgM : (ms.map Me.says)[k] = ms[k].says := List.getElem_map ..
        have HSu := Lib.hid (show (allW ((ms.map Me.says).take (k + 1))).map Wr.id = (allW ((ms.map Me.says).take k)).map Wr.id ++ ms[k].notes.map Wr.id by rw [allW_succ hkM, hgM, List.map_append]; rfl)
        have HSm := Lib.hid (sumK_succ hlt)
        clear hkM hgM
        obtain ⟨b2, o2, hqb, hb2, d0, d1, d2, d3⟩ := (HBar.out.below HBB.out).get k hltb
        have hab : ab = some ⟨b2, o2, none⟩ := hqb
        subst hab
        clear hqb
        have HMe := Lib.hid (fun W hE => VMeasure_any p s.bars[k] none 0 0 W hE)
        have HSo := Lib.hid (fun W (hb : Below w.heap.size w W) => IsSortedW_any ms[k].na ms[k].ncap ms[k].notes W (by have := HNk.out; omega) (HMk.out W hb) (HE.out.below hb))
        have hneq := neq_rt ms[k].len.n ms[k].len.d s.bars[k].len.n s.bars[k].len.d
        obtain ⟨E, hE2⟩ : ∃ E, E = (ms[k].len.n == s.bars[k].len.n && ms[k].len.d == s.bars[k].len.d) := ⟨_, rfl⟩
        have hdl : decide (ms[k].len = s.bars[k].len) = E := by
          rw [hE2, Bool.eq_iff_iff]; simp only [decide_eq_true_eq, Bool.and_eq_true, beq_iff_eq]
          exact ⟨fun h => by rw [h]; exact ⟨rfl, rfl⟩, fun h => by cases hh : ms[k].len; cases hh2 : s.bars[k].len; rw [hh, hh2] at h; obtain ⟨h1, h2⟩ := h; simp only at h1 h2; rw [h1, h2]⟩
        rw [← hE2] at hneq
        obtain ⟨SS, hSS⟩ : ∃ S, S = nsW ms[k].notes := ⟨_, rfl⟩
        rw [← hSS] at HSo
        have HGE := Lib.hid (show G k = (decide (ms[k].bar = s.bars[k].id) && decide (ms[k].key = (keyR p s.bars[k].key).1) && E && SS && ms[k].notes.all (fun w => formW w ms[k].len)) by rw [HGo.out k hltb hlt, ← hdl, hSS]; rfl)
        clear hE2 hdl hSS
        generalize s.bars[k] = b at *
        generalize ms[k] = M at *
        generalize sumK ms k = S0 at *
        generalize (keyR p b.key).1 = K1 at *
        generalize (allW ((ms.map Me.says).take k)).map Wr.id = A0 at *
        have HX9 := Lib.hid (heap_alloc_new wr (.cells #[.int .i64 M.bar, .int .i64 M.key, .int .i64 M.len.n, .int .i64 M.len.d, .slice M.na M.notes.length M.ncap] 60))
        have hb := (Below.refl wr.heap.size wr).alloc (Nat.le_refl _) (.cells #[.int .i64 M.bar, .int .i64 M.key, .int .i64 M.len.n, .int .i64 M.len.d, .slice M.na M.notes.length M.ncap] 60)
        go_upto_region 11 with (fail)
        replace HU := Lib.hid (HU.out.below hb)
        replace HKB := Lib.hid (HKB.out.andBelow hb HKB.out.size)
        replace HBB := Lib.hid (HBB.out.trans (hb.mono HBB.out.size))
        replace HZ1 := Lib.hid (blk_keep HZ1.out hb); replace HZ5 := Lib.hid (blk_keep HZ5.out hb)
        replace d0 := keepE d0 hb; replace d1 := keepE d1 hb; replace d2 := keepE d2 hb; replace d3 := keepE d3 hb
        clear hb c0 c1 c2 c3 c4 hc1 hc5
        generalize wr.alloc (.cells #[.int .i64 M.bar, .int .i64 M.key, .int .i64 M.len.n, .int .i64 M.len.d, .slice M.na M.notes.length M.ncap] 60) = W1 at *
        generalize wr.heap.size = mb at *
        have hc1 := box_cells HZ1.out
        have g9 : W1.cell? ⟨w.heap.size, 1, none⟩ = some (.slice (some ⟨b2, o2, none⟩) s.bars.length cb) := hc1 1
        have hl5 := lt_blk HZ5.out; have hl1 := lt_blk HZ1.out; have hl2 := lt_cell d0
        have HD := Lib.hid (show _ ∧ _ ∧ _ ∧ _ from ⟨d0, d1, d2, d3⟩)
        go_cut [11] from 44 to 50 (fun s11 W => ∃ wb, s11 = .pointer (some ⟨wb, 0, none⟩) ∧ W1.heap.size ≤ wb ∧ W.heap[wb]? = some (.cells #[.int .i64 b.id, .int .i64 K1, .int .i64 b.len.n, .int .i64 b.len.d, .slice none 0 0] 60) ∧ Below W1.heap.size W1 W)
        case first =>
          have HBr := Lib.hid (Below.refl W1.heap.size W1)
          have HY2 := Lib.hid HZ5.out
          have hn5 := Lib.hid (Nat.ne_of_lt hl5); have hn1 := Lib.hid (Nat.ne_of_lt hl1); have hn2 := Lib.hid (Nat.ne_of_lt hl2)
          have HEi := Lib.hid (HE.out.below HBB.out)
          have HS0 := Lib.hid (show (W1.drew.cell? ⟨rb, 0, none⟩ = some (.int .i64 p.id) ∧ W1.drew.cell? ⟨rb, 1, none⟩ = some (.int .i64 p.section_) ∧ W1.drew.cell? ⟨rb, 2, none⟩ = some (.int .i64 p.of) ∧ W1.drew.cell? ⟨rb, 3, none⟩ = some (.int .i64 p.octave) ∧ W1.drew.cell? ⟨rb, 4, none⟩ = some (.int .i64 p.desks) ∧ W1.drew.cell? ⟨rb, 5, none⟩ = some (.int .i64 p.shift.x) ∧ W1.drew.cell? ⟨rb, 6, none⟩ = some (.int .i64 p.shift.y) ∧ W1.drew.cell? ⟨rb, 7, none⟩ = some (.int .i64 p.low.s) ∧ W1.drew.cell? ⟨rb, 8, none⟩ = some (.int .i64 p.low.a) ∧ W1.drew.cell? ⟨rb, 9, none⟩ = some (.int .i64 p.low.o) ∧ W1.drew.cell? ⟨rb, 10, none⟩ = some (.int .i64 p.high.s) ∧ W1.drew.cell? ⟨rb, 11, none⟩ = some (.int .i64 p.high.a) ∧ W1.drew.cell? ⟨rb, 12, none⟩ = some (.int .i64 p.high.o)) ∧ W1.drew.cell? ⟨w.heap.size, 1, none⟩ = some (.slice (some ⟨b2, o2, none⟩) s.bars.length cb) ∧ W1.drew.cell? ⟨b2, o2 + k * 4, none⟩ = some (.int .i64 b.id) ∧ W1.drew.cell? ⟨b2, o2 + k * 4 + 1, none⟩ = some (.int .i64 b.len.n) ∧ W1.drew.cell? ⟨b2, o2 + k * 4 + 2, none⟩ = some (.int .i64 b.len.d) ∧ W1.drew.cell? ⟨b2, o2 + k * 4 + 3, none⟩ = some (.int .i64 b.key) from ⟨paC HY2.out, g9, d0, d1, d2, d3⟩)
          clear HMk HSo hneq HBk HSu HSm HU HKB HA HGE HX9
          go_region_held3 (fun W => (W.cell? ⟨rb, 0, none⟩ = some (.int .i64 p.id) ∧ W.cell? ⟨rb, 1, none⟩ = some (.int .i64 p.section_) ∧ W.cell? ⟨rb, 2, none⟩ = some (.int .i64 p.of) ∧ W.cell? ⟨rb, 3, none⟩ = some (.int .i64 p.octave) ∧ W.cell? ⟨rb, 4, none⟩ = some (.int .i64 p.desks) ∧ W.cell? ⟨rb, 5, none⟩ = some (.int .i64 p.shift.x) ∧ W.cell? ⟨rb, 6, none⟩ = some (.int .i64 p.shift.y) ∧ W.cell? ⟨rb, 7, none⟩ = some (.int .i64 p.low.s) ∧ W.cell? ⟨rb, 8, none⟩ = some (.int .i64 p.low.a) ∧ W.cell? ⟨rb, 9, none⟩ = some (.int .i64 p.low.o) ∧ W.cell? ⟨rb, 10, none⟩ = some (.int .i64 p.high.s) ∧ W.cell? ⟨rb, 11, none⟩ = some (.int .i64 p.high.a) ∧ W.cell? ⟨rb, 12, none⟩ = some (.int .i64 p.high.o)) ∧ W.cell? ⟨w.heap.size, 1, none⟩ = some (.slice (some ⟨b2, o2, none⟩) s.bars.length cb) ∧ W.cell? ⟨b2, o2 + k * 4, none⟩ = some (.int .i64 b.id) ∧ W.cell? ⟨b2, o2 + k * 4 + 1, none⟩ = some (.int .i64 b.len.n) ∧ W.cell? ⟨b2, o2 + k * 4 + 2, none⟩ = some (.int .i64 b.len.d) ∧ W.cell? ⟨b2, o2 + k * 4 + 3, none⟩ = some (.int .i64 b.key))
            (first | (with_reducible refine ⟨paC (set5_far HY2.out hn5.out), ?_⟩; with_reducible exact ⟨cell5_far g9 hn1.out, cell5_far d0 hn2.out, cell5_far d1 hn2.out, cell5_far d2 hn2.out, cell5_far d3 hn2.out⟩) | with_reducible exact ⟨paC (blk_keep HY2.out (box_drew _)), keepE g9 (box_drew _), keepE d0 (box_drew _), keepE d1 (box_drew _), keepE d2 (box_drew _), keepE d3 (box_drew _)⟩ | with_reducible exact ⟨paC (up_alloc HY2.out _), keepE g9 (below_box _), keepE d0 (below_box _), keepE d1 (below_box _), keepE d2 (below_box _), keepE d3 (below_box _)⟩ | with_reducible exact ⟨paC HY2.out, g9, d0, d1, d2, d3⟩ | with_reducible exact HS0.out)
            ((go_at_call 108; refine (HMe.out _ (by first | with_reducible exact HEi.out | with_reducible exact HEi.out.below (box_drew _) | with_reducible exact HEi.out.below (below_box _) | with_reducible exact HEi.out.below HBr.out | exact HEi.out.below (Below.refl _ _).drew)).mono ?_; rintro e w5 ⟨rfl, hb⟩; (try replace hb := drewB hb); (first | (have x0 := box_below hb; have HX8 := Lib.hid x0; have hc8 := box_cells x0; have hf8 := box_free x0; have hz8 := lt_blk x0; clear x0; replace hb := allocB hb) | skip); (try replace hb := drewB hb); replace HBr := Lib.hid (HBr.out.trans (hb.mono HBr.out.size)); replace HY2 := Lib.hid (blk_keep HY2.out hb); replace d0 := keepE d0 hb; replace d1 := keepE d1 hb; replace d2 := keepE d2 hb; replace d3 := keepE d3 hb; replace g9 := keepE g9 hb; clear hb))
          · go_wp2
            go_meet
            case rel => exact ⟨_, rfl, HBr.out.size, heap_alloc_new _ _, HBr.out.alloc HBr.out.size _⟩
          · go_wp2
            go_meet
            case rel => exact ⟨_, rfl, Nat.le_refl _, set5_at HX8.out, set5_below HBr.out (Nat.le_refl _)⟩
        case rest =>
          obtain ⟨wb, rfl, hwb, xw, hb⟩ := hcut
          have HXw := Lib.hid xw
          replace HX9 := Lib.hid (blk_keep HX9.out hb)
          replace HU := Lib.hid (HU.out.below hb)
          replace HKB := Lib.hid (HKB.out.andBelow hb HKB.out.size)
          replace HBB := Lib.hid (HBB.out.trans (hb.mono HBB.out.size))
          clear hb xw g9 d0 d1 d2 d3 hc1 HZ1 HZ5 HD HMe
          have hc9 := box_cells HX9.out; have hcw := box_cells HXw.out
          by_cases q1 : M.bar = b.id
          case neg =>
            have hd : (M.bar != b.id) = true := by simpa using q1
            have HF := Lib.hid (HBk.out (by rw [HGE.out, decide_eq_false q1]; rfl))
            clear q1
            go_wp2
            go_ret
            exact ⟨ret_bool HF.out.symm, HBB.out⟩
          have hd1 : (M.bar != b.id) = false := by simpa using q1
          rw [decide_eq_true q1, Bool.true_and] at HGE
          clear q1
          by_cases q2 : M.key = K1
          case neg =>
            have hd : (M.key != K1) = true := by simpa using q2
            have HF := Lib.hid (HBk.out (by rw [HGE.out, decide_eq_false q2]; rfl))
            clear q2
            go_wp2
            go_ret
            exact ⟨ret_bool HF.out.symm, HBB.out⟩
          have hd2 : (M.key != K1) = false := by simpa using q2
          rw [decide_eq_true q2, Bool.true_and] at HGE
          clear q2
          cases E
          · have HF := Lib.hid (HBk.out (by rw [HGE.out]; rfl))
            go_wp2
            go_ret
            exact ⟨ret_bool HF.out.symm, HBB.out⟩
          rw [Bool.true_and] at HGE
          cases SS
          · have HF := Lib.hid (HBk.out (by rw [HGE.out]; rfl))
            go_wp2_with ((go_at_call 109; refine (HSo.out _ HBB.out).mono ?_; rintro e w5 ⟨rfl, hb⟩; replace HX9 := Lib.hid (blk_keep HX9.out hb); replace HXw := Lib.hid (blk_keep HXw.out hb); replace HU := Lib.hid (HU.out.below hb); replace HKB := Lib.hid (HKB.out.andBelow hb HKB.out.size); replace HBB := Lib.hid (HBB.out.trans (hb.mono HBB.out.size)); clear hb hc9 hcw; have hc9 := box_cells HX9.out; have hcw := box_cells HXw.out))
            go_ret
            exact ⟨ret_bool HF.out.symm, HBB.out⟩
          rw [Bool.true_and] at HGE
          obtain ⟨bx, ox, hbx⟩ := WrAt.addr (HMk.out w (Below.refl _ _))
          go_wp2_with ((go_at_call 109; refine (HSo.out _ HBB.out).mono ?_; rintro e w5 ⟨rfl, hb⟩; replace HX9 := Lib.hid (blk_keep HX9.out hb); replace HXw := Lib.hid (blk_keep HXw.out hb); replace HU := Lib.hid (HU.out.below hb); replace HKB := Lib.hid (HKB.out.andBelow hb HKB.out.size); replace HBB := Lib.hid (HBB.out.trans (hb.mono HBB.out.size)); clear hb hc9 hcw; have hc9 := box_cells HX9.out; have hcw := box_cells HXw.out))
          have HV := Lib.hid (show VVL M A0 mb r VV w5 from ⟨HX9.out, HU.out, fun W hk => HMk.out W (hk.onBelow HBB.out HBB.out.size (fun b hb => by simp at hb; omega)), HNk.out, fun j hj h => HBk.out (by rw [HGE.out]; exact all_bad hj h)⟩)
          refine vval2_any HV.out bx ox hbx _ ?_ ?_
          · intro t13 t79 t80 t81 t82 t83 t84 t85 t86 t87 t88 t89 t90 t91 W' hR hk
            go_wp2
            go_ret
            exact ⟨ret_bool hR.symm, hk.onBelow HBB.out HBB.out.size (fun b hb => by simp at hb; omega)⟩
          · intro t4 t13 t79 t80 t81 t82 t83 t84 t85 t86 t87 t88 t89 t90 t91 W' hset hall hk
            have HSet := Lib.hid hset; have HAll := Lib.hid hall; have HK := Lib.hid hk
            have HM9 := Lib.hid (hk.at_ HX9.out (lt_blk HX9.out) (by simp; exact HU.out.neCells HX9.out))
            have HKB2 := Lib.hid (HKB.out.trans (hk.weaken HKB.out.size (fun j hj _ => hj)))
            clear hset hall hk hc9 hcw
            have hc9 := box_cells HM9.out
            have hnk := HNk.out
            have hwr : IntKind.i64.wrap ((S0 : Int) + (M.notes.length : Int)) = (S0 : Int) + (M.notes.length : Int) := IntWalk.i64_in _ (by omega)
            go_wp2
            refine ⟨⟨k + 1, by omega, by go_num, by rw [HSm.out]; simp, by rw [HSu.out]; exact HSet.out, fun j hj => ?_, HKB2.out⟩, by simp [intOf]; omega⟩
            by_cases e : j = k
            · subst e; rw [HGE.out]; exact HAll.out
            · exact HA.out j (by omega)
      · obtain rfl : k = ms.length := by omega
        have HF := Lib.hid (HDone.out HA.out)
        generalize (allW ((ms.map Me.says).take ms.length)).map Wr.id = A0 at *
        generalize sumK ms ms.length = S0 at *
        have hlen := HU.out.len 3
        generalize cntI A0 = C0 at *
        go_wp2
        all_goals (go_ret; refine ⟨ret_bool ?_, HBB.out⟩; rw [HF.out]; rw [Bool.eq_iff_iff]; simp only [Bool.and_eq_true, decide_eq_true_eq, beq_iff_eq, Bool.false_eq_true, false_iff, iff_false, true_iff, iff_true]; omega)
end Go.Proofs.YtcelciomhngajaaGreatDoor

