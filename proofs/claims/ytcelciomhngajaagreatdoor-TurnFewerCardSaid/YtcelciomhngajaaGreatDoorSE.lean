/- Texts of this seat, laid together: ScTick, ScForm, ScIdx, ScNotV, ScUp0, ScUp, ScOr, ScSort, ScCmp, ScSortN, ScNotS. -/
import Derived.Test.YtcelciomhngajaaGreatDoorSC
import Derived.Test.YtcelciomhngajaaGreatDoorSA
import Derived.Test.YtcelciomhngajaaGreatDoorSB
import Derived.Shelf.SlSortCmp.QuietGrown
import Derived.Test.YtcelciomhngajaaGreatDoorSD
import Derived.Lib.OwnBridge
import Derived.Shelf.SlSortCmp.NoneTotal
/- Package notes: contracts of within, isID, ticks, isNote, formed. -/
namespace Go.Proofs.YtcelciomhngajaaGreatDoor
set_option linter.unusedSimpArgs false
set_option linter.unusedVariables false
open Go.RowKit Go.Sort

theorem nwithin_any (n lo hi : Int) (w : World) : Calls Tryz.prog 142 #[.int .i64 n, .int .i64 lo, .int .i64 hi] w fun e w' => e = .returned (.bool (inB n lo hi)) ∧ w = w' := by
  go_enter Tryz.func142, Tryz.ntmps142
  go_wp2
  all_goals (go_ret; exact ⟨by simp [inB, *] <;> omega, rfl⟩)
theorem nisID_any (n : Int) (w : World) : Calls Tryz.prog 141 #[.int .i64 n] w fun e w' => e = .returned (.bool (isID n)) ∧ w = w' := by
  go_enter Tryz.func141, Tryz.ntmps141
  go_wp2_with (go_at_call 142; refine (nwithin_any _ _ _ _).mono ?_; rintro e w' ⟨rfl, rfl⟩)
  go_ret
  exact ⟨rfl, rfl⟩
/-- A duration in parts of a quarter, or 0. -/
def tickG (r : Rt) : Int := if durB r then r.n * (1680 / r.d) else 0
theorem tickG_bd (r : Rt) : 0 ≤ tickG r ∧ tickG r ≤ 1680000000000 := by
  unfold tickG
  split
  · rename_i h
    have := ticks_nonneg h
    rwa [ticksI, if_pos h] at this
  · omega
set_option maxHeartbeats 1000000 in
theorem ticks_any (n d : Int) (w : World) : Calls Tryz.prog 140 #[.agg #[.int .i64 n, .int .i64 d]] w fun e w' => e = .returned (.tuple #[.int .i64 (tickG ⟨n, d⟩), .bool (durB ⟨n, d⟩)]) ∧ Below w.heap.size w w' := by
  have HD := Lib.hid (show durB ⟨n, d⟩ = (rtOk ⟨n, d⟩ && decide (0 ≤ n) && decide (1680 % d = 0)) from rfl)
  have HB0 := Lib.hid (tickG_bd ⟨n, d⟩)
  cases hr : rtOk ⟨n, d⟩
  · have HF := Lib.hid (show durB ⟨n, d⟩ = false by rw [HD.out, hr]; rfl)
    have HG := Lib.hid (show tickG ⟨n, d⟩ = 0 by simp [tickG, HF.out])
    go_enter Tryz.func140, Tryz.ntmps140
    go_wp2_with (go_at_call 39; refine (RatValid_any _ _ _).mono ?_; rw [hr]; rintro e w2 ⟨rfl, hb⟩; have HB := Lib.hid (allocB hb); clear hb)
    go_ret2
    exact ⟨by rw [HG.out, HF.out]; rfl, HB.out⟩
  · obtain ⟨⟨q1, q2⟩, _⟩ := (rt_iff n d).1 hr
    have e0 : ¬ d = 0 := by omega
    have m1 := Int.emod_nonneg 1680 e0; have m2 := Int.emod_lt_of_pos 1680 (show 0 < d by omega)
    have e1 : Int.tmod 1680 d = 1680 % d := Int.tmod_eq_emod_of_nonneg (by decide)
    have e3 : Int.tdiv 1680 d = 1680 / d := Int.tdiv_eq_ediv_of_nonneg (by decide)
    have e4 : 0 ≤ 1680 / d := Int.ediv_nonneg (by decide) (by omega)
    have e5 : 1680 / d ≤ 1680 := Int.ediv_le_self _ (by decide)
    have HDef := Lib.hid (show durB ⟨n, d⟩ = true → tickG ⟨n, d⟩ = n * (1680 / d) from fun h => by simp [tickG, h])
    have e2 : IntKind.i64.wrap (1680 % d) = 1680 % d := IntWalk.i64_in _ (by omega)
    have e6 : IntKind.i64.wrap (1680 / d) = 1680 / d := IntWalk.i64_in _ (by omega)
    by_cases hg : 0 ≤ n ∧ 1680 % d = 0
    · obtain ⟨g1, g2⟩ := hg
      have HF := Lib.hid (show durB ⟨n, d⟩ = true by rw [HD.out, hr]; simp [g1, g2])
      have HG := Lib.hid (HDef.out HF.out)
      obtain ⟨b1, b2⟩ := HB0.out
      rw [HG.out] at b1 b2
      have e7 : IntKind.i64.wrap (n * (1680 / d)) = n * (1680 / d) := IntWalk.i64_in _ (by omega)
      rw [g2] at e1 e2
      go_enter Tryz.func140, Tryz.ntmps140
      go_wp2_with (go_at_call 39; refine (RatValid_any _ _ _).mono ?_; rw [hr]; rintro e w2 ⟨rfl, hb⟩; have x1 := box_below hb; have HB := Lib.hid (allocB hb); have hc := box_cells x1; clear hb x1)
      have q1 := cell_regrown (hc 0)
      go_quiet (fail)
      go_wp2
      go_ret2
      exact ⟨by rw [HG.out, HF.out]; rfl, below_drewN HB.out nq⟩
    · have HF := Lib.hid (show durB ⟨n, d⟩ = false by rw [HD.out, hr, ← Bool.not_eq_true]; simp; intro x y; exact hg ⟨x, y⟩)
      have HG := Lib.hid (show tickG ⟨n, d⟩ = 0 by simp [tickG, HF.out])
      have HN := Lib.hid hg; clear hg
      generalize 1680 % d = M at *
      by_cases hn : 0 ≤ n
      · have hM : ¬ M = 0 := fun e => HN.out ⟨hn, e⟩
        have hM2 : (M != 0) = true := by simpa using hM
        go_enter Tryz.func140, Tryz.ntmps140
        go_wp2_with (go_at_call 39; refine (RatValid_any _ _ _).mono ?_; rw [hr]; rintro e w2 ⟨rfl, hb⟩; have x1 := box_below hb; have HB := Lib.hid (allocB hb); have hc := box_cells x1; clear hb x1)
        go_ret2
        exact ⟨by rw [HG.out, HF.out]; rfl, HB.out⟩
      · go_enter Tryz.func140, Tryz.ntmps140
        go_wp2_with (go_at_call 39; refine (RatValid_any _ _ _).mono ?_; rw [hr]; rintro e w2 ⟨rfl, hb⟩; have x1 := box_below hb; have HB := Lib.hid (allocB hb); have hc := box_cells x1; clear hb x1)
        go_ret2
        exact ⟨by rw [HG.out, HF.out]; rfl, HB.out⟩
set_option maxHeartbeats 1000000 in
theorem isNote_any (s a o : Int) (w : World) : Calls Tryz.prog 143 #[.agg #[.int .i64 s, .int .i64 a, .int .i64 o]] w fun e w' => e = .returned (.bool (isNoteP ⟨s, a, o⟩)) ∧ Below w.heap.size w w' := by
  have HD := Lib.hid (show isNoteP ⟨s, a, o⟩ = (vldB s a o && inB a (-2) 2 && inB o 0 9) from rfl)
  generalize isNoteP ⟨s, a, o⟩ = R at *
  go_enter Tryz.func143, Tryz.ntmps143
  go_wp2_with (first | (go_at_call 158; refine (PValid_any _ _ _ _).mono ?_; generalize vldB s a o = b1 at *; rintro e w2 ⟨rfl, hb⟩; have x1 := box_below hb; have HB := Lib.hid (allocB hb); have hc := box_cells x1; clear hb x1) | (go_at_call 142; refine (nwithin_any _ _ _ _).mono ?_; rintro e w' ⟨rfl, rfl⟩))
  all_goals (go_ret; exact ⟨ret_bool (by rw [HD.out]; simp [*]), HB.out⟩)
theorem ticksI_eq (r : Rt) : ticksI r = if durB r = true then tickG r else -1 := by
  unfold ticksI tickG; split <;> rfl
theorem tickG_zero {r : Rt} (h : durB r = false) : tickG r = 0 := by simp [tickG, h]
theorem noteIn_eq (b : Ba) (n : No) : noteIn b n = (durB n.start && durB n.len && decide (0 < tickG n.len) && decide (tickG n.start + tickG n.len ≤ tickG b.len) && isID n.id && isID n.part && inB n.voice 0 9 && inB n.ossia 0 20 && isNoteP n.pitch) := by
  rw [Bool.eq_iff_iff]
  simp only [noteIn, Bool.and_eq_true, decide_eq_true_eq, ticksI_eq]
  have z1 := tickG_bd n.start
  have z2 := @tickG_zero b.len
  generalize tickG n.start = s at *
  generalize tickG n.len = l at *
  generalize tickG b.len = m at *
  constructor
  · rintro ⟨⟨⟨⟨⟨⟨⟨h1, h2⟩, h3⟩, h4⟩, h5⟩, h6⟩, h7⟩, h8⟩
    have a1 : durB n.start = true := by apply Classical.byContradiction; intro e; rw [if_neg e] at h6; omega
    have a2 : durB n.len = true := by apply Classical.byContradiction; intro e; rw [if_neg e] at h7; omega
    rw [if_pos a2] at h7
    rw [if_pos a1, if_pos a2] at h8
    have a3 : durB b.len = true := by apply Classical.byContradiction; intro e; rw [if_neg e] at h8; omega
    rw [if_pos a3] at h8
    exact ⟨⟨⟨⟨⟨⟨⟨⟨a1, a2⟩, h7⟩, h8⟩, h2⟩, h3⟩, h4⟩, h5⟩, h1⟩
  · rintro ⟨⟨⟨⟨⟨⟨⟨⟨a1, a2⟩, h7⟩, h8⟩, h2⟩, h3⟩, h4⟩, h5⟩, h1⟩
    have a3 : durB b.len = true := by
      cases e : durB b.len
      · have := z2 e; omega
      · rfl
    rw [if_pos a1, if_pos a2, if_pos a3]
    exact ⟨⟨⟨⟨⟨⟨⟨h1, h2⟩, h3⟩, h4⟩, h5⟩, z1.1⟩, h7⟩, h8⟩
open Go.RowKit Go.Sort

set_option maxRecDepth 100000 in
set_option maxHeartbeats 4000000 in
theorem formedN_any (b : Ba) (n : No) (w : World) : Calls Tryz.prog 95 #[.agg #[.int .i64 b.id, .int .i64 b.len.n, .int .i64 b.len.d, .int .i64 b.key], .agg #[.int .i64 n.id, .int .i64 n.part, .int .i64 n.bar, .int .i64 n.voice, .int .i64 n.ossia, .int .i64 n.start.n, .int .i64 n.start.d, .int .i64 n.len.n, .int .i64 n.len.d, .int .i64 n.pitch.s, .int .i64 n.pitch.a, .int .i64 n.pitch.o]] w fun e w' => e = .returned (.bool (noteIn b n)) ∧ Below w.heap.size w w' := by
  have HE := Lib.hid (noteIn_eq b n)
  generalize noteIn b n = R at *
  obtain ⟨s1, s2⟩ := tickG_bd n.start; obtain ⟨l1, l2⟩ := tickG_bd n.len; obtain ⟨m1, m2⟩ := tickG_bd b.len
  obtain ⟨i, id, key⟩ := b
  obtain ⟨bn, bd⟩ := id
  obtain ⟨nid, npart, nbar, nvoice, nossia, ⟨sn, sd⟩, ⟨ln, ld⟩, ⟨ps, pa, po⟩⟩ := n
  simp only at *
  generalize hE1 : durB ⟨sn, sd⟩ = dS at *; have E1 := Lib.hid hE1; clear hE1
  generalize hE2 : tickG ⟨sn, sd⟩ = S at *; have E2 := Lib.hid hE2; clear hE2
  generalize hE3 : durB ⟨ln, ld⟩ = dL at *; have E3 := Lib.hid hE3; clear hE3
  generalize hE4 : tickG ⟨ln, ld⟩ = L at *; have E4 := Lib.hid hE4; clear hE4
  generalize hE5 : durB ⟨bn, bd⟩ = dM at *; have E5 := Lib.hid hE5; clear hE5
  generalize hE6 : tickG ⟨bn, bd⟩ = M at *; have E6 := Lib.hid hE6; clear hE6
  generalize hE7 : isNoteP ⟨ps, pa, po⟩ = P at *; have E7 := Lib.hid hE7; clear hE7
  generalize hE8 : isID nid = b1 at *; have E8 := Lib.hid hE8; clear hE8
  generalize hE9 : isID npart = b2 at *; have E9 := Lib.hid hE9; clear hE9
  generalize hE10 : inB nvoice 0 9 = b3 at *; have E10 := Lib.hid hE10; clear hE10
  generalize hE11 : inB nossia 0 20 = b4 at *; have E11 := Lib.hid hE11; clear hE11
  go_enter Tryz.func95, Tryz.ntmps95
  go_upto_region 1 with (fail)
  obtain ⟨x1, x2, hb⟩ := box2 (w := w) (A := .cells #[.int .i64 i, .int .i64 bn, .int .i64 bd, .int .i64 key] 105) (B := .cells #[.int .i64 nid, .int .i64 npart, .int .i64 nbar, .int .i64 nvoice, .int .i64 nossia, .int .i64 sn, .int .i64 sd, .int .i64 ln, .int .i64 ld, .int .i64 ps, .int .i64 pa, .int .i64 po] 128) (Below.refl _ _)
  generalize (w.alloc (.cells #[.int .i64 i, .int .i64 bn, .int .i64 bd, .int .i64 key] 105)).alloc (.cells #[.int .i64 nid, .int .i64 npart, .int .i64 nbar, .int .i64 nvoice, .int .i64 nossia, .int .i64 sn, .int .i64 sd, .int .i64 ln, .int .i64 ld, .int .i64 ps, .int .i64 pa, .int .i64 po] 128) = W at *
  have HX1 := Lib.hid x1; have HX2 := Lib.hid x2; have HB := Lib.hid hb; have hc1 := box_cells x1; have hc2 := box_cells x2
  clear x1 x2 hb
  go_upto_region 4 with (go_at_call 140; refine (ticks_any _ _ _).mono ?_; (first | rw [E1.out, E2.out] | rw [E3.out, E4.out] | rw [E5.out, E6.out]); rintro e w2 ⟨rfl, hb⟩; replace HX1 := Lib.hid (blk_keep HX1.out hb); replace HX2 := Lib.hid (blk_keep HX2.out hb); replace HB := Lib.hid (HB.out.trans (hb.mono HB.out.size)); clear hb hc1 hc2; have hc1 := box_cells HX1.out; have hc2 := box_cells HX2.out)
  have HG := Lib.hid (rfl : R = R)
  cases dS
  · (go_wp2_with (first | (go_at_call 141; refine (nisID_any _ _).mono ?_; (first | rw [E8.out] | rw [E9.out]); rintro e w' ⟨rfl, rfl⟩) | (go_at_call 142; refine (nwithin_any _ _ _ _).mono ?_; (first | rw [E10.out] | rw [E11.out]); rintro e w' ⟨rfl, rfl⟩) | (go_at_call 143; refine (isNote_any _ _ _ _).mono ?_; rw [E7.out]; rintro e w2 ⟨rfl, hb⟩; replace HX1 := Lib.hid (blk_keep HX1.out hb); replace HX2 := Lib.hid (blk_keep HX2.out hb); replace HB := Lib.hid (HB.out.trans (hb.mono HB.out.size)); clear hb hc1 hc2; have hc1 := box_cells HX1.out; have hc2 := box_cells HX2.out)); go_ret; refine ⟨ret_bool ?_, HB.out⟩; rw [HE.out]; (first | (simp [*]; done) | (simp [*]; intros; omega)))
  cases dL
  · (go_wp2_with (first | (go_at_call 141; refine (nisID_any _ _).mono ?_; (first | rw [E8.out] | rw [E9.out]); rintro e w' ⟨rfl, rfl⟩) | (go_at_call 142; refine (nwithin_any _ _ _ _).mono ?_; (first | rw [E10.out] | rw [E11.out]); rintro e w' ⟨rfl, rfl⟩) | (go_at_call 143; refine (isNote_any _ _ _ _).mono ?_; rw [E7.out]; rintro e w2 ⟨rfl, hb⟩; replace HX1 := Lib.hid (blk_keep HX1.out hb); replace HX2 := Lib.hid (blk_keep HX2.out hb); replace HB := Lib.hid (HB.out.trans (hb.mono HB.out.size)); clear hb hc1 hc2; have hc1 := box_cells HX1.out; have hc2 := box_cells HX2.out)); go_ret; refine ⟨ret_bool ?_, HB.out⟩; rw [HE.out]; (first | (simp [*]; done) | (simp [*]; intros; omega)))
  by_cases c3 : 0 < L
  case neg => (go_wp2_with (first | (go_at_call 141; refine (nisID_any _ _).mono ?_; (first | rw [E8.out] | rw [E9.out]); rintro e w' ⟨rfl, rfl⟩) | (go_at_call 142; refine (nwithin_any _ _ _ _).mono ?_; (first | rw [E10.out] | rw [E11.out]); rintro e w' ⟨rfl, rfl⟩) | (go_at_call 143; refine (isNote_any _ _ _ _).mono ?_; rw [E7.out]; rintro e w2 ⟨rfl, hb⟩; replace HX1 := Lib.hid (blk_keep HX1.out hb); replace HX2 := Lib.hid (blk_keep HX2.out hb); replace HB := Lib.hid (HB.out.trans (hb.mono HB.out.size)); clear hb hc1 hc2; have hc1 := box_cells HX1.out; have hc2 := box_cells HX2.out)); go_ret; refine ⟨ret_bool ?_, HB.out⟩; rw [HE.out]; (first | (simp [*]; done) | (simp [*]; intros; omega)))
  by_cases c4 : S + L ≤ M
  case neg => (go_wp2_with (first | (go_at_call 141; refine (nisID_any _ _).mono ?_; (first | rw [E8.out] | rw [E9.out]); rintro e w' ⟨rfl, rfl⟩) | (go_at_call 142; refine (nwithin_any _ _ _ _).mono ?_; (first | rw [E10.out] | rw [E11.out]); rintro e w' ⟨rfl, rfl⟩) | (go_at_call 143; refine (isNote_any _ _ _ _).mono ?_; rw [E7.out]; rintro e w2 ⟨rfl, hb⟩; replace HX1 := Lib.hid (blk_keep HX1.out hb); replace HX2 := Lib.hid (blk_keep HX2.out hb); replace HB := Lib.hid (HB.out.trans (hb.mono HB.out.size)); clear hb hc1 hc2; have hc1 := box_cells HX1.out; have hc2 := box_cells HX2.out)); go_ret; refine ⟨ret_bool ?_, HB.out⟩; rw [HE.out]; (first | (simp [*]; done) | (simp [*]; intros; omega)))
  cases b1
  · (go_wp2_with (first | (go_at_call 141; refine (nisID_any _ _).mono ?_; (first | rw [E8.out] | rw [E9.out]); rintro e w' ⟨rfl, rfl⟩) | (go_at_call 142; refine (nwithin_any _ _ _ _).mono ?_; (first | rw [E10.out] | rw [E11.out]); rintro e w' ⟨rfl, rfl⟩) | (go_at_call 143; refine (isNote_any _ _ _ _).mono ?_; rw [E7.out]; rintro e w2 ⟨rfl, hb⟩; replace HX1 := Lib.hid (blk_keep HX1.out hb); replace HX2 := Lib.hid (blk_keep HX2.out hb); replace HB := Lib.hid (HB.out.trans (hb.mono HB.out.size)); clear hb hc1 hc2; have hc1 := box_cells HX1.out; have hc2 := box_cells HX2.out)); go_ret; refine ⟨ret_bool ?_, HB.out⟩; rw [HE.out]; (first | (simp [*]; done) | (simp [*]; intros; omega)))
  cases b2
  · (go_wp2_with (first | (go_at_call 141; refine (nisID_any _ _).mono ?_; (first | rw [E8.out] | rw [E9.out]); rintro e w' ⟨rfl, rfl⟩) | (go_at_call 142; refine (nwithin_any _ _ _ _).mono ?_; (first | rw [E10.out] | rw [E11.out]); rintro e w' ⟨rfl, rfl⟩) | (go_at_call 143; refine (isNote_any _ _ _ _).mono ?_; rw [E7.out]; rintro e w2 ⟨rfl, hb⟩; replace HX1 := Lib.hid (blk_keep HX1.out hb); replace HX2 := Lib.hid (blk_keep HX2.out hb); replace HB := Lib.hid (HB.out.trans (hb.mono HB.out.size)); clear hb hc1 hc2; have hc1 := box_cells HX1.out; have hc2 := box_cells HX2.out)); go_ret; refine ⟨ret_bool ?_, HB.out⟩; rw [HE.out]; (first | (simp [*]; done) | (simp [*]; intros; omega)))
  cases b3
  · (go_wp2_with (first | (go_at_call 141; refine (nisID_any _ _).mono ?_; (first | rw [E8.out] | rw [E9.out]); rintro e w' ⟨rfl, rfl⟩) | (go_at_call 142; refine (nwithin_any _ _ _ _).mono ?_; (first | rw [E10.out] | rw [E11.out]); rintro e w' ⟨rfl, rfl⟩) | (go_at_call 143; refine (isNote_any _ _ _ _).mono ?_; rw [E7.out]; rintro e w2 ⟨rfl, hb⟩; replace HX1 := Lib.hid (blk_keep HX1.out hb); replace HX2 := Lib.hid (blk_keep HX2.out hb); replace HB := Lib.hid (HB.out.trans (hb.mono HB.out.size)); clear hb hc1 hc2; have hc1 := box_cells HX1.out; have hc2 := box_cells HX2.out)); go_ret; refine ⟨ret_bool ?_, HB.out⟩; rw [HE.out]; (first | (simp [*]; done) | (simp [*]; intros; omega)))
  cases b4
  · (go_wp2_with (first | (go_at_call 141; refine (nisID_any _ _).mono ?_; (first | rw [E8.out] | rw [E9.out]); rintro e w' ⟨rfl, rfl⟩) | (go_at_call 142; refine (nwithin_any _ _ _ _).mono ?_; (first | rw [E10.out] | rw [E11.out]); rintro e w' ⟨rfl, rfl⟩) | (go_at_call 143; refine (isNote_any _ _ _ _).mono ?_; rw [E7.out]; rintro e w2 ⟨rfl, hb⟩; replace HX1 := Lib.hid (blk_keep HX1.out hb); replace HX2 := Lib.hid (blk_keep HX2.out hb); replace HB := Lib.hid (HB.out.trans (hb.mono HB.out.size)); clear hb hc1 hc2; have hc1 := box_cells HX1.out; have hc2 := box_cells HX2.out)); go_ret; refine ⟨ret_bool ?_, HB.out⟩; rw [HE.out]; (first | (simp [*]; done) | (simp [*]; intros; omega)))
  cases P
  · (go_wp2_with (first | (go_at_call 141; refine (nisID_any _ _).mono ?_; (first | rw [E8.out] | rw [E9.out]); rintro e w' ⟨rfl, rfl⟩) | (go_at_call 142; refine (nwithin_any _ _ _ _).mono ?_; (first | rw [E10.out] | rw [E11.out]); rintro e w' ⟨rfl, rfl⟩) | (go_at_call 143; refine (isNote_any _ _ _ _).mono ?_; rw [E7.out]; rintro e w2 ⟨rfl, hb⟩; replace HX1 := Lib.hid (blk_keep HX1.out hb); replace HX2 := Lib.hid (blk_keep HX2.out hb); replace HB := Lib.hid (HB.out.trans (hb.mono HB.out.size)); clear hb hc1 hc2; have hc1 := box_cells HX1.out; have hc2 := box_cells HX2.out)); go_ret; refine ⟨ret_bool ?_, HB.out⟩; rw [HE.out]; (first | (simp [*]; done) | (simp [*]; intros; omega)))
  (go_wp2_with (first | (go_at_call 141; refine (nisID_any _ _).mono ?_; (first | rw [E8.out] | rw [E9.out]); rintro e w' ⟨rfl, rfl⟩) | (go_at_call 142; refine (nwithin_any _ _ _ _).mono ?_; (first | rw [E10.out] | rw [E11.out]); rintro e w' ⟨rfl, rfl⟩) | (go_at_call 143; refine (isNote_any _ _ _ _).mono ?_; rw [E7.out]; rintro e w2 ⟨rfl, hb⟩; replace HX1 := Lib.hid (blk_keep HX1.out hb); replace HX2 := Lib.hid (blk_keep HX2.out hb); replace HB := Lib.hid (HB.out.trans (hb.mono HB.out.size)); clear hb hc1 hc2; have hc1 := box_cells HX1.out; have hc2 := box_cells HX2.out)); go_ret; refine ⟨ret_bool ?_, HB.out⟩; rw [HE.out]; (first | (simp [*]; done) | (simp [*]; intros; omega)))
open Go.RowKit Go.Sort

theorem zeroIntJ (w : World) : (zeroValue 3).run Tryz.prog w = .ok (.int .i64 0) w := by kernel_rfl
/-- Where a bar is, in a map's own terms. -/
def barM (l : List Ba) (x : Int) : Option Value := (l.findIdx? (fun b => b.id == x)).map fun i => .int .i64 (i : Int)
/-- Block r is a map of bars' indexes. -/
def IdxAt (W : World) (r : Nat) (l : List Ba) : Prop := ∃ m, MapAt W encJ r m ∧ ∀ x, mget m x = barM l x
theorem IdxAt.below {W W' : World} {r : Nat} {l : List Ba} (h : IdxAt W r l) (hb : Below W.heap.size W W') : IdxAt W' r l := by
  obtain ⟨m, h1, h2⟩ := h
  exact ⟨m, h1.below hb, h2⟩
theorem IdxAt.look {W : World} {r : Nat} {l : List Ba} (h : IdxAt W r l) (x : Int) : (Instr.lookup 145 (.map (some r)) (.int .i64 x) false).run Tryz.prog W = .ok ((barM l x).getD (.int .i64 0)) W := by
  obtain ⟨m, h1, h2⟩ := h
  rw [← h2 x]
  exact run_lookup_at Tryz.underlying145 keyJ zeroIntJ h1 x false
theorem IdxAt.look2 {W : World} {r : Nat} {l : List Ba} (h : IdxAt W r l) (x : Int) : (Instr.lookup 145 (.map (some r)) (.int .i64 x) true).run Tryz.prog W = .ok (.tuple #[(barM l x).getD (.int .i64 0), .bool (barM l x).isSome]) W := by
  obtain ⟨m, h1, h2⟩ := h
  rw [← h2 x]
  exact run_lookup_at Tryz.underlying145 keyJ zeroIntJ h1 x true
theorem barM_take {l : List Ba} {k : Nat} (hk : k < l.length) (hn : (l.map Ba.id).Nodup) (x : Int) : barM (l.take (k + 1)) x = if x = l[k].id then some (.int .i64 (k : Int)) else barM (l.take k) x := by
  unfold barM
  rw [List.take_succ_eq_append_getElem hk, List.findIdx?_append]
  by_cases e : x = l[k].id
  · rw [if_pos e]
    have h0 : (l.take k).findIdx? (fun b => b.id == x) = none := by
      rw [List.findIdx?_eq_none_iff]
      intro b hb
      rw [beq_eq_false_iff_ne]
      intro eb
      obtain ⟨j, hj, ej⟩ := List.getElem_of_mem hb
      simp only [List.length_take] at hj
      rw [List.getElem_take] at ej
      have h1 : (l.map Ba.id)[j]'(by simp; omega) = (l.map Ba.id)[k]'(by simp; omega) := by simp [ej, eb, e]
      have := (List.getElem_inj hn).1 h1
      omega
    rw [h0]
    simp [List.findIdx?_cons, e]; omega
  · rw [if_neg e]
    have h0 : [l[k]].findIdx? (fun b => b.id == x) = none := by
      simp [List.findIdx?_cons]; exact fun h => e h.symm
    rw [h0]
    simp
set_option maxRecDepth 100000 in
set_option maxHeartbeats 4000000 in
theorem indexes_any (a : Option Addr) (cap : Nat) (l : List Ba) (w : World) (hl : l.length ≤ 100000) (hm : BaAt w a l) (hn : (l.map Ba.id).Nodup) :
    Calls Tryz.prog 94 #[.slice a l.length cap] w fun e w' => ∃ r, e = .returned (.map (some r)) ∧ IdxAt w' r l ∧ Below w.heap.size w w' := by
  have hmm := @run_makeMap Tryz.prog
  have HM := Lib.hid hm; have HN := Lib.hid hn; clear hm hn
  go_enter Tryz.func94, Tryz.ntmps94
  go_wp2
  have hb0 := (Below.refl w.heap.size w).alloc (Nat.le_refl _) (.map #[] 0)
  have hu0 : IdxAt (w.alloc (.map #[] 0)) w.heap.size (l.take 0) := ⟨[], MapAt.new w encJ, fun x => by simp [mget_nil, barM]⟩
  have HB := Lib.hid hb0; have HU := Lib.hid hu0
  clear hb0 hu0
  generalize w.alloc (.map #[] 0) = w1 at *
  obtain ⟨r, hr⟩ : ∃ r, r = w.heap.size := ⟨_, rfl⟩
  rw [← hr]; rw [← hr] at HU
  have HR := Lib.hid (show w.heap.size ≤ r by omega)
  clear hr
  go_loopw [9] (fun i wr => ∃ k : Nat, k ≤ l.length ∧ i = .int .i64 k ∧ IdxAt wr r (l.take k) ∧ Below w.heap.size w wr) (fun i _ => l.length - (intOf i).toNat)
  case atStart => exact ⟨0, Nat.zero_le _, rfl, HU.out, HB.out⟩
  case round =>
    clear HB HU
    obtain ⟨k, hk, rfl, hu, hb⟩ := hrel
    have HU := Lib.hid hu; have HB := Lib.hid hb
    clear hu hb
    by_cases hlt : k < l.length
    · obtain ⟨b, off, rfl, _, c0, c1, c2, c3⟩ := HM.out.get k hlt
      have g0 := keepE c0 HB.out; have g1 := keepE c1 HB.out; have g2 := keepE c2 HB.out; have g3 := keepE c3 HB.out
      have HT := Lib.hid (barM_take hlt HN.out)
      generalize l[k] = B at *
      obtain ⟨id, ⟨n, d⟩, key⟩ := B
      simp only at *
      clear c0 c1 c2 c3
      go_upto_region 5 with (fail)
      have HX := Lib.hid (heap_alloc_new wr (.cells #[.int .i64 id, .int .i64 n, .int .i64 d, .int .i64 key] 105))
      have hb := (Below.refl wr.heap.size wr).alloc (Nat.le_refl _) (.cells #[.int .i64 id, .int .i64 n, .int .i64 d, .int .i64 key] 105)
      replace HB := Lib.hid (HB.out.trans (hb.mono HB.out.size))
      obtain ⟨m, hmap, hspec⟩ := HU.out.below hb
      have HMap := Lib.hid hmap; have HSpec := Lib.hid hspec
      generalize wr.alloc (.cells #[.int .i64 id, .int .i64 n, .int .i64 d, .int .i64 key] 105) = W at *
      have hc := box_cells HX.out
      clear hb g0 g1 g2 g3 HU hmap hspec
      go_wp2_with (refine wpList_mapUpdate_at rfl (.tmp 14) (.tmp 16) _ 145 (.inl rfl) Tryz.underlying145 keyJ r m rfl HMap.out id rfl (.int .i64 k) rfl ?_; intro w5 hm5 hg5; have HM5 := Lib.hid hm5; have HB5 := Lib.hid (KeepB.below ((KeepB.of_below' (S := []) HB.out).grown hg5 HB.out.size (fun k e => by cases e; exact HR.out))); clear hm5 hg5)
      go_roundw
      case rel => exact ⟨k + 1, by omega, by go_num, ⟨_, HM5.out, fun x => by rw [mget_mput, HT.out, HSpec.out x]⟩, HB5.out⟩
      case measure => simp [intOf]; omega
    · have hkl : l.take k = l := List.take_of_length_le (by omega)
      rw [hkl] at HU
      clear hkl
      go_wp2
      go_ret
      exact ⟨r, rfl, HU.out, HB.out⟩
open Go.RowKit Go.Sort

theorem noteOk_at {bars : List Ba} {n : No} {i : Nat} (h : bars.findIdx? (fun b => b.id == n.bar) = some i) : ∃ hi : i < bars.length, noteOk bars n = noteIn bars[i] n := by
  obtain ⟨hi, h1, h2⟩ := List.findIdx?_eq_some_iff_getElem.1 h
  refine ⟨hi, ?_⟩
  have : bars.find? (fun b => b.id == n.bar) = some bars[i] := by
    rw [List.find?_eq_some_iff_getElem]
    exact ⟨h1, i, hi, rfl, fun j hj => by have := h2 j hj; simpa using this⟩
  simp [noteOk, this]
theorem noteOk_none {bars : List Ba} {n : No} (h : bars.findIdx? (fun b => b.id == n.bar) = none) : noteOk bars n = false := by
  have : bars.find? (fun b => b.id == n.bar) = none := by
    rw [List.find?_eq_none]
    rw [List.findIdx?_eq_none_iff] at h
    intro b hb; rw [h b hb]; simp
  simp [noteOk, this]
theorem notes_bad {bars : List Ba} {l : List No} {k : Nat} (hk : k < l.length) (h : noteOk bars l[k] = false) : notesB bars l = false := by
  have : l.all (noteOk bars) = false := by
    rw [← Bool.not_eq_true]
    intro hh
    have := List.all_eq_true.1 hh l[k] (by simp)
    rw [h] at this; cases this
  simp [notesB, this]
theorem notes_dup {bars : List Ba} {l : List No} (h : ¬ (l.map No.id).Nodup) : notesB bars l = false := by simp [notesB, h]
theorem notes_done {bars : List Ba} {l : List No} (hv : barsB bars = true) (h2 : l.length ≤ 20000) (h : l.all (noteOk bars) = true) (hn : (l.map No.id).Nodup) : notesB bars l = true := by
  simp [notesB, hv, h2, h, hn]
set_option maxRecDepth 100000 in
set_option maxHeartbeats 4000000 in
theorem NotValid_any (ab an : Option Addr) (cb cn : Nat) (bars : List Ba) (l : List No) (w : World) (hlb : bars.length ≤ 100000) (hln : l.length ≤ 100000) (hb : BaAt w ab bars) (hm : NoAt w an l) :
    Calls Tryz.prog 58 #[.slice ab bars.length cb, .slice an l.length cn] w fun e w' => e = .returned (.bool (notesB bars l)) ∧ Below w.heap.size w w' := by
  have HBa := Lib.hid hb; have HM := Lib.hid hm; clear hb hm
  have hmm := @run_makeMap Tryz.prog
  cases hv : barsB bars
  · have HF := Lib.hid (show notesB bars l = false by simp [notesB, hv])
    go_enter Tryz.func58, Tryz.ntmps58
    go_wp2_with (go_at_call 84; refine (MetValid_any _ _ _ _ hlb HBa.out).mono ?_; rw [hv]; rintro e w2 ⟨rfl, hb⟩; have HB := Lib.hid hb; clear hb)
    go_ret
    exact ⟨by rw [HF.out]; rfl, HB.out⟩
  · have HV := Lib.hid hv; clear hv
    by_cases h20 : 20000 < l.length
    · have HF := Lib.hid (show notesB bars l = false by simp [notesB]; omega)
      go_enter Tryz.func58, Tryz.ntmps58
      go_wp2_with (go_at_call 84; refine (MetValid_any _ _ _ _ hlb HBa.out).mono ?_; rw [HV.out]; rintro e w2 ⟨rfl, hb⟩; have HB := Lib.hid hb; clear hb)
      go_ret
      exact ⟨by rw [HF.out]; rfl, HB.out⟩
    · have HN := Lib.hid (show (bars.map Ba.id).Nodup by have := HV.out; simp only [barsB, Bool.and_eq_true, decide_eq_true_eq] at this; exact this.2)
      go_enter Tryz.func58, Tryz.ntmps58
      go_upto_region 4 with (first | (go_at_call 84; refine (MetValid_any _ _ _ _ hlb HBa.out).mono ?_; rw [HV.out]; rintro e w2 ⟨rfl, hb⟩; have HB := Lib.hid hb; clear hb) | (go_at_call 94; refine (indexes_any _ _ _ _ hlb (HBa.out.below HB.out) HN.out).mono ?_; rintro e w3 ⟨r2, rfl, hi, hb⟩; replace HB := Lib.hid (HB.out.trans (hb.mono HB.out.size)); have HI := Lib.hid hi; clear hi hb))
      go_wp2
      have hb0 := (Below.refl w3.heap.size w3).alloc (Nat.le_refl _) (.map #[] 0)
      have hu0 : SeenAt (w3.alloc (.map #[] 0)) w3.heap.size (l.map No.id) 0 := ⟨[], MapAt.new w3 encJ, fun x => by simp [mget_nil]⟩
      have hne : r2 ≠ w3.heap.size := by obtain ⟨m, h1, _⟩ := HI.out; have := h1.lt; omega
      have HU := Lib.hid hu0; replace HI := Lib.hid (HI.out.below hb0)
      have HR := Lib.hid (show w.heap.size ≤ w3.heap.size from HB.out.size)
      replace HB := Lib.hid (HB.out.trans (hb0.mono HB.out.size))
      clear hb0 hu0
      generalize w3.alloc (.map #[] 0) = w4 at *
      generalize w3.heap.size = r at *
      have HNe := Lib.hid hne; clear hne
      go_loopw [24] (fun i wr => ∃ k : Nat, k ≤ l.length ∧ i = .int .i64 k ∧ SeenAt wr r (l.map No.id) k ∧ ((l.map No.id).take k).Nodup ∧ (l.take k).all (noteOk bars) = true ∧ IdxAt wr r2 bars ∧ Below w.heap.size w wr) (fun i _ => l.length - (intOf i).toNat)
      case atStart => exact ⟨0, Nat.zero_le _, rfl, HU.out, by simp, by simp, HI.out, HB.out⟩
      case round =>
        clear HB HU HI
        obtain ⟨k, hk, rfl, hu, hnd, hall, hi, hb⟩ := hrel
        have HU := Lib.hid hu; have HND := Lib.hid hnd; have HB := Lib.hid hb; have HAL := Lib.hid hall; have HI := Lib.hid hi
        clear hu hnd hb hall hi
        by_cases hlt : k < l.length
        · obtain ⟨b, off, rfl, _, c0, c1, c2, c3, c4, c5, c6, c7, c8, c9, c10, c11⟩ := HM.out.get k hlt
          have g0 := keepE c0 HB.out; have g1 := keepE c1 HB.out; have g2 := keepE c2 HB.out; have g3 := keepE c3 HB.out; have g4 := keepE c4 HB.out; have g5 := keepE c5 HB.out; have g6 := keepE c6 HB.out; have g7 := keepE c7 HB.out; have g8 := keepE c8 HB.out; have g9 := keepE c9 HB.out; have g10 := keepE c10 HB.out; have g11 := keepE c11 HB.out
          clear c0 c1 c2 c3 c4 c5 c6 c7 c8 c9 c10 c11
          have hlt' : k < (l.map No.id).length := by simpa using hlt
          have hid : (l.map No.id)[k]'hlt' = l[k].id := by simp
          have hn1 := nodup_take hlt' HND.out
          have hd1 := dup_take hlt'
          have hp1 := fun (m : List (Int × Value)) hspec => seen_put (m := m) hspec hlt'
          rw [hid] at hn1 hd1
          simp only [hid] at hp1
          have HN1 := Lib.hid hn1; have HD1 := Lib.hid hd1; have HP1 := Lib.hid hp1
          have HL1 := Lib.hid (fun w' hb => SeenAt.look (HU.out.below (W' := w') hb) l[k].id)
          have HL2 := Lib.hid (fun w' hb => IdxAt.look2 (HI.out.below (W' := w') hb) l[k].bar)
          have HBad := Lib.hid (notes_bad (bars := bars) hlt); have HOk := Lib.hid (all_take (p := noteOk bars) hlt HAL.out)
          clear hn1 hd1 hp1 hid
          generalize l[k] = n at *
          generalize ((l.map No.id).take k).contains n.id = U at *
          go_upto_region 8 with (fail)
          have HX := Lib.hid (heap_alloc_new wr (.cells #[.int .i64 n.id, .int .i64 n.part, .int .i64 n.bar, .int .i64 n.voice, .int .i64 n.ossia, .int .i64 n.start.n, .int .i64 n.start.d, .int .i64 n.len.n, .int .i64 n.len.d, .int .i64 n.pitch.s, .int .i64 n.pitch.a, .int .i64 n.pitch.o] 128))
          have hb := (Below.refl wr.heap.size wr).alloc (Nat.le_refl _) (.cells #[.int .i64 n.id, .int .i64 n.part, .int .i64 n.bar, .int .i64 n.voice, .int .i64 n.ossia, .int .i64 n.start.n, .int .i64 n.start.d, .int .i64 n.len.n, .int .i64 n.len.d, .int .i64 n.pitch.s, .int .i64 n.pitch.a, .int .i64 n.pitch.o] 128)
          have hlook := HL1.out _ hb
          have hlook2 := HL2.out _ hb
          have HLR := Lib.hid (fun (d : Nat) (os : Array Obj) => HL1.out (grow (redrawn (wr.alloc (.cells #[.int .i64 n.id, .int .i64 n.part, .int .i64 n.bar, .int .i64 n.voice, .int .i64 n.ossia, .int .i64 n.start.n, .int .i64 n.start.d, .int .i64 n.len.n, .int .i64 n.len.d, .int .i64 n.pitch.s, .int .i64 n.pitch.a, .int .i64 n.pitch.o] 128)) d) os) (hb.trans ((below_regrown _ d os).mono hb.size)))
          have HU2 := Lib.hid (HU.out.below hb); have HI2 := Lib.hid (HI.out.below hb)
          replace HB := Lib.hid (HB.out.trans (hb.mono HB.out.size))
          generalize wr.alloc (.cells #[.int .i64 n.id, .int .i64 n.part, .int .i64 n.bar, .int .i64 n.voice, .int .i64 n.ossia, .int .i64 n.start.n, .int .i64 n.start.d, .int .i64 n.len.n, .int .i64 n.len.d, .int .i64 n.pitch.s, .int .i64 n.pitch.a, .int .i64 n.pitch.o] 128) = W at *
          have hc := box_cells HX.out
          clear hb g0 g1 g2 g3 g4 g5 g6 g7 g8 g9 g10 g11 HU HI HL1 HL2
          cases hfi : bars.findIdx? (fun b => b.id == n.bar) with
          | none =>
            have HF := Lib.hid (HBad.out (noteOk_none hfi))
            simp only [barM, hfi, Option.map_none, Option.getD_none, Option.isSome_none] at hlook2
            clear hfi
            go_upto_region 9 with (fail)
            refine wp_quietB (by kernel_rfl) (by kernel_rfl) ?_
            repeat (go_big_quiet_step (fail))
            refine wpQuiet_nil ?_
            intro w5 hb5
            replace HB := Lib.hid (HB.out.trans (hb5.mono HB.out.size))
            clear hb5 hlook hlook2 hc
            go_wp2
            go_ret
            exact ⟨by rw [HF.out]; rfl, HB.out⟩
          | some i =>
            obtain ⟨hi, hok⟩ := noteOk_at hfi
            simp only [barM, hfi, Option.map_some, Option.getD_some, Option.isSome_some] at hlook2
            have HOkE := Lib.hid hok
            obtain ⟨bb, boff, rfl, _, d0, d1, d2, d3⟩ := HBa.out.get i hi
            have e0 := cell_regrown (keepE d0 HB.out); have e1 := cell_regrown (keepE d1 HB.out); have e2 := cell_regrown (keepE d2 HB.out); have e3 := cell_regrown (keepE d3 HB.out)
            clear d0 d1 d2 d3 hfi hok
            have HFm := Lib.hid (formedN_any bars[i] n)
            generalize bars[i] = B at *
            generalize noteIn B n = F at *
            cases U
            · have HN2 := Lib.hid (HN1.out (by first | rfl | trivial))
              go_upto_region 9 with (fail)
              have q0 := cell_regrown (hc 0); have q1 := cell_regrown (hc 1); have q2 := cell_regrown (hc 2); have q3 := cell_regrown (hc 3); have q4 := cell_regrown (hc 4); have q5 := cell_regrown (hc 5); have q6 := cell_regrown (hc 6); have q7 := cell_regrown (hc 7); have q8 := cell_regrown (hc 8); have q9 := cell_regrown (hc 9); have q10 := cell_regrown (hc 10); have q11 := cell_regrown (hc 11)
              have hq := HLR.out
              refine wp_quietB (by kernel_rfl) (by kernel_rfl) ?_
              repeat (go_big_quiet_step (fail))
              go_big_quiet_step ((go_at_call 95; refine Calls.regrown_of (HFm.out _)))
              repeat (go_big_quiet_step (fail))
              refine wpQuiet_nil ?_
              intro w5 hb5
              replace HB := Lib.hid (HB.out.trans (hb5.mono HB.out.size))
              replace HX := Lib.hid (blk_keep HX.out hb5)
              replace HI2 := Lib.hid (HI2.out.below hb5)
              obtain ⟨m, hmap, hspec⟩ := HU2.out.below hb5
              have HMap := Lib.hid hmap; have HSpec := Lib.hid (HP1.out m hspec)
              clear hb5 hlook hlook2 hc q0 q1 q2 q3 q4 q5 q6 q7 q8 q9 q10 q11 e0 e1 e2 e3 hq hmap hspec HU2 HLR HP1
              have hc := box_cells HX.out
              cases F
              · have HF := Lib.hid (HBad.out HOkE.out)
                go_wp2
                go_ret
                exact ⟨by rw [HF.out]; rfl, HB.out⟩
              · have HO := Lib.hid (HOk.out HOkE.out)
                go_wp2_with (refine wpList_mapUpdate_at rfl (.tmp 52) (.tmp 54) _ 147 (.inl rfl) Tryz.underlying147 keyJ r m rfl HMap.out n.id rfl (.bool true) rfl ?_; intro w6 hm6 hg6; have HM6 := Lib.hid hm6; have HI6 := Lib.hid (show IdxAt w6 r2 bars from by obtain ⟨mi, i1, i2⟩ := HI2.out; exact ⟨mi, i1.kept hg6 (fun e => HNe.out (by cases e; rfl)), i2⟩); have HB6 := Lib.hid (KeepB.below ((KeepB.of_below' (S := []) HB.out).grown hg6 HB.out.size (fun k e => by cases e; exact HR.out))); clear hm6 hg6)
                go_roundw
                case rel => exact ⟨k + 1, by omega, by go_num, ⟨_, HM6.out, HSpec.out⟩, HN2.out, HO.out, HI6.out, HB6.out⟩
                case measure => simp [intOf]; omega
            · have HF := Lib.hid (notes_dup (bars := bars) (HD1.out (by first | rfl | trivial)))
              go_upto_region 9 with (fail)
              have q0 := cell_regrown (hc 0)
              have hq := HLR.out
              refine wp_quietB (by kernel_rfl) (by kernel_rfl) ?_
              repeat (go_big_quiet_step (fail))
              refine wpQuiet_nil ?_
              intro w5 hb5
              replace HB := Lib.hid (HB.out.trans (hb5.mono HB.out.size))
              clear hb5 hlook hlook2 hc q0 e0 e1 e2 e3
              go_wp2
              go_ret
              exact ⟨by rw [HF.out]; rfl, HB.out⟩
        · have HF := Lib.hid (notes_done (l := l) HV.out (by omega) (by have := HAL.out; rwa [List.take_of_length_le (by omega)] at this) (by have := HND.out; rwa [List.take_of_length_le (by simp; omega)] at this))
          go_wp2
          go_ret
          exact ⟨by rw [HF.out]; rfl, HB.out⟩
open Go.RowKit Go.Sort

/-- Nothing old is written, and no draw is taken back. -/
structure Up (w w' : World) : Prop where
  below : Below w.heap.size w w'
  drawn : w.drawn ≤ w'.drawn
theorem Up.refl (w : World) : Up w w := ⟨Below.refl _ _, Nat.le_refl _⟩
theorem Up.trans {w w1 w2 : World} (a : Up w w1) (b : Up w1 w2) : Up w w2 := ⟨a.below.trans (b.below.mono a.below.size), Nat.le_trans a.drawn b.drawn⟩
theorem Up.alloc (w : World) (o : Obj) : Up w (w.alloc o) := ⟨(Below.refl _ _).alloc (Nat.le_refl _) _, Nat.le_refl _⟩
theorem Up.grown (w : World) (n : Nat) (os : Array Obj) : Up w (grow (w.drewN n) os) := ⟨below_regrown w (w.drawn + n) os, Nat.le_add_right _ _⟩
theorem Up.grow {w w' : World} (h : Up w w') : ∃ p : GrownBy, w' = Go.Sort.grow (w.drewN p.n) p.os := by
  obtain ⟨p, hp⟩ := regrown_of_below h.below
  have hd : w'.drawn = p.d := by rw [hp]; rfl
  refine ⟨⟨p.d - w.drawn, p.os⟩, ?_⟩
  rw [hp]
  have := h.drawn
  simp only [redrawn, World.drewN]
  rw [show w.drawn + (p.d - w.drawn) = p.d by omega]
theorem wp_quietU {P : Program} {id : Nat} {Q : Exit → Act → World → Prop} {a : Act} {w : World} {l : List Oper} (hm : P.follows .mixedOrders = true) (hB : Region.lexB .any l.toArray = true)
    (h : wpQuiet P l.toArray (fun w' => ∃ p : GrownBy, w' = Go.Sort.grow (w.drewN p.n) p.os) (fun a' => ∀ w', Up w w' → Q .normal a' w') l a) : (Code.region id l.toArray true).wp P Q a w := by
  refine wp_region_quiet_grown hm hB ?_
  have e : (fun a' => ∀ w', (∃ p : GrownBy, w' = Go.Sort.grow (w.drewN p.n) p.os) → Q .normal a' w') = fun a' => ∀ w', Up w w' → Q .normal a' w' := by
    funext a'
    exact propext ⟨fun h w' hb => h w' hb.grow, fun h w' ⟨p, hp⟩ => h w' (hp ▸ Up.grown w p.n p.os)⟩
  rw [e]
  exact h
theorem wp_tailU {P : Program} {id : Nat} {Q : Exit → Act → World → Prop} {a : Act} {w : World} {l : List Oper} (n : Nat) (hm : P.follows .mixedOrders = true) (hB : Region.lexTailB .any l.toArray n = true)
    (h : wpQuiet P l.toArray (fun w' => ∃ p : GrownBy, w' = Go.Sort.grow (w.drewN p.n) p.os) (fun a' => ∀ w', Up w w' → wpList P l.toArray Q (l.drop n) a' w') (l.take n) a) : (Code.region id l.toArray true).wp P Q a w := by
  refine wp_region_quiet_tail (C := fun w' => ∃ p : GrownBy, w' = Go.Sort.grow (w.drewN p.n) p.os) n hm hB ⟨⟨1, #[]⟩, by rw [grow_empty]; rfl⟩ ?_
  have e : (fun a' => ∀ w', (∃ p : GrownBy, w' = Go.Sort.grow (w.drewN p.n) p.os) → wpList P l.toArray Q (l.drop n) a' w') = fun a' => ∀ w', Up w w' → wpList P l.toArray Q (l.drop n) a' w' := by
    funext a'
    exact propext ⟨fun h w' hb => h w' hb.grow, fun h w' ⟨p, hp⟩ => h w' (hp ▸ Up.grown w p.n p.os)⟩
  rw [e]
  exact h
theorem _root_.Go.Calls.up_of {P : Program} {f : FuncId} {args : Array Value} {w : World} {n : Nat} {os : Array Obj} {v : Value}
    (h : Calls P f args (Go.Sort.grow (w.drewN n) os) fun e w' => e = .returned v ∧ Up (Go.Sort.grow (w.drewN n) os) w') : Calls P f args (Go.Sort.grow (w.drewN n) os) fun e w'' => e = .returned v ∧ ∃ p : GrownBy, w'' = Go.Sort.grow (w.drewN p.n) p.os :=
  h.mono fun _ _ ⟨he, hb⟩ => ⟨he, ((Up.grown w n os).trans hb).grow⟩
theorem cell_up {w : World} {a : Addr} {v : Value} (h : w.cell? a = some v) (n : Nat) (os : Array Obj) : (Go.Sort.grow (w.drewN n) os).cell? a = some v := cell_grown (World.block_lt_of_cell? _ _ h) h n os
theorem Up.set {w w' : World} (h : Up w w') {p : Addr} (hp : w.heap.size ≤ p.block) (v : Value) : Up w (w'.setCell p v) := ⟨h.below.setCell hp v, h.drawn⟩
theorem Up.drewN {w w' : World} (h : Up w w') (n : Nat) : Up w (w'.drewN n) := ⟨below_drewN h.below n, Nat.le_trans h.drawn (Nat.le_add_right _ _)⟩

theorem size_up (n : Int) (w : World) (h0 : -1000000000 ≤ n) (h1 : n ≤ 1000000000) : Calls Tryz.prog 124 #[.int .i64 n] w fun e w' => e = .returned (.int .i64 (n.natAbs : Int)) ∧ Up w w' :=
  (size_any n w h0 h1).mono fun e w' ⟨he, hw⟩ => ⟨he, hw ▸ Up.refl w⟩
theorem common_up (b : Nat) : ∀ (y x : Nat) (w : World), x ≤ 1000000000 → y ≤ 1000000000 → w.heap[b]? = some (.cells #[commonV b] 94 (0, 0)) →
    Calls Tryz.prog 123 #[.int .i64 x, .int .i64 y, .pointer (some ⟨b, 0, none⟩)] w fun e w' => e = .returned (.int .i64 (Nat.gcd x y : Nat)) ∧ Up w w' := by
  intro y
  induction y using Nat.strongRecOn with
  | _ y IH =>
  intro x w hx hy hb
  have HI := Lib.hid IH; clear IH
  by_cases h0 : y = 0
  · subst h0
    go_enter Tryz.func123, Tryz.ntmps123
    go_wp2
    go_ret
    exact ⟨by simp, Up.refl _⟩
  · have hy0 : ¬ ((y : Int) = 0) := by omega
    have hlt : x % y < y := Nat.mod_lt _ (by omega)
    have e1 : (x : Int).tmod (y : Int) = ((x % y : Nat) : Int) := by rw [Int.tmod_eq_emod_of_nonneg (by omega)]; rfl
    have e2 : IntKind.i64.wrap ((x % y : Nat) : Int) = ((x % y : Nat) : Int) := IntWalk.i64_in _ (by omega)
    have HX := Lib.hid hb
    have hc := box_cells hb
    have g0 := cell_up (hc 0)
    simp only [commonV] at g0
    have HG := Lib.hid (show Nat.gcd y (x % y) = Nat.gcd x y by rw [Nat.gcd_comm, ← Nat.gcd_rec, Nat.gcd_comm])
    clear hb hc
    generalize x % y = r at *
    go_enter Tryz.func123, Tryz.ntmps123
    go_wp2
    refine wp_quietU (by kernel_rfl) (by kernel_rfl) ?_
    repeat (go_big_quiet_step (first | (go_at_call 123; (try rw [e1]); (try rw [e2]); refine Calls.up_of (HI.out r hlt y _ hy (by omega) (blk_keep HX.out (Up.grown _ _ _).below))))) 
    refine wpQuiet_nil ?_
    intro w2 hb2
    go_wp2
    go_ret
    exact ⟨ret_int (by rw [HG.out]), hb2⟩
open Go.RowKit Go.Sort

set_option maxHeartbeats 1000000 in
theorem reduced_up (n d : Int) (w : World) (h0 : -1000000000 ≤ n) (h1 : n ≤ 1000000000) (h2 : 1 ≤ d) (h3 : d ≤ 1000000) : Calls Tryz.prog 77 #[.agg #[.int .i64 n, .int .i64 d]] w fun e w' =>
    e = .returned (.agg #[.int .i64 (n.tdiv (Nat.gcd n.natAbs d.natAbs : Nat)), .int .i64 (d / (Nat.gcd n.natAbs d.natAbs : Nat))]) ∧ Up w w' := by
  have HGG := Lib.hid (rfl : Nat.gcd n.natAbs d.natAbs = Nat.gcd n.natAbs d.natAbs)
  have hG : 0 < Nat.gcd n.natAbs d.natAbs := Nat.gcd_pos_of_pos_right _ (by omega)
  have hGd : Nat.gcd n.natAbs d.natAbs ≤ d.natAbs := Nat.gcd_le_right _ (by omega)
  go_enter Tryz.func77, Tryz.ntmps77
  go_upto_region 2 with (fail)
  obtain ⟨x1, x2, x3, hb⟩ := box3 (w := w) (A := .cells #[.int .i64 n, .int .i64 d] 109) (B := .cells #[.int .i64 0, .int .i64 0] 109) (C := .cells #[.nilFunc] 94) (Below.refl _ _)
  have hu : Up w (((w.alloc (.cells #[.int .i64 n, .int .i64 d] 109)).alloc (.cells #[.int .i64 0, .int .i64 0] 109)).alloc (.cells #[.nilFunc] 94)) := ⟨hb, Nat.le_refl _⟩
  generalize ((w.alloc (.cells #[.int .i64 n, .int .i64 d] 109)).alloc (.cells #[.int .i64 0, .int .i64 0] 109)).alloc (.cells #[.nilFunc] 94) = W at *
  replace x3 : W.heap[w.heap.size + 1 + 1]? = _ := x3
  have HX1 := Lib.hid x1; have HX2 := Lib.hid x2; have HX3 := Lib.hid x3; have HB := Lib.hid hu
  have hc3 := box_cells x3; have hf3 := box_free x3
  clear x1 x2 x3 hb hu
  go_wp2
  have y1 : (W.setCell ⟨w.heap.size + 1 + 1, 0, none⟩ (commonV (w.heap.size + 1 + 1))).heap[w.heap.size]? = _ := (heap_setCell_other _ _ _ _ (show _ ≠ _ by simp <;> omega)).trans HX1.out
  have y2 : (W.setCell ⟨w.heap.size + 1 + 1, 0, none⟩ (commonV (w.heap.size + 1 + 1))).heap[w.heap.size + 1]? = _ := (heap_setCell_other _ _ _ _ (show _ ≠ _ by simp <;> omega)).trans HX2.out
  have y3 : (W.setCell ⟨w.heap.size + 1 + 1, 0, none⟩ (commonV (w.heap.size + 1 + 1))).heap[w.heap.size + 1 + 1]? = some (.cells #[commonV (w.heap.size + 1 + 1)] 94 (0, 0)) := heap_setCell_same _ _ _ _ _ _ HX3.out
  have yb := HB.out.set (p := ⟨w.heap.size + 1 + 1, 0, none⟩) (by simp <;> omega) (commonV (w.heap.size + 1 + 1))
  replace HX1 := Lib.hid y1; replace HX2 := Lib.hid y2; replace HX3 := Lib.hid y3; replace HB := Lib.hid yb
  clear y1 y2 y3 yb hc3 hf3
  have hcv : commonV (w.heap.size + 1 + 1) = .func (Fn.func 123) #[] #[.pointer (some ⟨w.heap.size + 1 + 1, 0, none⟩)] := rfl
  rw [← hcv]
  generalize W.setCell ⟨w.heap.size + 1 + 1, 0, none⟩ (commonV (w.heap.size + 1 + 1)) = V at *
  have hz := lt_blk HX3.out
  have g1 := cell_up (box_cells HX1.out 0); have g2 := cell_up (box_cells HX1.out 1); have g3 := cell_up (box_cells HX3.out 0)
  rw [hcv] at g3
  simp only [hcv]
  refine wp_quietU (by kernel_rfl) (by kernel_rfl) ?_
  repeat (go_big_quiet_step (first | (go_at_call 124; refine Calls.up_of (size_up _ _ (by omega) (by omega))) | (go_at_call 123; refine Calls.up_of (common_up _ _ _ _ (by omega) (by omega) (blk_keep HX3.out (Up.grown _ _ _).below)))))
  refine wpQuiet_nil ?_
  intro w2 hb2
  replace HX1 := Lib.hid (blk_keep HX1.out hb2.below); replace HX2 := Lib.hid (blk_keep HX2.out hb2.below); replace HB := Lib.hid (HB.out.trans hb2)
  have hz2 := lt_blk HX2.out
  clear hb2 g1 g2 g3 HX3 hz
  generalize hGe : Nat.gcd n.natAbs d.natAbs = G at *
  replace HGG := Lib.hid hGe
  clear hGe
  have hG0 : ¬ ((G : Int) = 0) := by omega
  have hq1 := Int.natAbs_tdiv_le_natAbs n G; have hq2 := Int.natAbs_tdiv_le_natAbs d G
  have e1 : IntKind.i64.wrap (n.tdiv G) = n.tdiv G := IntWalk.i64_in _ (by omega)
  have e2 : IntKind.i64.wrap (d.tdiv G) = d.tdiv G := IntWalk.i64_in _ (by omega)
  have hc1 := box_cells HX1.out; have hc2 := box_cells HX2.out; have hf2 := box_free HX2.out
  have hnd : ¬ d < 0 := by omega
  go_upto_region 6 with (fail)
  have g1 := cell_up (box_cells HX1.out 0); have g2 := cell_up (box_cells HX1.out 1)
  refine wp_tailU 9 (by kernel_rfl) (by kernel_rfl) ?_
  simp only [List.take_succ_cons, List.take_zero, List.drop_succ_cons, List.drop_zero]
  repeat (go_big_quiet_step (fail))
  refine wpQuiet_nil ?_
  intro w3 hb3
  replace HX2 := Lib.hid (blk_keep HX2.out hb3.below); replace HB := Lib.hid (HB.out.trans hb3)
  replace hz2 := lt_blk HX2.out
  clear hb3 g1 g2 HX1 hc1
  replace hc2 := box_cells HX2.out; replace hf2 := box_free HX2.out
  go_wp2
  have e3 : d.tdiv G = d / G := Int.tdiv_eq_ediv_of_nonneg hnd
  exact bodyPost_ret (v := .agg #[.int .i64 (n.tdiv G), .int .i64 (d / G)]) (by simp [results, Tryz.results77, go_sem, hc2, hf2, e3]) rfl ⟨by rw [HGG.out], (HB.out.set (by simp <;> omega) _).set (by simp <;> omega) _⟩
set_option maxHeartbeats 1000000 in
theorem RatValid_up (n d : Int) (w : World) : Calls Tryz.prog 39 #[.agg #[.int .i64 n, .int .i64 d]] w fun e w' => e = .returned (.bool (rtOk ⟨n, d⟩)) ∧ Up w w' := by
  by_cases hv : (1 ≤ d ∧ d ≤ 1000000) ∧ -1000000000 ≤ n ∧ n ≤ 1000000000
  · obtain ⟨⟨h2, h3⟩, h0, h1⟩ := hv
    have HR := Lib.hid (red_ok n d h2)
    have hRt := Lib.hid (show rtOk ⟨n, d⟩ = decide (Nat.gcd n.natAbs d.natAbs = 1) by simp [rtOk, inB, h0, h1, h2, h3])
    go_enter Tryz.func39, Tryz.ntmps39
    go_wp2
    have HX1 := Lib.hid (heap_alloc_new w (.cells #[.int .i64 n, .int .i64 d] 32))
    have HB := Lib.hid (Up.alloc w (.cells #[.int .i64 n, .int .i64 d] 32))
    generalize w.alloc (.cells #[.int .i64 n, .int .i64 d] 32) = W at *
    have g1 := cell_up (box_cells HX1.out 0); have g2 := cell_up (box_cells HX1.out 1)
    refine wp_quietU (by kernel_rfl) (by kernel_rfl) ?_
    have heq := eql_fr (n.tdiv (Nat.gcd n.natAbs d.natAbs : Nat)) (d / (Nat.gcd n.natAbs d.natAbs : Nat)) n d
    repeat (go_big_quiet_step (first | (go_at_call 77; refine Calls.up_of (reduced_up _ _ _ h0 h1 h2 h3))))
    refine wpQuiet_nil ?_
    intro w2 hb2
    go_wp2
    go_ret
    exact ⟨ret_bool (by rw [hRt.out, Bool.eq_iff_iff]; simpa using HR.out), HB.out.trans hb2⟩
  · go_enter Tryz.func39, Tryz.ntmps39
    go_wp2
    all_goals first | omega | (go_ret; exact ⟨ret_bool (by rw [Eq.comm, ← Bool.not_eq_true, rtOk_iff]; intro h; exact hv ⟨h.1, h.2.1⟩), Up.alloc _ _⟩)
set_option maxHeartbeats 1000000 in
theorem ticks_up (n d : Int) (w : World) : Calls Tryz.prog 140 #[.agg #[.int .i64 n, .int .i64 d]] w fun e w' => e = .returned (.tuple #[.int .i64 (tickG ⟨n, d⟩), .bool (durB ⟨n, d⟩)]) ∧ Up w w' := by
  have HD := Lib.hid (show durB ⟨n, d⟩ = (rtOk ⟨n, d⟩ && decide (0 ≤ n) && decide (1680 % d = 0)) from rfl)
  have HB0 := Lib.hid (tickG_bd ⟨n, d⟩)
  cases hr : rtOk ⟨n, d⟩
  · have HF := Lib.hid (show durB ⟨n, d⟩ = false by rw [HD.out, hr]; rfl)
    have HG := Lib.hid (show tickG ⟨n, d⟩ = 0 by simp [tickG, HF.out])
    go_enter Tryz.func140, Tryz.ntmps140
    go_wp2_with (go_at_call 39; refine (RatValid_up _ _ _).mono ?_; rw [hr]; rintro e w2 ⟨rfl, hb⟩; have HB := Lib.hid ((Up.alloc _ _).trans hb); clear hb)
    go_ret2
    exact ⟨by rw [HG.out, HF.out]; rfl, HB.out⟩
  · obtain ⟨⟨q1, q2⟩, _⟩ := (rt_iff n d).1 hr
    have e0 : ¬ d = 0 := by omega
    have m1 := Int.emod_nonneg 1680 e0; have m2 := Int.emod_lt_of_pos 1680 (show 0 < d by omega)
    have e1 : Int.tmod 1680 d = 1680 % d := Int.tmod_eq_emod_of_nonneg (by decide)
    have e3 : Int.tdiv 1680 d = 1680 / d := Int.tdiv_eq_ediv_of_nonneg (by decide)
    have e4 : 0 ≤ 1680 / d := Int.ediv_nonneg (by decide) (by omega)
    have e5 : 1680 / d ≤ 1680 := Int.ediv_le_self _ (by decide)
    have HDef := Lib.hid (show durB ⟨n, d⟩ = true → tickG ⟨n, d⟩ = n * (1680 / d) from fun h => by simp [tickG, h])
    have e2 : IntKind.i64.wrap (1680 % d) = 1680 % d := IntWalk.i64_in _ (by omega)
    have e6 : IntKind.i64.wrap (1680 / d) = 1680 / d := IntWalk.i64_in _ (by omega)
    by_cases hg : 0 ≤ n ∧ 1680 % d = 0
    · obtain ⟨g1, g2⟩ := hg
      have HF := Lib.hid (show durB ⟨n, d⟩ = true by rw [HD.out, hr]; simp [g1, g2])
      have HG := Lib.hid (HDef.out HF.out)
      obtain ⟨b1, b2⟩ := HB0.out
      rw [HG.out] at b1 b2
      have e7 : IntKind.i64.wrap (n * (1680 / d)) = n * (1680 / d) := IntWalk.i64_in _ (by omega)
      rw [g2] at e1 e2
      go_enter Tryz.func140, Tryz.ntmps140
      go_wp2_with (go_at_call 39; refine (RatValid_up _ _ _).mono ?_; rw [hr]; rintro e w2 ⟨rfl, hb⟩; have x1 := box_below hb.below; have HB := Lib.hid ((Up.alloc _ _).trans hb); have hc := box_cells x1; clear hb x1)
      have q1 := cell_up (hc 0)
      go_quiet (fail)
      go_wp2
      go_ret2
      exact ⟨by rw [HG.out, HF.out]; rfl, HB.out.drewN nq⟩
    · have HF := Lib.hid (show durB ⟨n, d⟩ = false by rw [HD.out, hr, ← Bool.not_eq_true]; simp; intro x y; exact hg ⟨x, y⟩)
      have HG := Lib.hid (show tickG ⟨n, d⟩ = 0 by simp [tickG, HF.out])
      have HN := Lib.hid hg; clear hg
      generalize 1680 % d = M at *
      by_cases hn : 0 ≤ n
      · have hM : ¬ M = 0 := fun e => HN.out ⟨hn, e⟩
        have hM2 : (M != 0) = true := by simpa using hM
        go_enter Tryz.func140, Tryz.ntmps140
        go_wp2_with (go_at_call 39; refine (RatValid_up _ _ _).mono ?_; rw [hr]; rintro e w2 ⟨rfl, hb⟩; have x1 := box_below hb.below; have HB := Lib.hid ((Up.alloc _ _).trans hb); have hc := box_cells x1; clear hb x1)
        go_ret2
        exact ⟨by rw [HG.out, HF.out]; rfl, HB.out⟩
      · go_enter Tryz.func140, Tryz.ntmps140
        go_wp2_with (go_at_call 39; refine (RatValid_up _ _ _).mono ?_; rw [hr]; rintro e w2 ⟨rfl, hb⟩; have x1 := box_below hb.below; have HB := Lib.hid ((Up.alloc _ _).trans hb); have hc := box_cells x1; clear hb x1)
        go_ret2
        exact ⟨by rw [HG.out, HF.out]; rfl, HB.out⟩
set_option maxHeartbeats 400000 in
theorem PValid_up (s a o : Int) (w : World) : Calls Tryz.prog 158 #[.agg #[.int .i64 s, .int .i64 a, .int .i64 o]] w fun e w' => e = .returned (.bool (vldB s a o)) ∧ Up w w' := by
  go_enter Tryz.func158, Tryz.ntmps158
  go_wp2_with ((go_at_call 178; refine (within_any _ _ _ _).mono ?_; rintro e w' ⟨rfl, rfl⟩))
  all_goals (go_ret; refine ⟨?_, Up.alloc _ _⟩; simp_all [vldB])
set_option maxHeartbeats 400000 in
theorem number_up (s a o : Int) (w : World) (h0 : 0 ≤ s) (h1 : s ≤ 6) (h2 : -1000 ≤ o) (h3 : o ≤ 1000) (h4 : -1000 ≤ a) (h5 : a ≤ 1000) (hE : Env w) : Calls Tryz.prog 170 #[.agg #[.int .i64 s, .int .i64 a, .int .i64 o]] w fun e w' => e = .returned (.int .i64 (12 * o + natI s + a)) ∧ Up w w' := by
  obtain ⟨j, rfl⟩ := Int.eq_ofNat_of_zero_le h0
  have hz := hE.lt
  have hc := hE.nat j (by omega)
  obtain ⟨hn0, hn1⟩ := natI_bd j h0 h1
  have hj : j < 7 := by omega
  generalize natI j = N at *
  go_enter Tryz.func170, Tryz.ntmps170
  go_wp2
  go_quiet (fail)
  go_wp2
  go_ret
  exact ⟨rfl, (Up.alloc _ _).drewN nq⟩
set_option maxHeartbeats 400000 in
theorem Number_up (s a o : Int) (w : World) (hE : Env w) : Calls Tryz.prog 144 #[.agg #[.int .i64 s, .int .i64 a, .int .i64 o]] w fun e w' => e = .returned (.tuple #[.int .i64 (numberR s a o).1, .int .i64 (numberR s a o).2]) ∧ Up w w' := by
  have HE := Lib.hid hE; clear hE
  cases hv : vldB s a o
  · go_enter Tryz.func144, Tryz.ntmps144
    go_wp2_with ((go_at_call 158; refine (PValid_up _ _ _ _).mono ?_; rintro e w' ⟨rfl, hb⟩; have HX := Lib.hid (box_below hb.below); have hc := box_cells HX.out; have HB := Lib.hid ((Up.alloc _ _).trans hb); clear hb))
    go_ret2
    exact ⟨ret_ii (by simp [numberR, hv]) (by simp [numberR, hv]), HB.out⟩
  · have hbd := (vld_iff s a o).1 hv
    obtain ⟨⟨p1, p2⟩, ⟨p3, p4⟩, p5, p6⟩ := hbd
    go_enter Tryz.func144, Tryz.ntmps144
    go_wp2_with (first | (go_at_call 158; refine (PValid_up _ _ _ _).mono ?_; rintro e w' ⟨rfl, hb⟩; have HX := Lib.hid (box_below hb.below); have hc := box_cells HX.out; have HB := Lib.hid ((Up.alloc _ _).trans hb); clear hb) | (go_at_call 170; refine (number_up _ _ _ _ (by omega) (by omega) (by omega) (by omega) (by omega) (by omega) (HE.out.below HB.out.below)).mono ?_; rintro e w2 ⟨rfl, hb⟩; replace HB := Lib.hid (HB.out.trans hb); clear hb))
    go_ret2
    exact ⟨ret_ii (by simp [numberR, hv]) (by simp [numberR, hv]), HB.out⟩
open Go.RowKit Go.Sort Go.Shelf

theorem or_take {l : List Int} {k : Nat} (hk : k < l.length) (h : ∀ x ∈ l.take k, x = 0) (h0 : l[k] ≠ 0) : orL l = l[k] := by
  induction l generalizing k with
  | nil => simp at hk
  | cons x l ih =>
    cases k with
    | zero => simp at h0 ⊢; simp [orL, h0]
    | succ k =>
      have hx : x = 0 := h x (by simp)
      subst hx
      simp only [List.getElem_cons_succ] at h0 ⊢
      rw [orL, if_pos rfl]
      exact ih (by simpa using hk) (fun y hy => h y (by simp [hy])) h0
theorem or_none {l : List Int} (h : ∀ x ∈ l, x = 0) : orL l = 0 := by
  induction l with
  | nil => rfl
  | cons x l ih =>
    have hx : x = 0 := h x (by simp)
    subst hx
    rw [orL, if_pos rfl]
    exact ih fun y hy => h y (by simp [hy])
set_option maxHeartbeats 1000000 in
theorem OrI_any (a : Option Addr) (cap : Nat) (l : List Int) (w : World) (hl : l.length ≤ 1000) (hm : InAt w a l) : Calls Tryz.prog 149 #[.slice a l.length cap] w fun e w' => e = .returned (.int .i64 (orL l)) ∧ w = w' := by
  have HM := Lib.hid hm; clear hm
  go_enter Tryz.func149, Tryz.ntmps149
  go_wp2
  go_loopw [8] (fun i wr => ∃ k : Nat, k ≤ l.length ∧ i = .int .i64 k ∧ (∀ x ∈ l.take k, x = 0) ∧ wr = w) (fun i _ => l.length - (intOf i).toNat)
  case atStart => exact ⟨0, Nat.zero_le _, rfl, by simp, rfl⟩
  case round =>
    obtain ⟨k, hk, rfl, hz, rfl⟩ := hrel
    have HZ := Lib.hid hz; clear hz
    by_cases hlt : k < l.length
    · obtain ⟨b, off, rfl, c0⟩ := HM.out.get k hlt
      have HT := Lib.hid (or_take hlt HZ.out)
      have HS := Lib.hid (show l[k] = 0 → ∀ x ∈ l.take (k + 1), x = 0 by
        intro h0 x hx
        rw [List.take_succ_eq_append_getElem hlt] at hx
        rcases List.mem_append.1 hx with hx | hx
        · exact HZ.out x hx
        · simp at hx; rw [hx, h0])
      generalize l[k] = X at *
      by_cases hX : X = 0
      · subst hX
        go_wp2
        go_roundw
        case rel => exact ⟨k + 1, by omega, by go_num, HS.out (by first | rfl | trivial), by first | rfl | trivial⟩
        case measure => simp [intOf]; omega
      · have HX := Lib.hid (HT.out hX)
        go_wp2
        go_ret
        exact ⟨ret_int HX.out.symm, rfl⟩
    · have HR := Lib.hid (or_none (l := l) (by have := HZ.out; rwa [List.take_of_length_le (by omega)] at this))
      go_wp2
      go_ret
      exact ⟨ret_int HR.out.symm, rfl⟩
theorem ownR_mk (w : World) (B : Nat) (E : TypeId) (sz : Nat) (hb : B ≤ w.heap.size) : OwnR (w.alloc (.cells #[] E)) B E sz (.slice (some ⟨w.heap.size, 0, none⟩) 0 0) [] :=
  ⟨by simp, World.ownsRow_made w #[] 0 hb (Nat.zero_le _) (by simp)⟩
theorem eltNo : Elt Tryz.prog 24 128 12 96 No.cells := ⟨Tryz.underlying24, ⟨.agg #[.int .i64 0, .int .i64 0, .int .i64 0, .int .i64 0, .int .i64 0, .int .i64 0, .int .i64 0, .int .i64 0, .int .i64 0, .int .i64 0, .int .i64 0, .int .i64 0], by kernel_rfl, rfl⟩, by decide, by decide, fun _ => rfl, fun x u hu => by simp [No.cells] at hu; rcases hu with rfl | rfl | rfl | rfl | rfl | rfl | rfl | rfl | rfl | rfl | rfl | rfl <;> rfl⟩
theorem nil_eq_someN (b off n cap : Nat) (w : World) : (binOp BinOp.eql 24 (.slice (some ⟨b, off, none⟩) n cap) (.slice none 0 0)).run Tryz.prog w = .ok (.bool false) w := by kernel_rfl
set_option maxRecDepth 100000 in
theorem CloneN_any (a : Option Addr) (cap : Nat) (l : List No) (w : World) (h0 : l ≠ []) (hl : l.length ≤ 1000) (hr : NoAt w a l) :
    Calls Tryz.prog 146 #[.slice a l.length cap] w fun e w' => ∃ v, e = .returned v ∧ OwnR w' w.heap.size 128 12 v (l.map No.cells) ∧ Below w.heap.size w w' := by
  obtain ⟨d, l', rfl⟩ := List.exists_cons_of_ne_nil h0
  obtain ⟨b, off, rfl, _⟩ := hr 0 d.cells rfl
  have HR := Lib.hid hr; clear hr
  have hq := nil_eq_someN b off (d :: l').length cap w
  generalize d :: l' = l at *
  go_enter Tryz.func146, Tryz.ntmps146

  go_wp2_with (at_builtin; refine appE eltNo rfl (.tmp 5) (.tmp 6) rfl w.heap.size _ [] rfl (ownR_mk _ _ _ _ (Nat.le_refl _)) _ _ _ l rfl rfl (fun e => by cases e) (SlAt.alloc HR.out _) (by simp; omega) (by simp) ?_; intro v2 w2 ho2 hg2; have HO2 := Lib.hid ho2; have HB2 := Lib.hid (below_grown ((Below.refl w.heap.size w).alloc (Nat.le_refl _) _) (ownR_mk _ w.heap.size 128 12 (Nat.le_refl _)) (by simp) hg2); clear ho2 hg2)
  go_ret
  exact ⟨_, rfl, HO2.out, HB2.out⟩
open Go.RowKit Go.Sort Go.Shelf

theorem MapAt.same {κ : Type} {enc : κ → Value} {w w' : World} {r : Nat} {m : List (κ × Value)} (h : MapAt w enc r m) (e : w'.heap[r]? = w.heap[r]?) : MapAt w' enc r m := by
  obtain ⟨⟨es, c, h1, h2⟩, h3⟩ := h; exact ⟨⟨es, c, e.trans h1, h2⟩, h3⟩
theorem lex_ntrans {xs ys zs : List Int} (h1 : xs.length = ys.length) (h2 : ys.length = zs.length) (a : lexLt xs ys = false) (b : lexLt ys zs = false) : lexLt xs zs = false := by
  cases h : lexLt xs zs
  · rfl
  · exfalso
    by_cases e1 : xs = ys
    · subst e1; rw [h] at b; cases b
    · by_cases e2 : ys = zs
      · subst e2; rw [h] at a; cases a
      · rcases lex_total h1 e1 with c | c
        · rw [c] at a; cases a
        rcases lex_total h2 e2 with d | d
        · rw [d] at b; cases b
        have := lex_trans (lex_trans d c) h
        rw [lex_irrefl] at this; cases this
section
variable {α : Type} [Inhabited α] {enc : α → List Value} {sz : Nat}
theorem holds_ofK (hsz : 0 < sz) {w : World} {g : Nat} {cur : Array Value} {E : TypeId} {L : List α} (hc : w.heap[g]? = some (.cells cur E (0, 0))) (hs : SlAt w (some ⟨g, 0, none⟩) sz (L.map enc)) : HoldsK enc sz w g 0 L.toArray := by
  intro t ht
  rw [size_flatK] at ht
  have ht2 : t / sz < L.length := by simp at ht; exact (Nat.div_lt_iff_lt_mul hsz).2 ht
  refine ⟨?_, by simp [World.frozen?, hc]⟩
  rw [get_flatK _ _ _ _ ht]
  obtain ⟨b, off, e, _, hl, hcl⟩ := hs (t / sz) (enc L[t / sz]) (by simp [ht2])
  cases e
  have hm : t % sz < (enc L[t / sz]).length := by rw [hl]; exact Nat.mod_lt _ hsz
  have := hcl (t % sz) (enc L[t / sz])[t % sz] (by simp [hm])
  rw [show 0 + t / sz * sz + t % sz = 0 + t by rw [Nat.zero_add, Nat.zero_add, Nat.mul_comm]; exact Nat.div_add_mod _ _] at this
  rw [this]
  have e1 : (L.toArray)[t / sz]! = L[t / sz] := by simp [getElem!_pos, ht2]
  rw [e1, getElem!_pos (enc L[t / sz]) (t % sz) hm]; rfl
theorem slat_ofK (hlen : ∀ x, (enc x).length = sz) {w : World} {g : Nat} {L : List α} (hg : g < w.heap.size) (hh : HoldsK enc sz w g 0 L.toArray) : SlAt w (some ⟨g, 0, none⟩) sz (L.map enc) := fun i r hr => by
  have hi : i < L.length := by have := (List.getElem?_eq_some_iff.1 hr).1; simpa using this
  have he : r = enc L[i] := by have := (List.getElem?_eq_some_iff.1 hr).2; simp at this; exact this.symm
  subst he
  refine ⟨g, 0, rfl, hg, hlen _, fun j u hu => ?_⟩
  have hj : j < sz := by have := (List.getElem?_eq_some_iff.1 hu).1; rwa [hlen] at this
  have := (hh.cell (i := i) (c := j) (by simpa using hi) hj).1
  rw [this]
  have e1 : (L.toArray)[i]! = L[i] := by simp [getElem!_pos, hi]
  rw [e1, getElem!_pos (enc L[i]) j (by rw [hlen]; exact hj)]
  exact congrArg some (List.getElem?_eq_some_iff.1 hu).2
theorem size_sortedK (w : World) (g n : Nat) (d : Array α) (os : Array Obj) : w.heap.size ≤ (sortWorldK enc sz w g 0 n d os).heap.size := by
  simp [sortWorldK, putRowK, grow, putRow, mapBlock, Sort.ahead]
theorem below_sortedK {B : Nat} {w : World} {g n : Nat} {d : Array α} {os : Array Obj} (hB : B ≤ w.heap.size) (hg : B ≤ g) : RowKit.Below B w (sortWorldK enc sz w g 0 n d os) := by
  have h1 := Lib.below_putRow (enc := id) (q := n) (d := flatK enc sz d) (RowKit.Below.refl B w) hg
  exact ⟨rfl, rfl, rfl, size_sortedK _ _ _ _ _, fun k hk => by
    have := h1.size
    rw [← h1.block k hk]
    unfold sortWorldK putRowK grow
    exact Array.getElem?_append_left (by omega)⟩
end
end Go.Proofs.YtcelciomhngajaaGreatDoor
/- notes.sorted's comparator, walked. -/
namespace Go.Proofs.YtcelciomhngajaaGreatDoor
set_option linter.unusedSimpArgs false
set_option linter.unusedVariables false
open Go.RowKit Go.Sort Go.Shelf

/-- What the comparator wants to know of a note. -/
structure NB (bars : List Ba) (n : No) (i : Nat) : Prop where
  lt : i < bars.length
  look : barM bars n.bar = some (.int .i64 (i : Int))
  at_ : barAt bars n.bar = (i : Int)
  vld : vldB n.pitch.s n.pitch.a n.pitch.o = true
  dur : ticksI n.start = tickG n.start
  part : 1 ≤ n.part ∧ n.part ≤ 1000000
  id : 1 ≤ n.id ∧ n.id ≤ 1000000
  voice : 0 ≤ n.voice ∧ n.voice ≤ 9
theorem nb_of {bars : List Ba} {n : No} (h : noteOk bars n = true) : ∃ i, NB bars n i := by
  cases hf : bars.findIdx? (fun b => b.id == n.bar) with
  | none => rw [noteOk_none hf] at h; cases h
  | some i =>
    obtain ⟨hi, he⟩ := noteOk_at hf
    rw [he, noteIn_eq] at h
    simp only [Bool.and_eq_true, decide_eq_true_eq] at h
    obtain ⟨⟨⟨⟨⟨⟨⟨⟨h1, h2⟩, h3⟩, h4⟩, h5⟩, h6⟩, h7⟩, h8⟩, h9⟩ := h
    simp only [isNoteP, Bool.and_eq_true] at h9
    exact ⟨i, hi, by simp [barM, hf], by simp [barAt, hf], h9.1.1, by rw [ticksI_eq, if_pos h1], (inB_iff _ _ _).1 h6, (inB_iff _ _ _).1 h5, (inB_iff _ _ _).1 h7⟩
theorem inAt_row {w : World} {b : Nat} {cs : Array Value} {T : TypeId} {fr : Nat × Nat} {l : List Int} (h : w.heap[b]? = some (.cells cs T fr)) (e : cs.toList = l.map fun n => Value.int .i64 n) : InAt w (some ⟨b, 0, none⟩) l := fun i r hr => by
  rw [List.getElem?_map] at hr
  cases hi : l[i]? with
  | none => rw [hi] at hr; cases hr
  | some n =>
    rw [hi] at hr
    simp only [Option.map_some, Option.some.injEq] at hr
    subst hr
    refine ⟨b, 0, rfl, (Array.getElem?_eq_some_iff.1 h).1, rfl, fun j v hv => ?_⟩
    have hj : j = 0 := by
      have := (List.getElem?_eq_some_iff.1 hv).1
      simp [inRow] at this; omega
    subst hj
    simp only [inRow, List.getElem?_cons_zero, Option.some.injEq] at hv
    subst hv
    rw [box_cells h, Nat.zero_add, Nat.mul_one, Nat.add_zero, ← Array.getElem?_toList, e, List.getElem?_map, hi]; rfl
set_option maxRecDepth 100000 in
set_option maxHeartbeats 8000000 in
theorem cmpN_up (bars : List Ba) (x y : No) (i j : Nat) (hx : NB bars x i) (hy : NB bars y j) (hlb : bars.length ≤ 100000) (bt r : Nat) (w : World) (hE : Env w) (h3 : w.heap[bt]? = some (.cells #[.map (some r)] 145 (0, 0))) (hI : IdxAt w r bars) :
    Calls Tryz.prog 148 #[.agg #[.int .i64 x.id, .int .i64 x.part, .int .i64 x.bar, .int .i64 x.voice, .int .i64 x.ossia, .int .i64 x.start.n, .int .i64 x.start.d, .int .i64 x.len.n, .int .i64 x.len.d, .int .i64 x.pitch.s, .int .i64 x.pitch.a, .int .i64 x.pitch.o], .agg #[.int .i64 y.id, .int .i64 y.part, .int .i64 y.bar, .int .i64 y.voice, .int .i64 y.ossia, .int .i64 y.start.n, .int .i64 y.start.d, .int .i64 y.len.n, .int .i64 y.len.d, .int .i64 y.pitch.s, .int .i64 y.pitch.a, .int .i64 y.pitch.o], .pointer (some ⟨bt, 0, none⟩)] w fun e w' => e = .returned (.int .i64 (orL (diffL (keysL bars x) (keysL bars y)))) ∧ Up w w' := by
  have HR := Lib.hid (show diffL (keysL bars x) (keysL bars y) = [(i : Int) - j, x.part - y.part, tickG x.start - tickG y.start, x.voice - y.voice, (numberR x.pitch.s x.pitch.a x.pitch.o).1 - (numberR y.pitch.s y.pitch.a y.pitch.o).1, x.id - y.id] by
    simp [diffL, keysL, hx.at_, hy.at_, hx.dur, hy.dur, numberR, hx.vld, hy.vld, soundI])
  have HL1 := Lib.hid (fun w' hb => by have := (hI.below (W' := w') hb).look x.bar; rwa [hx.look, Option.getD_some] at this : ∀ w', Below w.heap.size w w' → (Instr.lookup 145 (.map (some r)) (.int .i64 x.bar) false).run Tryz.prog w' = .ok (.int .i64 (i : Int)) w')
  have HL2 := Lib.hid (fun w' hb => by have := (hI.below (W' := w') hb).look y.bar; rwa [hy.look, Option.getD_some] at this : ∀ w', Below w.heap.size w w' → (Instr.lookup 145 (.map (some r)) (.int .i64 y.bar) false).run Tryz.prog w' = .ok (.int .i64 (j : Int)) w')
  have hil := hx.lt; have hjl := hy.lt
  obtain ⟨t1, t2⟩ := tickG_bd x.start; obtain ⟨t3, t4⟩ := tickG_bd y.start
  obtain ⟨p1, p2⟩ := hx.part; obtain ⟨p3, p4⟩ := hy.part; obtain ⟨q1, q2⟩ := hx.id; obtain ⟨q3, q4⟩ := hy.id; obtain ⟨v1, v2⟩ := hx.voice; obtain ⟨v3, v4⟩ := hy.voice
  have nb1 := num_bd x.pitch; have nb2 := num_bd y.pitch
  have en1 : numI x.pitch = (numberR x.pitch.s x.pitch.a x.pitch.o).1 := (num_R _ _ _).symm
  have en2 : numI y.pitch = (numberR y.pitch.s y.pitch.a y.pitch.o).1 := (num_R _ _ _).symm
  rw [en1] at nb1; rw [en2] at nb2
  obtain ⟨n1, n2⟩ := nb1; obtain ⟨n3, n4⟩ := nb2
  clear hx hy hI en1 en2
  have HE := Lib.hid hE; have H3 := Lib.hid h3; clear hE h3
  generalize keysL bars x = KX at *; generalize keysL bars y = KY at *
  obtain ⟨xid, xpart, xbar, xvoice, xossia, ⟨xsn, xsd⟩, ⟨xln, xld⟩, ⟨xs, xa, xo⟩⟩ := x
  obtain ⟨yid, ypart, ybar, yvoice, yossia, ⟨ysn, ysd⟩, ⟨yln, yld⟩, ⟨ys, ya, yo⟩⟩ := y
  simp only at *
  generalize hE1 : tickG ⟨xsn, xsd⟩ = S1 at *; generalize hE2 : tickG ⟨ysn, ysd⟩ = S2 at *
  generalize hE3 : numberR xs xa xo = N1 at *; generalize hE4 : numberR ys ya yo = N2 at *
  obtain ⟨N1, M1⟩ := N1; obtain ⟨N2, M2⟩ := N2
  simp only at *
  have E1 := Lib.hid hE1; have E2 := Lib.hid hE2; have E3 := Lib.hid hE3; have E4 := Lib.hid hE4
  clear hE1 hE2 hE3 hE4
  have w1 : IntKind.i64.wrap ((i : Int) - j) = (i : Int) - j := IntWalk.i64_in _ (by omega)
  have w2 : IntKind.i64.wrap (xpart - ypart) = xpart - ypart := IntWalk.i64_in _ (by omega)
  have w3 : IntKind.i64.wrap (S1 - S2) = S1 - S2 := IntWalk.i64_in _ (by omega)
  have w4 : IntKind.i64.wrap (xvoice - yvoice) = xvoice - yvoice := IntWalk.i64_in _ (by omega)
  have w5 : IntKind.i64.wrap (N1 - N2) = N1 - N2 := IntWalk.i64_in _ (by omega)
  have w6 : IntKind.i64.wrap (xid - yid) = xid - yid := IntWalk.i64_in _ (by omega)
  clear t1 t2 t3 t4 p1 p2 p3 p4 q1 q2 q3 q4 v1 v2 v3 v4 n1 n2 n3 n4 hil hjl
  go_enter Tryz.func148, Tryz.ntmps148
  go_upto_region 1 with (fail)
  obtain ⟨x1, x2, hb⟩ := box2 (w := w) (A := .cells #[.int .i64 xid, .int .i64 xpart, .int .i64 xbar, .int .i64 xvoice, .int .i64 xossia, .int .i64 xsn, .int .i64 xsd, .int .i64 xln, .int .i64 xld, .int .i64 xs, .int .i64 xa, .int .i64 xo] 128) (B := .cells #[.int .i64 yid, .int .i64 ypart, .int .i64 ybar, .int .i64 yvoice, .int .i64 yossia, .int .i64 ysn, .int .i64 ysd, .int .i64 yln, .int .i64 yld, .int .i64 ys, .int .i64 ya, .int .i64 yo] 128) (Below.refl _ _)
  have hu : Up w ((w.alloc (.cells #[.int .i64 xid, .int .i64 xpart, .int .i64 xbar, .int .i64 xvoice, .int .i64 xossia, .int .i64 xsn, .int .i64 xsd, .int .i64 xln, .int .i64 xld, .int .i64 xs, .int .i64 xa, .int .i64 xo] 128)).alloc (.cells #[.int .i64 yid, .int .i64 ypart, .int .i64 ybar, .int .i64 yvoice, .int .i64 yossia, .int .i64 ysn, .int .i64 ysd, .int .i64 yln, .int .i64 yld, .int .i64 ys, .int .i64 ya, .int .i64 yo] 128)) := ⟨hb, Nat.le_refl _⟩
  generalize (w.alloc (.cells #[.int .i64 xid, .int .i64 xpart, .int .i64 xbar, .int .i64 xvoice, .int .i64 xossia, .int .i64 xsn, .int .i64 xsd, .int .i64 xln, .int .i64 xld, .int .i64 xs, .int .i64 xa, .int .i64 xo] 128)).alloc (.cells #[.int .i64 yid, .int .i64 ypart, .int .i64 ybar, .int .i64 yvoice, .int .i64 yossia, .int .i64 ysn, .int .i64 ysd, .int .i64 yln, .int .i64 yld, .int .i64 ys, .int .i64 ya, .int .i64 yo] 128) = W at *
  have HX1 := Lib.hid x1; have HX2 := Lib.hid x2; have HX3 := Lib.hid (blk_keep H3.out hb); have HB := Lib.hid hu; have hc1 := box_cells x1; have hc2 := box_cells x2; have hc3 := box_cells HX3.out
  clear x1 x2 hb hu
  go_upto_region 5 with (first | (go_at_call 140; refine (ticks_up _ _ _).mono ?_; (first | rw [E1.out] | rw [E2.out]); rintro e w2 ⟨rfl, hb⟩; replace HX1 := Lib.hid (blk_keep HX1.out hb.below); replace HX2 := Lib.hid (blk_keep HX2.out hb.below); replace HX3 := Lib.hid (blk_keep HX3.out hb.below); replace HB := Lib.hid (HB.out.trans hb); clear hb hc1 hc2 hc3; have hc1 := box_cells HX1.out; have hc2 := box_cells HX2.out; have hc3 := box_cells HX3.out) | (go_at_call 144; refine (Number_up _ _ _ _ (HE.out.below HB.out.below)).mono ?_; (first | rw [E3.out] | rw [E4.out]); rintro e w2 ⟨rfl, hb⟩; replace HX1 := Lib.hid (blk_keep HX1.out hb.below); replace HX2 := Lib.hid (blk_keep HX2.out hb.below); replace HX3 := Lib.hid (blk_keep HX3.out hb.below); replace HB := Lib.hid (HB.out.trans hb); clear hb hc1 hc2 hc3; have hc1 := box_cells HX1.out; have hc2 := box_cells HX2.out; have hc3 := box_cells HX3.out))
  have HO := Lib.hid (show orL [(i : Int) - j, xpart - ypart, S1 - S2, xvoice - yvoice, N1 - N2, xid - yid] = orL (diffL KX KY) from congrArg orL HR.out.symm)
  have HC := Lib.hid (fun (b : Nat) (W' : World) (hx : W'.heap[b]? = some (.cells #[.int .i64 ((i : Int) - j), .int .i64 (xpart - ypart), .int .i64 (S1 - S2), .int .i64 (xvoice - yvoice), .int .i64 (N1 - N2), .int .i64 (xid - yid)] 3 (0, 0))) => OrI_any (some ⟨b, 0, none⟩) 6 [(i : Int) - j, xpart - ypart, S1 - S2, xvoice - yvoice, N1 - N2, xid - yid] W' (by simp) (inAt_row hx (by rfl)))
  replace HC := Lib.hid (fun b W' hx => (HO.out ▸ HC.out b W' hx : Calls Tryz.prog 149 #[.slice (some ⟨b, 0, none⟩) 6 6] W' fun e w' => e = .returned (.int .i64 (orL (diffL KX KY))) ∧ W' = w'))
  obtain ⟨ANS, hANS⟩ : ∃ A, A = orL (diffL KX KY) := ⟨_, rfl⟩
  have HA := Lib.hid hANS
  rw [← hANS] at HC
  clear hANS HO HR
  have hl1 := HL1.out _ HB.out.below; have hl2 := HL2.out _ HB.out.below
  go_wp2_with (fail)
  refine (HC.out _ _ (heap_alloc_new _ _)).mono ?_
  rintro e w9 ⟨rfl, rfl⟩
  go_wp2
  go_ret
  exact ⟨ret_int HA.out, HB.out.trans (Up.alloc _ _)⟩
end Go.Proofs.YtcelciomhngajaaGreatDoor
/- slices.SortFunc over notes by their keys; for not too many notes. -/
namespace Go.Proofs.YtcelciomhngajaaGreatDoor
set_option linter.unusedSimpArgs false
set_option linter.unusedVariables false
open Go.RowKit Go.Sort Go.Shelf

/-- Notes whose bar is known, and whose numbers are small. -/
abbrev NoR (bars : List Ba) := { n : No // ∃ i, NB bars n i }
def encN (bars : List Ba) (x : NoR bars) : List Value := x.1.cells
def cfN (bars : List Ba) (x y : NoR bars) : Int := orL (diffL (keysL bars x.1) (keysL bars y.1))
theorem keys_len (bars : List Ba) (x y : No) : (keysL bars x).length = (keysL bars y).length := rfl
theorem lt_cfN (bars : List Ba) (x y : NoR bars) : ltOf (cfN bars) x y = beforeB bars x.1 y.1 := or_neg (keys_len bars x.1 y.1)
theorem swoN (bars : List Ba) : SWO (ltOf (cfN bars)) where
  irrefl x := by rw [lt_cfN]; exact lex_irrefl _
  trans x y z h1 h2 := by rw [lt_cfN] at *; exact lex_trans h1 h2
  ntrans x y z h1 h2 := by rw [lt_cfN] at *; exact lex_ntrans (keys_len _ _ _) (keys_len _ _ _) h1 h2
theorem cmpN (bars : List Ba) [Inhabited (NoR bars)] (hlb : bars.length ≤ 100000) (g bt r size : Nat) (w : World) (hE : Env w) (h3 : w.heap[bt]? = some (.cells #[.map (some r)] 145 (0, 0))) (hI : IdxAt w r bars) (he : 0 < g) (hb : bt < g) (hr : r < g) (hg : g ≤ w.heap.size) :
    CmpLays Tryz.prog 148 #[.pointer (some ⟨bt, 0, none⟩)] (encN bars) 12 (cfN bars) g 0 size w := by
  intro m os dk _ x y
  obtain ⟨x, i, hx⟩ := x
  obtain ⟨y, j, hy⟩ := y
  have hB : RowKit.Below g w (sortWorldK (encN bars) 12 w g 0 m dk os) := below_sortedK hg (Nat.le_refl _)
  generalize sortWorldK (encN bars) 12 w g 0 m dk os = W at *
  have hE' : Env W := ⟨fun j hj => (hB.cell (p := ⟨0, j, none⟩) he).trans (hE.nat j hj)⟩
  have hI' : IdxAt W r bars := by
    obtain ⟨mm, h1, h2⟩ := hI
    exact ⟨mm, h1.same (hB.block r hr), h2⟩
  exact (cmpN_up bars x y i j hx hy hlb bt r W hE' ((hB.block bt hb).trans h3) hI').mono fun e w' ⟨he, hu⟩ => ⟨he, by obtain ⟨p, hp⟩ := hu.grow; exact ⟨p.n, p.os, hp⟩⟩
theorem lift_no {bars : List Ba} {l : List No} (h : l.all (noteOk bars) = true) : ∃ L : List (NoR bars), L.map Subtype.val = l := by
  induction l with
  | nil => exact ⟨[], rfl⟩
  | cons d l ih =>
    rw [List.all_cons, Bool.and_eq_true] at h
    obtain ⟨L, e⟩ := ih h.2
    exact ⟨⟨d, nb_of h.1⟩ :: L, by simp [e]⟩
theorem encN_map (bars : List Ba) (L : List (NoR bars)) : L.map (encN bars) = (L.map Subtype.val).map No.cells := by simp [encN, Function.comp_def]
/-- What the sort says. -/
def SortNPost (B : Nat) (bars : List Ba) (v : Value) (l : List No) (w : World) (e : Ending) (w' : World) : Prop :=
  ∃ (s : List No) (g cap : Nat), e = .returned (.tuple #[]) ∧ s.Perm l ∧ (s.Pairwise fun a b => beforeB bars b a = false) ∧ v = .slice (some ⟨g, 0, none⟩) s.length cap ∧ SlOk (some ⟨g, 0, none⟩) s.length cap ∧ NoAt w' (some ⟨g, 0, none⟩) s ∧ RowKit.Below B w w' ∧ B ≤ g
theorem sortN_any (B : Nat) (bars : List Ba) (hlb : bars.length ≤ 100000) (v : Value) (l : List No) (bt r : Nat) (w : World) (h0 : l ≠ []) (hl : l.length ≤ 100000) (hid : l.all (noteOk bars) = true) (o : OwnR w B 128 12 v (l.map No.cells)) (hB : B ≤ w.heap.size) (hE : Env w) (h3 : w.heap[bt]? = some (.cells #[.map (some r)] 145 (0, 0))) (hI : IdxAt w r bars) (he : 0 < B) (hb : bt < B) (hr : r < B) :
    Calls Tryz.prog 147 #[v, .func (.func 148) #[] #[.pointer (some ⟨bt, 0, none⟩)]] w (SortNPost B bars v l w) := by
  obtain ⟨L, rfl⟩ := lift_no hid
  obtain ⟨a, cap0, ev, hok, hs⟩ := o.slAt
  obtain ⟨_, h1, h2⟩ := o
  rcases h2 with ⟨_, h2⟩ | ⟨g, cap, cur, rfl, hg, hc, h3', h4, h5, h6⟩
  · exact absurd (List.length_eq_zero_iff.1 (by simpa using h2)) h0
  cases ev
  rw [← encN_map] at hs
  haveI : Inhabited (NoR bars) := ⟨L.head (by rintro rfl; exact h0 rfl)⟩
  have hlt : g < w.heap.size := lt_blk hc
  have eg : ∀ args w, (callFunc 148 args).run Tryz.prog w = .ok (.enter 148 args) w := enters_of Tryz.func148 (by kernel_rfl) rfl
  have hcon := AnyQ.slices_SortFunc (P := Tryz.prog) Lay.sortN 12 (fun w => by kernel_rfl) (fun w => by kernel_rfl) (encN bars) (fun _ => rfl) (fun x v hv => eltNo.one x.1 v hv) (cfN bars) (swoN bars) 148 #[.pointer (some ⟨bt, 0, none⟩)] g 0 cap0 L.toArray w eg (cmpN bars hlb g bt r _ w hE h3 hI (by omega) (by omega) (by omega) (by omega)) (holds_ofK (by decide) hc hs) hlt (by simp at hl ⊢; omega)
  simp only [List.length_map, List.size_toArray] at hcon ⊢
  refine Calls.mono hcon ?_
  rintro e w' ⟨rfl, d', n, os, hp, hso, rfl⟩
  obtain ⟨hsz, _, hp⟩ := hp
  have hh := holdsK_sortWorldK_c (encN bars) 12 w g 0 L.toArray d' n os (holds_ofK (by decide) hc hs) hlt hsz
  refine ⟨d'.toList.map Subtype.val, g, cap0, rfl, ?_, ?_, ?_, ?_, ?_, below_sortedK hB hg, hg⟩
  · have e1 : d'.extract 0 L.length = d' := by simp at hsz; rw [← hsz]; simp
    have e2 : L.toArray.extract 0 L.length = L.toArray := by simp
    rw [e1, e2] at hp
    exact hp.map Subtype.val
  · rw [List.pairwise_map, List.pairwise_iff_getElem]
    intro i j hi hj hij
    have h7 := hso i j (Nat.zero_le _) hij (by simp at hsz hj ⊢; omega)
    rw [lt_cfN] at h7
    simp only [Array.length_toList] at hi hj
    rw [getElem!_pos d' i hi, getElem!_pos d' j hj] at h7
    simpa using h7
  · simp [hsz]
  · have : (d'.toList.map Subtype.val).length = (List.map No.cells (List.map Subtype.val L)).length := by simp [hsz]
    rw [this]; exact hok
  · show SlAt _ _ _ _
    rw [← encN_map]
    exact slat_ofK (enc := encN bars) (sz := 12) (fun _ => rfl) (Nat.lt_of_lt_of_le hlt (size_sortedK _ _ _ _ _)) (by simpa using hh)
end Go.Proofs.YtcelciomhngajaaGreatDoor
/- notes.sorted, notes.Sort: walked. -/
namespace Go.Proofs.YtcelciomhngajaaGreatDoor
set_option linter.unusedSimpArgs false
set_option linter.unusedVariables false
open Go.RowKit Go.Sort Go.Shelf

/-- Notes in their order. -/
def sortN (bars : List Ba) (l : List No) : List No := l.mergeSort fun a b => !beforeB bars b a
theorem keys_inj {bars : List Ba} {a b : No} (h : keysL bars a = keysL bars b) : a.id = b.id := by
  simp [keysL] at h; exact h.2.2.2.2.2
theorem sortN_perm (bars : List Ba) (l : List No) : (sortN bars l).Perm l := List.mergeSort_perm _ _
theorem strict_of {bars : List Ba} {s : List No} (hn : (s.map No.id).Nodup) (h : s.Pairwise fun a b => beforeB bars b a = false) : s.Pairwise fun a b => beforeB bars a b = true := by
  rw [List.pairwise_iff_getElem] at *
  intro i j hi hj hij
  have h1 := h i j hi hj hij
  have hne : keysL bars s[i] ≠ keysL bars s[j] := fun e => by
    have h4 := keys_inj e
    have h3 : (s.map No.id)[i]'(by simpa using hi) = (s.map No.id)[j]'(by simpa using hj) := by rw [List.getElem_map, List.getElem_map]; exact h4
    have := (List.getElem_inj hn).1 h3
    omega
  unfold beforeB at h1 ⊢
  rcases lex_total (keys_len bars s[i] s[j]) hne with h2 | h2
  · exact h2
  · rw [h2] at h1; cases h1
theorem sortN_sorted (bars : List Ba) (l : List No) : (sortN bars l).Pairwise fun a b => beforeB bars b a = false := by
  have := List.pairwise_mergeSort (le := fun a b => !beforeB bars b a) (fun a b c h1 h2 => by
    simp only [Bool.not_eq_true'] at *
    exact lex_ntrans (xs := keysL bars c) (ys := keysL bars b) (zs := keysL bars a) rfl rfl h2 h1) (fun a b => by
    cases h : beforeB bars b a
    · rfl
    · have h2 : beforeB bars a b = false := lex_asymm (xs := keysL bars b) (ys := keysL bars a) h
      rw [h2]; rfl) l
  exact this.imp fun h => by simpa using h
/-- Whatever is in order and has the same members, is this list. -/
theorem sortN_uniq {bars : List Ba} {l s : List No} (hn : (l.map No.id).Nodup) (hp : s.Perm l) (h : s.Pairwise fun a b => beforeB bars b a = false) : s = sortN bars l :=
  sorted_eq (key := keysL bars) (hp.trans (sortN_perm bars l).symm) (strict_of ((hp.map No.id).nodup_iff.2 hn) h) (strict_of (((sortN_perm bars l).map No.id).nodup_iff.2 hn) (sortN_sorted bars l))
theorem notes_nodup {bars : List Ba} {l : List No} (h : notesB bars l = true) : (l.map No.id).Nodup := by simp only [notesB, Bool.and_eq_true, decide_eq_true_eq] at h; exact h.2
theorem notes_all {bars : List Ba} {l : List No} (h : notesB bars l = true) : l.all (noteOk bars) = true := by simp only [notesB, Bool.and_eq_true, decide_eq_true_eq] at h; exact h.1.2
theorem notes_bars {bars : List Ba} {l : List No} (h : notesB bars l = true) : (bars.map Ba.id).Nodup := by simp only [notesB, barsB, Bool.and_eq_true, decide_eq_true_eq] at h; exact h.1.1.1.2
/-- A slice of notes that is handed back. -/
def RetN (l : List No) (w : World) (e : Ending) (w' : World) : Prop := ∃ a cap, e = .returned (.slice a l.length cap) ∧ SlOk a l.length cap ∧ NoAt w' a l ∧ Below w.heap.size w w'
theorem nil_eq_noneN (w : World) : (binOp BinOp.eql 24 (.slice none 0 0) (.slice none 0 0)).run Tryz.prog w = .ok (.bool true) w := by kernel_rfl
set_option maxRecDepth 100000 in
theorem CloneN0_any (a : Option Addr) (cap : Nat) (w : World) (hok : SlOk a 0 cap) :
    Calls Tryz.prog 146 #[.slice a 0 cap] w fun e w' => ∃ a' cap', e = .returned (.slice a' 0 cap') ∧ SlOk a' 0 cap' ∧ Below w.heap.size w w' := by
  rcases hok.cases with ⟨rfl, _, rfl⟩ | ⟨b, off, rfl⟩
  · have hq := nil_eq_noneN w
    go_enter Tryz.func146, Tryz.ntmps146
    go_wp2
    go_ret
    exact ⟨_, _, rfl, SlOk.nil, Below.refl _ _⟩
  · have hq := nil_eq_someN b off 0 cap w
    go_enter Tryz.func146, Tryz.ntmps146
    go_wp2_with (at_builtin; refine appE (f := No.cells) eltNo rfl (.tmp 5) (.tmp 6) rfl w.heap.size _ [] rfl (ownR_mk _ _ _ _ (Nat.le_refl _)) _ _ _ [] rfl rfl (fun e => by cases e) (SlAt.nil _ _ _) (by simp) (by simp) ?_; intro v2 w2 ho2 hg2; have HO2 := Lib.hid ho2; have HB2 := Lib.hid (below_grown ((Below.refl w.heap.size w).alloc (Nat.le_refl _) _) (ownR_mk _ w.heap.size 128 12 (Nat.le_refl _)) (by simp) hg2); clear ho2 hg2)
    go_ret
    obtain ⟨a', cap', e', hok', _⟩ := HO2.out.slAt
    exact ⟨a', cap', by rw [e']; rfl, hok', HB2.out⟩
set_option maxRecDepth 100000 in
set_option maxHeartbeats 4000000 in
theorem sorted_any (ab an : Option Addr) (cb cn : Nat) (bars : List Ba) (l : List No) (w : World) (hv : notesB bars l = true) (hlb : bars.length ≤ 100000) (hln : l.length ≤ 1000) (hok : SlOk an l.length cn) (hb : BaAt w ab bars) (hm : NoAt w an l) (hE : Env w) :
    Calls Tryz.prog 100 #[.slice ab bars.length cb, .slice an l.length cn] w (RetN (sortN bars l) w) := by
  have HV := Lib.hid hv; have HBa := Lib.hid hb; have HM := Lib.hid hm; have HE := Lib.hid hE; have HOk := Lib.hid hok
  have HN := Lib.hid (notes_bars hv)
  clear hv hb hm hE hok
  by_cases h0 : l = []
  · subst h0
    go_enter Tryz.func100, Tryz.ntmps100
    go_upto_region 2 with (go_at_call 94; refine (indexes_any _ _ _ _ hlb HBa.out HN.out).mono ?_; rintro e w3 ⟨r2, rfl, hi, hb⟩; have HI := Lib.hid hi; have HB := Lib.hid hb; clear hi hb)
    have HB2 := Lib.hid (HB.out.alloc HB.out.size (.cells #[.map (some r2)] 145))
    generalize w3.alloc (.cells #[.map (some r2)] 145) = W at *
    have hcall := CloneN0_any an cn W HOk.out
    go_wp2_with (first | (go_at_call 146; refine hcall.mono ?_; rintro e w4 ⟨a', cap', rfl, hok, hb⟩; have HOk4 := Lib.hid hok; have HB4 := Lib.hid (HB2.out.trans (hb.mono HB2.out.size)); clear hok hb) | (go_at_call 147; refine (AnyF.slices_SortFunc_none Lay.sortN _ _ _ _).mono ?_; rintro e w5 ⟨rfl, rfl⟩))
    go_ret
    have e0 : sortN bars [] = [] := by simp [sortN]
    rw [e0]
    exact ⟨_, _, rfl, HOk4.out, SlAt.nil _ _ _, HB4.out⟩
  · have HNd := Lib.hid (notes_nodup HV.out); have HAl := Lib.hid (notes_all HV.out)
    go_enter Tryz.func100, Tryz.ntmps100
    go_upto_region 2 with (go_at_call 94; refine (indexes_any _ _ _ _ hlb HBa.out HN.out).mono ?_; rintro e w3 ⟨r2, rfl, hi, hb⟩; have HI := Lib.hid hi; have HB := Lib.hid hb; clear hi hb)
    have hbt := heap_alloc_new w3 (.cells #[.map (some r2)] 145)
    have hbA := (Below.refl w3.heap.size w3).alloc (Nat.le_refl _) (.cells #[.map (some r2)] 145)
    have HB2 := Lib.hid (HB.out.trans (hbA.mono HB.out.size))
    have HBt := Lib.hid hbt
    replace HI := Lib.hid (HI.out.below hbA)
    clear hbt hbA
    generalize w3.alloc (.cells #[.map (some r2)] 145) = W at *
    have hz : w3.heap.size < W.heap.size := lt_blk HBt.out
    have hr : r2 < W.heap.size := by obtain ⟨m, h1, _⟩ := HI.out; exact h1.lt
    have hg : 0 < W.heap.size := Nat.lt_of_lt_of_le HE.out.lt HB2.out.size
    have hcall := CloneN_any an cn l W h0 hln (HM.out.below HB2.out)
    have HSort := Lib.hid (fun v w4 (o : OwnR w4 W.heap.size 128 12 v (l.map No.cells)) (hb : Below W.heap.size W w4) => sortN_any W.heap.size bars hlb v l w3.heap.size r2 w4 h0 (by omega) HAl.out o hb.size (HE.out.below (HB2.out.trans (hb.mono HB2.out.size))) (blk_keep HBt.out hb) (HI.out.below hb) hg hz hr)
    go_upto_region 4 with (first | (go_at_call 146; refine hcall.mono ?_; rintro e w4 ⟨v4, rfl, ho4, hb4⟩; have HO4 := Lib.hid ho4; have HB4 := Lib.hid hb4; clear ho4 hb4) | (go_at_call 147; refine (HSort.out _ _ HO4.out HB4.out).mono ?_; rintro e w5 ⟨s, g, cap, rfl, hp, hs, hev, hok, hna, hb5, hgb⟩; have HP := Lib.hid hp; have HS := Lib.hid hs; have HEv := Lib.hid hev; have HOk5 := Lib.hid hok; have HNa := Lib.hid hna; have HB5 := Lib.hid hb5; clear hp hs hev hok hna hb5 hgb))
    go_wp2
    go_ret
    have e := sortN_uniq HNd.out HP.out HS.out
    refine ⟨_, _, by rw [← e]; exact congrArg Ending.returned HEv.out, by rw [← e]; exact HOk5.out, by rw [← e]; exact HNa.out, HB2.out.trans (HB4.out.trans HB5.out |>.mono HB2.out.size)⟩
/-- What Sort says. -/
def RetNE (l : List No) (er : Int) (w : World) (e : Ending) (w' : World) : Prop := ∃ a cap, e = .returned (.tuple #[.slice a l.length cap, .int .i64 er]) ∧ SlOk a l.length cap ∧ NoAt w' a l ∧ Below w.heap.size w w'
set_option maxRecDepth 100000 in
set_option maxHeartbeats 4000000 in
theorem Sort_any (ab an : Option Addr) (cb cn : Nat) (bars : List Ba) (l : List No) (w : World) (hv : notesB bars l = true) (hlb : bars.length ≤ 100000) (hln : l.length ≤ 1000) (hok : SlOk an l.length cn) (hb : BaAt w ab bars) (hm : NoAt w an l) (hE : Env w) :
    Calls Tryz.prog 60 #[.slice ab bars.length cb, .slice an l.length cn] w (RetNE (sortN bars l) 0 w) := by
  have HV := Lib.hid (NotValid_any ab an cb cn bars l w hlb (by omega) hb hm)
  rw [hv] at HV
  have HS := Lib.hid (fun w2 (h2 : Below w.heap.size w w2) => sorted_any ab an cb cn bars l w2 hv hlb hln hok (hb.below h2) (hm.below h2) (hE.below h2))
  clear hv hb hm hE hok
  go_enter Tryz.func60, Tryz.ntmps60
  go_wp2_with (first | (go_at_call 58; refine HV.out.mono ?_; rintro e w2 ⟨rfl, hb⟩; have HB := Lib.hid hb; clear hb) | (go_at_call 100; refine (HS.out _ HB.out).mono ?_; rintro e w3 ⟨a', cap', rfl, hok, hna, hb⟩; have HOk := Lib.hid hok; have HNa := Lib.hid hna; have HB3 := Lib.hid (HB.out.trans (hb.mono HB.out.size)); clear hok hna hb))
  go_ret2
  exact ⟨_, _, rfl, HOk.out, HNa.out, HB3.out⟩
/-- A list that is in order is what it is sorted to. -/
theorem sorted_same {bars : List Ba} {l : List No} (hn : (l.map No.id).Nodup) : decide (sortN bars l = l) = sortedB bars l := by
  rw [Bool.eq_iff_iff, decide_eq_true_eq, sorted_iff]
  constructor
  · intro e
    have h := strict_of (by rw [((sortN_perm bars l).map No.id).nodup_iff]; exact hn) (sortN_sorted bars l)
    rwa [e] at h
  · intro h
    exact (sortN_uniq hn (List.Perm.refl l) (h.imp fun h => lex_asymm h)).symm
end Go.Proofs.YtcelciomhngajaaGreatDoor

