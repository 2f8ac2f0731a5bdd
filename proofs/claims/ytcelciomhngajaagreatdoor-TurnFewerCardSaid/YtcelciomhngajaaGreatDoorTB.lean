/- Texts of this seat, laid together: TurnRat, TurnRat2, TurnRat3, TurnTem, TurnPos. -/
import Derived.Test.YtcelciomhngajaaGreatDoorSC
import Derived.Test.YtcelciomhngajaaGreatDoorTA
import Derived.Test.YtcelciomhngajaaGreatDoorSH
/- Ratios of any size: reduced, rat, Make, Add, Mul; the reference's. -/
namespace Go.Proofs.YtcelciomhngajaaGreatDoor
set_option linter.unusedSimpArgs false
set_option linter.unusedVariables false
open Go.RowKit Go.Sort

theorem sizeB_any (n : Int) (w : World) (h0 : -4000000000000000000 ≤ n) (h1 : n ≤ 4000000000000000000) : Calls Tryz.prog 124 #[.int .i64 n] w fun e w' => e = .returned (.int .i64 (n.natAbs : Int)) ∧ w = w' := by
  go_enter Tryz.func124, Tryz.ntmps124
  go_wp2
  all_goals (go_ret; exact ⟨ret_int (by omega), rfl⟩)
theorem commonB_any (b : Nat) : ∀ (y x : Nat) (w : World), x ≤ 4000000000000000000 → y ≤ 4000000000000000000 → w.heap[b]? = some (.cells #[commonV b] 94 (0, 0)) →
    Calls Tryz.prog 123 #[.int .i64 x, .int .i64 y, .pointer (some ⟨b, 0, none⟩)] w fun e w' => e = .returned (.int .i64 (Nat.gcd x y : Nat)) ∧ Below w.heap.size w w' := by
  intro y
  induction y using Nat.strongRecOn with
  | _ y IH =>
  intro x w hx hy hb
  have HI := Lib.hid IH; clear IH
  by_cases h0 : y = 0
  · subst h0
    go_enter Tryz.func123, Tryz.ntmps123
    go_wp2
    go_ret
    exact ⟨by simp, Below.refl _ _⟩
  · have hy0 : ¬ ((y : Int) = 0) := by omega
    have hlt : x % y < y := Nat.mod_lt _ (by omega)
    have e1 : (x : Int).tmod (y : Int) = ((x % y : Nat) : Int) := by rw [Int.tmod_eq_emod_of_nonneg (by omega)]; rfl
    have e2 : IntKind.i64.wrap ((x % y : Nat) : Int) = ((x % y : Nat) : Int) := IntWalk.i64_in _ (by omega)
    have HX := Lib.hid hb
    have hc := box_cells hb
    have g0 := cell_regrown (hc 0)
    simp only [commonV] at g0
    have HG := Lib.hid (show Nat.gcd y (x % y) = Nat.gcd x y by rw [Nat.gcd_comm, ← Nat.gcd_rec, Nat.gcd_comm])
    clear hb hc
    generalize x % y = r at *
    go_enter Tryz.func123, Tryz.ntmps123
    go_wp2
    refine wp_quietB (by kernel_rfl) (by kernel_rfl) ?_
    repeat (go_big_quiet_step (first | (go_at_call 123; (try rw [e1]); (try rw [e2]); refine Calls.regrown_of (HI.out r hlt y _ hy (by omega) (blk_keep HX.out (below_regrown _ _ _))))))
    refine wpQuiet_nil ?_
    intro w2 hb2
    go_wp2
    go_ret
    exact ⟨ret_int (by rw [HG.out]), hb2⟩
set_option maxHeartbeats 1000000 in
theorem reducedB_any (n d : Int) (w : World) (h0 : -4000000000000000000 ≤ n) (h1 : n ≤ 4000000000000000000) (h2 : 1 ≤ d) (h3 : d ≤ 4000000000000000000) : Calls Tryz.prog 77 #[.agg #[.int .i64 n, .int .i64 d]] w fun e w' =>
    e = .returned (.agg #[.int .i64 (n.tdiv (Nat.gcd n.natAbs d.natAbs : Nat)), .int .i64 (d / (Nat.gcd n.natAbs d.natAbs : Nat))]) ∧ Below w.heap.size w w' := by
  have HGG := Lib.hid (rfl : Nat.gcd n.natAbs d.natAbs = Nat.gcd n.natAbs d.natAbs)
  have hG : 0 < Nat.gcd n.natAbs d.natAbs := Nat.gcd_pos_of_pos_right _ (by omega)
  have hGd : Nat.gcd n.natAbs d.natAbs ≤ d.natAbs := Nat.gcd_le_right _ (by omega)
  go_enter Tryz.func77, Tryz.ntmps77
  go_upto_region 2 with (fail)
  obtain ⟨x1, x2, x3, hb⟩ := box3 (w := w) (A := .cells #[.int .i64 n, .int .i64 d] 109) (B := .cells #[.int .i64 0, .int .i64 0] 109) (C := .cells #[.nilFunc] 94) (Below.refl _ _)
  generalize ((w.alloc (.cells #[.int .i64 n, .int .i64 d] 109)).alloc (.cells #[.int .i64 0, .int .i64 0] 109)).alloc (.cells #[.nilFunc] 94) = W at *
  replace x3 : W.heap[w.heap.size + 1 + 1]? = _ := x3
  have HX1 := Lib.hid x1; have HX2 := Lib.hid x2; have HX3 := Lib.hid x3; have HB := Lib.hid hb
  have hc3 := box_cells x3; have hf3 := box_free x3
  clear x1 x2 x3 hb
  go_wp2
  have y1 : (W.setCell ⟨w.heap.size + 1 + 1, 0, none⟩ (commonV (w.heap.size + 1 + 1))).heap[w.heap.size]? = _ := (heap_setCell_other _ _ _ _ (show _ ≠ _ by simp <;> omega)).trans HX1.out
  have y2 : (W.setCell ⟨w.heap.size + 1 + 1, 0, none⟩ (commonV (w.heap.size + 1 + 1))).heap[w.heap.size + 1]? = _ := (heap_setCell_other _ _ _ _ (show _ ≠ _ by simp <;> omega)).trans HX2.out
  have y3 : (W.setCell ⟨w.heap.size + 1 + 1, 0, none⟩ (commonV (w.heap.size + 1 + 1))).heap[w.heap.size + 1 + 1]? = some (.cells #[commonV (w.heap.size + 1 + 1)] 94 (0, 0)) := heap_setCell_same _ _ _ _ _ _ HX3.out
  have yb := HB.out.setCell (p := ⟨w.heap.size + 1 + 1, 0, none⟩) (by simp <;> omega) (commonV (w.heap.size + 1 + 1))
  replace HX1 := Lib.hid y1; replace HX2 := Lib.hid y2; replace HX3 := Lib.hid y3; replace HB := Lib.hid yb
  clear y1 y2 y3 yb hc3 hf3
  have hcv : commonV (w.heap.size + 1 + 1) = .func (Fn.func 123) #[] #[.pointer (some ⟨w.heap.size + 1 + 1, 0, none⟩)] := rfl
  rw [← hcv]
  generalize W.setCell ⟨w.heap.size + 1 + 1, 0, none⟩ (commonV (w.heap.size + 1 + 1)) = V at *
  have hz := lt_blk HX3.out
  have g1 := cell_regrown (box_cells HX1.out 0); have g2 := cell_regrown (box_cells HX1.out 1); have g3 := cell_regrown (box_cells HX3.out 0)
  rw [hcv] at g3
  simp only [hcv]
  refine wp_quietB (by kernel_rfl) (by kernel_rfl) ?_
  repeat (go_big_quiet_step (first | (go_at_call 124; refine Calls.regrown (sizeB_any _ _ (by omega) (by omega))) | (go_at_call 123; refine Calls.regrown_of (commonB_any _ _ _ _ (by omega) (by omega) (blk_keep HX3.out (below_regrown _ _ _))))))
  refine wpQuiet_nil ?_
  intro w2 hb2
  replace HX1 := Lib.hid (blk_keep HX1.out hb2); replace HX2 := Lib.hid (blk_keep HX2.out hb2); replace HB := Lib.hid (HB.out.trans (hb2.mono HB.out.size))
  have hz2 := lt_blk HX2.out
  clear hb2 g1 g2 g3 HX3 hz
  generalize hGe : Nat.gcd n.natAbs d.natAbs = G at *
  replace HGG := Lib.hid hGe
  clear hGe
  have hG0 : ¬ ((G : Int) = 0) := by omega
  have hq1 := Int.natAbs_tdiv_le_natAbs n G; have hq2 := Int.natAbs_tdiv_le_natAbs d G
  have e1 : IntKind.i64.wrap (n.tdiv G) = n.tdiv G := IntWalk.i64_in _ (by omega)
  have e2 : IntKind.i64.wrap (d.tdiv G) = d.tdiv G := IntWalk.i64_in _ (by omega)
  have hc1 := box_cells HX1.out; have hc2 := box_cells HX2.out; have hf2 := box_free HX2.out
  have hnd : ¬ d < 0 := by omega
  go_upto_region 6 with (fail)
  have g1 := cell_regrown (box_cells HX1.out 0); have g2 := cell_regrown (box_cells HX1.out 1)
  refine wp_tailB 9 (by kernel_rfl) (by kernel_rfl) ?_
  simp only [List.take_succ_cons, List.take_zero, List.drop_succ_cons, List.drop_zero]
  repeat (go_big_quiet_step (fail))
  refine wpQuiet_nil ?_
  intro w3 hb3
  replace HX2 := Lib.hid (blk_keep HX2.out hb3); replace HB := Lib.hid (HB.out.trans (hb3.mono HB.out.size))
  replace hz2 := lt_blk HX2.out
  clear hb3 g1 g2 HX1 hc1
  replace hc2 := box_cells HX2.out; replace hf2 := box_free HX2.out
  go_wp2
  have e3 : d.tdiv G = d / G := Int.tdiv_eq_ediv_of_nonneg hnd
  exact bodyPost_ret (v := .agg #[.int .i64 (n.tdiv G), .int .i64 (d / G)]) (by simp [results, Tryz.results77, go_sem, hc2, hf2, e3]) rfl ⟨by rw [HGG.out], (HB.out.setCell (by simp <;> omega) _).setCell (by simp <;> omega) _⟩
theorem rat_div {n d : Int} (h : 0 < d) : n.tdiv (Nat.gcd n.natAbs d.natAbs : Nat) = n / gcdI n d ∧ d / (Nat.gcd n.natAbs d.natAbs : Nat) = d / gcdI n d := by
  refine ⟨?_, rfl⟩
  obtain ⟨k, hk⟩ := gcdI_n n d
  have hg := gcdI_pos n h
  have e : ((Nat.gcd n.natAbs d.natAbs : Nat) : Int) = gcdI n d := rfl
  rw [e]
  generalize gcdI n d = g at *
  have h1 : n.tdiv g = k := by rw [hk]; exact Int.mul_tdiv_cancel_left k (by omega)
  have h2 : n / g = k := by rw [hk]; exact Int.mul_ediv_cancel_left k (by omega)
  rw [h1, h2]
set_option maxHeartbeats 2000000 in
theorem rat_any (n d : Int) (w : World) (h0 : -4000000000000000000 ≤ n) (h1 : n ≤ 4000000000000000000) (h2 : 1 ≤ d) (h3 : d ≤ 4000000000000000000) : Calls Tryz.prog 90 #[.agg #[.int .i64 n, .int .i64 d]] w fun e w' =>
    e = .returned (.tuple #[.agg #[.int .i64 (redR n d).1.n, .int .i64 (redR n d).1.d], .int .i64 (redR n d).2]) ∧ Below w.heap.size w w' := by
  obtain ⟨e1, e2⟩ := rat_div (n := n) (d := d) (by omega)
  have HRd := Lib.hid (fun V => reducedB_any n d V h0 h1 h2 h3)
  rw [e1, e2] at HRd
  have hna : ((n / gcdI n d).natAbs : Int) ≤ 4000000000000000000 := by
    rw [← e1]
    have := Int.natAbs_tdiv_le_natAbs n (Nat.gcd n.natAbs d.natAbs : Nat)
    omega
  have HU := Lib.hid (show redR n d = if 1000000 < d / gcdI n d ∨ 1000000000 < ((n / gcdI n d).natAbs : Int) then (⟨0, 0⟩, 3) else (⟨n / gcdI n d, d / gcdI n d⟩, 0) from rfl)
  have hdb : d / gcdI n d ≤ 4000000000000000000 := by
    have hg := gcdI_pos n (show 0 < d by omega)
    have := Int.ediv_le_self (a := d) (gcdI n d) (by omega)
    omega
  clear e1 e2
  generalize redR n d = RR at *
  generalize n / gcdI n d = N at *
  generalize d / gcdI n d = D at *
  have hN0 : -4000000000000000000 ≤ N := by omega
  have hN1 : N ≤ 4000000000000000000 := by omega
  go_enter Tryz.func90, Tryz.ntmps90
  go_upto_region 1 with (fail)
  obtain ⟨x1, x2, hb⟩ := box2 (w := w) (A := .cells #[.int .i64 n, .int .i64 d] 109) (B := .cells #[.int .i64 0, .int .i64 0] 32) (Below.refl _ _)
  generalize (w.alloc (.cells #[.int .i64 n, .int .i64 d] 109)).alloc (.cells #[.int .i64 0, .int .i64 0] 32) = W at *
  replace x2 : W.heap[w.heap.size + 1]? = _ := x2
  have HX1 := Lib.hid x1; have HX2 := Lib.hid x2; have HB := Lib.hid hb
  have hc1 := box_cells x1
  clear x1 x2 hb
  go_upto_region 2 with (go_at_call 77; refine (HRd.out _).mono ?_; rintro e w2 ⟨rfl, hb⟩; replace HX2 := Lib.hid (blk_keep HX2.out hb); replace HB := Lib.hid (HB.out.trans (hb.mono HB.out.size)); clear hb hc1)
  have HX3 := Lib.hid (heap_alloc_new w2 (.cells #[.int .i64 N, .int .i64 D] 109))
  replace HX2 := Lib.hid (up_alloc HX2.out (.cells #[.int .i64 N, .int .i64 D] 109))
  replace HB := Lib.hid (HB.out.alloc HB.out.size (.cells #[.int .i64 N, .int .i64 D] 109))
  generalize w2.alloc (.cells #[.int .i64 N, .int .i64 D] 109) = W2 at *
  generalize w2.heap.size = b3 at *
  have hc3 := box_cells HX3.out; have hc2 := box_cells HX2.out; have hf2 := box_free HX2.out
  by_cases hbig : 1000000000 < (N.natAbs : Int)
  · have HE := Lib.hid (show RR = (⟨0, 0⟩, 3) by rw [HU.out, if_pos (.inr hbig)])
    go_wp2_with (go_at_call 124; refine (sizeB_any _ _ hN0 hN1).mono ?_; rintro e w' ⟨rfl, rfl⟩)
    exact bodyPost_ret (v := .tuple #[.agg #[.int .i64 0, .int .i64 0], .int .i64 3]) (by simp [results, Tryz.results90, go_sem, hc2, hf2]) rfl ⟨by rw [HE.out], (HB.out.setCell (by simp <;> omega) _).setCell (by simp <;> omega) _⟩
  · by_cases hbd : 1000000 < D
    · have HE := Lib.hid (show RR = (⟨0, 0⟩, 3) by rw [HU.out, if_pos (.inl hbd)])
      go_wp2_with (go_at_call 124; refine (sizeB_any _ _ hN0 hN1).mono ?_; rintro e w' ⟨rfl, rfl⟩)
      exact bodyPost_ret (v := .tuple #[.agg #[.int .i64 0, .int .i64 0], .int .i64 3]) (by simp [results, Tryz.results90, go_sem, hc2, hf2]) rfl ⟨by rw [HE.out], (HB.out.setCell (by simp <;> omega) _).setCell (by simp <;> omega) _⟩
    · have HE := Lib.hid (show RR = (⟨N, D⟩, 0) by rw [HU.out, if_neg (by rintro (h | h); exact hbd h; exact hbig h)])
      go_wp2_with (go_at_call 124; refine (sizeB_any _ _ hN0 hN1).mono ?_; rintro e w' ⟨rfl, rfl⟩)
      exact bodyPost_ret (v := .tuple #[.agg #[.int .i64 N, .int .i64 D], .int .i64 0]) (by simp [results, Tryz.results90, go_sem, hc2, hf2]) rfl ⟨by rw [HE.out], (HB.out.setCell (by simp <;> omega) _).setCell (by simp <;> omega) _⟩
open Go.RowKit Go.Sort

theorem tfar_any (k : Int) (w : World) (h0 : -1000000000000000 ≤ k) (h1 : k ≤ 1000000000000000) : Calls Tryz.prog 136 #[.int .i64 k] w fun e w' => e = .returned (.bool false) ∧ w = w' := by
  go_enter Tryz.func136, Tryz.ntmps136
  go_wp2
  go_ret
  exact ⟨ret_bool (by rw [decide_eq_false (by omega), decide_eq_false (by omega)]; rfl), rfl⟩
set_option maxHeartbeats 1000000 in
theorem Make_any (n d : Int) (w : World) (h0 : -1000000000000000 ≤ n) (h1 : n ≤ 1000000000000000) (h2 : 1 ≤ d) (h3 : d ≤ 1000000000000000) : Calls Tryz.prog 89 #[.int .i64 n, .int .i64 d] w fun e w' =>
    e = .returned (.tuple #[.agg #[.int .i64 (redR n d).1.n, .int .i64 (redR n d).1.d], .int .i64 (redR n d).2]) ∧ Below w.heap.size w w' := by
  have HRt := Lib.hid (fun V => rat_any n d V (by omega) (by omega) (by omega) (by omega))
  generalize redR n d = RR at *
  have HX := Lib.hid (heap_alloc_new w (.cells #[.int .i64 0, .int .i64 0] 32))
  have HB := Lib.hid ((Below.refl w.heap.size w).alloc (Nat.le_refl _) (.cells #[.int .i64 0, .int .i64 0] 32))
  have hd0 : (d == 0) = false := by rw [← Bool.not_eq_true, beq_iff_eq]; omega
  go_enter Tryz.func89, Tryz.ntmps89
  go_upto_region 1 with (fail)
  generalize w.alloc (.cells #[.int .i64 0, .int .i64 0] 32) = W at *
  have hf := box_free HX.out; have hc := box_cells HX.out
  go_wp2_with (first | (go_at_call 136; refine (tfar_any _ _ (by omega) (by omega)).mono ?_; rintro e w' ⟨rfl, rfl⟩) | (go_at_call 90; refine (HRt.out _).mono ?_; rintro e w' ⟨rfl, hb⟩; replace HX := Lib.hid (blk_keep HX.out hb); replace HB := Lib.hid (HB.out.trans (hb.mono HB.out.size)); clear hb hc hf; have hf := box_free HX.out; have hc := box_cells HX.out))
  exact bodyPost_ret (v := .tuple #[.agg #[.int .i64 RR.1.n, .int .i64 RR.1.d], .int .i64 RR.2]) (by simp [results, Tryz.results89, go_sem, hc, hf]) rfl ⟨rfl, (HB.out.setCell (Nat.le_refl _) _).setCell (Nat.le_refl _) _⟩
theorem tAbs_any (n : Int) (w : World) (h0 : -4000000000000000000 ≤ n) (h1 : n ≤ 4000000000000000000) : Calls Tryz.prog 43 #[.int .i64 n] w fun e w' => e = .returned (.int .i64 (n.natAbs : Int)) ∧ w = w' := by
  go_enter Tryz.func43, Tryz.ntmps43
  go_wp2
  all_goals (go_ret; exact ⟨ret_int (by omega), rfl⟩)
theorem tGcd_any (x y : Nat) (w : World) (hx : x ≤ 4000000000000000000) (hy : y ≤ 4000000000000000000) : Calls Tryz.prog 42 #[.int .i64 x, .int .i64 y] w fun e w' => e = .returned (.int .i64 (Nat.gcd x y : Nat)) ∧ w = w' := by
  go_enter Tryz.func42, Tryz.ntmps42
  go_wp2
  go_loopw [0, 1] (fun s0 s1 wr => ∃ a b : Nat, s0 = .int .i64 a ∧ s1 = .int .i64 b ∧ a ≤ 4000000000000000000 ∧ b ≤ 4000000000000000000 ∧ Hid (Nat.gcd a b = Nat.gcd x y) ∧ wr = w) (fun _ s1 _ => (intOf s1).toNat)
  case atStart => exact ⟨x, y, rfl, rfl, hx, hy, Lib.hid rfl, rfl⟩
  case round =>
    obtain ⟨a, b, rfl, rfl, ha, hb, HE, rfl⟩ := hrel
    by_cases h0 : b = 0
    · subst h0
      have HF := Lib.hid (show a = Nat.gcd x y by have := HE.out; rwa [Nat.gcd_zero_right] at this)
      go_wp2
      go_ret
      exact ⟨ret_int (by rw [← HF.out]), rfl⟩
    · have hy0 : ¬ ((b : Int) = 0) := by omega
      have hlt : a % b < b := Nat.mod_lt _ (by omega)
      have e1 : (a : Int).tmod (b : Int) = ((a % b : Nat) : Int) := by rw [Int.tmod_eq_emod_of_nonneg (by omega)]; rfl
      have e2 : IntKind.i64.wrap ((a % b : Nat) : Int) = ((a % b : Nat) : Int) := IntWalk.i64_in _ (by omega)
      have HF := Lib.hid (show Nat.gcd b (a % b) = Nat.gcd x y by rw [← HE.out, Nat.gcd_comm, ← Nat.gcd_rec, Nat.gcd_comm])
      clear HE
      generalize a % b = r at *
      go_wp2
      go_roundw
      case rel => exact ⟨b, r, by go_num, by go_num, hb, by omega, HF, trivial⟩
      case measure => simp [intOf]; omega
theorem tCmp_any (a b : Rt) (w : World) (h1 : rtOk a = true) (h2 : rtOk b = true) : Calls Tryz.prog 20 #[.agg #[.int .i64 a.n, .int .i64 a.d], .agg #[.int .i64 b.n, .int .i64 b.d]] w fun e w' => e = .returned (.int .i64 (cmpR a b)) ∧ Below w.heap.size w w' := by
  obtain ⟨⟨p1, p2⟩, ⟨p3, p4⟩, _⟩ := (rtOk_iff a).1 h1
  obtain ⟨⟨q1, q2⟩, ⟨q3, q4⟩, _⟩ := (rtOk_iff b).1 h2
  obtain ⟨k1, k2⟩ := mul_bd (A := 1000000000) (B := 1000000) p3 p4 (by omega) q2
  obtain ⟨k3, k4⟩ := mul_bd (A := 1000000000) (B := 1000000) q3 q4 (by omega) p2
  have HC := Lib.hid (show cmpR a b = if a.n * b.d < b.n * a.d then -1 else if b.n * a.d < a.n * b.d then 1 else 0 from rfl)
  have e1 : IntKind.i64.wrap (a.n * b.d) = a.n * b.d := IntWalk.i64_in _ (by omega)
  have e2 : IntKind.i64.wrap (b.n * a.d) = b.n * a.d := IntWalk.i64_in _ (by omega)
  generalize cmpR a b = CC at *
  go_enter Tryz.func20, Tryz.ntmps20
  go_upto_region 1 with (fail)
  obtain ⟨x1, x2, hb⟩ := box2 (w := w) (A := .cells #[.int .i64 a.n, .int .i64 a.d] 32) (B := .cells #[.int .i64 b.n, .int .i64 b.d] 32) (Below.refl _ _)
  generalize (w.alloc (.cells #[.int .i64 a.n, .int .i64 a.d] 32)).alloc (.cells #[.int .i64 b.n, .int .i64 b.d] 32) = W at *
  have HB := Lib.hid hb
  have hc1 := box_cells x1; have hc2 := box_cells x2
  clear x1 x2 hb
  by_cases h1 : a.n * b.d < b.n * a.d
  · rw [if_pos h1] at HC
    go_wp2
    go_ret
    exact ⟨ret_int HC.out.symm, HB.out⟩
  · by_cases h2 : b.n * a.d < a.n * b.d
    · rw [if_neg h1, if_pos h2] at HC
      go_wp2
      go_ret
      exact ⟨ret_int HC.out.symm, HB.out⟩
    · rw [if_neg h1, if_neg h2] at HC
      go_wp2
      go_ret
      exact ⟨ret_int HC.out.symm, HB.out⟩
set_option maxHeartbeats 1000000 in
theorem addcf_any (b1 b2 : Nat) (a b : Rt) (w : World) (x1 : w.heap[b1]? = some (.cells #[.int .i64 a.n, .int .i64 a.d] 32 (0, 0))) (x2 : w.heap[b2]? = some (.cells #[.int .i64 b.n, .int .i64 b.d] 32 (0, 0))) (h1 : rtOk a = true) (h2 : rtOk b = true) : Calls Tryz.prog 83 #[.pointer (some ⟨b1, 0, none⟩), .pointer (some ⟨b2, 0, none⟩)] w fun e w' => e = .returned (.agg #[.int .i64 (a.n * b.d + b.n * a.d), .int .i64 (a.d * b.d)]) ∧ Below w.heap.size w w' := by
  obtain ⟨⟨p1, p2⟩, ⟨p3, p4⟩, _⟩ := (rtOk_iff a).1 h1
  obtain ⟨⟨q1, q2⟩, ⟨q3, q4⟩, _⟩ := (rtOk_iff b).1 h2
  obtain ⟨k1, k2⟩ := mul_bd (A := 1000000000) (B := 1000000) p3 p4 (by omega) q2
  obtain ⟨k3, k4⟩ := mul_bd (A := 1000000000) (B := 1000000) q3 q4 (by omega) p2
  obtain ⟨k5, k6⟩ := mul_bd (A := 1000000) (B := 1000000) (a := a.d) (b := b.d) (by omega) p2 (by omega) q2
  obtain ⟨k7, k8⟩ := mul_bd (A := 1000000000) (B := 1000000000) p3 p4 q3 q4
  have e1 : IntKind.i64.wrap (a.n * b.d) = a.n * b.d := IntWalk.i64_in _ (by omega)
  have e2 : IntKind.i64.wrap (b.n * a.d) = b.n * a.d := IntWalk.i64_in _ (by omega)
  have e3 : IntKind.i64.wrap (a.d * b.d) = a.d * b.d := IntWalk.i64_in _ (by omega)
  have e4 : IntKind.i64.wrap (a.n * b.n) = a.n * b.n := IntWalk.i64_in _ (by omega)
  have e5 : IntKind.i64.wrap (a.n * b.d + b.n * a.d) = a.n * b.d + b.n * a.d := IntWalk.i64_in _ (by omega)
  have hb1 := lt_blk x1; have hb2 := lt_blk x2
  replace x1 := up_alloc x1 (.cells #[.int .i64 0, .int .i64 0] 109); replace x2 := up_alloc x2 (.cells #[.int .i64 0, .int .i64 0] 109)
  have HX := Lib.hid (heap_alloc_new w (.cells #[.int .i64 0, .int .i64 0] 109))
  have HB := Lib.hid ((Below.refl w.heap.size w).alloc (Nat.le_refl _) (.cells #[.int .i64 0, .int .i64 0] 109))
  go_enter Tryz.func83, Tryz.ntmps83
  go_upto_region 1 with (fail)
  generalize w.alloc (.cells #[.int .i64 0, .int .i64 0] 109) = W at *
  have hc1 := box_cells x1; have hc2 := box_cells x2; have hc := box_cells HX.out; have hf := box_free HX.out
  clear x1 x2
  go_wp2
  exact bodyPost_ret (v := .agg #[.int .i64 (a.n * b.d + b.n * a.d), .int .i64 (a.d * b.d)]) (by simp [results, Tryz.results83, go_sem, hc, hf]) rfl ⟨rfl, (HB.out.setCell (Nat.le_refl _) _).setCell (Nat.le_refl _) _⟩
set_option maxHeartbeats 1000000 in
theorem mulcf_any (b1 b2 : Nat) (a b : Rt) (w : World) (x1 : w.heap[b1]? = some (.cells #[.int .i64 a.n, .int .i64 a.d] 32 (0, 0))) (x2 : w.heap[b2]? = some (.cells #[.int .i64 b.n, .int .i64 b.d] 32 (0, 0))) (h1 : rtOk a = true) (h2 : rtOk b = true) : Calls Tryz.prog 53 #[.pointer (some ⟨b1, 0, none⟩), .pointer (some ⟨b2, 0, none⟩)] w fun e w' => e = .returned (.agg #[.int .i64 (a.n * b.n), .int .i64 (a.d * b.d)]) ∧ Below w.heap.size w w' := by
  obtain ⟨⟨p1, p2⟩, ⟨p3, p4⟩, _⟩ := (rtOk_iff a).1 h1
  obtain ⟨⟨q1, q2⟩, ⟨q3, q4⟩, _⟩ := (rtOk_iff b).1 h2
  obtain ⟨k1, k2⟩ := mul_bd (A := 1000000000) (B := 1000000) p3 p4 (by omega) q2
  obtain ⟨k3, k4⟩ := mul_bd (A := 1000000000) (B := 1000000) q3 q4 (by omega) p2
  obtain ⟨k5, k6⟩ := mul_bd (A := 1000000) (B := 1000000) (a := a.d) (b := b.d) (by omega) p2 (by omega) q2
  obtain ⟨k7, k8⟩ := mul_bd (A := 1000000000) (B := 1000000000) p3 p4 q3 q4
  have e1 : IntKind.i64.wrap (a.n * b.d) = a.n * b.d := IntWalk.i64_in _ (by omega)
  have e2 : IntKind.i64.wrap (b.n * a.d) = b.n * a.d := IntWalk.i64_in _ (by omega)
  have e3 : IntKind.i64.wrap (a.d * b.d) = a.d * b.d := IntWalk.i64_in _ (by omega)
  have e4 : IntKind.i64.wrap (a.n * b.n) = a.n * b.n := IntWalk.i64_in _ (by omega)
  have e5 : IntKind.i64.wrap (a.n * b.d + b.n * a.d) = a.n * b.d + b.n * a.d := IntWalk.i64_in _ (by omega)
  have hb1 := lt_blk x1; have hb2 := lt_blk x2
  replace x1 := up_alloc x1 (.cells #[.int .i64 0, .int .i64 0] 109); replace x2 := up_alloc x2 (.cells #[.int .i64 0, .int .i64 0] 109)
  have HX := Lib.hid (heap_alloc_new w (.cells #[.int .i64 0, .int .i64 0] 109))
  have HB := Lib.hid ((Below.refl w.heap.size w).alloc (Nat.le_refl _) (.cells #[.int .i64 0, .int .i64 0] 109))
  go_enter Tryz.func53, Tryz.ntmps53
  go_upto_region 1 with (fail)
  generalize w.alloc (.cells #[.int .i64 0, .int .i64 0] 109) = W at *
  have hc1 := box_cells x1; have hc2 := box_cells x2; have hc := box_cells HX.out; have hf := box_free HX.out
  clear x1 x2
  go_wp2
  exact bodyPost_ret (v := .agg #[.int .i64 (a.n * b.n), .int .i64 (a.d * b.d)]) (by simp [results, Tryz.results53, go_sem, hc, hf]) rfl ⟨rfl, (HB.out.setCell (Nat.le_refl _) _).setCell (Nat.le_refl _) _⟩
open Go.RowKit Go.Sort

theorem prod_bd {a b : Rt} (h1 : rtOk a = true) (h2 : rtOk b = true) : (-4000000000000000000 ≤ a.n * b.d + b.n * a.d ∧ a.n * b.d + b.n * a.d ≤ 4000000000000000000) ∧ (-4000000000000000000 ≤ a.n * b.n ∧ a.n * b.n ≤ 4000000000000000000) ∧ 1 ≤ a.d * b.d ∧ a.d * b.d ≤ 4000000000000000000 := by
  obtain ⟨⟨p1, p2⟩, ⟨p3, p4⟩, _⟩ := (rtOk_iff a).1 h1
  obtain ⟨⟨q1, q2⟩, ⟨q3, q4⟩, _⟩ := (rtOk_iff b).1 h2
  obtain ⟨k1, k2⟩ := mul_bd (A := 1000000000) (B := 1000000) p3 p4 (by omega) q2
  obtain ⟨k3, k4⟩ := mul_bd (A := 1000000000) (B := 1000000) q3 q4 (by omega) p2
  obtain ⟨k5, k6⟩ := mul_bd (A := 1000000) (B := 1000000) (a := a.d) (b := b.d) (by omega) p2 (by omega) q2
  obtain ⟨k7, k8⟩ := mul_bd (A := 1000000000) (B := 1000000000) p3 p4 q3 q4
  have := Int.mul_pos (show 0 < a.d by omega) (show 0 < b.d by omega)
  exact ⟨⟨by omega, by omega⟩, ⟨by omega, by omega⟩, by omega, by omega⟩
set_option maxHeartbeats 2000000 in
theorem joinAdd_any (b1 b2 : Nat) (a b : Rt) (w : World) (x1 : w.heap[b1]? = some (.cells #[.int .i64 a.n, .int .i64 a.d] 32 (0, 0))) (x2 : w.heap[b2]? = some (.cells #[.int .i64 b.n, .int .i64 b.d] 32 (0, 0))) : Calls Tryz.prog 52 #[.agg #[.int .i64 a.n, .int .i64 a.d], .agg #[.int .i64 b.n, .int .i64 b.d], .func (Fn.func 83) #[] #[.pointer (some ⟨b1, 0, none⟩), .pointer (some ⟨b2, 0, none⟩)]] w fun e w' =>
    e = .returned (.tuple #[.agg #[.int .i64 (addR2 a b).1.n, .int .i64 (addR2 a b).1.d], .int .i64 (addR2 a b).2]) ∧ Below w.heap.size w w' := by
  have HU := Lib.hid (show addR2 a b = if rtOk a && rtOk b then redR (a.n * b.d + b.n * a.d) (a.d * b.d) else (⟨0, 0⟩, 1) from rfl)
  generalize addR2 a b = RR at *
  go_enter Tryz.func52, Tryz.ntmps52
  go_upto_region 1 with (fail)
  obtain ⟨y1, y2, y3, hb⟩ := box3 (w := w) (A := .cells #[.int .i64 a.n, .int .i64 a.d] 32 (0, 0)) (B := .cells #[.int .i64 b.n, .int .i64 b.d] 32 (0, 0)) (C := .cells #[.int .i64 0, .int .i64 0] 32 (0, 0)) (Below.refl _ _)
  have HC1 := Lib.hid (up_alloc (up_alloc (up_alloc x1 (.cells #[.int .i64 a.n, .int .i64 a.d] 32 (0, 0))) (.cells #[.int .i64 b.n, .int .i64 b.d] 32 (0, 0))) (.cells #[.int .i64 0, .int .i64 0] 32 (0, 0)))
  have HC2 := Lib.hid (up_alloc (up_alloc (up_alloc x2 (.cells #[.int .i64 a.n, .int .i64 a.d] 32 (0, 0))) (.cells #[.int .i64 b.n, .int .i64 b.d] 32 (0, 0))) (.cells #[.int .i64 0, .int .i64 0] 32 (0, 0)))
  generalize ((w.alloc (.cells #[.int .i64 a.n, .int .i64 a.d] 32 (0, 0))).alloc (.cells #[.int .i64 b.n, .int .i64 b.d] 32 (0, 0))).alloc (.cells #[.int .i64 0, .int .i64 0] 32 (0, 0)) = W at *
  replace y3 : W.heap[w.heap.size + 1 + 1]? = _ := y3
  have HX1 := Lib.hid y1; have HX2 := Lib.hid y2; have HX3 := Lib.hid y3; have HB := Lib.hid hb
  have hc1 := box_cells y1; have hc2 := box_cells y2; have hc := box_cells y3; have hf := box_free y3
  clear x1 x2 y1 y2 y3 hb
  cases h1 : rtOk a
  · have HE := Lib.hid (show RR = (⟨0, 0⟩, 1) by rw [HU.out, h1]; rfl)
    have HVa := Lib.hid (show rtOk ⟨a.n, a.d⟩ = false from h1)
    go_wp2_with (go_at_call 39; refine (RatValid_any _ _ _).mono ?_; rw [HVa.out]; rintro e w' ⟨rfl, hb⟩; replace HX1 := Lib.hid (blk_keep HX1.out hb); replace HX2 := Lib.hid (blk_keep HX2.out hb); replace HX3 := Lib.hid (blk_keep HX3.out hb); replace HC1 := Lib.hid (blk_keep HC1.out hb); replace HC2 := Lib.hid (blk_keep HC2.out hb); replace HB := Lib.hid (HB.out.trans (hb.mono HB.out.size)); clear hb hc1 hc2 hc hf; have hc1 := box_cells HX1.out; have hc2 := box_cells HX2.out; have hc := box_cells HX3.out; have hf := box_free HX3.out)
    exact bodyPost_ret (v := .tuple #[.agg #[.int .i64 0, .int .i64 0], .int .i64 1]) (by simp [results, Tryz.results52, go_sem, hc, hf]) rfl ⟨by rw [HE.out], (HB.out.setCell (by simp <;> omega) _).setCell (by simp <;> omega) _⟩
  · have HVa := Lib.hid (show rtOk ⟨a.n, a.d⟩ = true from h1)
    cases h2 : rtOk b
    · have HE := Lib.hid (show RR = (⟨0, 0⟩, 1) by rw [HU.out, h1, h2]; rfl)
      have HVb := Lib.hid (show rtOk ⟨b.n, b.d⟩ = false from h2)
      go_wp2_with (go_at_call 39; refine (RatValid_any _ _ _).mono ?_; (first | rw [HVa.out] | rw [HVb.out]); rintro e w' ⟨rfl, hb⟩; replace HX1 := Lib.hid (blk_keep HX1.out hb); replace HX2 := Lib.hid (blk_keep HX2.out hb); replace HX3 := Lib.hid (blk_keep HX3.out hb); replace HC1 := Lib.hid (blk_keep HC1.out hb); replace HC2 := Lib.hid (blk_keep HC2.out hb); replace HB := Lib.hid (HB.out.trans (hb.mono HB.out.size)); clear hb hc1 hc2 hc hf; have hc1 := box_cells HX1.out; have hc2 := box_cells HX2.out; have hc := box_cells HX3.out; have hf := box_free HX3.out)
      exact bodyPost_ret (v := .tuple #[.agg #[.int .i64 0, .int .i64 0], .int .i64 1]) (by simp [results, Tryz.results52, go_sem, hc, hf]) rfl ⟨by rw [HE.out], (HB.out.setCell (by simp <;> omega) _).setCell (by simp <;> omega) _⟩
    · have HVb := Lib.hid (show rtOk ⟨b.n, b.d⟩ = true from h2)
      have HE := Lib.hid (show RR = redR (a.n * b.d + b.n * a.d) (a.d * b.d) by rw [HU.out, h1, h2]; rfl)
      have HO1 := Lib.hid h1; have HO2 := Lib.hid h2
      obtain ⟨⟨m1, m2⟩, ⟨m3, m4⟩, m5, m6⟩ := prod_bd h1 h2
      have HRt := Lib.hid (fun V => rat_any (a.n * b.d + b.n * a.d) (a.d * b.d) V (by assumption) (by assumption) m5 m6)
      rw [← HE.out] at HRt
      clear h1 h2
      go_wp2_with (first | (go_at_call 39; refine (RatValid_any _ _ _).mono ?_; (first | rw [HVa.out] | rw [HVb.out]); rintro e w' ⟨rfl, hb⟩; replace HX1 := Lib.hid (blk_keep HX1.out hb); replace HX2 := Lib.hid (blk_keep HX2.out hb); replace HX3 := Lib.hid (blk_keep HX3.out hb); replace HC1 := Lib.hid (blk_keep HC1.out hb); replace HC2 := Lib.hid (blk_keep HC2.out hb); replace HB := Lib.hid (HB.out.trans (hb.mono HB.out.size)); clear hb hc1 hc2 hc hf; have hc1 := box_cells HX1.out; have hc2 := box_cells HX2.out; have hc := box_cells HX3.out; have hf := box_free HX3.out) | (go_at_call 83; refine (addcf_any _ _ _ _ _ HC1.out HC2.out HO1.out HO2.out).mono ?_; rintro e w' ⟨rfl, hb⟩; replace HX1 := Lib.hid (blk_keep HX1.out hb); replace HX2 := Lib.hid (blk_keep HX2.out hb); replace HX3 := Lib.hid (blk_keep HX3.out hb); replace HC1 := Lib.hid (blk_keep HC1.out hb); replace HC2 := Lib.hid (blk_keep HC2.out hb); replace HB := Lib.hid (HB.out.trans (hb.mono HB.out.size)); clear hb hc1 hc2 hc hf; have hc1 := box_cells HX1.out; have hc2 := box_cells HX2.out; have hc := box_cells HX3.out; have hf := box_free HX3.out) | (go_at_call 90; refine (HRt.out _).mono ?_; rintro e w' ⟨rfl, hb⟩; replace HX1 := Lib.hid (blk_keep HX1.out hb); replace HX2 := Lib.hid (blk_keep HX2.out hb); replace HX3 := Lib.hid (blk_keep HX3.out hb); replace HC1 := Lib.hid (blk_keep HC1.out hb); replace HC2 := Lib.hid (blk_keep HC2.out hb); replace HB := Lib.hid (HB.out.trans (hb.mono HB.out.size)); clear hb hc1 hc2 hc hf; have hc1 := box_cells HX1.out; have hc2 := box_cells HX2.out; have hc := box_cells HX3.out; have hf := box_free HX3.out))
      exact bodyPost_ret (v := .tuple #[.agg #[.int .i64 RR.1.n, .int .i64 RR.1.d], .int .i64 RR.2]) (by simp [results, Tryz.results52, go_sem, hc, hf]) rfl ⟨rfl, (HB.out.setCell (by simp <;> omega) _).setCell (by simp <;> omega) _⟩
set_option maxHeartbeats 2000000 in
theorem joinMul_any (b1 b2 : Nat) (a b : Rt) (w : World) (x1 : w.heap[b1]? = some (.cells #[.int .i64 a.n, .int .i64 a.d] 32 (0, 0))) (x2 : w.heap[b2]? = some (.cells #[.int .i64 b.n, .int .i64 b.d] 32 (0, 0))) : Calls Tryz.prog 52 #[.agg #[.int .i64 a.n, .int .i64 a.d], .agg #[.int .i64 b.n, .int .i64 b.d], .func (Fn.func 53) #[] #[.pointer (some ⟨b1, 0, none⟩), .pointer (some ⟨b2, 0, none⟩)]] w fun e w' =>
    e = .returned (.tuple #[.agg #[.int .i64 (mulR2 a b).1.n, .int .i64 (mulR2 a b).1.d], .int .i64 (mulR2 a b).2]) ∧ Below w.heap.size w w' := by
  have HU := Lib.hid (show mulR2 a b = if rtOk a && rtOk b then redR (a.n * b.n) (a.d * b.d) else (⟨0, 0⟩, 1) from rfl)
  generalize mulR2 a b = RR at *
  go_enter Tryz.func52, Tryz.ntmps52
  go_upto_region 1 with (fail)
  obtain ⟨y1, y2, y3, hb⟩ := box3 (w := w) (A := .cells #[.int .i64 a.n, .int .i64 a.d] 32 (0, 0)) (B := .cells #[.int .i64 b.n, .int .i64 b.d] 32 (0, 0)) (C := .cells #[.int .i64 0, .int .i64 0] 32 (0, 0)) (Below.refl _ _)
  have HC1 := Lib.hid (up_alloc (up_alloc (up_alloc x1 (.cells #[.int .i64 a.n, .int .i64 a.d] 32 (0, 0))) (.cells #[.int .i64 b.n, .int .i64 b.d] 32 (0, 0))) (.cells #[.int .i64 0, .int .i64 0] 32 (0, 0)))
  have HC2 := Lib.hid (up_alloc (up_alloc (up_alloc x2 (.cells #[.int .i64 a.n, .int .i64 a.d] 32 (0, 0))) (.cells #[.int .i64 b.n, .int .i64 b.d] 32 (0, 0))) (.cells #[.int .i64 0, .int .i64 0] 32 (0, 0)))
  generalize ((w.alloc (.cells #[.int .i64 a.n, .int .i64 a.d] 32 (0, 0))).alloc (.cells #[.int .i64 b.n, .int .i64 b.d] 32 (0, 0))).alloc (.cells #[.int .i64 0, .int .i64 0] 32 (0, 0)) = W at *
  replace y3 : W.heap[w.heap.size + 1 + 1]? = _ := y3
  have HX1 := Lib.hid y1; have HX2 := Lib.hid y2; have HX3 := Lib.hid y3; have HB := Lib.hid hb
  have hc1 := box_cells y1; have hc2 := box_cells y2; have hc := box_cells y3; have hf := box_free y3
  clear x1 x2 y1 y2 y3 hb
  cases h1 : rtOk a
  · have HE := Lib.hid (show RR = (⟨0, 0⟩, 1) by rw [HU.out, h1]; rfl)
    have HVa := Lib.hid (show rtOk ⟨a.n, a.d⟩ = false from h1)
    go_wp2_with (go_at_call 39; refine (RatValid_any _ _ _).mono ?_; rw [HVa.out]; rintro e w' ⟨rfl, hb⟩; replace HX1 := Lib.hid (blk_keep HX1.out hb); replace HX2 := Lib.hid (blk_keep HX2.out hb); replace HX3 := Lib.hid (blk_keep HX3.out hb); replace HC1 := Lib.hid (blk_keep HC1.out hb); replace HC2 := Lib.hid (blk_keep HC2.out hb); replace HB := Lib.hid (HB.out.trans (hb.mono HB.out.size)); clear hb hc1 hc2 hc hf; have hc1 := box_cells HX1.out; have hc2 := box_cells HX2.out; have hc := box_cells HX3.out; have hf := box_free HX3.out)
    exact bodyPost_ret (v := .tuple #[.agg #[.int .i64 0, .int .i64 0], .int .i64 1]) (by simp [results, Tryz.results52, go_sem, hc, hf]) rfl ⟨by rw [HE.out], (HB.out.setCell (by simp <;> omega) _).setCell (by simp <;> omega) _⟩
  · have HVa := Lib.hid (show rtOk ⟨a.n, a.d⟩ = true from h1)
    cases h2 : rtOk b
    · have HE := Lib.hid (show RR = (⟨0, 0⟩, 1) by rw [HU.out, h1, h2]; rfl)
      have HVb := Lib.hid (show rtOk ⟨b.n, b.d⟩ = false from h2)
      go_wp2_with (go_at_call 39; refine (RatValid_any _ _ _).mono ?_; (first | rw [HVa.out] | rw [HVb.out]); rintro e w' ⟨rfl, hb⟩; replace HX1 := Lib.hid (blk_keep HX1.out hb); replace HX2 := Lib.hid (blk_keep HX2.out hb); replace HX3 := Lib.hid (blk_keep HX3.out hb); replace HC1 := Lib.hid (blk_keep HC1.out hb); replace HC2 := Lib.hid (blk_keep HC2.out hb); replace HB := Lib.hid (HB.out.trans (hb.mono HB.out.size)); clear hb hc1 hc2 hc hf; have hc1 := box_cells HX1.out; have hc2 := box_cells HX2.out; have hc := box_cells HX3.out; have hf := box_free HX3.out)
      exact bodyPost_ret (v := .tuple #[.agg #[.int .i64 0, .int .i64 0], .int .i64 1]) (by simp [results, Tryz.results52, go_sem, hc, hf]) rfl ⟨by rw [HE.out], (HB.out.setCell (by simp <;> omega) _).setCell (by simp <;> omega) _⟩
    · have HVb := Lib.hid (show rtOk ⟨b.n, b.d⟩ = true from h2)
      have HE := Lib.hid (show RR = redR (a.n * b.n) (a.d * b.d) by rw [HU.out, h1, h2]; rfl)
      have HO1 := Lib.hid h1; have HO2 := Lib.hid h2
      obtain ⟨⟨m1, m2⟩, ⟨m3, m4⟩, m5, m6⟩ := prod_bd h1 h2
      have HRt := Lib.hid (fun V => rat_any (a.n * b.n) (a.d * b.d) V (by assumption) (by assumption) m5 m6)
      rw [← HE.out] at HRt
      clear h1 h2
      go_wp2_with (first | (go_at_call 39; refine (RatValid_any _ _ _).mono ?_; (first | rw [HVa.out] | rw [HVb.out]); rintro e w' ⟨rfl, hb⟩; replace HX1 := Lib.hid (blk_keep HX1.out hb); replace HX2 := Lib.hid (blk_keep HX2.out hb); replace HX3 := Lib.hid (blk_keep HX3.out hb); replace HC1 := Lib.hid (blk_keep HC1.out hb); replace HC2 := Lib.hid (blk_keep HC2.out hb); replace HB := Lib.hid (HB.out.trans (hb.mono HB.out.size)); clear hb hc1 hc2 hc hf; have hc1 := box_cells HX1.out; have hc2 := box_cells HX2.out; have hc := box_cells HX3.out; have hf := box_free HX3.out) | (go_at_call 53; refine (mulcf_any _ _ _ _ _ HC1.out HC2.out HO1.out HO2.out).mono ?_; rintro e w' ⟨rfl, hb⟩; replace HX1 := Lib.hid (blk_keep HX1.out hb); replace HX2 := Lib.hid (blk_keep HX2.out hb); replace HX3 := Lib.hid (blk_keep HX3.out hb); replace HC1 := Lib.hid (blk_keep HC1.out hb); replace HC2 := Lib.hid (blk_keep HC2.out hb); replace HB := Lib.hid (HB.out.trans (hb.mono HB.out.size)); clear hb hc1 hc2 hc hf; have hc1 := box_cells HX1.out; have hc2 := box_cells HX2.out; have hc := box_cells HX3.out; have hf := box_free HX3.out) | (go_at_call 90; refine (HRt.out _).mono ?_; rintro e w' ⟨rfl, hb⟩; replace HX1 := Lib.hid (blk_keep HX1.out hb); replace HX2 := Lib.hid (blk_keep HX2.out hb); replace HX3 := Lib.hid (blk_keep HX3.out hb); replace HC1 := Lib.hid (blk_keep HC1.out hb); replace HC2 := Lib.hid (blk_keep HC2.out hb); replace HB := Lib.hid (HB.out.trans (hb.mono HB.out.size)); clear hb hc1 hc2 hc hf; have hc1 := box_cells HX1.out; have hc2 := box_cells HX2.out; have hc := box_cells HX3.out; have hf := box_free HX3.out))
      exact bodyPost_ret (v := .tuple #[.agg #[.int .i64 RR.1.n, .int .i64 RR.1.d], .int .i64 RR.2]) (by simp [results, Tryz.results52, go_sem, hc, hf]) rfl ⟨rfl, (HB.out.setCell (by simp <;> omega) _).setCell (by simp <;> omega) _⟩
theorem RatAdd_any (a b : Rt) (w : World) : Calls Tryz.prog 44 #[.agg #[.int .i64 a.n, .int .i64 a.d], .agg #[.int .i64 b.n, .int .i64 b.d]] w fun e w' =>
    e = .returned (.tuple #[.agg #[.int .i64 (addR2 a b).1.n, .int .i64 (addR2 a b).1.d], .int .i64 (addR2 a b).2]) ∧ Below w.heap.size w w' := by
  have HJ := Lib.hid (fun b1 b2 V x1 x2 => joinAdd_any b1 b2 a b V x1 x2)
  generalize addR2 a b = RR at *
  go_enter Tryz.func44, Tryz.ntmps44
  go_upto_region 1 with (fail)
  obtain ⟨y1, y2, y3, hb⟩ := box3 (w := w) (A := .cells #[.int .i64 a.n, .int .i64 a.d] 32 (0, 0)) (B := .cells #[.int .i64 b.n, .int .i64 b.d] 32 (0, 0)) (C := .cells #[.int .i64 0, .int .i64 0] 32 (0, 0)) (Below.refl _ _)
  generalize ((w.alloc (.cells #[.int .i64 a.n, .int .i64 a.d] 32 (0, 0))).alloc (.cells #[.int .i64 b.n, .int .i64 b.d] 32 (0, 0))).alloc (.cells #[.int .i64 0, .int .i64 0] 32 (0, 0)) = W at *
  replace y2 : W.heap[w.heap.size + 1]? = _ := y2
  replace y3 : W.heap[w.heap.size + 1 + 1]? = _ := y3
  have HX1 := Lib.hid y1; have HX2 := Lib.hid y2; have HX3 := Lib.hid y3; have HB := Lib.hid hb
  have hc1 := box_cells y1; have hc2 := box_cells y2
  clear y1 y2 y3 hb
  go_wp2_with (go_at_call 52; refine (HJ.out _ _ _ HX1.out HX2.out).mono ?_; rintro e w' ⟨rfl, hb⟩; replace HX3 := Lib.hid (blk_keep HX3.out hb); replace HB := Lib.hid (HB.out.trans (hb.mono HB.out.size)); clear hb hc1 hc2; have hc := box_cells HX3.out; have hf := box_free HX3.out)
  exact bodyPost_ret (v := .tuple #[.agg #[.int .i64 RR.1.n, .int .i64 RR.1.d], .int .i64 RR.2]) (by simp [results, Tryz.results44, go_sem, hc, hf]) rfl ⟨rfl, (HB.out.setCell (by simp <;> omega) _).setCell (by simp <;> omega) _⟩
theorem RatMul_any (a b : Rt) (w : World) : Calls Tryz.prog 27 #[.agg #[.int .i64 a.n, .int .i64 a.d], .agg #[.int .i64 b.n, .int .i64 b.d]] w fun e w' =>
    e = .returned (.tuple #[.agg #[.int .i64 (mulR2 a b).1.n, .int .i64 (mulR2 a b).1.d], .int .i64 (mulR2 a b).2]) ∧ Below w.heap.size w w' := by
  have HJ := Lib.hid (fun b1 b2 V x1 x2 => joinMul_any b1 b2 a b V x1 x2)
  generalize mulR2 a b = RR at *
  go_enter Tryz.func27, Tryz.ntmps27
  go_upto_region 1 with (fail)
  obtain ⟨y1, y2, y3, hb⟩ := box3 (w := w) (A := .cells #[.int .i64 a.n, .int .i64 a.d] 32 (0, 0)) (B := .cells #[.int .i64 b.n, .int .i64 b.d] 32 (0, 0)) (C := .cells #[.int .i64 0, .int .i64 0] 32 (0, 0)) (Below.refl _ _)
  generalize ((w.alloc (.cells #[.int .i64 a.n, .int .i64 a.d] 32 (0, 0))).alloc (.cells #[.int .i64 b.n, .int .i64 b.d] 32 (0, 0))).alloc (.cells #[.int .i64 0, .int .i64 0] 32 (0, 0)) = W at *
  replace y2 : W.heap[w.heap.size + 1]? = _ := y2
  replace y3 : W.heap[w.heap.size + 1 + 1]? = _ := y3
  have HX1 := Lib.hid y1; have HX2 := Lib.hid y2; have HX3 := Lib.hid y3; have HB := Lib.hid hb
  have hc1 := box_cells y1; have hc2 := box_cells y2
  clear y1 y2 y3 hb
  go_wp2_with (go_at_call 52; refine (HJ.out _ _ _ HX1.out HX2.out).mono ?_; rintro e w' ⟨rfl, hb⟩; replace HX3 := Lib.hid (blk_keep HX3.out hb); replace HB := Lib.hid (HB.out.trans (hb.mono HB.out.size)); clear hb hc1 hc2; have hc := box_cells HX3.out; have hf := box_free HX3.out)
  exact bodyPost_ret (v := .tuple #[.agg #[.int .i64 RR.1.n, .int .i64 RR.1.d], .int .i64 RR.2]) (by simp [results, Tryz.results27, go_sem, hc, hf]) rfl ⟨rfl, (HB.out.setCell (by simp <;> omega) _).setCell (by simp <;> omega) _⟩
set_option maxHeartbeats 1000000 in
theorem tValid_any (r : Rt) (w : World) : Calls Tryz.prog 17 #[.agg #[.int .i64 r.n, .int .i64 r.d]] w fun e w' => e = .returned (.bool (rtOk r)) ∧ Below w.heap.size w w' := by
  obtain ⟨n, d⟩ := r
  dsimp only
  by_cases hv : (1 ≤ d ∧ d ≤ 1000000) ∧ -1000000000 ≤ n ∧ n ≤ 1000000000
  · obtain ⟨⟨h2, h3⟩, h0, h1⟩ := hv
    have hRt := Lib.hid (show rtOk ⟨n, d⟩ = decide (Nat.gcd n.natAbs d.natAbs = 1) by rw [Bool.eq_iff_iff, rt_iff]; simp [h0, h1, h2, h3])
    obtain ⟨D, rfl⟩ := Int.eq_ofNat_of_zero_le (show 0 ≤ d by omega)
    have hD : (D : Int).natAbs = D := rfl
    have hN : n.natAbs ≤ 4000000000000000000 := by omega
    rw [hD] at hRt
    go_enter Tryz.func17, Tryz.ntmps17
    go_wp2
    have HX1 := Lib.hid (heap_alloc_new w (.cells #[.int .i64 n, .int .i64 D] 32))
    have HB := Lib.hid ((Below.refl w.heap.size w).alloc (Nat.le_refl _) (.cells #[.int .i64 n, .int .i64 D] 32))
    generalize w.alloc (.cells #[.int .i64 n, .int .i64 D] 32) = W at *
    have g1 := cell_regrown (box_cells HX1.out 0); have g2 := cell_regrown (box_cells HX1.out 1)
    refine wp_quietB (by kernel_rfl) (by kernel_rfl) ?_
    repeat (go_big_quiet_step (first | (go_at_call 43; refine Calls.regrown (tAbs_any _ _ (by omega) (by omega))) | (go_at_call 42; refine Calls.regrown (tGcd_any _ _ _ hN (by omega)))))
    refine wpQuiet_nil ?_
    intro w2 hb2
    go_wp2
    go_ret
    exact ⟨ret_bool (by rw [hRt.out, Bool.eq_iff_iff]; simp <;> omega), HB.out.trans (hb2.mono HB.out.size)⟩
  · go_enter Tryz.func17, Tryz.ntmps17
    go_wp2
    all_goals first | omega | (go_ret; exact ⟨ret_bool (by rw [Eq.comm, ← Bool.not_eq_true, rt_iff]; intro h; exact hv ⟨h.1, h.2.1⟩), (Below.refl _ _).alloc (Nat.le_refl _) _⟩)
open Go.RowKit Go.Sort

set_option maxHeartbeats 1000000 in
theorem tOf_any (n : Int) (w : World) (h0 : 0 ≤ n) (h1 : n ≤ 1000000000) : Calls Tryz.prog 25 #[.int .i64 n] w fun e w' => e = .returned (.agg #[.int .i64 (ofT n).n, .int .i64 (ofT n).d]) ∧ Below w.heap.size w w' := by
  obtain ⟨N, rfl⟩ := Int.eq_ofNat_of_zero_le h0
  have HGc := Lib.hid (fun V => show Calls Tryz.prog 51 #[.int .i64 (N : Int), .int .i64 1680] V _ from gcd_any N 1680 V (by omega) (by omega))
  have HO := Lib.hid (show ofT N = ⟨(N : Int) / gcdI N 1680, 1680 / gcdI N 1680⟩ from rfl)
  have hg : gcdI N 1680 = ((Nat.gcd N 1680 : Nat) : Int) := rfl
  have hgp : 0 < Nat.gcd N 1680 := Nat.gcd_pos_of_pos_right _ (by omega)
  have hgl : Nat.gcd N 1680 ≤ 1680 := Nat.gcd_le_right _ (by omega)
  rw [hg] at HO
  clear hg
  generalize ofT N = OO at *
  generalize Nat.gcd N 1680 = G at *
  have hG0 : ¬ ((G : Int) = 0) := by omega
  have e1 : (N : Int).tdiv (G : Int) = (N : Int) / G := Int.tdiv_eq_ediv_of_nonneg (by omega)
  have e2 : (1680 : Int).tdiv (G : Int) = 1680 / (G : Int) := Int.tdiv_eq_ediv_of_nonneg (by omega)
  have k1 := Int.ediv_le_self (a := (N : Int)) (G : Int) (by omega)
  have k2 := Int.ediv_le_self (a := (1680 : Int)) (G : Int) (by omega)
  have k3 := Int.ediv_nonneg (a := (N : Int)) (b := (G : Int)) (by omega) (by omega)
  have k4 := Int.ediv_nonneg (a := (1680 : Int)) (b := (G : Int)) (by omega) (by omega)
  generalize (N : Int) / G = A at *
  generalize (1680 : Int) / (G : Int) = B at *
  have w1 : IntKind.i64.wrap A = A := IntWalk.i64_in _ (by omega)
  have w2 : IntKind.i64.wrap B = B := IntWalk.i64_in _ (by omega)
  have HX := Lib.hid (heap_alloc_new w (.cells #[.int .i64 0, .int .i64 0] 32 (0, 0)))
  have HB := Lib.hid ((Below.refl w.heap.size w).alloc (Nat.le_refl _) (.cells #[.int .i64 0, .int .i64 0] 32 (0, 0)))
  go_enter Tryz.func25, Tryz.ntmps25
  go_upto_region 1 with (fail)
  generalize w.alloc (.cells #[.int .i64 0, .int .i64 0] 32 (0, 0)) = W at *
  go_upto_region 2 with (go_at_call 51; refine (HGc.out _).mono ?_; rintro e w2 ⟨rfl, rfl⟩)
  have hc := box_cells HX.out; have hf := box_free HX.out
  go_region
  go_wp2
  exact bodyPost_ret (v := .agg #[.int .i64 A, .int .i64 B]) (by simp [results, Tryz.results25, go_sem, hc, hf]) rfl ⟨by rw [HO.out], ((HB.out.setCell (Nat.le_refl _) _).setCell (Nat.le_refl _) _).drew⟩
theorem tzero_any (w : World) : Calls Tryz.prog 71 #[] w fun e w' => e = .returned (.agg #[.int .i64 0, .int .i64 1]) ∧ Below w.heap.size w w' := by
  have HX := Lib.hid (heap_alloc_new w (.cells #[.int .i64 0, .int .i64 0] 32 (0, 0)))
  have HB := Lib.hid ((Below.refl w.heap.size w).alloc (Nat.le_refl _) (.cells #[.int .i64 0, .int .i64 0] 32 (0, 0)))
  go_enter Tryz.func71, Tryz.ntmps71
  go_upto_region 1 with (fail)
  generalize w.alloc (.cells #[.int .i64 0, .int .i64 0] 32 (0, 0)) = W at *
  have hc := box_cells HX.out; have hf := box_free HX.out
  go_wp2
  exact bodyPost_ret (v := .agg #[.int .i64 0, .int .i64 1]) (by simp [results, Tryz.results71, go_sem, hc, hf]) rfl ⟨rfl, (HB.out.setCell (Nat.le_refl _) _).setCell (Nat.le_refl _) _⟩
theorem tstart_any (i : Int) (w : World) : Calls Tryz.prog 36 #[.int .i64 i] w fun e w' => e = .returned (.agg #[.int .i64 i, .int .i64 0, .int .i64 1]) ∧ Below w.heap.size w w' := by
  have HX := Lib.hid (heap_alloc_new w (.cells #[.int .i64 0, .int .i64 0, .int .i64 0] 54 (0, 0)))
  have HB := Lib.hid ((Below.refl w.heap.size w).alloc (Nat.le_refl _) (.cells #[.int .i64 0, .int .i64 0, .int .i64 0] 54 (0, 0)))
  go_enter Tryz.func36, Tryz.ntmps36
  go_upto_region 1 with (fail)
  generalize w.alloc (.cells #[.int .i64 0, .int .i64 0, .int .i64 0] 54 (0, 0)) = W at *
  have hc := box_cells HX.out; have hf := box_free HX.out
  go_wp2_with (go_at_call 71; refine (tzero_any _).mono ?_; rintro e w' ⟨rfl, hb⟩; replace HX := Lib.hid (blk_keep HX.out hb); replace HB := Lib.hid (HB.out.trans (hb.mono HB.out.size)); clear hb hc hf; have hc := box_cells HX.out; have hf := box_free HX.out)
  exact bodyPost_ret (v := .agg #[.int .i64 i, .int .i64 0, .int .i64 1]) (by simp [results, Tryz.results36, go_sem, hc, hf]) rfl ⟨rfl, ((HB.out.setCell (Nat.le_refl _) _).setCell (Nat.le_refl _) _).setCell (Nat.le_refl _) _⟩
open Go.RowKit Go.Sort

set_option maxHeartbeats 1000000 in
theorem tLater_any (a b : Po) (w : World) : Calls Tryz.prog 26 #[.agg #[.int .i64 a.bar, .int .i64 a.at_.n, .int .i64 a.at_.d], .agg #[.int .i64 b.bar, .int .i64 b.at_.n, .int .i64 b.at_.d]] w fun e w' => e = .returned (.bool (laterB a b)) ∧ Below w.heap.size w w' := by
  have HL := Lib.hid (show laterB a b = (decide (b.bar < a.bar) || decide (a.bar = b.bar) && decide (ticksI ⟨b.at_.n, b.at_.d⟩ < ticksI ⟨a.at_.n, a.at_.d⟩)) from rfl)
  generalize laterB a b = LL at *
  go_enter Tryz.func26, Tryz.ntmps26
  go_upto_region 1 with (fail)
  obtain ⟨x1, x2, hb⟩ := box2 (w := w) (A := .cells #[.int .i64 a.bar, .int .i64 a.at_.n, .int .i64 a.at_.d] 54 (0, 0)) (B := .cells #[.int .i64 b.bar, .int .i64 b.at_.n, .int .i64 b.at_.d] 54 (0, 0)) (Below.refl _ _)
  generalize (w.alloc (.cells #[.int .i64 a.bar, .int .i64 a.at_.n, .int .i64 a.at_.d] 54 (0, 0))).alloc (.cells #[.int .i64 b.bar, .int .i64 b.at_.n, .int .i64 b.at_.d] 54 (0, 0)) = W at *
  replace x2 : W.heap[w.heap.size + 1]? = _ := x2
  have HB := Lib.hid hb
  have g0 := cell_regrown (box_cells x1 0); have g1 := cell_regrown (box_cells x1 1); have g2 := cell_regrown (box_cells x1 2)
  have k0 := cell_regrown (box_cells x2 0); have k1 := cell_regrown (box_cells x2 1); have k2 := cell_regrown (box_cells x2 2)
  clear x1 x2 hb
  by_cases h1 : b.bar < a.bar
  · have hd := decide_eq_true h1
    rw [hd, Bool.true_or] at HL
    refine wp_quietB (by kernel_rfl) (by kernel_rfl) ?_; (repeat (go_big_quiet_step (first | (go_at_call 24; refine Calls.regrown_of (RTicks_any _ _ _))))); refine wpQuiet_nil ?_; intro w2 hb2; go_wp2; go_ret
    exact ⟨ret_bool HL.out.symm, HB.out.trans (hb2.mono HB.out.size)⟩
  · have hd := decide_eq_false h1
    rw [hd, Bool.false_or] at HL
    by_cases h2 : a.bar = b.bar
    · have he : (a.bar == b.bar) = true := by simpa using h2
      rw [decide_eq_true h2, Bool.true_and] at HL
      clear h2
      refine wp_quietB (by kernel_rfl) (by kernel_rfl) ?_; (repeat (go_big_quiet_step (first | (go_at_call 24; refine Calls.regrown_of (RTicks_any _ _ _))))); refine wpQuiet_nil ?_; intro w2 hb2; go_wp2; go_ret
      exact ⟨ret_bool HL.out.symm, HB.out.trans (hb2.mono HB.out.size)⟩
    · have he : (a.bar == b.bar) = false := by simpa using h2
      rw [decide_eq_false h2, Bool.false_and] at HL
      clear h2
      refine wp_quietB (by kernel_rfl) (by kernel_rfl) ?_; (repeat (go_big_quiet_step (first | (go_at_call 24; refine Calls.regrown_of (RTicks_any _ _ _))))); refine wpQuiet_nil ?_; intro w2 hb2; go_wp2; go_ret
      exact ⟨ret_bool HL.out.symm, HB.out.trans (hb2.mono HB.out.size)⟩
set_option maxHeartbeats 1000000 in
theorem tScale_any (q : Rt) (w : World) : Calls Tryz.prog 55 #[.agg #[.int .i64 q.n, .int .i64 q.d]] w fun e w' => e = .returned (.int .i64 (scaleI q)) ∧ Below w.heap.size w w' := by
  have HVa := Lib.hid (fun V => tValid_any q V)
  have HX := Lib.hid (heap_alloc_new w (.cells #[.int .i64 q.n, .int .i64 q.d] 32 (0, 0)))
  have HB := Lib.hid ((Below.refl w.heap.size w).alloc (Nat.le_refl _) (.cells #[.int .i64 q.n, .int .i64 q.d] 32 (0, 0)))
  have HS := Lib.hid (show scaleI q = if (rtOk q && decide (1 ≤ q.n) && decide (q.n ≤ 10 * q.d) && decide (60 % q.d = 0)) = true then q.n * (60 / q.d) else -1 from rfl)
  generalize scaleI q = SS at *
  go_enter Tryz.func55, Tryz.ntmps55
  go_upto_region 1 with (fail)
  generalize w.alloc (.cells #[.int .i64 q.n, .int .i64 q.d] 32 (0, 0)) = W at *
  have hc := box_cells HX.out
  cases hr : rtOk q
  · rw [hr] at HVa HS
    replace HS := Lib.hid (show SS = -1 by rw [HS.out]; simp)
    go_wp2_with (go_at_call 17; refine (HVa.out _).mono ?_; rintro e w' ⟨rfl, hb⟩; replace HX := Lib.hid (blk_keep HX.out hb); replace HB := Lib.hid (HB.out.trans (hb.mono HB.out.size)); clear hb hc; have hc := box_cells HX.out)
    go_ret
    exact ⟨ret_int HS.out.symm, HB.out⟩
  · rw [hr, Bool.true_and] at HS
    obtain ⟨⟨d1, d2⟩, ⟨n1, n2⟩, _⟩ := (rtOk_iff q).1 hr
    rw [hr] at HVa
    have hd0 : ¬ q.d = 0 := by omega
    have hwd : IntKind.i64.wrap (10 * q.d) = 10 * q.d := IntWalk.i64_in _ (by omega)
    have htm : (60 : Int).tmod q.d = 60 % q.d := Int.tmod_eq_emod_of_nonneg (by decide)
    have hwm : IntKind.i64.wrap (60 % q.d) = 60 % q.d := IntWalk.i64_in _ (by have := Int.emod_nonneg 60 hd0; have := Int.emod_lt_of_pos 60 (show 0 < q.d by omega); omega)
    have htd : (60 : Int).tdiv q.d = 60 / q.d := Int.tdiv_eq_ediv_of_nonneg (by decide)
    have hq0 : 0 ≤ 60 / q.d := Int.ediv_nonneg (by decide) (by omega)
    have hq1 : 60 / q.d ≤ 60 := Int.ediv_le_self _ (by decide)
    have hwq : IntKind.i64.wrap (60 / q.d) = 60 / q.d := IntWalk.i64_in _ (by omega)
    obtain ⟨m1, m2⟩ := mul_bd (A := 1000000000) (B := 60) n1 n2 (by omega) hq1
    have hwp : IntKind.i64.wrap (q.n * (60 / q.d)) = q.n * (60 / q.d) := IntWalk.i64_in _ (by omega)
    by_cases h1 : 1 ≤ q.n
    · by_cases h2 : q.n ≤ 10 * q.d
      · by_cases h3 : 60 % q.d = 0
        · have hm : (60 % q.d != 0) = false := by rw [h3]; rfl
          replace HS := Lib.hid (show SS = q.n * (60 / q.d) by rw [HS.out, if_pos (by simp [h1, h2, h3])])
          clear h3
          go_upto_region 4 with (go_at_call 17; refine (HVa.out _).mono ?_; rintro e w' ⟨rfl, hb⟩; replace HX := Lib.hid (blk_keep HX.out hb); replace HB := Lib.hid (HB.out.trans (hb.mono HB.out.size)); clear hb hc; have hc := box_cells HX.out)
          go_quiet (fail)
          go_wp2
          go_ret
          exact ⟨ret_int HS.out.symm, below_drewN HB.out nq⟩
        · have hm : (60 % q.d != 0) = true := by rw [bne_iff_ne]; exact h3
          replace HS := Lib.hid (show SS = -1 by rw [HS.out, if_neg (by simp [h3])])
          clear h3
          go_wp2_with (go_at_call 17; refine (HVa.out _).mono ?_; rintro e w' ⟨rfl, hb⟩; replace HX := Lib.hid (blk_keep HX.out hb); replace HB := Lib.hid (HB.out.trans (hb.mono HB.out.size)); clear hb hc; have hc := box_cells HX.out)
          go_ret
          exact ⟨ret_int HS.out.symm, HB.out⟩
      · replace HS := Lib.hid (show SS = -1 by rw [HS.out, if_neg (by simp [h2])])
        go_wp2_with (go_at_call 17; refine (HVa.out _).mono ?_; rintro e w' ⟨rfl, hb⟩; replace HX := Lib.hid (blk_keep HX.out hb); replace HB := Lib.hid (HB.out.trans (hb.mono HB.out.size)); clear hb hc; have hc := box_cells HX.out)
        go_ret
        exact ⟨ret_int HS.out.symm, HB.out⟩
    · replace HS := Lib.hid (show SS = -1 by rw [HS.out, if_neg (by simp [h1])])
      go_wp2_with (go_at_call 17; refine (HVa.out _).mono ?_; rintro e w' ⟨rfl, hb⟩; replace HX := Lib.hid (blk_keep HX.out hb); replace HB := Lib.hid (HB.out.trans (hb.mono HB.out.size)); clear hb hc; have hc := box_cells HX.out)
      go_ret
      exact ⟨ret_int HS.out.symm, HB.out⟩
end Go.Proofs.YtcelciomhngajaaGreatDoor

