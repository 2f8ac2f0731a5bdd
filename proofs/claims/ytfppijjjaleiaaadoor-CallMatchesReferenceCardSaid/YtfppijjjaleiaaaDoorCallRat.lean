
/- The contract of ratio.Valid, for calls. -/
import Derived.Test.YtfppijjjaleiaaaDoorCallPure
import Derived.Test.YtfppijjjaleiaaaDoorRows
import Derived.Test.YtfppijjjaleiaaaDoorLib2
import Derived.Test.YtfppijjjaleiaaaDoorRegLib
import Derived.Test.YtfppijjjaleiaaaDoorQTail
import Derived.IntWalk
import Derived.Lib.QuietBelow
import Derived.Laws.EntriesVeiled
namespace Go.Proofs.YtfppijjjaleiaaaDoor
set_option linter.unusedSimpArgs false
set_option linter.unusedVariables false
open Go.RowKit Go.Sort

theorem ratB_iff (n d : Int) : ratB n d = true ↔ (1 ≤ d ∧ d ≤ 1000000) ∧ (-1000000000 ≤ n ∧ n ≤ 1000000000) ∧ Nat.gcd n.natAbs d.natAbs = 1 := by simp [ratB, and_assoc]
theorem size_any (n : Int) (w : World) (h0 : -1000000000 ≤ n) (h1 : n ≤ 1000000000) : Calls Tryd.prog 52 #[.int .i64 n] w fun e w' => e = .returned (.int .i64 (n.natAbs : Int)) ∧ w = w' := by
  go_enter Tryd.func52, Tryd.ntmps52
  go_wp2
  all_goals (go_ret; exact ⟨ret_int (by omega), rfl⟩)
/-- The function that reckons the greatest common divisor; it lies in block b. -/
def commonV (b : Nat) : Value := .func (Fn.func 51) #[] #[.pointer (some ⟨b, 0, none⟩)]
theorem common_any (b : Nat) : ∀ (y x : Nat) (w : World), x ≤ 1000000000 → y ≤ 1000000000 → w.heap[b]? = some (.cells #[commonV b] 77 (0, 0)) →
    Calls Tryd.prog 51 #[.int .i64 x, .int .i64 y, .pointer (some ⟨b, 0, none⟩)] w fun e w' => e = .returned (.int .i64 (Nat.gcd x y : Nat)) ∧ Below w.heap.size w w' := by
  intro y
  induction y using Nat.strongRecOn with
  | _ y IH =>
  intro x w hx hy hb
  have HI := Lib.hid IH; clear IH
  by_cases h0 : y = 0
  · subst h0
    go_enter Tryd.func51, Tryd.ntmps51
    go_wp2
    go_ret
    exact ⟨by simp, Below.refl _ _⟩
  · have hy0 : ¬ ((y : Int) = 0) := by omega
    have hlt : x % y < y := Nat.mod_lt _ (by omega)
    have e1 : (x : Int).tmod (y : Int) = ((x % y : Nat) : Int) := by rw [Int.tmod_eq_emod_of_nonneg (by omega)]; rfl
    have e2 : IntKind.i64.wrap ((x % y : Nat) : Int) = ((x % y : Nat) : Int) := IntWalk.i64_in _ (by omega)
    have HX := Lib.hid hb
    have hc := box_cells hb
    have g0 := cell_regrown (hc 0)
    simp only [commonV] at g0
    have HG := Lib.hid (show Nat.gcd y (x % y) = Nat.gcd x y by rw [Nat.gcd_comm, ← Nat.gcd_rec, Nat.gcd_comm])
    clear hb hc
    generalize x % y = r at *
    go_enter Tryd.func51, Tryd.ntmps51
    go_wp2
    refine wp_quietB (by kernel_rfl) (by kernel_rfl) ?_
    repeat (go_big_quiet_step (first | (go_at_call 51; (try rw [e1]); (try rw [e2]); refine Calls.regrown_of (HI.out r hlt y _ hy (by omega) (blk_keep HX.out (below_regrown _ _ _))))))
    refine wpQuiet_nil ?_
    intro w2 hb2
    go_wp2
    go_ret
    exact ⟨ret_int (by rw [HG.out]), hb2⟩
set_option maxHeartbeats 1000000 in
theorem reduced_any (n d : Int) (w : World) (h0 : -1000000000 ≤ n) (h1 : n ≤ 1000000000) (h2 : 1 ≤ d) (h3 : d ≤ 1000000) : Calls Tryd.prog 36 #[.agg #[.int .i64 n, .int .i64 d]] w fun e w' =>
    e = .returned (.agg #[.int .i64 (n.tdiv (Nat.gcd n.natAbs d.natAbs : Nat)), .int .i64 (d / (Nat.gcd n.natAbs d.natAbs : Nat))]) ∧ Below w.heap.size w w' := by
  have HGG := Lib.hid (rfl : Nat.gcd n.natAbs d.natAbs = Nat.gcd n.natAbs d.natAbs)
  have hG : 0 < Nat.gcd n.natAbs d.natAbs := Nat.gcd_pos_of_pos_right _ (by omega)
  have hGd : Nat.gcd n.natAbs d.natAbs ≤ d.natAbs := Nat.gcd_le_right _ (by omega)
  go_enter Tryd.func36, Tryd.ntmps36
  go_upto_region 2 with (fail)
  obtain ⟨x1, x2, x3, hb⟩ := box3 (w := w) (A := .cells #[.int .i64 n, .int .i64 d] 66) (B := .cells #[.int .i64 0, .int .i64 0] 66) (C := .cells #[.nilFunc] 77) (Below.refl _ _)
  generalize ((w.alloc (.cells #[.int .i64 n, .int .i64 d] 66)).alloc (.cells #[.int .i64 0, .int .i64 0] 66)).alloc (.cells #[.nilFunc] 77) = W at *
  replace x3 : W.heap[w.heap.size + 1 + 1]? = _ := x3
  have HX1 := Lib.hid x1; have HX2 := Lib.hid x2; have HX3 := Lib.hid x3; have HB := Lib.hid hb
  have hc3 := box_cells x3; have hf3 := box_free x3
  clear x1 x2 x3 hb
  go_wp2
  have y1 : (W.setCell ⟨w.heap.size + 1 + 1, 0, none⟩ (commonV (w.heap.size + 1 + 1))).heap[w.heap.size]? = _ := (heap_setCell_other _ _ _ _ (show _ ≠ _ by simp <;> omega)).trans HX1.out
  have y2 : (W.setCell ⟨w.heap.size + 1 + 1, 0, none⟩ (commonV (w.heap.size + 1 + 1))).heap[w.heap.size + 1]? = _ := (heap_setCell_other _ _ _ _ (show _ ≠ _ by simp <;> omega)).trans HX2.out
  have y3 : (W.setCell ⟨w.heap.size + 1 + 1, 0, none⟩ (commonV (w.heap.size + 1 + 1))).heap[w.heap.size + 1 + 1]? = some (.cells #[commonV (w.heap.size + 1 + 1)] 77 (0, 0)) := heap_setCell_same _ _ _ _ _ _ HX3.out
  have yb := HB.out.setCell (p := ⟨w.heap.size + 1 + 1, 0, none⟩) (by simp <;> omega) (commonV (w.heap.size + 1 + 1))
  replace HX1 := Lib.hid y1; replace HX2 := Lib.hid y2; replace HX3 := Lib.hid y3; replace HB := Lib.hid yb
  clear y1 y2 y3 yb hc3 hf3
  have hcv : commonV (w.heap.size + 1 + 1) = .func (Fn.func 51) #[] #[.pointer (some ⟨w.heap.size + 1 + 1, 0, none⟩)] := rfl
  rw [← hcv]
  generalize W.setCell ⟨w.heap.size + 1 + 1, 0, none⟩ (commonV (w.heap.size + 1 + 1)) = V at *
  have hz := lt_blk HX3.out
  have g1 := cell_regrown (box_cells HX1.out 0); have g2 := cell_regrown (box_cells HX1.out 1); have g3 := cell_regrown (box_cells HX3.out 0)
  rw [hcv] at g3
  simp only [hcv]
  refine wp_quietB (by kernel_rfl) (by kernel_rfl) ?_
  repeat (go_big_quiet_step (first | (go_at_call 52; refine Calls.regrown (size_any _ _ (by omega) (by omega))) | (go_at_call 51; refine Calls.regrown_of (common_any _ _ _ _ (by omega) (by omega) (blk_keep HX3.out (below_regrown _ _ _))))))
  refine wpQuiet_nil ?_
  intro w2 hb2
  replace HX1 := Lib.hid (blk_keep HX1.out hb2); replace HX2 := Lib.hid (blk_keep HX2.out hb2); replace HB := Lib.hid (HB.out.trans (hb2.mono HB.out.size))
  have hz2 := lt_blk HX2.out
  clear hb2 g1 g2 g3 HX3 hz
  generalize hGe : Nat.gcd n.natAbs d.natAbs = G at *
  replace HGG := Lib.hid hGe
  clear hGe
  have hG0 : ¬ ((G : Int) = 0) := by omega
  have hq1 := Int.natAbs_tdiv_le_natAbs n G; have hq2 := Int.natAbs_tdiv_le_natAbs d G
  have e1 : IntKind.i64.wrap (n.tdiv G) = n.tdiv G := IntWalk.i64_in _ (by omega)
  have e2 : IntKind.i64.wrap (d.tdiv G) = d.tdiv G := IntWalk.i64_in _ (by omega)
  have hc1 := box_cells HX1.out; have hc2 := box_cells HX2.out; have hf2 := box_free HX2.out
  have hnd : ¬ d < 0 := by omega
  go_upto_region 6 with (fail)
  have g1 := cell_regrown (box_cells HX1.out 0); have g2 := cell_regrown (box_cells HX1.out 1)
  refine wp_tailB 9 (by kernel_rfl) (by kernel_rfl) ?_
  simp only [List.take_succ_cons, List.take_zero, List.drop_succ_cons, List.drop_zero]
  repeat (go_big_quiet_step (fail))
  refine wpQuiet_nil ?_
  intro w3 hb3
  replace HX2 := Lib.hid (blk_keep HX2.out hb3); replace HB := Lib.hid (HB.out.trans (hb3.mono HB.out.size))
  replace hz2 := lt_blk HX2.out
  clear hb3 g1 g2 HX1 hc1
  replace hc2 := box_cells HX2.out; replace hf2 := box_free HX2.out
  go_wp2
  have e3 : d.tdiv G = d / G := Int.tdiv_eq_ediv_of_nonneg hnd
  exact bodyPost_ret (v := .agg #[.int .i64 (n.tdiv G), .int .i64 (d / G)]) (by simp [results, Tryd.results36, go_sem, hc2, hf2, e3]) rfl ⟨by rw [HGG.out], (HB.out.setCell (by simp <;> omega) _).setCell (by simp <;> omega) _⟩
theorem red_ok (n d : Int) (h2 : 1 ≤ d) : (n.tdiv (Nat.gcd n.natAbs d.natAbs : Nat) = n ∧ d / (Nat.gcd n.natAbs d.natAbs : Nat) = d) ↔ Nat.gcd n.natAbs d.natAbs = 1 := by
  have hG : 0 < Nat.gcd n.natAbs d.natAbs := Nat.gcd_pos_of_pos_right _ (by omega)
  generalize Nat.gcd n.natAbs d.natAbs = G at *
  constructor
  · rintro ⟨_, h⟩
    apply Classical.byContradiction
    intro hg
    have h5 := Int.mul_ediv_self_le (x := d) (k := (G : Int)) (by omega)
    rw [h] at h5
    have : 2 * d ≤ (G : Int) * d := Int.mul_le_mul_of_nonneg_right (by omega) (by omega)
    omega
  · rintro rfl
    simp
theorem eql_fr (x y x' y' : Int) (w : World) : (binOp .eql 66 (.agg #[.int .i64 x, .int .i64 y]) (.agg #[.int .i64 x', .int .i64 y'])).run Tryd.prog w = .ok (.bool (x == x' && y == y')) w := by
  rw [run_eql_struct]
  simp [go_sem]
  cases h1 : x == x' <;> cases h2 : y == y' <;> simp_all [go_sem]
set_option maxHeartbeats 1000000 in
theorem RatValid_any (n d : Int) (w : World) : Calls Tryd.prog 22 #[.agg #[.int .i64 n, .int .i64 d]] w fun e w' => e = .returned (.bool (ratB n d)) ∧ Below w.heap.size w w' := by
  by_cases hv : (1 ≤ d ∧ d ≤ 1000000) ∧ -1000000000 ≤ n ∧ n ≤ 1000000000
  · obtain ⟨⟨h2, h3⟩, h0, h1⟩ := hv
    have HR := Lib.hid (red_ok n d h2)
    have hRt := Lib.hid (show ratB n d = decide (Nat.gcd n.natAbs d.natAbs = 1) by simp [ratB, h0, h1, h2, h3])
    go_enter Tryd.func22, Tryd.ntmps22
    go_wp2
    have HX1 := Lib.hid (heap_alloc_new w (.cells #[.int .i64 n, .int .i64 d] 23))
    have HB := Lib.hid ((Below.refl w.heap.size w).alloc (Nat.le_refl _) (.cells #[.int .i64 n, .int .i64 d] 23))
    generalize w.alloc (.cells #[.int .i64 n, .int .i64 d] 23) = W at *
    have g1 := cell_regrown (box_cells HX1.out 0); have g2 := cell_regrown (box_cells HX1.out 1)
    refine wp_quietB (by kernel_rfl) (by kernel_rfl) ?_
    have heq := eql_fr (n.tdiv (Nat.gcd n.natAbs d.natAbs : Nat)) (d / (Nat.gcd n.natAbs d.natAbs : Nat)) n d
    repeat (go_big_quiet_step (first | (go_at_call 36; refine Calls.regrown_of (reduced_any _ _ _ h0 h1 h2 h3))))
    refine wpQuiet_nil ?_
    intro w2 hb2
    go_wp2
    go_ret
    exact ⟨ret_bool (by rw [hRt.out, Bool.eq_iff_iff]; simpa using HR.out), HB.out.trans (hb2.mono HB.out.size)⟩
  · go_enter Tryd.func22, Tryd.ntmps22
    go_wp2
    all_goals first | omega | (go_ret; exact ⟨ret_bool (by rw [Eq.comm, ← Bool.not_eq_true, ratB_iff]; intro h; exact hv ⟨h.1, h.2.1⟩), (Below.refl _ _).alloc (Nat.le_refl _) _⟩)
end Go.Proofs.YtfppijjjaleiaaaDoor
