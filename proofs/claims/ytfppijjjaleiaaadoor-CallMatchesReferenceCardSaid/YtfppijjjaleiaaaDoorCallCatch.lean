
/- call.Parse's deferred function: what it does with a failure, and with none. -/
import Derived.Test.YtfppijjjaleiaaaDoorCallIter
import Derived.Test.YtfppijjjaleiaaaDoorCallRd3
import Derived.Recover
import Derived.RecoverIn
import Derived.DefersIn
import Derived.Laws.Pointers
import Derived.RegionIn
namespace Go.Proofs.YtfppijjjaleiaaaDoor
set_option linter.unusedSimpArgs false
set_option linter.unusedVariables false
open Go.RowKit Go.Sort Go.Shelf

set_option maxRecDepth 100000 in
theorem catch_idle (n bc be : Nat) (w : World) :
    CallsDIn Fence.wide n Tryd.prog 26 #[.pointer (some ⟨bc, 0, none⟩), .pointer (some ⟨be, 0, none⟩)] .returning w fun e u' w' => e = .returned (.tuple #[]) ∧ u' = .returning ∧ w' = w := by
  refine callsDIn_of_wpSIn Tryd.func26 rfl trivial fun c₀ cs hu => ?_
  apply wpSIn_seq
  apply wpSIn_region
  simp [wpOpsSIn, go_sem, recoverD, hu, Tryd.ntmps26, Exit.thenS]
  simp only [Array.replicate_succ, Array.replicate_zero, List.push_toArray, List.setIfInBounds_toArray, List.set_cons_succ, List.set_cons_zero, List.append_toArray, List.cons_append, List.nil_append]
  refine wpSIn_of_wpIn rfl ?_
  refine wpIn_wide.2 ?_
  go_wp2
  cases c₀
  simp_all [bodyPostS, results, Tryd.results26]
set_option maxRecDepth 100000 in
set_option maxHeartbeats 2000000 in
theorem catch_fail (n bc be n0 : Nat) (c : Cl) (v : Int) (w : World) (hc : w.heap[bc]? = some (.cells #[.string (mkS c.letter), .int .i64 c.number, .int .i64 c.bars, .int .i64 c.n, .int .i64 c.d, .int .i64 c.pass] 25 (0, 0))) (he : w.heap[be]? = some (.cells #[.int .i64 v] 27 (0, 0))) (hne : bc ≠ be) (h1 : n0 ≤ bc) (h2 : n0 ≤ be) :
    CallsDIn Fence.wide n Tryd.prog 26 #[.pointer (some ⟨bc, 0, none⟩), .pointer (some ⟨be, 0, none⟩)] (.panicking ({ v := .iface 45 (.agg #[]), recovered := false } :: [])) w fun e u' w' =>
      e = .returned (.tuple #[]) ∧ u' = .panicking ({ v := .iface 45 (.agg #[]), recovered := true } :: []) ∧ w'.heap[bc]? = some (.cells #[.string (mkS (⟨[], 0, 0, 0, 0, 0⟩ : Cl).letter), .int .i64 (⟨[], 0, 0, 0, 0, 0⟩ : Cl).number, .int .i64 (⟨[], 0, 0, 0, 0, 0⟩ : Cl).bars, .int .i64 (⟨[], 0, 0, 0, 0, 0⟩ : Cl).n, .int .i64 (⟨[], 0, 0, 0, 0, 0⟩ : Cl).d, .int .i64 (⟨[], 0, 0, 0, 0, 0⟩ : Cl).pass] 25 (0, 0)) ∧ w'.heap[be]? = some (.cells #[.int .i64 8] 27 (0, 0)) ∧ Below n0 w w' := by
  refine callsDIn_of_wpSIn Tryd.func26 rfl trivial fun c₀ cs hu => ?_
  apply wpSIn_seq
  apply wpSIn_region
  simp [wpOpsSIn, go_sem, recoverD, hu, Tryd.ntmps26, Exit.thenS]
  simp only [Array.replicate_succ, Array.replicate_zero, List.push_toArray, List.setIfInBounds_toArray, List.set_cons_succ, List.set_cons_zero, List.append_toArray, List.cons_append, List.nil_append]
  refine wpSIn_of_wpIn rfl ?_
  refine wpIn_wide.2 ?_
  have hta : ∀ w, (Instr.typeAssert (.iface 45 (.agg #[])) 20 45 true).run Tryd.prog w = .ok (.tuple #[.agg #[], .bool true]) w := fun w => by kernel_rfl
  go_upto_region 7 with (fail)
  have hb0 := (Below.refl w.heap.size w).alloc (Nat.le_refl _) (.cells #[] 45)
  have HC := Lib.hid (blk_keep hc hb0); have HE := Lib.hid (blk_keep he hb0)
  have HB : Hid (Below n0 w (w.alloc (.cells #[] 45))) := Lib.hid (hb0.mono (by have := lt_blk hc; omega))
  generalize w.alloc (.cells #[] 45) = W at *
  clear hb0 hc he
  have hcc := box_cells HC.out; have hff := box_free HC.out; have hce := box_cells HE.out; have hfe := box_free HE.out
  have a0 := heap_setCell_same W bc 0 _ _ (.string ⟨#[]⟩) HC.out
  have a1 := heap_setCell_same _ bc 1 _ _ (.int .i64 0) a0
  have a2 := heap_setCell_same _ bc 2 _ _ (.int .i64 0) a1
  have a3 := heap_setCell_same _ bc 3 _ _ (.int .i64 0) a2
  have a4 := heap_setCell_same _ bc 4 _ _ (.int .i64 0) a3
  have a5 := heap_setCell_same _ bc 5 _ _ (.int .i64 0) a4
  simp only [List.setIfInBounds_toArray, List.set_cons_zero, List.set_cons_succ] at a5
  have hbe : be ≠ bc := fun e => hne e.symm
  have b0 := set1_far (i := 0) HE.out hbe (.string ⟨#[]⟩)
  have b1 := set1_far (i := 1) b0 hbe (.int .i64 0)
  have b2 := set1_far (i := 2) b1 hbe (.int .i64 0)
  have b3 := set1_far (i := 3) b2 hbe (.int .i64 0)
  have b4 := set1_far (i := 4) b3 hbe (.int .i64 0)
  have b5 := set1_far (i := 5) b4 hbe (.int .i64 0)
  have c0 := HB.out.setCell (p := ⟨bc, 0, none⟩) h1 (.string ⟨#[]⟩)
  have c1 := c0.setCell (p := ⟨bc, 1, none⟩) h1 (.int .i64 0)
  have c2 := c1.setCell (p := ⟨bc, 2, none⟩) h1 (.int .i64 0)
  have c3 := c2.setCell (p := ⟨bc, 3, none⟩) h1 (.int .i64 0)
  have c4 := c3.setCell (p := ⟨bc, 4, none⟩) h1 (.int .i64 0)
  have c5 := c4.setCell (p := ⟨bc, 5, none⟩) h1 (.int .i64 0)
  have K1 := Lib.hid (set1_far (i := 0) a5 hne (.int .i64 8))
  have K2 := Lib.hid (heap_setCell_same _ be 0 _ _ (.int .i64 8) b5)
  have K3 := Lib.hid (c5.setCell (p := ⟨be, 0, none⟩) h2 (.int .i64 8))
  clear a0 a1 a2 a3 a4 a5 b0 b1 b2 b3 b4 b5 c0 c1 c2 c3 c4 c5
  go_wp2
  exact ⟨rfl, _, rfl, _, results_none rfl _ _ _, rfl, rfl, K1.out, K2.out, K3.out⟩
end Go.Proofs.YtfppijjjaleiaaaDoor
