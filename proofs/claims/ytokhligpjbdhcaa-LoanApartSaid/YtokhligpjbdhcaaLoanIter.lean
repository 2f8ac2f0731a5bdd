/- loan.until: the iterator over the loans up to a time, and what it hands on. -/
import Derived.RangeFuncNested
import Derived.RangeFuncBound
import Derived.RangeFuncCalls
import Derived.RangeFuncLeaves
import Derived.Shelf.Abstract
import Derived.Shelf.RegionOpen
import Derived.OwnWalkIn
import Derived.TacticsInMore
import Derived.LoopNIn
import Derived.LoopIn
import Derived.Test.YtokhligpjbdhcaaLoanAdd
namespace Go.Proofs.Ytokhligpjbdhcaa
set_option linter.unusedSimpArgs false
set_option linter.unusedVariables false
open Go.RowKit Go.Sort Go.Shelf
attribute [local go_sem] Oper.semAt_some

/-- What lay below n0, but for the blocks a and b, lies as it lay. -/
structure Kept2 (n0 a b : Nat) (W W' : World) : Prop where
  size : W.heap.size ≤ W'.heap.size
  block : ∀ k, k < n0 → k ≠ a → k ≠ b → W'.heap[k]? = W.heap[k]?
theorem Kept2.refl (n0 a b : Nat) (W : World) : Kept2 n0 a b W W := ⟨Nat.le_refl _, fun _ _ _ _ => rfl⟩
theorem Kept2.trans {n0 a b : Nat} {X Y Z : World} (h : Kept2 n0 a b X Y) (k : Kept2 n0 a b Y Z) : Kept2 n0 a b X Z := ⟨Nat.le_trans h.size k.size, fun i hi ha hb => (k.block i hi ha hb).trans (h.block i hi ha hb)⟩
theorem Kept2.alloc {n0 a b : Nat} {X Y : World} (h : Kept2 n0 a b X Y) (hn : n0 ≤ Y.heap.size) (o : Obj) : Kept2 n0 a b X (Y.alloc o) := h.trans ⟨by simp, fun k hk _ _ => Below.heap_alloc _ _ _ (by omega)⟩
theorem Kept2.grown {n0 a b : Nat} {X Y Z : World} (h : Kept2 n0 a b X Y) {row : Option Nat} (hg : Y.grownBy Z row) (hn : n0 ≤ Y.heap.size) (hr : ∀ r, row = some r → n0 ≤ r) : Kept2 n0 a b X Z :=
  h.trans ⟨hg.size, fun k hk _ _ => hg.block k (by omega) (fun e => by have := hr k e.symm; omega)⟩
/-- The rows of a slice whose blocks lie below n0 and are neither a nor b. -/
structure FarAt (W : World) (n0 a b : Nat) (p : Option Addr) (sz : Nat) (rows : List (List Value)) : Prop where
  at_ : SlAt W p sz rows
  far : ∀ q, p = some q → rows ≠ [] → q.block < n0 ∧ q.block ≠ a ∧ q.block ≠ b
theorem FarAt.kept {W W' : World} {n0 a b : Nat} {p : Option Addr} {sz : Nat} {rows : List (List Value)} (h : FarAt W n0 a b p sz rows) (hk : Kept2 n0 a b W W') : FarAt W' n0 a b p sz rows :=
  ⟨fun i r hr => by
    obtain ⟨bk, off, e, hlt, hl, hc⟩ := h.at_ i r hr
    obtain ⟨h1, h2, h3⟩ := h.far _ e (fun e' => by subst e'; simp at hr)
    exact ⟨bk, off, e, Nat.lt_of_lt_of_le hlt hk.size, hl, fun j v hv => (World.cell?_of_block (w := W) (hk.block bk h1 h2 h3)).trans (hc j v hv)⟩, h.far⟩

set_option maxHeartbeats 400000 in
/-- until makes a function that holds the loans and the time in two boxes. -/
theorem until_any (a : Option Addr) (n cap : Nat) (time : Int) (w : World) :
    Calls Try.prog 44 #[.slice a n cap, .int .i64 time] w fun e w' =>
      e = .returned (.func (.func 52) #[] #[.pointer (some ⟨w.heap.size, 0, none⟩), .pointer (some ⟨w.heap.size + 1, 0, none⟩)]) ∧
      w' = (w.alloc (.cells #[.slice a n cap] 22)).alloc (.cells #[.int .i64 time] 3) := by
  go_enter Try.func44, Try.ntmps44
  go_wp2
  go_ret
  exact ⟨rfl, rfl⟩

abbrev encLo (x : Lo) : Array Value := #[.agg #[.int .i64 x.t, .int .i64 x.k, .int .i64 x.s, .int .i64 x.st, .int .i64 x.h]]
set_option maxHeartbeats 2000000 in
set_option maxRecDepth 100000 in
theorem until1_in (F : Fence) (n : Nat) (hF : F.fn 52) (hro : F.round = none) (hn : 1 ≤ n) (lo bl bt n0 a b : Nat) (p : Option Addr) (cap : Nat) (l : List Lo) (time : Int) (J Jx : List Lo → World → Prop) (W : World)
    (hl : l.length ≤ 1000000) (hn0 : n0 ≤ W.heap.size) (hbl : W.heap[bl]? = some (.cells #[.slice p l.length cap] 22)) (hbt : W.heap[bt]? = some (.cells #[.int .i64 time] 3)) (hfl : bl < n0 ∧ bl ≠ a ∧ bl ≠ b) (hft : bt < n0 ∧ bt ≠ a ∧ bt ≠ b)
    (hr : FarAt W n0 a b p 5 (l.map Lo.cells)) (hJ : AbidesFrom W.heap.size J)
    (hY : ∀ pre x W1, J pre W1 → pre.length < l.length → YieldAt F (n - 1) Try.prog lo (encLo x) W1 fun e W' =>
      (e = .returned (.bool true) ∧ J (pre ++ [x]) W' ∧ Kept2 n0 a b W1 W') ∨ (e = .returned (.bool false) ∧ Jx (pre ++ [x]) W')) (h0 : J [] W) :
    CallsIn F n Try.prog 52 (#[.func (.yield lo) #[] #[]] ++ #[.pointer (some ⟨bl, 0, none⟩), .pointer (some ⟨bt, 0, none⟩)]) W fun e W' => (∃ v, e = .returned v) ∧ ((∃ xs, xs = upTo l time ∧ J xs W') ∨ (∃ pre, True ∧ Jx pre W')) := by
  have hc1 := box_cells hbl
  have hc2 := box_cells hbt
  have HR := Lib.hid hr; clear hr
  have HBT := Lib.hid hbt; clear hbt
  have HBL := Lib.hid hbl; clear hbl
  have HN0 := Lib.hid hn0; clear hn0
  refine callsIn_of_wp Try.func52 rfl hF ?_ hro
  simp only [Try.ntmps52, List.size_toArray, List.length_cons, List.length_nil, Nat.reduceAdd, Nat.reduceSub, Array.replicate_succ, Array.replicate_zero, List.push_toArray, List.append_toArray, List.nil_append, List.cons_append]
  gi_wp2
  gi_loopw [8] (fun i wr => ∃ k : Nat, ∃ hk : k ≤ l.length, i = .int .i64 k ∧ (∀ j (hj : j < k), l[j].t ≤ time) ∧ J (l.take k) wr ∧ Kept2 n0 a b W wr) (fun i _ => l.length - (intOf i).toNat)
  case atStart => exact ⟨0, Nat.zero_le _, rfl, fun j hj => by omega, h0, Kept2.refl _ _ _ _⟩
  case round =>
    obtain ⟨k, hk, rfl, hall, hJk, hK⟩ := hrel
    have H := Lib.hid hall; clear hall
    have HK := Lib.hid hK; clear hK
    by_cases hlt : k < l.length
    · have HR1 := HR.out.kept HK.out
      obtain ⟨b1, o1, rfl, c0, c1, c2, c3, c4⟩ := LoAt.get HR1.at_ k hlt
      have hbt1 := (HK.out.block bt hft.1 hft.2.1 hft.2.2).trans HBT.out
      have hct := box_cells hbt1
      have hbtlt := lt_of_block hbt1
      have HBT1 := Lib.hid hbt1; clear hbt1
      have HFL := Lib.hid hfl; clear hfl
      have HFT := Lib.hid hft; clear hft
      have hblt : b1 < wr.heap.size := World.block_lt_of_cell? _ _ c0
      clear hc1 hc2
      by_cases ht : time < l[k].t
      · gi_wp2
        refine ⟨fun _ h => (by cases h), ?_⟩
        gi_wp2
        refine bodyPost_ret (results_none rfl _ _ _) rfl ?_
        exact ⟨⟨_, rfl⟩, .inl ⟨l.take k, (upTo_stop l time k hk H.out (fun _ => ht)).symm, hJ _ _ _ none hJk (World.grownBy_alloc _ _ _) (fun r e => by cases e)⟩⟩
      · obtain ⟨fn, tmps, assign, body, hy, hRd⟩ := hY (l.take k) l[k] (wr.alloc (.cells #[.int .i64 l[k].t, .int .i64 l[k].k, .int .i64 l[k].s, .int .i64 l[k].st, .int .i64 l[k].h] 24)) (hJ _ _ _ none hJk (World.grownBy_alloc _ _ _) (fun r e => by cases e)) (by simp; omega)
        dsimp only [encLo] at hy
        have HN := Lib.hid (HN0.out : n0 ≤ W.heap.size)
        gi_wp2
        refine hRd.mono ?_
        rintro e W3 (⟨rfl, hJ3, hk3⟩ | ⟨rfl, hJx3⟩)
        · gi_wp2
          go_roundw
          case rel =>
            refine ⟨k + 1, by omega, by go_num, fun j hj => ?_, ?_, (HK.out.alloc (Nat.le_trans HN0.out HK.out.size) _).trans hk3⟩
            · by_cases e : j = k
              · subst e; omega
              · exact H.out j (by omega)
            · rw [List.take_succ_eq_append_getElem hlt]; exact hJ3
          case measure => simp [intOf]; omega
        · gi_wp2
          refine bodyPost_ret (results_none rfl _ _ _) rfl ?_
          exact ⟨⟨_, rfl⟩, .inr ⟨_, trivial, hJx3⟩⟩
    · obtain rfl : k = l.length := by omega
      gi_wp2
      go_end0
      refine ⟨⟨_, rfl⟩, .inl ⟨l.take l.length, ?_, hJk⟩⟩
      exact (upTo_stop l time l.length (Nat.le_refl _) H.out (fun h => absurd h (Nat.lt_irrefl _))).symm

end Go.Proofs.Ytokhligpjbdhcaa
