/- loan.at: the shelf that the loans up to a time lead to. -/
import Derived.Test.YtokhligpjbdhcaaLoanIter
namespace Go.Proofs.Ytokhligpjbdhcaa
set_option linter.unusedSimpArgs false
set_option linter.unusedVariables false
open Go.RowKit Go.Sort Go.Shelf
attribute [local go_sem] Oper.semAt_some

theorem MapAt.same {κ : Type} {enc : κ → Value} {w w' : World} {r : Nat} {m : List (κ × Value)} (h : MapAt w enc r m) (e : w'.heap[r]? = w.heap[r]?) : MapAt w' enc r m := by
  obtain ⟨⟨es, c, h1, h2⟩, h3⟩ := h; exact ⟨⟨es, c, e.trans h1, h2⟩, h3⟩
/-- One loan after another; what cannot happen is left out. -/
def shStep (s : Sh) (x : Lo) : Sh := if shCan s x then shAdd s x else s
def shOf (l : List Lo) : Sh := l.foldl shStep ⟨[], []⟩
theorem shOf_snoc (l : List Lo) (x : Lo) : shOf (l ++ [x]) = shStep (shOf l) x := by simp [shOf, List.foldl_append]
def AtPost (l : List Lo) (time : Int) (w : World) (e : Ending) (w' : World) : Prop :=
  ∃ a b, e = .returned (.agg #[.map (some a), .map (some b)]) ∧ ShAt w' a b (shOf (upTo l time)) ∧ Below w.heap.size w w' ∧ w.heap.size ≤ a ∧ w.heap.size ≤ b

set_option maxHeartbeats 2000000 in
set_option maxRecDepth 100000 in
theorem at_any (p : Option Addr) (n cap : Nat) (l : List Lo) (time : Int) (w : World) (hn : n = l.length) (hl : n ≤ 1000000) (hr : LoAt w p l) :
    Calls Try.prog 28 #[.slice p n cap, .int .i64 time] w (AtPost l time w) := by
  subst hn
  refine (callsIn_wide (n := 6)).1 ?_
  have hmm := @run_makeMap Try.prog
  have hfU : Fence.wide.fn 44 := trivial
  have hfA : Fence.wide.fn 29 := trivial
  refine callsIn_of_wp_marks Try.func28 rfl trivial ?_ rfl
  simp only [Try.ntmps28, List.size_toArray, List.length_cons, List.length_nil, Nat.reduceAdd, Nat.reduceSub, Array.replicate_succ, Array.replicate_zero, List.push_toArray, List.append_toArray, List.nil_append, List.cons_append]
  gi_wp2_with (gi_at_call 44; refine (callsIn_wide.2 (until_any _ _ _ _ _)).mono ?_; rintro e w' ⟨rfl, rfl⟩)
  obtain ⟨w5, hw5⟩ : ∃ w5, w5 = (((((w.alloc (.cells #[.map none, .map none] 50)).alloc (.map #[] 0)).alloc (.map #[] 0)).alloc (.cells #[.map (some (w.heap.size + 1)), .map (some (w.heap.size + 1 + 1))] 50)).alloc (.cells #[.slice p l.length cap] 22)).alloc (.cells #[.int .i64 time] 3) := ⟨_, rfl⟩
  rw [← hw5]
  have hsz : w5.heap.size = w.heap.size + 6 := by rw [hw5]; simp
  have hb5 : Below w.heap.size w w5 := by
    rw [hw5]
    exact ((((((Below.refl _ w).alloc (Nat.le_refl _) _).alloc (by simp) _).alloc (by simp; omega) _).alloc (by simp; omega) _).alloc (by simp; omega) _).alloc (by simp; omega) _
  have k0 : w5.heap[w.heap.size]? = some (.cells #[.map none, .map none] 50) := by rw [hw5]; exact (up_alloc (up_alloc (up_alloc (up_alloc (up_alloc (heap_alloc_new w _) _) _) _) _) _)
  have k1 : w5.heap[w.heap.size + 1]? = some (.map #[] 0) := by rw [hw5]; exact (up_alloc (up_alloc (up_alloc (up_alloc (at_alloc _ _ (by simp)) _) _) _) _)
  have k2 : w5.heap[w.heap.size + 1 + 1]? = some (.map #[] 0) := by rw [hw5]; exact (up_alloc (up_alloc (up_alloc (at_alloc _ _ (by simp)) _) _) _)
  have k3 : w5.heap[w.heap.size + 1 + 1 + 1]? = some (.cells #[.map (some (w.heap.size + 1)), .map (some (w.heap.size + 1 + 1))] 50) := by rw [hw5]; exact (up_alloc (up_alloc (at_alloc _ _ (by simp)) _) _)
  have k4 : w5.heap[w.heap.size + 1 + 1 + 1 + 1]? = some (.cells #[.slice p l.length cap] 22) := by rw [hw5]; exact (up_alloc (at_alloc _ _ (by simp)) _)
  have k5 : w5.heap[w.heap.size + 1 + 1 + 1 + 1 + 1]? = some (.cells #[.int .i64 time] 3) := by rw [hw5]; exact (at_alloc _ _ (by simp))
  clear hw5 hfU
  have hz5 : ShAt w5 (w.heap.size + 1) (w.heap.size + 1 + 1) ⟨[], []⟩ := ⟨⟨⟨_, _, k1, rfl, by simp, by simp⟩, by simp⟩, ⟨⟨_, _, k2, rfl, by simp, by simp⟩, by simp⟩, by omega⟩
  refine wpIn_rangeFunc_ownH (α := Lo) rfl (by omega) (gf := 52) (lb := #[.pointer (some ⟨w.heap.size + 1 + 1 + 1 + 1, 0, none⟩), .pointer (some ⟨w.heap.size + 1 + 1 + 1 + 1 + 1, 0, none⟩)]) rfl trivial (enters_of Try.func52 (by kernel_rfl) rfl)
    (encs := encLo) (Kp := Kept2 w5.heap.size (w.heap.size + 1) (w.heap.size + 1 + 1)) (S := fun xs => xs = upTo l time) (Sp := fun _ => True) (N := l.length) (w0 := w5) ?hseq Kept2.trans ?hKb (Below.refl _ _) (fun _ => rfl)
    (fun pre W => ShAt W (w.heap.size + 1) (w.heap.size + 1 + 1) (shOf pre) ∧ W.heap[w.heap.size]? = some (.cells #[.map none, .map none] 50) ∧ W.heap[w.heap.size + 1 + 1 + 1]? = some (.cells #[.map (some (w.heap.size + 1)), .map (some (w.heap.size + 1 + 1))] 50) ∧ Below w.heap.size w W ∧ w5.heap.size ≤ W.heap.size)
    (fun _ _ _ => False) ?hI (fun _ _ _ _ _ hs _ _ => hs) ⟨hz5, k0, k3, hb5, Nat.le_refl _⟩
    (fun x a' W => ∃ Bx, w5.heap.size ≤ Bx ∧ W.heap[Bx]? = some (.cells #[.int .i64 x.t, .int .i64 x.k, .int .i64 x.s, .int .i64 x.st, .int .i64 x.h] 24) ∧ a' = { tmps := #[.slice p l.length cap, .int .i64 time, undef, undef, .pointer (some ⟨w.heap.size, 0, none⟩), .pointer (some ⟨w.heap.size + 1 + 1 + 1, 0, none⟩), .pointer (some ⟨Bx, 0, none⟩), .map (some (w.heap.size + 1)), .map (some (w.heap.size + 1 + 1)), .agg #[.map (some (w.heap.size + 1)), .map (some (w.heap.size + 1 + 1))], .slice p l.length cap, .int .i64 time, .func (.func 52) #[] #[.pointer (some ⟨w.heap.size + 1 + 1 + 1 + 1, 0, none⟩), .pointer (some ⟨w.heap.size + 1 + 1 + 1 + 1 + 1, 0, none⟩)], .agg #[.int .i64 x.t, .int .i64 x.k, .int .i64 x.s, .int .i64 x.st, .int .i64 x.h], undef, undef, undef, undef], defers := [] })
    ?hAx ?hassign ?hbody ?hdone ?hstop
  case hseq =>
    intro l0 J Jx W hW hJ _ hY h0
    have hfar : FarAt W w5.heap.size (w.heap.size + 1) (w.heap.size + 1 + 1) p 5 (l.map Lo.cells) := by
      refine ⟨(hr.below hb5).below hW, fun q hq hne => ?_⟩
      obtain ⟨r0, rs, e⟩ := List.exists_cons_of_ne_nil hne
      obtain ⟨b0, o0, e0, h0, _⟩ := hr 0 r0 (by rw [e]; rfl)
      rw [hq] at e0; cases e0
      exact ⟨by show b0 < _; omega, by show b0 ≠ _; omega, by show b0 ≠ _; omega⟩
    exact until1_in Fence.wide 5 trivial rfl (by omega) l0 _ _ w5.heap.size (w.heap.size + 1) (w.heap.size + 1 + 1) p cap l time J Jx W hl hW.size (blk_keep k4 hW) (blk_keep k5 hW) ⟨by omega, by omega, by omega⟩ ⟨by omega, by omega, by omega⟩ hfar hJ hY h0
  case hKb =>
    intro W l0 o o' hl0 hW _ _
    exact (Kept2.refl _ _ _ _).trans ⟨by simp, fun k hk _ _ => World.putObj_heap_other (by omega)⟩
  case hI =>
    rintro s W W' row ⟨i1, i2, i3, i4, i5⟩ hg hrow
    have hne : ∀ k, k < w5.heap.size → row ≠ some k := fun k hk e => by have := (hrow k e).1; omega
    exact ⟨⟨i1.1.kept hg (hne _ (by omega)), i1.2.1.kept hg (hne _ (by omega)), i1.2.2⟩, (hg.block _ (lt_of_block i2) (fun e => hne _ (by omega) e.symm)).trans i2, (hg.block _ (lt_of_block i3) (fun e => hne _ (by omega) e.symm)).trans i3,
      i4.grown hg i4.size (fun k e => by have := (hrow k e).1; omega), Nat.le_trans i5 hg.size⟩
  case hAx =>
    rintro x a' s W W' row ⟨Bx, h1, h2, h3⟩ hg hrow
    refine ⟨Bx, h1, (hg.block _ (lt_of_block h2) (fun e => ?_)).trans h2, h3⟩
    obtain ⟨_, o, ho, hc⟩ := hrow Bx e.symm
    rw [h2] at ho; cases ho; cases hc
  case hassign =>
    rintro l0 pre x W K ⟨i1, i2, i3, i4, i5⟩ hK
    gi_wp2
    exact hK _ _ ((KeepsOthers.alloc _ _).from _) ((Kept2.refl _ _ _ _).alloc i5 _) ⟨i1.below ((Below.refl _ _).alloc (Nat.le_refl _) _), up_alloc i2 _, up_alloc i3 _, i4.alloc i4.size _, by simp; omega⟩ ⟨W.heap.size, i5, heap_alloc_new _ _, rfl⟩
  case hbody =>
    rintro l0 pre x a' W hl0 ⟨r, hr0⟩ ⟨i1, i2, i3, i4, i5⟩ ⟨Bx, hBx, hbx, rfl⟩ hlt
    have c3 := box_cells i3
    have cx := box_cells hbx
    have I1 := Lib.hid i1
    gi_wp2_with (gi_at_call 29; refine (CallsIn.inRound l0 (callsIn_wide.2 (add_any _ _ (shOf pre) _ _ _ _ _ _ I1.out))).mono ?_; rintro e W2 ⟨rfl, hz2, hb2⟩)
    refine ⟨⟨hb2.size, fun k o hk h0 ho => (hb2.block k (lt_of_block h0) (by omega) (by omega)).trans h0⟩, ⟨hb2.size, fun k hk ha hb => hb2.block k (by omega) ha hb⟩, ?_, (hb2.block _ (lt_of_block i2) (by omega) (by omega)).trans i2, (hb2.block _ (lt_of_block i3) (by omega) (by omega)).trans i3,
      i4.trans ⟨hb2.os, hb2.tape, hb2.output, hb2.size, fun k hk => hb2.block k (by have := i4.size; omega) (by omega) (by omega)⟩, Nat.le_trans i5 hb2.size⟩
    rw [shOf_snoc]
    exact hz2
  case hdone =>
    rintro D xs W hD rfl ⟨i1, i2, i3, i4, i5⟩ hK
    have c3 := box_cells i3
    have c0 := box_cells i2
    have f0 := box_free i2
    gi_wp2
    have hK2 := (KeepsOthers.setCell (W.setCell ⟨w.heap.size, 0, none⟩ (.map (some (w.heap.size + 1)))) ⟨w.heap.size, 1, none⟩ (.map (some (w.heap.size + 1 + 1)))).same D _ ((KeepsOthers.setCell W ⟨w.heap.size, 0, none⟩ (.map (some (w.heap.size + 1)))).same D _ hK rfl) rfl
    refine ⟨by simp, .inl ⟨_, _, rfl, run_takeDeferred hK2, ?_⟩⟩
    have q1 := heap_setCell_same W w.heap.size 0 _ _ (.map (some (w.heap.size + 1))) i2
    have q2 := heap_setCell_same _ w.heap.size 1 _ _ (.map (some (w.heap.size + 1 + 1))) q1
    have q3 := (World.putObj_heap_other (w := (W.setCell ⟨w.heap.size, 0, none⟩ (.map (some (w.heap.size + 1)))).setCell ⟨w.heap.size, 1, none⟩ (.map (some (w.heap.size + 1 + 1)))) (r := D) (o := .deferred none) (k := w.heap.size) (by omega)).trans q2
    refine ⟨_, results_cell_row rfl _ _ w.heap.size _ #[.map (some (w.heap.size + 1)), .map (some (w.heap.size + 1 + 1))] (0, 0) _ rfl q3 Try.underlying50 rfl (by kernel_rfl), ?_⟩
    have hset : Below w.heap.size w (((W.setCell ⟨w.heap.size, 0, none⟩ (.map (some (w.heap.size + 1)))).setCell ⟨w.heap.size, 1, none⟩ (.map (some (w.heap.size + 1 + 1)))).putObj D (.deferred none)) :=
      ((i4.setCell (p := ⟨w.heap.size, 0, none⟩) (Nat.le_refl _) _).setCell (p := ⟨w.heap.size, 1, none⟩) (Nat.le_refl _) _).grown (grownBy_putObj' _ D _) (by have := ((i4.setCell (p := ⟨w.heap.size, 0, none⟩) (Nat.le_refl _) (.map (some (w.heap.size + 1)))).setCell (p := ⟨w.heap.size, 1, none⟩) (Nat.le_refl _) (.map (some (w.heap.size + 1 + 1)))).size; omega) (fun k e => by cases e; omega)
    have hsame : ∀ k, k ≠ w.heap.size → k ≠ D → (((W.setCell ⟨w.heap.size, 0, none⟩ (.map (some (w.heap.size + 1)))).setCell ⟨w.heap.size, 1, none⟩ (.map (some (w.heap.size + 1 + 1)))).putObj D (.deferred none)).heap[k]? = W.heap[k]? := fun k h1 h2 =>
      ((World.putObj_heap_other h2).trans (Below.heap_setCell _ _ _ k h1)).trans (Below.heap_setCell _ _ _ k h1)
    exact ⟨_, _, rfl, ⟨i1.1.same (hsame _ (by omega) (by omega)), i1.2.1.same (hsame _ (by omega) (by omega)), i1.2.2⟩, hset, by omega, by omega⟩
  case hstop =>
    rintro D c pre W _ _ h _
    exact h.elim

end Go.Proofs.Ytokhligpjbdhcaa
