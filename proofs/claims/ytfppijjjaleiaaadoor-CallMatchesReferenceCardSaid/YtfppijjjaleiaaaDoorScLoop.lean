
/- A range over a function that turns one cell of its own which lay ahead of the loop, and owns rows that it has laid; what it hands on may be told of the world; no condition. -/
import Derived.RangeFuncNested
import Derived.RangeFuncBound
import Derived.Test.YtfppijjjaleiaaaDoorLib2
namespace Go.Proofs.YtfppijjjaleiaaaDoor
set_option linter.unusedSimpArgs false
set_option linter.unusedVariables false
open Go.RowKit Go.Sort
variable {F : Fence} {n : Nat} {P : Program}

theorem keep_grown {B : Nat} {S : List Nat} {X Y : World} {k : Nat} {o : Obj} (h : KeepB B S X Y) (hx : X.heap[k]? = some o) (hk : k < B) (hn : k ∉ S) : Y.heap[k]? = some o := (h.block k hk hn).trans hx
/-- An iterator's word: it may turn block bl, and what is laid behind the last round. -/
def SeqSets {α : Type} (F : Fence) (n : Nat) (P : Program) (g : Nat) (lb : Array Value) (encs : α → Array Value) (Kp : World → World → Prop) (S : List α → Prop) (Ok : α → World → Prop) (N bl : Nat) (w : World) : Prop :=
  ∀ (l : Nat) (J : List α → World → Prop) (W : World), KeepB w.heap.size [bl] w W → W.heap[bl]? = w.heap[bl]? → (∀ pre X Y, J pre X → KeepB X.heap.size [bl] X Y → J pre Y) →
    (∀ pre x W1, J pre W1 → Ok x W1 → pre.length < N → YieldAt F (n - 1) P l (encs x) W1 fun e W' => e = .returned (.bool true) ∧ J (pre ++ [x]) W' ∧ Kp W1 W') →
    J [] W → CallsIn F n P g (#[.func (.yield l) #[] #[]] ++ lb) W fun e W' => (∃ v, e = .returned v) ∧ ∃ xs, S xs ∧ J xs W'
theorem rangeFunc_sets {α : Type} {g : Operand} {ps : Array Tmp} {assign body : Code} {Q : Exit → Act → World → Prop} {a : Act} {w : World}
    (hro : F.round = none) (h1 : 1 ≤ n) {gf : Nat} {lb : Array Value} (hg : a.eval g = .func (.func gf) #[] lb) (hFg : F.fn gf) (eg : ∀ args w, (callFunc gf args).run P w = .ok (.enter gf args) w)
    {encs : α → Array Value} (hps : ∀ x, (encs x).size = ps.size) {Kp : World → World → Prop} {S : List α → Prop} {Ok : α → World → Prop} {N bl : Nat} (hbl : bl < w.heap.size) (hseq : SeqSets F (n - 1) P gf lb encs Kp S Ok N bl w)
    (hKt : ∀ {A B C : World}, Kp A B → Kp B C → Kp A C) (hKb : ∀ (W : World) (l : Nat) (o o' : Obj), w.heap.size ≤ l → W.heap[l]? = some o → o.isCells = false → o.isWalk = false → Kp W (W.putObj l o'))
    (I : List α → World → Prop) (hI : OwnFrom w.heap.size I) (hIk : ∀ pre X Y, I pre X → KeepB X.heap.size [bl] X Y → I pre Y) (h0 : I [] w) (Ax : α → Act → World → Prop) (hAx : ∀ x a', OwnFrom w.heap.size (fun (_ : Unit) W => Ax x a' W))
    (hassign : ∀ (l : Nat) (pre : List α) (x : α) (W : World) (K : Act → World → Prop), I pre W → Ok x W → (∀ a' W', KeepsFrom w.heap.size W W' → Kp W W' → I pre W' → Ax x a' W' → K a' W') →
      assign.wpIn (F.inRound l) (n - 1 - 1) P (Exit.then K (fun _ _ _ => False)) { tmps := (ps.zip (encs x)).foldl (fun t (p, v) => t.setIfInBounds p v) a.tmps, defers := [] } W)
    (hbody : ∀ (l : Nat) (pre : List α) (x : α) (a' : Act) (W : World), w.heap.size ≤ l → I pre W → Ax x a' W → pre.length < N → body.wpIn (F.inRound l) (n - 1 - 1) P (fun e _ W' => e = .normal ∧ KeepsFrom w.heap.size W W' ∧ Kp W W' ∧ I (pre ++ [x]) W') a' W)
    (hdone : ∀ (D : Nat) (xs : List α) (W : World), w.heap.size ≤ D → S xs → I xs W → W.heap[D]? = some (.deferred (some [])) → Q .normal { a with defers := { target := .collected D, args := #[] } :: a.defers } W) :
    (Code.rangeFunc g ps assign body).wpIn F n P Q a w := by
  refine wpIn_rangeFunc fun fn hfn => ?_
  rw [hro]
  obtain ⟨R, hR⟩ : ∃ R : LoopState → Loop, R = fun st => { state := st, pending := none, fn, tmps := a.tmps, params := ps, assign, body, defers := w.heap.size } := ⟨_, rfl⟩
  obtain ⟨W1, hW1⟩ : ∃ W1, (w.alloc (.deferred (some []))).alloc (.loop (R .ready)) = W1 := ⟨_, rfl⟩
  have s1 : W1.heap.size = w.heap.size + 2 := by rw [← hW1]; simp
  have bw : Below w.heap.size w W1 := by rw [← hW1]; exact ((Below.refl _ w).alloc (Nat.le_refl _) _).alloc (by simp) _
  have kL : W1.heap[w.heap.size + 1]? = some (.loop (R .ready)) := by
    rw [← hW1]; have := World.alloc_heap_new (w.alloc (.deferred (some []))) (.loop (R .ready)); rwa [World.size_alloc] at this
  have kD : W1.heap[w.heap.size]? = some (.deferred (some [])) := by rw [← hW1]; exact up_alloc (heap_alloc_new w _) _
  have i1 : I [] W1 := by rw [← hW1]; exact hI.alloc _ (hI.alloc _ h0)
  refine ⟨w.heap.size + 1, [{ target := .collected w.heap.size, args := #[] }], W1, { target := .fn (.func gf) lb, args := #[.func (.yield (w.heap.size + 1)) #[] #[]] }, W1, gf, #[.func (.yield (w.heap.size + 1)) #[] #[]] ++ lb, W1, ?_, ?_, ?_, ?_, fun _ => h1, ?_⟩
  · rw [← hW1, hR]; exact run_enterLoop_outer _ _ _ _ _
  · simp only [resolve, hg]; simp [go_sem]
  · intro f' hf'; simp [Target.leads] at hf'; subst hf'; exact hFg
  · simp [invoke, go_sem, eg]
  refine (hseq (w.heap.size + 1) (fun pre W => I pre W ∧ W.heap[w.heap.size + 1]? = some (.loop (R .ready)) ∧ W.heap[w.heap.size]? = some (.deferred (some []))) W1 (KeepB.of_below' bw) (bw.block bl hbl) ?_ ?_ ⟨i1, kL, kD⟩).mono ?_
  · rintro pre X Y ⟨x1, x2, x3⟩ hk
    exact ⟨hIk _ _ _ x1 hk, keep_grown hk x2 (lt_blk x2) (by simp; omega), keep_grown hk x3 (lt_blk x3) (by simp; omega)⟩
  · rintro pre x W ⟨x1, x2, x3⟩ hok hlen
    have hy := run_yield (P := P) (args := encs x) x2 (by rw [hR]; exact hps x)
    rw [hR] at hy
    refine ⟨fn, _, assign, body, hy, roundIn_of_wpIn hfn (hassign _ pre x W _ x1 hok fun a' V hf hp hi hax => ?_)⟩
    have v2 := hf.same _ _ (by omega) x2 rfl
    have v3 := hf.same _ _ (Nat.le_refl _) x3 rfl
    have hlt := lt_blk v2
    refine ⟨_, run_beginRound v2 (by rw [hR]), ?_⟩
    have u2 : (V.putObj (w.heap.size + 1) (.loop { R .ready with state := .busy })).heap[w.heap.size + 1]? = some (.loop { R .ready with state := .busy }) := World.putObj_heap_same hlt
    have u3 : (V.putObj (w.heap.size + 1) (.loop { R .ready with state := .busy })).heap[w.heap.size]? = some (.deferred (some [])) := (World.putObj_heap_other (by omega)).trans v3
    have p2 : Kp V (V.putObj (w.heap.size + 1) (.loop { R .ready with state := .busy })) := hKb _ _ _ _ (by omega) v2 rfl rfl
    refine wpIn_mono (hbody _ pre x a' _ (by omega) (hI.putObj _ hi (by omega) v2 rfl) ((hAx x a').putObj (s := ()) _ hax (by omega) v2 rfl) hlen) ?_
    rintro e a3 V3 ⟨rfl, hf3, hp3, hi3⟩
    have t2 := hf3.same _ _ (by omega) u2 rfl
    have t3 := hf3.same _ _ (Nat.le_refl _) u3 rfl
    have hend := run_endRound (P := P) none t2
    rw [hR] at hend
    refine ⟨_, _, hend, rfl, ⟨hI.putObj _ hi3 (by omega) t2 rfl, ?_, (World.putObj_heap_other (by omega)).trans t3⟩, hKt hp (hKt (hKt p2 hp3) (hKb _ _ _ _ (by omega) t2 rfl rfl))⟩
    rw [hR]; exact World.putObj_heap_same (lt_blk t2)
  · rintro e W2 ⟨⟨v, rfl⟩, xs, hS, x1, x2, x3⟩
    exact ⟨none, _, by have := run_endLoop (P := P) x2 (by rw [hR]; simp); rw [hR] at this; exact this, hdone _ xs _ (Nat.le_refl _) hS (hI.putObj _ x1 (by omega) x2 rfl) ((World.putObj_heap_other (by omega)).trans x3)⟩
end Go.Proofs.YtfppijjjaleiaaaDoor
