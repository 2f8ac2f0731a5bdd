/- Texts of this seat, laid together: TurnSec, TurnSec2, TurnLoop, TurnClk. -/
import Derived.Test.YtcelciomhngajaaGreatDoorTC
import Derived.RangeFuncNested
import Derived.RangeFuncBound
import Derived.RangeFuncCalls
import Derived.RangeFuncLeaves
import Derived.Shelf.RegionOpen
import Derived.OwnWalkIn
import Derived.TacticsInMore
import Derived.LoopNIn
import Derived.LoopIn
import Derived.Test.YtcelciomhngajaaGreatDoorSJ
import Derived.Test.YtcelciomhngajaaGreatDoorSA
/- Seconds: the reference's takes; places: the reference's Position. -/
namespace Go.Proofs.YtcelciomhngajaaGreatDoor
set_option linter.unusedSimpArgs false
set_option linter.unusedVariables false
open Go.RowKit Go.Sort

open Go.RowKit Go.Sort

/-- What is used of right places in a walk. -/
structure SecV (bars : List Ba) (l : List Te) (F U : Nat) (fq uq : Rt) : Prop where
  v : TempV bars l
  rise : risingT l = true
  first : ∃ h : 0 < l.length, (l[0]'h).bar = 0
  few : bars.length ≤ 4000
  some_ : 0 < bars.length
  fu : F ≤ U
  ul : U ≤ bars.length
  tf : 0 ≤ ticksI fq ∧ ticksI fq ≤ 40320
  tu : 0 ≤ ticksI uq ∧ ticksI uq ≤ 40320
  durf : durB fq = true
  duru : durB uq = true
  bd : ∀ k, k ≤ bars.length → 0 ≤ beforeN l bars k ∧ beforeN l bars k ≤ 96768000000
  sc : ∀ k : Int, 1 ≤ scaleI (atT l k) ∧ scaleI (atT l k) ≤ 600
theorem secV_of {bars : List Ba} {l : List Te} {F U : Nat} {fq uq : Rt} (ht : temposB bars l = true) (hp1 : posB bars ⟨F, fq⟩ = true) (hp2 : posB bars ⟨U, uq⟩ = true) (hlt : laterB ⟨F, fq⟩ ⟨U, uq⟩ = false) : SecV bars l F U fq uq := by
  have hv := temposB_v ht
  have pF := (posB_iff _ _).1 hp1; have pU := (posB_iff _ _).1 hp2
  have f1 := pF.b1; have u1 := pU.b1
  simp only at f1 u1
  have hbb := hv.bars
  have hlen : 1 ≤ bars.length ∧ bars.length ≤ 4000 := by
    have := hbb
    simp only [barsB, Bool.and_eq_true, decide_eq_true_eq] at this
    omega
  have hbt : ∀ (k : Nat) (q : Rt), PosV bars ⟨k, q⟩ → 0 ≤ ticksI q ∧ ticksI q ≤ 40320 := by
    intro k q p
    have h0 := p.t0; have h1 := p.b1
    simp only at h0 h1
    refine ⟨h0, ?_⟩
    by_cases e : (k : Int) = bars.length
    · have := p.end_ e; simp only at this; omega
    · have h2 := p.mid e
      simp only [Int.toNat_natCast] at h2
      have := bar_ticks hbb (i := k) (by omega)
      omega
  have hd : ∀ q : Rt, 0 ≤ ticksI q → durB q = true := by
    intro q h
    cases e : durB q
    · have := ticks_neg.2 e; omega
    · rfl
  have h2 := ht
  simp only [temposB, Bool.and_eq_true, decide_eq_true_eq] at h2
  obtain ⟨⟨⟨⟨⟨_, t2⟩, t3⟩, t4⟩, t5⟩, t6⟩ := h2
  refine ⟨hv, t6, ⟨by omega, ?_⟩, hlen.2, by omega, ?_, by omega, hbt F fq pF, hbt U uq pU, hd _ (hbt F fq pF).1, hd _ (hbt U uq pU).1, ?_, fun k => scale_bd (hv.at_ k)⟩
  · rw [List.getD_eq_getElem?_getD, List.getElem?_eq_getElem (show 0 < l.length by omega)] at t4
    simpa using t4
  · have := hlt
    simp only [laterB, Bool.or_eq_false_iff, decide_eq_false_iff_not] at this
    omega
  · intro k hk
    have := before_bd hv k hk
    omega
theorem SecV.in_ {bars : List Ba} {l : List Te} {F U : Nat} {fq uq : Rt} (h : SecV bars l F U fq uq) :
    cumN l bars ⟨F, fq⟩ = beforeN l bars F + (if F < bars.length then ticksI fq * scaleI (atT l F) else 0) ∧ cumN l bars ⟨U, uq⟩ = beforeN l bars U + (if U < bars.length then ticksI uq * scaleI (atT l U) else 0) := by
  constructor <;> simp [cumN, inN]
theorem prod_tick {a b : Int} (h0 : 0 ≤ a) (h1 : a ≤ 40320) (h2 : 1 ≤ b) (h3 : b ≤ 600) : 0 ≤ a * b ∧ a * b ≤ 24192000 := by
  refine ⟨Int.mul_nonneg h0 (by omega), ?_⟩
  have := Int.mul_le_mul h1 h3 (by omega) (show (0 : Int) ≤ 40320 by decide)
  omega
open Go.RowKit Go.Sort
variable {F : Fence} {n : Nat} {P : Program}

/-- Whatever cells there were lie as they lay, but for those of the blocks S. -/
structure KeptC (S : List Nat) (W W' : World) : Prop where
  size : W.heap.size ≤ W'.heap.size
  cells : ∀ k cs T fr, k ∉ S → W.heap[k]? = some (.cells cs T fr) → W'.heap[k]? = some (.cells cs T fr)
theorem KeptC.refl (S : List Nat) (W : World) : KeptC S W W := ⟨Nat.le_refl _, fun _ _ _ _ _ h => h⟩
theorem KeptC.trans {S : List Nat} {X Y Z : World} (h : KeptC S X Y) (k : KeptC S Y Z) : KeptC S X Z := ⟨Nat.le_trans h.size k.size, fun i cs T fr hi hx => k.cells i cs T fr hi (h.cells i cs T fr hi hx)⟩
theorem KeptC.put {S : List Nat} {W : World} {l : Nat} {o o' : Obj} (h : W.heap[l]? = some o) (hc : o.isCells = false) : KeptC S W (W.putObj l o') := by
  refine ⟨by simp, fun k cs T fr _ hk => ?_⟩
  have hne : k ≠ l := by rintro rfl; rw [hk] at h; cases h; cases hc
  exact (World.putObj_heap_other hne).trans hk
theorem KeptC.below {S : List Nat} {W W' : World} (h : Below W.heap.size W W') : KeptC S W W' := ⟨h.size, fun k cs T fr _ hk => (h.block k (lt_blk hk)).trans hk⟩
theorem KeptC.keepB {S : List Nat} {W W' : World} (h : KeepB W.heap.size S W W') : KeptC S W W' := ⟨h.size, fun k cs T fr hn hk => (h.block k (lt_blk hk) hn).trans hk⟩
theorem KeptC.own {S : List Nat} {W V V' : World} (h : KeptC S W V) (hb : Below W.heap.size V V') : KeptC S W V' := ⟨Nat.le_trans h.size hb.size, fun k cs T fr hn hk => (hb.block k (lt_blk hk)).trans (h.cells k cs T fr hn hk)⟩
theorem cells_of {W : World} {b j : Nat} {v : Value} (h : W.cell? ⟨b, j, none⟩ = some v) : ∃ cs T fr, W.heap[b]? = some (.cells cs T fr) ∧ cs[j]? = some v := by
  unfold World.cell? at h
  cases e : W.heap[b]? with
  | none => simp [e] at h
  | some o =>
    cases o with
    | cells cs T fr => exact ⟨cs, T, fr, rfl, by simpa [e] using h⟩
    | _ => simp [e] at h
theorem SlAt.keptC {W V : World} {S : List Nat} {a : Option Addr} {sz : Nat} {rows : List (List Value)} (h : SlAt W a sz rows) (k : KeptC S W V) (hne : ∀ ad, a = some ad → rows ≠ [] → ad.block ∉ S) : SlAt V a sz rows := fun i r hr => by
  obtain ⟨b, off, e, hlt, hl, hc⟩ := h i r hr
  have hn := hne _ e (fun e' => by subst e'; simp at hr)
  refine ⟨b, off, e, Nat.lt_of_lt_of_le hlt k.size, hl, fun j v hv => ?_⟩
  obtain ⟨cs, T, fr, h1, h2⟩ := cells_of (hc j v hv)
  rw [box_cells (k.cells b cs T fr hn h1)]
  exact h2
theorem below_put {m : Nat} {W : World} {l : Nat} {o : Obj} (h : m ≤ l) : Below m W (W.putObj l o) := ⟨rfl, rfl, rfl, by simp, fun k hk => World.putObj_heap_other (by omega)⟩
theorem keepsFrom_keepB {B : Nat} {S : List Nat} {V V' : World} (h : KeepB V.heap.size S V V') (hS : ∀ s ∈ S, s < B) : KeepsFrom B V V' := ⟨h.size, fun k o hk h0 _ => (h.block k (lt_blk h0) (fun hs => by have := hS _ hs; omega)).trans h0⟩
/-- An iterator's word: J, which speaks of what lay ahead of it, is kept by whatever it does with cells of its own. -/
def SeqLow {α : Type} (F : Fence) (n : Nat) (P : Program) (g : Nat) (lb : Array Value) (encs : α → Array Value) (Kp : World → World → Prop) (S : List α → Prop) (N : Nat) (w : World) : Prop :=
  ∀ (l : Nat) (J Jx : List α → World → Prop) (W : World), Below w.heap.size w W → (∀ pre X Y, J pre X → Below W.heap.size X Y → J pre Y) → (∀ pre X Y, Jx pre X → Below W.heap.size X Y → Jx pre Y) →
    (∀ pre x W1, J pre W1 → pre.length < N → YieldAt F (n - 1) P l (encs x) W1 fun e W' => (e = .returned (.bool true) ∧ J (pre ++ [x]) W' ∧ Kp W1 W') ∨ (e = .returned (.bool false) ∧ Jx (pre ++ [x]) W')) →
    J [] W → CallsIn F n P g (#[.func (.yield l) #[] #[]] ++ lb) W fun e W' => (∃ v, e = .returned v) ∧ ((∃ xs, S xs ∧ J xs W') ∨ (∃ pre, Jx pre W'))
/-- How a round's body may end. -/
def lowPost (B : Nat) (Kp : World → World → Prop) (I Ix : World → Prop) (W : World) : Exit → Act → World → Prop
  | .normal, _, W' => KeepsFrom B W W' ∧ Kp W W' ∧ I W'
  | .ret, _, W' => KeepsFrom B W W' ∧ Ix W'
  | _, _, _ => False
theorem rangeFunc_low {α : Type} {g : Operand} {ps : Array Tmp} {assign body : Code} {Q : Exit → Act → World → Prop} {a : Act} {w : World}
    (hro : F.round = none) (h1 : 1 ≤ n) {gf : Nat} {lb : Array Value} (hg : a.eval g = .func (.func gf) #[] lb) (hFg : F.fn gf) (eg : ∀ args w, (callFunc gf args).run P w = .ok (.enter gf args) w)
    {encs : α → Array Value} (hps : ∀ x, (encs x).size = ps.size) {Kp : World → World → Prop} {S : List α → Prop} {N : Nat} (hseq : SeqLow F (n - 1) P gf lb encs Kp S N w)
    (hKt : ∀ {A B C : World}, Kp A B → Kp B C → Kp A C) (hKb : ∀ (W : World) (l : Nat) (o o' : Obj), w.heap.size ≤ l → W.heap[l]? = some o → o.isCells = false → Kp W (W.putObj l o'))
    (I : List α → World → Prop) (hI : ∀ pre X Y, I pre X → Below w.heap.size X Y → I pre Y) (Ix : List α → World → Prop) (hIx : ∀ pre X Y, Ix pre X → Below w.heap.size X Y → Ix pre Y) (h0 : I [] w)
    (Ax : α → Act → World → Prop) (hAx : ∀ x a', OwnFrom w.heap.size (fun (_ : Unit) W => Ax x a' W))
    (hassign : ∀ (l : Nat) (pre : List α) (x : α) (W : World) (K : Act → World → Prop), I pre W → (∀ a' W', KeepsFrom w.heap.size W W' → Kp W W' → I pre W' → Ax x a' W' → K a' W') →
      assign.wpIn (F.inRound l) (n - 1 - 1) P (Exit.then K (fun _ _ _ => False)) { tmps := (ps.zip (encs x)).foldl (fun t (p, v) => t.setIfInBounds p v) a.tmps, defers := [] } W)
    (hbody : ∀ (l : Nat) (pre : List α) (x : α) (a' : Act) (W : World), w.heap.size ≤ l → I pre W → Ax x a' W → pre.length < N → body.wpIn (F.inRound l) (n - 1 - 1) P (lowPost w.heap.size Kp (I (pre ++ [x])) (Ix (pre ++ [x])) W) a' W)
    (hdone : ∀ (D : Nat) (xs : List α) (W : World), w.heap.size ≤ D → S xs → I xs W → W.heap[D]? = some (.deferred (some [])) → Q .normal { a with defers := { target := .collected D, args := #[] } :: a.defers } W)
    (hstop : ∀ (D : Nat) (pre : List α) (W : World), w.heap.size ≤ D → Ix pre W → W.heap[D]? = some (.deferred (some [])) → Code.ret.wpIn F n P Q { a with defers := { target := .collected D, args := #[] } :: a.defers } W) :
    (Code.rangeFunc g ps assign body).wpIn F n P Q a w := by
  refine wpIn_rangeFunc fun fn hfn => ?_
  rw [hro]
  obtain ⟨R, hR⟩ : ∃ R : LoopState → Option Code → Loop, R = fun st p => { state := st, pending := p, fn, tmps := a.tmps, params := ps, assign, body, defers := w.heap.size } := ⟨_, rfl⟩
  obtain ⟨W1, hW1⟩ : ∃ W1, (w.alloc (.deferred (some []))).alloc (.loop (R .ready none)) = W1 := ⟨_, rfl⟩
  have s1 : W1.heap.size = w.heap.size + 2 := by rw [← hW1]; simp
  have bw : Below w.heap.size w W1 := by rw [← hW1]; exact ((Below.refl _ w).alloc (Nat.le_refl _) _).alloc (by simp) _
  have kL : W1.heap[w.heap.size + 1]? = some (.loop (R .ready none)) := by
    rw [← hW1]; have := World.alloc_heap_new (w.alloc (.deferred (some []))) (.loop (R .ready none)); rwa [World.size_alloc] at this
  have kD : W1.heap[w.heap.size]? = some (.deferred (some [])) := by rw [← hW1]; exact up_alloc (heap_alloc_new w _) _
  have i1 : I [] W1 := hI _ _ _ h0 bw
  refine ⟨w.heap.size + 1, [{ target := .collected w.heap.size, args := #[] }], W1, { target := .fn (.func gf) lb, args := #[.func (.yield (w.heap.size + 1)) #[] #[]] }, W1, gf, #[.func (.yield (w.heap.size + 1)) #[] #[]] ++ lb, W1, ?_, ?_, ?_, ?_, fun _ => h1, ?_⟩
  · rw [← hW1, hR]; exact run_enterLoop_outer _ _ _ _ _
  · simp only [resolve, hg]; simp [go_sem]
  · intro f' hf'; simp [Target.leads] at hf'; subst hf'; exact hFg
  · simp [invoke, go_sem, eg]
  have low : ∀ {X Y : World} {k : Nat} {o : Obj}, k < W1.heap.size → Below W1.heap.size X Y → X.heap[k]? = some o → Y.heap[k]? = some o := fun hk hb hx => (hb.block _ hk).trans hx
  refine (hseq (w.heap.size + 1) (fun pre W => I pre W ∧ W.heap[w.heap.size + 1]? = some (.loop (R .ready none)) ∧ W.heap[w.heap.size]? = some (.deferred (some [])))
    (fun pre W => Ix pre W ∧ W.heap[w.heap.size + 1]? = some (.loop (R .done (some .ret))) ∧ W.heap[w.heap.size]? = some (.deferred (some []))) W1 bw ?_ ?_ ?_ ⟨i1, kL, kD⟩).mono ?_
  · rintro pre X Y ⟨x1, x2, x3⟩ hk
    exact ⟨hI _ _ _ x1 (hk.mono (by omega)), low (by omega) hk x2, low (by omega) hk x3⟩
  · rintro pre X Y ⟨x1, x2, x3⟩ hk
    exact ⟨hIx _ _ _ x1 (hk.mono (by omega)), low (by omega) hk x2, low (by omega) hk x3⟩
  · rintro pre x W ⟨x1, x2, x3⟩ hlen
    have hy := run_yield (P := P) (args := encs x) x2 (by rw [hR]; exact hps x)
    rw [hR] at hy
    refine ⟨fn, _, assign, body, hy, roundIn_of_wpIn hfn (hassign _ pre x W _ x1 fun a' V hf hp hi hax => ?_)⟩
    have v2 := hf.same _ _ (by omega) x2 rfl
    have v3 := hf.same _ _ (Nat.le_refl _) x3 rfl
    have hlt := lt_blk v2
    refine ⟨_, run_beginRound v2 (by rw [hR]), ?_⟩
    have u2 : (V.putObj (w.heap.size + 1) (.loop { R .ready none with state := .busy })).heap[w.heap.size + 1]? = some (.loop { R .ready none with state := .busy }) := World.putObj_heap_same hlt
    have u3 : (V.putObj (w.heap.size + 1) (.loop { R .ready none with state := .busy })).heap[w.heap.size]? = some (.deferred (some [])) := (World.putObj_heap_other (by omega)).trans v3
    have p2 : Kp V (V.putObj (w.heap.size + 1) (.loop { R .ready none with state := .busy })) := hKb _ _ _ _ (by omega) v2 rfl
    refine wpIn_mono (hbody _ pre x a' _ (by omega) (hI _ _ _ hi (below_put (by omega))) ((hAx x a').putObj (s := ()) _ hax (by omega) v2 rfl) hlen) ?_
    rintro e a3 V3 hpo
    match e, hpo with
    | .normal, ⟨hf3, hp3, hi3⟩ =>
      have t2 := hf3.same _ _ (by omega) u2 rfl
      have t3 := hf3.same _ _ (Nat.le_refl _) u3 rfl
      have hend := run_endRound (P := P) none t2
      rw [hR] at hend
      refine ⟨_, _, hend, .inl ⟨rfl, ⟨hI _ _ _ hi3 (below_put (by omega)), ?_, (World.putObj_heap_other (by omega)).trans t3⟩, hKt hp (hKt (hKt p2 hp3) (hKb _ _ _ _ (by omega) t2 rfl))⟩⟩
      rw [hR]; exact World.putObj_heap_same (lt_blk t2)
    | .ret, ⟨hf3, hi3⟩ =>
      have t2 := hf3.same _ _ (by omega) u2 rfl
      have t3 := hf3.same _ _ (Nat.le_refl _) u3 rfl
      have hend := run_endRound (P := P) (some .ret) t2
      rw [hR] at hend
      refine ⟨_, _, hend, .inr ⟨rfl, hIx _ _ _ hi3 (below_put (by omega)), ?_, (World.putObj_heap_other (by omega)).trans t3⟩⟩
      rw [hR]; exact World.putObj_heap_same (lt_blk t2)
  · rintro e W2 ⟨⟨v, rfl⟩, ⟨xs, hS, x1, x2, x3⟩ | ⟨pre, x1, x2, x3⟩⟩
    · exact ⟨none, _, by have := run_endLoop (P := P) x2 (by rw [hR]; simp); rw [hR] at this; exact this, hdone _ xs _ (Nat.le_refl _) hS (hI _ _ _ x1 (below_put (by omega))) ((World.putObj_heap_other (by omega)).trans x3)⟩
    · exact ⟨some .ret, _, by have := run_endLoop (P := P) x2 (by rw [hR]; simp); rw [hR] at this; exact this, hstop _ pre _ (Nat.le_refl _) (hIx _ _ _ x1 (below_put (by omega))) ((World.putObj_heap_other (by omega)).trans x3)⟩
end Go.Proofs.YtcelciomhngajaaGreatDoor
/- The program's clock: add, take, seconds. -/
namespace Go.Proofs.YtcelciomhngajaaGreatDoor
set_option linter.unusedSimpArgs false
set_option linter.unusedVariables false
open Go.RowKit Go.Sort

set_option maxHeartbeats 1000000 in
theorem cadd_any (cb : Nat) (n t : Int) (q : Rt) (sl : Value) (w : World) (x : w.heap[cb]? = some (.cells #[.int .i64 (n), sl] 102 (0, 0))) (hq : tempoB q = true) (ht0 : -40320 ≤ t) (ht1 : t ≤ 40320) (hn0 : -100000000000000 ≤ n) (hn1 : n ≤ 100000000000000) :
    Calls Tryz.prog 87 #[.pointer (some ⟨cb, 0, none⟩), .int .i64 t, .agg #[.int .i64 q.n, .int .i64 q.d]] w fun e w' => (∃ v, e = .returned v) ∧ KeepB w.heap.size [cb] w w' ∧ w'.heap[cb]? = some (.cells #[.int .i64 (n + t * scaleI q), sl] 102 (0, 0)) := by
  have v := (tempoB_iff q).1 hq
  obtain ⟨d1, d2⟩ := v.d1
  have n0 := v.n0; have n1 := v.n1
  have hd0 : ¬ q.d = 0 := by omega
  have htd : (60 : Int).tdiv q.d = 60 / q.d := Int.tdiv_eq_ediv_of_nonneg (by decide)
  have hq0 : 0 ≤ 60 / q.d := Int.ediv_nonneg (by decide) (by omega)
  have hq1 : 60 / q.d ≤ 60 := Int.ediv_le_self _ (by decide)
  have hS : scaleI q = q.n * (60 / q.d) := by rw [scaleI, if_pos hq]
  have hsb := scale_bd hq
  obtain ⟨k1, k2⟩ := mul_bd (a := t) (b := q.n) (A := 40320) (B := 600) ht0 ht1 (by omega) (by omega)
  obtain ⟨k3, k4⟩ := mul_bd (a := t) (b := scaleI q) (A := 40320) (B := 600) ht0 ht1 (by omega) hsb.2
  have hw1 : IntKind.i64.wrap (t * q.n) = t * q.n := IntWalk.i64_in _ (by omega)
  have hwq : IntKind.i64.wrap (60 / q.d) = 60 / q.d := IntWalk.i64_in _ (by omega)
  have hw3 : IntKind.i64.wrap (t * q.n * (60 / q.d)) = t * scaleI q := by rw [hS, Int.mul_assoc, ← hS]; exact IntWalk.i64_in _ (by omega)
  have hw4 : IntKind.i64.wrap (n + t * scaleI q) = n + t * scaleI q := IntWalk.i64_in _ (by omega)
  clear hS hsb v n0 n1
  generalize scaleI q = S at *
  have hlt := lt_blk x
  have HX := Lib.hid (heap_alloc_new w (.cells #[.int .i64 q.n, .int .i64 q.d] 32 (0, 0)))
  have HC := Lib.hid (up_alloc x (.cells #[.int .i64 q.n, .int .i64 q.d] 32 (0, 0)))
  have HB := Lib.hid ((Below.refl w.heap.size w).alloc (Nat.le_refl _) (.cells #[.int .i64 q.n, .int .i64 q.d] 32 (0, 0)))
  go_enter Tryz.func87, Tryz.ntmps87
  go_upto_region 1 with (fail)
  generalize w.alloc (.cells #[.int .i64 q.n, .int .i64 q.d] 32 (0, 0)) = W at *
  have hc := box_cells HX.out; have hc2 := box_cells HC.out; have hf2 := box_free HC.out
  go_region
  go_wp2
  go_end0
  exact ⟨⟨_, rfl⟩, (KeepB.set (KeepB.of_below' HB.out) (.inl (by simp)) _).trans (KeepB.of_below ((Below.refl _ _).drew) (by simp; exact HB.out.size)), heap_setCell_same _ _ _ _ _ _ HC.out⟩
set_option maxHeartbeats 2000000 in
theorem ctake_any (cb : Nat) (n : Int) (ta : Option Addr) (tcap : Nat) (l : List Te) (bar : Int) (d : Rt) (sg : Int) (w : World) (x : w.heap[cb]? = some (.cells #[.int .i64 (n), .slice ta l.length tcap] 102 (0, 0))) (hm : TeAt w ta l) (hll : l.length ≤ 100000) (hr : risingT l = true) (h0 : ∃ h : 0 < l.length, (l[0]'h).bar ≤ bar)
    (hd : durB d = true) (hdt : ticksI d ≤ 40320) (hs : -1 ≤ sg ∧ sg ≤ 1) (hq : tempoB (atT l bar) = true) (hn0 : -100000000000000 ≤ n) (hn1 : n ≤ 100000000000000) :
    Calls Tryz.prog 49 #[.pointer (some ⟨cb, 0, none⟩), .int .i64 bar, .agg #[.int .i64 d.n, .int .i64 d.d], .int .i64 sg] w fun e w' => (∃ v, e = .returned v) ∧ KeepB w.heap.size [cb] w w' ∧ w'.heap[cb]? = some (.cells #[.int .i64 (n + sg * ticksI d * scaleI (atT l bar)), .slice ta l.length tcap] 102 (0, 0)) := by
  have hAt := fun V (hV : Below w.heap.size w V) => tempoAt_any ta tcap l bar V (hm.below hV) hll hr h0
  have HAt := Lib.hid hAt
  have t0 := (ticks_nonneg hd).1
  have hT : ticksI d = d.n * (1680 / d.d) := by rw [ticksI, if_pos hd]
  obtain ⟨⟨e1, e2, e3⟩, e4, _⟩ := (durB_iff d).1 hd
  have dd := (rtOk_iff d).1 (dur_rt hd)
  have hd0 : ¬ d.d = 0 := by omega
  have htd : (1680 : Int).tdiv d.d = 1680 / d.d := Int.tdiv_eq_ediv_of_nonneg (by decide)
  have hq0 : 0 ≤ 1680 / d.d := Int.ediv_nonneg (by decide) (by omega)
  have hq1 : 1680 / d.d ≤ 1680 := Int.ediv_le_self _ (by decide)
  have hwq : IntKind.i64.wrap (1680 / d.d) = 1680 / d.d := IntWalk.i64_in _ (by omega)
  obtain ⟨k1, k2⟩ := mul_bd (a := sg) (b := d.n) (A := 1) (B := 1000000000) (by omega) hs.2 (by omega) (by omega)
  obtain ⟨k3, k4⟩ := mul_bd (a := sg) (b := ticksI d) (A := 1) (B := 40320) (by omega) hs.2 (by omega) hdt
  have hw1 : IntKind.i64.wrap (sg * d.n) = sg * d.n := IntWalk.i64_in _ (by omega)
  have hw3 : IntKind.i64.wrap (sg * d.n * (1680 / d.d)) = sg * ticksI d := by rw [hT, Int.mul_assoc, ← hT]; exact IntWalk.i64_in _ (by omega)
  have HAdd := Lib.hid (fun V (xV : V.heap[cb]? = some (.cells #[.int .i64 (n), .slice ta l.length tcap] 102 (0, 0))) => cadd_any cb n (sg * ticksI d) (atT l bar) _ V xV hq (by omega) (by omega) hn0 hn1)
  clear hT t0 e1 e2 e3 e4 dd hAt hm hr h0 hq k1 k2 k3 k4
  generalize atT l bar = q at *
  generalize sg * ticksI d = T at *
  have hlt := lt_blk x
  have HX := Lib.hid (heap_alloc_new w (.cells #[.int .i64 d.n, .int .i64 d.d] 32 (0, 0)))
  have HC := Lib.hid (up_alloc x (.cells #[.int .i64 d.n, .int .i64 d.d] 32 (0, 0)))
  have HB := Lib.hid ((Below.refl w.heap.size w).alloc (Nat.le_refl _) (.cells #[.int .i64 d.n, .int .i64 d.d] 32 (0, 0)))
  go_enter Tryz.func49, Tryz.ntmps49
  go_upto_region 1 with (fail)
  generalize w.alloc (.cells #[.int .i64 d.n, .int .i64 d.d] 32 (0, 0)) = W at *
  have g0 := cell_regrown (box_cells HX.out 0); have g1 := cell_regrown (box_cells HX.out 1)
  have k0 := cell_regrown (box_cells HC.out 0); have k1 := cell_regrown (box_cells HC.out 1)
  refine wp_tailB 17 (by kernel_rfl) (by kernel_rfl) ?_
  simp only [List.take_succ_cons, List.take_zero, List.drop_succ_cons, List.drop_zero]
  (repeat (go_big_quiet_step (first | (go_at_call 88; refine Calls.regrown_of (HAt.out _ (HB.out.trans ((below_regrown _ _ _).mono HB.out.size)))))))
  refine wpQuiet_nil ?_
  intro w6 hb6
  replace HC := Lib.hid (blk_keep HC.out hb6)
  replace HB := Lib.hid (HB.out.trans (hb6.mono HB.out.size))
  clear hb6 g0 g1 k0 k1
  go_wp2_with (fail)
  refine (HAdd.out _ HC.out).mono ?_
  rintro e w7 ⟨⟨v, rfl⟩, hk, hx⟩
  go_wp2
  go_end0
  exact ⟨⟨_, rfl⟩, (KeepB.of_below' HB.out).trans (hk.weaken HB.out.size (fun _ h _ => h)), hx⟩
set_option maxHeartbeats 1000000 in
theorem cseconds_any (cb : Nat) (n : Int) (sl : Value) (w : World) (x : w.heap[cb]? = some (.cells #[.int .i64 (n), sl] 102 (0, 0))) (hn0 : -1000000000000000 ≤ n) (hn1 : n ≤ 1000000000000000) :
    Calls Tryz.prog 50 #[.pointer (some ⟨cb, 0, none⟩)] w fun e w' => e = .returned (.tuple #[.agg #[.int .i64 (redR n 100800).1.n, .int .i64 (redR n 100800).1.d], .int .i64 (redR n 100800).2]) ∧ Below w.heap.size w w' := by
  have HMk := Lib.hid (fun V => Make_any n 100800 V hn0 hn1 (by decide) (by decide))
  generalize redR n 100800 = RR at *
  have HX := Lib.hid (heap_alloc_new w (.cells #[.int .i64 0, .int .i64 0] 32 (0, 0)))
  have HC := Lib.hid (up_alloc x (.cells #[.int .i64 0, .int .i64 0] 32 (0, 0)))
  have HB := Lib.hid ((Below.refl w.heap.size w).alloc (Nat.le_refl _) (.cells #[.int .i64 0, .int .i64 0] 32 (0, 0)))
  go_enter Tryz.func50, Tryz.ntmps50
  go_upto_region 1 with (fail)
  generalize w.alloc (.cells #[.int .i64 0, .int .i64 0] 32 (0, 0)) = W at *
  have hc2 := box_cells HC.out
  have hc := box_cells HX.out; have hf := box_free HX.out
  go_wp2_with (go_at_call 89; refine (HMk.out _).mono ?_; rintro e w' ⟨rfl, hb⟩; replace HX := Lib.hid (blk_keep HX.out hb); replace HB := Lib.hid (HB.out.trans (hb.mono HB.out.size)); clear hb hc hf hc2; have hc := box_cells HX.out; have hf := box_free HX.out)
  exact bodyPost_ret (v := .tuple #[.agg #[.int .i64 RR.1.n, .int .i64 RR.1.d], .int .i64 RR.2]) (by simp [results, Tryz.results50, go_sem, hc, hf]) rfl ⟨rfl, (HB.out.setCell (Nat.le_refl _) _).setCell (Nat.le_refl _) _⟩
end Go.Proofs.YtcelciomhngajaaGreatDoor

