/- Texts of this seat, laid together: ScLoop, ScVw10, ScVw11. -/
import Derived.RangeFuncNested
import Derived.RangeFuncBound
import Derived.Test.YtcelciomhngajaaGreatDoorSA
import Derived.RangeFuncCalls
import Derived.RangeFuncLeaves
import Derived.Shelf.RegionOpen
import Derived.OwnWalkIn
import Derived.TacticsInMore
import Derived.LoopNIn
import Derived.LoopIn
import Derived.Test.YtcelciomhngajaaGreatDoorSG
import Derived.Test.YtcelciomhngajaaGreatDoorSF
import Derived.Test.YtcelciomhngajaaGreatDoorSJ
import Derived.Test.YtcelciomhngajaaGreatDoorSB
/- A range over a function that turns one cell of its own which lay ahead of the loop, and owns rows that it has laid; what it hands on may be told of the world; no condition. -/
namespace Go.Proofs.YtcelciomhngajaaGreatDoor
set_option linter.unusedSimpArgs false
set_option linter.unusedVariables false
open Go.RowKit Go.Sort
variable {F : Fence} {n : Nat} {P : Program}

theorem keep_grown {B : Nat} {S : List Nat} {X Y : World} {k : Nat} {o : Obj} (h : KeepB B S X Y) (hx : X.heap[k]? = some o) (hk : k < B) (hn : k ∉ S) : Y.heap[k]? = some o := (h.block k hk hn).trans hx
/-- An iterator's word: it may turn block bl, and what is laid behind the last round. -/
def SeqSets {α : Type} (F : Fence) (n : Nat) (P : Program) (g : Nat) (lb : Array Value) (encs : α → Array Value) (Kp : World → World → Prop) (S : List α → Prop) (Ok : α → World → Prop) (N bl : Nat) (w : World) : Prop :=
  ∀ (l : Nat) (J : List α → World → Prop) (W : World), KeepB w.heap.size [bl] w W → W.heap[bl]? = w.heap[bl]? → (∀ pre X Y, J pre X → KeepB X.heap.size [bl] X Y → J pre Y) →
    (∀ pre x W1, J pre W1 → Ok x W1 → pre.length < N → YieldAt F (n - 1) P l (encs x) W1 fun e W' => e = .returned (.bool true) ∧ J (pre ++ [x]) W' ∧ Kp W1 W') →
    J [] W → CallsIn F n P g (#[.func (.yield l) #[] #[]] ++ lb) W fun e W' => (∃ v, e = .returned v) ∧ ∃ xs, S xs ∧ J xs W'
theorem rangeFunc_sets {α : Type} {g : Operand} {ps : Array Tmp} {assign body : Code} {Q : Exit → Act → World → Prop} {a : Act} {w : World}
    (hro : F.round = none) (h1 : 1 ≤ n) {gf : Nat} {lb : Array Value} (hg : a.eval g = .func (.func gf) #[] lb) (hFg : F.fn gf) (eg : ∀ args w, (callFunc gf args).run P w = .ok (.enter gf args) w)
    {encs : α → Array Value} (hps : ∀ x, (encs x).size = ps.size) {Kp : World → World → Prop} {S : List α → Prop} {Ok : α → World → Prop} {N bl : Nat} (hbl : bl < w.heap.size) (hseq : SeqSets F (n - 1) P gf lb encs Kp S Ok N bl w)
    (hKt : ∀ {A B C : World}, Kp A B → Kp B C → Kp A C) (hKb : ∀ (W : World) (l : Nat) (o o' : Obj), w.heap.size ≤ l → W.heap[l]? = some o → o.isCells = false → o.isWalk = false → Kp W (W.putObj l o'))
    (I : List α → World → Prop) (hI : OwnFrom w.heap.size I) (hIk : ∀ pre X Y, I pre X → KeepB X.heap.size [bl] X Y → I pre Y) (h0 : I [] w) (Ax : α → Act → World → Prop) (hAx : ∀ x a', OwnFrom w.heap.size (fun (_ : Unit) W => Ax x a' W))
    (hassign : ∀ (l : Nat) (pre : List α) (x : α) (W : World) (K : Act → World → Prop), I pre W → Ok x W → (∀ a' W', KeepsFrom w.heap.size W W' → Kp W W' → I pre W' → Ax x a' W' → K a' W') →
      assign.wpIn (F.inRound l) (n - 1 - 1) P (Exit.then K (fun _ _ _ => False)) { tmps := (ps.zip (encs x)).foldl (fun t (p, v) => t.setIfInBounds p v) a.tmps, defers := [] } W)
    (hbody : ∀ (l : Nat) (pre : List α) (x : α) (a' : Act) (W : World), w.heap.size ≤ l → I pre W → Ax x a' W → pre.length < N → body.wpIn (F.inRound l) (n - 1 - 1) P (fun e _ W' => e = .normal ∧ KeepsFrom w.heap.size W W' ∧ Kp W W' ∧ I (pre ++ [x]) W') a' W)
    (hdone : ∀ (D : Nat) (xs : List α) (W : World), w.heap.size ≤ D → S xs → I xs W → W.heap[D]? = some (.deferred (some [])) → Q .normal { a with defers := { target := .collected D, args := #[] } :: a.defers } W) :
    (Code.rangeFunc g ps assign body).wpIn F n P Q a w := by
  refine wpIn_rangeFunc fun fn hfn => ?_
  rw [hro]
  obtain ⟨R, hR⟩ : ∃ R : LoopState → Loop, R = fun st => { state := st, pending := none, fn, tmps := a.tmps, params := ps, assign, body, defers := w.heap.size } := ⟨_, rfl⟩
  obtain ⟨W1, hW1⟩ : ∃ W1, (w.alloc (.deferred (some []))).alloc (.loop (R .ready)) = W1 := ⟨_, rfl⟩
  have s1 : W1.heap.size = w.heap.size + 2 := by rw [← hW1]; simp
  have bw : Below w.heap.size w W1 := by rw [← hW1]; exact ((Below.refl _ w).alloc (Nat.le_refl _) _).alloc (by simp) _
  have kL : W1.heap[w.heap.size + 1]? = some (.loop (R .ready)) := by
    rw [← hW1]; have := World.alloc_heap_new (w.alloc (.deferred (some []))) (.loop (R .ready)); rwa [World.size_alloc] at this
  have kD : W1.heap[w.heap.size]? = some (.deferred (some [])) := by rw [← hW1]; exact up_alloc (heap_alloc_new w _) _
  have i1 : I [] W1 := by rw [← hW1]; exact hI.alloc _ (hI.alloc _ h0)
  refine ⟨w.heap.size + 1, [{ target := .collected w.heap.size, args := #[] }], W1, { target := .fn (.func gf) lb, args := #[.func (.yield (w.heap.size + 1)) #[] #[]] }, W1, gf, #[.func (.yield (w.heap.size + 1)) #[] #[]] ++ lb, W1, ?_, ?_, ?_, ?_, fun _ => h1, ?_⟩
  · rw [← hW1, hR]; exact run_enterLoop_outer _ _ _ _ _
  · simp only [resolve, hg]; simp [go_sem]
  · intro f' hf'; simp [Target.leads] at hf'; subst hf'; exact hFg
  · simp [invoke, go_sem, eg]
  refine (hseq (w.heap.size + 1) (fun pre W => I pre W ∧ W.heap[w.heap.size + 1]? = some (.loop (R .ready)) ∧ W.heap[w.heap.size]? = some (.deferred (some []))) W1 (KeepB.of_below' bw) (bw.block bl hbl) ?_ ?_ ⟨i1, kL, kD⟩).mono ?_
  · rintro pre X Y ⟨x1, x2, x3⟩ hk
    exact ⟨hIk _ _ _ x1 hk, keep_grown hk x2 (lt_blk x2) (by simp; omega), keep_grown hk x3 (lt_blk x3) (by simp; omega)⟩
  · rintro pre x W ⟨x1, x2, x3⟩ hok hlen
    have hy := run_yield (P := P) (args := encs x) x2 (by rw [hR]; exact hps x)
    rw [hR] at hy
    refine ⟨fn, _, assign, body, hy, roundIn_of_wpIn hfn (hassign _ pre x W _ x1 hok fun a' V hf hp hi hax => ?_)⟩
    have v2 := hf.same _ _ (by omega) x2 rfl
    have v3 := hf.same _ _ (Nat.le_refl _) x3 rfl
    have hlt := lt_blk v2
    refine ⟨_, run_beginRound v2 (by rw [hR]), ?_⟩
    have u2 : (V.putObj (w.heap.size + 1) (.loop { R .ready with state := .busy })).heap[w.heap.size + 1]? = some (.loop { R .ready with state := .busy }) := World.putObj_heap_same hlt
    have u3 : (V.putObj (w.heap.size + 1) (.loop { R .ready with state := .busy })).heap[w.heap.size]? = some (.deferred (some [])) := (World.putObj_heap_other (by omega)).trans v3
    have p2 : Kp V (V.putObj (w.heap.size + 1) (.loop { R .ready with state := .busy })) := hKb _ _ _ _ (by omega) v2 rfl rfl
    refine wpIn_mono (hbody _ pre x a' _ (by omega) (hI.putObj _ hi (by omega) v2 rfl) ((hAx x a').putObj (s := ()) _ hax (by omega) v2 rfl) hlen) ?_
    rintro e a3 V3 ⟨rfl, hf3, hp3, hi3⟩
    have t2 := hf3.same _ _ (by omega) u2 rfl
    have t3 := hf3.same _ _ (Nat.le_refl _) u3 rfl
    have hend := run_endRound (P := P) none t2
    rw [hR] at hend
    refine ⟨_, _, hend, rfl, ⟨hI.putObj _ hi3 (by omega) t2 rfl, ?_, (World.putObj_heap_other (by omega)).trans t3⟩, hKt hp (hKt (hKt p2 hp3) (hKb _ _ _ _ (by omega) t2 rfl rfl))⟩
    rw [hR]; exact World.putObj_heap_same (lt_blk t2)
  · rintro e W2 ⟨⟨v, rfl⟩, xs, hS, x1, x2, x3⟩
    exact ⟨none, _, by have := run_endLoop (P := P) x2 (by rw [hR]; simp); rw [hR] at this; exact this, hdone _ xs _ (Nat.le_refl _) hS (hI.putObj _ x1 (by omega) x2 rfl) ((World.putObj_heap_other (by omega)).trans x3)⟩
end Go.Proofs.YtcelciomhngajaaGreatDoor
/- view.measures: the iterator over a part's measures: walked. -/
namespace Go.Proofs.YtcelciomhngajaaGreatDoor
set_option linter.unusedSimpArgs false
set_option linter.unusedVariables false
open Go.RowKit Go.Sort Go.Shelf
attribute [local go_sem] Oper.semAt_some

theorem Measures_any (p : Pa) (s : Sc) (q : Sp) (a : Option Addr) (n c : Nat) (w : World) :
    Calls Tryz.prog 65 #[.agg #[.int .i64 p.id, .int .i64 p.section_, .int .i64 p.of, .int .i64 p.octave, .int .i64 p.desks, .int .i64 p.shift.x, .int .i64 p.shift.y, .int .i64 p.low.s, .int .i64 p.low.a, .int .i64 p.low.o, .int .i64 p.high.s, .int .i64 p.high.a, .int .i64 p.high.o], .agg #[.int .i64 s.version, .slice q.ab s.bars.length q.cb, .slice q.ap s.parts.length q.cp, .slice q.an s.notes.length q.cn], .slice a n c] w fun e w' => e = .returned (.func (.func 106) #[] #[.pointer (some ⟨w.heap.size + 1, 0, none⟩), .pointer (some ⟨w.heap.size + 2, 0, none⟩), .pointer (some ⟨w.heap.size, 0, none⟩)]) ∧ w' = (((w.alloc (.cells #[.int .i64 p.id, .int .i64 p.section_, .int .i64 p.of, .int .i64 p.octave, .int .i64 p.desks, .int .i64 p.shift.x, .int .i64 p.shift.y, .int .i64 p.low.s, .int .i64 p.low.a, .int .i64 p.low.o, .int .i64 p.high.s, .int .i64 p.high.a, .int .i64 p.high.o] 121)).alloc (.cells #[.int .i64 s.version, .slice q.ab s.bars.length q.cb, .slice q.ap s.parts.length q.cp, .slice q.an s.notes.length q.cn] 26)).alloc (.cells #[.slice a n c] 24)) := by
  go_enter Tryz.func65, Tryz.ntmps65
  go_wp2
  go_ret
  refine ⟨?_, ?_⟩
  · first | rfl | simp
  · first | rfl | simp
abbrev encMe (x : Me) : Array Value := #[.agg #[.int .i64 x.bar, .int .i64 x.key, .int .i64 x.len.n, .int .i64 x.len.d, .slice x.na x.notes.length x.ncap]]
/-- What is left of notes, in a slice. -/
def RestF (W : World) (n0 vb bl : Nat) (v : Value) (R : List No) : Prop := ∃ am C, v = .slice am R.length C ∧ R.length ≤ C ∧ FarAt W n0 vb bl am 12 (R.map No.cells)
theorem RestF.kept {W W' : World} {n0 vb bl : Nat} {v : Value} {R : List No} (h : RestF W n0 vb bl v R) (k : Kept2 n0 vb bl W W') : RestF W' n0 vb bl v R := by
  obtain ⟨am, C, h1, h2, h3⟩ := h; exact ⟨am, C, h1, h2, h3.kept k⟩
theorem FarAt.tail {W : World} {n0 vb bl b off sz : Nat} {r : List Value} {rows : List (List Value)} (h : FarAt W n0 vb bl (some ⟨b, off, none⟩) sz (r :: rows)) : FarAt W n0 vb bl (some ⟨b, off + sz, none⟩) sz rows :=
  ⟨fun i x hi => by
    obtain ⟨b', off', e, h1, h2, h3⟩ := h.at_ (i + 1) x (by simpa using hi)
    cases e
    exact ⟨b, off + sz, rfl, h1, h2, fun j v hv => by have := h3 j v hv; rw [show off + sz + i * sz + j = off + (i + 1) * sz + j by rw [Nat.succ_mul]; omega]; exact this⟩,
   fun q hq hne => by cases hq; exact h.far ⟨b, off, none⟩ rfl (by simp)⟩
theorem Env.kept2 {W W' : World} {n0 a b : Nat} (h : Env W) (k : Kept2 n0 a b W W') (h1 : 0 < n0) (h2 : 0 ≠ a) (h3 : 0 ≠ b) : Env W' :=
  ⟨fun j hj => (World.cell?_of_block (w := W) (k.block _ h1 h2 h3)).trans (h.nat j hj)⟩
theorem KeepB.kept2 {B n0 vb bl : Nat} {W W' : World} (k : KeepB B [bl] W W') (h : n0 ≤ B) : Kept2 n0 vb bl W W' := ⟨k.size, fun i hi _ hb => k.block i (by omega) (by simp; exact hb)⟩
theorem Kept2.weak {n0 a b : Nat} {W W' : World} (k : Kept2 n0 a a W W') : Kept2 n0 a b W W' := ⟨k.size, fun i hi ha _ => k.block i hi ha ha⟩
/-- What the iterator rests on. -/
structure MsL (s : Sc) (q : Sp) (p : Pa) (bs bl br n0 vb : Nat) (W : World) : Prop where
  sc : W.heap[bs]? = some (.cells #[.int .i64 s.version, .slice q.ab s.bars.length q.cb, .slice q.ap s.parts.length q.cp, .slice q.an s.notes.length q.cn] 26)
  rd : W.heap[br]? = some (.cells #[.int .i64 p.id, .int .i64 p.section_, .int .i64 p.of, .int .i64 p.octave, .int .i64 p.desks, .int .i64 p.shift.x, .int .i64 p.shift.y, .int .i64 p.low.s, .int .i64 p.low.a, .int .i64 p.low.o, .int .i64 p.high.s, .int .i64 p.high.a, .int .i64 p.high.o] 121)
  low : bs < n0 ∧ bl < n0 ∧ br < n0
  ne : bs ≠ vb ∧ bl ≠ vb ∧ br ≠ vb ∧ bs ≠ bl ∧ br ≠ bl
  bars : FarAt W n0 vb bl q.ab 4 (s.bars.map Ba.cells)
  few : s.bars.length ≤ 1000
  env : Env W
  nat : 0 < n0 ∧ 0 ≠ vb ∧ 0 ≠ bl
  le : n0 ≤ W.heap.size
theorem MsL.kept {s : Sc} {q : Sp} {p : Pa} {bs bl br n0 vb : Nat} {W W' : World} (h : MsL s q p bs bl br n0 vb W) (k : Kept2 n0 vb bl W W') : MsL s q p bs bl br n0 vb W' :=
  ⟨(k.block _ h.low.1 h.ne.1 h.ne.2.2.2.1).trans h.sc, (k.block _ h.low.2.2 h.ne.2.2.1 h.ne.2.2.2.2).trans h.rd, h.low, h.ne, h.bars.kept k, h.few, h.env.kept2 k h.nat.1 h.nat.2.1 h.nat.2.2, h.nat, Nat.le_trans h.le k.size⟩
set_option maxHeartbeats 8000000 in
set_option maxRecDepth 100000 in
theorem measures1_in (n : Nat) (hn : 1 ≤ n) (lo bs bl br n0 vb : Nat) (s : Sc) (q : Sp) (p : Pa) (L : List No) (v0 : Value) (J : List Me → World → Prop) (W : World)
    (hM : MsL s q p bs bl br n0 vb W) (hL : L.length ≤ 1000) (hbl : W.heap[bl]? = some (.cells #[v0] 24)) (hR : RestF W n0 vb bl v0 L)
    (hJ : ∀ pre X Y, J pre X → KeepB X.heap.size [bl] X Y → J pre Y)
    (hY : ∀ pre x W1, J pre W1 → OwnR W1 n0 64 10 (.slice x.na x.notes.length x.ncap) (x.notes.map Wr.cells) → pre.length < s.bars.length → YieldAt Fence.wide (n - 1) Tryz.prog lo (encMe x) W1 fun e W' => e = .returned (.bool true) ∧ J (pre ++ [x]) W' ∧ Kept2 n0 vb vb W1 W') (h0 : J [] W) :
    CallsIn Fence.wide n Tryz.prog 106 (#[.func (.yield lo) #[] #[]] ++ #[.pointer (some ⟨bs, 0, none⟩), .pointer (some ⟨bl, 0, none⟩), .pointer (some ⟨br, 0, none⟩)]) W fun e W' => (∃ v, e = .returned v) ∧ ∃ xs : List Me, xs.map Me.says = measW p s.bars L ∧ J xs W' := by
  have HM := Lib.hid hM; have HR := Lib.hid hR; have HJ := Lib.hid hJ; have HY := Lib.hid hY; have H0 := Lib.hid h0; have HBl := Lib.hid hbl
  have hnb := hM.few
  clear hM hR hJ hY h0 hbl
  obtain ⟨ab, cb, ap, cp, an, cn⟩ := q
  refine callsIn_of_wp Tryz.func106 rfl trivial ?_ rfl
  simp only [Tryz.ntmps106, List.size_toArray, List.length_cons, List.length_nil, Nat.reduceAdd, Nat.reduceSub, Array.replicate_succ, Array.replicate_zero, List.push_toArray, List.append_toArray, List.nil_append, List.cons_append]
  refine wpIn_wide.2 ?_
  have hc1 := box_cells HM.out.sc
  dsimp only at hc1
  go_wp2
  go_loopw [11] (fun i wi => ∃ (k : Nat) (R : List No) (xs : List Me) (v : Value), k ≤ s.bars.length ∧ i = .int .i64 k ∧ xs.length = k ∧ xs.map Me.says ++ measW p (s.bars.drop k) R = measW p s.bars L ∧ R.length ≤ 1000 ∧ wi.heap[bl]? = some (.cells #[v] 24) ∧ RestF wi n0 vb bl v R ∧ J xs wi ∧ MsL s ⟨ab, cb, ap, cp, an, cn⟩ p bs bl br n0 vb wi) (fun i _ => s.bars.length - (intOf i).toNat)
  case atStart => exact ⟨0, L, [], v0, Nat.zero_le _, rfl, rfl, by simp, hL, HBl.out, HR.out, H0.out, HM.out⟩
  case round =>
    obtain ⟨k, R, xs, v, hk, rfl, hxl, hxs, hRl, hbl, hre, hj, hms⟩ := hrel
    have HXl := Lib.hid hxl; have HXs := Lib.hid hxs; have HBL := Lib.hid hbl; have HRe := Lib.hid hre; have HJ1 := Lib.hid hj; have HMs := Lib.hid hms
    clear hxl hxs hbl hre hj hms hc1 HM HR H0 HBl
    by_cases hlt : k < s.bars.length
    · obtain ⟨bb, boff, hqa, hbbl, c0, c1, c2, c3⟩ := BaAt.get HMs.out.bars.at_ k hlt
      have HDr := Lib.hid (show s.bars.drop k = s.bars[k] :: s.bars.drop (k + 1) from List.drop_eq_getElem_cons hlt)
      have HK := Lib.hid (fun na n nc W h => VMeasure_any p s.bars[k] na n nc W h)
      have HWr := Lib.hid (fun x W h => VWritten_any p s.bars[k] x W h)
      generalize s.bars[k] = b at *
      dsimp only at hqa
      have hqa2 : ab = some ⟨bb, boff, none⟩ := hqa
      subst hqa2
      clear hqa
      go_upto_region 3 with (fail)
      have HXb := Lib.hid (heap_alloc_new wr (.cells #[.int .i64 b.id, .int .i64 b.len.n, .int .i64 b.len.d, .int .i64 b.key] 105))
      have hb := (Below.refl wr.heap.size wr).alloc (Nat.le_refl _) (.cells #[.int .i64 b.id, .int .i64 b.len.n, .int .i64 b.len.d, .int .i64 b.key] 105)
      have hk2 : Kept2 n0 vb bl wr (wr.alloc (.cells #[.int .i64 b.id, .int .i64 b.len.n, .int .i64 b.len.d, .int .i64 b.key] 105)) := Kept2.below hb HMs.out.le
      replace HRe := Lib.hid (HRe.out.kept hk2); replace HMs := Lib.hid (HMs.out.kept hk2); replace HBL := Lib.hid (blk_keep HBL.out hb)
      replace HJ1 := Lib.hid (HJ.out _ _ _ HJ1.out (KeepB.of_below hb (Nat.le_refl _)))
      clear hb hk2 c0 c1 c2 c3
      generalize wr.alloc (.cells #[.int .i64 b.id, .int .i64 b.len.n, .int .i64 b.len.d, .int .i64 b.key] 105) = W1 at *
      generalize wr.heap.size = bx at *
      have hbx := lt_blk HXb.out
      go_wp2
      go_loopg [7] R.length (fun g s7 wi => ∃ (T R' : List No) (v' : Value), R = T ++ R' ∧ g = R'.length ∧ (∀ x ∈ T, x.bar = b.id) ∧ OwnR wi W1.heap.size 64 10 s7 ((T.map (writtenW p b)).map Wr.cells) ∧ wi.heap[bl]? = some (.cells #[v'] 24) ∧ RestF wi n0 vb bl v' R' ∧ KeepB W1.heap.size [bl] W1 wi)
      case atStart => exact ⟨[], R, v, rfl, rfl, (fun x hx => by cases hx), OwnR.nil _ _ _ _, HBL.out, HRe.out, KeepB.refl _ _ _⟩
      case round =>
        obtain ⟨T, R', v', hTR, hg, hT, hov, hbl', hre', hkb⟩ := hrel
        have HTR := Lib.hid hTR; have HT := Lib.hid hT; have HO := Lib.hid hov; have HBL2 := Lib.hid hbl'; have HRe2 := Lib.hid hre'; have HKB := Lib.hid hkb; have HG := Lib.hid hg
        clear hTR hT hov hbl' hre' hkb hg
        have HXw := Lib.hid (HKB.out.at_ HXb.out hbx (by simp; intro e; have := (HMs.out.low.2.1); have h2 := HMs.out.le; subst e; have := HBL.out; have h3 := HXb.out; rw [h3] at this; cases this))
        have HMw := Lib.hid (HMs.out.kept (HKB.out.kept2 HMs.out.le))
        have hcb := box_cells HXw.out; have hcl := box_cells HBL2.out; have hcr := box_cells HMw.out.rd
        obtain ⟨am, C, rfl, hC, hfar⟩ := HRe2.out
        have hT2 := HTR.out
        cases R' with
        | nil =>
          have HMea := Lib.hid (show measW p (s.bars.drop k) R = measureM p b (T.map (writtenW p b)) :: measW p (s.bars.drop (k + 1)) [] by
            obtain ⟨e1, e2⟩ := span_app (T := T) (R := []) (id := b.id) HT.out (fun x h => by cases h)
            rw [HDr.out, hT2, measW, e1, e2])
          have HRs := Lib.hid (show ([] : List No).length ≤ 1000 by simp)
          clear hT2
          go_wp2
          go_quiet (fail)
          have hbq := below_drewN (Below.refl wr.heap.size wr) nq; have hkq : Kept2 n0 vb bl wr (wr.drewN nq) := Kept2.below hbq (Nat.le_trans HMs.out.le HKB.out.size); replace HRe2 := Lib.hid (HRe2.out.kept hkq); replace HBL2 := Lib.hid (blk_keep HBL2.out hbq); replace HO := Lib.hid (HO.out.below hbq); replace HMw := Lib.hid (HMw.out.kept hkq); replace HXw := Lib.hid (blk_keep HXw.out hbq); replace HKB := Lib.hid (HKB.out.andBelow hbq HKB.out.size); clear hcb hcl hcr
          have HJx := Lib.hid (HJ.out _ _ _ HJ1.out HKB.out); have HSz := Lib.hid HKB.out.size; clear hbq hkq hfar HRe; generalize wr.drewN nq = W2 at *; obtain ⟨na, nc, env, hon, hin⟩ := HO.out.slAt; rw [List.length_map] at env; subst env; have HOx := Lib.hid (HO.out.mono (Nat.le_trans HMs.out.le (Nat.le_refl _))); clear HO hon hin; generalize T.map (writtenW p b) = B at *; go_upto_region 7 with (fail); have hcb := box_cells HXw.out; have hcr := box_cells HMw.out.rd; refine (wpIn_wide (n := n)).1 ?_; gi_wp2_with (refine ⟨trivial, ?_⟩; refine (callsIn_wide.2 (HK.out na B.length nc W2 HMw.out.env)).mono ?_; rintro e w5 ⟨rfl, hb⟩; have hk5 : Kept2 n0 vb bl W2 w5 := Kept2.below hb HMw.out.le; have HJ5 := Lib.hid (HJ.out _ _ _ HJx.out (KeepB.of_below hb (Nat.le_refl _))); obtain ⟨fn, tmps, assign, body, hy, hRd⟩ := HY.out xs ⟨b.id, (keyR p b.key).1, b.len, na, nc, B⟩ w5 HJ5.out (HOx.out.below hb) (by rw [HXl.out]; exact hlt); have HK5 := Lib.hid hk5; have HB5 := Lib.hid hb; clear hk5 hb; dsimp only [encMe] at hy hRd); refine hRd.mono ?_; rintro e W3 ⟨rfl, hJ3, hk3⟩; have HJ3 := Lib.hid hJ3; have HK3 := Lib.hid (HK5.out.trans hk3.weak); have HBL3 := Lib.hid ((hk3.block _ HMs.out.low.2.1 HMs.out.ne.2.1 HMs.out.ne.2.1).trans (blk_keep HBL2.out HB5.out)); clear hJ3 hk3; gi_wp2; go_wp2; refine ⟨⟨k + 1, _, xs ++ [⟨b.id, (keyR p b.key).1, b.len, na, nc, B⟩], _, by omega, by go_num, by rw [List.length_append, HXl.out]; rfl, ?_, ?_, HBL3.out, HRe2.out.kept HK3.out, HJ3.out, HMw.out.kept HK3.out⟩, by simp [intOf]; omega⟩
          · rw [List.map_append, List.append_assoc, ← HXs.out, HMea.out]; rfl
          · exact HRs.out
        | cons x R'' =>
          have HRs := Lib.hid (show (x :: R'').length ≤ 1000 by have := congrArg List.length hT2; rw [List.length_append] at this; omega)
          obtain ⟨lb, loff, hqa, hlbl, d0, d1, d2, d3, d4, d5, d6, d7, d8, d9, d10, d11⟩ := NoAt.get (l := x :: R'') hfar.at_ 0 (by simp)
          subst hqa
          simp only [List.getElem_cons_zero, Nat.zero_mul, Nat.add_zero] at d0 d1 d2 d3 d4 d5 d6 d7 d8 d9 d10 d11
          have hcl' := hcl
          rw [List.length_cons] at hcl hC
          have hpos : (0 : Int) < ((R''.length + 1 : Nat) : Int) := by omega
          by_cases hbar : x.bar = b.id
          case neg =>
            have hd : (x.bar == b.id) = false := by simpa using hbar
            have HMea := Lib.hid (show measW p (s.bars.drop k) R = measureM p b (T.map (writtenW p b)) :: measW p (s.bars.drop (k + 1)) (x :: R'') by
              obtain ⟨e1, e2⟩ := span_app (T := T) (R := x :: R'') (id := b.id) HT.out (fun y h => by cases h; exact hbar)
              rw [HDr.out, hT2, measW, e1, e2])
            clear hT2 hbar hcl'
            go_wp2
            go_quiet (fail)
            clear d0 d1 d2 d3 d4 d5 d6 d7 d8 d9 d10 d11
            have hbq := below_drewN (Below.refl wr.heap.size wr) nq; have hkq : Kept2 n0 vb bl wr (wr.drewN nq) := Kept2.below hbq (Nat.le_trans HMs.out.le HKB.out.size); replace HRe2 := Lib.hid (HRe2.out.kept hkq); replace HBL2 := Lib.hid (blk_keep HBL2.out hbq); replace HO := Lib.hid (HO.out.below hbq); replace HMw := Lib.hid (HMw.out.kept hkq); replace HXw := Lib.hid (blk_keep HXw.out hbq); replace HKB := Lib.hid (HKB.out.andBelow hbq HKB.out.size); clear hcb hcl hcr
            have HJx := Lib.hid (HJ.out _ _ _ HJ1.out HKB.out); have HSz := Lib.hid HKB.out.size; clear hbq hkq hfar HRe; generalize wr.drewN nq = W2 at *; obtain ⟨na, nc, env, hon, hin⟩ := HO.out.slAt; rw [List.length_map] at env; subst env; have HOx := Lib.hid (HO.out.mono (Nat.le_trans HMs.out.le (Nat.le_refl _))); clear HO hon hin; generalize T.map (writtenW p b) = B at *; go_upto_region 7 with (fail); have hcb := box_cells HXw.out; have hcr := box_cells HMw.out.rd; refine (wpIn_wide (n := n)).1 ?_; gi_wp2_with (refine ⟨trivial, ?_⟩; refine (callsIn_wide.2 (HK.out na B.length nc W2 HMw.out.env)).mono ?_; rintro e w5 ⟨rfl, hb⟩; have hk5 : Kept2 n0 vb bl W2 w5 := Kept2.below hb HMw.out.le; have HJ5 := Lib.hid (HJ.out _ _ _ HJx.out (KeepB.of_below hb (Nat.le_refl _))); obtain ⟨fn, tmps, assign, body, hy, hRd⟩ := HY.out xs ⟨b.id, (keyR p b.key).1, b.len, na, nc, B⟩ w5 HJ5.out (HOx.out.below hb) (by rw [HXl.out]; exact hlt); have HK5 := Lib.hid hk5; have HB5 := Lib.hid hb; clear hk5 hb; dsimp only [encMe] at hy hRd); refine hRd.mono ?_; rintro e W3 ⟨rfl, hJ3, hk3⟩; have HJ3 := Lib.hid hJ3; have HK3 := Lib.hid (HK5.out.trans hk3.weak); have HBL3 := Lib.hid ((hk3.block _ HMs.out.low.2.1 HMs.out.ne.2.1 HMs.out.ne.2.1).trans (blk_keep HBL2.out HB5.out)); clear hJ3 hk3; gi_wp2; go_wp2; refine ⟨⟨k + 1, _, xs ++ [⟨b.id, (keyR p b.key).1, b.len, na, nc, B⟩], _, by omega, by go_num, by rw [List.length_append, HXl.out]; rfl, ?_, ?_, HBL3.out, HRe2.out.kept HK3.out, HJ3.out, HMw.out.kept HK3.out⟩, by simp [intOf]; omega⟩
            · rw [List.map_append, List.append_assoc, ← HXs.out, HMea.out]; rfl
            · exact HRs.out
          case pos =>
            have hd : (x.bar == b.id) = true := by simpa using hbar
            have HTx := Lib.hid (show ∀ y ∈ T ++ [x], y.bar = b.id from fun y hy => by
              rcases List.mem_append.1 hy with h | h
              · exact HT.out y h
              · simp at h; subst h; exact hbar)
            have HTR2 := Lib.hid (show R = (T ++ [x]) ++ R'' by rw [hT2, List.append_assoc]; rfl)
            clear hT2 hbar hcl'
            obtain ⟨am', hsl, hft⟩ : ∃ am', (∀ w, (Instr.slice 24 (.slice (some ⟨lb, loff, none⟩) (R''.length + 1) C) (some (.int .i64 1)) none none).run Tryz.prog w = .ok (.slice am' R''.length (C - 1)) w) ∧ FarAt wr n0 vb bl am' 12 (R''.map No.cells) := by
              by_cases hC1 : C = 1
              · have hnil : R'' = [] := by cases R'' with | nil => rfl | cons y z => simp at hC; omega
                subst hnil
                refine ⟨some ⟨lb, loff, none⟩, fun w => ?_, ⟨SlAt.nil _ _ _, fun q hq hne => absurd rfl hne⟩⟩
                rw [run_slice_l w 24 _ _ _ Tryz.underlying24 _ _ (by omega) (by simp <;> omega)]
                subst hC1
                rfl
              · refine ⟨some ⟨lb, loff + 12, none⟩, fun w => ?_, FarAt.tail (r := x.cells) (by simpa using hfar)⟩
                rw [run_slice_l w 24 _ _ _ Tryz.underlying24 _ _ (by omega) (by simp <;> omega)]
                have : ((sizeOf (Tryz.prog.elem 24)).run Tryz.prog w) = .ok 12 w := by kernel_rfl
                rw [this]
                simp [Result.andThen, sliced, hC1, Addr.add]
            have HSl := Lib.hid hsl; have HFt := Lib.hid hft
            clear hsl hft
            go_wp2
            go_quiet (fail)
            have hbq := below_drewN (Below.refl wr.heap.size wr) nq; have hkq : Kept2 n0 vb bl wr (wr.drewN nq) := Kept2.below hbq (Nat.le_trans HMs.out.le HKB.out.size); replace HRe2 := Lib.hid (HRe2.out.kept hkq); replace HBL2 := Lib.hid (blk_keep HBL2.out hbq); replace HO := Lib.hid (HO.out.below hbq); replace HMw := Lib.hid (HMw.out.kept hkq); replace HXw := Lib.hid (blk_keep HXw.out hbq); replace HKB := Lib.hid (HKB.out.andBelow hbq HKB.out.size); clear hcb hcl hcr
            replace HFt := Lib.hid (HFt.out.kept hkq)
            replace d0 := keepE d0 hbq; replace d1 := keepE d1 hbq; replace d2 := keepE d2 hbq; replace d3 := keepE d3 hbq; replace d4 := keepE d4 hbq; replace d5 := keepE d5 hbq; replace d6 := keepE d6 hbq; replace d7 := keepE d7 hbq; replace d8 := keepE d8 hbq; replace d9 := keepE d9 hbq; replace d10 := keepE d10 hbq; replace d11 := keepE d11 hbq
            have hfr := hfar.kept hkq
            clear hbq hkq hfar HRe
            generalize wr.drewN nq = W2 at *
            go_upto_region 5 with (fail)
            clear d0 d1 d2 d3 d4 d5 d6 d7 d8 d9 d10 d11
            have HFr := Lib.hid hfr
            have HNx := Lib.hid (fun w' (k : Kept2 n0 vb bl W2 w') => NoAt.get (l := x :: R'') (HFr.out.kept k).at_ 0 (by simp))
            have HMk := Lib.hid (fun w' (k : Kept2 n0 vb bl W2 w') => HMw.out.kept k)
            have HKq := Lib.hid (Kept2.refl n0 vb bl W2)
            have hTl : T.length ≤ 1000 := by have := congrArg List.length HTR2.out; simp only [List.length_append] at this; omega
            refine wp_region_noPanic ?_
            refine wp_region_held_drew (S := fun w' => Kept2 n0 vb bl W2 w' ∧ w'.heap[bl]? = some (.cells #[.slice (some ⟨lb, loff, none⟩) (R''.length + 1) C] 24) ∧ w'.heap[bx]? = some (.cells #[.int .i64 b.id, .int .i64 b.len.n, .int .i64 b.len.d, .int .i64 b.key] 105)) (by kernel_rfl) ⟨Kept2.below (Below.refl _ _).drew HMw.out.le, HBL2.out, HXw.out⟩ (fun hHeld => ?_)
            (refine wpAnyH_take1 0 (oi := ?_) (v := ?_) ?_ (by kernel_rfl) (by kernel_rfl) (by kernel_rfl) (by assumption) ?_ ?_ ?_; rotate_left 2; (· simp only [List.getElem?_toArray, List.getElem?_cons_succ, List.getElem?_cons_zero]; try rfl); (· refine ⟨by kernel_rfl, ?_⟩; intro wq hSw; obtain ⟨y1, y2, y3⟩ := hSw; have hcl := box_cells y2; have hcb := box_cells y3; have hcr := box_cells (HMk.out _ y1).rd; obtain ⟨lb', loff', e', _, d0, d1, d2, d3, d4, d5, d6, d7, d8, d9, d10, d11⟩ := HNx.out _ y1; cases e'; simp only [List.getElem_cons_zero, Nat.zero_mul, Nat.add_zero] at d0 d1 d2 d3 d4 d5 d6 d7 d8 d9 d10 d11; go_simp; first | done | with_reducible rfl); (· exact fun _ _ _ h => h); try simp only [Act.put, List.setIfInBounds_toArray, List.set_cons_zero, List.set_cons_succ])
            (refine wpAnyH_take1 1 (oi := ?_) (v := ?_) ?_ (by kernel_rfl) (by kernel_rfl) (by kernel_rfl) (by assumption) ?_ ?_ ?_; rotate_left 2; (· simp only [List.getElem?_toArray, List.getElem?_cons_succ, List.getElem?_cons_zero]; try rfl); (· refine ⟨by kernel_rfl, ?_⟩; intro wq hSw; obtain ⟨y1, y2, y3⟩ := hSw; have hcl := box_cells y2; have hcb := box_cells y3; have hcr := box_cells (HMk.out _ y1).rd; obtain ⟨lb', loff', e', _, d0, d1, d2, d3, d4, d5, d6, d7, d8, d9, d10, d11⟩ := HNx.out _ y1; cases e'; simp only [List.getElem_cons_zero, Nat.zero_mul, Nat.add_zero] at d0 d1 d2 d3 d4 d5 d6 d7 d8 d9 d10 d11; go_simp; first | done | with_reducible rfl); (· exact fun _ _ _ h => h); try simp only [Act.put, List.setIfInBounds_toArray, List.set_cons_zero, List.set_cons_succ])
            (refine wpAnyH_take1 2 (oi := ?_) (v := ?_) ?_ (by kernel_rfl) (by kernel_rfl) (by kernel_rfl) (by assumption) ?_ ?_ ?_; rotate_left 2; (· simp only [List.getElem?_toArray, List.getElem?_cons_succ, List.getElem?_cons_zero]; try rfl); (· refine ⟨by kernel_rfl, ?_⟩; intro wq hSw; obtain ⟨y1, y2, y3⟩ := hSw; have hcl := box_cells y2; have hcb := box_cells y3; have hcr := box_cells (HMk.out _ y1).rd; obtain ⟨lb', loff', e', _, d0, d1, d2, d3, d4, d5, d6, d7, d8, d9, d10, d11⟩ := HNx.out _ y1; cases e'; simp only [List.getElem_cons_zero, Nat.zero_mul, Nat.add_zero] at d0 d1 d2 d3 d4 d5 d6 d7 d8 d9 d10 d11; go_simp; first | done | with_reducible rfl); (· exact fun _ _ _ h => h); try simp only [Act.put, List.setIfInBounds_toArray, List.set_cons_zero, List.set_cons_succ])
            (refine wpAnyH_take1 3 (oi := ?_) (v := ?_) ?_ (by kernel_rfl) (by kernel_rfl) (by kernel_rfl) (by assumption) ?_ ?_ ?_; rotate_left 2; (· simp only [List.getElem?_toArray, List.getElem?_cons_succ, List.getElem?_cons_zero]; try rfl); (· refine ⟨by kernel_rfl, ?_⟩; intro wq hSw; obtain ⟨y1, y2, y3⟩ := hSw; have hcl := box_cells y2; have hcb := box_cells y3; have hcr := box_cells (HMk.out _ y1).rd; obtain ⟨lb', loff', e', _, d0, d1, d2, d3, d4, d5, d6, d7, d8, d9, d10, d11⟩ := HNx.out _ y1; cases e'; simp only [List.getElem_cons_zero, Nat.zero_mul, Nat.add_zero] at d0 d1 d2 d3 d4 d5 d6 d7 d8 d9 d10 d11; go_simp; first | done | with_reducible rfl); (· exact fun _ _ _ h => h); try simp only [Act.put, List.setIfInBounds_toArray, List.set_cons_zero, List.set_cons_succ])
            (refine wpAnyH_take1 4 (oi := ?_) (v := ?_) ?_ (by kernel_rfl) (by kernel_rfl) (by kernel_rfl) (by assumption) ?_ ?_ ?_; rotate_left 2; (· simp only [List.getElem?_toArray, List.getElem?_cons_succ, List.getElem?_cons_zero]; try rfl); (· refine ⟨by kernel_rfl, ?_⟩; intro wq hSw; obtain ⟨y1, y2, y3⟩ := hSw; have hcl := box_cells y2; have hcb := box_cells y3; have hcr := box_cells (HMk.out _ y1).rd; obtain ⟨lb', loff', e', _, d0, d1, d2, d3, d4, d5, d6, d7, d8, d9, d10, d11⟩ := HNx.out _ y1; cases e'; simp only [List.getElem_cons_zero, Nat.zero_mul, Nat.add_zero] at d0 d1 d2 d3 d4 d5 d6 d7 d8 d9 d10 d11; go_simp; first | done | with_reducible rfl); (· exact fun _ _ _ h => h); try simp only [Act.put, List.setIfInBounds_toArray, List.set_cons_zero, List.set_cons_succ])
            (refine wpAnyH_take1 5 (oi := ?_) (v := ?_) ?_ (by kernel_rfl) (by kernel_rfl) (by kernel_rfl) (by assumption) ?_ ?_ ?_; rotate_left 2; (· simp only [List.getElem?_toArray, List.getElem?_cons_succ, List.getElem?_cons_zero]; try rfl); (· refine ⟨by kernel_rfl, ?_⟩; intro wq hSw; obtain ⟨y1, y2, y3⟩ := hSw; have hcl := box_cells y2; have hcb := box_cells y3; have hcr := box_cells (HMk.out _ y1).rd; obtain ⟨lb', loff', e', _, d0, d1, d2, d3, d4, d5, d6, d7, d8, d9, d10, d11⟩ := HNx.out _ y1; cases e'; simp only [List.getElem_cons_zero, Nat.zero_mul, Nat.add_zero] at d0 d1 d2 d3 d4 d5 d6 d7 d8 d9 d10 d11; go_simp; first | done | with_reducible rfl); (· exact fun _ _ _ h => h); try simp only [Act.put, List.setIfInBounds_toArray, List.set_cons_zero, List.set_cons_succ])
            (refine wpAnyH_call1 (i := 6) (o := ?_) (by kernel_rfl) ?_ (fun K hK => ?_); rotate_left 1; (· simp only [List.getElem?_toArray, List.getElem?_cons_succ, List.getElem?_cons_zero]; try rfl); go_simp)
            refine (HWr.out x _ (HMw.out.env.below (Below.refl _ _).drew)).mono ?_
            rintro e w6 ⟨rfl, hb⟩
            replace hb : Below W2.heap.size W2 w6 := drewB hb
            have hk6 : Kept2 n0 vb bl W2 w6 := Kept2.below hb HMw.out.le
            have HBL6 := Lib.hid (blk_keep HBL2.out hb); have HX6 := Lib.hid (blk_keep HXw.out hb); have HO6 := Lib.hid (HO.out.below hb); have HKB6 := Lib.hid (HKB.out.andBelow hb HKB.out.size)
            have HK6 := Lib.hid hk6; have HMs6 := Lib.hid (HMw.out.kept hk6); have HFt6 := Lib.hid (HFt.out.kept hk6)
            clear hb hk6
            have hs6 := HKB6.out.size
            have hn6 := HMs.out.le
            have hbl6 := HMs.out.low.2.1
            generalize hwn : writtenW p b x = wn at *
            have HWn := Lib.hid hwn; clear hwn
            generalize hTn : T.map (writtenW p b) = ns at *
            have HTn := Lib.hid hTn; clear hTn
            have hnsl : ns.length ≤ 1000 := by rw [← HTn.out, List.length_map]; exact hTl
            go_simp
            refine hK.out _ _ ⟨HK6.out, HBL6.out, HX6.out⟩ (fun hHeld2 => ?_)
            clear hK K hHeld
            (try simp only [Act.put, List.setIfInBounds_toArray, List.set_cons_zero, List.set_cons_succ])
            (refine wpAnyH_call1 (i := 7) (o := ?_) (by kernel_rfl) ?_ (fun K hK => ?_); rotate_left 1; (· simp only [List.getElem?_toArray, List.getElem?_cons_succ, List.getElem?_cons_zero]; try rfl); go_simp)
            refine hK.out _ _ ⟨HK6.out.alloc HMs6.out.le _, up_alloc HBL6.out _, up_alloc HX6.out _⟩ (fun hHeld3 => ?_)
            clear hK K hHeld2
            (try simp only [Act.put, List.setIfInBounds_toArray, List.set_cons_zero, List.set_cons_succ])
            (refine wpAnyH_call1 (i := 8) (o := ?_) (by kernel_rfl) ?_ (fun K hK => ?_); rotate_left 1; (· simp only [List.getElem?_toArray, List.getElem?_cons_succ, List.getElem?_cons_zero]; try rfl))
            refine step_of rfl (oper_appR eltWr (.tmp 27) (.tmp 34) rfl W1.heap.size _ ns rfl (HO6.out.below (below_box _)) _ _ _ [wn] rfl rfl (fun e => by cases e) (eltWr.new _ wn _ _ rfl) (by simp; omega) (by unfold maxLen; simp; omega) (Nat.le_trans hs6 (below_box _).size) ?_)
            intro v2 w2 ho2 hg2
            have hbl2 := (hg2.block bl (by have := lt_blk HBL6.out; simp; omega) (HO6.out.neBlk (by omega))).trans (up_alloc HBL6.out _)
            have hbx2 := (hg2.block bx (by have := lt_blk HX6.out; simp; omega) (HO6.out.neBlk (by omega))).trans (up_alloc HX6.out _)
            have hk2 : Kept2 n0 vb bl W2 w2 := (HK6.out.alloc HMs6.out.le _).grown hg2 (Nat.le_trans HMs6.out.le (below_box _).size) (fun r e => by have := (HO6.out.lt r e).1; omega)
            refine hK.out _ _ ⟨hk2, hbl2, hbx2⟩ (fun hHeld4 => ?_)
            clear hK K hHeld3
            (try simp only [Act.put, List.setIfInBounds_toArray, List.set_cons_zero, List.set_cons_succ])
            (refine wpAnyH_take1 9 (oi := ?_) (v := ?_) ?_ (by kernel_rfl) (by kernel_rfl) (by kernel_rfl) (by assumption) ?_ ?_ ?_; rotate_left 2; (· simp only [List.getElem?_toArray, List.getElem?_cons_succ, List.getElem?_cons_zero]; try rfl); (· refine ⟨by kernel_rfl, ?_⟩; intro wq hSw; skip; go_simp; first | done | with_reducible rfl); (· exact fun _ _ _ h => h); try simp only [Act.put, List.setIfInBounds_toArray, List.set_cons_zero, List.set_cons_succ])
            have HKB2 := Lib.hid ((HKB6.out.andBelow (below_box _) hs6).grown hg2 (Nat.le_trans hs6 (below_box _).size) (fun r e => (HO6.out.lt r e).1))
            have HO2 := Lib.hid ho2; have HBL9 := Lib.hid hbl2; have HFt2 := Lib.hid (HFt.out.kept hk2)
            clear ho2 hg2 hbl2 hbx2 hk2 hHeld4
            refine wpAnyH_done (by kernel_rfl) ?_ _
            refine NoPanic.normal ?_
            have hcl := box_cells HBL9.out; have hfl := box_free HBL9.out
            have hblt := lt_blk HBL9.out
            have hsl := HSl.out
            have hsl2 : ∀ w, (Instr.sliceAt 24 (.slice (some ⟨lb, loff, none⟩) (R''.length + 1) C) (some (.int .i64 1)) none none).run Tryz.prog w = .ok (.slice am' R''.length (C - 1)) w := fun w => (run_sliceAt_slice w _ _ _ _ _ Tryz.underlying24).trans (HSl.out w)
            go_wp2
            go_roundg R''.length
            case measure => have := HG.out; simp at this; omega
            case rel =>
              refine ⟨T ++ [x], R'', _, HTR2.out, rfl, HTx.out, ?_, heap_setCell_same _ _ _ _ _ _ HBL9.out, ?_, ?_⟩
              · have h := HO2.out.setFar (b := bl) (j := 0) (fun j hj => by have := (HO2.out.lt j hj).1; omega) (.slice am' R''.length (C - 1))
                rw [List.map_append, List.map_append, HTn.out]
                have e : [x].map (writtenW p b) = [wn] := by rw [← HWn.out]; rfl
                rw [e, ← List.map_append]
                exact h
              · exact ⟨am', C - 1, rfl, by omega, HFt2.out.kept ⟨by simp, fun i hi ha hbb => heap_setCell_other _ _ _ _ (by simpa using hbb)⟩⟩
              · exact KeepB.set HKB2.out (.inl (by simp)) _
    · obtain rfl : k = s.bars.length := by omega
      have HF := Lib.hid (show xs.map Me.says = measW p s.bars L by have := HXs.out; rw [List.drop_length] at this; simpa [measW] using this)
      go_wp2
      go_end0
      exact ⟨⟨_, rfl⟩, xs, HF.out, HJ1.out⟩
end Go.Proofs.YtcelciomhngajaaGreatDoor
/- view.Get: walked. -/
namespace Go.Proofs.YtcelciomhngajaaGreatDoor
set_option linter.unusedSimpArgs false
set_option linter.unusedVariables false
open Go.RowKit Go.Sort Go.Shelf
attribute [local go_sem] Oper.semAt_some

theorem KeepB.asGrown {X Y : World} {bl : Nat} (k : KeepB X.heap.size [bl] X Y) : X.grownBy Y (some bl) := ⟨k.os, k.tape, k.output, k.size, fun i hi hne => k.block i hi (by simp; exact fun e => hne (by rw [e]))⟩
theorem OwnMs.keptRow {w w' : World} {B : Nat} {ms : List Me} {row : Option Nat} (h : OwnMs w B ms) (hg : w.grownBy w' row) (hrow : ∀ r, row = some r → ∃ o : Obj, w.heap[r]? = some o ∧ o.isCells = false) : OwnMs w' B ms := fun m hm => (h m hm).keptRow hg hrow
theorem OwnMs.grownOff {w w' : World} {B bl : Nat} {ms : List Me} (h : OwnMs w B ms) (hg : w.grownBy w' (some bl)) (hb : bl < B) : OwnMs w' B ms := fun m hm => (h m hm).kept hg (.inr (fun e => by have := ((h m hm).lt bl e).1; omega))
set_option maxRecDepth 100000 in
set_option maxHeartbeats 4000000 in
theorem VGet_any (s : Sc) (q : Sp) (part : Int) (w : World) (hf : ScFew s) (hs : ScAt w s q) (hE : Env w) :
    Calls Tryz.prog 30 #[.agg #[.int .i64 s.version, .slice q.ab s.bars.length q.cb, .slice q.ap s.parts.length q.cp, .slice q.an s.notes.length q.cn], .int .i64 part] w (RetVE (getR s part).1 (getR s part).2.1 (getR s part).2.2 w) := by
  obtain ⟨ab, cb, ap, cp, an, cn⟩ := q
  dsimp only
  obtain ⟨x1, x2, hb⟩ := box2 (w := w) (A := .cells #[.int .i64 s.version, .slice (⟨ab, cb, ap, cp, an, cn⟩ : Sp).ab s.bars.length (⟨ab, cb, ap, cp, an, cn⟩ : Sp).cb, .slice (⟨ab, cb, ap, cp, an, cn⟩ : Sp).ap s.parts.length (⟨ab, cb, ap, cp, an, cn⟩ : Sp).cp, .slice (⟨ab, cb, ap, cp, an, cn⟩ : Sp).an s.notes.length (⟨ab, cb, ap, cp, an, cn⟩ : Sp).cn] 26) (B := .cells #[.int .i64 0, .slice none 0 0] 30) (Below.refl _ _)
  have HX1 := Lib.hid x1; have HX2 := Lib.hid x2; have HB := Lib.hid hb; clear x1 x2 hb
  have HPl := Lib.hid (fun W (hb : Below w.heap.size w W) => SPlays_any s (⟨ab, cb, ap, cp, an, cn⟩ : Sp) part W hf (hs.below hb) (hE.below hb))
  have HFi := Lib.hid (fun W (hb : Below w.heap.size w W) => VFind_any s (⟨ab, cb, ap, cp, an, cn⟩ : Sp) part W hf (hs.below hb))
  have HS := Lib.hid hs; have HE := Lib.hid hE; have HF := Lib.hid hf
  by_cases hbad : ∃ er : Int, playsR s part = ([], er) ∧ er ≠ 0 ∧ getR s part = (0, [], er)
  · obtain ⟨er, e1, e2, e3⟩ := hbad
    rw [e1] at HPl
    rw [e3]
    have hd : (er != 0) = true := by simpa using e2
    clear e1 e2 e3 hs hE hf
    go_enter Tryz.func30, Tryz.ntmps30
    go_upto_region 1 with (fail)
    generalize (w.alloc (.cells #[.int .i64 s.version, .slice (⟨ab, cb, ap, cp, an, cn⟩ : Sp).ab s.bars.length (⟨ab, cb, ap, cp, an, cn⟩ : Sp).cb, .slice (⟨ab, cb, ap, cp, an, cn⟩ : Sp).ap s.parts.length (⟨ab, cb, ap, cp, an, cn⟩ : Sp).cp, .slice (⟨ab, cb, ap, cp, an, cn⟩ : Sp).an s.notes.length (⟨ab, cb, ap, cp, an, cn⟩ : Sp).cn] 26)).alloc (.cells #[.int .i64 0, .slice none 0 0] 30) = W at *
    have hc1 := box_cells HX1.out; have hc2 := box_cells HX2.out; have hf2 := box_free HX2.out; have hz2 := lt_blk HX2.out
    go_wp2_with ((go_at_call 63; refine (HPl.out _ HB.out).mono ?_; rintro e w2 ⟨aL, capL, rfl, hok, hno, hb⟩; (try replace hb := drewB hb); replace HB := Lib.hid (HB.out.trans (hb.mono HB.out.size)); (try (replace HX1 := Lib.hid (blk_keep HX1.out hb); replace hc1 := box_cells HX1.out; replace hf1 := box_free HX1.out; replace hz1 := lt_blk HX1.out)); (try (replace HX2 := Lib.hid (blk_keep HX2.out hb); replace hc2 := box_cells HX2.out; replace hf2 := box_free HX2.out; replace hz2 := lt_blk HX2.out)); (try (replace HX5 := Lib.hid (blk_keep HX5.out hb); replace hc5 := box_cells HX5.out; replace hf5 := box_free HX5.out; replace hz5 := lt_blk HX5.out)); clear hb))
    exact bodyPost_ret (v := .tuple #[.agg #[.int .i64 0, .slice none 0 0], .int .i64 er]) (by simp [results, Tryz.results30, go_sem, hc2, hf2]) rfl ⟨none, 0, [], rfl, SlOk.nil, ⟨SlAt.nil _ _ _, (fun m hm => by cases hm), (fun m hm => by cases hm)⟩, rfl, (HB.out.setCell (by simp <;> omega) _).setCell (by simp <;> omega) _⟩
  · cases hv : validS s with
    | false => exact absurd ⟨1, by simp [playsR, hv], by decide, by simp [getR, hv]⟩ hbad
    | true =>
      cases hp : partAt s.parts part with
      | none => exact absurd ⟨22, by simp [playsR, hv, hp], by decide, by simp [getR, hv, hp]⟩ hbad
      | some p =>
        rw [show playsR s part = (playedL s p, 0) by simp [playsR, hv, hp]] at HPl
        rw [show getR s part = (p.id, viewL s p, 0) by simp [getR, hv, hp], ← view_measW hv p]
        rw [show foundP s.parts part = p by simp [foundP, hp], hp] at HFi
        simp only [Option.isSome_some] at HFi
        have hpl : (playedL s p).length ≤ 1000 := by unfold playedL; rw [List.length_map]; exact Nat.le_trans (List.length_filter_le _ _) hf.notes
        have hnb := hf.bars
        clear hbad hv hp hs hE hf
        dsimp only at *
        generalize playedL s p = L at *
        refine (callsIn_wide (n := 8)).1 ?_
        refine callsIn_of_wp_marks Tryz.func30 rfl trivial ?_ rfl
        simp only [Tryz.ntmps30, List.size_toArray, List.length_cons, List.length_nil, Nat.reduceAdd, Nat.reduceSub, Array.replicate_succ, Array.replicate_zero, List.push_toArray, List.append_toArray, List.nil_append, List.cons_append]
        refine wpIn_wide.2 ?_
        go_upto_region 1 with (fail)
        generalize (w.alloc (.cells #[.int .i64 s.version, .slice (⟨ab, cb, ap, cp, an, cn⟩ : Sp).ab s.bars.length (⟨ab, cb, ap, cp, an, cn⟩ : Sp).cb, .slice (⟨ab, cb, ap, cp, an, cn⟩ : Sp).ap s.parts.length (⟨ab, cb, ap, cp, an, cn⟩ : Sp).cp, .slice (⟨ab, cb, ap, cp, an, cn⟩ : Sp).an s.notes.length (⟨ab, cb, ap, cp, an, cn⟩ : Sp).cn] 26)).alloc (.cells #[.int .i64 0, .slice none 0 0] 30) = W at *
        have hc1 := box_cells HX1.out; have hc2 := box_cells HX2.out; have hf2 := box_free HX2.out; have hz2 := lt_blk HX2.out
        go_upto_region 5 with (first | (go_at_call 63; refine (HPl.out _ HB.out).mono ?_; rintro e w2 ⟨aL, capL, rfl, hok, hno, hb⟩; (try replace hb := drewB hb); replace HB := Lib.hid (HB.out.trans (hb.mono HB.out.size)); (try (replace HX1 := Lib.hid (blk_keep HX1.out hb); replace hc1 := box_cells HX1.out; replace hf1 := box_free HX1.out; replace hz1 := lt_blk HX1.out)); (try (replace HX2 := Lib.hid (blk_keep HX2.out hb); replace hc2 := box_cells HX2.out; replace hf2 := box_free HX2.out; replace hz2 := lt_blk HX2.out)); (try (replace HX5 := Lib.hid (blk_keep HX5.out hb); replace hc5 := box_cells HX5.out; replace hf5 := box_free HX5.out; replace hz5 := lt_blk HX5.out)); clear hb) | (go_at_call 64; refine (HFi.out _ HB.out).mono ?_; rintro e w3 ⟨rfl, hb⟩; have hb23 := hb; (try replace hb := drewB hb); replace HB := Lib.hid (HB.out.trans (hb.mono HB.out.size)); (try (replace HX1 := Lib.hid (blk_keep HX1.out hb); replace hc1 := box_cells HX1.out; replace hf1 := box_free HX1.out; replace hz1 := lt_blk HX1.out)); (try (replace HX2 := Lib.hid (blk_keep HX2.out hb); replace hc2 := box_cells HX2.out; replace hf2 := box_free HX2.out; replace hz2 := lt_blk HX2.out)); (try (replace HX5 := Lib.hid (blk_keep HX5.out hb); replace hc5 := box_cells HX5.out; replace hf5 := box_free HX5.out; replace hz5 := lt_blk HX5.out)); clear hb))
        have hnoW := NoAt.below hno hb23
        have hw2 : w.heap.size + 1 < w3.heap.size := lt_blk HX2.out
        have HOk := Lib.hid hok
        clear hb23 hno hok
        have HX5 := Lib.hid (heap_alloc_new w3 (.cells #[.int .i64 p.id, .int .i64 p.section_, .int .i64 p.of, .int .i64 p.octave, .int .i64 p.desks, .int .i64 p.shift.x, .int .i64 p.shift.y, .int .i64 p.low.s, .int .i64 p.low.a, .int .i64 p.low.o, .int .i64 p.high.s, .int .i64 p.high.a, .int .i64 p.high.o] 121))
        have hb := (Below.refl w3.heap.size w3).alloc (Nat.le_refl _) (.cells #[.int .i64 p.id, .int .i64 p.section_, .int .i64 p.of, .int .i64 p.octave, .int .i64 p.desks, .int .i64 p.shift.x, .int .i64 p.shift.y, .int .i64 p.low.s, .int .i64 p.low.a, .int .i64 p.low.o, .int .i64 p.high.s, .int .i64 p.high.a, .int .i64 p.high.o] 121)
        replace HX1 := Lib.hid (blk_keep HX1.out hb); replace HX2 := Lib.hid (blk_keep HX2.out hb); replace HB := Lib.hid (HB.out.trans (hb.mono HB.out.size))
        clear hc1 hc2 hf1 hf2 hz1 hz2
        go_upto_region 5 with (fail)
        have hnoW4 := hnoW.below hb
        generalize hW4 : w3.alloc (.cells #[.int .i64 p.id, .int .i64 p.section_, .int .i64 p.of, .int .i64 p.octave, .int .i64 p.desks, .int .i64 p.shift.x, .int .i64 p.shift.y, .int .i64 p.low.s, .int .i64 p.low.a, .int .i64 p.low.o, .int .i64 p.high.s, .int .i64 p.high.a, .int .i64 p.high.o] 121) = W4 at *
        clear hb
        have hz4 : w3.heap.size < W4.heap.size := by rw [← hW4]; simp
        clear hW4
        have hc5 := box_cells HX5.out
        go_upto_region 6 with (fail)
        have HXv := Lib.hid (heap_alloc_new W4 (.cells #[.int .i64 p.id, .slice none 0 0] 30))
        have hb := (Below.refl W4.heap.size W4).alloc (Nat.le_refl _) (.cells #[.int .i64 p.id, .slice none 0 0] 30)
        replace HX1 := Lib.hid (blk_keep HX1.out hb); replace HX2 := Lib.hid (blk_keep HX2.out hb); replace HX5 := Lib.hid (blk_keep HX5.out hb); replace HB := Lib.hid (HB.out.trans (hb.mono HB.out.size))
        have hnoW5 := hnoW4.below hb
        generalize hW5 : W4.alloc (.cells #[.int .i64 p.id, .slice none 0 0] 30) = W5 at *
        have hz5 : W5.heap.size = W4.heap.size + 1 := by rw [← hW5]; simp
        have hb0 := hb
        clear hb hW5 hc5
        have hc1 := box_cells HX1.out; have hc5 := box_cells HX5.out
        have HFar := Lib.hid hnoW4
        have HZ := Lib.hid (show w.heap.size + 1 < w3.heap.size ∧ w3.heap.size < W4.heap.size ∧ W5.heap.size ≤ W4.heap.size + 1 ∧ W4.heap.size + 1 ≤ W5.heap.size from ⟨hw2, hz4, by omega, by omega⟩)
        have HBf := Lib.hid hb0
        have HVl := Lib.hid (Nat.le_refl W4.heap.size)
        clear hw2 hz4 hz5 hnoW hnoW4 hnoW5 hb0
        generalize w3.heap.size = rb at *
        obtain ⟨vb, hvb⟩ : ∃ vb, vb = W4.heap.size := ⟨_, rfl⟩
        rw [← hvb] at HZ HXv ⊢
        have HVb := Lib.hid hvb
        clear hvb
        go_wp2_with (go_at_call 65; refine (Measures_any p s (⟨ab, cb, ap, cp, an, cn⟩ : Sp) aL L.length capL W5).mono ?_; rintro e w7 ⟨rfl, hw7⟩; have HW7 := Lib.hid hw7; clear hw7)
        obtain ⟨kR, kS, kN, hb7⟩ := box3 (w := W5) (A := .cells #[.int .i64 p.id, .int .i64 p.section_, .int .i64 p.of, .int .i64 p.octave, .int .i64 p.desks, .int .i64 p.shift.x, .int .i64 p.shift.y, .int .i64 p.low.s, .int .i64 p.low.a, .int .i64 p.low.o, .int .i64 p.high.s, .int .i64 p.high.a, .int .i64 p.high.o] 121) (B := .cells #[.int .i64 s.version, .slice (⟨ab, cb, ap, cp, an, cn⟩ : Sp).ab s.bars.length (⟨ab, cb, ap, cp, an, cn⟩ : Sp).cb, .slice (⟨ab, cb, ap, cp, an, cn⟩ : Sp).ap s.parts.length (⟨ab, cb, ap, cp, an, cn⟩ : Sp).cp, .slice (⟨ab, cb, ap, cp, an, cn⟩ : Sp).an s.notes.length (⟨ab, cb, ap, cp, an, cn⟩ : Sp).cn] 26) (C := .cells #[.slice aL L.length capL] 24) (w' := w7) (by rw [← HW7.out]; exact Below.refl _ _)
        have hz7 : w7.heap.size ≤ W5.heap.size + 3 := by rw [HW7.out]; simp
        have hz7' : W5.heap.size + 3 ≤ w7.heap.size := by rw [HW7.out]; simp
        have kV := blk_keep HXv.out hb7
        have kX2 := blk_keep HX2.out hb7
        have HB7 := Lib.hid (HB.out.trans (hb7.mono HB.out.size))
        obtain ⟨hq1, hq2, hq3, hq4⟩ := HZ.out
        have HF7 := Lib.hid (show Below W4.heap.size W4 w7 from HBf.out.trans (hb7.mono HBf.out.size))
        have hlw : w.heap.size + 1 < W5.heap.size := lt_blk HX2.out
        have hnat := HE.out.lt
        have HMsL := Lib.hid (fun W (hW : KeepB w7.heap.size [W5.heap.size + 2] w7 W) => show MsL s (⟨ab, cb, ap, cp, an, cn⟩ : Sp) p (W5.heap.size + 1) (W5.heap.size + 2) W5.heap.size w7.heap.size vb W from
          ⟨hW.at_ kS (by omega) (by simp), hW.at_ kR (by omega) (by simp), ⟨by omega, by omega, by omega⟩, ⟨by omega, by omega, by omega, by omega, by omega⟩, far_of HS.out.bars (hW.onBelow HB7.out HB7.out.size (fun b hb => by simp at hb; omega)) (by omega) (by omega) (by omega), hnb,
            HE.out.below (hW.onBelow HB7.out HB7.out.size (fun b hb => by simp at hb; omega)), ⟨by omega, by omega, by omega⟩, hW.size⟩)
        clear HPl HFi hc1 hc5 HX1 HX2 HX5 HXv HB
        refine (wpIn_wide (n := 8)).1 ?_
        refine rangeFunc_sets (α := Me) rfl (by omega) (gf := 106) (lb := #[.pointer (some ⟨W5.heap.size + 1, 0, none⟩), .pointer (some ⟨W5.heap.size + 2, 0, none⟩), .pointer (some ⟨W5.heap.size, 0, none⟩)]) rfl trivial (enters_of Tryz.func106 (by kernel_rfl) rfl)
          (encs := encMe) (fun _ => rfl) (Kp := Kept2 w7.heap.size vb vb) (S := fun xs => xs.map Me.says = measW p s.bars L) (Ok := fun x W => OwnR W w7.heap.size 64 10 (.slice x.na x.notes.length x.ncap) (x.notes.map Wr.cells)) (N := s.bars.length) (bl := W5.heap.size + 2) (by omega) ?hseq Kept2.trans ?hKb
          (fun pre V => ∃ v, V.heap[vb]? = some (.cells #[.int .i64 p.id, v] 30) ∧ OwnR V w7.heap.size 60 5 v (pre.map Me.cells) ∧ OwnMs V w7.heap.size pre ∧ pre.length ≤ 1000 ∧ Below w.heap.size w V ∧ w7.heap.size ≤ V.heap.size ∧ V.heap[w.heap.size + 1]? = some (.cells #[.int .i64 0, .slice none 0 0] 30))
          ?hI ?hIk ?h0
          (fun x a' V => ∃ Bx, w7.heap.size ≤ Bx ∧ V.heap[Bx]? = some (.cells #[.int .i64 x.bar, .int .i64 x.key, .int .i64 x.len.n, .int .i64 x.len.d, .slice x.na x.notes.length x.ncap] 60) ∧ OwnR V w7.heap.size 64 10 (.slice x.na x.notes.length x.ncap) (x.notes.map Wr.cells) ∧ a' = { tmps := #[.agg #[.int .i64 s.version, .slice ab s.bars.length cb, .slice ap s.parts.length cp, .slice an s.notes.length cn], .int .i64 part, .pointer (some ⟨w.heap.size, 0, none⟩), undef, .pointer (some ⟨w.heap.size + 1, 0, none⟩), .int .i64 0, .slice aL L.length capL, .int .i64 0, .pointer (some ⟨rb, 0, none⟩), .bool true, .pointer (some ⟨vb, 0, none⟩), .pointer (some ⟨Bx, 0, none⟩), .tuple #[.slice aL L.length capL, .int .i64 0], .agg #[.int .i64 s.version, .slice ab s.bars.length cb, .slice ap s.parts.length cp, .slice an s.notes.length cn], .int .i64 part, .tuple #[.slice aL L.length capL, .int .i64 0], .slice aL L.length capL, .int .i64 0, .int .i64 0, .bool false, undef, undef, .tuple #[.agg #[.int .i64 p.id, .int .i64 p.section_, .int .i64 p.of, .int .i64 p.octave, .int .i64 p.desks, .int .i64 p.shift.x, .int .i64 p.shift.y, .int .i64 p.low.s, .int .i64 p.low.a, .int .i64 p.low.o, .int .i64 p.high.s, .int .i64 p.high.a, .int .i64 p.high.o], .bool true], .agg #[.int .i64 s.version, .slice ab s.bars.length cb, .slice ap s.parts.length cp, .slice an s.notes.length cn], .int .i64 part, .tuple #[.agg #[.int .i64 p.id, .int .i64 p.section_, .int .i64 p.of, .int .i64 p.octave, .int .i64 p.desks, .int .i64 p.shift.x, .int .i64 p.shift.y, .int .i64 p.low.s, .int .i64 p.low.a, .int .i64 p.low.o, .int .i64 p.high.s, .int .i64 p.high.a, .int .i64 p.high.o], .bool true], .agg #[.int .i64 p.id, .int .i64 p.section_, .int .i64 p.of, .int .i64 p.octave, .int .i64 p.desks, .int .i64 p.shift.x, .int .i64 p.shift.y, .int .i64 p.low.s, .int .i64 p.low.a, .int .i64 p.low.o, .int .i64 p.high.s, .int .i64 p.high.a, .int .i64 p.high.o], .bool true, .pointer (some ⟨rb, 0, none⟩), .pointer (some ⟨rb, 0, none⟩), .int .i64 p.id, .agg #[.int .i64 p.id, .slice none 0 0], .agg #[.int .i64 p.id, .int .i64 p.section_, .int .i64 p.of, .int .i64 p.octave, .int .i64 p.desks, .int .i64 p.shift.x, .int .i64 p.shift.y, .int .i64 p.low.s, .int .i64 p.low.a, .int .i64 p.low.o, .int .i64 p.high.s, .int .i64 p.high.a, .int .i64 p.high.o], .agg #[.int .i64 s.version, .slice ab s.bars.length cb, .slice ap s.parts.length cp, .slice an s.notes.length cn], .slice aL L.length capL, .func (.func 106) #[] #[.pointer (some ⟨W5.heap.size + 1, 0, none⟩), .pointer (some ⟨W5.heap.size + 2, 0, none⟩), .pointer (some ⟨W5.heap.size, 0, none⟩)], .agg #[.int .i64 x.bar, .int .i64 x.key, .int .i64 x.len.n, .int .i64 x.len.d, .slice x.na x.notes.length x.ncap], undef, undef, undef, undef, undef, undef, undef], defers := [] })
          ?hAx ?hassign ?hbody ?hdone
        case hseq =>
          intro l0 J W hW hbl hJ hY h0
          exact measures1_in 7 (by omega) l0 (W5.heap.size + 1) (W5.heap.size + 2) W5.heap.size w7.heap.size vb s (⟨ab, cb, ap, cp, an, cn⟩ : Sp) p L (.slice aL L.length capL) J W (HMsL.out W hW) hpl (hbl.trans kN)
            ⟨aL, capL, rfl, HOk.out.le, far_of (W0 := W4) HFar.out (hW.onBelow HF7.out HF7.out.size (fun b hb => by have := HVb.out; simp at hb; omega)) (by have := HVb.out; omega) (by have := HVb.out; omega) (by have := HVb.out; omega)⟩ hJ hY h0
        case hKb =>
          intro V l0 o o' hl0 hW _ _
          exact (Kept2.refl _ _ _ _).trans ⟨by simp, fun k hk _ _ => World.putObj_heap_other (by omega)⟩
        case hI =>
          rintro pre V V' row ⟨v, j1, j2, j3, j4, j5, j6, j7⟩ hg hrow
          exact ⟨v, blk_keptRow j1 hg hrow (by omega), j2.keptRow hg (fun r e => (hrow r e).2), j3.keptRow hg (fun r e => (hrow r e).2), j4, j5.grown hg j5.size (fun k e => by have := (hrow k e).1; omega), Nat.le_trans j6 hg.size, blk_keptRow j7 hg hrow (by omega)⟩
        case hIk =>
          rintro pre X Y ⟨v, j1, j2, j3, j4, j5, j6, j7⟩ hk
          have hg := hk.asGrown
          exact ⟨v, hk.at_ j1 (lt_blk j1) (by simp; omega), j2.kept hg (.inr (fun e => by have := (j2.lt _ e).1; omega)), j3.grownOff hg (by omega), j4, hk.onBelow j5 j5.size (fun b hb => by simp at hb; omega), Nat.le_trans j6 hk.size, hk.at_ j7 (lt_blk j7) (by simp; omega)⟩
        case h0 =>
          exact ⟨_, kV, OwnR.nil _ _ _ _, (fun m hm => by cases hm), by simp, HB7.out, Nat.le_refl _, kX2⟩
        case hAx =>
          rintro x a' u V V' row ⟨Bx, h1, h2, h3, h4⟩ hg hrow
          refine ⟨Bx, h1, (hg.block _ (lt_of_block h2) (fun e => ?_)).trans h2, h3.keptRow hg (fun r e => (hrow r e).2), h4⟩
          obtain ⟨_, o, ho, hc⟩ := hrow Bx e.symm
          rw [h2] at ho; cases ho; cases hc
        case hassign =>
          rintro l0 pre x V K ⟨v, j1, j2, j3, j4, j5, j6, j7⟩ hok hK
          gi_wp2
          exact hK _ _ ((KeepsOthers.alloc _ _).from _) ((Kept2.refl _ _ _ _).alloc j6 _) ⟨v, up_alloc j1 _, j2.below (below_box _), j3.below (below_box _), j4, j5.alloc j5.size _, by simp; omega, up_alloc j7 _⟩ ⟨V.heap.size, j6, heap_alloc_new _ _, hok.below (below_box _), rfl⟩
        case hbody =>
          rintro l0 pre x a' V hl0 ⟨v, j1, j2, j3, j4, j5, j6, j7⟩ ⟨Bx, hBx, hbx, hown, rfl⟩ hlt
          have co := box_cells j1
          have cx := box_cells hbx
          have J2 := Lib.hid j2; have J3 := Lib.hid j3; have HOw := Lib.hid hown
          have hsz5 : w7.heap.size ≤ (V.alloc (.cells #[.int .i64 x.bar, .int .i64 x.key, .int .i64 x.len.n, .int .i64 x.len.d, .slice x.na x.notes.length x.ncap] 60)).heap.size := by simp; omega
          have hlen : pre.length + 1 ≤ 1048576 := by omega
          clear j2 j3 hown
          gi_wp2_with (gi_at_builtin; go_must (refine appEIn eltMe rfl (.tmp 38) (.tmp 40) rfl w7.heap.size _ pre rfl (J2.out.below (below_box _)) _ _ _ [x] rfl rfl (by simp) (eltMe.new _ _ _ _ rfl) hlen hsz5 ?_); intro v5 w5 ho5 hg5; have hko5 := (hg5.block _ (by simp; omega) (J2.out.neBlk (by omega))).trans (up_alloc j1 _); have c5 := box_cells hko5; have f5 := box_free hko5; obtain ⟨a9, c9, e9, _, _⟩ := ho5.slAt; rw [show ((pre ++ [x]).map Me.cells).length = pre.length + 1 by simp] at e9; subst e9)
          have hz5 := hg5.size
          have hsame : ∀ k, k < V.heap.size → k ≠ vb → some k ≠ v.ownBlock → (w5.setCell ⟨vb, 1, none⟩ (.slice a9 (pre.length + 1) c9)).heap[k]? = V.heap[k]? := fun k h1 h2 h3 =>
            (Below.heap_setCell _ _ _ k h2).trans ((hg5.block k (by simp; omega) h3).trans (Below.heap_alloc _ _ _ h1))
          have hms := ((((J3.out.snoc HOw.out).below (below_box (.cells #[.int .i64 x.bar, .int .i64 x.key, .int .i64 x.len.n, .int .i64 x.len.d, .slice x.na x.notes.length x.ncap] 60))).kept (J2.out.below (below_box _)) hg5).setFar (b := vb) (j := 1) (by omega) (.slice a9 (pre.length + 1) c9))
          refine ⟨⟨by simp at hz5 ⊢; omega, fun k o hk h0 ho => (hsame k (lt_blk h0) (by omega) (fun e => by
              obtain ⟨cur, hc⟩ := J2.out.isCells e.symm
              rw [h0] at hc; cases hc; cases ho)).trans h0⟩, ⟨by simp at hz5 ⊢; omega, fun k hk ha hb => hsame k (by omega) ha (J2.out.neBlk hk)⟩, _, heap_setCell_same _ _ _ _ _ _ hko5, ?_, hms, by omega, ?_, by simp at hz5 ⊢; omega, ?_⟩
          · have := ho5.setFar (b := vb) (j := 1) (fun j hj => by have := (ho5.lt j hj).1; omega) (.slice a9 (pre.length + 1) c9)
            simpa using this
          · exact ((j5.alloc j5.size _).grown hg5 (by simp; omega) (fun k e => by have := (J2.out.lt k e).1; omega)).setCell (p := ⟨vb, 1, none⟩) (by show w.heap.size ≤ vb; omega) _
          · exact (hsame _ (lt_blk j7) (by omega) (J2.out.neBlk (by omega))).trans j7
        case hdone =>
          rintro D xs V hD hxs ⟨v, j1, j2, j3, j4, j5, j6, j7⟩ hK
          have co := box_cells j1
          have cr := box_cells j7; have fr := box_free j7; have zr := lt_blk j7
          obtain ⟨a9, c9, rfl, hs9, hi9⟩ := j2.slAt
          rw [List.length_map] at j1 j2 co hs9
          have hne : w.heap.size + 1 < w7.heap.size := by omega
          have ho1 := (j2.setFar (b := w.heap.size + 1) (j := 0) (fun j hj => by have := (j2.lt j hj).1; omega) (.int .i64 p.id)).setFar (b := w.heap.size + 1) (j := 1) (fun j hj => by have := (j2.lt j hj).1; omega) (.slice a9 xs.length c9)
          have hm1 := (j3.setFar (j := 0) hne (.int .i64 p.id)).setFar (j := 1) hne (.slice a9 xs.length c9)
          have hb1 := (j5.setCell (p := ⟨w.heap.size + 1, 0, none⟩) (by simp) (.int .i64 p.id)).setCell (p := ⟨w.heap.size + 1, 1, none⟩) (by simp) (.slice a9 xs.length c9)
          have hK1 := set1_far (i := 1) (set1_far (i := 0) hK (show D ≠ w.heap.size + 1 by omega) (.int .i64 p.id)) (show D ≠ w.heap.size + 1 by omega) (.slice a9 xs.length c9)
          have hc1 : (((V.setCell ⟨w.heap.size + 1, 0, none⟩ (.int .i64 p.id)).setCell ⟨w.heap.size + 1, 1, none⟩ (.slice a9 xs.length c9)).putObj D (.deferred none)).heap[w.heap.size + 1]? = some (.cells #[.int .i64 p.id, .slice a9 xs.length c9] 30) := (World.putObj_heap_other (by omega)).trans (heap_setCell_same _ _ _ _ _ _ (heap_setCell_same _ _ _ _ _ _ j7))
          have HO1 := Lib.hid ho1; have HM1 := Lib.hid hm1; have HB1 := Lib.hid hb1; have HK1 := Lib.hid hK1; have HC1 := Lib.hid hc1; have HXs := Lib.hid hxs
          clear ho1 hm1 hb1 hK1 hc1 hxs hi9
          gi_wp2
          go_wp2
          have hcc := box_cells HC1.out; have hff := box_free HC1.out
          refine ⟨by simp, .inl ⟨_, _, rfl, run_takeDeferred HK1.out, ?_⟩⟩
          refine ⟨.tuple #[.agg #[.int .i64 p.id, .slice a9 xs.length c9], .int .i64 0], by simp [results, Tryz.results30, go_sem, hcc, hff], ?_⟩
          have hg := grownBy_putObj' ((V.setCell ⟨w.heap.size + 1, 0, none⟩ (.int .i64 p.id)).setCell ⟨w.heap.size + 1, 1, none⟩ (.slice a9 xs.length c9)) D (.deferred none)
          have hr : ∀ r, some D = some r → ∃ o : Obj, ((V.setCell ⟨w.heap.size + 1, 0, none⟩ (.int .i64 p.id)).setCell ⟨w.heap.size + 1, 1, none⟩ (.slice a9 xs.length c9)).heap[r]? = some o ∧ o.isCells = false := fun r e => by cases e; exact ⟨_, HK1.out, rfl⟩
          obtain ⟨a, cap, e, hok, hme⟩ := (HM1.out.keptRow hg hr).meAt (HO1.out.keptRow hg hr)
          cases e
          exact ⟨_, _, xs, rfl, hok, hme, HXs.out, HB1.out.grown hg HB1.out.size (fun k e => by cases e; omega)⟩
end Go.Proofs.YtcelciomhngajaaGreatDoor

