
/- call.words: the iterator over the words of a string: walked. -/
import Derived.RangeFuncNested
import Derived.RangeFuncBound
import Derived.RangeFuncCalls
import Derived.RangeFuncLeaves
import Derived.RangeFuncRecord
import Derived.Shelf.RegionOpen
import Derived.OwnWalkIn
import Derived.TacticsInMore
import Derived.LoopNIn
import Derived.LoopIn
import Derived.Test.YtfppijjjaleiaaaDoorCallAny
import Derived.Test.YtfppijjjaleiaaaDoorScLoop
namespace Go.Proofs.YtfppijjjaleiaaaDoor
set_option linter.unusedSimpArgs false
set_option linter.unusedVariables false
open Go.RowKit Go.Sort Go.Shelf
attribute [local go_sem] Oper.semAt_some

/-- What lay below n0, but for the blocks a and b, lies as it lay. -/
structure Kept2 (n0 a b : Nat) (W W' : World) : Prop where
  size : W.heap.size ≤ W'.heap.size
  block : ∀ k, k < n0 → k ≠ a → k ≠ b → W'.heap[k]? = W.heap[k]?
theorem Kept2.refl (n0 a b : Nat) (W : World) : Kept2 n0 a b W W := ⟨Nat.le_refl _, fun _ _ _ _ => rfl⟩
theorem Kept2.trans {n0 a b : Nat} {X Y Z : World} (h : Kept2 n0 a b X Y) (k : Kept2 n0 a b Y Z) : Kept2 n0 a b X Z := ⟨Nat.le_trans h.size k.size, fun i hi ha hb => (k.block i hi ha hb).trans (h.block i hi ha hb)⟩
theorem Kept2.alloc {n0 a b : Nat} {X Y : World} (h : Kept2 n0 a b X Y) (hn : n0 ≤ Y.heap.size) (o : Obj) : Kept2 n0 a b X (Y.alloc o) := h.trans ⟨by simp, fun k hk _ _ => Below.heap_alloc _ _ _ (by omega)⟩
theorem Kept2.grown {n0 a b : Nat} {X Y Z : World} (h : Kept2 n0 a b X Y) {row : Option Nat} (hg : Y.grownBy Z row) (hn : n0 ≤ Y.heap.size) (hr : ∀ r, row = some r → n0 ≤ r) : Kept2 n0 a b X Z :=
  h.trans ⟨hg.size, fun k hk _ _ => hg.block k (by omega) (fun e => by have := hr k e.symm; omega)⟩
theorem Kept2.below {n0 a b : Nat} {X Y : World} (h : Below X.heap.size X Y) (hn : n0 ≤ X.heap.size) : Kept2 n0 a b X Y := ⟨h.size, fun k hk _ _ => h.block k (by omega)⟩
theorem appEIn {F : Fence} {nF : Nat} {P : Program} {w : World} {ops : Array Oper} {rest : List Oper} {o : Oper} {a : Act} {Q : Exit → Act → World → Prop} {T E : TypeId} {sz bytes : Nat} {α : Type} {f : α → List Value} (he : Elt P T E sz bytes f)
    (hgd : o.guard = none) (s x : Operand) (ho : o.op = .call { callee := .builtin .append, args := #[s, x], argTypes := #[T, T] })
    (B : Nat) (v : Value) (l : List α) (hs : a.eval s = v) (hown : OwnR w B E sz v (l.map f))
    (ad : Addr) (m c : Nat) (news : List α) (hx : a.eval x = .slice (some ad) m c) (hm : m = news.length) (hn : news ≠ []) (hnews : SlAt w (some ad) sz (news.map f))
    (hlen : l.length + news.length ≤ 1048576) (hbase : B ≤ w.heap.size)
    (h : ∀ v' w', OwnR w' B E sz v' ((l ++ news).map f) → w.grownBy w' v.ownBlock → wpListIn F nF P ops Q rest (a.put o.dst v') w') : wpListIn F nF P ops Q (o :: rest) a w := by
  obtain ⟨z, hi, hz⟩ := he.info
  obtain ⟨i, hi, hz0, hz1, hz2⟩ := info_parts hi
  subst hm
  have hwn : ∀ r ∈ news.map f, r.length = sz := fun r hr => by obtain ⟨y, _, rfl⟩ := List.mem_map.1 hr; exact he.len y
  have hww : ∀ r ∈ (l ++ news).map f, r.length = sz := fun r hr => by obtain ⟨y, _, rfl⟩ := List.mem_map.1 hr; exact he.len y
  have hcell : ∀ j u, (news.map f).flatten[j]? = some u → w.cell? (ad.add j) = some u := by
    obtain ⟨y, l', rfl⟩ := List.exists_cons_of_ne_nil hn
    obtain ⟨b, off, e, _⟩ := hnews 0 (f y) rfl
    cases e
    exact hnews.flat
  have hown' := hown.own
  rw [List.length_map] at hown'
  exact wpListIn_append_own w hgd s x T ho B E i z sz bytes he.ty hi hz0 hz1 hz2 hz he.pos v l.length (l.map f).flatten hs hown' ad news.length c (news.map f).flatten hx (by rw [flat_len _ sz hwn, List.length_map]) hcell
    (oneCell_flat fun r hr u hu => by obtain ⟨y, _, rfl⟩ := List.mem_map.1 hr; exact he.one y u hu) (by unfold maxLen; omega) (Nat.le_trans (Nat.mul_le_mul hlen he.small) (by decide)) hbase
    fun v' w' ho' hg _ => h v' w' ⟨hww, by rw [List.length_map, List.length_append, List.map_append, List.flatten_append]; exact ho'⟩ hg
theorem blk_keptRow {A B : World} {row : Option Nat} {b n0 : Nat} {o : Obj} (h : A.heap[b]? = some o) (hg : A.grownBy B row) (hr : ∀ r, row = some r → n0 ≤ r ∧ ∃ o : Obj, A.heap[r]? = some o ∧ o.isCells = false) (hb : b < n0) : B.heap[b]? = some o :=
  (hg.block b (lt_blk h) (fun e => by have := (hr b e.symm).1; omega)).trans h
theorem OwnR.neBlk {w : World} {B k : Nat} {E : TypeId} {sz : Nat} {v : Value} {rows : List (List Value)} (o : OwnR w B E sz v rows) (h : k < B) : some k ≠ v.ownBlock := fun e => by have := (o.lt k e.symm).1; omega
theorem OwnR.isCells {w : World} {B k : Nat} {E : TypeId} {sz : Nat} {v : Value} {rows : List (List Value)} (o : OwnR w B E sz v rows) (h : v.ownBlock = some k) : ∃ cur, w.heap[k]? = some (.cells cur E (0, 0)) := by
  obtain ⟨_, _, ⟨rfl, _⟩ | ⟨g, cap, cur, rfl, _, hc, _⟩⟩ := o
  · cases h
  · cases h; exact ⟨cur, hc⟩
theorem OwnR.keptRow {A A' : World} {row : Option Nat} {B : Nat} {E : TypeId} {sz : Nat} {v : Value} {rows : List (List Value)} (o : OwnR A B E sz v rows) (hg : A.grownBy A' row) (hr : ∀ r, row = some r → ∃ o : Obj, A.heap[r]? = some o ∧ o.isCells = false) : OwnR A' B E sz v rows := by
  refine o.kept hg ?_
  cases hv : v.ownBlock with
  | none => exact .inl rfl
  | some k =>
    right
    intro e
    obtain ⟨cur, hc⟩ := o.isCells hv
    obtain ⟨o', ho, hn⟩ := hr k e.symm
    rw [hc] at ho; cases ho; cases hn
theorem below_box {w : World} (o : Obj) : Below w.heap.size w (w.alloc o) := (Below.refl _ _).alloc (Nat.le_refl _) o
theorem KeepB.at_ {B : Nat} {S : List Nat} {w w' : World} (k : KeepB B S w w') {b : Nat} {o : Obj} (h : w.heap[b]? = some o) (hb : b < B) (hn : b ∉ S) : w'.heap[b]? = some o := (k.block b hb hn).trans h
theorem KeepB.onBelow {B n : Nat} {S : List Nat} {w0 w w' : World} (k : KeepB B S w w') (h : Below n w0 w) (hB : n ≤ B) (hS : ∀ b ∈ S, n ≤ b) : Below n w0 w' := h.trans (KeepB.below (k.weaken hB fun b hb hlt => by have := hS b hb; omega))
theorem KeepB.andBelow {B : Nat} {S : List Nat} {w w1 w2 : World} (k : KeepB B S w w1) (h : Below w1.heap.size w1 w2) (hB : B ≤ w1.heap.size) : KeepB B S w w2 := k.trans (KeepB.of_below h hB)
theorem set1_far {w : World} {b c i : Nat} {o : Obj} (h : w.heap[b]? = some o) (hne : b ≠ c) (v : Value) : (w.setCell ⟨c, i, none⟩ v).heap[b]? = some o := (heap_setCell_other _ _ _ _ (show _ ≠ _ by simpa using hne)).trans h
theorem OwnR.setFar {w : World} {B b j : Nat} {E : TypeId} {sz : Nat} {v : Value} {rows : List (List Value)} (o : OwnR w B E sz v rows) (h : ∀ k, v.ownBlock = some k → k ≠ b) (x : Value) : OwnR (w.setCell ⟨b, j, none⟩ x) B E sz v rows := by
  refine o.kept (row := some b) ⟨rfl, rfl, rfl, by simp, fun k _ hne => heap_setCell_other _ _ _ _ (fun e => hne (by rw [e]))⟩ ?_
  cases hv : v.ownBlock with
  | none => exact .inl rfl
  | some k => exact .inr (fun e => h k hv (by cases e; rfl))
theorem KeepB.asGrown {X Y : World} {bl : Nat} (k : KeepB X.heap.size [bl] X Y) : X.grownBy Y (some bl) := ⟨k.os, k.tape, k.output, k.size, fun i hi hne => k.block i hi (by simp; exact fun e => hne (by rw [e]))⟩
theorem KeepB.kept2 {B n0 vb bl : Nat} {W W' : World} (k : KeepB B [bl] W W') (h : n0 ≤ B) : Kept2 n0 vb bl W W' := ⟨k.size, fun i hi _ hb => k.block i (by omega) (by simp; exact hb)⟩
theorem Kept2.weak {n0 a b : Nat} {W W' : World} (k : Kept2 n0 a a W W') : Kept2 n0 a b W W' := ⟨k.size, fun i hi ha _ => k.block i hi ha ha⟩

theorem words_fn (s : ByteArray) (w : World) : Calls Tryd.prog 27 #[.string s] w fun e w' => e = .returned (.func (.func 38) #[] #[.pointer (some ⟨w.heap.size, 0, none⟩)]) ∧ w' = w.alloc (.cells #[.string s] 9) := by
  go_enter Tryd.func27, Tryd.ntmps27
  go_wp2
  go_ret
  exact ⟨rfl, rfl⟩
abbrev encS (x : Bs) : Array Value := #[.string (mkS x)]
set_option maxHeartbeats 8000000 in
set_option maxRecDepth 100000 in
theorem words1_in (n : Nat) (hn : 1 ≤ n) (lo bl n0 rb : Nat) (s : Bs) (J : List Bs → World → Prop) (W : World) (hs : s.length ≤ 200)
    (hbl : W.heap[bl]? = some (.cells #[.string (mkS s)] 9 (0, 0))) (hn0 : bl < n0 ∧ bl ≠ rb ∧ n0 ≤ W.heap.size)
    (hJ : ∀ pre X Y, J pre X → KeepB X.heap.size [bl] X Y → J pre Y)
    (hY : ∀ pre x W1, J pre W1 → x.length ≤ 200 → pre.length < 201 → YieldAt Fence.wide (n - 1) Tryd.prog lo (encS x) W1 fun e W' => e = .returned (.bool true) ∧ J (pre ++ [x]) W' ∧ Kept2 n0 rb rb W1 W') (h0 : J [] W) :
    CallsIn Fence.wide n Tryd.prog 38 (#[.func (.yield lo) #[] #[]] ++ #[.pointer (some ⟨bl, 0, none⟩)]) W fun e W' => (∃ v, e = .returned v) ∧ ∃ xs : List Bs, xs = wordsL s ∧ J xs W' := by
  have HN := Lib.hid hn0; have HJ := Lib.hid hJ; have HY := Lib.hid hY; have H0 := Lib.hid h0; have HBl := Lib.hid hbl
  clear hn0 hJ hY h0 hbl
  refine callsIn_of_wp Tryd.func38 rfl trivial ?_ rfl
  simp only [Tryd.ntmps38, List.size_toArray, List.length_cons, List.length_nil, Nat.reduceAdd, Nat.reduceSub, Array.replicate_succ, Array.replicate_zero, List.push_toArray, List.append_toArray, List.nil_append, List.cons_append]
  refine wpIn_wide.2 ?_
  go_wp2
  go_loopg [] s.length (fun g wr => ∃ (rest : Bs) (xs : List Bs), rest.length = g ∧ rest.length ≤ 200 ∧ xs.length + rest.length ≤ 200 ∧ Hid (xs ++ wordsL rest = wordsL s) ∧ wr.heap[bl]? = some (.cells #[.string (mkS rest)] 9 (0, 0)) ∧ J xs wr ∧ n0 ≤ wr.heap.size)
  case atStart => exact ⟨s, [], rfl, hs, by simp; exact hs, Lib.hid rfl, HBl.out, H0.out, HN.out.2.2⟩
  case round =>
    obtain ⟨rest, xs, hg, hrl, hxl, HX, hbx, hj, hsz⟩ := hrel
    have HJ1 := Lib.hid hj; have HBx := Lib.hid hbx; have HG := Lib.hid hg
    clear hj hbx hg
    have hc := box_cells HBx.out; have hf := box_free HBx.out
    cases rest with
    | nil =>
      have he : (mkS []).toList.isEmpty = true := by rw [mk_list]; rfl
      go_wp2
      go_end0
      refine ⟨⟨_, rfl⟩, xs, ?_, HJ1.out⟩
      have := HX.out
      rwa [words_nil, List.append_nil] at this
    | cons c r =>
      have hlen : 0 < (mkS (c :: r)).size := by rw [mkS_size]; simp
      have he : (mkS (c :: r)).toList.isEmpty = false := by rw [mk_list]; rfl
      have HI := Lib.hid (fun W => any_any (mkS (c :: r)) W (show (mkS (c :: r)).size ≤ 1000 by rw [mkS_size]; omega))
      rw [bs_mk] at HI
      rcases Int.lt_trichotomy (Lib.indexAny (c :: r) [32, 44]) 0 with hk | hk | hk
      · have HQ := Lib.hid (show wordsL (c :: r) = (c :: r).take (c :: r).length :: wordsL ((c :: r).drop (c :: r).length) by rw [words_whole (s := c :: r) (by simp) hk]; simp [words_nil])
        generalize Lib.indexAny (c :: r) [32, 44] = K at *
        go_upto_region 8 with (go_at_call 39; refine (HI.out _).mono ?_; rintro e w' ⟨rfl, hb⟩; have HBx2 := Lib.hid (blk_keep HBx.out hb); have HJ2 := Lib.hid (HJ.out _ _ _ HJ1.out (KeepB.of_below hb (Nat.le_refl _))); have hsz2 := Nat.le_trans hsz hb.size; clear hc hf hb; have hc := box_cells HBx2.out; have hf := box_free HBx2.out)
        obtain ⟨E, hEe⟩ : ∃ E, E = (c :: r).length := ⟨_, rfl⟩
        have hEl : 0 < E ∧ E ≤ (c :: r).length := ⟨by rw [hEe]; simp, Nat.le_of_eq hEe⟩
        rw [show ((mkS (c :: r)).size : Int) = (((c :: r).length : Nat) : Int) from rfl, ← hEe]
        rw [← hEe] at HQ
        clear hEe
        have hx1 : (mkS (c :: r)).extract 0 E = mkS ((c :: r).take E) := by (rw [mkS_extract]; rfl)
        have hx2 : (mkS (c :: r)).extract E (mkS (c :: r)).size = mkS ((c :: r).drop E) := by (rw [mkS_extract, mkS_size, List.take_length])
        have hz : (mkS (c :: r)).size = (c :: r).length := rfl
        obtain ⟨hE0, hE1⟩ := hEl
        have hE2 : E ≤ (mkS (c :: r)).size := hE1
        have HG2 := Lib.hid (show ((c :: r).drop E).length < gk by (rw [List.length_drop]; have := HG.out; omega))
        have HL := Lib.hid (show ((c :: r).take E).length ≤ 200 ∧ xs.length < 201 ∧ ((c :: r).drop E).length ≤ 200 ∧ xs.length + 1 + ((c :: r).drop E).length ≤ 200 by (rw [List.length_take, List.length_drop]; omega))
        clear hz
        generalize (c :: r).take E = T at *
        generalize (c :: r).drop E = D at *
        obtain ⟨fn, tmps, assign, body, hy, hRd⟩ := HY.out xs T w' HJ2.out HL.out.1 HL.out.2.1
        dsimp only [encS] at hy hRd
        refine (wpIn_wide (n := n)).1 ?_
        gi_wp2
        refine hRd.mono ?_
        rintro e W3 ⟨rfl, hJ3, hk3⟩
        have HB3 := Lib.hid ((hk3.block _ HN.out.1 HN.out.2.1 HN.out.2.1).trans HBx2.out)
        have HJ3 := Lib.hid hJ3
        have hsz3 := Nat.le_trans hsz2 hk3.size
        clear hc hf hJ3 hk3 hy hRd
        have hc := box_cells HB3.out; have hf := box_free HB3.out
        gi_wp2
        go_wp2
        have hbx4 := heap_setCell_same _ bl 0 _ _ (.string (mkS D)) HB3.out
        have hj4 := HJ.out _ _ (W3.setCell ⟨bl, 0, none⟩ (.string (mkS D))) HJ3.out ((KeepB.refl _ _ _).set (.inl (by simp)) _)
        go_roundg D.length
        case measure => exact HG2.out
        case rel => exact ⟨D, xs ++ [T], rfl, HL.out.2.2.1, by simpa using HL.out.2.2.2, Lib.hid (by rw [← HX.out, HQ.out, List.append_assoc]; rfl), hbx4, hj4, by simpa [World.setCell] using hsz3⟩
      · have HQ := Lib.hid (indexAny_split (c :: r) 0 hk)
        rw [hk] at HI
        clear hk
        by_cases hc32 : c = 32
        · subst hc32
          have h32 : ∀ h, ((mkS (32 :: r))[0]'h).toNat = 32 := fun _ => rfl
          have hext : (mkS (32 :: r)).extract 1 (mkS (32 :: r)).size = mkS r := by rw [mkS_extract, mkS_size, List.take_length]; rfl
          have HW := Lib.hid (words_blank r)
          go_wp2_with (go_at_call 39; refine (HI.out _).mono ?_; rintro e w' ⟨rfl, hb⟩; have HBx2 := Lib.hid (blk_keep HBx.out hb); have HJ2 := Lib.hid (HJ.out _ _ _ HJ1.out (KeepB.of_below hb (Nat.le_refl _))); have hsz2 := Nat.le_trans hsz hb.size; clear hc hf hb; have hc := box_cells HBx2.out; have hf := box_free HBx2.out)
          have hbx3 := heap_setCell_same _ bl 0 _ _ (.string (mkS r)) HBx2.out
          have hj3 := HJ.out _ _ (w'.setCell ⟨bl, 0, none⟩ (.string (mkS r))) HJ2.out ((KeepB.refl _ _ _).set (.inl (by simp)) _)
          go_roundg r.length
          case measure => have := HG.out; simp at this; omega
          case rel =>
            refine ⟨r, xs, rfl, by simp at hrl; omega, by simp at hxl; omega, Lib.hid (by rw [← HX.out, HW.out]), hbx3, hj3, by simpa [World.setCell] using hsz2⟩
        · have hc44 : c = 44 := by
            obtain ⟨_, _, c', r', e, h4⟩ := HQ.out
            simp only [List.drop_zero, List.cons.injEq] at e
            rw [← e.1] at h4
            simp only [sepB, Bool.or_eq_true, beq_iff_eq] at h4
            rcases h4 with h4 | h4
            · exact absurd h4 hc32
            · exact h4
          clear hc32
          subst hc44
          clear HQ
          have h44 : ∀ h, ((mkS (44 :: r))[0]'h).toNat = 44 := fun _ => rfl
          have HQ := Lib.hid (show wordsL (44 :: r) = (44 :: r).take 1 :: wordsL ((44 :: r).drop 1) from words_comma r)
          go_upto_region 8 with (go_at_call 39; refine (HI.out _).mono ?_; rintro e w' ⟨rfl, hb⟩; have HBx2 := Lib.hid (blk_keep HBx.out hb); have HJ2 := Lib.hid (HJ.out _ _ _ HJ1.out (KeepB.of_below hb (Nat.le_refl _))); have hsz2 := Nat.le_trans hsz hb.size; clear hc hf hb; have hc := box_cells HBx2.out; have hf := box_free HBx2.out)
          have hEl : 0 < 1 ∧ 1 ≤ (44 :: r).length := ⟨by decide, by simp⟩
          have hx1 : (mkS (44 :: r)).extract 0 1 = mkS ((44 :: r).take 1) := by (rw [mkS_extract]; rfl)
          have hx2 : (mkS (44 :: r)).extract 1 (mkS (44 :: r)).size = mkS ((44 :: r).drop 1) := by (rw [mkS_extract, mkS_size, List.take_length])
          have hz : (mkS (44 :: r)).size = (44 :: r).length := rfl
          obtain ⟨hE0, hE1⟩ := hEl
          have hE2 : 1 ≤ (mkS (44 :: r)).size := hE1
          have HG2 := Lib.hid (show ((44 :: r).drop 1).length < gk by (rw [List.length_drop]; have := HG.out; omega))
          have HL := Lib.hid (show ((44 :: r).take 1).length ≤ 200 ∧ xs.length < 201 ∧ ((44 :: r).drop 1).length ≤ 200 ∧ xs.length + 1 + ((44 :: r).drop 1).length ≤ 200 by (rw [List.length_take, List.length_drop]; omega))
          clear hz
          generalize (44 :: r).take 1 = T at *
          generalize (44 :: r).drop 1 = D at *
          obtain ⟨fn, tmps, assign, body, hy, hRd⟩ := HY.out xs T w' HJ2.out HL.out.1 HL.out.2.1
          dsimp only [encS] at hy hRd
          refine (wpIn_wide (n := n)).1 ?_
          gi_wp2
          refine hRd.mono ?_
          rintro e W3 ⟨rfl, hJ3, hk3⟩
          have HB3 := Lib.hid ((hk3.block _ HN.out.1 HN.out.2.1 HN.out.2.1).trans HBx2.out)
          have HJ3 := Lib.hid hJ3
          have hsz3 := Nat.le_trans hsz2 hk3.size
          clear hc hf hJ3 hk3 hy hRd
          have hc := box_cells HB3.out; have hf := box_free HB3.out
          gi_wp2
          go_wp2
          have hbx4 := heap_setCell_same _ bl 0 _ _ (.string (mkS D)) HB3.out
          have hj4 := HJ.out _ _ (W3.setCell ⟨bl, 0, none⟩ (.string (mkS D))) HJ3.out ((KeepB.refl _ _ _).set (.inl (by simp)) _)
          go_roundg D.length
          case measure => exact HG2.out
          case rel => exact ⟨D, xs ++ [T], rfl, HL.out.2.2.1, by simpa using HL.out.2.2.2, Lib.hid (by rw [← HX.out, HQ.out, List.append_assoc]; rfl), hbx4, hj4, by simpa [World.setCell] using hsz3⟩
      · obtain ⟨E, hK⟩ := Int.eq_ofNat_of_zero_le (Int.le_of_lt hk)
        have HQ := Lib.hid (words_cut (s := c :: r) (k := E) (by omega) hK)
        have hEl : 0 < E ∧ E ≤ (c :: r).length := ⟨by omega, Nat.le_of_lt (indexAny_split _ _ hK).1⟩
        rw [hK] at HI hk
        clear hK
        go_upto_region 8 with (go_at_call 39; refine (HI.out _).mono ?_; rintro e w' ⟨rfl, hb⟩; have HBx2 := Lib.hid (blk_keep HBx.out hb); have HJ2 := Lib.hid (HJ.out _ _ _ HJ1.out (KeepB.of_below hb (Nat.le_refl _))); have hsz2 := Nat.le_trans hsz hb.size; clear hc hf hb; have hc := box_cells HBx2.out; have hf := box_free HBx2.out)
        have hx1 : (mkS (c :: r)).extract 0 E = mkS ((c :: r).take E) := by (rw [mkS_extract]; rfl)
        have hx2 : (mkS (c :: r)).extract E (mkS (c :: r)).size = mkS ((c :: r).drop E) := by (rw [mkS_extract, mkS_size, List.take_length])
        have hz : (mkS (c :: r)).size = (c :: r).length := rfl
        obtain ⟨hE0, hE1⟩ := hEl
        have hE2 : E ≤ (mkS (c :: r)).size := hE1
        have HG2 := Lib.hid (show ((c :: r).drop E).length < gk by (rw [List.length_drop]; have := HG.out; omega))
        have HL := Lib.hid (show ((c :: r).take E).length ≤ 200 ∧ xs.length < 201 ∧ ((c :: r).drop E).length ≤ 200 ∧ xs.length + 1 + ((c :: r).drop E).length ≤ 200 by (rw [List.length_take, List.length_drop]; omega))
        clear hz
        generalize (c :: r).take E = T at *
        generalize (c :: r).drop E = D at *
        obtain ⟨fn, tmps, assign, body, hy, hRd⟩ := HY.out xs T w' HJ2.out HL.out.1 HL.out.2.1
        dsimp only [encS] at hy hRd
        refine (wpIn_wide (n := n)).1 ?_
        gi_wp2
        refine hRd.mono ?_
        rintro e W3 ⟨rfl, hJ3, hk3⟩
        have HB3 := Lib.hid ((hk3.block _ HN.out.1 HN.out.2.1 HN.out.2.1).trans HBx2.out)
        have HJ3 := Lib.hid hJ3
        have hsz3 := Nat.le_trans hsz2 hk3.size
        clear hc hf hJ3 hk3 hy hRd
        have hc := box_cells HB3.out; have hf := box_free HB3.out
        gi_wp2
        go_wp2
        have hbx4 := heap_setCell_same _ bl 0 _ _ (.string (mkS D)) HB3.out
        have hj4 := HJ.out _ _ (W3.setCell ⟨bl, 0, none⟩ (.string (mkS D))) HJ3.out ((KeepB.refl _ _ _).set (.inl (by simp)) _)
        go_roundg D.length
        case measure => exact HG2.out
        case rel => exact ⟨D, xs ++ [T], rfl, HL.out.2.2.1, by simpa using HL.out.2.2.2, Lib.hid (by rw [← HX.out, HQ.out, List.append_assoc]; rfl), hbx4, hj4, by simpa [World.setCell] using hsz3⟩
end Go.Proofs.YtfppijjjaleiaaaDoor
