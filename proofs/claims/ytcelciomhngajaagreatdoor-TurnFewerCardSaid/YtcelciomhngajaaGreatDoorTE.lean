/- Texts of this seat, laid together: TurnMtm, TurnMtb, TurnMtv, TurnSec3. -/
import Derived.Test.YtcelciomhngajaaGreatDoorTD
import Derived.Test.YtcelciomhngajaaGreatDoorSC
import Derived.Test.YtcelciomhngajaaGreatDoorTC
/- When bars begin: the program's iterator, beginning, isPosition, Time; a position, as tempo says it. -/
namespace Go.Proofs.YtcelciomhngajaaGreatDoor
set_option linter.unusedSimpArgs false
set_option linter.unusedVariables false
open Go.RowKit Go.Sort Go.Shelf
attribute [local go_sem] Oper.semAt_some

theorem mnone_any (w : World) : Calls Tryz.prog 167 #[] w fun e w' => e = .returned (.agg #[.int .i64 0, .int .i64 1]) ∧ Below w.heap.size w w' := by
  have HX := Lib.hid (heap_alloc_new w (.cells #[.int .i64 0, .int .i64 0] 32 (0, 0)))
  have HB := Lib.hid ((Below.refl w.heap.size w).alloc (Nat.le_refl _) (.cells #[.int .i64 0, .int .i64 0] 32 (0, 0)))
  go_enter Tryz.func167, Tryz.ntmps167
  go_upto_region 1 with (fail)
  generalize w.alloc (.cells #[.int .i64 0, .int .i64 0] 32 (0, 0)) = W at *
  have hf := box_free HX.out; have hc := box_cells HX.out
  go_wp2
  exact bodyPost_ret (v := .agg #[.int .i64 0, .int .i64 1]) (by simp [results, Tryz.results167, go_sem, hc, hf]) rfl ⟨rfl, (HB.out.setCell (Nat.le_refl _) _).setCell (Nat.le_refl _) _⟩
theorem mbegins_any (a : Option Addr) (n c : Nat) (w : World) :
    Calls Tryz.prog 168 #[.slice a n c] w fun e w' => e = .returned (.func (.func 185) #[] #[.pointer (some ⟨w.heap.size, 0, none⟩)]) ∧ w' = w.alloc (.cells #[.slice a n c] 22 (0, 0)) := by
  go_enter Tryz.func168, Tryz.ntmps168
  go_wp2
  go_ret
  exact ⟨rfl, rfl⟩
/-- How many parts of quarters there are before a bar. -/
def befT (bars : List Ba) : Nat → Int
  | 0 => 0
  | k + 1 => befT bars k + ticksI (bars.getD k default).len
theorem befT_bd {bars : List Ba} (h : barsB bars = true) : ∀ k, k ≤ bars.length → 0 ≤ befT bars k ∧ befT bars k ≤ 40320 * k
  | 0, _ => by simp [befT]
  | k + 1, hk => by
    have := befT_bd h k (by omega)
    have := bar_ticks h (i := k) (by omega)
    rw [befT]; omega
theorem bar_dur {bars : List Ba} (h : barsB bars = true) {k : Nat} (hk : k < bars.length) : durB bars[k].len = true := by
  have := bar_ticks h hk
  rw [show bars.getD k default = bars[k] by simp [List.getD_eq_getElem?_getD, hk]] at this
  cases e : durB bars[k].len
  · have := ticks_neg.2 e; omega
  · rfl
theorem bars_few {bars : List Ba} (h : barsB bars = true) : 1 ≤ bars.length ∧ bars.length ≤ 4000 := by
  simp only [barsB, Bool.and_eq_true, decide_eq_true_eq] at h
  omega
theorem beg_add {bars : List Ba} (h : barsB bars = true) {k : Nat} (hk : k < bars.length) : addR2 (ofT (befT bars k)) bars[k].len = (ofT (befT bars (k + 1)), 0) := by
  have hb := befT_bd h k (by omega); have hb2 := befT_bd h (k + 1) (by omega)
  have hf := bars_few h
  have hd := ofT_dur (n := befT bars k) (by omega) (by omega)
  have hgd : bars.getD k default = bars[k] := by simp [List.getD_eq_getElem?_getD, hk]
  rw [befT, hgd] at hb2
  rw [befT, hgd, add_dur hd.1 (bar_dur h hk) (by rw [hd.2]; omega), hd.2]
abbrev BegR (bars : List Ba) := { k : Nat // k ≤ bars.length }
abbrev encBeg {bars : List Ba} (x : BegR bars) : Array Value := #[.int .i64 ((x.1 : Nat) : Int), .agg #[.int .i64 (ofT (befT bars x.1)).n, .int .i64 (ofT (befT bars x.1)).d]]
set_option maxHeartbeats 4000000 in
set_option maxRecDepth 100000 in
theorem begins1_in (n : Nat) (hn : 1 ≤ n) (S : List Nat) (a : Option Addr) (cap : Nat) (bars : List Ba) (bs : Nat) (w : World) (hbb : barsB bars = true) (hbs : w.heap[bs]? = some (.cells #[.slice a bars.length cap] 22 (0, 0))) (hS : bs ∉ S) (hSl : ∀ k ∈ S, k < w.heap.size) (hr : BaAt w a bars) (hra : ∀ ad, a = some ad → bars.map Ba.cells ≠ [] → ad.block ∉ S) :
    SeqLow Fence.wide n Tryz.prog 185 #[.pointer (some ⟨bs, 0, none⟩)] (encBeg (bars := bars)) (KeptC S) (fun xs => xs.map Subtype.val = List.range (bars.length + 1)) (bars.length + 1) w := by
  intro lo J Jx W hW hJ hJx hY h0
  have hbl := lt_blk hbs
  have HBs := Lib.hid (show ∀ V, KeptC S W V → V.heap[bs]? = some (.cells #[.slice a bars.length cap] 22 (0, 0)) from fun V hV => hV.cells _ _ _ _ hS (blk_keep hbs hW))
  have HR := Lib.hid (show ∀ V, KeptC S W V → BaAt V a bars from fun V hV => SlAt.keptC (hr.below hW) hV hra)
  have HSl := Lib.hid (show ∀ k ∈ S, k < W.heap.size from fun k hk => Nat.lt_of_lt_of_le (hSl k hk) hW.size)
  have HJ := Lib.hid hJ; have HJx := Lib.hid hJx; have HY := Lib.hid hY; have H0 := Lib.hid h0
  have hf := bars_few hbb
  have HAdd := Lib.hid (fun (k : Nat) (hk : k < bars.length) V => show Calls Tryz.prog 44 #[.agg #[.int .i64 (ofT (befT bars k)).n, .int .i64 (ofT (befT bars k)).d], .agg #[.int .i64 bars[k].len.n, .int .i64 bars[k].len.d]] V fun e w' => e = .returned (.tuple #[.agg #[.int .i64 (ofT (befT bars (k + 1))).n, .int .i64 (ofT (befT bars (k + 1))).d], .int .i64 0]) ∧ Below V.heap.size V w' by
    have h := RatAdd_any (ofT (befT bars k)) bars[k].len V
    rw [beg_add hbb hk] at h
    exact h)
  clear hJ hJx hY h0 hbs hr hra hSl hW
  refine callsIn_of_wp Tryz.func185 rfl trivial ?_ rfl
  simp only [Tryz.ntmps185, List.size_toArray, List.length_cons, List.length_nil, Nat.reduceAdd, Nat.reduceSub, Array.replicate_succ, Array.replicate_zero, List.push_toArray, List.append_toArray, List.nil_append, List.cons_append]
  have hfN : Fence.wide.fn 167 := trivial
  have hfA : Fence.wide.fn 44 := trivial
  gi_wp2_with (gi_at_call 167; refine (callsIn_wide.2 (mnone_any _)).mono ?_; rintro e w1 ⟨rfl, hb1⟩; have HB1 := Lib.hid hb1; clear hb1; have hx1 := HBs.out w1 (KeptC.below HB1.out); have hlt1 := lt_blk hx1; have hbc := box_cells hx1; clear hx1)
  have HT := Lib.hid (heap_alloc_new w1 (.cells #[.int .i64 0, .int .i64 1] 32))
  have hge := HB1.out.size
  replace HB1 := Lib.hid (HB1.out.alloc HB1.out.size (.cells #[.int .i64 0, .int .i64 1] 32))
  have e0 : ofT (befT bars 0) = ⟨0, 1⟩ := by rw [befT]; decide
  generalize w1.alloc (.cells #[.int .i64 0, .int .i64 1] 32) = W2 at *
  generalize w1.heap.size = tb at *
  gi_loopw [9] (fun s9 wr => ∃ (k : Nat) (xs : List (BegR bars)), k ≤ bars.length ∧ s9 = .int .i64 k ∧ Hid (xs.map Subtype.val = List.range k) ∧ wr.heap[tb]? = some (.cells #[.int .i64 (ofT (befT bars k)).n, .int .i64 (ofT (befT bars k)).d] 32 (0, 0)) ∧ J xs wr ∧ KeptC S W wr) (fun s9 _ => bars.length - (intOf s9).toNat)
  case atStart => exact ⟨0, [], Nat.zero_le _, rfl, Lib.hid rfl, (by rw [e0]; exact HT.out), HJ.out _ _ _ H0.out HB1.out, KeptC.below HB1.out⟩
  case round =>
    obtain ⟨k, xs, hk, rfl, hxs, htb, hj, hkc⟩ := hrel
    clear hbc hlt1 HT HB1 H0
    have HKc := Lib.hid hkc; have HTb := Lib.hid htb; have HJ1 := Lib.hid hj
    have hWw := hkc.size
    have hxl : xs.length = k := by have := congrArg List.length hxs.out; simpa using this
    have hnS : ∀ m, W.heap.size ≤ m → m ∉ S := fun m hm hs => by have := HSl.out m hs; omega
    have HNs := Lib.hid hnS
    have hct := box_cells htb; have hltt := lt_blk htb
    clear hj hkc htb hnS
    by_cases hlt : k < bars.length
    · obtain ⟨b, off, hqa, hblt, c0, c1, c2, c3⟩ := (HR.out wr HKc.out).get k hlt
      have HJ2 := Lib.hid (HJ.out _ _ _ HJ1.out ((RowKit.Below.refl W.heap.size wr).alloc hWw (.cells #[.int .i64 bars[k].id, .int .i64 bars[k].len.n, .int .i64 bars[k].len.d, .int .i64 bars[k].key] 105)))
      have HX5 := Lib.hid (heap_alloc_new wr (.cells #[.int .i64 bars[k].id, .int .i64 bars[k].len.n, .int .i64 bars[k].len.d, .int .i64 bars[k].key] 105))
      have HT5 := Lib.hid (up_alloc HTb.out (.cells #[.int .i64 bars[k].id, .int .i64 bars[k].len.n, .int .i64 bars[k].len.d, .int .i64 bars[k].key] 105))
      have HK5 := Lib.hid (HKc.out.own ((RowKit.Below.refl W.heap.size wr).alloc hWw (.cells #[.int .i64 bars[k].id, .int .i64 bars[k].len.n, .int .i64 bars[k].len.d, .int .i64 bars[k].key] 105)))
      have HAk := Lib.hid (HAdd.out k hlt)
      obtain ⟨fn, tmps, assign, body, hy, hRd⟩ := HY.out xs ⟨k, hk⟩ (wr.alloc (.cells #[.int .i64 bars[k].id, .int .i64 bars[k].len.n, .int .i64 bars[k].len.d, .int .i64 bars[k].key] 105)) HJ2.out (by omega)
      dsimp only [encBeg] at hy hRd
      rw [hqa]
      generalize bars[k] = bk at *
      gi_wp2
      refine hRd.mono ?_
      rintro e W3 (⟨rfl, hJ3, hk3⟩ | ⟨rfl, hJx3⟩)
      · have hx3 := hk3.cells _ _ _ _ (HNs.out _ hWw) HX5.out
        have ht3 := hk3.cells _ _ _ _ (HNs.out _ hge) HT5.out
        have HJ3 := Lib.hid hJ3; have HK3 := Lib.hid (HK5.out.trans hk3); have HT3 := Lib.hid ht3
        have hc5 := box_cells hx3; have hc6 := box_cells ht3; have hf6 := box_free ht3; have hl6 := lt_blk ht3; have hs3 := HK3.out.size
        clear hJ3 hk3 hx3 ht3 hct hltt c0 c1 c2 c3
        gi_wp2_with (gi_at_call 44; refine (callsIn_wide.2 (HAk.out _)).mono ?_; rintro e W4 ⟨rfl, hb4⟩; have ht4 := blk_keep HT3.out hb4; have HT4 := Lib.hid ht4; have HB4 := Lib.hid (hb4.mono hs3); clear hc6 hf6 hl6; have hc6 := box_cells ht4; have hf6 := box_free ht4; have hl6 := lt_blk ht4; clear ht4 hb4)
        have HB5 := Lib.hid ((HB4.out.setCell (p := ⟨tb, 0, none⟩) hge (.int .i64 (ofT (befT bars (k + 1))).n)).setCell (p := ⟨tb, 1, none⟩) hge (.int .i64 (ofT (befT bars (k + 1))).d))
        go_roundw
        case rel => exact ⟨k + 1, xs ++ [⟨k, hk⟩], by omega, by go_num, Lib.hid (by rw [List.map_append, hxs.out, List.range_succ]; rfl), heap_setCell_same _ _ _ _ _ _ (heap_setCell_same _ _ _ _ _ _ HT4.out), HJ.out _ _ _ HJ3.out HB5.out, HK3.out.own HB5.out⟩
        case measure => simp [intOf]; omega
      · gi_wp2
        refine bodyPost_ret (results_none rfl _ _ _) rfl ?_
        exact ⟨⟨_, rfl⟩, .inr ⟨_, hJx3⟩⟩
    · obtain rfl : k = bars.length := by omega
      have hxb := HBs.out wr HKc.out
      have hcb := box_cells hxb; have hlb := lt_blk hxb
      obtain ⟨fn, tmps, assign, body, hy, hRd⟩ := HY.out xs ⟨bars.length, Nat.le_refl _⟩ wr HJ1.out (by omega)
      dsimp only [encBeg] at hy hRd
      gi_wp2
      refine hRd.mono ?_
      rintro e W3 (⟨rfl, hJ3, hk3⟩ | ⟨rfl, hJx3⟩)
      · gi_wp2
        go_end0
        exact ⟨⟨_, rfl⟩, .inl ⟨_, by rw [List.map_append, hxs.out, List.range_succ]; rfl, hJ3⟩⟩
      · gi_wp2
        go_end0
        exact ⟨⟨_, rfl⟩, .inr ⟨_, hJx3⟩⟩
open Go.RowKit Go.Sort Go.Shelf
attribute [local go_sem] Oper.semAt_some

theorem beg_bef {bars : List Ba} (h : barsB bars = true) {k : Nat} (hk : k ≤ bars.length) : durB (ofT (befT bars k)) = true ∧ ticksI (ofT (befT bars k)) = befT bars k := by
  have := befT_bd h k hk; have := bars_few h
  exact ofT_dur (by omega) (by omega)
set_option maxHeartbeats 4000000 in
set_option maxRecDepth 100000 in
theorem mBeg_any (a : Option Addr) (cap : Nat) (bars : List Ba) (at_ : Nat) (w : World) (hbb : barsB bars = true) (hm : BaAt w a bars) (hat : at_ ≤ bars.length) :
    Calls Tryz.prog 133 #[.slice a bars.length cap, .int .i64 at_] w fun e w' => e = .returned (.agg #[.int .i64 (ofT (befT bars at_)).n, .int .i64 (ofT (befT bars at_)).d]) ∧ Below w.heap.size w w' := by
  have hf := bars_few hbb
  obtain ⟨x1, x2, hb⟩ := box2 (w := w) (A := .cells #[.int .i64 at_] 3 (0, 0)) (B := .cells #[.int .i64 0, .int .i64 0] 32 (0, 0)) (Below.refl _ _)
  have HX1 := Lib.hid x1; have HX2 := Lib.hid x2; have HB := Lib.hid hb
  clear x1 x2 hb
  refine (callsIn_wide (n := 6)).1 ?_
  refine callsIn_of_wp_marks Tryz.func133 rfl trivial ?_ rfl
  simp only [Tryz.ntmps133, List.size_toArray, List.length_cons, List.length_nil, Nat.reduceAdd, Nat.reduceSub, Array.replicate_succ, Array.replicate_zero, List.push_toArray, List.append_toArray, List.nil_append, List.cons_append]
  refine wpIn_wide.2 ?_
  go_upto_region 1 with (fail)
  have hzW : ((w.alloc (.cells #[.int .i64 at_] 3 (0, 0))).alloc (.cells #[.int .i64 0, .int .i64 0] 32 (0, 0))).heap.size = w.heap.size + 2 := by simp
  generalize (w.alloc (.cells #[.int .i64 at_] 3 (0, 0))).alloc (.cells #[.int .i64 0, .int .i64 0] 32 (0, 0)) = W at *
  go_wp2_with (go_at_call 168; refine (mbegins_any a bars.length cap W).mono ?_; rintro e w5 ⟨rfl, hw5⟩; have HW5 := Lib.hid hw5; clear hw5)
  have hz5 : w5.heap.size = w.heap.size + 3 := by rw [HW5.out]; simp; omega
  have k1 : w5.heap[w.heap.size]? = some (.cells #[.int .i64 at_] 3 (0, 0)) := by rw [HW5.out]; exact up_alloc HX1.out _
  have k2 : w5.heap[w.heap.size + 1]? = some (.cells #[.int .i64 0, .int .i64 0] 32 (0, 0)) := by rw [HW5.out]; exact up_alloc HX2.out _
  have k3 : w5.heap[w.heap.size + 2]? = some (.cells #[.slice a bars.length cap] 22 (0, 0)) := by rw [HW5.out]; exact at_alloc _ _ hzW.symm
  have hb5 : Below w.heap.size w w5 := by rw [HW5.out]; exact HB.out.alloc HB.out.size _
  clear HX1 HX2 HB HW5 hzW
  refine (wpIn_wide (n := 6)).1 ?_
  refine rangeFunc_low (α := BegR bars) rfl (by omega) (gf := 185) (lb := #[.pointer (some ⟨w.heap.size + 2, 0, none⟩)]) rfl trivial (enters_of Tryz.func185 (by kernel_rfl) rfl) (encs := encBeg) (fun _ => rfl)
    (Kp := KeptC [w.heap.size + 1]) (S := fun xs => xs.map Subtype.val = List.range (bars.length + 1)) (N := bars.length + 1) ?hseq KeptC.trans ?hKb
    (fun pre V => V.heap[w.heap.size]? = some (.cells #[.int .i64 at_] 3 (0, 0)) ∧ V.heap[w.heap.size + 1]? = some (.cells #[.int .i64 0, .int .i64 0] 32 (0, 0)) ∧ Below w.heap.size w V ∧ w5.heap.size ≤ V.heap.size ∧ ∀ y ∈ pre, y.1 ≠ at_) ?hI
    (fun pre V => V.heap[w.heap.size + 1]? = some (.cells #[.int .i64 (ofT (befT bars at_)).n, .int .i64 (ofT (befT bars at_)).d] 32 (0, 0)) ∧ Below w.heap.size w V ∧ w5.heap.size ≤ V.heap.size) ?hIx ⟨k1, k2, hb5, Nat.le_refl _, by simp⟩
    (fun x a' V => ∃ Bx, w5.heap.size ≤ Bx ∧ V.heap[Bx]? = some (.cells #[.int .i64 (ofT (befT bars x.1)).n, .int .i64 (ofT (befT bars x.1)).d] 32 (0, 0)) ∧ a' = { tmps := #[.slice a bars.length cap, .int .i64 at_, undef, .pointer (some ⟨w.heap.size, 0, none⟩), .pointer (some ⟨w.heap.size + 1, 0, none⟩), .int .i64 ((x.1 : Nat) : Int), .pointer (some ⟨Bx, 0, none⟩), .slice a bars.length cap, .func (.func 185) #[] #[.pointer (some ⟨w.heap.size + 2, 0, none⟩)], .int .i64 ((x.1 : Nat) : Int), .agg #[.int .i64 (ofT (befT bars x.1)).n, .int .i64 (ofT (befT bars x.1)).d], undef, undef, undef, undef, undef], defers := [] }) ?hAx ?hassign ?hbody ?hdone ?hstop
  case hseq =>
    refine begins1_in 5 (by omega) _ a cap bars (w.heap.size + 2) w5 hbb k3 (by simp) (by simp; omega) (hm.below hb5) (fun ad e hne => ?_)
    obtain ⟨r0, rs, er⟩ := List.exists_cons_of_ne_nil hne
    obtain ⟨b0, o0, e0, h0, _⟩ := hm 0 r0 (by rw [er]; rfl)
    rw [e] at e0; cases e0
    simp; omega
  case hKb =>
    intro V l0 o o' _ hV hc
    exact KeptC.put hV hc
  case hI =>
    rintro pre X Y ⟨i1, i2, i3, i4, i5⟩ hb
    exact ⟨(hb.block _ (by omega)).trans i1, (hb.block _ (by omega)).trans i2, i3.trans (hb.mono (by omega)), Nat.le_trans i4 hb.size, i5⟩
  case hIx =>
    rintro pre X Y ⟨i1, i2, i3⟩ hb
    exact ⟨(hb.block _ (by omega)).trans i1, i2.trans (hb.mono (by omega)), Nat.le_trans i3 hb.size⟩
  case hAx =>
    rintro x a' u V V' row ⟨Bx, h1, h2, h3⟩ hg hrow
    refine ⟨Bx, h1, (hg.block _ (lt_of_block h2) (fun e => ?_)).trans h2, h3⟩
    obtain ⟨_, o, ho, hc⟩ := hrow Bx e.symm
    rw [h2] at ho; cases ho; cases hc
  case hassign =>
    rintro l0 pre x V K ⟨i1, i2, i3, i4, i5⟩ hK
    gi_wp2
    exact hK _ _ ((KeepsOthers.alloc _ _).from _) (KeptC.below ((RowKit.Below.refl _ _).alloc (Nat.le_refl _) _)) ⟨up_alloc i1 _, up_alloc i2 _, i3.alloc i3.size _, by simp; omega, i5⟩ ⟨V.heap.size, i4, heap_alloc_new _ _, rfl⟩
  case hbody =>
    rintro l0 pre x a' V hl0 ⟨i1, i2, i3, i4, i5⟩ ⟨Bx, hBx, hbx, rfl⟩ hlt
    have c1 := box_cells i1; have c2 := box_cells i2; have cx := box_cells hbx; have f2 := box_free i2
    by_cases he : x.1 = at_
    · have hd : (((x.1 : Nat) : Int) == (at_ : Int)) = true := by rw [he]; simp
      have HE := Lib.hid he
      clear he
      gi_wp2
      refine ⟨((KeepsOthers.setCell _ _ _).trans (KeepsOthers.setCell _ _ _)).from _, ?_, (i3.setCell (p := ⟨w.heap.size + 1, 0, none⟩) (by simp) _).setCell (p := ⟨w.heap.size + 1, 1, none⟩) (by simp) _, by simp; omega⟩
      rw [← HE.out]
      exact heap_setCell_same _ _ _ _ _ _ (heap_setCell_same _ _ _ _ _ _ i2)
    · have hd : (((x.1 : Nat) : Int) == (at_ : Int)) = false := by rw [← Bool.not_eq_true, beq_iff_eq]; omega
      have HE := Lib.hid he
      clear he
      gi_wp2
      refine ⟨(KeepsOthers.refl _).from _, KeptC.refl _ _, i1, i2, i3, i4, fun y hy => ?_⟩
      rcases List.mem_append.1 hy with h | h
      · exact i5 y h
      · simp at h; subst h; exact HE.out
  case hdone =>
    rintro D xs V hD hS ⟨i1, i2, i3, i4, i5⟩ hK
    have : at_ ∈ xs.map Subtype.val := by rw [hS, List.mem_range]; omega
    obtain ⟨y, hy, e⟩ := List.mem_map.1 this
    exact absurd e (i5 y hy)
  case hstop =>
    rintro D pre V hD ⟨j1, j2, j3⟩ hK
    gi_wp2
    refine ⟨by simp, .inl ⟨_, _, rfl, run_takeDeferred hK, ?_⟩⟩
    have q := (World.putObj_heap_other (w := V) (r := D) (o := .deferred none) (k := w.heap.size + 1) (by omega)).trans j1
    exact ⟨_, results_cell_row rfl _ _ (w.heap.size + 1) _ #[.int .i64 (ofT (befT bars at_)).n, .int .i64 (ofT (befT bars at_)).d] (0, 0) _ rfl q Tryz.underlying32 rfl (by kernel_rfl), rfl, j2.trans (below_put (by omega))⟩
open Go.RowKit Go.Sort

theorem eql_po (x y z x' y' z' : Int) (w : World) : (binOp .eql 54 (.agg #[.int .i64 x, .int .i64 y, .int .i64 z]) (.agg #[.int .i64 x', .int .i64 y', .int .i64 z'])).run Tryz.prog w = .ok (.bool (x == x' && (y == y' && z == z'))) w := by
  rw [run_eql_struct]
  simp [go_sem]
  by_cases h0 : x = x'
  · simp [h0]
    by_cases h1 : y = y'
    · simp [h1]
      by_cases h2 : z = z' <;> simp [h2]
    · simp [h1]
  · simp [h0]
theorem pos_end {bars : List Ba} {p : Po} (h : (p.bar == (bars.length : Int) && (p.at_.n == 0 && p.at_.d == 1)) = true) : posB bars p = true := by
  obtain ⟨b, n, d⟩ := p
  simp only [Bool.and_eq_true, beq_iff_eq] at h
  obtain ⟨rfl, rfl, rfl⟩ := h
  refine (posB_iff _ _).2 ⟨by simp only; omega, Int.le_refl _, by simp only [zero_ticks]; omega, fun _ => zero_ticks, fun e => absurd rfl e⟩
theorem pos_out {bars : List Ba} {p : Po} (h : (p.bar == (bars.length : Int) && (p.at_.n == 0 && p.at_.d == 1)) = false) (h2 : p.bar < 0 ∨ (bars.length : Int) ≤ p.bar ∨ durB p.at_ = false) : posB bars p = false := by
  rw [Bool.eq_false_iff]
  intro hp
  have v := (posB_iff _ _).1 hp
  have v0 := v.b0; have v1 := v.b1; have v2 := v.t0
  have hd : durB p.at_ = true := by
    cases e : durB p.at_
    · have := ticks_neg.2 e; omega
    · rfl
  rcases h2 with h2 | h2 | h2
  · omega
  · have he : p.bar = bars.length := by omega
    have hz := v.end_ he
    have hn := (ticks_zero hd).1 hz
    obtain ⟨⟨d1, _⟩, _, hg⟩ := (rtOk_iff _).1 (dur_rt hd)
    rw [hn] at hg
    have hd1 : p.at_.d = 1 := by simp at hg; omega
    rw [he, hn, hd1] at h
    simp at h
  · rw [hd] at h2; cases h2
theorem pos_in {bars : List Ba} {p : Po} {k : Nat} (hb : barsB bars = true) (hk : p.bar = (k : Int)) (hkl : k < bars.length) (hd : durB p.at_ = true) : posB bars p = decide (p.at_.n * bars[k].len.d < bars[k].len.n * p.at_.d) := by
  have hl := bar_dur hb hkl
  have t0 := (ticks_nonneg hd).1
  rw [Bool.eq_iff_iff, posB_iff, decide_eq_true_eq, cmp_ticks hl hd]
  have hgd : bars.getD p.bar.toNat default = bars[k] := by rw [hk, Int.toNat_natCast]; simp [List.getD_eq_getElem?_getD, hkl]
  constructor
  · intro v
    have := v.mid (by omega)
    rw [hgd] at this
    exact this
  · intro h
    exact ⟨by omega, by omega, t0, fun e => by omega, fun _ => by rw [hgd]; exact h⟩
set_option maxHeartbeats 2000000 in
theorem mIsPos_any (a : Option Addr) (cap : Nat) (bars : List Ba) (p : Po) (w : World) (hm : BaAt w a bars) (hbb : barsB bars = true) :
    Calls Tryz.prog 132 #[.slice a bars.length cap, .agg #[.int .i64 p.bar, .int .i64 p.at_.n, .int .i64 p.at_.d]] w fun e w' => e = .returned (.bool (posB bars p)) ∧ Below w.heap.size w w' := by
  have HM := Lib.hid hm; have HBb := Lib.hid hbb
  have hf := bars_few hbb
  have HX := Lib.hid (heap_alloc_new w (.cells #[.int .i64 p.bar, .int .i64 p.at_.n, .int .i64 p.at_.d] 54 (0, 0)))
  have HB := Lib.hid ((Below.refl w.heap.size w).alloc (Nat.le_refl _) (.cells #[.int .i64 p.bar, .int .i64 p.at_.n, .int .i64 p.at_.d] 54 (0, 0)))
  have heq := fun W => eql_po p.bar p.at_.n p.at_.d (bars.length : Int) 0 1 W
  have HE := Lib.hid (@pos_end bars p); have HO := Lib.hid (@pos_out bars p); have HI := Lib.hid (fun k => @pos_in bars p k hbb)
  generalize hpe : (p.bar == (bars.length : Int) && (p.at_.n == 0 && p.at_.d == 1)) = pe at *
  generalize posB bars p = PB at *
  have HDu := Lib.hid (fun V => isDur_any p.at_.n p.at_.d V)
  clear hm hbb hpe
  go_enter Tryz.func132, Tryz.ntmps132
  go_upto_region 1 with (fail)
  generalize w.alloc (.cells #[.int .i64 p.bar, .int .i64 p.at_.n, .int .i64 p.at_.d] 54 (0, 0)) = W at *
  have g0 := cell_regrown (box_cells HX.out 0); have g1 := cell_regrown (box_cells HX.out 1); have g2 := cell_regrown (box_cells HX.out 2)
  refine wp_quietB (by kernel_rfl) (by kernel_rfl) ?_
  (repeat (go_big_quiet_step (first | (go_at_call 167; refine Calls.regrown_of (mnone_any _)))))
  refine wpQuiet_nil ?_
  intro w2 hb2
  replace HX := Lib.hid (blk_keep HX.out hb2); replace HB := Lib.hid (HB.out.trans (hb2.mono HB.out.size))
  clear g0 g1 g2 hb2
  have hc := box_cells HX.out
  cases pe
  case true =>
    have HF := Lib.hid (HE.out rfl)
    go_wp2
    go_ret
    exact ⟨ret_bool HF.out.symm, HB.out⟩
  case false =>
    replace HO := Lib.hid (HO.out rfl)
    clear HE heq
    by_cases h1 : p.bar < 0
    · have HF := Lib.hid (HO.out (.inl h1))
      go_wp2
      go_ret
      exact ⟨ret_bool HF.out.symm, HB.out⟩
    by_cases h2 : (bars.length : Int) ≤ p.bar
    · have HF := Lib.hid (HO.out (.inr (.inl h2)))
      go_wp2
      go_ret
      exact ⟨ret_bool HF.out.symm, HB.out⟩
    rw [show durB ⟨p.at_.n, p.at_.d⟩ = durB p.at_ from rfl] at HDu
    cases h3 : durB p.at_
    · have HF := Lib.hid (HO.out (.inr (.inr h3)))
      rw [h3] at HDu
      clear h3
      go_wp2_with (go_at_call 130; refine (HDu.out _).mono ?_; rintro e w' ⟨rfl, hb⟩; replace HX := Lib.hid (blk_keep HX.out hb); replace HB := Lib.hid (HB.out.trans (hb.mono HB.out.size)); clear hb hc; have hc := box_cells HX.out)
      go_ret
      exact ⟨ret_bool HF.out.symm, HB.out⟩
    · obtain ⟨k, hk⟩ : ∃ k : Nat, p.bar = (k : Int) := Int.eq_ofNat_of_zero_le (by omega)
      have hkl : k < bars.length := by omega
      have HF := Lib.hid (HI.out k hk hkl h3)
      have hr1 := dur_rt h3; have hr2 := dur_rt (bar_dur HBb.out hkl)
      rw [h3] at HDu
      have HLe := Lib.hid (fun V => less_any p.at_.n p.at_.d bars[k].len.n bars[k].len.d V hr1 hr2)
      clear h3 hr1 hr2
      go_upto_region 5 with (go_at_call 130; refine (HDu.out _).mono ?_; rintro e w' ⟨rfl, hb⟩; replace HX := Lib.hid (blk_keep HX.out hb); replace HB := Lib.hid (HB.out.trans (hb.mono HB.out.size)); clear hb hc; have hc := box_cells HX.out)
      obtain ⟨b, off, hqa, _, _, d1, d2, _⟩ := (HM.out.below HB.out).get k hkl
      rw [hqa]
      rw [hk] at hc h1 h2
      have g0 := cell_regrown (hc 0); have g1 := cell_regrown (hc 1); have g2 := cell_regrown (hc 2)
      have k1 := cell_regrown d1; have k2 := cell_regrown d2
      generalize bars[k].len = lenk at *
      have hkz : (0 : Int) ≤ (k : Int) := by omega
      have hkl2 : (k : Int) < (bars.length : Int) := by omega
      refine wp_quietB (by kernel_rfl) (by kernel_rfl) ?_
      (repeat (go_big_quiet_step (first | (go_at_call 131; refine Calls.regrown_of (HLe.out _)))))
      refine wpQuiet_nil ?_
      intro w2 hb2
      go_wp2
      go_ret
      exact ⟨ret_bool HF.out.symm, HB.out.trans (hb2.mono HB.out.size)⟩
theorem pos_time {bars : List Ba} {p : Po} (h : barsB bars = true) (hp : posB bars p = true) : ∃ k : Nat, p.bar = (k : Int) ∧ k ≤ bars.length ∧ addR2 (ofT (befT bars k)) p.at_ = (ofT (befT bars k + ticksI p.at_), 0) := by
  have v := (posB_iff _ _).1 hp
  have v0 := v.b0; have v1 := v.b1; have v2 := v.t0
  obtain ⟨k, hk⟩ := Int.eq_ofNat_of_zero_le v0
  have hkl : k ≤ bars.length := by omega
  have hd : durB p.at_ = true := by
    cases e : durB p.at_
    · have := ticks_neg.2 e; omega
    · rfl
  have hbt : ticksI p.at_ ≤ 40320 := by
    by_cases e : p.bar = bars.length
    · have := v.end_ e; omega
    · have h2 := v.mid e
      rw [hk, Int.toNat_natCast] at h2
      have := bar_ticks h (i := k) (by omega)
      omega
  have hb := befT_bd h k hkl; have hf := bars_few h
  obtain ⟨b1, b2⟩ := beg_bef h hkl
  exact ⟨k, hk, hkl, by rw [add_dur b1 hd (by rw [b2]; omega), b2]⟩
/-- Time's error: 0 for a place, else 1. -/
def timeE (bars : List Ba) (p : Po) : Int := if posB bars p then 0 else 1
set_option maxHeartbeats 4000000 in
set_option maxRecDepth 100000 in
theorem mTime_any (a : Option Addr) (cap : Nat) (bars : List Ba) (p : Po) (w : World) (hm : BaAt w a bars) (hbb : barsB bars = true) :
    Calls Tryz.prog 86 #[.slice a bars.length cap, .agg #[.int .i64 p.bar, .int .i64 p.at_.n, .int .i64 p.at_.d]] w fun e w' => (∃ n d : Int, e = .returned (.tuple #[.agg #[.int .i64 n, .int .i64 d], .int .i64 (timeE bars p)])) ∧ Below w.heap.size w w' := by
  have hf := bars_few hbb
  have HVal := Lib.hid (fun V (hV : Below w.heap.size w V) => MetValid_any a cap bars V (by omega) (hm.below hV))
  have HPo := Lib.hid (fun V (hV : Below w.heap.size w V) => mIsPos_any a cap bars p V (hm.below hV) hbb)
  have HM := Lib.hid hm
  have HBb := Lib.hid hbb
  rw [hbb] at HVal
  obtain ⟨y1, y2, hb⟩ := box2 (w := w) (A := .cells #[.int .i64 p.bar, .int .i64 p.at_.n, .int .i64 p.at_.d] 54 (0, 0)) (B := .cells #[.int .i64 0, .int .i64 0] 32 (0, 0)) (Below.refl _ _)
  have HX1 := Lib.hid y1; have HX2 := Lib.hid y2; have HB := Lib.hid hb
  clear y1 y2 hb hm hbb
  go_enter Tryz.func86, Tryz.ntmps86
  go_upto_region 1 with (fail)
  generalize (w.alloc (.cells #[.int .i64 p.bar, .int .i64 p.at_.n, .int .i64 p.at_.d] 54 (0, 0))).alloc (.cells #[.int .i64 0, .int .i64 0] 32 (0, 0)) = W at *
  have hc1 := box_cells HX1.out; have hc2 := box_cells HX2.out; have hf2 := box_free HX2.out
  cases hp : posB bars p
  · have HE := Lib.hid (show timeE bars p = 1 by unfold timeE; rw [hp]; rfl)
    rw [hp] at HPo
    clear hp
    go_wp2_with (first | (go_at_call 84; refine (HVal.out _ HB.out).mono ?_; rintro e w' ⟨rfl, hb⟩; replace HX1 := Lib.hid (blk_keep HX1.out hb); replace HX2 := Lib.hid (blk_keep HX2.out hb); replace HB := Lib.hid (HB.out.trans (hb.mono HB.out.size)); clear hb hc1 hc2 hf2; have hc1 := box_cells HX1.out; have hc2 := box_cells HX2.out; have hf2 := box_free HX2.out) | (go_at_call 132; refine (HPo.out _ HB.out).mono ?_; rintro e w' ⟨rfl, hb⟩; replace HX1 := Lib.hid (blk_keep HX1.out hb); replace HX2 := Lib.hid (blk_keep HX2.out hb); replace HB := Lib.hid (HB.out.trans (hb.mono HB.out.size)); clear hb hc1 hc2 hf2; have hc1 := box_cells HX1.out; have hc2 := box_cells HX2.out; have hf2 := box_free HX2.out))
    exact bodyPost_ret (v := .tuple #[.agg #[.int .i64 0, .int .i64 0], .int .i64 1]) (by simp [results, Tryz.results86, go_sem, hc2, hf2]) rfl ⟨⟨_, _, by rw [HE.out]⟩, (HB.out.setCell (by simp <;> omega) _).setCell (by simp <;> omega) _⟩
  · have HE := Lib.hid (show timeE bars p = 0 by unfold timeE; rw [hp]; rfl)
    obtain ⟨k, hk, hkl, hadd⟩ := pos_time HBb.out hp
    rw [hp] at HPo
    have HBg := Lib.hid (fun V (hV : Below w.heap.size w V) => mBeg_any a cap bars k V HBb.out (HM.out.below hV) hkl)
    have HAd := Lib.hid (fun V => show Calls Tryz.prog 44 #[.agg #[.int .i64 (ofT (befT bars k)).n, .int .i64 (ofT (befT bars k)).d], .agg #[.int .i64 p.at_.n, .int .i64 p.at_.d]] V fun e w' => e = .returned (.tuple #[.agg #[.int .i64 (ofT (befT bars k + ticksI p.at_)).n, .int .i64 (ofT (befT bars k + ticksI p.at_)).d], .int .i64 0]) ∧ Below V.heap.size V w' by
      have h := RatAdd_any (ofT (befT bars k)) p.at_ V
      rw [hadd] at h
      exact h)
    have HK := Lib.hid hk
    clear hp hadd hk
    generalize ofT (befT bars k) = B1 at *
    generalize ofT (befT bars k + ticksI p.at_) = S1 at *
    go_upto_region 3 with (first | (go_at_call 84; refine (HVal.out _ HB.out).mono ?_; rintro e w' ⟨rfl, hb⟩; replace HX1 := Lib.hid (blk_keep HX1.out hb); replace HX2 := Lib.hid (blk_keep HX2.out hb); replace HB := Lib.hid (HB.out.trans (hb.mono HB.out.size)); clear hb hc1 hc2 hf2; have hc1 := box_cells HX1.out; have hc2 := box_cells HX2.out; have hf2 := box_free HX2.out) | (go_at_call 132; refine (HPo.out _ HB.out).mono ?_; rintro e w' ⟨rfl, hb⟩; replace HX1 := Lib.hid (blk_keep HX1.out hb); replace HX2 := Lib.hid (blk_keep HX2.out hb); replace HB := Lib.hid (HB.out.trans (hb.mono HB.out.size)); clear hb hc1 hc2 hf2; have hc1 := box_cells HX1.out; have hc2 := box_cells HX2.out; have hf2 := box_free HX2.out))
    rw [HK.out] at HX1
    clear hc1
    have hc1 := box_cells HX1.out
    have g0 := cell_regrown (hc1 0); have g1 := cell_regrown (hc1 1); have g2 := cell_regrown (hc1 2); have g3 := cell_regrown (hc2 0); have g4 := cell_regrown (hc2 1)
    refine wp_tailB 9 (by kernel_rfl) (by kernel_rfl) ?_
    simp only [List.take_succ_cons, List.take_zero, List.drop_succ_cons, List.drop_zero]
    (repeat (go_big_quiet_step (first | (go_at_call 133; refine Calls.regrown_of (HBg.out _ (HB.out.trans ((below_regrown _ _ _).mono HB.out.size)))) | (go_at_call 44; refine Calls.regrown_of (HAd.out _)))))
    refine wpQuiet_nil ?_
    intro w6 hb
    clear g0 g1 g2 g3 g4
    replace HX1 := Lib.hid (blk_keep HX1.out hb); replace HX2 := Lib.hid (blk_keep HX2.out hb); replace HB := Lib.hid (HB.out.trans (hb.mono HB.out.size)); clear hb hc1 hc2 hf2; have hc1 := box_cells HX1.out; have hc2 := box_cells HX2.out; have hf2 := box_free HX2.out
    go_wp2
    exact bodyPost_ret (v := .tuple #[.agg #[.int .i64 S1.n, .int .i64 S1.d], .int .i64 0]) (by simp [results, Tryz.results86, go_sem, hc2, hf2]) rfl ⟨⟨_, _, by rw [HE.out]⟩, (HB.out.setCell (by simp <;> omega) _).setCell (by simp <;> omega) _⟩
theorem tempoPos_any (a : Option Addr) (cap : Nat) (bars : List Ba) (p : Po) (w : World) (hm : BaAt w a bars) (hbb : barsB bars = true) :
    Calls Tryz.prog 47 #[.slice a bars.length cap, .agg #[.int .i64 p.bar, .int .i64 p.at_.n, .int .i64 p.at_.d]] w fun e w' => e = .returned (.bool (posB bars p)) ∧ Below w.heap.size w w' := by
  have HTi := Lib.hid (fun V (hV : Below w.heap.size w V) => mTime_any a cap bars p V (hm.below hV) hbb)
  have HX := Lib.hid (heap_alloc_new w (.cells #[.int .i64 p.bar, .int .i64 p.at_.n, .int .i64 p.at_.d] 54 (0, 0)))
  have HB := Lib.hid ((Below.refl w.heap.size w).alloc (Nat.le_refl _) (.cells #[.int .i64 p.bar, .int .i64 p.at_.n, .int .i64 p.at_.d] 54 (0, 0)))
  have HE := Lib.hid (show (timeE bars p == 0) = posB bars p by unfold timeE; cases posB bars p <;> rfl)
  generalize timeE bars p = E at *
  clear hm hbb
  go_enter Tryz.func47, Tryz.ntmps47
  go_upto_region 1 with (fail)
  generalize w.alloc (.cells #[.int .i64 p.bar, .int .i64 p.at_.n, .int .i64 p.at_.d] 54 (0, 0)) = W at *
  have hc := box_cells HX.out
  go_wp2_with (go_at_call 86; refine (HTi.out _ HB.out).mono ?_; rintro e w' ⟨⟨n, d, rfl⟩, hb⟩; replace HB := Lib.hid (HB.out.trans (hb.mono HB.out.size)); clear hb)
  go_ret
  exact ⟨ret_bool HE.out, HB.out.alloc HB.out.size _⟩
open Go.RowKit Go.Sort

set_option maxRecDepth 100000 in
set_option maxHeartbeats 8000000 in
theorem pSec_good (b off cap : Nat) (bars : List Ba) (ta : Option Addr) (tcap : Nat) (l : List Te) (F U : Nat) (fq uq : Rt) (w : World) (hlb : bars.length ≤ 100000) (hll : l.length ≤ 100000) (hbm : BaAt w (some ⟨b, off, none⟩) bars) (hm : TeAt w ta l)
    (ht : temposB bars l = true) (hp1 : posB bars ⟨F, fq⟩ = true) (hp2 : posB bars ⟨U, uq⟩ = true) (hlt : laterB ⟨F, fq⟩ ⟨U, uq⟩ = false) (RR : Rt × Int) (hRR : redR (cumN l bars ⟨U, uq⟩ - cumN l bars ⟨F, fq⟩) 100800 = RR) :
    Calls Tryz.prog 23 #[.slice (some ⟨b, off, none⟩) bars.length cap, .slice ta l.length tcap, .agg #[.int .i64 F, .int .i64 fq.n, .int .i64 fq.d], .agg #[.int .i64 U, .int .i64 uq.n, .int .i64 uq.d]] w fun e w' => e = .returned (.tuple #[.agg #[.int .i64 RR.1.n, .int .i64 RR.1.d], .int .i64 RR.2]) ∧ Below w.heap.size w w' := by
  have HM := Lib.hid hm; have HBm := Lib.hid hbm
  have hsv := secV_of ht hp1 hp2 hlt
  have HV := Lib.hid hsv
  obtain ⟨hF, hU⟩ := hsv.in_
  have HMk := Lib.hid (fun (cb : Nat) (n : Int) V (x : V.heap[cb]? = some (.cells #[.int .i64 (n), .slice ta l.length tcap] 102 (0, 0))) (e : n = cumN l bars ⟨U, uq⟩ - cumN l bars ⟨F, fq⟩) (h0 : -1000000000000000 ≤ n) (h1 : n ≤ 1000000000000000) => show Calls Tryz.prog 50 #[.pointer (some ⟨cb, 0, none⟩)] V fun e w' => e = .returned (.tuple #[.agg #[.int .i64 RR.1.n, .int .i64 RR.1.d], .int .i64 RR.2]) ∧ Below V.heap.size V w' by
    subst e; subst hRR; exact cseconds_any cb _ _ V x h0 h1)
  rw [hF, hU] at HMk
  have HVal := Lib.hid (fun V (hV : Below w.heap.size w V) => tempoValid_any (some ⟨b, off, none⟩) cap bars ta tcap l V hlb hll (hbm.below hV) (hm.below hV))
  have HP := Lib.hid (fun (p : Po) V (hV : Below w.heap.size w V) => tempoPos_any (some ⟨b, off, none⟩) cap bars p V (hbm.below hV) hsv.v.bars)
  have HLa := Lib.hid (fun V => tempoLater_any ⟨F, fq⟩ ⟨U, uq⟩ V hsv.durf hsv.duru)
  rw [ht] at HVal; rw [hlt] at HLa
  have hp1' : posB bars ⟨(F : Int), ⟨fq.n, fq.d⟩⟩ = true := hp1
  have hp2' : posB bars ⟨(U : Int), ⟨uq.n, uq.d⟩⟩ = true := hp2
  have HTk := Lib.hid (fun (cb : Nat) (n : Int) (k : Nat) (d : Rt) (sg : Int) (hd : durB d = true) (hdt : ticksI d ≤ 40320) (hs : -1 ≤ sg ∧ sg ≤ 1) (hn0 : -100000000000000 ≤ n) (hn1 : n ≤ 100000000000000) V (hV : Below w.heap.size w V) (x : V.heap[cb]? = some (.cells #[.int .i64 (n), .slice ta l.length tcap] 102 (0, 0))) =>
    ctake_any cb n ta tcap l k d sg V x (hm.below hV) hll hsv.rise (by obtain ⟨h, e⟩ := hsv.first; exact ⟨h, by omega⟩) hd hdt hs (hsv.v.at_ k) hn0 hn1)
  have hul := hsv.ul; have hfu := hsv.fu; have hfew := hsv.few
  clear hm hbm ht hp1 hp2 hlt hF hU hRR hsv
  go_enter Tryz.func23, Tryz.ntmps23
  go_upto_region 1 with (fail)
  obtain ⟨y1, y2, y3, hb⟩ := box3 (w := w) (A := .cells #[.int .i64 F, .int .i64 fq.n, .int .i64 fq.d] 54 (0, 0)) (B := .cells #[.int .i64 U, .int .i64 uq.n, .int .i64 uq.d] 54 (0, 0)) (C := .cells #[.int .i64 0, .int .i64 0] 32 (0, 0)) (Below.refl _ _)
  generalize ((w.alloc (.cells #[.int .i64 F, .int .i64 fq.n, .int .i64 fq.d] 54 (0, 0))).alloc (.cells #[.int .i64 U, .int .i64 uq.n, .int .i64 uq.d] 54 (0, 0))).alloc (.cells #[.int .i64 0, .int .i64 0] 32 (0, 0)) = W at *
  replace y2 : W.heap[w.heap.size + 1]? = _ := y2
  replace y3 : W.heap[w.heap.size + 1 + 1]? = _ := y3
  have HX1 := Lib.hid y1; have HX2 := Lib.hid y2; have HX3 := Lib.hid y3; have HB := Lib.hid hb
  have hc1 := box_cells y1; have hc2 := box_cells y2; have hc := box_cells y3; have hf := box_free y3
  clear y1 y2 y3 hb
  go_upto_region 3 with (first | (go_at_call 46; refine (HVal.out _ HB.out).mono ?_; rintro e w' ⟨rfl, hb⟩; replace HX1 := Lib.hid (blk_keep HX1.out hb); replace HX2 := Lib.hid (blk_keep HX2.out hb); replace HX3 := Lib.hid (blk_keep HX3.out hb); replace HB := Lib.hid (HB.out.trans (hb.mono HB.out.size)); clear hb hc1 hc2 hc hf; have hc1 := box_cells HX1.out; have hc2 := box_cells HX2.out; have hc := box_cells HX3.out; have hf := box_free HX3.out) | (go_at_call 47; refine (HP.out ⟨_, ⟨_, _⟩⟩ _ HB.out).mono ?_; rintro e w' ⟨rfl, hb⟩; (first | rw [hp1'] | rw [hp2']); replace HX1 := Lib.hid (blk_keep HX1.out hb); replace HX2 := Lib.hid (blk_keep HX2.out hb); replace HX3 := Lib.hid (blk_keep HX3.out hb); replace HB := Lib.hid (HB.out.trans (hb.mono HB.out.size)); clear hb hc1 hc2 hc hf; have hc1 := box_cells HX1.out; have hc2 := box_cells HX2.out; have hc := box_cells HX3.out; have hf := box_free HX3.out) | (go_at_call 48; refine (HLa.out _).mono ?_; rintro e w' ⟨rfl, hb⟩; replace HX1 := Lib.hid (blk_keep HX1.out hb); replace HX2 := Lib.hid (blk_keep HX2.out hb); replace HX3 := Lib.hid (blk_keep HX3.out hb); replace HB := Lib.hid (HB.out.trans (hb.mono HB.out.size)); clear hb hc1 hc2 hc hf; have hc1 := box_cells HX1.out; have hc2 := box_cells HX2.out; have hc := box_cells HX3.out; have hf := box_free HX3.out))
  clear HVal HP HLa hp1' hp2' hc1 hc2 hc hf
  go_upto_region 4 with (fail)
  have HC := Lib.hid (heap_alloc_new w' (.cells #[.int .i64 (0), .slice ta l.length tcap] 102 (0, 0)))
  have HZ := Lib.hid (show w.heap.size + 1 + 1 < w'.heap.size from lt_blk HX3.out)
  replace HX1 := Lib.hid (up_alloc HX1.out (.cells #[.int .i64 (0), .slice ta l.length tcap] 102 (0, 0))); replace HX2 := Lib.hid (up_alloc HX2.out (.cells #[.int .i64 (0), .slice ta l.length tcap] 102 (0, 0))); replace HX3 := Lib.hid (up_alloc HX3.out (.cells #[.int .i64 (0), .slice ta l.length tcap] 102 (0, 0)))
  replace HB := Lib.hid (HB.out.alloc HB.out.size (.cells #[.int .i64 (0), .slice ta l.length tcap] 102 (0, 0)))
  generalize w'.alloc (.cells #[.int .i64 (0), .slice ta l.length tcap] 102 (0, 0)) = W2 at *
  generalize w'.heap.size = cb at *
  have hc1 := box_cells HX1.out; have hc2 := box_cells HX2.out
  go_wp2
  clear hc1 hc2
  go_loopw [12] (fun s12 wr => ∃ k : Nat, F ≤ k ∧ k ≤ U ∧ s12 = .int .i64 k ∧ wr.heap[w.heap.size]? = some (.cells #[.int .i64 F, .int .i64 fq.n, .int .i64 fq.d] 54 (0, 0)) ∧ wr.heap[w.heap.size + 1]? = some (.cells #[.int .i64 U, .int .i64 uq.n, .int .i64 uq.d] 54 (0, 0)) ∧ wr.heap[w.heap.size + 1 + 1]? = some (.cells #[.int .i64 0, .int .i64 0] 32 (0, 0)) ∧ wr.heap[cb]? = some (.cells #[.int .i64 (beforeN l bars k - beforeN l bars F), .slice ta l.length tcap] 102 (0, 0)) ∧ Below w.heap.size w wr) (fun s12 _ => U - (intOf s12).toNat)
  case atStart => exact ⟨F, Nat.le_refl _, hfu, rfl, HX1.out, HX2.out, HX3.out, by rw [Int.sub_self]; exact HC.out, HB.out⟩
  case round =>
    clear HX1 HX2 HX3 HB HC
    obtain ⟨k, hFk, hkU, rfl, hx1, hx2, hx3, hx4, hb⟩ := hrel
    have HX1 := Lib.hid hx1; have HX2 := Lib.hid hx2; have HX3 := Lib.hid hx3; have HB := Lib.hid hb; have HC := Lib.hid hx4
    have hc1 := box_cells hx1; have hc2 := box_cells hx2; have hc := box_cells hx3; have hf := box_free hx3
    clear hx1 hx2 hx3 hx4 hb
    by_cases hlt : k < U
    · have hkl : k < bars.length := by omega
      obtain ⟨b', off', e, _, _, d1, d2, _⟩ := (HBm.out.below HB.out).get k hkl
      cases e
      have hbt := bar_ticks HV.out.v.bars hkl
      have hdu := bar_dur HV.out.v.bars hkl
      have hgd : bars.getD k default = bars[k] := by simp [List.getD_eq_getElem?_getD, hkl]
      have hN : beforeN l bars (k + 1) = beforeN l bars k + 1 * ticksI bars[k].len * scaleI (atT l (k : Int)) := by rw [beforeN, barN, hgd, Int.one_mul]
      rw [hgd] at hbt
      have bk := HV.out.bd k (by omega); have bF := HV.out.bd F (by omega)
      have HTa := Lib.hid (HTk.out cb (beforeN l bars k - beforeN l bars F) k bars[k].len 1 hdu hbt.2 (by omega) (by omega) (by omega))
      have HN := Lib.hid (show beforeN l bars k - beforeN l bars F + 1 * ticksI bars[k].len * scaleI (atT l (k : Int)) = beforeN l bars (k + 1) - beforeN l bars F by rw [hN]; omega)
      rw [HN.out] at HTa
      clear hN hbt hdu hgd bk bF HN
      generalize bars[k].len = lenk at *
      go_wp2_with (go_at_call 49; refine (HTa.out _ HB.out HC.out).mono ?_; rintro e w' ⟨⟨v, rfl⟩, hk, hx⟩; clear HC d1 d2; replace HX1 := Lib.hid (hk.at_ HX1.out (lt_blk HX1.out) (by have := HZ.out; simp; omega)); replace HX2 := Lib.hid (hk.at_ HX2.out (lt_blk HX2.out) (by have := HZ.out; simp; omega)); replace HX3 := Lib.hid (hk.at_ HX3.out (lt_blk HX3.out) (by have := HZ.out; simp; omega)); replace HB := Lib.hid (hk.onBelow HB.out HB.out.size (by have := HZ.out; simp; omega)); have HC := Lib.hid hx; clear hk hx hc1 hc2 hc hf; have hc1 := box_cells HX1.out; have hc2 := box_cells HX2.out; have hc := box_cells HX3.out; have hf := box_free HX3.out)
      go_roundw
      case rel => exact ⟨k + 1, by omega, by omega, by go_num, HX1.out, HX2.out, HX3.out, HC.out, HB.out⟩
      case measure => simp [intOf]; omega
    · obtain rfl : k = U := by omega
      have bk := HV.out.bd k (by omega); have bF := HV.out.bd F (by omega)
      have tf := HV.out.tf; have tu := HV.out.tu
      have sf := HV.out.sc F; have su := HV.out.sc k
      have pF := prod_tick tf.1 tf.2 sf.1 sf.2; have pU := prod_tick tu.1 tu.2 su.1 su.2
      by_cases hF2 : F < bars.length
      · have hFi : (F : Int) < (bars.length : Int) := by omega
        rw [if_pos hF2] at HMk
        have HTaF := Lib.hid (HTk.out cb (beforeN l bars k - beforeN l bars F) F fq (-1) HV.out.durf tf.2 (by omega) (by omega) (by omega))
        rw [show beforeN l bars k - beforeN l bars F + -1 * ticksI fq * scaleI (atT l (F : Int)) = beforeN l bars k - beforeN l bars F - ticksI fq * scaleI (atT l (F : Int)) by rw [Int.neg_mul, Int.neg_mul, Int.one_mul]; omega] at HTaF
        by_cases hU2 : k < bars.length
        · have hUi : (k : Int) < (bars.length : Int) := by omega
          rw [if_pos hU2] at HMk
          have HTaU := Lib.hid (HTk.out cb (beforeN l bars k - beforeN l bars F - ticksI fq * scaleI (atT l (F : Int))) k uq 1 HV.out.duru tu.2 (by omega) (by omega) (by omega))
          rw [Int.one_mul] at HTaU
          generalize ticksI fq * scaleI (atT l (F : Int)) = NF at *
          generalize ticksI uq * scaleI (atT l (k : Int)) = NU at *
          replace HMk := Lib.hid (fun cb n V x (e : n = beforeN l bars k - beforeN l bars F - NF + NU) h0 h1 => HMk.out cb n V x (by omega) h0 h1)
          clear tf tu sf su HTk
          go_upto_region 11 with (go_at_call 49; refine (HTaF.out _ HB.out HC.out).mono ?_; rintro e w' ⟨⟨v, rfl⟩, hk, hx⟩; clear HC; replace HX1 := Lib.hid (hk.at_ HX1.out (lt_blk HX1.out) (by have := HZ.out; simp; omega)); replace HX2 := Lib.hid (hk.at_ HX2.out (lt_blk HX2.out) (by have := HZ.out; simp; omega)); replace HX3 := Lib.hid (hk.at_ HX3.out (lt_blk HX3.out) (by have := HZ.out; simp; omega)); replace HB := Lib.hid (hk.onBelow HB.out HB.out.size (by have := HZ.out; simp; omega)); have HC := Lib.hid hx; clear hk hx hc1 hc2 hc hf; have hc1 := box_cells HX1.out; have hc2 := box_cells HX2.out; have hc := box_cells HX3.out; have hf := box_free HX3.out)
          go_upto_region 13 with (go_at_call 49; refine (HTaU.out _ HB.out HC.out).mono ?_; rintro e w' ⟨⟨v, rfl⟩, hk, hx⟩; clear HC; replace HX1 := Lib.hid (hk.at_ HX1.out (lt_blk HX1.out) (by have := HZ.out; simp; omega)); replace HX2 := Lib.hid (hk.at_ HX2.out (lt_blk HX2.out) (by have := HZ.out; simp; omega)); replace HX3 := Lib.hid (hk.at_ HX3.out (lt_blk HX3.out) (by have := HZ.out; simp; omega)); replace HB := Lib.hid (hk.onBelow HB.out HB.out.size (by have := HZ.out; simp; omega)); have HC := Lib.hid hx; clear hk hx hc1 hc2 hc hf; have hc1 := box_cells HX1.out; have hc2 := box_cells HX2.out; have hc := box_cells HX3.out; have hf := box_free HX3.out)
          go_wp2_with (go_at_call 50; refine (HMk.out _ _ _ HC.out rfl (by omega) (by omega)).mono ?_; rintro e w' ⟨rfl, hb⟩; replace HX1 := Lib.hid (blk_keep HX1.out hb); replace HX2 := Lib.hid (blk_keep HX2.out hb); replace HX3 := Lib.hid (blk_keep HX3.out hb); replace HB := Lib.hid (HB.out.trans (hb.mono HB.out.size)); clear hb hc1 hc2 hc hf; have hc1 := box_cells HX1.out; have hc2 := box_cells HX2.out; have hc := box_cells HX3.out; have hf := box_free HX3.out); exact bodyPost_ret (v := .tuple #[.agg #[.int .i64 RR.1.n, .int .i64 RR.1.d], .int .i64 RR.2]) (by simp [results, Tryz.results23, go_sem, hc, hf]) rfl ⟨rfl, (HB.out.setCell (by simp <;> omega) _).setCell (by simp <;> omega) _⟩
        · have hUi : ¬ (k : Int) < (bars.length : Int) := by omega
          rw [if_neg hU2] at HMk
          generalize ticksI fq * scaleI (atT l (F : Int)) = NF at *
          replace HMk := Lib.hid (fun cb n V x (e : n = beforeN l bars k - beforeN l bars F - NF) h0 h1 => HMk.out cb n V x (by omega) h0 h1)
          clear tf tu sf su HTk
          go_upto_region 11 with (go_at_call 49; refine (HTaF.out _ HB.out HC.out).mono ?_; rintro e w' ⟨⟨v, rfl⟩, hk, hx⟩; clear HC; replace HX1 := Lib.hid (hk.at_ HX1.out (lt_blk HX1.out) (by have := HZ.out; simp; omega)); replace HX2 := Lib.hid (hk.at_ HX2.out (lt_blk HX2.out) (by have := HZ.out; simp; omega)); replace HX3 := Lib.hid (hk.at_ HX3.out (lt_blk HX3.out) (by have := HZ.out; simp; omega)); replace HB := Lib.hid (hk.onBelow HB.out HB.out.size (by have := HZ.out; simp; omega)); have HC := Lib.hid hx; clear hk hx hc1 hc2 hc hf; have hc1 := box_cells HX1.out; have hc2 := box_cells HX2.out; have hc := box_cells HX3.out; have hf := box_free HX3.out)
          go_wp2_with (go_at_call 50; refine (HMk.out _ _ _ HC.out rfl (by omega) (by omega)).mono ?_; rintro e w' ⟨rfl, hb⟩; replace HX1 := Lib.hid (blk_keep HX1.out hb); replace HX2 := Lib.hid (blk_keep HX2.out hb); replace HX3 := Lib.hid (blk_keep HX3.out hb); replace HB := Lib.hid (HB.out.trans (hb.mono HB.out.size)); clear hb hc1 hc2 hc hf; have hc1 := box_cells HX1.out; have hc2 := box_cells HX2.out; have hc := box_cells HX3.out; have hf := box_free HX3.out); exact bodyPost_ret (v := .tuple #[.agg #[.int .i64 RR.1.n, .int .i64 RR.1.d], .int .i64 RR.2]) (by simp [results, Tryz.results23, go_sem, hc, hf]) rfl ⟨rfl, (HB.out.setCell (by simp <;> omega) _).setCell (by simp <;> omega) _⟩
      · have hFi : ¬ (F : Int) < (bars.length : Int) := by omega
        have hUi : ¬ (k : Int) < (bars.length : Int) := by omega
        rw [if_neg hF2, if_neg (show ¬ k < bars.length by omega)] at HMk
        replace HMk := Lib.hid (fun cb n V x (e : n = beforeN l bars k - beforeN l bars F) h0 h1 => HMk.out cb n V x (by omega) h0 h1)
        clear tf tu sf su HTk
        go_wp2_with (go_at_call 50; refine (HMk.out _ _ _ HC.out rfl (by omega) (by omega)).mono ?_; rintro e w' ⟨rfl, hb⟩; replace HX1 := Lib.hid (blk_keep HX1.out hb); replace HX2 := Lib.hid (blk_keep HX2.out hb); replace HX3 := Lib.hid (blk_keep HX3.out hb); replace HB := Lib.hid (HB.out.trans (hb.mono HB.out.size)); clear hb hc1 hc2 hc hf; have hc1 := box_cells HX1.out; have hc2 := box_cells HX2.out; have hc := box_cells HX3.out; have hf := box_free HX3.out); exact bodyPost_ret (v := .tuple #[.agg #[.int .i64 RR.1.n, .int .i64 RR.1.d], .int .i64 RR.2]) (by simp [results, Tryz.results23, go_sem, hc, hf]) rfl ⟨rfl, (HB.out.setCell (by simp <;> omega) _).setCell (by simp <;> omega) _⟩
set_option maxRecDepth 100000 in
set_option maxHeartbeats 4000000 in
theorem pSec_any (a : Option Addr) (cap : Nat) (bars : List Ba) (ta : Option Addr) (tcap : Nat) (l : List Te) (f u : Po) (w : World) (hlb : bars.length ≤ 100000) (hll : l.length ≤ 100000) (hbm : BaAt w a bars) (hm : TeAt w ta l) :
    Calls Tryz.prog 23 #[.slice a bars.length cap, .slice ta l.length tcap, .agg #[.int .i64 f.bar, .int .i64 f.at_.n, .int .i64 f.at_.d], .agg #[.int .i64 u.bar, .int .i64 u.at_.n, .int .i64 u.at_.d]] w fun e w' => e = .returned (.tuple #[.agg #[.int .i64 (secR bars l f u).1.n, .int .i64 (secR bars l f u).1.d], .int .i64 (secR bars l f u).2]) ∧ Below w.heap.size w w' := by
  have HM := Lib.hid hm; have HBm := Lib.hid hbm
  have HS := Lib.hid (show secR bars l f u = if temposB bars l && posB bars f && posB bars u && !laterB f u then redR (cumN l bars u - cumN l bars f) 100800 else (⟨0, 0⟩, 1) from rfl)
  by_cases hg : (temposB bars l = true ∧ posB bars f = true ∧ posB bars u = true) ∧ laterB f u = false
  · obtain ⟨⟨ht, hp1, hp2⟩, hlt⟩ := hg
    have hSS : secR bars l f u = redR (cumN l bars u - cumN l bars f) 100800 := by rw [HS.out, ht, hp1, hp2, hlt]; rfl
    obtain ⟨fb, fq⟩ := f
    obtain ⟨ub, uq⟩ := u
    obtain ⟨F, rfl⟩ := Int.eq_ofNat_of_zero_le ((posB_iff _ _).1 hp1).b0
    obtain ⟨U, rfl⟩ := Int.eq_ofNat_of_zero_le ((posB_iff _ _).1 hp2).b0
    obtain ⟨b, off, rfl, _⟩ := hbm.get 0 (secV_of ht hp1 hp2 hlt).some_
    exact pSec_good b off cap bars ta tcap l F U fq uq w hlb hll hbm hm ht hp1 hp2 hlt _ hSS.symm
  clear hm hbm
  generalize secR bars l f u = SS at *
  go_enter Tryz.func23, Tryz.ntmps23
  go_upto_region 1 with (fail)
  obtain ⟨y1, y2, y3, hb⟩ := box3 (w := w) (A := .cells #[.int .i64 f.bar, .int .i64 f.at_.n, .int .i64 f.at_.d] 54 (0, 0)) (B := .cells #[.int .i64 u.bar, .int .i64 u.at_.n, .int .i64 u.at_.d] 54 (0, 0)) (C := .cells #[.int .i64 0, .int .i64 0] 32 (0, 0)) (Below.refl _ _)
  generalize ((w.alloc (.cells #[.int .i64 f.bar, .int .i64 f.at_.n, .int .i64 f.at_.d] 54 (0, 0))).alloc (.cells #[.int .i64 u.bar, .int .i64 u.at_.n, .int .i64 u.at_.d] 54 (0, 0))).alloc (.cells #[.int .i64 0, .int .i64 0] 32 (0, 0)) = W at *
  replace y2 : W.heap[w.heap.size + 1]? = _ := y2
  replace y3 : W.heap[w.heap.size + 1 + 1]? = _ := y3
  have HX1 := Lib.hid y1; have HX2 := Lib.hid y2; have HX3 := Lib.hid y3; have HB := Lib.hid hb
  have hc1 := box_cells y1; have hc2 := box_cells y2; have hc := box_cells y3; have hf := box_free y3
  clear y1 y2 y3 hb
  have HVal := Lib.hid (fun V (hV : Below w.heap.size w V) => tempoValid_any a cap bars ta tcap l V hlb hll (HBm.out.below hV) (HM.out.below hV))
  cases ht : temposB bars l
  · have HF := Lib.hid (show SS = (⟨0, 0⟩, 1) by rw [HS.out, ht]; rfl)
    rw [ht] at HVal
    clear hg ht
    go_wp2_with ((go_at_call 46; refine (HVal.out _ HB.out).mono ?_; rintro e w' ⟨rfl, hb⟩; replace HX1 := Lib.hid (blk_keep HX1.out hb); replace HX2 := Lib.hid (blk_keep HX2.out hb); replace HX3 := Lib.hid (blk_keep HX3.out hb); replace HB := Lib.hid (HB.out.trans (hb.mono HB.out.size)); clear hb hc1 hc2 hc hf; have hc1 := box_cells HX1.out; have hc2 := box_cells HX2.out; have hc := box_cells HX3.out; have hf := box_free HX3.out))
    exact bodyPost_ret (v := .tuple #[.agg #[.int .i64 0, .int .i64 0], .int .i64 1]) (by simp [results, Tryz.results23, go_sem, hc, hf]) rfl ⟨by rw [HF.out], (HB.out.setCell (by simp <;> omega) _).setCell (by simp <;> omega) _⟩
  have HTv := Lib.hid (temposB_v ht)
  have HP := Lib.hid (fun (p : Po) V (hV : Below w.heap.size w V) => tempoPos_any a cap bars p V (HBm.out.below hV) HTv.out.bars)
  rw [ht] at HVal
  have HG := Lib.hid hg
  have HTe := Lib.hid ht
  clear hg ht
  cases hp1 : posB bars f
  · have HF := Lib.hid (show SS = (⟨0, 0⟩, 1) by rw [HS.out, hp1]; simp)
    have hp1' : posB bars ⟨f.bar, ⟨f.at_.n, f.at_.d⟩⟩ = false := hp1
    clear hp1
    go_wp2_with (first | (go_at_call 46; refine (HVal.out _ HB.out).mono ?_; rintro e w' ⟨rfl, hb⟩; replace HX1 := Lib.hid (blk_keep HX1.out hb); replace HX2 := Lib.hid (blk_keep HX2.out hb); replace HX3 := Lib.hid (blk_keep HX3.out hb); replace HB := Lib.hid (HB.out.trans (hb.mono HB.out.size)); clear hb hc1 hc2 hc hf; have hc1 := box_cells HX1.out; have hc2 := box_cells HX2.out; have hc := box_cells HX3.out; have hf := box_free HX3.out) | (go_at_call 47; refine (HP.out ⟨_, ⟨_, _⟩⟩ _ HB.out).mono ?_; rintro e w' ⟨rfl, hb⟩; rw [hp1']; replace HX1 := Lib.hid (blk_keep HX1.out hb); replace HX2 := Lib.hid (blk_keep HX2.out hb); replace HX3 := Lib.hid (blk_keep HX3.out hb); replace HB := Lib.hid (HB.out.trans (hb.mono HB.out.size)); clear hb hc1 hc2 hc hf; have hc1 := box_cells HX1.out; have hc2 := box_cells HX2.out; have hc := box_cells HX3.out; have hf := box_free HX3.out))
    exact bodyPost_ret (v := .tuple #[.agg #[.int .i64 0, .int .i64 0], .int .i64 1]) (by simp [results, Tryz.results23, go_sem, hc, hf]) rfl ⟨by rw [HF.out], (HB.out.setCell (by simp <;> omega) _).setCell (by simp <;> omega) _⟩
  have hp1' : posB bars ⟨f.bar, ⟨f.at_.n, f.at_.d⟩⟩ = true := hp1
  cases hp2 : posB bars u
  · have HF := Lib.hid (show SS = (⟨0, 0⟩, 1) by rw [HS.out, hp2]; simp)
    have hp2' : posB bars ⟨u.bar, ⟨u.at_.n, u.at_.d⟩⟩ = false := hp2
    clear hp1 hp2
    go_wp2_with (first | (go_at_call 46; refine (HVal.out _ HB.out).mono ?_; rintro e w' ⟨rfl, hb⟩; replace HX1 := Lib.hid (blk_keep HX1.out hb); replace HX2 := Lib.hid (blk_keep HX2.out hb); replace HX3 := Lib.hid (blk_keep HX3.out hb); replace HB := Lib.hid (HB.out.trans (hb.mono HB.out.size)); clear hb hc1 hc2 hc hf; have hc1 := box_cells HX1.out; have hc2 := box_cells HX2.out; have hc := box_cells HX3.out; have hf := box_free HX3.out) | (go_at_call 47; refine (HP.out ⟨_, ⟨_, _⟩⟩ _ HB.out).mono ?_; rintro e w' ⟨rfl, hb⟩; (first | rw [hp1'] | rw [hp2']); replace HX1 := Lib.hid (blk_keep HX1.out hb); replace HX2 := Lib.hid (blk_keep HX2.out hb); replace HX3 := Lib.hid (blk_keep HX3.out hb); replace HB := Lib.hid (HB.out.trans (hb.mono HB.out.size)); clear hb hc1 hc2 hc hf; have hc1 := box_cells HX1.out; have hc2 := box_cells HX2.out; have hc := box_cells HX3.out; have hf := box_free HX3.out))
    exact bodyPost_ret (v := .tuple #[.agg #[.int .i64 0, .int .i64 0], .int .i64 1]) (by simp [results, Tryz.results23, go_sem, hc, hf]) rfl ⟨by rw [HF.out], (HB.out.setCell (by simp <;> omega) _).setCell (by simp <;> omega) _⟩
  have hp2' : posB bars ⟨u.bar, ⟨u.at_.n, u.at_.d⟩⟩ = true := hp2
  cases hlt : laterB f u
  · exact absurd ⟨⟨HTe.out, hp1, hp2⟩, hlt⟩ HG.out
  · have HF := Lib.hid (show SS = (⟨0, 0⟩, 1) by rw [HS.out, hlt]; simp)
    have hdur : ∀ p : Po, posB bars p = true → durB p.at_ = true := by
      intro p h
      have := ((posB_iff _ _).1 h).t0
      cases e : durB p.at_
      · have := ticks_neg.2 e; omega
      · rfl
    have HLa := Lib.hid (fun V => tempoLater_any f u V (hdur f hp1) (hdur u hp2))
    rw [hlt] at HLa
    clear hp1 hp2 hdur hlt
    go_wp2_with (first | (go_at_call 46; refine (HVal.out _ HB.out).mono ?_; rintro e w' ⟨rfl, hb⟩; replace HX1 := Lib.hid (blk_keep HX1.out hb); replace HX2 := Lib.hid (blk_keep HX2.out hb); replace HX3 := Lib.hid (blk_keep HX3.out hb); replace HB := Lib.hid (HB.out.trans (hb.mono HB.out.size)); clear hb hc1 hc2 hc hf; have hc1 := box_cells HX1.out; have hc2 := box_cells HX2.out; have hc := box_cells HX3.out; have hf := box_free HX3.out) | (go_at_call 47; refine (HP.out ⟨_, ⟨_, _⟩⟩ _ HB.out).mono ?_; rintro e w' ⟨rfl, hb⟩; (first | rw [hp1'] | rw [hp2']); replace HX1 := Lib.hid (blk_keep HX1.out hb); replace HX2 := Lib.hid (blk_keep HX2.out hb); replace HX3 := Lib.hid (blk_keep HX3.out hb); replace HB := Lib.hid (HB.out.trans (hb.mono HB.out.size)); clear hb hc1 hc2 hc hf; have hc1 := box_cells HX1.out; have hc2 := box_cells HX2.out; have hc := box_cells HX3.out; have hf := box_free HX3.out) | (go_at_call 48; refine (HLa.out _).mono ?_; rintro e w' ⟨rfl, hb⟩; replace HX1 := Lib.hid (blk_keep HX1.out hb); replace HX2 := Lib.hid (blk_keep HX2.out hb); replace HX3 := Lib.hid (blk_keep HX3.out hb); replace HB := Lib.hid (HB.out.trans (hb.mono HB.out.size)); clear hb hc1 hc2 hc hf; have hc1 := box_cells HX1.out; have hc2 := box_cells HX2.out; have hc := box_cells HX3.out; have hf := box_free HX3.out))
    exact bodyPost_ret (v := .tuple #[.agg #[.int .i64 0, .int .i64 0], .int .i64 1]) (by simp [results, Tryz.results23, go_sem, hc, hf]) rfl ⟨by rw [HF.out], (HB.out.setCell (by simp <;> omega) _).setCell (by simp <;> omega) _⟩
end Go.Proofs.YtcelciomhngajaaGreatDoor

