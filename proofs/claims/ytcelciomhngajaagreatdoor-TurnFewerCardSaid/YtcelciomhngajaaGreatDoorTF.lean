/- Texts of this seat, laid together: TurnEnd, QTailIn, TurnSnd. -/
import Derived.Test.YtcelciomhngajaaGreatDoorTE
import Derived.Test.YtcelciomhngajaaGreatDoorSL
import Derived.RangeFuncNested
import Derived.TacticsIn
import Derived.OrdersIn
import Derived.Test.YtcelciomhngajaaGreatDoorSA
/- Where a note ends: the program's end, the reference's. -/
namespace Go.Proofs.YtcelciomhngajaaGreatDoor
set_option linter.unusedSimpArgs false
set_option linter.unusedVariables false
open Go.RowKit Go.Sort

def endQ (i : Nat) (len : Rt) (x : Wr) : Po := if ticksI x.start + ticksI x.len = ticksI len then startP (i + 1) else ⟨i, ofT (ticksI x.start + ticksI x.len)⟩
set_option maxHeartbeats 2000000 in
theorem pEnd_any (mb mk : Int) (len : Rt) (ms : Value) (i : Nat) (x : Wr) (w : World) (hi : i ≤ 100000) (hl : durB len = true) (hs : durB x.start = true) (hn : durB x.len = true) (hb : ticksI x.start + ticksI x.len ≤ 1000000000) (hbl : ticksI len ≤ 1000000000) :
    Calls Tryz.prog 113 #[.agg #[.int .i64 mb, .int .i64 mk, .int .i64 len.n, .int .i64 len.d, ms], .int .i64 i, .agg #[.int .i64 x.id, .int .i64 x.voice, .int .i64 x.ossia, .int .i64 x.start.n, .int .i64 x.start.d, .int .i64 x.len.n, .int .i64 x.len.d, .int .i64 x.pitch.s, .int .i64 x.pitch.a, .int .i64 x.pitch.o]] w fun e w' => e = .returned (.agg #[.int .i64 (endQ i len x).bar, .int .i64 (endQ i len x).at_.n, .int .i64 (endQ i len x).at_.d]) ∧ Below w.heap.size w w' := by
  have t0 := (ticks_nonneg hs).1; have t1 := (ticks_nonneg hn).1
  have hadd := add_dur hs hn hb
  have HAd := Lib.hid (fun V => show Calls Tryz.prog 44 #[.agg #[.int .i64 x.start.n, .int .i64 x.start.d], .agg #[.int .i64 x.len.n, .int .i64 x.len.d]] V fun e w' => e = .returned (.tuple #[.agg #[.int .i64 (ofT (ticksI x.start + ticksI x.len)).n, .int .i64 (ofT (ticksI x.start + ticksI x.len)).d], .int .i64 0]) ∧ Below V.heap.size V w' by
    have h := RatAdd_any x.start x.len V
    rw [hadd] at h
    exact h)
  have hof := ofT_dur (n := ticksI x.start + ticksI x.len) (by omega) hb
  have hlen := ofT_ticks hl hbl
  have hE : endQ i len x = if ticksI x.start + ticksI x.len = ticksI len then startP (i + 1) else ⟨i, ofT (ticksI x.start + ticksI x.len)⟩ := rfl
  have hiff : (ticksI x.start + ticksI x.len = ticksI len) ↔ ofT (ticksI x.start + ticksI x.len) = len := ⟨fun e => by rw [e]; exact hlen, fun e => by rw [← hof.2, e]⟩
  generalize ofT (ticksI x.start + ticksI x.len) = R at *
  have heq := fun W => eql_po (i : Int) R.n R.d (i : Int) len.n len.d W
  have HE := Lib.hid hE
  have hpe : ((i : Int) == (i : Int) && (R.n == len.n && R.d == len.d)) = decide (R = len) := by
    rw [Bool.eq_iff_iff]; obtain ⟨a, b⟩ := R; obtain ⟨c, d⟩ := len; simp
  have HQ := Lib.hid (show endQ i len x = if R = len then startP (i + 1) else ⟨i, R⟩ by rw [hE]; by_cases h : R = len <;> simp [h, hiff])
  have HSt := Lib.hid (fun V => tstart_any ((i : Int) + 1) V)
  clear hadd hof hlen hE hiff HE hl hs hn hb hbl t0 t1
  generalize endQ i len x = EE at *
  obtain ⟨x1, x2, x3, hb⟩ := box3 (w := w) (A := .cells #[.int .i64 mb, .int .i64 mk, .int .i64 len.n, .int .i64 len.d, ms] 60 (0, 0)) (B := .cells #[.int .i64 x.id, .int .i64 x.voice, .int .i64 x.ossia, .int .i64 x.start.n, .int .i64 x.start.d, .int .i64 x.len.n, .int .i64 x.len.d, .int .i64 x.pitch.s, .int .i64 x.pitch.a, .int .i64 x.pitch.o] 64) (C := .cells #[.int .i64 0, .int .i64 0, .int .i64 0] 54 (0, 0)) (Below.refl _ _)
  have HX1 := Lib.hid x1; have HX2 := Lib.hid x2; have HX3 := Lib.hid x3; have HB := Lib.hid hb
  clear x1 x2 x3 hb
  go_enter Tryz.func113, Tryz.ntmps113
  go_upto_region 1 with (fail)
  generalize ((w.alloc (.cells #[.int .i64 mb, .int .i64 mk, .int .i64 len.n, .int .i64 len.d, ms] 60 (0, 0))).alloc (.cells #[.int .i64 x.id, .int .i64 x.voice, .int .i64 x.ossia, .int .i64 x.start.n, .int .i64 x.start.d, .int .i64 x.len.n, .int .i64 x.len.d, .int .i64 x.pitch.s, .int .i64 x.pitch.a, .int .i64 x.pitch.o] 64)).alloc (.cells #[.int .i64 0, .int .i64 0, .int .i64 0] 54 (0, 0)) = W at *
  have hc1 := box_cells HX1.out; have hc2 := box_cells HX2.out; have hc := box_cells HX3.out; have hf := box_free HX3.out
  go_upto_region 2 with (fail)
  have hlt : w.heap.size + 1 + 1 < W.heap.size := lt_blk HX3.out
  have HY := Lib.hid (heap_alloc_new W (.cells #[.int .i64 i, .int .i64 len.n, .int .i64 len.d] 54 (0, 0)))
  replace HX1 := Lib.hid (up_alloc HX1.out (.cells #[.int .i64 i, .int .i64 len.n, .int .i64 len.d] 54 (0, 0))); replace HX2 := Lib.hid (up_alloc HX2.out (.cells #[.int .i64 i, .int .i64 len.n, .int .i64 len.d] 54 (0, 0))); replace HX3 := Lib.hid (up_alloc HX3.out (.cells #[.int .i64 i, .int .i64 len.n, .int .i64 len.d] 54 (0, 0))); replace HB := Lib.hid (HB.out.alloc HB.out.size (.cells #[.int .i64 i, .int .i64 len.n, .int .i64 len.d] 54 (0, 0)))
  clear hc1 hc2 hc hf
  generalize W.alloc (.cells #[.int .i64 i, .int .i64 len.n, .int .i64 len.d] 54 (0, 0)) = W2 at *
  generalize W.heap.size = yb at *
  have hc1 := box_cells HX1.out; have hc2 := box_cells HX2.out; have hcy := box_cells HY.out; have hfy := box_free HY.out
  go_upto_region 3 with (go_at_call 44; refine (HAd.out _).mono ?_; rintro e w' ⟨rfl, hb⟩; replace HX1 := Lib.hid (blk_keep HX1.out hb); replace HX3 := Lib.hid (blk_keep HX3.out hb); replace HY := Lib.hid (blk_keep HY.out hb); replace HB := Lib.hid (HB.out.trans (hb.mono HB.out.size)); clear hb hc1 hc2 hcy hfy; have hcy := box_cells HY.out; have hfy := box_free HY.out)
  replace HX1 := Lib.hid (set1_far (i := 2) (set1_far (i := 1) HX1.out (show w.heap.size ≠ yb by omega) (.int .i64 R.n)) (show w.heap.size ≠ yb by omega) (.int .i64 R.d))
  replace HX3 := Lib.hid (set1_far (i := 2) (set1_far (i := 1) HX3.out (show w.heap.size + 1 + 1 ≠ yb by omega) (.int .i64 R.n)) (show w.heap.size + 1 + 1 ≠ yb by omega) (.int .i64 R.d))
  replace HB := Lib.hid ((HB.out.setCell (p := ⟨yb, 1, none⟩) (by simp; omega) (.int .i64 R.n)).setCell (p := ⟨yb, 2, none⟩) (by simp; omega) (.int .i64 R.d))
  have HY2 : Hid (((w'.setCell ⟨yb, 1, none⟩ (.int .i64 R.n)).setCell ⟨yb, 2, none⟩ (.int .i64 R.d)).heap[yb]? = some (.cells #[.int .i64 i, .int .i64 R.n, .int .i64 R.d] 54 (0, 0))) := Lib.hid (heap_setCell_same _ _ _ _ _ _ (heap_setCell_same _ _ _ _ _ _ HY.out))
  clear HX2 HY hcy hfy
  generalize (w'.setCell ⟨yb, 1, none⟩ (.int .i64 R.n)).setCell ⟨yb, 2, none⟩ (.int .i64 R.d) = W3 at *
  have hc1 := box_cells HX1.out; have hc := box_cells HX3.out; have hf := box_free HX3.out; have hcy := box_cells HY2.out
  rw [hpe] at heq
  by_cases hR : R = len
  · have HF := Lib.hid (show EE = startP (i + 1) by rw [HQ.out, if_pos hR])
    rw [decide_eq_true hR] at heq
    clear hR hpe
    go_wp2_with (go_at_call 36; refine (HSt.out _).mono ?_; rintro e w8 ⟨rfl, hb⟩; replace HX3 := Lib.hid (blk_keep HX3.out hb); replace HB := Lib.hid (HB.out.trans (hb.mono HB.out.size)); clear hb hc hf hc1 hcy; have hc := box_cells HX3.out; have hf := box_free HX3.out)
    exact bodyPost_ret (v := .agg #[.int .i64 ((i : Int) + 1), .int .i64 0, .int .i64 1]) (by simp [results, Tryz.results113, go_sem, hc, hf]) rfl ⟨by rw [HF.out]; rfl, ((HB.out.setCell (by simp <;> omega) _).setCell (by simp <;> omega) _).setCell (by simp <;> omega) _⟩
  · have HF := Lib.hid (show EE = ⟨i, R⟩ by rw [HQ.out, if_neg hR])
    rw [decide_eq_false hR] at heq
    clear hR hpe
    go_wp2
    exact bodyPost_ret (v := .agg #[.int .i64 i, .int .i64 R.n, .int .i64 R.d]) (by simp [results, Tryz.results113, go_sem, hc, hf]) rfl ⟨by rw [HF.out], ((HB.out.setCell (by simp <;> omega) _).setCell (by simp <;> omega) _).setCell (by simp <;> omega) _⟩
set_option maxHeartbeats 2000000 in
theorem rEnd_any (part : Int) (b off cap : Nat) (ms : List Me) (i : Nat) (hi : i < ms.length) (x : Wr) (w : World) (hm : MeAt w (some ⟨b, off, none⟩) ms) (hl : ms.length ≤ 100000) (hs : durB x.start = true) (hn : durB x.len = true) (hb : ticksI x.start + ticksI x.len ≤ 1000000000) :
    Calls Tryz.prog 45 #[.agg #[.int .i64 part, .slice (some ⟨b, off, none⟩) ms.length cap], .int .i64 i, .agg #[.int .i64 x.id, .int .i64 x.voice, .int .i64 x.ossia, .int .i64 x.start.n, .int .i64 x.start.d, .int .i64 x.len.n, .int .i64 x.len.d, .int .i64 x.pitch.s, .int .i64 x.pitch.a, .int .i64 x.pitch.o]] w fun e w' => e = .returned (.agg #[.int .i64 (endQ i ms[i].len x).bar, .int .i64 (endQ i ms[i].len x).at_.n, .int .i64 (endQ i ms[i].len x).at_.d]) ∧ Below w.heap.size w w' := by
  have HM := Lib.hid hm
  have t0 := (ticks_nonneg hs).1; have t1 := (ticks_nonneg hn).1
  have HT1 := Lib.hid (fun V => RTicks_any x.start.n x.start.d V); have HT2 := Lib.hid (fun V => RTicks_any x.len.n x.len.d V)
  have HT3 := Lib.hid (fun V => RTicks_any ms[i].len.n ms[i].len.d V)
  rw [show ticksI ⟨x.start.n, x.start.d⟩ = ticksI x.start from rfl] at HT1
  rw [show ticksI ⟨x.len.n, x.len.d⟩ = ticksI x.len from rfl] at HT2
  rw [show ticksI ⟨ms[i].len.n, ms[i].len.d⟩ = ticksI ms[i].len from rfl] at HT3
  have HOf := Lib.hid (fun V => tOf_any (ticksI x.start + ticksI x.len) V (by omega) hb)
  have HO0 := Lib.hid (fun V => show Calls Tryz.prog 25 #[.int .i64 0] V fun e w' => e = .returned (.agg #[.int .i64 0, .int .i64 1]) ∧ Below V.heap.size V w' by
    have h := tOf_any 0 V (by decide) (by decide)
    rw [show ofT 0 = ⟨0, 1⟩ by decide] at h
    exact h)
  have HE := Lib.hid (show endQ i ms[i].len x = if ticksI x.start + ticksI x.len = ticksI ms[i].len then startP (i + 1) else ⟨i, ofT (ticksI x.start + ticksI x.len)⟩ from rfl)
  have hw : IntKind.i64.wrap (ticksI x.start + ticksI x.len) = ticksI x.start + ticksI x.len := IntWalk.i64_in _ (by omega)
  generalize endQ i ms[i].len x = EE at *
  generalize ofT (ticksI x.start + ticksI x.len) = R at *
  generalize ticksI ms[i].len = T3 at *
  generalize ticksI x.start = T1 at *
  generalize ticksI x.len = T2 at *
  clear hm hs hn hb
  obtain ⟨x1, x2, x3, hb⟩ := box3 (w := w) (A := .cells #[.int .i64 part, .slice (some ⟨b, off, none⟩) ms.length cap] 30 (0, 0)) (B := .cells #[.int .i64 x.id, .int .i64 x.voice, .int .i64 x.ossia, .int .i64 x.start.n, .int .i64 x.start.d, .int .i64 x.len.n, .int .i64 x.len.d, .int .i64 x.pitch.s, .int .i64 x.pitch.a, .int .i64 x.pitch.o] 64) (C := .cells #[.int .i64 0, .int .i64 0, .int .i64 0] 54 (0, 0)) (Below.refl _ _)
  have HX1 := Lib.hid x1; have HX2 := Lib.hid x2; have HX3 := Lib.hid x3; have HB := Lib.hid hb
  clear x1 x2 x3 hb
  go_enter Tryz.func45, Tryz.ntmps45
  go_upto_region 1 with (fail)
  generalize ((w.alloc (.cells #[.int .i64 part, .slice (some ⟨b, off, none⟩) ms.length cap] 30 (0, 0))).alloc (.cells #[.int .i64 x.id, .int .i64 x.voice, .int .i64 x.ossia, .int .i64 x.start.n, .int .i64 x.start.d, .int .i64 x.len.n, .int .i64 x.len.d, .int .i64 x.pitch.s, .int .i64 x.pitch.a, .int .i64 x.pitch.o] 64)).alloc (.cells #[.int .i64 0, .int .i64 0, .int .i64 0] 54 (0, 0)) = W at *
  have hc1 := box_cells HX1.out; have hc2 := box_cells HX2.out; have hc := box_cells HX3.out; have hf := box_free HX3.out
  have g3 := cell_regrown (hc2 3); have g4 := cell_regrown (hc2 4); have g5 := cell_regrown (hc2 5); have g6 := cell_regrown (hc2 6)
  refine wp_quietB (by kernel_rfl) (by kernel_rfl) ?_
  (repeat (go_big_quiet_step (fail)))
  go_big_quiet_step ((go_at_call 24; refine Calls.regrown_of (HT1.out _)))
  (repeat (go_big_quiet_step (fail)))
  go_big_quiet_step ((go_at_call 24; refine Calls.regrown_of (HT2.out _)))
  (repeat (go_big_quiet_step (fail)))
  refine wpQuiet_nil ?_
  intro w2 hb
  clear g3 g4 g5 g6 hc2 HX2
  replace HX1 := Lib.hid (blk_keep HX1.out hb); replace HX3 := Lib.hid (blk_keep HX3.out hb); replace HB := Lib.hid (HB.out.trans (hb.mono HB.out.size)); clear hb hc1 hc hf; have hc1 := box_cells HX1.out; have hc := box_cells HX3.out; have hf := box_free HX3.out
  obtain ⟨b', off', e, _, _, _, d2, d3, _⟩ := (HM.out.below HB.out).get i hi
  cases e
  generalize ms[i].len = leni at *
  by_cases he : T1 + T2 = T3
  · have HF := Lib.hid (show EE = startP (i + 1) by rw [HE.out, if_pos he])
    have hq : (T1 + T2 == T3) = true := by simpa using he
    clear he
    go_upto_region 3 with (go_at_call 24; refine (HT3.out _).mono ?_; rintro e w' ⟨rfl, hb⟩; clear d2 d3; replace HX1 := Lib.hid (blk_keep HX1.out hb); replace HX3 := Lib.hid (blk_keep HX3.out hb); replace HB := Lib.hid (HB.out.trans (hb.mono HB.out.size)); clear hb hc1 hc hf; have hc1 := box_cells HX1.out; have hc := box_cells HX3.out; have hf := box_free HX3.out)
    go_wp2_with (go_at_call 25; refine (HO0.out _).mono ?_; rintro e w' ⟨rfl, hb⟩; replace HX1 := Lib.hid (blk_keep HX1.out hb); replace HX3 := Lib.hid (blk_keep HX3.out hb); replace HB := Lib.hid (HB.out.trans (hb.mono HB.out.size)); clear hb hc1 hc hf; have hc1 := box_cells HX1.out; have hc := box_cells HX3.out; have hf := box_free HX3.out)
    exact bodyPost_ret (v := .agg #[.int .i64 ((i : Int) + 1), .int .i64 0, .int .i64 1]) (by simp [results, Tryz.results45, go_sem, hc, hf]) rfl ⟨by rw [HF.out]; rfl, ((HB.out.setCell (by simp <;> omega) _).setCell (by simp <;> omega) _).setCell (by simp <;> omega) _⟩
  · have HF := Lib.hid (show EE = ⟨i, R⟩ by rw [HE.out, if_neg he])
    have hq : (T1 + T2 == T3) = false := by simpa using he
    clear he
    go_upto_region 4 with (go_at_call 24; refine (HT3.out _).mono ?_; rintro e w' ⟨rfl, hb⟩; clear d2 d3; replace HX1 := Lib.hid (blk_keep HX1.out hb); replace HX3 := Lib.hid (blk_keep HX3.out hb); replace HB := Lib.hid (HB.out.trans (hb.mono HB.out.size)); clear hb hc1 hc hf; have hc1 := box_cells HX1.out; have hc := box_cells HX3.out; have hf := box_free HX3.out)
    go_wp2_with (go_at_call 25; refine (HOf.out _).mono ?_; rintro e w' ⟨rfl, hb⟩; replace HX1 := Lib.hid (blk_keep HX1.out hb); replace HX3 := Lib.hid (blk_keep HX3.out hb); replace HB := Lib.hid (HB.out.trans (hb.mono HB.out.size)); clear hb hc1 hc hf; have hc1 := box_cells HX1.out; have hc := box_cells HX3.out; have hf := box_free HX3.out)
    exact bodyPost_ret (v := .agg #[.int .i64 i, .int .i64 R.n, .int .i64 R.d]) (by simp [results, Tryz.results45, go_sem, hc, hf]) rfl ⟨by rw [HF.out], ((HB.out.setCell (by simp <;> omega) _).setCell (by simp <;> omega) _).setCell (by simp <;> omega) _⟩
open Go.RowKit Go.Sort
section
variable {P : Program} {ops : Array Oper} {C : World → Prop} {m : Nat}
theorem wide_of_quiet {o : Oper} {a : Act} {K : Act → Prop} {K' : Act → World → Prop} {Q' : Exit → Act → World → Prop} {w : World} (hw : C w) (h : ∀ a w', C w' → K a → K' a w') (hh : o.quiet P a C K) : o.wpIn Fence.wide m P a w K' Q' := by
  obtain ⟨v, h1, h2⟩ := hh
  have h3 := h1 w hw
  unfold Oper.quietAt at h3
  unfold Oper.wpIn
  refine ⟨fun _ _ => trivial, ?_⟩
  rw [show Fence.wide.round = none from rfl, Oper.semAt_none]
  revert h3
  generalize (execOp a.eval o).run P w = r
  intro h3
  cases r with
  | halt x w' => exact h3.elim
  | ok x w' =>
    cases x <;> first | exact h3.elim | skip
    case value u =>
      obtain ⟨e1, e2⟩ := h3
      subst e1; subst e2; exact h _ _ hw h2
    case skip =>
      obtain ⟨e1, e2⟩ := h3
      subst e1; subst e2; exact h _ _ hw h2
    case enter f args =>
      obtain ⟨e1, hc⟩ := h3
      subst e1
      rw [Oper.uponIn_enter]
      refine ⟨fun hd => (by cases hd), callsIn_wide.2 (hc.mono ?_)⟩
      rintro e w'' ⟨rfl, hw''⟩
      exact h _ _ hw'' h2
theorem wideOp_of_quiet {i : Nat} {a : Act} {K : Act → Prop} {K' : Act → World → Prop} {Q' : Exit → Act → World → Prop} {w : World} (hC : C w) (h : ∀ a w', C w' → K a → K' a w') (hh : qOp P ops C i K a) : wpOpIn Fence.wide m P ops Q' i K' a w := by
  unfold qOp at hh
  unfold wpOpIn
  cases ho : ops[i]? with
  | none => simp only [ho] at hh ⊢; exact h _ _ hC hh
  | some o =>
    simp only [ho] at hh ⊢
    by_cases hw : Region.wanted o (yielded ops a.tmps) = true
    · simp only [hw, if_true] at hh ⊢; exact wide_of_quiet hC h hh
    · simp only [hw] at hh ⊢
      exact ⟨fun _ _ => trivial, h _ _ hC hh⟩
theorem wideAny_of_head {md : Region.Mode} {n g : Nat} {L : Array Bool → Act → Prop} {Q' : Exit → Act → World → Prop} (hL : ∀ listed a w, C w → L listed a → wpAnyIn Fence.wide m P md ops Q' g listed a w) :
    ∀ (f : Nat) (listed : Array Bool) (a : Act) (w : World), C w → wpAnyLQ P md ops C n L f listed a → wpAnyIn Fence.wide m P md ops Q' (f + g) listed a w
  | 0, listed, a, w, hw, h => by rw [Nat.zero_add]; exact hL _ _ _ hw h
  | f + 1, listed, a, w, hw, h => by
    rw [Nat.add_right_comm]
    exact ⟨fun h0 => absurd h0 h.1, fun i hi => wideOp_of_quiet hw (fun a' w' hw' h' => wideAny_of_head hL f _ a' w' hw' h') (h.2 i hi).2⟩
theorem wideAny_of_seq {md : Region.Mode} {Q' : Exit → Act → World → Prop} : ∀ (l : List Oper) (k : Nat) (listed : Array Bool) (a : Act) (w : World), (∀ j, l[j]? = ops[k + j]?) →
    Region.seqB md ops l.length k listed = true → wpListIn Fence.wide m P ops Q' l a w → wpAnyIn Fence.wide m P md ops Q' l.length listed a w
  | [], _, _, _, _, _, hB, h => ⟨by simpa [Region.seqB] using hB, h⟩
  | o :: l, k, listed, a, w, hl, hB, h => by
    have h0 : ops[k]? = some o := by have := hl 0; simpa using this.symm
    simp only [List.length_cons, Region.seqB, Bool.and_eq_true, decide_eq_true_eq] at hB
    obtain ⟨hr, hB2⟩ := hB
    refine ⟨fun h1 => (by rw [hr] at h1; cases h1), fun i hi => ?_⟩
    rw [hr] at hi
    obtain rfl : i = k := by simpa using hi
    have hw : wpOpIn Fence.wide m P ops Q' i (wpListIn Fence.wide m P ops Q' l) a w := by unfold wpOpIn; simp only [h0]; exact h
    exact wpOpIn_mono (fun a' w' h' => wideAny_of_seq l (i + 1) _ a' w' (fun j => by have := hl (j + 1); rw [show i + 1 + j = i + (j + 1) by omega, ← this]; simp) hB2 h') hw
theorem wide_tailB {id : Nat} {Q : Exit → Act → World → Prop} {a : Act} {w : World} {l : List Oper} (n : Nat) (hm : P.follows .mixedOrders = true) (hB : Region.lexTailB .any l.toArray n = true)
    (h : wpQuiet P l.toArray (fun w' => ∃ p : Regrown, w' = grow (redrawn w p.d) p.os) (fun a' => ∀ w', Below w.heap.size w w' → wpListIn Fence.wide m P l.toArray Q (l.drop n) a' w') (l.take n) a) : (Code.region id l.toArray true).wpIn Fence.wide m P Q a w := by
  have e : (fun a' => ∀ w', Below w.heap.size w w' → wpListIn Fence.wide m P l.toArray Q (l.drop n) a' w') = fun a' => ∀ w', (∃ p : Regrown, w' = grow (redrawn w p.d) p.os) → wpListIn Fence.wide m P l.toArray Q (l.drop n) a' w' := by
    funext a'
    exact propext ⟨fun h w' ⟨p, hp⟩ => h w' (hp ▸ below_regrown w p.d p.os), fun h w' hb => h w' (regrown_of_below hb)⟩
  rw [e] at h
  simp only [Region.lexTailB, Bool.and_eq_true, decide_eq_true_eq] at hB
  obtain ⟨⟨⟨⟨hsel, hn⟩, hs⟩, hc⟩, hlex⟩ := hB
  have hn' : n < l.length := by simpa using hn
  have htl : (l.take n).length = n := by simp; omega
  have hdl : (l.drop n).length = l.toArray.size - n := by simp
  have inv0 : HeadInv .any l.toArray n (Array.replicate l.toArray.size false) :=
    ⟨by simp, fun j oj _ hl => (by rw [getD_replicate_false] at hl; cases hl), fun t _ ht => getD_in (by simpa using ht) (getD_replicate_false _ _)⟩
  have H := wpAnyLQ_lex (md := .any) (g := l.toArray.size - n) hsel hs hc hn (l.take n) 0 _ a (fun j hj => by
    have hj' : j < n := by rw [htl] at hj; exact hj
    simp [hj']) (by simpa using htl) inv0 (by rw [htl]; exact hlex) h
  refine wpIn_region_any hm ?_
  have := wideAny_of_head (m := m) (Q' := Q) (g := l.toArray.size - n) (fun listed a' w' hw' hL => by
    have := wideAny_of_seq (m := m) (md := .any) (Q' := Q) (l.drop n) n listed a' w' (fun j => by simp [List.getElem?_drop]) (by rw [hdl]; exact hL.1) (hL.2 w' hw')
    rwa [hdl] at this) _ _ _ _ ⟨⟨w.drawn + 1, #[]⟩, by rw [grow_empty]⟩ H
  rw [htl, show n + (l.toArray.size - n) = l.toArray.size by omega] at this
  exact this
end
end Go.Proofs.YtcelciomhngajaaGreatDoor
/- What sounds, one note after the other: the program's iterator. -/
namespace Go.Proofs.YtcelciomhngajaaGreatDoor
set_option linter.unusedSimpArgs false
set_option linter.unusedVariables false
open Go.RowKit Go.Sort Go.Shelf
attribute [local go_sem] Oper.semAt_some

/-- The notes of k measures from the i-th on, with their measures' numbers. -/
def sndL (ms : List MeP) (i k : Nat) : List (Nat × Wr) := (List.range' i k).flatMap fun j => (ms.getD j default).notes.map fun w => (j, w)
theorem ends_snd (ms : List MeP) (i k : Nat) : endsL ms i k = (sndL ms i k).map fun x => endP x.1 (ms.getD x.1 default) x.2 := by
  unfold endsL sndL
  rw [List.map_flatMap]
  congr 1
  funext j
  rw [List.map_map]
  rfl
theorem froms_snd (ms : List MeP) (i k : Nat) : fromsL ms i k = (sndL ms i k).map fun x => (⟨x.1, x.2.start⟩ : Po) := by
  unfold fromsL sndL
  rw [List.map_flatMap]
  congr 1
  funext j
  rw [List.map_map]
  rfl
theorem sndL_succ (ms : List MeP) (i k : Nat) : sndL ms i (k + 1) = sndL ms i k ++ (ms.getD (i + k) default).notes.map fun w => (i + k, w) := by
  unfold sndL
  rw [List.range'_1_concat, List.flatMap_append]
  simp
theorem says_getD (ms : List Me) {i : Nat} (hi : i < ms.length) : (ms.map Me.says).getD i default = ms[i].says := by
  rw [List.getD_eq_getElem?_getD, List.getElem?_map, List.getElem?_eq_getElem hi]
  rfl
theorem sndL_len {ms : List Me} (h : ∀ i (h : i < ms.length), ms[i].notes.length ≤ 100000) (i : Nat) : ∀ k, i + k ≤ ms.length → (sndL (ms.map Me.says) i k).length ≤ 100000 * k
  | 0, _ => by simp [sndL]
  | k + 1, hk => by
    have := sndL_len h i k (by omega)
    have h2 := h (i + k) (by omega)
    rw [sndL_succ, List.length_append, List.length_map, says_getD ms (i := i + k) (by omega)]
    simp only [Me.says]
    omega
/-- Rows that lay ahead of a call lie as they lay. -/
theorem SlAt.low {w W V : World} {S : List Nat} {a : Option Addr} {sz : Nat} {rows : List (List Value)} (h : SlAt w a sz rows) (hb : Below w.heap.size w W) (k : KeptC S W V) (hS : ∀ s ∈ S, w.heap.size ≤ s) : SlAt V a sz rows := by
  refine SlAt.keptC (h.below hb) k fun ad e hne hm => ?_
  obtain ⟨r0, rs, er⟩ := List.exists_cons_of_ne_nil hne
  obtain ⟨b0, o0, e0, h0, _⟩ := h 0 r0 (by rw [er]; rfl)
  rw [e] at e0; cases e0
  have := hS _ hm
  simp only at this
  omega
theorem MeAt.low {w W V : World} {S : List Nat} {a : Option Addr} {ms : List Me} (h : MeAt w a ms) (hb : Below w.heap.size w W) (k : KeptC S W V) (hS : ∀ s ∈ S, w.heap.size ≤ s) : MeAt V a ms :=
  ⟨h.at_.low hb k hS, fun m hm => SlAt.low (h.notes m hm) hb k hS, h.ok⟩
theorem sounds_any (part : Int) (a : Option Addr) (n cap : Nat) (F U : Nat) (w : World) :
    Calls Tryz.prog 69 #[.agg #[.int .i64 part, .slice a n cap], .int .i64 F, .int .i64 U] w fun e w' => e = .returned (.func (.func 112) #[] #[.pointer (some ⟨w.heap.size + 1, 0, none⟩), .pointer (some ⟨w.heap.size + 2, 0, none⟩), .pointer (some ⟨w.heap.size, 0, none⟩)]) ∧ w' = ((w.alloc (.cells #[.int .i64 part, .slice a n cap] 30 (0, 0))).alloc (.cells #[.int .i64 F] 3 (0, 0))).alloc (.cells #[.int .i64 U] 3 (0, 0)) := by
  go_enter Tryz.func69, Tryz.ntmps69
  go_wp2
  go_ret
  refine ⟨?_, ?_⟩
  · first | rfl | simp
  · first | rfl | simp
/-- A note of a measure: both right. -/
structure NoteV (ms : List Me) (i : Nat) (x : Wr) : Prop where
  lt : i < ms.length
  mem : ∀ h : i < ms.length, x ∈ ms[i].notes
/-- All measures' notes are durations within bounds. -/
structure MsV (ms : List Me) : Prop where
  few : ms.length ≤ 100000
  meas : ∀ i (h : i < ms.length), durB ms[i].len = true ∧ ticksI ms[i].len ≤ 1000000000
  note : ∀ i (h : i < ms.length), ∀ x ∈ ms[i].notes, durB x.start = true ∧ durB x.len = true ∧ ticksI x.start + ticksI x.len ≤ 1000000000
  small : ∀ i (h : i < ms.length), ms[i].notes.length ≤ 100000
abbrev SndR (ms : List Me) := { x : Nat × Wr // NoteV ms x.1 x.2 }
abbrev encSnd {ms : List Me} (x : SndR ms) : Array Value := #[.agg #[.int .i64 ((x.1.1 : Nat) : Int), .int .i64 x.1.2.start.n, .int .i64 x.1.2.start.d], .agg #[.int .i64 (endQ x.1.1 (ms[x.1.1]'(x.2.lt)).len x.1.2).bar, .int .i64 (endQ x.1.1 (ms[x.1.1]'(x.2.lt)).len x.1.2).at_.n, .int .i64 (endQ x.1.1 (ms[x.1.1]'(x.2.lt)).len x.1.2).at_.d]]
set_option maxHeartbeats 8000000 in
set_option maxRecDepth 100000 in
theorem sounds1_in (n : Nat) (hn : 1 ≤ n) (S : List Nat) (part : Int) (b off cap : Nat) (ms : List Me) (F U bf bu bv : Nat) (w0 w : World) (hv : MsV ms) (hF : F ≤ U) (hU : U ≤ ms.length) (hbv : w.heap[bv]? = some (.cells #[.int .i64 part, .slice (some ⟨b, off, none⟩) ms.length cap] 30 (0, 0))) (hbf : w.heap[bf]? = some (.cells #[.int .i64 F] 3 (0, 0))) (hbu : w.heap[bu]? = some (.cells #[.int .i64 U] 3 (0, 0))) (hS : bv ∉ S ∧ bf ∉ S ∧ bu ∉ S) (hSl : ∀ k ∈ S, w0.heap.size ≤ k ∧ k < w.heap.size)
    (hm : MeAt w0 (some ⟨b, off, none⟩) ms) (hw : Below w0.heap.size w0 w) :
    SeqLow Fence.wide n Tryz.prog 112 #[.pointer (some ⟨bf, 0, none⟩), .pointer (some ⟨bu, 0, none⟩), .pointer (some ⟨bv, 0, none⟩)] (encSnd (ms := ms)) (KeptC S) (fun xs => xs.map Subtype.val = sndL (ms.map Me.says) F (U - F)) 1000000000000 w := by
  intro lo J Jx W hW hJ hJx hY h0
  have HBv := Lib.hid (show ∀ V, KeptC S W V → V.heap[bv]? = some (.cells #[.int .i64 part, .slice (some ⟨b, off, none⟩) ms.length cap] 30 (0, 0)) ∧ V.heap[bf]? = some (.cells #[.int .i64 F] 3 (0, 0)) ∧ V.heap[bu]? = some (.cells #[.int .i64 U] 3 (0, 0)) from fun V hV => ⟨hV.cells _ _ _ _ hS.1 (blk_keep hbv hW), hV.cells _ _ _ _ hS.2.1 (blk_keep hbf hW), hV.cells _ _ _ _ hS.2.2 (blk_keep hbu hW)⟩)
  have HR := Lib.hid (show ∀ V, KeptC S W V → MeAt V (some ⟨b, off, none⟩) ms from fun V hV => hm.low (hw.trans (hW.mono hw.size)) hV (fun s hs => (hSl s hs).1))
  have HNs := Lib.hid (show ∀ k, W.heap.size ≤ k → k ∉ S from fun k hk hs => by have := (hSl k hs).2; have := hW.size; omega)
  have HJ := Lib.hid hJ; have HJx := Lib.hid hJx; have HY := Lib.hid hY; have H0 := Lib.hid h0; have HV := Lib.hid hv
  have hfew := hv.few
  clear hJ hJx hY h0 hbv hbf hbu hS hSl hm hw hW hv
  refine callsIn_of_wp Tryz.func112 rfl trivial ?_ rfl
  simp only [Tryz.ntmps112, List.size_toArray, List.length_cons, List.length_nil, Nat.reduceAdd, Nat.reduceSub, Array.replicate_succ, Array.replicate_zero, List.push_toArray, List.append_toArray, List.nil_append, List.cons_append]
  refine wpIn_wide.2 ?_
  obtain ⟨kv, kf, ku⟩ := HBv.out W (KeptC.refl _ _)
  have hcf := box_cells kf
  go_wp2
  clear kv kf ku hcf
  go_loopw [5] (fun s5 wr => ∃ (i : Nat) (xs : List (SndR ms)), F ≤ i ∧ i ≤ U ∧ s5 = .int .i64 i ∧ Hid (xs.map Subtype.val = sndL (ms.map Me.says) F (i - F)) ∧ J xs wr ∧ KeptC S W wr) (fun s5 _ => U - (intOf s5).toNat)
  case atStart => exact ⟨F, [], Nat.le_refl _, hF, rfl, Lib.hid (by rw [Nat.sub_self]; rfl), H0.out, KeptC.refl _ _⟩
  case round =>
    obtain ⟨i, xs, hFi, hiU, rfl, hxs, hj, hkc⟩ := hrel
    have HKc := Lib.hid hkc; have HJ1 := Lib.hid hj; have HXs := Lib.hid hxs.out
    have hWw := hkc.size
    obtain ⟨kv, kf, ku⟩ := HBv.out wr hkc
    have hcv := box_cells kv; have hcu := box_cells ku; have hlv := lt_blk kv; have hlu := lt_blk ku
    clear hj hkc hxs kv kf ku
    by_cases hlt : i < U
    · have hil : i < ms.length := by omega
      obtain ⟨b', off', e, hbl, c0, c1, c2, c3, c4⟩ := (HR.out wr HKc.out).get i hil
      cases e
      have hme := HV.out.meas i hil
      have HNo := Lib.hid (HV.out.note i hil)
      have hsm := HV.out.small i hil
      have HWr := Lib.hid (show ∀ V, KeptC S W V → WrAt V ms[i].na ms[i].notes from fun V hV => (HR.out V hV).notes _ (List.getElem_mem hil))
      have HSu := Lib.hid (show sndL (ms.map Me.says) F (i + 1 - F) = sndL (ms.map Me.says) F (i - F) ++ ms[i].notes.map fun w => (i, w) by
        rw [show i + 1 - F = (i - F) + 1 by omega, sndL_succ, show F + (i - F) = i by omega, says_getD ms hil]; rfl)
      have HNv := Lib.hid (show ∀ k (h : k < ms[i].notes.length), NoteV ms i ms[i].notes[k] from fun k h => ⟨hil, fun _ => List.getElem_mem h⟩)
      have HY2 := Lib.hid (show ∀ pre k (h : k < ms[i].notes.length) W1, J pre W1 → pre.length < 1000000000000 → YieldAt Fence.wide (n - 1) Tryz.prog lo #[.agg #[.int .i64 (i : Int), .int .i64 ms[i].notes[k].start.n, .int .i64 ms[i].notes[k].start.d], .agg #[.int .i64 (endQ i ms[i].len ms[i].notes[k]).bar, .int .i64 (endQ i ms[i].len ms[i].notes[k]).at_.n, .int .i64 (endQ i ms[i].len ms[i].notes[k]).at_.d]] W1 fun e W' => (e = .returned (.bool true) ∧ J (pre ++ [⟨(i, ms[i].notes[k]), HNv.out k h⟩]) W' ∧ KeptC S W1 W') ∨ (e = .returned (.bool false) ∧ Jx (pre ++ [⟨(i, ms[i].notes[k]), HNv.out k h⟩]) W') from fun pre k h W1 hj hl => HY.out pre ⟨(i, ms[i].notes[k]), HNv.out k h⟩ W1 hj hl)
      have HEn := Lib.hid (fun x hx V => pEnd_any ms[i].bar ms[i].key ms[i].len (.slice ms[i].na ms[i].notes.length ms[i].ncap) i x V (by omega) hme.1 (HNo.out x hx).1 (HNo.out x hx).2.1 (HNo.out x hx).2.2 hme.2)
      have HLn := Lib.hid (sndL_len HV.out.small F (i - F) (by omega))
      clear hme HNo
      go_upto_region 4 with (fail)
      have HX6 := Lib.hid (heap_alloc_new wr (.cells #[.int .i64 ms[i].bar, .int .i64 ms[i].key, .int .i64 ms[i].len.n, .int .i64 ms[i].len.d, .slice ms[i].na ms[i].notes.length ms[i].ncap] 60 (0, 0)))
      have HJ2 := Lib.hid (HJ.out _ _ _ HJ1.out ((RowKit.Below.refl W.heap.size wr).alloc hWw (.cells #[.int .i64 ms[i].bar, .int .i64 ms[i].key, .int .i64 ms[i].len.n, .int .i64 ms[i].len.d, .slice ms[i].na ms[i].notes.length ms[i].ncap] 60 (0, 0))))
      have HK2 := Lib.hid (HKc.out.own ((RowKit.Below.refl W.heap.size wr).alloc hWw (.cells #[.int .i64 ms[i].bar, .int .i64 ms[i].key, .int .i64 ms[i].len.n, .int .i64 ms[i].len.d, .slice ms[i].na ms[i].notes.length ms[i].ncap] 60 (0, 0))))
      clear c0 c1 c2 c3 c4 hcv hcu hlv hlu hbl
      generalize ms[i] = m at *
      generalize wr.alloc (.cells #[.int .i64 m.bar, .int .i64 m.key, .int .i64 m.len.n, .int .i64 m.len.d, .slice m.na m.notes.length m.ncap] 60 (0, 0)) = W4 at *
      generalize wr.heap.size = mb at *
      have hc6 := box_cells HX6.out
      have HMb := Lib.hid (HNs.out mb hWw)
      go_wp2
      clear hc6
      go_loopw [23] (fun s23 wi => ∃ (k : Nat) (ys : List (SndR ms)), k ≤ m.notes.length ∧ s23 = .int .i64 k ∧ Hid (ys.map Subtype.val = sndL (ms.map Me.says) F (i - F) ++ (m.notes.take k).map fun w => (i, w)) ∧ wi.heap[mb]? = some (.cells #[.int .i64 m.bar, .int .i64 m.key, .int .i64 m.len.n, .int .i64 m.len.d, .slice m.na m.notes.length m.ncap] 60 (0, 0)) ∧ J ys wi ∧ KeptC S W wi) (fun s23 _ => m.notes.length - (intOf s23).toNat)
      case atStart => exact ⟨0, xs, Nat.zero_le _, rfl, Lib.hid (by simpa using HXs.out), HX6.out, HJ2.out, HK2.out⟩
      case round =>
        obtain ⟨k, ys, hk, rfl, hys, hmb, hj, hkc⟩ := hrel
        have HYs := Lib.hid hys.out; have HM6 := Lib.hid hmb; have HJy := Lib.hid hj; have HKy := Lib.hid hkc
        have hWi := hkc.size
        clear hys hmb hj hkc HX6 HJ2 HK2
        by_cases hlt2 : k < m.notes.length
        · obtain ⟨b2, off2, e2, _, d0, d1, d2, d3, d4, d5, d6, d7, d8, d9⟩ := (HWr.out wr HKy.out).get k hlt2
          have hyl : ys.length < 1000000000000 := by
            have h1 := congrArg List.length HYs.out
            rw [List.length_map, List.length_append, List.length_map, List.length_take] at h1
            have h2 := HLn.out
            omega
          have HEk := Lib.hid (HEn.out m.notes[k] (List.getElem_mem hlt2))
          obtain ⟨y, hy1, hy2⟩ : ∃ y : SndR ms, y.1 = (i, m.notes[k]) ∧ ∀ W1, J ys W1 → YieldAt Fence.wide (n - 1) Tryz.prog lo #[.agg #[.int .i64 (i : Int), .int .i64 m.notes[k].start.n, .int .i64 m.notes[k].start.d], .agg #[.int .i64 (endQ i m.len m.notes[k]).bar, .int .i64 (endQ i m.len m.notes[k]).at_.n, .int .i64 (endQ i m.len m.notes[k]).at_.d]] W1 fun e W' => (e = .returned (.bool true) ∧ J (ys ++ [y]) W' ∧ KeptC S W1 W') ∨ (e = .returned (.bool false) ∧ Jx (ys ++ [y]) W') :=
            ⟨⟨(i, m.notes[k]), HNv.out k hlt2⟩, rfl, fun W1 hj => HY2.out ys k hlt2 W1 hj hyl⟩
          have HYv := Lib.hid hy1; have HYk := Lib.hid hy2
          clear hy1 hy2
          have HTk := Lib.hid (show m.notes.take (k + 1) = m.notes.take k ++ [m.notes[k]] from List.take_succ_eq_append_getElem hlt2)
          rw [e2]
          have hc6 := box_cells HM6.out
          generalize m.notes[k] = x at *
          go_upto_region 7 with (fail)
          have HX8 := Lib.hid (heap_alloc_new wr (.cells #[.int .i64 x.id, .int .i64 x.voice, .int .i64 x.ossia, .int .i64 x.start.n, .int .i64 x.start.d, .int .i64 x.len.n, .int .i64 x.len.d, .int .i64 x.pitch.s, .int .i64 x.pitch.a, .int .i64 x.pitch.o] 64))
          replace HM6 := Lib.hid (up_alloc HM6.out (.cells #[.int .i64 x.id, .int .i64 x.voice, .int .i64 x.ossia, .int .i64 x.start.n, .int .i64 x.start.d, .int .i64 x.len.n, .int .i64 x.len.d, .int .i64 x.pitch.s, .int .i64 x.pitch.a, .int .i64 x.pitch.o] 64))
          replace HJy := Lib.hid (HJ.out _ _ _ HJy.out ((RowKit.Below.refl W.heap.size wr).alloc hWi (.cells #[.int .i64 x.id, .int .i64 x.voice, .int .i64 x.ossia, .int .i64 x.start.n, .int .i64 x.start.d, .int .i64 x.len.n, .int .i64 x.len.d, .int .i64 x.pitch.s, .int .i64 x.pitch.a, .int .i64 x.pitch.o] 64)))
          replace HKy := Lib.hid (HKy.out.own ((RowKit.Below.refl W.heap.size wr).alloc hWi (.cells #[.int .i64 x.id, .int .i64 x.voice, .int .i64 x.ossia, .int .i64 x.start.n, .int .i64 x.start.d, .int .i64 x.len.n, .int .i64 x.len.d, .int .i64 x.pitch.s, .int .i64 x.pitch.a, .int .i64 x.pitch.o] 64)))
          clear d0 d1 d2 d3 d4 d5 d6 d7 d8 d9 hc6
          have hWi2 : W.heap.size ≤ (wr.alloc (.cells #[.int .i64 x.id, .int .i64 x.voice, .int .i64 x.ossia, .int .i64 x.start.n, .int .i64 x.start.d, .int .i64 x.len.n, .int .i64 x.len.d, .int .i64 x.pitch.s, .int .i64 x.pitch.a, .int .i64 x.pitch.o] 64)).heap.size := by simp; omega
          generalize wr.alloc (.cells #[.int .i64 x.id, .int .i64 x.voice, .int .i64 x.ossia, .int .i64 x.start.n, .int .i64 x.start.d, .int .i64 x.len.n, .int .i64 x.len.d, .int .i64 x.pitch.s, .int .i64 x.pitch.a, .int .i64 x.pitch.o] 64) = W7 at *
          generalize wr.heap.size = nb at *
          have hc6 := box_cells HM6.out; have hc8 := box_cells HX8.out
          rw [e2] at hc6 HEk
          have g0 := cell_regrown (hc8 0); have g1 := cell_regrown (hc8 1); have g2 := cell_regrown (hc8 2); have g3 := cell_regrown (hc8 3); have g4 := cell_regrown (hc8 4); have g5 := cell_regrown (hc8 5); have g6 := cell_regrown (hc8 6); have g7 := cell_regrown (hc8 7); have g8 := cell_regrown (hc8 8); have g9 := cell_regrown (hc8 9)
          have k0 := cell_regrown (hc6 0); have k1 := cell_regrown (hc6 1); have k2 := cell_regrown (hc6 2); have k3 := cell_regrown (hc6 3); have k4 := cell_regrown (hc6 4)
          refine (wpIn_wide (n := n)).1 ?_
          refine wide_tailB 9 (by kernel_rfl) (by kernel_rfl) ?_
          simp only [List.take_succ_cons, List.take_zero, List.drop_succ_cons, List.drop_zero]
          (repeat (go_big_quiet_step (first | (go_at_call 113; refine Calls.regrown_of (HEk.out _)))))
          refine wpQuiet_nil ?_
          intro w6 hb6
          replace HM6 := Lib.hid (blk_keep HM6.out hb6)
          replace HJy := Lib.hid (HJ.out _ _ _ HJy.out (hb6.mono hWi2)); replace HKy := Lib.hid (HKy.out.own (hb6.mono hWi2))
          clear hc6 hc8 g0 g1 g2 g3 g4 g5 g6 g7 g8 g9 k0 k1 k2 k3 k4 hb6 HX8
          obtain ⟨fn, tmps, assign, body, hy, hRd⟩ := HYk.out w6 HJy.out
          gi_wp2
          refine hRd.mono ?_
          rintro e W3 (⟨rfl, hJ3, hk3⟩ | ⟨rfl, hJx3⟩)
          · have HJ3 := Lib.hid hJ3; have HK3 := Lib.hid (HKy.out.trans hk3); have HM3 := Lib.hid (hk3.cells _ _ _ _ HMb.out HM6.out)
            clear hJ3 hk3
            gi_wp2
            go_wp2
            exact ⟨⟨k + 1, ys ++ [y], by omega, by go_num, Lib.hid (by rw [List.map_append, HYs.out, HTk.out, List.map_append, ← List.append_assoc]; simp [HYv.out]), (by rw [← e2]; exact HM3.out), HJ3.out, HK3.out⟩, by simp [intOf]; omega⟩
          · gi_wp2
            go_wp2
            refine bodyPost_ret (results_none rfl _ _ _) rfl ?_
            exact ⟨⟨_, rfl⟩, .inr ⟨_, hJx3⟩⟩
        · obtain rfl : k = m.notes.length := by omega
          have HF := Lib.hid (show ys.map Subtype.val = sndL (ms.map Me.says) F (i + 1 - F) by rw [HSu.out, HYs.out, List.take_length])
          go_wp2
          go_roundw
          case rel => exact ⟨i + 1, ys, by omega, by omega, by go_num, HF, HJy.out, HKy.out⟩
          case measure => simp [intOf]; omega
    · obtain rfl : i = U := by omega
      go_wp2
      go_end0
      exact ⟨⟨_, rfl⟩, .inl ⟨xs, HXs.out, HJ1.out⟩⟩
end Go.Proofs.YtcelciomhngajaaGreatDoor

