import Derived.Test.YtajijcfikihhjaaGreatDoorAAI
set_option linter.unusedSimpArgs false
set_option linter.unusedVariables false
set_option maxRecDepth 100000
set_option maxHeartbeats 16000000
namespace Go.Proofs.YtajijcfikihhjaaGreatDoor
open Go.RowKit Go.Sort Go.Shelf
theorem Rrepeats_any (l : List R3) (a : Option Addr) (cap : Nat) (bars : Int) (w : World) (hl : l.length ≤ 1000) (hm : R3At w a l) :
  Calls Tryz.prog 180 #[.slice a l.length cap, .int .i64 bars] w fun e w' => e = .returned (.bool (decide (l.length ≤ 100) && Zp bars 0 l)) ∧ RowKit.Below w.heap.size w w' := by
 by_cases h100 : l.length ≤ 100
 case neg =>
  have hg : (100 : Int) < (l.length : Int) := by omega
  have hd := decide_eq_false h100
  go_enter Tryz.func180, Tryz.ntmps180
  go_wp2
  go_ret
  exact ⟨Qf (by rw [hd]; rfl), RowKit.Below.refl _ _⟩
 have hg : ¬ (100 : Int) < (l.length : Int) := by omega
 rw [decide_eq_true h100]
 have HM := Qa hm
 clear hm h100
 go_enter Tryz.func180, Tryz.ntmps180
 go_wp2
 go_loopw [5, 6] (fun s5 s6 wi => ∃ (k : Nat) (last : Int), k ≤ l.length ∧ s6 = .int .i64 k ∧ s5 = .int .i64 last ∧ Hid (Zp bars 0 l = Zp bars last (l.drop k)) ∧ Below w.heap.size w wi) (fun _ s6 _ => l.length - (intOf s6).toNat)
 case atStart => exact ⟨0, 0, Nat.zero_le _, rfl, rfl, Qa rfl, Below.refl _ _⟩
 case round =>
  obtain ⟨k, last, hk, rfl, rfl, HR0, hb⟩ := hrel
  have HB := Qa hb
  clear hb
  by_cases hlt : k < l.length
  ·obtain ⟨b, off, hqa, _, e0, e1, e2⟩ := (HM.out.below HB.out).get k hlt
   have HR := Qa (show Zp bars 0 l = (!badR bars last l[k] && Zp bars l[k].y (l.drop (k + 1))) by rw [HR0.out, List.drop_eq_getElem_cons hlt]; rfl)
   have hli : (k : Int) < (l.length : Int) := by omega
   subst hqa
   clear HR0
   generalize l[k] = r at *
   obtain ⟨x, y, z⟩ := r
   dsimp only at *
   by_cases h1 : x < last
   ·(have HF := Qa (show Zp bars 0 l = false by rw [HR.out]; simp [badR, *]); clear HR; have g0 := cell_regrown e0; have g1 := cell_regrown e1; have g2 := cell_regrown e2; go_upto_region 7 with (fail); refine Qn (by kernel_rfl) (by kernel_rfl) ?_; (repeat (go_big_quiet_step (fail))); refine wpQuiet_nil ?_; intro w10 hb; clear e0 e1 e2 g0 g1 g2; go_wp2; go_ret; exact ⟨Qf (by simp [HF.out]), HB.out.trans (hb.mono HB.out.size)⟩)
   by_cases h2 : y ≤ x
   ·(have HF := Qa (show Zp bars 0 l = false by rw [HR.out]; simp [badR, *]); clear HR; have g0 := cell_regrown e0; have g1 := cell_regrown e1; have g2 := cell_regrown e2; go_upto_region 7 with (fail); refine Qn (by kernel_rfl) (by kernel_rfl) ?_; (repeat (go_big_quiet_step (fail))); refine wpQuiet_nil ?_; intro w10 hb; clear e0 e1 e2 g0 g1 g2; go_wp2; go_ret; exact ⟨Qf (by simp [HF.out]), HB.out.trans (hb.mono HB.out.size)⟩)
   by_cases h3 : bars < y
   ·(have HF := Qa (show Zp bars 0 l = false by rw [HR.out]; simp [badR, *]); clear HR; have g0 := cell_regrown e0; have g1 := cell_regrown e1; have g2 := cell_regrown e2; go_upto_region 7 with (fail); refine Qn (by kernel_rfl) (by kernel_rfl) ?_; (repeat (go_big_quiet_step (fail))); refine wpQuiet_nil ?_; intro w10 hb; clear e0 e1 e2 g0 g1 g2; go_wp2; go_ret; exact ⟨Qf (by simp [HF.out]), HB.out.trans (hb.mono HB.out.size)⟩)
   by_cases h4 : z < 1
   ·(have HF := Qa (show Zp bars 0 l = false by rw [HR.out]; simp [badR, *]); clear HR; have g0 := cell_regrown e0; have g1 := cell_regrown e1; have g2 := cell_regrown e2; go_upto_region 7 with (fail); refine Qn (by kernel_rfl) (by kernel_rfl) ?_; (repeat (go_big_quiet_step (fail))); refine wpQuiet_nil ?_; intro w10 hb; clear e0 e1 e2 g0 g1 g2; go_wp2; go_ret; exact ⟨Qf (by simp [HF.out]), HB.out.trans (hb.mono HB.out.size)⟩)
   by_cases h5 : 9 < z
   ·(have HF := Qa (show Zp bars 0 l = false by rw [HR.out]; simp [badR, *]); clear HR; have g0 := cell_regrown e0; have g1 := cell_regrown e1; have g2 := cell_regrown e2; go_upto_region 7 with (fail); refine Qn (by kernel_rfl) (by kernel_rfl) ?_; (repeat (go_big_quiet_step (fail))); refine wpQuiet_nil ?_; intro w10 hb; clear e0 e1 e2 g0 g1 g2; go_wp2; go_ret; exact ⟨Qf (by simp [HF.out]), HB.out.trans (hb.mono HB.out.size)⟩)
   have HF := Qa (show Zp bars 0 l = Zp bars y (l.drop (k + 1)) by rw [HR.out]; simp [badR, *])
   clear HR
   have g0 := cell_regrown e0; have g1 := cell_regrown e1; have g2 := cell_regrown e2
   go_upto_region 7 with (fail)
   refine Qn (by kernel_rfl) (by kernel_rfl) ?_
   (repeat (go_big_quiet_step (fail)))
   refine wpQuiet_nil ?_
   intro w10 hb
   have e1' := Qq e1 hb
   clear e0 e1 e2 g0 g1 g2
   go_wp2
   go_roundw
   case rel => exact ⟨k + 1, y, by omega, by go_num, rfl, HF, HB.out.trans (hb.mono HB.out.size)⟩
   case measure => simp [intOf]; omega
  ·have HF := Qa (show Zp bars 0 l = true by rw [HR0.out, List.drop_eq_nil_of_le (by omega)]; rfl)
   go_wp2
   go_ret
   exact ⟨Qf (by simp [HF.out]), HB.out⟩
theorem Rendings_any (f : Fo) (q : Fp) (w : World) (hf : FoFew f) (hm0 : R3At w q.ra f.reps) (hm : R3At w q.ea f.ends) :
  Calls Tryz.prog 181 #[.agg #[.int .i64 f.bars, .slice q.ra f.reps.length q.rc, .slice q.ea f.ends.length q.ec, .int .i64 f.jump.x, .int .i64 f.jump.y, .int .i64 f.jump.z, .slice q.ca f.cuts.length q.cc]] w fun e w' => e = .returned (.bool (decide (f.ends.length ≤ 100) && Zx f.reps 0 f.ends)) ∧ RowKit.Below w.heap.size w w' := by
 have hx := heap_alloc_new w (.cells #[.int .i64 f.bars, .slice q.ra f.reps.length q.rc, .slice q.ea f.ends.length q.ec, .int .i64 f.jump.x, .int .i64 f.jump.y, .int .i64 f.jump.z, .slice q.ca f.cuts.length q.cc] 109)
 have hb := (RowKit.Below.refl w.heap.size w).alloc (Nat.le_refl _) (.cells #[.int .i64 f.bars, .slice q.ra f.reps.length q.rc, .slice q.ea f.ends.length q.ec, .int .i64 f.jump.x, .int .i64 f.jump.y, .int .i64 f.jump.z, .slice q.ca f.cuts.length q.cc] 109)
 have hfe := hf.ends
 have HX := Qa hx; have HB := Qa hb
 have HI := Qa (fun x y V (hV : Below w.heap.size w V) => Rinside_any f.reps q.ra q.rc x y V hf.reps (hm0.below hV))
 have HM := Qa hm
 clear hx hb hm hm0 hf
 go_enter Tryz.func181, Tryz.ntmps181
 go_upto_region 1 with (fail)
 generalize w.alloc (.cells #[.int .i64 f.bars, .slice q.ra f.reps.length q.rc, .slice q.ea f.ends.length q.ec, .int .i64 f.jump.x, .int .i64 f.jump.y, .int .i64 f.jump.z, .slice q.ca f.cuts.length q.cc] 109) = W at *
 have hc := Qb HX.out
 by_cases h100 : f.ends.length ≤ 100
 case neg =>
  have hg : (100 : Int) < (f.ends.length : Int) := by omega
  have hd := decide_eq_false h100
  go_wp2
  go_ret
  exact ⟨Qf (by rw [hd]; rfl), HB.out⟩
 have hg : ¬ (100 : Int) < (f.ends.length : Int) := by omega
 have HD := Qa (decide_eq_true h100)
 clear h100
 go_wp2
 clear hc
 go_loopw [3, 4] (fun s3 s4 wi => ∃ (k : Nat) (last : Int), k ≤ f.ends.length ∧ s4 = .int .i64 k ∧ s3 = .int .i64 last ∧ Hid (Zx f.reps 0 f.ends = Zx f.reps last (f.ends.drop k)) ∧ wi.heap[w.heap.size]? = some (.cells #[.int .i64 f.bars, .slice q.ra f.reps.length q.rc, .slice q.ea f.ends.length q.ec, .int .i64 f.jump.x, .int .i64 f.jump.y, .int .i64 f.jump.z, .slice q.ca f.cuts.length q.cc] 109) ∧ Below w.heap.size w wi) (fun _ s4 _ => f.ends.length - (intOf s4).toNat)
 case atStart => exact ⟨0, 0, Nat.zero_le _, rfl, rfl, Qa rfl, HX.out, HB.out⟩
 case round =>
  clear HX HB
  obtain ⟨k, last, hk, rfl, rfl, HR0, hx, hb⟩ := hrel
  have HB := Qa hb; have HX := Qa hx
  clear hb hx
  have hc := Qb HX.out
  by_cases hlt : k < f.ends.length
  ·obtain ⟨b, off, hqa, _, e0, e1, e2⟩ := (HM.out.below HB.out).get k hlt
   have HR := Qa (show Zx f.reps 0 f.ends = (!badE f.reps last f.ends[k] && Zx f.reps f.ends[k].y (f.ends.drop (k + 1))) by rw [HR0.out, List.drop_eq_getElem_cons hlt]; rfl)
   have hli : (k : Int) < (f.ends.length : Int) := by omega
   clear HR0
   rw [hqa] at hc
   clear hqa
   generalize f.ends[k] = r at *
   obtain ⟨x, y, z⟩ := r
   dsimp only at *
   go_upto_region 8 with (fail)
   have HXe := Qa (heap_alloc_new wr (.cells #[.int .i64 x, .int .i64 y, .int .i64 z] 255))
   have hb5 := (Below.refl wr.heap.size wr).alloc (Nat.le_refl _) (.cells #[.int .i64 x, .int .i64 y, .int .i64 z] 255)
   replace HX := bk HX hb5; replace HB := bu HB hb5
   clear hb5 e0 e1 e2 hc
   generalize wr.alloc (.cells #[.int .i64 x, .int .i64 y, .int .i64 z] 255) = W5 at *
   generalize wr.heap.size = rb at *
   have hc := Qb HX.out; have hd := Qb HXe.out
   by_cases h1 : x < last
   ·(have HF := Qa (show Zx f.reps 0 f.ends = false by rw [HR.out]; simp [badE, *]); clear HR; go_wp2_with ((go_at_call 221; refine (HI.out x y _ HB.out).mono ?_; rintro e w6 ⟨rfl, hb⟩; clear hc hd; replace HX := bk HX hb; replace HXe := bk HXe hb; replace HB := bu HB hb; clear hb; have hc := Qb HX.out; have hd := Qb HXe.out)); go_ret; exact ⟨Qf (by rw [HD.out, HF.out]; first | done | rfl), HB.out⟩)
   by_cases h2 : y ≤ x
   ·(have HF := Qa (show Zx f.reps 0 f.ends = false by rw [HR.out]; simp [badE, *]); clear HR; go_wp2_with ((go_at_call 221; refine (HI.out x y _ HB.out).mono ?_; rintro e w6 ⟨rfl, hb⟩; clear hc hd; replace HX := bk HX hb; replace HXe := bk HXe hb; replace HB := bu HB hb; clear hb; have hc := Qb HX.out; have hd := Qb HXe.out)); go_ret; exact ⟨Qf (by rw [HD.out, HF.out]; first | done | rfl), HB.out⟩)
   cases h3 : Ze f.reps x y
   ·have HI2 := Qa (HI.out x y _ HB.out)
    rw [h3] at HI2
    have HF := Qa (show Zx f.reps 0 f.ends = false by rw [HR.out]; simp [badE, *])
    clear HR h3 HI
    go_wp2_with (go_at_call 221; refine HI2.out.mono ?_; rintro e w6 ⟨rfl, hb⟩; replace HB := bu HB hb)
    go_ret
    exact ⟨Qf (by rw [HD.out, HF.out]; first | done | rfl), HB.out⟩
   have HI2 := Qa (HI.out x y _ HB.out)
   rw [h3] at HI2
   have HR3 := Qa (show badE f.reps last ⟨x, y, z⟩ = (decide (z < 1) || decide (9 < z)) by simp [badE, *])
   clear h3 HI
   by_cases h4 : z < 1
   ·have HF := Qa (show Zx f.reps 0 f.ends = false by rw [HR.out, HR3.out, decide_eq_true h4]; rfl)
    clear HR
    go_wp2_with (go_at_call 221; refine HI2.out.mono ?_; rintro e w6 ⟨rfl, hb⟩; clear hc hd; replace HX := bk HX hb; replace HXe := bk HXe hb; replace HB := bu HB hb; clear hb; have hc := Qb HX.out; have hd := Qb HXe.out)
    go_ret
    exact ⟨Qf (by rw [HD.out, HF.out]; first | done | rfl), HB.out⟩
   by_cases h5 : 9 < z
   ·have HF := Qa (show Zx f.reps 0 f.ends = false by rw [HR.out, HR3.out, decide_eq_true h5, Bool.or_true]; rfl)
    clear HR
    go_wp2_with (go_at_call 221; refine HI2.out.mono ?_; rintro e w6 ⟨rfl, hb⟩; clear hc hd; replace HX := bk HX hb; replace HXe := bk HXe hb; replace HB := bu HB hb; clear hb; have hc := Qb HX.out; have hd := Qb HXe.out)
    go_ret
    exact ⟨Qf (by rw [HD.out, HF.out]; first | done | rfl), HB.out⟩
   have HF := Qa (show Zx f.reps 0 f.ends = Zx f.reps y (f.ends.drop (k + 1)) by rw [HR.out, HR3.out, decide_eq_false h4, decide_eq_false h5]; rfl)
   clear HR
   go_wp2_with (go_at_call 221; refine HI2.out.mono ?_; rintro e w6 ⟨rfl, hb⟩; clear hc hd; replace HX := bk HX hb; replace HXe := bk HXe hb; replace HB := bu HB hb; clear hb; have hc := Qb HX.out; have hd := Qb HXe.out)
   go_roundw
   case rel => exact ⟨k + 1, y, by omega, by go_num, rfl, HF, HX.out, HB.out⟩
   case measure => simp [intOf]; omega
  ·have HF := Qa (show Zx f.reps 0 f.ends = true by rw [HR0.out, List.drop_eq_nil_of_le (by omega)]; rfl)
   go_wp2
   go_ret
   exact ⟨Qf (by rw [HD.out, HF.out]; first | done | rfl), HB.out⟩
theorem Rjump_any (f : Fo) (q : Fp) (w : World) (hf : FoFew f) (hm : R3At w q.ra f.reps) :
  Calls Tryz.prog 182 #[.agg #[.int .i64 f.bars, .slice q.ra f.reps.length q.rc, .slice q.ea f.ends.length q.ec, .int .i64 f.jump.x, .int .i64 f.jump.y, .int .i64 f.jump.z, .slice q.ca f.cuts.length q.cc]] w fun e w' => e = .returned (.bool (Q5 f)) ∧ Below w.heap.size w w' := by
 have hx := heap_alloc_new w (.cells #[.int .i64 f.bars, .slice q.ra f.reps.length q.rc, .slice q.ea f.ends.length q.ec, .int .i64 f.jump.x, .int .i64 f.jump.y, .int .i64 f.jump.z, .slice q.ca f.cuts.length q.cc] 109)
 have hb := (Below.refl w.heap.size w).alloc (Nat.le_refl _) (.cells #[.int .i64 f.bars, .slice q.ra f.reps.length q.rc, .slice q.ea f.ends.length q.ec, .int .i64 f.jump.x, .int .i64 f.jump.y, .int .i64 f.jump.z, .slice q.ca f.cuts.length q.cc] 109)
 have HX := Qa hx; have HB := Qa hb
 have HWi := Qa (fun bar V (hV : Below w.heap.size w V) => Rwithin_any f.reps q.ra q.rc bar V hf.reps (hm.below hV))
 have HJ := Qa (show Q5 f = (decide ((⟨f.jump.x, f.jump.y, f.jump.z⟩ : R3) = ⟨0, 0, 0⟩) || (!badJ f && (!QO f.reps f.jump.x && !QO f.reps f.jump.y && !QO f.reps f.jump.z))) from rfl)
 have HJb := Qa (show badJ f = (decide (f.jump.x < 1) || decide (f.bars < f.jump.x) || decide (f.jump.y < 0) || decide (f.jump.x ≤ f.jump.y) || decide (f.jump.z ≤ f.jump.y) || decide (f.bars < f.jump.z)) from rfl)
 clear hx hb hm hf
 go_enter Tryz.func182, Tryz.ntmps182
 go_upto_region 1 with (fail)
 generalize w.alloc (.cells #[.int .i64 f.bars, .slice q.ra f.reps.length q.rc, .slice q.ea f.ends.length q.ec, .int .i64 f.jump.x, .int .i64 f.jump.y, .int .i64 f.jump.z, .slice q.ca f.cuts.length q.cc] 109) = W at *
 have hc := Qb HX.out
 go_upto_region 2 with (fail)
 have hx3 := heap_alloc_new W (.cells #[.int .i64 f.jump.x, .int .i64 f.jump.y, .int .i64 f.jump.z] 106)
 have hb3 := (Below.refl W.heap.size W).alloc (Nat.le_refl _) (.cells #[.int .i64 f.jump.x, .int .i64 f.jump.y, .int .i64 f.jump.z] 106)
 replace HX := bk HX hb3; replace HB := bu HB hb3; have HX3 := Qa hx3
 clear hb3 hc hx3
 generalize W.alloc (.cells #[.int .i64 f.jump.x, .int .i64 f.jump.y, .int .i64 f.jump.z] 106) = W3 at *
 generalize W.heap.size = jb at *
 have hc := Qb HX.out; have hd := Qb HX3.out
 generalize f.jump.x = x at *
 generalize f.jump.y = y at *
 generalize f.jump.z = z at *
 generalize f.bars = n at *
 have heq := fun W => eql_ju x y z 0 0 0 W
 generalize decide ((⟨x, y, z⟩ : R3) = ⟨0, 0, 0⟩) = J0 at *
 cases J0
 ·by_cases hbad : badJ f = true
  ·go_wp2_with ((go_at_call 222; refine (HWi.out _ _ HB.out).mono ?_; rintro e w6 ⟨rfl, hb⟩; clear hc hd; replace HX := bk HX hb; replace HX3 := bk HX3 hb; replace HB := bu HB hb; clear hb; have hc := Qb HX.out; have hd := Qb HX3.out))
   all_goals
    first
    | (go_ret; exact ⟨Qf (by rw [HJ.out, hbad]; rfl), HB.out⟩)
    | (exfalso; rw [HJb.out] at hbad; simp at hbad; omega)
  ·have hbf : badJ f = false := by simpa using hbad
   clear hbad
   go_wp2_with ((go_at_call 222; refine (HWi.out _ _ HB.out).mono ?_; rintro e w6 ⟨rfl, hb⟩; clear hc hd; replace HX := bk HX hb; replace HX3 := bk HX3 hb; replace HB := bu HB hb; clear hb; have hc := Qb HX.out; have hd := Qb HX3.out))
   all_goals
    first
    | (exfalso; rw [HJb.out] at hbf; simp at hbf; omega)
    | (go_ret; exact ⟨Qf (by rw [HJ.out, hbf]; simp [*]), HB.out⟩)
 ·go_wp2
  go_ret
  exact ⟨Qf (by rw [HJ.out]; rfl), HB.out⟩
theorem Rcut_any (f : Fo) (q : Fp) (c : R3) (w : World) :
  Calls Tryz.prog 183 #[.agg #[.int .i64 f.bars, .slice q.ra f.reps.length q.rc, .slice q.ea f.ends.length q.ec, .int .i64 f.jump.x, .int .i64 f.jump.y, .int .i64 f.jump.z, .slice q.ca f.cuts.length q.cc], R3V c] w fun e w' => e = .returned (.bool (cutB f c)) ∧ Below w.heap.size w w' := by
 obtain ⟨x, y, z⟩ := c
 unfold R3V
 obtain ⟨x1, x2, hb⟩ := box2 (w := w) (A := .cells #[.int .i64 f.bars, .slice q.ra f.reps.length q.rc, .slice q.ea f.ends.length q.ec, .int .i64 f.jump.x, .int .i64 f.jump.y, .int .i64 f.jump.z, .slice q.ca f.cuts.length q.cc] 109) (B := .cells #[.int .i64 x, .int .i64 y, .int .i64 z] 186) (Below.refl _ _)
 go_enter Tryz.func183, Tryz.ntmps183
 go_upto_region 1 with (fail)
 generalize (w.alloc (.cells #[.int .i64 f.bars, .slice q.ra f.reps.length q.rc, .slice q.ea f.ends.length q.ec, .int .i64 f.jump.x, .int .i64 f.jump.y, .int .i64 f.jump.z, .slice q.ca f.cuts.length q.cc] 109)).alloc (.cells #[.int .i64 x, .int .i64 y, .int .i64 z] 186) = W at *
 have hc := Qb x1; have hd := Qb x2
 go_wp2
 all_goals (go_ret; exact ⟨Qf (by unfold cutB; exact (by first | (simp [*]; done) | (simp [*]; omega) | (rw [Bool.eq_iff_iff]; simp [*]; done) | (rw [Bool.eq_iff_iff]; simp [*]; omega) | (rw [Bool.eq_iff_iff]; simp [*] <;> omega))), hb⟩)
theorem eltInA : Elt Tryz.prog 37 3 1 8 inRow := ⟨Tryz.underlying37, ⟨.int .i64 0, by kernel_rfl, rfl⟩, by decide, by decide, fun _ => rfl, fun x u hu => by simp [inRow] at hu; subst hu; rfl⟩
theorem Rpart_any (f : Fo) (q : Fp) (fr u : Int) (again : Bool) (w : World) (hf : FoFew f) (hr : ∀ r ∈ f.reps, 0 ≤ r.x ∧ r.x < r.y ∧ r.y ≤ f.bars ∧ 1 ≤ r.z ∧ r.z ≤ 9) (hfr : 0 ≤ fr) (hfr2 : fr ≤ f.bars) (hu : u ≤ f.bars) (hN : (Qu f (!again) fr u).length ≤ 20000) (hm : R3At w q.ra f.reps) (hm2 : R3At w q.ea f.ends) :
  Calls Tryz.prog 223 #[.agg #[.int .i64 f.bars, .slice q.ra f.reps.length q.rc, .slice q.ea f.ends.length q.ec, .int .i64 f.jump.x, .int .i64 f.jump.y, .int .i64 f.jump.z, .slice q.ca f.cuts.length q.cc], .int .i64 fr, .int .i64 u, .bool again] w fun e w' => ∃ v, e = .returned v ∧ OwnR w' w.heap.size 3 1 v ((Qu f (!again) fr u).map inRow) ∧ Below w.heap.size w w' := by
 have hx := heap_alloc_new w (.cells #[.int .i64 f.bars, .slice q.ra f.reps.length q.rc, .slice q.ea f.ends.length q.ec, .int .i64 f.jump.x, .int .i64 f.jump.y, .int .i64 f.jump.z, .slice q.ca f.cuts.length q.cc] 109)
 have hb := (RowKit.Below.refl w.heap.size w).alloc (Nat.le_refl _) (.cells #[.int .i64 f.bars, .slice q.ra f.reps.length q.rc, .slice q.ea f.ends.length q.ec, .int .i64 f.jump.x, .int .i64 f.jump.y, .int .i64 f.jump.z, .slice q.ca f.cuts.length q.cc] 109)
 have HR := Qa (fun V (hV : Below w.heap.size w V) => hm.below hV)
 have HSt := Qa (fun bar V (hV : Below w.heap.size w V) => starts_any f q bar V hf (hm.below hV))
 have HPl := Qa (fun bar pass V (hV : Below w.heap.size w V) => played_any f q bar pass V hf (hm2.below hV))
 have HF := Qa hf; have HRr := Qa hr
 have hfb := hf.bars
 have HX := Qa hx; have HB := Qa hb
 clear hx hb hm hm2 hf hr
 go_enter Tryz.func223, Tryz.ntmps223
 go_upto_region 1 with (fail)
 have hWs : w.heap.size < (w.alloc (.cells #[.int .i64 f.bars, .slice q.ra f.reps.length q.rc, .slice q.ea f.ends.length q.ec, .int .i64 f.jump.x, .int .i64 f.jump.y, .int .i64 f.jump.z, .slice q.ca f.cuts.length q.cc] 109)).heap.size := by simp
 generalize w.alloc (.cells #[.int .i64 f.bars, .slice q.ra f.reps.length q.rc, .slice q.ea f.ends.length q.ec, .int .i64 f.jump.x, .int .i64 f.jump.y, .int .i64 f.jump.z, .slice q.ca f.cuts.length q.cc] 109) = W at *
 obtain ⟨all, hall⟩ : ∃ all, (!again) = all := ⟨_, rfl⟩
 rw [hall] at hN
 go_wp2
 go_loopg [9, 10] (u - fr).toNat (fun g s9 s10 wr => ∃ (bar : Int) (xs : List Int), g = (u - bar).toNat ∧ fr ≤ bar ∧ bar ≤ f.bars ∧ s10 = .int .i64 bar ∧ Hid (xs ++ Qu f all bar u = Qu f all fr u) ∧ OwnR wr W.heap.size 3 1 s9 (xs.map inRow) ∧ wr.heap[w.heap.size]? = some (.cells #[.int .i64 f.bars, .slice q.ra f.reps.length q.rc, .slice q.ea f.ends.length q.ec, .int .i64 f.jump.x, .int .i64 f.jump.y, .int .i64 f.jump.z, .slice q.ca f.cuts.length q.cc] 109) ∧ Below w.heap.size w wr ∧ W.heap.size ≤ wr.heap.size)
 case atStart => exact ⟨fr, [], rfl, Int.le_refl _, hfr2, rfl, Qa rfl, OwnR.nil _ _ _ _, HX.out, HB.out, Nat.le_refl _⟩
 case round =>
  obtain ⟨bar, xs, hg, hb1, hb2, rfl, HP, ho, hxf, hk, hzW⟩ := hrel
  have HXf := Qa hxf; have HO := Qa ho; have HK := Qa (⟨hk, hzW⟩ : Below w.heap.size w wr ∧ W.heap.size ≤ wr.heap.size); have HG := Qa hg
  clear hxf ho hk hzW hg HX
  have hco := Qb HXf.out
  by_cases hlt : bar < u
  ·have hcall := HSt.out bar wr HK.out.1
   rcases startI_idx f.reps bar with ⟨e1, e2⟩ | ⟨k, hk, e1, e2⟩
   ·rw [e2] at hcall
    have HP2 := Qa (show xs ++ bar :: Qu f all (bar + 1) u = Qu f all fr u by rw [← partL_none hlt e1]; exact HP.out)
    have hxl : xs.length + 1 ≤ 20000 := by
     have h1 := congrArg List.length HP2.out
     rw [List.length_append, List.length_cons] at h1
     omega
    have HCl := Qa hcall
    have hw1 : IntKind.i64.wrap (bar + 1) = bar + 1 := IntWalk.i64_in _ (by omega)
    clear hcall HP e1 e2
    go_wp2_with (first | (go_at_call 234; refine (HCl.out).mono ?_; rintro e w3 ⟨rfl, hb⟩; clear hco; replace HXf := bk HXf hb; replace HO := Qa (HO.out.below hb); replace HK := Qa (⟨HK.out.1.trans (hb.mono HK.out.1.size), Nat.le_trans HK.out.2 hb.size⟩ : Below w.heap.size w w3 ∧ W.heap.size ≤ w3.heap.size); clear hb; have hco := Qb HXf.out) | (at_builtin; refine appE eltInA rfl (.tmp 25) (.tmp 27) rfl W.heap.size _ xs rfl (HO.out.below (Qg _)) _ _ _ [bar] rfl rfl (fun e => by cases e) (eltInA.new _ _ _ _ rfl) (by simp; omega) (by have := HK.out.2; simp; omega) ?_; intro v5 w5 ho5 hg5; have HO5 := Qa ho5; have HX5 := Qa ((hg5.block _ (by have := Qd HXf.out; simp; omega) (HO.out.neBlk hWs)).trans (Qj HXf.out _)); have HK5 := Qa (⟨(HK.out.1.alloc HK.out.1.size (.cells #[.int .i64 bar] 3)).grown hg5 (by have := HK.out.1.size; simp; omega) (fun k e => by have := (HO.out.lt k e).1; omega), by have := HK.out.2; have := hg5.size; simp at this; omega⟩ : Below w.heap.size w w5 ∧ W.heap.size ≤ w5.heap.size)))
    go_roundg (u - (bar + 1)).toNat
    case measure => have := HG.out; omega
    case rel => exact ⟨bar + 1, xs ++ [bar], rfl, by omega, by omega, rfl, Qa (by rw [List.append_assoc]; exact HP2.out), HO5.out, HX5.out, HK5.out.1, HK5.out.2⟩
   ·rw [e2] at hcall
    have hrk := HRr.out f.reps[k] (List.getElem_mem hk)
    have hst := (ZI e1).2
    have HP2 := Qa (show xs ++ (Ui f all f.reps[k] ++ Qu f all f.reps[k].y u) = Qu f all fr u by rw [← partL_some (fun r hm => (HRr.out r hm).2.1) hlt e1]; exact HP.out)
    have HCl := Qa hcall
    have hkl : k < 1000 := by have := HF.out.reps; omega
    have hki : (k : Int) < (f.reps.length : Int) := by omega
    have hk0 : ¬ (k : Int) < 0 := by omega
    clear hcall HP e1 e2
    go_upto_region 8 with ((go_at_call 234; refine (HCl.out).mono ?_; rintro e w3 ⟨rfl, hb⟩; clear hco; replace HXf := bk HXf hb; replace HO := Qa (HO.out.below hb); replace HK := Qa (⟨HK.out.1.trans (hb.mono HK.out.1.size), Nat.le_trans HK.out.2 hb.size⟩ : Below w.heap.size w w3 ∧ W.heap.size ≤ w3.heap.size); clear hb; have hco := Qb HXf.out))
    obtain ⟨rb0, ro, hqa, _, d0, d1, d2⟩ := (HR.out _ HK.out.1).get k hk
    rw [hqa] at hco
    clear hqa
    generalize f.reps[k] = r at *
    obtain ⟨rx, ry, rz⟩ := r
    dsimp only at *
    replace hst := hst.symm
    subst hst
    go_upto_region 9 with (fail)
    have HXr := Qa (heap_alloc_new w3 (.cells #[.int .i64 bar, .int .i64 ry, .int .i64 rz] 254))
    have hb := (RowKit.Below.refl w3.heap.size w3).alloc (Nat.le_refl _) (.cells #[.int .i64 bar, .int .i64 ry, .int .i64 rz] 254)
    have hrW : W.heap.size ≤ w3.heap.size := HK.out.2
    clear hco d0 d1 d2
    replace HXf := bk HXf hb; replace HO := Qa (HO.out.below hb); replace HK := Qa (⟨HK.out.1.trans (hb.mono HK.out.1.size), Nat.le_trans HK.out.2 hb.size⟩ : Below w.heap.size w (w3.alloc (.cells #[.int .i64 bar, .int .i64 ry, .int .i64 rz] 254)) ∧ W.heap.size ≤ (w3.alloc (.cells #[.int .i64 bar, .int .i64 ry, .int .i64 rz] 254)).heap.size)
    clear hb
    generalize w3.alloc (.cells #[.int .i64 bar, .int .i64 ry, .int .i64 rz] 254) = W7 at *
    generalize w3.heap.size = rb at *
    have hcr := Qb HXr.out
    have HFp := Qa (show Zw all ⟨bar, ry, rz⟩ = if all then 1 else rz from rfl)
    go_upto_if 36 with (fail)
    go_cut [13] from 17 to 63 (fun s13 V => s13 = .int .i64 (Zw all ⟨bar, ry, rz⟩) ∧ V = W7)
    case first =>
     cases again
     all_goals
      subst hall
      go_wp2
      go_meet
      case rel => exact ⟨by rw [HFp.out]; rfl, rfl⟩
    case rest =>
    obtain ⟨rfl, rfl⟩ := hcut
    have hfp : 1 ≤ Zw all ⟨bar, ry, rz⟩ ∧ Zw all ⟨bar, ry, rz⟩ ≤ rz := by rw [HFp.out]; split <;> omega
    have HP3 := Qa (show xs ++ (ZJ f ⟨bar, ry, rz⟩ (Zw all ⟨bar, ry, rz⟩) (rz - Zw all ⟨bar, ry, rz⟩ + 1).toNat ++ Qu f all ry u) = Qu f all fr u from HP2.out)
    clear HFp HP2
    generalize Zw all ⟨bar, ry, rz⟩ = p0 at *
    clear hcr
    go_wp2
    go_loopw [9, 14] (fun s9 s14 wi => ∃ (p : Int) (ys : List Int), s14 = .int .i64 p ∧ 1 ≤ p ∧ p ≤ rz + 1 ∧ Hid (ys ++ (ZJ f ⟨bar, ry, rz⟩ p (rz - p + 1).toNat ++ Qu f all ry u) = Qu f all fr u) ∧ wi.heap[rb]? = some (.cells #[.int .i64 bar, .int .i64 ry, .int .i64 rz] 254) ∧ wi.heap[w.heap.size]? = some (.cells #[.int .i64 f.bars, .slice q.ra f.reps.length q.rc, .slice q.ea f.ends.length q.ec, .int .i64 f.jump.x, .int .i64 f.jump.y, .int .i64 f.jump.z, .slice q.ca f.cuts.length q.cc] 109) ∧ OwnR wi W.heap.size 3 1 s9 (ys.map inRow) ∧ Below w.heap.size w wi ∧ W.heap.size ≤ wi.heap.size) (fun _ s14 _ => (rz + 1 - intOf s14).toNat)
    case atStart => exact ⟨p0, xs, rfl, by omega, by omega, HP3, HXr.out, HXf.out, HO.out, HK.out.1, HK.out.2⟩
    case round =>
     clear HXf HO HK HXr HP3
     obtain ⟨p, ys, rfl, hp1, hp2, HPp, hxr, hxf, ho, hk1, hk2⟩ := hrel
     have HXr := Qa hxr; have HXf := Qa hxf; have HO := Qa ho; have HK := Qa (⟨hk1, hk2⟩ : Below w.heap.size w wr ∧ W.heap.size ≤ wr.heap.size)
     clear hxr hxf ho hk1 hk2
     have hcr := Qb HXr.out
     by_cases hltp : p ≤ rz
     ·have HP4 := Qa (show ys ++ (rowI f p bar (ry - bar).toNat ++ (ZJ f ⟨bar, ry, rz⟩ (p + 1) (rz - p).toNat ++ Qu f all ry u)) = Qu f all fr u from by
       have h := HPp.out
       rw [show (rz - p + 1).toNat = (rz - p).toNat + 1 by omega, Jc, List.append_assoc] at h
       exact h)
      clear HPp
      go_wp2
      clear hcr
      go_loopw [9, 15] (fun s9 s15 wi => ∃ (i : Int) (zs : List Int), s15 = .int .i64 i ∧ bar ≤ i ∧ i ≤ ry ∧ Hid (zs ++ (rowI f p i (ry - i).toNat ++ (ZJ f ⟨bar, ry, rz⟩ (p + 1) (rz - p).toNat ++ Qu f all ry u)) = Qu f all fr u) ∧ wi.heap[rb]? = some (.cells #[.int .i64 bar, .int .i64 ry, .int .i64 rz] 254) ∧ wi.heap[w.heap.size]? = some (.cells #[.int .i64 f.bars, .slice q.ra f.reps.length q.rc, .slice q.ea f.ends.length q.ec, .int .i64 f.jump.x, .int .i64 f.jump.y, .int .i64 f.jump.z, .slice q.ca f.cuts.length q.cc] 109) ∧ OwnR wi W.heap.size 3 1 s9 (zs.map inRow) ∧ Below w.heap.size w wi ∧ W.heap.size ≤ wi.heap.size) (fun _ s15 _ => (ry - intOf s15).toNat)
      case atStart => exact ⟨bar, ys, rfl, Int.le_refl _, by omega, HP4, HXr.out, HXf.out, HO.out, HK.out.1, HK.out.2⟩
      case round =>
       clear HXf HO HK HXr HP4
       obtain ⟨i, zs, rfl, hi1, hi2, HPi, hxr, hxf, ho, hk1, hk2⟩ := hrel
       have HXr := Qa hxr; have HXf := Qa hxf; have HO := Qa ho; have HK := Qa (⟨hk1, hk2⟩ : Below w.heap.size w wr ∧ W.heap.size ≤ wr.heap.size)
       clear hxr hxf ho hk1 hk2
       have hcr := Qb HXr.out; have hco := Qb HXf.out
       have hwi1 : IntKind.i64.wrap (i + 1) = i + 1 := IntWalk.i64_in _ (by omega)
       by_cases hlti : i < ry
       ·have HRw := Qa (show rowI f p i (ry - i).toNat = if endB f.ends i p then rowI f p (i + 1) (ry - (i + 1)).toNat else i :: rowI f p (i + 1) (ry - (i + 1)).toNat by rw [show (ry - i).toNat = (ry - (i + 1)).toNat + 1 by omega, rowI_succ])
        have HE := Qa (HPl.out i p _ HK.out.1)
        cases hen : endB f.ends i p
        ·rw [hen] at HE HRw
         have HP5 := Qa (show zs ++ i :: (rowI f p (i + 1) (ry - (i + 1)).toNat ++ (ZJ f ⟨bar, ry, rz⟩ (p + 1) (rz - p).toNat ++ Qu f all ry u)) = Qu f all fr u from by have h := HPi.out; rw [HRw.out] at h; exact h)
         have hzl : zs.length + 1 ≤ 20000 := by
          have h1 := congrArg List.length HP5.out
          rw [List.length_append, List.length_cons] at h1
          omega
         clear hen HPi HRw
         go_upto_region 19 with (go_at_call 235; refine HE.out.mono ?_; rintro e w8 ⟨rfl, hb⟩; clear hcr hco; replace HXr := bk HXr hb; replace HXf := bk HXf hb; replace HO := Qa (HO.out.below hb); replace HK := Qa (⟨HK.out.1.trans (hb.mono HK.out.1.size), Nat.le_trans HK.out.2 hb.size⟩ : Below w.heap.size w w8 ∧ W.heap.size ≤ w8.heap.size); clear hb)
         go_wp2_with ((at_builtin; refine appE eltInA rfl (.tmp 58) (.tmp 60) rfl W.heap.size _ zs rfl (HO.out.below (Qg _)) _ _ _ [i] rfl rfl (fun e => by cases e) (eltInA.new _ _ _ _ rfl) (by simp; omega) (by have := HK.out.2; simp; omega) ?_; intro v5 w5 ho5 hg5; have HO5 := Qa ho5; have HX5 := Qa ((hg5.block _ (by have := Qd HXf.out; simp; omega) (HO.out.neBlk hWs)).trans (Qj HXf.out _)); have HK5 := Qa (⟨(HK.out.1.alloc HK.out.1.size (.cells #[.int .i64 i] 3)).grown hg5 (by have := HK.out.1.size; simp; omega) (fun k e => by have := (HO.out.lt k e).1; omega), by have := HK.out.2; have := hg5.size; simp at this; omega⟩ : Below w.heap.size w w5 ∧ W.heap.size ≤ w5.heap.size); have kc := KeptC.grown (Fr := fun _ T => T ≠ 3) hg5 (fun k e cs T fr hk hne => by
          obtain ⟨cur, hc⟩ := (HO.out.below (Qg (.cells #[.int .i64 i] 3))).isCells e
          rw [hk] at hc; cases hc; exact hne rfl); have HXr5 := Qa (kc.cells _ _ _ _ (by decide) (Qj HXr.out _))))
         exact ⟨⟨i + 1, zs ++ [i], rfl, by omega, by omega, Qa (by rw [List.append_assoc]; exact HP5.out), HXr5.out, HX5.out, HO5.out, HK5.out.1, HK5.out.2⟩, by simp [intOf]; omega⟩
        ·rw [hen] at HE HRw
         have HP5 := Qa (show zs ++ (rowI f p (i + 1) (ry - (i + 1)).toNat ++ (ZJ f ⟨bar, ry, rz⟩ (p + 1) (rz - p).toNat ++ Qu f all ry u)) = Qu f all fr u from by have h := HPi.out; rw [HRw.out] at h; exact h)
         clear hen HPi HRw
         go_wp2_with (go_at_call 235; refine HE.out.mono ?_; rintro e w8 ⟨rfl, hb⟩; clear hcr hco; replace HXr := bk HXr hb; replace HXf := bk HXf hb; replace HO := Qa (HO.out.below hb); replace HK := Qa (⟨HK.out.1.trans (hb.mono HK.out.1.size), Nat.le_trans HK.out.2 hb.size⟩ : Below w.heap.size w w8 ∧ W.heap.size ≤ w8.heap.size); clear hb)
         exact ⟨⟨i + 1, zs, rfl, by omega, by omega, HP5, HXr.out, HXf.out, HO.out, HK.out.1, HK.out.2⟩, by simp [intOf]; omega⟩
       ·obtain rfl : i = ry := by omega
        have HP6 := Qa (show zs ++ (ZJ f ⟨bar, i, rz⟩ (p + 1) (rz - (p + 1) + 1).toNat ++ Qu f all i u) = Qu f all fr u from by
         have h := HPi.out
         rw [show (i - i).toNat = 0 by omega, show rowI f p i 0 = [] from rfl, List.nil_append] at h
         rw [show rz - (p + 1) + 1 = rz - p by omega]; exact h)
        have hwp1 : IntKind.i64.wrap (p + 1) = p + 1 := IntWalk.i64_in _ (by omega)
        go_wp2
        exact ⟨⟨p + 1, zs, rfl, by omega, by omega, HP6, HXr.out, HXf.out, HO.out, HK.out.1, HK.out.2⟩, by simp [intOf]; omega⟩
     ·obtain rfl : p = rz + 1 := by omega
      have HP7 := Qa (show ys ++ Qu f all ry u = Qu f all fr u from by
       have h := HPp.out
       rw [show (rz - (rz + 1) + 1).toNat = 0 by omega] at h
       exact h)
      go_wp2
      go_roundg (u - ry).toNat
      case measure => have := HG.out; omega
      case rel => exact ⟨ry, ys, rfl, by omega, by omega, rfl, HP7, HO.out, HXf.out, HK.out.1, HK.out.2⟩
  ·have HE := Qa (show xs = Qu f all fr u by have := HP.out; rwa [Yy hlt, List.append_nil] at this)
   go_wp2
   go_ret
   exact ⟨_, rfl, by rw [← HE.out]; exact HO.out.low (Nat.le_of_lt hWs), HK.out.1⟩
theorem jumpB_cases {f : Fo} (h : Q5 f = true) : (f.jump = ⟨0, 0, 0⟩) ∨ (f.jump.x ≠ 0 ∧ 1 ≤ f.jump.x ∧ f.jump.x ≤ f.bars ∧ 0 ≤ f.jump.y ∧ f.jump.y ≤ f.bars ∧ f.jump.z ≤ f.bars) := by
 unfold Q5 at h
 rw [Bool.or_eq_true] at h
 rcases h with h | h
 ·exact .inl (of_decide_eq_true h)
 ·right
  simp only [badJ, Bool.and_eq_true, Bool.not_eq_true', Bool.or_eq_false_iff, decide_eq_false_iff_not] at h
  omega
theorem whole_plain {f : Fo} (e : f.jump = ⟨0, 0, 0⟩) : Zi f = Qu f (!false) 0 f.bars := by
 have e1 : QS f = f.bars := by unfold QS; rw [e]; exact if_pos rfl
 have e2 : Qu f false f.jump.y f.jump.z = [] := Yy (by rw [e]; simp)
 unfold Zi
 rw [e1, e2, List.append_nil, Bool.not_false]
theorem whole_jump {f : Fo} (hn : f.jump.x ≠ 0) : Zi f = Qu f (!false) 0 f.jump.x ++ Qu f (!true) f.jump.y f.jump.z := by
 have e1 : QS f = f.jump.x := by unfold QS; exact if_neg hn
 unfold Zi
 rw [e1, Bool.not_false, Bool.not_true]
theorem Rwhole_any (f : Fo) (q : Fp) (w : World) (hf : FoFew f) (hb0 : 0 ≤ f.bars) (hr : ∀ r ∈ f.reps, 0 ≤ r.x ∧ r.x < r.y ∧ r.y ≤ f.bars ∧ 1 ≤ r.z ∧ r.z ≤ 9) (hj : Q5 f = true) (hm : R3At w q.ra f.reps) (hm2 : R3At w q.ea f.ends) :
  Calls Tryz.prog 185 #[.agg #[.int .i64 f.bars, .slice q.ra f.reps.length q.rc, .slice q.ea f.ends.length q.ec, .int .i64 f.jump.x, .int .i64 f.jump.y, .int .i64 f.jump.z, .slice q.ca f.cuts.length q.cc]] w fun e w' => ∃ v, e = .returned v ∧ OwnR w' w.heap.size 3 1 v ((Zi f).map inRow) ∧ Below w.heap.size w w' := by
 have hx := heap_alloc_new w (.cells #[.int .i64 f.bars, .slice q.ra f.reps.length q.rc, .slice q.ea f.ends.length q.ec, .int .i64 f.jump.x, .int .i64 f.jump.y, .int .i64 f.jump.z, .slice q.ca f.cuts.length q.cc] 109)
 have hb := (RowKit.Below.refl w.heap.size w).alloc (Nat.le_refl _) (.cells #[.int .i64 f.bars, .slice q.ra f.reps.length q.rc, .slice q.ea f.ends.length q.ec, .int .i64 f.jump.x, .int .i64 f.jump.y, .int .i64 f.jump.z, .slice q.ca f.cuts.length q.cc] 109)
 have hwf := Zz hf.bars hr hj
 have HPt := Qa (fun fr u again V (hV : Below w.heap.size w V) (h1 : 0 ≤ fr) (h2 : fr ≤ f.bars) (h3 : u ≤ f.bars) (h4 : (Qu f (!again) fr u).length ≤ 20000) => Rpart_any f q fr u again V hf hr h1 h2 h3 h4 (hm.below hV) (hm2.below hV))
 have HX := Qa hx; have HB := Qa hb
 clear hx hb hm hm2 hf hr
 go_enter Tryz.func185, Tryz.ntmps185
 go_upto_region 1 with (fail)
 have hWs : w.heap.size < (w.alloc (.cells #[.int .i64 f.bars, .slice q.ra f.reps.length q.rc, .slice q.ea f.ends.length q.ec, .int .i64 f.jump.x, .int .i64 f.jump.y, .int .i64 f.jump.z, .slice q.ca f.cuts.length q.cc] 109)).heap.size := by simp
 generalize w.alloc (.cells #[.int .i64 f.bars, .slice q.ra f.reps.length q.rc, .slice q.ea f.ends.length q.ec, .int .i64 f.jump.x, .int .i64 f.jump.y, .int .i64 f.jump.z, .slice q.ca f.cuts.length q.cc] 109) = W at *
 have hc := Qb HX.out
 rcases jumpB_cases hj with e | ⟨hn, h1, h2, h3, h4, h5⟩
 ·have hx0 : f.jump.x = 0 := by rw [e]
  have HW := Qa (whole_plain e)
  rw [HW.out] at hwf
  have HP := Qa (HPt.out 0 f.bars false W HB.out (Int.le_refl _) hb0 (Int.le_refl _) hwf)
  have hxb : (f.jump.x == 0) = true := by rw [hx0]; rfl
  clear e hwf hx0
  go_wp2_with (go_at_call 223; refine HP.out.mono ?_; rintro e w3 ⟨v, rfl, ho, hb⟩; have HO := Qa ho; have HB2 := bu HB hb; clear ho hb)
  go_ret
  rw [HW.out]
  exact ⟨_, rfl, HO.out.low (Nat.le_of_lt hWs), HB2.out⟩
 ·have HW := Qa (whole_jump hn)
  rw [HW.out, List.length_append] at hwf
  have HP := Qa (HPt.out 0 f.jump.x false W HB.out (Int.le_refl _) hb0 h2 (by omega))
  have hxb : (f.jump.x == 0) = false := by simpa using hn
  go_upto_region 4 with (go_at_call 223; refine HP.out.mono ?_; rintro e w3 ⟨v, rfl, ho, hb⟩; have HO := Qa ho; have HB2 := bu HB hb; have HX2 := bk HX hb; have hsW := hb.size; clear ho hb hc; have hc := Qb HX2.out)
  have HP2 := Qa (HPt.out f.jump.y f.jump.z true w3 HB2.out h3 h4 h5 (by omega))
  have hsz2 := HB2.out.size
  clear HPt HP
  generalize Qu f (!false) 0 f.jump.x = P1 at *
  generalize Qu f (!true) f.jump.y f.jump.z = P2 at *
  go_wp2_with (first | (go_at_call 223; refine HP2.out.mono ?_; rintro e w4 ⟨v4, rfl, ho4, hb4⟩; obtain ⟨a4, c4, e4, hk4, hs4⟩ := ho4.slAt; rw [List.length_map] at e4 hk4; subst e4; have HO3 := Qa (HO.out.below hb4); have HB3 := Qa (HB2.out.trans (hb4.mono hsz2)); have hsz4 := hb4.size) | (at_builtin; go_loud (refine appE eltInA rfl (.tmp 17) (.tmp 25) rfl W.heap.size _ P1 rfl HO3.out _ _ _ P2 rfl rfl hk4.none hs4 (by omega) (Nat.le_trans hsW hsz4) ?_; intro v5 w5 ho5 hg5; have HO5 := Qa ho5; have HB5 := Qa (Zy (B := w.heap.size) HB3.out (HO3.out.low (Nat.le_of_lt hWs)) HB3.out.size hg5))))
  go_ret
  rw [HW.out]
  exact ⟨_, rfl, HO5.out.low (Nat.le_of_lt hWs), HB5.out⟩
theorem YC (f : Fo) (q : Fp) (w : World) (hf : FoFew f) (hq : FoAt w f q) :
  Calls Tryz.prog 145 #[.agg #[.int .i64 f.bars, .slice q.ra f.reps.length q.rc, .slice q.ea f.ends.length q.ec, .int .i64 f.jump.x, .int .i64 f.jump.y, .int .i64 f.jump.z, .slice q.ca f.cuts.length q.cc]] w fun e w' => e = .returned (.bool (Qy f)) ∧ Below w.heap.size w w' := by
 have hx := heap_alloc_new w (.cells #[.int .i64 f.bars, .slice q.ra f.reps.length q.rc, .slice q.ea f.ends.length q.ec, .int .i64 f.jump.x, .int .i64 f.jump.y, .int .i64 f.jump.z, .slice q.ca f.cuts.length q.cc] 109)
 have hb := (RowKit.Below.refl w.heap.size w).alloc (Nat.le_refl _) (.cells #[.int .i64 f.bars, .slice q.ra f.reps.length q.rc, .slice q.ea f.ends.length q.ec, .int .i64 f.jump.x, .int .i64 f.jump.y, .int .i64 f.jump.z, .slice q.ca f.cuts.length q.cc] 109)
 have HX := Qa hx; have HB := Qa hb; have HQ := Qa hq; have HF := Qa hf
 have HRp := Qa (fun V (hV : Below w.heap.size w V) => Rrepeats_any f.reps q.ra q.rc f.bars V hf.reps (hq.reps.below hV))
 have HEn := Qa (fun V (hV : Below w.heap.size w V) => Rendings_any f q V hf (hq.reps.below hV) (hq.ends.below hV))
 have HJ := Qa (fun V (hV : Below w.heap.size w V) => Rjump_any f q V hf (hq.reps.below hV))
 have HVd := Qa (show Qy f = (decide (1 ≤ f.bars) && decide (f.bars ≤ 4000) && (Zp f.bars 0 f.reps && decide (f.reps.length ≤ 100)) && (Zx f.reps 0 f.ends && decide (f.ends.length ≤ 100)) && Q5 f && ZZ f && Z5 f) from rfl)
 clear hx hb hq hf
 go_enter Tryz.func145, Tryz.ntmps145
 go_upto_region 1 with (fail)
 generalize w.alloc (.cells #[.int .i64 f.bars, .slice q.ra f.reps.length q.rc, .slice q.ea f.ends.length q.ec, .int .i64 f.jump.x, .int .i64 f.jump.y, .int .i64 f.jump.z, .slice q.ca f.cuts.length q.cc] 109) = W at *
 have hc := Qb HX.out
 by_cases b1 : f.bars < 1
 ·have HE := Qa (show Qy f = false by rw [HVd.out, decide_eq_false (show ¬ 1 ≤ f.bars by omega)]; rfl)
  go_wp2
  go_ret
  exact ⟨Qf HE.out.symm, HB.out⟩
 by_cases b2 : (4000 : Int) < f.bars
 ·have HE := Qa (show Qy f = false by rw [HVd.out, decide_eq_false (show ¬ f.bars ≤ 4000 by omega), Bool.and_false]; rfl)
  go_wp2
  go_ret
  exact ⟨Qf HE.out.symm, HB.out⟩
 cases h1 : (decide (f.reps.length ≤ 100) && Zp f.bars 0 f.reps)
 ·have HE := Qa (show Qy f = false by rw [HVd.out, Bool.and_comm (Zp f.bars 0 f.reps), h1, Bool.and_false]; rfl)
  rw [h1] at HRp
  clear h1
  go_wp2_with ((go_at_call 180; refine (HRp.out _ HB.out).mono ?_; rintro e w6 ⟨rfl, hb⟩; clear hc; replace HX := bk HX hb; replace HB := bu HB hb; clear hb; have hc := Qb HX.out))
  go_ret
  exact ⟨Qf HE.out.symm, HB.out⟩
 rw [h1] at HRp
 cases h2 : (decide (f.ends.length ≤ 100) && Zx f.reps 0 f.ends)
 ·have HE := Qa (show Qy f = false by rw [HVd.out, Bool.and_comm (Zx f.reps 0 f.ends), h2, Bool.and_false]; rfl)
  rw [h2] at HEn
  clear h1 h2
  go_wp2_with (first | (go_at_call 180; refine (HRp.out _ HB.out).mono ?_; rintro e w6 ⟨rfl, hb⟩; clear hc; replace HX := bk HX hb; replace HB := bu HB hb; clear hb; have hc := Qb HX.out) | (go_at_call 181; refine (HEn.out _ HB.out).mono ?_; rintro e w6 ⟨rfl, hb⟩; clear hc; replace HX := bk HX hb; replace HB := bu HB hb; clear hb; have hc := Qb HX.out))
  go_ret
  exact ⟨Qf HE.out.symm, HB.out⟩
 rw [h2] at HEn
 cases h3 : Q5 f
 ·have HE := Qa (show Qy f = false by rw [HVd.out, h3, Bool.and_false]; rfl)
  rw [h3] at HJ
  clear h1 h2 h3
  go_wp2_with (first | (go_at_call 180; refine (HRp.out _ HB.out).mono ?_; rintro e w6 ⟨rfl, hb⟩; clear hc; replace HX := bk HX hb; replace HB := bu HB hb; clear hb; have hc := Qb HX.out) | (go_at_call 181; refine (HEn.out _ HB.out).mono ?_; rintro e w6 ⟨rfl, hb⟩; clear hc; replace HX := bk HX hb; replace HB := bu HB hb; clear hb; have hc := Qb HX.out) | (go_at_call 182; refine (HJ.out _ HB.out).mono ?_; rintro e w6 ⟨rfl, hb⟩; clear hc; replace HX := bk HX hb; replace HB := bu HB hb; clear hb; have hc := Qb HX.out))
  go_ret
  exact ⟨Qf HE.out.symm, HB.out⟩
 rw [h3] at HJ
 have hrb : Ys f = true := by unfold Ys; rw [Bool.and_comm]; exact h1
 have heb : JC f = true := by unfold JC; rw [Bool.and_comm]; exact h2
 have hb1 : decide (1 ≤ f.bars) = true := decide_eq_true (by omega)
 have hb2 : decide (f.bars ≤ 4000) = true := decide_eq_true (by omega)
 have HV2 := Qa (show Qy f = ZZ f by
  have hs : Z5 f = true := by unfold Z5; exact decide_eq_true (Zz HF.out.bars (ZN hrb) h3)
  unfold Qy
  rw [hb1, hb2, hrb, heb, h3, hs]; simp)
 have HWh := Qa (fun V (hV : Below w.heap.size w V) => Rwhole_any f q V HF.out (by omega) (ZN hrb) h3 (HQ.out.reps.below hV) (HQ.out.ends.below hV))
 have HWl := Qa (Zz HF.out.bars (ZN hrb) h3)
 clear h1 h2 h3 hrb heb hb1 hb2 HVd
 by_cases b3 : (100 : Int) < (f.cuts.length : Int)
 ·have HE := Qa (show Qy f = false by rw [HV2.out]; unfold ZZ; rw [decide_eq_false (show ¬ f.cuts.length ≤ 100 by omega), Bool.and_false])
  go_wp2_with (first | (go_at_call 180; refine (HRp.out _ HB.out).mono ?_; rintro e w6 ⟨rfl, hb⟩; clear hc; replace HX := bk HX hb; replace HB := bu HB hb; clear hb; have hc := Qb HX.out) | (go_at_call 181; refine (HEn.out _ HB.out).mono ?_; rintro e w6 ⟨rfl, hb⟩; clear hc; replace HX := bk HX hb; replace HB := bu HB hb; clear hb; have hc := Qb HX.out) | (go_at_call 182; refine (HJ.out _ HB.out).mono ?_; rintro e w6 ⟨rfl, hb⟩; clear hc; replace HX := bk HX hb; replace HB := bu HB hb; clear hb; have hc := Qb HX.out))
  go_ret
  exact ⟨Qf HE.out.symm, HB.out⟩
 go_upto_region 3 with (first | (go_at_call 180; refine (HRp.out _ HB.out).mono ?_; rintro e w6 ⟨rfl, hb⟩; clear hc; replace HX := bk HX hb; replace HB := bu HB hb; clear hb; have hc := Qb HX.out) | (go_at_call 181; refine (HEn.out _ HB.out).mono ?_; rintro e w6 ⟨rfl, hb⟩; clear hc; replace HX := bk HX hb; replace HB := bu HB hb; clear hb; have hc := Qb HX.out) | (go_at_call 182; refine (HJ.out _ HB.out).mono ?_; rintro e w6 ⟨rfl, hb⟩; clear hc; replace HX := bk HX hb; replace HB := bu HB hb; clear hb; have hc := Qb HX.out))
 clear HRp HEn HJ
 go_wp2
 clear hc
 have hcl : f.cuts.length ≤ 100 := by omega
 clear b1 b2 b3
 go_loopw [3] (fun s3 wi => ∃ k : Nat, k ≤ f.cuts.length ∧ s3 = .int .i64 k ∧ Hid ((∀ j (h : j < f.cuts.length), j < k → cutB f f.cuts[j] = true) ∧ (f.cuts.take k).Nodup) ∧ wi.heap[w.heap.size]? = some (.cells #[.int .i64 f.bars, .slice q.ra f.reps.length q.rc, .slice q.ea f.ends.length q.ec, .int .i64 f.jump.x, .int .i64 f.jump.y, .int .i64 f.jump.z, .slice q.ca f.cuts.length q.cc] 109) ∧ Below w.heap.size w wi) (fun s3 _ => f.cuts.length - (intOf s3).toNat)
 case atStart => exact ⟨0, Nat.zero_le _, rfl, Qa ⟨fun j _ h => absurd h (Nat.not_lt_zero _), by simp⟩, HX.out, HB.out⟩
 case round =>
  clear HX HB
  obtain ⟨k, hk, rfl, HA, hx, hb⟩ := hrel
  have HX := Qa hx; have HB := Qa hb
  clear hx hb
  have hc := Qb HX.out
  by_cases hlt : k < f.cuts.length
  ·have hr3 := HQ.out.cuts.below HB.out
   obtain ⟨b, off, e, _, e0, e1, e2⟩ := hr3.get k hlt
   have hli : (k : Int) < (f.cuts.length : Int) := by omega
   have hk0 : (0 : Int) ≤ (k : Int) := by omega
   have hkc : k ≤ q.cc := by have := HQ.out.okc.le; omega
   have HT := Qa (ZF hlt)
   have HA2 := Qa (fun (h : cutB f f.cuts[k] = true) j (hj : j < f.cuts.length) (h2 : j < k + 1) => show cutB f f.cuts[j] = true from by
    rcases Nat.lt_or_ge j k with h5 | h5
    ·exact HA.out.1 j hj h5
    ·obtain rfl : j = k := by omega
     exact h)
   have HNo := Qa (show (cutB f f.cuts[k] = false ∨ f.cuts[k] ∈ f.cuts.take k) → ZZ f = false from fun h => by
    unfold ZZ
    rcases h with h | h
    ·have : f.cuts.all (cutB f) = false := by rw [List.all_eq_false]; exact ⟨_, List.getElem_mem hlt, by simp [h]⟩
     rw [this]; rfl
    ·have : ¬ f.cuts.Nodup := fun hn => ((ZF hlt).1 (hn.sublist (List.take_sublist _ _))).2 h
     rw [decide_eq_false this]; simp)
   have HIk := Qa (fun V => Rcut_any f q f.cuts[k] V)
   have HNk := Qa (fun V (hV : Below wr.heap.size wr V) => show Calls Tryz.prog 184 #[.slice q.ca k q.cc, .agg #[.int .i64 f.cuts[k].x, .int .i64 f.cuts[k].y, .int .i64 f.cuts[k].z]] V (fun e w' => e = .returned (.int .i64 (idxO (fun x => decide (x = f.cuts[k])) (f.cuts.take k))) ∧ Below V.heap.size V w') from by
    have h := Ug f.cuts[k] q.ca q.cc (f.cuts.take k) V (by rw [List.length_take]; omega) ((hr3.take k).below hV)
    rw [List.length_take, Nat.min_eq_left hk] at h
    exact h)
   have HMm := Qa (Yv (fun x => decide (x = f.cuts[k])) (f.cuts.take k))
   rw [Uq] at HMm
   unfold R3V at HIk
   rw [e] at hc HNk HIk
   clear e hr3
   generalize f.cuts[k] = d at *
   generalize idxO (fun x => decide (x = d)) (f.cuts.take k) = I at *
   have g0 := cell_regrown (hc 0); have g1 := cell_regrown (hc 1); have g2 := cell_regrown (hc 2); have g3 := cell_regrown (hc 3); have g4 := cell_regrown (hc 4); have g5 := cell_regrown (hc 5); have g6 := cell_regrown (hc 6)
   have g7 := cell_regrown e0; have g8 := cell_regrown e1; have g9 := cell_regrown e2
   go_upto_region 6 with (fail)
   cases hcb : cutB f d
   ·have HE := Qa (show Qy f = false by rw [HV2.out]; exact HNo.out (.inl hcb))
    rw [hcb] at HIk
    clear hcb HNo HA2 HT HMm
    refine Qn (by kernel_rfl) (by kernel_rfl) ?_
    (repeat (go_big_quiet_step ((go_at_call 183; refine Calls.regrown_of (HIk.out _)))))
    refine wpQuiet_nil ?_
    intro w10 hb
    clear g0 g1 g2 g3 g4 g5 g6 g7 g8 g9 e0 e1 e2 hc
    go_wp2
    go_ret
    exact ⟨Qf HE.out.symm, HB.out.trans (hb.mono HB.out.size)⟩
   ·rw [hcb] at HIk
    by_cases hin : d ∈ f.cuts.take k
    ·have HE := Qa (show Qy f = false by rw [HV2.out]; exact HNo.out (.inr hin))
     have hI : 0 ≤ I := by have h := HMm.out; rw [decide_eq_true hin] at h; exact of_decide_eq_true h
     clear hcb HNo HA2 HT HMm hin
     refine Qn (by kernel_rfl) (by kernel_rfl) ?_
     (repeat (go_big_quiet_step (first | (go_at_call 183; refine Calls.regrown_of (HIk.out _)) | (go_at_call 184; refine Calls.regrown_of (HNk.out _ (below_regrown _ _ _))))))
     refine wpQuiet_nil ?_
     intro w10 hb
     clear g0 g1 g2 g3 g4 g5 g6 g7 g8 g9 e0 e1 e2 hc
     go_wp2
     go_ret
     exact ⟨Qf HE.out.symm, HB.out.trans (hb.mono HB.out.size)⟩
    ·have hI : ¬ 0 ≤ I := by have h := HMm.out; rw [decide_eq_false hin] at h; exact of_decide_eq_false h
     have HT2 := Qa (HT.out.2 ⟨HA.out.2, hin⟩); have HA3 := Qa (HA2.out hcb)
     clear hcb HNo HA2 HT HMm hin
     refine Qn (by kernel_rfl) (by kernel_rfl) ?_
     (repeat (go_big_quiet_step (first | (go_at_call 183; refine Calls.regrown_of (HIk.out _)) | (go_at_call 184; refine Calls.regrown_of (HNk.out _ (below_regrown _ _ _))))))
     refine wpQuiet_nil ?_
     intro w10 hb
     clear g0 g1 g2 g3 g4 g5 g6 g7 g8 g9 e0 e1 e2 hc
     go_wp2
     go_roundw
     case rel => exact ⟨k + 1, by omega, by go_num, Qa ⟨HA3.out, HT2.out⟩, Qc HX.out hb, HB.out.trans (hb.mono HB.out.size)⟩
     case measure => simp [intOf]; omega
  ·obtain rfl : k = f.cuts.length := by omega
   have HE := Qa (show Qy f = true by
    rw [HV2.out]
    unfold ZZ
    have h1 : f.cuts.all (cutB f) = true := by
     rw [List.all_eq_true]
     intro x hx
     obtain ⟨j, hj, rfl⟩ := List.getElem_of_mem hx
     exact HA.out.1 j hj hj
    have h2 := HA.out.2
    rw [List.take_length] at h2
    rw [h1, decide_eq_true h2, decide_eq_true hcl]; rfl)
   have hwl := HWl.out
   go_wp2_with (go_at_call 185; refine (HWh.out _ HB.out).mono ?_; rintro e w4 ⟨v4, rfl, ho4, hb4⟩; obtain ⟨a4, c4, e4, _, _⟩ := ho4.slAt; rw [List.length_map] at e4; subst e4; have HB3 := bu HB hb4; clear ho4 hb4)
   go_ret
   exact ⟨Qf (by rw [HE.out]; simp; omega), HB3.out⟩
def fewF (f : Fo) : Bool := decide (f.bars ≤ 60) && decide (f.reps.length ≤ 110) && decide (f.ends.length ≤ 60) && decide (f.cuts.length ≤ 110)
theorem fewF_few {f : Fo} (h : fewF f = true) : FoFew f := by
 unfold fewF at h
 simp only [Bool.and_eq_true, decide_eq_true_eq] at h
 exact ⟨by omega, by omega, by omega, by omega⟩
theorem RFew_any (f : Fo) (q : Fp) (w : World) :
  Calls Tryz.prog 57 #[.agg #[.int .i64 f.bars, .slice q.ra f.reps.length q.rc, .slice q.ea f.ends.length q.ec, .int .i64 f.jump.x, .int .i64 f.jump.y, .int .i64 f.jump.z, .slice q.ca f.cuts.length q.cc]] w fun e w' => e = .returned (.bool (fewF f)) ∧ Below w.heap.size w w' := by
 have HX := Qa (heap_alloc_new w (.cells #[.int .i64 f.bars, .slice q.ra f.reps.length q.rc, .slice q.ea f.ends.length q.ec, .int .i64 f.jump.x, .int .i64 f.jump.y, .int .i64 f.jump.z, .slice q.ca f.cuts.length q.cc] 109))
 have hb := (Below.refl w.heap.size w).alloc (Nat.le_refl _) (.cells #[.int .i64 f.bars, .slice q.ra f.reps.length q.rc, .slice q.ea f.ends.length q.ec, .int .i64 f.jump.x, .int .i64 f.jump.y, .int .i64 f.jump.z, .slice q.ca f.cuts.length q.cc] 109)
 have HB := Qa hb
 have HE := Qa (show fewF f = (decide (f.bars ≤ 60) && decide (f.reps.length ≤ 110) && decide (f.ends.length ≤ 60) && decide (f.cuts.length ≤ 110)) from rfl)
 clear hb
 go_enter Tryz.func57, Tryz.ntmps57
 go_upto_region 1 with (fail)
 generalize w.alloc (.cells #[.int .i64 f.bars, .slice q.ra f.reps.length q.rc, .slice q.ea f.ends.length q.ec, .int .i64 f.jump.x, .int .i64 f.jump.y, .int .i64 f.jump.z, .slice q.ca f.cuts.length q.cc] 109) = W at *
 have hc := Qb HX.out
 by_cases h1 : f.bars ≤ 60
 case neg =>
  rw [decide_eq_false h1] at HE
  go_wp2
  go_ret
  exact ⟨Qf (by rw [HE.out]; rfl), HB.out⟩
 by_cases h2 : f.reps.length ≤ 110
 case neg =>
  rw [decide_eq_false h2, Bool.and_false] at HE
  have g2 : ¬ (f.reps.length : Int) ≤ 110 := by omega
  go_wp2
  go_ret
  exact ⟨Qf (by rw [HE.out]; rfl), HB.out⟩
 by_cases h3 : f.ends.length ≤ 60
 case neg =>
  rw [decide_eq_false h3, Bool.and_false] at HE
  have g2 : (f.reps.length : Int) ≤ 110 := by omega
  have g3 : ¬ (f.ends.length : Int) ≤ 60 := by omega
  go_wp2
  go_ret
  exact ⟨Qf (by rw [HE.out]; rfl), HB.out⟩
 rw [decide_eq_true h1, decide_eq_true h2, decide_eq_true h3] at HE
 have g2 : (f.reps.length : Int) ≤ 110 := by omega
 have g3 : (f.ends.length : Int) ≤ 60 := by omega
 have HE2 := Qa (show fewF f = decide ((f.cuts.length : Int) ≤ 110) by rw [HE.out, Bool.true_and, Bool.true_and, Bool.true_and]; exact decide_eq_decide.2 (by omega))
 go_wp2
 go_ret
 exact ⟨Qf (by rw [HE2.out]), HB.out⟩
structure FoFrom (f' f : Fo) (q' q : Fp) (B : Nat) : Prop where
 ra : (q'.ra = q.ra ∧ f'.reps = f.reps) ∨ ∀ ad, q'.ra = some ad → B ≤ ad.block
 ea : (q'.ea = q.ea ∧ f'.ends = f.ends) ∨ ∀ ad, q'.ea = some ad → B ≤ ad.block
 ca : (q'.ca = q.ca ∧ f'.cuts = f.cuts) ∨ ∀ ad, q'.ca = some ad → B ≤ ad.block
def RetFoF (f0 : Fo) (q0 : Fp) (f : Fo) (err : Int) (w : World) (e : Ending) (w' : World) : Prop :=
 ∃ q : Fp, e = .returned (.tuple #[.agg #[.int .i64 f.bars, .slice q.ra f.reps.length q.rc, .slice q.ea f.ends.length q.ec, .int .i64 f.jump.x, .int .i64 f.jump.y, .int .i64 f.jump.z, .slice q.ca f.cuts.length q.cc], .int .i64 err]) ∧ FoAt w' f q ∧ Below w.heap.size w w' ∧ FoFrom f f0 q q0 w.heap.size
theorem RetFoF.none {f0 : Fo} {q0 : Fp} {err : Int} {w w' : World} (hb : Below w.heap.size w w') : RetFoF f0 q0 fo0 err w (.returned (.tuple #[.agg #[.int .i64 0, .slice none 0 0, .slice none 0 0, .int .i64 0, .int .i64 0, .int .i64 0, .slice none 0 0], .int .i64 err])) w' := ⟨fp0, rfl, Uj _, hb, ⟨.inr fun _ e => (by cases e), .inr fun _ e => (by cases e), .inr fun _ e => (by cases e)⟩⟩
theorem RCut_any (f : Fo) (q : Fp) (c : R3) (w : World) (hf : FoFew f) (hq : FoAt w f q) :
  Calls Tryz.prog 186 #[.agg #[.int .i64 f.bars, .slice q.ra f.reps.length q.rc, .slice q.ea f.ends.length q.ec, .int .i64 f.jump.x, .int .i64 f.jump.y, .int .i64 f.jump.z, .slice q.ca f.cuts.length q.cc], .agg #[.int .i64 c.x, .int .i64 c.y, .int .i64 c.z]] w (RetFoF f q (cutR f c).1 (cutR f c).2 w) := by
 obtain ⟨x1, x2, x3, hb⟩ := box3 (w := w) (A := .cells #[.int .i64 f.bars, .slice q.ra f.reps.length q.rc, .slice q.ea f.ends.length q.ec, .int .i64 f.jump.x, .int .i64 f.jump.y, .int .i64 f.jump.z, .slice q.ca f.cuts.length q.cc] 109) (B := .cells #[.int .i64 c.x, .int .i64 c.y, .int .i64 c.z] 186) (C := .cells #[.int .i64 0, .slice none 0 0, .slice none 0 0, .int .i64 0, .int .i64 0, .int .i64 0, .slice none 0 0] 109) (Below.refl _ _)
 have HX1 := Qa x1; have HX2 := Qa x2; have HX3 := Qa x3; have HB := Qa hb
 have HV := Qa (fun V (hV : Below w.heap.size w V) => YC f q V hf (hq.below hV))
 have HI := Qa (fun V => Rcut_any f q c V)
 have HN := Qa (fun V (hV : Below w.heap.size w V) => Ug c q.ca q.cc f.cuts V (by have := hf.cuts; omega) (hq.cuts.below hV))
 have HQ := Qa hq
 have HCl := Qa hf.cuts
 unfold R3V at HI
 have HMm := Qa (Yv (fun x => decide (x = c)) f.cuts)
 rw [Uq] at HMm
 generalize idxO (fun x => decide (x = c)) f.cuts = I at *
 clear x1 x2 x3 hb hq hf
 go_enter Tryz.func186, Tryz.ntmps186
 go_upto_region 1 with (fail)
 generalize ((w.alloc (.cells #[.int .i64 f.bars, .slice q.ra f.reps.length q.rc, .slice q.ea f.ends.length q.ec, .int .i64 f.jump.x, .int .i64 f.jump.y, .int .i64 f.jump.z, .slice q.ca f.cuts.length q.cc] 109)).alloc (.cells #[.int .i64 c.x, .int .i64 c.y, .int .i64 c.z] 186)).alloc (.cells #[.int .i64 0, .slice none 0 0, .slice none 0 0, .int .i64 0, .int .i64 0, .int .i64 0, .slice none 0 0] 109) = W at *
 have hc1 := Qb HX1.out; have hc2 := Qb HX2.out; have hc3 := Qb HX3.out
 cases h1 : Qy f
 ·have HE := Qa (show cutR f c = (fo0, 1) by unfold cutR; rw [h1]; rfl)
  rw [h1] at HV
  clear h1
  go_upto_region 2 with ((go_at_call 145; refine (HV.out _ HB.out).mono ?_; rintro e w6 ⟨rfl, hb⟩; clear hc1 hc2 hc3; replace HX1 := bk HX1 hb; replace HX2 := bk HX2 hb; replace HX3 := bk HX3 hb; replace HB := bu HB hb; clear hb; have hc1 := Qb HX1.out; have hc2 := Qb HX2.out; have hc3 := Qb HX3.out))
  have hf3 := Qe HX3.out; have hz3 := Qd HX3.out; have hf1 := Qe HX1.out; have hz1 := Qd HX1.out
  go_wp2
  refine bodyPost_ret (Qi rfl _ _ (w.heap.size + 1 + 1) 109 _ (0, 0) _ rfl (QB HX3.out _ _ _ _ _ _ _) Tryz.underlying109 rfl (by kernel_rfl)) rfl ?_; rw [HE.out]; exact RetFoF.none (Qs HB.out (by omega) _ _ _ _ _ _ _)
 cases h2 : cutB f c
 ·have HE := Qa (show cutR f c = (fo0, 1) by unfold cutR; rw [h1, h2]; rfl)
  rw [h1] at HV; rw [h2] at HI
  clear h1 h2
  go_upto_region 2 with (first | (go_at_call 145; refine (HV.out _ HB.out).mono ?_; rintro e w6 ⟨rfl, hb⟩; clear hc1 hc2 hc3; replace HX1 := bk HX1 hb; replace HX2 := bk HX2 hb; replace HX3 := bk HX3 hb; replace HB := bu HB hb; clear hb; have hc1 := Qb HX1.out; have hc2 := Qb HX2.out; have hc3 := Qb HX3.out) | (go_at_call 183; refine (HI.out _).mono ?_; rintro e w7 ⟨rfl, hb⟩; clear hc1 hc2 hc3; replace HX1 := bk HX1 hb; replace HX2 := bk HX2 hb; replace HX3 := bk HX3 hb; replace HB := bu HB hb; clear hb; have hc1 := Qb HX1.out; have hc2 := Qb HX2.out; have hc3 := Qb HX3.out))
  have hf3 := Qe HX3.out; have hz3 := Qd HX3.out; have hf1 := Qe HX1.out; have hz1 := Qd HX1.out
  go_wp2
  refine bodyPost_ret (Qi rfl _ _ (w.heap.size + 1 + 1) 109 _ (0, 0) _ rfl (QB HX3.out _ _ _ _ _ _ _) Tryz.underlying109 rfl (by kernel_rfl)) rfl ?_; rw [HE.out]; exact RetFoF.none (Qs HB.out (by omega) _ _ _ _ _ _ _)
 by_cases h3 : c ∈ f.cuts
 ·have HE := Qa (show cutR f c = (fo0, 5) by unfold cutR; rw [h1, h2, if_pos h3]; rfl)
  rw [h1] at HV; rw [h2] at HI; have hI : 0 ≤ I := (by have h := HMm.out; rw [decide_eq_true h3] at h; exact of_decide_eq_true h)
  clear h1 h2 h3
  go_upto_region 4 with (first | (go_at_call 145; refine (HV.out _ HB.out).mono ?_; rintro e w6 ⟨rfl, hb⟩; clear hc1 hc2 hc3; replace HX1 := bk HX1 hb; replace HX2 := bk HX2 hb; replace HX3 := bk HX3 hb; replace HB := bu HB hb; clear hb; have hc1 := Qb HX1.out; have hc2 := Qb HX2.out; have hc3 := Qb HX3.out) | (go_at_call 183; refine (HI.out _).mono ?_; rintro e w7 ⟨rfl, hb⟩; clear hc1 hc2 hc3; replace HX1 := bk HX1 hb; replace HX2 := bk HX2 hb; replace HX3 := bk HX3 hb; replace HB := bu HB hb; clear hb; have hc1 := Qb HX1.out; have hc2 := Qb HX2.out; have hc3 := Qb HX3.out) | (go_at_call 184; refine (HN.out _ HB.out).mono ?_; rintro e w8 ⟨rfl, hb⟩; clear hc1 hc2 hc3; replace HX1 := bk HX1 hb; replace HX2 := bk HX2 hb; replace HX3 := bk HX3 hb; replace HB := bu HB hb; clear hb; have hc1 := Qb HX1.out; have hc2 := Qb HX2.out; have hc3 := Qb HX3.out))
  have hf3 := Qe HX3.out; have hz3 := Qd HX3.out; have hf1 := Qe HX1.out; have hz1 := Qd HX1.out
  go_wp2
  refine bodyPost_ret (Qi rfl _ _ (w.heap.size + 1 + 1) 109 _ (0, 0) _ rfl (QB HX3.out _ _ _ _ _ _ _) Tryz.underlying109 rfl (by kernel_rfl)) rfl ?_; rw [HE.out]; exact RetFoF.none (Qs HB.out (by omega) _ _ _ _ _ _ _)
 by_cases h4 : f.cuts.length = 100
 ·have HE := Qa (show cutR f c = (fo0, 2) by unfold cutR; rw [h1, h2, if_neg h3, if_pos h4]; rfl)
  rw [h1] at HV; rw [h2] at HI; have hI : ¬ 0 ≤ I := (by have h := HMm.out; rw [decide_eq_false h3] at h; exact of_decide_eq_false h)
  have h4' : ((f.cuts.length : Int) == 100) = true := by rw [h4]; rfl
  clear h1 h2 h3 h4
  go_upto_region 6 with (first | (go_at_call 145; refine (HV.out _ HB.out).mono ?_; rintro e w6 ⟨rfl, hb⟩; clear hc1 hc2 hc3; replace HX1 := bk HX1 hb; replace HX2 := bk HX2 hb; replace HX3 := bk HX3 hb; replace HB := bu HB hb; clear hb; have hc1 := Qb HX1.out; have hc2 := Qb HX2.out; have hc3 := Qb HX3.out) | (go_at_call 183; refine (HI.out _).mono ?_; rintro e w7 ⟨rfl, hb⟩; clear hc1 hc2 hc3; replace HX1 := bk HX1 hb; replace HX2 := bk HX2 hb; replace HX3 := bk HX3 hb; replace HB := bu HB hb; clear hb; have hc1 := Qb HX1.out; have hc2 := Qb HX2.out; have hc3 := Qb HX3.out) | (go_at_call 184; refine (HN.out _ HB.out).mono ?_; rintro e w8 ⟨rfl, hb⟩; clear hc1 hc2 hc3; replace HX1 := bk HX1 hb; replace HX2 := bk HX2 hb; replace HX3 := bk HX3 hb; replace HB := bu HB hb; clear hb; have hc1 := Qb HX1.out; have hc2 := Qb HX2.out; have hc3 := Qb HX3.out))
  have hf3 := Qe HX3.out; have hz3 := Qd HX3.out; have hf1 := Qe HX1.out; have hz1 := Qd HX1.out
  go_wp2
  refine bodyPost_ret (Qi rfl _ _ (w.heap.size + 1 + 1) 109 _ (0, 0) _ rfl (QB HX3.out _ _ _ _ _ _ _) Tryz.underlying109 rfl (by kernel_rfl)) rfl ?_; rw [HE.out]; exact RetFoF.none (Qs HB.out (by omega) _ _ _ _ _ _ _)
 have HE := Qa (show cutR f c = ({ f with cuts := f.cuts ++ [c] }, 0) by unfold cutR; rw [h1, h2, if_neg h3, if_neg h4]; rfl)
 rw [h1] at HV; rw [h2] at HI; have hI : ¬ 0 ≤ I := (by have h := HMm.out; rw [decide_eq_false h3] at h; exact of_decide_eq_false h)
 have h4' : ((f.cuts.length : Int) == 100) = false := by rw [beq_eq_false_iff_ne]; omega
 clear h1 h2 h3 h4
 go_upto_region 8 with (first | (go_at_call 145; refine (HV.out _ HB.out).mono ?_; rintro e w6 ⟨rfl, hb⟩; clear hc1 hc2 hc3; replace HX1 := bk HX1 hb; replace HX2 := bk HX2 hb; replace HX3 := bk HX3 hb; replace HB := bu HB hb; clear hb; have hc1 := Qb HX1.out; have hc2 := Qb HX2.out; have hc3 := Qb HX3.out) | (go_at_call 183; refine (HI.out _).mono ?_; rintro e w7 ⟨rfl, hb⟩; clear hc1 hc2 hc3; replace HX1 := bk HX1 hb; replace HX2 := bk HX2 hb; replace HX3 := bk HX3 hb; replace HB := bu HB hb; clear hb; have hc1 := Qb HX1.out; have hc2 := Qb HX2.out; have hc3 := Qb HX3.out) | (go_at_call 184; refine (HN.out _ HB.out).mono ?_; rintro e w8 ⟨rfl, hb⟩; clear hc1 hc2 hc3; replace HX1 := bk HX1 hb; replace HX2 := bk HX2 hb; replace HX3 := bk HX3 hb; replace HB := bu HB hb; clear hb; have hc1 := Qb HX1.out; have hc2 := Qb HX2.out; have hc3 := Qb HX3.out))
 have hcl := HCl.out
 have hz8 := Qd HX3.out
 have hlw := HB.out.size
 have hqc := HQ.out.below HB.out
 go_upto_region 9 with (at_builtin; refine appE eltCu rfl (.tmp 28) (.tmp 30) rfl w8.heap.size _ [] rfl (OwnR.nil _ _ _ _) _ _ _ f.cuts rfl rfl hqc.okc.none hqc.cuts (by simp; omega) (Nat.le_refl _) ?_; intro v4 w9 ho4 hg4; rw [List.nil_append] at ho4)
 have hb9 : Below w8.heap.size w8 w9 := (Below.refl _ _).grown hg4 (Nat.le_refl _) (fun k e => by cases e)
 have k1 := Qc HX1.out hb9; have k2 := Qc HX2.out hb9; have k3 := Qc HX3.out hb9
 have bb := HB.out.trans (hb9.mono HB.out.size)
 have hz9 := hb9.size
 clear hg4 hc1 hc2 hc3 hqc
 have hc1 := Qb k1; have hc2 := Qb k2
 go_upto_region 10 with (at_builtin; refine appE eltCu rfl (.tmp 32) (.tmp 34) rfl w8.heap.size _ f.cuts rfl (ho4.below (Qg _)) _ _ _ [c] rfl rfl (fun e => by cases e) (eltCu.new _ _ _ _ rfl) (by simp; omega) (by simp; omega) ?_; intro v5 w10 ho5 hg5; replace hg5 : (w9.alloc (.cells #[.int .i64 c.x, .int .i64 c.y, .int .i64 c.z] 186)).grownBy w10 v4.ownBlock := hg5; obtain ⟨a9, c9, e9, _, _⟩ := ho5.slAt; rw [show ((f.cuts ++ [c]).map R3.cells).length = f.cuts.length + 1 by simp] at e9; subst e9; replace k1 := (hg5.block _ (by simp; omega) (ho4.neBlk (by omega))).trans (Qj k1 _); replace k3 := (hg5.block _ (by simp; omega) (ho4.neBlk (by omega))).trans (Qj k3 _); replace bb := (bb.alloc bb.size _).grown hg5 (by have := bb.size; simp; omega) (fun k e => by have := (ho4.lt k e).1; omega); clear hc1 hc2; have hc1 := Qb k1; have hf1 := Qe k1; have hz1 := Qd k1)
 have k1' := heap_setCell_same w10 _ 6 _ _ (.slice a9 (f.cuts.length + 1) c9) k1
 have k3' := Qo (c := w.heap.size) (i := 6) k3 (by omega) (.slice a9 (f.cuts.length + 1) c9)
 have o3' := ho5.setAt (b := w.heap.size) (i := 6) (by omega) (.slice a9 (f.cuts.length + 1) c9)
 have bb' := bb.setCell (p := ⟨w.heap.size, 6, none⟩) (Nat.le_refl _) (.slice a9 (f.cuts.length + 1) c9)
 clear k1 k3 ho5 bb hc1 hf1 hz1 hg5
 generalize w10.setCell ⟨w.heap.size, 6, none⟩ (.slice a9 (f.cuts.length + 1) c9) = W6 at *
 have hc1 := Qb k1'; have hc3 := Qb k3'; have hf3 := Qe k3'; have hz3 := Qd k3'
 go_wp2
 refine bodyPost_ret (Qi rfl _ _ (w.heap.size + 1 + 1) 109 _ (0, 0) _ rfl (QB k3' _ _ _ _ _ _ _) Tryz.underlying109 rfl (by kernel_rfl)) rfl ?_
 rw [HE.out]
 have p3 := (o3'.set7 (b := w.heap.size + 1 + 1) (by omega) (.int .i64 f.bars) (.slice q.ra f.reps.length q.rc) (.slice q.ea f.ends.length q.ec) (.int .i64 f.jump.x) (.int .i64 f.jump.y) (.int .i64 f.jump.z) (.slice a9 (f.cuts.length + 1) c9)).r3
 have bf := Qs bb' (b := w.heap.size + 1 + 1) (by omega) (.int .i64 f.bars) (.slice q.ra f.reps.length q.rc) (.slice q.ea f.ends.length q.ec) (.int .i64 f.jump.x) (.int .i64 f.jump.y) (.int .i64 f.jump.z) (.slice a9 (f.cuts.length + 1) c9)
 exact ⟨⟨q.ra, q.rc, q.ea, q.ec, a9, c9⟩, by simp, ⟨HQ.out.reps.below bf, HQ.out.ends.below bf, p3.2, HQ.out.okr, HQ.out.oke, p3.1⟩, bf, ⟨.inl ⟨rfl, rfl⟩, .inl ⟨rfl, rfl⟩, .inr (o3'.newB (by omega))⟩⟩
end Go.Proofs.YtajijcfikihhjaaGreatDoor
