import Derived.Test.YtajijcfikihhjaaGreatDoorAAL
set_option linter.unusedSimpArgs false
set_option linter.unusedVariables false
set_option maxRecDepth 100000
set_option maxHeartbeats 16000000
namespace Go.Proofs.YtajijcfikihhjaaGreatDoor
open Go.RowKit Go.Sort Go.Shelf
theorem box4 {w : World} {A B C D : Obj} : (((((w.alloc A).alloc B).alloc C).alloc D).heap[w.heap.size]? = some A ∧ ((((w.alloc A).alloc B).alloc C).alloc D).heap[w.heap.size + 1]? = some B ∧ ((((w.alloc A).alloc B).alloc C).alloc D).heap[w.heap.size + 1 + 1]? = some C ∧ ((((w.alloc A).alloc B).alloc C).alloc D).heap[w.heap.size + 1 + 1 + 1]? = some D) ∧ Below w.heap.size w ((((w.alloc A).alloc B).alloc C).alloc D) ∧ ((((w.alloc A).alloc B).alloc C).alloc D).heap.size = w.heap.size + 1 + 1 + 1 + 1 :=
 ⟨⟨Qj (Qj (Qj (heap_alloc_new w _) _) _) _, Qj (Qj (QJ _ _ (by simp)) _) _, Qj (QJ _ _ (by simp)) _, QJ _ _ (by simp)⟩, ((((Below.refl _ w).alloc (Nat.le_refl _) _).alloc (by simp) _).alloc (by simp; omega) _).alloc (by simp; omega) _, by simp⟩
theorem Uc {v : World} {b : Nat} {T : TypeId} {c0 c1 c2 c3 c4 c5 c6 c7 c8 : Value} (h : v.heap[b]? = some (.cells #[c0, c1, c2, c3, c4, c5, c6, c7, c8] T (0, 0))) (a1 a2 a3 a4 a5 a6 a7 : Value) : (setF v b a1 a2 a3 a4 a5 a6 a7).heap[b]? = some (.cells #[c0, a1, a2, a3, a4, a5, a6, a7, c8] T (0, 0)) := by
 unfold setF
 replace h : (v.setCell ⟨b, 1, none⟩ a1).heap[b]? = some (.cells #[c0, a1, c2, c3, c4, c5, c6, c7, c8] T (0, 0)) := heap_setCell_same v b 1 _ _ a1 h
 generalize v.setCell ⟨b, 1, none⟩ a1 = v at *
 replace h : (v.setCell ⟨b, 2, none⟩ a2).heap[b]? = some (.cells #[c0, a1, a2, c3, c4, c5, c6, c7, c8] T (0, 0)) := heap_setCell_same v b 2 _ _ a2 h
 generalize v.setCell ⟨b, 2, none⟩ a2 = v at *
 replace h : (v.setCell ⟨b, 3, none⟩ a3).heap[b]? = some (.cells #[c0, a1, a2, a3, c4, c5, c6, c7, c8] T (0, 0)) := heap_setCell_same v b 3 _ _ a3 h
 generalize v.setCell ⟨b, 3, none⟩ a3 = v at *
 replace h : (v.setCell ⟨b, 4, none⟩ a4).heap[b]? = some (.cells #[c0, a1, a2, a3, a4, c5, c6, c7, c8] T (0, 0)) := heap_setCell_same v b 4 _ _ a4 h
 generalize v.setCell ⟨b, 4, none⟩ a4 = v at *
 replace h : (v.setCell ⟨b, 5, none⟩ a5).heap[b]? = some (.cells #[c0, a1, a2, a3, a4, a5, c6, c7, c8] T (0, 0)) := heap_setCell_same v b 5 _ _ a5 h
 generalize v.setCell ⟨b, 5, none⟩ a5 = v at *
 replace h : (v.setCell ⟨b, 6, none⟩ a6).heap[b]? = some (.cells #[c0, a1, a2, a3, a4, a5, a6, c7, c8] T (0, 0)) := heap_setCell_same v b 6 _ _ a6 h
 generalize v.setCell ⟨b, 6, none⟩ a6 = v at *
 replace h : (v.setCell ⟨b, 7, none⟩ a7).heap[b]? = some (.cells #[c0, a1, a2, a3, a4, a5, a6, a7, c8] T (0, 0)) := heap_setCell_same v b 7 _ _ a7 h
 generalize v.setCell ⟨b, 7, none⟩ a7 = v at *
 exact h
theorem Yp {v : World} {b k : Nat} {o : Obj} (h : v.heap[k]? = some o) (hne : k ≠ b) (a1 a2 a3 a4 a5 a6 a7 : Value) : (setF v b a1 a2 a3 a4 a5 a6 a7).heap[k]? = some o := Qo (Qo (Qo (Qo (Qo (Qo (Qo h hne a1) hne a2) hne a3) hne a4) hne a5) hne a6) hne a7
theorem set9_far {v : World} {b k : Nat} {o : Obj} (h : v.heap[k]? = some o) (hne : k ≠ b) (a0 a1 a2 a3 a4 a5 a6 a7 a8 : Value) : (set9 v b a0 a1 a2 a3 a4 a5 a6 a7 a8).heap[k]? = some o := Qo (Qo (Qo (Qo (Qo (Qo (Qo (Qo (Qo h hne a0) hne a1) hne a2) hne a3) hne a4) hne a5) hne a6) hne a7) hne a8
theorem Y7 {A B : Nat} {w v : World} {b : Nat} (h : KeepO A B w v) (h1 : A ≤ b) (h2 : b < B) (a1 a2 a3 a4 a5 a6 a7 : Value) : KeepO A B w (setF v b a1 a2 a3 a4 a5 a6 a7) := ((((((h.set (p := ⟨b, 1, none⟩) h1 h2 a1).set (p := ⟨b, 2, none⟩) h1 h2 a2).set (p := ⟨b, 3, none⟩) h1 h2 a3).set (p := ⟨b, 4, none⟩) h1 h2 a4).set (p := ⟨b, 5, none⟩) h1 h2 a5).set (p := ⟨b, 6, none⟩) h1 h2 a6).set (p := ⟨b, 7, none⟩) h1 h2 a7
theorem Q1 {A B : Nat} {w v : World} {b : Nat} (h : KeepO A B w v) (h1 : A ≤ b) (h2 : b < B) (a0 a1 a2 a3 a4 a5 a6 a7 a8 : Value) : KeepO A B w (set9 v b a0 a1 a2 a3 a4 a5 a6 a7 a8) := ((((((((h.set (p := ⟨b, 0, none⟩) h1 h2 a0).set (p := ⟨b, 1, none⟩) h1 h2 a1).set (p := ⟨b, 2, none⟩) h1 h2 a2).set (p := ⟨b, 3, none⟩) h1 h2 a3).set (p := ⟨b, 4, none⟩) h1 h2 a4).set (p := ⟨b, 5, none⟩) h1 h2 a5).set (p := ⟨b, 6, none⟩) h1 h2 a6).set (p := ⟨b, 7, none⟩) h1 h2 a7).set (p := ⟨b, 8, none⟩) h1 h2 a8
theorem Y8 {n : Nat} {w v : World} {b : Nat} (h : Below n w v) (hb : n ≤ b) (a1 a2 a3 a4 a5 a6 a7 : Value) : Below n w (setF v b a1 a2 a3 a4 a5 a6 a7) := ((((((h.setCell (p := ⟨b, 1, none⟩) hb a1).setCell (p := ⟨b, 2, none⟩) hb a2).setCell (p := ⟨b, 3, none⟩) hb a3).setCell (p := ⟨b, 4, none⟩) hb a4).setCell (p := ⟨b, 5, none⟩) hb a5).setCell (p := ⟨b, 6, none⟩) hb a6).setCell (p := ⟨b, 7, none⟩) hb a7
theorem RDo30_any (wa : Option Addr) (wc : Nat) (l : List (Wk × Wp)) (x : De) (r : Rm) (q : Fp) (oa : Option Addr) (oc : Nat) (w : World) (hl : l.length ≤ 1000) (hr : RmOk r) (hw : WsAt w wa l) (h : RmAt w r q oa oc) :
  Calls Tryz.prog 147 #[.slice wa l.length wc, .agg #[.int .i64 r.ver, .int .i64 r.f.bars, .slice q.ra r.f.reps.length q.rc, .slice q.ea r.f.ends.length q.ec, .int .i64 r.f.jump.x, .int .i64 r.f.jump.y, .int .i64 r.f.jump.z, .slice q.ca r.f.cuts.length q.cc, .slice oa r.oss.length oc], .agg #[.int .i64 x.num, .int .i64 x.time, .int .i64 x.kind, .int .i64 x.a, .int .i64 x.b, .int .i64 x.c]] w (RetRmO l r q oa (doR (Qk l) r x).1 (doR (Qk l) r x).2 w) := by
 obtain ⟨⟨x1, x2, x3, x4⟩, hb, hsz⟩ := box4 (w := w) (A := .cells #[.int .i64 r.ver, .int .i64 r.f.bars, .slice q.ra r.f.reps.length q.rc, .slice q.ea r.f.ends.length q.ec, .int .i64 r.f.jump.x, .int .i64 r.f.jump.y, .int .i64 r.f.jump.z, .slice q.ca r.f.cuts.length q.cc, .slice oa r.oss.length oc] 123) (B := .cells #[.int .i64 x.num, .int .i64 x.time, .int .i64 x.kind, .int .i64 x.a, .int .i64 x.b, .int .i64 x.c] 207) (C := .cells #[.int .i64 0, .int .i64 0, .slice none 0 0, .slice none 0 0, .int .i64 0, .int .i64 0, .int .i64 0, .slice none 0 0, .slice none 0 0] 123) (D := .cells #[.int .i64 r.ver, .int .i64 r.f.bars, .slice q.ra r.f.reps.length q.rc, .slice q.ea r.f.ends.length q.ec, .int .i64 r.f.jump.x, .int .i64 r.f.jump.y, .int .i64 r.f.jump.z, .slice q.ca r.f.cuts.length q.cc, .slice oa r.oss.length oc] 123)
 have HX := Qa x1; have HD := Qa x2; have HZ := Qa x3; have HO := Qa x4
 have HB := Qa hb
 have HW := Qa hw; have HRM := Qa h
 have hcA := Qb (heap_alloc_new w (.cells #[.int .i64 r.ver, .int .i64 r.f.bars, .slice q.ra r.f.reps.length q.rc, .slice q.ea r.f.ends.length q.ec, .int .i64 r.f.jump.x, .int .i64 r.f.jump.y, .int .i64 r.f.jump.z, .slice q.ca r.f.cuts.length q.cc, .slice oa r.oss.length oc] 123))
 clear hb h hw x1 x2 x3 x4
 go_enter Tryz.func147, Tryz.ntmps147
 go_upto_region 3 with (fail)
 clear hcA
 generalize (((w.alloc (.cells #[.int .i64 r.ver, .int .i64 r.f.bars, .slice q.ra r.f.reps.length q.rc, .slice q.ea r.f.ends.length q.ec, .int .i64 r.f.jump.x, .int .i64 r.f.jump.y, .int .i64 r.f.jump.z, .slice q.ca r.f.cuts.length q.cc, .slice oa r.oss.length oc] 123)).alloc (.cells #[.int .i64 x.num, .int .i64 x.time, .int .i64 x.kind, .int .i64 x.a, .int .i64 x.b, .int .i64 x.c] 207)).alloc (.cells #[.int .i64 0, .int .i64 0, .slice none 0 0, .slice none 0 0, .int .i64 0, .int .i64 0, .int .i64 0, .slice none 0 0, .slice none 0 0] 123)).alloc (.cells #[.int .i64 r.ver, .int .i64 r.f.bars, .slice q.ra r.f.reps.length q.rc, .slice q.ea r.f.ends.length q.ec, .int .i64 r.f.jump.x, .int .i64 r.f.jump.y, .int .i64 r.f.jump.z, .slice q.ca r.f.cuts.length q.cc, .slice oa r.oss.length oc] 123) = W at *
 by_cases k1 : x.kind = 1
 ·have HR1 := Qa (show doR (Qk l) r x = verR (Qk l) r x by unfold doR; rw [if_pos k1])
  have HFi := Qa (RFind30_any wa wc l x.a W hl (HW.out.below HB.out).rows)
  have hd := Qb HD.out
  rw [k1] at hd
  clear k1
  go_upto_region 7 with (go_at_call 22; refine HFi.out.mono ?_; rintro e w2 ⟨rfl, hb2⟩; have HB2 := Qa hb2; clear hb2 hd; have hd := Qb (Qc HD.out HB2.out))
  by_cases c1 : ¬ x.b = 0
  ·have HR := Qa (show doR (Qk l) r x = (r, 1) by rw [HR1.out]; exact if_pos (.inl c1))
   have kX := Qc HX.out HB2.out; have kZ := Qc HZ.out HB2.out; have kb := HB.out.trans ((HB2.out).mono HB.out.size); have hcx := Qb kX; have hfz := Qe kZ; have hzz := Qd kZ; have hcz := Qb kZ; (try (have hd := Qb (Qc HD.out HB2.out))); go_wp2; refine bodyPost_ret (Qi rfl _ _ (w.heap.size + 1 + 1) 123 _ (0, 0) _ rfl (Qz kZ _ _ _ _ _ _ _ _ _) Tryz.underlying123 rfl (by kernel_rfl)) rfl ?_; rw [HR.out]; exact ⟨q, oa, oc, rfl, HRM.out.below (Ql kb (by omega) _ _ _ _ _ _ _ _ _), Ql kb (by omega) _ _ _ _ _ _ _ _ _, fun A B _ _ h => h⟩
  have c1 : x.b = 0 := by omega
  by_cases c2 : ¬ x.c = 0
  ·have HR := Qa (show doR (Qk l) r x = (r, 1) by rw [HR1.out]; exact if_pos (.inr c2))
   have kX := Qc HX.out HB2.out; have kZ := Qc HZ.out HB2.out; have kb := HB.out.trans ((HB2.out).mono HB.out.size); have hcx := Qb kX; have hfz := Qe kZ; have hzz := Qd kZ; have hcz := Qb kZ; (try (have hd := Qb (Qc HD.out HB2.out))); go_wp2; refine bodyPost_ret (Qi rfl _ _ (w.heap.size + 1 + 1) 123 _ (0, 0) _ rfl (Qz kZ _ _ _ _ _ _ _ _ _) Tryz.underlying123 rfl (by kernel_rfl)) rfl ?_; rw [HR.out]; exact ⟨q, oa, oc, rfl, HRM.out.below (Ql kb (by omega) _ _ _ _ _ _ _ _ _), Ql kb (by omega) _ _ _ _ _ _ _ _ _, fun A B _ _ h => h⟩
  have c2 : x.c = 0 := by omega
  have HV := Qa (show doR (Qk l) r x = (match Zk (Qk l) x.a with | none => (r, 4) | some y => (⟨y.ver, y.f, []⟩, 0)) by rw [HR1.out]; exact if_neg (by omega))
  rcases YZ l x.a with ⟨k, hk, e1, e2⟩ | ⟨e1, e2⟩
  ·rw [e1]
   rw [e2] at HV
   have hk0 : (0 : Int) ≤ (k : Int) := by omega
   have hk1 : (k : Int) < (l.length : Int) := by omega
   have hbw := HB.out.trans (HB2.out.mono HB.out.size)
   obtain ⟨b, off, ea, _, d0, d1, d2, d3, d4, d5, d6, d7, d8, d9, d10, d11⟩ := WlAt.get (HW.out.below hbw).rows k hk
   have HFm := Qa (HW.out.forms _ (List.getElem_mem hk))
   have HOu := Qa (fun A B (h : WsOut A B l) => h _ (List.getElem_mem hk))
   have hver : l[k].1.ver = x.a := by
    have h2 := e2
    unfold Zk at h2
    have := List.find?_some h2
    simpa using this
   have HBw := Qa hbw
   clear e1 e2 HR1 hbw
   dsimp only at HV
   rw [hver] at d0 HV
   generalize l[k] = y at *
   obtain ⟨y, p⟩ := y
   dsimp only at *
   subst ea
   clear hver
   go_upto_region 11 with (fail)
   have g0 := cell_regrown (hd 3); have g4 := cell_regrown d4; have g5 := cell_regrown d5; have g6 := cell_regrown d6; have g7 := cell_regrown d7; have g8 := cell_regrown d8; have g9 := cell_regrown d9; have g10 := cell_regrown d10
   refine wp_tailB 8 (by kernel_rfl) (by kernel_rfl) ?_
   simp only [List.take_succ_cons, List.take_zero, List.drop_succ_cons, List.drop_zero]
   repeat (go_big_quiet_step (fail))
   refine wpQuiet_nil ?_
   intro w3 hb3
   have kZ := Qc HZ.out (HB2.out.trans (hb3.mono HB2.out.size)); have kb := HBw.out.trans (hb3.mono HBw.out.size)
   clear g0 g4 g5 g6 g7 g8 g9 g10 d0 d1 d2 d3 d4 d5 d6 d7 d8 d9 d10 d11 hd hb3
   have hfz := Qe kZ; have hzz := Qd kZ; have hcz := Qb kZ
   go_wp2
   refine bodyPost_ret (Qi rfl _ _ (w.heap.size + 1 + 1) 123 _ (0, 0) _ rfl (Qz kZ _ _ _ _ _ _ _ _ _) Tryz.underlying123 rfl (by kernel_rfl)) rfl ?_
   rw [HV.out]
   exact ⟨p.q, none, 0, rfl, ⟨HFm.out.below (Ql kb (by omega) _ _ _ _ _ _ _ _ _), SlAt.nil _ _ _, SlOk.nil⟩, Ql kb (by omega) _ _ _ _ _ _ _ _ _, fun A B _ h _ => ⟨HOu.out A B h, Out.none _ _ _⟩⟩
  ·rw [e1]
   have HR := Qa (show doR (Qk l) r x = (r, 4) by rw [HV.out, e2])
   clear e1 e2 HV HR1
   have kX := Qc HX.out HB2.out; have kZ := Qc HZ.out HB2.out; have kb := HB.out.trans ((HB2.out).mono HB.out.size); have hcx := Qb kX; have hfz := Qe kZ; have hzz := Qd kZ; have hcz := Qb kZ; (try (have hd := Qb (Qc HD.out HB2.out))); go_wp2; refine bodyPost_ret (Qi rfl _ _ (w.heap.size + 1 + 1) 123 _ (0, 0) _ rfl (Qz kZ _ _ _ _ _ _ _ _ _) Tryz.underlying123 rfl (by kernel_rfl)) rfl ?_; rw [HR.out]; exact ⟨q, oa, oc, rfl, HRM.out.below (Ql kb (by omega) _ _ _ _ _ _ _ _ _), Ql kb (by omega) _ _ _ _ _ _ _ _ _, fun A B _ _ h => h⟩
 by_cases k2 : x.kind = 2
 ·have HRe := Qa (show doR (Qk l) r x = reform r (cutR r.f ⟨x.a, x.b, x.c⟩) by unfold doR; rw [if_neg k1]; rw [if_pos k2])
  have HC := Qa (RCut_any r.f q ⟨x.a, x.b, x.c⟩ W hr.few (HRM.out.form.below HB.out))
  have HFr := Qa (show reform r (cutR r.f ⟨x.a, x.b, x.c⟩) = if (cutR r.f ⟨x.a, x.b, x.c⟩).2 = 0 then ({ r with f := (cutR r.f ⟨x.a, x.b, x.c⟩).1 }, 0) else (r, (cutR r.f ⟨x.a, x.b, x.c⟩).2) from rfl)
  generalize cutR r.f ⟨x.a, x.b, x.c⟩ = P at *
  obtain ⟨f2, e2⟩ := P
  dsimp only at *
  have hd := Qb HD.out; have hcx := Qb HX.out
  rw [k2] at hd
  clear k2 k1
  have hne9 : w.heap.size ≠ w.heap.size + 1 + 1 + 1 ∧ w.heap.size + 1 ≠ w.heap.size + 1 + 1 + 1 ∧ w.heap.size + 1 + 1 ≠ w.heap.size + 1 + 1 + 1 := by omega
  go_upto_region 22 with (go_at_call 186; refine HC.out.mono ?_; rintro e w2 ⟨q2, rfl, hf2, hb2, hfr⟩; have HF2 := Qa hf2; have HB2 := Qa hb2; have HFF := Qa hfr; have hcO := Qb (Qc HO.out hb2); have hfO := Qe (Qc HO.out hb2); have hzO := Qd (Qc HO.out hb2); clear hf2 hb2 hfr)
  have HBw := Qa (HB.out.trans (HB2.out.mono HB.out.size))
  have kO : (((((((w2.setCell ⟨w.heap.size + 1 + 1 + 1, 1, none⟩ (.int .i64 f2.bars)).setCell ⟨w.heap.size + 1 + 1 + 1, 2, none⟩ (.slice q2.ra f2.reps.length q2.rc)).setCell ⟨w.heap.size + 1 + 1 + 1, 3, none⟩ (.slice q2.ea f2.ends.length q2.ec)).setCell ⟨w.heap.size + 1 + 1 + 1, 4, none⟩ (.int .i64 f2.jump.x)).setCell ⟨w.heap.size + 1 + 1 + 1, 5, none⟩ (.int .i64 f2.jump.y)).setCell ⟨w.heap.size + 1 + 1 + 1, 6, none⟩ (.int .i64 f2.jump.z)).setCell ⟨w.heap.size + 1 + 1 + 1, 7, none⟩ (.slice q2.ca f2.cuts.length q2.cc)).heap[w.heap.size + 1 + 1 + 1]? = some (.cells #[.int .i64 r.ver, .int .i64 f2.bars, .slice q2.ra f2.reps.length q2.rc, .slice q2.ea f2.ends.length q2.ec, .int .i64 f2.jump.x, .int .i64 f2.jump.y, .int .i64 f2.jump.z, .slice q2.ca f2.cuts.length q2.cc, .slice oa r.oss.length oc] 123) := Uc (Qc HO.out HB2.out) _ _ _ _ _ _ _
  have kX : (((((((w2.setCell ⟨w.heap.size + 1 + 1 + 1, 1, none⟩ (.int .i64 f2.bars)).setCell ⟨w.heap.size + 1 + 1 + 1, 2, none⟩ (.slice q2.ra f2.reps.length q2.rc)).setCell ⟨w.heap.size + 1 + 1 + 1, 3, none⟩ (.slice q2.ea f2.ends.length q2.ec)).setCell ⟨w.heap.size + 1 + 1 + 1, 4, none⟩ (.int .i64 f2.jump.x)).setCell ⟨w.heap.size + 1 + 1 + 1, 5, none⟩ (.int .i64 f2.jump.y)).setCell ⟨w.heap.size + 1 + 1 + 1, 6, none⟩ (.int .i64 f2.jump.z)).setCell ⟨w.heap.size + 1 + 1 + 1, 7, none⟩ (.slice q2.ca f2.cuts.length q2.cc)).heap[w.heap.size]? = some (.cells #[.int .i64 r.ver, .int .i64 r.f.bars, .slice q.ra r.f.reps.length q.rc, .slice q.ea r.f.ends.length q.ec, .int .i64 r.f.jump.x, .int .i64 r.f.jump.y, .int .i64 r.f.jump.z, .slice q.ca r.f.cuts.length q.cc, .slice oa r.oss.length oc] 123) := Yp (Qc HX.out HB2.out) hne9.1 _ _ _ _ _ _ _
  have kZ : (((((((w2.setCell ⟨w.heap.size + 1 + 1 + 1, 1, none⟩ (.int .i64 f2.bars)).setCell ⟨w.heap.size + 1 + 1 + 1, 2, none⟩ (.slice q2.ra f2.reps.length q2.rc)).setCell ⟨w.heap.size + 1 + 1 + 1, 3, none⟩ (.slice q2.ea f2.ends.length q2.ec)).setCell ⟨w.heap.size + 1 + 1 + 1, 4, none⟩ (.int .i64 f2.jump.x)).setCell ⟨w.heap.size + 1 + 1 + 1, 5, none⟩ (.int .i64 f2.jump.y)).setCell ⟨w.heap.size + 1 + 1 + 1, 6, none⟩ (.int .i64 f2.jump.z)).setCell ⟨w.heap.size + 1 + 1 + 1, 7, none⟩ (.slice q2.ca f2.cuts.length q2.cc)).heap[w.heap.size + 1 + 1]? = some (.cells #[.int .i64 0, .int .i64 0, .slice none 0 0, .slice none 0 0, .int .i64 0, .int .i64 0, .int .i64 0, .slice none 0 0, .slice none 0 0] 123) := Yp (Qc HZ.out HB2.out) hne9.2.2 _ _ _ _ _ _ _
  have kb : Below w.heap.size w (((((((w2.setCell ⟨w.heap.size + 1 + 1 + 1, 1, none⟩ (.int .i64 f2.bars)).setCell ⟨w.heap.size + 1 + 1 + 1, 2, none⟩ (.slice q2.ra f2.reps.length q2.rc)).setCell ⟨w.heap.size + 1 + 1 + 1, 3, none⟩ (.slice q2.ea f2.ends.length q2.ec)).setCell ⟨w.heap.size + 1 + 1 + 1, 4, none⟩ (.int .i64 f2.jump.x)).setCell ⟨w.heap.size + 1 + 1 + 1, 5, none⟩ (.int .i64 f2.jump.y)).setCell ⟨w.heap.size + 1 + 1 + 1, 6, none⟩ (.int .i64 f2.jump.z)).setCell ⟨w.heap.size + 1 + 1 + 1, 7, none⟩ (.slice q2.ca f2.cuts.length q2.cc)) := Y8 HBw.out (by omega) _ _ _ _ _ _ _
  have kk : KeepO w.heap.size W.heap.size w2 (((((((w2.setCell ⟨w.heap.size + 1 + 1 + 1, 1, none⟩ (.int .i64 f2.bars)).setCell ⟨w.heap.size + 1 + 1 + 1, 2, none⟩ (.slice q2.ra f2.reps.length q2.rc)).setCell ⟨w.heap.size + 1 + 1 + 1, 3, none⟩ (.slice q2.ea f2.ends.length q2.ec)).setCell ⟨w.heap.size + 1 + 1 + 1, 4, none⟩ (.int .i64 f2.jump.x)).setCell ⟨w.heap.size + 1 + 1 + 1, 5, none⟩ (.int .i64 f2.jump.y)).setCell ⟨w.heap.size + 1 + 1 + 1, 6, none⟩ (.int .i64 f2.jump.z)).setCell ⟨w.heap.size + 1 + 1 + 1, 7, none⟩ (.slice q2.ca f2.cuts.length q2.cc)) := Y7 (KeepO.refl w.heap.size W.heap.size w2) (by omega) (by omega) _ _ _ _ _ _ _
  clear hcO hfO hzO hd hcx
  generalize ((((((w2.setCell ⟨w.heap.size + 1 + 1 + 1, 1, none⟩ (.int .i64 f2.bars)).setCell ⟨w.heap.size + 1 + 1 + 1, 2, none⟩ (.slice q2.ra f2.reps.length q2.rc)).setCell ⟨w.heap.size + 1 + 1 + 1, 3, none⟩ (.slice q2.ea f2.ends.length q2.ec)).setCell ⟨w.heap.size + 1 + 1 + 1, 4, none⟩ (.int .i64 f2.jump.x)).setCell ⟨w.heap.size + 1 + 1 + 1, 5, none⟩ (.int .i64 f2.jump.y)).setCell ⟨w.heap.size + 1 + 1 + 1, 6, none⟩ (.int .i64 f2.jump.z)).setCell ⟨w.heap.size + 1 + 1 + 1, 7, none⟩ (.slice q2.ca f2.cuts.length q2.cc) = w3 at *
  have hcO := Qb kO; have hcx := Qb kX; have hfz := Qe kZ; have hzz := Qd kZ; have hcz := Qb kZ
  by_cases he : e2 = 0
  ·have HR := Qa (show doR (Qk l) r x = ({ r with f := f2 }, 0) by rw [HRe.out, HFr.out, if_pos he])
   subst he
   clear HRe HFr
   go_wp2
   refine bodyPost_ret (Qi rfl _ _ (w.heap.size + 1 + 1) 123 _ (0, 0) _ rfl (Qz kZ _ _ _ _ _ _ _ _ _) Tryz.underlying123 rfl (by kernel_rfl)) rfl ?_
   rw [HR.out]
   have hol : FoOut w.heap.size W.heap.size f2 q2 := FoOut.from (FoOut.of_foAt HRM.out.form (Nat.le_refl _) _) HFF.out (Nat.le_refl _)
   exact ⟨q2, oa, oc, rfl, ⟨HF2.out.keepO (Q1 kk (by omega) (by omega) _ _ _ _ _ _ _ _ _) hol, SlAt.below HRM.out.oss (Ql kb (by omega) _ _ _ _ _ _ _ _ _), HRM.out.oko⟩, Ql kb (by omega) _ _ _ _ _ _ _ _ _, fun A B hB _ h => ⟨FoOut.from h.form HFF.out (Nat.le_trans hB HB.out.size), h.oss⟩⟩
  ·have HR := Qa (show doR (Qk l) r x = (r, e2) by rw [HRe.out, HFr.out, if_neg he])
   clear HRe HFr
   go_wp2
   refine bodyPost_ret (Qi rfl _ _ (w.heap.size + 1 + 1) 123 _ (0, 0) _ rfl (Qz kZ _ _ _ _ _ _ _ _ _) Tryz.underlying123 rfl (by kernel_rfl)) rfl ?_
   rw [HR.out]
   exact ⟨q, oa, oc, rfl, HRM.out.below (Ql kb (by omega) _ _ _ _ _ _ _ _ _), Ql kb (by omega) _ _ _ _ _ _ _ _ _, fun A B _ _ h => h⟩
 by_cases k3 : x.kind = 3
 ·have HRe := Qa (show doR (Qk l) r x = reform r (Zj r.f ⟨x.a, x.b, x.c⟩) by unfold doR; rw [if_neg k1]; rw [if_neg k2]; rw [if_pos k3])
  have HC := Qa (ROpen_any r.f q ⟨x.a, x.b, x.c⟩ W hr.few (HRM.out.form.below HB.out))
  have HFr := Qa (show reform r (Zj r.f ⟨x.a, x.b, x.c⟩) = if (Zj r.f ⟨x.a, x.b, x.c⟩).2 = 0 then ({ r with f := (Zj r.f ⟨x.a, x.b, x.c⟩).1 }, 0) else (r, (Zj r.f ⟨x.a, x.b, x.c⟩).2) from rfl)
  generalize Zj r.f ⟨x.a, x.b, x.c⟩ = P at *
  obtain ⟨f2, e2⟩ := P
  dsimp only at *
  have hd := Qb HD.out; have hcx := Qb HX.out
  rw [k3] at hd
  clear k3 k1 k2
  have hne9 : w.heap.size ≠ w.heap.size + 1 + 1 + 1 ∧ w.heap.size + 1 ≠ w.heap.size + 1 + 1 + 1 ∧ w.heap.size + 1 + 1 ≠ w.heap.size + 1 + 1 + 1 := by omega
  go_upto_region 22 with (go_at_call 187; refine HC.out.mono ?_; rintro e w2 ⟨q2, rfl, hf2, hb2, hfr⟩; have HF2 := Qa hf2; have HB2 := Qa hb2; have HFF := Qa hfr; have hcO := Qb (Qc HO.out hb2); have hfO := Qe (Qc HO.out hb2); have hzO := Qd (Qc HO.out hb2); clear hf2 hb2 hfr)
  have HBw := Qa (HB.out.trans (HB2.out.mono HB.out.size))
  have kO : (((((((w2.setCell ⟨w.heap.size + 1 + 1 + 1, 1, none⟩ (.int .i64 f2.bars)).setCell ⟨w.heap.size + 1 + 1 + 1, 2, none⟩ (.slice q2.ra f2.reps.length q2.rc)).setCell ⟨w.heap.size + 1 + 1 + 1, 3, none⟩ (.slice q2.ea f2.ends.length q2.ec)).setCell ⟨w.heap.size + 1 + 1 + 1, 4, none⟩ (.int .i64 f2.jump.x)).setCell ⟨w.heap.size + 1 + 1 + 1, 5, none⟩ (.int .i64 f2.jump.y)).setCell ⟨w.heap.size + 1 + 1 + 1, 6, none⟩ (.int .i64 f2.jump.z)).setCell ⟨w.heap.size + 1 + 1 + 1, 7, none⟩ (.slice q2.ca f2.cuts.length q2.cc)).heap[w.heap.size + 1 + 1 + 1]? = some (.cells #[.int .i64 r.ver, .int .i64 f2.bars, .slice q2.ra f2.reps.length q2.rc, .slice q2.ea f2.ends.length q2.ec, .int .i64 f2.jump.x, .int .i64 f2.jump.y, .int .i64 f2.jump.z, .slice q2.ca f2.cuts.length q2.cc, .slice oa r.oss.length oc] 123) := Uc (Qc HO.out HB2.out) _ _ _ _ _ _ _
  have kX : (((((((w2.setCell ⟨w.heap.size + 1 + 1 + 1, 1, none⟩ (.int .i64 f2.bars)).setCell ⟨w.heap.size + 1 + 1 + 1, 2, none⟩ (.slice q2.ra f2.reps.length q2.rc)).setCell ⟨w.heap.size + 1 + 1 + 1, 3, none⟩ (.slice q2.ea f2.ends.length q2.ec)).setCell ⟨w.heap.size + 1 + 1 + 1, 4, none⟩ (.int .i64 f2.jump.x)).setCell ⟨w.heap.size + 1 + 1 + 1, 5, none⟩ (.int .i64 f2.jump.y)).setCell ⟨w.heap.size + 1 + 1 + 1, 6, none⟩ (.int .i64 f2.jump.z)).setCell ⟨w.heap.size + 1 + 1 + 1, 7, none⟩ (.slice q2.ca f2.cuts.length q2.cc)).heap[w.heap.size]? = some (.cells #[.int .i64 r.ver, .int .i64 r.f.bars, .slice q.ra r.f.reps.length q.rc, .slice q.ea r.f.ends.length q.ec, .int .i64 r.f.jump.x, .int .i64 r.f.jump.y, .int .i64 r.f.jump.z, .slice q.ca r.f.cuts.length q.cc, .slice oa r.oss.length oc] 123) := Yp (Qc HX.out HB2.out) hne9.1 _ _ _ _ _ _ _
  have kZ : (((((((w2.setCell ⟨w.heap.size + 1 + 1 + 1, 1, none⟩ (.int .i64 f2.bars)).setCell ⟨w.heap.size + 1 + 1 + 1, 2, none⟩ (.slice q2.ra f2.reps.length q2.rc)).setCell ⟨w.heap.size + 1 + 1 + 1, 3, none⟩ (.slice q2.ea f2.ends.length q2.ec)).setCell ⟨w.heap.size + 1 + 1 + 1, 4, none⟩ (.int .i64 f2.jump.x)).setCell ⟨w.heap.size + 1 + 1 + 1, 5, none⟩ (.int .i64 f2.jump.y)).setCell ⟨w.heap.size + 1 + 1 + 1, 6, none⟩ (.int .i64 f2.jump.z)).setCell ⟨w.heap.size + 1 + 1 + 1, 7, none⟩ (.slice q2.ca f2.cuts.length q2.cc)).heap[w.heap.size + 1 + 1]? = some (.cells #[.int .i64 0, .int .i64 0, .slice none 0 0, .slice none 0 0, .int .i64 0, .int .i64 0, .int .i64 0, .slice none 0 0, .slice none 0 0] 123) := Yp (Qc HZ.out HB2.out) hne9.2.2 _ _ _ _ _ _ _
  have kb : Below w.heap.size w (((((((w2.setCell ⟨w.heap.size + 1 + 1 + 1, 1, none⟩ (.int .i64 f2.bars)).setCell ⟨w.heap.size + 1 + 1 + 1, 2, none⟩ (.slice q2.ra f2.reps.length q2.rc)).setCell ⟨w.heap.size + 1 + 1 + 1, 3, none⟩ (.slice q2.ea f2.ends.length q2.ec)).setCell ⟨w.heap.size + 1 + 1 + 1, 4, none⟩ (.int .i64 f2.jump.x)).setCell ⟨w.heap.size + 1 + 1 + 1, 5, none⟩ (.int .i64 f2.jump.y)).setCell ⟨w.heap.size + 1 + 1 + 1, 6, none⟩ (.int .i64 f2.jump.z)).setCell ⟨w.heap.size + 1 + 1 + 1, 7, none⟩ (.slice q2.ca f2.cuts.length q2.cc)) := Y8 HBw.out (by omega) _ _ _ _ _ _ _
  have kk : KeepO w.heap.size W.heap.size w2 (((((((w2.setCell ⟨w.heap.size + 1 + 1 + 1, 1, none⟩ (.int .i64 f2.bars)).setCell ⟨w.heap.size + 1 + 1 + 1, 2, none⟩ (.slice q2.ra f2.reps.length q2.rc)).setCell ⟨w.heap.size + 1 + 1 + 1, 3, none⟩ (.slice q2.ea f2.ends.length q2.ec)).setCell ⟨w.heap.size + 1 + 1 + 1, 4, none⟩ (.int .i64 f2.jump.x)).setCell ⟨w.heap.size + 1 + 1 + 1, 5, none⟩ (.int .i64 f2.jump.y)).setCell ⟨w.heap.size + 1 + 1 + 1, 6, none⟩ (.int .i64 f2.jump.z)).setCell ⟨w.heap.size + 1 + 1 + 1, 7, none⟩ (.slice q2.ca f2.cuts.length q2.cc)) := Y7 (KeepO.refl w.heap.size W.heap.size w2) (by omega) (by omega) _ _ _ _ _ _ _
  clear hcO hfO hzO hd hcx
  generalize ((((((w2.setCell ⟨w.heap.size + 1 + 1 + 1, 1, none⟩ (.int .i64 f2.bars)).setCell ⟨w.heap.size + 1 + 1 + 1, 2, none⟩ (.slice q2.ra f2.reps.length q2.rc)).setCell ⟨w.heap.size + 1 + 1 + 1, 3, none⟩ (.slice q2.ea f2.ends.length q2.ec)).setCell ⟨w.heap.size + 1 + 1 + 1, 4, none⟩ (.int .i64 f2.jump.x)).setCell ⟨w.heap.size + 1 + 1 + 1, 5, none⟩ (.int .i64 f2.jump.y)).setCell ⟨w.heap.size + 1 + 1 + 1, 6, none⟩ (.int .i64 f2.jump.z)).setCell ⟨w.heap.size + 1 + 1 + 1, 7, none⟩ (.slice q2.ca f2.cuts.length q2.cc) = w3 at *
  have hcO := Qb kO; have hcx := Qb kX; have hfz := Qe kZ; have hzz := Qd kZ; have hcz := Qb kZ
  by_cases he : e2 = 0
  ·have HR := Qa (show doR (Qk l) r x = ({ r with f := f2 }, 0) by rw [HRe.out, HFr.out, if_pos he])
   subst he
   clear HRe HFr
   go_wp2
   refine bodyPost_ret (Qi rfl _ _ (w.heap.size + 1 + 1) 123 _ (0, 0) _ rfl (Qz kZ _ _ _ _ _ _ _ _ _) Tryz.underlying123 rfl (by kernel_rfl)) rfl ?_
   rw [HR.out]
   have hol : FoOut w.heap.size W.heap.size f2 q2 := FoOut.from (FoOut.of_foAt HRM.out.form (Nat.le_refl _) _) HFF.out (Nat.le_refl _)
   exact ⟨q2, oa, oc, rfl, ⟨HF2.out.keepO (Q1 kk (by omega) (by omega) _ _ _ _ _ _ _ _ _) hol, SlAt.below HRM.out.oss (Ql kb (by omega) _ _ _ _ _ _ _ _ _), HRM.out.oko⟩, Ql kb (by omega) _ _ _ _ _ _ _ _ _, fun A B hB _ h => ⟨FoOut.from h.form HFF.out (Nat.le_trans hB HB.out.size), h.oss⟩⟩
  ·have HR := Qa (show doR (Qk l) r x = (r, e2) by rw [HRe.out, HFr.out, if_neg he])
   clear HRe HFr
   go_wp2
   refine bodyPost_ret (Qi rfl _ _ (w.heap.size + 1 + 1) 123 _ (0, 0) _ rfl (Qz kZ _ _ _ _ _ _ _ _ _) Tryz.underlying123 rfl (by kernel_rfl)) rfl ?_
   rw [HR.out]
   exact ⟨q, oa, oc, rfl, HRM.out.below (Ql kb (by omega) _ _ _ _ _ _ _ _ _), Ql kb (by omega) _ _ _ _ _ _ _ _ _, fun A B _ _ h => h⟩
 by_cases hc4 : x.kind = 4 ∧ x.c ≠ 0
 ·obtain ⟨k4, hc⟩ := hc4
  have HR := Qa (show doR (Qk l) r x = (r, 1) by unfold doR; rw [if_neg k1, if_neg k2, if_neg k3, if_pos k4, if_pos hc])
  have hd := Qb HD.out
  rw [k4] at hd
  clear k1 k2 k3 k4
  go_upto_region 18 with (fail)
  clear hd
  have kX := Qc HX.out (Below.refl _ _); have kZ := Qc HZ.out (Below.refl _ _); have kb := HB.out.trans (((Below.refl _ _)).mono HB.out.size); have hcx := Qb kX; have hfz := Qe kZ; have hzz := Qd kZ; have hcz := Qb kZ; (try (have hd := Qb (Qc HD.out (Below.refl _ _)))); go_wp2; refine bodyPost_ret (Qi rfl _ _ (w.heap.size + 1 + 1) 123 _ (0, 0) _ rfl (Qz kZ _ _ _ _ _ _ _ _ _) Tryz.underlying123 rfl (by kernel_rfl)) rfl ?_; rw [HR.out]; exact ⟨q, oa, oc, rfl, HRM.out.below (Ql kb (by omega) _ _ _ _ _ _ _ _ _), Ql kb (by omega) _ _ _ _ _ _ _ _ _, fun A B _ _ h => h⟩
 by_cases k4 : x.kind = 4
 ·have hc0 : x.c = 0 := by
   apply Classical.byContradiction
   intro h
   exact hc4 ⟨k4, h⟩
  clear hc4
  have HRe := Qa (show doR (Qk l) r x = reform r (QW r.f x.a x.b) by unfold doR; rw [if_neg k1]; rw [if_neg k2]; rw [if_neg k3]; rw [if_pos k4]; rw [if_neg (show ¬ x.c ≠ 0 by omega)])
  have HC := Qa (RTimes_any r.f q x.a x.b W hr.few (HRM.out.form.below HB.out))
  have HFr := Qa (show reform r (QW r.f x.a x.b) = if (QW r.f x.a x.b).2 = 0 then ({ r with f := (QW r.f x.a x.b).1 }, 0) else (r, (QW r.f x.a x.b).2) from rfl)
  generalize QW r.f x.a x.b = P at *
  obtain ⟨f2, e2⟩ := P
  dsimp only at *
  have hd := Qb HD.out; have hcx := Qb HX.out
  rw [k4] at hd
  clear k4 k1 k2 k3
  have hne9 : w.heap.size ≠ w.heap.size + 1 + 1 + 1 ∧ w.heap.size + 1 ≠ w.heap.size + 1 + 1 + 1 ∧ w.heap.size + 1 + 1 ≠ w.heap.size + 1 + 1 + 1 := by omega
  go_upto_region 22 with (go_at_call 188; refine HC.out.mono ?_; rintro e w2 ⟨q2, rfl, hf2, hb2, hfr⟩; have HF2 := Qa hf2; have HB2 := Qa hb2; have HFF := Qa hfr; have hcO := Qb (Qc HO.out hb2); have hfO := Qe (Qc HO.out hb2); have hzO := Qd (Qc HO.out hb2); clear hf2 hb2 hfr)
  have HBw := Qa (HB.out.trans (HB2.out.mono HB.out.size))
  have kO : (((((((w2.setCell ⟨w.heap.size + 1 + 1 + 1, 1, none⟩ (.int .i64 f2.bars)).setCell ⟨w.heap.size + 1 + 1 + 1, 2, none⟩ (.slice q2.ra f2.reps.length q2.rc)).setCell ⟨w.heap.size + 1 + 1 + 1, 3, none⟩ (.slice q2.ea f2.ends.length q2.ec)).setCell ⟨w.heap.size + 1 + 1 + 1, 4, none⟩ (.int .i64 f2.jump.x)).setCell ⟨w.heap.size + 1 + 1 + 1, 5, none⟩ (.int .i64 f2.jump.y)).setCell ⟨w.heap.size + 1 + 1 + 1, 6, none⟩ (.int .i64 f2.jump.z)).setCell ⟨w.heap.size + 1 + 1 + 1, 7, none⟩ (.slice q2.ca f2.cuts.length q2.cc)).heap[w.heap.size + 1 + 1 + 1]? = some (.cells #[.int .i64 r.ver, .int .i64 f2.bars, .slice q2.ra f2.reps.length q2.rc, .slice q2.ea f2.ends.length q2.ec, .int .i64 f2.jump.x, .int .i64 f2.jump.y, .int .i64 f2.jump.z, .slice q2.ca f2.cuts.length q2.cc, .slice oa r.oss.length oc] 123) := Uc (Qc HO.out HB2.out) _ _ _ _ _ _ _
  have kX : (((((((w2.setCell ⟨w.heap.size + 1 + 1 + 1, 1, none⟩ (.int .i64 f2.bars)).setCell ⟨w.heap.size + 1 + 1 + 1, 2, none⟩ (.slice q2.ra f2.reps.length q2.rc)).setCell ⟨w.heap.size + 1 + 1 + 1, 3, none⟩ (.slice q2.ea f2.ends.length q2.ec)).setCell ⟨w.heap.size + 1 + 1 + 1, 4, none⟩ (.int .i64 f2.jump.x)).setCell ⟨w.heap.size + 1 + 1 + 1, 5, none⟩ (.int .i64 f2.jump.y)).setCell ⟨w.heap.size + 1 + 1 + 1, 6, none⟩ (.int .i64 f2.jump.z)).setCell ⟨w.heap.size + 1 + 1 + 1, 7, none⟩ (.slice q2.ca f2.cuts.length q2.cc)).heap[w.heap.size]? = some (.cells #[.int .i64 r.ver, .int .i64 r.f.bars, .slice q.ra r.f.reps.length q.rc, .slice q.ea r.f.ends.length q.ec, .int .i64 r.f.jump.x, .int .i64 r.f.jump.y, .int .i64 r.f.jump.z, .slice q.ca r.f.cuts.length q.cc, .slice oa r.oss.length oc] 123) := Yp (Qc HX.out HB2.out) hne9.1 _ _ _ _ _ _ _
  have kZ : (((((((w2.setCell ⟨w.heap.size + 1 + 1 + 1, 1, none⟩ (.int .i64 f2.bars)).setCell ⟨w.heap.size + 1 + 1 + 1, 2, none⟩ (.slice q2.ra f2.reps.length q2.rc)).setCell ⟨w.heap.size + 1 + 1 + 1, 3, none⟩ (.slice q2.ea f2.ends.length q2.ec)).setCell ⟨w.heap.size + 1 + 1 + 1, 4, none⟩ (.int .i64 f2.jump.x)).setCell ⟨w.heap.size + 1 + 1 + 1, 5, none⟩ (.int .i64 f2.jump.y)).setCell ⟨w.heap.size + 1 + 1 + 1, 6, none⟩ (.int .i64 f2.jump.z)).setCell ⟨w.heap.size + 1 + 1 + 1, 7, none⟩ (.slice q2.ca f2.cuts.length q2.cc)).heap[w.heap.size + 1 + 1]? = some (.cells #[.int .i64 0, .int .i64 0, .slice none 0 0, .slice none 0 0, .int .i64 0, .int .i64 0, .int .i64 0, .slice none 0 0, .slice none 0 0] 123) := Yp (Qc HZ.out HB2.out) hne9.2.2 _ _ _ _ _ _ _
  have kb : Below w.heap.size w (((((((w2.setCell ⟨w.heap.size + 1 + 1 + 1, 1, none⟩ (.int .i64 f2.bars)).setCell ⟨w.heap.size + 1 + 1 + 1, 2, none⟩ (.slice q2.ra f2.reps.length q2.rc)).setCell ⟨w.heap.size + 1 + 1 + 1, 3, none⟩ (.slice q2.ea f2.ends.length q2.ec)).setCell ⟨w.heap.size + 1 + 1 + 1, 4, none⟩ (.int .i64 f2.jump.x)).setCell ⟨w.heap.size + 1 + 1 + 1, 5, none⟩ (.int .i64 f2.jump.y)).setCell ⟨w.heap.size + 1 + 1 + 1, 6, none⟩ (.int .i64 f2.jump.z)).setCell ⟨w.heap.size + 1 + 1 + 1, 7, none⟩ (.slice q2.ca f2.cuts.length q2.cc)) := Y8 HBw.out (by omega) _ _ _ _ _ _ _
  have kk : KeepO w.heap.size W.heap.size w2 (((((((w2.setCell ⟨w.heap.size + 1 + 1 + 1, 1, none⟩ (.int .i64 f2.bars)).setCell ⟨w.heap.size + 1 + 1 + 1, 2, none⟩ (.slice q2.ra f2.reps.length q2.rc)).setCell ⟨w.heap.size + 1 + 1 + 1, 3, none⟩ (.slice q2.ea f2.ends.length q2.ec)).setCell ⟨w.heap.size + 1 + 1 + 1, 4, none⟩ (.int .i64 f2.jump.x)).setCell ⟨w.heap.size + 1 + 1 + 1, 5, none⟩ (.int .i64 f2.jump.y)).setCell ⟨w.heap.size + 1 + 1 + 1, 6, none⟩ (.int .i64 f2.jump.z)).setCell ⟨w.heap.size + 1 + 1 + 1, 7, none⟩ (.slice q2.ca f2.cuts.length q2.cc)) := Y7 (KeepO.refl w.heap.size W.heap.size w2) (by omega) (by omega) _ _ _ _ _ _ _
  clear hcO hfO hzO hd hcx
  generalize ((((((w2.setCell ⟨w.heap.size + 1 + 1 + 1, 1, none⟩ (.int .i64 f2.bars)).setCell ⟨w.heap.size + 1 + 1 + 1, 2, none⟩ (.slice q2.ra f2.reps.length q2.rc)).setCell ⟨w.heap.size + 1 + 1 + 1, 3, none⟩ (.slice q2.ea f2.ends.length q2.ec)).setCell ⟨w.heap.size + 1 + 1 + 1, 4, none⟩ (.int .i64 f2.jump.x)).setCell ⟨w.heap.size + 1 + 1 + 1, 5, none⟩ (.int .i64 f2.jump.y)).setCell ⟨w.heap.size + 1 + 1 + 1, 6, none⟩ (.int .i64 f2.jump.z)).setCell ⟨w.heap.size + 1 + 1 + 1, 7, none⟩ (.slice q2.ca f2.cuts.length q2.cc) = w3 at *
  have hcO := Qb kO; have hcx := Qb kX; have hfz := Qe kZ; have hzz := Qd kZ; have hcz := Qb kZ
  by_cases he : e2 = 0
  ·have HR := Qa (show doR (Qk l) r x = ({ r with f := f2 }, 0) by rw [HRe.out, HFr.out, if_pos he])
   subst he
   clear HRe HFr
   go_wp2
   refine bodyPost_ret (Qi rfl _ _ (w.heap.size + 1 + 1) 123 _ (0, 0) _ rfl (Qz kZ _ _ _ _ _ _ _ _ _) Tryz.underlying123 rfl (by kernel_rfl)) rfl ?_
   rw [HR.out]
   have hol : FoOut w.heap.size W.heap.size f2 q2 := FoOut.from (FoOut.of_foAt HRM.out.form (Nat.le_refl _) _) HFF.out (Nat.le_refl _)
   exact ⟨q2, oa, oc, rfl, ⟨HF2.out.keepO (Q1 kk (by omega) (by omega) _ _ _ _ _ _ _ _ _) hol, SlAt.below HRM.out.oss (Ql kb (by omega) _ _ _ _ _ _ _ _ _), HRM.out.oko⟩, Ql kb (by omega) _ _ _ _ _ _ _ _ _, fun A B hB _ h => ⟨FoOut.from h.form HFF.out (Nat.le_trans hB HB.out.size), h.oss⟩⟩
  ·have HR := Qa (show doR (Qk l) r x = (r, e2) by rw [HRe.out, HFr.out, if_neg he])
   clear HRe HFr
   go_wp2
   refine bodyPost_ret (Qi rfl _ _ (w.heap.size + 1 + 1) 123 _ (0, 0) _ rfl (Qz kZ _ _ _ _ _ _ _ _ _) Tryz.underlying123 rfl (by kernel_rfl)) rfl ?_
   rw [HR.out]
   exact ⟨q, oa, oc, rfl, HRM.out.below (Ql kb (by omega) _ _ _ _ _ _ _ _ _), Ql kb (by omega) _ _ _ _ _ _ _ _ _, fun A B _ _ h => h⟩
 by_cases k5 : x.kind = 5
 ·have HR := Qa (show doR (Qk l) r x = ossR r x by unfold doR; rw [if_neg k1, if_neg k2, if_neg k3, if_neg k4, if_pos k5])
  have HC := Qa (Rossia30_any l x r q oa oc W hr (HRM.out.below HB.out))
  generalize ossR r x = P at *
  obtain ⟨r5, e5⟩ := P
  have hd := Qb HD.out; have hcx := Qb HX.out
  rw [k5] at hd hc4
  have hds : ((.agg #[.int .i64 x.num, .int .i64 x.time, .int .i64 x.kind, .int .i64 x.a, .int .i64 x.b, .int .i64 x.c]) : Value) = .agg #[.int .i64 x.num, .int .i64 x.time, .int .i64 5, .int .i64 x.a, .int .i64 x.b, .int .i64 x.c] := by rw [k5]
  rw [hds] at HC
  clear k1 k2 k3 k4 k5 hc4 hds
  go_upto_region 21 with (fail)
  go_wp2_with (go_at_call 189; refine HC.out.mono ?_; rintro e w2 ⟨q5, oa5, oc5, rfl, hrm5, hb5, hou5⟩; have HRM5 := Qa hrm5; have HB5 := Qa hb5; have HOu := Qa hou5; clear hrm5 hb5 hou5; have kZ := Qc HZ.out HB5.out; have hfz := Qe kZ; have hzz := Qd kZ; have hcz := Qb kZ)
  have kb := HB.out.trans (HB5.out.mono HB.out.size)
  refine bodyPost_ret (Qi rfl _ _ (w.heap.size + 1 + 1) 123 _ (0, 0) _ rfl (Qz kZ _ _ _ _ _ _ _ _ _) Tryz.underlying123 rfl (by kernel_rfl)) rfl ?_
  rw [HR.out]
  have hol := HOu.out w.heap.size W.heap.size (Nat.le_refl _) (WsOut.of_at HW.out (Nat.le_refl _) _) (RmOut.of_at HRM.out (Nat.le_refl _) _)
  exact ⟨q5, oa5, oc5, rfl, HRM5.out.keepO (Q1 (KeepO.refl w.heap.size W.heap.size w2) (by omega) (by omega) _ _ _ _ _ _ _ _ _) hol, Ql kb (by omega) _ _ _ _ _ _ _ _ _, fun A B hB h1 h2 => HOu.out A B (Nat.le_trans hB HB.out.size) h1 h2⟩
 have HR := Qa (show doR (Qk l) r x = (r, 1) by unfold doR; rw [if_neg k1, if_neg k2, if_neg k3, if_neg k4, if_neg k5])
 have hd := Qb HD.out
 clear hc4
 have kX := Qc HX.out (Below.refl _ _); have kZ := Qc HZ.out (Below.refl _ _); have kb := HB.out.trans (((Below.refl _ _)).mono HB.out.size); have hcx := Qb kX; have hfz := Qe kZ; have hzz := Qd kZ; have hcz := Qb kZ; (try (have hd := Qb (Qc HD.out (Below.refl _ _)))); go_wp2; refine bodyPost_ret (Qi rfl _ _ (w.heap.size + 1 + 1) 123 _ (0, 0) _ rfl (Qz kZ _ _ _ _ _ _ _ _ _) Tryz.underlying123 rfl (by kernel_rfl)) rfl ?_; rw [HR.out]; exact ⟨q, oa, oc, rfl, HRM.out.below (Ql kb (by omega) _ _ _ _ _ _ _ _ _), Ql kb (by omega) _ _ _ _ _ _ _ _ _, fun A B _ _ h => h⟩
theorem runR_drop {L : List Wk} {r : Rm} {d : List De} {k : Nat} (h : k < d.length) : runR L r (d.drop k) = if (doR L r d[k]).2 = 0 then runR L (doR L r d[k]).1 (d.drop (k + 1)) else (r, (doR L r d[k]).2) := by
 rw [List.drop_eq_getElem_cons h]; rfl
theorem RAfter30_any (wa : Option Addr) (wc : Nat) (l : List (Wk × Wp)) (da : Option Addr) (dc : Nat) (d : List De) (w : World) (hl0 : 0 < l.length) (hl : l.length ≤ 1000) (hfew : ∀ y ∈ l, FoFew y.1.f) (hw : WsAt w wa l) (hdl : d.length ≤ 1000000) (hd : DeAt w da d) :
  Calls Tryz.prog 109 #[.slice wa l.length wc, .slice da d.length dc] w fun e w' => ∃ q oa oc, e = .returned (.tuple #[.agg #[.int .i64 ((runR (Qk l) (Qx (Qk l)) d).1).ver, .int .i64 ((runR (Qk l) (Qx (Qk l)) d).1).f.bars, .slice q.ra ((runR (Qk l) (Qx (Qk l)) d).1).f.reps.length q.rc, .slice q.ea ((runR (Qk l) (Qx (Qk l)) d).1).f.ends.length q.ec, .int .i64 ((runR (Qk l) (Qx (Qk l)) d).1).f.jump.x, .int .i64 ((runR (Qk l) (Qx (Qk l)) d).1).f.jump.y, .int .i64 ((runR (Qk l) (Qx (Qk l)) d).1).f.jump.z, .slice q.ca ((runR (Qk l) (Qx (Qk l)) d).1).f.cuts.length q.cc, .slice oa ((runR (Qk l) (Qx (Qk l)) d).1).oss.length oc], .int .i64 (runR (Qk l) (Qx (Qk l)) d).2]) ∧ RmAt w' (runR (Qk l) (Qx (Qk l)) d).1 q oa oc ∧ Below w.heap.size w w' ∧ ∀ A B, B ≤ w.heap.size → WsOut A B l → RmOut A B (runR (Qk l) (Qx (Qk l)) d).1 q oa := by
 have hfew' : ∀ y ∈ Qk l, FoFew y.f := fun y hy => by
  obtain ⟨z, hz, rfl⟩ := List.mem_map.1 hy
  exact hfew z hz
 have hb := Qg (w := w) (.cells #[.int .i64 0, .int .i64 0, .slice none 0 0, .slice none 0 0, .int .i64 0, .int .i64 0, .int .i64 0, .slice none 0 0, .slice none 0 0] 123)
 have HX := Qa (heap_alloc_new w (.cells #[.int .i64 0, .int .i64 0, .slice none 0 0, .slice none 0 0, .int .i64 0, .int .i64 0, .int .i64 0, .slice none 0 0, .slice none 0 0] 123))
 have HF := Qa (RFirst30_any wa wc l _ hl0 (hw.below hb))
 have HB := Qa hb
 have HW := Qa hw; have HD := Qa hd
 have HOk := Qa (RmOk.first hfew')
 have HWo := Qa (fun B => WsOut.of_at hw (Nat.le_refl _) B)
 have hsz : (w.alloc (.cells #[.int .i64 0, .int .i64 0, .slice none 0 0, .slice none 0 0, .int .i64 0, .int .i64 0, .int .i64 0, .slice none 0 0, .slice none 0 0] 123)).heap.size = w.heap.size + 1 := by simp
 clear hb hw hd hfew
 obtain ⟨R, hR⟩ : ∃ R, runR (Qk l) (Qx (Qk l)) d = R := ⟨_, rfl⟩
 rw [hR]
 have HR := Qa hR
 clear hR
 generalize Qx (Qk l) = r0 at *
 go_enter Tryz.func109, Tryz.ntmps109
 go_upto_region 1 with (fail)
 generalize w.alloc (.cells #[.int .i64 0, .int .i64 0, .slice none 0 0, .slice none 0 0, .int .i64 0, .int .i64 0, .int .i64 0, .slice none 0 0, .slice none 0 0] 123) = W at *
 go_upto_region 2 with (go_at_call 146; refine HF.out.mono ?_; rintro e w2 ⟨q2, oc2, rfl, hrm2, hb2, hou2⟩; have HRM2 := Qa hrm2; have HB2 := Qa hb2; have HO2 := Qa hou2; clear hrm2 hb2 hou2)
 have HX6 := Qa (heap_alloc_new w2 (.cells #[.int .i64 r0.ver, .int .i64 r0.f.bars, .slice q2.ra r0.f.reps.length q2.rc, .slice q2.ea r0.f.ends.length q2.ec, .int .i64 r0.f.jump.x, .int .i64 r0.f.jump.y, .int .i64 r0.f.jump.z, .slice q2.ca r0.f.cuts.length q2.cc, .slice none r0.oss.length oc2] 123))
 have hb6 := Qg (w := w2) (.cells #[.int .i64 r0.ver, .int .i64 r0.f.bars, .slice q2.ra r0.f.reps.length q2.rc, .slice q2.ea r0.f.ends.length q2.ec, .int .i64 r0.f.jump.x, .int .i64 r0.f.jump.y, .int .i64 r0.f.jump.z, .slice q2.ca r0.f.cuts.length q2.cc, .slice none r0.oss.length oc2] 123)
 have HB6 := Qa ((HB.out.trans (HB2.out.mono HB.out.size)).trans (hb6.mono (by have := HB.out.size; have := HB2.out.size; omega)))
 have HRM6 := Qa (HRM2.out.below hb6)
 have HZ6 := Qa (Qc HX.out (HB2.out.trans (hb6.mono HB2.out.size)))
 have hlt6 : w.heap.size + 1 ≤ w2.heap.size := by have := HB2.out.size; omega
 clear hb6 HRM2
 generalize w2.alloc (.cells #[.int .i64 r0.ver, .int .i64 r0.f.bars, .slice q2.ra r0.f.reps.length q2.rc, .slice q2.ea r0.f.ends.length q2.ec, .int .i64 r0.f.jump.x, .int .i64 r0.f.jump.y, .int .i64 r0.f.jump.z, .slice q2.ca r0.f.cuts.length q2.cc, .slice none r0.oss.length oc2] 123) = W6 at *
 generalize w2.heap.size = b6 at *
 go_wp2
 go_loopw [7, 8, 9] (fun t7 _ _ wr => ∃ (k : Nat) (rk : Rm) (q : Fp) (oa : Option Addr) (oc : Nat), k ≤ d.length ∧ t7 = .int .i64 k ∧ Hid (runR (Qk l) r0 d = runR (Qk l) rk (d.drop k)) ∧ RmOk rk ∧ wr.heap[b6]? = some (.cells #[.int .i64 rk.ver, .int .i64 rk.f.bars, .slice q.ra rk.f.reps.length q.rc, .slice q.ea rk.f.ends.length q.ec, .int .i64 rk.f.jump.x, .int .i64 rk.f.jump.y, .int .i64 rk.f.jump.z, .slice q.ca rk.f.cuts.length q.cc, .slice oa rk.oss.length oc] 123) ∧ RmAt wr rk q oa oc ∧ Below w.heap.size w wr ∧ wr.heap[w.heap.size]? = some (.cells #[.int .i64 0, .int .i64 0, .slice none 0 0, .slice none 0 0, .int .i64 0, .int .i64 0, .int .i64 0, .slice none 0 0, .slice none 0 0] 123) ∧ (∀ A B, B ≤ w.heap.size → WsOut A B l → RmOut A B rk q oa) ∧ RmOut w.heap.size (b6 + 1) rk q oa) (fun t7 _ _ _ => d.length - (intOf t7).toNat)
 case atStart => exact ⟨0, r0, q2, none, oc2, Nat.zero_le _, rfl, Qa rfl, HOk.out, HX6.out, HRM6.out, HB6.out, HZ6.out, fun A B _ h => HO2.out A B h, HO2.out _ _ (HWo.out _)⟩
 case round =>
  obtain ⟨k, rk, q, oa, oc, hk, rfl, HC, hok, hx, hrm, hbw, hz, hou, hou2⟩ := hrel
  have HXk := Qa hx; have HRMk := Qa hrm; have HBk := Qa hbw; have HZk := Qa hz; have HOk2 := Qa hok; have HOa := Qa hou; have HOb := Qa hou2
  clear hx hrm hbw hz hok hou hou2 HX6 HRM6 HB6 HZ6
  by_cases hlt : k < d.length
  ·obtain ⟨b, off, ea, d0, d1, d2, d3, d4, d5⟩ := DeAt.get (HD.out.below HBk.out) k hlt
   have HC2 := Qa (HC.out.trans (runR_drop hlt))
   have HDo := Qa (fun V (hV : Below wr.heap.size wr V) => RDo30_any wa wc l d[k] rk q oa oc V hl HOk2.out (HW.out.below (HBk.out.trans (hV.mono HBk.out.size))) (HRMk.out.below hV))
   have HOk3 := Qa (RmOk.do_ hfew' HOk2.out d[k])
   have hki : (k : Int) < (d.length : Int) := by omega
   have hk0 : ¬ (k : Int) < 0 := by omega
   have hwk : IntKind.i64.wrap ((k : Int) + 1) = (k : Int) + 1 := IntWalk.i64_in _ (by omega)
   subst ea
   clear HC
   generalize d[k] = x at *
   generalize doR (Qk l) rk x = P at *
   obtain ⟨r2, e2⟩ := P
   dsimp only at *
   go_upto_region 5 with (fail)
   refine wp_region_held_drew (S := fun w' => w'.heap[b6]? = some (.cells #[.int .i64 rk.ver, .int .i64 rk.f.bars, .slice q.ra rk.f.reps.length q.rc, .slice q.ea rk.f.ends.length q.ec, .int .i64 rk.f.jump.x, .int .i64 rk.f.jump.y, .int .i64 rk.f.jump.z, .slice q.ca rk.f.cuts.length q.cc, .slice oa rk.oss.length oc] 123) ∧ (w'.cell? ⟨b, off + k * 6, none⟩ = some (.int .i64 x.num) ∧ w'.cell? ⟨b, off + k * 6 + 1, none⟩ = some (.int .i64 x.time) ∧ w'.cell? ⟨b, off + k * 6 + 2, none⟩ = some (.int .i64 x.kind) ∧ w'.cell? ⟨b, off + k * 6 + 3, none⟩ = some (.int .i64 x.a) ∧ w'.cell? ⟨b, off + k * 6 + 4, none⟩ = some (.int .i64 x.b) ∧ w'.cell? ⟨b, off + k * 6 + 5, none⟩ = some (.int .i64 x.c))) (by kernel_rfl) ⟨HXk.out, d0, d1, d2, d3, d4, d5⟩ (fun hHeld => ?_)
   (refine tq 0 ?_ (y := fun _ hSw => by have hx := Qb hSw.1; have hy0 := hSw.2.1; have hy1 := hSw.2.2.1; have hy2 := hSw.2.2.2.1; have hy3 := hSw.2.2.2.2.1; have hy4 := hSw.2.2.2.2.2.1; have hy5 := hSw.2.2.2.2.2.2; go_simp; try rfl))
   (refine tq 1 ?_ (y := fun _ hSw => by have hx := Qb hSw.1; have hy0 := hSw.2.1; have hy1 := hSw.2.2.1; have hy2 := hSw.2.2.2.1; have hy3 := hSw.2.2.2.2.1; have hy4 := hSw.2.2.2.2.2.1; have hy5 := hSw.2.2.2.2.2.2; go_simp; try rfl))
   (refine tq 2 ?_ (y := fun _ hSw => by have hx := Qb hSw.1; have hy0 := hSw.2.1; have hy1 := hSw.2.2.1; have hy2 := hSw.2.2.2.1; have hy3 := hSw.2.2.2.2.1; have hy4 := hSw.2.2.2.2.2.1; have hy5 := hSw.2.2.2.2.2.2; go_simp; try rfl))
   (refine tq 3 ?_ (y := fun _ hSw => by have hx := Qb hSw.1; have hy0 := hSw.2.1; have hy1 := hSw.2.2.1; have hy2 := hSw.2.2.2.1; have hy3 := hSw.2.2.2.2.1; have hy4 := hSw.2.2.2.2.2.1; have hy5 := hSw.2.2.2.2.2.2; go_simp; try rfl))
   (refine tq 4 ?_ (y := fun _ hSw => by have hx := Qb hSw.1; have hy0 := hSw.2.1; have hy1 := hSw.2.2.1; have hy2 := hSw.2.2.2.1; have hy3 := hSw.2.2.2.2.1; have hy4 := hSw.2.2.2.2.2.1; have hy5 := hSw.2.2.2.2.2.2; go_simp; try rfl))
   (refine tq 5 ?_ (y := fun _ hSw => by have hx := Qb hSw.1; have hy0 := hSw.2.1; have hy1 := hSw.2.2.1; have hy2 := hSw.2.2.2.1; have hy3 := hSw.2.2.2.2.1; have hy4 := hSw.2.2.2.2.2.1; have hy5 := hSw.2.2.2.2.2.2; go_simp; try rfl))
   refine tw 6 10 (fun K hK => ?_) (fun K hK => ?_)
   ·go_simp
    refine (HDo.out _ (Below.refl _ _).drew).mono ?_; rintro e w4 ⟨q4, oa4, oc4, rfl, hrm4, hb4, hou4⟩
    have HB4 := Qa (show Below wr.heap.size wr w4 from ((Below.refl _ _).drew).trans (hb4.mono (by simp)))
    have HRM4 := Qa hrm4; have HOu4 := Qa (fun A B (h : B ≤ wr.heap.size) => hou4 A B h)
    go_simp
    refine hK.out _ _ ⟨Qc HXk.out HB4.out, Qq d0 HB4.out, Qq d1 HB4.out, Qq d2 HB4.out, Qq d3 HB4.out, Qq d4 HB4.out, Qq d5 HB4.out⟩ (fun hHeld2 => ?_)
    clear hK K hHeld hrm4 hb4 hou4
    (refine tq 7 ?_ (y := fun _ hSw => by go_simp; try rfl))
    (refine tq 8 ?_ (y := fun _ hSw => by go_simp; try rfl))
    (refine tq 9 ?_ (y := fun _ hSw => by go_simp; try rfl))
    (refine tc 10 (fun K hK => ?_); go_simp)
    refine hK.out _ _ ⟨Qc HXk.out (HB4.out.alloc HB4.out.size _), Qq d0 (HB4.out.alloc HB4.out.size _), Qq d1 (HB4.out.alloc HB4.out.size _), Qq d2 (HB4.out.alloc HB4.out.size _), Qq d3 (HB4.out.alloc HB4.out.size _), Qq d4 (HB4.out.alloc HB4.out.size _), Qq d5 (HB4.out.alloc HB4.out.size _)⟩ (fun hHeld3 => ?_)
    clear hK K hHeld2
    have k8 := heap_alloc_new w4 (.cells #[.int .i64 0, .int .i64 0, .slice none 0 0, .slice none 0 0, .int .i64 0, .int .i64 0, .int .i64 0, .slice none 0 0, .slice none 0 0] 123)
    have HB8 := Qa (HB4.out.alloc HB4.out.size (.cells #[.int .i64 0, .int .i64 0, .slice none 0 0, .slice none 0 0, .int .i64 0, .int .i64 0, .int .i64 0, .slice none 0 0, .slice none 0 0] 123))
    have HRM8 := Qa (HRM4.out.below (Qg (.cells #[.int .i64 0, .int .i64 0, .slice none 0 0, .slice none 0 0, .int .i64 0, .int .i64 0, .int .i64 0, .slice none 0 0, .slice none 0 0] 123)))
    have HO8 := Qa (RmOut.of_at HRM4.out (Nat.le_refl _) (w4.heap.size + 1))
    have hb8 := HB4.out.size
    clear HRM4 HB4 hHeld3
    generalize w4.alloc (.cells #[.int .i64 0, .int .i64 0, .slice none 0 0, .slice none 0 0, .int .i64 0, .int .i64 0, .int .i64 0, .slice none 0 0, .slice none 0 0] 123) = w8 at *
    generalize w4.heap.size = b8 at *
    have hb6l := Qd HXk.out
    have hzl := Qd HZk.out
    have hf8 := Qe k8; have hz8 := Qd k8; have hc8 := Qb k8
    (refine tc 11 (fun K hK => ?_); go_simp)
    have k9 : (((((((((w8.setCell ⟨b8, 0, none⟩ (.int .i64 r2.ver)).setCell ⟨b8, 1, none⟩ (.int .i64 r2.f.bars)).setCell ⟨b8, 2, none⟩ (.slice q4.ra r2.f.reps.length q4.rc)).setCell ⟨b8, 3, none⟩ (.slice q4.ea r2.f.ends.length q4.ec)).setCell ⟨b8, 4, none⟩ (.int .i64 r2.f.jump.x)).setCell ⟨b8, 5, none⟩ (.int .i64 r2.f.jump.y)).setCell ⟨b8, 6, none⟩ (.int .i64 r2.f.jump.z)).setCell ⟨b8, 7, none⟩ (.slice q4.ca r2.f.cuts.length q4.cc)).setCell ⟨b8, 8, none⟩ (.slice oa4 r2.oss.length oc4)).heap[b8]? = some (.cells #[.int .i64 r2.ver, .int .i64 r2.f.bars, .slice q4.ra r2.f.reps.length q4.rc, .slice q4.ea r2.f.ends.length q4.ec, .int .i64 r2.f.jump.x, .int .i64 r2.f.jump.y, .int .i64 r2.f.jump.z, .slice q4.ca r2.f.cuts.length q4.cc, .slice oa4 r2.oss.length oc4] 123) := Qz k8 _ _ _ _ _ _ _ _ _
    have b9 : Below wr.heap.size wr (((((((((w8.setCell ⟨b8, 0, none⟩ (.int .i64 r2.ver)).setCell ⟨b8, 1, none⟩ (.int .i64 r2.f.bars)).setCell ⟨b8, 2, none⟩ (.slice q4.ra r2.f.reps.length q4.rc)).setCell ⟨b8, 3, none⟩ (.slice q4.ea r2.f.ends.length q4.ec)).setCell ⟨b8, 4, none⟩ (.int .i64 r2.f.jump.x)).setCell ⟨b8, 5, none⟩ (.int .i64 r2.f.jump.y)).setCell ⟨b8, 6, none⟩ (.int .i64 r2.f.jump.z)).setCell ⟨b8, 7, none⟩ (.slice q4.ca r2.f.cuts.length q4.cc)).setCell ⟨b8, 8, none⟩ (.slice oa4 r2.oss.length oc4)) := Ql HB8.out hb8 _ _ _ _ _ _ _ _ _
    have HRM9 : RmAt (((((((((w8.setCell ⟨b8, 0, none⟩ (.int .i64 r2.ver)).setCell ⟨b8, 1, none⟩ (.int .i64 r2.f.bars)).setCell ⟨b8, 2, none⟩ (.slice q4.ra r2.f.reps.length q4.rc)).setCell ⟨b8, 3, none⟩ (.slice q4.ea r2.f.ends.length q4.ec)).setCell ⟨b8, 4, none⟩ (.int .i64 r2.f.jump.x)).setCell ⟨b8, 5, none⟩ (.int .i64 r2.f.jump.y)).setCell ⟨b8, 6, none⟩ (.int .i64 r2.f.jump.z)).setCell ⟨b8, 7, none⟩ (.slice q4.ca r2.f.cuts.length q4.cc)).setCell ⟨b8, 8, none⟩ (.slice oa4 r2.oss.length oc4)) r2 q4 oa4 oc4 := HRM8.out.keepO (Q1 (KeepO.refl b8 (b8 + 1) w8) (Nat.le_refl _) (Nat.lt_succ_self _) _ _ _ _ _ _ _ _ _) HO8.out
    clear HB8 HO8 HRM8 k8 hf8 hz8 hc8
    generalize ((((((((w8.setCell ⟨b8, 0, none⟩ (.int .i64 r2.ver)).setCell ⟨b8, 1, none⟩ (.int .i64 r2.f.bars)).setCell ⟨b8, 2, none⟩ (.slice q4.ra r2.f.reps.length q4.rc)).setCell ⟨b8, 3, none⟩ (.slice q4.ea r2.f.ends.length q4.ec)).setCell ⟨b8, 4, none⟩ (.int .i64 r2.f.jump.x)).setCell ⟨b8, 5, none⟩ (.int .i64 r2.f.jump.y)).setCell ⟨b8, 6, none⟩ (.int .i64 r2.f.jump.z)).setCell ⟨b8, 7, none⟩ (.slice q4.ca r2.f.cuts.length q4.cc)).setCell ⟨b8, 8, none⟩ (.slice oa4 r2.oss.length oc4) = w9 at *
    refine hK.out _ _ ⟨Qc HXk.out b9, Qq d0 b9, Qq d1 b9, Qq d2 b9, Qq d3 b9, Qq d4 b9, Qq d5 b9⟩ (fun hHeld4 => ?_)
    clear hK K d0 d1 d2 d3 d4 d5
    (refine tq 12 ?_ (y := fun _ hSw => by go_simp; try rfl))
    clear hHeld4
    refine wpAnyH_done (by kernel_rfl) ?_ _
    have kX := Qc HXk.out b9; have kZ := Qc HZk.out b9
    have hbw9 := HBk.out.trans (b9.mono HBk.out.size)
    have hcX := Qb kX; have hfX := Qe kX; have hzX := Qd kX; have hcZ := Qb kZ; have hfZ := Qe kZ; have hzZ := Qd kZ; have hc9 := Qb k9
    by_cases he : e2 = 0
    ·have HC3 := Qa (show runR (Qk l) r0 d = runR (Qk l) r2 (d.drop (k + 1)) by rw [HC2.out, if_pos he])
     subst he
     clear HC2
     have hRo := HOu4.out w.heap.size (b6 + 1) hb6l (HWo.out _) HOb.out
     have hk10 : KeepO w.heap.size (b6 + 1) w9 (((((((((w9.setCell ⟨b6, 0, none⟩ (.int .i64 r2.ver)).setCell ⟨b6, 1, none⟩ (.int .i64 r2.f.bars)).setCell ⟨b6, 2, none⟩ (.slice q4.ra r2.f.reps.length q4.rc)).setCell ⟨b6, 3, none⟩ (.slice q4.ea r2.f.ends.length q4.ec)).setCell ⟨b6, 4, none⟩ (.int .i64 r2.f.jump.x)).setCell ⟨b6, 5, none⟩ (.int .i64 r2.f.jump.y)).setCell ⟨b6, 6, none⟩ (.int .i64 r2.f.jump.z)).setCell ⟨b6, 7, none⟩ (.slice q4.ca r2.f.cuts.length q4.cc)).setCell ⟨b6, 8, none⟩ (.slice oa4 r2.oss.length oc4)) := Q1 (KeepO.refl w.heap.size (b6 + 1) w9) (b := b6) (by omega) (by omega) _ _ _ _ _ _ _ _ _
     have hRM10 := HRM9.keepO hk10 hRo
     have hX10 : (((((((((w9.setCell ⟨b6, 0, none⟩ (.int .i64 r2.ver)).setCell ⟨b6, 1, none⟩ (.int .i64 r2.f.bars)).setCell ⟨b6, 2, none⟩ (.slice q4.ra r2.f.reps.length q4.rc)).setCell ⟨b6, 3, none⟩ (.slice q4.ea r2.f.ends.length q4.ec)).setCell ⟨b6, 4, none⟩ (.int .i64 r2.f.jump.x)).setCell ⟨b6, 5, none⟩ (.int .i64 r2.f.jump.y)).setCell ⟨b6, 6, none⟩ (.int .i64 r2.f.jump.z)).setCell ⟨b6, 7, none⟩ (.slice q4.ca r2.f.cuts.length q4.cc)).setCell ⟨b6, 8, none⟩ (.slice oa4 r2.oss.length oc4)).heap[b6]? = some (.cells #[.int .i64 r2.ver, .int .i64 r2.f.bars, .slice q4.ra r2.f.reps.length q4.rc, .slice q4.ea r2.f.ends.length q4.ec, .int .i64 r2.f.jump.x, .int .i64 r2.f.jump.y, .int .i64 r2.f.jump.z, .slice q4.ca r2.f.cuts.length q4.cc, .slice oa4 r2.oss.length oc4] 123) := Qz kX _ _ _ _ _ _ _ _ _
     have hZ10 : (((((((((w9.setCell ⟨b6, 0, none⟩ (.int .i64 r2.ver)).setCell ⟨b6, 1, none⟩ (.int .i64 r2.f.bars)).setCell ⟨b6, 2, none⟩ (.slice q4.ra r2.f.reps.length q4.rc)).setCell ⟨b6, 3, none⟩ (.slice q4.ea r2.f.ends.length q4.ec)).setCell ⟨b6, 4, none⟩ (.int .i64 r2.f.jump.x)).setCell ⟨b6, 5, none⟩ (.int .i64 r2.f.jump.y)).setCell ⟨b6, 6, none⟩ (.int .i64 r2.f.jump.z)).setCell ⟨b6, 7, none⟩ (.slice q4.ca r2.f.cuts.length q4.cc)).setCell ⟨b6, 8, none⟩ (.slice oa4 r2.oss.length oc4)).heap[w.heap.size]? = some (.cells #[.int .i64 0, .int .i64 0, .slice none 0 0, .slice none 0 0, .int .i64 0, .int .i64 0, .int .i64 0, .slice none 0 0, .slice none 0 0] 123) := set9_far kZ (show w.heap.size ≠ b6 by omega) _ _ _ _ _ _ _ _ _
     have hB10 : Below w.heap.size w (((((((((w9.setCell ⟨b6, 0, none⟩ (.int .i64 r2.ver)).setCell ⟨b6, 1, none⟩ (.int .i64 r2.f.bars)).setCell ⟨b6, 2, none⟩ (.slice q4.ra r2.f.reps.length q4.rc)).setCell ⟨b6, 3, none⟩ (.slice q4.ea r2.f.ends.length q4.ec)).setCell ⟨b6, 4, none⟩ (.int .i64 r2.f.jump.x)).setCell ⟨b6, 5, none⟩ (.int .i64 r2.f.jump.y)).setCell ⟨b6, 6, none⟩ (.int .i64 r2.f.jump.z)).setCell ⟨b6, 7, none⟩ (.slice q4.ca r2.f.cuts.length q4.cc)).setCell ⟨b6, 8, none⟩ (.slice oa4 r2.oss.length oc4)) := Ql hbw9 (show w.heap.size ≤ b6 by omega) _ _ _ _ _ _ _ _ _
     have H10 := Qa (And.intro hRM10 (And.intro hX10 (And.intro hZ10 hB10)))
     clear hRM10 hX10 hZ10 hB10 hk10
     have HOu5 := Qa (fun A B (hB : B ≤ w.heap.size) (h : WsOut A B l) => HOu4.out A B (Nat.le_trans hB HBk.out.size) h (HOa.out A B hB h))
     go_wp2
     exact ⟨⟨k + 1, r2, q4, oa4, oc4, by omega, by go_num, HC3, HOk3.out, H10.out.2.1, H10.out.1, H10.out.2.2.2, H10.out.2.2.1, HOu5.out, hRo⟩, by simp [intOf]; omega⟩
    ·have HC3 := Qa (show runR (Qk l) r0 d = (rk, e2) by rw [HC2.out, if_neg he])
     clear HC2
     go_wp2
     refine bodyPost_ret (Qi rfl _ _ w.heap.size 123 _ (0, 0) _ rfl (Qz kZ _ _ _ _ _ _ _ _ _) Tryz.underlying123 rfl (by kernel_rfl)) rfl ?_
     rw [← HR.out, HC3.out]
     exact ⟨q, oa, oc, rfl, (HRMk.out.below b9).keepO (Q1 (KeepO.refl w.heap.size (b6 + 1) w9) (by omega) (by omega) _ _ _ _ _ _ _ _ _) HOb.out, Ql hbw9 (Nat.le_refl _) _ _ _ _ _ _ _ _ _, HOa.out⟩
   ·go_simp
    refine hK.out _ _ ⟨Qc HXk.out ((Below.refl _ _).drew.alloc (Nat.le_refl _) _), Qq d0 ((Below.refl _ _).drew.alloc (Nat.le_refl _) _), Qq d1 ((Below.refl _ _).drew.alloc (Nat.le_refl _) _), Qq d2 ((Below.refl _ _).drew.alloc (Nat.le_refl _) _), Qq d3 ((Below.refl _ _).drew.alloc (Nat.le_refl _) _), Qq d4 ((Below.refl _ _).drew.alloc (Nat.le_refl _) _), Qq d5 ((Below.refl _ _).drew.alloc (Nat.le_refl _) _)⟩ (fun hHeld2 => ?_)
    clear hK K hHeld
    have hba : Below wr.heap.size wr (wr.drew.alloc (.cells #[.int .i64 0, .int .i64 0, .slice none 0 0, .slice none 0 0, .int .i64 0, .int .i64 0, .int .i64 0, .slice none 0 0, .slice none 0 0] 123)) := (Below.refl _ _).drew.alloc (Nat.le_refl _) _
    (refine tc 6 (fun K hK => ?_); go_simp)
    refine (HDo.out _ hba).mono ?_; rintro e w8 ⟨q4, oa4, oc4, rfl, hrm4, hb4, hou4⟩
    have HB8 := Qa (show Below wr.heap.size wr w8 from hba.trans (hb4.mono hba.size))
    have HRM8 := Qa hrm4
    have hasz : (wr.drew.alloc (.cells #[.int .i64 0, .int .i64 0, .slice none 0 0, .slice none 0 0, .int .i64 0, .int .i64 0, .int .i64 0, .slice none 0 0, .slice none 0 0] 123)).heap.size = wr.heap.size + 1 := by simp
    have HOu4 := Qa (fun A B (h : B ≤ wr.heap.size) => hou4 A B (Nat.le_trans h hba.size))
    have k8 : w8.heap[wr.heap.size]? = some (.cells #[.int .i64 0, .int .i64 0, .slice none 0 0, .slice none 0 0, .int .i64 0, .int .i64 0, .int .i64 0, .slice none 0 0, .slice none 0 0] 123) := (hb4.block _ (by omega)).trans (heap_alloc_new wr.drew (.cells #[.int .i64 0, .int .i64 0, .slice none 0 0, .slice none 0 0, .int .i64 0, .int .i64 0, .int .i64 0, .slice none 0 0, .slice none 0 0] 123))
    have HO8 := Qa (hou4 wr.heap.size (wr.heap.size + 1) (by omega) (WsOut.of_at HW.out HBk.out.size _) (RmOut.of_at HRMk.out (Nat.le_refl _) _))
    have hb8 : wr.heap.size ≤ wr.heap.size := Nat.le_refl _
    go_simp
    refine hK.out _ _ ⟨Qc HXk.out HB8.out, Qq d0 HB8.out, Qq d1 HB8.out, Qq d2 HB8.out, Qq d3 HB8.out, Qq d4 HB8.out, Qq d5 HB8.out⟩ (fun hHeld3 => ?_)
    clear hK K hHeld2 hrm4 hb4 hou4 hba hasz
    (refine tq 7 ?_ (y := fun _ hSw => by go_simp; try rfl))
    (refine tq 8 ?_ (y := fun _ hSw => by go_simp; try rfl))
    (refine tq 9 ?_ (y := fun _ hSw => by go_simp; try rfl))
    clear hHeld3
    have hb6l := Qd HXk.out
    have hzl := Qd HZk.out
    have hf8 := Qe k8; have hz8 := Qd k8; have hc8 := Qb k8
    (refine tc 11 (fun K hK => ?_); go_simp)
    have k9 : (((((((((w8.setCell ⟨wr.heap.size, 0, none⟩ (.int .i64 r2.ver)).setCell ⟨wr.heap.size, 1, none⟩ (.int .i64 r2.f.bars)).setCell ⟨wr.heap.size, 2, none⟩ (.slice q4.ra r2.f.reps.length q4.rc)).setCell ⟨wr.heap.size, 3, none⟩ (.slice q4.ea r2.f.ends.length q4.ec)).setCell ⟨wr.heap.size, 4, none⟩ (.int .i64 r2.f.jump.x)).setCell ⟨wr.heap.size, 5, none⟩ (.int .i64 r2.f.jump.y)).setCell ⟨wr.heap.size, 6, none⟩ (.int .i64 r2.f.jump.z)).setCell ⟨wr.heap.size, 7, none⟩ (.slice q4.ca r2.f.cuts.length q4.cc)).setCell ⟨wr.heap.size, 8, none⟩ (.slice oa4 r2.oss.length oc4)).heap[wr.heap.size]? = some (.cells #[.int .i64 r2.ver, .int .i64 r2.f.bars, .slice q4.ra r2.f.reps.length q4.rc, .slice q4.ea r2.f.ends.length q4.ec, .int .i64 r2.f.jump.x, .int .i64 r2.f.jump.y, .int .i64 r2.f.jump.z, .slice q4.ca r2.f.cuts.length q4.cc, .slice oa4 r2.oss.length oc4] 123) := Qz k8 _ _ _ _ _ _ _ _ _
    have b9 : Below wr.heap.size wr (((((((((w8.setCell ⟨wr.heap.size, 0, none⟩ (.int .i64 r2.ver)).setCell ⟨wr.heap.size, 1, none⟩ (.int .i64 r2.f.bars)).setCell ⟨wr.heap.size, 2, none⟩ (.slice q4.ra r2.f.reps.length q4.rc)).setCell ⟨wr.heap.size, 3, none⟩ (.slice q4.ea r2.f.ends.length q4.ec)).setCell ⟨wr.heap.size, 4, none⟩ (.int .i64 r2.f.jump.x)).setCell ⟨wr.heap.size, 5, none⟩ (.int .i64 r2.f.jump.y)).setCell ⟨wr.heap.size, 6, none⟩ (.int .i64 r2.f.jump.z)).setCell ⟨wr.heap.size, 7, none⟩ (.slice q4.ca r2.f.cuts.length q4.cc)).setCell ⟨wr.heap.size, 8, none⟩ (.slice oa4 r2.oss.length oc4)) := Ql HB8.out hb8 _ _ _ _ _ _ _ _ _
    have HRM9 : RmAt (((((((((w8.setCell ⟨wr.heap.size, 0, none⟩ (.int .i64 r2.ver)).setCell ⟨wr.heap.size, 1, none⟩ (.int .i64 r2.f.bars)).setCell ⟨wr.heap.size, 2, none⟩ (.slice q4.ra r2.f.reps.length q4.rc)).setCell ⟨wr.heap.size, 3, none⟩ (.slice q4.ea r2.f.ends.length q4.ec)).setCell ⟨wr.heap.size, 4, none⟩ (.int .i64 r2.f.jump.x)).setCell ⟨wr.heap.size, 5, none⟩ (.int .i64 r2.f.jump.y)).setCell ⟨wr.heap.size, 6, none⟩ (.int .i64 r2.f.jump.z)).setCell ⟨wr.heap.size, 7, none⟩ (.slice q4.ca r2.f.cuts.length q4.cc)).setCell ⟨wr.heap.size, 8, none⟩ (.slice oa4 r2.oss.length oc4)) r2 q4 oa4 oc4 := HRM8.out.keepO (Q1 (KeepO.refl wr.heap.size (wr.heap.size + 1) w8) (Nat.le_refl _) (Nat.lt_succ_self _) _ _ _ _ _ _ _ _ _) HO8.out
    clear HB8 HO8 HRM8 k8 hf8 hz8 hc8
    generalize ((((((((w8.setCell ⟨wr.heap.size, 0, none⟩ (.int .i64 r2.ver)).setCell ⟨wr.heap.size, 1, none⟩ (.int .i64 r2.f.bars)).setCell ⟨wr.heap.size, 2, none⟩ (.slice q4.ra r2.f.reps.length q4.rc)).setCell ⟨wr.heap.size, 3, none⟩ (.slice q4.ea r2.f.ends.length q4.ec)).setCell ⟨wr.heap.size, 4, none⟩ (.int .i64 r2.f.jump.x)).setCell ⟨wr.heap.size, 5, none⟩ (.int .i64 r2.f.jump.y)).setCell ⟨wr.heap.size, 6, none⟩ (.int .i64 r2.f.jump.z)).setCell ⟨wr.heap.size, 7, none⟩ (.slice q4.ca r2.f.cuts.length q4.cc)).setCell ⟨wr.heap.size, 8, none⟩ (.slice oa4 r2.oss.length oc4) = w9 at *
    refine hK.out _ _ ⟨Qc HXk.out b9, Qq d0 b9, Qq d1 b9, Qq d2 b9, Qq d3 b9, Qq d4 b9, Qq d5 b9⟩ (fun hHeld4 => ?_)
    clear hK K d0 d1 d2 d3 d4 d5
    (refine tq 12 ?_ (y := fun _ hSw => by go_simp; try rfl))
    clear hHeld4
    refine wpAnyH_done (by kernel_rfl) ?_ _
    have kX := Qc HXk.out b9; have kZ := Qc HZk.out b9
    have hbw9 := HBk.out.trans (b9.mono HBk.out.size)
    have hcX := Qb kX; have hfX := Qe kX; have hzX := Qd kX; have hcZ := Qb kZ; have hfZ := Qe kZ; have hzZ := Qd kZ; have hc9 := Qb k9
    by_cases he : e2 = 0
    ·have HC3 := Qa (show runR (Qk l) r0 d = runR (Qk l) r2 (d.drop (k + 1)) by rw [HC2.out, if_pos he])
     subst he
     clear HC2
     have hRo := HOu4.out w.heap.size (b6 + 1) hb6l (HWo.out _) HOb.out
     have hk10 : KeepO w.heap.size (b6 + 1) w9 (((((((((w9.setCell ⟨b6, 0, none⟩ (.int .i64 r2.ver)).setCell ⟨b6, 1, none⟩ (.int .i64 r2.f.bars)).setCell ⟨b6, 2, none⟩ (.slice q4.ra r2.f.reps.length q4.rc)).setCell ⟨b6, 3, none⟩ (.slice q4.ea r2.f.ends.length q4.ec)).setCell ⟨b6, 4, none⟩ (.int .i64 r2.f.jump.x)).setCell ⟨b6, 5, none⟩ (.int .i64 r2.f.jump.y)).setCell ⟨b6, 6, none⟩ (.int .i64 r2.f.jump.z)).setCell ⟨b6, 7, none⟩ (.slice q4.ca r2.f.cuts.length q4.cc)).setCell ⟨b6, 8, none⟩ (.slice oa4 r2.oss.length oc4)) := Q1 (KeepO.refl w.heap.size (b6 + 1) w9) (b := b6) (by omega) (by omega) _ _ _ _ _ _ _ _ _
     have hRM10 := HRM9.keepO hk10 hRo
     have hX10 : (((((((((w9.setCell ⟨b6, 0, none⟩ (.int .i64 r2.ver)).setCell ⟨b6, 1, none⟩ (.int .i64 r2.f.bars)).setCell ⟨b6, 2, none⟩ (.slice q4.ra r2.f.reps.length q4.rc)).setCell ⟨b6, 3, none⟩ (.slice q4.ea r2.f.ends.length q4.ec)).setCell ⟨b6, 4, none⟩ (.int .i64 r2.f.jump.x)).setCell ⟨b6, 5, none⟩ (.int .i64 r2.f.jump.y)).setCell ⟨b6, 6, none⟩ (.int .i64 r2.f.jump.z)).setCell ⟨b6, 7, none⟩ (.slice q4.ca r2.f.cuts.length q4.cc)).setCell ⟨b6, 8, none⟩ (.slice oa4 r2.oss.length oc4)).heap[b6]? = some (.cells #[.int .i64 r2.ver, .int .i64 r2.f.bars, .slice q4.ra r2.f.reps.length q4.rc, .slice q4.ea r2.f.ends.length q4.ec, .int .i64 r2.f.jump.x, .int .i64 r2.f.jump.y, .int .i64 r2.f.jump.z, .slice q4.ca r2.f.cuts.length q4.cc, .slice oa4 r2.oss.length oc4] 123) := Qz kX _ _ _ _ _ _ _ _ _
     have hZ10 : (((((((((w9.setCell ⟨b6, 0, none⟩ (.int .i64 r2.ver)).setCell ⟨b6, 1, none⟩ (.int .i64 r2.f.bars)).setCell ⟨b6, 2, none⟩ (.slice q4.ra r2.f.reps.length q4.rc)).setCell ⟨b6, 3, none⟩ (.slice q4.ea r2.f.ends.length q4.ec)).setCell ⟨b6, 4, none⟩ (.int .i64 r2.f.jump.x)).setCell ⟨b6, 5, none⟩ (.int .i64 r2.f.jump.y)).setCell ⟨b6, 6, none⟩ (.int .i64 r2.f.jump.z)).setCell ⟨b6, 7, none⟩ (.slice q4.ca r2.f.cuts.length q4.cc)).setCell ⟨b6, 8, none⟩ (.slice oa4 r2.oss.length oc4)).heap[w.heap.size]? = some (.cells #[.int .i64 0, .int .i64 0, .slice none 0 0, .slice none 0 0, .int .i64 0, .int .i64 0, .int .i64 0, .slice none 0 0, .slice none 0 0] 123) := set9_far kZ (show w.heap.size ≠ b6 by omega) _ _ _ _ _ _ _ _ _
     have hB10 : Below w.heap.size w (((((((((w9.setCell ⟨b6, 0, none⟩ (.int .i64 r2.ver)).setCell ⟨b6, 1, none⟩ (.int .i64 r2.f.bars)).setCell ⟨b6, 2, none⟩ (.slice q4.ra r2.f.reps.length q4.rc)).setCell ⟨b6, 3, none⟩ (.slice q4.ea r2.f.ends.length q4.ec)).setCell ⟨b6, 4, none⟩ (.int .i64 r2.f.jump.x)).setCell ⟨b6, 5, none⟩ (.int .i64 r2.f.jump.y)).setCell ⟨b6, 6, none⟩ (.int .i64 r2.f.jump.z)).setCell ⟨b6, 7, none⟩ (.slice q4.ca r2.f.cuts.length q4.cc)).setCell ⟨b6, 8, none⟩ (.slice oa4 r2.oss.length oc4)) := Ql hbw9 (show w.heap.size ≤ b6 by omega) _ _ _ _ _ _ _ _ _
     have H10 := Qa (And.intro hRM10 (And.intro hX10 (And.intro hZ10 hB10)))
     clear hRM10 hX10 hZ10 hB10 hk10
     have HOu5 := Qa (fun A B (hB : B ≤ w.heap.size) (h : WsOut A B l) => HOu4.out A B (Nat.le_trans hB HBk.out.size) h (HOa.out A B hB h))
     go_wp2
     exact ⟨⟨k + 1, r2, q4, oa4, oc4, by omega, by go_num, HC3, HOk3.out, H10.out.2.1, H10.out.1, H10.out.2.2.2, H10.out.2.2.1, HOu5.out, hRo⟩, by simp [intOf]; omega⟩
    ·have HC3 := Qa (show runR (Qk l) r0 d = (rk, e2) by rw [HC2.out, if_neg he])
     clear HC2
     go_wp2
     refine bodyPost_ret (Qi rfl _ _ w.heap.size 123 _ (0, 0) _ rfl (Qz kZ _ _ _ _ _ _ _ _ _) Tryz.underlying123 rfl (by kernel_rfl)) rfl ?_
     rw [← HR.out, HC3.out]
     exact ⟨q, oa, oc, rfl, (HRMk.out.below b9).keepO (Q1 (KeepO.refl w.heap.size (b6 + 1) w9) (by omega) (by omega) _ _ _ _ _ _ _ _ _) HOb.out, Ql hbw9 (Nat.le_refl _) _ _ _ _ _ _ _ _ _, HOa.out⟩
  ·obtain rfl : k = d.length := by omega
   have HC3 := Qa (show runR (Qk l) r0 d = (rk, 0) by rw [HC.out, List.drop_eq_nil_of_le (Nat.le_refl _)]; rfl)
   have kX := HXk.out; have kZ := HZk.out
   have hcX := Qb kX; have hcZ := Qb kZ; have hfZ := Qe kZ; have hzZ := Qd kZ; have hzX := Qd kX
   clear HC
   go_wp2
   refine bodyPost_ret (Qi rfl _ _ w.heap.size 123 _ (0, 0) _ rfl (Qz kZ _ _ _ _ _ _ _ _ _) Tryz.underlying123 rfl (by kernel_rfl)) rfl ?_
   rw [← HR.out, HC3.out]
   exact ⟨q, oa, oc, rfl, HRMk.out.keepO (Q1 (KeepO.refl w.heap.size (b6 + 1) wr) (by omega) (by omega) _ _ _ _ _ _ _ _ _) HOb.out, Ql HBk.out (Nat.le_refl _) _ _ _ _ _ _ _ _ _, HOa.out⟩
theorem numsC_num : ∀ (d : List De) (i : Nat) (last : Int), Zq i last d = true → ∀ j (h : j < d.length), d[j].num = (i : Int) + j + 1
 | [], _, _, _, j, h => by simp at h
 | y :: d, i, last, h, j, hj => by
  simp only [Zq, badD, Bool.and_eq_true, Bool.not_eq_true', Bool.or_eq_false_iff, decide_eq_false_iff_not, Bool.not_eq_false', decide_eq_true_eq, Decidable.not_not] at h
  obtain ⟨⟨⟨h1, h2⟩, h3⟩, h4⟩ := h
  cases j with
  | zero => simp; omega
  | succ j =>
   have := numsC_num d (i + 1) y.time h4 j (by simpa using hj)
   simp only [List.getElem_cons_succ]
   omega
theorem RValid30_any (wa : Option Addr) (wc : Nat) (l : List (Wk × Wp)) (da : Option Addr) (dc : Nat) (d : List De) (w : World) (hl : l.length ≤ 1000) (hfew : ∀ y ∈ l, FoFew y.1.f) (hw : WsAt w wa l) (hdl : d.length ≤ 1000000) (hd : DeAt w da d) :
  Calls Tryz.prog 67 #[.slice wa l.length wc, .slice da d.length dc] w fun e w' => e = .returned (.bool (QH (Qk l) d)) ∧ Below w.heap.size w w' := by
 have HA := Qa (RWorks30_any wa wc l w hl hfew hw)
 have HW := Qa hw; have HD := Qa hd
 have HVd := Qa (show QH (Qk l) d = (Q6 (Qk l) && decide (d.length ≤ 1000) && Zq 0 0 d && decide ((runR (Qk l) (Qx (Qk l)) d).2 = 0)) from rfl)
 clear hw hd
 go_enter Tryz.func67, Tryz.ntmps67
 cases hwb : Q6 (Qk l)
 ·have HF := Qa (show QH (Qk l) d = false by rw [HVd.out, hwb]; rfl)
  rw [hwb] at HA
  clear HVd
  go_wp2_with (go_at_call 107; refine HA.out.mono ?_; rintro e w2 ⟨rfl, hb2⟩; have HB2 := Qa hb2; clear hb2)
  go_ret
  exact ⟨Qf (by first | exact HF.out.symm | (rw [HF.out])), HB2.out⟩
 have hlp : 0 < l.length := by
  unfold Q6 at hwb
  simp only [Bool.and_eq_true, decide_eq_true_eq, Qk, List.length_map] at hwb
  omega
 rw [hwb] at HA
 by_cases hdl3 : ¬ d.length ≤ 1000
 ·have HF := Qa (show QH (Qk l) d = false by rw [HVd.out, decide_eq_false hdl3]; simp)
  clear HVd
  go_wp2_with (go_at_call 107; refine HA.out.mono ?_; rintro e w2 ⟨rfl, hb2⟩; have HB2 := Qa hb2; clear hb2)
  go_ret
  exact ⟨Qf (by first | exact HF.out.symm | (rw [HF.out])), HB2.out⟩
 have hdl4 : d.length ≤ 1000 := by omega
 have HV2 := Qa (show QH (Qk l) d = (Zq 0 0 d && decide ((runR (Qk l) (Qx (Qk l)) d).2 = 0)) by rw [HVd.out, hwb, decide_eq_true hdl4]; rfl)
 clear HVd hwb
 go_upto_region 3 with (go_at_call 107; refine HA.out.mono ?_; rintro e w2 ⟨rfl, hb2⟩; have HB2 := Qa hb2; clear hb2)
 go_wp2
 go_loopw [5, 6] (fun t5 t6 wr => ∃ (k : Nat) (last : Int), k ≤ d.length ∧ t6 = .int .i64 k ∧ t5 = .int .i64 last ∧ Hid (Zq 0 0 d = Zq k last (d.drop k)) ∧ Below w.heap.size w wr) (fun _ t6 _ => d.length - (intOf t6).toNat)
 case atStart => exact ⟨0, 0, Nat.zero_le _, rfl, rfl, Qa rfl, HB2.out⟩
 case round =>
  obtain ⟨k, last, hk, rfl, rfl, HC, hb⟩ := hrel
  have HB := Qa hb
  clear hb HB2
  by_cases hlt : k < d.length
  ·obtain ⟨b, off, ea, d0, d1, d2, d3, d4, d5⟩ := DeAt.get (HD.out.below HB.out) k hlt
   have HC2 := Qa (HC.out.trans (numsC_drop hlt last))
   have hki : (k : Int) < (d.length : Int) := by omega
   have hk0 : ¬ (k : Int) < 0 := by omega
   have hwk : IntKind.i64.wrap ((k : Int) + 1) = (k : Int) + 1 := IntWalk.i64_in _ (by omega)
   subst ea
   clear HC
   have hoks : Zq 0 0 d = false → QH (Qk l) d = false := fun h => by rw [HV2.out, h]; rfl
   generalize hx : d[k] = x at *
   clear hx
   by_cases c1 : ¬ x.num = (k : Int) + 1
   ·have hF := Qa (hoks (by rw [HC2.out]; unfold badD; rw [decide_eq_true c1]; rfl))
    clear HC2 hoks
    go_wp2
    go_ret
    exact ⟨Qf (by first | exact hF.out.symm | (rw [hF.out])), HB.out⟩
   by_cases c2 : x.time < last
   ·have hF := Qa (hoks (by rw [HC2.out]; unfold badD; rw [decide_eq_true c2]; simp))
    clear HC2 hoks
    go_wp2
    go_ret
    exact ⟨Qf (by first | exact hF.out.symm | (rw [hF.out])), HB.out⟩
   have c1 : x.num = (k : Int) + 1 := by omega
   have hTm := RTime30_any x.time wr
   cases ht : (decide (0 ≤ x.time) && decide (x.time ≤ 1000000000))
   ·have hF := Qa (hoks (by rw [HC2.out]; unfold badD; rw [ht]; simp))
    rw [ht] at hTm
    clear HC2 hoks ht
    go_wp2_with (go_at_call 108; refine hTm.mono ?_; rintro e w6 ⟨rfl, rfl⟩)
    go_ret
    exact ⟨Qf (by first | exact hF.out.symm | (rw [hF.out])), HB.out⟩
   ·rw [ht] at hTm
    have HC3 := Qa (show Zq 0 0 d = Zq (k + 1) x.time (d.drop (k + 1)) by rw [HC2.out]; unfold badD; rw [ht, decide_eq_false (by simpa using c1), decide_eq_false c2]; simp)
    clear HC2 hoks ht
    go_wp2_with (go_at_call 108; refine hTm.mono ?_; rintro e w6 ⟨rfl, rfl⟩)
    exact ⟨⟨k + 1, x.time, by omega, by go_num, rfl, HC3, HB.out⟩, by simp [intOf]; omega⟩
  ·obtain rfl : k = d.length := by omega
   have hns : Zq 0 0 d = true := by rw [HC.out, List.drop_eq_nil_of_le (Nat.le_refl _)]; rfl
   have HRn := Qa (RAfter30_any wa wc l da dc d wr hlp hl hfew (HW.out.below HB.out) hdl (HD.out.below HB.out))
   have HF := Qa (show QH (Qk l) d = decide ((runR (Qk l) (Qx (Qk l)) d).2 = 0) by rw [HV2.out, hns]; rfl)
   generalize runR (Qk l) (Qx (Qk l)) d = R at *
   obtain ⟨R, re⟩ := R
   dsimp only at *
   clear HC hns HV2
   go_wp2_with (go_at_call 109; refine HRn.out.mono ?_; rintro e w6 ⟨q6, oa6, oc6, rfl, hrm6, hb6, _⟩; have HB6 := bu HB hb6; clear hrm6 hb6)
   go_ret
   exact ⟨Qf (by rw [HF.out]; rfl), HB6.out.alloc HB6.out.size _⟩
end Go.Proofs.YtajijcfikihhjaaGreatDoor
