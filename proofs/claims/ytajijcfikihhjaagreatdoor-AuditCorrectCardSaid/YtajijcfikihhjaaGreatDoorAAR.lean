import Derived.Test.YtajijcfikihhjaaGreatDoorAAQ
set_option linter.unusedSimpArgs false
set_option linter.unusedVariables false
set_option maxRecDepth 100000
set_option maxHeartbeats 16000000
namespace Go.Proofs.YtajijcfikihhjaaGreatDoor
open Go.RowKit Go.Sort Go.Shelf
abbrev UG (v : World) (b : Nat) (a0 a1 a2 a3 a4 a5 a6 a7 a8 a9 a10 a11 : Value) : World := (((((((((((v.setCell ⟨b, 0, none⟩ a0).setCell ⟨b, 1, none⟩ a1).setCell ⟨b, 2, none⟩ a2).setCell ⟨b, 3, none⟩ a3).setCell ⟨b, 4, none⟩ a4).setCell ⟨b, 5, none⟩ a5).setCell ⟨b, 6, none⟩ a6).setCell ⟨b, 7, none⟩ a7).setCell ⟨b, 8, none⟩ a8).setCell ⟨b, 9, none⟩ a9).setCell ⟨b, 10, none⟩ a10).setCell ⟨b, 11, none⟩ a11
theorem Js {v : World} {b : Nat} {T : TypeId} {c0 c1 c2 c3 c4 c5 c6 c7 c8 c9 c10 c11 : Value} (h : v.heap[b]? = some (.cells #[c0, c1, c2, c3, c4, c5, c6, c7, c8, c9, c10, c11] T (0, 0))) (a0 a1 a2 a3 a4 a5 a6 a7 a8 a9 a10 a11 : Value) : (UG v b a0 a1 a2 a3 a4 a5 a6 a7 a8 a9 a10 a11).heap[b]? = some (.cells #[a0, a1, a2, a3, a4, a5, a6, a7, a8, a9, a10, a11] T (0, 0)) := by
 unfold UG
 replace h : (v.setCell ⟨b, 0, none⟩ a0).heap[b]? = some (.cells #[a0, c1, c2, c3, c4, c5, c6, c7, c8, c9, c10, c11] T (0, 0)) := heap_setCell_same v b 0 _ _ a0 h
 generalize v.setCell ⟨b, 0, none⟩ a0 = v at *
 replace h : (v.setCell ⟨b, 1, none⟩ a1).heap[b]? = some (.cells #[a0, a1, c2, c3, c4, c5, c6, c7, c8, c9, c10, c11] T (0, 0)) := heap_setCell_same v b 1 _ _ a1 h
 generalize v.setCell ⟨b, 1, none⟩ a1 = v at *
 replace h : (v.setCell ⟨b, 2, none⟩ a2).heap[b]? = some (.cells #[a0, a1, a2, c3, c4, c5, c6, c7, c8, c9, c10, c11] T (0, 0)) := heap_setCell_same v b 2 _ _ a2 h
 generalize v.setCell ⟨b, 2, none⟩ a2 = v at *
 replace h : (v.setCell ⟨b, 3, none⟩ a3).heap[b]? = some (.cells #[a0, a1, a2, a3, c4, c5, c6, c7, c8, c9, c10, c11] T (0, 0)) := heap_setCell_same v b 3 _ _ a3 h
 generalize v.setCell ⟨b, 3, none⟩ a3 = v at *
 replace h : (v.setCell ⟨b, 4, none⟩ a4).heap[b]? = some (.cells #[a0, a1, a2, a3, a4, c5, c6, c7, c8, c9, c10, c11] T (0, 0)) := heap_setCell_same v b 4 _ _ a4 h
 generalize v.setCell ⟨b, 4, none⟩ a4 = v at *
 replace h : (v.setCell ⟨b, 5, none⟩ a5).heap[b]? = some (.cells #[a0, a1, a2, a3, a4, a5, c6, c7, c8, c9, c10, c11] T (0, 0)) := heap_setCell_same v b 5 _ _ a5 h
 generalize v.setCell ⟨b, 5, none⟩ a5 = v at *
 replace h : (v.setCell ⟨b, 6, none⟩ a6).heap[b]? = some (.cells #[a0, a1, a2, a3, a4, a5, a6, c7, c8, c9, c10, c11] T (0, 0)) := heap_setCell_same v b 6 _ _ a6 h
 generalize v.setCell ⟨b, 6, none⟩ a6 = v at *
 replace h : (v.setCell ⟨b, 7, none⟩ a7).heap[b]? = some (.cells #[a0, a1, a2, a3, a4, a5, a6, a7, c8, c9, c10, c11] T (0, 0)) := heap_setCell_same v b 7 _ _ a7 h
 generalize v.setCell ⟨b, 7, none⟩ a7 = v at *
 replace h : (v.setCell ⟨b, 8, none⟩ a8).heap[b]? = some (.cells #[a0, a1, a2, a3, a4, a5, a6, a7, a8, c9, c10, c11] T (0, 0)) := heap_setCell_same v b 8 _ _ a8 h
 generalize v.setCell ⟨b, 8, none⟩ a8 = v at *
 replace h : (v.setCell ⟨b, 9, none⟩ a9).heap[b]? = some (.cells #[a0, a1, a2, a3, a4, a5, a6, a7, a8, a9, c10, c11] T (0, 0)) := heap_setCell_same v b 9 _ _ a9 h
 generalize v.setCell ⟨b, 9, none⟩ a9 = v at *
 replace h : (v.setCell ⟨b, 10, none⟩ a10).heap[b]? = some (.cells #[a0, a1, a2, a3, a4, a5, a6, a7, a8, a9, a10, c11] T (0, 0)) := heap_setCell_same v b 10 _ _ a10 h
 generalize v.setCell ⟨b, 10, none⟩ a10 = v at *
 replace h : (v.setCell ⟨b, 11, none⟩ a11).heap[b]? = some (.cells #[a0, a1, a2, a3, a4, a5, a6, a7, a8, a9, a10, a11] T (0, 0)) := heap_setCell_same v b 11 _ _ a11 h
 generalize v.setCell ⟨b, 11, none⟩ a11 = v at *
 exact h
theorem Yh {n : Nat} {w v : World} {b : Nat} (h : Below n w v) (hb : n ≤ b) (a0 a1 a2 a3 a4 a5 a6 a7 a8 a9 a10 a11 : Value) : Below n w (UG v b a0 a1 a2 a3 a4 a5 a6 a7 a8 a9 a10 a11) :=
 ((((((((((((h.setCell (p := ⟨b, 0, none⟩) hb _).setCell (p := ⟨b, 1, none⟩) hb _).setCell (p := ⟨b, 2, none⟩) hb _).setCell (p := ⟨b, 3, none⟩) hb _).setCell (p := ⟨b, 4, none⟩) hb _).setCell (p := ⟨b, 5, none⟩) hb _).setCell (p := ⟨b, 6, none⟩) hb _).setCell (p := ⟨b, 7, none⟩) hb _).setCell (p := ⟨b, 8, none⟩) hb _).setCell (p := ⟨b, 9, none⟩) hb _).setCell (p := ⟨b, 10, none⟩) hb _).setCell (p := ⟨b, 11, none⟩) hb _)
def wkZ : Value := .agg #[.int .i64 0, .slice none 0 0, .slice none 0 0, .slice none 0 0, .int .i64 0, .slice none 0 0, .slice none 0 0, .int .i64 0, .int .i64 0, .int .i64 0, .slice none 0 0, .slice none 0 0]
theorem work1_any (x : Wk × Wp) (v : Int) (b : Nat) (w : World) (h : w.heap[b]? = some (.cells #[.int .i64 v] 3)) :
  Calls Tryz.prog 143 (#[wkV x] ++ #[.pointer (some ⟨b, 0, none⟩)]) w fun e w' => e = .returned (.bool (decide (x.1.ver = v))) ∧ Below w.heap.size w w' := by
 unfold wkV
 obtain ⟨x, p⟩ := x
 have HX := Qa (Qj h (.cells #[.int .i64 x.ver, .slice p.ab x.bars.length p.cb, .slice p.ap p.np p.cp, .slice p.an p.nn p.cn, .int .i64 x.f.bars, .slice p.q.ra x.f.reps.length p.q.rc, .slice p.q.ea x.f.ends.length p.q.ec, .int .i64 x.f.jump.x, .int .i64 x.f.jump.y, .int .i64 x.f.jump.z, .slice p.q.ca x.f.cuts.length p.q.cc, .slice p.ta p.tn p.tc] 112))
 have HB := Qa (Qg (w := w) (.cells #[.int .i64 x.ver, .slice p.ab x.bars.length p.cb, .slice p.ap p.np p.cp, .slice p.an p.nn p.cn, .int .i64 x.f.bars, .slice p.q.ra x.f.reps.length p.q.rc, .slice p.q.ea x.f.ends.length p.q.ec, .int .i64 x.f.jump.x, .int .i64 x.f.jump.y, .int .i64 x.f.jump.z, .slice p.q.ca x.f.cuts.length p.q.cc, .slice p.ta p.tn p.tc] 112))
 have HN := Qa (heap_alloc_new w (.cells #[.int .i64 x.ver, .slice p.ab x.bars.length p.cb, .slice p.ap p.np p.cp, .slice p.an p.nn p.cn, .int .i64 x.f.bars, .slice p.q.ra x.f.reps.length p.q.rc, .slice p.q.ea x.f.ends.length p.q.ec, .int .i64 x.f.jump.x, .int .i64 x.f.jump.y, .int .i64 x.f.jump.z, .slice p.q.ca x.f.cuts.length p.q.cc, .slice p.ta p.tn p.tc] 112))
 clear h
 go_enter Tryz.func143, Tryz.ntmps143
 go_upto_region 1 with (fail)
 have hc := Qb HX.out; have hd := Qb HN.out
 generalize w.alloc (.cells #[.int .i64 x.ver, .slice p.ab x.bars.length p.cb, .slice p.ap p.np p.cp, .slice p.an p.nn p.cn, .int .i64 x.f.bars, .slice p.q.ra x.f.reps.length p.q.rc, .slice p.q.ea x.f.ends.length p.q.ec, .int .i64 x.f.jump.x, .int .i64 x.f.jump.y, .int .i64 x.f.jump.z, .slice p.q.ca x.f.cuts.length p.q.cc, .slice p.ta p.tn p.tc] 112) = W at *
 go_wp2
 go_ret
 exact ⟨Qf rfl, HB.out⟩
def Uf (l : List (Wk × Wp)) (v : Int) (w : World) (e : Ending) (w' : World) : Prop :=
 Below w.heap.size w w' ∧ ((∃ k, ∃ hk : k < l.length, idxO (fun y : Wk × Wp => decide (y.1.ver = v)) l = k ∧ e = .returned (.tuple #[wkV l[k], .bool true])) ∨ (idxO (fun y : Wk × Wp => decide (y.1.ver = v)) l = -1 ∧ e = .returned (.tuple #[wkZ, .bool false])))
theorem work_any (L : Lb) (P : Lbp) (d : List De) (da : Option Addr) (dc rs re g : Nat) (v : Int) (w : World) (hf : L.ws.length ≤ 1000) (hL : WsAt w P.wa L.ws) (h : AudAt w g L P d da dc rs re) :
  Calls Tryz.prog 103 #[.pointer (some ⟨g, 0, none⟩), .int .i64 v] w (Uf L.ws v w) := by
 obtain ⟨wa, wc, ea, ec, sa, sc, la, lc⟩ := P
 obtain ⟨x1, x2, hb⟩ := box2 (w := w) (A := .cells #[.int .i64 v] 3) (B := .cells #[.int .i64 0, .slice none 0 0, .slice none 0 0, .slice none 0 0, .int .i64 0, .slice none 0 0, .slice none 0 0, .int .i64 0, .int .i64 0, .int .i64 0, .slice none 0 0, .slice none 0 0] 112) (Below.refl _ _)
 have HX1 := Qa x1; have HX2 := Qa x2; have HB := Qa hb
 have HG := Qa (hb.block _ (Qd h.box) |>.trans h.box); have HW := Qa (show WsAt _ wa L.ws from hL.below hb)
 clear x1 x2 hb h hL
 dsimp only at HG
 go_enter Tryz.func103, Tryz.ntmps103
 go_upto_region 1 with (fail)
 generalize (w.alloc (.cells #[.int .i64 v] 3)).alloc (.cells #[.int .i64 0, .slice none 0 0, .slice none 0 0, .slice none 0 0, .int .i64 0, .slice none 0 0, .slice none 0 0, .int .i64 0, .int .i64 0, .int .i64 0, .slice none 0 0, .slice none 0 0] 112) = W at *
 have hc := Qb HX1.out; have hd := Qb HX2.out; have hg := Qb HG.out
 have HI := Qa (fun V (hV : Below W.heap.size W V) => IndexW_any 143 #[.pointer (some ⟨w.heap.size, 0, none⟩)] (enters_of Tryz.func143 (by kernel_rfl) rfl) W.heap.size (fun y => decide (y.1.ver = v)) wa wc L.ws V (by omega) (fun d _ V' hV' => work1_any d v w.heap.size V' ((hV'.block _ (Qd HX1.out)).trans ((hV.block _ (Qd HX1.out)).trans HX1.out))) hV.size ((HW.out.below hV).rows))
 go_upto_region 2 with (go_at_call 142; refine (HI.out _ (Below.refl _ _)).mono ?_; rintro e w5 ⟨rfl, hb5⟩)
 have HX25 := bk HX2 hb5; have HG5 := bk HG hb5; have HW5 := Qa (HW.out.below hb5); have HB5 := bu HB hb5
 clear hc hd hg hb5 HI
 have hd := Qb HX25.out; have hg := Qb HG5.out; have hf2 := Qe HX25.out; have hz2 := Qd HX25.out
 rcases YZ L.ws v with ⟨k, hk, e1, e2⟩ | ⟨e1, e2⟩
 ·have hk0 : (0 : Int) ≤ (k : Int) := by omega
  have hk1 : (k : Int) < (L.ws.length : Int) := by omega
  obtain ⟨b, off, eq, _, d0, d1, d2, d3, d4, d5, d6, d7, d8, d9, d10, d11⟩ := WlAt.get HW5.out.rows k hk
  subst eq
  have HP := Qa (show ∀ V, Below w.heap.size w V → Uf L.ws v w (.returned (.tuple #[wkV L.ws[k], .bool true])) V from fun V hV => ⟨hV, .inl ⟨k, hk, e1, rfl⟩⟩)
  unfold wkV at HP
  rw [e1]
  clear e1 e2
  generalize L.ws[k] = x at *
  obtain ⟨x, p⟩ := x
  dsimp only at *
  go_wp2
  refine bodyPost_ret (Qi rfl _ _ (w.heap.size + 1) 112 _ (0, 0) _ rfl (Js HX25.out _ _ _ _ _ _ _ _ _ _ _ _) Tryz.underlying112 rfl (by kernel_rfl)) rfl ?_
  exact HP.out _ (Yh HB5.out (by omega) _ _ _ _ _ _ _ _ _ _ _ _)
 ·have HP := Qa (show ∀ V, Below w.heap.size w V → Uf L.ws v w (.returned (.tuple #[wkZ, .bool false])) V from fun V hV => ⟨hV, .inr ⟨e1, rfl⟩⟩)
  unfold wkZ at HP
  rw [e1]
  clear e1 e2
  go_wp2
  refine bodyPost_ret (Qi rfl _ _ (w.heap.size + 1) 112 _ (0, 0) _ rfl (Js HX25.out _ _ _ _ _ _ _ _ _ _ _ _) Tryz.underlying112 rfl (by kernel_rfl)) rfl ?_
  exact HP.out _ (Yh HB5.out (by omega) _ _ _ _ _ _ _ _ _ _ _ _)
theorem work_yes (L : Lb) (P : Lbp) (d : List De) (da : Option Addr) (dc rs re g : Nat) (v : Int) (w : World) (hf : L.ws.length ≤ 1000) (hL : WsAt w P.wa L.ws) (h : AudAt w g L P d da dc rs re) (k : Nat) (hk : k < L.ws.length) (e1 : idxO (fun y : Wk × Wp => decide (y.1.ver = v)) L.ws = k) :
  Calls Tryz.prog 103 #[.pointer (some ⟨g, 0, none⟩), .int .i64 v] w fun e w' => e = .returned (.tuple #[wkV L.ws[k], .bool true]) ∧ Below w.heap.size w w' := by
 refine (work_any L P d da dc rs re g v w hf hL h).mono ?_
 rintro e w' ⟨hb, ⟨k', hk', e2, rfl⟩ | ⟨e2, rfl⟩⟩
 ·rw [e1] at e2
  obtain rfl : k = k' := by omega
  exact ⟨rfl, hb⟩
 ·rw [e1] at e2; omega
theorem work_no (L : Lb) (P : Lbp) (d : List De) (da : Option Addr) (dc rs re g : Nat) (v : Int) (w : World) (hf : L.ws.length ≤ 1000) (hL : WsAt w P.wa L.ws) (h : AudAt w g L P d da dc rs re) (e1 : idxO (fun y : Wk × Wp => decide (y.1.ver = v)) L.ws = -1) :
  Calls Tryz.prog 103 #[.pointer (some ⟨g, 0, none⟩), .int .i64 v] w fun e w' => e = .returned (.tuple #[wkZ, .bool false]) ∧ Below w.heap.size w w' := by
 refine (work_any L P d da dc rs re g v w hf hL h).mono ?_
 rintro e w' ⟨hb, ⟨k', hk', e2, rfl⟩ | ⟨e2, rfl⟩⟩
 ·rw [e1] at e2; omega
 ·exact ⟨rfl, hb⟩
theorem AudAt.below {w w' : World} {g : Nat} {L : Lb} {P : Lbp} {d : List De} {da : Option Addr} {dc rs re : Nat} (h : AudAt w g L P d da dc rs re) (hb : Below w.heap.size w w') : AudAt w' g L P d da dc rs re := ⟨Qc h.box hb, h.shs.below hb, h.eds.below hb⟩
def RulePost (rs : List Int) (k m : Int) (r g : Nat) (st : Int) (w : World) (e : Ending) (w' : World) : Prop :=
 ∃ v, e = .returned v ∧ OwnR w' w.heap.size 3 1 v (rs.map inRow) ∧ w'.heap[r]? = some (.cells #[.pointer (some ⟨g, 0, none⟩), .int .i64 (st), .int .i64 (k), .int .i64 (m)] 80) ∧ KeepB w.heap.size [r] w w'
theorem RulePost.nil {k m : Int} {r g : Nat} {st : Int} {w w' : World} (hr : w'.heap[r]? = some (.cells #[.pointer (some ⟨g, 0, none⟩), .int .i64 (st), .int .i64 (k), .int .i64 (m)] 80)) (hk : KeepB w.heap.size [r] w w') : RulePost [] k m r g st w (.returned (.slice none 0 0)) w' := ⟨_, rfl, OwnR.nil _ _ _ _, hr, hk⟩
theorem RulePost.one {k m : Int} {r g : Nat} {st n : Int} {w w' : World} (hr : w'.heap[r]? = some (.cells #[.pointer (some ⟨g, 0, none⟩), .int .i64 (st), .int .i64 (k), .int .i64 (m)] 80)) (hk : KeepB w.heap.size [r] w w') : RulePost [n] k m r g st w (.returned (.slice (some ⟨w'.heap.size, 0, none⟩) 1 1)) (w'.alloc (.cells #[.int .i64 n] 3)) :=
 ⟨_, rfl, J4 w' w.heap.size n hk.size, Qj hr _, hk.trans (KeepB.of_below (Qg _) hk.size)⟩
theorem edLook {W : World} {re : Nat} {L : Lb} (hm : MapAt W encI re (edM L.eds)) (k : Int) : (Instr.lookup 140 (.map (some re)) (.int .i64 k) false).run Tryz.prog W = .ok (.bool (L.eds.any fun x => decide (x.id = k))) W := by
 have h := QF (P := Tryz.prog) (z := .bool false) Tryz.underlying140 keyI (fun w => by kernel_rfl) hm k false
 rw [edM_get] at h
 refine h.trans ?_
 cases L.eds.any fun x => decide (x.id = k) <;> rfl
theorem work_is (L : Lb) (P : Lbp) (d : List De) (da : Option Addr) (dc rs re g : Nat) (v : Int) (w : World) (hf : L.ws.length ≤ 1000) (hL : WsAt w P.wa L.ws) (h : AudAt w g L P d da dc rs re) :
  ∃ (x : Wk) (p : Wp), (Zk (Qk L.ws) v = none ∨ (x, p) ∈ L.ws ∧ Zk (Qk L.ws) v = some x) ∧
   ∀ V, Below w.heap.size w V → Calls Tryz.prog 103 #[.pointer (some ⟨g, 0, none⟩), .int .i64 v] V fun e w' => e = .returned (.tuple #[.agg #[.int .i64 x.ver, .slice p.ab x.bars.length p.cb, .slice p.ap p.np p.cp, .slice p.an p.nn p.cn, .int .i64 x.f.bars, .slice p.q.ra x.f.reps.length p.q.rc, .slice p.q.ea x.f.ends.length p.q.ec, .int .i64 x.f.jump.x, .int .i64 x.f.jump.y, .int .i64 x.f.jump.z, .slice p.q.ca x.f.cuts.length p.q.cc, .slice p.ta p.tn p.tc], .bool (Zk (Qk L.ws) v).isSome]) ∧ Below V.heap.size V w' := by
 rcases YZ L.ws v with ⟨k, hk, e1, e2⟩ | ⟨e1, e2⟩
 ·refine ⟨L.ws[k].1, L.ws[k].2, .inr ⟨List.getElem_mem hk, e2⟩, fun V hV => ?_⟩
  refine (work_yes L P d da dc rs re g v V hf (hL.below hV) (h.below hV) k hk e1).mono ?_
  rintro e w' ⟨rfl, hb⟩
  rw [e2]
  exact ⟨rfl, hb⟩
 ·refine ⟨⟨0, [], fo0⟩, ⟨none, 0, none, 0, 0, none, 0, 0, fp0, none, 0, 0⟩, .inl e2, fun V hV => ?_⟩
  refine (work_no L P d da dc rs re g v V hf (hL.below hV) (h.below hV) e1).mono ?_
  rintro e w' ⟨rfl, hb⟩
  rw [e2]
  exact ⟨rfl, hb⟩
def Bx12 (n : Nat) (v : World) (d e : Bool) (x A : Value) : Prop := d = true → ∃ c z0 z1 z2 z3 z4 z5 z6 z7 z8 z9 z10 z11, x = .pointer (some ⟨c, 0, none⟩) ∧ n ≤ c ∧ v.heap[c]? = some (.cells #[z0, z1, z2, z3, z4, z5, z6, z7, z8, z9, z10, z11] 112) ∧ (e = true → Value.agg #[z0, z1, z2, z3, z4, z5, z6, z7, z8, z9, z10, z11] = A)
theorem Bx12.below {n : Nat} {v v' : World} {d e : Bool} {x A : Value} (h : Bx12 n v d e x A) (hb : Below v.heap.size v v') : Bx12 n v' d e x A := fun hd => by
 obtain ⟨c, z0, z1, z2, z3, z4, z5, z6, z7, z8, z9, z10, z11, h1, h2, h3, h4⟩ := h hd
 exact ⟨c, z0, z1, z2, z3, z4, z5, z6, z7, z8, z9, z10, z11, h1, h2, Qc h3 hb, h4⟩
def WkJ (W : World) (A ok : Value) (D : Nat → Bool) (i0 : Nat) (x7 x14 x15 x16 x5 x6 : Value) (v : World) : Prop :=
 (D i0 = true → x14 = .tuple #[A, ok]) ∧ (D (i0 + 1) = true → x7 = .tuple #[A, ok]) ∧ (D (i0 + 2) = true → x15 = A) ∧ (D (i0 + 3) = true → x16 = ok) ∧ (D (i0 + 6) = true → x6 = ok) ∧ Bx12 W.heap.size v (D (i0 + 4)) (D (i0 + 5)) x5 A ∧
 (D (i0 + 5) = true → D (i0 + 4) = true) ∧ Below W.heap.size W v
theorem shows_any (L : Lb) (P : Lbp) (d : List De) (da : Option Addr) (dc rs re g r : Nat) (st k m : Int) (e : En) (w : World) (hf : L.ws.length ≤ 1000) (hL : WsAt w P.wa L.ws) (h : AudAt w g L P d da dc rs re) (hr : w.heap[r]? = some (.cells #[.pointer (some ⟨g, 0, none⟩), .int .i64 (st), .int .i64 (k), .int .i64 (m)] 80)) :
  Calls Tryz.prog 62 #[.pointer (some ⟨r, 0, none⟩), .agg #[.int .i64 e.time, .int .i64 e.kind, .int .i64 e.a, .int .i64 e.b, .int .i64 e.c, .int .u64 e.dg]] w (RulePost (if JF L e then [] else [1]) k m r g st w) := by
 have HX := Qa (heap_alloc_new w (.cells #[.int .i64 e.time, .int .i64 e.kind, .int .i64 e.a, .int .i64 e.b, .int .i64 e.c, .int .u64 e.dg] 50))
 have HB := Qa (Qg (w := w) (.cells #[.int .i64 e.time, .int .i64 e.kind, .int .i64 e.a, .int .i64 e.b, .int .i64 e.c, .int .u64 e.dg] 50))
 have HR := Qa (Qj hr (.cells #[.int .i64 e.time, .int .i64 e.kind, .int .i64 e.a, .int .i64 e.b, .int .i64 e.c, .int .u64 e.dg] 50))
 have HG := Qa (Qj h.box (.cells #[.int .i64 e.time, .int .i64 e.kind, .int .i64 e.a, .int .i64 e.b, .int .i64 e.c, .int .u64 e.dg] 50))
 have hrl := Qd hr
 obtain ⟨wx, wp, hfw, hw⟩ := work_is L P d da dc rs re g e.a w hf hL h
 have HW := Qa hw
 have hSh : JF L e = ((Zk (Qk L.ws) e.a).isSome && L.eds.any fun x => decide (x.id = e.b)) := rfl
 have HLk := Qa (fun V (hV : Below w.heap.size w V) => edLook (h.eds.below hV) e.b)
 clear hL hfw hw h hr
 generalize (Zk (Qk L.ws) e.a).isSome = ok at *
 generalize (L.eds.any fun x => decide (x.id = e.b)) = ed at *
 have HS := Qa (show (if JF L e then [] else [1]) = (if ok && ed then [] else [1] : List Int) by rw [hSh])
 generalize (if JF L e then [] else [1] : List Int) = RL at *
 clear hSh
 go_enter Tryz.func62, Tryz.ntmps62
 go_upto_region 1 with (fail)
 generalize w.alloc (.cells #[.int .i64 e.time, .int .i64 e.kind, .int .i64 e.a, .int .i64 e.b, .int .i64 e.c, .int .u64 e.dg] 50) = W at *
 refine wp_region_held_drew (S := fun V => V.heap[r]? = some (.cells #[.pointer (some ⟨g, 0, none⟩), .int .i64 (st), .int .i64 (k), .int .i64 (m)] 80) ∧ V.heap[w.heap.size]? = some (.cells #[.int .i64 e.time, .int .i64 e.kind, .int .i64 e.a, .int .i64 e.b, .int .i64 e.c, .int .u64 e.dg] 50)) (by kernel_rfl) ⟨HR.out, HX.out⟩ (fun hHeld => ?_)
 (refine tq 0 ?_ (y := fun _ hSw => by have hx := Qb hSw.1; have hy := Qb hSw.2; go_simp; try rfl))
 (refine tq 1 ?_ (y := fun _ hSw => by have hx := Qb hSw.1; have hy := Qb hSw.2; go_simp; try rfl))
 (refine tq 2 ?_ (y := fun _ hSw => by have hx := Qb hSw.1; have hy := Qb hSw.2; go_simp; try rfl))
 (refine tq 3 ?_ (y := fun _ hSw => by have hx := Qb hSw.1; have hy := Qb hSw.2; go_simp; try rfl))
 (refine tq 4 ?_ (y := fun _ hSw => by have hx := Qb hSw.1; have hy := Qb hSw.2; go_simp; try rfl))
 (refine tq 5 ?_ (y := fun _ hSw => by have hx := Qb hSw.1; have hy := Qb hSw.2; go_simp; try rfl))
 refine Yn [6, 7, 8, 9, 10, 11, 12] (fun A D a v => ∃ x14 x7 x15 x16 x5 x6, a = (((((A.put (some 14) x14).put (some 7) x7).put (some 15) x15).put (some 16) x16).put (some 5) x5).put (some 6) x6 ∧ WkJ W (.agg #[.int .i64 wx.ver, .slice wp.ab wx.bars.length wp.cb, .slice wp.ap wp.np wp.cp, .slice wp.an wp.nn wp.cn, .int .i64 wx.f.bars, .slice wp.q.ra wx.f.reps.length wp.q.rc, .slice wp.q.ea wx.f.ends.length wp.q.ec, .int .i64 wx.f.jump.x, .int .i64 wx.f.jump.y, .int .i64 wx.f.jump.z, .slice wp.q.ca wx.f.cuts.length wp.q.cc, .slice wp.ta wp.tn wp.tc]) (.bool ok) D 6 x7 x14 x15 x16 x5 x6 v) (by kernel_rfl) rfl rfl (by kernel_rfl) ?_ ?_ ?_ ?_
 ·exact ⟨_, _, _, _, _, _, rfl, fun h => absurd h (by decide), fun h => absurd h (by decide), fun h => absurd h (by decide), fun h => absurd h (by decide), fun h => absurd h (by decide), fun h => absurd h (by decide), fun h => absurd h (by decide), (Below.refl _ _).drew⟩
 ·rintro D b1 v ⟨x14, x7, x15, x16, x5, x6, _, _, _, _, _, _, _, _, hb1⟩
  exact ⟨Qc HR.out hb1, Qc HX.out hb1⟩
 ·rintro D b1 v ⟨x14, x7, x15, x16, x5, x6, rfl, j14, j7, j15, j16, j6, j5, jd, hb1⟩
  refine sc (fun hd hdep => ?_) ?_
  ·clear hdep
   intro K hK
   (try simp only [Act.put, List.setIfInBounds_toArray, List.set_cons_zero, List.set_cons_succ])
   go_simp
   refine (HW.out _ (HB.out.trans (hb1.mono HB.out.size))).mono ?_
   rintro e5 w5 ⟨rfl, hb5⟩
   go_simp
   exact hK.out _ _ ⟨_, x7, x15, x16, x5, x6, rfl, fun _ => rfl, j7, j15, j16, j6, j5.below hb5, jd, hb1.trans (hb5.mono hb1.size)⟩
  refine sc (fun hd hdep => ?_) ?_
  ·obtain rfl := j14 (hdep ⟨6, .data⟩ (by simp) rfl)
   clear hdep
   intro K hK
   (try simp only [Act.put, List.setIfInBounds_toArray, List.set_cons_zero, List.set_cons_succ])
   go_simp
   exact hK.out _ _ ⟨_, _, x15, x16, x5, x6, rfl, fun _ => rfl, fun _ => rfl, j15, j16, j6, j5, jd, hb1⟩
  refine sc (fun hd hdep => ?_) ?_
  ·obtain rfl := j7 (hdep ⟨7, .data⟩ (by simp) rfl)
   clear hdep
   intro K hK
   (try simp only [Act.put, List.setIfInBounds_toArray, List.set_cons_zero, List.set_cons_succ])
   go_simp
   exact hK.out _ _ ⟨x14, _, _, x16, x5, x6, rfl, j14, fun _ => rfl, fun _ => rfl, j16, j6, j5, jd, hb1⟩
  refine sc (fun hd hdep => ?_) ?_
  ·obtain rfl := j7 (hdep ⟨7, .data⟩ (by simp) rfl)
   clear hdep
   intro K hK
   (try simp only [Act.put, List.setIfInBounds_toArray, List.set_cons_zero, List.set_cons_succ])
   go_simp
   exact hK.out _ _ ⟨x14, _, x15, _, x5, x6, rfl, j14, fun _ => rfl, j15, fun _ => rfl, j6, j5, jd, hb1⟩
  refine sc (fun hd hdep => ?_) ?_
  ·clear hdep
   intro K hK
   (try simp only [Act.put, List.setIfInBounds_toArray, List.set_cons_zero, List.set_cons_succ])
   go_simp
   exact hK.out _ _ ⟨x14, x7, x15, x16, _, x6, rfl, j14, j7, j15, j16, j6, fun _ => ⟨v.heap.size, _, _, _, _, _, _, _, _, _, _, _, _, rfl, hb1.size, heap_alloc_new _ _, fun h => by have h9 := jd h; rw [hd] at h9; cases h9⟩, fun _ => rfl, hb1.alloc hb1.size _⟩
  refine sc (fun hd hdep => ?_) ?_
  ·have hdd : D 10 = true ∧ D 8 = true := ⟨hdep ⟨10, .data⟩ (by simp) rfl, hdep ⟨8, .data⟩ (by simp) rfl⟩
   clear hdep
   obtain ⟨c, z0, z1, z2, z3, z4, z5, z6, z7, z8, z9, z10, z11, rfl, hc, hz, _⟩ := j5 hdd.1
   obtain rfl := j15 hdd.2
   have hcc := Qb hz; have hff := Qe hz; have hlz := Qd hz
   intro K hK
   (try simp only [Act.put, List.setIfInBounds_toArray, List.set_cons_zero, List.set_cons_succ])
   go_simp
   exact hK.out _ _ ⟨x14, x7, _, x16, _, x6, rfl, j14, j7, fun _ => rfl, j16, j6, fun _ => ⟨c, _, _, _, _, _, _, _, _, _, _, _, _, rfl, hc, Js hz _ _ _ _ _ _ _ _ _ _ _ _, fun _ => rfl⟩, fun _ => hdd.1, Yh hb1 hc _ _ _ _ _ _ _ _ _ _ _ _⟩
  refine sc (fun hd hdep => ?_) ?_
  ·obtain rfl := j16 (hdep ⟨9, .data⟩ (by simp) rfl)
   clear hdep
   intro K hK
   (try simp only [Act.put, List.setIfInBounds_toArray, List.set_cons_zero, List.set_cons_succ])
   go_simp
   exact hK.out _ _ ⟨x14, x7, x15, _, x5, _, rfl, j14, j7, j15, fun _ => rfl, fun _ => rfl, j5, jd, hb1⟩
  exact StepAll.nil
 ·rintro D b1 v hall ⟨x14, x7, x15, x16, x5, x6, rfl, j14, j7, j15, j16, j6, j5, jd, hb1⟩
  obtain rfl := j6 (hall 12 (by simp))
  clear j14 j7 j15 j16 j6 j5 jd hall
  (try simp only [Act.put, List.setIfInBounds_toArray, List.set_cons_zero, List.set_cons_succ])
  have HB1 := bu HB hb1
  have HR1 := bk HR hb1; have HX1 := bk HX hb1; have HG1 := bk HG hb1
  have hl := fun n => HLk.out (v.drewN n) (below_drewN HB1.out n)
  clear HLk HW HR HX HG hb1
  have hc := Qb HR1.out; have hd := Qb HX1.out; have he := Qb HG1.out
  have HK := Qa (fun n => KeepB.of_below' (S := [r]) (below_drewN HB1.out n))
  have HRn := Qa (fun n => show (v.drewN n).heap[r]? = _ from HR1.out)
  cases ok
  ·go_upto_region 2 with (fail)
   go_quiet (fail)
   go_wp2
   go_ret
   rw [HS.out]
   first | exact RulePost.one (HRn.out _) (HK.out _) | exact RulePost.one HR1.out (HK.out 0)
  ·cases ed
   ·go_upto_region 2 with (fail)
    go_quiet (fail)
    go_wp2
    go_ret
    rw [HS.out]
    exact RulePost.one (HRn.out _) (HK.out _)
   ·go_upto_region 2 with (fail)
    go_quiet (fail)
    go_wp2
    go_ret
    rw [HS.out]
    exact RulePost.nil (HRn.out _) (HK.out _)
theorem knows_any (L : Lb) (P : Lbp) (d : List De) (da : Option Addr) (dc rs re g r : Nat) (st k m : Int) (e : En) (w : World) (h : AudAt w g L P d da dc rs re) (hr : w.heap[r]? = some (.cells #[.pointer (some ⟨g, 0, none⟩), .int .i64 (st), .int .i64 (k), .int .i64 (m)] 80)) :
  Calls Tryz.prog 64 #[.pointer (some ⟨r, 0, none⟩), .agg #[.int .i64 e.time, .int .i64 e.kind, .int .i64 e.a, .int .i64 e.b, .int .i64 e.c, .int .u64 e.dg]] w (RulePost (if e.a < m ∨ (d.length : Int) < e.a then [4] else []) e.a (max m e.a) r g st w) := by
 have HX := Qa (heap_alloc_new w (.cells #[.int .i64 e.time, .int .i64 e.kind, .int .i64 e.a, .int .i64 e.b, .int .i64 e.c, .int .u64 e.dg] 50))
 have HB := Qa (Qg (w := w) (.cells #[.int .i64 e.time, .int .i64 e.kind, .int .i64 e.a, .int .i64 e.b, .int .i64 e.c, .int .u64 e.dg] 50))
 have HR := Qa (Qj hr (.cells #[.int .i64 e.time, .int .i64 e.kind, .int .i64 e.a, .int .i64 e.b, .int .i64 e.c, .int .u64 e.dg] 50))
 have HG := Qa (Qj h.box (.cells #[.int .i64 e.time, .int .i64 e.kind, .int .i64 e.a, .int .i64 e.b, .int .i64 e.c, .int .u64 e.dg] 50))
 have hrl := Qd hr
 have hgr : g ≠ r := fun e => by have h1 := h.box; rw [e, hr] at h1; cases h1
 clear h hr
 generalize hRL : (if e.a < m ∨ (d.length : Int) < e.a then [4] else [] : List Int) = RL
 have HRL := Qa hRL
 clear hRL
 generalize hmx : max m e.a = mx
 obtain ⟨fb, hfb⟩ : ∃ fb, decide (e.a < m) = fb := ⟨_, rfl⟩
 go_enter Tryz.func64, Tryz.ntmps64
 go_upto_region 1 with (fail)
 generalize w.alloc (.cells #[.int .i64 e.time, .int .i64 e.kind, .int .i64 e.a, .int .i64 e.b, .int .i64 e.c, .int .u64 e.dg] 50) = W at *
 have hc := Qb HX.out; have hd := Qb HR.out; have hf := Qe HR.out; have hg := Qb HG.out
 have hWr := Qd HR.out; have hWx := Qd HX.out
 go_quiet (fail)
 go_upto_region 2 with (fail)
 obtain ⟨W1, hW1, hr1⟩ : ∃ W1, (W.drewN nq).drew = W1 ∧ Below W.heap.size W W1 := ⟨_, rfl, (below_drewN (Below.refl _ _) nq).drew⟩
 refine wp_region_held_drew (S := fun _ => True) (by kernel_rfl) trivial (fun hHeld => ?_)
 rw [hW1]
 clear hW1
 have hq1 := Qc HR.out hr1; have hq2 := Qc HX.out hr1; have hq3 := Qc HG.out hr1
 have HK1 := Qa (KeepB.of_below' (S := [r]) (HB.out.trans (hr1.mono HB.out.size)))
 clear hc hd hf hg HR HX HG HB hr1
 (refine tq 0 ?_ (y := fun _ hSw => by go_simp; try rfl))
 (refine tq 1 ?_ (y := fun _ hSw => by go_simp; try rfl))
 (refine tq 2 ?_ (y := fun _ hSw => by go_simp; try rfl))
 (refine tq 4 ?_ (y := fun _ hSw => by go_simp; try rfl))
 (refine tq 5 ?_ (y := fun _ hSw => by go_simp; try rfl))
 (refine tq 6 ?_ (y := fun _ hSw => by go_simp; try rfl))
 (refine tq 8 ?_ (y := fun _ hSw => by go_simp; try rfl))
 refine Yn [3, 7, 9, 10, 11, 12, 13, 14, 15, 16] (fun _ D a v => ∃ x16 x20 x22 x23 x24 x25 x26 x27, a = { tmps := #[.pointer (some ⟨r, 0, none⟩), .agg #[.int .i64 e.time, .int .i64 e.kind, .int .i64 e.a, .int .i64 e.b, .int .i64 e.c, .int .u64 e.dg], undef, .pointer (some ⟨w.heap.size, 0, none⟩), .slice none 0 0, .bool fb, .pointer (some ⟨w.heap.size, 2, none⟩), .int .i64 e.a, .pointer (some ⟨r, 0, none⟩), .pointer (some ⟨r, 0, none⟩), .pointer (some ⟨r, 3, none⟩), .int .i64 m, .bool fb, .pointer (some ⟨r, 0, none⟩), .pointer (some ⟨r, 0, none⟩), .pointer (some ⟨w.heap.size, 2, none⟩), x16, .pointer (some ⟨r, 0, none⟩), .pointer (some ⟨r, 0, none⟩), .pointer (some ⟨r, 3, none⟩), x20, .pointer (some ⟨w.heap.size, 2, none⟩), x22, x23, x24, x25, x26, x27, undef, undef, undef, undef, undef, undef, undef, undef, undef, undef, undef, undef, undef, undef, undef], defers := [] } ∧ (D 3 = true → x16 = .int .i64 e.a) ∧ (D 7 = true → x20 = .int .i64 m) ∧ (D 9 = true → x22 = .int .i64 e.a) ∧ (D 10 = true → x23 = .int .i64 (mx)) ∧ (D 11 = true → x24 = .pointer (some ⟨r, 0, none⟩)) ∧ (D 12 = true → x25 = .pointer (some ⟨r, 2, none⟩)) ∧ (D 14 = true → x26 = .pointer (some ⟨r, 0, none⟩)) ∧ (D 15 = true → x27 = .pointer (some ⟨r, 3, none⟩)) ∧ (D 16 = true → D 7 = true) ∧
   (∃ k' m', v.heap[r]? = some (.cells #[.pointer (some ⟨g, 0, none⟩), .int .i64 (st), .int .i64 (k'), .int .i64 (m')] 80) ∧ (D 13 = true → k' = e.a) ∧ (D 16 = true → m' = mx) ∧ (D 16 = false → m' = m)) ∧ v.heap[w.heap.size]? = some (.cells #[.int .i64 e.time, .int .i64 e.kind, .int .i64 e.a, .int .i64 e.b, .int .i64 e.c, .int .u64 e.dg] 50) ∧ v.heap[g]? = some (.cells #[.slice P.wa L.ws.length P.wc, .slice P.ea L.eds.length P.ec, .slice P.sa L.shs.length P.sc, .slice P.la L.los.length P.lc, .slice da d.length dc, .map (some rs), .map (some re)] 142) ∧ KeepB w.heap.size [r] w v) (by kernel_rfl) rfl rfl (by kernel_rfl) ?_ ?_ ?_ ?_
 ·exact ⟨_, _, _, _, _, _, _, _, rfl, fun h => absurd h (by decide), fun h => absurd h (by decide), fun h => absurd h (by decide), fun h => absurd h (by decide), fun h => absurd h (by decide), fun h => absurd h (by decide), fun h => absurd h (by decide), fun h => absurd h (by decide), fun h => absurd h (by decide), ⟨_, _, hq1, fun h => absurd h (by decide), fun h => absurd h (by decide), fun _ => rfl⟩, hq2, hq3, HK1.out⟩
 ·exact fun _ _ _ _ => trivial
 ·rintro D b1 v ⟨x16, x20, x22, x23, x24, x25, x26, x27, rfl, j3, j7, j9, j10, j11, j12, j14, j15, jd, ⟨k', m', hr1, jk, jm, jn⟩, he1, hg1, hk1⟩
  refine sc (fun hd hdep => ?_) ?_
  ·have hc := Qb he1
   clear hdep
   intro K hK
   (try simp only [Act.put, List.setIfInBounds_toArray, List.set_cons_zero, List.set_cons_succ])
   go_simp
   exact hK.out _ _ ⟨_, x20, x22, x23, x24, x25, x26, x27, rfl, fun _ => rfl, j7, j9, j10, j11, j12, j14, j15, jd, ⟨k', m', hr1, jk, jm, jn⟩, he1, hg1, hk1⟩
  refine sc (fun hd hdep => ?_) ?_
  ·have h16 := Qv jd hd
   obtain rfl := jn h16
   have hc := Qb hr1
   clear hdep
   intro K hK
   (try simp only [Act.put, List.setIfInBounds_toArray, List.set_cons_zero, List.set_cons_succ])
   go_simp
   exact hK.out _ _ ⟨x16, _, x22, x23, x24, x25, x26, x27, rfl, j3, fun _ => rfl, j9, j10, j11, j12, j14, j15, (fun h => by have h9 := h16.symm.trans h; cases h9), ⟨k', _, hr1, jk, jm, jn⟩, he1, hg1, hk1⟩
  refine sc (fun hd hdep => ?_) ?_
  ·have hc := Qb he1
   clear hdep
   intro K hK
   (try simp only [Act.put, List.setIfInBounds_toArray, List.set_cons_zero, List.set_cons_succ])
   go_simp
   exact hK.out _ _ ⟨x16, x20, _, x23, x24, x25, x26, x27, rfl, j3, j7, fun _ => rfl, j10, j11, j12, j14, j15, jd, ⟨k', m', hr1, jk, jm, jn⟩, he1, hg1, hk1⟩
  refine sc (fun hd hdep => ?_) ?_
  ·obtain rfl := j7 (hdep ⟨7, .data⟩ (by simp) rfl)
   obtain rfl := j9 (hdep ⟨9, .data⟩ (by simp) rfl)
   clear hdep
   intro K hK
   (try simp only [Act.put, List.setIfInBounds_toArray, List.set_cons_zero, List.set_cons_succ])
   go_simp
   exact hK.out _ _ ⟨x16, _, _, _, x24, x25, x26, x27, rfl, j3, fun _ => rfl, fun _ => rfl, fun _ => rfl, j11, j12, j14, j15, jd, ⟨k', m', hr1, jk, jm, jn⟩, he1, hg1, hk1⟩
  refine sc (fun hd hdep => ?_) ?_
  ·clear hdep
   intro K hK
   (try simp only [Act.put, List.setIfInBounds_toArray, List.set_cons_zero, List.set_cons_succ])
   go_simp
   exact hK.out _ _ ⟨x16, x20, x22, x23, _, x25, x26, x27, rfl, j3, j7, j9, j10, fun _ => rfl, j12, j14, j15, jd, ⟨k', m', hr1, jk, jm, jn⟩, he1, hg1, hk1⟩
  refine sc (fun hd hdep => ?_) ?_
  ·obtain rfl := j11 (hdep ⟨11, .data⟩ (by simp) rfl)
   clear hdep
   intro K hK
   (try simp only [Act.put, List.setIfInBounds_toArray, List.set_cons_zero, List.set_cons_succ])
   go_simp
   exact hK.out _ _ ⟨x16, x20, x22, x23, _, _, x26, x27, rfl, j3, j7, j9, j10, fun _ => rfl, fun _ => rfl, j14, j15, jd, ⟨k', m', hr1, jk, jm, jn⟩, he1, hg1, hk1⟩
  refine sc (fun hd hdep => ?_) ?_
  ·obtain rfl := j3 (hdep ⟨3, .data⟩ (by simp) rfl)
   obtain rfl := j12 (hdep ⟨12, .data⟩ (by simp) rfl)
   have hcc := Qb hr1; have hff := Qe hr1; have hzz := Qd hr1
   clear hdep
   intro K hK
   (try simp only [Act.put, List.setIfInBounds_toArray, List.set_cons_zero, List.set_cons_succ])
   go_simp
   exact hK.out _ _ ⟨_, x20, x22, x23, x24, _, x26, x27, rfl, fun _ => rfl, j7, j9, j10, j11, fun _ => rfl, j14, j15, jd, ⟨e.a, m', heap_setCell_same v r 2 _ _ (.int .i64 e.a) hr1, fun _ => rfl, jm, jn⟩, Qo he1 (by omega) _, Qo hg1 hgr _, hk1.set (p := ⟨r, 2, none⟩) (.inl (by simp)) _⟩
  refine sc (fun hd hdep => ?_) ?_
  ·clear hdep
   intro K hK
   (try simp only [Act.put, List.setIfInBounds_toArray, List.set_cons_zero, List.set_cons_succ])
   go_simp
   exact hK.out _ _ ⟨x16, x20, x22, x23, x24, x25, _, x27, rfl, j3, j7, j9, j10, j11, j12, fun _ => rfl, j15, jd, ⟨k', m', hr1, jk, jm, jn⟩, he1, hg1, hk1⟩
  refine sc (fun hd hdep => ?_) ?_
  ·obtain rfl := j14 (hdep ⟨14, .data⟩ (by simp) rfl)
   clear hdep
   intro K hK
   (try simp only [Act.put, List.setIfInBounds_toArray, List.set_cons_zero, List.set_cons_succ])
   go_simp
   exact hK.out _ _ ⟨x16, x20, x22, x23, x24, x25, _, _, rfl, j3, j7, j9, j10, j11, j12, fun _ => rfl, fun _ => rfl, jd, ⟨k', m', hr1, jk, jm, jn⟩, he1, hg1, hk1⟩
  refine sc (fun hd hdep => ?_) ?_
  ·have h7 := Qa (hdep ⟨7, .phase⟩ (by simp) rfl)
   obtain rfl := j10 (hdep ⟨10, .data⟩ (by simp) rfl)
   obtain rfl := j15 (hdep ⟨15, .data⟩ (by simp) rfl)
   have hcc := Qb hr1; have hff := Qe hr1; have hzz := Qd hr1
   clear hdep
   intro K hK
   (try simp only [Act.put, List.setIfInBounds_toArray, List.set_cons_zero, List.set_cons_succ])
   go_simp
   exact hK.out _ _ ⟨x16, x20, x22, _, x24, x25, x26, _, rfl, j3, j7, j9, fun _ => rfl, j11, j12, j14, fun _ => rfl, fun _ => h7.out, ⟨k', mx, heap_setCell_same v r 3 _ _ (.int .i64 (mx)) hr1, jk, fun _ => rfl, fun h => by cases h⟩, Qo he1 (by omega) _, Qo hg1 hgr _, hk1.set (p := ⟨r, 3, none⟩) (.inl (by simp)) _⟩
  exact StepAll.nil
 rintro D b1 v hall ⟨x16, x20, x22, x23, x24, x25, x26, x27, rfl, _, _, _, _, _, _, _, _, _, ⟨k', m', hq1, jk, jm, _⟩, hq2, hq3, hk3⟩
 obtain rfl := jk (hall 13 (by simp))
 obtain rfl := jm (hall 16 (by simp))
 clear jk jm
 clear hall
 have HK3 := Qa hk3
 clear hk3
 (try simp only [Act.put, List.setIfInBounds_toArray, List.set_cons_zero, List.set_cons_succ])
 have hc := Qb hq1; have hd := Qb hq2; have hf := Qb hq3
 have HQ := Qa hq1
 have HKn := Qa (fun n => show KeepB w.heap.size [r] w (v.drewN n) from ⟨HK3.out.os, HK3.out.tape, HK3.out.output, HK3.out.size, HK3.out.block⟩)
 have HQn := Qa (fun n => show (v.drewN n).heap[r]? = _ from hq1)
 clear hq1 hq2 hq3
 clear hmx
 cases fb
 ·have h1 := of_decide_eq_false hfb
  clear hfb
  by_cases h2 : (d.length : Int) < e.a
  ·have hdc : decide (e.a > (d.length : Int)) = true := decide_eq_true h2
   have HI := Qa (show RL = [4] by rw [← HRL.out]; exact if_pos (.inr h2))
   clear h1 h2 HRL
   go_upto_region 3 with (fail)
   go_quiet (fail)
   go_wp2
   go_ret
   rw [HI.out]
   exact RulePost.one (HQn.out _) (HKn.out _)
  ·have hdc : decide (e.a > (d.length : Int)) = false := decide_eq_false h2
   have HI := Qa (show RL = [] by rw [← HRL.out]; exact if_neg (fun h => h.elim h1 h2))
   clear h1 h2 HRL
   go_upto_region 3 with (fail)
   go_quiet (fail)
   go_wp2
   go_ret
   rw [HI.out]
   exact RulePost.nil (HQn.out _) (HKn.out _)
 ·have h1 := of_decide_eq_true hfb
  have HI := Qa (show RL = [4] by rw [← HRL.out]; exact if_pos (.inl h1))
  clear h1 HRL hfb
  go_upto_region 3 with (fail)
  go_quiet (fail)
  go_wp2
  go_ret
  rw [HI.out]
  first | exact RulePost.one (HQn.out _) (HKn.out _) | exact RulePost.one HQ.out (HKn.out 0)
theorem Qac {v : World} {b : Nat} {T : TypeId} {c0 c1 c2 c3 c4 c5 : Value} (h : v.heap[b]? = some (.cells #[c0, c1, c2, c3, c4, c5] T (0, 0))) (a0 a1 a2 a3 a4 a5 : Value) : ((((((v.setCell ⟨b, 0, none⟩ a0).setCell ⟨b, 1, none⟩ a1).setCell ⟨b, 2, none⟩ a2).setCell ⟨b, 3, none⟩ a3).setCell ⟨b, 4, none⟩ a4).setCell ⟨b, 5, none⟩ a5).heap[b]? = some (.cells #[a0, a1, a2, a3, a4, a5] T (0, 0)) := by
 replace h : (v.setCell ⟨b, 0, none⟩ a0).heap[b]? = some (.cells #[a0, c1, c2, c3, c4, c5] T (0, 0)) := heap_setCell_same v b 0 _ _ a0 h
 generalize v.setCell ⟨b, 0, none⟩ a0 = v at *
 replace h : (v.setCell ⟨b, 1, none⟩ a1).heap[b]? = some (.cells #[a0, a1, c2, c3, c4, c5] T (0, 0)) := heap_setCell_same v b 1 _ _ a1 h
 generalize v.setCell ⟨b, 1, none⟩ a1 = v at *
 replace h : (v.setCell ⟨b, 2, none⟩ a2).heap[b]? = some (.cells #[a0, a1, a2, c3, c4, c5] T (0, 0)) := heap_setCell_same v b 2 _ _ a2 h
 generalize v.setCell ⟨b, 2, none⟩ a2 = v at *
 replace h : (v.setCell ⟨b, 3, none⟩ a3).heap[b]? = some (.cells #[a0, a1, a2, a3, c4, c5] T (0, 0)) := heap_setCell_same v b 3 _ _ a3 h
 generalize v.setCell ⟨b, 3, none⟩ a3 = v at *
 replace h : (v.setCell ⟨b, 4, none⟩ a4).heap[b]? = some (.cells #[a0, a1, a2, a3, a4, c5] T (0, 0)) := heap_setCell_same v b 4 _ _ a4 h
 generalize v.setCell ⟨b, 4, none⟩ a4 = v at *
 exact heap_setCell_same v b 5 _ _ a5 h
theorem U9 {n : Nat} {w v : World} {b : Nat} (h : Below n w v) (hb : n ≤ b) (a0 a1 a2 a3 a4 a5 : Value) : Below n w ((((((v.setCell ⟨b, 0, none⟩ a0).setCell ⟨b, 1, none⟩ a1).setCell ⟨b, 2, none⟩ a2).setCell ⟨b, 3, none⟩ a3).setCell ⟨b, 4, none⟩ a4).setCell ⟨b, 5, none⟩ a5) :=
 (((((h.setCell (p := ⟨b, 0, none⟩) hb _).setCell (p := ⟨b, 1, none⟩) hb _).setCell (p := ⟨b, 2, none⟩) hb _).setCell (p := ⟨b, 3, none⟩) hb _).setCell (p := ⟨b, 4, none⟩) hb _).setCell (p := ⟨b, 5, none⟩) hb _
def sxZ : Sx := ⟨0, 0, 0, 0, 0, 0⟩
theorem shLook {W : World} {rs : Nat} {L : Lb} (hn : (L.shs.map Sx.id).Nodup) (hm : MapAt W encI rs (shM L.shs)) (k : Int) : (Instr.lookup 139 (.map (some rs)) (.int .i64 k) true).run Tryz.prog W = .ok (.tuple #[sxV ((ZA L.shs k).getD sxZ), .bool (ZA L.shs k).isSome]) W := by
 have h := QF (P := Tryz.prog) (z := sxV sxZ) Tryz.underlying139 keyI (fun w => by kernel_rfl) hm k true
 rw [shM_get L.shs hn] at h
 refine h.trans ?_
 cases ZA L.shs k <;> rfl
theorem RulePost.own {rs : List Int} {k m : Int} {r g B : Nat} {st : Int} {w w' : World} {v : Value} (ho : OwnR w' B 3 1 v (rs.map inRow)) (hr : w'.heap[r]? = some (.cells #[.pointer (some ⟨g, 0, none⟩), .int .i64 (st), .int .i64 (k), .int .i64 (m)] 80)) (hk : KeepB w.heap.size [r] w w') (hB : w.heap.size ≤ B) : RulePost rs k m r g st w (.returned v) w' := ⟨_, rfl, ho.low hB, hr, hk⟩
theorem holderR_err {l : List Lo} {s t : Int} (h : (Zo l s t).2.2 ≠ 0) : (Zo l s t).2.1 = false := by
 unfold Zo at *
 split at h
 ·exact absurd rfl h
 ·rename_i hh
  rw [if_neg hh]
theorem lies_any (L : Lb) (P : Lbp) (d : List De) (da : Option Addr) (dc rs re g r : Nat) (st k m : Int) (e : En) (w : World) (hf : LbFew L) (hn : (L.shs.map Sx.id).Nodup) (hL : LoAt w P.la L.los) (h : AudAt w g L P d da dc rs re) (hr : w.heap[r]? = some (.cells #[.pointer (some ⟨g, 0, none⟩), .int .i64 (st), .int .i64 (k), .int .i64 (m)] 80)) :
  Calls Tryz.prog 63 #[.pointer (some ⟨r, 0, none⟩), .agg #[.int .i64 e.time, .int .i64 e.kind, .int .i64 e.a, .int .i64 e.b, .int .i64 e.c, .int .u64 e.dg]] w (RulePost (match ZA L.shs e.a with | none => [2] | some s => (if s.dg = e.dg then [] else [2]) ++ (if Ub L st e then [] else [3])) k m r g st w) := by
 obtain ⟨wa, wc, ea, ec, sa, sc, la, lc⟩ := P
 have HX := Qa (heap_alloc_new w (.cells #[.int .i64 e.time, .int .i64 e.kind, .int .i64 e.a, .int .i64 e.b, .int .i64 e.c, .int .u64 e.dg] 50))
 have HB := Qa (Qg (w := w) (.cells #[.int .i64 e.time, .int .i64 e.kind, .int .i64 e.a, .int .i64 e.b, .int .i64 e.c, .int .u64 e.dg] 50))
 have HR := Qa (Qj hr (.cells #[.int .i64 e.time, .int .i64 e.kind, .int .i64 e.a, .int .i64 e.b, .int .i64 e.c, .int .u64 e.dg] 50))
 have HG := Qa (Qj h.box (.cells #[.int .i64 e.time, .int .i64 e.kind, .int .i64 e.a, .int .i64 e.b, .int .i64 e.c, .int .u64 e.dg] 50))
 have hrl := Qd hr
 have HSl := Qa (fun V (hV : Below w.heap.size w V) => shLook hn (h.shs.below hV) e.a)
 have HHo := Qa (fun V (hV : Below w.heap.size w V) => PHolder_any la L.los.length lc L.los e.a e.time V rfl (by have := hf.los; omega) (LoAt.below hL hV))
 have hhe := holderR_err (l := L.los) (s := e.a) (t := e.time)
 have hhb : Ub L st e = ((Zo L.los e.a e.time).2.1 && decide ((Zo L.los e.a e.time).1 = st)) := rfl
 have KS := Qa (fun V (hV : Below (w.alloc (.cells #[.int .i64 e.time, .int .i64 e.kind, .int .i64 e.a, .int .i64 e.b, .int .i64 e.c, .int .u64 e.dg] 50)).heap.size (w.alloc (.cells #[.int .i64 e.time, .int .i64 e.kind, .int .i64 e.a, .int .i64 e.b, .int .i64 e.c, .int .u64 e.dg] 50)) V) => show V.heap[r]? = some (.cells #[.pointer (some ⟨g, 0, none⟩), .int .i64 (st), .int .i64 (k), .int .i64 (m)] 80) ∧ V.heap[w.heap.size]? = some (.cells #[.int .i64 e.time, .int .i64 e.kind, .int .i64 e.a, .int .i64 e.b, .int .i64 e.c, .int .u64 e.dg] 50) ∧ V.heap[g]? = some (.cells #[.slice wa L.ws.length wc, .slice ea L.eds.length ec, .slice sa L.shs.length sc, .slice la L.los.length lc, .slice da d.length dc, .map (some rs), .map (some re)] 142) ∧ (Instr.lookup 139 (.map (some rs)) (.int .i64 e.a) true).run Tryz.prog V = .ok (.tuple #[sxV ((ZA L.shs e.a).getD sxZ), .bool (ZA L.shs e.a).isSome]) V from
  ⟨Qc HR.out hV, Qc HX.out hV, Qc HG.out hV, HSl.out V (HB.out.trans (hV.mono HB.out.size))⟩)
 clear hL hn h hr hf HSl
 dsimp only at *
 generalize hRL : (match ZA L.shs e.a with | none => [2] | some s => (if s.dg = e.dg then [] else [2]) ++ (if Ub L st e then [] else [3]) : List Int) = RL
 have HRL := Qa hRL.symm
 clear hRL
 generalize hso : ZA L.shs e.a = so at *
 generalize Zo L.los e.a e.time = R at *
 obtain ⟨hs, hh, he⟩ := R
 dsimp only at *
 go_enter Tryz.func63, Tryz.ntmps63
 go_upto_region 1 with (fail)
 generalize w.alloc (.cells #[.int .i64 e.time, .int .i64 e.kind, .int .i64 e.a, .int .i64 e.b, .int .i64 e.c, .int .u64 e.dg] 50) = W at *
 have HSx : ∃ x : Sx, sxV (so.getD sxZ) = sxV x ∧ (∀ s, so = some s → x = s) := ⟨so.getD sxZ, rfl, fun s hs => by rw [hs]; rfl⟩
 obtain ⟨x, hx1, hx2⟩ := HSx
 rw [hx1] at KS
 have hx3 : sxV x = .agg #[.int .i64 x.id, .int .i64 x.pt, .int .i64 x.ed, .int .i64 x.ver, .int .i64 x.pg, .int .u64 x.dg] := rfl
 rw [hx3] at KS
 clear hx1 hx3
 generalize hok : so.isSome = ok at *
 refine wp_region_held_drew (S := fun V => V.heap[r]? = some (.cells #[.pointer (some ⟨g, 0, none⟩), .int .i64 (st), .int .i64 (k), .int .i64 (m)] 80) ∧ V.heap[w.heap.size]? = some (.cells #[.int .i64 e.time, .int .i64 e.kind, .int .i64 e.a, .int .i64 e.b, .int .i64 e.c, .int .u64 e.dg] 50) ∧ V.heap[g]? = some (.cells #[.slice wa L.ws.length wc, .slice ea L.eds.length ec, .slice sa L.shs.length sc, .slice la L.los.length lc, .slice da d.length dc, .map (some rs), .map (some re)] 142) ∧ (Instr.lookup 139 (.map (some rs)) (.int .i64 e.a) true).run Tryz.prog V = .ok (.tuple #[.agg #[.int .i64 x.id, .int .i64 x.pt, .int .i64 x.ed, .int .i64 x.ver, .int .i64 x.pg, .int .u64 x.dg], .bool ok]) V) (by kernel_rfl) (KS.out _ (Below.refl _ _).drew) (fun hHeld => ?_)
 (refine tq 0 ?_ (y := fun _ hSw => by obtain ⟨y1, y2, y3, y4⟩ := hSw; have hx := Qb y1; have hy := Qb y2; have hz := Qb y3; go_simp; try rfl))
 (refine tq 1 ?_ (y := fun _ hSw => by obtain ⟨y1, y2, y3, y4⟩ := hSw; have hx := Qb y1; have hy := Qb y2; have hz := Qb y3; go_simp; try rfl))
 (refine tq 2 ?_ (y := fun _ hSw => by obtain ⟨y1, y2, y3, y4⟩ := hSw; have hx := Qb y1; have hy := Qb y2; have hz := Qb y3; go_simp; try rfl))
 (refine tq 3 ?_ (y := fun _ hSw => by obtain ⟨y1, y2, y3, y4⟩ := hSw; have hx := Qb y1; have hy := Qb y2; have hz := Qb y3; go_simp; try rfl))
 (refine tq 4 ?_ (y := fun _ hSw => by obtain ⟨y1, y2, y3, y4⟩ := hSw; have hx := Qb y1; have hy := Qb y2; have hz := Qb y3; go_simp; try rfl))
 (refine tq 5 ?_ (y := fun _ hSw => by obtain ⟨y1, y2, y3, y4⟩ := hSw; have hx := Qb y1; have hy := Qb y2; have hz := Qb y3; go_simp; try rfl))
 (refine tq 6 ?_ (y := fun _ hSw => by obtain ⟨y1, y2, y3, y4⟩ := hSw; have hx := Qb y1; have hy := Qb y2; have hz := Qb y3; go_simp; try rfl))
 (refine tq 7 ?_ (y := fun _ hSw => by obtain ⟨y1, y2, y3, y4⟩ := hSw; have hx := Qb y1; have hy := Qb y2; have hz := Qb y3; go_simp; try rfl))
 (refine tq 8 ?_ (y := fun _ hSw => by obtain ⟨y1, y2, y3, y4⟩ := hSw; have hx := Qb y1; have hy := Qb y2; have hz := Qb y3; go_simp; try rfl))
 (refine tq 9 ?_ (y := fun _ hSw => by obtain ⟨y1, y2, y3, y4⟩ := hSw; have hx := Qb y1; have hy := Qb y2; have hz := Qb y3; go_simp; try rfl))
 (refine tq 10 ?_ (y := fun _ hSw => by obtain ⟨y1, y2, y3, y4⟩ := hSw; have hx := Qb y1; have hy := Qb y2; have hz := Qb y3; go_simp; try rfl))
 (refine tq 11 ?_ (y := fun _ hSw => by obtain ⟨y1, y2, y3, y4⟩ := hSw; have hx := Qb y1; have hy := Qb y2; have hz := Qb y3; go_simp; try rfl))
 (refine tq 12 ?_ (y := fun _ hSw => by obtain ⟨y1, y2, y3, y4⟩ := hSw; have hx := Qb y1; have hy := Qb y2; have hz := Qb y3; go_simp; try rfl))
 have hWr := Qd HR.out; have hWx := Qd HX.out
 (refine tc 13 (fun K hK => ?_); go_simp)
 refine hK.out _ _ (KS.out _ ((Below.refl _ _).drew.alloc (Nat.le_refl _) _)) (fun hHeld2 => ?_)
 clear hK K hHeld
 obtain ⟨W1, hW1, hnw⟩ : ∃ W1, (W.alloc (.cells #[.int .i64 0, .int .i64 0, .int .i64 0, .int .i64 0, .int .i64 0, .int .u64 0] 55)).drew = W1 ∧ W1.heap[W.heap.size]? = some (.cells #[.int .i64 0, .int .i64 0, .int .i64 0, .int .i64 0, .int .i64 0, .int .u64 0] 55) := ⟨_, rfl, heap_alloc_new W _⟩
 have hb1 : Below W.heap.size W W1 := by rw [← hW1]; exact ((Below.refl _ _).alloc (Nat.le_refl _) _).drew
 rw [hW1] at hHeld2 ⊢
 clear hW1
 have hcc := Qb hnw; have hff := Qe hnw; have hwz := Qd hnw
 (refine tc 14 (fun K hK => ?_); go_simp)
 have HS1 := Qa (Qac hnw (.int .i64 x.id) (.int .i64 x.pt) (.int .i64 x.ed) (.int .i64 x.ver) (.int .i64 x.pg) (.int .u64 x.dg))
 have HB1 := Qa (U9 hb1 (Nat.le_refl _) (.int .i64 x.id) (.int .i64 x.pt) (.int .i64 x.ed) (.int .i64 x.ver) (.int .i64 x.pg) (.int .u64 x.dg))
 refine hK.out _ _ (KS.out _ HB1.out) (fun hHeld3 => ?_)
 clear hK K hHeld2 hcc hff
 generalize ((((((W1.setCell ⟨W.heap.size, 0, none⟩ (.int .i64 x.id)).setCell ⟨W.heap.size, 1, none⟩ (.int .i64 x.pt)).setCell ⟨W.heap.size, 2, none⟩ (.int .i64 x.ed)).setCell ⟨W.heap.size, 3, none⟩ (.int .i64 x.ver)).setCell ⟨W.heap.size, 4, none⟩ (.int .i64 x.pg)).setCell ⟨W.heap.size, 5, none⟩ (.int .u64 x.dg)) = W2 at *
 (refine tq 15 ?_ (y := fun _ hSw => by go_simp; try rfl))
 refine wpAnyH_done (by kernel_rfl) ?_ _
 have HB2 := Qa (HB.out.trans (HB1.out.mono HB.out.size))
 have HR2 := Qa hHeld3.1; have HX2 := Qa hHeld3.2.1; have HG2 := Qa hHeld3.2.2.1
 have hW2 := Qd HS1.out
 clear hHeld3 HB1 HR HX HG KS hWr hWx hnw hb1 hwz HB
 have hx := Qb HR2.out; have hy := Qb HX2.out; have hz := Qb HG2.out; have hs1 := Qb HS1.out
 cases ok
 ·have HE := Qa (show RL = [2] by rw [HRL.out, show so = none by cases so <;> first | rfl | cases hok])
  clear HRL hx2 hhb hhe hok hso
  go_wp2
  go_ret
  rw [HE.out]
  exact RulePost.one HR2.out (KeepB.of_below' HB2.out)
 obtain ⟨s, rfl⟩ : ∃ s, so = some s := by cases so <;> first | exact ⟨_, rfl⟩ | cases hok
 obtain rfl := hx2 s rfl
 clear hx2 hok hso
 have HE := Qa (show RL = (if x.dg = e.dg then [] else [2]) ++ (if hh && decide (hs = st) then [] else [3]) by rw [HRL.out, hhb])
 clear HRL hhb
 have HO := Qa (OwnR.nil W2 W2.heap.size 3 1)
 have HK := Qa (show Below w.heap.size w W2 ∧ W2.heap.size ≤ W2.heap.size from ⟨HB2.out, Nat.le_refl _⟩)
 have HR := HR2; have HX := HX2; have HG := HG2
 have hlr := Qd HR2.out; have hlx := Qd HX2.out; have hlg := Qd HG2.out
 have HB9 := Qa HB2.out.size
 clear HR2 HX2 HG2 HB2
 by_cases hdg : x.dg = e.dg
 ·have hdb : (x.dg != e.dg) = false := by simp [hdg]
  rw [if_pos hdg, List.nil_append] at HE
  clear hdg hW2
  go_upto_region 7 with (fail)
  (have g0 := cell_regrown (hx 0); have g1 := cell_regrown (hx 1); have g2 := cell_regrown (hy 2); have g3 := cell_regrown (hy 0); have g4 := cell_regrown (hz 3); refine Qn (by kernel_rfl) (by kernel_rfl) ?_; (repeat (go_big_quiet_step (first | (go_at_call 20; refine Calls.regrown_of (HHo.out _ (HK.out.1.trans (by first | exact (below_regrown _ _ _).mono HK.out.1.size | exact (Below.refl _ _)))))))); refine wpQuiet_nil ?_; intro w10 hb; clear g0 g1 g2 g3 g4; replace HR := bk HR hb; replace HO := Qa (HO.out.below hb); replace HK := Qa (⟨HK.out.1.trans (hb.mono HK.out.1.size), Nat.le_trans HK.out.2 hb.size⟩ : Below w.heap.size w w10 ∧ W2.heap.size ≤ w10.heap.size); clear hx hy hz HX HG hb; (try clear hs1); have hx := Qb HR.out)
  go_upto_region 8 with (fail)
  go_cut [65] (fun s V => s = .bool (!(hh && decide (hs = st))) ∧ V = w10)
  case first =>
   by_cases h0 : he = 0
   ·have h1 : (he != 0) = false := by simp [h0]
    clear h0
    cases hh
    ·go_wp2
     go_meet
     case rel => exact ⟨rfl, rfl⟩
    ·have h3 : (hs != st) = !decide (hs = st) := by (by_cases h : hs = st) <;> simp [h]
     cases hq : decide (hs = st) <;> rw [hq] at h3 <;> (go_wp2; go_meet) <;> exact ⟨by rw [hq]; rfl, rfl⟩
   ·have h1 : (he != 0) = true := by simp [h0]
    have h4 := hhe h0
    clear h0
    subst h4
    go_wp2
    go_meet
    case rel => exact ⟨rfl, rfl⟩
  obtain ⟨rfl, hwc⟩ := hcut
  have hw2 := hwc.symm
  subst hw2
  clear hhe
  rcases Bool.eq_false_or_eq_true (hh && decide (hs = st)) with hq | hq
  ·rw [hq, if_pos rfl] at HE
   rw [hq]
   clear hq
   go_wp2
   go_ret
   rw [HE.out]
   exact RulePost.own HO.out HR.out (KeepB.of_below' HK.out.1) HB9.out
  ·rw [hq, if_neg (by decide)] at HE
   rw [hq]
   clear hq
   go_wp2_with ((at_builtin; refine appE eltInD rfl (.tmp 66) (.tmp 67) rfl W2.heap.size _ [] rfl (HO.out.below (Qg _)) _ _ _ [3] rfl rfl (fun e => by cases e) (eltInD.new _ _ _ _ rfl) (by simp) (by have := HK.out.2; simp <;> omega) ?_; intro v5 w5 ho5 hg5; have HO5 := Qa ho5; have HK5 := Qa (⟨(HK.out.1.alloc HK.out.1.size (.cells #[.int .i64 3] 3)).grown hg5 (by have := HK.out.1.size; simp; omega) (fun k e => by have := (HO.out.lt k e).1; omega), by have := HK.out.2; have := hg5.size; simp at this; omega⟩ : Below w.heap.size w w5 ∧ W2.heap.size ≤ w5.heap.size); have HR5 := Qa ((hg5.block r (by have := Qd HR.out; simp; omega) (HO.out.neBlk hlr)).trans (Qj HR.out _))))
   go_ret
   rw [HE.out]
   exact RulePost.own HO5.out HR5.out (KeepB.of_below' HK5.out.1) HB9.out
 ·have hdb : (x.dg != e.dg) = true := by simp [hdg]
  rw [if_neg hdg] at HE
  clear hdg
  go_upto_region 7 with ((at_builtin; refine appE eltInD rfl (.tmp 32) (.tmp 33) rfl W2.heap.size _ [] rfl (HO.out.below (Qg _)) _ _ _ [2] rfl rfl (fun e => by cases e) (eltInD.new _ _ _ _ rfl) (by simp) (by have := HK.out.2; simp <;> omega) ?_; intro v5 w5 ho5 hg5; have HO5 := Qa ho5; have HK5 := Qa (⟨(HK.out.1.alloc HK.out.1.size (.cells #[.int .i64 2] 3)).grown hg5 (by have := HK.out.1.size; simp; omega) (fun k e => by have := (HO.out.lt k e).1; omega), by have := HK.out.2; have := hg5.size; simp at this; omega⟩ : Below w.heap.size w w5 ∧ W2.heap.size ≤ w5.heap.size); have HR5 := Qa ((hg5.block r (by have := Qd HR.out; simp; omega) (HO.out.neBlk hlr)).trans (Qj HR.out _)); have HX5 := Qa ((hg5.block w.heap.size (by simp; omega) (HO.out.neBlk hlx)).trans (Qj HX.out _)); have HG5 := Qa ((hg5.block g (by simp; omega) (HO.out.neBlk hlg)).trans (Qj HG.out _)); clear hs1 hx hy hz ho5 hg5))
  clear HO HK HR HX HG hW2 hdb
  have HO := HO5; have HK := HK5; have HR := HR5; have HX := HX5; have HG := HG5
  clear HO5 HK5 HR5 HX5 HG5
  have hx := Qb HR.out; have hy := Qb HX.out; have hz := Qb HG.out
  (have g0 := cell_regrown (hx 0); have g1 := cell_regrown (hx 1); have g2 := cell_regrown (hy 2); have g3 := cell_regrown (hy 0); have g4 := cell_regrown (hz 3); refine Qn (by kernel_rfl) (by kernel_rfl) ?_; (repeat (go_big_quiet_step (first | (go_at_call 20; refine Calls.regrown_of (HHo.out _ (HK.out.1.trans (by first | exact (below_regrown _ _ _).mono HK.out.1.size | exact (Below.refl _ _)))))))); refine wpQuiet_nil ?_; intro w10 hb; clear g0 g1 g2 g3 g4; replace HR := bk HR hb; replace HO := Qa (HO.out.below hb); replace HK := Qa (⟨HK.out.1.trans (hb.mono HK.out.1.size), Nat.le_trans HK.out.2 hb.size⟩ : Below w.heap.size w w10 ∧ W2.heap.size ≤ w10.heap.size); clear hx hy hz HX HG hb; (try clear hs1); have hx := Qb HR.out)
  go_upto_region 8 with (fail)
  go_cut [65] (fun s V => s = .bool (!(hh && decide (hs = st))) ∧ V = w10)
  case first =>
   by_cases h0 : he = 0
   ·have h1 : (he != 0) = false := by simp [h0]
    clear h0
    cases hh
    ·go_wp2
     go_meet
     case rel => exact ⟨rfl, rfl⟩
    ·have h3 : (hs != st) = !decide (hs = st) := by (by_cases h : hs = st) <;> simp [h]
     cases hq : decide (hs = st) <;> rw [hq] at h3 <;> (go_wp2; go_meet) <;> exact ⟨by rw [hq]; rfl, rfl⟩
   ·have h1 : (he != 0) = true := by simp [h0]
    have h4 := hhe h0
    clear h0
    subst h4
    go_wp2
    go_meet
    case rel => exact ⟨rfl, rfl⟩
  obtain ⟨rfl, hwc⟩ := hcut
  have hw2 := hwc.symm
  subst hw2
  clear hhe
  rcases Bool.eq_false_or_eq_true (hh && decide (hs = st)) with hq | hq
  ·rw [hq, if_pos rfl] at HE
   rw [hq]
   clear hq
   go_wp2
   go_ret
   rw [HE.out]
   exact RulePost.own HO.out HR.out (KeepB.of_below' HK.out.1) HB9.out
  ·rw [hq, if_neg (by decide)] at HE
   rw [hq]
   clear hq
   go_wp2_with ((at_builtin; refine appE eltInD rfl (.tmp 66) (.tmp 67) rfl W2.heap.size _ ([] ++ [2]) rfl (HO.out.below (Qg _)) _ _ _ [3] rfl rfl (fun e => by cases e) (eltInD.new _ _ _ _ rfl) (by simp) (by have := HK.out.2; simp <;> omega) ?_; intro v5 w5 ho5 hg5; have HO5 := Qa ho5; have HK5 := Qa (⟨(HK.out.1.alloc HK.out.1.size (.cells #[.int .i64 3] 3)).grown hg5 (by have := HK.out.1.size; simp; omega) (fun k e => by have := (HO.out.lt k e).1; omega), by have := HK.out.2; have := hg5.size; simp at this; omega⟩ : Below w.heap.size w w5 ∧ W2.heap.size ≤ w5.heap.size); have HR5 := Qa ((hg5.block r (by have := Qd HR.out; simp; omega) (HO.out.neBlk hlr)).trans (Qj HR.out _))))
   go_ret
   rw [HE.out]
   exact RulePost.own HO5.out HR5.out (KeepB.of_below' HK5.out.1) HB9.out
def JU (l : List Sx) (id : Int) : Int := idxO (fun s : Sx => decide (s.id = id)) l
theorem RSheet_any (sa : Option Addr) (sc : Nat) (l : List Sx) (id : Int) (w : World) (hl : l.length ≤ 100000) (hs : SxAt w sa l) :
  Calls Tryz.prog 53 #[.slice sa l.length sc, .int .i64 id] w fun e w' => e = .returned (.int .i64 (JU l id)) ∧ Below w.heap.size w w' := by
 have HS := Qa hs
 clear hs
 go_enter Tryz.func53, Tryz.ntmps53
 go_wp2
 go_loopw [5] (fun i wr => ∃ k : Nat, k ≤ l.length ∧ i = .int .i64 k ∧ (∀ j (hj : j < l.length), j < k → decide (l[j].id = id) = false) ∧ Below w.heap.size w wr) (fun i _ => l.length - (intOf i).toNat)
 case atStart => exact ⟨0, Nat.zero_le _, rfl, fun j hj h => by omega, Below.refl _ _⟩
 case round =>
  obtain ⟨k, hk, rfl, hall, hb⟩ := hrel
  have HA := Qa hall; have HB := Qa hb
  clear hall hb
  by_cases hlt : k < l.length
  ·obtain ⟨b, off, rfl, d0, _⟩ := SxAt.get (SlAt.below HS.out HB.out) k hlt
   have hli : (k : Int) < (l.length : Int) := by omega
   have hwk : IntKind.i64.wrap ((k : Int) + 1) = (k : Int) + 1 := IntWalk.i64_in _ (by omega)
   by_cases hv : l[k].id = id
   ·have HT := Qa (Zv (p := fun y : Sx => decide (y.id = id)) hlt (decide_eq_true hv) HA.out)
    generalize l[k] = x at *
    go_wp2
    go_ret
    exact ⟨QK HT.out.symm, HB.out⟩
   ·have HF := Qa (fun j (hj : j < l.length) (hjk : j < k + 1) => if e : j = k then by subst e; exact decide_eq_false hv else HA.out j hj (by omega) : ∀ j (hj : j < l.length), j < k + 1 → decide (l[j].id = id) = false)
    generalize l[k] = x at *
    go_wp2
    go_roundw
    case rel => exact ⟨k + 1, by omega, by go_num, HF.out, HB.out⟩
    case measure => simp [intOf]; omega
  ·have HT := Qa (Q0 (p := fun y : Sx => decide (y.id = id)) fun j hj => HA.out j hj (by omega))
   go_wp2
   go_ret
   exact ⟨QK HT.out.symm, HB.out⟩
def Y3 (k : Int) (es : List En) : Int := es.foldl Zl k
def J6 (m : Int) (es : List En) : Int := es.foldl Zu m
theorem knowL_snoc (k : Int) (es : List En) (e : En) : Y3 k (es ++ [e]) = Zl (Y3 k es) e := by simp [Y3, List.foldl_append]
end Go.Proofs.YtajijcfikihhjaaGreatDoor
