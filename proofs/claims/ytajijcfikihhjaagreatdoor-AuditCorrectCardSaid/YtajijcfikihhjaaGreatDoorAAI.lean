import Derived.Test.YtajijcfikihhjaaGreatDoorAAH
set_option linter.unusedSimpArgs false
set_option linter.unusedVariables false
set_option maxRecDepth 100000
set_option maxHeartbeats 16000000
namespace Go.Proofs.YtajijcfikihhjaaGreatDoor
open Go.RowKit Go.Sort Go.Shelf
attribute [local go_sem] Oper.semAt_some
theorem Yf {W : World} {a : Option Addr} {sz : Nat} {rows : List (List Value)} {b : Nat} {v0 v : Value} {T : TypeId} (h : SlAt W a sz rows) (hb : W.heap[b]? = some (.cells #[v0] T (0, 0))) (hi : ∀ r ∈ rows, ∃ x, r[0]? = some (.int .i64 x)) (hv : ∀ x, v0 ≠ .int .i64 x) : SlAt (W.setCell ⟨b, 0, none⟩ v) a sz rows := fun i r hr => by
 obtain ⟨b1, off, e, hlt, hl, hc⟩ := h i r hr
 obtain ⟨x, hx⟩ := hi r (List.mem_of_getElem? hr)
 have hne : b1 ≠ b := by
  rintro rfl
  have h0 := hc 0 _ hx
  rw [Qb hb] at h0
  have : off + i * sz + 0 = 0 := by
   obtain ⟨h1, _⟩ := Array.getElem?_eq_some_iff.1 h0
   simp at h1; omega
  rw [this] at h0
  simp at h0
  exact hv x h0
 exact ⟨b1, off, e, by simpa using hlt, hl, fun j u hu => (World.cell?_of_block (w := W) (heap_setCell_other _ _ _ _ (show b1 ≠ b from hne))).trans (hc j u hu)⟩
theorem StAt.setBox {W : World} {s : Nat} {r : Rm} {q : Fp} {oa : Option Addr} {oc : Nat} {wv : Value} {b : Nat} {v0 v : Value} {T : TypeId} (h : StAt W s r q oa oc wv) (hb : W.heap[b]? = some (.cells #[v0] T (0, 0))) (hne : s ≠ b) (hv : ∀ x, v0 ≠ .int .i64 x) : StAt (W.setCell ⟨b, 0, none⟩ v) s r q oa oc wv := by
 have h3 : ∀ l : List R3, ∀ r ∈ l.map R3.cells, ∃ x, r[0]? = some (Value.int .i64 x) := fun l r hr => by obtain ⟨y, _, rfl⟩ := List.mem_map.1 hr; exact ⟨_, rfl⟩
 have h1 : ∀ l : List Int, ∀ r ∈ l.map inRow, ∃ x, r[0]? = some (Value.int .i64 x) := fun l r hr => by obtain ⟨y, _, rfl⟩ := List.mem_map.1 hr; exact ⟨_, rfl⟩
 exact ⟨(heap_setCell_other _ _ _ _ hne).trans h.box, ⟨Yf h.form.reps hb (h3 _) hv, Yf h.form.ends hb (h3 _) hv, Yf h.form.cuts hb (h3 _) hv, h.form.okr, h.form.oke, h.form.okc⟩, Yf h.oss hb (h1 _) hv, h.oko, h.nef, h.neo⟩
theorem Ja {r : Rm} {p : Fo × Int} (h : (reform r p).2 ≠ 0) : (reform r p).1 = r := by
 unfold reform at *
 split at h
 ·exact absurd rfl h
 ·rename_i hp; rw [if_neg hp]
theorem doR_err {l : List Wk} {r : Rm} {x : De} (h : (doR l r x).2 ≠ 0) : (doR l r x).1 = r := by
 unfold doR at *
 by_cases k1 : x.kind = 1
 ·rw [if_pos k1] at *
  unfold verR at *
  split at h
  ·rename_i hc; rw [if_pos hc]
  ·rename_i hc
   rw [if_neg hc]
   cases hf : Zk l x.a with
   | none => rfl
   | some y => rw [hf] at h; exact absurd rfl h
 rw [if_neg k1] at *
 by_cases k2 : x.kind = 2
 ·rw [if_pos k2] at *; exact Ja h
 rw [if_neg k2] at *
 by_cases k3 : x.kind = 3
 ·rw [if_pos k3] at *; exact Ja h
 rw [if_neg k3] at *
 by_cases k4 : x.kind = 4
 ·rw [if_pos k4] at *
  by_cases hc : x.c ≠ 0
  ·rw [if_pos hc]
  ·rw [if_neg hc] at *; exact Ja h
 rw [if_neg k4] at *
 by_cases k5 : x.kind = 5
 ·rw [if_pos k5] at *
  unfold ossR at *
  split at h
  ·rename_i hc; rw [if_pos hc]
  ·rename_i hc
   rw [if_neg hc]
   split at h
   ·rename_i hc2; rw [if_pos hc2]
   ·exact absurd rfl h
 ·rw [if_neg k5]
theorem Qba (wa : Option Addr) (wc : Nat) (l : List (Wk × Wp)) (da : Option Addr) (dc : Nat) (d : List De) (known time : Int) (w : World) (hl : 0 < l.length) (hl2 : l.length ≤ 1000) (hfew : ∀ y ∈ l, FoFew y.1.f) (hw : WsAt w wa l) (hdl : d.length ≤ 1000) (hd : DeAt w da d) :
  Calls Tryz.prog 88 #[.slice wa l.length wc, .slice da d.length dc, .int .i64 known, .int .i64 time] w fun e w' => ∃ s q oa oc, e = .returned (.tuple #[.pointer (some ⟨s, 0, none⟩), .bool (decide ((runR (Qk l) (Qx (Qk l)) (upD known time d)).2 = 0))]) ∧ StAt w' s (runR (Qk l) (Qx (Qk l)) (upD known time d)).1 q oa oc (.slice wa l.length wc) ∧ Below w.heap.size w w' ∧ w.heap.size ≤ s := by
 obtain ⟨L, hL⟩ : ∃ L, Qk l = L := ⟨_, rfl⟩
 rw [hL]
 refine (callsIn_wide (n := 6)).1 ?_
 refine callsIn_of_wp_marks Tryz.func88 rfl trivial ?_ rfl
 simp only [Tryz.ntmps88, List.size_toArray, List.length_cons, List.length_nil, Nat.reduceAdd, Nat.reduceSub, Array.replicate_succ, Array.replicate_zero, List.push_toArray, List.append_toArray, List.nil_append, List.cons_append]
 have hfew' : ∀ y ∈ Qk l, FoFew y.f := fun y hy => by
  obtain ⟨z, hz, rfl⟩ := List.mem_map.1 hy
  exact hfew z hz
 obtain ⟨x1, x2, hb⟩ := box2 (w := w) (A := .cells #[.pointer none] 174) (B := .cells #[.bool false] 4) (Below.refl _ _)
 have HNS := Qa (newState_any wa wc l _ hl hfew (hw.below hb))
 have hW2 : ((w.alloc (.cells #[.pointer none] 174)).alloc (.cells #[.bool false] 4)).heap.size = w.heap.size + 1 + 1 := by simp
 generalize hWe : (w.alloc (.cells #[.pointer none] 174)).alloc (.cells #[.bool false] 4) = W at *
 gi_wp2_with (gi_at_call 125; fail)
 refine ⟨trivial, (callsIn_wide.2 HNS.out).mono ?_⟩
 rintro e w3 ⟨q3, rfl, hs3, hb3⟩
 rw [hW2] at hs3 hb3
 have hs3l := Qd hs3.box
 gi_wp2_with (gi_at_call 126; fail)
 refine ⟨trivial, (callsIn_wide.2 (dUntil_any _ _ _ _ _ _)).mono ?_⟩
 rintro e w' ⟨rfl, rfl⟩
 obtain ⟨w5, hw5⟩ : ∃ w5, w5 = (((w3.alloc (.cells #[.pointer (some ⟨w.heap.size + 1 + 1, 0, none⟩)] 174)).alloc (.cells #[.slice da d.length dc] 28)).alloc (.cells #[.int .i64 known] 3)).alloc (.cells #[.int .i64 time] 3) := ⟨_, rfl⟩
 have hsz : w5.heap.size = w3.heap.size + 4 := by rw [hw5]; simp
 have hb35 : Below w3.heap.size w3 w5 := by rw [hw5]; exact ((((Below.refl _ w3).alloc (Nat.le_refl _) _).alloc (by simp) _).alloc (by simp; omega) _).alloc (by simp; omega) _
 have k0 : w5.heap[w3.heap.size]? = some (.cells #[.pointer (some ⟨w.heap.size + 1 + 1, 0, none⟩)] 174) := by rw [hw5]; exact Qj (Qj (Qj (heap_alloc_new w3 _) _) _) _
 have k1 : w5.heap[w3.heap.size + 1]? = some (.cells #[.slice da d.length dc] 28) := by rw [hw5]; exact Qj (Qj (QJ _ _ (by simp)) _) _
 have k2 : w5.heap[w3.heap.size + 1 + 1]? = some (.cells #[.int .i64 known] 3) := by rw [hw5]; exact Qj (QJ _ _ (by simp)) _
 have k3 : w5.heap[w3.heap.size + 1 + 1 + 1]? = some (.cells #[.int .i64 time] 3) := by rw [hw5]; exact QJ _ _ (by simp)
 try rw [← hw5]
 clear hw5
 gi_wp2
 have y1 : w5.heap[w.heap.size]? = some (.cells #[.pointer none] 174) := (hb35.block _ (by have := hb3.size; omega)).trans ((hb3.block _ (by omega)).trans x1)
 have y2 : w5.heap[w.heap.size + 1]? = some (.cells #[.bool false] 4) := (hb35.block _ (by have := hb3.size; omega)).trans ((hb3.block _ (by omega)).trans x2)
 have HS5 := Qa (hs3.below hb35)
 have HB5 := Qa (hb.trans ((hb3.trans (hb35.mono (by have := hb3.size; omega))).mono (by omega)))
 have hz3 : w.heap.size + 1 + 1 ≤ w3.heap.size := by have := hb3.size; omega
 have hdl2 : d.length ≤ 1000000 := by omega
 clear hs3 hb3 hb35 x1 x2 hb HNS
 rw [hL] at HS5 hfew'
 refine wpIn_rangeFunc_ownH (α := De) rfl (by omega) (gf := 159) (lb := #[.pointer (some ⟨w3.heap.size + 1, 0, none⟩), .pointer (some ⟨w3.heap.size + 1 + 1, 0, none⟩), .pointer (some ⟨w3.heap.size + 1 + 1 + 1, 0, none⟩)]) rfl trivial (enters_of Tryz.func159 (by kernel_rfl) rfl)
  (encs := UI) (Kp := Kept2 w5.heap.size (w.heap.size + 1 + 1) (w.heap.size + 1 + 1)) (S := fun xs => xs = upD known time d) (Sp := fun pre => pre <+: upD known time d) (N := d.length) (w0 := w5) ?hseq Kept2.trans ?hKb (Below.refl _ _) (fun _ => rfl)
  (fun pre V => (runR L (Qx L) pre).2 = 0 ∧ (∃ q oa oc, StAt V (w.heap.size + 1 + 1) (runR L (Qx L) pre).1 q oa oc (.slice wa l.length wc)) ∧ V.heap[w.heap.size]? = some (.cells #[.pointer none] 174) ∧ V.heap[w.heap.size + 1]? = some (.cells #[.bool false] 4) ∧ V.heap[w3.heap.size]? = some (.cells #[.pointer (some ⟨w.heap.size + 1 + 1, 0, none⟩)] 174) ∧ Below w.heap.size w V ∧ w5.heap.size ≤ V.heap.size)
  (fun c pre V => c = .ret ∧ (runR L (Qx L) pre).2 ≠ 0 ∧ (∃ q oa oc, StAt V (w.heap.size + 1 + 1) (runR L (Qx L) pre).1 q oa oc (.slice wa l.length wc)) ∧ V.heap[w.heap.size]? = some (.cells #[.pointer (some ⟨w.heap.size + 1 + 1, 0, none⟩)] 174) ∧ V.heap[w.heap.size + 1]? = some (.cells #[.bool false] 4) ∧ Below w.heap.size w V ∧ w5.heap.size ≤ V.heap.size) ?hI ?hIx ⟨rfl, ⟨q3, none, 0, HS5.out⟩, y1, y2, k0, HB5.out, Nat.le_refl _⟩
  (fun x a' V => ∃ Bx, w5.heap.size ≤ Bx ∧ V.heap[Bx]? = some (.cells #[.int .i64 x.num, .int .i64 x.time, .int .i64 x.kind, .int .i64 x.a, .int .i64 x.b, .int .i64 x.c] 207) ∧ a' = { tmps := #[.slice wa l.length wc, .slice da d.length dc, .int .i64 known, .int .i64 time, undef, undef, undef, undef, .pointer (some ⟨w.heap.size, 0, none⟩), .pointer (some ⟨w.heap.size + 1, 0, none⟩), .pointer (some ⟨w3.heap.size, 0, none⟩), .pointer (some ⟨Bx, 0, none⟩), .slice wa l.length wc, .pointer (some ⟨w.heap.size + 1 + 1, 0, none⟩), .slice da d.length dc, .int .i64 known, .int .i64 time, .func (.func 159) #[] #[.pointer (some ⟨w3.heap.size + 1, 0, none⟩), .pointer (some ⟨w3.heap.size + 1 + 1, 0, none⟩), .pointer (some ⟨w3.heap.size + 1 + 1 + 1, 0, none⟩)], .agg #[.int .i64 x.num, .int .i64 x.time, .int .i64 x.kind, .int .i64 x.a, .int .i64 x.b, .int .i64 x.c], undef, undef, undef, undef, undef, undef], defers := [] })
  ?hAx ?hassign ?hbody ?hdone ?hstop
 case hseq =>
  intro l0 J Jx V hV hJ _ hY h0
  have hfar : FarAt V w5.heap.size (w.heap.size + 1 + 1) (w.heap.size + 1 + 1) da 6 (d.map Ul) := by
   refine ⟨SlAt.below (SlAt.below hd HB5.out) hV, fun q hq hne => ?_⟩
   obtain ⟨r0, rs, e⟩ := List.exists_cons_of_ne_nil hne
   obtain ⟨b0, o0, e0, h0, _⟩ := hd 0 r0 (by rw [e]; rfl)
   rw [hq] at e0; cases e0
   exact ⟨by show b0 < _; omega, by show b0 ≠ _; omega, by show b0 ≠ _; omega⟩
  exact dUntil1_in Fence.wide 5 trivial rfl (by omega) l0 _ _ _ w5.heap.size (w.heap.size + 1 + 1) (w.heap.size + 1 + 1) da dc d known time J Jx V hdl2 hV.size (Qc k1 hV) (Qc k2 hV) (Qc k3 hV) ⟨by omega, by omega, by omega⟩ ⟨by omega, by omega, by omega⟩ hfar hJ hY h0
 case hKb =>
  intro V l0 o o' hl0 hV _ _
  exact (Kept2.refl _ _ _ _).trans ⟨by simp, fun k hk _ _ => World.putObj_heap_other (by omega)⟩
 case hI =>
  rintro s V V' row ⟨i0, ⟨q, oa, oc, i1⟩, i2, i3, i4, i5, i6⟩ hg hrow
  exact ⟨i0, ⟨q, oa, oc, i1.keptRow hg (fun r e => (hrow r e).2)⟩, ZW i2 hg hrow (by omega), ZW i3 hg hrow (by omega), ZW i4 hg hrow (by omega), i5.grown hg i5.size (fun k e => by have := (hrow k e).1; omega), Nat.le_trans i6 hg.size⟩
 case hIx =>
  rintro c s V V' row ⟨ic, i0, ⟨q, oa, oc, i1⟩, i2, i3, i5, i6⟩ hg hrow
  exact ⟨ic, i0, ⟨q, oa, oc, i1.keptRow hg (fun r e => (hrow r e).2)⟩, ZW i2 hg hrow (by omega), ZW i3 hg hrow (by omega), i5.grown hg i5.size (fun k e => by have := (hrow k e).1; omega), Nat.le_trans i6 hg.size⟩
 case hAx =>
  rintro x a' s V V' row ⟨Bx, h1, h2, h3⟩ hg hrow
  refine ⟨Bx, h1, (hg.block _ (lt_of_block h2) (fun e => ?_)).trans h2, h3⟩
  obtain ⟨_, o, ho, hc⟩ := hrow Bx e.symm
  rw [h2] at ho; cases ho; cases hc
 case hassign =>
  rintro l0 pre x V K ⟨i0, ⟨q, oa, oc, i1⟩, i2, i3, i4, i5, i6⟩ hK
  gi_wp2
  exact hK _ _ ((KeepsOthers.alloc _ _).from _) ((Kept2.refl _ _ _ _).alloc i6 _) ⟨i0, ⟨q, oa, oc, i1.below (Qg _)⟩, Qj i2 _, Qj i3 _, Qj i4 _, i5.alloc i5.size _, by simp; omega⟩ ⟨V.heap.size, i6, heap_alloc_new _ _, rfl⟩
 case hbody =>
  rintro l0 pre x a' V hl0 ⟨r, hr0⟩ ⟨i0, ⟨q, oa, oc, i1⟩, i2, i3, i4, i5, i6⟩ ⟨Bx, hBx, hbx, rfl⟩ hlt
  have c4 := Qb i4
  have cx := Qb hbx
  have HOK := Qa (RmOk.run hfew' pre (RmOk.first hfew'))
  have HSn := Qa (YN L pre [x] (Qx L))
  rw [if_pos i0] at HSn
  have HD := Qa (do_any (w.heap.size + 1 + 1) x (runR L (Qx L) pre).1 q oa oc wa wc l w V hw i5 hl2 hfew HOK.out i1)
  rw [hL] at HD
  generalize runR L (Qx L) pre = R0 at *
  obtain ⟨r0, e0⟩ := R0
  dsimp only at *
  subst i0
  clear i1
  have HR1 := Qa (show runR L r0 [x] = if (doR L r0 x).2 = 0 then ((doR L r0 x).1, 0) else (r0, (doR L r0 x).2) from rfl)
  have HE := Qa (fun h : (doR L r0 x).2 ≠ 0 => doR_err h)
  generalize doR L r0 x = p at *
  obtain ⟨r1, e1⟩ := p
  dsimp only at *
  gi_wp2_with (gi_at_call 127; fail)
  refine ⟨trivial, ?_⟩
  refine (CallsIn.inRound l0 (callsIn_wide.2 HD.out)).mono ?_
  rintro e W3 ⟨rfl, q4, oa4, oc4, hs4, hk4⟩
  have ks : ∀ {k : Nat} {o : Obj}, k ≠ w.heap.size + 1 + 1 → V.heap[k]? = some o → W3.heap[k]? = some o := fun hk h0 => (hk4.block _ (Qd h0) (by rw [List.mem_singleton]; exact hk)).trans h0
  have i2 := ks (by omega) i2; have i3 := ks (by omega) i3; have i4 := ks (by omega) i4
  have i5 : Below w.heap.size w W3 := i5.trans ⟨hk4.os, hk4.tape, hk4.output, hk4.size, fun k hk => hk4.block k (by have := i5.size; omega) (by rw [List.mem_singleton]; omega)⟩
  have i6 : w5.heap.size ≤ W3.heap.size := Nat.le_trans i6 hk4.size
  have c4 := Qb i4
  by_cases he : e1 = 0
  ·subst he
   gi_wp2
   refine ⟨⟨hk4.size, fun k o hk h0 ho => ks (by omega) h0⟩, ⟨hk4.size, fun k hk ha hb => hk4.block k (by omega) (by rw [List.mem_singleton]; exact ha)⟩, ?_, ⟨q4, oa4, oc4, ?_⟩, i2, i3, i4, i5, i6⟩
   ·rw [HSn.out, HR1.out]; rfl
   ·rw [HSn.out, HR1.out]; exact hs4
  ·have hr1 : r1 = r0 := HE.out he
   subst hr1
   have f2 := Qe i2; have f3 := Qe i3; have z2 := Qd i2; have z3 := Qd i3; have c2 := Qb i2; have c3 := Qb i3
   gi_wp2
   have j3 : (W3.setCell ⟨w.heap.size, 0, none⟩ (.pointer (some ⟨w.heap.size + 1 + 1, 0, none⟩))).heap[w.heap.size + 1]? = some (.cells #[.bool false] 4) := (heap_setCell_other _ _ _ _ (show w.heap.size + 1 ≠ w.heap.size by omega)).trans i3
   refine ⟨⟨by simp; exact hk4.size, fun k o hk h0 ho => (heap_setCell_other _ _ _ _ (show k ≠ w.heap.size + 1 by omega)).trans ((heap_setCell_other _ _ _ _ (show k ≠ w.heap.size by omega)).trans (ks (by omega) h0))⟩, rfl, ?_, ⟨q4, oa4, oc4, ?_⟩, ?_, ?_, ?_, ?_⟩
   ·rw [HSn.out, HR1.out, if_neg he]; exact he
   ·rw [HSn.out, HR1.out, if_neg he]
    exact (hs4.setBox i2 (by omega) (fun x e => by cases e)).setBox j3 (by omega) (fun x e => by cases e)
   ·exact (heap_setCell_other _ _ _ _ (show w.heap.size ≠ w.heap.size + 1 by omega)).trans (heap_setCell_same _ _ _ _ _ _ i2)
   ·exact heap_setCell_same _ _ _ _ _ _ j3
   ·exact (i5.setCell (p := ⟨w.heap.size, 0, none⟩) (Nat.le_refl _) _).setCell (p := ⟨w.heap.size + 1, 0, none⟩) (by show w.heap.size ≤ w.heap.size + 1; omega) _
   ·simpa using i6
 case hdone =>
  rintro D xs V hD rfl ⟨i0, ⟨q, oa, oc, i1⟩, i2, i3, i4, i5, i6⟩ hK
  have c4 := Qb i4
  have f2 := Qe i2; have f3 := Qe i3; have z2 := Qd i2; have z3 := Qd i3; have c2 := Qb i2; have c3 := Qb i3
  have HS1 := Qa i1
  clear i1
  gi_wp2
  have hK1 := (KeepsOthers.setCell V ⟨w.heap.size, 0, none⟩ (.pointer (some ⟨w.heap.size + 1 + 1, 0, none⟩))).same D _ hK rfl
  have hK2 := (KeepsOthers.setCell (V.setCell ⟨w.heap.size, 0, none⟩ (.pointer (some ⟨w.heap.size + 1 + 1, 0, none⟩))) ⟨w.heap.size + 1, 0, none⟩ (.bool true)).same D _ hK1 rfl
  have q1 := heap_setCell_same V w.heap.size 0 _ _ (.pointer (some ⟨w.heap.size + 1 + 1, 0, none⟩)) i2
  have j3 : (V.setCell ⟨w.heap.size, 0, none⟩ (.pointer (some ⟨w.heap.size + 1 + 1, 0, none⟩))).heap[w.heap.size + 1]? = some (.cells #[.bool false] 4) := (heap_setCell_other _ _ _ _ (show w.heap.size + 1 ≠ w.heap.size by omega)).trans i3
  have q2 := heap_setCell_same _ (w.heap.size + 1) 0 _ _ (.bool true) j3
  have q1' : ((V.setCell ⟨w.heap.size, 0, none⟩ (.pointer (some ⟨w.heap.size + 1 + 1, 0, none⟩))).setCell ⟨w.heap.size + 1, 0, none⟩ (.bool true)).heap[w.heap.size]? = _ := (heap_setCell_other _ _ _ _ (show w.heap.size ≠ w.heap.size + 1 by omega)).trans q1
  have S2 := (HS1.out.setBox (v := .pointer (some ⟨w.heap.size + 1 + 1, 0, none⟩)) i2 (by omega) (fun x e => by cases e)).setBox (v := .bool true) j3 (by omega) (fun x e => by cases e)
  have B2 := (i5.setCell (p := ⟨w.heap.size, 0, none⟩) (Nat.le_refl _) (.pointer (some ⟨w.heap.size + 1 + 1, 0, none⟩))).setCell (p := ⟨w.heap.size + 1, 0, none⟩) (by show w.heap.size ≤ w.heap.size + 1; omega) (.bool true)
  generalize (V.setCell ⟨w.heap.size, 0, none⟩ (.pointer (some ⟨w.heap.size + 1 + 1, 0, none⟩))).setCell ⟨w.heap.size + 1, 0, none⟩ (.bool true) = V2 at *
  refine ⟨by simp, .inl ⟨_, _, rfl, run_takeDeferred hK2, ?_⟩⟩
  have r1 := Qb ((World.putObj_heap_other (w := V2) (r := D) (o := .deferred none) (k := w.heap.size) (by omega)).trans q1')
  have r2 := Qb ((World.putObj_heap_other (w := V2) (r := D) (o := .deferred none) (k := w.heap.size + 1) (by omega)).trans q2)
  refine ⟨.tuple #[.pointer (some ⟨w.heap.size + 1 + 1, 0, none⟩), .bool true], by simp [results, Tryz.results88, go_sem, r1, r2], w.heap.size + 1 + 1, q, oa, oc, by rw [i0]; rfl, S2.keptRow (grownBy_putObj' _ D _) (fun r e => by cases e; exact ⟨_, hK2, rfl⟩), B2.grown (grownBy_putObj' _ D _) B2.size (fun k e => by cases e; omega), by omega⟩
 case hstop =>
  rintro D c pre V hD hpre ⟨rfl, i0, ⟨q, oa, oc, i1⟩, i2, i3, i5, i6⟩ hK2
  obtain ⟨rest, hrest⟩ := hpre
  have hrun : runR L (Qx L) (upD known time d) = runR L (Qx L) pre := by rw [← hrest, YN, if_neg i0]
  gi_wp2
  refine ⟨by simp, .inl ⟨_, _, rfl, run_takeDeferred hK2, ?_⟩⟩
  have r1 := Qb ((World.putObj_heap_other (w := V) (r := D) (o := .deferred none) (k := w.heap.size) (by omega)).trans i2)
  have r2 := Qb ((World.putObj_heap_other (w := V) (r := D) (o := .deferred none) (k := w.heap.size + 1) (by omega)).trans i3)
  refine ⟨.tuple #[.pointer (some ⟨w.heap.size + 1 + 1, 0, none⟩), .bool false], by simp [results, Tryz.results88, go_sem, r1, r2], w.heap.size + 1 + 1, q, oa, oc, by rw [hrun, decide_eq_false i0], ?_, i5.grown (grownBy_putObj' _ D _) i5.size (fun k e => by cases e; omega), by omega⟩
  rw [hrun]
  exact i1.keptRow (grownBy_putObj' _ D _) (fun r e => by cases e; exact ⟨_, hK2, rfl⟩)
theorem Qav (n : Int) (w : World) : Calls Tryz.prog 87 #[.int .i64 n] w fun e w' => e = .returned (.bool (decide (0 ≤ n) && decide (n ≤ 1000000000))) ∧ w' = w := by
 go_enter Tryz.func87, Tryz.ntmps87
 go_wp2
 all_goals (go_ret; exact ⟨by simp [*] <;> omega, rfl⟩)
theorem worksC_drop {l : List (Wk × Wp)} {k : Nat} (h : k < l.length) (last : Int) : Zr last ((Qk l).drop k) = (!badW last l[k].1 && Zr l[k].1.ver ((Qk l).drop (k + 1))) := by
 unfold Qk
 rw [List.drop_eq_getElem_cons (by simpa using h)]
 simp only [List.getElem_map, Zr]
theorem areWorks_any (wa : Option Addr) (wc : Nat) (l : List (Wk × Wp)) (w : World) (hl : l.length ≤ 1000) (hfew : ∀ y ∈ l, FoFew y.1.f) (hw : WsAt w wa l) :
  Calls Tryz.prog 124 #[.slice wa l.length wc] w fun e w' => e = .returned (.bool (Q6 (Qk l))) ∧ Below w.heap.size w w' := by
 have HW := Qa hw
 clear hw
 go_enter Tryz.func124, Tryz.ntmps124
 go_wp2
 go_loopw [3, 8] (fun t3 t8 wr => ∃ (k : Nat) (last : Int), k ≤ l.length ∧ t8 = .int .i64 k ∧ t3 = .int .i64 last ∧ Hid (Zr 0 (Qk l) = Zr last ((Qk l).drop k)) ∧ Below w.heap.size w wr) (fun _ t8 _ => l.length - (intOf t8).toNat)
 case atStart => exact ⟨0, 0, Nat.zero_le _, rfl, rfl, Qa rfl, Below.refl _ _⟩
 case round =>
  obtain ⟨k, last, hk, rfl, rfl, HC, hb⟩ := hrel
  have HB := Qa hb
  clear hb
  by_cases hlt : k < l.length
  ·have hws := HW.out.below HB.out
   obtain ⟨b, off, ea, _, d0, d1, d2, d3, d4, d5, d6, d7, d8, d9, d10, d11⟩ := WlAt.get hws.rows k hlt
   have hxm := List.getElem_mem hlt
   have HV := Qa (fun V (hV : Below wr.heap.size wr V) => Z7 l[k].1.f l[k].2.q V (hfew _ hxm) ((hws.forms _ hxm).below hV))
   have HC2 := Qa (HC.out.trans (worksC_drop hlt last))
   have hki : (k : Int) < (l.length : Int) := by omega
   have hwk : IntKind.i64.wrap ((k : Int) + 1) = (k : Int) + 1 := IntWalk.i64_in _ (by omega)
   subst ea
   clear hws HC hxm
   have hoks : Zr 0 (Qk l) = false → Q6 (Qk l) = false := fun h => by unfold Q6; rw [h]; rfl
   have HX := Qa (heap_alloc_new wr (.cells #[.int .i64 (l[k].1).ver, .slice (l[k].2).ab (l[k].1).bars.length (l[k].2).cb, .slice (l[k].2).ap (l[k].2).np (l[k].2).cp, .slice (l[k].2).an (l[k].2).nn (l[k].2).cn, .int .i64 (l[k].1).f.bars, .slice (l[k].2).q.ra (l[k].1).f.reps.length (l[k].2).q.rc, .slice (l[k].2).q.ea (l[k].1).f.ends.length (l[k].2).q.ec, .int .i64 (l[k].1).f.jump.x, .int .i64 (l[k].1).f.jump.y, .int .i64 (l[k].1).f.jump.z, .slice (l[k].2).q.ca (l[k].1).f.cuts.length (l[k].2).q.cc, .slice (l[k].2).ta (l[k].2).tn (l[k].2).tc] 112))
   have HB4 := Qa (Qg (w := wr) (.cells #[.int .i64 (l[k].1).ver, .slice (l[k].2).ab (l[k].1).bars.length (l[k].2).cb, .slice (l[k].2).ap (l[k].2).np (l[k].2).cp, .slice (l[k].2).an (l[k].2).nn (l[k].2).cn, .int .i64 (l[k].1).f.bars, .slice (l[k].2).q.ra (l[k].1).f.reps.length (l[k].2).q.rc, .slice (l[k].2).q.ea (l[k].1).f.ends.length (l[k].2).q.ec, .int .i64 (l[k].1).f.jump.x, .int .i64 (l[k].1).f.jump.y, .int .i64 (l[k].1).f.jump.z, .slice (l[k].2).q.ca (l[k].1).f.cuts.length (l[k].2).q.cc, .slice (l[k].2).ta (l[k].2).tn (l[k].2).tc] 112))
   generalize hx : l[k] = x at *
   obtain ⟨x, p⟩ := x
   dsimp only at *
   clear hx
   go_upto_region 5 with (fail)
   generalize wr.alloc (.cells #[.int .i64 x.ver, .slice p.ab x.bars.length p.cb, .slice p.ap p.np p.cp, .slice p.an p.nn p.cn, .int .i64 x.f.bars, .slice p.q.ra x.f.reps.length p.q.rc, .slice p.q.ea x.f.ends.length p.q.ec, .int .i64 x.f.jump.x, .int .i64 x.f.jump.y, .int .i64 x.f.jump.z, .slice p.q.ca x.f.cuts.length p.q.cc, .slice p.ta p.tn p.tc] 112) = W at *
   have hc := Qb HX.out
   clear d0 d1 d2 d3 d4 d5 d6 d7 d8 d9 d10 d11
   by_cases c1 : x.ver ≤ last
   ·have hF := hoks (by rw [HC2.out]; unfold badW; rw [decide_eq_true c1]; rfl)
    go_wp2
    go_ret
    exact ⟨Qf (by first | exact hF.symm | rfl), HB.out.trans (HB4.out.mono HB.out.size)⟩
   by_cases c2 : 1000000 < x.ver
   ·have hF := hoks (by rw [HC2.out]; unfold badW; rw [decide_eq_true c2]; simp)
    go_wp2
    go_ret
    exact ⟨Qf (by first | exact hF.symm | rfl), HB.out.trans (HB4.out.mono HB.out.size)⟩
   by_cases c3 : ¬ x.f.bars = (x.bars.length : Int)
   ·have hF := hoks (by rw [HC2.out]; unfold badW; rw [decide_eq_true c3]; simp)
    go_wp2
    go_ret
    exact ⟨Qf (by first | exact hF.symm | rfl), HB.out.trans (HB4.out.mono HB.out.size)⟩
   have c3 : x.f.bars = (x.bars.length : Int) := by omega
   have hne3 : (x.f.bars != (x.bars.length : Int)) = false := by simp [c3]
   have hnd3 : decide (x.f.bars ≠ (x.bars.length : Int)) = false := by simp [c3]
   clear c3
   have HN3 := Qa hnd3
   clear hnd3
   have HV4 := Qa (HV.out W HB4.out)
   cases hv : Qy x.f
   ·have hF := hoks (by rw [HC2.out]; unfold badW; rw [hv]; simp)
    rw [hv] at HV4
    go_wp2_with (go_at_call 89; refine HV4.out.mono ?_; rintro e w6 ⟨rfl, hb6⟩; have HB6 := bu HB4 hb6; clear hb6)
    go_ret
    exact ⟨Qf (by first | exact hF.symm | rfl), HB.out.trans (HB6.out.mono HB.out.size)⟩
   ·rw [hv] at HV4
    have HC3 := Qa (show Zr 0 (Qk l) = Zr x.ver ((Qk l).drop (k + 1)) by rw [HC2.out]; unfold badW; rw [hv, decide_eq_false c1, decide_eq_false c2, HN3.out]; simp)
    clear HC2 hoks hv
    go_wp2_with (go_at_call 89; refine HV4.out.mono ?_; rintro e w6 ⟨rfl, hb6⟩; have HB6 := bu HB4 hb6; have HX6 := bk HX hb6; clear hb6 hc; have hc := Qb HX6.out)
    exact ⟨⟨k + 1, x.ver, by omega, by go_num, rfl, HC3, HB.out.trans (HB6.out.mono HB.out.size)⟩, by simp [intOf]; omega⟩
  ·obtain rfl : k = l.length := by omega
   have HC1 := Qa (show Zr 0 (Qk l) = true by rw [HC.out, List.drop_eq_nil_of_le (by simp [Qk])]; rfl)
   have hlen : (Qk l).length = l.length := by simp [Qk]
   have HF := Qa (show Q6 (Qk l) = (decide (1 ≤ l.length) && decide (l.length ≤ 100)) by unfold Q6; rw [HC1.out, hlen]; rfl)
   clear HC HC1
   go_wp2
   all_goals go_ret
   all_goals exact ⟨Qf (by rw [HF.out]; exact (by first | (simp [*]; done) | (simp [*]; omega) | (rw [Bool.eq_iff_iff]; simp [*]; done) | (rw [Bool.eq_iff_iff]; simp [*]; omega) | (rw [Bool.eq_iff_iff]; simp [*] <;> omega))), HB.out⟩
theorem numsC_drop {l : List De} {k : Nat} (h : k < l.length) (last : Int) : Zq k last (l.drop k) = (!badD k last l[k] && Zq (k + 1) l[k].time (l.drop (k + 1))) := by
 rw [List.drop_eq_getElem_cons h]; rfl
theorem numsC_all : ∀ (d : List De) (i : Nat) (last : Int), Zq i last d = true → ∀ x ∈ d, (i : Int) < x.num ∧ x.num ≤ (i : Int) + d.length ∧ 0 ≤ x.time ∧ x.time ≤ 1000000000
 | [], _, _, _, x, hx => by cases hx
 | y :: d, i, last, h, x, hx => by
  simp only [Zq, badD, Bool.and_eq_true, Bool.not_eq_true', Bool.or_eq_false_iff, decide_eq_false_iff_not, Bool.not_eq_false', decide_eq_true_eq, Decidable.not_not] at h
  obtain ⟨⟨⟨h1, h2⟩, h3⟩, h4⟩ := h
  rcases List.mem_cons.1 hx with rfl | hx
  ·simp only [List.length_cons]; omega
  ·have := numsC_all d (i + 1) y.time h4 x hx
   simp only [List.length_cons]; omega
theorem Uw {α : Type} {p : α → Bool} : ∀ (l : List α), (∀ x ∈ l, p x = true) → l.takeWhile p = l
 | [], _ => rfl
 | x :: l, h => by rw [List.takeWhile_cons_of_pos (h x List.mem_cons_self), Uw l (fun y hy => h y (List.mem_cons_of_mem _ hy))]
theorem upD_all {d : List De} (h : Zq 0 0 d = true) : upD d.length 1000000000 d = d := by
 unfold upD
 refine Uw _ ?_
 intro x hx
 have := numsC_all d 0 0 h x hx
 simp; omega
theorem Qbd (wa : Option Addr) (wc : Nat) (l : List (Wk × Wp)) (da : Option Addr) (dc : Nat) (d : List De) (w : World) (hl : l.length ≤ 1000) (hfew : ∀ y ∈ l, FoFew y.1.f) (hw : WsAt w wa l) (hdl : d.length ≤ 1000000) (hd : DeAt w da d) :
  Calls Tryz.prog 86 #[.slice wa l.length wc, .slice da d.length dc] w fun e w' => (∃ p, e = .returned (.tuple #[p, .bool (QH (Qk l) d)])) ∧ Below w.heap.size w w' := by
 have HA := Qa (areWorks_any wa wc l w hl hfew hw)
 have HW := Qa hw; have HD := Qa hd
 have HVd := Qa (show QH (Qk l) d = (Q6 (Qk l) && decide (d.length ≤ 1000) && Zq 0 0 d && decide ((runR (Qk l) (Qx (Qk l)) d).2 = 0)) from rfl)
 clear hw hd
 go_enter Tryz.func86, Tryz.ntmps86
 cases hwb : Q6 (Qk l)
 ·have HF := Qa (show QH (Qk l) d = false by rw [HVd.out, hwb]; rfl)
  rw [hwb] at HA
  clear HVd
  go_wp2_with (go_at_call 124; refine HA.out.mono ?_; rintro e w2 ⟨rfl, hb2⟩)
  refine bodyPost_ret (results_tmp2 rfl _ _ _) rfl ?_
  rw [HF.out]
  exact ⟨⟨_, rfl⟩, hb2⟩
 have hlp : 0 < l.length := by
  unfold Q6 at hwb
  simp only [Bool.and_eq_true, decide_eq_true_eq, Qk, List.length_map] at hwb
  omega
 rw [hwb] at HA
 by_cases hdl3 : ¬ d.length ≤ 1000
 ·have HF := Qa (show QH (Qk l) d = false by rw [HVd.out, decide_eq_false hdl3]; simp)
  clear HVd
  go_wp2_with (go_at_call 124; refine HA.out.mono ?_; rintro e w2 ⟨rfl, hb2⟩; have HB2 := Qa hb2; clear hb2)
  refine bodyPost_ret (results_tmp2 rfl _ _ _) rfl ?_
  rw [HF.out]
  exact ⟨⟨_, rfl⟩, HB2.out⟩
 have hdl4 : d.length ≤ 1000 := by omega
 have HV2 := Qa (show QH (Qk l) d = (Zq 0 0 d && decide ((runR (Qk l) (Qx (Qk l)) d).2 = 0)) by rw [HVd.out, hwb, decide_eq_true hdl4]; rfl)
 clear HVd hwb
 go_upto_region 3 with (go_at_call 124; refine HA.out.mono ?_; rintro e w2 ⟨rfl, hb2⟩; have HB2 := Qa hb2; clear hb2)
 go_wp2
 go_loopw [6, 19] (fun t6 t19 wr => ∃ (k : Nat) (last : Int), k ≤ d.length ∧ t19 = .int .i64 k ∧ t6 = .int .i64 last ∧ Hid (Zq 0 0 d = Zq k last (d.drop k)) ∧ Below w.heap.size w wr) (fun _ t19 _ => d.length - (intOf t19).toNat)
 case atStart => exact ⟨0, 0, Nat.zero_le _, rfl, rfl, Qa rfl, HB2.out⟩
 case round =>
  obtain ⟨k, last, hk, rfl, rfl, HC, hb⟩ := hrel
  have HB := Qa hb
  clear hb HB2
  by_cases hlt : k < d.length
  ·obtain ⟨b, off, ea, d0, d1, d2, d3, d4, d5⟩ := DeAt.get (HD.out.below HB.out) k hlt
   have HC2 := Qa (HC.out.trans (numsC_drop hlt last))
   have hki : (k : Int) < (d.length : Int) := by omega
   have hwk : IntKind.i64.wrap ((k : Int) + 1) = (k : Int) + 1 := IntWalk.i64_in _ (by omega)
   subst ea
   clear HC
   have hoks : Zq 0 0 d = false → QH (Qk l) d = false := fun h => by rw [HV2.out, h]; rfl
   have HX := Qa (heap_alloc_new wr (.cells #[.int .i64 (d[k]).num, .int .i64 (d[k]).time, .int .i64 (d[k]).kind, .int .i64 (d[k]).a, .int .i64 (d[k]).b, .int .i64 (d[k]).c] 207))
   have HB4 := Qa (Qg (w := wr) (.cells #[.int .i64 (d[k]).num, .int .i64 (d[k]).time, .int .i64 (d[k]).kind, .int .i64 (d[k]).a, .int .i64 (d[k]).b, .int .i64 (d[k]).c] 207))
   generalize hx : d[k] = x at *
   clear hx
   go_upto_region 7 with (fail)
   generalize wr.alloc (.cells #[.int .i64 x.num, .int .i64 x.time, .int .i64 x.kind, .int .i64 x.a, .int .i64 x.b, .int .i64 x.c] 207) = W at *
   have hc := Qb HX.out
   clear d0 d1 d2 d3 d4 d5
   by_cases c1 : ¬ x.num = (k : Int) + 1
   ·have hF := Qa (hoks (by rw [HC2.out]; unfold badD; rw [decide_eq_true c1]; rfl))
    clear HC2 hoks
    go_wp2
    refine bodyPost_ret (results_tmp2 rfl _ _ _) rfl ?_
    rw [hF.out]
    exact ⟨⟨_, rfl⟩, HB.out.trans (HB4.out.mono HB.out.size)⟩
   by_cases c2 : x.time < last
   ·have hF := Qa (hoks (by rw [HC2.out]; unfold badD; rw [decide_eq_true c2]; simp))
    clear HC2 hoks
    go_wp2
    refine bodyPost_ret (results_tmp2 rfl _ _ _) rfl ?_
    rw [hF.out]
    exact ⟨⟨_, rfl⟩, HB.out.trans (HB4.out.mono HB.out.size)⟩
   have c1 : x.num = (k : Int) + 1 := by omega
   have hTm := Qav x.time W
   cases ht : (decide (0 ≤ x.time) && decide (x.time ≤ 1000000000))
   ·have hF := Qa (hoks (by rw [HC2.out]; unfold badD; rw [ht]; simp))
    rw [ht] at hTm
    clear HC2 hoks ht
    go_wp2_with (go_at_call 87; refine hTm.mono ?_; rintro e w6 ⟨rfl, rfl⟩)
    refine bodyPost_ret (results_tmp2 rfl _ _ _) rfl ?_
    rw [hF.out]
    exact ⟨⟨_, rfl⟩, HB.out.trans (HB4.out.mono HB.out.size)⟩
   ·rw [ht] at hTm
    have HC3 := Qa (show Zq 0 0 d = Zq (k + 1) x.time (d.drop (k + 1)) by rw [HC2.out]; unfold badD; rw [ht, decide_eq_false (by simpa using c1), decide_eq_false c2]; simp)
    clear HC2 hoks ht
    go_wp2_with (go_at_call 87; refine hTm.mono ?_; rintro e w6 ⟨rfl, rfl⟩)
    exact ⟨⟨k + 1, x.time, by omega, by go_num, rfl, HC3, HB.out.trans (HB4.out.mono HB.out.size)⟩, by simp [intOf]; omega⟩
  ·obtain rfl : k = d.length := by omega
   have hns : Zq 0 0 d = true := by rw [HC.out, List.drop_eq_nil_of_le (Nat.le_refl _)]; rfl
   have HRn := Qa (Qba wa wc l da dc d d.length 1000000000 wr hlp hl hfew (HW.out.below HB.out) hdl4 (HD.out.below HB.out))
   rw [upD_all hns] at HRn
   have HF := Qa (show QH (Qk l) d = decide ((runR (Qk l) (Qx (Qk l)) d).2 = 0) by rw [HV2.out, hns]; rfl)
   clear HC hns HV2
   go_wp2_with (go_at_call 88; refine HRn.out.mono ?_; rintro e w6 ⟨s6, q6, oa6, oc6, rfl, hs6, hb6, _⟩)
   refine bodyPost_ret (results_tmp2 rfl _ _ _) rfl ?_
   rw [HF.out]
   exact ⟨⟨_, rfl⟩, HB.out.trans (hb6.mono HB.out.size)⟩
theorem dValid_any (wa : Option Addr) (wc : Nat) (l : List (Wk × Wp)) (da : Option Addr) (dc : Nat) (d : List De) (w : World) (hl : l.length ≤ 1000) (hfew : ∀ y ∈ l, FoFew y.1.f) (hw : WsAt w wa l) (hdl : d.length ≤ 1000000) (hd : DeAt w da d) :
  Calls Tryz.prog 58 #[.slice wa l.length wc, .slice da d.length dc] w fun e w' => e = .returned (.bool (QH (Qk l) d)) ∧ Below w.heap.size w w' := by
 have HA := Qa (Qbd wa wc l da dc d w hl hfew hw hdl hd)
 clear hw hd hfew
 go_enter Tryz.func58, Tryz.ntmps58
 go_wp2_with (go_at_call 86; refine HA.out.mono ?_; rintro e w2 ⟨⟨p2, rfl⟩, hb2⟩)
 go_ret
 exact ⟨rfl, hb2⟩
structure RmAt (w : World) (r : Rm) (q : Fp) (oa : Option Addr) (oc : Nat) : Prop where
 form : FoAt w r.f q
 oss : InAt w oa r.oss
 oko : SlOk oa r.oss.length oc
theorem RmAt.below {w w' : World} {r : Rm} {q : Fp} {oa : Option Addr} {oc : Nat} (h : RmAt w r q oa oc) (hb : Below w.heap.size w w') : RmAt w' r q oa oc := ⟨h.form.below hb, SlAt.below h.oss hb, h.oko⟩
def RetRm (r : Rm) (err : Int) (w : World) (e : Ending) (w' : World) : Prop :=
 ∃ q oa oc, e = .returned (.tuple #[.agg #[.int .i64 r.ver, .int .i64 r.f.bars, .slice q.ra r.f.reps.length q.rc, .slice q.ea r.f.ends.length q.ec, .int .i64 r.f.jump.x, .int .i64 r.f.jump.y, .int .i64 r.f.jump.z, .slice q.ca r.f.cuts.length q.cc, .slice oa r.oss.length oc], .int .i64 err]) ∧ RmAt w' r q oa oc ∧ Below w.heap.size w w'
theorem Qz {v : World} {b : Nat} {T : TypeId} {c0 c1 c2 c3 c4 c5 c6 c7 c8 : Value} (h : v.heap[b]? = some (.cells #[c0, c1, c2, c3, c4, c5, c6, c7, c8] T (0, 0))) (a0 a1 a2 a3 a4 a5 a6 a7 a8 : Value) : (set9 v b a0 a1 a2 a3 a4 a5 a6 a7 a8).heap[b]? = some (.cells #[a0, a1, a2, a3, a4, a5, a6, a7, a8] T (0, 0)) := by
 unfold set9
 replace h : (v.setCell ⟨b, 0, none⟩ a0).heap[b]? = some (.cells #[a0, c1, c2, c3, c4, c5, c6, c7, c8] T (0, 0)) := heap_setCell_same v b 0 _ _ a0 h
 generalize v.setCell ⟨b, 0, none⟩ a0 = v at *
 replace h : (v.setCell ⟨b, 1, none⟩ a1).heap[b]? = some (.cells #[a0, a1, c2, c3, c4, c5, c6, c7, c8] T (0, 0)) := heap_setCell_same v b 1 _ _ a1 h
 generalize v.setCell ⟨b, 1, none⟩ a1 = v at *
 replace h : (v.setCell ⟨b, 2, none⟩ a2).heap[b]? = some (.cells #[a0, a1, a2, c3, c4, c5, c6, c7, c8] T (0, 0)) := heap_setCell_same v b 2 _ _ a2 h
 generalize v.setCell ⟨b, 2, none⟩ a2 = v at *
 replace h : (v.setCell ⟨b, 3, none⟩ a3).heap[b]? = some (.cells #[a0, a1, a2, a3, c4, c5, c6, c7, c8] T (0, 0)) := heap_setCell_same v b 3 _ _ a3 h
 generalize v.setCell ⟨b, 3, none⟩ a3 = v at *
 replace h : (v.setCell ⟨b, 4, none⟩ a4).heap[b]? = some (.cells #[a0, a1, a2, a3, a4, c5, c6, c7, c8] T (0, 0)) := heap_setCell_same v b 4 _ _ a4 h
 generalize v.setCell ⟨b, 4, none⟩ a4 = v at *
 replace h : (v.setCell ⟨b, 5, none⟩ a5).heap[b]? = some (.cells #[a0, a1, a2, a3, a4, a5, c6, c7, c8] T (0, 0)) := heap_setCell_same v b 5 _ _ a5 h
 generalize v.setCell ⟨b, 5, none⟩ a5 = v at *
 replace h : (v.setCell ⟨b, 6, none⟩ a6).heap[b]? = some (.cells #[a0, a1, a2, a3, a4, a5, a6, c7, c8] T (0, 0)) := heap_setCell_same v b 6 _ _ a6 h
 generalize v.setCell ⟨b, 6, none⟩ a6 = v at *
 replace h : (v.setCell ⟨b, 7, none⟩ a7).heap[b]? = some (.cells #[a0, a1, a2, a3, a4, a5, a6, a7, c8] T (0, 0)) := heap_setCell_same v b 7 _ _ a7 h
 generalize v.setCell ⟨b, 7, none⟩ a7 = v at *
 replace h : (v.setCell ⟨b, 8, none⟩ a8).heap[b]? = some (.cells #[a0, a1, a2, a3, a4, a5, a6, a7, a8] T (0, 0)) := heap_setCell_same v b 8 _ _ a8 h
 generalize v.setCell ⟨b, 8, none⟩ a8 = v at *
 exact h
theorem Ql {n : Nat} {w v : World} {b : Nat} (h : Below n w v) (hb : n ≤ b) (a0 a1 a2 a3 a4 a5 a6 a7 a8 : Value) : Below n w (set9 v b a0 a1 a2 a3 a4 a5 a6 a7 a8) := ((((((((h.setCell (p := ⟨b, 0, none⟩) hb a0).setCell (p := ⟨b, 1, none⟩) hb a1).setCell (p := ⟨b, 2, none⟩) hb a2).setCell (p := ⟨b, 3, none⟩) hb a3).setCell (p := ⟨b, 4, none⟩) hb a4).setCell (p := ⟨b, 5, none⟩) hb a5).setCell (p := ⟨b, 6, none⟩) hb a6).setCell (p := ⟨b, 7, none⟩) hb a7).setCell (p := ⟨b, 8, none⟩) hb a8
theorem dAt_any (wa : Option Addr) (wc : Nat) (l : List (Wk × Wp)) (da : Option Addr) (dc : Nat) (d : List De) (known time : Int) (w : World) (hl : l.length ≤ 1000) (hfew : ∀ y ∈ l, FoFew y.1.f) (hw : WsAt w wa l) (hdl : d.length ≤ 1000000) (hd : DeAt w da d) :
  Calls Tryz.prog 54 #[.slice wa l.length wc, .slice da d.length dc, .int .i64 known, .int .i64 time] w (RetRm (atR (Qk l) d known time).1 (atR (Qk l) d known time).2 w) := by
 have hb := Qg (w := w) (.cells #[.int .i64 0, .int .i64 0, .slice none 0 0, .slice none 0 0, .int .i64 0, .int .i64 0, .int .i64 0, .slice none 0 0, .slice none 0 0] 123)
 have HX := Qa (heap_alloc_new w (.cells #[.int .i64 0, .int .i64 0, .slice none 0 0, .slice none 0 0, .int .i64 0, .int .i64 0, .int .i64 0, .slice none 0 0, .slice none 0 0] 123))
 have HA := Qa (Qbd wa wc l da dc d _ hl hfew (hw.below hb) hdl (hd.below hb))
 have HW := Qa (hw.below hb); have HD := Qa (hd.below hb)
 have HB := Qa hb
 have HT := Qa (show atR (Qk l) d known time = if !QH (Qk l) d || decide (known < 0) || decide ((d.length : Int) < known) || !(decide (0 ≤ time) && decide (time ≤ 1000000000)) then (rm0, 1) else ((runR (Qk l) (Qx (Qk l)) (upD known time d)).1, 0) from rfl)
 clear hw hd hb
 go_enter Tryz.func54, Tryz.ntmps54
 go_upto_region 1 with (fail)
 generalize w.alloc (.cells #[.int .i64 0, .int .i64 0, .slice none 0 0, .slice none 0 0, .int .i64 0, .int .i64 0, .int .i64 0, .slice none 0 0, .slice none 0 0] 123) = W at *
 cases hv : QH (Qk l) d
 ·have HF := Qa (show atR (Qk l) d known time = (rm0, 1) by rw [HT.out, hv]; rfl)
  rw [hv] at HA
  clear HT
  go_upto_region 3 with ((go_at_call 86; refine HA.out.mono ?_; rintro e w2 ⟨⟨p2, rfl⟩, hb2⟩; have HB2 := bu HB hb2; have HW2 := Qa (HW.out.below hb2); have HD2 := Qa (SlAt.below HD.out hb2); have HX2 := bk HX hb2; clear hb2))
  have hc := Qb HX2.out; have hf := Qe HX2.out; have hz := Qd HX2.out; go_wp2; refine bodyPost_ret (Qi rfl _ _ w.heap.size 123 _ (0, 0) _ rfl (Qz HX2.out _ _ _ _ _ _ _ _ _) Tryz.underlying123 rfl (by kernel_rfl)) rfl ?_; rw [HF.out]; exact ⟨fp0, none, 0, rfl, ⟨Uj _, SlAt.nil _ _ _, SlOk.nil⟩, Ql HB2.out (Nat.le_refl _) _ _ _ _ _ _ _ _ _⟩
 have hlp : 0 < l.length := by
  have h2 := hv
  unfold QH Q6 at h2
  simp only [Bool.and_eq_true, decide_eq_true_eq, Qk, List.length_map] at h2
  omega
 rw [hv] at HA
 by_cases c1 : known < 0
 ·have HF := Qa (show atR (Qk l) d known time = (rm0, 1) by rw [HT.out, decide_eq_true c1]; simp)
  clear HT hv
  go_upto_region 3 with ((go_at_call 86; refine HA.out.mono ?_; rintro e w2 ⟨⟨p2, rfl⟩, hb2⟩; have HB2 := bu HB hb2; have HW2 := Qa (HW.out.below hb2); have HD2 := Qa (SlAt.below HD.out hb2); have HX2 := bk HX hb2; clear hb2))
  have hc := Qb HX2.out; have hf := Qe HX2.out; have hz := Qd HX2.out; go_wp2; refine bodyPost_ret (Qi rfl _ _ w.heap.size 123 _ (0, 0) _ rfl (Qz HX2.out _ _ _ _ _ _ _ _ _) Tryz.underlying123 rfl (by kernel_rfl)) rfl ?_; rw [HF.out]; exact ⟨fp0, none, 0, rfl, ⟨Uj _, SlAt.nil _ _ _, SlOk.nil⟩, Ql HB2.out (Nat.le_refl _) _ _ _ _ _ _ _ _ _⟩
 by_cases c2 : (d.length : Int) < known
 ·have HF := Qa (show atR (Qk l) d known time = (rm0, 1) by rw [HT.out, decide_eq_true c2]; simp)
  clear HT hv
  go_upto_region 3 with ((go_at_call 86; refine HA.out.mono ?_; rintro e w2 ⟨⟨p2, rfl⟩, hb2⟩; have HB2 := bu HB hb2; have HW2 := Qa (HW.out.below hb2); have HD2 := Qa (SlAt.below HD.out hb2); have HX2 := bk HX hb2; clear hb2))
  have hc := Qb HX2.out; have hf := Qe HX2.out; have hz := Qd HX2.out; go_wp2; refine bodyPost_ret (Qi rfl _ _ w.heap.size 123 _ (0, 0) _ rfl (Qz HX2.out _ _ _ _ _ _ _ _ _) Tryz.underlying123 rfl (by kernel_rfl)) rfl ?_; rw [HF.out]; exact ⟨fp0, none, 0, rfl, ⟨Uj _, SlAt.nil _ _ _, SlOk.nil⟩, Ql HB2.out (Nat.le_refl _) _ _ _ _ _ _ _ _ _⟩
 have hTm := fun V => Qav time V
 cases ht : (decide (0 ≤ time) && decide (time ≤ 1000000000))
 ·have HF := Qa (show atR (Qk l) d known time = (rm0, 1) by rw [HT.out, ht]; simp)
  rw [ht] at hTm
  clear HT hv ht
  go_upto_region 3 with (first | (go_at_call 86; refine HA.out.mono ?_; rintro e w2 ⟨⟨p2, rfl⟩, hb2⟩; have HB2 := bu HB hb2; have HW2 := Qa (HW.out.below hb2); have HD2 := Qa (SlAt.below HD.out hb2); have HX2 := bk HX hb2; clear hb2) | (go_at_call 87; refine (hTm _).mono ?_; rintro e w6 ⟨rfl, rfl⟩))
  have hc := Qb HX2.out; have hf := Qe HX2.out; have hz := Qd HX2.out; go_wp2; refine bodyPost_ret (Qi rfl _ _ w.heap.size 123 _ (0, 0) _ rfl (Qz HX2.out _ _ _ _ _ _ _ _ _) Tryz.underlying123 rfl (by kernel_rfl)) rfl ?_; rw [HF.out]; exact ⟨fp0, none, 0, rfl, ⟨Uj _, SlAt.nil _ _ _, SlOk.nil⟩, Ql HB2.out (Nat.le_refl _) _ _ _ _ _ _ _ _ _⟩
 ·have hdl4 : d.length ≤ 1000 := by
   have h2 := hv
   unfold QH at h2
   simp only [Bool.and_eq_true, decide_eq_true_eq] at h2
   omega
  have HF := Qa (show atR (Qk l) d known time = ((runR (Qk l) (Qx (Qk l)) (upD known time d)).1, 0) by rw [HT.out, hv, ht, decide_eq_false c1, decide_eq_false c2]; rfl)
  rw [ht] at hTm
  clear HT hv ht
  go_upto_region 4 with (first | (go_at_call 86; refine HA.out.mono ?_; rintro e w2 ⟨⟨p2, rfl⟩, hb2⟩; have HB2 := bu HB hb2; have HW2 := Qa (HW.out.below hb2); have HD2 := Qa (SlAt.below HD.out hb2); have HX2 := bk HX hb2; clear hb2) | (go_at_call 87; refine (hTm _).mono ?_; rintro e w6 ⟨rfl, rfl⟩))
  have HRn := Qa (Qba wa wc l da dc d known time w6 hlp hl hfew HW2.out hdl4 HD2.out)
  generalize runR (Qk l) (Qx (Qk l)) (upD known time d) = R at *
  obtain ⟨R, re⟩ := R
  dsimp only at *
  go_upto_region 5 with (go_at_call 88; refine HRn.out.mono ?_; rintro e w7 ⟨s7, q7, oa7, oc7, rfl, hs7, hb7, hn7⟩; have HS7 := Qa hs7; have HX7 := bk HX2 hb7; have hlx := Qd HX2.out; have HB7 := bu HB2 hb7; clear hs7 hb7)
  have hc := Qb HX7.out; have hf := Qe HX7.out; have hz := Qd HX7.out
  have hcs := Qb HS7.out.box
  go_wp2
  refine bodyPost_ret (Qi rfl _ _ w.heap.size 123 _ (0, 0) _ rfl (Qz HX7.out _ _ _ _ _ _ _ _ _) Tryz.underlying123 rfl (by kernel_rfl)) rfl ?_
  rw [HF.out]
  refine ⟨q7, oa7, oc7, rfl, ⟨?_, ?_, HS7.out.oko⟩, Ql HB7.out (Nat.le_refl _) _ _ _ _ _ _ _ _ _⟩
  ·exact FoAt.keepB HS7.out.form (Yq (KeepB.refl _ _ _) _ _ _ _ _ _ _ _ _) (HS7.out.nef.ne (by omega))
  ·exact SlAt.keepB HS7.out.oss (Yq (KeepB.refl w7.heap.size [w.heap.size] w7) _ _ _ _ _ _ _ _ _) (fun ad e => by rw [List.mem_singleton]; have := HS7.out.neo ad e; omega)
theorem withinB_drop (l : List R3) (bar : Int) (k : Nat) (h : k < l.length) : QO (l.drop k) bar = ((decide (l[k].x < bar) && decide (bar < l[k].y)) || QO (l.drop (k + 1)) bar) := by rw [List.drop_eq_getElem_cons h]; rfl
theorem insideB_drop (l : List R3) (a b : Int) (k : Nat) (h : k < l.length) : Ze (l.drop k) a b = ((decide (l[k].x ≤ a) && decide (b ≤ l[k].y)) || Ze (l.drop (k + 1)) a b) := by rw [List.drop_eq_getElem_cons h]; rfl
theorem endB_drop (l : List R3) (bar pass : Int) (k : Nat) (h : k < l.length) : endB (l.drop k) bar pass = ((decide (l[k].x ≤ bar) && decide (bar < l[k].y) && decide (l[k].z ≠ pass)) || endB (l.drop (k + 1)) bar pass) := by rw [List.drop_eq_getElem_cons h]; rfl
theorem Rwithin_any (l : List R3) (a : Option Addr) (cap : Nat) (bar : Int) (w : World) (hl : l.length ≤ 1000) (hm : R3At w a l) :
  Calls Tryz.prog 222 #[.slice a l.length cap, .int .i64 bar] w fun e w' => e = .returned (.bool (QO l bar)) ∧ RowKit.Below w.heap.size w w' := by
 have HM := Qa hm
 clear hm
 go_enter Tryz.func222, Tryz.ntmps222
 go_wp2
 go_loopw [5] (fun i wr => ∃ k : Nat, k ≤ l.length ∧ i = .int .i64 k ∧ Hid (QO l bar = QO (l.drop k) bar) ∧ wr = w) (fun i _ => l.length - (intOf i).toNat)
 case atStart => exact ⟨0, Nat.zero_le _, rfl, Qa rfl, rfl⟩
 case round =>
  obtain ⟨k, hk, rfl, HT, hw⟩ := hrel
  subst hw
  by_cases hlt : k < l.length
  ·obtain ⟨b, off, rfl, _, e0, e1, e2⟩ := HM.out.get k hlt
   have HS := Qa (withinB_drop l bar k hlt)
   have hli : (k : Int) < (l.length : Int) := by omega
   generalize l[k] = r at *
   obtain ⟨x, y, z⟩ := r
   dsimp only at *
   by_cases hx : x < bar
   ·by_cases hy : bar < y
    ·have HF := Qa (show QO l bar = true by rw [HT.out, HS.out, decide_eq_true hx, decide_eq_true hy]; rfl)
     go_wp2
     go_ret
     exact ⟨Qf HF.out.symm, RowKit.Below.refl _ _⟩
    ·have HF := Qa (show QO l bar = QO (l.drop (k + 1)) bar by rw [HT.out, HS.out, decide_eq_false hy, Bool.and_false]; rfl)
     go_wp2
     go_roundw
     case rel => exact ⟨k + 1, by omega, by go_num, HF, trivial⟩
     case measure => simp [intOf]; omega
   ·have HF := Qa (show QO l bar = QO (l.drop (k + 1)) bar by rw [HT.out, HS.out, decide_eq_false hx]; rfl)
    go_wp2
    go_roundw
    case rel => exact ⟨k + 1, by omega, by go_num, HF, trivial⟩
    case measure => simp [intOf]; omega
  ·have HF := Qa (show QO l bar = false by rw [HT.out, List.drop_eq_nil_of_le (by omega)]; rfl)
   go_wp2
   go_ret
   exact ⟨Qf HF.out.symm, RowKit.Below.refl _ _⟩
theorem Rinside_any (l : List R3) (a : Option Addr) (cap : Nat) (f u : Int) (w : World) (hl : l.length ≤ 1000) (hm : R3At w a l) :
  Calls Tryz.prog 221 #[.slice a l.length cap, .int .i64 f, .int .i64 u] w fun e w' => e = .returned (.bool (Ze l f u)) ∧ RowKit.Below w.heap.size w w' := by
 have HM := Qa hm
 clear hm
 go_enter Tryz.func221, Tryz.ntmps221
 go_wp2
 go_loopw [7] (fun i wr => ∃ k : Nat, k ≤ l.length ∧ i = .int .i64 k ∧ Hid (Ze l f u = Ze (l.drop k) f u) ∧ wr = w) (fun i _ => l.length - (intOf i).toNat)
 case atStart => exact ⟨0, Nat.zero_le _, rfl, Qa rfl, rfl⟩
 case round =>
  obtain ⟨k, hk, rfl, HT, hw⟩ := hrel
  subst hw
  by_cases hlt : k < l.length
  ·obtain ⟨b, off, rfl, _, e0, e1, e2⟩ := HM.out.get k hlt
   have HS := Qa (insideB_drop l f u k hlt)
   have hli : (k : Int) < (l.length : Int) := by omega
   generalize l[k] = r at *
   obtain ⟨x, y, z⟩ := r
   dsimp only at *
   by_cases hx : x ≤ f
   ·by_cases hy : u ≤ y
    ·have HF := Qa (show Ze l f u = true by rw [HT.out, HS.out, decide_eq_true hx, decide_eq_true hy]; rfl)
     go_wp2
     go_ret
     exact ⟨Qf HF.out.symm, RowKit.Below.refl _ _⟩
    ·have HF := Qa (show Ze l f u = Ze (l.drop (k + 1)) f u by rw [HT.out, HS.out, decide_eq_false hy, Bool.and_false]; rfl)
     go_wp2
     go_roundw
     case rel => exact ⟨k + 1, by omega, by go_num, HF, trivial⟩
     case measure => simp [intOf]; omega
   ·have HF := Qa (show Ze l f u = Ze (l.drop (k + 1)) f u by rw [HT.out, HS.out, decide_eq_false hx]; rfl)
    go_wp2
    go_roundw
    case rel => exact ⟨k + 1, by omega, by go_num, HF, trivial⟩
    case measure => simp [intOf]; omega
  ·have HF := Qa (show Ze l f u = false by rw [HT.out, List.drop_eq_nil_of_le (by omega)]; rfl)
   go_wp2
   go_ret
   exact ⟨Qf HF.out.symm, RowKit.Below.refl _ _⟩
theorem Ug (c : R3) (a : Option Addr) (cap : Nat) (ds : List R3) (w : World) (hl : ds.length ≤ 100000) (hm : R3At w a ds) :
  Calls Tryz.prog 184 #[.slice a ds.length cap, .agg #[.int .i64 c.x, .int .i64 c.y, .int .i64 c.z]] w fun e w' => e = .returned (.int .i64 (idxO (fun x => decide (x = c)) ds)) ∧ RowKit.Below w.heap.size w w' := by
 have HM := Qa hm
 clear hm
 have hx := heap_alloc_new w (.cells #[.int .i64 c.x, .int .i64 c.y, .int .i64 c.z] 186)
 have hb := (RowKit.Below.refl w.heap.size w).alloc (Nat.le_refl _) (.cells #[.int .i64 c.x, .int .i64 c.y, .int .i64 c.z] 186)
 go_enter Tryz.func184, Tryz.ntmps184
 go_upto_region 1 with (fail)
 have HX := Qa hx; have HB := Qa hb
 clear hx hb
 generalize w.alloc (.cells #[.int .i64 c.x, .int .i64 c.y, .int .i64 c.z] 186) = W at *
 go_wp2
 go_loopw [5] (fun i wr => ∃ k : Nat, k ≤ ds.length ∧ i = .int .i64 k ∧ (∀ j (hj : j < ds.length), j < k → decide (ds[j] = c) = false) ∧ wr.heap[w.heap.size]? = some (.cells #[.int .i64 c.x, .int .i64 c.y, .int .i64 c.z] 186) ∧ RowKit.Below w.heap.size w wr) (fun i _ => ds.length - (intOf i).toNat)
 case atStart => exact ⟨0, Nat.zero_le _, rfl, fun j hj h => by omega, HX.out, HB.out⟩
 case round =>
  obtain ⟨k, hk, rfl, hall, hxr, hb⟩ := hrel
  have HA := Qa hall; have HB2 := Qa hb; have HXr := Qa hxr
  clear hall hb hxr HX HB
  by_cases hlt : k < ds.length
  ·obtain ⟨b, off, rfl, _, d0, d1, d2⟩ := (HM.out.below HB2.out).get k hlt
   have hc := Qb HXr.out
   have hli : (k : Int) < (ds.length : Int) := by omega
   have HT := Qa (fun h : decide (ds[k] = c) = true => Zv (p := fun x => decide (x = c)) hlt h HA.out)
   have HF := Qa (fun h : decide (ds[k] = c) = false => (fun j (hj : j < ds.length) (hjk : j < k + 1) => if e : j = k then by subst e; exact h else HA.out j hj (by omega) : ∀ j (hj : j < ds.length), j < k + 1 → decide (ds[j] = c) = false))
   generalize ds[k] = d at *
   have heq := fun W => eql_cu2 d c W
   rw [show decide (c = d) = decide (d = c) from decide_eq_decide.2 eq_comm] at heq
   cases hpd : decide (d = c)
   ·rw [hpd] at heq HF
    have HF2 := Qa (HF.out rfl)
    clear HT HF hpd
    go_wp2
    go_quiet (fail)
    go_wp2
    go_roundw
    case rel => exact ⟨k + 1, by omega, by go_num, HF2.out, Qc HXr.out (below_drewN (RowKit.Below.refl _ _) nq), HB2.out.trans ((below_drewN (RowKit.Below.refl _ _) nq).mono HB2.out.size)⟩
    case measure => simp [intOf]; omega
   ·rw [hpd] at heq HT
    have HT2 := Qa (HT.out rfl)
    clear HT HF hpd
    go_wp2
    go_quiet (fail)
    go_wp2
    go_ret
    exact ⟨QK HT2.out.symm, HB2.out.trans ((below_drewN (RowKit.Below.refl _ _) nq).mono HB2.out.size)⟩
  ·have HT2 := Qa (Q0 (p := fun x => decide (x = c)) fun j hj => HA.out j hj (by omega))
   go_wp2
   go_ret
   exact ⟨QK HT2.out.symm, HB2.out⟩
theorem played_any (f : Fo) (q : Fp) (bar pass : Int) (w : World) (hf : FoFew f) (hm : R3At w q.ea f.ends) :
  Calls Tryz.prog 235 #[.agg #[.int .i64 f.bars, .slice q.ra f.reps.length q.rc, .slice q.ea f.ends.length q.ec, .int .i64 f.jump.x, .int .i64 f.jump.y, .int .i64 f.jump.z, .slice q.ca f.cuts.length q.cc], .int .i64 bar, .int .i64 pass] w fun e w' => e = .returned (.bool (!endB f.ends bar pass)) ∧ RowKit.Below w.heap.size w w' := by
 have hx := heap_alloc_new w (.cells #[.int .i64 f.bars, .slice q.ra f.reps.length q.rc, .slice q.ea f.ends.length q.ec, .int .i64 f.jump.x, .int .i64 f.jump.y, .int .i64 f.jump.z, .slice q.ca f.cuts.length q.cc] 109)
 have hb := (RowKit.Below.refl w.heap.size w).alloc (Nat.le_refl _) (.cells #[.int .i64 f.bars, .slice q.ra f.reps.length q.rc, .slice q.ea f.ends.length q.ec, .int .i64 f.jump.x, .int .i64 f.jump.y, .int .i64 f.jump.z, .slice q.ca f.cuts.length q.cc] 109)
 have hfe := hf.ends
 have HM := Qa hm
 clear hm hf
 go_enter Tryz.func235, Tryz.ntmps235
 go_upto_region 1 with (fail)
 have HX := Qa hx; have HB := Qa hb
 clear hx hb
 generalize w.alloc (.cells #[.int .i64 f.bars, .slice q.ra f.reps.length q.rc, .slice q.ea f.ends.length q.ec, .int .i64 f.jump.x, .int .i64 f.jump.y, .int .i64 f.jump.z, .slice q.ca f.cuts.length q.cc] 109) = W at *
 go_wp2
 go_loopw [7] (fun i wr => ∃ k : Nat, k ≤ f.ends.length ∧ i = .int .i64 k ∧ Hid (endB f.ends bar pass = endB (f.ends.drop k) bar pass) ∧ wr.heap[w.heap.size]? = some (.cells #[.int .i64 f.bars, .slice q.ra f.reps.length q.rc, .slice q.ea f.ends.length q.ec, .int .i64 f.jump.x, .int .i64 f.jump.y, .int .i64 f.jump.z, .slice q.ca f.cuts.length q.cc] 109) ∧ RowKit.Below w.heap.size w wr) (fun i _ => f.ends.length - (intOf i).toNat)
 case atStart => exact ⟨0, Nat.zero_le _, rfl, Qa rfl, HX.out, HB.out⟩
 case round =>
  obtain ⟨k, hk, rfl, HT, hxr, hb⟩ := hrel
  have HB2 := Qa hb; have HXr := Qa hxr
  clear hb hxr HX HB
  have hc := Qb HXr.out
  by_cases hlt : k < f.ends.length
  ·obtain ⟨b, off, e, _, d0, d1, d2⟩ := (HM.out.below HB2.out).get k hlt
   rw [e] at hc
   have hli : (k : Int) < (f.ends.length : Int) := by omega
   have HS := Qa (endB_drop f.ends bar pass k hlt)
   generalize f.ends[k] = r at *
   obtain ⟨x, y, z⟩ := r
   dsimp only at *
   go_upto_region 5 with (fail)
   have HXe := Qa (heap_alloc_new wr (.cells #[.int .i64 x, .int .i64 y, .int .i64 z] 255))
   have hb := (RowKit.Below.refl wr.heap.size wr).alloc (Nat.le_refl _) (.cells #[.int .i64 x, .int .i64 y, .int .i64 z] 255)
   replace HXr := bk HXr hb; replace HB2 := bu HB2 hb
   clear hb hc d0 d1 d2
   generalize wr.alloc (.cells #[.int .i64 x, .int .i64 y, .int .i64 z] 255) = W2 at *
   generalize wr.heap.size = eb at *
   have hc := Qb HXe.out
   by_cases hx : x ≤ bar
   ·by_cases hy : bar < y
    ·by_cases hz : z = pass
     ·have HF := Qa (show endB f.ends bar pass = endB (f.ends.drop (k + 1)) bar pass by rw [HT.out, HS.out]; simp [hz])
      have hzb : (z != pass) = false := by simp [hz]
      clear hz
      go_wp2
      go_roundw
      case rel => exact ⟨k + 1, by omega, by go_num, HF, HXr.out, HB2.out⟩
      case measure => simp [intOf]; omega
     ·have HF := Qa (show endB f.ends bar pass = true by rw [HT.out, HS.out]; simp [hx, hy, hz])
      have hzb : (z != pass) = true := by simp [hz]
      go_wp2
      go_ret
      exact ⟨Qf (by rw [HF.out]; rfl), HB2.out⟩
    ·have HF := Qa (show endB f.ends bar pass = endB (f.ends.drop (k + 1)) bar pass by rw [HT.out, HS.out]; simp [hy])
     go_wp2
     go_roundw
     case rel => exact ⟨k + 1, by omega, by go_num, HF, HXr.out, HB2.out⟩
     case measure => simp [intOf]; omega
   ·have HF := Qa (show endB f.ends bar pass = endB (f.ends.drop (k + 1)) bar pass by rw [HT.out, HS.out]; simp [hx])
    go_wp2
    go_roundw
    case rel => exact ⟨k + 1, by omega, by go_num, HF, HXr.out, HB2.out⟩
    case measure => simp [intOf]; omega
  ·have HF := Qa (show endB f.ends bar pass = false by rw [HT.out, List.drop_eq_nil_of_le (by omega)]; rfl)
   go_wp2
   go_ret
   exact ⟨Qf (by rw [HF.out]; rfl), HB2.out⟩
theorem starts_any (f : Fo) (q : Fp) (bar : Int) (w : World) (hf : FoFew f) (hm : R3At w q.ra f.reps) :
  Calls Tryz.prog 234 #[.agg #[.int .i64 f.bars, .slice q.ra f.reps.length q.rc, .slice q.ea f.ends.length q.ec, .int .i64 f.jump.x, .int .i64 f.jump.y, .int .i64 f.jump.z, .slice q.ca f.cuts.length q.cc], .int .i64 bar] w fun e w' => e = .returned (.int .i64 (idxO (fun r => r.x == bar) f.reps)) ∧ RowKit.Below w.heap.size w w' := by
 have hx := heap_alloc_new w (.cells #[.int .i64 f.bars, .slice q.ra f.reps.length q.rc, .slice q.ea f.ends.length q.ec, .int .i64 f.jump.x, .int .i64 f.jump.y, .int .i64 f.jump.z, .slice q.ca f.cuts.length q.cc] 109)
 have hb := (RowKit.Below.refl w.heap.size w).alloc (Nat.le_refl _) (.cells #[.int .i64 f.bars, .slice q.ra f.reps.length q.rc, .slice q.ea f.ends.length q.ec, .int .i64 f.jump.x, .int .i64 f.jump.y, .int .i64 f.jump.z, .slice q.ca f.cuts.length q.cc] 109)
 have hfe := hf.reps
 have HM := Qa hm
 clear hm hf
 go_enter Tryz.func234, Tryz.ntmps234
 go_upto_region 1 with (fail)
 have HX := Qa hx; have HB := Qa hb
 clear hx hb
 generalize w.alloc (.cells #[.int .i64 f.bars, .slice q.ra f.reps.length q.rc, .slice q.ea f.ends.length q.ec, .int .i64 f.jump.x, .int .i64 f.jump.y, .int .i64 f.jump.z, .slice q.ca f.cuts.length q.cc] 109) = W at *
 have hc := Qb HX.out
 go_wp2
 go_loopw [5] (fun i wr => ∃ k : Nat, k ≤ f.reps.length ∧ i = .int .i64 k ∧ (∀ j (hj : j < f.reps.length), j < k → (f.reps[j].x == bar) = false) ∧ wr = W) (fun i _ => f.reps.length - (intOf i).toNat)
 case atStart => exact ⟨0, Nat.zero_le _, rfl, fun j hj h => by omega, rfl⟩
 case round =>
  obtain ⟨k, hk, rfl, hall, hw⟩ := hrel
  subst hw
  have HA := Qa hall
  clear hall
  by_cases hlt : k < f.reps.length
  ·obtain ⟨b, off, e, _, d0, d1, d2⟩ := (HM.out.below HB.out).get k hlt
   rw [e] at hc
   have hli : (k : Int) < (f.reps.length : Int) := by omega
   have HT := Qa (fun h : (f.reps[k].x == bar) = true => Zv (p := fun r : R3 => r.x == bar) hlt h HA.out)
   have HF := Qa (fun h : (f.reps[k].x == bar) = false => (fun j (hj : j < f.reps.length) (hjk : j < k + 1) => if e : j = k then by subst e; exact h else HA.out j hj (by omega) : ∀ j (hj : j < f.reps.length), j < k + 1 → (f.reps[j].x == bar) = false))
   generalize f.reps[k] = r at *
   obtain ⟨x, y, z⟩ := r
   dsimp only at *
   cases hpd : (x == bar)
   ·have HF2 := Qa (HF.out hpd)
    go_wp2
    go_roundw
    case rel => exact ⟨k + 1, by omega, by go_num, HF2.out, trivial⟩
    case measure => simp [intOf]; omega
   ·have HT2 := Qa (HT.out hpd)
    go_wp2
    go_ret
    exact ⟨QK HT2.out.symm, HB.out⟩
  ·have HT2 := Qa (Q0 (p := fun r : R3 => r.x == bar) fun j hj => HA.out j hj (by omega))
   go_wp2
   go_ret
   exact ⟨QK HT2.out.symm, HB.out⟩
end Go.Proofs.YtajijcfikihhjaaGreatDoor
