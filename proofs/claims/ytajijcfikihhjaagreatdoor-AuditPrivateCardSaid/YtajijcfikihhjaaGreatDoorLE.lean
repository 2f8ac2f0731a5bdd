import Derived.Test.YtajijcfikihhjaaGreatDoorLD
set_option linter.unusedSimpArgs false
set_option linter.unusedVariables false
set_option maxRecDepth 100000
set_option maxHeartbeats 16000000
namespace Go.Proofs.YtajijcfikihhjaaGreatDoor
open Go.RowKit Go.Sort Go.Shelf
attribute [local go_sem] Oper.semAt_some
theorem JH {b : Int} {e : En} (h : e.wide) : (Zd b e).wide := by
 unfold Zd
 split
 ·refine ⟨?_, ?_⟩ <;> (show _ ; dsimp only; rw [IntKind.wrap_u64]; have e : (2 : Int) ^ 64 = 18446744073709551616 := (by decide); omega)
 ·exact h
theorem EntsOk.seal {b : Int} {es : List En} (h : EntsOk es) : EntsOk (es.map (Zd b)) :=
 ⟨fun e he => by obtain ⟨y, hy, rfl⟩ := List.mem_map.1 he; exact seal_ok (h.1 y hy), List.pairwise_map.2 (h.2.imp fun {p q} hab => by rw [(Z6 b p).1, (Z6 b q).1]; exact hab)⟩
theorem seal_step {st : Int} {es : List En} (h1 : 1 ≤ st ∧ st ≤ 1000000) (h : EntsOk es) (hl : es.length ≤ 5000) (b : Int) (k : Nat) (hk : k < es.length) : QR (mkLg st ((es.take k).map (Zd b))) (Zd b es[k]) = (mkLg st ((es.take (k + 1)).map (Zd b)), 0) := by
 rw [Y1 h1 (by simp; omega) (EntsOk.seal (h.sub (List.take_sublist _ _))) (seal_ok (h.1 _ (List.getElem_mem hk))) (fun x hx => by
  obtain ⟨y, hy, rfl⟩ := List.mem_map.1 hx
  rw [(Z6 b y).1, (Z6 b _).1]; exact h.le k hk y hy), List.take_succ_eq_append_getElem hk, List.map_append]; rfl
theorem less_step {st : Int} {es : List En} (h1 : 1 ≤ st ∧ st ≤ 1000000) (h : EntsOk es) (hl : es.length ≤ 5000) (k : Nat) (hk : k < es.length) (hm : es[k].kind ≠ 4) : QR (mkLg st ((es.take k).filter noMark)) es[k] = (mkLg st ((es.take (k + 1)).filter noMark), 0) := by
 have hle : ((es.take k).filter noMark).length ≤ k := Nat.le_trans (List.length_filter_le _ _) (by simp; omega)
 rw [Y1 h1 (by omega) ((h.sub (List.take_sublist _ _)).sub List.filter_sublist) (h.1 _ (List.getElem_mem hk)) (fun x hx => h.le k hk x ((List.mem_filter.1 hx).1)), List.take_succ_eq_append_getElem hk, List.filter_append, show [es[k]].filter noMark = [es[k]] from by simp [noMark, hm]]
theorem less_stay {es : List En} (k : Nat) (hk : k < es.length) (hm : es[k].kind = 4) : (es.take (k + 1)).filter noMark = (es.take k).filter noMark := by
 rw [List.take_succ_eq_append_getElem hk, List.filter_append, show [es[k]].filter noMark = [] from by simp [noMark, hm], List.append_nil]
def posI (es : List En) : List Int := (posN 0 es).map fun n : Nat => (n : Int)
theorem posI_len (es : List En) : (posI es).length = (es.filter noMark).length := by unfold posI; rw [List.length_map, Jt]
theorem posI_step (es : List En) (k : Nat) (hk : k < es.length) : posI (es.take (k + 1)) = posI (es.take k) ++ (if es[k].kind = 4 then [] else [(k : Int)]) := by
 unfold posI
 rw [List.take_succ_eq_append_getElem hk, posN_snoc, List.map_append]
 congr 1
 split <;> simp <;> omega
theorem logsB_mk {st : Int} {es : List En} (h1 : 1 ≤ st ∧ st ≤ 1000000) (h2 : es.length ≤ 5000) (h3 : EntsOk es) : QU [mkLg st es] = true := by
 unfold QU; simp [Jn h1 h2 h3]
theorem less_at (L : Lb) (d : List De) (st : Int) (es : List En) : (V0 L d (mkLg st (es.filter noMark))).length = (V0 L d (mkLg st es)).length ∧ ∀ j (h : j < (V0 L d (mkLg st (es.filter noMark))).length) (h' : j < (V0 L d (mkLg st es)).length),
  ∃ m : Nat, ∃ hm : m < (posI es).length, (V0 L d (mkLg st (es.filter noMark)))[j].en = (m : Int) ∧ (V0 L d (mkLg st es))[j] = ⟨(V0 L d (mkLg st (es.filter noMark)))[j].st, (V0 L d (mkLg st (es.filter noMark)))[j].rule, (posI es)[m]⟩ := by
 have h := Jg L d st es 0 0 0 0
 have e1 : V0 L d (mkLg st (es.filter noMark)) = QA L d st 0 0 0 (es.filter noMark) := rfl
 have e2 : V0 L d (mkLg st es) = QA L d st 0 0 0 es := rfl
 rw [e1, e2]
 have hb := Zt L d st (es.filter noMark) 0 0 0
 rw [← h]
 refine ⟨(List.length_map _).symm, fun j hj hj' => ?_⟩
 obtain ⟨_, h1, h2⟩ := hb _ (List.getElem_mem hj)
 have hpl : (posI es).length = (es.filter noMark).length := posI_len es
 have hpn : (posN 0 es).length = (es.filter noMark).length := Jt es 0
 refine ⟨((QA L d st 0 0 0 (es.filter noMark))[j].en).toNat, by omega, by omega, ?_⟩
 have hlt : ((QA L d st 0 0 0 (es.filter noMark))[j].en).toNat < (posN 0 es).length := by omega
 rw [List.getElem_map]
 unfold posI
 simp [List.getD_eq_getElem?_getD, List.getElem?_eq_getElem hlt]
theorem eql_vd (x y z : Int) (w : World) : (binOp .eql 46 (.agg #[.int .i64 x, .int .i64 y, .int .i64 z]) (.agg #[.int .i64 x, .int .i64 y, .int .i64 z])).run Tryz.prog w = .ok (.bool true) w := by
 rw [run_eql_struct]
 simp [go_sem]
def BxG (B : Nat) (made full : Bool) (x : Value) (v : World) (o : Obj) : Prop := made = true → ∃ c u0 u1 u2, x = .pointer (some ⟨c, 0, none⟩) ∧ B ≤ c ∧ v.heap[c]? = some (.cells #[u0, u1, u2] 44 (0, 0)) ∧ (full = true → v.heap[c]? = some o)
theorem BxG.below {B : Nat} {v v' : World} {m f : Bool} {x : Value} {o : Obj} (h : BxG B m f x v o) (hb : Below v.heap.size v v') : BxG B m f x v' o := fun hm => by
 obtain ⟨c, u0, u1, u2, e, hc, hz, hf⟩ := h hm
 exact ⟨c, u0, u1, u2, e, hc, Qc hz hb, fun h => Qc (hf h) hb⟩
theorem BxG.set {B : Nat} {v : World} {m f : Bool} {x : Value} {o : Obj} (h : BxG B m f x v o) {c : Nat} (hne : m = true → x ≠ .pointer (some ⟨c, 0, none⟩)) (v0 v1 v2 : Value) : BxG B m f x (Go.Proofs.YtajijcfikihhjaaGreatDoor.set3 v c v0 v1 v2) o := fun hm => by
 obtain ⟨c', u0, u1, u2, e, hc, hz, hf⟩ := h hm
 have hn : c' ≠ c := fun e2 => hne hm (by rw [e, e2])
 exact ⟨c', u0, u1, u2, e, hc, ZU hz hn _ _ _, fun h => ZU (hf h) hn _ _ _⟩
theorem BxG.ne {B : Nat} {v : World} {m f : Bool} {x : Value} {o : Obj} (h : BxG B m f x v o) (hm : m = true) : Value.pointer (some ⟨v.heap.size, 0, none⟩) ≠ x := fun e => by
 obtain ⟨c, _, _, _, e2, _, hz, _⟩ := h hm
 rw [e2] at e
 have h9 := Qd hz
 injection e with e
 injection e with e
 injection e with e
 omega
theorem EnTy.below {w w' : World} {a : Option Addr} (h : EnTy w a) (hb : Below w.heap.size w w') : EnTy w' a := fun ad e => by obtain ⟨cs, hc⟩ := h ad e; exact ⟨cs, Qc hc hb⟩
theorem EnTy.set3 {w : World} {a : Option Addr} (h : EnTy w a) {b : Nat} {c0 c1 c2 : Value} (hb : w.heap[b]? = some (.cells #[c0, c1, c2] 44 (0, 0))) (v0 v1 v2 : Value) : EnTy (Go.Proofs.YtajijcfikihhjaaGreatDoor.set3 w b v0 v1 v2) a := fun ad e => by
 obtain ⟨cs, hc⟩ := h ad e
 have hn : ad.block ≠ b := fun e => by rw [e, hb] at hc; injection hc with hc; injection hc with _ h2; exact absurd h2 (by decide)
 exact ⟨cs, ZU hc hn _ _ _⟩
theorem Y0 {w w' : World} {B k sz : Nat} {E T : TypeId} {v : Value} {rows : List (List Value)} {cs : Array Value} {fr : Nat × Nat} (hb : w.heap[k]? = some (.cells cs T fr)) (o : OwnR w B E sz v rows) (hg : w.grownBy w' v.ownBlock) (hT : T ≠ E) : w'.heap[k]? = some (.cells cs T fr) :=
 (hg.block k (Qd hb) fun e => by
  obtain ⟨cur, h2⟩ := o.isCells e.symm
  rw [hb] at h2; injection h2 with h2; injection h2 with _ h3; exact hT h3).trans hb
theorem EnTy.grown {w w' : World} {a : Option Addr} {es : List En} {B : Nat} {v : Value} {rows : List (List Value)} (t : EnTy w a) (h : EnAt w a es) (o : OwnR w B 3 1 v rows) (hg : w.grownBy w' v.ownBlock) : EnAt w' a es ∧ EnTy w' a := by
 have key : ∀ ad, a = some ad → ∃ cs, w.heap[ad.block]? = some (.cells cs 50 (0, 0)) ∧ w'.heap[ad.block]? = some (.cells cs 50 (0, 0)) := fun ad e => by
  obtain ⟨cs, hc⟩ := t ad e
  exact ⟨cs, hc, Y0 hc o hg (by decide)⟩
 exact ⟨SlAt.block h hg.size fun ad e => by obtain ⟨cs, h1, h2⟩ := key ad e; rw [h1, h2], fun ad e => by obtain ⟨cs, _, h2⟩ := key ad e; exact ⟨cs, h2⟩⟩
theorem AuditPrivate_any (L : Lb) (P : Lbp) (d : List De) (da : Option Addr) (dc : Nat) (l : List (Lg × Lq)) (a : Option Addr) (cap : Nat) (by_ : Int) (w : World) (h : ArgA w L P d da dc l a cap) :
  Calls Tryz.prog 6 #[.agg #[.slice (P).wa (L).ws.length (P).wc, .slice (P).ea (L).eds.length (P).ec, .slice (P).sa (L).shs.length (P).sc, .slice (P).la (L).los.length (P).lc], .slice da d.length dc, .slice a l.length cap, .int .u64 by_] w fun e w' => e = .returned (.bool true) ∧ Below w.heap.size w w' := by
 have HA := Qa (fun V (hV : Below w.heap.size w V) => h.below hV)
 have HF := Qa (fun hf => h.few hf)
 have HX := Qa (heap_alloc_new w (.cells #[.slice (P).wa (L).ws.length (P).wc, .slice (P).ea (L).eds.length (P).ec, .slice (P).sa (L).shs.length (P).sc, .slice (P).la (L).los.length (P).lc] 27 (0, 0)))
 have HB := Qa (Qg (w := w) (.cells #[.slice (P).wa (L).ws.length (P).wc, .slice (P).ea (L).eds.length (P).ec, .slice (P).sa (L).shs.length (P).sc, .slice (P).la (L).los.length (P).lc] 27 (0, 0)))
 have HUs := Qa (fun V (hV : Below w.heap.size w V) => Y6 L P d da dc l a cap V (h.below hV))
 clear h
 go_enter Tryz.func6, Tryz.ntmps6
 go_upto_region 1 with (fail)
 generalize w.alloc (.cells #[.slice (P).wa (L).ws.length (P).wc, .slice (P).ea (L).eds.length (P).ec, .slice (P).sa (L).shs.length (P).sc, .slice (P).la (L).los.length (P).lc] 27 (0, 0)) = W at *
 have hc := Qb HX.out
 go_upto_region 2 with (go_at_call 9; refine (Jh _ (HA.out _ HB.out).env).mono ?_; rintro e w2 ⟨rfl, hb⟩; replace HX := bk HX hb; replace HB := bu HB hb; clear hb hc; have hc := Qb HX.out)
 cases hf : useB L d (Qp l)
 ·rw [hf] at HUs
  go_wp2_with (go_at_call 17; refine (HUs.out _ HB.out).mono ?_; rintro e w3 ⟨rfl, hb⟩; replace HX := bk HX hb; replace HB := bu HB hb; clear hb hc; have hc := Qb HX.out)
  go_ret
  exact ⟨rfl, HB.out⟩
 rw [hf] at HUs
 by_cases hl0 : l.length = 0
 ·have hl1 : ((l.length : Int) == 0) = true := by simp [hl0]
  clear hl0
  go_wp2_with (go_at_call 17; refine (HUs.out _ HB.out).mono ?_; rintro e w3 ⟨rfl, hb⟩; replace HX := bk HX hb; replace HB := bu HB hb; clear hb hc; have hc := Qb HX.out)
  go_ret
  exact ⟨rfl, HB.out⟩
 have hl1 : ((l.length : Int) == 0) = false := by rw [beq_eq_false_iff_ne]; omega
 obtain ⟨hf1, hf2, hf3⟩ := JZ hf
 have HFew := Qa (HF.out hf1)
 obtain ⟨x, p, hx0⟩ : ∃ x p, l[0]'(by omega) = (x, p) := ⟨_, _, rfl⟩
 have hml : (x, p) ∈ l := by rw [← hx0]; exact List.getElem_mem _
 have hmg : x ∈ Qp l := List.mem_map.2 ⟨_, hml, rfl⟩
 have hes : x.es.length ≤ 20 := HFew.out.es _ hml
 have hv := JY ((show Qw x = true from by have := hf3; unfold QU at this; simp only [Bool.and_eq_true, List.all_eq_true] at this; exact this.1 x hmg))
 have hwx := HFew.out.lgs.wide _ hml
 have HP1 := Qa (fun a1 c1 V (hV : Below w.heap.size w V) (hk : SlOk a1 1 c1) (ha : LgsAt V a1 [(x, p)]) => by
  have h := QY L P d da dc [(x, p)] a1 c1 V HFew.out.lib HFew.out.bars HFew.out.dec (HFew.out.lgs.one hml) (HA.out V hV).env (HA.out V hV).lib (HA.out V hV).dec hk ha
  rw [show Qp [(x, p)] = [x] from rfl, Jk hf2 hf3 hmg] at h
  exact h)
 have HPy := Qa (fun (es : List En) (he : EntsOk es) (hle : es.length ≤ 20) (hwe : ∀ e ∈ es, e.wide) p1 a1 c1 V (hV : Below w.heap.size w V) (hk : SlOk a1 1 c1) (hky : SlOk p1.a es.length p1.c) (ha : LgsAt V a1 [(mkLg x.st es, p1)]) => by
  have h := QY L P d da dc [(mkLg x.st es, p1)] a1 c1 V HFew.out.lib HFew.out.bars HFew.out.dec ⟨by simp, fun z hz => by rw [List.mem_singleton.1 hz]; show es.length ≤ 800; omega, fun z hz => by rw [List.mem_singleton.1 hz]; exact hwe, fun z hz => by rw [List.mem_singleton.1 hz]; exact hky⟩ (HA.out V hV).env (HA.out V hV).lib (HA.out V hV).dec hk ha
  rw [show Qp [(mkLg x.st es, p1)] = [mkLg x.st es] from rfl, ZL (by simp) hf2 (logsB_mk hv.1 (by omega) he), Yc] at h
  exact h)
 have HPo := Qa (fun L1 (hL : L1 = mkLg x.st (x.es.map (Zd by_))) p1 a1 c1 V (hV : Below w.heap.size w V) (hk : SlOk a1 1 c1) (hky : SlOk p1.a L1.es.length p1.c) (ha : LgsAt V a1 [(L1, p1)]) => by
  have h := HPy.out (x.es.map (Zd by_)) (EntsOk.seal hv.2.2.1) (by simpa using hes) (fun e he => by obtain ⟨y, hy, rfl⟩ := List.mem_map.1 he; exact JH (hwx y hy)) p1 a1 c1 V hV hk (by rw [hL] at hky; exact hky) (by rw [hL] at ha; exact ha)
  rw [show V0 L d (mkLg x.st (x.es.map (Zd by_))) = V0 L d x from seal_verds L d x.st by_ x.es 0 0 0] at h
  exact h)
 have HPl := Qa (fun L1 (hL : L1 = mkLg x.st (x.es.filter noMark)) p1 a1 c1 V (hV : Below w.heap.size w V) (hk : SlOk a1 1 c1) (hky : SlOk p1.a L1.es.length p1.c) (ha : LgsAt V a1 [(L1, p1)]) => by
  have h := HPy.out (x.es.filter noMark) (hv.2.2.1.sub List.filter_sublist) (Nat.le_trans (List.length_filter_le _ _) hes) (fun e he => hwx e ((List.mem_filter.1 he).1)) p1 a1 c1 V hV hk (by rw [hL] at hky; exact hky) (by rw [hL] at ha; exact ha)
  exact h)
 have HLs := Qa (less_at L d x.st x.es)
 rw [← hv.2.2.2] at HLs
 have HAo := Qa (fun k (hk : k < x.es.length) L1 (hL : L1 = mkLg x.st ((x.es.take k).map (Zd by_))) a1 c1 V (hV : Below w.heap.size w V) (hk1 : SlOk a1 L1.es.length c1) (h2 : EnAt V a1 L1.es) => by
  have h := Ym (mkLg x.st ((x.es.take k).map (Zd by_))) a1 c1 (Zd by_ x.es[k]) V (by show ((x.es.take k).map (Zd by_)).length ≤ 900; simp; omega) (by rw [hL] at hk1; exact hk1) (fun e he => by obtain ⟨y, hy, rfl⟩ := List.mem_map.1 he; exact JH (hwx y (List.mem_of_mem_take hy))) (JH (hwx _ (List.getElem_mem hk))) (HA.out V hV).env (by rw [hL] at h2; exact h2)
  rw [seal_step hv.1 hv.2.2.1 (by omega) by_ k hk, ← hL] at h
  exact h)
 have HAl := Qa (fun k (hk : k < x.es.length) (hm : x.es[k].kind ≠ 4) L1 (hL : L1 = mkLg x.st ((x.es.take k).filter noMark)) a1 c1 V (hV : Below w.heap.size w V) (hk1 : SlOk a1 L1.es.length c1) (h2 : EnAt V a1 L1.es) => by
  have h := Ym (mkLg x.st ((x.es.take k).filter noMark)) a1 c1 x.es[k] V (Nat.le_trans (List.length_filter_le _ _) (by simp; omega)) (by rw [hL] at hk1; exact hk1) (fun e he => hwx e (List.mem_of_mem_take ((List.mem_filter.1 he).1))) (hwx _ (List.getElem_mem hk)) (HA.out V hV).env (by rw [hL] at h2; exact h2)
  rw [less_step hv.1 hv.2.2.1 (by omega) k hk hm, ← hL] at h
  exact h)
 have HN := Qa (show (V0 L d x).length ≤ 2 * x.es.length from ZT L d x.st x.es 0 0 0)
 have HSb := Qa (fun V (hV : Below w.heap.size w V) => by
  obtain ⟨b, off, e, h⟩ := (HA.out V hV).lgs.sub 0 (by omega)
  rw [hx0, Nat.zero_mul, Nat.add_zero] at h
  exact (show ∃ b off, a = some ⟨b, off, none⟩ ∧ LgsAt V (some ⟨b, off, none⟩) [(x, p)] from ⟨b, off, e, h⟩))
 have HEn := Qa (fun V (hV : Below w.heap.size w V) => (show EnAt V p.a x.es from (HA.out V hV).lgs.es _ hml))
 have hcap : l.length ≤ cap := (HA.out _ HB.out).lk.1
 clear hf hf1 hf2 hf3 HF hx0 hml hmg hv HFew hwx HPy
 generalize V0 L d (mkLg x.st (x.es.filter noMark)) = Vl at *
 generalize V0 L d x = Vx at *
 go_upto_region 4 with (go_at_call 17; refine (HUs.out _ HB.out).mono ?_; rintro e w3 ⟨rfl, hb⟩; replace HX := bk HX hb; replace HB := bu HB hb; clear hb hc; have hc := Qb HX.out)
 obtain ⟨b, off, ea, hsub⟩ := HSb.out _ HB.out
 obtain ⟨b', off', e', d0, d1, d2⟩ := hsub.get 0 (by simp)
 cases e'
 simp only [Nat.zero_mul, Nat.add_zero, List.getElem_cons_zero] at d0 d1 d2
 have HSub := Qa (fun V (hV : Below w3.heap.size w3 V) => hsub.below hV)
 have HD := Qa (fun V (hV : Below w3.heap.size w3 V) => show V.cell? ⟨b, off, none⟩ = some (.int .i64 x.st) ∧ V.cell? ⟨b, off + 1, none⟩ = some (.slice p.a x.es.length p.c) ∧ V.cell? ⟨b, off + 2, none⟩ = some (.int .u64 x.ch) from ⟨Qq d0 hV, Qq d1 hV, Qq d2 hV⟩)
 have hll : (0 : Int) < (l.length : Int) := by omega
 have hll2 : 0 < l.length := by omega
 have hcp : (1 : Int) ≤ (cap : Int) := by omega
 have hw3 := HB.out.size
 clear HSb hsub HUs
 rw [ea]
 clear ea
 go_cut [10, 11] (fun s10 s11 V => ∃ b1 b2, s10 = .pointer (some ⟨b1, 0, none⟩) ∧ s11 = .pointer (some ⟨b2, 0, none⟩) ∧ w3.heap.size ≤ b1 ∧ w3.heap.size ≤ b2 ∧ b1 ≠ b2 ∧ V.heap[b1]? = some (.cells #[.int .i64 x.st, .slice none 0 0, .int .u64 0] 44 (0, 0)) ∧ V.heap[b2]? = some (.cells #[.int .i64 x.st, .slice none 0 0, .int .u64 0] 44 (0, 0)) ∧ Below w3.heap.size w3 V)
 case first =>
  refine wp_region_noPanic ?_
  refine wp_region_held_drew (S := fun V => V.cell? ⟨b, off, none⟩ = some (.int .i64 x.st)) (by kernel_rfl) (HD.out _ (Below.refl _ _).drew).1 (fun hHeld => ?_)
  (refine tk 0 (v := ?_) ?_ ?_; rotate_left; (· intro wq hSw; go_simp; try rfl))
  (refine tk 1 (v := ?_) ?_ ?_; rotate_left; (· intro wq hSw; go_simp; try rfl))
  (refine tk 2 (v := ?_) ?_ ?_; rotate_left; (· intro wq hSw; go_simp; try rfl))
  (refine tk 3 (v := ?_) ?_ ?_; rotate_left; (· intro wq hSw; go_simp; try rfl))
  (refine tk 4 (v := ?_) ?_ ?_; rotate_left; (· intro wq hSw; go_simp; try rfl))
  (refine tk 5 (v := ?_) ?_ ?_; rotate_left; (· intro wq hSw; go_simp; try rfl))
  (refine tk 6 (v := ?_) ?_ ?_; rotate_left; (· intro wq hSw; go_simp; try rfl))
  (refine tk 7 (v := ?_) ?_ ?_; rotate_left; (· intro wq hSw; go_simp; try rfl))
  (refine tk 8 (v := ?_) ?_ ?_; rotate_left; (· intro wq hSw; go_simp; try rfl))
  (refine tk 9 (v := ?_) ?_ ?_; rotate_left; (· intro wq hSw; go_simp; try rfl))
  refine Yn [10, 11, 12, 13] (fun A D a v => ∃ x10 x11, a = (A.put (some 10) x10).put (some 11) x11 ∧ BxG w3.heap.size (D 10) (D 12) x10 v (.cells #[.int .i64 x.st, .slice none 0 0, .int .u64 0] 44 (0, 0)) ∧ BxG w3.heap.size (D 11) (D 13) x11 v (.cells #[.int .i64 x.st, .slice none 0 0, .int .u64 0] 44 (0, 0)) ∧ (D 10 = true → D 11 = true → x10 ≠ x11) ∧ (D 12 = true → D 10 = true) ∧ (D 13 = true → D 11 = true) ∧ Below w3.heap.size w3 v) (by kernel_rfl) rfl rfl (by kernel_rfl) ?_ ?_ ?_ ?_
  ·refine ⟨_, _, rfl, fun h => absurd h (by decide), fun h => absurd h (by decide), fun h => absurd h (by decide), fun h => absurd h (by decide), fun h => absurd h (by decide), (Below.refl _ _).drew⟩
  ·rintro D b1 v ⟨x10, x11, _, _, _, _, _, _, hb⟩
   exact (HD.out _ hb).1
  ·rintro D b1 v ⟨x10, x11, rfl, h10, h11, hne, d12, d13, hb⟩
   refine sc (fun hd hdep => ?_) ?_
   ·intro K hK
    (try simp only [Act.put, List.setIfInBounds_toArray, List.set_cons_zero, List.set_cons_succ])
    go_simp
    exact hK.out _ _ ⟨_, x11, rfl, fun _ => ⟨v.heap.size, _, _, _, rfl, hb.size, heap_alloc_new _ _, fun h => by have h9 := d12 h; rw [hd] at h9; cases h9⟩, h11.below (Qg _), fun _ h7 => h11.ne h7, fun _ => rfl, d13, hb.alloc hb.size _⟩
   refine sc (fun hd hdep => ?_) ?_
   ·intro K hK
    (try simp only [Act.put, List.setIfInBounds_toArray, List.set_cons_zero, List.set_cons_succ])
    go_simp
    exact hK.out _ _ ⟨x10, _, rfl, h10.below (Qg _), fun _ => ⟨v.heap.size, _, _, _, rfl, hb.size, heap_alloc_new _ _, fun h => by have h9 := d13 h; rw [hd] at h9; cases h9⟩, fun h6 _ => (h10.ne h6).symm, d12, fun _ => rfl, hb.alloc hb.size _⟩
   refine sc (fun hd hdep => ?_) ?_
   ·have hdd := hdep ⟨10, .data⟩ (by simp) rfl
    clear hdep
    obtain ⟨c, u0, u1, u2, rfl, hc, hz, _⟩ := h10 hdd
    have hcc := Qb hz; have hff := Qe hz; have hlz := Qd hz
    intro K hK
    (try simp only [Act.put, List.setIfInBounds_toArray, List.set_cons_zero, List.set_cons_succ])
    go_simp
    exact hK.out _ _ ⟨_, x11, rfl, fun _ => ⟨c, _, _, _, rfl, hc, Q9 hz _ _ _, fun _ => Q9 hz _ _ _⟩, h11.set (fun h7 => (hne hdd h7).symm) _ _ _, hne, fun _ => hdd, d13, QD hb hc _ _ _⟩
   refine sc (fun hd hdep => ?_) ?_
   ·have hdd := hdep ⟨11, .data⟩ (by simp) rfl
    clear hdep
    obtain ⟨c, u0, u1, u2, rfl, hc, hz, _⟩ := h11 hdd
    have hcc := Qb hz; have hff := Qe hz; have hlz := Qd hz
    intro K hK
    (try simp only [Act.put, List.setIfInBounds_toArray, List.set_cons_zero, List.set_cons_succ])
    go_simp
    exact hK.out _ _ ⟨x10, _, rfl, h10.set (fun h6 => hne h6 hdd) _ _ _, fun _ => ⟨c, _, _, _, rfl, hc, Q9 hz _ _ _, fun _ => Q9 hz _ _ _⟩, hne, d12, fun _ => hdd, QD hb hc _ _ _⟩
   exact StepAll.nil
  ·rintro D b1 v hall ⟨x10, x11, rfl, h10, h11, hne, d12, d13, hb⟩
   obtain ⟨c, _, _, _, rfl, hc, _, hz⟩ := h10 (hall 10 (by simp))
   obtain ⟨c', _, _, _, rfl, hc', _, hz'⟩ := h11 (hall 11 (by simp))
   have hcc' : c ≠ c' := fun e => hne (hall 10 (by simp)) (hall 11 (by simp)) (by rw [e])
   replace hz := hz (hall 12 (by simp)); replace hz' := hz' (hall 13 (by simp))
   (try simp only [Act.put, List.setIfInBounds_toArray, List.set_cons_zero, List.set_cons_succ])
   refine NoPanic.normal ?_
   go_wp2
   go_meet
   case rel => exact ⟨c, c', rfl, rfl, hc, hc', hcc', hz, hz', hb⟩
 case rest =>
 obtain ⟨b1, b2, rfl, rfl, hB1, hB2, hne, hz1, hz2, hbw⟩ := hcut
 have HZ1 := Qa hz1; have HZ2 := Qa hz2; have HBw := Qa hbw
 clear hz1 hz2 hbw hc
 generalize wc = W4 at *
 obtain ⟨d0, d1, d2⟩ := HD.out _ HBw.out
 have hszw := HBw.out.size
 obtain ⟨B0, hB0⟩ : ∃ B0, B0 = W4.heap.size := ⟨_, rfl⟩
 have hb1B : b1 < B0 := by rw [hB0]; exact Qd HZ1.out
 have hb2B : b2 < B0 := by rw [hB0]; exact Qd HZ2.out
 have hB03 : w3.heap.size ≤ B0 := by omega
 go_wp2
 go_loopw [9, 12, 51] (fun t9 t12 t51 wr => ∃ (k : Nat) (L1 L2 : Lg) (PN : List Int) (a1 : Option Addr) (c1 : Nat) (a2 : Option Addr) (c2 : Nat), k ≤ x.es.length ∧ t9 = .bool true ∧ t51 = .int .i64 k ∧ Hid (L1 = mkLg x.st ((x.es.take k).map (Zd by_))) ∧ Hid (L2 = mkLg x.st ((x.es.take k).filter noMark)) ∧ Hid (PN = posI (x.es.take k)) ∧ PN.length ≤ k ∧ wr.heap[b1]? = some (.cells #[.int .i64 (L1).st, .slice a1 (L1).es.length c1, .int .u64 (L1).ch] 44 (0, 0)) ∧ wr.heap[b2]? = some (.cells #[.int .i64 (L2).st, .slice a2 (L2).es.length c2, .int .u64 (L2).ch] 44 (0, 0)) ∧ SlOk a1 L1.es.length c1 ∧ EnAt wr a1 L1.es ∧ EnTy wr a1 ∧ SlOk a2 L2.es.length c2 ∧ EnAt wr a2 L2.es ∧ EnTy wr a2 ∧ OwnR wr B0 3 1 t12 (PN.map inRow) ∧ Below w3.heap.size w3 wr ∧ B0 ≤ wr.heap.size) (fun _ _ t51 _ => x.es.length - (intOf t51).toNat)
 case atStart => exact ⟨0, mkLg x.st [], mkLg x.st [], [], none, 0, none, 0, Nat.zero_le _, rfl, rfl, Qa rfl, Qa rfl, Qa rfl, Nat.zero_le _, by have := HZ1.out; exact this, by have := HZ2.out; exact this, SlOk.nil, SlAt.nil _ _ _, (fun _ h => by cases h), SlOk.nil, SlAt.nil _ _ _, (fun _ h => by cases h), OwnR.nil _ _ _ _, HBw.out, by omega⟩
 case round =>
  clear HZ1 HZ2 HBw d0 d1 d2
  obtain ⟨k, L1, L2, PN, a1, c1, a2, c2, hkn, rfl, rfl, E1, E2, E3, hpl, z1, z2, k1, n1, t1, k2, n2, t2, ho, hb, hBz⟩ := hrel
  have HZ1 := Qa z1; have HZ2 := Qa z2; have HK1 := Qa k1; have HN1 := Qa n1; have HK2 := Qa k2; have HN2 := Qa n2; have HT1 := Qa t1; have HT2 := Qa t2; have HO := Qa ho; have HBr := Qa hb
  clear z1 z2 k1 n1 t1 k2 n2 t2 ho hb
  by_cases hlt : k < x.es.length
  ·obtain ⟨be, offe, ee, g0, g1, g2, g3, g4, g5⟩ := EnAt.get (HEn.out _ (HB.out.trans (HBr.out.mono hw3))) k hlt
   have hki : (k : Int) < (x.es.length : Int) := by omega
   have hwk : IntKind.i64.wrap ((k : Int) + 1) = (k : Int) + 1 := IntWalk.i64_in _ (by omega)
   obtain ⟨M1, hM1⟩ : ∃ M1, M1 = mkLg x.st ((x.es.take (k + 1)).map (Zd by_)) := ⟨_, rfl⟩
   have HA1 := Qa (fun V hV h2 => HAo.out k hlt L1 E1.out a1 c1 V hV HK1.out h2)
   rw [← hM1] at HA1
   have HM1 := Qa hM1
   clear hM1
   rw [ee]
   clear ee
   by_cases hm : x.es[k].kind = 4
   ·have hq : (x.es[k].kind == 4) = true := by rw [hm]; rfl
    have HM2 := Qa (show L2 = mkLg x.st ((x.es.take (k + 1)).filter noMark) by rw [less_stay k hlt hm]; exact E2.out)
    have HM3 := Qa (show PN = posI (x.es.take (k + 1)) by rw [posI_step _ k hlt, if_pos hm, List.append_nil]; exact E3.out)
    rw [show Zd by_ x.es[k] = ⟨x.es[k].time, x.es[k].kind, x.es[k].a, x.es[k].b, x.es[k].c, IntKind.u64.wrap (x.es[k].dg + by_)⟩ from if_pos hm] at HA1
    dsimp only at HA1
    clear hm
    generalize x.es[k] = e at *
    go_upto_region 9 with (fail)
    have HN := Qa (heap_alloc_new wr (.cells #[.int .i64 (e).time, .int .i64 (e).kind, .int .i64 (e).a, .int .i64 (e).b, .int .i64 (e).c, .int .u64 (e).dg] 50 (0, 0)))
    obtain ⟨eb, heb⟩ : ∃ eb, eb = wr.heap.size := ⟨_, rfl⟩
    rw [← heb] at HN ⊢
    have HUp := Qa (show Below wr.heap.size wr (wr.alloc (.cells #[.int .i64 (e).time, .int .i64 (e).kind, .int .i64 (e).a, .int .i64 (e).b, .int .i64 (e).c, .int .u64 (e).dg] 50 (0, 0))) ∧ wr.heap.size ≤ eb from ⟨Qg _, by omega⟩)
    clear g0 g1 g2 g3 g4 g5 heb
    generalize wr.alloc (.cells #[.int .i64 (e).time, .int .i64 (e).kind, .int .i64 (e).a, .int .i64 (e).b, .int .i64 (e).c, .int .u64 (e).dg] 50 (0, 0)) = w2 at *
    have hd := Qb HN.out; have hfe := Qe HN.out; have hze := Qd HN.out
    go_upto_region 14 with (fail)
    have HN3 := Qa (show (w2.setCell ⟨eb, 5, none⟩ (.int .u64 (IntKind.u64.wrap (e.dg + by_)))).heap[eb]? = some (.cells #[.int .i64 e.time, .int .i64 e.kind, .int .i64 e.a, .int .i64 e.b, .int .i64 e.c, .int .u64 (IntKind.u64.wrap (e.dg + by_))] 50 (0, 0)) from heap_setCell_same _ eb 5 _ _ _ HN.out)
    have hb := HUp.out.1.setCell (p := ⟨eb, 5, none⟩) HUp.out.2 (.int .u64 (IntKind.u64.wrap (e.dg + by_)))
    clear hd hfe hze HN HUp
    generalize w2.setCell ⟨eb, 5, none⟩ (.int .u64 (IntKind.u64.wrap (e.dg + by_))) = wm at *
    replace HZ1 := bk HZ1 hb; replace HZ2 := bk HZ2 hb; replace HN1 := Qa (HN1.out.below hb); replace HN2 := Qa (HN2.out.below hb); replace HT1 := Qa (HT1.out.below hb); replace HT2 := Qa (HT2.out.below hb); replace HO := Qa (HO.out.below hb); replace hBz := Nat.le_trans hBz hb.size; replace HBr := bu HBr hb; clear hb
    have hc1 := Qb HZ1.out; have hd := Qb HN3.out
    go_wp2_with (go_at_call 19; refine (HA1.out _ (HB.out.trans (HBr.out.mono hw3)) HN1.out).mono ?_; rintro e5 w5 ⟨a5, c5, rfl, hk5, he5, hb, ht5⟩; have HK5 := Qa hk5; have HE5 := Qa he5; have HT5 := Qa ht5; clear hk5 he5 ht5 hc1 hd; (try replace HN := bk HN hb); replace HZ1 := bk HZ1 hb; replace HZ2 := bk HZ2 hb; replace HN1 := Qa (HN1.out.below hb); replace HN2 := Qa (HN2.out.below hb); replace HT1 := Qa (HT1.out.below hb); replace HT2 := Qa (HT2.out.below hb); replace HO := Qa (HO.out.below hb); replace hBz := Nat.le_trans hBz hb.size; replace HBr := bu HBr hb; clear hb; have hc3 := Qb HZ1.out; have hf3 := Qe HZ1.out; have hz3 := Qd HZ1.out)
    exact ⟨⟨k + 1, M1, L2, PN, a5, c5, a2, c2, by omega, rfl, by go_num, HM1, HM2, HM3, by omega, Q9 HZ1.out _ _ _, ZU HZ2.out (Ne.symm hne) _ _ _, HK5.out, EnAt.set3 HE5.out HZ1.out _ _ _, EnTy.set3 HT5.out HZ1.out _ _ _, HK2.out, EnAt.set3 HN2.out HZ1.out _ _ _, EnTy.set3 HT2.out HZ1.out _ _ _, ((HO.out.setAt (b := b1) (i := 0) hb1B _).setAt (b := b1) (i := 1) hb1B _).setAt (b := b1) (i := 2) hb1B _, QD HBr.out hB1 _ _ _, Nat.le_trans hBz (QD (Below.refl 0 w5) (Nat.zero_le _) _ _ _).size⟩, by simp [intOf]; omega⟩
   ·have hq : (x.es[k].kind == 4) = false := by rw [beq_eq_false_iff_ne]; exact hm
    obtain ⟨M2, hM2⟩ : ∃ M2, M2 = mkLg x.st ((x.es.take (k + 1)).filter noMark) := ⟨_, rfl⟩
    have HA2 := Qa (fun V hV h2 => HAl.out k hlt hm L2 E2.out a2 c2 V hV HK2.out h2)
    rw [← hM2] at HA2
    have HM2 := Qa hM2
    clear hM2
    have HM3 := Qa (show PN ++ [(k : Int)] = posI (x.es.take (k + 1)) by rw [posI_step _ k hlt, if_neg hm, E3.out])
    rw [show Zd by_ x.es[k] = x.es[k] from if_neg hm] at HA1
    clear hm
    generalize x.es[k] = e at *
    go_upto_region 9 with (fail)
    have HN := Qa (heap_alloc_new wr (.cells #[.int .i64 (e).time, .int .i64 (e).kind, .int .i64 (e).a, .int .i64 (e).b, .int .i64 (e).c, .int .u64 (e).dg] 50 (0, 0)))
    have hb := Qg (w := wr) (.cells #[.int .i64 (e).time, .int .i64 (e).kind, .int .i64 (e).a, .int .i64 (e).b, .int .i64 (e).c, .int .u64 (e).dg] 50 (0, 0))
    clear g0 g1 g2 g3 g4 g5
    replace HZ1 := bk HZ1 hb; replace HZ2 := bk HZ2 hb; replace HN1 := Qa (HN1.out.below hb); replace HN2 := Qa (HN2.out.below hb); replace HT1 := Qa (HT1.out.below hb); replace HT2 := Qa (HT2.out.below hb); replace HO := Qa (HO.out.below hb); replace hBz := Nat.le_trans hBz hb.size; replace HBr := bu HBr hb; clear hb
    generalize wr.alloc (.cells #[.int .i64 (e).time, .int .i64 (e).kind, .int .i64 (e).a, .int .i64 (e).b, .int .i64 (e).c, .int .u64 (e).dg] 50 (0, 0)) = w2 at *
    generalize wr.heap.size = eb at *
    have hc1 := Qb HZ2.out; have hd := Qb HN.out
    go_upto_region 13 with (go_at_call 19; refine (HA2.out _ (HB.out.trans (HBr.out.mono hw3)) HN2.out).mono ?_; rintro e5 w5 ⟨a5, c5, rfl, hk5, he5, hb, ht5⟩; have HK5 := Qa hk5; have HE5 := Qa he5; have HT5 := Qa ht5; clear hk5 he5 ht5 hc1 hd; (try replace HN := bk HN hb); replace HZ1 := bk HZ1 hb; replace HZ2 := bk HZ2 hb; replace HN1 := Qa (HN1.out.below hb); replace HN2 := Qa (HN2.out.below hb); replace HT1 := Qa (HT1.out.below hb); replace HT2 := Qa (HT2.out.below hb); replace HO := Qa (HO.out.below hb); replace hBz := Nat.le_trans hBz hb.size; replace HBr := bu HBr hb; clear hb; have hc3 := Qb HZ2.out; have hf3 := Qe HZ2.out; have hz3 := Qd HZ2.out)
    have hneb : eb ≠ b2 := fun e => by
     have h1 := HN.out; have h2 := HZ2.out
     rw [e, h2] at h1; injection h1 with h1; injection h1 with _ h3; exact absurd h3 (by decide)
    have HY1 := Qa (show ((((w5).setCell ⟨b2, 0, none⟩ (.int .i64 (M2).st)).setCell ⟨b2, 1, none⟩ (.slice a5 (M2).es.length c5)).setCell ⟨b2, 2, none⟩ (.int .u64 (M2).ch)).heap[b1]? = some (.cells #[.int .i64 (L1).st, .slice a1 (L1).es.length c1, .int .u64 (L1).ch] 44 (0, 0)) from ZU HZ1.out hne _ _ _)
    have HY2 := Qa (show ((((w5).setCell ⟨b2, 0, none⟩ (.int .i64 (M2).st)).setCell ⟨b2, 1, none⟩ (.slice a5 (M2).es.length c5)).setCell ⟨b2, 2, none⟩ (.int .u64 (M2).ch)).heap[b2]? = some (.cells #[.int .i64 (M2).st, .slice a5 (M2).es.length c5, .int .u64 (M2).ch] 44 (0, 0)) from Q9 HZ2.out _ _ _)
    have HYN := Qa (show ((((w5).setCell ⟨b2, 0, none⟩ (.int .i64 (M2).st)).setCell ⟨b2, 1, none⟩ (.slice a5 (M2).es.length c5)).setCell ⟨b2, 2, none⟩ (.int .u64 (M2).ch)).heap[eb]? = some (.cells #[.int .i64 (e).time, .int .i64 (e).kind, .int .i64 (e).a, .int .i64 (e).b, .int .i64 (e).c, .int .u64 (e).dg] 50 (0, 0)) from ZU HN.out hneb _ _ _)
    have HYn1 := Qa (show EnAt ((((w5).setCell ⟨b2, 0, none⟩ (.int .i64 (M2).st)).setCell ⟨b2, 1, none⟩ (.slice a5 (M2).es.length c5)).setCell ⟨b2, 2, none⟩ (.int .u64 (M2).ch)) a1 L1.es from EnAt.set3 HN1.out HZ2.out _ _ _)
    have HYn2 := Qa (show EnAt ((((w5).setCell ⟨b2, 0, none⟩ (.int .i64 (M2).st)).setCell ⟨b2, 1, none⟩ (.slice a5 (M2).es.length c5)).setCell ⟨b2, 2, none⟩ (.int .u64 (M2).ch)) a5 M2.es from EnAt.set3 HE5.out HZ2.out _ _ _)
    have HYt1 := Qa (show EnTy ((((w5).setCell ⟨b2, 0, none⟩ (.int .i64 (M2).st)).setCell ⟨b2, 1, none⟩ (.slice a5 (M2).es.length c5)).setCell ⟨b2, 2, none⟩ (.int .u64 (M2).ch)) a1 from EnTy.set3 HT1.out HZ2.out _ _ _)
    have HYt2 := Qa (show EnTy ((((w5).setCell ⟨b2, 0, none⟩ (.int .i64 (M2).st)).setCell ⟨b2, 1, none⟩ (.slice a5 (M2).es.length c5)).setCell ⟨b2, 2, none⟩ (.int .u64 (M2).ch)) a5 from EnTy.set3 HT5.out HZ2.out _ _ _)
    have HYo := Qa (show OwnR ((((w5).setCell ⟨b2, 0, none⟩ (.int .i64 (M2).st)).setCell ⟨b2, 1, none⟩ (.slice a5 (M2).es.length c5)).setCell ⟨b2, 2, none⟩ (.int .u64 (M2).ch)) B0 3 1 u12 (PN.map inRow) from ((HO.out.setAt (b := b2) (i := 0) hb2B _).setAt (b := b2) (i := 1) hb2B _).setAt (b := b2) (i := 2) hb2B _)
    have HYb := Qa (show Below w3.heap.size w3 ((((w5).setCell ⟨b2, 0, none⟩ (.int .i64 (M2).st)).setCell ⟨b2, 1, none⟩ (.slice a5 (M2).es.length c5)).setCell ⟨b2, 2, none⟩ (.int .u64 (M2).ch)) from QD HBr.out hB2 _ _ _)
    have hYz : B0 ≤ ((((w5).setCell ⟨b2, 0, none⟩ (.int .i64 (M2).st)).setCell ⟨b2, 1, none⟩ (.slice a5 (M2).es.length c5)).setCell ⟨b2, 2, none⟩ (.int .u64 (M2).ch)).heap.size := Nat.le_trans hBz (QD (Below.refl 0 w5) (Nat.zero_le _) _ _ _).size
    clear HZ1 HZ2 HN HN1 HN2 HE5 HT1 HT2 HT5 HO HBr hBz hc3 hf3 hz3
    generalize (((w5).setCell ⟨b2, 0, none⟩ (.int .i64 (M2).st)).setCell ⟨b2, 1, none⟩ (.slice a5 (M2).es.length c5)).setCell ⟨b2, 2, none⟩ (.int .u64 (M2).ch) = w6 at *
    go_upto_region 14 with (at_builtin; go_must (refine appE eltInt rfl (.tmp 70) (.tmp 72) rfl B0 _ PN rfl (HYo.out.below (Qg _)) _ _ _ [(k : Int)] rfl rfl (fun e => by cases e) (eltInt.new _ _ _ _ rfl) (by simp; omega) (by simp; omega) ?_); intro v7 w7 ho7 hg7; have HO := Qa ho7; have HZ1 := Qa (Y0 (Qc HY1.out (Qg _)) (HYo.out.below (Qg _)) hg7 (by decide)); have HZ2 := Qa (Y0 (Qc HY2.out (Qg _)) (HYo.out.below (Qg _)) hg7 (by decide)); have HN := Qa (Y0 (Qc HYN.out (Qg _)) (HYo.out.below (Qg _)) hg7 (by decide)); obtain ⟨q1, q2⟩ := EnTy.grown (HYt1.out.below (Qg _)) (HYn1.out.below (Qg _)) (HYo.out.below (Qg _)) hg7; obtain ⟨q3, q4⟩ := EnTy.grown (HYt2.out.below (Qg _)) (HYn2.out.below (Qg _)) (HYo.out.below (Qg _)) hg7; have HN1 := Qa q1; have HT1 := Qa q2; have HN2 := Qa q3; have HT2 := Qa q4; have HBr := Qa ((HYb.out.alloc HYb.out.size (.cells #[.int .i64 (k : Int)] 3 (0, 0))).grown hg7 (by have := HYb.out.size; simp; omega) (fun j e => Nat.le_trans hB03 (HYo.out.lt j e).1)); have hBz : B0 ≤ w7.heap.size := Nat.le_trans (by simp; omega) hg7.size; clear ho7 hg7 q1 q2 q3 q4 HY1 HY2 HYN HYn1 HYn2 HYt1 HYt2 HYo HYb hYz)
    have HKm := Qa HK5.out
    clear HK5 hneb
    have hc1 := Qb HZ1.out; have hd := Qb HN.out
    generalize a5 = am at *
    generalize c5 = cm at *
    go_wp2_with (go_at_call 19; refine (HA1.out _ (HB.out.trans (HBr.out.mono hw3)) HN1.out).mono ?_; rintro e5 w5 ⟨a5, c5, rfl, hk5, he5, hb, ht5⟩; have HK5 := Qa hk5; have HE5 := Qa he5; have HT5 := Qa ht5; clear hk5 he5 ht5 hc1 hd; (try replace HN := bk HN hb); replace HZ1 := bk HZ1 hb; replace HZ2 := bk HZ2 hb; replace HN1 := Qa (HN1.out.below hb); replace HN2 := Qa (HN2.out.below hb); replace HT1 := Qa (HT1.out.below hb); replace HT2 := Qa (HT2.out.below hb); replace HO := Qa (HO.out.below hb); replace hBz := Nat.le_trans hBz hb.size; replace HBr := bu HBr hb; clear hb; have hc3 := Qb HZ1.out; have hf3 := Qe HZ1.out; have hz3 := Qd HZ1.out)
    exact ⟨⟨k + 1, M1, M2, PN ++ [(k : Int)], a5, c5, am, cm, by omega, rfl, by go_num, HM1, HM2, HM3, by simp; omega, Q9 HZ1.out _ _ _, ZU HZ2.out (Ne.symm hne) _ _ _, HK5.out, EnAt.set3 HE5.out HZ1.out _ _ _, EnTy.set3 HT5.out HZ1.out _ _ _, HKm.out, EnAt.set3 HN2.out HZ1.out _ _ _, EnTy.set3 HT2.out HZ1.out _ _ _, ((HO.out.setAt (b := b1) (i := 0) hb1B _).setAt (b := b1) (i := 1) hb1B _).setAt (b := b1) (i := 2) hb1B _, QD HBr.out hB1 _ _ _, Nat.le_trans hBz (QD (Below.refl 0 w5) (Nat.zero_le _) _ _ _).size⟩, by simp [intOf]; omega⟩
  ·obtain rfl : k = x.es.length := by omega
   have q1 := E1.out; have q2 := E2.out; have q3 := E3.out
   rw [List.take_length] at q1 q2 q3
   have HPo1 := Qa (fun p1 a1 c1 V hV hk hky ha => HPo.out L1 q1 p1 a1 c1 V hV hk hky ha)
   have HPl2 := Qa (fun p1 a1 c1 V hV hk hky ha => HPl.out L2 q2 p1 a1 c1 V hV hk hky ha)
   have HQ3 := Qa q3
   obtain ⟨a12, c12, e12, hs12, hi12⟩ := HO.out.slAt
   rw [List.length_map] at e12
   subst e12
   have HI := Qa (show InAt wr a12 PN from hi12)
   have HXr := Qa (Qc HX.out HBr.out)
   have hlv := HLs.out.1
   clear q1 q2 q3 hs12 hi12 E1 E2 E3 HPo HPl HAo HAl HO HT1 HT2 HEn HX
   go_upto_region 18 with (fail)
   refine wp_region_held_drew (S := fun V => V.heap[w.heap.size]? = some (.cells #[.slice (P).wa (L).ws.length (P).wc, .slice (P).ea (L).eds.length (P).ec, .slice (P).sa (L).shs.length (P).sc, .slice (P).la (L).los.length (P).lc] 27 (0, 0))) (by kernel_rfl) HXr.out (fun hHeld => ?_)
   (refine tk 0 (v := ?_) ?_ ?_; rotate_left; (· intro wq hSw; have hx := Qb hSw; go_simp; try rfl))
   (refine tk 1 (v := ?_) ?_ ?_; rotate_left; (· intro wq hSw; have hx := Qb hSw; go_simp; try rfl))
   (refine tk 2 (v := ?_) ?_ ?_; rotate_left; (· intro wq hSw; have hx := Qb hSw; go_simp; try rfl))
   (refine tk 3 (v := ?_) ?_ ?_; rotate_left; (· intro wq hSw; have hx := Qb hSw; go_simp; try rfl))
   have hbd := (Below.refl wr.heap.size wr).drew
   have HC1 := Qa (HP1.out (some ⟨b, off, none⟩) cap wr.drew (HB.out.trans ((HBr.out.trans (hbd.mono HBr.out.size)).mono hw3)) ⟨by omega, (fun e => by cases e), (fun ad e _ => by cases e; rfl)⟩ (HSub.out _ (HBr.out.trans (hbd.mono HBr.out.size))))
   (refine tc 4 (fun K hK => ?_); go_simp)
   refine HC1.out.mono ?_
   rintro e5 w5 ⟨a11, c11, rfl, _, hs5, hb5⟩
   rw [List.length_map]
   replace hb5 : Below wr.heap.size wr w5 := hbd.trans hb5
   have HV1 := Qa (show VdAt w5 a11 Vx from hs5)
   go_simp
   refine hK.out _ _ (Qc HXr.out hb5) (fun hHeld2 => ?_)
   clear hK K hHeld hs5 HC1 HP1
   (refine tk 5 (v := ?_) ?_ ?_; rotate_left; (· intro wq hSw; go_simp; try rfl))
   (refine tk 6 (v := ?_) ?_ ?_; rotate_left; (· intro wq hSw; go_simp; try rfl))
   (refine tk 7 (v := ?_) ?_ ?_; rotate_left; (· intro wq hSw; go_simp; try rfl))
   (refine tk 8 (v := ?_) ?_ ?_; rotate_left; (· intro wq hSw; go_simp; try rfl))
   (refine tk 9 (v := ?_) ?_ ?_; rotate_left; (· intro wq hSw; go_simp; try rfl))
   refine wpAnyH_done (by kernel_rfl) ?_ _
   have HX5 := Qa hHeld2
   replace HZ1 := bk HZ1 hb5; replace HZ2 := bk HZ2 hb5; replace HN1 := Qa (HN1.out.below hb5); replace HN2 := Qa (HN2.out.below hb5); replace HI := Qa (SlAt.below HI.out hb5); replace HBr := bu HBr hb5
   clear hHeld2 hb5 hbd HXr
   have hc := Qb HX5.out; have hc1 := Qb HZ1.out
   go_upto_region 20 with (go_at_call 11; refine (HPo1.out ⟨a1, c1⟩ (some ⟨w5.heap.size, 0, none⟩) 1 (w5.alloc (.cells #[.int .i64 (L1).st, .slice a1 (L1).es.length c1, .int .u64 (L1).ch] 44 (0, 0))) (HB.out.trans ((HBr.out.alloc HBr.out.size _).mono hw3)) (Jf _ _ (by omega)) HK1.out (LgsAt.new HN1.out)).mono ?_; rintro e6 w6 ⟨a18, c18, rfl, _, hs6, hb6⟩; rw [List.length_map]; have hb := ZX hb6; have HVo := Qa (show VdAt w6 a18 Vx from hs6); replace HV1 := Qa (HV1.out.below hb); replace HX5 := bk HX5 hb; replace HZ2 := bk HZ2 hb; replace HN2 := Qa (HN2.out.below hb); replace HI := Qa (SlAt.below HI.out hb); replace HBr := bu HBr hb; clear hb hb6 hs6 hc hc1 HZ1 HN1; have hc := Qb HX5.out; have hc1 := Qb HZ2.out)
   go_upto_region 21 with (go_at_call 11; refine (HPl2.out ⟨a2, c2⟩ (some ⟨w6.heap.size, 0, none⟩) 1 (w6.alloc (.cells #[.int .i64 (L2).st, .slice a2 (L2).es.length c2, .int .u64 (L2).ch] 44 (0, 0))) (HB.out.trans ((HBr.out.alloc HBr.out.size _).mono hw3)) (Jf _ _ (by omega)) HK2.out (LgsAt.new HN2.out)).mono ?_; rintro e8 w8 ⟨a20, c20, rfl, _, hs8, hb8⟩; rw [List.length_map, hlv]; have hb := ZX hb8; have HVl := Qa (show VdAt w8 a20 Vl from hs8); replace HV1 := Qa (HV1.out.below hb); replace HVo := Qa (HVo.out.below hb); replace HI := Qa (SlAt.below HI.out hb); replace HBr := bu HBr hb; clear hb hb8 hs8 hc hc1 HX5 HZ2 HN2)
   have hvl := HN.out
   go_wp2
   go_loopw [9, 138] (fun t9 t138 wi => ∃ j : Nat, j ≤ Vx.length ∧ t9 = .bool true ∧ t138 = .int .i64 j ∧ Below w8.heap.size w8 wi) (fun _ t138 _ => Vx.length - (intOf t138).toNat)
   case atStart => exact ⟨0, Nat.zero_le _, rfl, rfl, Below.refl _ _⟩
   case round =>
    obtain ⟨j, hj, rfl, rfl, hb⟩ := hrel
    have HBi := Qa hb
    have HWl := Qa (HVl.out.below hb); have HWx := Qa (HV1.out.below hb); have HWo := Qa (HVo.out.below hb); have HWi := Qa (show InAt _ a12 PN from SlAt.below HI.out hb)
    clear hb
    by_cases hjt : j < Vx.length
    ·obtain ⟨m, hm, hen, hat⟩ := HLs.out.2 j (by omega) hjt
     have hmp : m < PN.length := by rw [HQ3.out]; exact hm
     obtain ⟨b8, off8, e8, d0, d1, d2⟩ := HWl.out.get j (by omega)
     obtain ⟨b9, off9, e9, f0, f1, f2⟩ := HWx.out.get j hjt
     obtain ⟨b7, off7, e7, i0⟩ := HWi.out.get m hmp
     have hPm : PN[m] = (posI x.es)[m] := by simp only [HQ3.out]
     rw [hen] at d2
     rw [hat] at f0 f1 f2
     dsimp only at f0 f1 f2
     rw [hPm] at i0
     clear hat hen hPm HWl HWx HWo HWi
     generalize (posI x.es)[m] = pm at *
     generalize Vl[j].st = s1 at *
     generalize Vl[j].rule = r1 at *
     have hji : (j : Int) < (Vx.length : Int) := by omega
     have hm1 : (0 : Int) ≤ (m : Int) := by omega
     have hm2 : (m : Int) < (PN.length : Int) := by omega
     have hwj : IntKind.i64.wrap ((j : Int) + 1) = (j : Int) + 1 := IntWalk.i64_in _ (by omega)
     rw [e8, e9, e7]
     clear e8 e9 e7
     go_upto_region 26 with (fail)
     have HE := Qa (heap_alloc_new wr (.cells #[.int .i64 s1, .int .i64 r1, .int .i64 m] 46 (0, 0)))
     have hb1 := Qg (w := wr) (.cells #[.int .i64 s1, .int .i64 r1, .int .i64 m] 46 (0, 0))
     have i1 := Qq i0 hb1
     obtain ⟨eb, heb⟩ : ∃ eb, eb = wr.heap.size := ⟨_, rfl⟩
     have heb2 : wr.heap.size ≤ eb := by omega
     rw [← heb] at HE ⊢
     clear heb
     have HF := Qa (And.intro f0 (And.intro f1 f2))
     have HU := Qa (And.intro hb1 heb2)
     clear d0 d1 d2 f0 f1 f2 i0 hb1 heb2
     generalize wr.alloc (.cells #[.int .i64 s1, .int .i64 r1, .int .i64 m] 46 (0, 0)) = wj at *
     have hc := Qb HE.out; have hfe := Qe HE.out; have hze := Qd HE.out
     go_upto_region 29 with (fail)
     have hE2 : (wj.setCell ⟨eb, 2, none⟩ (.int .i64 pm)).heap[eb]? = some (.cells #[.int .i64 s1, .int .i64 r1, .int .i64 pm] 46 (0, 0)) := heap_setCell_same _ eb 2 _ _ _ HE.out
     have hb := HU.out.1.setCell (p := ⟨eb, 2, none⟩) HU.out.2 (.int .i64 pm)
     obtain ⟨f0, f1, f2⟩ := HF.out
     have HG := Qa (fun V (hV : Below (wj.setCell ⟨eb, 2, none⟩ (.int .i64 pm)).heap.size (wj.setCell ⟨eb, 2, none⟩ (.int .i64 pm)) V) => And.intro (Qc hE2 hV) (And.intro (Qq (Qq f0 hb) hV) (And.intro (Qq (Qq f1 hb) hV) (Qq (Qq f2 hb) hV))))
     have HBj := bu HBi hb
     clear hc hfe hze hE2 hb f0 f1 f2 HF HU i1 HE
     generalize wj.setCell ⟨eb, 2, none⟩ (.int .i64 pm) = wk at *
     have heq := fun W => eql_vd s1 r1 pm W
     refine wp_region_held_drew (S := fun V => V.heap[eb]? = some (.cells #[.int .i64 s1, .int .i64 r1, .int .i64 pm] 46 (0, 0)) ∧ V.cell? ⟨b9, off9 + j * 3, none⟩ = some (.int .i64 s1) ∧ V.cell? ⟨b9, off9 + j * 3 + 1, none⟩ = some (.int .i64 r1) ∧ V.cell? ⟨b9, off9 + j * 3 + 2, none⟩ = some (.int .i64 pm)) (by kernel_rfl) (HG.out _ (Below.refl _ _).drew) (fun hHeld => ?_)
     (refine tk 0 (v := ?_) ?_ ?_; rotate_left; (· intro wq hSw; obtain ⟨hSx, y0, y1, y2⟩ := hSw; have hx := Qb hSx; go_simp; try rfl))
     (refine tk 1 (v := ?_) ?_ ?_; rotate_left; (· intro wq hSw; obtain ⟨hSx, y0, y1, y2⟩ := hSw; have hx := Qb hSx; go_simp; try rfl))
     (refine tk 2 (v := ?_) ?_ ?_; rotate_left; (· intro wq hSw; obtain ⟨hSx, y0, y1, y2⟩ := hSw; have hx := Qb hSx; go_simp; try rfl))
     (refine tk 3 (v := ?_) ?_ ?_; rotate_left; (· intro wq hSw; obtain ⟨hSx, y0, y1, y2⟩ := hSw; have hx := Qb hSx; go_simp; try rfl))
     (refine tk 4 (v := ?_) ?_ ?_; rotate_left; (· intro wq hSw; obtain ⟨hSx, y0, y1, y2⟩ := hSw; have hx := Qb hSx; go_simp; try rfl))
     (refine tk 5 (v := ?_) ?_ ?_; rotate_left; (· intro wq hSw; obtain ⟨hSx, y0, y1, y2⟩ := hSw; have hx := Qb hSx; go_simp; try rfl))
     (refine tk 6 (v := ?_) ?_ ?_; rotate_left; (· intro wq hSw; obtain ⟨hSx, y0, y1, y2⟩ := hSw; have hx := Qb hSx; go_simp; try rfl))
     (refine tk 7 (v := ?_) ?_ ?_; rotate_left; (· intro wq hSw; obtain ⟨hSx, y0, y1, y2⟩ := hSw; have hx := Qb hSx; go_simp; try rfl))
     (refine tk 8 (v := ?_) ?_ ?_; rotate_left; (· intro wq hSw; obtain ⟨hSx, y0, y1, y2⟩ := hSw; have hx := Qb hSx; go_simp; try rfl))
     (refine tk 9 (v := ?_) ?_ ?_; rotate_left; (· intro wq hSw; obtain ⟨hSx, y0, y1, y2⟩ := hSw; have hx := Qb hSx; go_simp; try rfl))
     refine wpAnyH_done (by kernel_rfl) ?_ _
     go_wp2
     exact ⟨⟨j + 1, by omega, rfl, by go_num, HBj.out.trans ((Below.refl wk.heap.size wk).drew.mono HBj.out.size)⟩, by simp [intOf]; omega⟩
    ·obtain rfl : j = Vx.length := by omega
     have HBz := Qa (HB.out.trans ((HBr.out.trans (HBi.out.mono HBr.out.size)).mono hw3))
     go_wp2_with (go_at_call 13; refine (Yd a11 a18 Vx.length Vx.length c11 c18 Vx Vx _ rfl rfl (by omega) (by omega) HWx.out HWo.out).mono ?_; rintro e w12 ⟨rfl, hb⟩; rw [decide_eq_true rfl]; replace HBz := bu HBz hb; clear hb)
     go_ret
     exact ⟨rfl, HBz.out⟩
end Go.Proofs.YtajijcfikihhjaaGreatDoor
