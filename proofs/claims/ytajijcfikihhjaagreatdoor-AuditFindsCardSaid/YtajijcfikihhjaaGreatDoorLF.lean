import Derived.Test.YtajijcfikihhjaaGreatDoorLE
import Derived.Deep.CutBlock
set_option linter.unusedSimpArgs false
set_option linter.unusedVariables false
set_option maxRecDepth 100000
set_option maxHeartbeats 16000000
namespace Go.Proofs.YtajijcfikihhjaaGreatDoor
open Go.RowKit Go.Sort Go.Shelf
theorem U8 : ∀ {l : List Sx} (hn : (l.map Sx.id).Nodup) {s : Sx} (hs : s ∈ l), ZA l s.id = some s
 | y :: l, hn, s, hs => by
  rw [List.map_cons, List.nodup_cons] at hn
  unfold ZA
  rcases List.mem_cons.1 hs with rfl | hs
  ·rw [List.find?_cons_of_pos (by simp)]
  ·have hne : ¬ y.id = s.id := fun e => hn.1 (List.mem_map.2 ⟨s, hs, e.symm⟩)
   rw [List.find?_cons_of_neg (by simpa using hne)]
   exact U8 hn.2 hs
theorem finds_digest {L : Lb} {d : List De} {st by_ : Int} {s : Sx} (hn : (L.shs.map Sx.id).Nodup) (hs : s ∈ L.shs) (h0 : by_ ≠ 0) (h1 : 0 ≤ by_ ∧ by_ < 18446744073709551616) : ∀ k m, (2 : Int) ∈ Zb L d st k m ⟨1000000000, 2, s.id, 0, 0, IntKind.u64.wrap (s.dg + by_)⟩ := by
 intro k m
 rw [rules2_some (e := ⟨1000000000, 2, s.id, 0, 0, IntKind.u64.wrap (s.dg + by_)⟩) rfl (U8 hn hs), if_neg]
 ·simp
 ·dsimp only
  rw [IntKind.wrap_u64]
  have e : (2 : Int) ^ 64 = 18446744073709551616 := by decide
  omega
theorem finds_holder {L : Lb} {d : List De} {st : Int} {s : Sx} (hn : (L.shs.map Sx.id).Nodup) (hs : s ∈ L.shs) (hh : ((Zo L.los s.id 1000000000).2.1 && decide ((Zo L.los s.id 1000000000).1 = st)) = false) : ∀ k m, (3 : Int) ∈ Zb L d st k m ⟨1000000000, 2, s.id, 0, 0, s.dg⟩ := by
 intro k m
 rw [rules2_some (e := ⟨1000000000, 2, s.id, 0, 0, s.dg⟩) rfl (U8 hn hs), if_pos rfl, show Ub L st ⟨1000000000, 2, s.id, 0, 0, s.dg⟩ = false from hh]
 simp
theorem finds_version {L : Lb} {d : List De} {st v : Int} (h : decide (0 ≤ idxO (fun y : Wk × Wp => decide (y.1.ver = v)) L.ws) = false) : ∀ k m, (1 : Int) ∈ Zb L d st k m ⟨1000000000, 1, v, 1, 0, 0⟩ := by
 intro k m
 have hf : Zk (Qk L.ws) v = none := by
  rcases YZ L.ws v with ⟨i, _, e, _⟩ | ⟨_, e⟩
  ·rw [e] at h; simp at h
  ·exact e
 unfold Zb
 rw [if_pos rfl, show JF L ⟨1000000000, 1, v, 1, 0, 0⟩ = false by unfold JF; dsimp only; rw [hf]; rfl]
 simp
theorem holder_err {l : List Lo} (h : QP l = true) (id : Int) : (inB id 1 1000000 && ((Zo l id 1000000000).2.2 != 0)) = false := by
 unfold Zo
 cases hi : inB id 1 1000000
 ·rfl
 ·rw [h, show inB (1000000000 : Int) 0 1000000000 = true from by decide]; rfl
theorem wrap_wide (n : Int) : 0 ≤ IntKind.u64.wrap n ∧ IntKind.u64.wrap n < 18446744073709551616 := by
 rw [IntKind.wrap_u64]
 have e : (2 : Int) ^ 64 = 18446744073709551616 := by decide
 omega
theorem finds_any {L : Lb} {d : List De} {st r : Int} {es : List En} {e : En} (h : ∀ k m, r ∈ Zb L d st k m e) : (V0 L d (mkLg st (es ++ [e]))).any (fun v => decide (v = ⟨st, r, (es.length : Int)⟩)) = true :=
 List.any_eq_true.2 ⟨_, verd_last h, decide_eq_true rfl⟩
attribute [local go_sem] Oper.semAt_some
theorem eqd_vd (x y : Vd) (w : World) : (binOp .eql 46 (.agg #[.int .i64 x.st, .int .i64 x.rule, .int .i64 x.en]) (.agg #[.int .i64 y.st, .int .i64 y.rule, .int .i64 y.en])).run Tryz.prog w = .ok (.bool (decide (x = y))) w := by
 have e : decide (x = y) = (x.st == y.st && (x.rule == y.rule && x.en == y.en)) := by
  rw [Bool.eq_iff_iff]; obtain ⟨⟩ := x; obtain ⟨⟩ := y; simp
 rw [e, run_eql_struct]
 simp [go_sem]
 cases h1 : x.st == y.st <;> cases h2 : x.rule == y.rule <;> cases h3 : x.en == y.en <;> simp_all [go_sem]
theorem AuditFinds_any (L : Lb) (P : Lbp) (d : List De) (da : Option Addr) (dc : Nat) (l : List (Lg × Lq)) (a : Option Addr) (cap how which : Nat) (by_ : Int) (w : World) (hhow : how ≤ 255) (hwhich : which ≤ 255) (hby : 0 ≤ by_ ∧ by_ < 18446744073709551616) (hsw : ∀ s ∈ L.shs, 0 ≤ s.dg ∧ s.dg < 18446744073709551616) (h : ArgA w L P d da dc l a cap) :
  Calls Tryz.prog 7 #[.agg #[.slice (P).wa (L).ws.length (P).wc, .slice (P).ea (L).eds.length (P).ec, .slice (P).sa (L).shs.length (P).sc, .slice (P).la (L).los.length (P).lc], .slice da d.length dc, .slice a l.length cap, .int .u8 (how : Nat), .int .u8 (which : Nat), .int .u64 by_] w fun e w' => e = .returned (.bool true) ∧ Below w.heap.size w w' := by
 have HA := Qa (fun V (hV : Below w.heap.size w V) => h.below hV)
 have HF := Qa (fun hf => h.few hf)
 have HX := Qa (heap_alloc_new w (.cells #[.slice (P).wa (L).ws.length (P).wc, .slice (P).ea (L).eds.length (P).ec, .slice (P).sa (L).shs.length (P).sc, .slice (P).la (L).los.length (P).lc] 27 (0, 0)))
 have HB := Qa (Qg (w := w) (.cells #[.slice (P).wa (L).ws.length (P).wc, .slice (P).ea (L).eds.length (P).ec, .slice (P).sa (L).shs.length (P).sc, .slice (P).la (L).los.length (P).lc] 27 (0, 0)))
 have HUs := Qa (fun V (hV : Below w.heap.size w V) => usable_any L P d da dc l a cap V (h.below hV))
 have HSw := Qa hsw
 clear h hsw
 go_enter Tryz.func7, Tryz.ntmps7
 go_upto_region 1 with (fail)
 generalize w.alloc (.cells #[.slice (P).wa (L).ws.length (P).wc, .slice (P).ea (L).eds.length (P).ec, .slice (P).sa (L).shs.length (P).sc, .slice (P).la (L).los.length (P).lc] 27 (0, 0)) = W at *
 have hc := Qb HX.out
 go_upto_region 2 with (go_at_call 9; refine (head39_any _ (HA.out _ HB.out).env).mono ?_; rintro e w2 ⟨rfl, hb⟩; replace HX := bk HX hb; replace HB := bu HB hb; clear hb hc; have hc := Qb HX.out)
 cases hf : useB L d (Qp l)
 ·rw [hf] at HUs
  go_wp2_with ((go_at_call 17; refine (HUs.out _ HB.out).mono ?_; rintro e w3 ⟨rfl, hb⟩; replace HX := bk HX hb; replace HB := bu HB hb; clear hb hc; have hc := Qb HX.out))
  go_ret
  exact ⟨rfl, HB.out⟩
 rw [hf] at HUs
 by_cases hl0 : l.length = 0
 ·have hl1 : ((l.length : Int) == 0) = true := by simp [hl0]
  clear hl0
  go_wp2_with ((go_at_call 17; refine (HUs.out _ HB.out).mono ?_; rintro e w3 ⟨rfl, hb⟩; replace HX := bk HX hb; replace HB := bu HB hb; clear hb hc; have hc := Qb HX.out))
  go_ret
  exact ⟨rfl, HB.out⟩
 have hl1 : ((l.length : Int) == 0) = false := by rw [beq_eq_false_iff_ne]; omega
 obtain ⟨hf1, hf2, hf3⟩ := useB_all hf
 have HFew := Qa (HF.out hf1)
 obtain ⟨x, p, hx0⟩ : ∃ x p, l[0]'(by omega) = (x, p) := ⟨_, _, rfl⟩
 have hml : (x, p) ∈ l := by rw [← hx0]; exact List.getElem_mem _
 have hmg : x ∈ Qp l := List.mem_map.2 ⟨_, hml, rfl⟩
 have hv := valid_of ((show Qw x = true from by have := hf3; unfold QU at this; simp only [Bool.and_eq_true, List.all_eq_true] at this; exact this.1 x hmg))
 have hwx := HFew.out.lgs.wide _ hml
 have hokx := HFew.out.lgs.ok _ hml
 obtain ⟨b, off, ea, hsub⟩ := (HA.out _ HB.out).lgs.sub 0 (by omega)
 rw [hx0, Nat.zero_mul, Nat.add_zero] at hsub
 subst ea
 obtain ⟨b', off', e', d0, d1, d2⟩ := hsub.get 0 (by simp)
 cases e'
 simp only [Nat.zero_mul, Nat.add_zero, List.getElem_cons_zero] at d0 d1 d2
 have hll : (0 : Int) < (l.length : Int) := by omega
 have hll2 : 0 < l.length := by omega
 have HD := Qa (fun V (hV : Below w2.heap.size w2 V) => show V.cell? ⟨b, off, none⟩ = some (.int .i64 x.st) ∧ V.cell? ⟨b, off + 1, none⟩ = some (.slice p.a x.es.length p.c) ∧ V.cell? ⟨b, off + 2, none⟩ = some (.int .u64 x.ch) from ⟨Qq d0 hV, Qq d1 hV, Qq d2 hV⟩)
 clear d0 d1 d2 hsub
 have HV := Qa hv; have HWx := Qa hwx; have HOx := Qa hokx; have Hml := Qa hml; have HF2 := Qa hf2
 clear hv hwx hokx hml hmg hf1 hf2 hf3 hf hx0
 by_cases h19 : 19 < x.es.length
 ·have hgt : (19 : Int) < (x.es.length : Int) := by omega
  clear h19
  go_wp2_with ((go_at_call 17; refine (HUs.out _ HB.out).mono ?_; rintro e w3 ⟨rfl, hb⟩; obtain ⟨d0, d1, d2⟩ := HD.out _ hb; replace HX := bk HX hb; replace HB := bu HB hb; clear hb hc; have hc := Qb HX.out))
  go_ret
  exact ⟨rfl, HB.out⟩
 have hgt : ¬ (19 : Int) < (x.es.length : Int) := by omega
 have hes : x.es.length ≤ 19 := by omega
 have HAp := Qa (fun (e : En) (he : Qt e = true) (ht : e.time = 1000000000) (hwe : e.wide) V (hV : Below w.heap.size w V) => by
  have h := Append37N_any x p.a p.c e V (by omega) HOx.out HWx.out hwe (HA.out V hV).env ((HA.out V hV).lgs.es _ Hml.out)
  rw [show QR x e = (mkLg x.st (x.es ++ [e]), 0) by
   rw [HV.out.2.2.2]
   exact append_mk HV.out.1 (by omega) HV.out.2.2.1 he (fun y hy => by rw [ht]; exact (YR (HV.out.2.2.1.1 y hy)).1.2)] at h
  exact h)
 have HPy := Qa (fun (e : En) (he : Qt e = true) (ht : e.time = 1000000000) (hwe : e.wide) p1 a1 c1 V (hV : Below w.heap.size w V) (hk : SlOk a1 1 c1) (hky : SlOk p1.a (x.es ++ [e]).length p1.c) (ha : LgsAt V a1 [(mkLg x.st (x.es ++ [e]), p1)]) => by
  have h := QY L P d da dc [(mkLg x.st (x.es ++ [e]), p1)] a1 c1 V HFew.out.lib HFew.out.bars HFew.out.dec ⟨by simp, fun z hz => by rw [List.mem_singleton.1 hz]; show (x.es ++ [e]).length ≤ 800; simp; omega, fun z hz => by
   rw [List.mem_singleton.1 hz]
   intro y hy
   rcases List.mem_append.1 hy with hy | hy
   ·exact HWx.out y hy
   ·rw [List.mem_singleton.1 hy]; exact hwe, fun z hz => by rw [List.mem_singleton.1 hz]; exact hky⟩ (HA.out V hV).env (HA.out V hV).lib (HA.out V hV).dec hk ha
  rw [show Qp [(mkLg x.st (x.es ++ [e]), p1)] = [mkLg x.st (x.es ++ [e])] from rfl, ZL (by simp) HF2.out (logsB_mk HV.out.1 (by simp; omega) (HV.out.2.2.1.snoc he (fun y hy => by rw [ht]; exact (YR (HV.out.2.2.1.1 y hy)).1.2))), auditV_one] at h
  exact h)
 have hlen1 : L.shs.length ≤ 1000 := HFew.out.lib.shs
 have hlen2 : L.los.length ≤ 1000 := HFew.out.lib.los
 have hlen3 : L.ws.length ≤ 1000 := HFew.out.lib.ws
 have hnod := (libB_valid HF2.out).2
 have hlo : QP L.los = true := by
  have := HF2.out; unfold libB at this; simp only [Bool.and_eq_true] at this; exact this.1.1.2
 have HLib := Qa (fun V (hV : Below w.heap.size w V) => (HA.out V hV).lib)
 clear HF HFew HV HWx HOx Hml HF2
 go_upto_region 4 with ((go_at_call 17; refine (HUs.out _ HB.out).mono ?_; rintro e w3 ⟨rfl, hb⟩; obtain ⟨d0, d1, d2⟩ := HD.out _ hb; replace HX := bk HX hb; replace HB := bu HB hb; clear hb hc; have hc := Qb HX.out))
 have HW3 := Qa HB.out.size
 obtain ⟨x1, x2, hb⟩ := box2 (w := w3) (A := .cells #[.int .i64 (x).st, .slice p.a (x).es.length p.c, .int .u64 (x).ch] 44 (0, 0)) (B := .cells #[.int .i64 1000000000, .int .i64 0, .int .i64 0, .int .i64 0, .int .i64 0, .int .u64 0] 50 (0, 0)) (Below.refl _ _)
 have HL1 := Qa x1; have HE1 := Qa x2; have HB4 := Qa hb
 clear x1 x2 hb
 go_upto_block 0 with (fail)
 generalize ((w3.alloc (.cells #[.int .i64 (x).st, .slice p.a (x).es.length p.c, .int .u64 (x).ch] 44 (0, 0))).alloc (.cells #[.int .i64 1000000000, .int .i64 0, .int .i64 0, .int .i64 0, .int .i64 0, .int .u64 0] 50 (0, 0))) = W4 at *
 have HX4 := Qa (Qc HX.out HB4.out)
 have HLb := Qa (HLib.out W4 (HB.out.trans (HB4.out.mono HW3.out)))
 obtain ⟨q, hq⟩ : ∃ q, q = how % 3 := ⟨_, rfl⟩
 have hrem : (how : Int) % 3 = (q : Int) := by omega
 have hq3 : q = 0 ∨ q = 1 ∨ q = 2 := by omega
 clear hq hc
 have hc := Qb HX4.out
 go_cut [17, 18, 19, 20, 21, 57, 58, 118] (fun s17 s18 s19 s20 s21 s57 s58 s118 V => ∃ (e : En) (r : Int), s17 = .int .i64 r ∧ V.heap[w3.heap.size + 1]? = some (.cells #[.int .i64 (e).time, .int .i64 (e).kind, .int .i64 (e).a, .int .i64 (e).b, .int .i64 (e).c, .int .u64 (e).dg] 50 (0, 0)) ∧ V.heap[w3.heap.size]? = some (.cells #[.int .i64 (x).st, .slice p.a (x).es.length p.c, .int .u64 (x).ch] 44 (0, 0)) ∧ e.time = 1000000000 ∧ e.wide ∧ (∀ k m, r ∈ Zb L d x.st k m e) ∧ Below w3.heap.size w3 V)
 case first =>
  go_upto_region 8 with (fail)
  go_cut [57, 58] (fun s57 s58 V => W4 = V ∧ s57 = .int .u8 ((how : Int) % 3) ∧ s58 = .bool (decide (q = 0)))
  case first =>
   rcases hq3 with rfl | rfl | rfl
   all_goals
    go_wp2
    go_meet
    case rel => exact ⟨rfl, by first | rfl | (rw [hrem]; rfl), by first | rfl | simp⟩
  case rest =>
  obtain ⟨e4, rfl, rfl⟩ := hcut
  subst e4
  go_upto_if 58 with (fail)
  go_cut [57, 58] (fun s57 s58 V => W4 = V ∧ s57 = .int .u8 ((how : Int) % 3) ∧ s58 = .bool (decide (q ≠ 2)))
  case first =>
   rcases hq3 with rfl | rfl | rfl
   all_goals
    go_wp2
    go_meet
    case rel => exact ⟨rfl, by first | rfl | (rw [hrem]; rfl), by first | rfl | simp⟩
  case rest =>
  obtain ⟨e4, rfl, rfl⟩ := hcut
  subst e4
  by_cases hq2 : q = 2
  ·have hd2 : decide (q ≠ 2) = false := by simp [hq2]
   have hr2 : (how : Int) % 3 = 2 := by rw [hrem, hq2]; rfl
   rw [hd2]
   clear hd2 hrem hq2 hq3 hc
   have hww : IntKind.i64.wrap (which : Int) = (which : Int) := IntWalk.i64_in _ (by omega)
   have hw1 : IntKind.i64.wrap ((which : Int) * 3000) = (which : Int) * 3000 := IntWalk.i64_in _ (by omega)
   have hw2 : IntKind.i64.wrap (1 + (which : Int) * 3000) = 1 + (which : Int) * 3000 := IntWalk.i64_in _ (by omega)
   have hc1 := Qb HE1.out; have hf1 := Qe HE1.out; have hz1 := Qd HE1.out
   have HFi := Qa (fun hh => finds_version (L := L) (d := d) (st := x.st) (v := 1 + (which : Int) * 3000) hh)
   have HFd := Qa (fun U (hU : Below w.heap.size w U) => RFind30_any P.wa P.wc L.ws (1 + (which : Int) * 3000) U (by omega) (HLib.out U hU).ws.rows)
   have hle : w3.heap.size ≤ w3.heap.size + 1 := by omega
   go_upto_region 25 with (fail)
   have HE := Qa (show (((W4.setCell ⟨w3.heap.size + 1, 1, none⟩ (.int .i64 1)).setCell ⟨w3.heap.size + 1, 2, none⟩ (.int .i64 (1 + (which : Int) * 3000))).setCell ⟨w3.heap.size + 1, 3, none⟩ (.int .i64 1)).heap[w3.heap.size + 1]? = some (.cells #[.int .i64 1000000000, .int .i64 1, .int .i64 (1 + (which : Int) * 3000), .int .i64 1, .int .i64 0, .int .u64 0] 50 (0, 0)) from heap_setCell_same _ (w3.heap.size + 1) 3 _ _ _ (heap_setCell_same _ (w3.heap.size + 1) 2 _ _ _ (heap_setCell_same _ (w3.heap.size + 1) 1 _ _ _ HE1.out)))
   have HL := Qa (show (((W4.setCell ⟨w3.heap.size + 1, 1, none⟩ (.int .i64 1)).setCell ⟨w3.heap.size + 1, 2, none⟩ (.int .i64 (1 + (which : Int) * 3000))).setCell ⟨w3.heap.size + 1, 3, none⟩ (.int .i64 1)).heap[w3.heap.size]? = some (.cells #[.int .i64 (x).st, .slice p.a (x).es.length p.c, .int .u64 (x).ch] 44 (0, 0)) from Qo (Qo (Qo HL1.out (by omega) _) (by omega) _) (by omega) _)
   have HBq := Qa (show Below w3.heap.size w3 (((W4.setCell ⟨w3.heap.size + 1, 1, none⟩ (.int .i64 1)).setCell ⟨w3.heap.size + 1, 2, none⟩ (.int .i64 (1 + (which : Int) * 3000))).setCell ⟨w3.heap.size + 1, 3, none⟩ (.int .i64 1)) from ((HB4.out.setCell (p := ⟨w3.heap.size + 1, 1, none⟩) hle _).setCell (p := ⟨w3.heap.size + 1, 2, none⟩) hle _).setCell (p := ⟨w3.heap.size + 1, 3, none⟩) hle _)
   clear hc1 hf1 hz1 HE1 HL1 HB4 HX4 HLb
   generalize (((W4.setCell ⟨w3.heap.size + 1, 1, none⟩ (.int .i64 1)).setCell ⟨w3.heap.size + 1, 2, none⟩ (.int .i64 (1 + (which : Int) * 3000))).setCell ⟨w3.heap.size + 1, 3, none⟩ (.int .i64 1)) = Wv at *
   generalize 1 + (which : Int) * 3000 = ver at *
   have HXv := Qa (Qc HX.out HBq.out)
   have hcx := Qb HXv.out; have hce := Qb HE.out
   generalize idxO (fun y : Wk × Wp => decide (y.1.ver = ver)) L.ws = ix at *
   by_cases hix : 0 ≤ ix
   ·go_wp2_with (go_at_call 22; refine (HFd.out _ (HB.out.trans (HBq.out.mono HW3.out))).mono ?_; rintro e8 w8 ⟨rfl, hb⟩; replace HBq := bu HBq hb; clear hb)
    go_ret
    exact ⟨rfl, HB.out.trans (HBq.out.mono HW3.out)⟩
   ·have hix2 : ix < 0 := by omega
    go_wp2_with (go_at_call 22; refine (HFd.out _ (HB.out.trans (HBq.out.mono HW3.out))).mono ?_; rintro e8 w8 ⟨rfl, hb⟩; replace HBq := bu HBq hb; replace HE := bk HE hb; replace HL := bk HL hb; clear hb hcx hce)
    go_meet
    case rel => exact ⟨⟨1000000000, 1, ver, 1, 0, 0⟩, 1, rfl, HE.out, HL.out, rfl, ⟨by show (0 : Int) ≤ 0; decide, by show (0 : Int) < 18446744073709551616; decide⟩, HFi.out (decide_eq_false (by omega)), HBq.out⟩
  ·have hd2 : decide (q ≠ 2) = true := by simp [hq2]
   rw [hd2]
   by_cases hs0 : L.shs.length = 0
   ·have hs1 : ((L.shs.length : Int) == 0) = true := by simp [hs0]
    clear hs0
    go_wp2
    go_ret
    exact ⟨rfl, HB.out.trans (HB4.out.mono HW3.out)⟩
   have hs1 : ((L.shs.length : Int) == 0) = false := by rw [beq_eq_false_iff_ne]; omega
   have hs2 : L.shs.length ≠ 0 := hs0
   clear hs0 hd2
   obtain ⟨i, hi⟩ : ∃ i, i = which % L.shs.length := ⟨_, rfl⟩
   have hil : i < L.shs.length := by rw [hi]; exact Nat.mod_lt _ (by omega)
   have hri : (which : Int) % (L.shs.length : Int) = (i : Int) := by rw [hi]; exact (Int.natCast_emod _ _).symm
   have hrt : (which : Int).tmod (L.shs.length : Int) = (i : Int) := by rw [hi, Int.tmod_eq_emod_of_nonneg (by omega)]; exact (Int.natCast_emod _ _).symm
   have hil2 : (i : Int) < (L.shs.length : Int) := by omega
   have hil0 : (0 : Int) ≤ (i : Int) := by omega
   have hww : IntKind.i64.wrap (which : Int) = (which : Int) := IntWalk.i64_in _ (by omega)
   have hs3 : ¬ ((L.shs.length : Int) = 0) := by omega
   obtain ⟨bs, offs, es, k0, k1, k2, k3, k4, k5⟩ := SxAt.get HLb.out.shs i hil
   have HSm := Qa (And.intro (List.getElem_mem hil) (HSw.out _ (List.getElem_mem hil)))
   clear hi
   generalize L.shs[i] = s at *
   have hx4 := HX4.out
   rw [es] at hx4
   have HKc := Qa (fun V (hV : Below W4.heap.size W4 V) => And.intro (Qc hx4 hV) (And.intro (Qq k0 hV) (And.intro (Qq k1 hV) (And.intro (Qq k2 hV) (And.intro (Qq k3 hV) (And.intro (Qq k4 hV) (Qq k5 hV)))))))
   clear hx4 es k0 k1 k2 k3 k4 k5
   go_upto_region 12 with (fail)
   clear hc
   refine wp_region_held_drew (S := fun V => V.heap[w.heap.size]? = some (.cells #[.slice P.wa L.ws.length P.wc, .slice P.ea L.eds.length P.ec, .slice (some ⟨bs, offs, none⟩) L.shs.length P.sc, .slice P.la L.los.length P.lc] 27 (0, 0)) ∧ V.cell? ⟨bs, offs + i * 6, none⟩ = some (.int .i64 s.id) ∧ V.cell? ⟨bs, offs + i * 6 + 1, none⟩ = some (.int .i64 s.pt) ∧ V.cell? ⟨bs, offs + i * 6 + 2, none⟩ = some (.int .i64 s.ed) ∧ V.cell? ⟨bs, offs + i * 6 + 3, none⟩ = some (.int .i64 s.ver) ∧ V.cell? ⟨bs, offs + i * 6 + 4, none⟩ = some (.int .i64 s.pg) ∧ V.cell? ⟨bs, offs + i * 6 + 5, none⟩ = some (.int .u64 s.dg)) (by kernel_rfl) (HKc.out _ (Below.refl _ _).drew) (fun hHeld => ?_)
   (refine tk 0 (v := ?_) ?_ ?_; rotate_left; (· intro wq hSw; obtain ⟨hSx, y0, y1, y2, y3, y4, y5⟩ := hSw; have hx := Qb hSx; go_simp; try rfl))
   (refine tk 1 (v := ?_) ?_ ?_; rotate_left; (· intro wq hSw; obtain ⟨hSx, y0, y1, y2, y3, y4, y5⟩ := hSw; have hx := Qb hSx; go_simp; try rfl))
   (refine tk 2 (v := ?_) ?_ ?_; rotate_left; (· intro wq hSw; obtain ⟨hSx, y0, y1, y2, y3, y4, y5⟩ := hSw; have hx := Qb hSx; go_simp; try rfl))
   (refine tk 3 (v := ?_) ?_ ?_; rotate_left; (· intro wq hSw; obtain ⟨hSx, y0, y1, y2, y3, y4, y5⟩ := hSw; have hx := Qb hSx; go_simp; try rfl))
   (refine tk 4 (v := ?_) ?_ ?_; rotate_left; (· intro wq hSw; obtain ⟨hSx, y0, y1, y2, y3, y4, y5⟩ := hSw; have hx := Qb hSx; go_simp; try rfl))
   (refine tk 5 (v := ?_) ?_ ?_; rotate_left; (· intro wq hSw; obtain ⟨hSx, y0, y1, y2, y3, y4, y5⟩ := hSw; have hx := Qb hSx; go_simp; try rfl))
   (refine tk 6 (v := ?_) ?_ ?_; rotate_left; (· intro wq hSw; obtain ⟨hSx, y0, y1, y2, y3, y4, y5⟩ := hSw; have hx := Qb hSx; go_simp; try rfl))
   (refine tk 7 (v := ?_) ?_ ?_; rotate_left; (· intro wq hSw; obtain ⟨hSx, y0, y1, y2, y3, y4, y5⟩ := hSw; have hx := Qb hSx; go_simp; try rfl))
   (refine tk 8 (v := ?_) ?_ ?_; rotate_left; (· intro wq hSw; obtain ⟨hSx, y0, y1, y2, y3, y4, y5⟩ := hSw; have hx := Qb hSx; go_simp; try rfl))
   (refine tk 9 (v := ?_) ?_ ?_; rotate_left; (· intro wq hSw; obtain ⟨hSx, y0, y1, y2, y3, y4, y5⟩ := hSw; have hx := Qb hSx; go_simp; try rfl))
   (refine tc 10 (fun K hK => ?_); go_simp)
   have hb5 : Below W4.heap.size W4 ((W4.alloc (.cells #[.int .i64 0, .int .i64 0, .int .i64 0, .int .i64 0, .int .i64 0, .int .u64 0] 55 (0, 0))).drew) := (Qg _).drew
   have hn : ((W4.alloc (.cells #[.int .i64 0, .int .i64 0, .int .i64 0, .int .i64 0, .int .i64 0, .int .u64 0] 55 (0, 0))).drew).heap[W4.heap.size]? = some (.cells #[.int .i64 0, .int .i64 0, .int .i64 0, .int .i64 0, .int .i64 0, .int .u64 0] 55 (0, 0)) := heap_alloc_new W4 _
   refine hK.out _ _ (HKc.out _ hb5) (fun hHeld2 => ?_)
   clear hK K hHeld
   generalize (W4.alloc (.cells #[.int .i64 0, .int .i64 0, .int .i64 0, .int .i64 0, .int .i64 0, .int .u64 0] 55 (0, 0))).drew = W5 at *
   have hcs := Qb hn; have hfs := Qe hn; have hzs := Qd hn
   (refine tc 11 (fun K hK => ?_); go_simp)
   have hb6 : Below W4.heap.size W4 (((((((W5).setCell ⟨W4.heap.size, 0, none⟩ (.int .i64 (s).id)).setCell ⟨W4.heap.size, 1, none⟩ (.int .i64 (s).pt)).setCell ⟨W4.heap.size, 2, none⟩ (.int .i64 (s).ed)).setCell ⟨W4.heap.size, 3, none⟩ (.int .i64 (s).ver)).setCell ⟨W4.heap.size, 4, none⟩ (.int .i64 (s).pg)).setCell ⟨W4.heap.size, 5, none⟩ (.int .u64 (s).dg)) := U9 hb5 (Nat.le_refl _) _ _ _ _ _ _
   have HS := Qa (show (((((((W5).setCell ⟨W4.heap.size, 0, none⟩ (.int .i64 (s).id)).setCell ⟨W4.heap.size, 1, none⟩ (.int .i64 (s).pt)).setCell ⟨W4.heap.size, 2, none⟩ (.int .i64 (s).ed)).setCell ⟨W4.heap.size, 3, none⟩ (.int .i64 (s).ver)).setCell ⟨W4.heap.size, 4, none⟩ (.int .i64 (s).pg)).setCell ⟨W4.heap.size, 5, none⟩ (.int .u64 (s).dg)).heap[W4.heap.size]? = some (.cells #[.int .i64 (s).id, .int .i64 (s).pt, .int .i64 (s).ed, .int .i64 (s).ver, .int .i64 (s).pg, .int .u64 (s).dg] 55 (0, 0)) from Qac hn _ _ _ _ _ _)
   refine hK.out _ _ (HKc.out _ hb6) (fun hHeld3 => ?_)
   clear hK K hHeld2 hn hcs hfs hzs hb5
   refine wpAnyH_done (by kernel_rfl) ?_ _
   have hz4 := Qd HE1.out
   have HE5 := bk HE1 hb6; have HL5 := bk HL1 hb6; have HB5 := bu HB4 hb6
   clear hHeld3 hb6 HKc
   generalize ((((((W5).setCell ⟨W4.heap.size, 0, none⟩ (.int .i64 (s).id)).setCell ⟨W4.heap.size, 1, none⟩ (.int .i64 (s).pt)).setCell ⟨W4.heap.size, 2, none⟩ (.int .i64 (s).ed)).setCell ⟨W4.heap.size, 3, none⟩ (.int .i64 (s).ver)).setCell ⟨W4.heap.size, 4, none⟩ (.int .i64 (s).pg)).setCell ⟨W4.heap.size, 5, none⟩ (.int .u64 (s).dg) = W6 at *
   go_upto_region 13 with (fail)
   go_cut [17] (fun s17 V => s17 = .int .i64 2 ∧ V.heap[w3.heap.size + 1]? = some (.cells #[.int .i64 1000000000, .int .i64 2, .int .i64 s.id, .int .i64 0, .int .i64 0, .int .u64 (IntKind.u64.wrap (s.dg + by_))] 50 (0, 0)) ∧ V.heap[W4.heap.size]? = some (.cells #[.int .i64 (s).id, .int .i64 (s).pt, .int .i64 (s).ed, .int .i64 (s).ver, .int .i64 (s).pg, .int .u64 (s).dg] 55 (0, 0)) ∧ Below w3.heap.size w3 V ∧ V.heap[w3.heap.size]? = some (.cells #[.int .i64 (x).st, .slice p.a (x).es.length p.c, .int .u64 (x).ch] 44 (0, 0)))
   case first =>
    refine wp_region_noPanic ?_
    refine wp_region_held_drew (S := fun V => V.heap[W4.heap.size]? = some (.cells #[.int .i64 (s).id, .int .i64 (s).pt, .int .i64 (s).ed, .int .i64 (s).ver, .int .i64 (s).pg, .int .u64 (s).dg] 55 (0, 0))) (by kernel_rfl) HS.out (fun hHeld => ?_)
    (refine tk 0 (v := ?_) ?_ ?_; rotate_left; (· intro wq hSw; go_simp; try rfl))
    (refine tk 2 (v := ?_) ?_ ?_; rotate_left; (· intro wq hSw; go_simp; try rfl))
    (refine tk 4 (v := ?_) ?_ ?_; rotate_left; (· intro wq hSw; go_simp; try rfl))
    (refine tk 6 (v := ?_) ?_ ?_; rotate_left; (· intro wq hSw; go_simp; try rfl))
    refine Yn [1, 3, 5, 7, 8, 9, 10, 11, 12] (fun A D a v => ∃ x77 x79 x81 x83 x84 x17 y1 y2 y5, a = (((((A.put (some 77) x77).put (some 79) x79).put (some 81) x81).put (some 83) x83).put (some 84) x84).put (some 17) x17 ∧ (D 1 = true → x77 = .int .i64 s.id) ∧ (D 3 = true → x79 = .int .u64 s.dg) ∧ (D 5 = true → x81 = .int .u64 (IntKind.u64.wrap (s.dg + by_))) ∧ (D 8 = true → x83 = .pointer (some ⟨w3.heap.size + 1, 2, none⟩)) ∧ (D 10 = true → x84 = .pointer (some ⟨w3.heap.size + 1, 5, none⟩)) ∧ (D 12 = true → x17 = .int .i64 2) ∧ v.heap[w3.heap.size + 1]? = some (.cells #[.int .i64 1000000000, y1, y2, .int .i64 0, .int .i64 0, y5] 50 (0, 0)) ∧ (D 7 = true → y1 = .int .i64 2) ∧ (D 9 = true → y2 = .int .i64 s.id) ∧ (D 11 = true → y5 = .int .u64 (IntKind.u64.wrap (s.dg + by_))) ∧ v.heap[W4.heap.size]? = some (.cells #[.int .i64 (s).id, .int .i64 (s).pt, .int .i64 (s).ed, .int .i64 (s).ver, .int .i64 (s).pg, .int .u64 (s).dg] 55 (0, 0)) ∧ Below w3.heap.size w3 v ∧ v.heap[w3.heap.size]? = some (.cells #[.int .i64 (x).st, .slice p.a (x).es.length p.c, .int .u64 (x).ch] 44 (0, 0))) (by kernel_rfl) rfl rfl (by kernel_rfl) ?_ ?_ ?_ ?_
    ·exact ⟨_, _, _, _, _, _, _, _, _, rfl, (fun h => absurd h (by decide)), (fun h => absurd h (by decide)), (fun h => absurd h (by decide)), (fun h => absurd h (by decide)), (fun h => absurd h (by decide)), (fun h => absurd h (by decide)), HE5.out, (fun h => absurd h (by decide)), (fun h => absurd h (by decide)), (fun h => absurd h (by decide)), HS.out, HB5.out.drew, HL5.out⟩
    ·rintro D b1 v ⟨x77, x79, x81, x83, x84, x17, y1, y2, y5, _, h1, h3, h5, h8, h10, h12, hz, h7, h9, h11, hs, hb, hl⟩
     exact hs
    ·rintro D b1 v ⟨x77, x79, x81, x83, x84, x17, y1, y2, y5, rfl, h1, h3, h5, h8, h10, h12, hz, h7, h9, h11, hs, hb, hl⟩
     have hcc := Qb hz; have hff := Qe hz; have hlz := Qd hz; have hxs := Qb hs
     refine sc (fun hd hdep => ?_) ?_
     ·clear hdep
      intro K hK
      (try simp only [Act.put, List.setIfInBounds_toArray, List.set_cons_zero, List.set_cons_succ])
      go_simp
      exact hK.out _ _ ⟨_, x79, x81, x83, x84, x17, y1, y2, y5, rfl, fun _ => rfl, h3, h5, h8, h10, h12, hz, h7, h9, h11, hs, hb, hl⟩
     refine sc (fun hd hdep => ?_) ?_
     ·clear hdep
      intro K hK
      (try simp only [Act.put, List.setIfInBounds_toArray, List.set_cons_zero, List.set_cons_succ])
      go_simp
      exact hK.out _ _ ⟨x77, _, x81, x83, x84, x17, y1, y2, y5, rfl, h1, fun _ => rfl, h5, h8, h10, h12, hz, h7, h9, h11, hs, hb, hl⟩
     refine sc (fun hd hdep => ?_) ?_
     ·obtain rfl := h3 (hdep ⟨3, .data⟩ (by simp) rfl); clear hdep
      intro K hK
      (try simp only [Act.put, List.setIfInBounds_toArray, List.set_cons_zero, List.set_cons_succ])
      go_simp
      exact hK.out _ _ ⟨x77, _, _, x83, x84, x17, y1, y2, y5, rfl, h1, fun _ => rfl, fun _ => rfl, h8, h10, h12, hz, h7, h9, h11, hs, hb, hl⟩
     refine sc (fun hd hdep => ?_) ?_
     ·clear hdep
      intro K hK
      (try simp only [Act.put, List.setIfInBounds_toArray, List.set_cons_zero, List.set_cons_succ])
      go_simp
      exact hK.out _ _ ⟨x77, x79, x81, x83, x84, x17, _, y2, y5, rfl, h1, h3, h5, h8, h10, h12, heap_setCell_same _ (w3.heap.size + 1) 1 _ _ _ hz, fun _ => rfl, h9, h11, Qo hs (by omega) _, hb.setCell (p := ⟨w3.heap.size + 1, 1, none⟩) (by show w3.heap.size ≤ w3.heap.size + 1; omega) _, Qo hl (by omega) _⟩
     refine sc (fun hd hdep => ?_) ?_
     ·clear hdep
      intro K hK
      (try simp only [Act.put, List.setIfInBounds_toArray, List.set_cons_zero, List.set_cons_succ])
      go_simp
      exact hK.out _ _ ⟨x77, x79, x81, _, x84, x17, y1, y2, y5, rfl, h1, h3, h5, fun _ => rfl, h10, h12, hz, h7, h9, h11, hs, hb, hl⟩
     refine sc (fun hd hdep => ?_) ?_
     ·obtain rfl := h8 (hdep ⟨8, .data⟩ (by simp) rfl); obtain rfl := h1 (hdep ⟨1, .data⟩ (by simp) rfl); clear hdep
      intro K hK
      (try simp only [Act.put, List.setIfInBounds_toArray, List.set_cons_zero, List.set_cons_succ])
      go_simp
      exact hK.out _ _ ⟨_, x79, x81, _, x84, x17, y1, _, y5, rfl, fun _ => rfl, h3, h5, fun _ => rfl, h10, h12, heap_setCell_same _ (w3.heap.size + 1) 2 _ _ _ hz, h7, fun _ => rfl, h11, Qo hs (by omega) _, hb.setCell (p := ⟨w3.heap.size + 1, 2, none⟩) (by show w3.heap.size ≤ w3.heap.size + 1; omega) _, Qo hl (by omega) _⟩
     refine sc (fun hd hdep => ?_) ?_
     ·clear hdep
      intro K hK
      (try simp only [Act.put, List.setIfInBounds_toArray, List.set_cons_zero, List.set_cons_succ])
      go_simp
      exact hK.out _ _ ⟨x77, x79, x81, x83, _, x17, y1, y2, y5, rfl, h1, h3, h5, h8, fun _ => rfl, h12, hz, h7, h9, h11, hs, hb, hl⟩
     refine sc (fun hd hdep => ?_) ?_
     ·obtain rfl := h10 (hdep ⟨10, .data⟩ (by simp) rfl); obtain rfl := h5 (hdep ⟨5, .data⟩ (by simp) rfl); clear hdep
      intro K hK
      (try simp only [Act.put, List.setIfInBounds_toArray, List.set_cons_zero, List.set_cons_succ])
      go_simp
      exact hK.out _ _ ⟨x77, x79, _, x83, _, x17, y1, y2, _, rfl, h1, h3, fun _ => rfl, h8, fun _ => rfl, h12, heap_setCell_same _ (w3.heap.size + 1) 5 _ _ _ hz, h7, h9, fun _ => rfl, Qo hs (by omega) _, hb.setCell (p := ⟨w3.heap.size + 1, 5, none⟩) (by show w3.heap.size ≤ w3.heap.size + 1; omega) _, Qo hl (by omega) _⟩
     refine sc (fun hd hdep => ?_) ?_
     ·clear hdep
      intro K hK
      (try simp only [Act.put, List.setIfInBounds_toArray, List.set_cons_zero, List.set_cons_succ])
      go_simp
      exact hK.out _ _ ⟨x77, x79, x81, x83, x84, _, y1, y2, y5, rfl, h1, h3, h5, h8, h10, fun _ => rfl, hz, h7, h9, h11, hs, hb, hl⟩
     exact StepAll.nil
    rintro D b1 v hall ⟨x77, x79, x81, x83, x84, x17, y1, y2, y5, rfl, h1, h3, h5, h8, h10, h12, hz, h7, h9, h11, hs, hb, hl⟩
    obtain rfl := h1 (hall 1 (by simp))
    obtain rfl := h3 (hall 3 (by simp))
    obtain rfl := h5 (hall 5 (by simp))
    obtain rfl := h7 (hall 7 (by simp))
    obtain rfl := h8 (hall 8 (by simp))
    obtain rfl := h9 (hall 9 (by simp))
    obtain rfl := h10 (hall 10 (by simp))
    obtain rfl := h11 (hall 11 (by simp))
    obtain rfl := h12 (hall 12 (by simp))
    clear hall h1 h3 h5 h7 h8 h9 h10 h11 h12
    (try simp only [Act.put, List.setIfInBounds_toArray, List.set_cons_zero, List.set_cons_succ])
    refine NoPanic.normal ?_
    go_wp2
    go_meet
    case rel => exact ⟨rfl, hz, hs, hb, hl⟩
   case rest =>
   obtain ⟨rfl, hz, hs, hb, hl⟩ := hcut
   clear HE5 HL5 HB5 HS hz4
   generalize wc = V at *
   by_cases hq0 : q = 0
   ·have hr0 : (how : Int) % 3 = 0 := by rw [hrem, hq0]; rfl
    clear hrem hq0 hq2 hq3
    by_cases hb0 : by_ = 0
    ·have hqb : (by_ == 0) = true := by rw [hb0]; rfl
     go_wp2
     go_ret
     exact ⟨rfl, HB.out.trans (hb.mono HW3.out)⟩
    ·have hqb : (by_ == 0) = false := by rw [beq_eq_false_iff_ne]; exact hb0
     go_wp2
     go_meet
     case rel => exact ⟨⟨1000000000, 2, s.id, 0, 0, IntKind.u64.wrap (s.dg + by_)⟩, 2, rfl, hz, hl, rfl, wrap_wide _, finds_digest hnod HSm.out.1 hb0 hby, hb⟩
   have hr1 : (how : Int) % 3 = 1 := by rw [hrem]; omega
   clear hrem hq0 hq2 hq3
   have hfe := holder_err hlo s.id
   have HXv := bk HX hb
   have HBv := Qa hb
   have HLo := Qa (HLib.out _ (HB.out.trans (hb.mono HW3.out))).los
   have HHo := Qa (fun U (hU : Below w.heap.size w U) => PHolder_any P.la L.los.length P.lc L.los s.id 1000000000 U rfl (by omega) (HLib.out U hU).los)
   have HZ := Qa hz; have HSv := Qa hs; have HLv := Qa hl
   have HFi := Qa (fun hh => finds_holder (L := L) (d := d) (st := x.st) hnod HSm.out.1 hh)
   clear hb hz hs hl hnod hlo
   generalize Zo L.los s.id 1000000000 = R at *
   obtain ⟨hst, hhe, her⟩ := R
   dsimp only at hfe HHo HFi
   have hc := Qb HXv.out; have hcs := Qb HSv.out
   go_upto_region 16 with (go_at_call 20; refine (HHo.out _ (HB.out.trans (HBv.out.mono HW3.out))).mono ?_; rintro e w6 ⟨rfl, hb⟩; replace HXv := bk HXv hb; replace HZ := bk HZ hb; replace HSv := bk HSv hb; replace HLv := bk HLv hb; replace HBv := bu HBv hb; clear hb hc hcs; have hcs := Qb HSv.out)
   go_cut [103] (fun s103 V => V = w6 ∧ s103 = .bool false)
   case first =>
    cases hi : inB s.id 1 1000000
    ·go_wp2_with (go_at_call 21; refine (Qad _ _).mono ?_; rintro e7 w7 ⟨rfl, rfl⟩; rw [hi])
     go_meet
     case rel => exact ⟨rfl, rfl⟩
    ·rw [hi, Bool.true_and] at hfe
     go_wp2_with (go_at_call 21; refine (Qad _ _).mono ?_; rintro e7 w7 ⟨rfl, rfl⟩; rw [hi])
     go_meet
     case rel => exact ⟨rfl, rfl⟩
   case rest =>
   obtain ⟨rfl, rfl⟩ := hcut
   clear hfe
   have hcl := Qb HLv.out; have hcz := Qb HZ.out; have hfz := Qe HZ.out; have hzz := Qd HZ.out
   cases hhe
   ·go_wp2
    go_meet
    case rel => exact ⟨⟨1000000000, 2, s.id, 0, 0, s.dg⟩, 3, rfl, heap_setCell_same _ (w3.heap.size + 1) 5 _ _ _ HZ.out, Qo HLv.out (by omega) _, rfl, HSm.out.2, HFi.out rfl, HBv.out.setCell (p := ⟨w3.heap.size + 1, 5, none⟩) (by show w3.heap.size ≤ w3.heap.size + 1; omega) _⟩
   ·by_cases hse : hst = x.st
    ·have hq1 : (hst == x.st) = true := by rw [hse]; simp
     go_wp2
     go_ret
     exact ⟨rfl, HB.out.trans (HBv.out.mono HW3.out)⟩
    ·have hq1 : (hst == x.st) = false := by rw [beq_eq_false_iff_ne]; exact hse
     go_wp2
     go_meet
     case rel => exact ⟨⟨1000000000, 2, s.id, 0, 0, s.dg⟩, 3, rfl, heap_setCell_same _ (w3.heap.size + 1) 5 _ _ _ HZ.out, Qo HLv.out (by omega) _, rfl, HSm.out.2, HFi.out (by simp [hse]), HBv.out.setCell (p := ⟨w3.heap.size + 1, 5, none⟩) (by show w3.heap.size ≤ w3.heap.size + 1; omega) _⟩
 case rest =>
 obtain ⟨e, r, rfl, hE, hL, ht, hwi, hfin, hb⟩ := hcut
 have HE := Qa hE; have HL := Qa hL; have HFin := Qa hfin; have HBq := Qa hb; have HXq := bk HX hb; have HEn := Qa (show e.time = 1000000000 ∧ e.wide from ⟨ht, hwi⟩)
 clear hE hL hfin hb ht hwi HX4 HLb HE1 HL1 HB4 hc hrem hq3 hnod hlo HSw
 generalize wc = Wq at *
 have hce := Qb HE.out
 obtain ⟨et, ek, ea, eb, ec, ed⟩ := e
 try dsimp only at hce
 cases hok : Qt (⟨et, ek, ea, eb, ec, ed⟩ : En)
 ·go_wp2_with (go_at_call 23; refine (Qaa et ek ea eb ec ed _).mono ?_; rintro e8 w8 ⟨rfl, hb⟩; rw [hok]; replace HBq := bu HBq hb; clear hb)
  go_ret
  exact ⟨rfl, HB.out.trans (HBq.out.mono HW3.out)⟩
 obtain ⟨M, hM⟩ : ∃ M, M = mkLg x.st (x.es ++ [(⟨et, ek, ea, eb, ec, ed⟩ : En)]) := ⟨_, rfl⟩
 have HA1 := Qa (HAp.out _ hok HEn.out.1 HEn.out.2)
 have HP1 := Qa (fun p1 a1 c1 V (hV : Below w.heap.size w V) (hk : SlOk a1 1 c1) (hky : SlOk p1.a M.es.length p1.c) (ha : LgsAt V a1 [(M, p1)]) => by
  have h := HPy.out _ hok HEn.out.1 HEn.out.2 p1 a1 c1 V hV hk (by rw [hM] at hky; exact hky) (by rw [hM] at ha; exact ha)
  rw [← hM] at h
  exact h)
 rw [← hM] at HA1
 have HAn := Qa (show (V0 L d M).any (fun v => decide (v = ⟨x.st, r, (x.es.length : Int)⟩)) = true by rw [hM]; exact finds_any HFin.out)
 have HVn := Qa (show (V0 L d M).length ≤ 2 * 20 from Nat.le_trans (ZT L d M.st M.es 0 0 0) (by rw [hM]; show 2 * (x.es ++ [(⟨et, ek, ea, eb, ec, ed⟩ : En)]).length ≤ _; simp; omega))
 clear hM HAp HPy HFin HEn
 generalize V0 L d M = Vy at *
 go_upto_region 29 with (go_at_call 23; refine (Qaa et ek ea eb ec ed _).mono ?_; rintro e8 w8 ⟨rfl, hb⟩; rw [hok]; replace HE := bk HE hb; replace HL := bk HL hb; replace HXq := bk HXq hb; replace HBq := bu HBq hb; clear hb hce)
 have hce := Qb HE.out; have hcl := Qb HL.out
 try dsimp only at hce
 go_upto_region 30 with (go_at_call 19; refine (HA1.out _ (HB.out.trans (HBq.out.mono HW3.out))).mono ?_; rintro e9 w9 ⟨a9, c9, rfl, hk9, he9, hb, _⟩; have HK9 := Qa hk9; have HE9 := Qa he9; replace HL := bk HL hb; replace HXq := bk HXq hb; replace HBq := bu HBq hb; clear hb hce hcl hk9 he9 HE HA1)
 have HN := Qa (heap_alloc_new w9 (.cells #[.int .i64 (M).st, .slice a9 (M).es.length c9, .int .u64 (M).ch] 44 (0, 0)))
 have hb := Qg (w := w9) (.cells #[.int .i64 (M).st, .slice a9 (M).es.length c9, .int .u64 (M).ch] 44 (0, 0))
 replace HL := bk HL hb; replace HXq := bk HXq hb; replace HE9 := Qa (HE9.out.below hb); replace HBq := bu HBq hb
 clear hb
 generalize w9.alloc (.cells #[.int .i64 (M).st, .slice a9 (M).es.length c9, .int .u64 (M).ch] 44 (0, 0)) = W10 at *
 generalize w9.heap.size = nb at *
 have hcx := Qb HXq.out; have hcn := Qb HN.out
 go_upto_region 31 with (go_at_call 11; refine (HP1.out ⟨a9, c9⟩ (some ⟨W10.heap.size, 0, none⟩) 1 (W10.alloc (.cells #[.int .i64 (M).st, .slice a9 (M).es.length c9, .int .u64 (M).ch] 44 (0, 0))) (HB.out.trans ((HBq.out.alloc HBq.out.size _).mono HW3.out)) (Jf _ _ (by omega)) HK9.out (LgsAt.new HE9.out)).mono ?_; rintro e11 w11 ⟨a24, c24, rfl, _, hs11, hb11⟩; rw [List.length_map]; have hb := ZX hb11; have HVy := Qa (show VdAt w11 a24 Vy from hs11); replace HL := bk HL hb; replace HBq := bu HBq hb; clear hb hb11 hs11 hcx hcn HXq HN HP1 HK9 HE9)
 have hvn := HVn.out
 go_wp2
 go_loopw [26, 160] (fun t26 t160 wi => ∃ j : Nat, j ≤ Vy.length ∧ t26 = .bool ((Vy.take j).any (fun v => decide (v = ⟨x.st, r, (x.es.length : Int)⟩))) ∧ t160 = .int .i64 j ∧ Below w11.heap.size w11 wi) (fun _ t160 _ => Vy.length - (intOf t160).toNat)
 case atStart => exact ⟨0, Nat.zero_le _, by rw [List.take_zero]; rfl, rfl, Below.refl _ _⟩
 case round =>
  obtain ⟨j, hj, rfl, rfl, hb⟩ := hrel
  have HBi := Qa hb
  have HLi := bk HL hb; have HVi := Qa (HVy.out.below hb)
  clear hb
  by_cases hjt : j < Vy.length
  ·obtain ⟨b8, off8, e8, d0, d1, d2⟩ := HVi.out.get j hjt
   have hji : (j : Int) < (Vy.length : Int) := by omega
   have hwj : IntKind.i64.wrap ((j : Int) + 1) = (j : Int) + 1 := IntWalk.i64_in _ (by omega)
   have HT := Qa (show (Vy.take (j + 1)).any (fun v => decide (v = ⟨x.st, r, (x.es.length : Int)⟩)) = ((Vy.take j).any (fun v => decide (v = ⟨x.st, r, (x.es.length : Int)⟩)) || decide (Vy[j] = ⟨x.st, r, (x.es.length : Int)⟩)) by
    rw [List.take_succ_eq_append_getElem hjt, List.any_append]; simp)
   generalize (Vy.take j).any (fun v => decide (v = ⟨x.st, r, (x.es.length : Int)⟩)) = Bf at *
   generalize Vy[j] = v at *
   rw [e8]
   clear e8 hjt
   go_upto_region 37 with (fail)
   have HEv := Qa (heap_alloc_new wr (.cells #[.int .i64 (v).st, .int .i64 (v).rule, .int .i64 (v).en] 46 (0, 0)))
   have hb1 := Qg (w := wr) (.cells #[.int .i64 (v).st, .int .i64 (v).rule, .int .i64 (v).en] 46 (0, 0))
   have HLj := bk HLi hb1; have HBj := bu HBi hb1
   clear d0 d1 d2 hb1 HLi HVi HBi
   generalize wr.alloc (.cells #[.int .i64 (v).st, .int .i64 (v).rule, .int .i64 (v).en] 46 (0, 0)) = wj at *
   generalize wr.heap.size = vb at *
   have hcv := Qb HEv.out; have hcl := Qb HLj.out
   have heq := fun U => eqd_vd v ⟨x.st, r, (x.es.length : Int)⟩ U
   dsimp only at heq
   cases Bf
   ·rw [Bool.false_or] at HT
    generalize decide (v = ⟨x.st, r, (x.es.length : Int)⟩) = Bn at *
    go_wp2
    exact ⟨⟨j + 1, by omega, by rw [HT.out], by go_num, HBj.out⟩, by simp [intOf]; omega⟩
   ·rw [Bool.true_or] at HT
    go_wp2
    exact ⟨⟨j + 1, by omega, by rw [HT.out], by go_num, HBj.out⟩, by simp [intOf]; omega⟩
  ·obtain rfl : j = Vy.length := by omega
   rw [List.take_length, HAn.out]
   go_wp2
   go_ret
   exact ⟨rfl, HB.out.trans ((HBq.out.trans (HBi.out.mono HBq.out.size)).mono HW3.out)⟩
end Go.Proofs.YtajijcfikihhjaaGreatDoor
