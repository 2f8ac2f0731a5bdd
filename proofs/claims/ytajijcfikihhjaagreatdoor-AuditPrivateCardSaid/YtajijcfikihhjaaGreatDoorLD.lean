import Derived.Test.YtajijcfikihhjaaGreatDoorLC
set_option linter.unusedSimpArgs false
set_option linter.unusedVariables false
set_option maxRecDepth 100000
set_option maxHeartbeats 16000000
namespace Go.Proofs.YtajijcfikihhjaaGreatDoor
open Go.RowKit Go.Sort Go.Shelf
attribute [local go_sem] Oper.semAt_some
theorem EnAt.set3 {w : World} {a : Option Addr} {es : List En} (h : EnAt w a es) {b : Nat} {c0 c1 c2 : Value} {T : TypeId} (hb : w.heap[b]? = some (.cells #[c0, c1, c2] T (0, 0))) (v0 v1 v2 : Value) : EnAt (Go.Proofs.YtajijcfikihhjaaGreatDoor.set3 w b v0 v1 v2) a es := by
 cases es with
 | nil => exact SlAt.nil _ _ _
 | cons e es => exact SlAt.keepB (h : SlAt _ _ _ _) (((KeepB.refl w.heap.size [b] w).set (.inl (by simp)) _).set (.inl (by simp)) _ |>.set (.inl (by simp)) _) (fun ad ea => by rw [List.mem_singleton]; exact SlAt.far (sz := 6) (rows := es.map enRow) (r := enRow e) h hb (by show 3 < 6; omega) ad ea)
theorem ZU {v : World} {b k : Nat} {o : Obj} (h : v.heap[k]? = some o) (hk : k ≠ b) (a0 a1 a2 : Value) : (Go.Proofs.YtajijcfikihhjaaGreatDoor.set3 v b a0 a1 a2).heap[k]? = some o :=
 (heap_setCell_other _ _ _ _ (show k ≠ b from hk)).trans ((heap_setCell_other _ _ _ _ (show k ≠ b from hk)).trans ((heap_setCell_other _ _ _ _ (show k ≠ b from hk)).trans h))
theorem EntsOk.le {es : List En} (h : EntsOk es) (k : Nat) (hk : k < es.length) : ∀ x ∈ es.take k, x.time ≤ es[k].time := fun x hx => by
 obtain ⟨i, hi, rfl⟩ := List.mem_iff_getElem.1 hx
 rw [List.getElem_take]
 have hi2 : i < k := by simp at hi; omega
 exact List.pairwise_iff_getElem.1 h.2 i k (by omega) hk hi2
theorem mk_step {st : Int} {es : List En} (h1 : 1 ≤ st ∧ st ≤ 1000000) (h : EntsOk es) (hl : es.length ≤ 5000) (k : Nat) (hk : k < es.length) : QR (mkLg st (es.take k)) es[k] = (mkLg st (es.take (k + 1)), 0) := by
 rw [Y1 h1 (by simp; omega) (h.sub (List.take_sublist _ _)) (h.1 _ (List.getElem_mem hk)) (h.le k hk), List.take_succ_eq_append_getElem hk]
theorem begins_any (x : Lg) (a : Option Addr) (cap n : Nat) (w : World) (hn : n ≤ x.es.length) (h1 : 1 ≤ x.st ∧ x.st ≤ 1000000) (hx : EntsOk x.es) (hl : x.es.length ≤ 20) (hw : ∀ e ∈ x.es, e.wide) (hk : SlOk a x.es.length cap) (hE : EnvP w) (ha : EnAt w a x.es) :
  Calls Tryz.prog 18 #[.agg #[.int .i64 (x).st, .slice a (x).es.length cap, .int .u64 (x).ch], .int .i64 (n : Nat)] w (JE (mkLg x.st (x.es.take n)) w) := by
 obtain ⟨x1, x2, x3, hb⟩ := box3 (w := w) (A := .cells #[.int .i64 (x).st, .slice a (x).es.length cap, .int .u64 (x).ch] 44 (0, 0)) (B := .cells #[.int .i64 0, .slice none 0 0, .int .u64 0] 44 (0, 0)) (C := .cells #[.int .i64 x.st, .slice none 0 0, .int .u64 0] 44 (0, 0)) (Below.refl _ _)
 have HX1 := Qa x1; have HX2 := Qa x2; have HX3 := Qa x3; have HB := Qa hb
 have HA := Qa (fun V (hV : Below w.heap.size w V) => And.intro (hE.below hV) (ha.below hV))
 have HAp := Qa (fun k (hk : k < x.es.length) a1 c1 V (hV : Below w.heap.size w V) (hk1 : SlOk a1 (x.es.take k).length c1) (h2 : EnAt V a1 (x.es.take k)) => by
  have h := Append37_any (mkLg x.st (x.es.take k)) a1 c1 x.es[k] V (by show (x.es.take k).length ≤ 900; simp; omega) hk1 (fun e he => hw e (List.mem_of_mem_take he)) (hw _ (List.getElem_mem hk)) (hE.below hV) h2
  rw [mk_step h1 hx (by omega) k hk] at h
  exact h)
 have hncap : n ≤ cap := Nat.le_trans hn hk.1
 clear x1 x2 x3 hb hE ha hx hw
 go_enter Tryz.func18, Tryz.ntmps18
 go_upto_region 2 with (fail)
 generalize ((w.alloc (.cells #[.int .i64 (x).st, .slice a (x).es.length cap, .int .u64 (x).ch] 44 (0, 0))).alloc (.cells #[.int .i64 0, .slice none 0 0, .int .u64 0] 44 (0, 0))).alloc (.cells #[.int .i64 x.st, .slice none 0 0, .int .u64 0] 44 (0, 0)) = W at *
 have hc := Qb HX1.out
 have hn0 : (0 : Int) ≤ (n : Int) := by omega
 have hn1 : (n : Int) ≤ (cap : Int) := by omega
 have hz1 := Qd HX3.out
 go_cut [14, 15, 16] (fun s14 s15 s16 V => V = W ∧ s15 = .int .i64 (n : Nat) ∧ s16 = .int .i64 0 ∧ ∃ c, s14 = .slice a n c)
 case first =>
  rcases hk.cases with ⟨rfl, h2, h3⟩ | ⟨b, off, rfl⟩ | ⟨b, off, sp, rfl, h2, h3⟩
  ·subst h3
   obtain rfl : n = 0 := by omega
   go_wp2
   go_meet
   case rel => exact ⟨rfl, rfl, rfl, _, rfl⟩
  ·go_wp2
   go_meet
   case rel => exact ⟨rfl, rfl, rfl, _, rfl⟩
  ·subst h3
   obtain rfl : n = 0 := by omega
   go_wp2
   go_meet
   case rel => exact ⟨rfl, rfl, rfl, _, rfl⟩
 case rest =>
 obtain ⟨rfl, rfl, rfl, c, rfl⟩ := hcut
 clear hc HX1 hn0 hn1
 go_wp2
 go_loopw [16] (fun t16 wr => ∃ (k : Nat) (a1 : Option Addr) (c1 : Nat), k ≤ n ∧ t16 = .int .i64 k ∧ wr.heap[w.heap.size + 1]? = some (.cells #[.int .i64 0, .slice none 0 0, .int .u64 0] 44 (0, 0)) ∧ wr.heap[w.heap.size + 1 + 1]? = some (.cells #[.int .i64 ((mkLg x.st (x.es.take k))).st, .slice a1 ((mkLg x.st (x.es.take k))).es.length c1, .int .u64 ((mkLg x.st (x.es.take k))).ch] 44 (0, 0)) ∧ SlOk a1 (x.es.take k).length c1 ∧ EnAt wr a1 (x.es.take k) ∧ Below w.heap.size w wr) (fun t16 _ => n - (intOf t16).toNat)
 case atStart => exact ⟨0, none, 0, Nat.zero_le _, rfl, HX2.out, by have := HX3.out; exact this, SlOk.nil, SlAt.nil _ _ _, HB.out⟩
 case round =>
  obtain ⟨k, a1, c1, hkn, rfl, z2, z3, hk1, he1, hb⟩ := hrel
  have HZ2 := Qa z2; have HZ3 := Qa z3; have HK1 := Qa hk1; have HE1 := Qa he1; have HBr := Qa hb
  clear z2 z3 hk1 he1 hb HX2 HX3 HB
  by_cases hlt : k < n
  ·obtain ⟨b, off, ea, d0, d1, d2, d3, d4, d5⟩ := EnAt.get (HA.out _ HBr.out).2 k (by omega)
   have hki : (k : Int) < (n : Int) := by omega
   have hwk : IntKind.i64.wrap ((k : Int) + 1) = (k : Int) + 1 := IntWalk.i64_in _ (by omega)
   have HAk := Qa (fun V hV (h2 : EnAt V a1 (x.es.take k)) => HAp.out k (by omega) a1 c1 V hV HK1.out h2)
   obtain ⟨L0, hL0⟩ : ∃ L0, L0 = mkLg x.st (x.es.take k) := ⟨_, rfl⟩
   obtain ⟨L1, hL1⟩ : ∃ L1, L1 = mkLg x.st (x.es.take (k + 1)) := ⟨_, rfl⟩
   rw [← hL0] at HAk HZ3
   rw [← hL1] at HAk
   have HL1 := Qa (show L1 = mkLg x.st (x.es.take (k + 1)) from hL1)
   clear hL0 hL1 HK1
   generalize x.es.take k = T0 at *
   rw [ea]
   clear ea
   generalize x.es[k] = e at *
   go_upto_region 5 with (fail)
   have HN := Qa (heap_alloc_new wr (.cells #[.int .i64 (e).time, .int .i64 (e).kind, .int .i64 (e).a, .int .i64 (e).b, .int .i64 (e).c, .int .u64 (e).dg] 50 (0, 0)))
   have hb1 := Qg (w := wr) (.cells #[.int .i64 (e).time, .int .i64 (e).kind, .int .i64 (e).a, .int .i64 (e).b, .int .i64 (e).c, .int .u64 (e).dg] 50 (0, 0))
   replace HZ2 := bk HZ2 hb1; replace HZ3 := bk HZ3 hb1; replace HE1 := Qa (HE1.out.below hb1); replace HBr := bu HBr hb1
   clear d0 d1 d2 d3 d4 d5 hb1 HA HAp
   generalize wr.alloc (.cells #[.int .i64 (e).time, .int .i64 (e).kind, .int .i64 (e).a, .int .i64 (e).b, .int .i64 (e).c, .int .u64 (e).dg] 50 (0, 0)) = w2 at *
   generalize wr.heap.size = eb at *
   have hc := Qb HZ3.out; have hd := Qb HN.out
   go_wp2_with (go_at_call 19; refine (HAk.out _ HBr.out HE1.out).mono ?_; rintro e5 w5 ⟨a5, c5, rfl, hk5, he5, hb5⟩; have HK5 := Qa hk5; have HE5 := Qa he5; have HZ2' := bk HZ2 hb5; have HZ3' := bk HZ3 hb5; have HB5 := bu HBr hb5; clear hc hd hk5 he5 hb5; have hc3 := Qb HZ3'.out; have hf3 := Qe HZ3'.out; have hz3 := Qd HZ3'.out)
   have h1 := HL1.out
   subst h1
   exact ⟨⟨k + 1, a5, c5, by omega, by go_num, ZU HZ2'.out (by omega) _ _ _, Q9 HZ3'.out _ _ _, HK5.out, HE5.out.set3 HZ3'.out _ _ _, QD HB5.out (by omega) _ _ _⟩, by simp [intOf]; omega⟩
  ·obtain rfl : k = n := by omega
   obtain ⟨L0, hL0⟩ : ∃ L0, L0 = mkLg x.st (x.es.take k) := ⟨_, rfl⟩
   rw [← hL0]
   rw [← hL0] at HZ3
   have HL0 := Qa (show L0 = mkLg x.st (x.es.take k) from hL0)
   clear hL0
   have hc := Qb HZ3.out; have hc2 := Qb HZ2.out; have hf2 := Qe HZ2.out; have hz2 := Qd HZ2.out
   go_wp2
   refine bodyPost_ret (Z0 rfl _ _ (w.heap.size + 1) 44 _ (0, 0) _ rfl (Q9 HZ2.out _ _ _) Tryz.underlying44 rfl (by kernel_rfl)) rfl ?_
   have h0 := HL0.out
   have z2 := HZ2.out
   subst h0
   exact ⟨a1, c1, rfl, HK1.out, HE1.out.set3 z2 _ _ _, QD HBr.out (by omega) _ _ _⟩
theorem begins_verds (L : Lb) (d : List De) (x : Lg) (n : Nat) : V0 L d (mkLg x.st (x.es.take n)) = (V0 L d x).filter (fun v => decide (v.en < (n : Int))) := by
 have := verds_take L d x.st x.es 0 0 0 n
 rw [Nat.zero_add] at this
 exact this.symm
theorem logsB_begins {l : List Lg} (h : QU l = true) {x : Lg} (hx : x ∈ l) (n : Nat) : QU [mkLg x.st (x.es.take n)] = true := by
 unfold QU at h ⊢
 simp only [Bool.and_eq_true, List.all_eq_true, decide_eq_true_eq] at h ⊢
 obtain ⟨h1, h2, h3, _⟩ := JY (h.1 x hx)
 exact ⟨fun y hy => by rw [List.mem_singleton.1 hy]; exact Jn h1 (by simp; omega) (h3.sub (List.take_sublist _ _)), by simp⟩
theorem LgsAt.new {V : World} {x : Lg} {a1 : Option Addr} {c1 : Nat} (h : EnAt V a1 x.es) : LgsAt (V.alloc (.cells #[.int .i64 (x).st, .slice a1 (x).es.length c1, .int .u64 (x).ch] 44 (0, 0))) (some ⟨V.heap.size, 0, none⟩) [(x, ⟨a1, c1⟩)] :=
 ⟨SlAt.new V _ 44 3 _ (by simp [lgRow]) (by simp [lgRow]), fun y hy => by rw [List.mem_singleton.1 hy]; exact h.below (Qg _)⟩
theorem AuditBegins_any (L : Lb) (P : Lbp) (d : List De) (da : Option Addr) (dc : Nat) (l : List (Lg × Lq)) (a : Option Addr) (cap c : Nat) (w : World) (hcc : c ≤ 255) (h : ArgA w L P d da dc l a cap) :
  Calls Tryz.prog 5 #[.agg #[.slice (P).wa (L).ws.length (P).wc, .slice (P).ea (L).eds.length (P).ec, .slice (P).sa (L).shs.length (P).sc, .slice (P).la (L).los.length (P).lc], .slice da d.length dc, .slice a l.length cap, .int .u8 (c : Nat)] w fun e w' => e = .returned (.bool true) ∧ Below w.heap.size w w' := by
 have HA := Qa (fun V (hV : Below w.heap.size w V) => h.below hV)
 have HF := Qa (fun hf => h.few hf)
 have HX := Qa (heap_alloc_new w (.cells #[.slice (P).wa (L).ws.length (P).wc, .slice (P).ea (L).eds.length (P).ec, .slice (P).sa (L).shs.length (P).sc, .slice (P).la (L).los.length (P).lc] 27 (0, 0)))
 have HB := Qa (Qg (w := w) (.cells #[.slice (P).wa (L).ws.length (P).wc, .slice (P).ea (L).eds.length (P).ec, .slice (P).sa (L).shs.length (P).sc, .slice (P).la (L).los.length (P).lc] 27 (0, 0)))
 have HUs := Qa (fun V (hV : Below w.heap.size w V) => Y6 L P d da dc l a cap V (h.below hV))
 clear h
 go_enter Tryz.func5, Tryz.ntmps5
 go_upto_region 1 with (fail)
 generalize w.alloc (.cells #[.slice (P).wa (L).ws.length (P).wc, .slice (P).ea (L).eds.length (P).ec, .slice (P).sa (L).shs.length (P).sc, .slice (P).la (L).los.length (P).lc] 27 (0, 0)) = W at *
 have hc := Qb HX.out
 go_upto_region 2 with (go_at_call 9; refine (Jh _ (HA.out _ HB.out).env).mono ?_; rintro e w2 ⟨rfl, hb⟩; replace HX := bk HX hb; replace HB := bu HB hb; clear hb hc; have hc := Qb HX.out)
 cases hf : useB L d (Qp l)
 ·rw [hf] at HUs
  go_wp2_with (go_at_call 17; refine (HUs.out _ HB.out).mono ?_; rintro e w3 ⟨rfl, hb⟩; replace HX := bk HX hb; replace HB := bu HB hb; clear hb hc; have hc := Qb HX.out)
  go_ret
  exact ⟨rfl, HB.out⟩
 rw [hf] at HUs
 by_cases hl0 : l.length = 0
 ·have hl1 : ((l.length : Int) == 0) = true := by simp [hl0]
  clear hl0
  go_wp2_with (go_at_call 17; refine (HUs.out _ HB.out).mono ?_; rintro e w3 ⟨rfl, hb⟩; replace HX := bk HX hb; replace HB := bu HB hb; clear hb hc; have hc := Qb HX.out)
  go_ret
  exact ⟨rfl, HB.out⟩
 have hl1 : ((l.length : Int) == 0) = false := by rw [beq_eq_false_iff_ne]; omega
 obtain ⟨hf1, hf2, hf3⟩ := JZ hf
 have HFew := Qa (HF.out hf1)
 obtain ⟨x, p, hx0⟩ : ∃ x p, l[0]'(by omega) = (x, p) := ⟨_, _, rfl⟩
 have hml : (x, p) ∈ l := by rw [← hx0]; exact List.getElem_mem _
 have hmg : x ∈ Qp l := List.mem_map.2 ⟨_, hml, rfl⟩
 obtain ⟨n, hn⟩ : ∃ n, n = c % (x.es.length + 1) := ⟨_, rfl⟩
 have hnl : n ≤ x.es.length := by have := Nat.mod_lt c (show 0 < x.es.length + 1 by omega); omega
 have hes : x.es.length ≤ 20 := HFew.out.es _ hml
 have hv := JY ((show Qw x = true from by have := hf3; unfold QU at this; simp only [Bool.and_eq_true, List.all_eq_true] at this; exact this.1 x hmg))
 have HP1 := Qa (fun a1 c1 V (hV : Below w.heap.size w V) (hk : SlOk a1 1 c1) (ha : LgsAt V a1 [(x, p)]) => by
  have h := QY L P d da dc [(x, p)] a1 c1 V HFew.out.lib HFew.out.bars HFew.out.dec (HFew.out.lgs.one hml) (HA.out V hV).env (HA.out V hV).lib (HA.out V hV).dec hk ha
  rw [show Qp [(x, p)] = [x] from rfl, Jk hf2 hf3 hmg] at h
  exact h)
 obtain ⟨y, hy⟩ : ∃ y, y = mkLg x.st (x.es.take n) := ⟨_, rfl⟩
 have hyl : y.es.length ≤ 20 := by rw [hy]; show (x.es.take n).length ≤ 20; rw [List.length_take]; omega
 have HP2 := Qa (fun p1 a1 c1 V (hV : Below w.heap.size w V) (hk : SlOk a1 1 c1) (hky : SlOk p1.a y.es.length p1.c) (ha : LgsAt V a1 [(y, p1)]) => by
  have h := QY L P d da dc [(y, p1)] a1 c1 V HFew.out.lib HFew.out.bars HFew.out.dec ⟨by simp, fun z hz => by rw [List.mem_singleton.1 hz]; show y.es.length ≤ 800; omega, fun z hz => by rw [List.mem_singleton.1 hz]; show ∀ e ∈ y.es, e.wide; rw [hy]; exact fun e he => HFew.out.lgs.wide _ hml e (List.mem_of_mem_take he), fun z hz => by rw [List.mem_singleton.1 hz]; exact hky⟩ (HA.out V hV).env (HA.out V hV).lib (HA.out V hV).dec hk ha
  rw [show Qp [(y, p1)] = [y] from rfl, ZL (by simp) hf2 (by rw [hy]; exact logsB_begins hf3 hmg n), Yc] at h
  exact h)
 have HVy := Qa (show V0 L d y = (V0 L d x).filter (fun v => decide (v.en < (n : Int))) by rw [hy]; exact begins_verds L d x n)
 have HBg := Qa (fun V (hV : Below w.heap.size w V) => by
  have h := begins_any x p.a p.c n V hnl hv.1 hv.2.2.1 hes (HFew.out.lgs.wide _ hml) (HFew.out.lgs.ok _ hml) (HA.out V hV).env ((HA.out V hV).lgs.es _ hml)
  rw [← hy] at h
  exact h)
 have HN := Qa (show (V0 L d x).length ≤ 2 * x.es.length from ZT L d x.st x.es 0 0 0)
 have HSb := Qa (fun V (hV : Below w.heap.size w V) => by
  obtain ⟨b, off, e, h⟩ := (HA.out V hV).lgs.sub 0 (by omega)
  rw [hx0, Nat.zero_mul, Nat.add_zero] at h
  exact (show ∃ b off, a = some ⟨b, off, none⟩ ∧ LgsAt V (some ⟨b, off, none⟩) [(x, p)] from ⟨b, off, e, h⟩))
 have hcap : l.length ≤ cap := (HA.out _ HB.out).lk.1
 have hrem2 : (c : Int) % ((x.es.length : Int) + 1) = (n : Int) := by rw [hn, show ((x.es.length : Int) + 1) = ((x.es.length + 1 : Nat) : Int) by omega, Int.natCast_emod]
 have hwc : IntKind.i64.wrap (c : Int) = (c : Int) := IntWalk.i64_in _ (by omega)
 have hwl : IntKind.i64.wrap ((x.es.length : Int) + 1) = (x.es.length : Int) + 1 := IntWalk.i64_in _ (by omega)
 clear hf hf1 hf2 hf3 HF hx0 hml hmg hv hy HFew hn
 generalize V0 L d y = Vy at *
 generalize V0 L d x = Vx at *
 go_upto_region 4 with (go_at_call 17; refine (HUs.out _ HB.out).mono ?_; rintro e w3 ⟨rfl, hb⟩; replace HX := bk HX hb; replace HB := bu HB hb; clear hb hc; have hc := Qb HX.out)
 obtain ⟨b, off, ea, hsub⟩ := HSb.out _ HB.out
 obtain ⟨b', off', e', d0, d1, d2⟩ := hsub.get 0 (by simp)
 cases e'
 simp only [Nat.zero_mul, Nat.add_zero, List.getElem_cons_zero] at d0 d1 d2
 have HSub := Qa (fun V (hV : Below w3.heap.size w3 V) => hsub.below hV)
 have HD := Qa (fun V (hV : Below w3.heap.size w3 V) => show V.cell? ⟨b, off, none⟩ = some (.int .i64 x.st) ∧ V.cell? ⟨b, off + 1, none⟩ = some (.slice p.a x.es.length p.c) ∧ V.cell? ⟨b, off + 2, none⟩ = some (.int .u64 x.ch) from ⟨Qq d0 hV, Qq d1 hV, Qq d2 hV⟩)
 have hll : (0 : Int) < (l.length : Int) := by omega
 have hll2 : 0 < l.length := by omega
 have hcp : (1 : Int) ≤ (cap : Int) := by omega
 have hw3 := HB.out.size
 clear HSb hsub
 rw [ea]
 clear ea
 go_upto_region 5 with (fail)
 clear d0 d1 d2 hc
 refine wp_region_held_drew (S := fun V => V.heap[w.heap.size]? = some (.cells #[.slice (P).wa (L).ws.length (P).wc, .slice (P).ea (L).eds.length (P).ec, .slice (P).sa (L).shs.length (P).sc, .slice (P).la (L).los.length (P).lc] 27 (0, 0))) (by kernel_rfl) HX.out (fun hHeld => ?_)
 (refine tk 0 (v := ?_) ?_ ?_; rotate_left; (· intro wq hSw; have hx := Qb hSw; go_simp; try rfl))
 (refine tk 1 (v := ?_) ?_ ?_; rotate_left; (· intro wq hSw; have hx := Qb hSw; go_simp; try rfl))
 (refine tk 2 (v := ?_) ?_ ?_; rotate_left; (· intro wq hSw; have hx := Qb hSw; go_simp; try rfl))
 (refine tk 3 (v := ?_) ?_ ?_; rotate_left; (· intro wq hSw; have hx := Qb hSw; go_simp; try rfl))
 have hbd := (Below.refl w3.heap.size w3).drew
 have HC1 := Qa (HP1.out (some ⟨b, off, none⟩) cap w3.drew (HB.out.trans (hbd.mono hw3)) ⟨by omega, (fun e => by cases e), (fun ad e _ => by cases e; rfl)⟩ (HSub.out _ hbd))
 (refine tc 4 (fun K hK => ?_); go_simp)
 refine HC1.out.mono ?_
 rintro e5 w5 ⟨a11, c11, rfl, _, hs5, hb5⟩
 rw [List.length_map]
 replace hb5 : Below w3.heap.size w3 w5 := hbd.trans hb5
 have HV1 := Qa (show VdAt w5 a11 Vx from hs5)
 go_simp
 refine hK.out _ _ (Qc HX.out hb5) (fun hHeld2 => ?_)
 clear hK K hHeld hs5 HC1 HP1
 (refine tk 5 (v := ?_) ?_ ?_; rotate_left; (· intro wq hSw; go_simp; try rfl))
 (refine tk 6 (v := ?_) ?_ ?_; rotate_left; (· intro wq hSw; go_simp; try rfl))
 (refine tk 7 (v := ?_) ?_ ?_; rotate_left; (· intro wq hSw; go_simp; try rfl))
 (refine tk 8 (v := ?_) ?_ ?_; rotate_left; (· intro wq hSw; go_simp; try rfl))
 (refine tk 9 (v := ?_) ?_ ?_; rotate_left; (· intro wq hSw; go_simp; try rfl))
 refine wpAnyH_done (by kernel_rfl) ?_ _
 have HX5 := Qa hHeld2; have HB35 := Qa hb5
 clear hHeld2 hb5 hbd
 go_upto_region 6 with (fail)
 refine wp_region_held_drew (S := fun V => V.heap[w.heap.size]? = some (.cells #[.slice (P).wa (L).ws.length (P).wc, .slice (P).ea (L).eds.length (P).ec, .slice (P).sa (L).shs.length (P).sc, .slice (P).la (L).los.length (P).lc] 27 (0, 0)) ∧ V.cell? ⟨b, off, none⟩ = some (.int .i64 x.st) ∧ V.cell? ⟨b, off + 1, none⟩ = some (.slice p.a x.es.length p.c) ∧ V.cell? ⟨b, off + 2, none⟩ = some (.int .u64 x.ch)) (by kernel_rfl) ⟨HX5.out, HD.out _ (HB35.out.trans ((Below.refl w5.heap.size w5).drew.mono HB35.out.size))⟩ (fun hHeld => ?_)
 (refine tk 0 (v := ?_) ?_ ?_; rotate_left; (· intro wq hSw; obtain ⟨hSx, hy0, hy1, hy2⟩ := hSw; have hx := Qb hSx; go_simp; try rfl))
 (refine tk 1 (v := ?_) ?_ ?_; rotate_left; (· intro wq hSw; obtain ⟨hSx, hy0, hy1, hy2⟩ := hSw; have hx := Qb hSx; go_simp; try rfl))
 (refine tk 2 (v := ?_) ?_ ?_; rotate_left; (· intro wq hSw; obtain ⟨hSx, hy0, hy1, hy2⟩ := hSw; have hx := Qb hSx; go_simp; try rfl))
 (refine tk 3 (v := ?_) ?_ ?_; rotate_left; (· intro wq hSw; obtain ⟨hSx, hy0, hy1, hy2⟩ := hSw; have hx := Qb hSx; go_simp; try rfl))
 (refine tk 4 (v := ?_) ?_ ?_; rotate_left; (· intro wq hSw; obtain ⟨hSx, hy0, hy1, hy2⟩ := hSw; have hx := Qb hSx; go_simp; try rfl))
 (refine tk 5 (v := ?_) ?_ ?_; rotate_left; (· intro wq hSw; obtain ⟨hSx, hy0, hy1, hy2⟩ := hSw; have hx := Qb hSx; go_simp; try rfl))
 have hbd : Below w3.heap.size w3 w5.drew := HB35.out.trans ((Below.refl w5.heap.size w5).drew.mono HB35.out.size)
 have HC2 := Qa (HBg.out w5.drew (HB.out.trans (hbd.mono hw3)))
 (refine tc 6 (fun K hK => ?_); go_simp)
 refine HC2.out.mono ?_
 rintro e6 w6 ⟨a1, c1, rfl, hk1, he1, hb6⟩
 replace hb6 : Below w5.heap.size w5 w6 := (Below.refl w5.heap.size w5).drew.trans hb6
 have HB36 := bu HB35 hb6; have HV6 := Qa (HV1.out.below hb6); have HX6 := bk HX5 hb6; have HE6 := Qa he1; have HK6 := Qa hk1
 go_simp
 refine hK.out _ _ ⟨HX6.out, HD.out _ HB36.out⟩ (fun hHeld2 => ?_)
 clear hK K hHeld he1 hk1 hb6 hbd HC2 HBg HX5 HV1
 (refine tc 7 (fun K hK => ?_); go_simp)
 have hb7 := HB36.out.alloc HB36.out.size (.cells #[.int .i64 (y).st, .slice a1 (y).es.length c1, .int .u64 (y).ch] 44 (0, 0))
 refine hK.out _ _ ⟨Qj HX6.out _, HD.out _ hb7⟩ (fun hHeld3 => ?_)
 clear hK K hHeld2
 have HC3 := Qa (HP2.out ⟨a1, c1⟩ (some ⟨w6.heap.size, 0, none⟩) 1 (w6.alloc (.cells #[.int .i64 (y).st, .slice a1 (y).es.length c1, .int .u64 (y).ch] 44 (0, 0))) (HB.out.trans (hb7.mono hw3)) (Jf _ _ (by omega)) HK6.out (LgsAt.new HE6.out))
 (refine tc 8 (fun K hK => ?_); go_simp)
 refine HC3.out.mono ?_
 rintro e8 w8 ⟨a13, c13, rfl, _, hs8, hb8⟩
 rw [List.length_map]
 have HB38 := Qa (hb7.trans (hb8.mono hb7.size)); have HV8 := Qa (HV6.out.below (ZX hb8)); have HV9 := Qa (show VdAt w8 a13 Vy from hs8)
 go_simp
 refine hK.out _ _ ⟨Qc HX.out HB38.out, HD.out _ HB38.out⟩ (fun hHeld4 => ?_)
 clear hK K hHeld3 hs8 hb7 hb8 HC3 HP2 HK6 HE6 HX6 HV6
 (refine tk 9 (v := ?_) ?_ ?_; rotate_left; (· intro wq hSw; go_simp; try rfl))
 (refine tk 10 (v := ?_) ?_ ?_; rotate_left; (· intro wq hSw; go_simp; try rfl))
 (refine tk 11 (v := ?_) ?_ ?_; rotate_left; (· intro wq hSw; go_simp; try rfl))
 (refine tk 12 (v := ?_) ?_ ?_; rotate_left; (· intro wq hSw; go_simp; try rfl))
 (refine tk 13 (v := ?_) ?_ ?_; rotate_left; (· intro wq hSw; go_simp; try rfl))
 refine wpAnyH_done (by kernel_rfl) ?_ _
 clear hHeld4 HD HSub
 have hvl := HN.out
 obtain ⟨B2, hB2⟩ : ∃ B2, B2 = w8.heap.size := ⟨_, rfl⟩
 go_wp2
 go_loopw [15, 61] (fun t15 t61 wi => ∃ j : Nat, j ≤ Vx.length ∧ t61 = .int .i64 j ∧ OwnR wi B2 46 3 t15 (((Vx.take j).filter (fun v => decide (v.en < (n : Int)))).map vdRow) ∧ Below B2 w8 wi) (fun _ t61 _ => Vx.length - (intOf t61).toNat)
 case atStart => exact ⟨0, Nat.zero_le _, rfl, OwnR.nil _ _ _ _, Below.refl _ _⟩
 case round =>
  obtain ⟨j, hj, rfl, ho, hb⟩ := hrel
  have hz := hb.size
  have HOi := Qa ho; have HBi := Qa hb; have HZi := Qa (show B2 ≤ wr.heap.size by omega)
  have HVi := Qa (HV8.out.below (hB2 ▸ hb))
  clear ho hb hz
  by_cases hjt : j < Vx.length
  ·obtain ⟨b8, off8, e8, d0, d1, d2⟩ := HVi.out.get j hjt
   have hji : (j : Int) < (Vx.length : Int) := by omega
   have hwj : IntKind.i64.wrap ((j : Int) + 1) = (j : Int) + 1 := IntWalk.i64_in _ (by omega)
   have HT := Qa (show (Vx.take (j + 1)).filter (fun v => decide (v.en < (n : Int))) = (Vx.take j).filter (fun v => decide (v.en < (n : Int))) ++ (if Vx[j].en < (n : Int) then [Vx[j]] else []) by
    rw [List.take_succ_eq_append_getElem hjt, List.filter_append]; simp [List.filter_cons])
   have hll3 : ((Vx.take j).filter (fun v => decide (v.en < (n : Int)))).length ≤ j := Nat.le_trans (List.length_filter_le _ _) (by simp; omega)
   generalize (Vx.take j).filter (fun v => decide (v.en < (n : Int))) = LST at *
   generalize Vx[j] = v at *
   rw [e8]
   go_upto_region 11 with (fail)
   have HE := heap_alloc_new wr (.cells #[.int .i64 (v).st, .int .i64 (v).rule, .int .i64 (v).en] 46 (0, 0))
   have hb1 := Qg (w := wr) (.cells #[.int .i64 (v).st, .int .i64 (v).rule, .int .i64 (v).en] 46 (0, 0))
   have HOj := Qa (HOi.out.below hb1); have HBj := Qa (HBi.out.trans (hb1.mono HZi.out)); have HZj := Qa (Nat.le_trans HZi.out hb1.size)
   clear d0 d1 d2 hb1 HOi HBi HZi HVi
   generalize wr.alloc (.cells #[.int .i64 (v).st, .int .i64 (v).rule, .int .i64 (v).en] 46 (0, 0)) = wj at *
   generalize wr.heap.size = eb at *
   have hc := Qb HE
   by_cases hst : v.en < (n : Int)
   ·have hq : decide (v.en < (n : Int)) = true := by simp [hst]
    rw [if_pos hst] at HT
    go_wp2_with (at_builtin; go_must (refine appE eltVd rfl (.tmp 69) (.tmp 71) rfl B2 _ LST rfl (HOj.out.below (Qg _)) _ _ _ [v] rfl rfl (fun e => by cases e) (eltVd.new _ _ _ _ rfl) (by simp; omega) (by have := HZj.out; simp; omega) ?_); intro v5 w9 ho5 hg5; have HO5 := Qa ho5; have HB5 := Qa ((HBj.out.alloc (by have := HZj.out; simpa using this) (.cells #[.int .i64 (v).st, .int .i64 (v).rule, .int .i64 (v).en] 46 (0, 0))).grown hg5 (by have := HZj.out; simp; omega) (fun k e => (HOj.out.lt k e).1)); clear ho5 hg5)
    exact ⟨⟨j + 1, by omega, by go_num, by rw [HT.out]; exact HO5.out, HB5.out⟩, by simp [intOf]; omega⟩
   ·have hq : decide (v.en < (n : Int)) = false := by simp [hst]
    rw [if_neg hst, List.append_nil] at HT
    go_wp2
    exact ⟨⟨j + 1, by omega, by go_num, by rw [HT.out]; exact HOj.out, HBj.out⟩, by simp [intOf]; omega⟩
  ·obtain rfl : j = Vx.length := by omega
   rw [List.take_length, ← HVy.out] at HOi
   obtain ⟨a15, c15, e15, hs15, hi15⟩ := HOi.out.slAt
   rw [List.length_map] at e15
   subst e15
   have hyl2 : Vy.length ≤ 100000 := by rw [HVy.out]; exact Nat.le_trans (List.length_filter_le _ _) (by omega)
   have HVo := Qa (HV9.out.below (hB2 ▸ HBi.out))
   have HVf := Qa (show VdAt wr a15 Vy from hi15)
   have HBz := Qa (HB.out.trans ((HB38.out.trans (HBi.out.mono (by have := HB38.out.size; omega))).mono hw3))
   clear hi15 hs15 HOi HVy
   go_wp2_with (go_at_call 13; refine (Yd a13 a15 Vy.length Vy.length c13 c15 Vy Vy _ rfl rfl (by omega) (by omega) HVo.out HVf.out).mono ?_; rintro e w12 ⟨rfl, hb⟩; rw [decide_eq_true rfl]; replace HBz := bu HBz hb; clear hb)
   go_ret
   exact ⟨rfl, HBz.out⟩
end Go.Proofs.YtajijcfikihhjaaGreatDoor
