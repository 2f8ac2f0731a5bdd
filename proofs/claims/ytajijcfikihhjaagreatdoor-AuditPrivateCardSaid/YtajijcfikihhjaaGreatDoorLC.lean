import Derived.Test.YtajijcfikihhjaaGreatDoorAAW
set_option linter.unusedSimpArgs false
set_option linter.unusedVariables false
set_option maxRecDepth 100000
set_option maxHeartbeats 16000000
namespace Go.Proofs.YtajijcfikihhjaaGreatDoor
open Go.RowKit Go.Sort Go.Shelf
attribute [local go_sem] Oper.semAt_some
def useB (L : Lb) (d : List De) (l : List Lg) : Bool := Ya L d.length l && (libB L d && QU l)
theorem Y6 (L : Lb) (P : Lbp) (d : List De) (da : Option Addr) (dc : Nat) (l : List (Lg × Lq)) (a : Option Addr) (cap : Nat) (w : World) (h : ArgA w L P d da dc l a cap) :
  Calls Tryz.prog 17 #[.agg #[.slice (P).wa (L).ws.length (P).wc, .slice (P).ea (L).eds.length (P).ec, .slice (P).sa (L).shs.length (P).sc, .slice (P).la (L).los.length (P).lc], .slice da d.length dc, .slice a l.length cap] w fun e w' => e = .returned (.bool (useB L d (Qp l))) ∧ Below w.heap.size w w' := by
 have HA := Qa (fun V (hV : Below w.heap.size w V) => h.below hV)
 have HF := Qa (fun hf => h.few hf)
 have HX := Qa (heap_alloc_new w (.cells #[.slice (P).wa (L).ws.length (P).wc, .slice (P).ea (L).eds.length (P).ec, .slice (P).sa (L).shs.length (P).sc, .slice (P).la (L).los.length (P).lc] 27 (0, 0)))
 have HB := Qa (Qg (w := w) (.cells #[.slice (P).wa (L).ws.length (P).wc, .slice (P).ea (L).eds.length (P).ec, .slice (P).sa (L).shs.length (P).sc, .slice (P).la (L).los.length (P).lc] 27 (0, 0)))
 have HFe := Qa (fun V (hV : Below w.heap.size w V) => RFew39_any L P d da dc l a cap V h.nw h.nd h.nl h.nlo h.nsh h.ned h.nes (HA.out V hV).lib (HA.out V hV).lgs)
 have HU := Qa (show useB L d (Qp l) = (Ya L d.length (Qp l) && (libB L d && QU (Qp l))) from rfl)
 clear h
 generalize useB L d (Qp l) = U at *
 go_enter Tryz.func17, Tryz.ntmps17
 go_upto_region 1 with (fail)
 generalize w.alloc (.cells #[.slice (P).wa (L).ws.length (P).wc, .slice (P).ea (L).eds.length (P).ec, .slice (P).sa (L).shs.length (P).sc, .slice (P).la (L).los.length (P).lc] 27 (0, 0)) = W at *
 have hc := Qb HX.out
 cases hf : Ya L d.length (Qp l)
 ·rw [hf] at HFe HU
  rw [Bool.false_and] at HU
  go_wp2_with (go_at_call 10; refine (HFe.out _ HB.out).mono ?_; rintro e w3 ⟨rfl, hb⟩; replace HB := bu HB hb; clear hb)
  go_ret
  exact ⟨Qf HU.out.symm, HB.out⟩
 rw [hf] at HFe HU
 rw [Bool.true_and] at HU
 have HFew := Qa (HF.out hf)
 have HLi := Qa (fun V (hV : Below w.heap.size w V) => RLibrary_any L P d da dc V HFew.out.lib HFew.out.dec (HA.out V hV).lib (HA.out V hV).dec)
 have HLo := Qa (fun V (hV : Below w.heap.size w V) => RLogs_any a cap l V HFew.out.lgs (HA.out V hV).lgs)
 clear hf
 cases h1 : libB L d
 ·rw [h1] at HU HLi
  rw [Bool.false_and] at HU
  clear h1
  go_wp2_with (first | (go_at_call 10; refine (HFe.out _ HB.out).mono ?_; rintro e w3 ⟨rfl, hb⟩; replace HB := bu HB hb; replace HX := bk HX hb; clear hb hc; have hc := Qb HX.out) | (go_at_call 36; refine (HLi.out _ HB.out).mono ?_; rintro e w4 ⟨rfl, hb⟩; replace HB := bu HB hb; clear hb))
  go_ret
  exact ⟨Qf HU.out.symm, HB.out⟩
 ·rw [h1] at HU HLi
  rw [Bool.true_and] at HU
  clear h1
  go_wp2_with (first | (go_at_call 10; refine (HFe.out _ HB.out).mono ?_; rintro e w3 ⟨rfl, hb⟩; replace HB := bu HB hb; replace HX := bk HX hb; clear hb hc; have hc := Qb HX.out) | (go_at_call 36; refine (HLi.out _ HB.out).mono ?_; rintro e w4 ⟨rfl, hb⟩; replace HB := bu HB hb; clear hb) | (go_at_call 37; refine (HLo.out _ HB.out).mono ?_; rintro e w5 ⟨rfl, hb⟩; replace HB := bu HB hb; clear hb))
  go_ret
  exact ⟨Qf HU.out.symm, HB.out⟩
theorem JZ {L : Lb} {d : List De} {l : List Lg} (h : useB L d l = true) : Ya L d.length l = true ∧ libB L d = true ∧ QU l = true := by
 unfold useB at h
 simpa only [Bool.and_eq_true] using h
theorem logsB_one {l : List Lg} (h : QU l = true) {x : Lg} (hx : x ∈ l) : QU [x] = true := by
 unfold QU at h ⊢
 simp only [Bool.and_eq_true, List.all_eq_true, decide_eq_true_eq] at h ⊢
 exact ⟨fun y hy => by rw [List.mem_singleton.1 hy]; exact h.1 x hx, by simp⟩
theorem Jk {L : Lb} {d : List De} {l : List Lg} (h1 : libB L d = true) (h2 : QU l = true) {x : Lg} (hx : x ∈ l) : QN L d [x] = (V0 L d x, 0) := by
 rw [ZL (by simp) h1 (logsB_one h2 hx), Yc]
theorem auditR_rev {L : Lb} {d : List De} {l : List Lg} (hn : l.length ≤ 200) (h1 : libB L d = true) (h2 : QU l = true) : QN L d l.reverse = (Zc L d l, 0) := by
 rw [ZL (by simpa using hn) h1 (by rw [logsB_perm (List.reverse_perm l)]; exact h2), auditV_perm L d (Jv h2).2 (List.reverse_perm l)]
def Z9 (L : Lb) (d : List De) (l : List Lg) (k : Nat) : Nat := sumN ((l.take k).map fun x => (V0 L d x).length)
theorem manyV_step (L : Lb) (d : List De) (l : List Lg) (k : Nat) (hk : k < l.length) : Z9 L d l (k + 1) = Z9 L d l k + (V0 L d l[k]).length := by
 unfold Z9
 rw [List.take_succ_eq_append_getElem hk, List.map_append, sumN_append]; simp [sumN]
theorem manyV_all (L : Lb) (d : List De) (l : List Lg) : Z9 L d l l.length = (Zc L d l).length := by
 unfold Z9; rw [List.take_length, auditV_sum]
theorem rev_step {α : Type} (l : List α) (k : Nat) (hk : k < l.length) : l.reverse.take (k + 1) = l.reverse.take k ++ [l[l.length - 1 - k]] := by
 rw [List.take_succ_eq_append_getElem (by simpa using hk), List.getElem_reverse]
theorem LgsAt.sub {w : World} {a : Option Addr} {l : List (Lg × Lq)} (h : LgsAt w a l) (k : Nat) (hk : k < l.length) : ∃ b off, a = some ⟨b, off, none⟩ ∧ LgsAt w (some ⟨b, off + k * 3, none⟩) [l[k]] := by
 obtain ⟨b, off, e, hb, hl, hc⟩ := h.rows k (lgRow l[k]) (by simp [hk])
 refine ⟨b, off, e, ⟨fun i r hr => ?_, fun x hx => by rw [List.mem_singleton.1 hx]; exact h.es _ (List.getElem_mem hk)⟩⟩
 have hi : i = 0 := by
  have := (List.getElem?_eq_some_iff.1 hr).1
  simpa using this
 subst hi
 obtain rfl : lgRow l[k] = r := by simpa using hr
 exact ⟨b, off + k * 3, rfl, hb, hl, by simpa using hc⟩
theorem LgFew.one {l : List (Lg × Lq)} (h : LgFew l) {x : Lg × Lq} (hx : x ∈ l) : LgFew [x] := ⟨by simp, fun y hy => by rw [List.mem_singleton.1 hy]; exact h.es x hx, fun y hy => by rw [List.mem_singleton.1 hy]; exact h.wide x hx, fun y hy => by rw [List.mem_singleton.1 hy]; exact h.ok x hx⟩
theorem AuditEach_any (L : Lb) (P : Lbp) (d : List De) (da : Option Addr) (dc : Nat) (l : List (Lg × Lq)) (a : Option Addr) (cap : Nat) (w : World) (h : ArgA w L P d da dc l a cap) :
  Calls Tryz.prog 4 #[.agg #[.slice (P).wa (L).ws.length (P).wc, .slice (P).ea (L).eds.length (P).ec, .slice (P).sa (L).shs.length (P).sc, .slice (P).la (L).los.length (P).lc], .slice da d.length dc, .slice a l.length cap] w fun e w' => e = .returned (.bool true) ∧ Below w.heap.size w w' := by
 have HA := Qa (fun V (hV : Below w.heap.size w V) => h.below hV)
 have HF := Qa (fun hf => h.few hf)
 have HX := Qa (heap_alloc_new w (.cells #[.slice (P).wa (L).ws.length (P).wc, .slice (P).ea (L).eds.length (P).ec, .slice (P).sa (L).shs.length (P).sc, .slice (P).la (L).los.length (P).lc] 27 (0, 0)))
 have HB := Qa (Qg (w := w) (.cells #[.slice (P).wa (L).ws.length (P).wc, .slice (P).ea (L).eds.length (P).ec, .slice (P).sa (L).shs.length (P).sc, .slice (P).la (L).los.length (P).lc] 27 (0, 0)))
 have HUs := Qa (fun V (hV : Below w.heap.size w V) => Y6 L P d da dc l a cap V (h.below hV))
 clear h
 go_enter Tryz.func4, Tryz.ntmps4
 go_upto_region 1 with (fail)
 generalize w.alloc (.cells #[.slice (P).wa (L).ws.length (P).wc, .slice (P).ea (L).eds.length (P).ec, .slice (P).sa (L).shs.length (P).sc, .slice (P).la (L).los.length (P).lc] 27 (0, 0)) = W at *
 have hc := Qb HX.out
 go_upto_region 2 with (go_at_call 9; refine (Jh _ (HA.out _ HB.out).env).mono ?_; rintro e w2 ⟨rfl, hb⟩; replace HX := bk HX hb; replace HB := bu HB hb; clear hb hc; have hc := Qb HX.out)
 cases hf : useB L d (Qp l)
 ·rw [hf] at HUs
  go_wp2_with (go_at_call 17; refine (HUs.out _ HB.out).mono ?_; rintro e w3 ⟨rfl, hb⟩; replace HX := bk HX hb; replace HB := bu HB hb; clear hb hc; have hc := Qb HX.out)
  go_ret
  exact ⟨rfl, HB.out⟩
 rw [hf] at HUs
 obtain ⟨hf1, hf2, hf3⟩ := JZ hf
 have HFew := Qa (HF.out hf1)
 have hln : (Qp l).length = l.length := by simp [Qp]
 have hl6 := HFew.out.len
 have HP := Qa (fun V (hV : Below w.heap.size w V) => by
  have h := QY L P d da dc l a cap V HFew.out.lib HFew.out.bars HFew.out.dec HFew.out.lgs (HA.out V hV).env (HA.out V hV).lib (HA.out V hV).dec (HA.out V hV).lk (HA.out V hV).lgs
  rw [ZL (by omega) hf2 hf3] at h
  exact h)
 have HPo := Qa (fun (x : Lg × Lq) (hx : x ∈ l) a1 c1 V (hV : Below w.heap.size w V) (hk : SlOk a1 1 c1) (ha : LgsAt V a1 [x]) => by
  have h := QY L P d da dc [x] a1 c1 V HFew.out.lib HFew.out.bars HFew.out.dec (HFew.out.lgs.one hx) (HA.out V hV).env (HA.out V hV).lib (HA.out V hV).dec hk ha
  rw [show Qp [x] = [x.1] from rfl, Jk hf2 hf3 (List.mem_map.2 ⟨x, hx, rfl⟩)] at h
  exact h)
 have HPr := Qa (fun a1 c1 V (hV : Below w.heap.size w V) (hk : SlOk a1 l.length c1) (ha : LgsAt V a1 l.reverse) => by
  have h := QY L P d da dc l.reverse a1 c1 V HFew.out.lib HFew.out.bars HFew.out.dec ⟨by simp; omega, fun x hx => HFew.out.lgs.es x (List.mem_reverse.1 hx), fun x hx => HFew.out.lgs.wide x (List.mem_reverse.1 hx), fun x hx => HFew.out.lgs.ok x (List.mem_reverse.1 hx)⟩ (HA.out V hV).env (HA.out V hV).lib (HA.out V hV).dec (by rw [List.length_reverse]; exact hk) ha
  rw [List.length_reverse, show Qp l.reverse = (Qp l).reverse by simp [Qp], auditR_rev (by omega) hf2 hf3] at h
  exact h)
 have HN := Qa (show (Zc L d (Qp l)).length ≤ 320000 by have := (auditR_len L d HFew.out.lgs).1; rw [ZL (by omega) hf2 hf3] at this; exact this)
 have HOw := Qa (fun (x : Lg × Lq) (hx : x ∈ l) => show (Zc L d (Qp l)).filter (fun v => decide (v.st = x.1.st)) = V0 L d x.1 by rw [auditV_own L d (Jv hf3).2 (List.mem_map.2 ⟨x, hx, rfl⟩), Yc])
 have HMa := Qa (manyV_all L d (Qp l))
 have HMs := Qa (fun k (hk : k < l.length) => show Z9 L d (Qp l) (k + 1) = Z9 L d (Qp l) k + (V0 L d l[k].1).length by
  have := manyV_step L d (Qp l) k (by omega)
  rw [this]; simp [Qp])
 rw [hln] at HMa
 generalize Zc L d (Qp l) = A at *
 clear hf hf1 hf2 hf3 HF
 go_upto_region 4 with (go_at_call 17; refine (HUs.out _ HB.out).mono ?_; rintro e w3 ⟨rfl, hb⟩; replace HX := bk HX hb; replace HB := bu HB hb; clear hb hc; have hc := Qb HX.out)
 go_upto_region 7 with (go_at_call 11; refine (HP.out _ HB.out).mono ?_; rintro e w4 ⟨a8, c8, rfl, _, hs, hb⟩; rw [List.length_map]; have HV := Qa (show VdAt w4 a8 A from hs); clear hs; replace HX := bk HX hb; replace HB := bu HB hb; clear hb hc; have hc := Qb HX.out)
 have HB4 := Qa (show Below w.heap.size w w4 from HB.out)
 have hwz := HB4.out.size
 obtain ⟨B, hBe⟩ : ∃ B, B = w4.heap.size := ⟨_, rfl⟩
 have hM0 : Z9 L d (Qp l) 0 = 0 := by simp [Z9, sumN]
 clear hc HP HUs HB
 go_wp2
 go_loopw [7, 10, 11, 36] (fun t7 t10 t11 t36 wr => ∃ k : Nat, k ≤ l.length ∧ t7 = .bool true ∧ t36 = .int .i64 k ∧ t11 = .int .i64 (Z9 L d (Qp l) k : Nat) ∧ OwnR wr B 44 3 t10 ((l.reverse.take k).map lgRow) ∧ Below B w4 wr) (fun _ _ _ t36 _ => l.length - (intOf t36).toNat)
 case atStart => exact ⟨0, Nat.zero_le _, rfl, rfl, by rw [hM0]; rfl, OwnR.nil _ _ _ _, Below.refl _ _⟩
 case round =>
  obtain ⟨k, hk, rfl, rfl, rfl, ho, hb⟩ := hrel
  have hz := hb.size
  have HO := Qa ho; have HBk := Qa hb; have HZ := Qa (show B ≤ wr.heap.size by omega)
  have HX1 := Qa (Qc HX.out (hBe ▸ hb)); have HBw := Qa (HB4.out.trans (hb.mono (by omega)))
  clear ho hb hz
  by_cases hlt : k < l.length
  ·obtain ⟨m, hm⟩ : ∃ m, l.length = m + 1 + k := ⟨l.length - 1 - k, by omega⟩
   have hml : m < l.length := by omega
   have HRv := Qa (show l.reverse.take (k + 1) = l.reverse.take k ++ [l[m]] by
    rw [rev_step l k hlt]
    have : l.length - 1 - k = m := by omega
    simp only [this])
   have hrl : (l.reverse.take k).length ≤ k := by simp; omega
   have hw1 : IntKind.i64.wrap ((l.length : Int) - 1) = (l.length : Int) - 1 := IntWalk.i64_in _ (by omega)
   have hw2 : IntKind.i64.wrap ((l.length : Int) - 1 - (k : Int)) = (m : Int) := by rw [IntWalk.i64_in _ (by omega)]; omega
   have hmi : (m : Int) < (l.length : Int) := by omega
   have hcap : l.length ≤ cap := (HA.out wr HBw.out).lk.1
   have hk1 : (0 : Int) ≤ (k : Int) + 1 := by omega
   have hk2 : (k : Int) + 1 ≤ (cap : Int) := by omega
   have hk3 : ¬ cap = k := by omega
   have hki : (k : Int) < (l.length : Int) := by omega
   have hwk : IntKind.i64.wrap ((k : Int) + 1) = (k : Int) + 1 := IntWalk.i64_in _ (by omega)
   obtain ⟨b, off, ea, d0, d1, d2⟩ := (HA.out wr HBw.out).lgs.get m hml
   have HSb := Qa (fun V (hV : Below w.heap.size w V) => (HA.out V hV).lgs.sub k hlt)
   have HPk := Qa (HPo.out l[k] (List.getElem_mem hlt))
   have HOk := Qa (HOw.out l[k] (List.getElem_mem hlt))
   have HMk := Qa (HMs.out k hlt)
   clear hm
   generalize l[m] = x at *
   generalize hbk : l.reverse.take k = back at *
   clear hbk
   have HEa := Qa ea
   rw [ea]
   clear ea
   go_upto_region 11 with (at_builtin; go_must (refine appE eltLg rfl (.tmp 39) (.tmp 48) rfl B _ back rfl (HO.out.below (Qg _)) _ _ _ [x] rfl rfl (fun e => by cases e) (eltLg.new _ _ _ _ rfl) (by simp; omega) (by have := HZ.out; simp; omega) ?_); intro v10 w10 ho10 hg10; have HO2 := Qa ho10; have HBk2 := Qa ((HBk.out.alloc HZ.out (.cells #[.int .i64 x.1.st, .slice x.2.a x.1.es.length x.2.c, .int .u64 x.1.ch] 44 (0, 0))).grown hg10 (by have := HZ.out; simp; omega) (fun k e => (HO.out.lt k e).1)); have HZ2 := Qa (show B ≤ w10.heap.size by have := HZ.out; have := hg10.size; simp at this; omega); clear ho10 hg10)
   have HX2 := Qa (Qc HX.out (hBe ▸ HBk2.out)); have HBw2 := Qa (HB4.out.trans (HBk2.out.mono (by omega)))
   clear HO HBk HZ HX1 HBw d0 d1 d2
   obtain ⟨b', off', ea', hsub⟩ := HSb.out w10 HBw2.out
   rw [HEa.out] at ea'
   cases ea'
   have HSub := Qa (fun V (hV : Below w10.heap.size w10 V) => hsub.below hV)
   clear hsub HSb
   refine wp_region_held_drew (S := fun V => V.heap[w.heap.size]? = some (.cells #[.slice (P).wa (L).ws.length (P).wc, .slice (P).ea (L).eds.length (P).ec, .slice (P).sa (L).shs.length (P).sc, .slice (P).la (L).los.length (P).lc] 27 (0, 0))) (by kernel_rfl) HX2.out (fun hHeld => ?_)
   (refine tk 0 (v := ?_) ?_ ?_; rotate_left; (· intro wq hSw; have hx := Qb hSw; go_simp; try rfl))
   (refine tk 1 (v := ?_) ?_ ?_; rotate_left; (· intro wq hSw; have hx := Qb hSw; go_simp; try rfl))
   (refine tk 2 (v := ?_) ?_ ?_; rotate_left; (· intro wq hSw; have hx := Qb hSw; go_simp; try rfl))
   (refine tk 3 (v := ?_) ?_ ?_; rotate_left; (· intro wq hSw; have hx := Qb hSw; go_simp; try rfl))
   (refine tk 4 (v := ?_) ?_ ?_; rotate_left; (· intro wq hSw; have hx := Qb hSw; go_simp; try rfl))
   (refine tk 5 (v := ?_) ?_ ?_; rotate_left; (· intro wq hSw; have hx := Qb hSw; go_simp; try rfl))
   (refine tk 6 (v := ?_) ?_ ?_; rotate_left; (· intro wq hSw; have hx := Qb hSw; go_simp; try rfl))
   have HBd := Qa (HBw2.out.trans ((Below.refl w10.heap.size w10).drew.mono HBw2.out.size))
   have hok1 : SlOk (some (⟨b, off + k * 3, none⟩ : Addr)) 1 (cap - k) := ⟨by omega, (fun e => by cases e), (fun ad e _ => by cases e; rfl)⟩
   have HCk := Qa (HPk.out _ _ w10.drew HBd.out hok1 (HSub.out _ (Below.refl _ _).drew))
   clear hok1 HPk
   (refine tc 7 (fun K hK => ?_); go_simp)
   refine HCk.out.mono ?_
   rintro e5 w11 ⟨a11, c11, rfl, _, hs11, hb11⟩
   rw [List.length_map]
   have hb11 : Below w10.heap.size w10 w11 := (Below.refl w10.heap.size w10).drew.trans hb11
   have HV11 := Qa (show VdAt w11 a11 (V0 L d l[k].1) from hs11)
   go_simp
   refine hK.out _ _ (Qc HX2.out hb11) (fun hHeld2 => ?_)
   clear hK K hHeld hs11 HCk
   (refine tk 8 (v := ?_) ?_ ?_; rotate_left; (· intro wq hSw; go_simp; try rfl))
   (refine tk 9 (v := ?_) ?_ ?_; rotate_left; (· intro wq hSw; go_simp; try rfl))
   (refine tk 10 (v := ?_) ?_ ?_; rotate_left; (· intro wq hSw; go_simp; try rfl))
   (refine tk 11 (v := ?_) ?_ ?_; rotate_left; (· intro wq hSw; go_simp; try rfl))
   (refine tk 12 (v := ?_) ?_ ?_; rotate_left; (· intro wq hSw; go_simp; try rfl))
   refine wpAnyH_done (by kernel_rfl) ?_ _
   obtain ⟨b2, off2, ea2, y0, _, _⟩ := (HSub.out w11 hb11).get 0 (by simp)
   cases ea2
   have hM := HMk.out
   have hml2 : Z9 L d (Qp l) (k + 1) ≤ 320000 := by
    rw [← HMa.out] at HN
    have h2 : ∀ j i, i + j = l.length → Z9 L d (Qp l) i ≤ Z9 L d (Qp l) l.length := fun j => by
     induction j with
     | zero => intro i hi; rw [show i = l.length by omega]; exact Nat.le_refl _
     | succ j ih => intro i hi; have h3 := ih (i + 1) (by omega); have h4 := HMs.out i (by omega); omega
    exact Nat.le_trans (h2 (l.length - (k + 1)) (k + 1) (by omega)) HN.out
   have HY := Qa (show w11.cell? ⟨b, off + k * 3, none⟩ = some (.int .i64 l[k].1.st) from by simpa using y0)
   have HO3 := Qa (HO2.out.below hb11); have HBk3 := Qa (HBk2.out.trans (hb11.mono HZ2.out)); have HZ3 := Qa (Nat.le_trans HZ2.out hb11.size)
   have HV3 := Qa (HV.out.below (hBe ▸ HBk3.out))
   clear HO2 HBk2 HZ2 HX2 HBw2 HSub HBd y0 hHeld2 hb11 HMk HPo HPr
   generalize V0 L d l[k].1 = O at *
   generalize l[k] = y at *
   obtain ⟨B2, hB2⟩ : ∃ B2, B2 = w11.heap.size := ⟨_, rfl⟩
   go_wp2
   go_loopw [15, 63] (fun t15 t63 wi => ∃ j : Nat, j ≤ A.length ∧ t63 = .int .i64 j ∧ OwnR wi B2 46 3 t15 (((A.take j).filter (fun v => decide (v.st = y.1.st))).map vdRow) ∧ Below B2 w11 wi) (fun _ t63 _ => A.length - (intOf t63).toNat)
   case atStart => exact ⟨0, Nat.zero_le _, rfl, OwnR.nil _ _ _ _, Below.refl _ _⟩
   case round =>
    obtain ⟨j, hj, rfl, ho, hb⟩ := hrel
    have hz := hb.size
    have HOi := Qa ho; have HBi := Qa hb; have HZi := Qa (show B2 ≤ wr.heap.size by omega)
    have HYi := Qa (Qq HY.out (hB2 ▸ hb)); have HVi := Qa (HV3.out.below (hB2 ▸ hb))
    clear ho hb hz
    by_cases hjt : j < A.length
    ·obtain ⟨b8, off8, e8, d0, d1, d2⟩ := HVi.out.get j hjt
     have hji : (j : Int) < (A.length : Int) := by omega
     have hN := HN.out
     have hwj : IntKind.i64.wrap ((j : Int) + 1) = (j : Int) + 1 := IntWalk.i64_in _ (by omega)
     have HT := Qa (show (A.take (j + 1)).filter (fun v => decide (v.st = y.1.st)) = (A.take j).filter (fun v => decide (v.st = y.1.st)) ++ (if A[j].st = y.1.st then [A[j]] else []) by
      rw [List.take_succ_eq_append_getElem hjt, List.filter_append]; simp [List.filter_cons])
     have hll : ((A.take j).filter (fun v => decide (v.st = y.1.st))).length ≤ j := Nat.le_trans (List.length_filter_le _ _) (by simp; omega)
     generalize (A.take j).filter (fun v => decide (v.st = y.1.st)) = LST at *
     generalize A[j] = v at *
     rw [e8]
     go_upto_region 16 with (fail)
     have HE := heap_alloc_new wr (.cells #[.int .i64 (v).st, .int .i64 (v).rule, .int .i64 (v).en] 46 (0, 0))
     have hb1 := Qg (w := wr) (.cells #[.int .i64 (v).st, .int .i64 (v).rule, .int .i64 (v).en] 46 (0, 0))
     have HOj := Qa (HOi.out.below hb1); have HBj := Qa (HBi.out.trans (hb1.mono HZi.out)); have HZj := Qa (Nat.le_trans HZi.out hb1.size)
     have hy := Qq HYi.out hb1
     clear d0 d1 d2 hb1 HOi HBi HZi HYi HVi
     generalize wr.alloc (.cells #[.int .i64 (v).st, .int .i64 (v).rule, .int .i64 (v).en] 46 (0, 0)) = wj at *
     generalize wr.heap.size = eb at *
     have hc := Qb HE
     by_cases hst : v.st = y.1.st
     ·have hq : (v.st == y.1.st) = true := by simp [hst]
      rw [if_pos hst] at HT
      clear hst
      go_quiet (fail)
      have HE2 := Qa HE
      clear hc HE hy
      have hc2 := Qb (show (wj.drewN nq).heap[eb]? = some (.cells #[.int .i64 (v).st, .int .i64 (v).rule, .int .i64 (v).en] 46 (0, 0)) from HE2.out)
      go_wp2_with (at_builtin; go_must (refine appE eltVd rfl (.tmp 75) (.tmp 77) rfl B2 _ LST rfl ((HOj.out.below (below_drewN (Below.refl _ _) nq)).below (Qg _)) _ _ _ [v] rfl rfl (fun e => by cases e) (eltVd.new _ _ _ _ rfl) (by simp; omega) (by have := HZj.out; simp; omega) ?_); intro v5 w8 ho5 hg5; have HO5 := Qa ho5; have HB5 := Qa (((below_drewN HBj.out nq).alloc (by have := HZj.out; simpa using this) (.cells #[.int .i64 (v).st, .int .i64 (v).rule, .int .i64 (v).en] 46 (0, 0))).grown hg5 (by have := HZj.out; simp; omega) (fun k e => (HOj.out.lt k e).1)); clear ho5 hg5)
      exact ⟨⟨j + 1, by omega, by go_num, by rw [HT.out]; exact HO5.out, HB5.out⟩, by simp [intOf]; omega⟩
     ·have hq : (v.st == y.1.st) = false := by simp [hst]
      rw [if_neg hst, List.append_nil] at HT
      clear hst
      go_quiet (fail)
      go_wp2
      exact ⟨⟨j + 1, by omega, by go_num, by rw [HT.out]; exact HOj.out.below (below_drewN (Below.refl _ _) nq), below_drewN HBj.out nq⟩, by simp [intOf]; omega⟩
    ·obtain rfl : j = A.length := by omega
     rw [List.take_length, HOk.out] at HOi
     obtain ⟨a15, c15, e15, hs15, hi15⟩ := HOi.out.slAt
     rw [List.length_map] at e15
     subst e15
     have hN := HN.out
     have hol : O.length ≤ 320000 := by omega
     have hwm : IntKind.i64.wrap ((Z9 L d (Qp l) k : Int) + (O.length : Int)) = (Z9 L d (Qp l) (k + 1) : Int) := by rw [IntWalk.i64_in _ (by omega)]; omega
     have HVo := Qa (HV11.out.below (hB2 ▸ HBi.out))
     have HVf := Qa (show VdAt wr a15 O from hi15)
     clear hi15 hs15 HOi
     go_wp2_with (go_at_call 13; refine (Yd a11 a15 O.length O.length c11 c15 O O _ rfl rfl (by omega) (by omega) HVo.out HVf.out).mono ?_; rintro e w12 ⟨rfl, hb⟩; rw [decide_eq_true rfl]; have HBz := Qa (HBi.out.trans (hb.mono HZi.out)); clear hb)
     have hzb := HZ3.out
     exact ⟨⟨k + 1, by omega, rfl, by go_num, by rw [hM, Int.natCast_add], by rw [HRv.out]; exact HO3.out.below (hB2 ▸ HBz.out), HBk3.out.trans (HBz.out.mono (by omega))⟩, by simp [intOf]; omega⟩
  ·obtain rfl : k = l.length := by omega
   rw [HMa.out]
   rw [List.take_of_length_le (by simp)] at HO
   obtain ⟨a9, c9, e9, hs9, hi9⟩ := HO.out.slAt
   rw [List.length_map, List.length_reverse] at e9 hs9
   subst e9
   have HPz := Qa (HPr.out a9 c9 wr HBw.out hs9 ⟨hi9, fun x hx => (HA.out wr HBw.out).lgs.es x (List.mem_reverse.1 hx)⟩)
   have HV1 := Qa (HV.out.below (hBe ▸ HBk.out))
   have hc := Qb HX1.out
   clear hi9 hs9 HO HPr HPo HOw HMs
   go_wp2_with (first | (go_at_call 11; refine HPz.out.mono ?_; rintro e w9 ⟨ao, co, rfl, _, hs, hb⟩; rw [List.length_map]; have HV2 := Qa (show VdAt w9 ao A from hs); replace HV1 := Qa (HV1.out.below hb); replace HBw := bu HBw hb; clear hb hs) | (go_at_call 13; refine (Yd a8 ao A.length A.length c8 co A A _ rfl rfl (by have := HN.out; omega) (by have := HN.out; omega) HV1.out HV2.out).mono ?_; rintro e w10 ⟨rfl, hb⟩; rw [decide_eq_true rfl]; replace HBw := bu HBw hb; clear hb))
   go_ret
   exact ⟨rfl, HBw.out⟩
end Go.Proofs.YtajijcfikihhjaaGreatDoor
