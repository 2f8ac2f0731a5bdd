import Derived.Test.YtajijcfikihhjaaGreatDoorLK
set_option linter.unusedSimpArgs false
set_option linter.unusedVariables false
set_option maxRecDepth 100000
set_option maxHeartbeats 16000000
namespace Go.Proofs.YtajijcfikihhjaaGreatDoor
open Go.RowKit Go.Sort Go.Shelf
attribute [local go_sem] Oper.semAt_some
theorem AuditCorrect_any (L : Lb) (P : Lbp) (d : List De) (da : Option Addr) (dc : Nat) (stand : Nat) (ds : List Dd) (ta : Option Addr) (tcp : Nat) (w : World) (hst : stand ≤ 255) (hdd : ∀ x ∈ ds, DdOk x) (hds : SlAt w ta 5 (ds.map Qaz)) (hsw : ∀ s ∈ L.shs, 0 ≤ s.dg ∧ s.dg < 18446744073709551616) (h : ArgA w L P d da dc [] none 0) :
  Calls Tryz.prog 8 #[.agg #[.slice P.wa L.ws.length P.wc, .slice P.ea L.eds.length P.ec, .slice P.sa L.shs.length P.sc, .slice P.la L.los.length P.lc], .slice da d.length dc, .int .u8 (stand : Nat), .slice ta ds.length tcp] w fun e w' => e = .returned (.bool true) ∧ Below w.heap.size w w' := by
 have HA := Qa (fun V (hV : Below w.heap.size w V) => h.below hV)
 have HF := Qa (fun hf => h.few hf)
 have HX := Qa (heap_alloc_new w (.cells #[.slice P.wa L.ws.length P.wc, .slice P.ea L.eds.length P.ec, .slice P.sa L.shs.length P.sc, .slice P.la L.los.length P.lc] 27))
 have HB := Qa (Qg (w := w) (.cells #[.slice P.wa L.ws.length P.wc, .slice P.ea L.eds.length P.ec, .slice P.sa L.shs.length P.sc, .slice P.la L.los.length P.lc] 27))
 have HDs := Qa (fun V (hV : Below w.heap.size w V) => SlAt.below hds hV)
 have HDd := Qa hdd; have HSw := Qa hsw
 have HUs := Qa (fun V (hV : Below w.heap.size w V) => show Calls Tryz.prog 17 #[.agg #[.slice P.wa L.ws.length P.wc, .slice P.ea L.eds.length P.ec, .slice P.sa L.shs.length P.sc, .slice P.la L.los.length P.lc], .slice da d.length dc, .slice none 0 0] V fun e w' => e = .returned (.bool (useB L d [])) ∧ Below V.heap.size V w' from usable_any L P d da dc [] none 0 V (h.below hV))
 clear h hds hdd hsw
 go_enter Tryz.func8, Tryz.ntmps8
 go_upto_region 1 with (fail)
 generalize w.alloc (.cells #[.slice P.wa L.ws.length P.wc, .slice P.ea L.eds.length P.ec, .slice P.sa L.shs.length P.sc, .slice P.la L.los.length P.lc] 27) = W at *
 have hc := Qb HX.out
 go_upto_region 2 with (go_at_call 9; refine (head39_any _ (HA.out _ HB.out).env).mono ?_; rintro e w2 ⟨rfl, hb⟩; replace HX := bk HX hb; replace HB := bu HB hb; clear hb hc; have hc := Qb HX.out)
 cases hf : useB L d []
 ·rw [hf] at HUs
  go_wp2_with ((go_at_call 17; refine (HUs.out _ HB.out).mono ?_; rintro e w3 ⟨rfl, hb⟩; replace HX := bk HX hb; replace HB := bu HB hb; clear hb hc; have hc := Qb HX.out))
  go_ret
  exact ⟨rfl, HB.out⟩
 rw [hf] at HUs
 by_cases h20 : 20 < ds.length
 ·have hgt : decide ((20 : Int) < (ds.length : Int)) = true := decide_eq_true (by omega)
  clear h20
  go_wp2_with ((go_at_call 17; refine (HUs.out _ HB.out).mono ?_; rintro e w3 ⟨rfl, hb⟩; replace HX := bk HX hb; replace HB := bu HB hb; clear hb hc; have hc := Qb HX.out))
  go_ret
  exact ⟨rfl, HB.out⟩
 have hgt : decide ((20 : Int) < (ds.length : Int)) = false := decide_eq_false (by omega)
 have hdn : ds.length ≤ 20 := by omega
 obtain ⟨hf1, hf2, hf3⟩ := useB_all hf
 have HFew := Qa (HF.out hf1)
 have hdl : d.length ≤ 30 := (fewDB_all (fewAB_all hf1).2.2.1).2.2
 obtain ⟨q, hq⟩ : ∃ q, q = stand % 9 := ⟨_, rfl⟩
 have hq9 : q < 9 := by omega
 have hrem : (stand : Int) % 9 = (q : Int) := by omega
 have hret : (stand : Int).tmod 9 = (q : Int) := by rw [Int.tmod_eq_emod_of_nonneg (by omega)]; exact hrem
 have hws : IntKind.i64.wrap (stand : Int) = (stand : Int) := IntWalk.i64_in _ (by omega)
 have hwq : IntKind.i64.wrap (1 + (q : Int)) = 1 + (q : Int) := IntWalk.i64_in _ (by omega)
 have hst9 : 1 ≤ 1 + (q : Int) ∧ 1 + (q : Int) ≤ 9 := by omega
 have HCo := Qa (fun V (hV : Below w.heap.size w V) => correct_any L P d da dc (1 + (q : Int)) ds ta tcp V hst9 hdn HDd.out (HDs.out V hV) hf2 HFew.out.lib hdl HSw.out (HA.out V hV).lib (HA.out V hV).dec (HA.out V hV).dk (HA.out V hV).env)
 have HP := Qa (fun (es : List En) (M : Lg) (hM : M = mkLg (1 + (q : Int)) es) (p1 : Lq) a1 c1 V (hV : Below w.heap.size w V) (hk : SlOk a1 1 c1) (hky : SlOk p1.a M.es.length p1.c) (ho : EntsOk es) (hln : es.length ≤ 20) (hwd : ∀ e ∈ es, e.wide) (ha : LgsAt V a1 [(M, p1)]) => by
  rw [hM] at ha hky
  have h := QY L P d da dc [(mkLg (1 + (q : Int)) es, p1)] a1 c1 V HFew.out.lib HFew.out.bars HFew.out.dec ⟨by simp, fun z hz => by rw [List.mem_singleton.1 hz]; show es.length ≤ 800; omega, fun z hz => by rw [List.mem_singleton.1 hz]; exact hwd, fun z hz => by rw [List.mem_singleton.1 hz]; exact hky⟩ (HA.out V hV).env (HA.out V hV).lib (HA.out V hV).dec hk ha
  rw [show Qp [(mkLg (1 + (q : Int)) es, p1)] = [mkLg (1 + (q : Int)) es] from rfl, ZL (by simp) hf2 (logsB_mk ⟨hst9.1, by omega⟩ (by omega) ho), auditV_one] at h
  exact h)
 clear hf hf1 hf2 hf3 HF hq hst9 hq9 HFew hdl HDs HDd HSw hst
 go_upto_region 4 with ((go_at_call 17; refine (HUs.out _ HB.out).mono ?_; rintro e w3 ⟨rfl, hb⟩; replace HX := bk HX hb; replace HB := bu HB hb; clear hb hc; have hc := Qb HX.out))
 go_upto_region 5 with (go_at_call 24; refine (HCo.out _ HB.out).mono ?_; rintro e w4 ⟨es, a4, c4, known, time, rfl, hk4, he4, hi4, hb⟩; obtain ⟨M, hM⟩ : ∃ M, M = mkLg (1 + (q : Int)) es := ⟨_, rfl⟩; have HK4 := Qa (show SlOk a4 M.es.length c4 by rw [hM]; exact hk4); have HE4 := Qa (show EnAt w4 a4 M.es by rw [hM]; exact he4); have HI4 := Qa hi4; have HNo := Qa (show V0 L d M = [] by rw [hM]; exact hi4.none); have HM := Qa hM; rw [← hM]; replace HX := bk HX hb; replace HB := bu HB hb; clear hb hc; have hc := Qb HX.out; clear hk4 he4 hi4 hM)
 clear HCo
 have HN := Qa (heap_alloc_new w4 (.cells #[.int .i64 M.st, .slice a4 M.es.length c4, .int .u64 M.ch] 44))
 have hb := Qg (w := w4) (.cells #[.int .i64 M.st, .slice a4 M.es.length c4, .int .u64 M.ch] 44)
 replace HE4 := Qa (HE4.out.below hb)
 replace HX := bk HX hb; replace HB := bu HB hb; clear hb hc; have hc := Qb HX.out
 generalize w4.alloc (.cells #[.int .i64 M.st, .slice a4 M.es.length c4, .int .u64 M.ch] 44) = W5 at *
 generalize w4.heap.size = nb at *
 have hcn := Qb HN.out
 go_upto_region 6 with (go_at_call 11; refine (HP.out es M HM.out ⟨a4, c4⟩ (some ⟨W5.heap.size, 0, none⟩) 1 (W5.alloc (.cells #[.int .i64 M.st, .slice a4 M.es.length c4, .int .u64 M.ch] 44)) (HB.out.trans ((Qg _).mono HB.out.size)) (Jf _ _ (by omega)) HK4.out HI4.out.ok HI4.out.len HI4.out.wide (LgsAt.new HE4.out)).mono ?_; rw [← HM.out, HNo.out]; rintro e11 w11 ⟨a24, c24, rfl, _, _, hb11⟩; have hb := ZX hb11; replace HB := bu HB hb; clear hb hb11 hcn hc)
 go_wp2
 go_ret
 exact ⟨rfl, HB.out⟩
end Go.Proofs.YtajijcfikihhjaaGreatDoor
