import Derived.Test.YtajijcfikihhjaaGreatDoorAAW
set_option linter.unusedSimpArgs false
set_option linter.unusedVariables false
set_option maxRecDepth 100000
set_option maxHeartbeats 16000000
namespace Go.Proofs.YtajijcfikihhjaaGreatDoor
open Go.RowKit Go.Sort Go.Shelf
attribute [local go_sem] Oper.semAt_some
theorem AuditMatches_any (L : Lb) (P : Lbp) (d : List De) (da : Option Addr) (dc : Nat) (l : List (Lg × Lq)) (a : Option Addr) (cap : Nat) (w : World) (h : ArgA w L P d da dc l a cap) :
  Calls Tryz.prog 3 #[.agg #[.slice (P).wa (L).ws.length (P).wc, .slice (P).ea (L).eds.length (P).ec, .slice (P).sa (L).shs.length (P).sc, .slice (P).la (L).los.length (P).lc], .slice da d.length dc, .slice a l.length cap] w fun e w' => e = .returned (.bool true) ∧ Below w.heap.size w w' := by
 have HA := Qa (fun V (hV : Below w.heap.size w V) => h.below hV)
 have HF := Qa (fun hf => h.few hf)
 have HX := Qa (heap_alloc_new w (.cells #[.slice (P).wa (L).ws.length (P).wc, .slice (P).ea (L).eds.length (P).ec, .slice (P).sa (L).shs.length (P).sc, .slice (P).la (L).los.length (P).lc] 27 (0, 0)))
 have HB := Qa (Qg (w := w) (.cells #[.slice (P).wa (L).ws.length (P).wc, .slice (P).ea (L).eds.length (P).ec, .slice (P).sa (L).shs.length (P).sc, .slice (P).la (L).los.length (P).lc] 27 (0, 0)))
 have HFe := Qa (fun V (hV : Below w.heap.size w V) => RFew39_any L P d da dc l a cap V h.nw h.nd h.nl h.nlo h.nsh h.ned h.nes (HA.out V hV).lib (HA.out V hV).lgs)
 clear h
 go_enter Tryz.func3, Tryz.ntmps3
 go_upto_region 1 with (fail)
 generalize w.alloc (.cells #[.slice (P).wa (L).ws.length (P).wc, .slice (P).ea (L).eds.length (P).ec, .slice (P).sa (L).shs.length (P).sc, .slice (P).la (L).los.length (P).lc] 27 (0, 0)) = W at *
 have hc := Qb HX.out
 go_upto_region 2 with (go_at_call 9; refine (head39_any _ (HA.out _ HB.out).env).mono ?_; rintro e w2 ⟨rfl, hb⟩; replace HX := bk HX hb; (try replace HV1 := Qa (HV1.out.below hb)); (try replace HV3 := Qa (SlAt.below HV3.out hb)); replace HB := bu HB hb; clear hb hc; have hc := Qb HX.out)
 cases hf : Ya L d.length (Qp l)
 ·rw [hf] at HFe
  go_wp2_with (go_at_call 10; refine (HFe.out _ HB.out).mono ?_; rintro e w3 ⟨rfl, hb⟩; replace HX := bk HX hb; (try replace HV1 := Qa (HV1.out.below hb)); (try replace HV3 := Qa (SlAt.below HV3.out hb)); replace HB := bu HB hb; clear hb hc; have hc := Qb HX.out)
  go_ret
  exact ⟨rfl, HB.out⟩
 rw [hf] at HFe
 have HFew := Qa (HF.out hf)
 have HP := Qa (fun V (hV : Below w.heap.size w V) => QY L P d da dc l a cap V HFew.out.lib HFew.out.bars HFew.out.dec HFew.out.lgs (HA.out V hV).env (HA.out V hV).lib (HA.out V hV).dec (HA.out V hV).lk (HA.out V hV).lgs)
 have HR := Qa (fun V (hV : Below w.heap.size w V) => RAudit39_any L P d da dc l a cap V HFew.out.lib HFew.out.bars HFew.out.dec HFew.out.lgs (HA.out V hV).lib (HA.out V hV).dk (HA.out V hV).dec (HA.out V hV).lgs)
 have HPs := Qa (fun V (hV : Below w.heap.size w V) => PStands39_any L P d da dc l a cap V HFew.out.lib HFew.out.bars HFew.out.dec HFew.out.lgs (HA.out V hV).env (HA.out V hV).lib (HA.out V hV).dec (HA.out V hV).lk (HA.out V hV).lgs)
 have HRs := Qa (fun V (hV : Below w.heap.size w V) => RStands39_any L P d da dc l a cap V HFew.out.lib HFew.out.bars HFew.out.dec HFew.out.lgs (HA.out V hV).lib (HA.out V hV).dk (HA.out V hV).dec (HA.out V hV).lgs)
 have HN := Qa (auditR_len L d HFew.out.lgs).1
 have HNs := Qa (show (JT L d (Qp l)).1.length ≤ 1000000 from by
  have h1 := UM ((QN L d (Qp l)).1.map Vd.st).toArray ((QN L d (Qp l)).1.map Vd.st).length
  have h2 := HN.out
  rw [List.length_map] at h1
  show (Lib.compact _).length ≤ _
  unfold Lib.compact
  rw [List.length_map]
  omega)
 generalize QN L d (Qp l) = R at *
 generalize JT L d (Qp l) = S at *
 obtain ⟨vs, er⟩ := R
 obtain ⟨ss, es⟩ := S
 dsimp only at *
 clear hf HF HFew
 go_upto_region 4 with (go_at_call 10; refine (HFe.out _ HB.out).mono ?_; rintro e w3 ⟨rfl, hb⟩; replace HX := bk HX hb; (try replace HV1 := Qa (HV1.out.below hb)); (try replace HV3 := Qa (SlAt.below HV3.out hb)); replace HB := bu HB hb; clear hb hc; have hc := Qb HX.out)
 go_upto_region 5 with (go_at_call 11; refine (HP.out _ HB.out).mono ?_; rintro e w4 ⟨a1, c1, rfl, _, hs, hb⟩; rw [List.length_map]; have HV1 := Qa (show VdAt w4 a1 vs from hs); clear hs; (have hb2 := hb; replace HX := bk HX hb; replace HB := bu HB hb; clear hb hb2 hc; have hc := Qb HX.out))
 go_upto_region 6 with (go_at_call 12; refine (HR.out _ HB.out).mono ?_; rintro e w5 ⟨a2, c2, rfl, _, hs, hb⟩; rw [List.length_map]; have HV2 := Qa (show VdAt w5 a2 vs from hs); clear hs; replace HX := bk HX hb; (try replace HV1 := Qa (HV1.out.below hb)); (try replace HV3 := Qa (SlAt.below HV3.out hb)); replace HB := bu HB hb; clear hb hc; have hc := Qb HX.out)
 go_upto_region 7 with (go_at_call 13; refine (Same39_any a1 a2 vs.length vs.length c1 c2 vs vs _ rfl rfl (by have := HN.out; omega) (by have := HN.out; omega) HV1.out HV2.out).mono ?_; rintro e w6 ⟨rfl, hb⟩; rw [decide_eq_true rfl]; clear HV2; replace HX := bk HX hb; (try replace HV1 := Qa (HV1.out.below hb)); (try replace HV3 := Qa (SlAt.below HV3.out hb)); replace HB := bu HB hb; clear hb hc; have hc := Qb HX.out)
 go_upto_region 8 with (go_at_call 14; refine (HPs.out _ HB.out).mono ?_; rintro e w7 ⟨a3, c3, rfl, _, hs, hb⟩; rw [List.length_map]; have HV3 := Qa (show InAt w7 a3 ss from hs); clear hs HV1; (replace HX := bk HX hb; replace HB := bu HB hb; clear hb hc; have hc := Qb HX.out))
 go_upto_region 9 with (go_at_call 15; refine (HRs.out _ HB.out).mono ?_; rintro e w8 ⟨a4, c4, rfl, _, hs, hb⟩; rw [List.length_map]; have HV4 := Qa (show InAt w8 a4 ss from hs); clear hs; replace HX := bk HX hb; (try replace HV1 := Qa (HV1.out.below hb)); (try replace HV3 := Qa (SlAt.below HV3.out hb)); replace HB := bu HB hb; clear hb hc; have hc := Qb HX.out)
 go_wp2_with (go_at_call 16; refine (SameInts39_any a3 a4 ss.length ss.length c3 c4 ss ss _ rfl rfl (by have := HNs.out; omega) (by have := HNs.out; omega) HV3.out HV4.out).mono ?_; rintro e w9 ⟨rfl, hb⟩; rw [decide_eq_true rfl]; replace HX := bk HX hb; (try replace HV1 := Qa (HV1.out.below hb)); (try replace HV3 := Qa (SlAt.below HV3.out hb)); replace HB := bu HB hb; clear hb hc; have hc := Qb HX.out)
 go_ret
 exact ⟨rfl, HB.out⟩
end Go.Proofs.YtajijcfikihhjaaGreatDoor
