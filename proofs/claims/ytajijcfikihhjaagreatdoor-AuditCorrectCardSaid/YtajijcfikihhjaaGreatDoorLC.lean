import Derived.Test.YtajijcfikihhjaaGreatDoorAAW
set_option linter.unusedSimpArgs false
set_option linter.unusedVariables false
set_option maxRecDepth 100000
set_option maxHeartbeats 16000000
namespace Go.Proofs.YtajijcfikihhjaaGreatDoor
open Go.RowKit Go.Sort Go.Shelf
attribute [local go_sem] Oper.semAt_some
def useB (L : Lb) (d : List De) (l : List Lg) : Bool := Ya L d.length l && (libB L d && QU l)
theorem usable_any (L : Lb) (P : Lbp) (d : List De) (da : Option Addr) (dc : Nat) (l : List (Lg × Lq)) (a : Option Addr) (cap : Nat) (w : World) (h : ArgA w L P d da dc l a cap) :
  Calls Tryz.prog 17 #[.agg #[.slice P.wa L.ws.length P.wc, .slice P.ea L.eds.length P.ec, .slice P.sa L.shs.length P.sc, .slice P.la L.los.length P.lc], .slice da d.length dc, .slice a l.length cap] w fun e w' => e = .returned (.bool (useB L d (Qp l))) ∧ Below w.heap.size w w' := by
 have HA := Qa (fun V (hV : Below w.heap.size w V) => h.below hV)
 have HF := Qa (fun hf => h.few hf)
 have HX := Qa (heap_alloc_new w (.cells #[.slice P.wa L.ws.length P.wc, .slice P.ea L.eds.length P.ec, .slice P.sa L.shs.length P.sc, .slice P.la L.los.length P.lc] 27))
 have HB := Qa (Qg (w := w) (.cells #[.slice P.wa L.ws.length P.wc, .slice P.ea L.eds.length P.ec, .slice P.sa L.shs.length P.sc, .slice P.la L.los.length P.lc] 27))
 have HFe := Qa (fun V (hV : Below w.heap.size w V) => RFew39_any L P d da dc l a cap V h.nw h.nd h.nl h.nlo h.nsh h.ned h.nes (HA.out V hV).lib (HA.out V hV).lgs)
 have HU := Qa (show useB L d (Qp l) = (Ya L d.length (Qp l) && (libB L d && QU (Qp l))) from rfl)
 clear h
 generalize useB L d (Qp l) = U at *
 go_enter Tryz.func17, Tryz.ntmps17
 go_upto_region 1 with (fail)
 generalize w.alloc (.cells #[.slice P.wa L.ws.length P.wc, .slice P.ea L.eds.length P.ec, .slice P.sa L.shs.length P.sc, .slice P.la L.los.length P.lc] 27) = W at *
 have hc := Qb HX.out
 cases hf : Ya L d.length (Qp l)
 ·rw [hf] at HFe HU
  rw [Bool.false_and] at HU
  go_wp2_with (go_at_call 10; refine (HFe.out _ HB.out).mono ?_; rintro e w3 ⟨rfl, hb⟩; replace HB := bu HB hb; clear hb)
  go_ret
  exact ⟨Qf HU.out.symm, HB.out⟩
 rw [hf] at HFe HU
 rw [Bool.true_and] at HU
 have HFew := Qa (HF.out hf)
 have HLi := Qa (fun V (hV : Below w.heap.size w V) => RLibrary_any L P d da dc V HFew.out.lib HFew.out.dec (HA.out V hV).lib (HA.out V hV).dec)
 have HLo := Qa (fun V (hV : Below w.heap.size w V) => RLogs_any a cap l V HFew.out.lgs (HA.out V hV).lgs)
 clear hf
 cases h1 : libB L d
 ·rw [h1] at HU HLi
  rw [Bool.false_and] at HU
  clear h1
  go_wp2_with (first | (go_at_call 10; refine (HFe.out _ HB.out).mono ?_; rintro e w3 ⟨rfl, hb⟩; replace HB := bu HB hb; replace HX := bk HX hb; clear hb hc; have hc := Qb HX.out) | (go_at_call 36; refine (HLi.out _ HB.out).mono ?_; rintro e w4 ⟨rfl, hb⟩; replace HB := bu HB hb; clear hb))
  go_ret
  exact ⟨Qf HU.out.symm, HB.out⟩
 ·rw [h1] at HU HLi
  rw [Bool.true_and] at HU
  clear h1
  go_wp2_with (first | (go_at_call 10; refine (HFe.out _ HB.out).mono ?_; rintro e w3 ⟨rfl, hb⟩; replace HB := bu HB hb; replace HX := bk HX hb; clear hb hc; have hc := Qb HX.out) | (go_at_call 36; refine (HLi.out _ HB.out).mono ?_; rintro e w4 ⟨rfl, hb⟩; replace HB := bu HB hb; clear hb) | (go_at_call 37; refine (HLo.out _ HB.out).mono ?_; rintro e w5 ⟨rfl, hb⟩; replace HB := bu HB hb; clear hb))
  go_ret
  exact ⟨Qf HU.out.symm, HB.out⟩
theorem useB_all {L : Lb} {d : List De} {l : List Lg} (h : useB L d l = true) : Ya L d.length l = true ∧ libB L d = true ∧ QU l = true := by
 unfold useB at h
 simpa only [Bool.and_eq_true] using h
end Go.Proofs.YtajijcfikihhjaaGreatDoor
