/- The law MatchProves, walked. -/
import Derived.Test.YtkpgphadgomifaaMatchHead
namespace Go.Proofs.Ytkpgphadgomifaa
set_option linter.unusedSimpArgs false
set_option linter.unusedVariables false
open Go.RowKit Go.Sort Go.Shelf

set_option maxRecDepth 100000 in
set_option maxHeartbeats 8000000 in
theorem proves_law (a a1 a2 a3 a4 : Option Addr) (cap cap1 cap2 cap3 cap4 : Nat) (c : List (List Int)) (l rs cs o : List Int) (w : World) (hl : c.length ≤ 9223372036854775807) (hl1 : l.length ≤ 9223372036854775807) (hl2 : rs.length ≤ 9223372036854775807) (hl3 : cs.length ≤ 9223372036854775807) (hl4 : o.length ≤ 9223372036854775807)
    (hm : MatAt w a c) (hs : SlOk a c.length cap) (h1 : InAt w a1 l) (h2 : InAt w a2 rs) (h3 : InAt w a3 cs) (h4 : InAt w a4 o) :
    Calls Try.prog 5 #[.slice a c.length cap, .slice a1 l.length cap1, .slice a2 rs.length cap2, .slice a3 cs.length cap3, .slice a4 o.length cap4] w fun e w' => e = .returned (.bool true) ∧ Below w.heap.size w w' := by
  have HM := Lib.hid hm; have HS := Lib.hid hs; have H1 := Lib.hid h1; have H2 := Lib.hid h2; have H3 := Lib.hid h3; have H4 := Lib.hid h4
  clear hm hs h1 h2 h3 h4
  go_enter Try.func5, Try.ntmps5
  go_wp2_with (fail); refine (head_any w).mono ?_; rintro e w1 ⟨rfl, hb⟩; have HB := Lib.hid hb; clear hb
  go_wp2_with (fail)
  refine (RFew_any _ _ c _ hl (HM.out.below HB.out)).mono ?_
  rintro e w2 ⟨rfl, hb⟩
  replace HB := Lib.hid (HB.out.trans (hb.mono HB.out.size)); clear hb
  cases hf : fewB c
  · go_wp2; go_ret; exact ⟨rfl, HB.out⟩
  obtain ⟨f7, f8⟩ := few_iff.1 hf
  have HF8 := Lib.hid f8
  clear f8 hf
  by_cases m1 : 20 < l.length
  · go_wp2; go_ret; exact ⟨rfl, HB.out⟩
  by_cases m2 : 20 < rs.length
  · go_wp2; go_ret; exact ⟨rfl, HB.out⟩
  by_cases m3 : 20 < cs.length
  · go_wp2; go_ret; exact ⟨rfl, HB.out⟩
  by_cases m4 : 20 < o.length
  · go_wp2; go_ret; exact ⟨rfl, HB.out⟩
  go_wp2_with (fail)
  refine (RForm_any _ _ c _ (by omega) (HM.out.below HB.out)).mono ?_
  rintro e w2 ⟨rfl, hb⟩
  replace HB := Lib.hid (HB.out.trans (hb.mono HB.out.size)); clear hb
  by_cases he : formE c = 0
  case neg =>
    have hne : (formE c != 0) = true := by simpa using he
    go_wp2; go_ret; exact ⟨rfl, HB.out⟩
  have HE := Lib.hid he; clear he
  have hw8 : wideL c ≤ 8 := by
    cases c with
    | nil => simp [wideL]
    | cons x c => exact HF8.out x (by simp)
  rw [HE.out]
  go_wp2_with (fail)
  refine (Best_any _ _ c _ (by omega) (HM.out.below HB.out) HS.out).mono ?_
  rintro e w3 ⟨bl, total, ok, err, ab, cb, rfl, hsay, hs1, hi1, hb⟩
  obtain rfl : err = 0 := (best_err hsay).trans HE.out
  rw [met_in] at hi1
  have HSay := Lib.hid hsay; have HIB := Lib.hid (show InAt w3 ab (natsI bl) from hi1)
  replace HB := Lib.hid (HB.out.trans (hb.mono HB.out.size)); clear hb
  clear hs1 hi1 hsay
  go_wp2_with (fail)
  refine (Prices_any _ _ c _ (by omega) (HM.out.below HB.out) HS.out).mono ?_
  rintro e w4 ⟨v1, v2, err, rfl, hsay, hb⟩
  replace HIB := Lib.hid (HIB.out.below hb)
  replace HB := Lib.hid (HB.out.trans (hb.mono HB.out.size)); clear hb
  cases hok : ok
  · have hno := (best_not HSay.out hok).2.2.2 HE.out
    have HNo := Lib.hid hno
    clear hno
    obtain rfl : err = 4 := by
      rcases hsay with ⟨he, _⟩ | ⟨_, _, _, _, h⟩ | ⟨_, _, u, v, _, _, _, _, ⟨ow, hp⟩, _⟩
      · exact absurd HE.out he
      · exact h
      · obtain ⟨f, hf⟩ := (pot_fair hp).2
        exact absurd ⟨f, hf.mt⟩ HNo.out
    clear hsay
    go_wp2_with (fail)
    refine (Proves_any _ _ _ _ _ _ _ _ c l rs cs _ (by omega) (by omega) (by omega) (by omega) (HM.out.below HB.out) HS.out (H1.out.below HB.out) (H2.out.below HB.out) (H3.out.below HB.out)).mono ?_
    rintro e w5 ⟨b, rfl, hp, hb⟩
    rw [HE.out]
    replace HB := Lib.hid (HB.out.trans (hb.mono HB.out.size)); clear hb
    cases hbb : b
    · go_wp2; go_ret; exact ⟨rfl, HB.out⟩
    · exact absurd ⟨_, (hp.1 hbb).2.1.mt⟩ HNo.out
  · obtain ⟨u0, v0, _, bh, _, _, htot⟩ := best_has HSay.out hok
    have HH := Lib.hid bh; have HT := Lib.hid htot
    clear bh htot
    rcases hsay with ⟨he, _⟩ | ⟨_, hno, _⟩ | ⟨_, rfl, u, v, bu, bv, rfl, rfl, ⟨ow, hp⟩, ru, rv⟩
    · exact absurd HE.out he
    · exact absurd ⟨_, HH.out.tight.mt⟩ hno
    have HPr := Lib.hid (proof_of HE.out f7 hw8 HH.out hp)
    have HU := Lib.hid ru.inAt; have HV := Lib.hid rv.inAt
    clear hp ru rv
    go_wp2_with (fail)
    have hr := Proves_any a ab (some ⟨bu, 0, none⟩) (some ⟨bv, 0, none⟩) cap cb c.length (wideL c) c (natsI bl) (rangeI u c.length) (rangeI v (wideL c)) w4 (by omega) (by rw [natsI_len, HH.out.len]; omega) (by rw [rangeI_len]; omega) (by rw [rangeI_len]; omega) (HM.out.below HB.out) HS.out HIB.out HU.out HV.out
    rw [rangeI_len, rangeI_len, natsI_len] at hr
    refine hr.mono ?_
    clear hr
    rintro e w5 ⟨b, rfl, hp, hb⟩
    obtain rfl : b = true := hp.2 HPr.out
    rw [HE.out]
    replace HB := Lib.hid (HB.out.trans (hb.mono HB.out.size)); clear hb
    clear hp HPr HU HV HIB
    go_wp2_with (fail)
    refine (Proves_any _ _ _ _ _ _ _ _ c l rs cs _ (by omega) (by omega) (by omega) (by omega) (HM.out.below HB.out) HS.out (H1.out.below HB.out) (H2.out.below HB.out) (H3.out.below HB.out)).mono ?_
    rintro e w5 ⟨b, rfl, hp, hb⟩
    rw [HE.out]
    replace HB := Lib.hid (HB.out.trans (hb.mono HB.out.size)); clear hb
    cases hbb : b
    · go_wp2; go_ret; exact ⟨rfl, HB.out⟩
    · have HP := Lib.hid (hp.1 hbb)
      clear hp
      go_wp2_with (fail)
      refine (RMatching_any _ _ _ _ c l _ HE.out (by omega) (HM.out.below HB.out) (H1.out.below HB.out)).mono ?_
      rintro e w6 ⟨b1, rfl, hb1, hb⟩
      obtain rfl : b1 = true := hb1.2 HP.out.2.1
      replace HB := Lib.hid (HB.out.trans (hb.mono HB.out.size)); clear hb
      clear hb1
      rw [if_pos rfl]
      have e1 : costL c l = total := by
        rw [HT.out]
        have := HH.out.least HP.out.2.1.mt
        have h2 := proof_cost HP.out HH.out.tight.mt
        rw [← totL_cost HH.out.len] at h2
        have h3 : costL c l = costOf (cc c) c.length (nz l) := rfl
        omega
      have HOther := Lib.hid (fun (h : IsMt c o) => proof_cost HP.out h.mt)
      rw [e1] at HOther ⊢
      clear e1
      go_wp2_with (fail)
      refine (RMatching_any _ _ _ _ c o _ HE.out (by omega) (HM.out.below HB.out) (H4.out.below HB.out)).mono ?_
      rintro e w7 ⟨b2, rfl, hb2, hb⟩
      replace HB := Lib.hid (HB.out.trans (hb.mono HB.out.size)); clear hb
      cases hbb2 : b2
      · rw [if_neg (by simp)]
        go_wp2; go_ret; exact ⟨rfl, HB.out⟩
      · rw [if_pos rfl]
        have h5 : total ≤ costL c o := HOther.out (hb2.1 hbb2)
        generalize costL c o = M at *
        go_wp2; go_ret; exact ⟨rfl, HB.out⟩
end Go.Proofs.Ytkpgphadgomifaa
