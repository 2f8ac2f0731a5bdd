/- The law MatchMatchesReference, walked: for every costs, columns and prices that lie in memory. -/
import Derived.Test.YtkpgphadgomifaaMatchHead
import Derived.Test.YtkpgphadgomifaaMatchRBest
import Derived.Test.YtkpgphadgomifaaMatchRShort
import Derived.Test.YtkpgphadgomifaaMatchLong
namespace Go.Proofs.Ytkpgphadgomifaa
set_option linter.unusedSimpArgs false
set_option linter.unusedVariables false
open Go.RowKit Go.Sort Go.Shelf

set_option maxRecDepth 100000 in
set_option maxHeartbeats 8000000 in
theorem matches_law (a a1 a2 a3 : Option Addr) (cap cap1 cap2 cap3 : Nat) (c : List (List Int)) (l rs cs : List Int) (w : World) (hl : c.length ≤ 9223372036854775807) (hl1 : l.length ≤ 9223372036854775807) (hl2 : rs.length ≤ 9223372036854775807) (hl3 : cs.length ≤ 9223372036854775807)
    (hm : MatAt w a c) (hs : SlOk a c.length cap) (h1 : InAt w a1 l) (h2 : InAt w a2 rs) (h3 : InAt w a3 cs) :
    Calls Try.prog 3 #[.slice a c.length cap, .slice a1 l.length cap1, .slice a2 rs.length cap2, .slice a3 cs.length cap3] w fun e w' => e = .returned (.bool true) ∧ Below w.heap.size w w' := by
  have HM := Lib.hid hm; have HS := Lib.hid hs; have H1 := Lib.hid h1; have H2 := Lib.hid h2; have H3 := Lib.hid h3
  clear hm hs h1 h2 h3
  go_enter Try.func3, Try.ntmps3
  go_wp2_with (fail); refine (head_any w).mono ?_; rintro e w1 ⟨rfl, hb⟩; have HB := Lib.hid hb; clear hb
  go_wp2_with (fail)
  refine (RFew_any _ _ c _ hl (HM.out.below HB.out)).mono ?_
  rintro e w2 ⟨rfl, hb⟩
  replace HB := Lib.hid (HB.out.trans (hb.mono HB.out.size)); clear hb
  by_cases hlong : 200 < c.length
  · have hfw : fewB c = false := by
      cases hq : fewB c
      · rfl
      · have := (few_iff.1 hq).1; omega
    rw [hfw]
    have hng : ¬ (c.length : Int) ≤ 200 := by omega
    have HFW := Lib.hid hfw; clear hfw
    by_cases m1 : 20 < l.length
    · go_wp2; go_ret; exact ⟨rfl, HB.out⟩
    by_cases m2 : 20 < rs.length
    · go_wp2; go_ret; exact ⟨rfl, HB.out⟩
    by_cases m3 : 20 < cs.length
    · go_wp2; go_ret; exact ⟨rfl, HB.out⟩
    go_wp2_with (fail)
    refine (Best_long a c.length cap _ hlong hl).mono ?_
    rintro e w3 ⟨rfl, hb⟩
    replace HB := Lib.hid (HB.out.trans (hb.mono HB.out.size)); clear hb
    go_wp2_with (fail)
    refine (RBest_long a c.length cap _ hlong hl).mono ?_
    rintro e w4 ⟨rfl, hb⟩
    replace HB := Lib.hid (HB.out.trans (hb.mono HB.out.size)); clear hb
    go_wp2_with (fail)
    refine (RSame_any none none 0 0 0 0 [] [] _ rfl rfl (by omega) (by omega) (SlAt.nil _ _ _) (SlAt.nil _ _ _)).mono ?_
    rintro e w5 ⟨rfl, hb⟩
    replace HB := Lib.hid (HB.out.trans (hb.mono HB.out.size)); clear hb
    rw [show decide (([] : List Int) = []) = true from rfl]
    go_wp2_with (fail)
    refine (Proves_long a a1 a2 a3 c.length cap l.length cap1 rs.length cap2 cs.length cap3 _ hlong hl).mono ?_
    rintro e w6 ⟨rfl, hb⟩
    replace HB := Lib.hid (HB.out.trans (hb.mono HB.out.size)); clear hb
    go_wp2_with (fail)
    refine (RProves_long a a1 a2 a3 c.length cap l.length cap1 rs.length cap2 cs.length cap3 _ hlong hl).mono ?_
    rintro e w7 ⟨rfl, hb⟩
    replace HB := Lib.hid (HB.out.trans (hb.mono HB.out.size)); clear hb
    go_wp2_with (fail)
    refine (Short_long a c.length cap _ hlong hl).mono ?_
    rintro e w8 ⟨rfl, hb⟩
    replace HB := Lib.hid (HB.out.trans (hb.mono HB.out.size)); clear hb
    go_wp2_with (fail)
    refine (RShort_long a c.length cap _ hlong hl).mono ?_
    rintro e w9 ⟨rfl, hb⟩
    replace HB := Lib.hid (HB.out.trans (hb.mono HB.out.size)); clear hb
    go_wp2_with (fail)
    refine (RSame_any none none 0 0 0 0 [] [] _ rfl rfl (by omega) (by omega) (SlAt.nil _ _ _) (SlAt.nil _ _ _)).mono ?_
    rintro e w10 ⟨rfl, hb⟩
    replace HB := Lib.hid (HB.out.trans (hb.mono HB.out.size)); clear hb
    rw [show decide (([] : List Int) = []) = true from rfl]
    go_wp2_with (fail)
    refine (Prices_long a c.length cap _ hlong hl).mono ?_
    rintro e w11 ⟨rfl, hb⟩
    replace HB := Lib.hid (HB.out.trans (hb.mono HB.out.size)); clear hb
    go_wp2; go_ret; exact ⟨rfl, HB.out⟩
  have hng : (c.length : Int) ≤ 200 := by omega
  cases hf : fewB c
  · go_wp2; go_ret; exact ⟨rfl, HB.out⟩
  obtain ⟨f7, f8⟩ := few_iff.1 hf
  have HF8 := Lib.hid f8
  clear f8 hf hlong
  by_cases m1 : 20 < l.length
  · go_wp2; go_ret; exact ⟨rfl, HB.out⟩
  by_cases m2 : 20 < rs.length
  · go_wp2; go_ret; exact ⟨rfl, HB.out⟩
  by_cases m3 : 20 < cs.length
  · go_wp2; go_ret; exact ⟨rfl, HB.out⟩
  go_wp2_with (fail)
  refine (Best_any _ _ c _ (by omega) (HM.out.below HB.out) HS.out).mono ?_
  rintro e w3 ⟨bl, total, ok, err, ab, cb, rfl, hsay, hs1, hi1, hb⟩
  have HSay := Lib.hid hsay
  rw [met_in] at hi1
  have HIB := Lib.hid (show InAt w3 ab (natsI bl) from hi1)
  replace HB := Lib.hid (HB.out.trans (hb.mono HB.out.size)); clear hb
  clear hs1 hi1 hsay
  go_wp2_with (fail)
  refine (RBest_any _ _ c _ (by omega) (HM.out.below HB.out)).mono ?_
  rintro e w4 ⟨bl2, total2, ok2, err2, ab2, cb2, rfl, hsay2, hs2, hi2, hb⟩
  obtain ⟨rfl, rfl, rfl, rfl⟩ := best_same HSay.out hsay2
  rw [met_in] at hi2
  have HIB2 := Lib.hid (show InAt w4 ab2 (natsI bl) from hi2)
  replace HIB := Lib.hid (HIB.out.below hb)
  replace HB := Lib.hid (HB.out.trans (hb.mono HB.out.size)); clear hb
  clear hs2 hi2 hsay2
  have HBL := Lib.hid (show bl.length ≤ 7 by
    cases hok : ok
    · have := (best_not HSay.out hok).1; subst this; exact Nat.zero_le _
    · obtain ⟨_, _, _, bh, _⟩ := best_has HSay.out hok
      rw [bh.len]; exact f7)
  go_wp2_with (fail)
  refine (RSame_any ab ab2 bl.length bl.length cb cb2 (natsI bl) (natsI bl) _ (natsI_len _).symm (natsI_len _).symm (by have := HBL.out; omega) (by have := HBL.out; omega) HIB.out HIB2.out).mono ?_
  rintro e w5 ⟨rfl, hb⟩
  rw [show decide (natsI bl = natsI bl) = true by simp]
  replace HIB := Lib.hid (HIB.out.below hb); replace HIB2 := Lib.hid (HIB2.out.below hb)
  replace HB := Lib.hid (HB.out.trans (hb.mono HB.out.size)); clear hb
  have t1 : (ok == ok) = true := by simp
  have t2 : (total == total) = true := by simp
  have t3 : (err == err) = true := by simp
  go_wp2_with (fail)
  clear t1 t2 t3
  refine (Proves_any _ _ _ _ _ _ _ _ c l rs cs _ (by omega) (by omega) (by omega) (by omega) (HM.out.below HB.out) HS.out (H1.out.below HB.out) (H2.out.below HB.out) (H3.out.below HB.out)).mono ?_
  rintro e w6 ⟨b1, rfl, hp1, hb⟩
  replace HIB2 := Lib.hid (HIB2.out.below hb)
  replace HB := Lib.hid (HB.out.trans (hb.mono HB.out.size)); clear hb
  go_wp2_with (fail)
  refine (RProves_any _ _ _ _ _ _ _ _ c l rs cs _ (by omega) (by omega) (by omega) (by omega) (HM.out.below HB.out) (H1.out.below HB.out) (H2.out.below HB.out) (H3.out.below HB.out)).mono ?_
  rintro e w7 ⟨b2, rfl, hp2, hb⟩
  replace HIB2 := Lib.hid (HIB2.out.below hb)
  replace HB := Lib.hid (HB.out.trans (hb.mono HB.out.size)); clear hb
  obtain rfl : b1 = b2 := by rw [Bool.eq_iff_iff, hp1, hp2]
  clear hp1 hp2 HIB
  have t1 : (b1 == b1) = true := by simp
  have t3 : (formE c == formE c) = true := by simp
  go_wp2_with (fail)
  refine (Short_any _ _ c _ (by omega) (HM.out.below HB.out) HS.out).mono ?_
  rintro e w8 ⟨sl, short, serr, aS, capS, rfl, hsh, _, his, hb⟩
  have HSH := Lib.hid hsh; have HIS := Lib.hid his
  replace HIB2 := Lib.hid (HIB2.out.below hb)
  replace HB := Lib.hid (HB.out.trans (hb.mono HB.out.size)); clear hb
  clear hsh his
  go_wp2_with (fail)
  refine (RShort_any _ _ c _ (by omega) (HM.out.below HB.out)).mono ?_
  rintro e w9 ⟨sl2, short2, serr2, aS2, capS2, rfl, hsh2, _, his2, hb⟩
  obtain ⟨rfl, rfl, rfl⟩ := short_same HSH.out hsh2
  obtain rfl : serr = formE c := HSH.out.1
  have HIS2 := Lib.hid his2
  replace HIS := Lib.hid (HIS.out.below hb); replace HIB2 := Lib.hid (HIB2.out.below hb)
  replace HB := Lib.hid (HB.out.trans (hb.mono HB.out.size)); clear hb
  have HSL := Lib.hid (show sl.length ≤ 7 by
    rcases hsh2.2 with ⟨_, e, _⟩ | ⟨_, _, h⟩
    · rw [e]; exact Nat.zero_le _
    · have := asc_len (c := c) h.asc (fun r hr => by obtain ⟨j, hj, _, hx⟩ := h.top; have := hx r hr; exact ⟨this.1, by omega⟩)
      omega)
  clear hsh2 his2
  go_wp2_with (fail)
  refine (RSame_any aS aS2 sl.length sl.length capS capS2 sl sl _ rfl rfl (by have := HSL.out; omega) (by have := HSL.out; omega) HIS.out HIS2.out).mono ?_
  rintro e w10 ⟨rfl, hb⟩
  rw [show decide (sl = sl) = true by simp]
  replace HIB2 := Lib.hid (HIB2.out.below hb)
  replace HB := Lib.hid (HB.out.trans (hb.mono HB.out.size)); clear hb
  clear HIS HIS2
  have t4 : (short == short) = true := by simp
  go_wp2_with (fail)
  clear t1 t4
  refine (Prices_any _ _ c _ (by omega) (HM.out.below HB.out) HS.out).mono ?_
  rintro e w11 ⟨v1, v2, perr, rfl, hpr, hb⟩
  replace HIB2 := Lib.hid (HIB2.out.below hb)
  replace HB := Lib.hid (HB.out.trans (hb.mono HB.out.size)); clear hb
  rcases hpr with ⟨he, rfl, rfl, rfl⟩ | ⟨he, hno, rfl, rfl, rfl⟩ | ⟨he, rfl, u, v, bu, bv, rfl, rfl, ⟨ow, hp⟩, ru, rv⟩
  · have e1 : (formE c == 0) = false := by simpa using he
    have e2 : (formE c != 0) = true := by simpa using he
    clear he
    go_wp2; go_ret; exact ⟨rfl, HB.out⟩
  · have HE := Lib.hid he
    rw [he]
    have hsh : short = true := by
      rcases HSH.out.2 with ⟨_, _, h⟩ | ⟨_, h, _⟩
      · exact absurd (h he) hno
      · exact h
    subst hsh
    clear he hno t3
    go_wp2; go_ret; exact ⟨rfl, HB.out⟩
  · have HE := Lib.hid he
    rw [he]
    have hmt : Mtd (may (cc c)) (fun i => i < c.length) (wideL c) := by
      obtain ⟨f, hf⟩ := (pot_fair hp).2
      exact ⟨f, hf.mt⟩
    have hsh : short = false := by
      rcases HSH.out.2 with ⟨h, _⟩ | ⟨_, _, j, ms, C, _⟩
      · exact h
      · exact absurd (hmt.sub fun i hi => by have := C.le i hi; have := C.lt; omega) C.no
    subst hsh
    have hok : ok = true := best_ok HSay.out he hmt
    obtain ⟨_, _, _, bh, _⟩ := best_has HSay.out hok
    have hw8 : wideL c ≤ 8 := by
      cases c with
      | nil => simp [wideL]
      | cons x c => exact HF8.out x (by simp)
    have HPr := Lib.hid (proof_of he f7 hw8 bh hp)
    have HBn := Lib.hid bh.len
    have HU := Lib.hid ru.inAt; have HV := Lib.hid rv.inAt
    clear hp ru rv bh hmt he t3
    go_wp2_with (fail)
    have hr := RProves_any a ab2 (some ⟨bu, 0, none⟩) (some ⟨bv, 0, none⟩) cap cb2 c.length (wideL c) c (natsI bl) (rangeI u c.length) (rangeI v (wideL c)) w11 (by omega) (by rw [natsI_len, HBn.out]; omega) (by rw [rangeI_len]; omega) (by rw [rangeI_len]; omega) (HM.out.below HB.out) HIB2.out HU.out HV.out
    rw [rangeI_len, rangeI_len, natsI_len] at hr
    refine hr.mono ?_
    clear hr
    rintro e w12 ⟨b, rfl, hp, hb⟩
    obtain rfl : b = true := hp.2 HPr.out
    rw [HE.out]
    replace HB := Lib.hid (HB.out.trans (hb.mono HB.out.size)); clear hb
    clear hp
    go_wp2; go_ret; exact ⟨rfl, HB.out⟩
end Go.Proofs.Ytkpgphadgomifaa
