import Derived.Test.YtehdhbnbajfanaaGreatGO

/- The law PlanMatchesReference, walked; plan.Refuses by its contract. -/
namespace Go.Proofs.YtehdhbnbajfanaaGreat
set_option linter.unusedSimpArgs false
set_option linter.unusedVariables false
open Go.RowKit Go.Sort Go.Shelf

set_option maxRecDepth 100000 in
set_option maxHeartbeats 8000000 in
theorem pmatches_law (HQ : RefusesC) (a a2 a3 : Option Addr) (cap cap2 cap3 : Nat) (ds : List De) (cs : List Co) (hall : Int) (ids : List Int) (w : World) (hl : ds.length ≤ 9223372036854775807) (hl2 : cs.length ≤ 9223372036854775807) (hl3 : ids.length ≤ 9223372036854775807) (he : ∀ d ∈ ds, d.eds.length ≤ 9223372036854775807)
    (hs : SlOk a ds.length cap) (hm : DeAt w a ds) (hc : CoAt w a2 cs) (hi : InAt w a3 ids) :
    Calls Tryz.prog 3 #[.slice a ds.length cap, .slice a2 cs.length cap2, .int .i64 hall, .slice a3 ids.length cap3] w fun e w' => e = .returned (.bool true) ∧ RowKit.Below w.heap.size w w' := by
  have HM := Lib.hid hm; have HC := Lib.hid hc; have HE := Lib.hid he; have HI := Lib.hid hi; have HS := Lib.hid hs
  clear hm hc he hi hs
  go_enter Tryz.func3, Tryz.ntmps3
  go_wp2_with (fail); refine (phead_any HQ w).mono ?_; rintro e w1 ⟨rfl, hb⟩; have HB := Lib.hid hb; clear hb
  go_wp2_with (fail)
  refine (RFewP_any _ _ _ _ ds cs _ hl hl2 (HM.out.below HB.out) HE.out).mono ?_
  rintro e w2 ⟨rfl, rfl⟩
  cases hf : fewP ds cs
  · go_wp2; go_ret; exact ⟨rfl, HB.out⟩
  obtain ⟨f7, f8, f20⟩ := fewP_iff hf
  have HE20 := Lib.hid (fun d hd => Nat.le_trans (f20 d hd) (by decide : 20 ≤ 1000))
  clear hf f20
  by_cases m1 : 40 < ids.length
  · go_wp2; go_ret; exact ⟨rfl, HB.out⟩
  go_wp2_with (fail)
  refine (Plan_any _ _ _ _ ds cs hall _ (by omega) (by omega) HE20.out (HM.out.below HB.out) (HC.out.below HB.out)).mono ?_
  intro e w3 hp
  obtain ⟨a5, a6, c5, c6, gl, rl, ok, err, rfl, hsay, hs5, hg5, hs6, hi6, hb⟩ := hp.res
  have HSay := Lib.hid hsay; have HG := Lib.hid hg5; have HR := Lib.hid hi6
  replace HB := Lib.hid (HB.out.trans (hb.mono HB.out.size)); clear hb
  clear hp hsay hs5 hg5 hs6 hi6
  go_wp2_with (fail)
  refine (RPlan_any _ _ _ _ ds cs hall _ (by omega) (by omega) HE20.out HS.out.weak (HM.out.below HB.out) (HC.out.below HB.out)).mono ?_
  intro e w4 hp
  obtain ⟨a7, a8, c7, c8, gl', rl', ok', err', rfl, hsay, hs5, hg5, hs6, hi6, hb⟩ := hp.res
  obtain ⟨rfl, rfl, rfl, rfl⟩ := says_same HSay.out hsay
  have HG2 := Lib.hid hg5; have HR2 := Lib.hid hi6
  replace HG := Lib.hid (HG.out.below hb); replace HR := Lib.hid (HR.out.below hb)
  replace HB := Lib.hid (HB.out.trans (hb.mono HB.out.size)); clear hb
  obtain ⟨hgl, hrl⟩ := says_len HSay.out
  clear hp hsay hs5 hg5 hs6 hi6 HSay
  go_wp2_with (fail)
  refine (RSameG_any _ _ _ _ _ _ gl gl _ rfl rfl (by omega) (by omega) HG.out HG2.out).mono ?_
  rintro e w5 ⟨rfl, hb⟩
  rw [show decide (gl = gl) = true from decide_eq_true rfl]
  replace HR := Lib.hid (HR.out.below hb); replace HR2 := Lib.hid (HR2.out.below hb)
  replace HB := Lib.hid (HB.out.trans (hb.mono HB.out.size)); clear hb
  clear HG HG2
  go_wp2_with (fail)
  refine (RSameI_any _ _ _ _ _ _ rl rl _ rfl rfl (by omega) (by omega) HR.out HR2.out).mono ?_
  rintro e w6 ⟨rfl, hb⟩
  rw [show decide (rl = rl) = true from decide_eq_true rfl]
  replace HB := Lib.hid (HB.out.trans (hb.mono HB.out.size)); clear hb
  clear HR HR2
  go_wp2_with (fail)
  refine (HQ _ _ _ _ _ _ ds cs ids _ (by omega) (by omega) (by omega) HE20.out (HM.out.below HB.out) (HC.out.below HB.out) (HI.out.below HB.out)).mono ?_
  rintro e w7 ⟨b, err1, rfl, hr1, hb⟩
  have HR1 := Lib.hid hr1
  replace HB := Lib.hid (HB.out.trans (hb.mono HB.out.size)); clear hb
  clear hr1
  go_wp2_with (fail)
  refine (RRefuses_any _ _ _ _ _ _ ds cs ids _ (by omega) (by omega) (by omega) HE20.out (HM.out.below HB.out) (HC.out.below HB.out) (HI.out.below HB.out)).mono ?_
  intro e w8 hp
  obtain ⟨b', err2, rfl, hr2, hb⟩ := hp.res
  obtain ⟨rfl, rfl⟩ := ref_same HR1.out hr2
  replace HB := Lib.hid (HB.out.trans (hb.mono HB.out.size)); clear hb
  clear hp hr2 HR1
  go_wp2; go_ret; exact ⟨rfl, HB.out⟩
end Go.Proofs.YtehdhbnbajfanaaGreat
