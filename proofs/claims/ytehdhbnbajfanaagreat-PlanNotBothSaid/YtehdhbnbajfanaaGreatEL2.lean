import Derived.Test.YtehdhbnbajfanaaGreatGO

/- The law PlanNotBoth, walked; plan.Refuses by its contract. -/
namespace Go.Proofs.YtehdhbnbajfanaaGreat
set_option linter.unusedSimpArgs false
set_option linter.unusedVariables false
open Go.RowKit Go.Sort Go.Shelf

set_option maxRecDepth 100000 in
set_option maxHeartbeats 8000000 in
theorem notboth_law (HQ : RefusesC) (a a2 a3 : Option Addr) (cap cap2 cap3 : Nat) (ds : List De) (cs : List Co) (hall : Int) (ids : List Int) (w : World) (hl : ds.length ≤ 9223372036854775807) (hl2 : cs.length ≤ 9223372036854775807) (hl3 : ids.length ≤ 9223372036854775807) (he : ∀ d ∈ ds, d.eds.length ≤ 9223372036854775807)
    (hm : DeAt w a ds) (hc : CoAt w a2 cs) (hi : InAt w a3 ids) :
    Calls Tryz.prog 7 #[.slice a ds.length cap, .slice a2 cs.length cap2, .int .i64 hall, .slice a3 ids.length cap3] w fun e w' => e = .returned (.bool true) ∧ RowKit.Below w.heap.size w w' := by
  have HM := Lib.hid hm; have HC := Lib.hid hc; have HE := Lib.hid he; have HI := Lib.hid hi
  clear hm hc he hi
  go_enter Tryz.func7, Tryz.ntmps7
  go_wp2_with (fail); refine (phead_any HQ w).mono ?_; rintro e w1 ⟨rfl, hb⟩; have HB := Lib.hid hb; clear hb
  go_wp2_with (fail); refine (usable_any _ _ _ _ ds cs hall _ hl hl2 HE.out (HM.out.below HB.out) (HC.out.below HB.out)).mono ?_; rintro e w2 ⟨rfl, hb⟩; replace HB := Lib.hid (HB.out.trans (hb.mono HB.out.size)); clear hb
  cases hf : usableB ds cs hall
  · go_wp2; go_ret; exact ⟨rfl, HB.out⟩
  obtain ⟨f7, f8, f20, hv, hvv⟩ := usable_iff hf
  have HE20 := Lib.hid f20; have HV := Lib.hid hv; have HVV := Lib.hid hvv
  clear hf f20 hv hvv
  by_cases m1 : 40 < ids.length
  · go_wp2; go_ret; exact ⟨rfl, HB.out⟩
  go_wp2_with (fail)
  refine (HQ _ _ _ _ _ _ ds cs ids _ (by omega) (by omega) (by omega) HE20.out (HM.out.below HB.out) (HC.out.below HB.out) (HI.out.below HB.out)).mono ?_
  rintro e w7 ⟨b, err1, rfl, hr1, hb⟩
  obtain ⟨rfl, hr2⟩ := ref_said hr1 HV.out
  have HR1 := Lib.hid hr2
  replace HB := Lib.hid (HB.out.trans (hb.mono HB.out.size)); clear hb
  clear hr1 hr2
  go_wp2_with (fail)
  refine (Plan_any _ _ _ _ ds cs hall _ (by omega) (by omega) HE20.out (HM.out.below HB.out) (HC.out.below HB.out)).mono ?_
  intro e w3 hp
  obtain ⟨a5, a6, c5, c6, gl, rl, ok, err, rfl, hsay, hs5, hg5, hs6, hi6, hb⟩ := hp.res
  obtain ⟨rfl, hsaid⟩ := says_said hsay HVV.out
  have HSaid := Lib.hid hsaid
  replace HB := Lib.hid (HB.out.trans (hb.mono HB.out.size)); clear hb
  clear hp hsay hsaid hs5 hg5 hs6 hi6
  cases hok : ok
  · cases hbb : b
    · go_wp2; go_ret; exact ⟨rfl, HB.out⟩
    · go_wp2; go_ret; exact ⟨rfl, HB.out⟩
  · cases hbb : b
    · go_wp2; go_ret; exact ⟨rfl, HB.out⟩
    · exact absurd (said_ok HSaid.out hok) (by rw [refu_not (HR1.out.1 hbb) HV.out]; simp)
end Go.Proofs.YtehdhbnbajfanaaGreat
