import Derived.Test.YtehdhbnbajfanaaGreatGO

/- The law PlanRefuses, walked; plan.Refuses by its contract. -/
namespace Go.Proofs.YtehdhbnbajfanaaGreat
set_option linter.unusedSimpArgs false
set_option linter.unusedVariables false
open Go.RowKit Go.Sort Go.Shelf

theorem less_vv' {ds : List De} {cs : List Co} {hall : Int} (x : Int) (h : (validB ds cs && inR 0 99 hall) = true) : (validB (lessL ds x) cs && inR 0 99 hall) = true := by
  rw [Bool.and_eq_true] at *
  exact ⟨valid_sub (less_subl ds x) h.1, h.2⟩
set_option maxRecDepth 100000 in
set_option maxHeartbeats 8000000 in
theorem refuses_law (HQ : RefusesC) (a a2 : Option Addr) (cap cap2 : Nat) (ds : List De) (cs : List Co) (hall : Int) (x : Nat) (w : World) (hl : ds.length ≤ 9223372036854775807) (hl2 : cs.length ≤ 9223372036854775807) (he : ∀ d ∈ ds, d.eds.length ≤ 9223372036854775807) (hx : x ≤ 255)
    (hm : DeAt w a ds) (hc : CoAt w a2 cs) :
    Calls Tryz.prog 6 #[.slice a ds.length cap, .slice a2 cs.length cap2, .int .i64 hall, .int .u8 (x : Int)] w fun e w' => e = .returned (.bool true) ∧ RowKit.Below w.heap.size w w' := by
  have HM := Lib.hid hm; have HC := Lib.hid hc; have HE := Lib.hid he
  clear hm hc he
  go_enter Tryz.func6, Tryz.ntmps6
  go_wp2_with (fail); refine (phead_any HQ w).mono ?_; rintro e w1 ⟨rfl, hb⟩; have HB := Lib.hid hb; clear hb
  go_wp2_with (fail); refine (usable_any _ _ _ _ ds cs hall _ hl hl2 HE.out (HM.out.below HB.out) (HC.out.below HB.out)).mono ?_; rintro e w2 ⟨rfl, hb⟩; replace HB := Lib.hid (HB.out.trans (hb.mono HB.out.size)); clear hb
  cases hf : usableB ds cs hall
  · go_wp2; go_ret; exact ⟨rfl, HB.out⟩
  obtain ⟨f7, f8, f20, hv, hvv⟩ := usable_iff hf
  have HE20 := Lib.hid f20; have HV := Lib.hid hv; have HVV := Lib.hid hvv
  clear hf f20 hv hvv
  go_wp2_with (fail)
  refine (Plan_any _ _ _ _ ds cs hall _ (by omega) (by omega) HE20.out (HM.out.below HB.out) (HC.out.below HB.out)).mono ?_
  intro e w3 hp
  obtain ⟨a5, a6, c5, c6, gl, rl, ok, err, rfl, hsay, hs5, hg5, hs6, hi6, hb⟩ := hp.res
  obtain ⟨rfl, hsaid⟩ := says_said hsay HVV.out
  have HR := Lib.hid hi6
  replace HB := Lib.hid (HB.out.trans (hb.mono HB.out.size)); clear hb
  clear hp hsay hs5 hg5 hs6 hi6
  rcases hsaid with ⟨hno, rfl, rfl, rfl⟩ | ⟨hyes, rfl, rfl, l, rfl, hl3⟩
  · have HNO := Lib.hid hno
    have hpos := answer_pos (ds := ds) (cs := cs) hno
    have hle := answer_le (ds := ds) (cs := cs)
    have HVD := Lib.hid (vd_of HV.out)
    have HND := Lib.hid (valid_nodup HV.out).2
    have HNV := Lib.hid (named_valid HV.out)
    have HNL := Lib.hid (named_len (cs := cs) HVD.out.nd)
    have HNE := Lib.hid (fun d (hd : d ∈ namedL cs ds) => HE20.out d (pick_mem.1 hd).1)
    clear hno
    go_wp2_with (fail)
    refine (RSomeD_any _ _ _ _ ds (answerL cs ds) _ (by omega) (by omega) (HM.out.below HB.out) HR.out).mono ?_
    rintro e w4 ⟨hb, ⟨hst, a4, c4, rfl, hs4, hd4⟩ | ⟨hst, rfl⟩⟩
    · rw [show pickD ds (answerL cs ds) = namedL cs ds from rfl] at *
      have HD := Lib.hid hd4
      replace HR := Lib.hid (HR.out.below hb)
      replace HB := Lib.hid (HB.out.trans (hb.mono HB.out.size)); clear hb
      clear hst hs4 hd4
      have hcb : (((answerL cs ds).length : Int) == 0) = false := by simp; intro e; rw [e] at hpos; simp at hpos
      go_wp2_with (fail)
      refine (Plan_any a4 _ c4 _ (namedL cs ds) cs hall _ (by rw [HNL.out]; omega) (by omega) HNE.out HD.out (HC.out.below HB.out)).mono ?_
      intro e w5 hp
      obtain ⟨a7, a8, c7, c8, gl2, rl2, ok2, err2, rfl, hsay, _, _, _, hi8, hb⟩ := hp.res
      obtain ⟨rfl, hsaid⟩ := says_said hsay (named_vv HV.out HVV.out)
      rcases hsaid with ⟨hno2, rfl, rfl, rfl⟩ | ⟨hyes2, _⟩
      case inr => exact absurd hyes2 (by rw [named_no HVD.out.nd HND.out HNO.out]; simp)
      rw [named_again HVD.out.nd HND.out] at *
      have HR2 := Lib.hid hi8
      replace HR := Lib.hid (HR.out.below hb); replace HD := Lib.hid (HD.out.below hb)
      replace HB := Lib.hid (HB.out.trans (hb.mono HB.out.size)); clear hb
      clear hp hsay hno2 hi8
      obtain ⟨k, hk, hkx⟩ : ∃ k : Nat, k < (answerL cs ds).length ∧ (k : Int) = (x : Int) % ((answerL cs ds).length : Int) := ⟨x % (answerL cs ds).length, Nat.mod_lt _ hpos, by simp⟩
      obtain ⟨b9, o9, rfl, d9⟩ := HR.out.get k hk
      have hrem : (x : Int) % ((answerL cs ds).length : Int) = (k : Int) := hkx.symm
      have HMM := Lib.hid (named_min (cs := cs) HVD.out.nd HND.out (answerL cs ds)[k] (List.getElem_mem _))
      have HLL := Lib.hid (less_len (namedL cs ds) (answerL cs ds)[k])
      generalize (answerL cs ds)[k] = X at *
      clear hkx
      go_wp2_with (fail)
      refine (RWithoutD_any a4 c4 (namedL cs ds) X _ (by rw [HNL.out]; omega) HD.out).mono ?_
      rintro e w6 ⟨a10, c10, rfl, _, hd10, hb⟩
      have HD10 := Lib.hid hd10
      replace HR := Lib.hid (HR.out.below hb); replace HR2 := Lib.hid (HR2.out.below hb)
      replace HB := Lib.hid (HB.out.trans (hb.mono HB.out.size)); clear hb
      clear hd10 d9 hrem hcb
      go_wp2_with (fail)
      refine (Plan_any a10 _ c10 _ (lessL (namedL cs ds) X) cs hall _ (by have := HLL.out; rw [HNL.out] at this; omega) (by omega) (fun d hd => HNE.out d (less_mem.1 hd).1) HD10.out (HC.out.below HB.out)).mono ?_
      intro e w7 hp
      obtain ⟨a11, a12, c11, c12, gl3, rl3, ok3, err3, rfl, hsay, _, _, _, _, hb⟩ := hp.res
      obtain ⟨rfl, hsaid⟩ := says_said hsay (less_vv' X (named_vv HV.out HVV.out))
      rcases hsaid with ⟨hno3, _⟩ | ⟨_, rfl, rfl, l3, rfl, _⟩
      case inl => exact absurd hno3 (by rw [HMM.out]; simp)
      replace HR := Lib.hid (HR.out.below hb); replace HR2 := Lib.hid (HR2.out.below hb)
      replace HB := Lib.hid (HB.out.trans (hb.mono HB.out.size)); clear hb
      clear hp hsay
      go_wp2_with (fail)
      refine (HQ _ _ _ _ _ _ ds cs (answerL cs ds) _ (by omega) (by omega) (by omega) HE20.out (HM.out.below HB.out) (HC.out.below HB.out) HR.out).mono ?_
      rintro e w8 ⟨b, err4, rfl, hr, hb⟩
      obtain ⟨rfl, hr2⟩ := ref_said hr HV.out
      obtain rfl : b = true := hr2.2 (named_refu HVD.out.nd HND.out HNO.out)
      replace HR := Lib.hid (HR.out.below hb); replace HR2 := Lib.hid (HR2.out.below hb)
      replace HB := Lib.hid (HB.out.trans (hb.mono HB.out.size)); clear hb
      clear hr hr2
      go_wp2_with (fail)
      refine (RSameI_any _ _ _ _ _ _ (answerL cs ds) (answerL cs ds) _ rfl rfl (by omega) (by omega) HR2.out HR.out).mono ?_
      rintro e w9 ⟨rfl, hb⟩
      rw [show decide (answerL cs ds = answerL cs ds) = true from decide_eq_true rfl]
      replace HB := Lib.hid (HB.out.trans (hb.mono HB.out.size)); clear hb
      go_wp2; go_ret; exact ⟨rfl, HB.out⟩
    · exact absurd (named_some HVD.out.nd) hst
  · go_wp2; go_ret; exact ⟨rfl, HB.out⟩
end Go.Proofs.YtehdhbnbajfanaaGreat
