/- The law MatchLeast, walked. -/
import Derived.Test.YtkpgphadgomifaaMatchHead
namespace Go.Proofs.Ytkpgphadgomifaa
set_option linter.unusedSimpArgs false
set_option linter.unusedVariables false
open Go.RowKit Go.Sort Go.Shelf

theorem BestSays.length {c : List (List Int)} {l : List Nat} {total : Int} {ok : Bool} {err : Int} (h : BestSays c l total ok err) : l.length ≤ c.length := by
  rcases h with ⟨_, h, _⟩ | ⟨_, _, _, h, _⟩ | ⟨_, _, _, _, h, _⟩
  · simp [h]
  · simp [h]
  · omega
set_option maxRecDepth 100000 in
set_option maxHeartbeats 4000000 in
theorem least_any (a a2 : Option Addr) (cap cap2 : Nat) (c : List (List Int)) (o : List Int) (w : World) (hl : c.length ≤ 9223372036854775807) (hl2 : o.length ≤ 9223372036854775807) (hm : MatAt w a c) (hs : SlOk a c.length cap) (hi : InAt w a2 o) :
    Calls Try.prog 4 #[.slice a c.length cap, .slice a2 o.length cap2] w fun e w' => e = .returned (.bool true) ∧ Below w.heap.size w w' := by
  have HM := Lib.hid hm; have HS := Lib.hid hs; have HI := Lib.hid hi
  clear hm hs hi
  cases hf : fewB c
  · have HF := Lib.hid hf; clear hf
    go_enter Try.func4, Try.ntmps4
    go_wp2_with (fail); refine (head_any w).mono ?_; rintro e w1 ⟨rfl, hb⟩; have HB := Lib.hid hb; clear hb
    go_wp2_with (fail)
    refine (RFew_any _ _ c _ hl (HM.out.below HB.out)).mono ?_
    rw [HF.out]
    rintro e w2 ⟨rfl, hb⟩
    replace HB := Lib.hid (HB.out.trans (hb.mono HB.out.size)); clear hb
    go_wp2
    go_ret
    exact ⟨rfl, HB.out⟩
  have HF := Lib.hid hf; clear hf
  by_cases h20 : 20 < o.length
  · go_enter Try.func4, Try.ntmps4
    go_wp2_with (fail); refine (head_any w).mono ?_; rintro e w1 ⟨rfl, hb⟩; have HB := Lib.hid hb; clear hb
    go_wp2_with (fail)
    refine (RFew_any _ _ c _ hl (HM.out.below HB.out)).mono ?_
    rw [HF.out]
    rintro e w2 ⟨rfl, hb⟩
    replace HB := Lib.hid (HB.out.trans (hb.mono HB.out.size)); clear hb
    go_wp2
    go_ret
    exact ⟨rfl, HB.out⟩
  obtain ⟨f7, f8⟩ := few_iff.1 HF.out
  clear f8
  by_cases he : formE c = 0
  case neg =>
    have hne : (formE c != 0) = true := by simpa using he
    go_enter Try.func4, Try.ntmps4
    go_wp2_with (fail); refine (head_any w).mono ?_; rintro e w1 ⟨rfl, hb⟩; have HB := Lib.hid hb; clear hb
    go_wp2_with (fail)
    refine (RFew_any _ _ c _ hl (HM.out.below HB.out)).mono ?_
    rw [HF.out]
    rintro e w2 ⟨rfl, hb⟩
    replace HB := Lib.hid (HB.out.trans (hb.mono HB.out.size)); clear hb
    go_wp2_with (fail)
    refine (RForm_any _ _ c _ (by omega) (HM.out.below HB.out)).mono ?_
    rintro e w2 ⟨rfl, hb⟩
    replace HB := Lib.hid (HB.out.trans (hb.mono HB.out.size)); clear hb
    go_wp2
    go_ret
    exact ⟨rfl, HB.out⟩
  have HE := Lib.hid he; clear he
  go_enter Try.func4, Try.ntmps4
  go_wp2_with (fail); refine (head_any w).mono ?_; rintro e w1 ⟨rfl, hb⟩; have HB := Lib.hid hb; clear hb
  go_wp2_with (fail)
  refine (RFew_any _ _ c _ hl (HM.out.below HB.out)).mono ?_
  rw [HF.out]
  rintro e w2 ⟨rfl, hb⟩
  replace HB := Lib.hid (HB.out.trans (hb.mono HB.out.size)); clear hb
  go_wp2_with (fail)
  refine (RForm_any _ _ c _ (by omega) (HM.out.below HB.out)).mono ?_
  rw [HE.out]
  rintro e w2 ⟨rfl, hb⟩
  replace HB := Lib.hid (HB.out.trans (hb.mono HB.out.size)); clear hb
  go_wp2_with (fail)
  refine (Best_any _ _ c _ (by omega) (HM.out.below HB.out) HS.out).mono ?_
  rintro e w3 ⟨l, total, ok, err, a1, c1, rfl, hsay, hs1, hi1, hb⟩
  obtain rfl : err = 0 := (best_err hsay).trans HE.out
  rw [met_in] at hi1
  have HSay := Lib.hid hsay; have HI1 := Lib.hid (show InAt w3 a1 (natsI l) from hi1)
  have hll := hsay.length
  replace HB := Lib.hid (HB.out.trans (hb.mono HB.out.size)); clear hb
  clear hs1 hi1 hsay
  go_wp2_with (fail)
  refine (RMatching_any _ _ _ _ c o _ HE.out (by omega) (HM.out.below HB.out) (HI.out.below HB.out)).mono ?_
  rintro e w4 ⟨b, rfl, hb0, hb⟩
  generalize hN : (if b = true then costL c o else 0) = M
  have HN := Lib.hid hN; have Hb := Lib.hid hb0; clear hN hb0
  replace HI1 := Lib.hid (HI1.out.below hb)
  replace HB := Lib.hid (HB.out.trans (hb.mono HB.out.size)); clear hb
  cases hok : ok
  · obtain ⟨e1, e2, _, e3⟩ := best_not HSay.out hok
    have hbf : b = false := by
      cases hbb : b
      · rfl
      · exact absurd ⟨_, (Hb.out.1 hbb).mt⟩ (e3 HE.out)
    subst e1 e2 hbf
    clear e3
    go_wp2
    go_ret
    exact ⟨rfl, HB.out⟩
  · obtain ⟨u, v, _, bh, _, _, htot⟩ := best_has HSay.out hok
    have HH := Lib.hid bh
    go_wp2_with (fail)
    have hr := RMatching_any a a1 cap c1 c (natsI l) w4 HE.out (by rw [natsI_len]; omega) (HM.out.below HB.out) HI1.out
    rw [natsI_len] at hr
    refine hr.mono ?_
    clear hr
    rintro e w5 ⟨b2, rfl, hb2, hb⟩
    obtain rfl : b2 = true := hb2.2 bh.isMt
    rw [if_pos rfl, bh.cost, ← htot]
    replace HI1 := Lib.hid (HI1.out.below hb)
    replace HB := Lib.hid (HB.out.trans (hb.mono HB.out.size)); clear hb
    obtain ⟨w6, rfl⟩ : ∃ w6 : World, w6 = w5 := ⟨_, rfl⟩
    clear hb2
    have HT := Lib.hid htot
    clear htot bh
    cases hbb : b
    · go_wp2
      go_ret
      exact ⟨rfl, HB.out⟩
    · have hmt := Hb.out.1 hbb
      have hM : costL c o = M := by have := HN.out; rw [if_pos hbb] at this; exact this
      have hle : total ≤ M := by rw [← hM, HT.out]; exact HH.out.least hmt.mt
      have HMt := Lib.hid hmt; have HMM := Lib.hid hM
      clear hmt hM
      by_cases hlt : total < M
      · go_wp2
        go_ret
        exact ⟨rfl, HB.out⟩
      · have hMe : M = total := by omega
        subst hMe
        have HTi := Lib.hid (HH.out.tightOf HMt.out.mt (by show costL c o ≤ _; rw [HMM.out, HT.out]; exact Int.le_refl _))
        clear hle
        go_wp2
        have hlc := HH.out.len
        go_loopw [14] (fun s14 wr => ∃ k : Nat, k ≤ l.length ∧ s14 = .int .i64 k ∧ (∀ j, j < k → nz o j = l.getD j 0) ∧ Below w6.heap.size w6 wr) (fun i _ => l.length - (intOf i).toNat)
        case atStart => exact ⟨0, Nat.zero_le _, rfl, fun j hj => by omega, Below.refl _ _⟩
        case round =>
          obtain ⟨k, hk, rfl, hall, hb⟩ := hrel
          have HA := Lib.hid hall; have HBB := Lib.hid hb
          clear hall hb
          by_cases hlt : k < l.length
          · obtain ⟨b1, o1, rfl, d1⟩ := HI1.out.get k (by rw [natsI_len]; exact hlt)
            have hko : k < o.length := by have := HMt.out.len; omega
            obtain ⟨b2, o2, rfl, d2⟩ := HI.out.get k hko
            rw [← gz_get (by rw [natsI_len]; exact hlt), gz_nats hlt] at d1
            have hin := HMt.out.in_ k (by omega)
            have hnz : gz o k = (nz o k : Nat) := by simp only [nz]; omega
            rw [← gz_get hko, hnz] at d2
            clear hin hnz
            have hmin := HH.out.min _ HTi.out k (by omega) fun j hj => HA.out j hj
            have HMin := Lib.hid hmin
            generalize hX : l.getD k 0 = X at *
            generalize hY : nz o k = Y at *
            have HX := Lib.hid hX; have HY := Lib.hid hY
            clear hX hY hmin hlc
            have hB := HB.out.trans (HBB.out.mono HB.out.size)
            have g0 := cell_regrown (keepC d1 HBB.out); have g1 := cell_regrown (keepC d2 hB)
            clear hB
            go_wp2
            refine wp_quietB (by kernel_rfl) (by kernel_rfl) ?_
            repeat (go_big_quiet_step (fail))
            refine wpQuiet_nil ?_
            intro wq hq
            have HB2 := Lib.hid (HBB.out.trans (hq.mono HBB.out.size))
            clear hq g0 g1
            by_cases hxy : X = Y
            · have hb1 : ((X : Int) != (Y : Int)) = false := by simp; omega
              have HXY := Lib.hid hxy; clear hxy
              go_wp2
              go_roundw
              case rel => exact ⟨k + 1, by omega, by go_num, fun j hj => by
                by_cases e : j = k
                · subst e; rw [HX.out, HY.out]; exact HXY.out.symm
                · exact HA.out j (by omega), HB2.out⟩
              case measure => simp [intOf]; omega
            · have hb1 : ((X : Int) != (Y : Int)) = true := by simp; omega
              have hXY : (X : Int) < (Y : Int) := by have := HMin.out; omega
              have hB := HB.out.trans (HB2.out.mono HB.out.size)
              have g0 := cell_regrown (keepC d1 HB2.out); have g1 := cell_regrown (keepC d2 hB)
              clear hB
              go_wp2
              refine wp_quietB (by kernel_rfl) (by kernel_rfl) ?_
              repeat (go_big_quiet_step (fail))
              refine wpQuiet_nil ?_
              intro wq2 hq
              have HB3 := Lib.hid (HB2.out.trans (hq.mono HB2.out.size))
              clear hq g0 g1
              go_wp2
              go_ret
              exact ⟨by simp [hXY], HB.out.trans (HB3.out.mono HB.out.size)⟩
          · go_wp2
            go_ret
            exact ⟨rfl, HB.out.trans (HBB.out.mono HB.out.size)⟩
end Go.Proofs.Ytkpgphadgomifaa
