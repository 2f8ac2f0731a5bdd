/- The law MatchShort, walked. -/
import Derived.Test.YtkpgphadgomifaaMatchLaw3
namespace Go.Proofs.Ytkpgphadgomifaa
set_option linter.unusedSimpArgs false
set_option linter.unusedVariables false
open Go.RowKit Go.Sort Go.Shelf

theorem asc_get {l : List Int} (h : l.Pairwise (· < ·)) {i j : Nat} (hij : i < j) (hj : j < l.length) : l[i]'(by omega) < l[j] := List.pairwise_iff_getElem.1 h i j (by omega) hj hij
set_option maxRecDepth 100000 in
set_option maxHeartbeats 8000000 in
theorem short_law (a : Option Addr) (cap : Nat) (c : List (List Int)) (x : Int) (w : World) (hl : c.length ≤ 9223372036854775807) (hx0 : 0 ≤ x) (hx1 : x ≤ 255) (hm : MatAt w a c) (hs : SlOk a c.length cap) :
    Calls Try.prog 6 #[.slice a c.length cap, .int .u8 x] w fun e w' => e = .returned (.bool true) ∧ Below w.heap.size w w' := by
  obtain ⟨y, rfl⟩ : ∃ y : Nat, x = y := ⟨x.toNat, by omega⟩
  have HM := Lib.hid hm; have HS := Lib.hid hs
  clear hm hs hx0
  go_enter Try.func6, Try.ntmps6
  go_wp2_with (fail); refine (head_any w).mono ?_; rintro e w1 ⟨rfl, hb⟩; have HB := Lib.hid hb; clear hb
  go_wp2_with (fail)
  refine (RFew_any _ _ c _ hl (HM.out.below HB.out)).mono ?_
  rintro e w2 ⟨rfl, hb⟩
  replace HB := Lib.hid (HB.out.trans (hb.mono HB.out.size)); clear hb
  cases hf : fewB c
  · go_wp2; go_ret; exact ⟨rfl, HB.out⟩
  obtain ⟨f7, f8⟩ := few_iff.1 hf
  clear f8 hf
  go_wp2_with (fail)
  refine (RForm_any _ _ c _ (by omega) (HM.out.below HB.out)).mono ?_
  rintro e w2 ⟨rfl, hb⟩
  replace HB := Lib.hid (HB.out.trans (hb.mono HB.out.size)); clear hb
  by_cases he : formE c = 0
  case neg =>
    have hne : (formE c != 0) = true := by simpa using he
    go_wp2; go_ret; exact ⟨rfl, HB.out⟩
  have HE := Lib.hid he; clear he
  rw [HE.out]
  go_wp2_with (fail)
  refine (Best_any _ _ c _ (by omega) (HM.out.below HB.out) HS.out).mono ?_
  rintro e w3 ⟨bl, total, ok, err, ab, cb, rfl, hsay, hs1, hi1, hb⟩
  obtain rfl : err = 0 := (best_err hsay).trans HE.out
  have HSay := Lib.hid hsay
  replace HB := Lib.hid (HB.out.trans (hb.mono HB.out.size)); clear hb
  clear hs1 hi1 hsay
  go_wp2_with (fail)
  refine (Short_any _ _ c _ (by omega) (HM.out.below HB.out) HS.out).mono ?_
  rintro e w4 ⟨l, short, err, a2, cap2, rfl, ⟨he2, hsay⟩, hs2, hi2, hb⟩
  obtain rfl : err = 0 := he2.trans HE.out
  have HS2 := Lib.hid hs2; have HI2 := Lib.hid hi2
  replace HB := Lib.hid (HB.out.trans (hb.mono HB.out.size)); clear hb
  clear hs2 hi2 he2
  rcases hsay with ⟨rfl, rfl, hmt⟩ | ⟨_, rfl, j, ms, hC, rfl⟩
  · obtain rfl : ok = true := best_ok HSay.out HE.out (hmt rfl)
    clear hmt
    go_wp2; go_ret; exact ⟨rfl, HB.out⟩
  obtain rfl : ok = false := best_no HSay.out (circ_no hC)
  have S := shorts_of HE.out hC
  generalize isort (ms.map fun i : Nat => (i : Int)) = l at *
  have HSh := Lib.hid S
  obtain ⟨s1, s2, _, _, _, _⟩ := S
  clear hC HSay
  have hne : ((l.length : Int) == 0) = false := by simp; intro e; simp [e] at s1
  have HW := Lib.hid (Below.refl w4.heap.size w4)
  go_wp2
  go_loopw [13] (fun s13 wr => ∃ k : Nat, k ≤ l.length ∧ s13 = .int .i64 k ∧ Below w4.heap.size w4 wr) (fun i _ => l.length - (intOf i).toNat)
  case atStart => exact ⟨0, Nat.zero_le _, rfl, HW.out⟩
  case round =>
    clear HW
    obtain ⟨k, hk, rfl, hb⟩ := hrel
    have HW := Lib.hid hb; clear hb
    by_cases hlt : k < l.length
    · obtain ⟨b2, o2, rfl, d0⟩ := HI2.out.get k hlt
      obtain ⟨r1, r2⟩ := HSh.out.in_ l[k] (List.getElem_mem _)
      by_cases hk0 : k = 0
      · have hk1 : decide ((0 : Int) < (k : Int)) = false := by simp [hk0]
        have hk2 : decide (0 < k) = false := by simp [hk0]
        have HK := Lib.hid hk0; clear hk0
        generalize l[k] = X at *
        have b1 : decide (X < 0) = false := by simp; omega
        have b2 : decide ((c.length : Int) ≤ X) = false := by simp; omega
        go_wp2
        have g0 := cell_regrown (keepC d0 HW.out)
        refine wp_quietB (by kernel_rfl) (by kernel_rfl) ?_
        (repeat (go_big_quiet_step (fail)))
        refine wpQuiet_nil ?_
        intro wq hq
        replace HW := Lib.hid (HW.out.trans (hq.mono HW.out.size)); clear hq g0
        go_wp2
        go_roundw
        case rel => exact ⟨k + 1, by omega, by go_num, HW.out⟩
        case measure => simp [intOf]; omega
      · obtain ⟨m, rfl⟩ : ∃ m, k = m + 1 := ⟨k - 1, by omega⟩
        obtain ⟨_, _, e2, d1⟩ := HI2.out.get m (by omega)
        cases e2
        have hasc := asc_get HSh.out.asc (show m < m + 1 by omega) hlt
        generalize l[m + 1] = X at *
        generalize l[m] = Y at *
        have b1 : decide (X < 0) = false := by simp; omega
        have b2 : decide ((c.length : Int) ≤ X) = false := by simp; omega
        have b3 : decide (X ≤ Y) = false := by simp; omega
        go_wp2
        have g0 := cell_regrown (keepC d0 HW.out); have g1 := cell_regrown (keepC d1 HW.out)
        refine wp_quietB (by kernel_rfl) (by kernel_rfl) ?_
        (repeat (go_big_quiet_step (fail)))
        refine wpQuiet_nil ?_
        intro wq hq
        replace HW := Lib.hid (HW.out.trans (hq.mono HW.out.size)); clear hq g0 g1
        go_wp2
        go_roundw
        case rel => exact ⟨m + 1 + 1, by omega, by go_num, HW.out⟩
        case measure => simp [intOf]; omega
    · replace HB := Lib.hid (HB.out.trans (HW.out.mono HB.out.size))
      replace HI2 := Lib.hid (HI2.out.below HW.out)
      obtain ⟨k2, hk2, hky⟩ : ∃ k : Nat, k < l.length ∧ (y : Int) % (l.length : Int) = (k : Int) := ⟨y % l.length, Nat.mod_lt _ s1, by simp⟩
      have HKY := Lib.hid hky; clear hky
      go_wp2_with (fail)
      rw [HKY.out]
      refine (RWithout_any a2 cap2 l k2 _ (by omega) hk2 HS2.out HI2.out).mono ?_
      rintro e w5 ⟨a5, cap5, rfl, hs5, hi5, hb⟩
      rw [List.length_map] at hs5 ⊢
      have HI5 := Lib.hid (show InAt w5 a5 (l.eraseIdx k2) from hi5)
      replace HI2 := Lib.hid (HI2.out.below hb)
      replace HB := Lib.hid (HB.out.trans (hb.mono HB.out.size)); clear hb
      clear hs5 hi5
      have hel : (l.eraseIdx k2).length ≤ 200 := by have := List.length_eraseIdx_le l k2; omega
      have hein : ∀ r ∈ l.eraseIdx k2, 0 ≤ r ∧ r < c.length := fun r hr => HSh.out.in_ r (List.mem_of_mem_eraseIdx hr)
      go_wp2_with (fail)
      refine (RSome_any a a5 cap cap5 c (l.eraseIdx k2) _ (by omega) hel (HM.out.below HB.out) HI5.out hein).mono ?_
      rintro e w6 ⟨a6, cap6, rfl, hs6, hm6, hb⟩
      have hfp := form_pick HE.out hein hel
      replace HI2 := Lib.hid (HI2.out.below hb)
      replace HB := Lib.hid (HB.out.trans (hb.mono HB.out.size)); clear hb
      go_wp2_with (fail)
      refine (Best_any a6 cap6 (pick c (l.eraseIdx k2)) _ (by rw [pick_len]; omega) hm6 hs6).mono ?_
      rintro e w7 ⟨bl2, total2, ok2, err2, a7, cap7, rfl, hsay2, _, _, hb⟩
      obtain rfl : ok2 = true := best_ok hsay2 hfp (HSh.out.others k2 hk2)
      obtain rfl : err2 = 0 := (best_err hsay2).trans hfp
      replace HI2 := Lib.hid (HI2.out.below hb)
      replace HB := Lib.hid (HB.out.trans (hb.mono HB.out.size)); clear hb
      clear hsay2 hs6 hm6 hfp hein
      go_wp2_with (fail)
      refine (RGet_any a a2 cap cap2 c l _ HE.out (by omega) (HM.out.below HB.out) HI2.out HSh.out.in_).mono ?_
      rintro e w8 ⟨rfl, hb⟩
      replace HB := Lib.hid (HB.out.trans (hb.mono HB.out.size)); clear hb
      have hget : getN c l (wideL c) < l.length := HSh.out.few
      go_wp2; go_ret; exact ⟨rfl, HB.out⟩
end Go.Proofs.Ytkpgphadgomifaa
