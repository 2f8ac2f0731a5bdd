/- The law MatchFewer, walked. -/
import Derived.Test.YtkpgphadgomifaaMatchLaw3
namespace Go.Proofs.Ytkpgphadgomifaa
set_option linter.unusedSimpArgs false
set_option linter.unusedVariables false
open Go.RowKit Go.Sort Go.Shelf

/-- n is the least cost of row k among the first m columns, or -1. -/
def LeastTo (c : List (List Int)) (k m : Nat) (n : Int) : Prop := (n = -1 ∧ ∀ i, i < m → cc c k i < 0) ∨ (0 ≤ n ∧ n ≤ 1000000 ∧ ∀ i, i < m → 0 ≤ cc c k i → n ≤ cc c k i)
theorem LeastTo.keep {c : List (List Int)} {k m : Nat} {n : Int} (h : LeastTo c k m n) (h1 : cc c k m < 0 ∨ (0 ≤ n ∧ n ≤ cc c k m)) : LeastTo c k (m + 1) n := by
  rcases h with ⟨rfl, h⟩ | ⟨h2, h3, h⟩
  · rcases h1 with h1 | h1
    · exact .inl ⟨rfl, fun i hi => by
        by_cases e : i = m
        · subst e; exact h1
        · exact h i (by omega)⟩
    · omega
  · exact .inr ⟨h2, h3, fun i hi h0 => by
      by_cases e : i = m
      · subst e; rcases h1 with h1 | h1 <;> omega
      · exact h i (by omega) h0⟩
theorem LeastTo.take {c : List (List Int)} {k m : Nat} {n : Int} (h : LeastTo c k m n) (h1 : 0 ≤ cc c k m) (h4 : cc c k m ≤ 1000000) (h2 : n < 0 ∨ cc c k m < n) : LeastTo c k (m + 1) (cc c k m) :=
  .inr ⟨h1, h4, fun i hi h0 => by
    by_cases e : i = m
    · subst e; exact Int.le_refl _
    · rcases h with ⟨_, h⟩ | ⟨h5, _, h⟩
      · have := h i (by omega); omega
      · have := h i (by omega) h0; omega⟩
set_option maxRecDepth 100000 in
set_option maxHeartbeats 8000000 in
theorem fewer_law (a : Option Addr) (cap : Nat) (c : List (List Int)) (x : Int) (w : World) (hl : c.length ≤ 9223372036854775807) (hx0 : 0 ≤ x) (hx1 : x ≤ 255) (hm : MatAt w a c) (hs : SlOk a c.length cap) :
    Calls Try.prog 8 #[.slice a c.length cap, .int .u8 x] w fun e w' => e = .returned (.bool true) ∧ Below w.heap.size w w' := by
  obtain ⟨y, rfl⟩ : ∃ y : Nat, x = y := ⟨x.toNat, by omega⟩
  have HM := Lib.hid hm; have HS := Lib.hid hs
  clear hm hs hx0
  go_enter Try.func8, Try.ntmps8
  go_wp2_with (fail); refine (head_any w).mono ?_; rintro e w1 ⟨rfl, hb⟩; have HB := Lib.hid hb; clear hb
  go_wp2_with (fail)
  refine (RFew_any _ _ c _ hl (HM.out.below HB.out)).mono ?_
  rintro e w2 ⟨rfl, hb⟩
  replace HB := Lib.hid (HB.out.trans (hb.mono HB.out.size)); clear hb
  cases hf : fewB c
  · go_wp2; go_ret; exact ⟨rfl, HB.out⟩
  obtain ⟨f7, f8⟩ := few_iff.1 hf
  clear f8 hf
  go_wp2_with (fail)
  refine (RForm_any _ _ c _ (by omega) (HM.out.below HB.out)).mono ?_
  rintro e w2 ⟨rfl, hb⟩
  replace HB := Lib.hid (HB.out.trans (hb.mono HB.out.size)); clear hb
  by_cases he : formE c = 0
  case neg =>
    have hne : (formE c != 0) = true := by simpa using he
    go_wp2; go_ret; exact ⟨rfl, HB.out⟩
  have HE := Lib.hid he; clear he
  rw [HE.out]
  by_cases hc0 : c.length = 0
  · have hcb : ((c.length : Int) == 0) = true := by simp [hc0]
    have HC := Lib.hid hc0; clear hc0
    go_wp2; go_ret; exact ⟨rfl, HB.out⟩
  have hcb : ((c.length : Int) == 0) = false := by simp; intro e; simp [e] at hc0
  have hpos : 0 < c.length := by omega
  clear hc0
  go_wp2_with (fail)
  refine (Best_any _ _ c _ (by omega) (HM.out.below HB.out) HS.out).mono ?_
  rintro e w3 ⟨bl, total, ok, err, ab, cb, rfl, hsay, hs1, hi1, hb⟩
  obtain rfl : err = 0 := (best_err hsay).trans HE.out
  have HSay := Lib.hid hsay
  replace HB := Lib.hid (HB.out.trans (hb.mono HB.out.size)); clear hb
  clear hs1 hi1 hsay
  cases hok : ok
  · go_wp2; go_ret; exact ⟨rfl, HB.out⟩
  obtain ⟨u, v, _, bh, _, _, htot⟩ := best_has HSay.out hok
  have HH := Lib.hid bh; have HT := Lib.hid htot
  clear bh htot HSay
  obtain ⟨k, hkc, hky⟩ : ∃ k : Nat, k < c.length ∧ (k : Int) = (y : Int) % (c.length : Int) := ⟨y % c.length, Nat.mod_lt _ hpos, by simp⟩
  have HKY := Lib.hid hky; clear hky
  have HB4 := Lib.hid (Below.refl w3.heap.size w3)
  go_wp2
  rw [← HKY.out]
  go_loopw [12, 13] (fun s12 s13 wr => ∃ m : Nat, m ≤ c.length ∧ s13 = .int .i64 m ∧ OwnR wr w3.heap.size 3 1 s12 ((rowsBut k m).map inRow) ∧ Below w3.heap.size w3 wr) (fun _ i _ => c.length - (intOf i).toNat)
  case atStart => exact ⟨0, Nat.zero_le _, rfl, by rw [rowsBut_zero]; exact OwnR.nil _ _ _ _, HB4.out⟩
  case round =>
    clear HB4
    obtain ⟨m, hm, rfl, ho, hb⟩ := hrel
    have HO := Lib.hid ho; have HW := Lib.hid hb
    clear ho hb
    by_cases hlt : m < c.length
    · by_cases hmk : m = k
      · have hb1 : ((m : Int) != (k : Int)) = false := by simp [hmk]
        have HMK := Lib.hid hmk; clear hmk
        go_wp2
        go_roundw
        case rel => exact ⟨m + 1, by omega, by go_num, by rw [HMK.out, rowsBut_same, ← HMK.out]; exact (by have := HO.out; rw [HMK.out] at this ⊢; exact this), HW.out⟩
        case measure => simp [intOf]; omega
      · have hb1 : ((m : Int) != (k : Int)) = true := by simp; omega
        have hlen : (rowsBut k m).length ≤ 200 := by simp [rowsBut, upTo]; split <;> omega
        have HMK := Lib.hid hmk; clear hmk
        go_wp2_with (at_builtin; go_must (refine appE eltInt rfl (.tmp 67) (.tmp 69) rfl w3.heap.size _ (rowsBut k m) rfl (HO.out.below ((Below.refl _ _).alloc (Nat.le_refl _) _)) _ _ _ [(m : Int)] rfl rfl (fun e => by cases e) (eltInt.new _ _ _ _ rfl) (by simp; omega) (by have := HW.out.size; simp; omega) ?_); intro v1 w5 ho1 hg1; have HO1 := Lib.hid ho1; have HW1 := Lib.hid (below_grown (HW.out.alloc HW.out.size _) (HO.out.below ((Below.refl _ _).alloc (Nat.le_refl _) _)) (by have := HW.out.size; simp; omega) hg1); clear ho1 hg1)
        refine ⟨⟨m + 1, by omega, by go_num, ?_, HW1.out⟩, by simp [intOf]; omega⟩
        rw [rowsBut_next HMK.out]
        exact HO1.out
    · have hme : m = c.length := by omega
      have HO2 := Lib.hid (show OwnR wr w3.heap.size 3 1 u12 ((rowsBut k c.length).map inRow) by have := HO.out; rw [hme] at this; exact this)
      clear hme
      obtain ⟨a6, c6, e6, s6, i6⟩ := HO2.out.slAt
      rw [List.length_map] at e6 s6
      subst e6
      replace HB := Lib.hid (HB.out.trans (HW.out.mono HB.out.size))
      have HS6 := Lib.hid s6; have HI6 := Lib.hid (show InAt wr a6 (rowsBut k c.length) from i6)
      clear s6 i6 HO HO2 HW
      obtain ⟨b, off, ai, ci, rfl, c0, hsk, hik⟩ := HM.out.get k hkc
      obtain ⟨f1, f2, f3, f4⟩ := formE_ok HE.out
      have hlen := f3 c[k] (List.getElem_mem _)
      have HIK := Lib.hid hik
      have HCC := Lib.hid (cc_le f3 f4)
      rw [hlen] at c0
      clear hsk hik f3 f4
      have g0 := keepC c0 HB.out
      have HB5 := Lib.hid (Below.refl wr.heap.size wr)
      obtain ⟨w6, hw6⟩ : ∃ w6 : World, w6 = wr := ⟨_, rfl⟩
      subst hw6
      go_wp2
      go_loopw [11, 76] (fun s11 s76 wr => ∃ (m : Nat) (n : Int), m ≤ wideL c ∧ s76 = .int .i64 m ∧ s11 = .int .i64 n ∧ LeastTo c k m n ∧ Below w6.heap.size w6 wr) (fun _ i _ => wideL c - (intOf i).toNat)
      case atStart => exact ⟨0, -1, Nat.zero_le _, rfl, rfl, .inl ⟨rfl, fun i hi => by omega⟩, HB5.out⟩
      case round =>
        clear HB5 g0
        obtain ⟨m2, n, hm2, rfl, rfl, hlt2, hb⟩ := hrel
        have HLT := Lib.hid hlt2; have HW := Lib.hid hb
        clear hlt2 hb
        by_cases hmw : m2 < wideL c
        · obtain ⟨b3, o3, rfl, e0⟩ := HIK.out.get m2 (by omega)
          rw [← cc_get hkc (by omega)] at e0
          have hN2 := (HCC.out k m2 hkc hmw).2
          have g1 := keepC e0 (HB.out.trans (HW.out.mono HB.out.size))
          have hkeep := Lib.hid (HLT.out.keep)
          have htake := Lib.hid (HLT.out.take)
          generalize hN : cc c k m2 = N at *
          clear hN
          cases h1 : decide (0 ≤ N)
          · go_wp2
            go_roundw
            case rel => exact ⟨m2 + 1, n, by omega, by go_num, rfl, hkeep.out (.inl (by simpa using h1)), HW.out⟩
            case measure => simp [intOf]; omega
          · have h0 : 0 ≤ N := by simpa using h1
            cases h2 : decide (n < 0)
            · cases h3 : decide (N < n)
              · go_wp2
                go_roundw
                case rel => exact ⟨m2 + 1, n, by omega, by go_num, rfl, hkeep.out (.inr ⟨by simpa using h2, by simpa using h3⟩), HW.out⟩
                case measure => simp [intOf]; omega
              · go_wp2
                go_roundw
                case rel => exact ⟨m2 + 1, N, by omega, by go_num, rfl, htake.out h0 hN2 (.inr (by simpa using h3)), HW.out⟩
                case measure => simp [intOf]; omega
            · go_wp2
              go_roundw
              case rel => exact ⟨m2 + 1, N, by omega, by go_num, rfl, htake.out h0 hN2 (.inl (by simpa using h2)), HW.out⟩
              case measure => simp [intOf]; omega
        · have hme : m2 = wideL c := by omega
          have HL2 := Lib.hid (show LeastTo c k (wideL c) n by have := HLT.out; rw [hme] at this; exact this)
          have hmt := HH.out.tight.mt
          have hk1 := hmt.lt k hkc
          have hk2 := (may_iff _ _ _).1 (hmt.can k hkc)
          have hn : 0 ≤ n ∧ n ≤ cc c k (bl.getD k 0) := by
            rcases HL2.out with ⟨_, h⟩ | ⟨h1, _, h⟩
            · have := h _ hk1
              omega
            · exact ⟨h1, h _ hk1 hk2⟩
          have hn6 : n ≤ 1000000 := by
            rcases HL2.out with ⟨h, _⟩ | ⟨_, h, _⟩
            · omega
            · exact h
          obtain ⟨n0, n1⟩ := hn
          have hrl : (rowsBut k c.length).length ≤ 200 := by rw [rowsBut_len hkc]; omega
          have hrin : ∀ r ∈ rowsBut k c.length, 0 ≤ r ∧ r < c.length := fun r hr => by have := rowsBut_in r hr; omega
          have hfp := form_pick HE.out hrin hrl
          have hpm : Mt (may (cc (pick c (rowsBut k c.length)))) (fun i => i < (pick c (rowsBut k c.length)).length) (wideL (pick c (rowsBut k c.length))) (fun i => bl.getD ((rowsBut k c.length).getD i 0).toNat 0) :=
            mt_pick HE.out hrin (rowsBut_nodup _ _) (hmt.sub fun i hi => by have := rowsBut_in _ hi; show i < c.length; omega)
          have hcost := fewer_cost (c := c) (f := fun i => bl.getD i 0) hkc
          have HPM := Lib.hid hpm; have HCost := Lib.hid hcost; have HFP := Lib.hid hfp; have HRin := Lib.hid hrin
          clear hmt hk1 hk2 hpm hcost hfp hrin hme
          replace HB := Lib.hid (HB.out.trans (HW.out.mono HB.out.size))
          replace HI6 := Lib.hid (HI6.out.below HW.out)
          go_wp2_with (fail)
          refine (RSome_any _ a6 cap c6 c (rowsBut k c.length) _ (by omega) hrl (HM.out.below HB.out) HI6.out HRin.out).mono ?_
          rintro e w7 ⟨a7, c7, rfl, hs7, hm7, hb⟩
          replace HB := Lib.hid (HB.out.trans (hb.mono HB.out.size)); clear hb
          go_wp2_with (fail)
          refine (Best_any a7 c7 (pick c (rowsBut k c.length)) _ (by rw [pick_len]; omega) hm7 hs7).mono ?_
          rintro e w8 ⟨bl2, total2, ok2, err2, a8, c8, rfl, hsay2, _, _, hb⟩
          obtain rfl : ok2 = true := best_ok hsay2 HFP.out ⟨_, HPM.out⟩
          obtain rfl : err2 = 0 := (best_err hsay2).trans HFP.out
          obtain ⟨u2, v2, _, bh2, _, _, htot2⟩ := best_has hsay2 rfl
          have hle := bh2.least HPM.out
          rw [HCost.out, ← totL_cost HH.out.len, ← htot2, ← HT.out] at hle
          replace HB := Lib.hid (HB.out.trans (hb.mono HB.out.size)); clear hb
          have htb : 0 ≤ total ∧ total ≤ 1000000000 := by
            have hi := HH.out.isMt
            have hb3 := costTo_bounds HE.out (Nat.le_refl _) (l := natsI bl) ⟨hi.in_, hi.can, hi.dif⟩
            have hc3 : costOf (cc c) c.length (nz (natsI bl)) = totL c bl := HH.out.cost
            rw [hc3, ← HT.out] at hb3
            omega
          obtain ⟨t1, t2⟩ := htb
          have hle2 : total2 ≤ total - n := by omega
          clear hsay2 hs7 hm7 bh2 htot2 hle
          go_wp2
          go_ret
          exact ⟨rfl, HB.out⟩
end Go.Proofs.Ytkpgphadgomifaa
