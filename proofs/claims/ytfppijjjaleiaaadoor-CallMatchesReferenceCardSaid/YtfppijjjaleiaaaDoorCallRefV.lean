
/- The reference's Name, in, Valid; partbookref01's abs, gcd, Valid, Duration. -/
import Derived.Test.YtfppijjjaleiaaaDoorCallProg
namespace Go.Proofs.YtfppijjjaleiaaaDoor
set_option linter.unusedSimpArgs false
set_option linter.unusedVariables false
open Go.RowKit Go.Sort

theorem Rin_any (n lo hi : Int) (w : World) : Calls Tryd.prog 25 #[.int .i64 n, .int .i64 lo, .int .i64 hi] w fun e w' => e = .returned (.bool (inB n lo hi)) ∧ w = w' := by
  go_enter Tryd.func25, Tryd.ntmps25
  go_wp2
  all_goals (go_ret; exact ⟨by simp [inB, *] <;> omega, rfl⟩)
theorem Rabs_any (n : Int) (w : World) (h0 : -1000000000 ≤ n) (h1 : n ≤ 1000000000) : Calls Tryd.prog 54 #[.int .i64 n] w fun e w' => e = .returned (.int .i64 (n.natAbs : Int)) ∧ w = w' := by
  go_enter Tryd.func54, Tryd.ntmps54
  go_wp2
  all_goals (go_ret; exact ⟨ret_int (by omega), rfl⟩)
theorem Rgcd_any (x y : Nat) (w : World) (hx : x ≤ 1000000000) (hy : y ≤ 1000000000) : Calls Tryd.prog 53 #[.int .i64 x, .int .i64 y] w fun e w' => e = .returned (.int .i64 (Nat.gcd x y : Nat)) ∧ w = w' := by
  go_enter Tryd.func53, Tryd.ntmps53
  go_wp2
  go_loopw [0, 1] (fun s0 s1 wr => ∃ a b : Nat, s0 = .int .i64 a ∧ s1 = .int .i64 b ∧ a ≤ 1000000000 ∧ b ≤ 1000000000 ∧ Hid (Nat.gcd a b = Nat.gcd x y) ∧ wr = w) (fun _ s1 _ => (intOf s1).toNat)
  case atStart => exact ⟨x, y, rfl, rfl, hx, hy, Lib.hid rfl, rfl⟩
  case round =>
    obtain ⟨a, b, rfl, rfl, ha, hb, HE, rfl⟩ := hrel
    by_cases h0 : b = 0
    · subst h0
      have HF := Lib.hid (show a = Nat.gcd x y by have := HE.out; rwa [Nat.gcd_zero_right] at this)
      go_wp2
      go_ret
      exact ⟨ret_int (by rw [← HF.out]), rfl⟩
    · have hy0 : ¬ ((b : Int) = 0) := by omega
      have hlt : a % b < b := Nat.mod_lt _ (by omega)
      have e1 : (a : Int).tmod (b : Int) = ((a % b : Nat) : Int) := by rw [Int.tmod_eq_emod_of_nonneg (by omega)]; rfl
      have e2 : IntKind.i64.wrap ((a % b : Nat) : Int) = ((a % b : Nat) : Int) := IntWalk.i64_in _ (by omega)
      have HF := Lib.hid (show Nat.gcd b (a % b) = Nat.gcd x y by rw [← HE.out, Nat.gcd_comm, ← Nat.gcd_rec, Nat.gcd_comm])
      clear HE
      generalize a % b = r at *
      go_wp2
      go_roundw
      case rel => exact ⟨b, r, by go_num, by go_num, hb, by omega, HF, trivial⟩
      case measure => simp [intOf]; omega
set_option maxHeartbeats 1000000 in
theorem R01Valid_any (n d : Int) (w : World) : Calls Tryd.prog 37 #[.agg #[.int .i64 n, .int .i64 d]] w fun e w' => e = .returned (.bool (ratB n d)) ∧ Below w.heap.size w w' := by
  by_cases hv : (1 ≤ d ∧ d ≤ 1000000) ∧ -1000000000 ≤ n ∧ n ≤ 1000000000
  · obtain ⟨⟨h2, h3⟩, h0, h1⟩ := hv
    have hRt := Lib.hid (show ratB n d = decide (Nat.gcd n.natAbs d.natAbs = 1) by simp [ratB, h0, h1, h2, h3])
    obtain ⟨D, rfl⟩ := Int.eq_ofNat_of_zero_le (show 0 ≤ d by omega)
    have hD : (D : Int).natAbs = D := rfl
    have hN : n.natAbs ≤ 1000000000 := by omega
    rw [hD] at hRt
    go_enter Tryd.func37, Tryd.ntmps37
    go_wp2
    have HX1 := Lib.hid (heap_alloc_new w (.cells #[.int .i64 n, .int .i64 D] 23))
    have HB := Lib.hid ((Below.refl w.heap.size w).alloc (Nat.le_refl _) (.cells #[.int .i64 n, .int .i64 D] 23))
    generalize w.alloc (.cells #[.int .i64 n, .int .i64 D] 23) = W at *
    have g1 := cell_regrown (box_cells HX1.out 0); have g2 := cell_regrown (box_cells HX1.out 1)
    refine wp_quietB (by kernel_rfl) (by kernel_rfl) ?_
    repeat (go_big_quiet_step (first | (go_at_call 54; refine Calls.regrown (Rabs_any _ _ (by omega) (by omega))) | (go_at_call 53; refine Calls.regrown (Rgcd_any _ _ _ hN (by omega)))))
    refine wpQuiet_nil ?_
    intro w2 hb2
    go_wp2
    go_ret
    exact ⟨ret_bool (by rw [hRt.out, Bool.eq_iff_iff]; simp <;> omega), HB.out.trans (hb2.mono HB.out.size)⟩
  · go_enter Tryd.func37, Tryd.ntmps37
    go_wp2
    all_goals first | omega | (go_ret; exact ⟨ret_bool (by rw [Eq.comm, ← Bool.not_eq_true, ratB_iff]; intro h; exact hv ⟨h.1, h.2.1⟩), (Below.refl _ _).alloc (Nat.le_refl _) _⟩)
def durB (n d : Int) : Bool := ratB n d && decide (0 ≤ n) && decide (1680 % d = 0)
set_option maxHeartbeats 1000000 in
theorem RDur_any (n d : Int) (w : World) : Calls Tryd.prog 24 #[.agg #[.int .i64 n, .int .i64 d]] w fun e w' => e = .returned (.bool (durB n d)) ∧ Below w.heap.size w w' := by
  have HDD := Lib.hid (show durB n d = (ratB n d && decide (0 ≤ n) && decide (1680 % d = 0)) from rfl)
  generalize durB n d = DD at *
  go_enter Tryd.func24, Tryd.ntmps24
  go_upto_region 1 with (fail)
  have HX := Lib.hid (heap_alloc_new w (.cells #[.int .i64 n, .int .i64 d] 23))
  have HB := Lib.hid ((Below.refl w.heap.size w).alloc (Nat.le_refl _) (.cells #[.int .i64 n, .int .i64 d] 23))
  generalize w.alloc (.cells #[.int .i64 n, .int .i64 d] 23) = W at *
  have hc := box_cells HX.out
  cases hr : ratB n d
  · rw [hr] at HDD
    go_wp2_with (go_at_call 37; refine (R01Valid_any _ _ _).mono ?_; rw [hr]; rintro e w' ⟨rfl, hb⟩; replace HX := Lib.hid (blk_keep HX.out hb); replace HB := Lib.hid (HB.out.trans (hb.mono HB.out.size)); clear hb hc; have hc := box_cells HX.out)
    go_ret
    exact ⟨ret_bool (by rw [HDD.out]; rfl), HB.out⟩
  · obtain ⟨⟨d1, d2⟩, ⟨n1, n2⟩, _⟩ := (ratB_iff n d).1 hr
    rw [hr] at HDD
    have hd0 : ¬ d = 0 := by omega
    have htm : (1680 : Int).tmod d = 1680 % d := Int.tmod_eq_emod_of_nonneg (by decide)
    have hw1 : IntKind.i64.wrap (1680 % d) = 1680 % d := IntWalk.i64_in _ (by have := Int.emod_nonneg 1680 hd0; have := Int.emod_lt_of_pos 1680 (show 0 < d by omega); omega)
    by_cases h0 : 0 ≤ n
    · by_cases hm : 1680 % d = 0
      · have hdm : (1680 % d == 0) = true := by simpa using hm
        replace HDD := Lib.hid (show DD = true by rw [HDD.out]; simp [h0, hm])
        clear hm
        generalize 1680 % d = M at *
        go_wp2_with (go_at_call 37; refine (R01Valid_any _ _ _).mono ?_; rw [hr]; rintro e w' ⟨rfl, hb⟩; replace HX := Lib.hid (blk_keep HX.out hb); replace HB := Lib.hid (HB.out.trans (hb.mono HB.out.size)); clear hb hc; have hc := box_cells HX.out)
        go_ret
        exact ⟨ret_bool HDD.out.symm, HB.out⟩
      · have hdm : (1680 % d == 0) = false := by simpa using hm
        replace HDD := Lib.hid (show DD = false by rw [HDD.out]; simp [h0, hm])
        clear hm
        generalize 1680 % d = M at *
        go_wp2_with (go_at_call 37; refine (R01Valid_any _ _ _).mono ?_; rw [hr]; rintro e w' ⟨rfl, hb⟩; replace HX := Lib.hid (blk_keep HX.out hb); replace HB := Lib.hid (HB.out.trans (hb.mono HB.out.size)); clear hb hc; have hc := box_cells HX.out)
        go_ret
        exact ⟨ret_bool HDD.out.symm, HB.out⟩
    · replace HDD := Lib.hid (show DD = false by rw [HDD.out]; simp [h0])
      go_wp2_with (go_at_call 37; refine (R01Valid_any _ _ _).mono ?_; rw [hr]; rintro e w' ⟨rfl, hb⟩; replace HX := Lib.hid (blk_keep HX.out hb); replace HB := Lib.hid (HB.out.trans (hb.mono HB.out.size)); clear hb hc; have hc := box_cells HX.out)
      go_ret
      exact ⟨ret_bool HDD.out.symm, HB.out⟩
theorem name_yes {s : Bs} (h1 : 1 ≤ s.length) (h2 : s.length ≤ 12) (h : ∀ j (hj : j < s.length), upB s[j] = true ∨ digB s[j] = true ∧ 0 < j) : nameB s = true := by
  rw [nameB_iff]
  refine ⟨?_, h2, fun c hc => ?_⟩
  · cases s with
    | nil => simp at h1
    | cons c r =>
      have := h 0 (by simp)
      simp [upB] at this
      simp [headB]
      omega
  · obtain ⟨j, hj, rfl⟩ := List.getElem_of_mem hc
    rcases h j hj with h | h
    · exact .inl h
    · exact .inr h.1
theorem name_not {s : Bs} (k : Nat) (hk : k < s.length) (h : ¬ (upB s[k] = true ∨ digB s[k] = true ∧ 0 < k)) : nameB s = false := by
  rw [← Bool.not_eq_true, nameB_iff]
  rintro ⟨h1, _, h3⟩
  refine h ?_
  rcases h3 _ (List.getElem_mem hk) with h4 | h4
  · exact .inl h4
  · by_cases h0 : 0 < k
    · exact .inr ⟨h4, h0⟩
    · exfalso
      obtain rfl : k = 0 := by omega
      cases s with
      | nil => simp at hk
      | cons c r =>
        simp [headB] at h1
        simp [digB] at h4
        omega
set_option maxHeartbeats 2000000 in
theorem RName_any (s : Bs) (w : World) : Calls Tryd.prog 23 #[.string (mkS s)] w fun e w' => e = .returned (.bool (nameB s)) ∧ w = w' := by
  have hz : (mkS s).size = s.length := rfl
  by_cases hl : 1 ≤ (s.length : Int) ∧ (s.length : Int) ≤ 12
  · obtain ⟨hl1, hl2⟩ := hl
    go_enter Tryd.func23, Tryd.ntmps23
    go_wp2
    go_loopw [3] (fun s3 wr => ∃ k : Nat, k ≤ s.length ∧ s3 = .int .i64 k ∧ Hid (∀ j (hj : j < s.length), j < k → upB s[j] = true ∨ digB s[j] = true ∧ 0 < j) ∧ wr = w) (fun s3 _ => s.length - (intOf s3).toNat)
    case atStart => exact ⟨0, Nat.zero_le _, rfl, Lib.hid (fun _ _ h => absurd h (Nat.not_lt_zero _)), rfl⟩
    case round =>
      obtain ⟨k, hk, rfl, HA, rfl⟩ := hrel
      by_cases hlt : k < s.length
      · have hsz : k < (mkS s).size := hlt
        have hx : ∀ h, ((mkS s)[k]'h).toNat = (s[k]'hlt).toNat := fun _ => rfl
        have HYes := Lib.hid (show (upB s[k] = true ∨ digB s[k] = true ∧ 0 < k) → ∀ j (hj : j < s.length), j < k + 1 → upB s[j] = true ∨ digB s[j] = true ∧ 0 < j from fun h j hj hjk => by
          by_cases e : j = k
          · subst e; exact h
          · exact HA.out j hj (by omega))
        have HNo := Lib.hid (name_not k hlt)
        simp only [upB, digB, Bool.and_eq_true, decide_eq_true_eq] at HYes HNo
        generalize (s[k]'hlt).toNat = x at *
        rcases (show x < 48 ∨ (48 ≤ x ∧ x ≤ 57) ∨ (57 < x ∧ x < 65) ∨ (65 ≤ x ∧ x ≤ 90) ∨ 90 < x by omega) with h | h | h | h | h
        · replace HNo := Lib.hid (HNo.out (by omega))
          go_wp2
          go_ret
          exact ⟨ret_bool HNo.out.symm, rfl⟩
        · by_cases h0 : k = 0
          · replace HNo := Lib.hid (HNo.out (by omega))
            have h0' : ((k : Int) == 0) = true := by simpa using h0
            clear h0
            go_wp2
            go_ret
            exact ⟨ret_bool HNo.out.symm, rfl⟩
          · replace HYes := Lib.hid (HYes.out (by omega))
            have h0' : ((k : Int) == 0) = false := by simpa using h0
            go_wp2
            go_roundw
            case rel => exact ⟨k + 1, by omega, by go_num, Lib.hid (by simpa only [upB, digB, Bool.and_eq_true, decide_eq_true_eq] using HYes.out), trivial⟩
            case measure => simp [intOf]; omega
        · replace HNo := Lib.hid (HNo.out (by omega))
          go_wp2
          go_ret
          exact ⟨ret_bool HNo.out.symm, rfl⟩
        · replace HYes := Lib.hid (HYes.out (by omega))
          go_wp2
          go_roundw
          case rel => exact ⟨k + 1, by omega, by go_num, Lib.hid (by simpa only [upB, digB, Bool.and_eq_true, decide_eq_true_eq] using HYes.out), trivial⟩
          case measure => simp [intOf]; omega
        · replace HNo := Lib.hid (HNo.out (by omega))
          have hb9 : (!decide ((x : Int) ≤ 90)) = true := by rw [decide_eq_false (by omega)]; rfl
          go_wp2
          go_ret
          exact ⟨ret_bool HNo.out.symm, rfl⟩
      · obtain rfl : k = s.length := by omega
        have HF := Lib.hid (name_yes (by omega) (by omega) fun j hj => HA.out j hj hj)
        go_wp2
        go_ret
        exact ⟨ret_bool HF.out.symm, rfl⟩
  · have HF := Lib.hid (show nameB s = false by
      rw [← Bool.not_eq_true, nameB_iff]
      rintro ⟨h1, h2, _⟩
      cases s with
      | nil => cases h1
      | cons c r => simp at hl h2; omega)
    go_enter Tryd.func23, Tryd.ntmps23
    go_wp2
    all_goals first | omega | (go_ret; exact ⟨ret_bool HF.out.symm, rfl⟩)
set_option maxHeartbeats 4000000 in
theorem RValid_any (c : Cl) (w : World) : Calls Tryd.prog 13 #[.agg #[.string (mkS c.letter), .int .i64 c.number, .int .i64 c.bars, .int .i64 c.n, .int .i64 c.d, .int .i64 c.pass]] w fun e w' => e = .returned (.bool (validC c)) ∧ Below w.heap.size w w' := by
  obtain ⟨lt, nu, ba, n, d, pa⟩ := c
  dsimp only
  have HFIN := Lib.hid (show validC ⟨lt, nu, ba, n, d, pa⟩ = ((decide (lt = []) && inB nu 0 100000 || nameB lt && decide (nu = 0)) && (durB n d && decide (n < 24 * d)) && inB ba (-1000) 1000 && inB pa 0 20000) from rfl)
  generalize validC ⟨lt, nu, ba, n, d, pa⟩ = VV at *
  go_enter Tryd.func13, Tryd.ntmps13
  go_upto_region 1 with (fail)
  have HX := Lib.hid (heap_alloc_new w (.cells #[.string (mkS lt), .int .i64 nu, .int .i64 ba, .int .i64 n, .int .i64 d, .int .i64 pa] 25))
  have HB := Lib.hid ((Below.refl w.heap.size w).alloc (Nat.le_refl _) (.cells #[.string (mkS lt), .int .i64 nu, .int .i64 ba, .int .i64 n, .int .i64 d, .int .i64 pa] 25))
  generalize w.alloc (.cells #[.string (mkS lt), .int .i64 nu, .int .i64 ba, .int .i64 n, .int .i64 d, .int .i64 pa] 25) = W at *
  have hc := box_cells HX.out
  go_upto_region 3 with (first | (go_at_call 25; refine (Rin_any _ _ _ _).mono ?_; rintro e w' ⟨rfl, rfl⟩) | (go_at_call 23; refine (RName_any _ _).mono ?_; rintro e w' ⟨rfl, rfl⟩) | (go_at_call 24; refine (RDur_any _ _ _).mono ?_; rintro e w' ⟨rfl, hb⟩; replace HX := Lib.hid (blk_keep HX.out hb); replace HB := Lib.hid (HB.out.trans (hb.mono HB.out.size)); clear hb hc; have hc := box_cells HX.out))
  have hempty : (mkS lt).toList.isEmpty = decide (lt = []) := mk_empty lt
  cases hdu : durB n d
  · replace HFIN := Lib.hid (show VV = false by rw [HFIN.out, hdu]; simp)
    by_cases hl : lt = []
    · have hnn : nameB lt = false := by rw [hl]; rfl
      rw [decide_eq_true hl] at hempty
      clear hl
      rw [hnn]
      go_wp2
      go_ret
      exact ⟨ret_bool HFIN.out.symm, HB.out⟩
    · rw [decide_eq_false hl] at hempty
      clear hl
      generalize nameB lt = NB at *
      cases NB
      · go_wp2
        go_ret
        exact ⟨ret_bool HFIN.out.symm, HB.out⟩
      · by_cases hnu : nu = 0
        · subst hnu
          go_wp2
          go_ret
          exact ⟨ret_bool HFIN.out.symm, HB.out⟩
        · have hq : (nu != 0) = true := by simpa using hnu
          go_wp2
          go_ret
          exact ⟨ret_bool HFIN.out.symm, HB.out⟩
  · have hdd : 1 ≤ d ∧ d ≤ 1000000 := by
      have h := hdu
      simp only [durB, Bool.and_eq_true, decide_eq_true_eq] at h
      exact ((ratB_iff n d).1 h.1.1).1
    have hw2 : IntKind.i64.wrap (24 * d) = 24 * d := IntWalk.i64_in _ (by omega)
    rw [hdu, Bool.true_and] at HFIN
    by_cases hl : lt = []
    · have hnn : nameB lt = false := by rw [hl]; rfl
      rw [decide_eq_true hl] at hempty
      rw [hnn, decide_eq_true hl, Bool.false_and, Bool.or_false, Bool.true_and] at HFIN
      clear hl
      rw [hnn]
      cases hb1 : inB nu 0 100000
      · rw [hb1, Bool.false_and, Bool.false_and, Bool.false_and] at HFIN
        go_wp2_with (first | (go_at_call 25; refine (Rin_any _ _ _ _).mono ?_; rintro e w' ⟨rfl, rfl⟩) | (go_at_call 23; refine (RName_any _ _).mono ?_; rintro e w' ⟨rfl, rfl⟩) | (go_at_call 24; refine (RDur_any _ _ _).mono ?_; rintro e w' ⟨rfl, hb⟩; replace HX := Lib.hid (blk_keep HX.out hb); replace HB := Lib.hid (HB.out.trans (hb.mono HB.out.size)); clear hb hc; have hc := box_cells HX.out); (try rw [hb1]))
        go_ret
        exact ⟨ret_bool HFIN.out.symm, HB.out⟩
      · cases hb2 : inB ba (-1000) 1000
        · rw [hb2, Bool.and_false, Bool.false_and] at HFIN
          go_wp2_with (first | (go_at_call 25; refine (Rin_any _ _ _ _).mono ?_; rintro e w' ⟨rfl, rfl⟩) | (go_at_call 23; refine (RName_any _ _).mono ?_; rintro e w' ⟨rfl, rfl⟩) | (go_at_call 24; refine (RDur_any _ _ _).mono ?_; rintro e w' ⟨rfl, hb⟩; replace HX := Lib.hid (blk_keep HX.out hb); replace HB := Lib.hid (HB.out.trans (hb.mono HB.out.size)); clear hb hc; have hc := box_cells HX.out); (try rw [hb1]); (try rw [hb2]))
          go_ret
          exact ⟨ret_bool HFIN.out.symm, HB.out⟩
        · rw [hb1, hb2, Bool.true_and, Bool.and_true] at HFIN
          by_cases hn : n < 24 * d
          · rw [decide_eq_true hn, Bool.true_and] at HFIN
            go_wp2_with (first | (go_at_call 25; refine (Rin_any _ _ _ _).mono ?_; rintro e w' ⟨rfl, rfl⟩) | (go_at_call 23; refine (RName_any _ _).mono ?_; rintro e w' ⟨rfl, rfl⟩) | (go_at_call 24; refine (RDur_any _ _ _).mono ?_; rintro e w' ⟨rfl, hb⟩; replace HX := Lib.hid (blk_keep HX.out hb); replace HB := Lib.hid (HB.out.trans (hb.mono HB.out.size)); clear hb hc; have hc := box_cells HX.out); (try rw [hb1]); (try rw [hb2]))
            go_ret
            exact ⟨ret_bool HFIN.out.symm, HB.out⟩
          · rw [decide_eq_false hn, Bool.false_and] at HFIN
            go_wp2_with (first | (go_at_call 25; refine (Rin_any _ _ _ _).mono ?_; rintro e w' ⟨rfl, rfl⟩) | (go_at_call 23; refine (RName_any _ _).mono ?_; rintro e w' ⟨rfl, rfl⟩) | (go_at_call 24; refine (RDur_any _ _ _).mono ?_; rintro e w' ⟨rfl, hb⟩; replace HX := Lib.hid (blk_keep HX.out hb); replace HB := Lib.hid (HB.out.trans (hb.mono HB.out.size)); clear hb hc; have hc := box_cells HX.out); (try rw [hb1]); (try rw [hb2]))
            go_ret
            exact ⟨ret_bool HFIN.out.symm, HB.out⟩
    · rw [decide_eq_false hl] at hempty
      rw [decide_eq_false hl, Bool.false_and, Bool.false_or] at HFIN
      clear hl
      generalize nameB lt = NB at *
      cases NB
      · replace HFIN := Lib.hid (show VV = false by rw [HFIN.out]; simp)
        go_wp2
        go_ret
        exact ⟨ret_bool HFIN.out.symm, HB.out⟩
      · by_cases hnu : nu = 0
        · rw [decide_eq_true hnu, Bool.true_and] at HFIN
          have hnb : inB nu 0 100000 = true := by rw [hnu]; decide
          rw [← hnb] at HFIN
          have hq : (nu != 0) = false := by simpa using hnu
          clear hnu
          cases hb1 : inB nu 0 100000
          · exact absurd (hnb.symm.trans hb1) (by decide)
          · cases hb2 : inB ba (-1000) 1000
            · rw [hb2, Bool.and_false, Bool.false_and] at HFIN
              go_wp2_with (first | (go_at_call 25; refine (Rin_any _ _ _ _).mono ?_; rintro e w' ⟨rfl, rfl⟩) | (go_at_call 23; refine (RName_any _ _).mono ?_; rintro e w' ⟨rfl, rfl⟩) | (go_at_call 24; refine (RDur_any _ _ _).mono ?_; rintro e w' ⟨rfl, hb⟩; replace HX := Lib.hid (blk_keep HX.out hb); replace HB := Lib.hid (HB.out.trans (hb.mono HB.out.size)); clear hb hc; have hc := box_cells HX.out); (try rw [hb1]); (try rw [hb2]))
              go_ret
              exact ⟨ret_bool HFIN.out.symm, HB.out⟩
            · rw [hb1, hb2, Bool.true_and, Bool.and_true] at HFIN
              by_cases hn : n < 24 * d
              · rw [decide_eq_true hn, Bool.true_and] at HFIN
                go_wp2_with (first | (go_at_call 25; refine (Rin_any _ _ _ _).mono ?_; rintro e w' ⟨rfl, rfl⟩) | (go_at_call 23; refine (RName_any _ _).mono ?_; rintro e w' ⟨rfl, rfl⟩) | (go_at_call 24; refine (RDur_any _ _ _).mono ?_; rintro e w' ⟨rfl, hb⟩; replace HX := Lib.hid (blk_keep HX.out hb); replace HB := Lib.hid (HB.out.trans (hb.mono HB.out.size)); clear hb hc; have hc := box_cells HX.out); (try rw [hb1]); (try rw [hb2]))
                go_ret
                exact ⟨ret_bool HFIN.out.symm, HB.out⟩
              · rw [decide_eq_false hn, Bool.false_and] at HFIN
                go_wp2_with (first | (go_at_call 25; refine (Rin_any _ _ _ _).mono ?_; rintro e w' ⟨rfl, rfl⟩) | (go_at_call 23; refine (RName_any _ _).mono ?_; rintro e w' ⟨rfl, rfl⟩) | (go_at_call 24; refine (RDur_any _ _ _).mono ?_; rintro e w' ⟨rfl, hb⟩; replace HX := Lib.hid (blk_keep HX.out hb); replace HB := Lib.hid (HB.out.trans (hb.mono HB.out.size)); clear hb hc; have hc := box_cells HX.out); (try rw [hb1]); (try rw [hb2]))
                go_ret
                exact ⟨ret_bool HFIN.out.symm, HB.out⟩
        · have hq : (nu != 0) = true := by simpa using hnu
          replace HFIN := Lib.hid (show VV = false by rw [HFIN.out]; simp [hnu])
          clear hnu
          go_wp2
          go_ret
          exact ⟨ret_bool HFIN.out.symm, HB.out⟩
end Go.Proofs.YtfppijjjaleiaaaDoor
