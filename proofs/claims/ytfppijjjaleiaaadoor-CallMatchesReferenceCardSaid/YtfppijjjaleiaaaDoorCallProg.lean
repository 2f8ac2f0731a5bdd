
/- Contracts of call.within, call.isName, call.Valid. -/
import Derived.Test.YtfppijjjaleiaaaDoorCallEnv
import Derived.Test.YtfppijjjaleiaaaDoorCallRat
namespace Go.Proofs.YtfppijjjaleiaaaDoor
set_option linter.unusedSimpArgs false
set_option linter.unusedVariables false
open Go.RowKit Go.Sort

theorem cwithin_any (n lo hi : Int) (w : World) : Calls Tryd.prog 20 #[.int .i64 n, .int .i64 lo, .int .i64 hi] w fun e w' => e = .returned (.bool (inB n lo hi)) ∧ w = w' := by
  go_enter Tryd.func20, Tryd.ntmps20
  go_wp2
  all_goals (go_ret; exact ⟨by simp [inB, *] <;> omega, rfl⟩)
theorem other_any (r : Nat) (w : World) : Calls Tryd.prog 34 #[.int .i32 (r : Int)] w fun e w' => e = .returned (.bool (otherR r)) ∧ w = w' := by
  rw [← other_nat]
  generalize (r : Int) = c
  go_enter Tryd.func34, Tryd.ntmps34
  go_wp2
  all_goals (go_ret; exact ⟨ret_bool (by rw [Eq.comm, Bool.eq_iff_iff]; simp only [otherI, Bool.and_eq_true, Bool.or_eq_true, decide_eq_true_eq, Bool.false_eq_true, iff_false, iff_true, true_iff, false_iff]; try omega), rfl⟩)
theorem idxname_any (s : ByteArray) (w : World) : Calls Tryd.prog 35 #[.string s, .func (.func 34) #[] #[]] w fun e w' => e = .returned (.int .i64 (Lib.idxFunc otherR true s)) ∧ Below w.heap.size w w' :=
  Any.strings_IndexFunc_grows Lay.g15 34 #[] (enters_of Tryd.func34 (by kernel_rfl) rfl) otherR s w (fun W x _ _ => (other_any x W).mono fun e w' h => ⟨h.1, h.2 ▸ Below.refl _ _⟩)
theorem cname_any (s : ByteArray) (w : World) : Calls Tryd.prog 21 #[.string s] w fun e w' => e = .returned (.bool (nameB (bsS s))) ∧ Below w.heap.size w w' := by
  have HI := Lib.hid (fun W => idxname_any s W)
  have HA := Lib.hid (idx_all s)
  have hl : (bsS s).length = s.size := rfl
  by_cases h0 : s.size = 0
  · have he : s.toList.isEmpty = true := by
      rw [Go.ByteArray.toList_eq, List.isEmpty_iff, ← List.length_eq_zero_iff]; exact h0
    have HN := Lib.hid (show nameB (bsS s) = false by
      have : bsS s = [] := List.length_eq_zero_iff.1 (hl.trans h0)
      rw [this]; rfl)
    clear hl
    go_enter Tryd.func21, Tryd.ntmps21
    go_wp2
    go_ret
    exact ⟨ret_bool HN.out.symm, Below.refl _ _⟩
  · have he : s.toList.isEmpty = false := by
      rw [Go.ByteArray.toList_eq, ← Bool.not_eq_true, List.isEmpty_iff, ← List.length_eq_zero_iff]; exact h0
    by_cases h12 : (s.size : Int) ≤ 12
    · by_cases hi : Lib.idxFunc otherR true s < 0
      · have hs0 : 0 < s.size := by omega
        have HN := Lib.hid (show nameB (bsS s) = decide ((65 : Int) ≤ ((s[0]'hs0).toNat : Int)) by
          have h1 := HA.out
          rw [decide_eq_true hi] at h1
          have e : bsS s = s[0] :: (bsS s).tail := by
            have := Lib.data_getElem? s 0 hs0
            cases hh : bsS s with
            | nil => rw [hh] at hl; simp at hl; omega
            | cons x r =>
              have h3 : s.data.toList = x :: r := hh
              rw [h3] at this
              cases this
              rfl
          unfold nameB
          rw [show ((bsS s).all fun c => upB c || digB c) = true from h1.symm, hl, decide_eq_true (show s.size ≤ 12 by omega), e, headB]
          rw [Bool.and_true, Bool.and_true]
          exact decide_eq_decide.2 (by omega))
        clear hl
        go_enter Tryd.func21, Tryd.ntmps21
        go_wp2_with (go_at_call 35; refine (HI.out _).mono ?_; rintro e w' ⟨rfl, hb⟩; have HB := Lib.hid hb; clear hb)
        go_ret
        exact ⟨ret_bool HN.out.symm, HB.out⟩
      · have HN := Lib.hid (show nameB (bsS s) = false by
          have h1 := HA.out
          rw [decide_eq_false hi] at h1
          unfold nameB
          rw [show ((bsS s).all fun c => upB c || digB c) = false from h1.symm, Bool.and_false])
        clear hl
        go_enter Tryd.func21, Tryd.ntmps21
        go_wp2_with (go_at_call 35; refine (HI.out _).mono ?_; rintro e w' ⟨rfl, hb⟩; have HB := Lib.hid hb; clear hb)
        go_ret
        exact ⟨ret_bool HN.out.symm, HB.out⟩
    · have HN := Lib.hid (show nameB (bsS s) = false by
        unfold nameB
        rw [hl, decide_eq_false (show ¬ s.size ≤ 12 by omega), Bool.and_false, Bool.false_and])
      clear hl
      go_enter Tryd.func21, Tryd.ntmps21
      go_wp2
      go_ret
      exact ⟨ret_bool HN.out.symm, Below.refl _ _⟩
abbrev clV (c : Cl) : Value := .agg #[.string (mkS c.letter), .int .i64 c.number, .int .i64 c.bars, .int .i64 c.n, .int .i64 c.d, .int .i64 c.pass]
theorem mk_empty (l : Bs) : (mkS l).toList.isEmpty = decide (l = []) := by
  rw [Go.ByteArray.toList_eq]
  show l.isEmpty = _
  rw [Bool.eq_iff_iff]
  simp
set_option maxHeartbeats 4000000 in
theorem cvalid_any (c : Cl) (w : World) : Calls Tryd.prog 12 #[.agg #[.string (mkS c.letter), .int .i64 c.number, .int .i64 c.bars, .int .i64 c.n, .int .i64 c.d, .int .i64 c.pass]] w fun e w' => e = .returned (.bool (validC c)) ∧ Below w.heap.size w w' := by
  obtain ⟨lt, nu, ba, n, d, pa⟩ := c
  dsimp only
  have HFIN := Lib.hid (show validC ⟨lt, nu, ba, n, d, pa⟩ = (placeB ⟨lt, nu, ba, n, d, pa⟩ && beatB ⟨lt, nu, ba, n, d, pa⟩ && inB ba (-1000) 1000 && inB pa 0 20000) from rfl)
  have HP := Lib.hid (show placeB ⟨lt, nu, ba, n, d, pa⟩ = (decide (lt = []) && inB nu 0 100000 || nameB lt && decide (nu = 0)) from rfl)
  have HBt := Lib.hid (show beatB ⟨lt, nu, ba, n, d, pa⟩ = (ratB n d && decide (0 ≤ n) && decide (1680 % d = 0) && decide (n < 24 * d)) from rfl)
  generalize validC ⟨lt, nu, ba, n, d, pa⟩ = VV at *
  generalize placeB ⟨lt, nu, ba, n, d, pa⟩ = PP at *
  generalize beatB ⟨lt, nu, ba, n, d, pa⟩ = BB at *
  go_enter Tryd.func12, Tryd.ntmps12
  go_upto_region 1 with (fail)
  have HX := Lib.hid (heap_alloc_new w (.cells #[.string (mkS lt), .int .i64 nu, .int .i64 ba, .int .i64 n, .int .i64 d, .int .i64 pa] 25))
  have HB0 := Lib.hid ((Below.refl w.heap.size w).alloc (Nat.le_refl _) (.cells #[.string (mkS lt), .int .i64 nu, .int .i64 ba, .int .i64 n, .int .i64 d, .int .i64 pa] 25))
  generalize w.alloc (.cells #[.string (mkS lt), .int .i64 nu, .int .i64 ba, .int .i64 n, .int .i64 d, .int .i64 pa] 25) = W at *
  go_cut [3] from 5 (fun s3 V => s3 = .bool PP ∧ Below W.heap.size W V)
  case first =>
    (have hc := box_cells HX.out; have hz := lt_blk HX.out; have HB := Lib.hid (Below.refl W.heap.size W))
    by_cases hl : lt = []
    · have he : (mkS lt).toList.isEmpty = true := by rw [mk_empty]; simpa using hl
      have HQ := Lib.hid (show PP = inB nu 0 100000 by rw [HP.out, hl]; simp [nameB, headB])
      have hnn : nameB lt = false := by rw [hl]; rfl
      clear hl
      cases hw : inB nu 0 100000
      · rw [hw] at HQ
        go_wp2_with (first | (go_at_call 20; refine (cwithin_any _ _ _ _).mono ?_; rintro e w' ⟨rfl, rfl⟩) | (go_at_call 21; refine (cname_any _ _).mono ?_; rw [bs_mk]; rintro e w' ⟨rfl, hb⟩; have hc' := fun j => (hb.cell (p := ⟨w.heap.size, j, none⟩) hz).trans (hc j); replace HB := Lib.hid (HB.out.trans (hb.mono HB.out.size)); have hz' := Nat.lt_of_lt_of_le hz hb.size; clear hc hz hb; have hc := hc'; have hz := hz'; clear hc' hz') | (go_at_call 22; refine (RatValid_any _ _ _).mono ?_; rintro e w' ⟨rfl, hb⟩; have hc' := fun j => (hb.cell (p := ⟨w.heap.size, j, none⟩) hz).trans (hc j); replace HB := Lib.hid (HB.out.trans (hb.mono HB.out.size)); have hz' := Nat.lt_of_lt_of_le hz hb.size; clear hc hz hb; have hc := hc'; have hz := hz'; clear hc' hz'); (try rw [hnn]); (try rw [hw]))
        go_meet
        case rel => exact ⟨by rw [HQ.out], HB.out⟩
      · rw [hw] at HQ
        go_wp2_with (first | (go_at_call 20; refine (cwithin_any _ _ _ _).mono ?_; rintro e w' ⟨rfl, rfl⟩) | (go_at_call 21; refine (cname_any _ _).mono ?_; rw [bs_mk]; rintro e w' ⟨rfl, hb⟩; have hc' := fun j => (hb.cell (p := ⟨w.heap.size, j, none⟩) hz).trans (hc j); replace HB := Lib.hid (HB.out.trans (hb.mono HB.out.size)); have hz' := Nat.lt_of_lt_of_le hz hb.size; clear hc hz hb; have hc := hc'; have hz := hz'; clear hc' hz') | (go_at_call 22; refine (RatValid_any _ _ _).mono ?_; rintro e w' ⟨rfl, hb⟩; have hc' := fun j => (hb.cell (p := ⟨w.heap.size, j, none⟩) hz).trans (hc j); replace HB := Lib.hid (HB.out.trans (hb.mono HB.out.size)); have hz' := Nat.lt_of_lt_of_le hz hb.size; clear hc hz hb; have hc := hc'; have hz := hz'; clear hc' hz'); (try rw [hnn]); (try rw [hw]))
        go_meet
        case rel => exact ⟨by rw [HQ.out], HB.out⟩
    · have he : (mkS lt).toList.isEmpty = false := by rw [mk_empty]; simpa using hl
      have HQ := Lib.hid (show PP = (nameB lt && decide (nu = 0)) by rw [HP.out]; simp [hl])
      clear hl
      cases hw : nameB lt
      · rw [hw] at HQ
        go_wp2_with (first | (go_at_call 20; refine (cwithin_any _ _ _ _).mono ?_; rintro e w' ⟨rfl, rfl⟩) | (go_at_call 21; refine (cname_any _ _).mono ?_; rw [bs_mk]; rintro e w' ⟨rfl, hb⟩; have hc' := fun j => (hb.cell (p := ⟨w.heap.size, j, none⟩) hz).trans (hc j); replace HB := Lib.hid (HB.out.trans (hb.mono HB.out.size)); have hz' := Nat.lt_of_lt_of_le hz hb.size; clear hc hz hb; have hc := hc'; have hz := hz'; clear hc' hz') | (go_at_call 22; refine (RatValid_any _ _ _).mono ?_; rintro e w' ⟨rfl, hb⟩; have hc' := fun j => (hb.cell (p := ⟨w.heap.size, j, none⟩) hz).trans (hc j); replace HB := Lib.hid (HB.out.trans (hb.mono HB.out.size)); have hz' := Nat.lt_of_lt_of_le hz hb.size; clear hc hz hb; have hc := hc'; have hz := hz'; clear hc' hz'); (try rw [hw]))
        go_meet
        case rel => exact ⟨by rw [HQ.out]; rfl, HB.out⟩
      · rw [hw] at HQ
        by_cases hn : nu = 0
        · have hd : (nu == 0) = true := by simpa using hn
          replace HQ := Lib.hid (show PP = true by rw [HQ.out]; simp [hn])
          clear hn
          go_wp2_with (first | (go_at_call 20; refine (cwithin_any _ _ _ _).mono ?_; rintro e w' ⟨rfl, rfl⟩) | (go_at_call 21; refine (cname_any _ _).mono ?_; rw [bs_mk]; rintro e w' ⟨rfl, hb⟩; have hc' := fun j => (hb.cell (p := ⟨w.heap.size, j, none⟩) hz).trans (hc j); replace HB := Lib.hid (HB.out.trans (hb.mono HB.out.size)); have hz' := Nat.lt_of_lt_of_le hz hb.size; clear hc hz hb; have hc := hc'; have hz := hz'; clear hc' hz') | (go_at_call 22; refine (RatValid_any _ _ _).mono ?_; rintro e w' ⟨rfl, hb⟩; have hc' := fun j => (hb.cell (p := ⟨w.heap.size, j, none⟩) hz).trans (hc j); replace HB := Lib.hid (HB.out.trans (hb.mono HB.out.size)); have hz' := Nat.lt_of_lt_of_le hz hb.size; clear hc hz hb; have hc := hc'; have hz := hz'; clear hc' hz'); (try rw [hw]))
          go_meet
          case rel => exact ⟨by rw [HQ.out], HB.out⟩
        · have hd : (nu == 0) = false := by simpa using hn
          replace HQ := Lib.hid (show PP = false by rw [HQ.out]; simp [hn])
          clear hn
          go_wp2_with (first | (go_at_call 20; refine (cwithin_any _ _ _ _).mono ?_; rintro e w' ⟨rfl, rfl⟩) | (go_at_call 21; refine (cname_any _ _).mono ?_; rw [bs_mk]; rintro e w' ⟨rfl, hb⟩; have hc' := fun j => (hb.cell (p := ⟨w.heap.size, j, none⟩) hz).trans (hc j); replace HB := Lib.hid (HB.out.trans (hb.mono HB.out.size)); have hz' := Nat.lt_of_lt_of_le hz hb.size; clear hc hz hb; have hc := hc'; have hz := hz'; clear hc' hz') | (go_at_call 22; refine (RatValid_any _ _ _).mono ?_; rintro e w' ⟨rfl, hb⟩; have hc' := fun j => (hb.cell (p := ⟨w.heap.size, j, none⟩) hz).trans (hc j); replace HB := Lib.hid (HB.out.trans (hb.mono HB.out.size)); have hz' := Nat.lt_of_lt_of_le hz hb.size; clear hc hz hb; have hc := hc'; have hz := hz'; clear hc' hz'); (try rw [hw]))
          go_meet
          case rel => exact ⟨by rw [HQ.out], HB.out⟩
  case rest =>
  obtain ⟨rfl, hb⟩ := hcut
  replace HX := Lib.hid (blk_keep HX.out hb)
  replace HB0 := Lib.hid (HB0.out.trans (hb.mono HB0.out.size))
  clear hb
  generalize (wc : World) = W2 at *
  go_upto_region 2 with (fail)
  go_cut [4] from 23 (fun s4 V => s4 = .bool BB ∧ Below W2.heap.size W2 V)
  case first =>
    have hc := box_cells HX.out; have hz := lt_blk HX.out; have HB := Lib.hid (Below.refl W2.heap.size W2)
    cases hr : ratB n d
    · have HQ := Lib.hid (show BB = false by rw [HBt.out, hr]; rfl)
      go_wp2_with (first | (go_at_call 20; refine (cwithin_any _ _ _ _).mono ?_; rintro e w' ⟨rfl, rfl⟩) | (go_at_call 21; refine (cname_any _ _).mono ?_; rw [bs_mk]; rintro e w' ⟨rfl, hb⟩; have hc' := fun j => (hb.cell (p := ⟨w.heap.size, j, none⟩) hz).trans (hc j); replace HB := Lib.hid (HB.out.trans (hb.mono HB.out.size)); have hz' := Nat.lt_of_lt_of_le hz hb.size; clear hc hz hb; have hc := hc'; have hz := hz'; clear hc' hz') | (go_at_call 22; refine (RatValid_any _ _ _).mono ?_; rintro e w' ⟨rfl, hb⟩; have hc' := fun j => (hb.cell (p := ⟨w.heap.size, j, none⟩) hz).trans (hc j); replace HB := Lib.hid (HB.out.trans (hb.mono HB.out.size)); have hz' := Nat.lt_of_lt_of_le hz hb.size; clear hc hz hb; have hc := hc'; have hz := hz'; clear hc' hz'); (try rw [hr]))
      go_meet
      case rel => exact ⟨by rw [HQ.out], HB.out⟩
    · obtain ⟨⟨d1, d2⟩, ⟨n1, n2⟩, _⟩ := (ratB_iff n d).1 hr
      by_cases h0 : 0 ≤ n
      · have hd0 : ¬ d = 0 := by omega
        have htm : (1680 : Int).tmod d = 1680 % d := Int.tmod_eq_emod_of_nonneg (by decide)
        have hw1 : IntKind.i64.wrap (1680 % d) = 1680 % d := IntWalk.i64_in _ (by have := Int.emod_nonneg 1680 hd0; have := Int.emod_lt_of_pos 1680 (show 0 < d by omega); omega)
        have hw2 : IntKind.i64.wrap (24 * d) = 24 * d := IntWalk.i64_in _ (by omega)
        by_cases hm : 1680 % d = 0
        · have hdm : (1680 % d == 0) = true := by simpa using hm
          have HQ := Lib.hid (show BB = decide (n < 24 * d) by rw [HBt.out, hr]; simp [h0, hm])
          clear hm
          generalize 1680 % d = M at *
          go_wp2_with (first | (go_at_call 20; refine (cwithin_any _ _ _ _).mono ?_; rintro e w' ⟨rfl, rfl⟩) | (go_at_call 21; refine (cname_any _ _).mono ?_; rw [bs_mk]; rintro e w' ⟨rfl, hb⟩; have hc' := fun j => (hb.cell (p := ⟨w.heap.size, j, none⟩) hz).trans (hc j); replace HB := Lib.hid (HB.out.trans (hb.mono HB.out.size)); have hz' := Nat.lt_of_lt_of_le hz hb.size; clear hc hz hb; have hc := hc'; have hz := hz'; clear hc' hz') | (go_at_call 22; refine (RatValid_any _ _ _).mono ?_; rintro e w' ⟨rfl, hb⟩; have hc' := fun j => (hb.cell (p := ⟨w.heap.size, j, none⟩) hz).trans (hc j); replace HB := Lib.hid (HB.out.trans (hb.mono HB.out.size)); have hz' := Nat.lt_of_lt_of_le hz hb.size; clear hc hz hb; have hc := hc'; have hz := hz'; clear hc' hz'); (try rw [hr]))
          all_goals
            go_meet
            case rel => exact ⟨by rw [HQ.out], HB.out⟩
        · have hdm : (1680 % d == 0) = false := by simpa using hm
          have HQ := Lib.hid (show BB = false by rw [HBt.out, hr]; simp [h0, hm])
          clear hm
          generalize 1680 % d = M at *
          go_wp2_with (first | (go_at_call 20; refine (cwithin_any _ _ _ _).mono ?_; rintro e w' ⟨rfl, rfl⟩) | (go_at_call 21; refine (cname_any _ _).mono ?_; rw [bs_mk]; rintro e w' ⟨rfl, hb⟩; have hc' := fun j => (hb.cell (p := ⟨w.heap.size, j, none⟩) hz).trans (hc j); replace HB := Lib.hid (HB.out.trans (hb.mono HB.out.size)); have hz' := Nat.lt_of_lt_of_le hz hb.size; clear hc hz hb; have hc := hc'; have hz := hz'; clear hc' hz') | (go_at_call 22; refine (RatValid_any _ _ _).mono ?_; rintro e w' ⟨rfl, hb⟩; have hc' := fun j => (hb.cell (p := ⟨w.heap.size, j, none⟩) hz).trans (hc j); replace HB := Lib.hid (HB.out.trans (hb.mono HB.out.size)); have hz' := Nat.lt_of_lt_of_le hz hb.size; clear hc hz hb; have hc := hc'; have hz := hz'; clear hc' hz'); (try rw [hr]))
          all_goals
            go_meet
            case rel => exact ⟨by rw [HQ.out], HB.out⟩
      · have HQ := Lib.hid (show BB = false by rw [HBt.out, hr]; simp [h0])
        go_wp2_with (first | (go_at_call 20; refine (cwithin_any _ _ _ _).mono ?_; rintro e w' ⟨rfl, rfl⟩) | (go_at_call 21; refine (cname_any _ _).mono ?_; rw [bs_mk]; rintro e w' ⟨rfl, hb⟩; have hc' := fun j => (hb.cell (p := ⟨w.heap.size, j, none⟩) hz).trans (hc j); replace HB := Lib.hid (HB.out.trans (hb.mono HB.out.size)); have hz' := Nat.lt_of_lt_of_le hz hb.size; clear hc hz hb; have hc := hc'; have hz := hz'; clear hc' hz') | (go_at_call 22; refine (RatValid_any _ _ _).mono ?_; rintro e w' ⟨rfl, hb⟩; have hc' := fun j => (hb.cell (p := ⟨w.heap.size, j, none⟩) hz).trans (hc j); replace HB := Lib.hid (HB.out.trans (hb.mono HB.out.size)); have hz' := Nat.lt_of_lt_of_le hz hb.size; clear hc hz hb; have hc := hc'; have hz := hz'; clear hc' hz'); (try rw [hr]))
        go_meet
        case rel => exact ⟨by rw [HQ.out], HB.out⟩
  case rest =>
  obtain ⟨rfl, hb⟩ := hcut
  replace HX := Lib.hid (blk_keep HX.out hb)
  replace HB0 := Lib.hid (HB0.out.trans (hb.mono HB0.out.size))
  clear hb
  generalize (wc : World) = W3 at *
  have hc := box_cells HX.out; have hz := lt_blk HX.out; have HB := Lib.hid (Below.refl W3.heap.size W3)
  cases PP
  · rw [Bool.false_and, Bool.false_and, Bool.false_and] at HFIN
    go_wp2
    go_ret
    exact ⟨ret_bool HFIN.out.symm, HB0.out⟩
  · cases BB
    · rw [Bool.and_false, Bool.false_and, Bool.false_and] at HFIN
      go_wp2
      go_ret
      exact ⟨ret_bool HFIN.out.symm, HB0.out⟩
    · rw [Bool.and_true, Bool.true_and] at HFIN
      cases hb1 : inB ba (-1000) 1000
      · rw [hb1, Bool.false_and] at HFIN
        go_wp2_with (first | (go_at_call 20; refine (cwithin_any _ _ _ _).mono ?_; rintro e w' ⟨rfl, rfl⟩) | (go_at_call 21; refine (cname_any _ _).mono ?_; rw [bs_mk]; rintro e w' ⟨rfl, hb⟩; have hc' := fun j => (hb.cell (p := ⟨w.heap.size, j, none⟩) hz).trans (hc j); replace HB := Lib.hid (HB.out.trans (hb.mono HB.out.size)); have hz' := Nat.lt_of_lt_of_le hz hb.size; clear hc hz hb; have hc := hc'; have hz := hz'; clear hc' hz') | (go_at_call 22; refine (RatValid_any _ _ _).mono ?_; rintro e w' ⟨rfl, hb⟩; have hc' := fun j => (hb.cell (p := ⟨w.heap.size, j, none⟩) hz).trans (hc j); replace HB := Lib.hid (HB.out.trans (hb.mono HB.out.size)); have hz' := Nat.lt_of_lt_of_le hz hb.size; clear hc hz hb; have hc := hc'; have hz := hz'; clear hc' hz'); (try rw [hb1]))
        go_ret
        exact ⟨ret_bool HFIN.out.symm, HB0.out⟩
      · rw [hb1, Bool.true_and] at HFIN
        go_wp2_with (first | (go_at_call 20; refine (cwithin_any _ _ _ _).mono ?_; rintro e w' ⟨rfl, rfl⟩) | (go_at_call 21; refine (cname_any _ _).mono ?_; rw [bs_mk]; rintro e w' ⟨rfl, hb⟩; have hc' := fun j => (hb.cell (p := ⟨w.heap.size, j, none⟩) hz).trans (hc j); replace HB := Lib.hid (HB.out.trans (hb.mono HB.out.size)); have hz' := Nat.lt_of_lt_of_le hz hb.size; clear hc hz hb; have hc := hc'; have hz := hz'; clear hc' hz') | (go_at_call 22; refine (RatValid_any _ _ _).mono ?_; rintro e w' ⟨rfl, hb⟩; have hc' := fun j => (hb.cell (p := ⟨w.heap.size, j, none⟩) hz).trans (hc j); replace HB := Lib.hid (HB.out.trans (hb.mono HB.out.size)); have hz' := Nat.lt_of_lt_of_le hz hb.size; clear hc hz hb; have hc := hc'; have hz := hz'; clear hc' hz'); (try rw [hb1]))
        go_ret
        exact ⟨ret_bool HFIN.out.symm, HB0.out⟩
end Go.Proofs.YtfppijjjaleiaaaDoor
