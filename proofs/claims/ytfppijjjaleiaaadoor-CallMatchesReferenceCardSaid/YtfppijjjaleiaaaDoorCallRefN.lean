
/- The reference's number, beat. -/
import Derived.Test.YtfppijjjaleiaaaDoorCallRefV
import Derived.Test.YtfppijjjaleiaaaDoorCallPure2
namespace Go.Proofs.YtfppijjjaleiaaaDoor
set_option linter.unusedSimpArgs false
set_option linter.unusedVariables false
open Go.RowKit Go.Sort

theorem numR_yes {s : Bs} (h0 : s ≠ []) (h1 : s.length ≤ 6) (h : ∀ j (hj : j < s.length), digB s[j] = true) : numR s = valR 0 s := by
  unfold numR
  rw [if_neg (by rintro (h | h); exact h0 h; omega), if_pos]
  rw [List.all_eq_true]
  intro c hc
  obtain ⟨j, hj, rfl⟩ := List.getElem_of_mem hc
  exact h j hj
theorem numR_not {s : Bs} (k : Nat) (hk : k < s.length) (h : ¬ digB s[k] = true) : numR s = -1 := by
  unfold numR
  split
  · rfl
  · rw [if_neg]
    intro e
    exact h (List.all_eq_true.1 e _ (List.getElem_mem hk))
theorem val_take (s : Bs) (k : Nat) (hk : k < s.length) : valR 0 (s.take (k + 1)) = 10 * valR 0 (s.take k) + ((s[k].toNat : Int) - 48) := by
  rw [List.take_succ_eq_append_getElem hk, valR_snoc]
theorem val_bd (s : Bs) (k : Nat) (hk : k ≤ 6) (h : ∀ j (hj : j < s.length), j < k → digB s[j] = true) : 0 ≤ valR 0 (s.take k) ∧ valR 0 (s.take k) < 1000000 := by
  have hall : (s.take k).all digB = true := by
    rw [List.all_eq_true]
    intro c hc
    obtain ⟨j, hj, rfl⟩ := List.getElem_of_mem hc
    rw [List.getElem_take]
    exact h j (by simp at hj; omega) (by simp at hj; omega)
  obtain ⟨a, b⟩ := valR_bd (s.take k) 0 0 hall (by omega) (by simp)
  refine ⟨a, ?_⟩
  have hl : (s.take k).length ≤ 6 := by rw [List.length_take]; omega
  have h3 : (10 : Nat) ^ (0 + (s.take k).length) ≤ 10 ^ 6 := Nat.pow_le_pow_right (by omega) (by omega)
  have h4 : ((10 ^ (0 + (s.take k).length) : Nat) : Int) ≤ ((10 ^ 6 : Nat) : Int) := Int.ofNat_le.2 h3
  have h5 : (10 : Int) ^ (0 + (s.take k).length) ≤ 10 ^ 6 := by simpa using h4
  omega
set_option maxHeartbeats 2000000 in
theorem Rnum_any (s : Bs) (w : World) : Calls Tryd.prog 46 #[.string (mkS s)] w fun e w' => e = .returned (.int .i64 (numR s)) ∧ w = w' := by
  have hz : (mkS s).size = s.length := rfl
  by_cases hl : 1 ≤ (s.length : Int) ∧ (s.length : Int) ≤ 6
  · obtain ⟨hl1, hl2⟩ := hl
    go_enter Tryd.func46, Tryd.ntmps46
    go_wp2
    go_loopw [3, 4] (fun s3 s4 wr => ∃ (k : Nat) (v : Int), k ≤ s.length ∧ s3 = .int .i64 v ∧ s4 = .int .i64 k ∧ Hid (v = valR 0 (s.take k)) ∧ Hid (∀ j (hj : j < s.length), j < k → digB s[j] = true) ∧ wr = w) (fun _ s4 _ => s.length - (intOf s4).toNat)
    case atStart => exact ⟨0, 0, Nat.zero_le _, rfl, rfl, Lib.hid rfl, Lib.hid (fun _ _ h => absurd h (Nat.not_lt_zero _)), rfl⟩
    case round =>
      obtain ⟨k, v, hk, rfl, rfl, HV, HA, rfl⟩ := hrel
      by_cases hlt : k < s.length
      · have hsz : k < (mkS s).size := hlt
        have hx : ∀ h, ((mkS s)[k]'h).toNat = (s[k]'hlt).toNat := fun _ => rfl
        have hbd := val_bd s k (by omega) HA.out
        rw [← HV.out] at hbd
        obtain ⟨hb0, hb1⟩ := hbd
        have HS := Lib.hid (val_take s k hlt)
        rw [← HV.out] at HS
        have HYes := Lib.hid (show digB s[k] = true → ∀ j (hj : j < s.length), j < k + 1 → digB s[j] = true from fun h j hj hjk => by
          by_cases e : j = k
          · subst e; exact h
          · exact HA.out j hj (by omega))
        have HNo := Lib.hid (numR_not k hlt)
        simp only [digB, Bool.and_eq_true, decide_eq_true_eq] at HYes HNo
        generalize (s[k]'hlt).toNat = x at *
        rcases (show x < 48 ∨ (48 ≤ x ∧ x ≤ 57) ∨ 57 < x by omega) with h | h | h
        · replace HNo := Lib.hid (HNo.out (by omega))
          go_wp2
          go_ret
          exact ⟨ret_int HNo.out.symm, rfl⟩
        · replace HYes := Lib.hid (HYes.out (by omega))
          obtain ⟨h48, h57⟩ := h
          go_wp2
          go_roundw
          case rel => exact ⟨k + 1, _, by omega, rfl, by go_num, Lib.hid HS.out.symm, Lib.hid (by simpa only [digB, Bool.and_eq_true, decide_eq_true_eq] using HYes.out), trivial⟩
          case measure => simp [intOf]; omega
        · replace HNo := Lib.hid (HNo.out (by omega))
          go_wp2
          go_ret
          exact ⟨ret_int HNo.out.symm, rfl⟩
      · obtain rfl : k = s.length := by omega
        have HF := Lib.hid (show numR s = v by rw [HV.out, List.take_length]; exact numR_yes (by rintro rfl; simp at hl1) (by omega) fun j hj => HA.out j hj hj)
        go_wp2
        go_ret
        exact ⟨ret_int HF.out.symm, rfl⟩
  · have HF := Lib.hid (show numR s = -1 by
      unfold numR
      rw [if_pos]
      cases s with
      | nil => exact .inl rfl
      | cons c r => right; simp at hl ⊢; omega)
    go_enter Tryd.func46, Tryd.ntmps46
    go_wp2
    all_goals first | omega | (go_ret; exact ⟨ret_int HF.out.symm, rfl⟩)
theorem beat_hit {s : Bs} (k : Nat) (hk : k < s.length) (h : s[k] = 47) (hs : ∀ j (hj : j < s.length), j < k → s[j] ≠ 47) : beatR s = (numR (s.take k), numR (s.drop (k + 1))) := by
  have e : s = s.take k ++ 47 :: s.drop (k + 1) := by
    conv => lhs; rw [← List.take_append_drop k s, List.drop_eq_getElem_cons hk, h]
  have e2 : cutP s = (s.take k, some (s.drop (k + 1))) := by
    conv => lhs; rw [e]
    refine cutP_hit _ _ fun c hc => ?_
    obtain ⟨j, hj, rfl⟩ := List.getElem_of_mem hc
    rw [List.getElem_take]
    exact hs j (by simp at hj; omega) (by simp at hj; omega)
  unfold beatR
  rw [e2]
theorem beat_miss {s : Bs} (hs : ∀ j (hj : j < s.length), s[j] ≠ 47) : beatR s = (numR s, 1) := by
  have e2 : cutP s = (s, none) := cutP_miss _ fun c hc => by
    obtain ⟨j, hj, rfl⟩ := List.getElem_of_mem hc
    exact hs j hj
  unfold beatR
  rw [e2]
set_option maxRecDepth 100000 in
set_option maxHeartbeats 4000000 in
theorem Rbeat_any (s : Bs) (w : World) (hs : s.length ≤ 10000) : Calls Tryd.prog 47 #[.string (mkS s)] w fun e w' => e = .returned (.agg #[.int .i64 (beatR s).1, .int .i64 (beatR s).2]) ∧ Below w.heap.size w w' := by
  have hz : (mkS s).size = s.length := rfl
  have HX := Lib.hid (heap_alloc_new w (.cells #[.int .i64 0, .int .i64 0] 23))
  have HB := Lib.hid ((Below.refl w.heap.size w).alloc (Nat.le_refl _) (.cells #[.int .i64 0, .int .i64 0] 23))
  go_enter Tryd.func47, Tryd.ntmps47
  go_upto_region 1 with (fail)
  generalize w.alloc (.cells #[.int .i64 0, .int .i64 0] 23) = W at *
  have hc := box_cells HX.out; have hf := box_free HX.out
  go_wp2
  go_loopw [3] (fun s3 wr => ∃ k : Nat, k ≤ s.length ∧ s3 = .int .i64 k ∧ Hid (∀ j (hj : j < s.length), j < k → s[j] ≠ 47) ∧ wr = W) (fun s3 _ => s.length - (intOf s3).toNat)
  case atStart => exact ⟨0, Nat.zero_le _, rfl, Lib.hid (fun _ _ h => absurd h (Nat.not_lt_zero _)), rfl⟩
  case round =>
    obtain ⟨k, hk, rfl, HA, rfl⟩ := hrel
    by_cases hlt : k < s.length
    · have hsz : k < (mkS s).size := hlt
      have hx : ∀ h, ((mkS s)[k]'h).toNat = (s[k]'hlt).toNat := fun _ => rfl
      by_cases h47 : s[k]'hlt = 47
      · have HF := Lib.hid (beat_hit k hlt h47 HA.out)
        have hv : (((s[k]'hlt).toNat : Int) == 47) = true := by rw [h47]; rfl
        have hx1 : (mkS s).extract 0 k = mkS (s.take k) := by rw [mkS_extract]; simp
        have hx2 : (mkS s).extract (k + 1) s.length = mkS (s.drop (k + 1)) := by rw [mkS_extract]; simp
        clear h47
        have hle : k + 1 ≤ s.length := hlt
        have hle2 : (k : Int) + 1 ≤ (s.length : Int) := by omega
        go_upto_region 5 with (fail)
        have hk1 : ((k : Int) + 1).toNat = k + 1 := by omega
        have hkw : IntKind.i64.wrap ((k : Int) + 1) = (k : Int) + 1 := IntWalk.i64_in _ (by omega)
        have hk2 : (0 : Int) ≤ (k : Int) + 1 := by omega
        have hk3 : ¬ (s.length : Int) < (k : Int) + 1 := by omega
        have hk4 : k + 1 ≤ (mkS s).size := hlt
        go_region_with (go_at_call 46; refine (Rnum_any _ _).mono ?_; rintro e w' ⟨rfl, rfl⟩)
        go_wp2
        exact bodyPost_ret (v := .agg #[.int .i64 (numR (s.take k)), .int .i64 (numR (s.drop (k + 1)))]) (by simp [results, Tryd.results47, go_sem, hc, hf]) rfl ⟨by rw [HF.out], ((HB.out.setCell (Nat.le_refl _) _).setCell (Nat.le_refl _) _).drew⟩
      · have hv : (((s[k]'hlt).toNat : Int) == 47) = false := by
          rw [← Bool.not_eq_true, beq_iff_eq]
          intro e
          exact h47 (UInt8.toNat_inj.1 (by show _ = 47; omega))
        have HN := Lib.hid (show ∀ j (hj : j < s.length), j < k + 1 → s[j] ≠ 47 from fun j hj hjk => by
          by_cases e : j = k
          · subst e; exact h47
          · exact HA.out j hj (by omega))
        clear h47
        go_wp2
        go_roundw
        case rel => exact ⟨k + 1, by omega, by go_num, HN, trivial⟩
        case measure => simp [intOf]; omega
    · obtain rfl : k = s.length := by omega
      have HF := Lib.hid (beat_miss fun j hj => HA.out j hj hj)
      go_wp2_with (go_at_call 46; refine (Rnum_any _ _).mono ?_; rintro e w' ⟨rfl, rfl⟩)
      exact bodyPost_ret (v := .agg #[.int .i64 (numR s), .int .i64 1]) (by simp [results, Tryd.results47, go_sem, hc, hf]) rfl ⟨by rw [HF.out], (HB.out.setCell (by simp <;> omega) _).setCell (by simp <;> omega) _⟩
end Go.Proofs.YtfppijjjaleiaaaDoor
