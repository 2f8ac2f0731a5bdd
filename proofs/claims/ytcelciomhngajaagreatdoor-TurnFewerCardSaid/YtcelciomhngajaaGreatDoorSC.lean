/- Texts of this seat, laid together: ScKey, ScPart, ScPart2, ScRat, ScMet, ScMetV. -/
import Derived.Test.YtcelciomhngajaaGreatDoorSA
import Derived.Test.YtcelciomhngajaaGreatDoorSB
import Derived.Laws.EntriesVeiled
import Derived.Test.YtcelciomhngajaaGreatDoorRows
import Derived.Lib.QuietBelow
/- Package key: contracts of isKey, isInterval, Fifths, Move. -/
namespace Go.Proofs.YtcelciomhngajaaGreatDoor
set_option linter.unusedSimpArgs false
set_option linter.unusedVariables false
open Go.RowKit Go.Sort

def fifR (x y : Int) : Int × Int := if frmB x y then (7 * y - 12 * x, 0) else (0, 1)
theorem isKey_any (n : Int) (w : World) : Calls Tryz.prog 215 #[.int .i64 n] w fun e w' => e = .returned (.bool (inB n (-7) 7)) ∧ w = w' := by
  go_enter Tryz.func215, Tryz.ntmps215
  go_wp2
  all_goals (go_ret; exact ⟨by simp [inB, *] <;> omega, rfl⟩)
set_option maxHeartbeats 1000000 in
theorem isInterval_any (x y : Int) (w : World) : Calls Tryz.prog 207 #[.agg #[.int .i64 x, .int .i64 y]] w fun e w' => e = .returned (.bool (frmB x y)) ∧ Below w.heap.size w w' := by
  cases hv : frmB x y
  · have HV := Lib.hid (show backR x y = (0, 0, 1) by simp [backR, hv])
    go_enter Tryz.func207, Tryz.ntmps207
    go_wp2_with (go_at_call 198; refine (Back_any _ _ _).mono ?_; rw [HV.out]; rintro e w' ⟨rfl, hb⟩; replace hb := allocB hb; have HB := Lib.hid hb; clear hb)
    go_ret
    exact ⟨rfl, HB.out.trans ((Below.refl _ _).alloc (Nat.le_refl _) _ |>.mono HB.out.size)⟩
  · have HV := Lib.hid (show backR x y = (-x, -y, 0) by simp [backR, hv])
    go_enter Tryz.func207, Tryz.ntmps207
    go_wp2_with (go_at_call 198; refine (Back_any _ _ _).mono ?_; rw [HV.out]; rintro e w' ⟨rfl, hb⟩; replace hb := allocB hb; have HB := Lib.hid hb; clear hb)
    go_ret
    exact ⟨rfl, HB.out.trans ((Below.refl _ _).alloc (Nat.le_refl _) _ |>.mono HB.out.size)⟩
set_option maxHeartbeats 1000000 in
theorem Fifths_any (x y : Int) (w : World) : Calls Tryz.prog 186 #[.agg #[.int .i64 x, .int .i64 y]] w fun e w' => e = .returned (.tuple #[.int .i64 (fifR x y).1, .int .i64 (fifR x y).2]) ∧ Below w.heap.size w w' := by
  cases hv : frmB x y
  · rw [show fifR x y = (0, 1) by simp [fifR, hv]]
    go_enter Tryz.func186, Tryz.ntmps186
    go_wp2_with (go_at_call 207; refine (isInterval_any _ _ _).mono ?_; rw [hv]; rintro e w' ⟨rfl, hb⟩; replace hb := allocB hb; have HB := Lib.hid hb; clear hb)
    go_ret2
    exact ⟨rfl, HB.out⟩
  · rw [show fifR x y = (7 * y - 12 * x, 0) by simp [fifR, hv]]
    obtain ⟨⟨p1, p2⟩, p3, p4⟩ := (frm_iff x y).1 hv
    go_enter Tryz.func186, Tryz.ntmps186
    go_wp2_with (go_at_call 207; refine (isInterval_any _ _ _).mono ?_; rw [hv]; rintro e w' ⟨rfl, hb⟩; have x1 := box_below hb; have hc := box_cells x1; replace hb := allocB hb; have HB := Lib.hid hb; clear hb x1)
    go_ret2
    exact ⟨rfl, HB.out⟩
set_option maxHeartbeats 1000000 in
theorem untilUp_any (n x y : Int) (t : Nat) (b1 b2 : Nat) (w : World) (hn : -10000 ≤ n) (hn2 : n ≤ 10000) (hx : -10000 ≤ x) (hx2 : x ≤ 10000) (ht : t ≤ 1000) (hne : b1 ≠ b2)
    (hk : inB (n - 12 * t) (-7) 7 = true) (hnk : ∀ j : Nat, j < t → inB (n - 12 * j) (-7) 7 = false) (h1 : w.heap[b1]? = some (.cells #[.int .i64 n] 3 (0, 0))) (h2 : w.heap[b2]? = some (.cells #[.int .i64 x, .int .i64 y] 91 (0, 0))) :
    Calls Tryz.prog 216 #[.int .i64 1, .pointer (some ⟨b1, 0, none⟩), .pointer (some ⟨b2, 0, none⟩)] w fun e w' => e = .returned (.tuple #[]) ∧ w'.heap[b1]? = some (.cells #[.int .i64 (n - 12 * t)] 3 (0, 0)) ∧ w'.heap[b2]? = some (.cells #[.int .i64 (x + t), .int .i64 y] 91 (0, 0)) ∧ KeepB w.heap.size [b1, b2] w w' := by
  have HK := Lib.hid hk; have HNK := Lib.hid hnk; have H1 := Lib.hid h1; have H2 := Lib.hid h2
  clear hk hnk h1 h2
  go_enter Tryz.func216, Tryz.ntmps216
  go_wp2
  go_loopg [] t (fun g wr => ∃ j : Nat, j + g = t ∧ wr.heap[b1]? = some (.cells #[.int .i64 (n - 12 * j)] 3 (0, 0)) ∧ wr.heap[b2]? = some (.cells #[.int .i64 (x + j), .int .i64 y] 91 (0, 0)) ∧ KeepB w.heap.size [b1, b2] w wr)
  case atStart => exact ⟨0, by simp, by simpa using H1.out, by simpa using H2.out, KeepB.refl _ _ _⟩
  case round =>
    obtain ⟨j, hg, x1, x2, hb⟩ := hrel
    have HX1 := Lib.hid x1; have HX2 := Lib.hid x2; have HB := Lib.hid hb
    have hc1 := box_cells x1; have hc2 := box_cells x2; have hf1 := box_free x1; have hf2 := box_free x2; have hz1 := lt_blk x1; have hz2 := lt_blk x2
    clear x1 x2 hb
    by_cases hj : j < t
    · have HN := Lib.hid (HNK.out j hj)
      have hbd : -30000 ≤ n - 12 * (j : Int) ∧ n - 12 * (j : Int) ≤ 30000 := by omega
      obtain ⟨q1, q2⟩ := hbd
      obtain ⟨N, hN⟩ : ∃ N, N = n - 12 * (j : Int) := ⟨_, rfl⟩
      obtain ⟨X, hX⟩ : ∃ X, X = x + (j : Int) := ⟨_, rfl⟩
      have HNe := Lib.hid hN; have HXe := Lib.hid hX
      have r1 : -20000 ≤ X := by omega
      have r2 : X ≤ 20000 := by omega
      rw [← hN] at HX1 hc1 HN q1 q2; rw [← hX] at HX2 hc2
      clear hN hX
      go_wp2_with (go_at_call 215; refine (isKey_any _ _).mono ?_; rw [HN.out]; rintro e w' ⟨rfl, rfl⟩)
      have hne1 : b2 ≠ b1 := fun e => hne e.symm
      have y1 : ((wr.setCell ⟨b1, 0, none⟩ (.int .i64 (N - 12))).setCell ⟨b2, 0, none⟩ (.int .i64 (X + 1))).heap[b1]? = some (.cells #[.int .i64 (N - 12)] 3 (0, 0)) := (heap_setCell_other _ _ _ _ (show _ ≠ _ by simp <;> omega)).trans (heap_setCell_same _ _ _ _ _ _ HX1.out)
      have y2 : ((wr.setCell ⟨b1, 0, none⟩ (.int .i64 (N - 12))).setCell ⟨b2, 0, none⟩ (.int .i64 (X + 1))).heap[b2]? = some (.cells #[.int .i64 (X + 1), .int .i64 y] 91 (0, 0)) := heap_setCell_same _ _ _ _ _ _ ((heap_setCell_other _ _ _ _ (show _ ≠ _ by simp <;> omega)).trans HX2.out)
      have HBn := Lib.hid ((HB.out.set (p := ⟨b1, 0, none⟩) (.inl (by simp)) (.int .i64 (N - 12))).set (p := ⟨b2, 0, none⟩) (.inl (by simp)) (.int .i64 (X + 1)))
      have Y1 := Lib.hid y1; have Y2 := Lib.hid y2; clear y1 y2
      go_roundg (gk - 1)
      case rel => exact ⟨j + 1, by omega, by rw [Y1.out, HNe.out]; congr 5; omega, by rw [Y2.out, HXe.out]; congr 5; omega, HBn.out⟩
      case measure => omega
    · have e : j = t := by omega
      subst e
      go_wp2_with (go_at_call 215; refine (isKey_any _ _).mono ?_; rw [HK.out]; rintro e w' ⟨rfl, rfl⟩)
      go_end0
      exact ⟨rfl, HX1.out, HX2.out, HB.out⟩
set_option maxHeartbeats 1000000 in
theorem untilDown_any (n x y : Int) (t : Nat) (b1 b2 : Nat) (w : World) (hn : -10000 ≤ n) (hn2 : n ≤ 10000) (hx : -10000 ≤ x) (hx2 : x ≤ 10000) (ht : t ≤ 1000) (hne : b1 ≠ b2)
    (hk : inB (n + 12 * t) (-7) 7 = true) (hnk : ∀ j : Nat, j < t → inB (n + 12 * j) (-7) 7 = false) (h1 : w.heap[b1]? = some (.cells #[.int .i64 n] 3 (0, 0))) (h2 : w.heap[b2]? = some (.cells #[.int .i64 x, .int .i64 y] 91 (0, 0))) :
    Calls Tryz.prog 216 #[.int .i64 (-1), .pointer (some ⟨b1, 0, none⟩), .pointer (some ⟨b2, 0, none⟩)] w fun e w' => e = .returned (.tuple #[]) ∧ w'.heap[b1]? = some (.cells #[.int .i64 (n + 12 * t)] 3 (0, 0)) ∧ w'.heap[b2]? = some (.cells #[.int .i64 (x - t), .int .i64 y] 91 (0, 0)) ∧ KeepB w.heap.size [b1, b2] w w' := by
  have HK := Lib.hid hk; have HNK := Lib.hid hnk; have H1 := Lib.hid h1; have H2 := Lib.hid h2
  clear hk hnk h1 h2
  go_enter Tryz.func216, Tryz.ntmps216
  go_wp2
  go_loopg [] t (fun g wr => ∃ j : Nat, j + g = t ∧ wr.heap[b1]? = some (.cells #[.int .i64 (n + 12 * j)] 3 (0, 0)) ∧ wr.heap[b2]? = some (.cells #[.int .i64 (x - j), .int .i64 y] 91 (0, 0)) ∧ KeepB w.heap.size [b1, b2] w wr)
  case atStart => exact ⟨0, by simp, by simpa using H1.out, by simpa using H2.out, KeepB.refl _ _ _⟩
  case round =>
    obtain ⟨j, hg, x1, x2, hb⟩ := hrel
    have HX1 := Lib.hid x1; have HX2 := Lib.hid x2; have HB := Lib.hid hb
    have hc1 := box_cells x1; have hc2 := box_cells x2; have hf1 := box_free x1; have hf2 := box_free x2; have hz1 := lt_blk x1; have hz2 := lt_blk x2
    clear x1 x2 hb
    by_cases hj : j < t
    · have HN := Lib.hid (HNK.out j hj)
      have hbd : -30000 ≤ n + 12 * (j : Int) ∧ n + 12 * (j : Int) ≤ 30000 := by omega
      obtain ⟨q1, q2⟩ := hbd
      obtain ⟨N, hN⟩ : ∃ N, N = n + 12 * (j : Int) := ⟨_, rfl⟩
      obtain ⟨X, hX⟩ : ∃ X, X = x - (j : Int) := ⟨_, rfl⟩
      have HNe := Lib.hid hN; have HXe := Lib.hid hX
      have r1 : -20000 ≤ X := by omega
      have r2 : X ≤ 20000 := by omega
      rw [← hN] at HX1 hc1 HN q1 q2; rw [← hX] at HX2 hc2
      clear hN hX
      go_wp2_with (go_at_call 215; refine (isKey_any _ _).mono ?_; rw [HN.out]; rintro e w' ⟨rfl, rfl⟩)
      have hne1 : b2 ≠ b1 := fun e => hne e.symm
      have y1 : ((wr.setCell ⟨b1, 0, none⟩ (.int .i64 (N + 12))).setCell ⟨b2, 0, none⟩ (.int .i64 (X + -1))).heap[b1]? = some (.cells #[.int .i64 (N + 12)] 3 (0, 0)) := (heap_setCell_other _ _ _ _ (show _ ≠ _ by simp <;> omega)).trans (heap_setCell_same _ _ _ _ _ _ HX1.out)
      have y2 : ((wr.setCell ⟨b1, 0, none⟩ (.int .i64 (N + 12))).setCell ⟨b2, 0, none⟩ (.int .i64 (X + -1))).heap[b2]? = some (.cells #[.int .i64 (X + -1), .int .i64 y] 91 (0, 0)) := heap_setCell_same _ _ _ _ _ _ ((heap_setCell_other _ _ _ _ (show _ ≠ _ by simp <;> omega)).trans HX2.out)
      have HBn := Lib.hid ((HB.out.set (p := ⟨b1, 0, none⟩) (.inl (by simp)) (.int .i64 (N + 12))).set (p := ⟨b2, 0, none⟩) (.inl (by simp)) (.int .i64 (X + -1)))
      have Y1 := Lib.hid y1; have Y2 := Lib.hid y2; clear y1 y2
      go_roundg (gk - 1)
      case rel => exact ⟨j + 1, by omega, by rw [Y1.out, HNe.out]; congr 5; omega, by rw [Y2.out, HXe.out]; congr 5; omega, HBn.out⟩
      case measure => omega
    · have e : j = t := by omega
      subst e
      go_wp2_with (go_at_call 215; refine (isKey_any _ _).mono ?_; rw [HK.out]; rintro e w' ⟨rfl, rfl⟩)
      go_end0
      exact ⟨rfl, HX1.out, HX2.out, HB.out⟩
theorem turn_up {n : Int} (h1 : 0 < n) (h2 : n ≤ 10000) : ∃ t : Nat, turnsI n = t ∧ t ≤ 1000 ∧ inB (n - 12 * t) (-7) 7 = true ∧ ∀ j : Nat, j < t → inB (n - 12 * j) (-7) 7 = false := by
  refine ⟨((n + 4) / 12).toNat, by rw [turnsI, if_pos h1]; omega, by omega, (inB_iff _ _ _).2 (by omega), fun j hj => (inB_not _ _ _).2 (by omega)⟩
theorem turn_down {n : Int} (h1 : ¬ 0 < n) (h2 : -10000 ≤ n) : ∃ t : Nat, turnsI n = -t ∧ t ≤ 1000 ∧ inB (n + 12 * t) (-7) 7 = true ∧ ∀ j : Nat, j < t → inB (n + 12 * j) (-7) 7 = false := by
  refine ⟨((4 - n) / 12).toNat, by rw [turnsI, if_neg h1]; omega, by omega, (inB_iff _ _ _).2 (by omega), fun j hj => (inB_not _ _ _).2 (by omega)⟩
set_option maxRecDepth 100000 in
set_option maxHeartbeats 4000000 in
theorem Move_any (k x y : Int) (w : World) : Calls Tryz.prog 199 #[.int .i64 k, .agg #[.int .i64 x, .int .i64 y]] w fun e w' =>
    e = .returned (.tuple #[.int .i64 (moveR k x y).1, .agg #[.int .i64 (moveR k x y).2.1, .int .i64 (moveR k x y).2.2.1], .int .i64 (moveR k x y).2.2.2]) ∧ Below w.heap.size w w' := by
  cases hv : frmB x y
  · have HR := Lib.hid (show moveR k x y = (0, 0, 0, 1) by simp [moveR, hv])
    have HF := Lib.hid (show fifR x y = (0, 1) by simp [fifR, hv])
    go_enter Tryz.func199, Tryz.ntmps199; go_upto_region 1 with (fail); obtain ⟨x1, x2, hb⟩ := box2 (w := w) (A := .cells #[.int .i64 x, .int .i64 y] 91) (B := .cells #[.int .i64 0, .int .i64 0] 91) (Below.refl _ _); generalize (w.alloc (.cells #[.int .i64 x, .int .i64 y] 91)).alloc (.cells #[.int .i64 0, .int .i64 0] 91) = W at *; have HX1 := Lib.hid x1; have HX2 := Lib.hid x2; have HB := Lib.hid hb; have hc1 := box_cells x1; clear x1 x2 hb; go_upto_region 3 with (first | (go_at_call 186; refine (Fifths_any _ _ _).mono ?_; rw [HF.out]; rintro e w2 ⟨rfl, hb⟩; replace HX1 := Lib.hid (blk_keep HX1.out hb); replace HX2 := Lib.hid (blk_keep HX2.out hb); replace HB := Lib.hid (HB.out.trans (hb.mono HB.out.size)); clear hb hc1; have hc2 := box_cells HX2.out; have hf2 := box_free HX2.out; have hz2 := lt_blk HX2.out) | (go_at_call 215; refine (isKey_any _ _).mono ?_; rw [HK.out]; rintro e w3 ⟨rfl, rfl⟩)); have y2 := up_alloc HX2.out (.cells #[.int .i64 0] 3); have HB2 := Lib.hid (HB.out.alloc HB.out.size (.cells #[.int .i64 0] 3)); generalize w2.alloc (.cells #[.int .i64 0] 3) = w5 at *; clear hc2 hf2 hz2 HX1 HX2; have hc2 := box_cells y2; have hf2 := box_free y2; have hz2 := lt_blk y2; go_wp2; rw [HR.out]; exact bodyPost_ret (v := .tuple #[.int .i64 0, .agg #[.int .i64 0, .int .i64 0], .int .i64 1]) (by simp [results, Tryz.results199, go_sem, hc2, hf2]) rfl ⟨rfl, (HB2.out.setCell (by simp <;> omega) _).setCell (by simp <;> omega) _⟩
  · cases hk : inB k (-7) 7
    · have HR := Lib.hid (show moveR k x y = (0, 0, 0, 1) by simp [moveR, hk])
      have HF := Lib.hid (show fifR x y = (7 * y - 12 * x, 0) by simp [fifR, hv])
      obtain ⟨F, hF⟩ : ∃ F, F = 7 * y - 12 * x := ⟨_, rfl⟩
      rw [← hF] at HF
      have HK := Lib.hid hk; clear hF hk
      go_enter Tryz.func199, Tryz.ntmps199; go_upto_region 1 with (fail); obtain ⟨x1, x2, hb⟩ := box2 (w := w) (A := .cells #[.int .i64 x, .int .i64 y] 91) (B := .cells #[.int .i64 0, .int .i64 0] 91) (Below.refl _ _); generalize (w.alloc (.cells #[.int .i64 x, .int .i64 y] 91)).alloc (.cells #[.int .i64 0, .int .i64 0] 91) = W at *; have HX1 := Lib.hid x1; have HX2 := Lib.hid x2; have HB := Lib.hid hb; have hc1 := box_cells x1; clear x1 x2 hb; go_upto_region 3 with (first | (go_at_call 186; refine (Fifths_any _ _ _).mono ?_; rw [HF.out]; rintro e w2 ⟨rfl, hb⟩; replace HX1 := Lib.hid (blk_keep HX1.out hb); replace HX2 := Lib.hid (blk_keep HX2.out hb); replace HB := Lib.hid (HB.out.trans (hb.mono HB.out.size)); clear hb hc1; have hc2 := box_cells HX2.out; have hf2 := box_free HX2.out; have hz2 := lt_blk HX2.out) | (go_at_call 215; refine (isKey_any _ _).mono ?_; rw [HK.out]; rintro e w3 ⟨rfl, rfl⟩)); have y2 := up_alloc HX2.out (.cells #[.int .i64 F] 3); have HB2 := Lib.hid (HB.out.alloc HB.out.size (.cells #[.int .i64 F] 3)); generalize w2.alloc (.cells #[.int .i64 F] 3) = w5 at *; clear hc2 hf2 hz2 HX1 HX2; have hc2 := box_cells y2; have hf2 := box_free y2; have hz2 := lt_blk y2; go_wp2; rw [HR.out]; exact bodyPost_ret (v := .tuple #[.int .i64 0, .agg #[.int .i64 0, .int .i64 0], .int .i64 1]) (by simp [results, Tryz.results199, go_sem, hc2, hf2]) rfl ⟨rfl, (HB2.out.setCell (by simp <;> omega) _).setCell (by simp <;> omega) _⟩
    · obtain ⟨⟨p1, p2⟩, p3, p4⟩ := (frm_iff x y).1 hv
      obtain ⟨k1, k2⟩ := (inB_iff _ _ _).1 hk
      have HR := Lib.hid (show moveR k x y = (7 * y - 12 * x + k - 12 * turnsI (7 * y - 12 * x + k), x + turnsI (7 * y - 12 * x + k), y, 0) by simp [moveR, hv, hk])
      have HF := Lib.hid (show fifR x y = (7 * y - 12 * x, 0) by simp [fifR, hv])
      have HK := Lib.hid hk; clear hk hv
      obtain ⟨F, hF⟩ : ∃ F, F = 7 * y - 12 * x := ⟨_, rfl⟩
      have b1 : -3000 ≤ F := by omega
      have b2 : F ≤ 3000 := by omega
      rw [← hF] at HR HF
      clear hF
      go_enter Tryz.func199, Tryz.ntmps199; go_upto_region 1 with (fail); obtain ⟨x1, x2, hb⟩ := box2 (w := w) (A := .cells #[.int .i64 x, .int .i64 y] 91) (B := .cells #[.int .i64 0, .int .i64 0] 91) (Below.refl _ _); generalize (w.alloc (.cells #[.int .i64 x, .int .i64 y] 91)).alloc (.cells #[.int .i64 0, .int .i64 0] 91) = W at *; have HX1 := Lib.hid x1; have HX2 := Lib.hid x2; have HB := Lib.hid hb; have hc1 := box_cells x1; clear x1 x2 hb
      go_wp2_with (first | (go_at_call 186; refine (Fifths_any _ _ _).mono ?_; rw [HF.out]; rintro e w2 ⟨rfl, hb⟩; replace HX1 := Lib.hid (blk_keep HX1.out hb); replace HX2 := Lib.hid (blk_keep HX2.out hb); replace HB := Lib.hid (HB.out.trans (hb.mono HB.out.size)); clear hb hc1; have hc2 := box_cells HX2.out; have hf2 := box_free HX2.out; have hz2 := lt_blk HX2.out) | (go_at_call 215; refine (isKey_any _ _).mono ?_; rw [HK.out]; rintro e w3 ⟨rfl, rfl⟩))
      · obtain ⟨t, ht, ht2, hk, hnk⟩ := turn_up (n := F + k) (by omega) (by omega)
        rw [ht] at HR
        clear ht hc2 hf2
        refine (untilUp_any (F + k) x y t w2.heap.size w.heap.size _ (by omega) (by omega) (by omega) (by omega) ht2 (by omega) hk hnk (heap_alloc_new w2 _) (up_alloc HX1.out _)).mono ?_
        rintro e w4 ⟨rfl, y1, y2, kb⟩; clear hk hnk; have HY1 := Lib.hid y1; have HY2 := Lib.hid y2; have y3 := (kb.block (w.heap.size + 1) (by simp; omega) (by simp; omega)).trans (up_alloc HX2.out _); have HY3 := Lib.hid y3; have HB4 := Lib.hid (HB.out.trans (KeepB.below ((KeepB.of_below' (B := w.heap.size) (S := []) ((Below.refl w.heap.size w2).alloc (by omega) _)).trans (kb.weaken (by simp; omega) (fun b hb hlt => by simp at hb; omega))))); have hc1 := box_cells y1; have hc2 := box_cells y2; have hc3 := box_cells y3; have hf3 := box_free y3; have hz3 := lt_blk y3; clear kb y1 y2 y3 HX1 HX2; go_wp2; have g1 := cell_regrown (hc1 0); have g2 := cell_regrown (hc2 0); have g3 := cell_regrown (hc2 1); refine wp_tailB 3 (by kernel_rfl) (by kernel_rfl) ?_; simp only [List.take_succ_cons, List.take_zero, List.drop_succ_cons, List.drop_zero]; (repeat (go_big_quiet_step (fail))); refine wpQuiet_nil ?_; intro w6 hb6; replace HY3 := Lib.hid (blk_keep HY3.out hb6); replace HB4 := Lib.hid (HB4.out.trans (hb6.mono HB4.out.size)); clear hb6 g1 g2 g3 hc1 hc2 hc3 hf3 hz3 HY1 HY2; have hc3 := box_cells HY3.out; have hf3 := box_free HY3.out; have hz3 := lt_blk HY3.out; go_wp2; rw [HR.out]; exact bodyPost_ret (v := .tuple #[.int .i64 (F + k - 12 * t), .agg #[.int .i64 (x + t), .int .i64 y], .int .i64 0]) (by simp [results, Tryz.results199, go_sem, hc3, hf3]) rfl ⟨rfl, (HB4.out.setCell (by simp <;> omega) _).setCell (by simp <;> omega) _⟩
      · obtain ⟨t, ht, ht2, hk, hnk⟩ := turn_down (n := F + k) (by omega) (by omega)
        rw [ht, Int.mul_neg, Int.sub_neg, ← Int.sub_eq_add_neg] at HR
        clear ht hc2 hf2
        refine (untilDown_any (F + k) x y t w2.heap.size w.heap.size _ (by omega) (by omega) (by omega) (by omega) ht2 (by omega) hk hnk (heap_alloc_new w2 _) (up_alloc HX1.out _)).mono ?_
        rintro e w4 ⟨rfl, y1, y2, kb⟩; clear hk hnk; have HY1 := Lib.hid y1; have HY2 := Lib.hid y2; have y3 := (kb.block (w.heap.size + 1) (by simp; omega) (by simp; omega)).trans (up_alloc HX2.out _); have HY3 := Lib.hid y3; have HB4 := Lib.hid (HB.out.trans (KeepB.below ((KeepB.of_below' (B := w.heap.size) (S := []) ((Below.refl w.heap.size w2).alloc (by omega) _)).trans (kb.weaken (by simp; omega) (fun b hb hlt => by simp at hb; omega))))); have hc1 := box_cells y1; have hc2 := box_cells y2; have hc3 := box_cells y3; have hf3 := box_free y3; have hz3 := lt_blk y3; clear kb y1 y2 y3 HX1 HX2; go_wp2; have g1 := cell_regrown (hc1 0); have g2 := cell_regrown (hc2 0); have g3 := cell_regrown (hc2 1); refine wp_tailB 3 (by kernel_rfl) (by kernel_rfl) ?_; simp only [List.take_succ_cons, List.take_zero, List.drop_succ_cons, List.drop_zero]; (repeat (go_big_quiet_step (fail))); refine wpQuiet_nil ?_; intro w6 hb6; replace HY3 := Lib.hid (blk_keep HY3.out hb6); replace HB4 := Lib.hid (HB4.out.trans (hb6.mono HB4.out.size)); clear hb6 g1 g2 g3 hc1 hc2 hc3 hf3 hz3 HY1 HY2; have hc3 := box_cells HY3.out; have hf3 := box_free HY3.out; have hz3 := lt_blk HY3.out; go_wp2; rw [HR.out]; exact bodyPost_ret (v := .tuple #[.int .i64 (F + k + 12 * t), .agg #[.int .i64 (x - t), .int .i64 y], .int .i64 0]) (by simp [results, Tryz.results199, go_sem, hc3, hf3]) rfl ⟨rfl, (HB4.out.setCell (by simp <;> omega) _).setCell (by simp <;> omega) _⟩
open Go.RowKit Go.Sort

theorem swithin_any (n lo hi : Int) (w : World) : Calls Tryz.prog 93 #[.int .i64 n, .int .i64 lo, .int .i64 hi] w fun e w' => e = .returned (.bool (inB n lo hi)) ∧ w = w' := by
  go_enter Tryz.func93, Tryz.ntmps93
  go_wp2
  all_goals (go_ret; exact ⟨by simp [inB, *] <;> omega, rfl⟩)
theorem sisID_any (n : Int) (w : World) : Calls Tryz.prog 57 #[.int .i64 n] w fun e w' => e = .returned (.bool (isID n)) ∧ w = w' := by
  go_enter Tryz.func57, Tryz.ntmps57
  go_wp2_with (go_at_call 93; refine (swithin_any _ _ _ _).mono ?_; rintro e w' ⟨rfl, rfl⟩)
  go_ret
  exact ⟨rfl, rfl⟩
set_option maxHeartbeats 1000000 in
theorem shifts_any (x y : Int) (w : World) : Calls Tryz.prog 169 #[.agg #[.int .i64 x, .int .i64 y]] w fun e w' => e = .returned (.bool (shiftB ⟨x, y⟩)) ∧ Below w.heap.size w w' := by
  cases hv : frmB x y
  · have HF := Lib.hid (show fifR x y = (0, 1) by simp [fifR, hv])
    have HR := Lib.hid (show shiftB ⟨x, y⟩ = false by
      cases h : shiftB ⟨x, y⟩
      · rfl
      · have := shift_frm h
        simp only [frmI] at this
        rw [hv] at this; cases this)
    go_enter Tryz.func169, Tryz.ntmps169
    go_wp2_with (go_at_call 186; refine (Fifths_any _ _ _).mono ?_; rw [HF.out]; rintro e w2 ⟨rfl, hb⟩; have HB := Lib.hid (allocB hb); clear hb)
    go_ret
    exact ⟨by rw [HR.out]; rfl, HB.out⟩
  · have HF := Lib.hid (show fifR x y = (7 * y - 12 * x, 0) by simp [fifR, hv])
    have HR := Lib.hid (show shiftB ⟨x, y⟩ = (inB x (-21) 21 && inB y (-36) 36 && inB (7 * y - 12 * x) (-12) 12) from rfl)
    generalize 7 * y - 12 * x = F at *
    generalize shiftB ⟨x, y⟩ = R at *
    go_enter Tryz.func169, Tryz.ntmps169
    go_wp2_with (first | (go_at_call 186; refine (Fifths_any _ _ _).mono ?_; rw [HF.out]; rintro e w2 ⟨rfl, hb⟩; have x1 := box_below hb; have hc := box_cells x1; have HB := Lib.hid (allocB hb); clear hb x1) | (go_at_call 93; refine (swithin_any _ _ _ _).mono ?_; rintro e w' ⟨rfl, rfl⟩))
    all_goals (go_ret; refine ⟨ret_bool ?_, HB.out⟩; rw [HR.out]; simp [*])
theorem num_R (s a o : Int) : (numberR s a o).1 = numI ⟨s, a, o⟩ := by unfold numberR numI vldP; split <;> rfl
theorem height_any (s a o : Int) (w : World) (hE : Env w) : Calls Tryz.prog 98 #[.agg #[.int .i64 s, .int .i64 a, .int .i64 o]] w fun e w' => e = .returned (.int .i64 (numI ⟨s, a, o⟩)) ∧ Below w.heap.size w w' := by
  have HE := Lib.hid hE; clear hE
  have HN := Lib.hid (num_R s a o)
  go_enter Tryz.func98, Tryz.ntmps98
  go_wp2_with (go_at_call 144; refine (Number_any _ _ _ _ (HE.out.below ((Below.refl _ _).alloc (Nat.le_refl _) _))).mono ?_; rw [HN.out]; generalize (numberR s a o).2 = E at *; rintro e w2 ⟨rfl, hb⟩; have HB := Lib.hid (allocB hb); clear hb)
  go_ret
  exact ⟨rfl, HB.out⟩
open Go.RowKit Go.Sort

theorem partOk_eq (p : Pa) : partOk p = (isID p.id && inB p.section_ 0 99 && inB p.of 0 1000000 && inB p.octave (-2) 2 && inB p.desks 1 40 && (!(decide (p.of = p.id) || (decide (p.of = 0) && decide (p.octave ≠ 0)) || !shiftB p.shift)) && (vldP p.low && vldP p.high && decide (numI p.low ≤ numI p.high))) := by
  rw [Bool.eq_iff_iff]
  simp only [partOk, Bool.and_eq_true, Bool.not_eq_true', Bool.or_eq_false_iff, Bool.and_eq_false_iff, decide_eq_true_eq, decide_eq_false_iff_not, Bool.or_eq_true, Bool.not_eq_false', ne_eq, Decidable.not_not]
  constructor
  · rintro ⟨⟨⟨⟨⟨⟨⟨⟨⟨⟨h1, h2⟩, h3⟩, h4⟩, h5⟩, h6⟩, h7⟩, h8⟩, h9⟩, h10⟩, h11⟩
    refine ⟨⟨⟨⟨⟨⟨h1, h2⟩, h3⟩, h4⟩, h5⟩, ⟨h9, h10⟩, h6⟩, ⟨h7, h8⟩, ?_⟩
    rw [numI, numI, if_pos h7, if_pos h8]; exact h11
  · rintro ⟨⟨⟨⟨⟨⟨h1, h2⟩, h3⟩, h4⟩, h5⟩, ⟨h9, h10⟩, h6⟩, ⟨h7, h8⟩, h11⟩
    rw [numI, numI, if_pos h7, if_pos h8] at h11
    exact ⟨⟨⟨⟨⟨⟨⟨⟨⟨⟨h1, h2⟩, h3⟩, h4⟩, h5⟩, h6⟩, h7⟩, h8⟩, h9⟩, h10⟩, h11⟩
set_option maxRecDepth 100000 in
set_option maxHeartbeats 8000000 in
theorem isPart_any (p : Pa) (w : World) (hE : Env w) : Calls Tryz.prog 137 #[.agg #[.int .i64 p.id, .int .i64 p.section_, .int .i64 p.of, .int .i64 p.octave, .int .i64 p.desks, .int .i64 p.shift.x, .int .i64 p.shift.y, .int .i64 p.low.s, .int .i64 p.low.a, .int .i64 p.low.o, .int .i64 p.high.s, .int .i64 p.high.a, .int .i64 p.high.o]] w fun e w' => e = .returned (.bool (partOk p)) ∧ Below w.heap.size w w' := by
  have HE := Lib.hid hE; clear hE
  have HR := Lib.hid (partOk_eq p)
  generalize partOk p = R at *
  obtain ⟨id, sec, pof, oct, desks, ⟨x, y⟩, ⟨ls, la, lo⟩, ⟨hs, ha, ho⟩⟩ := p
  simp only [vldP] at *
  generalize hE1 : isID id = b1 at *; have E1 := Lib.hid hE1; clear hE1
  generalize hE2 : inB sec 0 99 = b2 at *; have E2 := Lib.hid hE2; clear hE2
  generalize hE3 : inB pof 0 1000000 = b3 at *; have E3 := Lib.hid hE3; clear hE3
  generalize hE4 : inB oct (-2) 2 = b4 at *; have E4 := Lib.hid hE4; clear hE4
  generalize hE5 : inB desks 1 40 = b5 at *; have E5 := Lib.hid hE5; clear hE5
  generalize hE6 : shiftB ⟨x, y⟩ = b6 at *; have E6 := Lib.hid hE6; clear hE6
  generalize hE7 : vldB ls la lo = b7 at *; have E7 := Lib.hid hE7; clear hE7
  generalize hE8 : vldB hs ha ho = b8 at *; have E8 := Lib.hid hE8; clear hE8
  generalize hE9 : numI ⟨ls, la, lo⟩ = nl at *; have E9 := Lib.hid hE9; clear hE9
  generalize hE10 : numI ⟨hs, ha, ho⟩ = nh at *; have E10 := Lib.hid hE10; clear hE10
  have V1 := Lib.hid (show ∀ w, Calls Tryz.prog 158 #[.agg #[.int .i64 ls, .int .i64 la, .int .i64 lo]] w fun e w' => e = .returned (.bool b7) ∧ Below w.heap.size w w' from fun w => E7.out ▸ PValid_any ls la lo w)
  have V2 := Lib.hid (show ∀ w, Calls Tryz.prog 158 #[.agg #[.int .i64 hs, .int .i64 ha, .int .i64 ho]] w fun e w' => e = .returned (.bool b8) ∧ Below w.heap.size w w' from fun w => E8.out ▸ PValid_any hs ha ho w)
  have N1 := Lib.hid (show ∀ w, Env w → Calls Tryz.prog 98 #[.agg #[.int .i64 ls, .int .i64 la, .int .i64 lo]] w fun e w' => e = .returned (.int .i64 nl) ∧ Below w.heap.size w w' from fun w hE => E9.out ▸ height_any ls la lo w hE)
  have N2 := Lib.hid (show ∀ w, Env w → Calls Tryz.prog 98 #[.agg #[.int .i64 hs, .int .i64 ha, .int .i64 ho]] w fun e w' => e = .returned (.int .i64 nh) ∧ Below w.heap.size w w' from fun w hE => E10.out ▸ height_any hs ha ho w hE)
  go_enter Tryz.func137, Tryz.ntmps137
  go_upto_region 1 with (fail)
  have x1 := heap_alloc_new w (.cells #[.int .i64 id, .int .i64 sec, .int .i64 pof, .int .i64 oct, .int .i64 desks, .int .i64 x, .int .i64 y, .int .i64 ls, .int .i64 la, .int .i64 lo, .int .i64 hs, .int .i64 ha, .int .i64 ho] 93)
  have hb := (Below.refl w.heap.size w).alloc (Nat.le_refl _) (.cells #[.int .i64 id, .int .i64 sec, .int .i64 pof, .int .i64 oct, .int .i64 desks, .int .i64 x, .int .i64 y, .int .i64 ls, .int .i64 la, .int .i64 lo, .int .i64 hs, .int .i64 ha, .int .i64 ho] 93)
  generalize w.alloc (.cells #[.int .i64 id, .int .i64 sec, .int .i64 pof, .int .i64 oct, .int .i64 desks, .int .i64 x, .int .i64 y, .int .i64 ls, .int .i64 la, .int .i64 lo, .int .i64 hs, .int .i64 ha, .int .i64 ho] 93) = W at *
  have HX := Lib.hid x1; have HB := Lib.hid hb; have hc := box_cells x1
  clear x1 hb
  cases b1
  · ((go_wp2_with (first | (go_at_call 57; refine (sisID_any _ _).mono ?_; rw [E1.out]; rintro e w' ⟨rfl, rfl⟩) | (go_at_call 93; refine (swithin_any _ _ _ _).mono ?_; (first | rw [E2.out] | rw [E3.out] | rw [E4.out] | rw [E5.out]); rintro e w' ⟨rfl, rfl⟩) | (go_at_call 169; refine (shifts_any _ _ _).mono ?_; rw [E6.out]; rintro e w2 ⟨rfl, hb⟩; replace HX := Lib.hid (blk_keep HX.out hb); replace HB := Lib.hid (HB.out.trans (hb.mono HB.out.size)); clear hb hc; have hc := box_cells HX.out))); go_ret; refine ⟨ret_bool ?_, HB.out⟩; rw [HR.out]; (first | (simp [*]; done) | (simp [*]; intros; omega)))
  cases b2
  · ((go_wp2_with (first | (go_at_call 57; refine (sisID_any _ _).mono ?_; rw [E1.out]; rintro e w' ⟨rfl, rfl⟩) | (go_at_call 93; refine (swithin_any _ _ _ _).mono ?_; (first | rw [E2.out] | rw [E3.out] | rw [E4.out] | rw [E5.out]); rintro e w' ⟨rfl, rfl⟩) | (go_at_call 169; refine (shifts_any _ _ _).mono ?_; rw [E6.out]; rintro e w2 ⟨rfl, hb⟩; replace HX := Lib.hid (blk_keep HX.out hb); replace HB := Lib.hid (HB.out.trans (hb.mono HB.out.size)); clear hb hc; have hc := box_cells HX.out))); go_ret; refine ⟨ret_bool ?_, HB.out⟩; rw [HR.out]; (first | (simp [*]; done) | (simp [*]; intros; omega)))
  cases b3
  · ((go_wp2_with (first | (go_at_call 57; refine (sisID_any _ _).mono ?_; rw [E1.out]; rintro e w' ⟨rfl, rfl⟩) | (go_at_call 93; refine (swithin_any _ _ _ _).mono ?_; (first | rw [E2.out] | rw [E3.out] | rw [E4.out] | rw [E5.out]); rintro e w' ⟨rfl, rfl⟩) | (go_at_call 169; refine (shifts_any _ _ _).mono ?_; rw [E6.out]; rintro e w2 ⟨rfl, hb⟩; replace HX := Lib.hid (blk_keep HX.out hb); replace HB := Lib.hid (HB.out.trans (hb.mono HB.out.size)); clear hb hc; have hc := box_cells HX.out))); go_ret; refine ⟨ret_bool ?_, HB.out⟩; rw [HR.out]; (first | (simp [*]; done) | (simp [*]; intros; omega)))
  cases b4
  · ((go_wp2_with (first | (go_at_call 57; refine (sisID_any _ _).mono ?_; rw [E1.out]; rintro e w' ⟨rfl, rfl⟩) | (go_at_call 93; refine (swithin_any _ _ _ _).mono ?_; (first | rw [E2.out] | rw [E3.out] | rw [E4.out] | rw [E5.out]); rintro e w' ⟨rfl, rfl⟩) | (go_at_call 169; refine (shifts_any _ _ _).mono ?_; rw [E6.out]; rintro e w2 ⟨rfl, hb⟩; replace HX := Lib.hid (blk_keep HX.out hb); replace HB := Lib.hid (HB.out.trans (hb.mono HB.out.size)); clear hb hc; have hc := box_cells HX.out))); go_ret; refine ⟨ret_bool ?_, HB.out⟩; rw [HR.out]; (first | (simp [*]; done) | (simp [*]; intros; omega)))
  cases b5
  · ((go_wp2_with (first | (go_at_call 57; refine (sisID_any _ _).mono ?_; rw [E1.out]; rintro e w' ⟨rfl, rfl⟩) | (go_at_call 93; refine (swithin_any _ _ _ _).mono ?_; (first | rw [E2.out] | rw [E3.out] | rw [E4.out] | rw [E5.out]); rintro e w' ⟨rfl, rfl⟩) | (go_at_call 169; refine (shifts_any _ _ _).mono ?_; rw [E6.out]; rintro e w2 ⟨rfl, hb⟩; replace HX := Lib.hid (blk_keep HX.out hb); replace HB := Lib.hid (HB.out.trans (hb.mono HB.out.size)); clear hb hc; have hc := box_cells HX.out))); go_ret; refine ⟨ret_bool ?_, HB.out⟩; rw [HR.out]; (first | (simp [*]; done) | (simp [*]; intros; omega)))
  go_upto_region 2 with (first | (go_at_call 57; refine (sisID_any _ _).mono ?_; rw [E1.out]; rintro e w' ⟨rfl, rfl⟩) | (go_at_call 93; refine (swithin_any _ _ _ _).mono ?_; (first | rw [E2.out] | rw [E3.out] | rw [E4.out] | rw [E5.out]); rintro e w' ⟨rfl, rfl⟩) | (go_at_call 169; refine (shifts_any _ _ _).mono ?_; rw [E6.out]; rintro e w2 ⟨rfl, hb⟩; replace HX := Lib.hid (blk_keep HX.out hb); replace HB := Lib.hid (HB.out.trans (hb.mono HB.out.size)); clear hb hc; have hc := box_cells HX.out))
  by_cases c1 : pof = id
  · ((go_wp2_with (first | (go_at_call 57; refine (sisID_any _ _).mono ?_; rw [E1.out]; rintro e w' ⟨rfl, rfl⟩) | (go_at_call 93; refine (swithin_any _ _ _ _).mono ?_; (first | rw [E2.out] | rw [E3.out] | rw [E4.out] | rw [E5.out]); rintro e w' ⟨rfl, rfl⟩) | (go_at_call 169; refine (shifts_any _ _ _).mono ?_; rw [E6.out]; rintro e w2 ⟨rfl, hb⟩; replace HX := Lib.hid (blk_keep HX.out hb); replace HB := Lib.hid (HB.out.trans (hb.mono HB.out.size)); clear hb hc; have hc := box_cells HX.out))); go_ret; refine ⟨ret_bool ?_, HB.out⟩; rw [HR.out]; (first | (simp [*]; done) | (simp [*]; intros; omega)))
  by_cases c2 : pof = 0
  · by_cases c3 : oct = 0
    · cases b6
      · ((go_wp2_with (first | (go_at_call 57; refine (sisID_any _ _).mono ?_; rw [E1.out]; rintro e w' ⟨rfl, rfl⟩) | (go_at_call 93; refine (swithin_any _ _ _ _).mono ?_; (first | rw [E2.out] | rw [E3.out] | rw [E4.out] | rw [E5.out]); rintro e w' ⟨rfl, rfl⟩) | (go_at_call 169; refine (shifts_any _ _ _).mono ?_; rw [E6.out]; rintro e w2 ⟨rfl, hb⟩; replace HX := Lib.hid (blk_keep HX.out hb); replace HB := Lib.hid (HB.out.trans (hb.mono HB.out.size)); clear hb hc; have hc := box_cells HX.out))); go_ret; refine ⟨ret_bool ?_, HB.out⟩; rw [HR.out]; (first | (simp [*]; done) | (simp [*]; intros; omega)))
      cases b7
      · ((go_wp2_with (first | (go_at_call 57; refine (sisID_any _ _).mono ?_; rw [E1.out]; rintro e w' ⟨rfl, rfl⟩) | (go_at_call 93; refine (swithin_any _ _ _ _).mono ?_; (first | rw [E2.out] | rw [E3.out] | rw [E4.out] | rw [E5.out]); rintro e w' ⟨rfl, rfl⟩) | (go_at_call 169; refine (shifts_any _ _ _).mono ?_; rw [E6.out]; rintro e w2 ⟨rfl, hb⟩; replace HX := Lib.hid (blk_keep HX.out hb); replace HB := Lib.hid (HB.out.trans (hb.mono HB.out.size)); clear hb hc; have hc := box_cells HX.out))); have g0 := cell_regrown (hc 7); have g1 := cell_regrown (hc 8); have g2 := cell_regrown (hc 9); have g3 := cell_regrown (hc 10); have g4 := cell_regrown (hc 11); have g5 := cell_regrown (hc 12); refine wp_quietB (by kernel_rfl) (by kernel_rfl) ?_; (repeat (go_big_quiet_step (fail))); go_big_quiet_step ((go_at_call 158; refine Calls.regrown_of (V1.out _))); (repeat (go_big_quiet_step (fail))); refine wpQuiet_nil ?_; intro w9 hb9; go_wp2; go_ret; refine ⟨ret_bool ?_, HB.out.trans (hb9.mono HB.out.size)⟩; rw [HR.out]; (first | (simp [*]; done) | (simp [*]; intros; omega)))
      cases b8
      · ((go_wp2_with (first | (go_at_call 57; refine (sisID_any _ _).mono ?_; rw [E1.out]; rintro e w' ⟨rfl, rfl⟩) | (go_at_call 93; refine (swithin_any _ _ _ _).mono ?_; (first | rw [E2.out] | rw [E3.out] | rw [E4.out] | rw [E5.out]); rintro e w' ⟨rfl, rfl⟩) | (go_at_call 169; refine (shifts_any _ _ _).mono ?_; rw [E6.out]; rintro e w2 ⟨rfl, hb⟩; replace HX := Lib.hid (blk_keep HX.out hb); replace HB := Lib.hid (HB.out.trans (hb.mono HB.out.size)); clear hb hc; have hc := box_cells HX.out))); have g0 := cell_regrown (hc 7); have g1 := cell_regrown (hc 8); have g2 := cell_regrown (hc 9); have g3 := cell_regrown (hc 10); have g4 := cell_regrown (hc 11); have g5 := cell_regrown (hc 12); refine wp_quietB (by kernel_rfl) (by kernel_rfl) ?_; (repeat (go_big_quiet_step (fail))); go_big_quiet_step ((go_at_call 158; refine Calls.regrown_of (V1.out _))); (repeat (go_big_quiet_step (fail))); go_big_quiet_step ((go_at_call 158; refine Calls.regrown_of (V2.out _))); (repeat (go_big_quiet_step (fail))); refine wpQuiet_nil ?_; intro w9 hb9; go_wp2; go_ret; refine ⟨ret_bool ?_, HB.out.trans (hb9.mono HB.out.size)⟩; rw [HR.out]; (first | (simp [*]; done) | (simp [*]; intros; omega)))
      by_cases c4 : nl ≤ nh
      · ((go_wp2_with (first | (go_at_call 57; refine (sisID_any _ _).mono ?_; rw [E1.out]; rintro e w' ⟨rfl, rfl⟩) | (go_at_call 93; refine (swithin_any _ _ _ _).mono ?_; (first | rw [E2.out] | rw [E3.out] | rw [E4.out] | rw [E5.out]); rintro e w' ⟨rfl, rfl⟩) | (go_at_call 169; refine (shifts_any _ _ _).mono ?_; rw [E6.out]; rintro e w2 ⟨rfl, hb⟩; replace HX := Lib.hid (blk_keep HX.out hb); replace HB := Lib.hid (HB.out.trans (hb.mono HB.out.size)); clear hb hc; have hc := box_cells HX.out))); have g0 := cell_regrown (hc 7); have g1 := cell_regrown (hc 8); have g2 := cell_regrown (hc 9); have g3 := cell_regrown (hc 10); have g4 := cell_regrown (hc 11); have g5 := cell_regrown (hc 12); refine wp_quietB (by kernel_rfl) (by kernel_rfl) ?_; (repeat (go_big_quiet_step (fail))); go_big_quiet_step ((go_at_call 158; refine Calls.regrown_of (V1.out _))); (repeat (go_big_quiet_step (fail))); go_big_quiet_step ((go_at_call 158; refine Calls.regrown_of (V2.out _))); (repeat (go_big_quiet_step (fail))); go_big_quiet_step ((go_at_call 98; refine Calls.regrown_of (N1.out _ (HE.out.below (HB.out.trans ((below_regrown _ _ _).mono HB.out.size)))))); (repeat (go_big_quiet_step (fail))); go_big_quiet_step ((go_at_call 98; refine Calls.regrown_of (N2.out _ (HE.out.below (HB.out.trans ((below_regrown _ _ _).mono HB.out.size)))))); (repeat (go_big_quiet_step (fail))); refine wpQuiet_nil ?_; intro w9 hb9; go_wp2; go_ret; refine ⟨ret_bool ?_, HB.out.trans (hb9.mono HB.out.size)⟩; rw [HR.out]; (first | (simp [*]; done) | (simp [*]; intros; omega)))
      · ((go_wp2_with (first | (go_at_call 57; refine (sisID_any _ _).mono ?_; rw [E1.out]; rintro e w' ⟨rfl, rfl⟩) | (go_at_call 93; refine (swithin_any _ _ _ _).mono ?_; (first | rw [E2.out] | rw [E3.out] | rw [E4.out] | rw [E5.out]); rintro e w' ⟨rfl, rfl⟩) | (go_at_call 169; refine (shifts_any _ _ _).mono ?_; rw [E6.out]; rintro e w2 ⟨rfl, hb⟩; replace HX := Lib.hid (blk_keep HX.out hb); replace HB := Lib.hid (HB.out.trans (hb.mono HB.out.size)); clear hb hc; have hc := box_cells HX.out))); have g0 := cell_regrown (hc 7); have g1 := cell_regrown (hc 8); have g2 := cell_regrown (hc 9); have g3 := cell_regrown (hc 10); have g4 := cell_regrown (hc 11); have g5 := cell_regrown (hc 12); refine wp_quietB (by kernel_rfl) (by kernel_rfl) ?_; (repeat (go_big_quiet_step (fail))); go_big_quiet_step ((go_at_call 158; refine Calls.regrown_of (V1.out _))); (repeat (go_big_quiet_step (fail))); go_big_quiet_step ((go_at_call 158; refine Calls.regrown_of (V2.out _))); (repeat (go_big_quiet_step (fail))); go_big_quiet_step ((go_at_call 98; refine Calls.regrown_of (N1.out _ (HE.out.below (HB.out.trans ((below_regrown _ _ _).mono HB.out.size)))))); (repeat (go_big_quiet_step (fail))); go_big_quiet_step ((go_at_call 98; refine Calls.regrown_of (N2.out _ (HE.out.below (HB.out.trans ((below_regrown _ _ _).mono HB.out.size)))))); (repeat (go_big_quiet_step (fail))); refine wpQuiet_nil ?_; intro w9 hb9; go_wp2; go_ret; refine ⟨ret_bool ?_, HB.out.trans (hb9.mono HB.out.size)⟩; rw [HR.out]; (first | (simp [*]; done) | (simp [*]; intros; omega)))
    · ((go_wp2_with (first | (go_at_call 57; refine (sisID_any _ _).mono ?_; rw [E1.out]; rintro e w' ⟨rfl, rfl⟩) | (go_at_call 93; refine (swithin_any _ _ _ _).mono ?_; (first | rw [E2.out] | rw [E3.out] | rw [E4.out] | rw [E5.out]); rintro e w' ⟨rfl, rfl⟩) | (go_at_call 169; refine (shifts_any _ _ _).mono ?_; rw [E6.out]; rintro e w2 ⟨rfl, hb⟩; replace HX := Lib.hid (blk_keep HX.out hb); replace HB := Lib.hid (HB.out.trans (hb.mono HB.out.size)); clear hb hc; have hc := box_cells HX.out))); go_ret; refine ⟨ret_bool ?_, HB.out⟩; rw [HR.out]; (first | (simp [*]; done) | (simp [*]; intros; omega)))
  · cases b6
    · ((go_wp2_with (first | (go_at_call 57; refine (sisID_any _ _).mono ?_; rw [E1.out]; rintro e w' ⟨rfl, rfl⟩) | (go_at_call 93; refine (swithin_any _ _ _ _).mono ?_; (first | rw [E2.out] | rw [E3.out] | rw [E4.out] | rw [E5.out]); rintro e w' ⟨rfl, rfl⟩) | (go_at_call 169; refine (shifts_any _ _ _).mono ?_; rw [E6.out]; rintro e w2 ⟨rfl, hb⟩; replace HX := Lib.hid (blk_keep HX.out hb); replace HB := Lib.hid (HB.out.trans (hb.mono HB.out.size)); clear hb hc; have hc := box_cells HX.out))); go_ret; refine ⟨ret_bool ?_, HB.out⟩; rw [HR.out]; (first | (simp [*]; done) | (simp [*]; intros; omega)))
    cases b7
    · ((go_wp2_with (first | (go_at_call 57; refine (sisID_any _ _).mono ?_; rw [E1.out]; rintro e w' ⟨rfl, rfl⟩) | (go_at_call 93; refine (swithin_any _ _ _ _).mono ?_; (first | rw [E2.out] | rw [E3.out] | rw [E4.out] | rw [E5.out]); rintro e w' ⟨rfl, rfl⟩) | (go_at_call 169; refine (shifts_any _ _ _).mono ?_; rw [E6.out]; rintro e w2 ⟨rfl, hb⟩; replace HX := Lib.hid (blk_keep HX.out hb); replace HB := Lib.hid (HB.out.trans (hb.mono HB.out.size)); clear hb hc; have hc := box_cells HX.out))); have g0 := cell_regrown (hc 7); have g1 := cell_regrown (hc 8); have g2 := cell_regrown (hc 9); have g3 := cell_regrown (hc 10); have g4 := cell_regrown (hc 11); have g5 := cell_regrown (hc 12); refine wp_quietB (by kernel_rfl) (by kernel_rfl) ?_; (repeat (go_big_quiet_step (fail))); go_big_quiet_step ((go_at_call 158; refine Calls.regrown_of (V1.out _))); (repeat (go_big_quiet_step (fail))); refine wpQuiet_nil ?_; intro w9 hb9; go_wp2; go_ret; refine ⟨ret_bool ?_, HB.out.trans (hb9.mono HB.out.size)⟩; rw [HR.out]; (first | (simp [*]; done) | (simp [*]; intros; omega)))
    cases b8
    · ((go_wp2_with (first | (go_at_call 57; refine (sisID_any _ _).mono ?_; rw [E1.out]; rintro e w' ⟨rfl, rfl⟩) | (go_at_call 93; refine (swithin_any _ _ _ _).mono ?_; (first | rw [E2.out] | rw [E3.out] | rw [E4.out] | rw [E5.out]); rintro e w' ⟨rfl, rfl⟩) | (go_at_call 169; refine (shifts_any _ _ _).mono ?_; rw [E6.out]; rintro e w2 ⟨rfl, hb⟩; replace HX := Lib.hid (blk_keep HX.out hb); replace HB := Lib.hid (HB.out.trans (hb.mono HB.out.size)); clear hb hc; have hc := box_cells HX.out))); have g0 := cell_regrown (hc 7); have g1 := cell_regrown (hc 8); have g2 := cell_regrown (hc 9); have g3 := cell_regrown (hc 10); have g4 := cell_regrown (hc 11); have g5 := cell_regrown (hc 12); refine wp_quietB (by kernel_rfl) (by kernel_rfl) ?_; (repeat (go_big_quiet_step (fail))); go_big_quiet_step ((go_at_call 158; refine Calls.regrown_of (V1.out _))); (repeat (go_big_quiet_step (fail))); go_big_quiet_step ((go_at_call 158; refine Calls.regrown_of (V2.out _))); (repeat (go_big_quiet_step (fail))); refine wpQuiet_nil ?_; intro w9 hb9; go_wp2; go_ret; refine ⟨ret_bool ?_, HB.out.trans (hb9.mono HB.out.size)⟩; rw [HR.out]; (first | (simp [*]; done) | (simp [*]; intros; omega)))
    by_cases c4 : nl ≤ nh
    · ((go_wp2_with (first | (go_at_call 57; refine (sisID_any _ _).mono ?_; rw [E1.out]; rintro e w' ⟨rfl, rfl⟩) | (go_at_call 93; refine (swithin_any _ _ _ _).mono ?_; (first | rw [E2.out] | rw [E3.out] | rw [E4.out] | rw [E5.out]); rintro e w' ⟨rfl, rfl⟩) | (go_at_call 169; refine (shifts_any _ _ _).mono ?_; rw [E6.out]; rintro e w2 ⟨rfl, hb⟩; replace HX := Lib.hid (blk_keep HX.out hb); replace HB := Lib.hid (HB.out.trans (hb.mono HB.out.size)); clear hb hc; have hc := box_cells HX.out))); have g0 := cell_regrown (hc 7); have g1 := cell_regrown (hc 8); have g2 := cell_regrown (hc 9); have g3 := cell_regrown (hc 10); have g4 := cell_regrown (hc 11); have g5 := cell_regrown (hc 12); refine wp_quietB (by kernel_rfl) (by kernel_rfl) ?_; (repeat (go_big_quiet_step (fail))); go_big_quiet_step ((go_at_call 158; refine Calls.regrown_of (V1.out _))); (repeat (go_big_quiet_step (fail))); go_big_quiet_step ((go_at_call 158; refine Calls.regrown_of (V2.out _))); (repeat (go_big_quiet_step (fail))); go_big_quiet_step ((go_at_call 98; refine Calls.regrown_of (N1.out _ (HE.out.below (HB.out.trans ((below_regrown _ _ _).mono HB.out.size)))))); (repeat (go_big_quiet_step (fail))); go_big_quiet_step ((go_at_call 98; refine Calls.regrown_of (N2.out _ (HE.out.below (HB.out.trans ((below_regrown _ _ _).mono HB.out.size)))))); (repeat (go_big_quiet_step (fail))); refine wpQuiet_nil ?_; intro w9 hb9; go_wp2; go_ret; refine ⟨ret_bool ?_, HB.out.trans (hb9.mono HB.out.size)⟩; rw [HR.out]; (first | (simp [*]; done) | (simp [*]; intros; omega)))
    · ((go_wp2_with (first | (go_at_call 57; refine (sisID_any _ _).mono ?_; rw [E1.out]; rintro e w' ⟨rfl, rfl⟩) | (go_at_call 93; refine (swithin_any _ _ _ _).mono ?_; (first | rw [E2.out] | rw [E3.out] | rw [E4.out] | rw [E5.out]); rintro e w' ⟨rfl, rfl⟩) | (go_at_call 169; refine (shifts_any _ _ _).mono ?_; rw [E6.out]; rintro e w2 ⟨rfl, hb⟩; replace HX := Lib.hid (blk_keep HX.out hb); replace HB := Lib.hid (HB.out.trans (hb.mono HB.out.size)); clear hb hc; have hc := box_cells HX.out))); have g0 := cell_regrown (hc 7); have g1 := cell_regrown (hc 8); have g2 := cell_regrown (hc 9); have g3 := cell_regrown (hc 10); have g4 := cell_regrown (hc 11); have g5 := cell_regrown (hc 12); refine wp_quietB (by kernel_rfl) (by kernel_rfl) ?_; (repeat (go_big_quiet_step (fail))); go_big_quiet_step ((go_at_call 158; refine Calls.regrown_of (V1.out _))); (repeat (go_big_quiet_step (fail))); go_big_quiet_step ((go_at_call 158; refine Calls.regrown_of (V2.out _))); (repeat (go_big_quiet_step (fail))); go_big_quiet_step ((go_at_call 98; refine Calls.regrown_of (N1.out _ (HE.out.below (HB.out.trans ((below_regrown _ _ _).mono HB.out.size)))))); (repeat (go_big_quiet_step (fail))); go_big_quiet_step ((go_at_call 98; refine Calls.regrown_of (N2.out _ (HE.out.below (HB.out.trans ((below_regrown _ _ _).mono HB.out.size)))))); (repeat (go_big_quiet_step (fail))); refine wpQuiet_nil ?_; intro w9 hb9; go_wp2; go_ret; refine ⟨ret_bool ?_, HB.out.trans (hb9.mono HB.out.size)⟩; rw [HR.out]; (first | (simp [*]; done) | (simp [*]; intros; omega)))
open Go.RowKit Go.Sort

theorem size_any (n : Int) (w : World) (h0 : -1000000000 ≤ n) (h1 : n ≤ 1000000000) : Calls Tryz.prog 124 #[.int .i64 n] w fun e w' => e = .returned (.int .i64 (n.natAbs : Int)) ∧ w = w' := by
  go_enter Tryz.func124, Tryz.ntmps124
  go_wp2
  all_goals (go_ret; exact ⟨ret_int (by omega), rfl⟩)
/-- The function that reckons the greatest common divisor; it lies in block b. -/
def commonV (b : Nat) : Value := .func (Fn.func 123) #[] #[.pointer (some ⟨b, 0, none⟩)]
theorem common_any (b : Nat) : ∀ (y x : Nat) (w : World), x ≤ 1000000000 → y ≤ 1000000000 → w.heap[b]? = some (.cells #[commonV b] 94 (0, 0)) →
    Calls Tryz.prog 123 #[.int .i64 x, .int .i64 y, .pointer (some ⟨b, 0, none⟩)] w fun e w' => e = .returned (.int .i64 (Nat.gcd x y : Nat)) ∧ Below w.heap.size w w' := by
  intro y
  induction y using Nat.strongRecOn with
  | _ y IH =>
  intro x w hx hy hb
  have HI := Lib.hid IH; clear IH
  by_cases h0 : y = 0
  · subst h0
    go_enter Tryz.func123, Tryz.ntmps123
    go_wp2
    go_ret
    exact ⟨by simp, Below.refl _ _⟩
  · have hy0 : ¬ ((y : Int) = 0) := by omega
    have hlt : x % y < y := Nat.mod_lt _ (by omega)
    have e1 : (x : Int).tmod (y : Int) = ((x % y : Nat) : Int) := by rw [Int.tmod_eq_emod_of_nonneg (by omega)]; rfl
    have e2 : IntKind.i64.wrap ((x % y : Nat) : Int) = ((x % y : Nat) : Int) := IntWalk.i64_in _ (by omega)
    have HX := Lib.hid hb
    have hc := box_cells hb
    have g0 := cell_regrown (hc 0)
    simp only [commonV] at g0
    have HG := Lib.hid (show Nat.gcd y (x % y) = Nat.gcd x y by rw [Nat.gcd_comm, ← Nat.gcd_rec, Nat.gcd_comm])
    clear hb hc
    generalize x % y = r at *
    go_enter Tryz.func123, Tryz.ntmps123
    go_wp2
    refine wp_quietB (by kernel_rfl) (by kernel_rfl) ?_
    repeat (go_big_quiet_step (first | (go_at_call 123; (try rw [e1]); (try rw [e2]); refine Calls.regrown_of (HI.out r hlt y _ hy (by omega) (blk_keep HX.out (below_regrown _ _ _))))))
    refine wpQuiet_nil ?_
    intro w2 hb2
    go_wp2
    go_ret
    exact ⟨ret_int (by rw [HG.out]), hb2⟩
set_option maxHeartbeats 1000000 in
theorem reduced_any (n d : Int) (w : World) (h0 : -1000000000 ≤ n) (h1 : n ≤ 1000000000) (h2 : 1 ≤ d) (h3 : d ≤ 1000000) : Calls Tryz.prog 77 #[.agg #[.int .i64 n, .int .i64 d]] w fun e w' =>
    e = .returned (.agg #[.int .i64 (n.tdiv (Nat.gcd n.natAbs d.natAbs : Nat)), .int .i64 (d / (Nat.gcd n.natAbs d.natAbs : Nat))]) ∧ Below w.heap.size w w' := by
  have HGG := Lib.hid (rfl : Nat.gcd n.natAbs d.natAbs = Nat.gcd n.natAbs d.natAbs)
  have hG : 0 < Nat.gcd n.natAbs d.natAbs := Nat.gcd_pos_of_pos_right _ (by omega)
  have hGd : Nat.gcd n.natAbs d.natAbs ≤ d.natAbs := Nat.gcd_le_right _ (by omega)
  go_enter Tryz.func77, Tryz.ntmps77
  go_upto_region 2 with (fail)
  obtain ⟨x1, x2, x3, hb⟩ := box3 (w := w) (A := .cells #[.int .i64 n, .int .i64 d] 109) (B := .cells #[.int .i64 0, .int .i64 0] 109) (C := .cells #[.nilFunc] 94) (Below.refl _ _)
  generalize ((w.alloc (.cells #[.int .i64 n, .int .i64 d] 109)).alloc (.cells #[.int .i64 0, .int .i64 0] 109)).alloc (.cells #[.nilFunc] 94) = W at *
  replace x3 : W.heap[w.heap.size + 1 + 1]? = _ := x3
  have HX1 := Lib.hid x1; have HX2 := Lib.hid x2; have HX3 := Lib.hid x3; have HB := Lib.hid hb
  have hc3 := box_cells x3; have hf3 := box_free x3
  clear x1 x2 x3 hb
  go_wp2
  have y1 : (W.setCell ⟨w.heap.size + 1 + 1, 0, none⟩ (commonV (w.heap.size + 1 + 1))).heap[w.heap.size]? = _ := (heap_setCell_other _ _ _ _ (show _ ≠ _ by simp <;> omega)).trans HX1.out
  have y2 : (W.setCell ⟨w.heap.size + 1 + 1, 0, none⟩ (commonV (w.heap.size + 1 + 1))).heap[w.heap.size + 1]? = _ := (heap_setCell_other _ _ _ _ (show _ ≠ _ by simp <;> omega)).trans HX2.out
  have y3 : (W.setCell ⟨w.heap.size + 1 + 1, 0, none⟩ (commonV (w.heap.size + 1 + 1))).heap[w.heap.size + 1 + 1]? = some (.cells #[commonV (w.heap.size + 1 + 1)] 94 (0, 0)) := heap_setCell_same _ _ _ _ _ _ HX3.out
  have yb := HB.out.setCell (p := ⟨w.heap.size + 1 + 1, 0, none⟩) (by simp <;> omega) (commonV (w.heap.size + 1 + 1))
  replace HX1 := Lib.hid y1; replace HX2 := Lib.hid y2; replace HX3 := Lib.hid y3; replace HB := Lib.hid yb
  clear y1 y2 y3 yb hc3 hf3
  have hcv : commonV (w.heap.size + 1 + 1) = .func (Fn.func 123) #[] #[.pointer (some ⟨w.heap.size + 1 + 1, 0, none⟩)] := rfl
  rw [← hcv]
  generalize W.setCell ⟨w.heap.size + 1 + 1, 0, none⟩ (commonV (w.heap.size + 1 + 1)) = V at *
  have hz := lt_blk HX3.out
  have g1 := cell_regrown (box_cells HX1.out 0); have g2 := cell_regrown (box_cells HX1.out 1); have g3 := cell_regrown (box_cells HX3.out 0)
  rw [hcv] at g3
  simp only [hcv]
  refine wp_quietB (by kernel_rfl) (by kernel_rfl) ?_
  repeat (go_big_quiet_step (first | (go_at_call 124; refine Calls.regrown (size_any _ _ (by omega) (by omega))) | (go_at_call 123; refine Calls.regrown_of (common_any _ _ _ _ (by omega) (by omega) (blk_keep HX3.out (below_regrown _ _ _))))))
  refine wpQuiet_nil ?_
  intro w2 hb2
  replace HX1 := Lib.hid (blk_keep HX1.out hb2); replace HX2 := Lib.hid (blk_keep HX2.out hb2); replace HB := Lib.hid (HB.out.trans (hb2.mono HB.out.size))
  have hz2 := lt_blk HX2.out
  clear hb2 g1 g2 g3 HX3 hz
  generalize hGe : Nat.gcd n.natAbs d.natAbs = G at *
  replace HGG := Lib.hid hGe
  clear hGe
  have hG0 : ¬ ((G : Int) = 0) := by omega
  have hq1 := Int.natAbs_tdiv_le_natAbs n G; have hq2 := Int.natAbs_tdiv_le_natAbs d G
  have e1 : IntKind.i64.wrap (n.tdiv G) = n.tdiv G := IntWalk.i64_in _ (by omega)
  have e2 : IntKind.i64.wrap (d.tdiv G) = d.tdiv G := IntWalk.i64_in _ (by omega)
  have hc1 := box_cells HX1.out; have hc2 := box_cells HX2.out; have hf2 := box_free HX2.out
  have hnd : ¬ d < 0 := by omega
  go_upto_region 6 with (fail)
  have g1 := cell_regrown (box_cells HX1.out 0); have g2 := cell_regrown (box_cells HX1.out 1)
  refine wp_tailB 9 (by kernel_rfl) (by kernel_rfl) ?_
  simp only [List.take_succ_cons, List.take_zero, List.drop_succ_cons, List.drop_zero]
  repeat (go_big_quiet_step (fail))
  refine wpQuiet_nil ?_
  intro w3 hb3
  replace HX2 := Lib.hid (blk_keep HX2.out hb3); replace HB := Lib.hid (HB.out.trans (hb3.mono HB.out.size))
  replace hz2 := lt_blk HX2.out
  clear hb3 g1 g2 HX1 hc1
  replace hc2 := box_cells HX2.out; replace hf2 := box_free HX2.out
  go_wp2
  have e3 : d.tdiv G = d / G := Int.tdiv_eq_ediv_of_nonneg hnd
  exact bodyPost_ret (v := .agg #[.int .i64 (n.tdiv G), .int .i64 (d / G)]) (by simp [results, Tryz.results77, go_sem, hc2, hf2, e3]) rfl ⟨by rw [HGG.out], (HB.out.setCell (by simp <;> omega) _).setCell (by simp <;> omega) _⟩
theorem red_ok (n d : Int) (h2 : 1 ≤ d) : (n.tdiv (Nat.gcd n.natAbs d.natAbs : Nat) = n ∧ d / (Nat.gcd n.natAbs d.natAbs : Nat) = d) ↔ Nat.gcd n.natAbs d.natAbs = 1 := by
  have hG : 0 < Nat.gcd n.natAbs d.natAbs := Nat.gcd_pos_of_pos_right _ (by omega)
  generalize Nat.gcd n.natAbs d.natAbs = G at *
  constructor
  · rintro ⟨_, h⟩
    apply Classical.byContradiction
    intro hg
    have h5 := Int.mul_ediv_self_le (x := d) (k := (G : Int)) (by omega)
    rw [h] at h5
    have : 2 * d ≤ (G : Int) * d := Int.mul_le_mul_of_nonneg_right (by omega) (by omega)
    omega
  · rintro rfl
    simp
open Go.RowKit Go.Sort

theorem eql_fr (x y x' y' : Int) (w : World) : (binOp .eql 109 (.agg #[.int .i64 x, .int .i64 y]) (.agg #[.int .i64 x', .int .i64 y'])).run Tryz.prog w = .ok (.bool (x == x' && y == y')) w := by
  rw [run_eql_struct]
  simp [go_sem]
  cases h1 : x == x' <;> cases h2 : y == y' <;> simp_all [go_sem]
theorem rt_iff (n d : Int) : rtOk ⟨n, d⟩ = true ↔ (1 ≤ d ∧ d ≤ 1000000) ∧ (-1000000000 ≤ n ∧ n ≤ 1000000000) ∧ Nat.gcd n.natAbs d.natAbs = 1 := rtOk_iff _
theorem mul_bd {a b A B : Int} (h1 : -A ≤ a) (h2 : a ≤ A) (h3 : -B ≤ b) (h4 : b ≤ B) : -(A * B) ≤ a * b ∧ a * b ≤ A * B := by
  have h : (a * b).natAbs ≤ (A * B).natAbs := by
    rw [Int.natAbs_mul, Int.natAbs_mul]
    exact Nat.mul_le_mul (by omega) (by omega)
  have h5 : 0 ≤ A * B := Int.mul_nonneg (by omega) (by omega)
  generalize a * b = x at *
  generalize A * B = y at *
  omega
set_option maxHeartbeats 1000000 in
theorem RatValid_any (n d : Int) (w : World) : Calls Tryz.prog 39 #[.agg #[.int .i64 n, .int .i64 d]] w fun e w' => e = .returned (.bool (rtOk ⟨n, d⟩)) ∧ Below w.heap.size w w' := by
  by_cases hv : (1 ≤ d ∧ d ≤ 1000000) ∧ -1000000000 ≤ n ∧ n ≤ 1000000000
  · obtain ⟨⟨h2, h3⟩, h0, h1⟩ := hv
    have HR := Lib.hid (red_ok n d h2)
    have hRt := Lib.hid (show rtOk ⟨n, d⟩ = decide (Nat.gcd n.natAbs d.natAbs = 1) by simp [rtOk, inB, h0, h1, h2, h3])
    go_enter Tryz.func39, Tryz.ntmps39
    go_wp2
    have HX1 := Lib.hid (heap_alloc_new w (.cells #[.int .i64 n, .int .i64 d] 32))
    have HB := Lib.hid ((Below.refl w.heap.size w).alloc (Nat.le_refl _) (.cells #[.int .i64 n, .int .i64 d] 32))
    generalize w.alloc (.cells #[.int .i64 n, .int .i64 d] 32) = W at *
    have g1 := cell_regrown (box_cells HX1.out 0); have g2 := cell_regrown (box_cells HX1.out 1)
    refine wp_quietB (by kernel_rfl) (by kernel_rfl) ?_
    have heq := eql_fr (n.tdiv (Nat.gcd n.natAbs d.natAbs : Nat)) (d / (Nat.gcd n.natAbs d.natAbs : Nat)) n d
    repeat (go_big_quiet_step (first | (go_at_call 77; refine Calls.regrown_of (reduced_any _ _ _ h0 h1 h2 h3))))
    refine wpQuiet_nil ?_
    intro w2 hb2
    go_wp2
    go_ret
    exact ⟨ret_bool (by rw [hRt.out, Bool.eq_iff_iff]; simpa using HR.out), HB.out.trans (hb2.mono HB.out.size)⟩
  · go_enter Tryz.func39, Tryz.ntmps39
    go_wp2
    all_goals first | omega | (go_ret; exact ⟨ret_bool (by rw [Eq.comm, ← Bool.not_eq_true, rtOk_iff]; intro h; exact hv ⟨h.1, h.2.1⟩), (Below.refl _ _).alloc (Nat.le_refl _) _⟩)
theorem RatCompare_any (a b c d : Int) (w : World) (h1 : rtOk ⟨a, b⟩ = true) (h2 : rtOk ⟨c, d⟩ = true) : Calls Tryz.prog 40 #[.agg #[.int .i64 a, .int .i64 b], .agg #[.int .i64 c, .int .i64 d]] w fun e w' =>
    e = .returned (.tuple #[.int .i64 (if a * d < c * b then -1 else if c * b < a * d then 1 else 0), .int .i64 0]) ∧ Below w.heap.size w w' := by
  obtain ⟨⟨p1, p2⟩, ⟨p3, p4⟩, _⟩ := (rt_iff a b).1 h1
  obtain ⟨⟨q1, q2⟩, ⟨q3, q4⟩, _⟩ := (rt_iff c d).1 h2
  obtain ⟨k1, k2⟩ := mul_bd (A := 1000000000) (B := 1000000) p3 p4 (by omega) q2
  obtain ⟨k3, k4⟩ := mul_bd (A := 1000000000) (B := 1000000) q3 q4 (by omega) p2
  have e1 : IntKind.i64.wrap (a * d) = a * d := IntWalk.i64_in _ (by omega)
  have e2 : IntKind.i64.wrap (c * b) = c * b := IntWalk.i64_in _ (by omega)
  have H1 := Lib.hid h1; have H2 := Lib.hid h2
  clear h1 h2
  go_enter Tryz.func40, Tryz.ntmps40
  go_upto_region 1 with (fail)
  obtain ⟨x1, x2, hb⟩ := box2 (w := w) (A := .cells #[.int .i64 a, .int .i64 b] 32) (B := .cells #[.int .i64 c, .int .i64 d] 32) (Below.refl _ _)
  generalize (w.alloc (.cells #[.int .i64 a, .int .i64 b] 32)).alloc (.cells #[.int .i64 c, .int .i64 d] 32) = W at *
  have HX1 := Lib.hid x1; have HX2 := Lib.hid x2; have HB := Lib.hid hb
  have hc1 := box_cells x1; have hc2 := box_cells x2
  clear x1 x2 hb
  go_wp2_with (go_at_call 39; refine (RatValid_any _ _ _).mono ?_; (first | rw [H1.out] | rw [H2.out]); rintro e w2 ⟨rfl, hb⟩; replace HX1 := Lib.hid (blk_keep HX1.out hb); replace HX2 := Lib.hid (blk_keep HX2.out hb); replace HB := Lib.hid (HB.out.trans (hb.mono HB.out.size)); clear hb hc1 hc2; have hc1 := box_cells HX1.out; have hc2 := box_cells HX2.out)
  go_quiet (fail)
  go_wp2
  all_goals (go_ret2; exact ⟨rfl, below_drewN HB.out nq⟩)
theorem less_any (a b c d : Int) (w : World) (h1 : rtOk ⟨a, b⟩ = true) (h2 : rtOk ⟨c, d⟩ = true) : Calls Tryz.prog 131 #[.agg #[.int .i64 a, .int .i64 b], .agg #[.int .i64 c, .int .i64 d]] w fun e w' =>
    e = .returned (.bool (decide (a * d < c * b))) ∧ Below w.heap.size w w' := by
  have H1 := Lib.hid h1; have H2 := Lib.hid h2
  have HN := Lib.hid (show (if a * d < c * b then (-1 : Int) else if c * b < a * d then 1 else 0) < 0 ↔ a * d < c * b by split <;> (try split) <;> simp_all)
  clear h1 h2
  go_enter Tryz.func131, Tryz.ntmps131
  go_wp2_with (go_at_call 40; refine (RatCompare_any _ _ _ _ _ H1.out H2.out).mono ?_; generalize (if a * d < c * b then (-1 : Int) else if c * b < a * d then 1 else 0) = R at *; rintro e w2 ⟨rfl, hb⟩)
  go_ret
  exact ⟨ret_bool (by simpa using HN.out), ((((Below.refl _ _).alloc (Nat.le_refl _) _).alloc (by simp) _)).trans (hb.mono (by simp; omega))⟩
theorem isDur_any (n d : Int) (w : World) : Calls Tryz.prog 130 #[.agg #[.int .i64 n, .int .i64 d]] w fun e w' => e = .returned (.bool (durB ⟨n, d⟩)) ∧ Below w.heap.size w w' := by
  have HD := Lib.hid (show durB ⟨n, d⟩ = (rtOk ⟨n, d⟩ && decide (0 ≤ n) && decide (1680 % d = 0)) from rfl)
  cases hr : rtOk ⟨n, d⟩
  · rw [hr] at HD
    go_enter Tryz.func130, Tryz.ntmps130
    go_wp2_with (go_at_call 39; refine (RatValid_any _ _ _).mono ?_; rw [hr]; rintro e w2 ⟨rfl, hb⟩; have HB := Lib.hid (allocB hb); clear hb)
    go_ret
    exact ⟨ret_bool (by rw [HD.out]; rfl), HB.out⟩
  · obtain ⟨⟨q1, q2⟩, _⟩ := (rt_iff n d).1 hr
    have e0 : ¬ d = 0 := by omega
    have e1 : Int.tmod 1680 d = 1680 % d := Int.tmod_eq_emod_of_nonneg (by decide)
    have e2 : IntKind.i64.wrap (1680 % d) = 1680 % d := IntWalk.i64_in _ (by have := Int.emod_nonneg 1680 e0; have := Int.emod_lt_of_pos 1680 (show 0 < d by omega); omega)
    rw [hr] at HD
    go_enter Tryz.func130, Tryz.ntmps130
    go_wp2_with (go_at_call 39; refine (RatValid_any _ _ _).mono ?_; rw [hr]; rintro e w2 ⟨rfl, hb⟩; have x1 := box_below hb; have HB := Lib.hid (allocB hb); have hc := box_cells x1; clear hb x1)
    all_goals (go_ret; exact ⟨ret_bool (by rw [HD.out, Bool.eq_iff_iff]; simp <;> omega), HB.out⟩)
open Go.RowKit Go.Sort

theorem bars_bad {l : List Ba} {k : Nat} (hk : k < l.length) (h : barOk l[k] = false) : barsB l = false := by
  have : l.all barOk = false := by
    rw [← Bool.not_eq_true]
    intro hh
    have := List.all_eq_true.1 hh l[k] (by simp)
    rw [h] at this; cases this
  simp [barsB, this]
theorem bars_dup {l : List Ba} (h : ¬ (l.map Ba.id).Nodup) : barsB l = false := by simp [barsB, h]
theorem bars_done {l : List Ba} (h : (l.take l.length).all barOk = true) (hn : (l.map Ba.id).Nodup) : barsB l = (decide (1 ≤ l.length) && decide (l.length ≤ 4000)) := by
  rw [List.take_length] at h
  simp [barsB, h, hn]
theorem all_take {α : Type} {l : List α} {p : α → Bool} {k : Nat} (hk : k < l.length) (h : (l.take k).all p = true) (hp : p l[k] = true) : (l.take (k + 1)).all p = true := by
  rw [List.take_succ_eq_append_getElem hk, List.all_append, h, Bool.true_and]
  simp [hp]
set_option maxRecDepth 100000 in
set_option maxHeartbeats 4000000 in
theorem MetValid_any (a : Option Addr) (cap : Nat) (l : List Ba) (w : World) (hl : l.length ≤ 100000) (hm : BaAt w a l) :
    Calls Tryz.prog 84 #[.slice a l.length cap] w fun e w' => e = .returned (.bool (barsB l)) ∧ Below w.heap.size w w' := by
  have hmm := @run_makeMap Tryz.prog
  have HM := Lib.hid hm; clear hm
  go_enter Tryz.func84, Tryz.ntmps84
  go_wp2
  have hb0 := (Below.refl w.heap.size w).alloc (Nat.le_refl _) (.map #[] 0); have hu0 : SeenAt (w.alloc (.map #[] 0)) w.heap.size (l.map Ba.id) 0 := ⟨[], MapAt.new w encJ, fun x => by simp [mget_nil]⟩; have HB := Lib.hid hb0; have HU := Lib.hid hu0; clear hb0 hu0; generalize w.alloc (.map #[] 0) = w1 at *; obtain ⟨r, hr⟩ : ∃ r, r = w.heap.size := ⟨_, rfl⟩; rw [← hr]; rw [← hr] at HU; have HR := Lib.hid (show w.heap.size ≤ r by omega); clear hr
  go_loopw [9] (fun i wr => ∃ k : Nat, k ≤ l.length ∧ i = .int .i64 k ∧ SeenAt wr r (l.map Ba.id) k ∧ ((l.map Ba.id).take k).Nodup ∧ (l.take k).all barOk = true ∧ Below w.heap.size w wr) (fun i _ => l.length - (intOf i).toNat)
  case atStart => exact ⟨0, Nat.zero_le _, rfl, HU.out, by simp, by simp, HB.out⟩
  case round =>
    clear HB HU
    obtain ⟨k, hk, rfl, hu, hnd, hall, hb⟩ := hrel
    have HU := Lib.hid hu; have HND := Lib.hid hnd; have HB := Lib.hid hb; have HAL := Lib.hid hall
    clear hu hnd hb hall
    by_cases hlt : k < l.length
    · obtain ⟨b, off, rfl, _, c0, c1, c2, c3⟩ := HM.out.get k hlt
      have g0 := keepE c0 HB.out; have g1 := keepE c1 HB.out; have g2 := keepE c2 HB.out; have g3 := keepE c3 HB.out
      have hlt' : k < (l.map Ba.id).length := by simpa using hlt
      have hid : (l.map Ba.id)[k]'hlt' = l[k].id := by simp
      have hn1 := nodup_take hlt' HND.out
      have hd1 := dup_take hlt'
      have hp1 := fun (m : List (Int × Value)) hspec => seen_put (m := m) hspec hlt'
      rw [hid] at hn1 hd1
      simp only [hid] at hp1
      have HN1 := Lib.hid hn1; have HD1 := Lib.hid hd1; have HP1 := Lib.hid hp1
      have HL1 := Lib.hid (fun w' hb => SeenAt.look (HU.out.below (W' := w') hb) l[k].id)
      have HBad := Lib.hid (bars_bad hlt); have HOk := Lib.hid (all_take (p := barOk) hlt HAL.out)
      have HIff := Lib.hid (barOk_iff l[k])
      clear hn1 hd1 hp1 hid c0 c1 c2 c3
      generalize l[k] = B at *
      obtain ⟨id, ⟨n, d⟩, key⟩ := B
      generalize ((l.map Ba.id).take k).contains id = U at *
      go_upto_region 5 with (fail)
      have HX := Lib.hid (heap_alloc_new wr (.cells #[.int .i64 id, .int .i64 n, .int .i64 d, .int .i64 key] 105))
      have hb := (Below.refl wr.heap.size wr).alloc (Nat.le_refl _) (.cells #[.int .i64 id, .int .i64 n, .int .i64 d, .int .i64 key] 105)
      have hlook := HL1.out _ hb
      have HU2 := Lib.hid (HU.out.below hb)
      replace HB := Lib.hid (HB.out.trans (hb.mono HB.out.size))
      generalize wr.alloc (.cells #[.int .i64 id, .int .i64 n, .int .i64 d, .int .i64 key] 105) = W at *
      have hc := box_cells HX.out
      clear hb g0 g1 g2 g3 HU HL1
      by_cases hg : (1 ≤ id ∧ id ≤ 1000000) ∧ U = false ∧ (-7 ≤ key ∧ key ≤ 7)
      · obtain ⟨⟨i1, i2⟩, rfl, k1, k2⟩ := hg
        cases hd : durB ⟨n, d⟩
        · have HF := Lib.hid (HBad.out (by rw [← Bool.not_eq_true, HIff.out]; rintro ⟨_, x, _⟩; rw [hd] at x; cases x))
          go_wp2_with (go_at_call 130; refine (isDur_any _ _ _).mono ?_; rw [hd]; rintro e w2 ⟨rfl, hb⟩; replace HB := Lib.hid (HB.out.trans (hb.mono HB.out.size)); clear hb hlook hc)
          go_ret
          exact ⟨by rw [HF.out]; rfl, HB.out⟩
        · by_cases hn0 : n = 0
          · have HF := Lib.hid (HBad.out (by rw [← Bool.not_eq_true, HIff.out]; rintro ⟨_, _, x, _⟩; exact x hn0))
            subst hn0
            go_wp2_with (go_at_call 130; refine (isDur_any _ _ _).mono ?_; rw [hd]; rintro e w2 ⟨rfl, hb⟩; replace HB := Lib.hid (HB.out.trans (hb.mono HB.out.size)); have hc2 := box_cells (blk_keep HX.out hb); clear hb hlook hc)
            go_ret
            exact ⟨by rw [HF.out]; rfl, HB.out⟩
          · have hr2 : rtOk ⟨n, d⟩ = true := by unfold durB at hd; simp only [Bool.and_eq_true] at hd; exact hd.1.1
            have hr1 : rtOk ⟨24, 1⟩ = true := by decide +kernel
            have HR1 := Lib.hid hr1; have HR2 := Lib.hid hr2; clear hr1 hr2
            have HD := Lib.hid hd; clear hd
            have HN0 := Lib.hid hn0
            by_cases hls : 24 * d < n
            · have HF := Lib.hid (HBad.out (by rw [← Bool.not_eq_true, HIff.out]; rintro ⟨_, _, _, x, _⟩; exact x hls))
              go_wp2_with (first | (go_at_call 130; refine (isDur_any _ _ _).mono ?_; rw [HD.out]; rintro e w2 ⟨rfl, hb⟩; replace HB := Lib.hid (HB.out.trans (hb.mono HB.out.size)); have HX2 := Lib.hid (blk_keep HX.out hb); have hc2 := box_cells HX2.out; clear hb hlook hc) | (go_at_call 131; refine (less_any _ _ _ _ _ HR1.out HR2.out).mono ?_; rw [Int.mul_one, show decide (24 * d < n) = true from decide_eq_true (by omega)]; rintro e w3 ⟨rfl, hb⟩; replace HB := Lib.hid (HB.out.trans (hb.mono HB.out.size)); clear hb hc2))
              go_ret
              exact ⟨by rw [HF.out]; rfl, HB.out⟩
            · have HO := Lib.hid (HOk.out (HIff.out.2 ⟨by simp [isID, inB]; omega, HD.out, HN0.out, hls, k1, k2⟩))
              have HN2 := Lib.hid (HN1.out rfl)
              go_wp2_with (first | (go_at_call 130; refine (isDur_any _ _ _).mono ?_; rw [HD.out]; rintro e w2 ⟨rfl, hb⟩; replace HB := Lib.hid (HB.out.trans (hb.mono HB.out.size)); replace HU2 := Lib.hid (HU2.out.below hb); have HX2 := Lib.hid (blk_keep HX.out hb); have hc2 := box_cells HX2.out; clear hb hlook hc) | (go_at_call 131; refine (less_any _ _ _ _ _ HR1.out HR2.out).mono ?_; rw [Int.mul_one, show decide (24 * d < n) = false from decide_eq_false (by omega)]; rintro e w3 ⟨rfl, hb⟩; replace HB := Lib.hid (HB.out.trans (hb.mono HB.out.size)); replace HX2 := Lib.hid (blk_keep HX2.out hb); replace hc2 := box_cells HX2.out; obtain ⟨m, hmap, hspec⟩ := HU2.out.below hb; have HMap := Lib.hid hmap; have HSpec := Lib.hid (HP1.out m hspec); clear hmap hspec HU2 HP1; clear hb) | (refine wpList_mapUpdate_at rfl (.tmp 53) (.tmp 55) _ 147 (.inl rfl) Tryz.underlying147 keyJ r m rfl HMap.out id rfl (.bool true) rfl ?_; intro w5 hm5 hg5; have HM5 := Lib.hid hm5; have HB5 := Lib.hid (KeepB.below ((KeepB.of_below' (S := []) HB.out).grown hg5 HB.out.size (fun k e => by cases e; exact HR.out))); clear hm5 hg5))
              go_roundw
              case rel => exact ⟨k + 1, by omega, by go_num, ⟨_, HM5.out, HSpec.out⟩, HN2.out, HO.out, HB5.out⟩
              case measure => simp [intOf]; omega
      · have HF := Lib.hid (show barsB l = false by
          by_cases hU : U = true
          · exact bars_dup (HD1.out hU)
          · refine HBad.out ?_
            rw [← Bool.not_eq_true, HIff.out]
            rintro ⟨x, _, _, _, y, z⟩
            simp [isID, inB] at x
            exact hg ⟨x, by simpa using hU, y, z⟩)
        cases U
        · have HG := Lib.hid (show ¬ ((1 ≤ id ∧ id ≤ 1000000) ∧ -7 ≤ key ∧ key ≤ 7) from fun x => hg ⟨x.1, rfl, x.2⟩); clear hg
          go_wp2_with (fail)
          all_goals first | (go_ret; exact ⟨by rw [HF.out]; rfl, HB.out⟩) | (exfalso; apply HG.out; omega)
        · clear hg
          go_wp2_with (fail)
          all_goals (go_ret; exact ⟨by rw [HF.out]; rfl, HB.out⟩)
    · have HF := Lib.hid (bars_done (l := l) (by have := HAL.out; rwa [show k = l.length by omega] at this) (by have := HND.out; rwa [List.take_of_length_le (by simp; omega)] at this))
      go_wp2
      all_goals (go_ret; refine ⟨ret_bool ?_, HB.out⟩; rw [HF.out, Bool.eq_iff_iff]; simp; omega)
end Go.Proofs.YtcelciomhngajaaGreatDoor

