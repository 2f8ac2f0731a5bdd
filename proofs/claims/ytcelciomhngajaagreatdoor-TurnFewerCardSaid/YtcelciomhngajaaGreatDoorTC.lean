/- Texts of this seat, laid together: TurnAt, TurnAt2, TurnLat, TurnVal, TurnVal2. -/
import Derived.Test.YtcelciomhngajaaGreatDoorTB
import Derived.Test.YtcelciomhngajaaGreatDoorSH
import Derived.Test.YtcelciomhngajaaGreatDoorSC
/- The tempo of a bar: what the reference finds. -/
namespace Go.Proofs.YtcelciomhngajaaGreatDoor
set_option linter.unusedSimpArgs false
set_option linter.unusedVariables false
open Go.RowKit Go.Sort

def Te.cells (t : Te) : List Value := [.int .i64 t.bar, .int .i64 t.q.n, .int .i64 t.q.d]
/-- A slice of tempos. -/
def TeAt (w : World) (a : Option Addr) (l : List Te) : Prop := SlAt w a 3 (l.map Te.cells)
theorem TeAt.below {w w' : World} {a : Option Addr} {l : List Te} (h : TeAt w a l) (hb : Below w.heap.size w w') : TeAt w' a l := SlAt.below h hb
theorem TeAt.get {w : World} {a : Option Addr} {l : List Te} (h : TeAt w a l) (i : Nat) (hi : i < l.length) : ∃ b off, a = some ⟨b, off, none⟩ ∧ b < w.heap.size ∧ w.cell? ⟨b, off + i * 3, none⟩ = some (.int .i64 l[i].bar) ∧ w.cell? ⟨b, off + i * 3 + 1, none⟩ = some (.int .i64 l[i].q.n) ∧ w.cell? ⟨b, off + i * 3 + 2, none⟩ = some (.int .i64 l[i].q.d) := by
  obtain ⟨b, off, e, hl, _, hc⟩ := h i l[i].cells (by simp [List.getElem?_eq_getElem hi])
  exact ⟨b, off, e, hl, hc 0 _ rfl, hc 1 _ rfl, hc 2 _ rfl⟩
theorem rising_next : ∀ (l : List Te), risingT l = true → ∀ i j (hi : i < l.length) (hj : j < l.length), i < j → l[i].bar < l[j].bar
  | [], _, i, j, hi, _, _ => by simp at hi
  | [a], _, i, j, hi, hj, h => by simp at hi hj; omega
  | a :: b :: r, hr, i, j, hi, hj, h => by
    simp only [risingT, Bool.and_eq_true, decide_eq_true_eq] at hr
    have ih := rising_next (b :: r) hr.2
    cases j with
    | zero => omega
    | succ j =>
      cases i with
      | zero =>
        rcases Nat.eq_zero_or_pos j with e | e
        · subst e; exact hr.1
        · have := ih 0 j (by simp) (by simp at hj ⊢; omega) e
          have h1 := hr.1
          simp only [List.getElem_cons_zero, List.getElem_cons_succ] at this ⊢
          omega
      | succ i =>
        have := ih i j (by simp at hi ⊢; omega) (by simp at hj ⊢; omega) (by omega)
        simpa using this
theorem atT_at : ∀ (l : List Te) (bar : Int) (k : Nat) (hk : k + 1 ≤ l.length), (∀ j (hj : j < l.length), j ≤ k → l[j].bar ≤ bar) → (∀ j (hj : j < l.length), k < j → bar < l[j].bar) → atT l bar = (l[k]'(by omega)).q
  | [], _, k, hk, _, _ => by simp at hk
  | t :: r, bar, 0, hk, h1, h2 => by
    rw [atT, if_neg]
    · rfl
    · intro ha
      obtain ⟨u, hu, hle⟩ := List.any_eq_true.1 ha
      obtain ⟨j, hj, rfl⟩ := List.getElem_of_mem hu
      have := h2 (j + 1) (by simp; omega) (by omega)
      simp only [List.getElem_cons_succ] at this
      have := of_decide_eq_true hle
      omega
  | t :: r, bar, k + 1, hk, h1, h2 => by
    have hkr : k + 1 ≤ r.length := by simpa using hk
    rw [atT, if_pos]
    · rw [atT_at r bar k hkr (fun j hj hjk => by have := h1 (j + 1) (by simp; omega) (by omega); simpa using this) (fun j hj hjk => by have := h2 (j + 1) (by simp; omega) (by omega); simpa using this)]
      simp
    · refine List.any_eq_true.2 ⟨r[k]'(by omega), List.getElem_mem _, decide_eq_true ?_⟩
      have := h1 (k + 1) (by simp; omega) (by omega)
      simpa using this
open Go.RowKit Go.Sort

theorem tat1_any (b1 b2 b off cap : Nat) (l : List Te) (bar : Int) (k : Nat) (w : World) (x1 : w.heap[b1]? = some (.cells #[.slice (some ⟨b, off, none⟩) l.length cap] 27 (0, 0))) (x2 : w.heap[b2]? = some (.cells #[.int .i64 bar] 3 (0, 0))) (hm : TeAt w (some ⟨b, off, none⟩) l) (hk : k < l.length) (hl : l.length ≤ 100000) :
    Calls Tryz.prog 135 #[.int .i64 k, .pointer (some ⟨b1, 0, none⟩), .pointer (some ⟨b2, 0, none⟩)] w fun e w' => e = .returned (.bool (decide (bar < l[k].bar))) ∧ Below w.heap.size w w' := by
  obtain ⟨b', off', e, hbl, c0, _, _⟩ := hm.get k hk
  cases e
  have hc1 := box_cells x1; have hc2 := box_cells x2
  clear x1 x2 hm
  generalize l[k].bar = B at *
  go_enter Tryz.func135, Tryz.ntmps135
  go_wp2
  go_quiet (fail)
  go_wp2
  go_ret
  exact ⟨rfl, below_drewN (Below.refl _ _) nq⟩
set_option maxRecDepth 100000 in
set_option maxHeartbeats 2000000 in
theorem tsearch_any (b1 b2 b off cap : Nat) (l : List Te) (bar : Int) (w : World) (x1 : w.heap[b1]? = some (.cells #[.slice (some ⟨b, off, none⟩) l.length cap] 27 (0, 0))) (x2 : w.heap[b2]? = some (.cells #[.int .i64 bar] 3 (0, 0))) (hm : TeAt w (some ⟨b, off, none⟩) l) (hr : risingT l = true) (hl : l.length ≤ 100000) :
    Calls Tryz.prog 134 #[.int .i64 l.length, .func (Fn.func 135) #[] #[.pointer (some ⟨b1, 0, none⟩), .pointer (some ⟨b2, 0, none⟩)]] w fun e w' => ∃ k : Nat, e = .returned (.int .i64 k) ∧ Below w.heap.size w w' ∧ k ≤ l.length ∧ (∀ j (hj : j < l.length), j < k → l[j].bar ≤ bar) ∧ (∀ j (hj : j < l.length), k ≤ j → bar < l[j].bar) := by
  have H1 := Lib.hid x1; have H2 := Lib.hid x2; have HM := Lib.hid hm; have HR := Lib.hid (rising_next l hr)
  clear x1 x2 hm hr
  go_enter Tryz.func134, Tryz.ntmps134
  go_wp2
  go_loopw [5, 6] (fun s5 s6 wr => ∃ i j : Nat, s5 = .int .i64 i ∧ s6 = .int .i64 j ∧ i ≤ j ∧ j ≤ l.length ∧ Hid (∀ x (hx : x < l.length), x < i → l[x].bar ≤ bar) ∧ Hid (∀ x (hx : x < l.length), j ≤ x → bar < l[x].bar) ∧ Below w.heap.size w wr) (fun s5 s6 _ => (intOf s6).toNat - (intOf s5).toNat)
  case atStart => exact ⟨0, l.length, rfl, rfl, Nat.zero_le _, Nat.le_refl _, Lib.hid (fun _ _ h => absurd h (Nat.not_lt_zero _)), Lib.hid (fun _ hx h => absurd hx (by omega)), Below.refl _ _⟩
  case round =>
    obtain ⟨i, j, rfl, rfl, hij, hjl, HI, HJ, hb⟩ := hrel
    have HB := Lib.hid hb
    clear hb
    by_cases hlt : i < j
    · obtain ⟨m, hm⟩ : ∃ m : Nat, m = (i + j) / 2 := ⟨_, rfl⟩
      have hm1 : i ≤ m := by omega
      have hm2 : m < j := by omega
      have e1 : ((i : Int) + (j : Int)) / 2 = (m : Int) := by omega
      have hml : m < l.length := by omega
      have hwu : IntKind.u64.wrap ((i : Int) + (j : Int)) = (i : Int) + (j : Int) := by rw [IntKind.wrap_u64]; omega
      have HCl := Lib.hid (fun V hV => tat1_any b1 b2 b off cap l bar m V (blk_keep H1.out hV) (blk_keep H2.out hV) (HM.out.below hV) hml hl)
      have HLo := Lib.hid (show l[m].bar ≤ bar → ∀ x (hx : x < l.length), x < m + 1 → l[x].bar ≤ bar from fun h x hx hxm => by
        rcases Nat.eq_or_lt_of_le (show x ≤ m by omega) with e | e
        · subst e; exact h
        · have := HR.out x m hx hml e; omega)
      have HHi := Lib.hid (show bar < l[m].bar → ∀ x (hx : x < l.length), m ≤ x → bar < l[x].bar from fun h x hx hxm => by
        rcases Nat.eq_or_lt_of_le hxm with e | e
        · subst e; exact h
        · have := HR.out m x hml hx e; omega)
      clear hm
      by_cases hle : l[m].bar ≤ bar
      · have hd : decide (bar < l[m].bar) = false := decide_eq_false (by omega)
        replace HLo := Lib.hid (HLo.out hle)
        rw [hd] at HCl
        clear hle hd
        go_wp2_with (go_at_call 135; refine (HCl.out _ HB.out).mono ?_; rintro e w' ⟨rfl, hb⟩; replace HB := Lib.hid (HB.out.trans (hb.mono HB.out.size)); clear hb)
        go_roundw
        case rel => exact ⟨m + 1, j, by go_num, rfl, by omega, hjl, HLo, HJ, HB.out⟩
        case measure => simp [intOf]; omega
      · have hd : decide (bar < l[m].bar) = true := decide_eq_true (by omega)
        replace HHi := Lib.hid (HHi.out (by omega))
        rw [hd] at HCl
        clear hle hd
        go_wp2_with (go_at_call 135; refine (HCl.out _ HB.out).mono ?_; rintro e w' ⟨rfl, hb⟩; replace HB := Lib.hid (HB.out.trans (hb.mono HB.out.size)); clear hb)
        go_roundw
        case rel => exact ⟨i, m, rfl, rfl, by omega, by omega, HI, HHi, HB.out⟩
        case measure => simp [intOf]; omega
    · obtain rfl : i = j := by omega
      go_wp2
      go_ret
      exact ⟨i, rfl, HB.out, hjl, HI.out, HJ.out⟩
set_option maxHeartbeats 1000000 in
theorem tempoAt_any (a : Option Addr) (cap : Nat) (l : List Te) (bar : Int) (w : World) (hm : TeAt w a l) (hlen : l.length ≤ 100000) (hr : risingT l = true) (h0 : ∃ h : 0 < l.length, (l[0]'h).bar ≤ bar) :
    Calls Tryz.prog 88 #[.slice a l.length cap, .int .i64 bar] w fun e w' => e = .returned (.agg #[.int .i64 (atT l bar).n, .int .i64 (atT l bar).d]) ∧ Below w.heap.size w w' := by
  obtain ⟨hpos, hfirst⟩ := h0
  obtain ⟨b, off, rfl, hbl, _, _, _⟩ := hm.get 0 hpos
  have HM := Lib.hid hm; have HF := Lib.hid hfirst; have HRi := Lib.hid hr
  clear hm hr hfirst
  go_enter Tryz.func88, Tryz.ntmps88
  go_upto_region 1 with (fail)
  obtain ⟨y1, y2, y3, hb⟩ := box3 (w := w) (A := .cells #[.slice (some ⟨b, off, none⟩) l.length cap] 27 (0, 0)) (B := .cells #[.int .i64 bar] 3 (0, 0)) (C := .cells #[.int .i64 0, .int .i64 0] 32 (0, 0)) (Below.refl _ _)
  generalize ((w.alloc (.cells #[.slice (some ⟨b, off, none⟩) l.length cap] 27 (0, 0))).alloc (.cells #[.int .i64 bar] 3 (0, 0))).alloc (.cells #[.int .i64 0, .int .i64 0] 32 (0, 0)) = W at *
  replace y2 : W.heap[w.heap.size + 1]? = _ := y2
  replace y3 : W.heap[w.heap.size + 1 + 1]? = _ := y3
  have HX1 := Lib.hid y1; have HX2 := Lib.hid y2; have HX3 := Lib.hid y3; have HB := Lib.hid hb
  have hc1 := box_cells y1
  clear y1 y2 y3 hb hbl
  go_wp2_with (fail)
  refine (tsearch_any _ _ b off cap l bar _ HX1.out HX2.out (HM.out.below HB.out) HRi.out hlen).mono ?_
  rintro e w2 ⟨k, rfl, hb, hk, hlo, hhi⟩
  replace HX1 := Lib.hid (blk_keep HX1.out hb); replace HX3 := Lib.hid (blk_keep HX3.out hb); replace HB := Lib.hid (HB.out.trans (hb.mono HB.out.size))
  clear hb hc1
  have hk1 : 1 ≤ k := by
    rcases Nat.eq_zero_or_pos k with e | e
    · have h1 := hhi 0 hpos (by omega)
      have h2 := HF.out
      omega
    · exact e
  have HE := Lib.hid (atT_at l bar (k - 1) (by omega) (fun j hj hjk => hlo j hj (by omega)) (fun j hj hjk => hhi j hj (by omega)))
  obtain ⟨b', off', e, hbl, c0, c1, c2⟩ := (HM.out.below HB.out).get (k - 1) (by omega)
  cases e
  clear hlo hhi
  generalize (l[k - 1]'(by omega)).q = q at *
  have hkc : (k : Int) - 1 = ((k - 1 : Nat) : Int) := by omega
  have hc1 := box_cells HX1.out; have hc3 := box_cells HX3.out; have hf3 := box_free HX3.out
  go_wp2
  exact bodyPost_ret (v := .agg #[.int .i64 q.n, .int .i64 q.d]) (by simp [results, Tryz.results88, go_sem, hc3, hf3]) rfl ⟨by rw [HE.out], (HB.out.setCell (by simp <;> omega) _).setCell (by simp <;> omega) _⟩
open Go.RowKit Go.Sort

theorem dur_rt {r : Rt} (h : durB r = true) : rtOk r = true := by
  simp only [durB, Bool.and_eq_true] at h
  exact h.1.1
theorem cmp_ticks {a b : Rt} (ha : durB a = true) (hb : durB b = true) : b.n * a.d < a.n * b.d ↔ ticksI b < ticksI a := by
  have pa := ((rtOk_iff a).1 (dur_rt ha)).1.1
  have pb := ((rtOk_iff b).1 (dur_rt hb)).1.1
  have ea := dur_of ha; have eb := dur_of hb
  have hp := Int.mul_pos (show 0 < a.d by omega) (show 0 < b.d by omega)
  have e1 : (a.n * b.d) * 1680 = ticksI a * (a.d * b.d) := by
    calc (a.n * b.d) * 1680 = (a.n * 1680) * b.d := by simp only [Int.mul_assoc, Int.mul_left_comm, Int.mul_comm]
      _ = ticksI a * (a.d * b.d) := by rw [ea, Int.mul_assoc]
  have e2 : (b.n * a.d) * 1680 = ticksI b * (a.d * b.d) := by
    calc (b.n * a.d) * 1680 = (b.n * 1680) * a.d := by simp only [Int.mul_assoc, Int.mul_left_comm, Int.mul_comm]
      _ = ticksI b * (a.d * b.d) := by rw [eb, Int.mul_assoc, Int.mul_comm b.d a.d]
  generalize a.d * b.d = P at *
  generalize a.n * b.d = X at *
  generalize b.n * a.d = Y at *
  constructor
  · intro h
    apply Classical.byContradiction
    intro hn
    have := Int.mul_le_mul_of_nonneg_right (show ticksI a ≤ ticksI b by omega) (Int.le_of_lt hp)
    omega
  · intro h
    have := Int.mul_lt_mul_of_pos_right h hp
    omega
set_option maxHeartbeats 1000000 in
theorem turnLater_any (a b : Po) (w : World) (ha : durB a.at_ = true) (hb : durB b.at_ = true) : Calls Tryz.prog 70 #[.agg #[.int .i64 a.bar, .int .i64 a.at_.n, .int .i64 a.at_.d], .agg #[.int .i64 b.bar, .int .i64 b.at_.n, .int .i64 b.at_.d]] w fun e w' => e = .returned (.bool (laterB a b)) ∧ Below w.heap.size w w' := by
  have HL := Lib.hid (show laterB a b = (decide (b.bar < a.bar) || decide (a.bar = b.bar) && decide (b.at_.n * a.at_.d < a.at_.n * b.at_.d)) by unfold laterB; rw [decide_eq_decide.2 (cmp_ticks ha hb)])
  have HCm := Lib.hid (fun V => RatCompare_any a.at_.n a.at_.d b.at_.n b.at_.d V (dur_rt ha) (dur_rt hb))
  clear ha hb
  generalize laterB a b = LL at *
  obtain ⟨cv, hcv⟩ : ∃ cv : Int, cv = if a.at_.n * b.at_.d < b.at_.n * a.at_.d then -1 else if b.at_.n * a.at_.d < a.at_.n * b.at_.d then 1 else 0 := ⟨_, rfl⟩
  rw [← hcv] at HCm
  have hpos : decide (0 < cv) = decide (b.at_.n * a.at_.d < a.at_.n * b.at_.d) := by
    rw [decide_eq_decide, hcv]
    split
    · omega
    · split <;> omega
  rw [← hpos] at HL
  clear hpos hcv
  go_enter Tryz.func70, Tryz.ntmps70
  go_upto_region 1 with (fail)
  obtain ⟨x1, x2, hb⟩ := box2 (w := w) (A := .cells #[.int .i64 a.bar, .int .i64 a.at_.n, .int .i64 a.at_.d] 54 (0, 0)) (B := .cells #[.int .i64 b.bar, .int .i64 b.at_.n, .int .i64 b.at_.d] 54 (0, 0)) (Below.refl _ _)
  generalize (w.alloc (.cells #[.int .i64 a.bar, .int .i64 a.at_.n, .int .i64 a.at_.d] 54 (0, 0))).alloc (.cells #[.int .i64 b.bar, .int .i64 b.at_.n, .int .i64 b.at_.d] 54 (0, 0)) = W at *
  replace x2 : W.heap[w.heap.size + 1]? = _ := x2
  have HX1 := Lib.hid x1; have HX2 := Lib.hid x2; have HB := Lib.hid hb
  have hc1 := box_cells x1; have hc2 := box_cells x2
  clear x1 x2 hb
  go_upto_region 2 with (go_at_call 40; refine (HCm.out _).mono ?_; rintro e w' ⟨rfl, hb⟩; replace HX1 := Lib.hid (blk_keep HX1.out hb); replace HX2 := Lib.hid (blk_keep HX2.out hb); replace HB := Lib.hid (HB.out.trans (hb.mono HB.out.size)); clear hb hc1 hc2; have hc1 := box_cells HX1.out; have hc2 := box_cells HX2.out)
  by_cases h1 : b.bar < a.bar
  · rw [decide_eq_true h1, Bool.true_or] at HL
    go_wp2
    go_ret
    exact ⟨ret_bool HL.out.symm, HB.out⟩
  · rw [decide_eq_false h1, Bool.false_or] at HL
    by_cases h2 : a.bar = b.bar
    · have he : (a.bar == b.bar) = true := by simpa using h2
      rw [decide_eq_true h2, Bool.true_and] at HL
      clear h2
      go_wp2
      go_ret
      exact ⟨ret_bool HL.out.symm, HB.out⟩
    · have he : (a.bar == b.bar) = false := by simpa using h2
      rw [decide_eq_false h2, Bool.false_and] at HL
      clear h2
      go_wp2
      go_ret
      exact ⟨ret_bool HL.out.symm, HB.out⟩
set_option maxHeartbeats 1000000 in
theorem tempoLater_any (a b : Po) (w : World) (ha : durB a.at_ = true) (hb : durB b.at_ = true) : Calls Tryz.prog 48 #[.agg #[.int .i64 a.bar, .int .i64 a.at_.n, .int .i64 a.at_.d], .agg #[.int .i64 b.bar, .int .i64 b.at_.n, .int .i64 b.at_.d]] w fun e w' => e = .returned (.bool (laterB a b)) ∧ Below w.heap.size w w' := by
  have HL := Lib.hid (show laterB a b = (decide (b.bar < a.bar) || decide (a.bar = b.bar) && decide (b.at_.n * a.at_.d < a.at_.n * b.at_.d)) by unfold laterB; rw [decide_eq_decide.2 (cmp_ticks ha hb)])
  have HCm := Lib.hid (fun V => RatCompare_any a.at_.n a.at_.d b.at_.n b.at_.d V (dur_rt ha) (dur_rt hb))
  clear ha hb
  generalize laterB a b = LL at *
  obtain ⟨cv, hcv⟩ : ∃ cv : Int, cv = if a.at_.n * b.at_.d < b.at_.n * a.at_.d then -1 else if b.at_.n * a.at_.d < a.at_.n * b.at_.d then 1 else 0 := ⟨_, rfl⟩
  rw [← hcv] at HCm
  have hpos : decide (0 < cv) = decide (b.at_.n * a.at_.d < a.at_.n * b.at_.d) := by
    rw [decide_eq_decide, hcv]
    split
    · omega
    · split <;> omega
  rw [← hpos] at HL
  clear hpos hcv
  go_enter Tryz.func48, Tryz.ntmps48
  go_upto_region 1 with (fail)
  obtain ⟨x1, x2, hb⟩ := box2 (w := w) (A := .cells #[.int .i64 a.bar, .int .i64 a.at_.n, .int .i64 a.at_.d] 54 (0, 0)) (B := .cells #[.int .i64 b.bar, .int .i64 b.at_.n, .int .i64 b.at_.d] 54 (0, 0)) (Below.refl _ _)
  generalize (w.alloc (.cells #[.int .i64 a.bar, .int .i64 a.at_.n, .int .i64 a.at_.d] 54 (0, 0))).alloc (.cells #[.int .i64 b.bar, .int .i64 b.at_.n, .int .i64 b.at_.d] 54 (0, 0)) = W at *
  replace x2 : W.heap[w.heap.size + 1]? = _ := x2
  have HX1 := Lib.hid x1; have HX2 := Lib.hid x2; have HB := Lib.hid hb
  have hc1 := box_cells x1; have hc2 := box_cells x2
  clear x1 x2 hb
  by_cases h2 : a.bar = b.bar
  · have he : (a.bar != b.bar) = false := by rw [h2]; simp
    have hn : decide (b.bar < a.bar) = false := decide_eq_false (by omega)
    rw [hn, Bool.false_or, decide_eq_true h2, Bool.true_and] at HL
    clear h2 hn
    go_wp2_with (go_at_call 40; refine (HCm.out _).mono ?_; rintro e w' ⟨rfl, hb⟩; replace HX1 := Lib.hid (blk_keep HX1.out hb); replace HX2 := Lib.hid (blk_keep HX2.out hb); replace HB := Lib.hid (HB.out.trans (hb.mono HB.out.size)); clear hb hc1 hc2; have hc1 := box_cells HX1.out; have hc2 := box_cells HX2.out)
    go_ret
    exact ⟨ret_bool HL.out.symm, HB.out⟩
  · have he : (a.bar != b.bar) = true := by rw [bne_iff_ne]; exact h2
    rw [decide_eq_false h2, Bool.false_and, Bool.or_false] at HL
    clear h2
    go_wp2
    go_ret
    exact ⟨ret_bool HL.out.symm, HB.out⟩
set_option maxHeartbeats 1000000 in
theorem isTempo_any (q : Rt) (w : World) : Calls Tryz.prog 85 #[.agg #[.int .i64 q.n, .int .i64 q.d]] w fun e w' => e = .returned (.bool (tempoB q)) ∧ Below w.heap.size w w' := by
  have HVa := Lib.hid (fun V => RatValid_any q.n q.d V)
  have HX := Lib.hid (heap_alloc_new w (.cells #[.int .i64 q.n, .int .i64 q.d] 32 (0, 0)))
  have HB := Lib.hid ((Below.refl w.heap.size w).alloc (Nat.le_refl _) (.cells #[.int .i64 q.n, .int .i64 q.d] 32 (0, 0)))
  have HS := Lib.hid (show tempoB q = (rtOk q && decide (1 ≤ q.n) && decide (q.n ≤ 10 * q.d) && decide (60 % q.d = 0)) from rfl)
  generalize tempoB q = SS at *
  go_enter Tryz.func85, Tryz.ntmps85
  go_upto_region 1 with (fail)
  generalize w.alloc (.cells #[.int .i64 q.n, .int .i64 q.d] 32 (0, 0)) = W at *
  have hc := box_cells HX.out
  cases hr : rtOk q
  · rw [show rtOk ⟨q.n, q.d⟩ = false from hr] at HVa
    replace HS := Lib.hid (show SS = false by rw [HS.out, hr]; rfl)
    go_wp2_with (go_at_call 39; refine (HVa.out _).mono ?_; rintro e w' ⟨rfl, hb⟩; replace HX := Lib.hid (blk_keep HX.out hb); replace HB := Lib.hid (HB.out.trans (hb.mono HB.out.size)); clear hb hc; have hc := box_cells HX.out)
    go_ret
    exact ⟨ret_bool HS.out.symm, HB.out⟩
  · obtain ⟨⟨d1, d2⟩, ⟨n1, n2⟩, _⟩ := (rtOk_iff q).1 hr
    rw [show rtOk ⟨q.n, q.d⟩ = true from hr] at HVa
    rw [hr, Bool.true_and] at HS
    have hd0 : ¬ q.d = 0 := by omega
    have hwd : IntKind.i64.wrap (10 * q.d) = 10 * q.d := IntWalk.i64_in _ (by omega)
    have htm : (60 : Int).tmod q.d = 60 % q.d := Int.tmod_eq_emod_of_nonneg (by decide)
    have hwm : IntKind.i64.wrap (60 % q.d) = 60 % q.d := IntWalk.i64_in _ (by have := Int.emod_nonneg 60 hd0; have := Int.emod_lt_of_pos 60 (show 0 < q.d by omega); omega)
    by_cases h1 : 0 < q.n
    · by_cases h2 : q.n ≤ 10 * q.d
      · by_cases h3 : 60 % q.d = 0
        · have hm : (60 % q.d == 0) = true := by simpa using h3
          replace HS := Lib.hid (show SS = true by rw [HS.out]; simp [h2, h3]; omega)
          clear h3
          go_wp2_with (go_at_call 39; refine (HVa.out _).mono ?_; rintro e w' ⟨rfl, hb⟩; replace HX := Lib.hid (blk_keep HX.out hb); replace HB := Lib.hid (HB.out.trans (hb.mono HB.out.size)); clear hb hc; have hc := box_cells HX.out)
          go_ret
          exact ⟨ret_bool HS.out.symm, HB.out⟩
        · have hm : (60 % q.d == 0) = false := by simpa using h3
          replace HS := Lib.hid (show SS = false by rw [HS.out]; simp [h3])
          clear h3
          go_wp2_with (go_at_call 39; refine (HVa.out _).mono ?_; rintro e w' ⟨rfl, hb⟩; replace HX := Lib.hid (blk_keep HX.out hb); replace HB := Lib.hid (HB.out.trans (hb.mono HB.out.size)); clear hb hc; have hc := box_cells HX.out)
          go_ret
          exact ⟨ret_bool HS.out.symm, HB.out⟩
      · replace HS := Lib.hid (show SS = false by rw [HS.out]; simp [h2])
        go_wp2_with (go_at_call 39; refine (HVa.out _).mono ?_; rintro e w' ⟨rfl, hb⟩; replace HX := Lib.hid (blk_keep HX.out hb); replace HB := Lib.hid (HB.out.trans (hb.mono HB.out.size)); clear hb hc; have hc := box_cells HX.out)
        go_ret
        exact ⟨ret_bool HS.out.symm, HB.out⟩
    · replace HS := Lib.hid (show SS = false by rw [HS.out]; simp; omega)
      go_wp2_with (go_at_call 39; refine (HVa.out _).mono ?_; rintro e w' ⟨rfl, hb⟩; replace HX := Lib.hid (blk_keep HX.out hb); replace HB := Lib.hid (HB.out.trans (hb.mono HB.out.size)); clear hb hc; have hc := box_cells HX.out)
      go_ret
      exact ⟨ret_bool HS.out.symm, HB.out⟩
open Go.RowKit Go.Sort

/-- What a tempo in its place is. -/
def teOk (n : Int) (l : List Te) (j : Nat) (h : j < l.length) : Prop := tempoB l[j].q = true ∧ l[j].bar < n ∧ (0 < j → (l[j - 1]'(by omega)).bar < l[j].bar)
theorem rising_of : ∀ (l : List Te), (∀ j (h : j < l.length), 0 < j → (l[j - 1]'(by omega)).bar < l[j].bar) → risingT l = true
  | [], _ => rfl
  | [a], _ => rfl
  | a :: b :: r, h => by
    simp only [risingT, Bool.and_eq_true, decide_eq_true_eq]
    refine ⟨h 1 (by simp) (by omega), rising_of (b :: r) fun j hj h0 => ?_⟩
    have := h (j + 1) (by simp at hj ⊢; omega) (by omega)
    cases j with
    | zero => omega
    | succ j => simpa using this
theorem tempos_yes {bars : List Ba} {l : List Te} (hb : barsB bars = true) (h1 : 1 ≤ l.length) (h2 : l.length ≤ 1000) (h0 : ∃ h : 0 < l.length, (l[0]'h).bar = 0) (h : ∀ j (hj : j < l.length), teOk bars.length l j hj) : temposB bars l = true := by
  obtain ⟨hp, h0⟩ := h0
  have e0 : (l.getD 0 default).bar = 0 := by rw [List.getD_eq_getElem?_getD, List.getElem?_eq_getElem hp]; exact h0
  simp only [temposB, Bool.and_eq_true, decide_eq_true_eq]
  refine ⟨⟨⟨⟨⟨hb, h1⟩, h2⟩, e0⟩, List.all_eq_true.2 fun t ht => ?_⟩, rising_of l fun j hj h0 => (h j hj).2.2 h0⟩
  obtain ⟨j, hj, rfl⟩ := List.getElem_of_mem ht
  rw [(h j hj).1, decide_eq_true (h j hj).2.1]
  rfl
theorem tempos_no {bars : List Ba} {l : List Te} (k : Nat) (hk : k < l.length) (h : ¬ teOk bars.length l k hk) : temposB bars l = false := by
  rw [← Bool.not_eq_true]
  intro ht
  simp only [temposB, Bool.and_eq_true, decide_eq_true_eq] at ht
  obtain ⟨⟨_, hall⟩, hr⟩ := ht
  have := List.all_eq_true.1 hall _ (List.getElem_mem hk)
  rw [Bool.and_eq_true, decide_eq_true_eq] at this
  exact h ⟨this.1, this.2, fun h0 => rising_next l hr (k - 1) k (by omega) hk (by omega)⟩
theorem tempos_short {bars : List Ba} {l : List Te} (h : barsB bars = false ∨ l.length < 1 ∨ 1000 < l.length ∨ ∃ h : 0 < l.length, (l[0]'h).bar ≠ 0) : temposB bars l = false := by
  rw [← Bool.not_eq_true]
  intro ht
  simp only [temposB, Bool.and_eq_true, decide_eq_true_eq] at ht
  obtain ⟨⟨⟨⟨⟨h1, h2⟩, h3⟩, h4⟩, _⟩, _⟩ := ht
  rcases h with h | h | h | ⟨hp, h⟩
  · rw [h] at h1; cases h1
  · omega
  · omega
  · rw [List.getD_eq_getElem?_getD, List.getElem?_eq_getElem hp] at h4
    exact h h4
theorem scale_cases (q : Rt) : (tempoB q = true ∧ 0 ≤ scaleI q) ∨ (tempoB q = false ∧ scaleI q < 0) := by
  cases h : tempoB q
  · exact .inr ⟨rfl, by unfold scaleI; rw [h]; simp⟩
  · exact .inl ⟨rfl, by have := (scale_bd h).1; omega⟩
set_option maxRecDepth 100000 in
set_option maxHeartbeats 4000000 in
theorem tTempos_any (a : Option Addr) (cap : Nat) (bars : List Ba) (ta : Option Addr) (tcap : Nat) (l : List Te) (w : World) (hlb : bars.length ≤ 100000) (hll : l.length ≤ 100000) (hbm : BaAt w a bars) (hm : TeAt w ta l) :
    Calls Tryz.prog 28 #[.slice a bars.length cap, .slice ta l.length tcap] w fun e w' => e = .returned (.bool (temposB bars l)) ∧ Below w.heap.size w w' := by
  have HM := Lib.hid hm
  have HBa := Lib.hid (RBars_any a cap bars w hlb hbm)
  clear hm hbm
  go_enter Tryz.func28, Tryz.ntmps28
  go_upto_region 1 with (fail)
  go_upto_region 2 with (go_at_call 54; refine HBa.out.mono ?_; rintro e w' ⟨rfl, hb⟩)
  have HB := Lib.hid hb
  clear hb HBa
  by_cases h1 : barsB bars = false
  · have HF := Lib.hid (tempos_short (l := l) (.inl h1))
    rw [h1]
    clear h1
    go_wp2
    go_ret
    exact ⟨ret_bool HF.out.symm, HB.out⟩
  have hbt : barsB bars = true := by simpa using h1
  rw [hbt]
  have HBt := Lib.hid hbt
  clear h1 hbt
  by_cases h2 : (l.length : Int) < 1
  · have HF := Lib.hid (tempos_short (bars := bars) (l := l) (.inr (.inl (by omega))))
    go_wp2
    go_ret
    exact ⟨ret_bool HF.out.symm, HB.out⟩
  by_cases h3 : (1000 : Int) < (l.length : Int)
  · have HF := Lib.hid (tempos_short (bars := bars) (l := l) (.inr (.inr (.inl (by omega)))))
    go_wp2
    go_ret
    exact ⟨ret_bool HF.out.symm, HB.out⟩
  have hpos : 0 < l.length := by omega
  obtain ⟨tb, toff, rfl, _, _, _, _⟩ := HM.out.get 0 hpos
  obtain ⟨b', off', e, _, c0, _, _⟩ := (HM.out.below HB.out).get 0 hpos
  cases e
  simp only [Nat.zero_mul, Nat.add_zero] at c0
  by_cases h4 : l[0].bar = 0
  · have HZ := Lib.hid (show ∃ h : 0 < l.length, (l[0]'h).bar = 0 from ⟨hpos, h4⟩)
    have he : (l[0].bar != 0) = false := by rw [h4]; rfl
    clear h4
    generalize l[0].bar = z at *
    go_upto_region 4 with (fail)
    clear c0 he
    go_wp2
    go_loopw [6] (fun s6 wr => ∃ k : Nat, s6 = .int .i64 k ∧ k ≤ l.length ∧ Hid (∀ j (hj : j < l.length), j < k → teOk bars.length l j hj) ∧ Below w.heap.size w wr) (fun s6 _ => l.length - (intOf s6).toNat)
    case atStart => exact ⟨0, rfl, Nat.zero_le _, Lib.hid (fun _ _ h => absurd h (Nat.not_lt_zero _)), HB.out⟩
    case round =>
      obtain ⟨k, rfl, hk, HA, hb⟩ := hrel
      replace HB := Lib.hid hb
      clear hb
      by_cases hlt : k < l.length
      · obtain ⟨b', off', e, _, c0, c1, c2⟩ := (HM.out.below HB.out).get k hlt
        cases e
        obtain ⟨pk, hpk⟩ : ∃ pk, ∀ h, (l[k - 1]'h).bar = pk := ⟨(l[k - 1]'(by omega)).bar, fun _ => rfl⟩
        have cp : wr.cell? ⟨tb, toff + (k - 1) * 3, none⟩ = some (.int .i64 pk) := by
          obtain ⟨b', off', e, _, c3, _, _⟩ := (HM.out.below HB.out).get (k - 1) (by omega)
          cases e
          rwa [hpk] at c3
        have HNo := Lib.hid (show ¬ (tempoB l[k].q = true ∧ l[k].bar < (bars.length : Int) ∧ (0 < k → pk < l[k].bar)) → temposB bars l = false from fun h => tempos_no k hlt (fun t => h ⟨t.1, t.2.1, fun h0 => by have := t.2.2 h0; rwa [hpk] at this⟩))
        have HYes := Lib.hid (show tempoB l[k].q = true ∧ l[k].bar < (bars.length : Int) ∧ (0 < k → pk < l[k].bar) → ∀ j (hj : j < l.length), j < k + 1 → teOk bars.length l j hj from fun h j hj hjk => by
          by_cases e : j = k
          · subst e; exact ⟨h.1, h.2.1, fun h0 => by rw [hpk]; exact h.2.2 h0⟩
          · exact HA.out j hj (by omega))
        clear hpk
        have HSc := Lib.hid (fun V => tScale_any l[k].q V)
        have hsc := scale_cases l[k].q
        generalize scaleI l[k].q = S at *
        generalize tempoB l[k].q = TB at *
        generalize l[k].q = q at *
        generalize l[k].bar = bk at *
        have g0 := cell_regrown c0; have g1 := cell_regrown c1; have g2 := cell_regrown c2; have g3 := cell_regrown cp
        clear c0 c1 c2 cp
        have hkw : IntKind.i64.wrap ((k : Int) - 1) = (k : Int) - 1 := IntWalk.i64_in _ (by omega)
        go_upto_region 7 with (fail)
        rcases hsc with ⟨rfl, hS⟩ | ⟨rfl, hS⟩
        · have hSd : decide (S < 0) = false := decide_eq_false (by omega)
          by_cases hbk : bk < (bars.length : Int)
          · have hbd : decide ((bars.length : Int) ≤ bk) = false := decide_eq_false (by omega)
            by_cases hk0 : k = 0
            · have hk1 : decide ((0 : Int) < (k : Int)) = false := decide_eq_false (by omega)
              have hk2 : decide (0 < k) = false := decide_eq_false (by omega)
              replace HYes := Lib.hid (HYes.out ⟨rfl, hbk, fun h => absurd h (by omega)⟩)
              clear hk0
              refine wp_quietB (by kernel_rfl) (by kernel_rfl) ?_; (repeat (go_big_quiet_step (first | (go_at_call 55; refine Calls.regrown_of (HSc.out _))))); refine wpQuiet_nil ?_; intro w2 hb2; go_wp2
              go_roundw
              case rel => exact ⟨k + 1, by go_num, by omega, HYes, HB.out.trans (hb2.mono HB.out.size)⟩
              case measure => simp [intOf]; omega
            · have hk1 : decide ((0 : Int) < (k : Int)) = true := decide_eq_true (by omega)
              have hk2 : decide (0 < k) = true := decide_eq_true (by omega)
              have hkn : ((k : Int) - 1).toNat = k - 1 := by omega
              have hkz : (0 : Int) ≤ (k : Int) - 1 := by omega
              have hkl : (k : Int) - 1 < (l.length : Int) := by omega
              by_cases hpb : bk ≤ pk
              · have hpd : decide (bk ≤ pk) = true := decide_eq_true hpb
                replace HNo := Lib.hid (HNo.out (fun h => by have := h.2.2 (by omega); omega))
                refine wp_quietB (by kernel_rfl) (by kernel_rfl) ?_; (repeat (go_big_quiet_step (first | (go_at_call 55; refine Calls.regrown_of (HSc.out _))))); refine wpQuiet_nil ?_; intro w2 hb2; go_wp2
                go_ret
                exact ⟨ret_bool HNo.out.symm, HB.out.trans (hb2.mono HB.out.size)⟩
              · have hpd : decide (bk ≤ pk) = false := decide_eq_false hpb
                replace HYes := Lib.hid (HYes.out ⟨rfl, hbk, fun h => by omega⟩)
                refine wp_quietB (by kernel_rfl) (by kernel_rfl) ?_; (repeat (go_big_quiet_step (first | (go_at_call 55; refine Calls.regrown_of (HSc.out _))))); refine wpQuiet_nil ?_; intro w2 hb2; go_wp2
                go_roundw
                case rel => exact ⟨k + 1, by go_num, by omega, HYes, HB.out.trans (hb2.mono HB.out.size)⟩
                case measure => simp [intOf]; omega
          · have hbd : decide ((bars.length : Int) ≤ bk) = true := decide_eq_true (by omega)
            replace HNo := Lib.hid (HNo.out (fun h => hbk h.2.1))
            refine wp_quietB (by kernel_rfl) (by kernel_rfl) ?_; (repeat (go_big_quiet_step (first | (go_at_call 55; refine Calls.regrown_of (HSc.out _))))); refine wpQuiet_nil ?_; intro w2 hb2; go_wp2
            go_ret
            exact ⟨ret_bool HNo.out.symm, HB.out.trans (hb2.mono HB.out.size)⟩
        · have hSd : decide (S < 0) = true := decide_eq_true hS
          replace HNo := Lib.hid (HNo.out (fun h => by cases h.1))
          refine wp_quietB (by kernel_rfl) (by kernel_rfl) ?_; (repeat (go_big_quiet_step (first | (go_at_call 55; refine Calls.regrown_of (HSc.out _))))); refine wpQuiet_nil ?_; intro w2 hb2; go_wp2
          go_ret
          exact ⟨ret_bool HNo.out.symm, HB.out.trans (hb2.mono HB.out.size)⟩
      · obtain rfl : k = l.length := by omega
        have HF := Lib.hid (tempos_yes HBt.out (by omega) (by omega) HZ.out fun j hj => HA.out j hj hj)
        go_wp2
        go_ret
        exact ⟨ret_bool HF.out.symm, HB.out⟩
  · have HF := Lib.hid (tempos_short (bars := bars) (l := l) (.inr (.inr (.inr ⟨hpos, h4⟩))))
    have he : (l[0].bar != 0) = true := by rw [bne_iff_ne]; exact h4
    clear h4
    generalize l[0].bar = z at *
    go_wp2
    go_ret
    exact ⟨ret_bool HF.out.symm, HB.out⟩
open Go.RowKit Go.Sort

set_option maxRecDepth 100000 in
set_option maxHeartbeats 4000000 in
theorem tempoValid_any (a : Option Addr) (cap : Nat) (bars : List Ba) (ta : Option Addr) (tcap : Nat) (l : List Te) (w : World) (hlb : bars.length ≤ 100000) (hll : l.length ≤ 100000) (hbm : BaAt w a bars) (hm : TeAt w ta l) :
    Calls Tryz.prog 46 #[.slice a bars.length cap, .slice ta l.length tcap] w fun e w' => e = .returned (.bool (temposB bars l)) ∧ Below w.heap.size w w' := by
  have HM := Lib.hid hm
  have HBa := Lib.hid (MetValid_any a cap bars w hlb hbm)
  clear hm hbm
  go_enter Tryz.func46, Tryz.ntmps46
  go_upto_region 1 with (fail)
  go_wp2_with (fail)
  refine HBa.out.mono ?_
  rintro e w' ⟨rfl, hb⟩
  have HB := Lib.hid hb
  clear hb HBa
  by_cases h1 : barsB bars = false
  · have HF := Lib.hid (tempos_short (l := l) (.inl h1))
    rw [h1]
    clear h1
    go_wp2
    go_ret
    exact ⟨ret_bool HF.out.symm, HB.out⟩
  have hbt : barsB bars = true := by simpa using h1
  rw [hbt]
  have HBt := Lib.hid hbt
  clear h1 hbt
  by_cases h2 : l.length = 0
  · have he0 : ((l.length : Int) == 0) = true := by rw [h2]; rfl
    have HF := Lib.hid (tempos_short (bars := bars) (l := l) (.inr (.inl (by omega))))
    go_wp2
    go_ret
    exact ⟨ret_bool HF.out.symm, HB.out⟩
  have he0 : ((l.length : Int) == 0) = false := by rw [← Bool.not_eq_true, beq_iff_eq]; omega
  by_cases h3 : (1000 : Int) < (l.length : Int)
  · have HF := Lib.hid (tempos_short (bars := bars) (l := l) (.inr (.inr (.inl (by omega)))))
    go_wp2
    go_ret
    exact ⟨ret_bool HF.out.symm, HB.out⟩
  have hpos : 0 < l.length := by omega
  obtain ⟨tb, toff, rfl, _, _, _, _⟩ := HM.out.get 0 hpos
  obtain ⟨b', off', e, _, c0, _, _⟩ := (HM.out.below HB.out).get 0 hpos
  cases e
  simp only [Nat.zero_mul, Nat.add_zero] at c0
  by_cases h4 : l[0].bar = 0
  · have HZ := Lib.hid (show ∃ h : 0 < l.length, (l[0]'h).bar = 0 from ⟨hpos, h4⟩)
    have he : (l[0].bar != 0) = false := by rw [h4]; rfl
    clear h4
    generalize l[0].bar = z at *
    go_upto_region 3 with (fail)
    clear c0 he
    go_wp2
    go_loopw [5, 6, 29] (fun _ _ s29 wr => ∃ k : Nat, s29 = .int .i64 k ∧ k ≤ l.length ∧ Hid (∀ j (hj : j < l.length), j < k → teOk bars.length l j hj) ∧ Below w.heap.size w wr) (fun _ _ s29 _ => l.length - (intOf s29).toNat)
    case atStart => exact ⟨0, rfl, Nat.zero_le _, Lib.hid (fun _ _ h => absurd h (Nat.not_lt_zero _)), HB.out⟩
    case round =>
      obtain ⟨k, rfl, hk, HA, hb⟩ := hrel
      replace HB := Lib.hid hb
      clear hb
      by_cases hlt : k < l.length
      · obtain ⟨b', off', e, hbl, c0, c1, c2⟩ := (HM.out.below HB.out).get k hlt
        cases e
        obtain ⟨pk, hpk⟩ : ∃ pk, ∀ h, (l[k - 1]'h).bar = pk := ⟨(l[k - 1]'(by omega)).bar, fun _ => rfl⟩
        have HNo := Lib.hid (show ¬ (tempoB l[k].q = true ∧ l[k].bar < (bars.length : Int) ∧ (0 < k → pk < l[k].bar)) → temposB bars l = false from fun h => tempos_no k hlt (fun t => h ⟨t.1, t.2.1, fun h0 => by have := t.2.2 h0; rwa [hpk] at this⟩))
        have HYes := Lib.hid (show tempoB l[k].q = true ∧ l[k].bar < (bars.length : Int) ∧ (0 < k → pk < l[k].bar) → ∀ j (hj : j < l.length), j < k + 1 → teOk bars.length l j hj from fun h j hj hjk => by
          by_cases e : j = k
          · subst e; exact ⟨h.1, h.2.1, fun h0 => by rw [hpk]; exact h.2.2 h0⟩
          · exact HA.out j hj (by omega))
        have HCp := Lib.hid (show ∀ V, Below wr.heap.size wr V → V.cell? ⟨tb, toff + (k - 1) * 3, none⟩ = some (.int .i64 pk) from fun V hV => by
          obtain ⟨b', off', e, _, c3, _, _⟩ := ((HM.out.below HB.out).below hV).get (k - 1) (by omega)
          cases e
          rwa [hpk] at c3)
        clear hpk
        have HSc := Lib.hid (fun V => isTempo_any l[k].q V)
        generalize tempoB l[k].q = TB at *
        generalize l[k].q = q at *
        generalize l[k].bar = bk at *
        go_upto_region 6 with (fail)
        have HX := Lib.hid (heap_alloc_new wr (.cells #[.int .i64 bk, .int .i64 q.n, .int .i64 q.d] 70 (0, 0)))
        have cp := HCp.out _ ((Below.refl wr.heap.size wr).alloc (Nat.le_refl _) (.cells #[.int .i64 bk, .int .i64 q.n, .int .i64 q.d] 70 (0, 0)))
        replace HB := Lib.hid (HB.out.alloc HB.out.size (.cells #[.int .i64 bk, .int .i64 q.n, .int .i64 q.d] 70 (0, 0)))
        clear c0 c1 c2 hbl
        generalize wr.alloc (.cells #[.int .i64 bk, .int .i64 q.n, .int .i64 q.d] 70 (0, 0)) = W2 at *
        generalize wr.heap.size = bx at *
        have g0 := cell_regrown (box_cells HX.out 0); have g1 := cell_regrown (box_cells HX.out 1); have g2 := cell_regrown (box_cells HX.out 2); have g3 := cell_regrown cp
        clear cp HCp
        have hkw : IntKind.i64.wrap ((k : Int) - 1) = (k : Int) - 1 := IntWalk.i64_in _ (by omega)
        cases TB
        · replace HNo := Lib.hid (HNo.out (fun h => by cases h.1))
          refine wp_quietB (by kernel_rfl) (by kernel_rfl) ?_; (repeat (go_big_quiet_step (first | (go_at_call 85; refine Calls.regrown_of (HSc.out _))))); refine wpQuiet_nil ?_; intro w2 hb2; go_wp2
          go_ret
          exact ⟨ret_bool HNo.out.symm, HB.out.trans (hb2.mono HB.out.size)⟩
        · by_cases hbk : bk < (bars.length : Int)
          · have hbd : decide ((bars.length : Int) ≤ bk) = false := decide_eq_false (by omega)
            by_cases hk0 : k = 0
            · have hk1 : decide ((0 : Int) < (k : Int)) = false := decide_eq_false (by omega)
              have hk2 : decide (0 < k) = false := decide_eq_false (by omega)
              replace HYes := Lib.hid (HYes.out ⟨rfl, hbk, fun h => absurd h (by omega)⟩)
              clear hk0
              refine wp_quietB (by kernel_rfl) (by kernel_rfl) ?_; (repeat (go_big_quiet_step (first | (go_at_call 85; refine Calls.regrown_of (HSc.out _))))); refine wpQuiet_nil ?_; intro w2 hb2; go_wp2
              go_roundw
              case rel => exact ⟨k + 1, by go_num, by omega, HYes, HB.out.trans (hb2.mono HB.out.size)⟩
              case measure => simp [intOf]; omega
            · have hk1 : decide ((0 : Int) < (k : Int)) = true := decide_eq_true (by omega)
              have hk2 : decide (0 < k) = true := decide_eq_true (by omega)
              have hkn : ((k : Int) - 1).toNat = k - 1 := by omega
              have hkz : (0 : Int) ≤ (k : Int) - 1 := by omega
              have hkl : (k : Int) - 1 < (l.length : Int) := by omega
              by_cases hpb : bk ≤ pk
              · have hpd : decide (bk ≤ pk) = true := decide_eq_true hpb
                replace HNo := Lib.hid (HNo.out (fun h => by have := h.2.2 (by omega); omega))
                refine wp_quietB (by kernel_rfl) (by kernel_rfl) ?_; (repeat (go_big_quiet_step (first | (go_at_call 85; refine Calls.regrown_of (HSc.out _))))); refine wpQuiet_nil ?_; intro w2 hb2; go_wp2
                go_ret
                exact ⟨ret_bool HNo.out.symm, HB.out.trans (hb2.mono HB.out.size)⟩
              · have hpd : decide (bk ≤ pk) = false := decide_eq_false hpb
                replace HYes := Lib.hid (HYes.out ⟨rfl, hbk, fun h => by omega⟩)
                refine wp_quietB (by kernel_rfl) (by kernel_rfl) ?_; (repeat (go_big_quiet_step (first | (go_at_call 85; refine Calls.regrown_of (HSc.out _))))); refine wpQuiet_nil ?_; intro w2 hb2; go_wp2
                go_roundw
                case rel => exact ⟨k + 1, by go_num, by omega, HYes, HB.out.trans (hb2.mono HB.out.size)⟩
                case measure => simp [intOf]; omega
          · have hbd : decide ((bars.length : Int) ≤ bk) = true := decide_eq_true (by omega)
            replace HNo := Lib.hid (HNo.out (fun h => hbk h.2.1))
            refine wp_quietB (by kernel_rfl) (by kernel_rfl) ?_; (repeat (go_big_quiet_step (first | (go_at_call 85; refine Calls.regrown_of (HSc.out _))))); refine wpQuiet_nil ?_; intro w2 hb2; go_wp2
            go_ret
            exact ⟨ret_bool HNo.out.symm, HB.out.trans (hb2.mono HB.out.size)⟩
      · obtain rfl : k = l.length := by omega
        have HF := Lib.hid (tempos_yes HBt.out (by omega) (by omega) HZ.out fun j hj => HA.out j hj hj)
        go_wp2
        go_ret
        exact ⟨ret_bool HF.out.symm, HB.out⟩
  · have HF := Lib.hid (tempos_short (bars := bars) (l := l) (.inr (.inr (.inr ⟨hpos, h4⟩))))
    have he : (l[0].bar != 0) = true := by rw [bne_iff_ne]; exact h4
    clear h4
    generalize l[0].bar = z at *
    go_wp2
    go_ret
    exact ⟨ret_bool HF.out.symm, HB.out⟩
end Go.Proofs.YtcelciomhngajaaGreatDoor

