/- The reference functions over costs: Same, columns, price, Few, Form. -/
import Derived.Test.YtkpgphadgomifaaMatchBest
namespace Go.Proofs.Ytkpgphadgomifaa
set_option linter.unusedSimpArgs false
set_option linter.unusedVariables false
open Go.RowKit Go.Sort Go.Shelf

set_option maxHeartbeats 400000 in
theorem RSame_any (a b : Option Addr) (n m cap cap' : Nat) (l r : List Int) (w : World) (hn : n = l.length) (hm : m = r.length) (hl : n ≤ 1000000) (hl' : m ≤ 1000000) (ha : InAt w a l) (hb : InAt w b r) :
    Calls Try.prog 13 #[.slice a n cap, .slice b m cap'] w fun e w' => e = .returned (.bool (decide (l = r))) ∧ Below w.heap.size w w' := by
  subst hn hm
  by_cases hne : l.length = r.length
  case neg =>
    have h1 : ((l.length : Int) != (r.length : Int)) = true := by simp; omega
    go_enter Try.func13, Try.ntmps13
    go_wp2
    go_ret
    exact ⟨ret_bool (by simp; intro h; exact hne (by rw [h])), Below.refl _ _⟩
  have h1 : ((l.length : Int) != (r.length : Int)) = false := by simp [hne]
  have HNE := Lib.hid hne; clear hne
  go_enter Try.func13, Try.ntmps13
  go_wp2
  go_loopw [5] (fun i wr => ∃ k : Nat, k ≤ l.length ∧ i = .int .i64 k ∧ l.take k = r.take k ∧ Below w.heap.size w wr) (fun i _ => l.length - (intOf i).toNat)
  case atStart => exact ⟨0, Nat.zero_le _, rfl, rfl, Below.refl _ _⟩
  case round =>
    obtain ⟨k, hk, rfl, hall, hbw⟩ := hrel
    have H := Lib.hid hall; clear hall
    by_cases hlt : k < l.length
    · have hlt' : k < r.length := by have := HNE.out; omega
      obtain ⟨b1, o1, rfl, c0⟩ := (ha.below hbw).get k hlt
      obtain ⟨b2, o2, rfl, d0⟩ := (hb.below hbw).get k hlt'
      have HB := Lib.hid hbw; clear hbw
      have HA := Lib.hid ha; clear ha
      have HB2 := Lib.hid hb; clear hb
      go_wp2
      go_quiet (fail)
      go_wp2
      · go_ret
        have hd : (l[k] != r[k]) = true := by assumption
        exact ⟨ret_bool (decide_eq_false (ne_at l r k hlt hlt' (by simpa using hd))).symm, below_drewN HB.out _⟩
      · have hd : (l[k] != r[k]) = false := by assumption
        exact ⟨⟨k + 1, by omega, by go_num, take_eq_succ l r k hlt hlt' H.out (by simpa using hd), below_drewN HB.out _⟩, by simp [intOf]; omega⟩
    · have HB := Lib.hid hbw; clear hbw
      go_wp2
      go_ret
      refine ⟨ret_bool ?_, HB.out⟩
      have h3 := H.out
      have h4 := HNE.out
      rw [List.take_of_length_le (by omega), List.take_of_length_le (by omega)] at h3
      simp [h3]

theorem Rcols_any (a : Option Addr) (cap : Nat) (c : List (List Int)) (w : World) (hl : c.length ≤ 100000000000000) (hm : MatAt w a c) :
    Calls Try.prog 36 #[.slice a c.length cap] w fun e w' => e = .returned (.int .i64 (wideL c : Nat)) ∧ w = w' := by
  have HM := Lib.hid hm; clear hm
  cases c with
  | nil =>
    go_enter Try.func36, Try.ntmps36
    go_wp2
    go_ret
    exact ⟨rfl, rfl⟩
  | cons l c =>
    obtain ⟨b, off, ai, ci, rfl, c0, _, _⟩ := HM.out.get 0 (by simp)
    have hc0 : w.cell? ⟨b, off, none⟩ = some (.slice ai l.length ci) := by simpa using c0
    have hne : ((c.length + 1 : Nat) : Int) ≠ 0 := by omega
    have hne2 : (((c.length : Int) + 1) == 0) = false := by simp; omega
    clear c0
    go_enter Try.func36, Try.ntmps36
    go_wp2
    go_ret
    exact ⟨rfl, rfl⟩
def priceOk (n : Int) : Bool := decide (-1000000000 ≤ n) && decide (n ≤ 1000000000)
theorem Rprice_any (n : Int) (w : World) : Calls Try.prog 45 #[.int .i64 n] w fun e w' => e = .returned (.bool (priceOk n)) ∧ w = w' := by
  go_enter Try.func45, Try.ntmps45
  cases h : decide (-1000000000 ≤ n)
  · go_wp2
    go_ret
    exact ⟨by simp [priceOk, h], rfl⟩
  · go_wp2
    go_ret
    exact ⟨by simp [priceOk, h], rfl⟩
/-- Few: at most 7 rows, and none of the first 8 is longer than 8. -/
def fewB (c : List (List Int)) : Bool := decide (c.length ≤ 7) && (c.take 8).all fun l => decide (l.length ≤ 8)
theorem few_iff {c : List (List Int)} : fewB c = true ↔ c.length ≤ 7 ∧ ∀ l ∈ c, l.length ≤ 8 := by
  unfold fewB
  simp only [Bool.and_eq_true, decide_eq_true_eq, List.all_eq_true]
  constructor
  · rintro ⟨h1, h2⟩
    exact ⟨h1, fun l hl => h2 l (by rw [List.take_of_length_le (by omega)]; exact hl)⟩
  · rintro ⟨h1, h2⟩
    exact ⟨h1, fun l hl => h2 l (List.mem_of_mem_take hl)⟩
theorem few_bad {c : List (List Int)} (k : Nat) (hk : k < c.length) (h8 : k < 8) (hb : 8 < c[k].length) : fewB c = false := by
  unfold fewB
  rw [Bool.and_eq_false_iff]
  right
  rw [Bool.eq_false_iff]
  intro h
  have := List.all_eq_true.1 h c[k] (List.mem_iff_getElem.2 ⟨k, by simp; omega, by simp⟩)
  simp at this; omega
theorem few_end {c : List (List Int)} (h : ∀ j (hj : j < c.length), j < 8 → c[j].length ≤ 8) : fewB c = decide (c.length ≤ 7) := by
  unfold fewB
  have : ((c.take 8).all fun l => decide (l.length ≤ 8)) = true := List.all_eq_true.2 fun l hl => by
    obtain ⟨j, hj, rfl⟩ := List.mem_iff_getElem.1 hl
    rw [List.length_take] at hj
    have := h j (by omega) (by omega)
    simpa using this
  rw [this, Bool.and_true]
set_option maxHeartbeats 2000000 in
theorem RFew_any (a : Option Addr) (cap : Nat) (c : List (List Int)) (w : World) (hl : c.length ≤ 9223372036854775807) (hm : MatAt w a c) :
    Calls Try.prog 10 #[.slice a c.length cap] w fun e w' => e = .returned (.bool (fewB c)) ∧ Below w.heap.size w w' := by
  have HM := Lib.hid hm; clear hm
  go_enter Try.func10, Try.ntmps10
  go_wp2
  go_loopw [3] (fun i wr => ∃ k : Nat, k ≤ c.length ∧ k ≤ 8 ∧ i = .int .i64 k ∧ (∀ j (hj : j < c.length), j < k → c[j].length ≤ 8) ∧ Below w.heap.size w wr) (fun i _ => 8 - (intOf i).toNat)
  case atStart => exact ⟨0, Nat.zero_le _, by omega, rfl, fun j hj hk => by omega, Below.refl _ _⟩
  case round =>
    obtain ⟨k, hk, hk8, rfl, hall, hb⟩ := hrel
    have H := Lib.hid hall; have HB := Lib.hid hb; clear hall hb
    by_cases hlt : k < c.length
    · have d1 : decide ((k : Int) < (c.length : Int)) = true := by simp; omega
      by_cases h8 : k < 8
      · have d2 : decide ((k : Int) < 8) = true := by simp; omega
        obtain ⟨b, off, ai, ci, rfl, c0, hsk, hik⟩ := (HM.out.below HB.out).get k hlt
        clear hsk hik
        by_cases hlen : 8 < c[k].length
        · have HF := Lib.hid (few_bad k hlt h8 hlen)
          go_wp2
          go_ret
          exact ⟨by rw [HF.out]; rfl, by first | exact HB.out | exact below_drewN HB.out _⟩
        · go_wp2
          go_roundw
          case rel => exact ⟨k + 1, by omega, by omega, by go_num, fun j hj hjk => by
            by_cases e : j = k
            · subst e; omega
            · exact H.out j hj (by omega), by first | exact HB.out | exact below_drewN HB.out _⟩
          case measure => simp [intOf]; omega
      · have d2 : decide ((k : Int) < 8) = false := by simp; omega
        have HF := Lib.hid (few_end (c := c) fun j hj hj8 => H.out j hj (by omega))
        have d3 : decide ((c.length : Int) ≤ 7) = false := by simp; omega
        go_wp2
        go_ret
        exact ⟨by rw [HF.out]; simp; omega, by first | exact HB.out | exact below_drewN HB.out _⟩
    · have d1 : decide ((k : Int) < (c.length : Int)) = false := by simp; omega
      have HF := Lib.hid (few_end (c := c) fun j hj hj8 => H.out j hj (by omega))
      go_wp2
      go_ret
      exact ⟨by rw [HF.out]; simp <;> omega, by first | exact HB.out | exact below_drewN HB.out _⟩
set_option maxRecDepth 100000 in
set_option maxHeartbeats 4000000 in
theorem RForm_any (a : Option Addr) (cap : Nat) (c : List (List Int)) (w : World) (hl : c.length ≤ 100000000000000) (hm : MatAt w a c) :
    Calls Try.prog 19 #[.slice a c.length cap] w fun e w' => e = .returned (.int .i64 (formE c)) ∧ Below w.heap.size w w' := by
  have HM := Lib.hid hm; clear hm
  by_cases h1 : c.length ≤ 200
  case neg =>
    have HE := Lib.hid (form_long (.inl h1))
    have h1' : 200 < c.length := by omega
    go_enter Try.func19, Try.ntmps19
    go_wp2
    go_ret
    exact ⟨by rw [HE.out]; rfl, Below.refl _ _⟩
  go_enter Try.func19, Try.ntmps19
  go_wp2
  go_loopw [3] (fun i wr => ∃ k : Nat, k ≤ c.length ∧ i = .int .i64 k ∧ (∀ j (hj : j < c.length), j < k → c[j].length ≤ 200) ∧ Below w.heap.size w wr) (fun i _ => c.length - (intOf i).toNat)
  case atStart => exact ⟨0, Nat.zero_le _, rfl, fun j hj hk => by omega, Below.refl _ _⟩
  case round =>
    obtain ⟨k, hk, rfl, hall, hb⟩ := hrel
    have H := Lib.hid hall; have HB := Lib.hid hb; clear hall hb
    by_cases hlt : k < c.length
    · obtain ⟨b, off, ai, ci, rfl, c0, hsk, hik⟩ := (HM.out.below HB.out).get k hlt
      clear hsk hik
      by_cases hlen : 200 < c[k].length
      · have HE := Lib.hid (form_long (c := c) (.inr (List.any_eq_true.2 ⟨c[k], List.getElem_mem _, by simpa using hlen⟩)))
        go_wp2
        go_ret
        exact ⟨by rw [HE.out]; rfl, HB.out⟩
      · go_wp2
        go_roundw
        case rel => exact ⟨k + 1, by omega, by go_num, fun j hj hjk => by
          by_cases e : j = k
          · subst e; omega
          · exact H.out j hj (by omega), HB.out⟩
        case measure => simp [intOf]; omega
    · have hA : (c.any fun l => decide (200 < l.length)) = false := by
        rw [List.any_eq_false]
        intro l hl
        obtain ⟨j, hj, rfl⟩ := List.mem_iff_getElem.1 hl
        have := H.out j hj (by omega)
        simp; omega
      have HAA := Lib.hid hA; clear hA
      have HL := Lib.hid (fun j (hj : j < c.length) => H.out j hj (by omega))
      clear H
      go_wp2
      go_loopw [4] (fun i wr => ∃ k : Nat, k ≤ c.length ∧ i = .int .i64 k ∧ (∀ j (hj : j < c.length), j < k → rowOk (wideL c) c[j] = true) ∧ Below w.heap.size w wr) (fun i _ => c.length - (intOf i).toNat)
      case atStart => exact ⟨0, Nat.zero_le _, rfl, fun j hj hk => by omega, HB.out⟩
      case round =>
        obtain ⟨k, hk, rfl, hall, hb⟩ := hrel
        have HAl := Lib.hid hall; have HB1 := Lib.hid hb; clear hall hb HB
        by_cases hlt : k < c.length
        · obtain ⟨b, off, ai, ci, rfl, c0, hsk, hik⟩ := (HM.out.below HB1.out).get k hlt
          obtain ⟨b', off', a0, ci0, e, d0, _, _⟩ := (HM.out.below HB1.out).get 0 (by omega)
          cases e
          have hwl : (c[0]'(by omega)).length = wideL c := by
            cases c with
            | nil => simp at hlt
            | cons l c => rfl
          rw [Nat.add_zero, hwl] at d0
          clear hwl
          have HIK := Lib.hid hik; clear hsk hik
          have hrl := HL.out k hlt
          have hpos : 0 < c.length := by omega
          generalize hL : c[k] = L at *
          have HLL := Lib.hid hL; clear hL
          by_cases he : L.length = wideL c
          · have hb : ((L.length : Int) != (wideL c : Int)) = false := by simp; omega
            have HE := Lib.hid he; clear he
            have HBd := Lib.hid (Below.refl wr.heap.size wr)
            go_wp2
            go_quiet (fail)
            go_wp2
            go_loopw [5] (fun i wi => ∃ m : Nat, m ≤ L.length ∧ i = .int .i64 m ∧ (∀ j (hj : j < L.length), j < m → costOk L[j] = true) ∧ Below w.heap.size w wi) (fun i _ => L.length - (intOf i).toNat)
            case atStart => exact ⟨0, Nat.zero_le _, rfl, fun j hj hk => by omega, by first | exact HB1.out | exact below_drewN HB1.out _⟩
            case round =>
              obtain ⟨m, hm, rfl, hall2, hb2⟩ := hrel
              have H2 := Lib.hid hall2; have HB2 := Lib.hid hb2; clear hall2 hb2 d0 c0
              obtain ⟨b', off', ai', ci', e, c0, hsk, hik2⟩ := (HM.out.below HB2.out).get k hlt
              cases e
              rw [HLL.out] at c0
              rw [HLL.out] at hik2
              by_cases hml : m < L.length
              · obtain ⟨b2, off2, rfl, e0⟩ := hik2.get m hml
                clear hsk hik2
                cases hlo : decide (L[m] < -1)
                · cases hhi : decide (1000000 < L[m])
                  · have HO := Lib.hid (show costOk L[m] = true by simp only [costOk]; simp at hlo hhi ⊢; omega)
                    go_wp2
                    go_roundw
                    case rel => exact ⟨m + 1, by omega, by go_num, fun j hj hjk => by
                      by_cases e : j = m
                      · subst e; exact HO.out
                      · exact H2.out j hj (by omega), by first | exact HB2.out | exact below_drewN HB2.out _⟩
                    case measure => simp [intOf]; omega
                  · have HE1 := Lib.hid (form_bad (c := c) (i := k) hlt h1 HAA.out (by
                      rw [HLL.out, Bool.eq_false_iff]
                      intro hr
                      simp only [rowOk, Bool.and_eq_true, decide_eq_true_eq, List.all_eq_true] at hr
                      have := hr.2 L[m] (List.getElem_mem _)
                      simp [costOk] at this hhi; omega))
                    go_wp2
                    go_ret
                    exact ⟨by rw [HE1.out]; rfl, by first | exact HB2.out | exact below_drewN HB2.out _⟩
                · have HE1 := Lib.hid (form_bad (c := c) (i := k) hlt h1 HAA.out (by
                    rw [HLL.out, Bool.eq_false_iff]
                    intro hr
                    simp only [rowOk, Bool.and_eq_true, decide_eq_true_eq, List.all_eq_true] at hr
                    have := hr.2 L[m] (List.getElem_mem _)
                    simp [costOk] at this hlo; omega))
                  go_wp2
                  go_ret
                  exact ⟨by rw [HE1.out]; rfl, by first | exact HB2.out | exact below_drewN HB2.out _⟩
              · have HO := Lib.hid (show rowOk (wideL c) L = true by
                  simp only [rowOk, Bool.and_eq_true, decide_eq_true_eq, List.all_eq_true]
                  refine ⟨HE.out, fun n hn => ?_⟩
                  obtain ⟨j, hj, rfl⟩ := List.mem_iff_getElem.1 hn
                  exact H2.out j hj (by omega))
                clear hsk hik2
                go_wp2
                go_roundw
                case rel => exact ⟨k + 1, by omega, by go_num, fun j hj hjk => by
                  by_cases e : j = k
                  · subst e; rw [HLL.out]; exact HO.out
                  · exact HAl.out j hj (by omega), HB2.out⟩
                case measure => simp [intOf]; omega
          · have hb : ((L.length : Int) != (wideL c : Int)) = true := by simp; omega
            have HE1 := Lib.hid (form_bad (c := c) (i := k) hlt h1 HAA.out (by
              rw [HLL.out]
              rw [Bool.eq_false_iff]
              intro hr
              simp only [rowOk, Bool.and_eq_true, decide_eq_true_eq] at hr
              exact he hr.1))
            clear he
            go_wp2
            go_quiet (fail)
            go_wp2
            go_ret
            exact ⟨by rw [HE1.out]; rfl, by first | exact HB1.out | exact below_drewN HB1.out _⟩
        · have HE := Lib.hid (form_ok h1 HAA.out fun i hi => HAl.out i hi (by omega))
          go_wp2
          go_ret
          exact ⟨by rw [HE.out]; rfl, HB1.out⟩
end Go.Proofs.Ytkpgphadgomifaa
