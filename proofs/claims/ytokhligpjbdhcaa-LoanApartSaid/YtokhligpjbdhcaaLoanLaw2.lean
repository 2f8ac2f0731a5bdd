/- The second law on loans (LoanHolders): the walk. -/
import Derived.Test.YtokhligpjbdhcaaLoanPure2
namespace Go.Proofs.Ytokhligpjbdhcaa
set_option linter.unusedSimpArgs false
set_option linter.unusedVariables false
open Go.RowKit Go.Sort


set_option maxRecDepth 100000 in
set_option maxHeartbeats 2000000 in
theorem law2_good (a : Option Addr) (n cap : Nat) (l : List Lo) (stand sheet time t hs : Int) (is : Bool) (H H2 : List Int) (w : World)
    (HU : Hid (∀ w, LoAt w a l → Calls Try.prog 22 #[.slice a n cap] w fun e w' => e = .returned (.bool true) ∧ Below w.heap.size w w'))
    (HW : Hid (∀ w, Calls Try.prog 24 #[.int .u32 time] w fun e w' => e = .returned (.int .i64 t) ∧ w = w'))
    (HD : Hid (∀ w, LoAt w a l → Calls Try.prog 17 #[.slice a n cap, .int .i64 stand, .int .i64 t] w (RetSlI 1 (H.map inRow) 0 w)))
    (HO : Hid (∀ w, LoAt w a l → Calls Try.prog 15 #[.slice a n cap, .int .i64 sheet, .int .i64 t] w fun e w' => e = .returned (.tuple #[.int .i64 hs, .bool is, .int .i64 0]) ∧ Below w.heap.size w w'))
    (HX : Hid (∀ k (hk : k < H.length) w, LoAt w a l → Calls Try.prog 15 #[.slice a n cap, .int .i64 H[k], .int .i64 t] w fun e w' => e = .returned (.tuple #[.int .i64 stand, .bool true, .int .i64 0]) ∧ Below w.heap.size w w'))
    (HD2 : Hid (is = true → ∀ w, LoAt w a l → Calls Try.prog 17 #[.slice a n cap, .int .i64 hs, .int .i64 t] w (RetSlI 1 (H2.map inRow) 0 w)))
    (hst : inB stand 1 1000000 = true) (hsh : inB sheet 1 1000000 = true) (HS : Hid (H.Pairwise (· < ·))) (hHl : H.length ≤ 1000000) (hHl2 : H2.length ≤ 1000000)
    (HE : Hid (decide (sheet ∈ H) = (is && (hs == stand)))) (HZ : Hid (is = false → hs = 0)) (HM : Hid (is = true → sheet ∈ H2)) (hr : LoAt w a l) :
    Calls Try.prog 4 #[.slice a n cap, .int .i64 stand, .int .i64 sheet, .int .u32 time] w fun e w' => e = .returned (.bool true) ∧ Below w.heap.size w w' := by
  go_enter Try.func4, Try.ntmps4
  go_wp2_with (first | (go_at_call 8; refine (head_any _).mono ?_; rintro e w1 ⟨rfl, hb⟩; have HB := Lib.hid hb; have HR := Lib.hid (hr.below hb); clear hb hr) | (go_at_call 22; refine (HU.out _ HR.out).mono ?_; rintro e w2 ⟨rfl, hb⟩; replace HB := Lib.hid (HB.out.trans (hb.mono HB.out.size)); replace HR := Lib.hid (HR.out.below hb); (try replace HA := Lib.hid (SlAt.below HA.out hb)); clear hb) | (go_at_call 23; refine (ID_any _ _).mono ?_; rintro e w3 ⟨rfl, rfl⟩) | (go_at_call 24; refine (HW.out _).mono ?_; rintro e w3 ⟨rfl, rfl⟩) | (go_at_call 17; refine (HD.out _ HR.out).mono ?_; rintro e w4 ⟨a1, c1, rfl, _, ha, hb⟩; replace HB := Lib.hid (HB.out.trans (hb.mono HB.out.size)); replace HR := Lib.hid (HR.out.below hb); (try replace HA := Lib.hid (SlAt.below HA.out hb)); clear hb; have HA := Lib.hid ha; clear ha) | (go_at_call 15; refine (HO.out _ HR.out).mono ?_; rintro e w5 ⟨rfl, hb⟩; replace HB := Lib.hid (HB.out.trans (hb.mono HB.out.size)); replace HR := Lib.hid (HR.out.below hb); (try replace HA := Lib.hid (SlAt.below HA.out hb)); clear hb))
  go_loopw [16, 67] (fun b i wr => ∃ (k : Nat) (has : Bool), k ≤ H.length ∧ i = .int .i64 k ∧ b = .bool has ∧ Hid (has = decide (sheet ∈ H.take k)) ∧ Below w.heap.size w wr ∧ InAt wr a1 H ∧ LoAt wr a l) (fun _ i _ => H.length - (intOf i).toNat)
  case atStart => exact ⟨0, false, Nat.zero_le _, rfl, rfl, Lib.hid (by simp), HB.out, HA.out, HR.out⟩
  case round =>
    obtain ⟨k, has, hk, rfl, rfl, HH, hb0, ha0, hr0⟩ := hrel
    clear HB HA HR
    have HB := Lib.hid hb0; have HA := Lib.hid ha0; have HR := Lib.hid hr0; clear hb0 ha0 hr0
    by_cases hlt : k < H.length
    · obtain ⟨b, off, rfl, c0⟩ := InAt.get HA.out k hlt
      have hms := Lib.hid (mem_step H sheet k hlt)
      have hE := Lib.hid (fun (b : Bool) (e : b = (has || (H[k] == sheet))) => (show b = decide (sheet ∈ H.take (k + 1)) by rw [e, hms.out, HH.out]))
      by_cases h0 : k = 0
      · have hk0 : decide (0 < k) = false := by simp [h0]
        have H0 := Lib.hid h0; clear h0
        go_wp2_with (go_at_call 15; refine (HX.out k hlt _ HR.out).mono ?_; rintro e w5 ⟨rfl, hb⟩; replace HB := Lib.hid (HB.out.trans (hb.mono HB.out.size)); replace HR := Lib.hid (HR.out.below hb); (try replace HA := Lib.hid (SlAt.below HA.out hb)); clear hb)
        all_goals (refine ⟨⟨k + 1, _, by omega, by go_num, rfl, Lib.hid (hE.out _ ?_), HB.out, HA.out, HR.out⟩, by simp [intOf]; omega⟩; simp [*])
      · obtain ⟨j, rfl⟩ : ∃ j, k = j + 1 := ⟨k - 1, by omega⟩
        have hk1 : ((j + 1 : Nat) : Int) - 1 = (j : Int) := by omega
        have hk0 : decide ((0 : Int) < ((j + 1 : Nat) : Int)) = true := by simp
        have hs1 : decide (H[j + 1] ≤ H[j]) = false := by
          have := List.pairwise_iff_getElem.1 HS.out j (j + 1) (by omega) hlt (by omega)
          simp; omega
        go_wp2_with (go_at_call 15; refine (HX.out _ hlt _ HR.out).mono ?_; rintro e w5 ⟨rfl, hb⟩; replace HB := Lib.hid (HB.out.trans (hb.mono HB.out.size)); replace HR := Lib.hid (HR.out.below hb); (try replace HA := Lib.hid (SlAt.below HA.out hb)); clear hb; have c1 := (InAt.get HA.out j (by omega)); obtain ⟨b', off', e', c1⟩ := c1; cases e')
        all_goals (refine ⟨⟨j + 1 + 1, _, by omega, by go_num, rfl, Lib.hid (hE.out _ ?_), HB.out, HA.out, HR.out⟩, by simp [intOf]; omega⟩; simp [*])
    · obtain rfl : k = H.length := by omega
      rw [List.take_length, HE.out] at HH
      obtain rfl : has = _ := HH.out
      clear HH hlt
      cases is
      · have := HZ.out rfl
        subst this
        go_wp2
        go_ret
        exact ⟨rfl, HB.out⟩
      · clear HZ
        have HD3 := Lib.hid (HD2.out rfl)
        have HM2 := Lib.hid (HM.out rfl)
        clear HD2 HM HA
        go_wp2_with (go_at_call 17; refine (HD3.out _ HR.out).mono ?_; rintro e w4 ⟨a2, c2, rfl, _, ha, hb⟩; replace HB := Lib.hid (HB.out.trans (hb.mono HB.out.size)); replace HR := Lib.hid (HR.out.below hb); (try replace HA := Lib.hid (SlAt.below HA.out hb)); clear hb; have HA := Lib.hid ha; clear ha)
        go_loopw [24, 135] (fun b i wr => ∃ (k : Nat) (has : Bool), k ≤ H2.length ∧ i = .int .i64 k ∧ b = .bool has ∧ Hid (has = decide (sheet ∈ H2.take k)) ∧ wr = w4) (fun _ i _ => H2.length - (intOf i).toNat)
        case atStart => exact ⟨0, false, Nat.zero_le _, rfl, rfl, Lib.hid (by simp), rfl⟩
        case round =>
          obtain ⟨k, has, hk, rfl, rfl, HH, rfl⟩ := hrel
          by_cases hlt : k < H2.length
          · obtain ⟨b, off, rfl, c0⟩ := InAt.get HA.out k hlt
            have hms := Lib.hid (mem_step H2 sheet k hlt)
            have hE := Lib.hid (fun (b : Bool) (e : b = (has || (H2[k] == sheet))) => (show b = decide (sheet ∈ H2.take (k + 1)) by rw [e, hms.out, HH.out]))
            go_wp2
            all_goals (refine ⟨⟨k + 1, _, by omega, by go_num, rfl, Lib.hid (hE.out _ ?_), (by first | trivial | rfl)⟩, by simp [intOf]; omega⟩; simp [*])
          · obtain rfl : k = H2.length := by omega
            rw [List.take_length, decide_eq_true HM2.out] at HH
            obtain rfl : has = _ := HH.out
            clear HH hlt
            go_wp2
            go_ret
            exact ⟨rfl, HB.out⟩

set_option maxRecDepth 100000 in
set_option maxHeartbeats 2000000 in
theorem law2_bad (a : Option Addr) (n cap : Nat) (l : List Lo) (stand sheet time : Int) (u : Bool) (w : World)
    (HU : Hid (∀ w, LoAt w a l → Calls Try.prog 22 #[.slice a n cap] w fun e w' => e = .returned (.bool u) ∧ Below w.heap.size w w'))
    (hb : (u && inB stand 1 1000000 && inB sheet 1 1000000) = false) (hr : LoAt w a l) :
    Calls Try.prog 4 #[.slice a n cap, .int .i64 stand, .int .i64 sheet, .int .u32 time] w fun e w' => e = .returned (.bool true) ∧ Below w.heap.size w w' := by
  cases u
  · clear hb
    go_enter Try.func4, Try.ntmps4
    go_wp2_with (first | (go_at_call 8; refine (head_any _).mono ?_; rintro e w1 ⟨rfl, hb⟩; have HB := Lib.hid hb; have HR := Lib.hid (hr.below hb); clear hb hr) | (go_at_call 22; refine (HU.out _ HR.out).mono ?_; rintro e w2 ⟨rfl, hb⟩; replace HB := Lib.hid (HB.out.trans (hb.mono HB.out.size)); replace HR := Lib.hid (HR.out.below hb); (try replace HA := Lib.hid (SlAt.below HA.out hb)); clear hb))
    go_ret
    exact ⟨rfl, HB.out⟩
  · cases h1 : inB stand 1 1000000
    · clear hb
      go_enter Try.func4, Try.ntmps4
      go_wp2_with (first | (go_at_call 8; refine (head_any _).mono ?_; rintro e w1 ⟨rfl, hb⟩; have HB := Lib.hid hb; have HR := Lib.hid (hr.below hb); clear hb hr) | (go_at_call 22; refine (HU.out _ HR.out).mono ?_; rintro e w2 ⟨rfl, hb⟩; replace HB := Lib.hid (HB.out.trans (hb.mono HB.out.size)); replace HR := Lib.hid (HR.out.below hb); (try replace HA := Lib.hid (SlAt.below HA.out hb)); clear hb) | (go_at_call 23; refine (ID_any _ _).mono ?_; rintro e w3 ⟨rfl, rfl⟩))
      go_ret
      exact ⟨rfl, HB.out⟩
    · have h2 : inB sheet 1 1000000 = false := by simpa [h1] using hb
      clear hb
      go_enter Try.func4, Try.ntmps4
      go_wp2_with (first | (go_at_call 8; refine (head_any _).mono ?_; rintro e w1 ⟨rfl, hb⟩; have HB := Lib.hid hb; have HR := Lib.hid (hr.below hb); clear hb hr) | (go_at_call 22; refine (HU.out _ HR.out).mono ?_; rintro e w2 ⟨rfl, hb⟩; replace HB := Lib.hid (HB.out.trans (hb.mono HB.out.size)); replace HR := Lib.hid (HR.out.below hb); (try replace HA := Lib.hid (SlAt.below HA.out hb)); clear hb) | (go_at_call 23; refine (ID_any _ _).mono ?_; rintro e w3 ⟨rfl, rfl⟩))
      go_ret
      exact ⟨rfl, HB.out⟩

theorem tm_in (t : Int) : inB (t % 1000000001) 0 1000000000 = true := by rw [inB_iff]; omega
theorem heldF_len' (l : List Lo) (s t : Int) : (heldF (upTo l t) s (upTo l t).length).length ≤ l.length := Nat.le_trans (heldF_len _ _ _ (Nat.le_refl _)) (upTo_len l t)
theorem law2_any (a : Option Addr) (n cap : Nat) (l : List Lo) (stand sheet time : Int) (w : World) (hn : n = l.length) (hl : n ≤ 9223372036854775807) (hs : SlOk a n cap) (hr : LoAt w a l) (h0 : 0 ≤ time) (h1 : time ≤ 4294967295) :
    Calls Try.prog 4 #[.slice a n cap, .int .i64 stand, .int .i64 sheet, .int .u32 time] w fun e w' => e = .returned (.bool true) ∧ Below w.heap.size w w' := by
  have hU := fun w hr => usable_any a n cap l w hn hl hs hr
  cases hu : (decide (n ≤ 60) && loansOk l) && inB stand 1 1000000 && inB sheet 1 1000000
  · exact law2_bad a n cap l stand sheet time _ w hU hu hr
  · simp only [Bool.and_eq_true, decide_eq_true_eq] at hu
    obtain ⟨⟨⟨h60, hv⟩, hst⟩, hsh⟩ := hu
    have hti := tm_in time
    have hlen := heldF_len' l
    have hmm := @heldL_mem l stand (time % 1000000001) hst
    have hns := hold_nn hv (time % 1000000001) sheet
    have hid := hold_id hv (time % 1000000001)
    rw [inB_iff] at hst
    refine law2_good a n cap l stand sheet time (time % 1000000001) (hold (upTo l (time % 1000000001)) sheet) (decide (0 < hold (upTo l (time % 1000000001)) sheet))
      (heldF (upTo l (time % 1000000001)) stand (upTo l (time % 1000000001)).length) (heldF (upTo l (time % 1000000001)) (hold (upTo l (time % 1000000001)) sheet) (upTo l (time % 1000000001)).length) w
      (fun w hr => by have := hU w hr; rw [decide_eq_true h60, hv] at this; exact this) (fun w => when_any time w h0 h1)
      (fun w hr => by have := PHeld_any a n cap l stand (time % 1000000001) w hn (by omega) hr; rw [heldR_ok hv ((inB_iff _ _ _).2 hst) hti] at this; exact this)
      (fun w hr => by have := PHolder_any a n cap l sheet (time % 1000000001) w hn (by omega) hr; rw [holderR_ok hv hsh hti] at this; exact this)
      (fun k hk w hr => ?_) (fun hi w hr => ?_) ((inB_iff _ _ _).2 hst) hsh hmm.1 (by have := hlen stand (time % 1000000001); omega) (by have := hlen (hold (upTo l (time % 1000000001)) sheet) (time % 1000000001); omega) ?_ (fun hi => ?_) (fun hi => ?_) hr
    · have hx := (hmm.2 _).1 (List.getElem_mem hk)
      have := PHolder_any a n cap l ((heldF (upTo l (time % 1000000001)) stand (upTo l (time % 1000000001)).length)[k]) (time % 1000000001) w hn (by omega) hr
      rw [holderR_ok hv ((hid _).2 (by omega)) hti, hx, decide_eq_true (by omega)] at this
      exact this
    · have hp : 0 < hold (upTo l (time % 1000000001)) sheet := by simpa using hi
      have hi2 : inB (hold (upTo l (time % 1000000001)) sheet) 1 1000000 = true := ((hid sheet).1).resolve_left (by omega)
      have := PHeld_any a n cap l (hold (upTo l (time % 1000000001)) sheet) (time % 1000000001) w hn (by omega) hr
      rw [heldR_ok hv hi2 hti] at this
      exact this
    · show decide _ = _
      rw [Bool.eq_iff_iff, decide_eq_true_eq, hmm.2]
      simp only [Bool.and_eq_true, decide_eq_true_eq, beq_iff_eq]
      exact ⟨fun e => ⟨by omega, e⟩, And.right⟩
    · have hp : ¬ 0 < hold (upTo l (time % 1000000001)) sheet := by simpa using hi
      omega
    · have hp : 0 < hold (upTo l (time % 1000000001)) sheet := by simpa using hi
      exact ((@heldL_mem l _ (time % 1000000001) (((hid sheet).1).resolve_left (by omega))).2 _).2 rfl

end Go.Proofs.Ytokhligpjbdhcaa
