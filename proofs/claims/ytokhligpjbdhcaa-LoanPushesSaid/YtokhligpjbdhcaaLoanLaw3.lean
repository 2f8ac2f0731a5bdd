/- The third law on loans (LoanPushes): the walk. -/
import Derived.Test.YtokhligpjbdhcaaLoanPure3
import Derived.Test.YtokhligpjbdhcaaLoanLaw2
namespace Go.Proofs.Ytokhligpjbdhcaa
set_option linter.unusedSimpArgs false
set_option linter.unusedVariables false
open Go.RowKit Go.Sort


/-- What the fourth to the tenth line of the loop want of a sheet. -/
def Pushed (a : Option Addr) (n cap : Nat) (l M : List Lo) (xt xk xs xst xh t S : Int) : Prop :=
  ∃ (ra rb rc rd : Int) (ris rwas : Bool), (∀ w, LoAt w a l → Calls Try.prog 15 #[.slice a n cap, .int .i64 S, .int .i64 t] w fun e w' => e = .returned (.tuple #[.int .i64 ra, .bool ris, .int .i64 0]) ∧ Below w.heap.size w w') ∧ (∀ a1 c1, (∀ w, LoAt w a1 M → Calls Try.prog 15 #[.slice a1 M.length c1, .int .i64 S, .int .i64 t] w fun e w' => e = .returned (.tuple #[.int .i64 rb, .bool rwas, .int .i64 0]) ∧ Below w.heap.size w w')) ∧ (∀ w, LoAt w a l → Calls Try.prog 20 #[.slice a n cap, .int .i64 S, .int .i64 t] w fun e w' => e = .returned (.tuple #[.int .i64 rc, .int .i64 0]) ∧ Below w.heap.size w w') ∧ (∀ a1 c1, (∀ w, LoAt w a1 M → Calls Try.prog 20 #[.slice a1 M.length c1, .int .i64 S, .int .i64 t] w fun e w' => e = .returned (.tuple #[.int .i64 rd, .int .i64 0]) ∧ Below w.heap.size w w')) ∧
    (((S != xs) = true ∨ decide (t < xt) = true) → rb = ra ∧ rwas = ris ∧ rd = rc) ∧ ((S != xs) = false → decide (t < xt) = false → rb = xst ∧ rwas = (xk == 1) ∧ ((xk == 3) = true ∧ (xk != 3) = false ∧ rd = xh ∨ (xk == 3) = false ∧ (xk != 3) = true ∧ rd = rc))

set_option maxRecDepth 100000 in
set_option maxHeartbeats 4000000 in
theorem law3_ok (a : Option Addr) (n cap : Nat) (l : List Lo) (xt xk xs xst xh other time : Int) (w : World) (t h0 : Int) (M : List Lo) (HU : Hid (∀ w, LoAt w a l → Calls Try.prog 22 #[.slice a n cap] w fun e w' => e = .returned (.bool true) ∧ Below w.heap.size w w'))
    (HW : Hid (∀ w, Calls Try.prog 24 #[.int .u32 time] w fun e w' => e = .returned (.int .i64 t) ∧ w = w'))
    (hlo : loanOk ⟨xt, xk, xs, xst, xh⟩ = true) (hid : inB other 1 1000000 = true) (HO : Hid (∀ w, LoAt w a l → Calls Try.prog 15 #[.slice a n cap, .int .i64 xs, .int .i64 1000000000] w fun e w' => e = .returned (.tuple #[.int .i64 h0, .bool (xk == 2), .int .i64 0]) ∧ Below w.heap.size w w')) (HP : Hid (∀ w, LoAt w a l → Calls Try.prog 10 #[.slice a n cap, .agg #[.int .i64 xt, .int .i64 xk, .int .i64 xs, .int .i64 xst, .int .i64 xh]] w (RetSlI 5 (M.map Lo.cells) 0 w))) (HV : Hid (loansOk M = true)) (HL1 : Hid (M.length = n + 1)) (hn60 : n ≤ 60)
    (HQ : Hid (∀ S, S = xs ∨ S = other → Pushed a n cap l M xt xk xs xst xh t S)) (hr : LoAt w a l) : Calls Try.prog 5 #[.slice a n cap, .agg #[.int .i64 xt, .int .i64 xk, .int .i64 xs, .int .i64 xst, .int .i64 xh], .int .i64 other, .int .u32 time] w fun e w' => e = .returned (.bool true) ∧ Below w.heap.size w w' := by
  have hM : M.length ≤ 1000000 := by have := HL1.out; omega
  have hlen : (((M.length : Nat) : Int) != ((n : Nat) : Int) + 1) = false := by have := HL1.out; simp; omega
  go_enter Try.func5, Try.ntmps5
  go_wp2_with (first | (go_at_call 8; refine (head_any _).mono ?_; rintro e w1 ⟨rfl, hb⟩; have HX := Lib.hid (box_below hb); have hc := box_cells HX.out; have HB := Lib.hid (((Below.refl _ _).alloc (Nat.le_refl _) _).trans (hb.mono (by simp))); have HR := Lib.hid (hr.below HB.out); clear hb hr) | (go_at_call 22; refine (HU.out _ HR.out).mono ?_; rintro e w2 ⟨rfl, hb⟩; replace HB := Lib.hid (HB.out.trans (hb.mono HB.out.size)); replace HR := Lib.hid (HR.out.below hb); replace HX := Lib.hid (blk_keep HX.out hb); replace hc := box_cells HX.out; (try replace HM := Lib.hid (HM.out.below hb)); (try replace HA := Lib.hid (SlAt.below HA.out hb)); clear hb) | (go_at_call 25; refine (Loan_any _ _ _ _ _ _).mono ?_; rintro e w2 ⟨rfl, hb⟩; replace HB := Lib.hid (HB.out.trans (hb.mono HB.out.size)); replace HR := Lib.hid (HR.out.below hb); replace HX := Lib.hid (blk_keep HX.out hb); replace hc := box_cells HX.out; (try replace HM := Lib.hid (HM.out.below hb)); (try replace HA := Lib.hid (SlAt.below HA.out hb)); clear hb) | (go_at_call 23; refine (ID_any _ _).mono ?_; rintro e w3 ⟨rfl, rfl⟩) | (go_at_call 24; refine (HW.out _).mono ?_; rintro e w3 ⟨rfl, rfl⟩) | (go_at_call 15; refine (HO.out _ HR.out).mono ?_; rintro e w5 ⟨rfl, hb⟩; replace HB := Lib.hid (HB.out.trans (hb.mono HB.out.size)); replace HR := Lib.hid (HR.out.below hb); replace HX := Lib.hid (blk_keep HX.out hb); replace hc := box_cells HX.out; (try replace HM := Lib.hid (HM.out.below hb)); (try replace HA := Lib.hid (SlAt.below HA.out hb)); clear hb) | (go_at_call 10; refine (HP.out _ HR.out).mono ?_; rintro e w4 ⟨a1, c1, rfl, _, ha, hb⟩; replace HB := Lib.hid (HB.out.trans (hb.mono HB.out.size)); replace HR := Lib.hid (HR.out.below hb); replace HX := Lib.hid (blk_keep HX.out hb); replace hc := box_cells HX.out; (try replace HM := Lib.hid (HM.out.below hb)); (try replace HA := Lib.hid (SlAt.below HA.out hb)); clear hb; have HM := Lib.hid (show LoAt _ a1 M from ha); clear ha) | (go_at_call 12; refine (PValid_any _ _ _ M _ (by simp) (by simpa using hM) HM.out).mono ?_; rw [HV.out]; rintro e w6 ⟨rfl, hb⟩; replace HB := Lib.hid (HB.out.trans (hb.mono HB.out.size)); replace HR := Lib.hid (HR.out.below hb); replace HX := Lib.hid (blk_keep HX.out hb); replace hc := box_cells HX.out; (try replace HM := Lib.hid (HM.out.below hb)); (try replace HA := Lib.hid (SlAt.below HA.out hb)); clear hb))
  have HA := Lib.hid (show InAt (w6.alloc (.cells #[.int .i64 xs, .int .i64 other] 3)) (some ⟨w6.heap.size, 0, none⟩) [xs, other] from SlAt.new w6 [.int .i64 xs, .int .i64 other] 3 1 [inRow xs, inRow other] (by simp [inRow]) rfl)
  have hb : Below w6.heap.size w6 (w6.alloc (.cells #[.int .i64 xs, .int .i64 other] 3)) := (Below.refl _ _).alloc (Nat.le_refl _) _
  replace HB := Lib.hid (HB.out.trans (hb.mono HB.out.size)); replace HR := Lib.hid (HR.out.below hb); replace HM := Lib.hid (HM.out.below hb); replace HX := Lib.hid (blk_keep HX.out hb); clear hc hb
  go_loopw [9, 125] (fun b i wr => ∃ (k : Nat), k ≤ 2 ∧ i = .int .i64 k ∧ b = .bool true ∧ Below w.heap.size w wr ∧ InAt wr (some ⟨w6.heap.size, 0, none⟩) [xs, other] ∧ LoAt wr a l ∧ LoAt wr a1 M ∧ wr.heap[w.heap.size]? = some (.cells #[.int .i64 xt, .int .i64 xk, .int .i64 xs, .int .i64 xst, .int .i64 xh] 24 (0, 0))) (fun _ i _ => 2 - (intOf i).toNat)
  case atStart => exact ⟨0, by omega, rfl, rfl, HB.out, HA.out, HR.out, HM.out, HX.out⟩
  case round =>
    obtain ⟨k, hk, rfl, rfl, hb0, ha0, hr0, hm0, hx0⟩ := hrel
    clear HB HA HR HM HX
    have HB := Lib.hid hb0; have HA := Lib.hid ha0; have HR := Lib.hid hr0; have HM := Lib.hid hm0; have HX := Lib.hid hx0; clear hb0 ha0 hr0 hm0 hx0
    have hc := box_cells HX.out
    by_cases hlt : k < 2
    · obtain ⟨S, hS, c0⟩ : ∃ S, (S = xs ∨ S = other) ∧ wr.cell? ⟨w6.heap.size, k, none⟩ = some (.int .i64 S) := by
        obtain ⟨b, off, e, c0⟩ := InAt.get HA.out k hlt
        cases e
        rw [Nat.zero_add] at c0
        have : k = 0 ∨ k = 1 := by omega
        rcases this with rfl | rfl
        · exact ⟨xs, .inl rfl, c0⟩
        · exact ⟨other, .inr rfl, c0⟩
      obtain ⟨ra, rb, rc, rd, ris, rwas, q1, q2, q3, q4, q5, q6⟩ := HQ.out S hS
      have Q1 := Lib.hid q1; have Q2 := Lib.hid q2; have Q3 := Lib.hid q3; have Q4 := Lib.hid q4; clear q1 q2 q3 q4 hS
      have Q5 := Lib.hid q5; have Q6 := Lib.hid q6; clear q5 q6
      cases hsx : S != xs
      · cases htx : decide (t < xt)
        · obtain ⟨e1, e2, h3⟩ := Q6.out hsx htx
          subst e1 e2
          rcases h3 with ⟨k3, k3', rfl⟩ | ⟨k3, k3', rfl⟩
          · (go_wp2_with (fail); refine (Q1.out _ HR.out).mono ?_; rintro e w7 ⟨rfl, hb⟩; replace HB := Lib.hid (HB.out.trans (hb.mono HB.out.size)); replace HR := Lib.hid (HR.out.below hb); replace HX := Lib.hid (blk_keep HX.out hb); replace hc := box_cells HX.out; (try replace HM := Lib.hid (HM.out.below hb)); (try replace HA := Lib.hid (SlAt.below HA.out hb)); clear hb; go_wp2_with (fail); refine (Q2.out a1 c1 _ HM.out).mono ?_; rintro e w8 ⟨rfl, hb⟩; replace HB := Lib.hid (HB.out.trans (hb.mono HB.out.size)); replace HR := Lib.hid (HR.out.below hb); replace HX := Lib.hid (blk_keep HX.out hb); replace hc := box_cells HX.out; (try replace HM := Lib.hid (HM.out.below hb)); (try replace HA := Lib.hid (SlAt.below HA.out hb)); clear hb; go_wp2_with (fail); refine (Q3.out _ HR.out).mono ?_; rintro e w9 ⟨rfl, hb⟩; replace HB := Lib.hid (HB.out.trans (hb.mono HB.out.size)); replace HR := Lib.hid (HR.out.below hb); replace HX := Lib.hid (blk_keep HX.out hb); replace hc := box_cells HX.out; (try replace HM := Lib.hid (HM.out.below hb)); (try replace HA := Lib.hid (SlAt.below HA.out hb)); clear hb; go_wp2_with (fail); refine (Q4.out a1 c1 _ HM.out).mono ?_; rintro e w10 ⟨rfl, hb⟩; replace HB := Lib.hid (HB.out.trans (hb.mono HB.out.size)); replace HR := Lib.hid (HR.out.below hb); replace HX := Lib.hid (blk_keep HX.out hb); replace hc := box_cells HX.out; (try replace HM := Lib.hid (HM.out.below hb)); (try replace HA := Lib.hid (SlAt.below HA.out hb)); clear hb; go_wp2; all_goals exact ⟨⟨k + 1, by omega, by go_num, rfl, HB.out, HA.out, HR.out, HM.out, HX.out⟩, by simp [intOf]; omega⟩)
          · (go_wp2_with (fail); refine (Q1.out _ HR.out).mono ?_; rintro e w7 ⟨rfl, hb⟩; replace HB := Lib.hid (HB.out.trans (hb.mono HB.out.size)); replace HR := Lib.hid (HR.out.below hb); replace HX := Lib.hid (blk_keep HX.out hb); replace hc := box_cells HX.out; (try replace HM := Lib.hid (HM.out.below hb)); (try replace HA := Lib.hid (SlAt.below HA.out hb)); clear hb; go_wp2_with (fail); refine (Q2.out a1 c1 _ HM.out).mono ?_; rintro e w8 ⟨rfl, hb⟩; replace HB := Lib.hid (HB.out.trans (hb.mono HB.out.size)); replace HR := Lib.hid (HR.out.below hb); replace HX := Lib.hid (blk_keep HX.out hb); replace hc := box_cells HX.out; (try replace HM := Lib.hid (HM.out.below hb)); (try replace HA := Lib.hid (SlAt.below HA.out hb)); clear hb; go_wp2_with (fail); refine (Q3.out _ HR.out).mono ?_; rintro e w9 ⟨rfl, hb⟩; replace HB := Lib.hid (HB.out.trans (hb.mono HB.out.size)); replace HR := Lib.hid (HR.out.below hb); replace HX := Lib.hid (blk_keep HX.out hb); replace hc := box_cells HX.out; (try replace HM := Lib.hid (HM.out.below hb)); (try replace HA := Lib.hid (SlAt.below HA.out hb)); clear hb; go_wp2_with (fail); refine (Q4.out a1 c1 _ HM.out).mono ?_; rintro e w10 ⟨rfl, hb⟩; replace HB := Lib.hid (HB.out.trans (hb.mono HB.out.size)); replace HR := Lib.hid (HR.out.below hb); replace HX := Lib.hid (blk_keep HX.out hb); replace hc := box_cells HX.out; (try replace HM := Lib.hid (HM.out.below hb)); (try replace HA := Lib.hid (SlAt.below HA.out hb)); clear hb; go_wp2; all_goals exact ⟨⟨k + 1, by omega, by go_num, rfl, HB.out, HA.out, HR.out, HM.out, HX.out⟩, by simp [intOf]; omega⟩)
        · obtain ⟨rfl, rfl, rfl⟩ := Q5.out (.inr htx)
          (go_wp2_with (fail); refine (Q1.out _ HR.out).mono ?_; rintro e w7 ⟨rfl, hb⟩; replace HB := Lib.hid (HB.out.trans (hb.mono HB.out.size)); replace HR := Lib.hid (HR.out.below hb); replace HX := Lib.hid (blk_keep HX.out hb); replace hc := box_cells HX.out; (try replace HM := Lib.hid (HM.out.below hb)); (try replace HA := Lib.hid (SlAt.below HA.out hb)); clear hb; go_wp2_with (fail); refine (Q2.out a1 c1 _ HM.out).mono ?_; rintro e w8 ⟨rfl, hb⟩; replace HB := Lib.hid (HB.out.trans (hb.mono HB.out.size)); replace HR := Lib.hid (HR.out.below hb); replace HX := Lib.hid (blk_keep HX.out hb); replace hc := box_cells HX.out; (try replace HM := Lib.hid (HM.out.below hb)); (try replace HA := Lib.hid (SlAt.below HA.out hb)); clear hb; go_wp2_with (fail); refine (Q3.out _ HR.out).mono ?_; rintro e w9 ⟨rfl, hb⟩; replace HB := Lib.hid (HB.out.trans (hb.mono HB.out.size)); replace HR := Lib.hid (HR.out.below hb); replace HX := Lib.hid (blk_keep HX.out hb); replace hc := box_cells HX.out; (try replace HM := Lib.hid (HM.out.below hb)); (try replace HA := Lib.hid (SlAt.below HA.out hb)); clear hb; go_wp2_with (fail); refine (Q4.out a1 c1 _ HM.out).mono ?_; rintro e w10 ⟨rfl, hb⟩; replace HB := Lib.hid (HB.out.trans (hb.mono HB.out.size)); replace HR := Lib.hid (HR.out.below hb); replace HX := Lib.hid (blk_keep HX.out hb); replace hc := box_cells HX.out; (try replace HM := Lib.hid (HM.out.below hb)); (try replace HA := Lib.hid (SlAt.below HA.out hb)); clear hb; go_wp2; all_goals exact ⟨⟨k + 1, by omega, by go_num, rfl, HB.out, HA.out, HR.out, HM.out, HX.out⟩, by simp [intOf]; omega⟩)
      · obtain ⟨rfl, rfl, rfl⟩ := Q5.out (.inl hsx)
        (go_wp2_with (fail); refine (Q1.out _ HR.out).mono ?_; rintro e w7 ⟨rfl, hb⟩; replace HB := Lib.hid (HB.out.trans (hb.mono HB.out.size)); replace HR := Lib.hid (HR.out.below hb); replace HX := Lib.hid (blk_keep HX.out hb); replace hc := box_cells HX.out; (try replace HM := Lib.hid (HM.out.below hb)); (try replace HA := Lib.hid (SlAt.below HA.out hb)); clear hb; go_wp2_with (fail); refine (Q2.out a1 c1 _ HM.out).mono ?_; rintro e w8 ⟨rfl, hb⟩; replace HB := Lib.hid (HB.out.trans (hb.mono HB.out.size)); replace HR := Lib.hid (HR.out.below hb); replace HX := Lib.hid (blk_keep HX.out hb); replace hc := box_cells HX.out; (try replace HM := Lib.hid (HM.out.below hb)); (try replace HA := Lib.hid (SlAt.below HA.out hb)); clear hb; go_wp2_with (fail); refine (Q3.out _ HR.out).mono ?_; rintro e w9 ⟨rfl, hb⟩; replace HB := Lib.hid (HB.out.trans (hb.mono HB.out.size)); replace HR := Lib.hid (HR.out.below hb); replace HX := Lib.hid (blk_keep HX.out hb); replace hc := box_cells HX.out; (try replace HM := Lib.hid (HM.out.below hb)); (try replace HA := Lib.hid (SlAt.below HA.out hb)); clear hb; go_wp2_with (fail); refine (Q4.out a1 c1 _ HM.out).mono ?_; rintro e w10 ⟨rfl, hb⟩; replace HB := Lib.hid (HB.out.trans (hb.mono HB.out.size)); replace HR := Lib.hid (HR.out.below hb); replace HX := Lib.hid (blk_keep HX.out hb); replace hc := box_cells HX.out; (try replace HM := Lib.hid (HM.out.below hb)); (try replace HA := Lib.hid (SlAt.below HA.out hb)); clear hb; go_wp2; all_goals exact ⟨⟨k + 1, by omega, by go_num, rfl, HB.out, HA.out, HR.out, HM.out, HX.out⟩, by simp [intOf]; omega⟩)
    · obtain rfl : k = 2 := by omega
      go_wp2
      go_ret
      exact ⟨rfl, HB.out⟩


set_option maxRecDepth 100000 in
set_option maxHeartbeats 4000000 in
theorem law3_none (a : Option Addr) (n cap : Nat) (l : List Lo) (xt xk xs xst xh other time : Int) (w : World) (h0 : Int) (M : List Lo) (HU : Hid (∀ w, LoAt w a l → Calls Try.prog 22 #[.slice a n cap] w fun e w' => e = .returned (.bool true) ∧ Below w.heap.size w w')) (hn : n = 0)
    (hlo : loanOk ⟨xt, xk, xs, xst, xh⟩ = true) (hid : inB other 1 1000000 = true) (out : Bool) (ho : (out != (xk == 2)) = true) (HO : Hid (∀ w, LoAt w a l → Calls Try.prog 15 #[.slice a n cap, .int .i64 xs, .int .i64 1000000000] w fun e w' => e = .returned (.tuple #[.int .i64 h0, .bool out, .int .i64 0]) ∧ Below w.heap.size w w')) (HP : Hid (∀ w, LoAt w a l → Calls Try.prog 10 #[.slice a n cap, .agg #[.int .i64 xt, .int .i64 xk, .int .i64 xs, .int .i64 xst, .int .i64 xh]] w (RetSlI 5 (M.map Lo.cells) 51 w))) (hr : LoAt w a l) : Calls Try.prog 5 #[.slice a n cap, .agg #[.int .i64 xt, .int .i64 xk, .int .i64 xs, .int .i64 xst, .int .i64 xh], .int .i64 other, .int .u32 time] w fun e w' => e = .returned (.bool true) ∧ Below w.heap.size w w' := by
  subst hn
  go_enter Try.func5, Try.ntmps5
  go_wp2_with (first | (go_at_call 8; refine (head_any _).mono ?_; rintro e w1 ⟨rfl, hb⟩; have HX := Lib.hid (box_below hb); have hc := box_cells HX.out; have HB := Lib.hid (((Below.refl _ _).alloc (Nat.le_refl _) _).trans (hb.mono (by simp))); have HR := Lib.hid (hr.below HB.out); clear hb hr) | (go_at_call 22; refine (HU.out _ HR.out).mono ?_; rintro e w2 ⟨rfl, hb⟩; replace HB := Lib.hid (HB.out.trans (hb.mono HB.out.size)); replace HR := Lib.hid (HR.out.below hb); replace HX := Lib.hid (blk_keep HX.out hb); replace hc := box_cells HX.out; (try replace HM := Lib.hid (HM.out.below hb)); (try replace HA := Lib.hid (SlAt.below HA.out hb)); clear hb) | (go_at_call 25; refine (Loan_any _ _ _ _ _ _).mono ?_; rintro e w2 ⟨rfl, hb⟩; replace HB := Lib.hid (HB.out.trans (hb.mono HB.out.size)); replace HR := Lib.hid (HR.out.below hb); replace HX := Lib.hid (blk_keep HX.out hb); replace hc := box_cells HX.out; (try replace HM := Lib.hid (HM.out.below hb)); (try replace HA := Lib.hid (SlAt.below HA.out hb)); clear hb) | (go_at_call 23; refine (ID_any _ _).mono ?_; rintro e w3 ⟨rfl, rfl⟩) | (go_at_call 15; refine (HO.out _ HR.out).mono ?_; rintro e w5 ⟨rfl, hb⟩; replace HB := Lib.hid (HB.out.trans (hb.mono HB.out.size)); replace HR := Lib.hid (HR.out.below hb); replace HX := Lib.hid (blk_keep HX.out hb); replace hc := box_cells HX.out; (try replace HM := Lib.hid (HM.out.below hb)); (try replace HA := Lib.hid (SlAt.below HA.out hb)); clear hb) | (go_at_call 10; refine (HP.out _ HR.out).mono ?_; rintro e w4 ⟨a1, c1, rfl, _, _, hb⟩; replace HB := Lib.hid (HB.out.trans (hb.mono HB.out.size)); replace HR := Lib.hid (HR.out.below hb); replace HX := Lib.hid (blk_keep HX.out hb); replace hc := box_cells HX.out; (try replace HM := Lib.hid (HM.out.below hb)); (try replace HA := Lib.hid (SlAt.below HA.out hb)); clear hb))
  go_quiet (fail)
  go_wp2
  go_ret
  refine ⟨?_, below_drewN HB.out nq⟩
  first | rfl | (simp [*]; done) | (simp; simpa using ho)
set_option maxRecDepth 100000 in
set_option maxHeartbeats 4000000 in
theorem law3_no (a : Option Addr) (n cap : Nat) (l : List Lo) (xt xk xs xst xh other time : Int) (w : World) (h0 : Int) (M : List Lo) (HU : Hid (∀ w, LoAt w a l → Calls Try.prog 22 #[.slice a n cap] w fun e w' => e = .returned (.bool true) ∧ Below w.heap.size w w')) (j : Nat) (hn : n = j + 1) (HL1 : Hid (l.length = n)) (hn60 : n ≤ 60)
    (hlo : loanOk ⟨xt, xk, xs, xst, xh⟩ = true) (hid : inB other 1 1000000 = true) (out : Bool) (f : Int) (hf : f = 6 ∧ decide (xt < lastT l) = true ∨ f = 51 ∧ decide (xt < lastT l) = false ∧ (out != (xk == 2)) = true)
    (HO : Hid (∀ w, LoAt w a l → Calls Try.prog 15 #[.slice a n cap, .int .i64 xs, .int .i64 1000000000] w fun e w' => e = .returned (.tuple #[.int .i64 h0, .bool out, .int .i64 0]) ∧ Below w.heap.size w w')) (HP : Hid (∀ w, LoAt w a l → Calls Try.prog 10 #[.slice a n cap, .agg #[.int .i64 xt, .int .i64 xk, .int .i64 xs, .int .i64 xst, .int .i64 xh]] w (RetSlI 5 (M.map Lo.cells) f w))) (hr : LoAt w a l) : Calls Try.prog 5 #[.slice a n cap, .agg #[.int .i64 xt, .int .i64 xk, .int .i64 xs, .int .i64 xst, .int .i64 xh], .int .i64 other, .int .u32 time] w fun e w' => e = .returned (.bool true) ∧ Below w.heap.size w w' := by
  subst hn
  have hd0 : decide ((0 : Int) < ((j + 1 : Nat) : Int)) = true := by simp
  have hk1 : ((j + 1 : Nat) : Int) - 1 = (j : Int) := by omega
  have hjl : j < l.length := by have := HL1.out; omega
  rw [lastT_eq l j HL1.out] at hf
  rcases hf with ⟨rfl, hd⟩ | ⟨rfl, hd, ho⟩
  all_goals
    go_enter Try.func5, Try.ntmps5
    go_wp2_with (first | (go_at_call 8; refine (head_any _).mono ?_; rintro e w1 ⟨rfl, hb⟩; have HX := Lib.hid (box_below hb); have hc := box_cells HX.out; have HB := Lib.hid (((Below.refl _ _).alloc (Nat.le_refl _) _).trans (hb.mono (by simp))); have HR := Lib.hid (hr.below HB.out); clear hb hr) | (go_at_call 22; refine (HU.out _ HR.out).mono ?_; rintro e w2 ⟨rfl, hb⟩; replace HB := Lib.hid (HB.out.trans (hb.mono HB.out.size)); replace HR := Lib.hid (HR.out.below hb); replace HX := Lib.hid (blk_keep HX.out hb); replace hc := box_cells HX.out; (try replace HM := Lib.hid (HM.out.below hb)); (try replace HA := Lib.hid (SlAt.below HA.out hb)); clear hb) | (go_at_call 25; refine (Loan_any _ _ _ _ _ _).mono ?_; rintro e w2 ⟨rfl, hb⟩; replace HB := Lib.hid (HB.out.trans (hb.mono HB.out.size)); replace HR := Lib.hid (HR.out.below hb); replace HX := Lib.hid (blk_keep HX.out hb); replace hc := box_cells HX.out; (try replace HM := Lib.hid (HM.out.below hb)); (try replace HA := Lib.hid (SlAt.below HA.out hb)); clear hb) | (go_at_call 23; refine (ID_any _ _).mono ?_; rintro e w3 ⟨rfl, rfl⟩) | (go_at_call 15; refine (HO.out _ HR.out).mono ?_; rintro e w5 ⟨rfl, hb⟩; replace HB := Lib.hid (HB.out.trans (hb.mono HB.out.size)); replace HR := Lib.hid (HR.out.below hb); replace HX := Lib.hid (blk_keep HX.out hb); replace hc := box_cells HX.out; (try replace HM := Lib.hid (HM.out.below hb)); (try replace HA := Lib.hid (SlAt.below HA.out hb)); clear hb) | (go_at_call 10; refine (HP.out _ HR.out).mono ?_; rintro e w4 ⟨a1, c1, rfl, _, _, hb⟩; replace HB := Lib.hid (HB.out.trans (hb.mono HB.out.size)); replace HR := Lib.hid (HR.out.below hb); replace HX := Lib.hid (blk_keep HX.out hb); replace hc := box_cells HX.out; (try replace HM := Lib.hid (HM.out.below hb)); (try replace HA := Lib.hid (SlAt.below HA.out hb)); clear hb))
    obtain ⟨b, off, rfl, d0, _, _, _, _⟩ := HR.out.get j hjl
    go_quiet (fail)
    go_wp2
    go_ret
    refine ⟨?_, below_drewN HB.out nq⟩
    first | rfl | (simp [*]; done) | (simp; simpa using ho)

set_option maxRecDepth 100000 in
set_option maxHeartbeats 4000000 in
theorem law3_bad (a : Option Addr) (n cap : Nat) (l : List Lo) (xt xk xs xst xh other time : Int) (w : World) (u : Bool) (HU : Hid (∀ w, LoAt w a l → Calls Try.prog 22 #[.slice a n cap] w fun e w' => e = .returned (.bool u) ∧ Below w.heap.size w w')) (hb : (u && loanOk ⟨xt, xk, xs, xst, xh⟩ && inB other 1 1000000) = false) (hr : LoAt w a l) : Calls Try.prog 5 #[.slice a n cap, .agg #[.int .i64 xt, .int .i64 xk, .int .i64 xs, .int .i64 xst, .int .i64 xh], .int .i64 other, .int .u32 time] w fun e w' => e = .returned (.bool true) ∧ Below w.heap.size w w' := by
  cases u
  · clear hb
    go_enter Try.func5, Try.ntmps5
    go_wp2_with (first | (go_at_call 8; refine (head_any _).mono ?_; rintro e w1 ⟨rfl, hb⟩; have HX := Lib.hid (box_below hb); have hc := box_cells HX.out; have HB := Lib.hid (((Below.refl _ _).alloc (Nat.le_refl _) _).trans (hb.mono (by simp))); have HR := Lib.hid (hr.below HB.out); clear hb hr) | (go_at_call 22; refine (HU.out _ HR.out).mono ?_; rintro e w2 ⟨rfl, hb⟩; replace HB := Lib.hid (HB.out.trans (hb.mono HB.out.size)); replace HR := Lib.hid (HR.out.below hb); replace HX := Lib.hid (blk_keep HX.out hb); replace hc := box_cells HX.out; (try replace HM := Lib.hid (HM.out.below hb)); (try replace HA := Lib.hid (SlAt.below HA.out hb)); clear hb))
    go_ret
    exact ⟨rfl, HB.out⟩
  · cases h1 : loanOk ⟨xt, xk, xs, xst, xh⟩
    · clear hb
      go_enter Try.func5, Try.ntmps5
      go_wp2_with (first | (go_at_call 8; refine (head_any _).mono ?_; rintro e w1 ⟨rfl, hb⟩; have HX := Lib.hid (box_below hb); have hc := box_cells HX.out; have HB := Lib.hid (((Below.refl _ _).alloc (Nat.le_refl _) _).trans (hb.mono (by simp))); have HR := Lib.hid (hr.below HB.out); clear hb hr) | (go_at_call 22; refine (HU.out _ HR.out).mono ?_; rintro e w2 ⟨rfl, hb⟩; replace HB := Lib.hid (HB.out.trans (hb.mono HB.out.size)); replace HR := Lib.hid (HR.out.below hb); replace HX := Lib.hid (blk_keep HX.out hb); replace hc := box_cells HX.out; (try replace HM := Lib.hid (HM.out.below hb)); (try replace HA := Lib.hid (SlAt.below HA.out hb)); clear hb) | (go_at_call 25; refine (Loan_any _ _ _ _ _ _).mono ?_; rintro e w2 ⟨rfl, hb⟩; replace HB := Lib.hid (HB.out.trans (hb.mono HB.out.size)); replace HR := Lib.hid (HR.out.below hb); replace HX := Lib.hid (blk_keep HX.out hb); replace hc := box_cells HX.out; (try replace HM := Lib.hid (HM.out.below hb)); (try replace HA := Lib.hid (SlAt.below HA.out hb)); clear hb))
      go_ret
      exact ⟨rfl, HB.out⟩
    · have h2 : inB other 1 1000000 = false := by simpa [h1] using hb
      clear hb
      go_enter Try.func5, Try.ntmps5
      go_wp2_with (first | (go_at_call 8; refine (head_any _).mono ?_; rintro e w1 ⟨rfl, hb⟩; have HX := Lib.hid (box_below hb); have hc := box_cells HX.out; have HB := Lib.hid (((Below.refl _ _).alloc (Nat.le_refl _) _).trans (hb.mono (by simp))); have HR := Lib.hid (hr.below HB.out); clear hb hr) | (go_at_call 22; refine (HU.out _ HR.out).mono ?_; rintro e w2 ⟨rfl, hb⟩; replace HB := Lib.hid (HB.out.trans (hb.mono HB.out.size)); replace HR := Lib.hid (HR.out.below hb); replace HX := Lib.hid (blk_keep HX.out hb); replace hc := box_cells HX.out; (try replace HM := Lib.hid (HM.out.below hb)); (try replace HA := Lib.hid (SlAt.below HA.out hb)); clear hb) | (go_at_call 25; refine (Loan_any _ _ _ _ _ _).mono ?_; rintro e w2 ⟨rfl, hb⟩; replace HB := Lib.hid (HB.out.trans (hb.mono HB.out.size)); replace HR := Lib.hid (HR.out.below hb); replace HX := Lib.hid (blk_keep HX.out hb); replace hc := box_cells HX.out; (try replace HM := Lib.hid (HM.out.below hb)); (try replace HA := Lib.hid (SlAt.below HA.out hb)); clear hb) | (go_at_call 23; refine (ID_any _ _).mono ?_; rintro e w3 ⟨rfl, rfl⟩))
      go_ret
      exact ⟨rfl, HB.out⟩


theorem pushed_of {a : Option Addr} {n cap : Nat} {l : List Lo} {xt xk xs xst xh : Int} {t S : Int} (hn : n = l.length) (h60 : n ≤ 60) (hv : loansOk l = true) (hx : loanOk ⟨xt, xk, xs, xst, xh⟩ = true) (hl : l = [] ∨ lastT l ≤ xt) (hh : happens l ⟨xt, xk, xs, xst, xh⟩ = true)
    (ht : inB t 0 1000000000 = true) (hS : inB S 1 1000000 = true) : Pushed a n cap l (l ++ [⟨xt, xk, xs, xst, xh⟩]) xt xk xs xst xh t S := by
  have hm := loansOk_push hv (by omega) hx hl hh
  have hsrt := ((loansOk_iff l).1 hv).2.2.1
  have hup := upTo_push (lastT_le (x := ⟨xt, xk, xs, xst, xh⟩) hsrt hl) t
  refine ⟨hold (upTo l t) S, hold (upTo (l ++ [⟨xt, xk, xs, xst, xh⟩]) t) S, hallF (upTo l t) S, hallF (upTo (l ++ [⟨xt, xk, xs, xst, xh⟩]) t) S, decide (0 < hold (upTo l t) S), decide (0 < hold (upTo (l ++ [⟨xt, xk, xs, xst, xh⟩]) t) S), fun w hr => ?_, fun a1 c1 w hr => ?_, fun w hr => ?_, fun a1 c1 w hr => ?_, fun hc => ?_, fun h1 h2 => ?_⟩
  · have := PHolder_any a n cap l S t w hn (by omega) hr
    rw [holderR_ok hv hS ht] at this; exact this
  · have := PHolder_any a1 _ c1 (l ++ [(⟨xt, xk, xs, xst, xh⟩ : Lo)]) S t w rfl (by simp; omega) hr
    rw [holderR_ok hm hS ht] at this; exact this
  · have := PHall_any a n cap l S t w hn (by omega) hr
    rw [hallR_ok hv hS ht] at this; exact this
  · have := PHall_any a1 _ c1 (l ++ [(⟨xt, xk, xs, xst, xh⟩ : Lo)]) S t w rfl (by simp; omega) hr
    rw [hallR_ok hm hS ht] at this; exact this
  · have e : hold (upTo (l ++ [⟨xt, xk, xs, xst, xh⟩]) t) S = hold (upTo l t) S ∧ hallF (upTo (l ++ [⟨xt, xk, xs, xst, xh⟩]) t) S = hallF (upTo l t) S := by
      rw [hup]
      split
      · rename_i hle
        have hne : ¬ xs = S := by
          rcases hc with hc | hc
          · intro e; simp [e] at hc
          · simp at hc; have : xt ≤ t := hle; omega
        have hle' : xt ≤ t := hle
        have e2 : upTo l t = l := upTo_eq fun y hy => Int.le_trans (lastT_le (x := ⟨xt, xk, xs, xst, xh⟩) hsrt hl y hy) hle'
        rw [hold_snoc, hallF_snoc, e2, if_neg hne, if_neg (fun h => hne h.1)]
        exact ⟨rfl, rfl⟩
      · exact ⟨rfl, rfl⟩
    rw [e.1, e.2]; exact ⟨rfl, rfl, rfl⟩
  · obtain rfl : S = xs := by simpa using h1
    have hle : xt ≤ t := by simpa using h2
    have e2 : upTo l t = l := upTo_eq fun y hy => Int.le_trans (lastT_le (x := ⟨xt, xk, S, xst, xh⟩) hsrt hl y hy) hle
    rw [hup, if_pos hle, hold_snoc, hallF_snoc, if_pos rfl, e2]
    obtain ⟨g1, g2, g3, g4⟩ := loanOk_st hx
    simp only at g1 g2 g3 g4
    refine ⟨?_, ?_, ?_⟩
    · show (if xk = 1 then xst else 0) = xst
      split
      · rfl
      · exact (g3 ‹_›).symm
    · show decide (0 < if xk = 1 then xst else 0) = (xk == 1)
      by_cases hk : xk = 1
      · have := g1 hk
        rw [if_pos hk, decide_eq_true (by omega)]; simp [hk]
      · rw [if_neg hk]; simp [hk]
    · show (xk == 3) = true ∧ (xk != 3) = false ∧ (if S = S ∧ xk = 3 then xh else hallF l S) = xh ∨ (xk == 3) = false ∧ (xk != 3) = true ∧ (if S = S ∧ xk = 3 then xh else hallF l S) = hallF l S
      by_cases hk : xk = 3
      · exact .inl ⟨by simp [hk], by simp [hk], if_pos ⟨rfl, hk⟩⟩
      · exact .inr ⟨by simp [hk], by simp [hk], if_neg (fun h => hk h.2)⟩

theorem law3_any (a : Option Addr) (n cap : Nat) (l : List Lo) (xt xk xs xst xh other time : Int) (w : World) (hn : n = l.length) (hl : n ≤ 9223372036854775807) (hs : SlOk a n cap) (hr : LoAt w a l) (h0 : 0 ≤ time) (h1 : time ≤ 4294967295) : Calls Try.prog 5 #[.slice a n cap, .agg #[.int .i64 xt, .int .i64 xk, .int .i64 xs, .int .i64 xst, .int .i64 xh], .int .i64 other, .int .u32 time] w fun e w' => e = .returned (.bool true) ∧ Below w.heap.size w w' := by
  have hU := fun w hr => usable_any a n cap l w hn hl hs hr
  cases hu : (decide (n ≤ 60) && loansOk l) && loanOk ⟨xt, xk, xs, xst, xh⟩ && inB other 1 1000000
  · exact law3_bad a n cap l xt xk xs xst xh other time w _ hU hu hr
  · simp only [Bool.and_eq_true, decide_eq_true_eq] at hu
    obtain ⟨⟨⟨h60, hv⟩, hx⟩, hid⟩ := hu
    have hxs : inB xs 1 1000000 = true := (loanOk_parts hx).2.1
    have hU' : ∀ w, LoAt w a l → Calls Try.prog 22 #[.slice a n cap] w fun e w' => e = .returned (.bool true) ∧ Below w.heap.size w w' := fun w hr => by have := hU w hr; rw [decide_eq_true h60, hv] at this; exact this
    have hp : pushR l ⟨xt, xk, xs, xst, xh⟩ = if decide (0 < l.length) && decide (xt < lastT l) then ([], 6) else if !happens l ⟨xt, xk, xs, xst, xh⟩ then ([], 51) else (l ++ [⟨xt, xk, xs, xst, xh⟩], 0) := by
      unfold pushR
      rw [hv, hx, if_neg (by simp), if_neg (by simp; omega)]
    have hO : (∀ w, LoAt w a l → Calls Try.prog 15 #[.slice a n cap, .int .i64 xs, .int .i64 1000000000] w fun e w' => e = .returned (.tuple #[.int .i64 (hold l xs), .bool (decide (0 < hold l xs)), .int .i64 0]) ∧ Below w.heap.size w w') := fun w hr => by
      have := PHolder_any a n cap l xs 1000000000 w hn (by omega) hr
      rw [holderR_ok hv hxs (by decide), upTo_max hv] at this; exact this
    have hP := fun w hr => PPush_any a n cap l xt xk xs xst xh w hn (by omega) hs hr
    by_cases hlate : (decide (0 < l.length) && decide (xt < lastT l)) = true
    · rw [if_pos hlate] at hp
      simp only [hp] at hP
      simp only [Bool.and_eq_true, decide_eq_true_eq] at hlate
      exact law3_no a n cap l xt xk xs xst xh other time w _ [] hU' (n - 1) (by omega) hn.symm h60 hx hid _ 6 (.inl ⟨rfl, decide_eq_true hlate.2⟩) hO hP hr
    · rw [if_neg hlate] at hp
      by_cases hh : happens l ⟨xt, xk, xs, xst, xh⟩ = true
      · rw [hh, if_neg (by simp)] at hp
        simp only [hp] at hP
        have ho : decide (0 < hold l xs) = (xk == 2) := by simpa [happens] using hh
        rw [ho] at hO
        have hll : l = [] ∨ lastT l ≤ xt := by
          by_cases e : l = []
          · exact .inl e
          · have : 0 < l.length := List.length_pos_iff.2 e
            right
            simp only [Bool.and_eq_true, decide_eq_true_eq] at hlate
            omega
        exact law3_ok a n cap l xt xk xs xst xh other time w (time % 1000000001) _ (l ++ [(⟨xt, xk, xs, xst, xh⟩ : Lo)]) hU' (fun w => when_any time w h0 h1) hx hid hO hP (loansOk_push hv (by omega) hx hll hh) (show _ = _ by simp [hn]) h60
          (fun S hS => pushed_of hn h60 hv hx hll hh (tm_in time) (by rcases hS with rfl | rfl <;> assumption)) hr
      · have hhf : happens l ⟨xt, xk, xs, xst, xh⟩ = false := by simpa using hh
        rw [hhf, if_pos (by simp)] at hp
        simp only [hp] at hP
        have ho : (decide (0 < hold l xs) != (xk == 2)) = true := by
          unfold happens at hhf
          rw [bne, hhf]; rfl
        by_cases h00 : n = 0
        · exact law3_none a n cap l xt xk xs xst xh other time w _ [] hU' h00 hx hid _ ho hO hP hr
        · exact law3_no a n cap l xt xk xs xst xh other time w _ [] hU' (n - 1) (by omega) hn.symm h60 hx hid _ 51 (.inr ⟨rfl, by
            have : decide (0 < l.length) = true := by simp; omega
            rw [this, Bool.true_and] at hlate; simpa using hlate, ho⟩) hO hP hr

end Go.Proofs.Ytokhligpjbdhcaa
