/- The contracts of loan.Holder and loan.Hall. -/
import Derived.Test.YtokhligpjbdhcaaLoanValid
namespace Go.Proofs.Ytokhligpjbdhcaa
set_option linter.unusedSimpArgs false
set_option linter.unusedVariables false
open Go.RowKit Go.Sort

theorem loansOk_mem {l : List Lo} (h : loansOk l = true) : ∀ x ∈ l, loanOk x = true := fun x hx => by
  obtain ⟨j, hj, rfl⟩ := List.getElem_of_mem hx
  have hs := loansOk_step h j hj
  rw [stepOk_mk l j hj] at hs
  simp only [Bool.and_eq_true] at hs
  exact hs.1.1
theorem upTo_mem {l : List Lo} {time : Int} : ∀ x ∈ upTo l time, x ∈ l := fun x hx => (List.takeWhile_prefix _).subset hx
theorem look_hold {l : List Lo} (h : loansOk l = true) (time sheet : Int) :
    (mget (shOf (upTo l time)).hm sheet).getD (.int .i64 0) = .int .i64 (hold (upTo l time) sheet) ∧ (mget (shOf (upTo l time)).hm sheet).isSome = decide (0 < hold (upTo l time) sheet) := by
  rw [(shInv_upTo h time sheet).1]
  have hn := hold_nonneg (upTo l time) (fun x hx => (loanOk_st (loansOk_mem h x (upTo_mem x hx))).1) sheet
  by_cases h0 : 0 < hold (upTo l time) sheet
  · simp [h0]
  · have e : hold (upTo l time) sheet = 0 := by omega
    simp [e]

theorem shelf_0 (x y : Value) (w : World) : (Instr.field 50 (.agg #[x, y]) 0).run Try.prog w = .ok x w := by kernel_rfl
theorem shelf_1 (x y : Value) (w : World) : (Instr.field 50 (.agg #[x, y]) 1).run Try.prog w = .ok y w := by kernel_rfl
set_option maxHeartbeats 1000000 in
theorem PHolder_any (a : Option Addr) (n cap : Nat) (l : List Lo) (sheet time : Int) (w : World) (hn : n = l.length) (hl : n ≤ 1000000) (hr : LoAt w a l) :
    Calls Try.prog 15 #[.slice a n cap, .int .i64 sheet, .int .i64 time] w fun e w' =>
      e = .returned (.tuple #[.int .i64 (holderR l sheet time).1, .bool (holderR l sheet time).2.1, .int .i64 (holderR l sheet time).2.2]) ∧ Below w.heap.size w w' := by
  have HN := Lib.hid hn; clear hn
  have HL := Lib.hid hl; clear hl
  have HR := Lib.hid hr; clear hr
  go_enter Try.func15, Try.ntmps15
  go_wp2_with (first | (go_at_call 12; refine (PValid_any _ _ _ l _ HN.out HL.out HR.out).mono ?_; rintro e w1 ⟨rfl, hb⟩; have HB := Lib.hid hb; clear hb) | (go_at_call 32; refine (isID_any _ _).mono ?_; rintro e w' ⟨rfl, rfl⟩) | (go_at_call 33; refine (isTime_any _ _).mono ?_; rintro e w' ⟨rfl, rfl⟩) | (go_at_call 28; refine (at_any _ _ _ l _ _ HN.out HL.out (HR.out.below HB.out)).mono ?_; rintro e w2 ⟨ra, rb, rfl, hz, hb2, _, _⟩; have HZ := Lib.hid hz; have HB2 := Lib.hid (HB.out.trans (hb2.mono HB.out.size)); have hs0 := shelf_0 (.map (some ra)) (.map (some rb)) w2; have hs1 := shelf_1 (.map (some ra)) (.map (some rb)) w2; clear hz hb2) | (at_lookup; refine wpList_lookup_at rfl (.tmp 28) (.tmp 29) _ true rfl Try.underlying48 keyI zeroInt ra _ rfl HZ.out.1 sheet rfl ?_; simp only [if_true]))
  all_goals try
    (go_ret3
     go_tidy
     have e : holderR l sheet time = (0, false, 1) := by simp_all [holderR]
     exact ⟨ret_ibi (by rw [e]) (by rw [e]) (by rw [e]), HB.out⟩)
  go_ret3
  go_tidy
  have hv : loansOk l = true := by assumption
  have e : holderR l sheet time = (hold (upTo l time) sheet, decide (0 < hold (upTo l time) sheet), 0) := by simp_all [holderR]
  obtain ⟨e1, e2⟩ := look_hold hv time sheet
  refine ⟨?_, HB2.out⟩
  rw [e]
  simp [e1, e2]

set_option maxHeartbeats 1000000 in
theorem PHall_any (a : Option Addr) (n cap : Nat) (l : List Lo) (sheet time : Int) (w : World) (hn : n = l.length) (hl : n ≤ 1000000) (hr : LoAt w a l) :
    Calls Try.prog 20 #[.slice a n cap, .int .i64 sheet, .int .i64 time] w fun e w' => e = .returned (.tuple #[.int .i64 (hallR l sheet time).1, .int .i64 (hallR l sheet time).2]) ∧ Below w.heap.size w w' := by
  have HN := Lib.hid hn; clear hn
  have HL := Lib.hid hl; clear hl
  have HR := Lib.hid hr; clear hr
  go_enter Try.func20, Try.ntmps20
  go_wp2_with (first | (go_at_call 12; refine (PValid_any _ _ _ l _ HN.out HL.out HR.out).mono ?_; rintro e w1 ⟨rfl, hb⟩; have HB := Lib.hid hb; clear hb) | (go_at_call 32; refine (isID_any _ _).mono ?_; rintro e w' ⟨rfl, rfl⟩) | (go_at_call 33; refine (isTime_any _ _).mono ?_; rintro e w' ⟨rfl, rfl⟩) | (go_at_call 28; refine (at_any _ _ _ l _ _ HN.out HL.out (HR.out.below HB.out)).mono ?_; rintro e w2 ⟨ra, rb, rfl, hz, hb2, _, _⟩; have HZ := Lib.hid hz; have HB2 := Lib.hid (HB.out.trans (hb2.mono HB.out.size)); have hs0 := shelf_0 (.map (some ra)) (.map (some rb)) w2; have hs1 := shelf_1 (.map (some ra)) (.map (some rb)) w2; clear hz hb2) | (at_lookup; refine wpList_lookup_at rfl (.tmp 24) (.tmp 25) _ false rfl Try.underlying48 keyI zeroInt rb _ rfl HZ.out.2.1 sheet rfl ?_; simp only [if_false]))
  all_goals try
    (go_ret2
     go_tidy
     have e : hallR l sheet time = (0, 1) := by simp_all [hallR]
     exact ⟨ret_ii (by rw [e]) (by rw [e]), HB.out⟩)
  go_ret2
  go_tidy
  have hv : loansOk l = true := by assumption
  have e : hallR l sheet time = (hallF (upTo l time) sheet, 0) := by simp_all [hallR]
  have e1 := (shInv_upTo hv time sheet).2
  refine ⟨?_, HB2.out⟩
  rw [e]
  simp [e1]

end Go.Proofs.Ytokhligpjbdhcaa
