/- Contracts of the functions of partbookref28: what each returns, for every input whose slices lie in memory as Loans says. -/
import Derived.Test.YtokhligpjbdhcaaRows
import Derived.Test.YtokhligpjbdhcaaLib
namespace Go.Proofs.Ytokhligpjbdhcaa
set_option linter.unusedSimpArgs false
set_option linter.unusedVariables false
open Go.RowKit Go.Sort

/-- A loan as data. -/
structure Lo where
  t : Int
  k : Int
  s : Int
  st : Int
  h : Int
deriving DecidableEq
def Lo.cells (x : Lo) : List Value := [.int .i64 x.t, .int .i64 x.k, .int .i64 x.s, .int .i64 x.st, .int .i64 x.h]
def LoAt (w : World) (a : Option Addr) (l : List Lo) : Prop := SlAt w a 5 (l.map Lo.cells)
theorem LoAt.get {w : World} {a : Option Addr} {l : List Lo} (h : LoAt w a l) (i : Nat) (hi : i < l.length) :
    ∃ b off, a = some ⟨b, off, none⟩ ∧ w.cell? ⟨b, off + i * 5, none⟩ = some (.int .i64 l[i].t) ∧ w.cell? ⟨b, off + i * 5 + 1, none⟩ = some (.int .i64 l[i].k) ∧
      w.cell? ⟨b, off + i * 5 + 2, none⟩ = some (.int .i64 l[i].s) ∧ w.cell? ⟨b, off + i * 5 + 3, none⟩ = some (.int .i64 l[i].st) ∧ w.cell? ⟨b, off + i * 5 + 4, none⟩ = some (.int .i64 l[i].h) := by
  obtain ⟨b, off, e, _, _, hc⟩ := h i l[i].cells (by simp [List.getElem?_eq_getElem hi])
  exact ⟨b, off, e, hc 0 _ rfl, hc 1 _ rfl, hc 2 _ rfl, hc 3 _ rfl, hc 4 _ rfl⟩

theorem LoAt.below {w w' : World} {a : Option Addr} {l : List Lo} (h : LoAt w a l) (hb : Below w.heap.size w w') : LoAt w' a l := SlAt.below h hb
theorem LoAt.alloc {w : World} {a : Option Addr} {l : List Lo} (h : LoAt w a l) (o : Obj) : LoAt (w.alloc o) a l := SlAt.alloc h o
theorem LoAt.take' {w : World} {a : Option Addr} {l : List Lo} (h : LoAt w a l) (k : Nat) : LoAt w a (l.take k) := by
  unfold LoAt at *; rw [List.map_take]; exact h.take k

theorem in_any (n lo hi : Int) (w : World) :
    Calls Try.prog 42 #[.int .i64 n, .int .i64 lo, .int .i64 hi] w fun e w' => e = .returned (.bool (inB n lo hi)) ∧ w = w' := by
  go_enter Try.func42, Try.ntmps42
  go_wp2
  all_goals (go_ret; exact ⟨by simp [inB, *] <;> omega, rfl⟩)
theorem Time_any (n : Int) (w : World) :
    Calls Try.prog 34 #[.int .i64 n] w fun e w' => e = .returned (.bool (inB n 0 1000000000)) ∧ w = w' := by
  go_enter Try.func34, Try.ntmps34
  go_wp2_with (go_at_call 42; refine (in_any _ _ _ _).mono ?_; rintro e w' ⟨rfl, rfl⟩)
  go_ret
  exact ⟨rfl, rfl⟩
theorem ID_any (n : Int) (w : World) :
    Calls Try.prog 23 #[.int .i64 n] w fun e w' => e = .returned (.bool (inB n 1 1000000)) ∧ w = w' := by
  go_enter Try.func23, Try.ntmps23
  go_wp2_with (go_at_call 42; refine (in_any _ _ _ _).mono ?_; rintro e w' ⟨rfl, rfl⟩)
  go_ret
  exact ⟨rfl, rfl⟩

/-- Is a loan well-formed? -/
def loanOk (x : Lo) : Bool :=
  inB x.t 0 1000000000 && inB x.s 1 1000000 &&
    (if x.k == 1 then inB x.st 1 1000000 && x.h == 0 else if x.k == 2 then x.st == 0 && x.h == 0 else if x.k == 3 then x.st == 0 && inB x.h 0 99 else false)
set_option maxHeartbeats 400000 in
theorem Loan_any (t k s st h : Int) (w : World) :
    Calls Try.prog 25 #[.agg #[.int .i64 t, .int .i64 k, .int .i64 s, .int .i64 st, .int .i64 h]] w fun e w' => e = .returned (.bool (loanOk ⟨t, k, s, st, h⟩)) ∧ Below w.heap.size w w' := by
  go_enter Try.func25, Try.ntmps25
  go_wp2_with (first | (go_at_call 42; refine (in_any _ _ _ _).mono ?_; rintro e w' ⟨rfl, rfl⟩) | (go_at_call 34; refine (Time_any _ _).mono ?_; rintro e w' ⟨rfl, rfl⟩) | (go_at_call 23; refine (ID_any _ _).mono ?_; rintro e w' ⟨rfl, rfl⟩))
  all_goals go_ret
  all_goals (refine ⟨?_, (Below.refl _ _).alloc (Nat.le_refl _) _⟩; simp_all [loanOk])

/-- Who holds a sheet behind some loans (0: nobody). -/
def hold (l : List Lo) (sheet : Int) : Int := l.foldl (fun acc x => if x.s = sheet then (if x.k = 1 then x.st else 0) else acc) 0
theorem hold_fold (r : List Lo) (sheet : Int) (h : ∀ x ∈ r, x.s ≠ sheet) (z : Int) : r.foldl (fun acc x => if x.s = sheet then (if x.k = 1 then x.st else 0) else acc) z = z := by
  induction r generalizing z with
  | nil => rfl
  | cons x r ih => rw [List.foldl_cons, if_neg (h x (by simp))]; exact ih (fun y hy => h y (by simp [hy])) z
theorem hold_skip (l r : List Lo) (sheet : Int) (h : ∀ x ∈ r, x.s ≠ sheet) : hold (l ++ r) sheet = hold l sheet := by
  unfold hold
  rw [List.foldl_append]
  exact hold_fold r sheet h _
theorem hold_snoc (l : List Lo) (x : Lo) (sheet : Int) : hold (l ++ [x]) sheet = if x.s = sheet then (if x.k = 1 then x.st else 0) else hold l sheet := by
  simp [hold, List.foldl_append]
theorem hold_at (l : List Lo) (j : Nat) (hj : j < l.length) (sheet : Int) (h : ∀ x ∈ l.drop (j + 1), x.s ≠ sheet) (e : l[j].s = sheet) : hold l sheet = if l[j].k = 1 then l[j].st else 0 := by
  conv => lhs; rw [← List.take_append_drop (j + 1) l]
  rw [hold_skip _ _ _ h, List.take_succ_eq_append_getElem hj, hold_snoc, if_pos e]
set_option maxHeartbeats 400000 in
theorem holder_any (a : Option Addr) (n cap : Nat) (l : List Lo) (sheet : Int) (w : World) (hn : n = l.length) (hl : n ≤ 1000000) (hr : LoAt w a l) :
    Calls Try.prog 35 #[.slice a n cap, .int .i64 sheet] w fun e w' => e = .returned (.int .i64 (hold l sheet)) ∧ w = w' := by
  subst hn
  go_enter Try.func35, Try.ntmps35
  go_wp2
  go_loop [4, 5] (fun r i => r = .int .i64 0 ∧ ∃ k : Nat, k ≤ l.length ∧ i = .int .i64 (k - 1) ∧ ∀ x ∈ l.drop k, x.s ≠ sheet) (fun _ i => (intOf i + 1).toNat)
  case atStart => exact ⟨rfl, l.length, Nat.le_refl _, rfl, by simp⟩
  case round =>
    obtain ⟨rfl, k, hk, rfl, hx⟩ := hrel
    by_cases h0 : k = 0
    · subst h0
      have H := Lib.hid hx; clear hx
      go_wp2
      go_ret
      exact ⟨ret_int (hold_fold l sheet (fun x hm => H.out x (by simpa using hm)) 0).symm, rfl⟩
    · obtain ⟨j, rfl⟩ : ∃ j, k = j + 1 := ⟨k - 1, by omega⟩
      rw [show (((j + 1 : Nat) : Int) - 1) = (j : Int) by omega]
      clear h0
      obtain ⟨b, off, rfl, c0, c1, c2, c3, c4⟩ := hr.get j (by omega)
      have H := Lib.hid hx; clear hx
      clear hr
      have hd : l.drop j = l[j] :: l.drop (j + 1) := List.drop_eq_getElem_cons (by omega)
      have HD := Lib.hid hd; clear hd
      go_wp2
      · refine ⟨⟨rfl, j, by omega, rfl, ?_⟩, by simp [intOf]⟩
        have h1 : (l[j].s != sheet) = true := by assumption
        rw [HD.out]
        intro x hm
        rcases List.mem_cons.1 hm with rfl | hm
        · simpa using h1
        · exact H.out x hm
      all_goals
        go_ret
        refine ⟨ret_int ?_, rfl⟩
        have h1 : (l[j].s != sheet) = false := by assumption
        rw [hold_at l j (by omega) sheet H.out (by simpa using h1)]
      · have h2 : (l[j].k == 1) = true := by assumption
        rw [if_pos (by simpa using h2)]
      · have h2 : (l[j].k == 1) = false := by assumption
        rw [if_neg (by simpa using h2)]

/-- Can a well-formed loan happen behind others? -/
def happens (l : List Lo) (x : Lo) : Bool := decide (0 < hold l x.s) == (x.k == 2)
set_option maxHeartbeats 400000 in
theorem Happens_any (a : Option Addr) (n cap : Nat) (l : List Lo) (t k s st h : Int) (w : World) (hn : n = l.length) (hl : n ≤ 1000000) (hr : LoAt w a l) :
    Calls Try.prog 31 #[.slice a n cap, .agg #[.int .i64 t, .int .i64 k, .int .i64 s, .int .i64 st, .int .i64 h]] w fun e w' => e = .returned (.bool (happens l ⟨t, k, s, st, h⟩)) ∧ Below w.heap.size w w' := by
  have Hn := Lib.hid hn; clear hn
  go_enter Try.func31, Try.ntmps31
  go_wp2_with (go_at_call 35; refine (holder_any _ _ _ l _ _ Hn.out hl (hr.alloc _)).mono ?_; rintro e w' ⟨rfl, rfl⟩)
  go_ret
  exact ⟨ret_bool (by simp [happens]), (Below.refl _ _).alloc (Nat.le_refl _) _⟩

def lo0 : Lo := ⟨0, 0, 0, 0, 0⟩
/-- Is loan i right behind those ahead of it? -/
def stepOk (l : List Lo) (i : Nat) : Bool :=
  loanOk (l.getD i lo0) && (decide (i = 0) || decide ((l.getD (i - 1) lo0).t ≤ (l.getD i lo0).t)) && happens (l.take i) (l.getD i lo0)
/-- Are these loans that can have happened? -/
def loansOk (l : List Lo) : Bool := decide (l.length ≤ 20000) && (List.range l.length).all (stepOk l)
theorem getD_at (l : List Lo) (k : Nat) (h : k < l.length) : l.getD k lo0 = l[k] := by simp [List.getD, List.getElem?_eq_getElem h]
theorem stepOk_mk (l : List Lo) (k : Nat) (h : k < l.length) :
    stepOk l k = (loanOk ⟨l[k].t, l[k].k, l[k].s, l[k].st, l[k].h⟩ && (decide (k = 0) || decide ((l.getD (k - 1) lo0).t ≤ l[k].t)) && happens (l.take k) ⟨l[k].t, l[k].k, l[k].s, l[k].st, l[k].h⟩) := by
  unfold stepOk
  rw [getD_at l k h]
theorem stepOk_succ (l : List Lo) (j : Nat) (h : j + 1 < l.length) :
    stepOk l (j + 1) = (loanOk ⟨l[j + 1].t, l[j + 1].k, l[j + 1].s, l[j + 1].st, l[j + 1].h⟩ && decide (l[j].t ≤ l[j + 1].t) && happens (l.take (j + 1)) ⟨l[j + 1].t, l[j + 1].k, l[j + 1].s, l[j + 1].st, l[j + 1].h⟩) := by
  rw [stepOk_mk l _ h, Nat.add_sub_cancel, getD_at l j (by omega)]
  simp
theorem loansOk_bad (l : List Lo) (k : Nat) (h : k < l.length) (hs : stepOk l k = false) : loansOk l = false := by
  cases e : loansOk l with
  | false => rfl
  | true =>
    simp only [loansOk, Bool.and_eq_true, List.all_eq_true, List.mem_range] at e
    rw [e.2 k h] at hs; cases hs
set_option maxHeartbeats 1000000 in
theorem Valid_any (a : Option Addr) (n cap : Nat) (l : List Lo) (w : World) (hn : n = l.length) (hl : n ≤ 1000000) (hs : SlOk a n cap) (hr : LoAt w a l) :
    Calls Try.prog 13 #[.slice a n cap] w fun e w' => e = .returned (.bool (loansOk l)) ∧ Below w.heap.size w w' := by
  subst hn
  have hcap := hs.le
  by_cases hbig : 20000 < l.length
  · go_enter Try.func13, Try.ntmps13
    go_wp2
    go_ret
    exact ⟨ret_bool (by simp [loansOk]; omega), Below.refl _ _⟩
  go_enter Try.func13, Try.ntmps13
  go_wp2
  go_loopw [3, 4] (fun i _ wr => ∃ k : Nat, k ≤ l.length ∧ i = .int .i64 k ∧ (∀ j, j < k → stepOk l j = true) ∧ Below w.heap.size w wr) (fun i _ _ => l.length - (intOf i).toNat)
  case atStart => exact ⟨0, Nat.zero_le _, rfl, fun j hj => by omega, Below.refl _ _⟩
  case round =>
    obtain ⟨k, hk, rfl, hall, hb⟩ := hrel
    have H := Lib.hid hall; clear hall
    by_cases hlt : k < l.length
    · have hr1 : LoAt wr a l := hr.below hb
      obtain ⟨b, off, rfl, c0, c1, c2, c3, c4⟩ := hr1.get k hlt
      go_wp2_with (go_at_call 25; refine (Loan_any _ _ _ _ _ _).mono ?_; rintro e w1 ⟨rfl, hb1⟩)
      have hb2 : Below w.heap.size w w1 := hb.trans (hb1.mono hb.size)
      have hr2 : LoAt w1 (some ⟨b, off, none⟩) l := hr.below hb2
      clear hr1 c0 c1 c2 c3 c4
      obtain ⟨b', off', e', c0, c1, c2, c3, c4⟩ := hr2.get k hlt
      cases e'
      have g0 := cell_regrown c0
      have g1 := cell_regrown c1
      have g2 := cell_regrown c2
      have g3 := cell_regrown c3
      have g4 := cell_regrown c4
      have HR := Lib.hid hr2; clear hr2
      have HR0 := Lib.hid hr; clear hr
      have HB := Lib.hid hb; clear hb
      clear hb1
      have HB2 := Lib.hid hb2; clear hb2
      clear c0 c1 c2 c3 c4
      cases hf : loanOk ⟨l[k].t, l[k].k, l[k].s, l[k].st, l[k].h⟩
      · refine wp_quietB (by kernel_rfl) (by kernel_rfl) ?_
        repeat (go_big_quiet_step (fail))
        refine wpQuiet_nil ?_
        intro w2 hb3
        go_wp2
        go_ret
        refine ⟨ret_bool ?_, HB2.out.trans (hb3.mono HB2.out.size)⟩
        exact (loansOk_bad l k hlt (by simp only [stepOk, getD_at l k hlt, hf, Bool.false_and])).symm
      · by_cases h0 : k = 0
        · have hkc : k ≤ cap := by omega
          have hk0 : decide (0 < k) = false := by simp [h0]
          have h0' := Lib.hid h0; clear h0
          refine wp_quietB (by kernel_rfl) (by kernel_rfl) ?_
          repeat (go_big_quiet_step (first | (go_at_call 31; refine Calls.regrown_of (Happens_any _ _ _ (l.take k) _ _ _ _ _ _ (len_take l _ (by omega)) (by omega) ((HR.out.take' k).below (below_regrown _ _ _))))))
          refine wpQuiet_nil ?_
          intro w2 hb3
          have HB3 := Lib.hid (HB2.out.trans (hb3.mono HB2.out.size)); clear hb3
          go_wp2
          · go_ret
            refine ⟨ret_bool ?_, HB3.out⟩
            have hh : (!happens (l.take k) ⟨l[k].t, l[k].k, l[k].s, l[k].st, l[k].h⟩) = true := by assumption
            refine (loansOk_bad l k hlt ?_).symm
            rw [stepOk_mk l k hlt, not_t hh, Bool.and_false]
          · have hh : (!happens (l.take k) ⟨l[k].t, l[k].k, l[k].s, l[k].st, l[k].h⟩) = false := by assumption
            refine ⟨⟨k + 1, by omega, by go_num, ?_, HB3.out⟩, by simp [intOf]; omega⟩
            intro i hi
            by_cases e : i = k
            · subst e
              rw [stepOk_mk l i hlt, hf, not_f hh]
              simp [h0'.out]
            · exact H.out i (by omega)
        · obtain ⟨j, rfl⟩ : ∃ j, k = j + 1 := ⟨k - 1, by omega⟩
          obtain ⟨b', off', e', d0, _, _, _, _⟩ := HR.out.get j (by omega)
          cases e'
          have m0 := cell_regrown d0
          clear d0
          have hk0 : decide ((0 : Int) < ((j + 1 : Nat) : Int)) = true := by simp
          have hk1 : ((j + 1 : Nat) : Int) - 1 = (j : Int) := by omega
          have hkc : j + 1 ≤ cap := by omega
          clear h0
          refine wp_quietB (by kernel_rfl) (by kernel_rfl) ?_
          repeat (go_big_quiet_step (fail))
          cases hd : decide (l[j + 1].t < l[j].t)
          all_goals repeat (go_big_quiet_step (first | (go_at_call 31; refine Calls.regrown_of (Happens_any _ _ _ (l.take (j + 1)) _ _ _ _ _ _ (len_take l _ (by omega)) (by omega) ((HR.out.take' (j + 1)).below (below_regrown _ _ _))))))
          all_goals refine wpQuiet_nil ?_
          all_goals intro w2 hb3
          all_goals have HB3 := Lib.hid (HB2.out.trans (hb3.mono HB2.out.size))
          all_goals clear hb3
          · go_wp2
            · go_ret
              refine ⟨ret_bool ?_, HB3.out⟩
              have hh : (!happens (l.take (j + 1)) ⟨l[j + 1].t, l[j + 1].k, l[j + 1].s, l[j + 1].st, l[j + 1].h⟩) = true := by assumption
              refine (loansOk_bad l (j + 1) hlt ?_).symm
              rw [stepOk_succ l j hlt, not_t hh, Bool.and_false]
            · have hh : (!happens (l.take (j + 1)) ⟨l[j + 1].t, l[j + 1].k, l[j + 1].s, l[j + 1].st, l[j + 1].h⟩) = false := by assumption
              refine ⟨⟨j + 1 + 1, by omega, by go_num, ?_, HB3.out⟩, by simp [intOf]; omega⟩
              intro i hi
              by_cases e : i = j + 1
              · subst e
                rw [stepOk_succ l j hlt, hf, not_f hh]
                have := of_decide_eq_false hd
                simp; omega
              · exact H.out i (by omega)
          · go_wp2
            go_ret
            refine ⟨ret_bool ?_, HB3.out⟩
            refine (loansOk_bad l (j + 1) hlt ?_).symm
            have h1 := of_decide_eq_true hd
            have h2 : decide (l[j].t ≤ l[j + 1].t) = false := decide_eq_false (by omega)
            rw [stepOk_succ l j hlt, h2]
            simp
    · go_wp2
      go_ret
      refine ⟨ret_bool ?_, hb⟩
      obtain rfl : k = l.length := by omega
      have hle : l.length ≤ 20000 := by omega
      simp only [loansOk, hle, decide_true, Bool.true_and]
      exact (List.all_eq_true.2 fun j hj => H.out j (List.mem_range.1 hj)).symm

end Go.Proofs.Ytokhligpjbdhcaa
