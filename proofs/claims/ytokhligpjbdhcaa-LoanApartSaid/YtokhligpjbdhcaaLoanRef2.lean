/- More contracts of the functions of partbookref28. -/
import Derived.Test.YtokhligpjbdhcaaLoanRef
import Derived.Test.YtokhligpjbdhcaaOwn
namespace Go.Proofs.Ytokhligpjbdhcaa
set_option linter.unusedSimpArgs false
set_option linter.unusedVariables false
open Go.RowKit Go.Sort

theorem Few_any (a : Option Addr) (n cap : Nat) (w : World) (hn : n ≤ 9223372036854775807) :
    Calls Try.prog 9 #[.slice a n cap] w fun e w' => e = .returned (.bool (decide (n ≤ 60))) ∧ w = w' := by
  have H := Lib.hid hn; clear hn
  go_enter Try.func9, Try.ntmps9
  go_wp2
  go_ret
  exact ⟨ret_bool (by rw [decide_eq_decide]; omega), rfl⟩

/-- The loans up to a time. -/
def upTo (l : List Lo) (time : Int) : List Lo := l.takeWhile fun x => decide (x.t ≤ time)
theorem upTo_len (l : List Lo) (time : Int) : (upTo l time).length ≤ l.length := (List.takeWhile_prefix _).length_le
theorem upTo_stop (l : List Lo) (time : Int) (k : Nat) (hk : k ≤ l.length) (h : ∀ j (hj : j < k), l[j].t ≤ time) (hs : ∀ hlt : k < l.length, time < l[k].t) : (upTo l time) = l.take k := by
  induction l generalizing k with
  | nil => simp at hk; subst hk; rfl
  | cons x l ih =>
    cases k with
    | zero => simp only [upTo, List.takeWhile_cons, List.take_zero]; rw [if_neg]; have := hs (by simp); simpa using this
    | succ k =>
      have h0 := h 0 (by omega)
      simp at h0
      simp only [upTo, List.takeWhile_cons, List.take_succ_cons]
      rw [if_pos (by simpa using h0)]
      congr 1
      exact ih k (by simpa using hk) (fun j hj => by have := h (j + 1) (by omega); simpa using this) (fun hlt => by have := hs (by simpa using hlt); simpa using this)
theorem upTo_take (l : List Lo) (time : Int) : upTo l time = l.take (upTo l time).length := List.prefix_iff_eq_take.1 (List.takeWhile_prefix _)
theorem LoAt.upTo {w : World} {a : Option Addr} {l : List Lo} (h : LoAt w a l) (time : Int) : LoAt w a (upTo l time) := by
  rw [upTo_take]; exact h.take' _
/-- A part of a slice, from its first element on. -/
def RetPre (a : Option Addr) (cap n : Nat) (e : Ending) : Prop := e = .returned (.slice a n cap)
set_option maxHeartbeats 1000000 in
theorem Until_any (a : Option Addr) (n cap : Nat) (l : List Lo) (time : Int) (w : World) (hn : n = l.length) (hl : n ≤ 1000000) (hs : SlOk a n cap) (hr : LoAt w a l) :
    Calls Try.prog 36 #[.slice a n cap, .int .i64 time] w fun e w' => RetPre a cap (upTo l time).length e ∧ w = w' := by
  subst hn
  have hcap := hs.le
  have HS := Lib.hid hs; clear hs
  go_enter Try.func36, Try.ntmps36
  go_wp2
  go_loop [5] (fun i => ∃ k : Nat, ∃ hk : k ≤ l.length, i = .int .i64 k ∧ ∀ j (hj : j < k), l[j].t ≤ time) (fun i => l.length - (intOf i).toNat)
  case atStart => exact ⟨0, Nat.zero_le _, rfl, fun j hj => by omega⟩
  case round =>
    obtain ⟨k, hk, rfl, hall⟩ := hrel
    have H := Lib.hid hall; clear hall
    by_cases hlt : k < l.length
    · obtain ⟨b, off, rfl, c0, c1, c2, c3, c4⟩ := hr.get k hlt
      clear hr c1 c2 c3 c4
      have hkc : k ≤ cap := by omega
      go_wp2
      · refine ⟨⟨k + 1, by omega, by go_num, ?_⟩, by simp [intOf]; omega⟩
        have ht : l[k].t ≤ time := by assumption
        intro j hj
        by_cases e : j = k
        · subst e; exact ht
        · exact H.out j (by omega)
      · go_ret
        have ht : time < l[k].t := by assumption
        refine ⟨ret_sl ?_, rfl⟩
        rw [upTo_stop l time k (by omega) (fun j hj => H.out j hj) (fun _ => ht), List.length_take, Nat.min_eq_left (by omega)]
    · obtain rfl : k = l.length := by omega
      clear hr
      have hu : (upTo l time).length = l.length := by rw [upTo_stop l time l.length (Nat.le_refl _) (fun j hj => H.out j hj) (fun h => absurd h (Nat.lt_irrefl _)), List.take_length]
      have HU := Lib.hid hu; clear hu
      rcases HS.out.cases with ⟨rfl, h1, h2⟩ | ⟨b, off, rfl⟩
      · obtain rfl : l = [] := List.eq_nil_of_length_eq_zero h1
        subst h2
        go_wp2
        go_ret
        exact ⟨ret_sl HU.out.symm, rfl⟩
      · go_wp2
        go_ret
        exact ⟨ret_sl HU.out.symm, rfl⟩

/-- Who holds a sheet, and the whole of Holder's results. -/
def holderR (l : List Lo) (sheet time : Int) : Int × Bool × Int :=
  if loansOk l && inB sheet 1 1000000 && inB time 0 1000000000 then (hold (upTo l time) sheet, decide (0 < hold (upTo l time) sheet), 0) else (0, false, 1)
set_option maxHeartbeats 400000 in
theorem Holder_any (a : Option Addr) (n cap : Nat) (l : List Lo) (sheet time : Int) (w : World) (hn : n = l.length) (hl : n ≤ 1000000) (hs : SlOk a n cap) (hr : LoAt w a l) :
    Calls Try.prog 16 #[.slice a n cap, .int .i64 sheet, .int .i64 time] w fun e w' =>
      e = .returned (.tuple #[.int .i64 (holderR l sheet time).1, .bool (holderR l sheet time).2.1, .int .i64 (holderR l sheet time).2.2]) ∧ Below w.heap.size w w' := by
  have HN := Lib.hid hn; clear hn
  have HS := Lib.hid hs; clear hs
  go_enter Try.func16, Try.ntmps16
  go_wp2_with (first | (go_at_call 13; refine (Valid_any _ _ _ l _ HN.out hl HS.out hr).mono ?_; rintro e w' ⟨rfl, hb⟩; have HB := Lib.hid hb; clear hb) | (go_at_call 36; go_loud (refine (Until_any _ _ _ l _ _ HN.out hl HS.out (hr.below HB.out)).mono ?_); rintro e w' ⟨rfl, rfl⟩) | (go_at_call 35; go_loud (refine (holder_any _ _ _ (upTo l time) _ _ rfl (Nat.le_trans (upTo_len l time) (HN.out ▸ hl)) ((hr.below HB.out).upTo time)).mono ?_); rintro e w' ⟨rfl, rfl⟩) | (go_at_call 23; refine (ID_any _ _).mono ?_; rintro e w' ⟨rfl, rfl⟩) | (go_at_call 34; refine (Time_any _ _).mono ?_; rintro e w' ⟨rfl, rfl⟩))
  all_goals go_ret3
  all_goals (refine ⟨ret_ibi ?_ ?_ ?_, HB.out⟩ <;> (go_tidy; simp_all [holderR]))

theorem neq_lo (x y : Lo) (w : World) :
    (binOp .neq 24 (.agg #[.int .i64 x.t, .int .i64 x.k, .int .i64 x.s, .int .i64 x.st, .int .i64 x.h]) (.agg #[.int .i64 y.t, .int .i64 y.k, .int .i64 y.s, .int .i64 y.st, .int .i64 y.h])).run Try.prog w = .ok (.bool (!decide (x = y))) w := by
  have e : decide (x = y) = (x.t == y.t && (x.k == y.k && (x.s == y.s && (x.st == y.st && x.h == y.h)))) := by
    rw [Bool.eq_iff_iff]; obtain ⟨⟩ := x; obtain ⟨⟩ := y; simp
  rw [e]
  rw [run_neq_struct]
  simp [go_sem]
  cases h1 : x.t == y.t <;> cases h2 : x.k == y.k <;> cases h3 : x.s == y.s <;> cases h4 : x.st == y.st <;> cases h5 : x.h == y.h <;> simp_all [go_sem]
set_option maxHeartbeats 400000 in
theorem Same_any (a b : Option Addr) (n m cap cap' : Nat) (l r : List Lo) (w : World) (hn : n = l.length) (hm : m = r.length) (hl : n ≤ 1000000) (hl' : m ≤ 1000000) (ha : LoAt w a l) (hb : LoAt w b r) :
    Calls Try.prog 14 #[.slice a n cap, .slice b m cap'] w fun e w' => e = .returned (.bool (decide (l = r))) ∧ Below w.heap.size w w' := by
  subst hn hm
  by_cases hne : l.length = r.length
  case neg =>
    have h1 : ((l.length : Int) != (r.length : Int)) = true := by simp; omega
    go_enter Try.func14, Try.ntmps14
    go_wp2
    go_ret
    exact ⟨ret_bool (by simp; intro h; exact hne (by rw [h])), Below.refl _ _⟩
  have h1 : ((l.length : Int) != (r.length : Int)) = false := by simp [hne]
  have HNE := Lib.hid hne; clear hne
  go_enter Try.func14, Try.ntmps14
  go_wp2
  go_loopw [5] (fun i wr => ∃ k : Nat, k ≤ l.length ∧ i = .int .i64 k ∧ l.take k = r.take k ∧ Below w.heap.size w wr) (fun i _ => l.length - (intOf i).toNat)
  case atStart => exact ⟨0, Nat.zero_le _, rfl, rfl, Below.refl _ _⟩
  case round =>
    obtain ⟨k, hk, rfl, hall, hbw⟩ := hrel
    have H := Lib.hid hall; clear hall
    by_cases hlt : k < l.length
    · have hlt' : k < r.length := by have := HNE.out; omega
      obtain ⟨b1, o1, rfl, c0, c1, c2, c3, c4⟩ := (ha.below hbw).get k hlt
      obtain ⟨b2, o2, rfl, d0, d1, d2, d3, d4⟩ := (hb.below hbw).get k hlt'
      have HB := Lib.hid hbw; clear hbw
      have HA := Lib.hid ha; clear ha
      have HB2 := Lib.hid hb; clear hb
      have hneq := neq_lo l[k] r[k]
      go_wp2
      go_quiet (fail)
      go_wp2
      · go_ret
        have hd : (!decide (l[k] = r[k])) = true := by assumption
        exact ⟨ret_bool (decide_eq_false (ne_at l r k hlt hlt' (by simpa using hd))).symm, below_drewN HB.out _⟩
      · have hd : (!decide (l[k] = r[k])) = false := by assumption
        exact ⟨⟨k + 1, by omega, by go_num, take_eq_succ l r k hlt hlt' H.out (by simpa using hd), below_drewN HB.out _⟩, by simp [intOf]; omega⟩
    · have HB := Lib.hid hbw; clear hbw
      go_wp2
      go_ret
      refine ⟨ret_bool ?_, HB.out⟩
      have h3 := H.out
      have h4 := HNE.out
      rw [List.take_of_length_le (by omega), List.take_of_length_le (by omega)] at h3
      simp [h3]

set_option maxHeartbeats 400000 in
theorem SameInts_any (a b : Option Addr) (n m cap cap' : Nat) (l r : List Int) (w : World) (hn : n = l.length) (hm : m = r.length) (hl : n ≤ 1000000) (hl' : m ≤ 1000000) (ha : InAt w a l) (hb : InAt w b r) :
    Calls Try.prog 19 #[.slice a n cap, .slice b m cap'] w fun e w' => e = .returned (.bool (decide (l = r))) ∧ Below w.heap.size w w' := by
  subst hn hm
  by_cases hne : l.length = r.length
  case neg =>
    have h1 : ((l.length : Int) != (r.length : Int)) = true := by simp; omega
    go_enter Try.func19, Try.ntmps19
    go_wp2
    go_ret
    exact ⟨ret_bool (by simp; intro h; exact hne (by rw [h])), Below.refl _ _⟩
  have h1 : ((l.length : Int) != (r.length : Int)) = false := by simp [hne]
  have HNE := Lib.hid hne; clear hne
  go_enter Try.func19, Try.ntmps19
  go_wp2
  go_loopw [5] (fun i wr => ∃ k : Nat, k ≤ l.length ∧ i = .int .i64 k ∧ l.take k = r.take k ∧ Below w.heap.size w wr) (fun i _ => l.length - (intOf i).toNat)
  case atStart => exact ⟨0, Nat.zero_le _, rfl, rfl, Below.refl _ _⟩
  case round =>
    obtain ⟨k, hk, rfl, hall, hbw⟩ := hrel
    have H := Lib.hid hall; clear hall
    by_cases hlt : k < l.length
    · have hlt' : k < r.length := by have := HNE.out; omega
      obtain ⟨b1, o1, rfl, c0⟩ := (ha.below hbw).get k hlt
      obtain ⟨b2, o2, rfl, d0⟩ := (hb.below hbw).get k hlt'
      have HB := Lib.hid hbw; clear hbw
      have HA := Lib.hid ha; clear ha
      have HB2 := Lib.hid hb; clear hb
      go_wp2
      go_quiet (fail)
      go_wp2
      · go_ret
        have hd : (l[k] != r[k]) = true := by assumption
        exact ⟨ret_bool (decide_eq_false (ne_at l r k hlt hlt' (by simpa using hd))).symm, below_drewN HB.out _⟩
      · have hd : (l[k] != r[k]) = false := by assumption
        exact ⟨⟨k + 1, by omega, by go_num, take_eq_succ l r k hlt hlt' H.out (by simpa using hd), below_drewN HB.out _⟩, by simp [intOf]; omega⟩
    · have HB := Lib.hid hbw; clear hbw
      go_wp2
      go_ret
      refine ⟨ret_bool ?_, HB.out⟩
      have h3 := H.out
      have h4 := HNE.out
      rw [List.take_of_length_le (by omega), List.take_of_length_le (by omega)] at h3
      simp [h3]

end Go.Proofs.Ytokhligpjbdhcaa
