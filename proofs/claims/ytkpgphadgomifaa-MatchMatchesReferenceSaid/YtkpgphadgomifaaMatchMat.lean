/- A slice of slices of integers in memory; contracts of match.formed, match.wide, match.nobody. -/
import Derived.Test.YtkpgphadgomifaaMatchFinder
namespace Go.Proofs.Ytkpgphadgomifaa
set_option linter.unusedSimpArgs false
set_option linter.unusedVariables false
open Go.RowKit Go.Sort

/-- A slice as it is in every row of a slice of slices: of its address nothing is known where it is empty. -/
structure SlOk0 (a : Option Addr) (n cap : Nat) : Prop where
  le : n ≤ cap
  none : a = none → cap = 0
theorem SlOk.weak {a : Option Addr} {n cap : Nat} (h : SlOk a n cap) : SlOk0 a n cap := ⟨h.le, h.none⟩
/-- The rows c lie in memory, their slices in the row at a. -/
structure MatAt (w : World) (a : Option Addr) (c : List (List Int)) : Prop where
  at_ : ∃ vs : List Value, SlAt w a 1 (vs.map fun v => [v]) ∧ vs.length = c.length ∧ ∀ i (hi : i < c.length), ∃ ai cap, vs[i]? = some (.slice ai (c[i]).length cap) ∧ SlOk0 ai (c[i]).length cap ∧ InAt w ai c[i]
theorem MatAt.below {w w' : World} {a : Option Addr} {c : List (List Int)} (m : MatAt w a c) (hb : Below w.heap.size w w') : MatAt w' a c := by
  obtain ⟨vs, h1, h2, h3⟩ := m.at_
  refine ⟨vs, h1.below hb, h2, fun i hi => ?_⟩
  obtain ⟨ai, cap, g1, g2, g3⟩ := h3 i hi
  exact ⟨ai, cap, g1, g2, g3.below hb⟩
theorem MatAt.get {w : World} {a : Option Addr} {c : List (List Int)} (m : MatAt w a c) (i : Nat) (hi : i < c.length) : ∃ b off ai cap, a = some ⟨b, off, none⟩ ∧ w.cell? ⟨b, off + i, none⟩ = some (.slice ai (c[i]).length cap) ∧ SlOk0 ai (c[i]).length cap ∧ InAt w ai c[i] := by
  obtain ⟨vs, h1, h2, h3⟩ := m.at_
  obtain ⟨ai, cap, g1, g2, g3⟩ := h3 i hi
  obtain ⟨b, off, e, _, _, hc⟩ := h1 i [.slice ai (c[i]).length cap] (by rw [List.getElem?_map, g1]; rfl)
  have := hc 0 _ rfl
  rw [Nat.mul_one, Nat.add_zero] at this
  exact ⟨b, off, ai, cap, e, this, g2, g3⟩
/-- The first row of a slice of slices. -/
theorem MatAt.none {w : World} {c : List (List Int)} (m : MatAt w .none c) : c = [] := by
  cases c with
  | nil => rfl
  | cons l c =>
    obtain ⟨b, off, ai, cap, e, _⟩ := m.get 0 (by simp)
    cases e
def wideL (c : List (List Int)) : Nat := (c.head?.map List.length).getD 0
def costOk (n : Int) : Bool := decide (-1 ≤ n) && decide (n ≤ 1000000)
def rowOk (k : Nat) (l : List Int) : Bool := decide (l.length = k) && l.all costOk
/-- The error of costs. -/
def formE (c : List (List Int)) : Int := if decide (c.length ≤ 200) && c.all (fun l => decide (l.length ≤ 200)) then (if c.all (rowOk (wideL c)) then 0 else 1) else 2
theorem formE_ok {c : List (List Int)} (e : formE c = 0) : c.length ≤ 200 ∧ wideL c ≤ 200 ∧ (∀ l ∈ c, l.length = wideL c) ∧ ∀ l ∈ c, ∀ n ∈ l, -1 ≤ n ∧ n ≤ 1000000 := by
  unfold formE at e
  split at e
  · rename_i h1
    split at e
    · rename_i h2
      simp only [Bool.and_eq_true, decide_eq_true_eq, List.all_eq_true] at h1 h2
      have h3 : ∀ l ∈ c, l.length = wideL c ∧ ∀ n ∈ l, -1 ≤ n ∧ n ≤ 1000000 := fun l hl => by
        have := h2 l hl
        simp only [rowOk, Bool.and_eq_true, decide_eq_true_eq, List.all_eq_true, costOk] at this
        exact this
      refine ⟨h1.1, ?_, fun l hl => (h3 l hl).1, fun l hl => (h3 l hl).2⟩
      cases c with
      | nil => simp [wideL]
      | cons l c => exact (h1.2 l (by simp))
    · omega
  · omega
theorem long_any (a : Option Addr) (n cap : Nat) (w : World) : Calls Try.prog 41 #[.slice a n cap] w fun e w' => e = .returned (.bool (decide (200 < n))) ∧ w = w' := by
  go_enter Try.func41, Try.ntmps41
  go_wp2
  go_ret
  exact ⟨by simp; omega, rfl⟩
theorem cost_any (n : Int) (w : World) : Calls Try.prog 44 #[.int .i64 n] w fun e w' => e = .returned (.bool (!costOk n)) ∧ w = w' := by
  go_enter Try.func44, Try.ntmps44
  go_wp2
  all_goals (go_ret; exact ⟨congrArg Ending.returned (congrArg Value.bool (by rw [Bool.eq_iff_iff]; simp [costOk] <;> omega)), rfl⟩)
/-- An index, or -1. -/
def IdxPost {α : Type} (l : List α) (p : α → Bool) (w : World) (e : Ending) (w' : World) : Prop := ∃ i : Int, e = .returned (.int .i64 i) ∧ ((i = -1 ∧ l.any p = false) ∨ (0 ≤ i ∧ l.any p = true)) ∧ w = w'
theorem any_take_no {α : Type} (l : List α) (p : α → Bool) (h : ∀ i (hi : i < l.length), p l[i] = false) : l.any p = false := by
  rw [List.any_eq_false]
  intro x hx
  obtain ⟨i, hi, rfl⟩ := List.mem_iff_getElem.1 hx
  rw [h i hi]; simp
set_option maxHeartbeats 1000000 in
theorem idxRows_any (a : Option Addr) (cap : Nat) (c : List (List Int)) (w : World) (hl : c.length ≤ 100000000000000) (hm : MatAt w a c) (hs : SlOk a c.length cap) :
    Calls Try.prog 51 #[.slice a c.length cap, .func (Fn.func 41) #[] #[]] w (IdxPost c (fun l => decide (200 < l.length)) w) := by
  have HS := Lib.hid hs; have HM := Lib.hid hm; clear hs hm
  go_enter Try.func51, Try.ntmps51
  go_wp2
  go_loop [8] (fun i => ∃ k : Nat, k ≤ c.length ∧ i = .int .i64 k ∧ ∀ j (hj : j < c.length), j < k → decide (200 < (c[j]).length) = false) (fun i => c.length - (intOf i).toNat)
  case atStart => exact ⟨0, Nat.zero_le _, rfl, fun j hj hk => by omega⟩
  case round =>
    obtain ⟨k, hk, rfl, hall⟩ := hrel
    have HA := Lib.hid hall; clear hall
    by_cases hlt : k < c.length
    · obtain ⟨b, off, ai, ci, rfl, c0, _, _⟩ := HM.out.get k hlt
      cases hd : decide (200 < (c[k]).length)
      · have HDD := Lib.hid hd
        go_wp2_with (fail)
        refine (long_any _ _ _ _).mono ?_; rintro e w' ⟨rfl, rfl⟩
        go_wp2
        go_round
        case rel => exact ⟨k + 1, by omega, by go_num, fun j hj hjk => by
          by_cases e : j = k
          · subst e; exact HDD.out
          · exact HA.out j hj (by omega)⟩
        case measure => simp [intOf]; omega
      · have HDD := Lib.hid hd
        go_wp2_with (fail)
        refine (long_any _ _ _ _).mono ?_; rintro e w' ⟨rfl, rfl⟩
        go_wp2
        go_ret
        exact ⟨k, rfl, .inr ⟨by omega, List.any_eq_true.2 ⟨c[k], List.getElem_mem _, HDD.out⟩⟩, rfl⟩
    · go_wp2
      go_ret
      exact ⟨-1, rfl, .inl ⟨rfl, any_take_no _ _ fun i hi => HA.out i hi (by omega)⟩, rfl⟩
set_option maxHeartbeats 1000000 in
theorem idxInts_any (a : Option Addr) (cap : Nat) (l : List Int) (w : World) (hl : l.length ≤ 100000000000000) (hm : InAt w a l) (hs : SlOk0 a l.length cap) :
    Calls Try.prog 52 #[.slice a l.length cap, .func (Fn.func 44) #[] #[]] w (IdxPost l (fun n => !costOk n) w) := by
  have HS := Lib.hid hs; have HM := Lib.hid hm; clear hs hm
  go_enter Try.func52, Try.ntmps52
  go_wp2
  go_loop [8] (fun i => ∃ k : Nat, k ≤ l.length ∧ i = .int .i64 k ∧ ∀ j (hj : j < l.length), j < k → (!costOk l[j]) = false) (fun i => l.length - (intOf i).toNat)
  case atStart => exact ⟨0, Nat.zero_le _, rfl, fun j hj hk => by omega⟩
  case round =>
    obtain ⟨k, hk, rfl, hall⟩ := hrel
    have HA := Lib.hid hall; clear hall
    by_cases hlt : k < l.length
    · obtain ⟨b, off, rfl, c0⟩ := HM.out.get k hlt
      cases hd : costOk l[k]
      · have HDD := Lib.hid hd
        go_wp2_with (fail)
        refine (cost_any _ _).mono ?_; rintro e w' ⟨rfl, rfl⟩
        go_wp2
        go_ret
        exact ⟨k, rfl, .inr ⟨by omega, List.any_eq_true.2 ⟨l[k], List.getElem_mem _, by rw [HDD.out]; rfl⟩⟩, rfl⟩
      · have HDD := Lib.hid hd
        go_wp2_with (fail)
        refine (cost_any _ _).mono ?_; rintro e w' ⟨rfl, rfl⟩
        go_wp2
        go_round
        case rel => exact ⟨k + 1, by omega, by go_num, fun j hj hjk => by
          by_cases e : j = k
          · subst e; rw [HDD.out]; rfl
          · exact HA.out j hj (by omega)⟩
        case measure => simp [intOf]; omega
    · go_wp2
      go_ret
      exact ⟨-1, rfl, .inl ⟨rfl, any_take_no _ _ fun i hi => HA.out i hi (by omega)⟩, rfl⟩
theorem hasRows_any (a : Option Addr) (cap : Nat) (c : List (List Int)) (w : World) (hl : c.length ≤ 100000000000000) (hm : MatAt w a c) (hs : SlOk a c.length cap) :
    Calls Try.prog 42 #[.slice a c.length cap, .func (Fn.func 41) #[] #[]] w fun e w' => e = .returned (.bool (c.any fun l => decide (200 < l.length))) ∧ w = w' := by
  have HS := Lib.hid hs; have HM := Lib.hid hm; clear hs hm
  generalize hA : (c.any fun l => decide (200 < l.length)) = A
  have HA := Lib.hid hA; clear hA
  go_enter Try.func42, Try.ntmps42
  go_wp2_with (fail)
  refine (idxRows_any a cap c w hl HM.out HS.out).mono ?_; rintro e w' ⟨i, rfl, hi, rfl⟩
  rw [HA.out] at hi
  rcases hi with ⟨rfl, rfl⟩ | ⟨hi, rfl⟩
  · go_wp2
    go_ret
    exact ⟨rfl, rfl⟩
  · go_wp2
    go_ret
    exact ⟨by simp [hi], rfl⟩
theorem hasInts_any (a : Option Addr) (cap : Nat) (l : List Int) (w : World) (hl : l.length ≤ 100000000000000) (hm : InAt w a l) (hs : SlOk0 a l.length cap) :
    Calls Try.prog 43 #[.slice a l.length cap, .func (Fn.func 44) #[] #[]] w fun e w' => e = .returned (.bool (l.any fun n => !costOk n)) ∧ w = w' := by
  have HS := Lib.hid hs; have HM := Lib.hid hm; clear hs hm
  generalize hA : (l.any fun n => !costOk n) = A
  have HA := Lib.hid hA; clear hA
  go_enter Try.func43, Try.ntmps43
  go_wp2_with (fail)
  refine (idxInts_any a cap l w hl HM.out HS.out).mono ?_; rintro e w' ⟨i, rfl, hi, rfl⟩
  rw [HA.out] at hi
  rcases hi with ⟨rfl, rfl⟩ | ⟨hi, rfl⟩
  · go_wp2
    go_ret
    exact ⟨rfl, rfl⟩
  · go_wp2
    go_ret
    exact ⟨by simp [hi], rfl⟩
end Go.Proofs.Ytkpgphadgomifaa
