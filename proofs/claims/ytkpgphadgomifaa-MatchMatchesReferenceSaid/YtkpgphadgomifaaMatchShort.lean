/- Contracts of match.formed, match.wide, match.nobody, match.finder, match.Short. -/
import Derived.Test.YtkpgphadgomifaaMatchMat
namespace Go.Proofs.Ytkpgphadgomifaa
set_option linter.unusedSimpArgs false
set_option linter.unusedVariables false
open Go.RowKit Go.Sort

theorem wide_any (a : Option Addr) (cap : Nat) (c : List (List Int)) (w : World) (hl : c.length ≤ 100000000000000) (hm : MatAt w a c) :
    Calls Try.prog 24 #[.slice a c.length cap] w fun e w' => e = .returned (.int .i64 (wideL c : Nat)) ∧ w = w' := by
  have HM := Lib.hid hm; clear hm
  cases c with
  | nil =>
    go_enter Try.func24, Try.ntmps24
    go_wp2
    go_ret
    exact ⟨rfl, rfl⟩
  | cons l c =>
    obtain ⟨b, off, ai, ci, rfl, c0, _, _⟩ := HM.out.get 0 (by simp)
    have hc0 : w.cell? ⟨b, off, none⟩ = some (.slice ai l.length ci) := by simpa using c0
    have hne : ((c.length + 1 : Nat) : Int) ≠ 0 := by omega
    have hne2 : (((c.length : Int) + 1) == 0) = false := by simp; omega
    clear c0
    go_enter Try.func24, Try.ntmps24
    go_wp2
    go_ret
    exact ⟨rfl, rfl⟩
theorem form_bad {c : List (List Int)} {i : Nat} (hi : i < c.length) (h1 : c.length ≤ 200) (h2 : (c.any fun l => decide (200 < l.length)) = false) (h3 : rowOk (wideL c) c[i] = false) : formE c = 1 := by
  unfold formE
  rw [if_pos, if_neg]
  · intro h
    have := List.all_eq_true.1 h c[i] (List.getElem_mem _)
    rw [h3] at this; cases this
  · simp only [Bool.and_eq_true, decide_eq_true_eq, List.all_eq_true]
    refine ⟨h1, fun l hl => ?_⟩
    have := List.any_eq_false.1 h2 l hl
    simpa using this
theorem form_ok {c : List (List Int)} (h1 : c.length ≤ 200) (h2 : (c.any fun l => decide (200 < l.length)) = false) (h3 : ∀ i (hi : i < c.length), rowOk (wideL c) c[i] = true) : formE c = 0 := by
  unfold formE
  rw [if_pos, if_pos]
  · rw [List.all_eq_true]
    intro l hl
    obtain ⟨i, hi, rfl⟩ := List.mem_iff_getElem.1 hl
    exact h3 i hi
  · simp only [Bool.and_eq_true, decide_eq_true_eq, List.all_eq_true]
    refine ⟨h1, fun l hl => ?_⟩
    have := List.any_eq_false.1 h2 l hl
    simpa using this
theorem form_long {c : List (List Int)} (h : ¬ c.length ≤ 200 ∨ (c.any fun l => decide (200 < l.length)) = true) : formE c = 2 := by
  unfold formE
  rw [if_neg]
  simp only [Bool.and_eq_true, decide_eq_true_eq, List.all_eq_true]
  rintro ⟨h1, h2⟩
  rcases h with h | h
  · exact h h1
  · obtain ⟨l, hl, hd⟩ := List.any_eq_true.1 h
    have := h2 l hl
    simp at hd; omega
set_option maxHeartbeats 2000000 in
theorem formed_any (a : Option Addr) (cap : Nat) (c : List (List Int)) (w : World) (hl : c.length ≤ 100000000000000) (hm : MatAt w a c) (hs : SlOk a c.length cap) :
    Calls Try.prog 28 #[.slice a c.length cap] w fun e w' => e = .returned (.int .i64 (formE c)) ∧ w = w' := by
  have HS := Lib.hid hs; have HM := Lib.hid hm; clear hs hm
  by_cases h1 : c.length ≤ 200
  case neg =>
    have HE := Lib.hid (form_long (.inl h1))
    have h1' : 200 < c.length := by omega
    go_enter Try.func28, Try.ntmps28
    go_wp2
    go_ret
    exact ⟨by rw [HE.out]; rfl, rfl⟩
  cases hA : c.any fun l => decide (200 < l.length)
  case true =>
    have HE := Lib.hid (form_long (.inr hA))
    have HAA := Lib.hid hA; clear hA
    go_enter Try.func28, Try.ntmps28
    go_wp2_with (fail)
    refine (hasRows_any a cap c w hl HM.out HS.out).mono ?_; rw [HAA.out]; rintro e w' ⟨rfl, rfl⟩
    go_wp2
    go_ret
    exact ⟨by rw [HE.out]; rfl, rfl⟩
  have HAA := Lib.hid hA; clear hA
  go_enter Try.func28, Try.ntmps28
  go_wp2_with (fail)
  refine (hasRows_any a cap c w hl HM.out HS.out).mono ?_; rw [HAA.out]; rintro e w' ⟨rfl, rfl⟩
  go_wp2
  go_loop [16] (fun i => ∃ k : Nat, k ≤ c.length ∧ i = .int .i64 k ∧ ∀ j (hj : j < c.length), j < k → rowOk (wideL c) c[j] = true) (fun i => c.length - (intOf i).toNat)
  case atStart => exact ⟨0, Nat.zero_le _, rfl, fun j hj hk => by omega⟩
  case round =>
    obtain ⟨k, hk, rfl, hall⟩ := hrel
    have HAl := Lib.hid hall; clear hall
    by_cases hlt : k < c.length
    · obtain ⟨b, off, ai, ci, rfl, c0, hsk, hik⟩ := HM.out.get k hlt
      obtain ⟨b', off', a0, ci0, e, d0, _, _⟩ := HM.out.get 0 (by omega)
      cases e
      have hwl : (c[0]'(by omega)).length = wideL c := by
        cases c with
        | nil => simp at hlt
        | cons l c => rfl
      rw [Nat.add_zero, hwl] at d0
      clear hwl
      have HSK := Lib.hid hsk; have HIK := Lib.hid hik; clear hsk hik
      have hrl : (c[k]).length ≤ 100000000000000 := by
        have := List.any_eq_false.1 HAA.out c[k] (List.getElem_mem _)
        simp at this; omega
      have hpos : 0 < c.length := by omega
      generalize hL : c[k] = L at *
      have HLL := Lib.hid hL; clear hL
      by_cases he : L.length = wideL c
      · have hb : ((L.length : Int) != (wideL c : Int)) = false := by simp; omega
        have HE := Lib.hid he; clear he
        cases hX : L.any fun n => !costOk n
        · have HX := Lib.hid hX; clear hX
          go_wp2_with (fail)
          refine (hasInts_any ai ci L _ hrl HIK.out HSK.out).mono ?_; rw [HX.out]; rintro e w' ⟨rfl, rfl⟩
          go_wp2
          go_round
          case rel => exact ⟨k + 1, by omega, by go_num, fun j hj hjk => by
            by_cases e : j = k
            · subst e
              rw [HLL.out]
              simp only [rowOk, Bool.and_eq_true, decide_eq_true_eq, List.all_eq_true]
              refine ⟨HE.out, fun n hn => ?_⟩
              have := List.any_eq_false.1 HX.out n hn
              simpa using this
            · exact HAl.out j hj (by omega)⟩
          case measure => simp [intOf]; omega
        · have HX := Lib.hid hX; clear hX
          have HE1 := Lib.hid (form_bad (c := c) (i := k) hlt h1 HAA.out (by
            rw [HLL.out]
            obtain ⟨n, hn, hc⟩ := List.any_eq_true.1 HX.out
            rw [Bool.eq_false_iff]
            intro hr
            simp only [rowOk, Bool.and_eq_true, decide_eq_true_eq, List.all_eq_true] at hr
            rw [hr.2 n hn] at hc; cases hc))
          go_wp2_with (fail)
          refine (hasInts_any ai ci L _ hrl HIK.out HSK.out).mono ?_; rw [HX.out]; rintro e w' ⟨rfl, rfl⟩
          go_wp2
          go_ret
          exact ⟨by rw [HE1.out]; rfl, rfl⟩
      · have hb : ((L.length : Int) != (wideL c : Int)) = true := by simp; omega
        have HE1 := Lib.hid (form_bad (c := c) (i := k) hlt h1 HAA.out (by
          rw [HLL.out]
          rw [Bool.eq_false_iff]
          intro hr
          simp only [rowOk, Bool.and_eq_true, decide_eq_true_eq] at hr
          exact he hr.1))
        clear he
        go_wp2
        go_ret
        exact ⟨by rw [HE1.out]; rfl, rfl⟩
    · have HE := Lib.hid (form_ok h1 HAA.out fun i hi => HAl.out i hi (by omega))
      go_wp2
      go_ret
      exact ⟨by rw [HE.out]; rfl, rfl⟩
/-- A new list of nobodies. -/
def NobPost (n : Nat) (w : World) (e : Ending) (w' : World) : Prop := ∃ b, e = .returned (.slice (some ⟨b, 0, none⟩) n n) ∧ w.heap.size ≤ b ∧ RowAt w' b n 3 (fun _ => .int .i64 (-1)) ∧ Below w.heap.size w w'
set_option maxHeartbeats 1000000 in
theorem nobody_any (n : Nat) (w : World) (hn : n ≤ 100000) : Calls Try.prog 31 #[.int .i64 n] w (NobPost n w) := by
  have hmk := fun w => run_make_row' (P := Try.prog) 23 3 (.int .i64 0) 8 Try.underlying23 (by kernel_rfl) rfl .i64 .i64 n (by omega) (by omega) w
  go_enter Try.func31, Try.ntmps31
  go_wp2
  have r0 := RowAt.made w n 3 (.int .i64 0)
  have hb := (Below.refl w.heap.size w).alloc (Nat.le_refl _) (.cells (madeCells #[.int .i64 0] n) 3)
  generalize w.alloc (.cells (madeCells #[.int .i64 0] n) 3) = W at *
  have HR := Lib.hid r0; have HB := Lib.hid hb
  clear r0 hb hmk
  go_loopw [9] (fun i wr => ∃ k : Nat, k ≤ n ∧ i = .int .i64 k ∧ RowAt wr w.heap.size n 3 (fun j => .int .i64 (if j < k then -1 else 0)) ∧ Below w.heap.size w wr) (fun i _ => n - (intOf i).toNat)
  case atStart => exact ⟨0, Nat.zero_le _, rfl, HR.out.congr fun k hk => by simp, HB.out⟩
  case round =>
    obtain ⟨k, hk, rfl, r1, b1⟩ := hrel
    have HR1 := Lib.hid r1; have HB1 := Lib.hid b1; clear r1 b1
    by_cases hlt : k < n
    · have hc := HR1.out.cell hlt
      have hf := HR1.out.free k
      go_wp2
      go_roundw
      case rel => exact ⟨k + 1, by omega, by go_num, (HR1.out.set hlt (.int .i64 (-1))).congr fun j hj => by
          by_cases e : j = k
          · subst e; simp [upd_same]
          · rw [upd_ne _ _ e]
            have e2 : (j < k) = (j < k + 1) := by rw [eq_iff_iff]; omega
            simp only [e2], HB1.out.setCell (by simp) _⟩
      case measure => simp [intOf]; omega
    · go_wp2
      go_ret
      exact ⟨_, rfl, Nat.le_refl _, HR1.out.congr fun j hj => by rw [if_pos (by omega)], HB1.out⟩
end Go.Proofs.Ytkpgphadgomifaa
