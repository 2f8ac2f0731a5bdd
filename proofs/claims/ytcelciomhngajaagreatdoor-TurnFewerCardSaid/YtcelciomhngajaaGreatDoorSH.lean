/- Texts of this seat, laid together: ScR06, ScRef, ScR07, ScR03, ScR08, ScR07b, ScR08b. -/
import Derived.Test.YtcelciomhngajaaGreatDoorSB
import Derived.Test.YtcelciomhngajaaGreatDoorSA
import Derived.Test.YtcelciomhngajaaGreatDoorProg
import Derived.Test.YtcelciomhngajaaGreatDoorSF
import Derived.Test.YtcelciomhngajaaGreatDoorSE
import Derived.Test.YtcelciomhngajaaGreatDoorSC
import Derived.Test.YtcelciomhngajaaGreatDoorSD
/- The reference's durations and bars (layer 6): walked. -/
namespace Go.Proofs.YtcelciomhngajaaGreatDoor
set_option linter.unusedSimpArgs false
set_option linter.unusedVariables false
open Go.RowKit Go.Sort

theorem gcd_any (a b : Nat) (w : World) (h0 : a ≤ 1000000000) (h1 : b ≤ 1000000000) : Calls Tryz.prog 51 #[.int .i64 a, .int .i64 b] w fun e w' => e = .returned (.int .i64 (Nat.gcd a b : Nat)) ∧ w = w' := by
  go_enter Tryz.func51, Tryz.ntmps51
  go_wp2
  go_loopw [0, 1, 5] (fun s0 s1 s5 wr => ∃ x y : Nat, s0 = .int .i64 x ∧ s1 = .int .i64 y ∧ x ≤ 1000000000 ∧ y ≤ 1000000000 ∧ Hid (Nat.gcd x y = Nat.gcd a b) ∧ w = wr) (fun _ s1 _ _ => (intOf s1).toNat)
  case atStart => exact ⟨a, b, rfl, rfl, h0, h1, Lib.hid rfl, rfl⟩
  case round =>
    obtain ⟨x, y, rfl, rfl, hx, hy, HG, rfl⟩ := hrel
    by_cases h : y = 0
    · subst h
      go_wp2
      go_ret
      have := HG.out
      rw [Nat.gcd_zero_right] at this
      exact ⟨by rw [← this]; rfl, rfl⟩
    · have e1 : ((y : Int) != 0) = true := by simp; omega
      have e0 : ¬ (y : Int) = 0 := by omega
      have e2 : Int.tmod (x : Int) (y : Int) = ((x % y : Nat) : Int) := by rw [Int.tmod_eq_emod_of_nonneg (by omega)]; simp
      have e3 : x % y < y := Nat.mod_lt _ (by omega)
      have HG2 := Lib.hid (show Nat.gcd y (x % y) = Nat.gcd a b by rw [← HG.out, Nat.gcd_comm x y, Nat.gcd_rec y x, Nat.gcd_comm])
      have e4 : IntKind.i64.wrap ((x % y : Nat) : Int) = ((x % y : Nat) : Int) := IntWalk.i64_in _ (by omega)
      go_wp2
      refine ⟨⟨y, x % y, rfl, by simp, hy, by omega, HG2, trivial⟩, by simp only [intOf]; omega⟩
/-- Ticks: how many 1680ths a duration is. -/
theorem RTicks_any (n d : Int) (w : World) : Calls Tryz.prog 24 #[.agg #[.int .i64 n, .int .i64 d]] w fun e w' => e = .returned (.int .i64 (ticksI ⟨n, d⟩)) ∧ Below w.heap.size w w' := by
  have HB := Lib.hid ((Below.refl w.heap.size w).alloc (Nat.le_refl _) (.cells #[.int .i64 n, .int .i64 d] 32))
  have HX1 := Lib.hid (heap_alloc_new w (.cells #[.int .i64 n, .int .i64 d] 32))
  cases hv : durB ⟨n, d⟩
  · have HR := Lib.hid (show ticksI ⟨n, d⟩ = -1 by simp [ticksI, hv])
    have HV := Lib.hid hv
    by_cases h1 : d < 1
    · go_enter Tryz.func24, Tryz.ntmps24
      go_upto_region 1 with (fail)
      generalize w.alloc (.cells #[.int .i64 n, .int .i64 d] 32) = W at *
      have hc1 := box_cells HX1.out
      go_wp2
      go_ret
      exact ⟨ret_int HR.out.symm, HB.out⟩
    · have m0 := Int.emod_nonneg 1680 (show d ≠ 0 by omega); have m1 := Int.emod_lt_of_pos 1680 (show 0 < d by omega)
      have e0 : ¬ d = 0 := by omega
      have m3 : 1680 % d ≤ 1680 := by
        rcases Int.lt_or_le 1680 d with h | h
        · rw [Int.emod_eq_of_lt (by decide) h]; omega
        · omega
      have e1 : Int.tmod 1680 d = 1680 % d := Int.tmod_eq_emod_of_nonneg (by decide)
      have e2 : IntKind.i64.wrap (1680 % d) = 1680 % d := IntWalk.i64_in _ (by omega)
      obtain ⟨M, hM⟩ : ∃ M, M = 1680 % d := ⟨_, rfl⟩
      have HM := Lib.hid hM
      rw [← hM] at e1 e2
      clear m0 m1 m3 hM
      by_cases h2 : M = 0
      case neg =>
        have h2' : (M != 0) = true := by simpa using h2
        go_enter Tryz.func24, Tryz.ntmps24
        go_upto_region 1 with (fail)
        generalize w.alloc (.cells #[.int .i64 n, .int .i64 d] 32) = W at *
        have hc1 := box_cells HX1.out
        go_wp2
        go_ret
        exact ⟨ret_int HR.out.symm, HB.out⟩
      subst h2
      by_cases h3 : n < 0
      · go_enter Tryz.func24, Tryz.ntmps24
        go_upto_region 1 with (fail)
        generalize w.alloc (.cells #[.int .i64 n, .int .i64 d] 32) = W at *
        have hc1 := box_cells HX1.out
        go_wp2
        go_ret
        exact ⟨ret_int HR.out.symm, HB.out⟩
      by_cases h4 : 1000000000 < n
      · go_enter Tryz.func24, Tryz.ntmps24
        go_upto_region 1 with (fail)
        generalize w.alloc (.cells #[.int .i64 n, .int .i64 d] 32) = W at *
        have hc1 := box_cells HX1.out
        go_wp2
        go_ret
        exact ⟨ret_int HR.out.symm, HB.out⟩
      have HG := Lib.hid (show ∀ W, Calls Tryz.prog 51 #[.int .i64 n, .int .i64 d] W fun e w' => e = .returned (.int .i64 (Nat.gcd n.natAbs d.natAbs : Nat)) ∧ W = w' from fun W => by
        have h5 : d ≤ 1680 := Int.le_of_dvd (by decide) (Int.dvd_of_emod_eq_zero HM.out.symm)
        have := gcd_any n.natAbs d.natAbs W (by omega) (by omega)
        rwa [show ((n.natAbs : Nat) : Int) = n by omega, show ((d.natAbs : Nat) : Int) = d by omega] at this)
      have hg : ¬ Nat.gcd n.natAbs d.natAbs = 1 := fun hg => by
        have : durB ⟨n, d⟩ = true := (durB_iff _).2 ⟨⟨by show 1 ≤ d; omega, Int.le_of_dvd (by decide) (Int.dvd_of_emod_eq_zero HM.out.symm), HM.out.symm⟩, ⟨by show 0 ≤ n; omega, by show n ≤ 1000000000; omega⟩, hg⟩
        rw [HV.out] at this; cases this
      generalize Nat.gcd n.natAbs d.natAbs = G at *
      have hg2 : ((G : Int) != 1) = true := by simp; omega
      go_enter Tryz.func24, Tryz.ntmps24
      go_upto_region 1 with (fail)
      generalize w.alloc (.cells #[.int .i64 n, .int .i64 d] 32) = W at *
      have hc1 := box_cells HX1.out
      go_wp2_with (go_at_call 51; refine (HG.out _).mono ?_; rintro e w2 ⟨rfl, rfl⟩)
      go_ret
      exact ⟨ret_int HR.out.symm, HB.out⟩
  · have hb := ticks_nonneg hv
    have HR := Lib.hid (show ticksI ⟨n, d⟩ = n * (1680 / d) by simp [ticksI, hv])
    rw [HR.out] at hb
    obtain ⟨⟨q1, q2, q3⟩, ⟨q4, q5⟩, q6⟩ := (durB_iff _).1 hv
    simp only at q1 q2 q3 q4 q5 q6
    clear hv
    have e0 : ¬ d = 0 := by omega
    have e1 : Int.tmod 1680 d = 0 := (Int.tmod_eq_emod_of_nonneg (by decide)).trans q3
    have e3 : Int.tdiv 1680 d = 1680 / d := Int.tdiv_eq_ediv_of_nonneg (by decide)
    have e4 : 0 ≤ 1680 / d := Int.ediv_nonneg (by decide) (by omega)
    have e5 : 1680 / d ≤ 1680 := Int.ediv_le_self _ (by decide)
    have e6 : IntKind.i64.wrap (1680 / d) = 1680 / d := IntWalk.i64_in _ (by omega)
    have e7 : IntKind.i64.wrap (n * (1680 / d)) = n * (1680 / d) := IntWalk.i64_in _ (by omega)
    have HG := Lib.hid (show ∀ W, Calls Tryz.prog 51 #[.int .i64 n, .int .i64 d] W fun e w' => e = .returned (.int .i64 1) ∧ W = w' from fun W => by
      have := gcd_any n.natAbs d.natAbs W (by omega) (by omega)
      rw [q6] at this
      rwa [show ((n.natAbs : Nat) : Int) = n by omega, show ((d.natAbs : Nat) : Int) = d by omega] at this)
    clear q3 q6
    go_enter Tryz.func24, Tryz.ntmps24
    go_upto_region 1 with (fail)
    generalize w.alloc (.cells #[.int .i64 n, .int .i64 d] 32) = W at *
    have hc1 := box_cells HX1.out
    go_wp2_with (go_at_call 51; refine (HG.out _).mono ?_; rintro e w2 ⟨rfl, rfl⟩)
    have g0 := cell_regrown (hc1 0); have g1 := cell_regrown (hc1 1)
    go_quiet (fail)
    go_wp2
    go_ret
    exact ⟨ret_int HR.out.symm, below_drewN HB.out nq⟩
theorem barOk_iff2 (b : Ba) : barOk b = true ↔ (1 ≤ b.id ∧ b.id ≤ 1000000) ∧ (1 ≤ ticksI b.len ∧ ticksI b.len ≤ 40320) ∧ -7 ≤ b.key ∧ b.key ≤ 7 := by
  simp [barOk, isID, inB_iff, and_assoc]
theorem r_bars_bad {l : List Ba} {k : Nat} (hk : k < l.length) (h : barOk l[k] = false) : barsB l = false := by
  have : l.all barOk = false := by
    rw [← Bool.not_eq_true]
    intro hh
    have := List.all_eq_true.1 hh l[k] (by simp)
    rw [h] at this; cases this
  simp [barsB, this]
theorem r_all_take {α : Type} {l : List α} {p : α → Bool} {k : Nat} (hk : k < l.length) (h : (l.take k).all p = true) (hp : p l[k] = true) : (l.take (k + 1)).all p = true := by
  rw [List.take_succ_eq_append_getElem hk, List.all_append, h, Bool.true_and]
  simp [hp]
/-- What stands before differs: no double. -/
theorem nodup_step {l : List Int} {k : Nat} (hk : k < l.length) (h : (l.take k).Nodup) (hd : ∀ j (hj : j < l.length), j < k → l[j] ≠ l[k]) : (l.take (k + 1)).Nodup := by
  refine nodup_take hk h ?_
  rw [← Bool.not_eq_true]
  intro hc
  have hc : l[k] ∈ l.take k := by simpa using hc
  obtain ⟨j, hj, e⟩ := List.getElem_of_mem hc
  rw [List.length_take] at hj
  rw [List.getElem_take] at e
  exact hd j (by omega) (by omega) e
theorem dup_at {l : List Int} {j k : Nat} (hj : j < l.length) (hk : k < l.length) (hjk : j < k) (e : l[j] = l[k]) : ¬ l.Nodup := fun hn => by
  have := (List.getElem_inj hn).1 e
  omega
set_option maxRecDepth 100000 in
set_option maxHeartbeats 4000000 in
theorem RBars_any (a : Option Addr) (cap : Nat) (l : List Ba) (w : World) (hl : l.length ≤ 100000) (hm : BaAt w a l) :
    Calls Tryz.prog 54 #[.slice a l.length cap] w fun e w' => e = .returned (.bool (barsB l)) ∧ Below w.heap.size w w' := by
  have HM := Lib.hid hm; clear hm
  have HLen := Lib.hid (show ¬ (1 ≤ l.length ∧ l.length ≤ 4000) → barsB l = false from fun h => by
    unfold barsB
    by_cases h1 : 1 ≤ l.length
    · have : ¬ l.length ≤ 4000 := fun x => h ⟨h1, x⟩
      simp [this]
    · simp [h1])
  have HDone := Lib.hid (show 1 ≤ l.length ∧ l.length ≤ 4000 → l.all barOk = true → (l.map Ba.id).Nodup → barsB l = true from fun h h2 h3 => by simp [barsB, h, h2, h3])
  have HBad := Lib.hid (fun k (hk : k < l.length) h => r_bars_bad (l := l) hk h)
  have HDup := Lib.hid (show ¬ (l.map Ba.id).Nodup → barsB l = false from fun h => by simp [barsB, h])
  generalize barsB l = R at *
  go_enter Tryz.func54, Tryz.ntmps54
  by_cases hlen : 1 ≤ l.length ∧ l.length ≤ 4000
  case neg =>
    have HF := Lib.hid (HLen.out hlen)
    have HN := Lib.hid hlen; clear hlen
    go_wp2
    all_goals first | (go_ret; exact ⟨ret_bool HF.out.symm, Below.refl _ _⟩) | (exfalso; apply HN.out; omega)
  obtain ⟨hl1, hl2⟩ := hlen
  go_wp2
  go_loopw [3] (fun i wr => ∃ k : Nat, k ≤ l.length ∧ i = .int .i64 k ∧ (l.take k).all barOk = true ∧ ((l.map Ba.id).take k).Nodup ∧ Below w.heap.size w wr) (fun i _ => l.length - (intOf i).toNat)
  case atStart => exact ⟨0, Nat.zero_le _, rfl, by simp, by simp, Below.refl _ _⟩
  case round =>
    obtain ⟨k, hk, rfl, hall, hnd, hb⟩ := hrel
    have HA := Lib.hid hall; have HND := Lib.hid hnd; have HB := Lib.hid hb
    clear hall hnd hb
    by_cases hlt : k < l.length
    · obtain ⟨b, off, rfl, _, c0, c1, c2, c3⟩ := HM.out.get k hlt
      have g0 := keepE c0 HB.out; have g1 := keepE c1 HB.out; have g2 := keepE c2 HB.out; have g3 := keepE c3 HB.out
      clear c0 c1 c2 c3
      have HOk := Lib.hid (r_all_take (p := barOk) hlt HA.out)
      have HBk := Lib.hid (HBad.out k hlt)
      have HI := Lib.hid (barOk_iff2 l[k])
      have hlt' : k < (l.map Ba.id).length := by simpa using hlt
      have HId := Lib.hid (show (l.map Ba.id)[k]'hlt' = l[k].id by simp)
      generalize hBk : l[k] = B at *
      have HEq := Lib.hid hBk
      obtain ⟨id, ⟨n, d⟩, key⟩ := B
      simp only at *
      have tb : -1 ≤ ticksI ⟨n, d⟩ ∧ ticksI ⟨n, d⟩ ≤ 1680000000000 := by
        unfold ticksI
        split
        · rename_i h
          have := ticks_nonneg h
          rw [ticksI, if_pos h] at this; omega
        · omega
      have HT := Lib.hid (fun W => RTicks_any n d W)
      generalize ticksI ⟨n, d⟩ = T at *
      obtain ⟨t1, t2⟩ := tb
      clear hBk
      by_cases hok : ((1 ≤ id ∧ id ≤ 1000000) ∧ (1 ≤ T ∧ T ≤ 40320) ∧ -7 ≤ key ∧ key ≤ 7)
      · have HO := Lib.hid (HOk.out (HI.out.2 hok))
        obtain ⟨⟨o1, o2⟩, ⟨o3, o4⟩, o5, o6⟩ := hok
        go_wp2_with (go_at_call 24; refine (HT.out _).mono ?_; rintro e w2 ⟨rfl, hb⟩; replace HB := Lib.hid (HB.out.trans (hb.mono HB.out.size)); replace g0 := keepE g0 hb; replace g1 := keepE g1 hb; replace g2 := keepE g2 hb; replace g3 := keepE g3 hb; clear hb)
        go_loopw [5] (fun i wr2 => ∃ m : Nat, m ≤ k ∧ i = .int .i64 m ∧ (∀ j (hj : j < l.length), j < m → l[j].id ≠ id) ∧ Below w.heap.size w wr2) (fun i _ => k - (intOf i).toNat)
        case atStart => exact ⟨0, Nat.zero_le _, rfl, fun j hj h => by omega, HB.out⟩
        case round =>
          clear HB g0 g1 g2 g3
          obtain ⟨m, hm, rfl, hall, hb⟩ := hrel
          have HA2 := Lib.hid hall; have HB := Lib.hid hb
          clear hall hb
          by_cases hlt2 : m < k
          · have hml : m < l.length := by omega
            obtain ⟨b', off', e', _, c0, c1, c2, c3⟩ := HM.out.get m hml
            obtain ⟨b'', off'', e'', _, d0, _, _, _⟩ := HM.out.get k hlt
            cases e'; cases e''
            rw [HEq.out] at d0
            have g0 := keepE c0 HB.out; have k0 := keepE d0 HB.out
            clear c0 c1 c2 c3 d0
            have HC := Lib.hid (fun h : l[m].id ≠ id => (fun j (hj : j < l.length) (hjm : j < m + 1) => if e : j = m then by subst e; exact h else HA2.out j hj (by omega) : ∀ j (hj : j < l.length), j < m + 1 → l[j].id ≠ id))
            have HDu := Lib.hid (fun h : l[m].id = id => HDup.out (dup_at (l := l.map Ba.id) (by simpa using hml) hlt' hlt2 (by rw [HId.out]; simpa using h)))
            generalize l[m].id = id2 at *
            by_cases hid : id2 = id
            · have HF := Lib.hid (HDu.out hid)
              subst hid
              go_wp2
              go_quiet (fail)
              go_wp2
              go_ret
              exact ⟨ret_bool HF.out.symm, below_drewN HB.out nq⟩
            · have HC2 := Lib.hid (HC.out hid)
              go_wp2
              go_quiet (fail)
              go_wp2
              exact ⟨⟨m + 1, by omega, by go_num, HC2.out, below_drewN HB.out nq⟩, by simp [intOf]; omega⟩
          · obtain rfl : m = k := by omega
            have HND2 := Lib.hid (nodup_step hlt' HND.out fun j hj hjk => by rw [HId.out]; simpa using HA2.out j (by simpa using hj) hjk)
            go_wp2
            exact ⟨⟨m + 1, by omega, by go_num, HO.out, HND2.out, HB.out⟩, by simp [intOf]; omega⟩
      · have HF := Lib.hid (HBk.out (by rw [← Bool.not_eq_true, HI.out]; exact hok))
        have HN := Lib.hid hok; clear hok
        go_wp2_with (go_at_call 24; refine (HT.out _).mono ?_; rintro e w2 ⟨rfl, hb⟩; replace HB := Lib.hid (HB.out.trans (hb.mono HB.out.size)); replace g0 := keepE g0 hb; replace g1 := keepE g1 hb; replace g2 := keepE g2 hb; replace g3 := keepE g3 hb; clear hb)
        all_goals first | (go_ret; exact ⟨ret_bool HF.out.symm, HB.out⟩) | (exfalso; apply HN.out; omega)
    · obtain rfl : k = l.length := by omega
      have HF := Lib.hid (HDone.out ⟨hl1, hl2⟩ (by have := HA.out; rwa [List.take_length] at this) (by have := HND.out; rwa [List.take_of_length_le (by simp)] at this))
      go_wp2
      go_ret
      exact ⟨ret_bool HF.out.symm, HB.out⟩
open Go.RowKit Go.Sort

theorem rin_any (n lo hi : Int) (w : World) : Calls Tryz.prog 182 #[.int .i64 n, .int .i64 lo, .int .i64 hi] w fun e w' => e = .returned (.bool (inB n lo hi)) ∧ w = w' := by
  go_enter Tryz.func182, Tryz.ntmps182
  go_wp2
  all_goals (go_ret; exact ⟨by simp [inB, *] <;> omega, rfl⟩)
set_option maxHeartbeats 400000 in
theorem RValid_any (s a o : Int) (w : World) : Calls Tryz.prog 161 #[.agg #[.int .i64 s, .int .i64 a, .int .i64 o]] w fun e w' => e = .returned (.bool (vldB s a o)) ∧ Below w.heap.size w w' := by
  go_enter Tryz.func161, Tryz.ntmps161
  go_wp2_with ((go_at_call 182; refine (rin_any _ _ _ _).mono ?_; rintro e w' ⟨rfl, rfl⟩))
  all_goals (go_ret; refine ⟨?_, (Below.refl _ _).alloc (Nat.le_refl _) _⟩; simp_all [vldB])
theorem natural_any (s : Int) (w : World) (h0 : -1000 ≤ s) (h1 : s ≤ 1000) : Calls Tryz.prog 183 #[.int .i64 s] w fun e w' => e = .returned (.int .i64 (natI s)) ∧ w = w' := by
  go_enter Tryz.func183, Tryz.ntmps183
  go_wp2
  all_goals (go_ret; exact ⟨ret_int (by unfold natI; split <;> omega), rfl⟩)
set_option maxHeartbeats 1000000 in
theorem Sound_any (s a o : Int) (w : World) (h0 : 0 ≤ s) (h1 : s ≤ 6) (h2 : -1000 ≤ o) (h3 : o ≤ 1000) (h4 : -1000 ≤ a) (h5 : a ≤ 1000) : Calls Tryz.prog 162 #[.agg #[.int .i64 s, .int .i64 a, .int .i64 o]] w fun e w' => e = .returned (.int .i64 (12 * o + natI s + a)) ∧ Below w.heap.size w w' := by
  obtain ⟨hn0, hn1⟩ := natI_bd s h0 h1
  go_enter Tryz.func162, Tryz.ntmps162
  go_wp2
  have HX := Lib.hid (heap_alloc_new w (.cells #[.int .i64 s, .int .i64 a, .int .i64 o] 62))
  have HB := Lib.hid ((Below.refl w.heap.size w).alloc (Nat.le_refl _) (.cells #[.int .i64 s, .int .i64 a, .int .i64 o] 62))
  generalize w.alloc (.cells #[.int .i64 s, .int .i64 a, .int .i64 o] 62) = W at *
  have g0 := cell_regrown (cells3 HX.out).1
  have g1 := cell_regrown (cells3 HX.out).2.1
  have g2 := cell_regrown (cells3 HX.out).2.2
  refine wp_quietB (by kernel_rfl) (by kernel_rfl) ?_
  repeat (go_big_quiet_step (first | (go_at_call 183; exact Calls.regrown (natural_any _ _ (by omega) (by omega)))))
  refine wpQuiet_nil ?_
  intro w2 hb
  replace HB := Lib.hid (HB.out.trans (hb.mono HB.out.size)); clear hb g0 g1 g2
  go_wp2
  go_ret
  exact ⟨rfl, HB.out⟩
open Go.RowKit Go.Sort

theorem r7in_any (n lo hi : Int) (w : World) : Calls Tryz.prog 166 #[.int .i64 n, .int .i64 lo, .int .i64 hi] w fun e w' => e = .returned (.bool (inB n lo hi)) ∧ w = w' := by
  go_enter Tryz.func166, Tryz.ntmps166
  go_wp2
  all_goals (go_ret; exact ⟨by simp [inB, *] <;> omega, rfl⟩)
set_option maxRecDepth 100000 in
set_option maxHeartbeats 4000000 in
theorem RBar_any (a : Option Addr) (cap : Nat) (l : List Ba) (id : Int) (w : World) (hl : l.length ≤ 100000) (hm : BaAt w a l) :
    Calls Tryz.prog 164 #[.slice a l.length cap, .int .i64 id] w fun e w' => e = .returned (.int .i64 (idxO (fun x => x.id == id) l)) ∧ w = w' := by
  have HM := Lib.hid hm; clear hm
  go_enter Tryz.func164, Tryz.ntmps164
  go_wp2
  go_loopw [5] (fun i wr => ∃ k : Nat, k ≤ l.length ∧ i = .int .i64 k ∧ (∀ j (hj : j < l.length), j < k → (l[j].id == id) = false) ∧ w = wr) (fun i _ => l.length - (intOf i).toNat)
  case atStart => exact ⟨0, Nat.zero_le _, rfl, fun j hj h => by omega, rfl⟩
  case round =>
    obtain ⟨k, hk, rfl, hall, rfl⟩ := hrel
    have HA := Lib.hid hall; clear hall
    by_cases hlt : k < l.length
    · obtain ⟨b, off, rfl, _, c0, c1, c2, c3⟩ := HM.out.get k hlt
      clear c1 c2 c3
      have HT := Lib.hid (fun h : (l[k].id == id) = true => idxO_hit (p := fun x : Ba => x.id == id) hlt h HA.out)
      have HF := Lib.hid (fun h : (l[k].id == id) = false => (fun j (hj : j < l.length) (hjk : j < k + 1) => if e : j = k then by subst e; exact h else HA.out j hj (by omega) : ∀ j (hj : j < l.length), j < k + 1 → (l[j].id == id) = false))
      generalize l[k].id = x at *
      by_cases hx : x = id
      · have HT2 := Lib.hid (HT.out (by simpa using hx))
        subst hx
        go_wp2
        go_ret
        exact ⟨ret_int HT2.out.symm, rfl⟩
      · have HF2 := Lib.hid (HF.out (by simpa using hx))
        go_wp2
        exact ⟨⟨k + 1, by omega, by go_num, HF2.out, trivial⟩, by simp [intOf]; omega⟩
    · have HT2 := Lib.hid (idxO_miss (p := fun x : Ba => x.id == id) (l := l) fun j hj => HA.out j hj (by omega))
      go_wp2
      go_ret
      exact ⟨ret_int HT2.out.symm, rfl⟩
set_option maxRecDepth 100000 in
set_option maxHeartbeats 4000000 in
theorem RPartAt_any (a : Option Addr) (cap : Nat) (l : List Pa) (id : Int) (w : World) (hl : l.length ≤ 100000) (hm : PaAt w a l) :
    Calls Tryz.prog 114 #[.slice a l.length cap, .int .i64 id] w fun e w' => e = .returned (.int .i64 (idxO (fun x => x.id == id) l)) ∧ w = w' := by
  have HM := Lib.hid hm; clear hm
  go_enter Tryz.func114, Tryz.ntmps114
  go_wp2
  go_loopw [5] (fun i wr => ∃ k : Nat, k ≤ l.length ∧ i = .int .i64 k ∧ (∀ j (hj : j < l.length), j < k → (l[j].id == id) = false) ∧ w = wr) (fun i _ => l.length - (intOf i).toNat)
  case atStart => exact ⟨0, Nat.zero_le _, rfl, fun j hj h => by omega, rfl⟩
  case round =>
    obtain ⟨k, hk, rfl, hall, rfl⟩ := hrel
    have HA := Lib.hid hall; clear hall
    by_cases hlt : k < l.length
    · obtain ⟨b, off, rfl, _, c0, c1, c2, c3, c4, c5, c6, c7, c8, c9, c10, c11, c12⟩ := HM.out.get k hlt
      clear c1 c2 c3 c4 c5 c6 c7 c8 c9 c10 c11 c12
      have HT := Lib.hid (fun h : (l[k].id == id) = true => idxO_hit (p := fun x : Pa => x.id == id) hlt h HA.out)
      have HF := Lib.hid (fun h : (l[k].id == id) = false => (fun j (hj : j < l.length) (hjk : j < k + 1) => if e : j = k then by subst e; exact h else HA.out j hj (by omega) : ∀ j (hj : j < l.length), j < k + 1 → (l[j].id == id) = false))
      generalize l[k].id = x at *
      by_cases hx : x = id
      · have HT2 := Lib.hid (HT.out (by simpa using hx))
        subst hx
        go_wp2
        go_ret
        exact ⟨ret_int HT2.out.symm, rfl⟩
      · have HF2 := Lib.hid (HF.out (by simpa using hx))
        go_wp2
        exact ⟨⟨k + 1, by omega, by go_num, HF2.out, trivial⟩, by simp [intOf]; omega⟩
    · have HT2 := Lib.hid (idxO_miss (p := fun x : Pa => x.id == id) (l := l) fun j hj => HA.out j hj (by omega))
      go_wp2
      go_ret
      exact ⟨ret_int HT2.out.symm, rfl⟩
theorem barAt_idx (bars : List Ba) (id : Int) : idxO (fun x => x.id == id) bars = barAt bars id := rfl
set_option maxHeartbeats 1000000 in
theorem RIsNote_any (s a o : Int) (w : World) : Calls Tryz.prog 165 #[.agg #[.int .i64 s, .int .i64 a, .int .i64 o]] w fun e w' => e = .returned (.bool (isNoteP ⟨s, a, o⟩)) ∧ Below w.heap.size w w' := by
  have HD := Lib.hid (show isNoteP ⟨s, a, o⟩ = (vldB s a o && inB a (-2) 2 && inB o 0 9) from rfl)
  generalize isNoteP ⟨s, a, o⟩ = R at *
  go_enter Tryz.func165, Tryz.ntmps165
  go_wp2_with (first | (go_at_call 161; refine (RValid_any _ _ _ _).mono ?_; generalize vldB s a o = b1 at *; rintro e w2 ⟨rfl, hb⟩; have x1 := box_below hb; have HB := Lib.hid (allocB hb); have hc := box_cells x1; clear hb x1) | (go_at_call 182; refine (rin_any _ _ _ _).mono ?_; rintro e w' ⟨rfl, rfl⟩))
  all_goals (go_ret; exact ⟨ret_bool (by rw [HD.out]; simp [*]), HB.out⟩)
theorem barAt_some {bars : List Ba} {id : Int} {i : Nat} (h : bars.findIdx? (fun b => b.id == id) = some i) : barAt bars id = i := by simp [barAt, h]
theorem barAt_none {bars : List Ba} {id : Int} (h : bars.findIdx? (fun b => b.id == id) = none) : barAt bars id = -1 := by simp [barAt, h]
theorem tI_bd (r : Rt) : -1 ≤ ticksI r ∧ ticksI r ≤ 1680000000000 := by
  unfold ticksI
  split
  · rename_i h
    have := ticks_nonneg h
    rw [ticksI, if_pos h] at this; omega
  · omega
set_option maxRecDepth 100000 in
set_option maxHeartbeats 8000000 in
theorem RNote_any (a : Option Addr) (cap : Nat) (bars : List Ba) (n : No) (w : World) (hl : bars.length ≤ 100000) (hm : BaAt w a bars) :
    Calls Tryz.prog 126 #[.slice a bars.length cap, .agg #[.int .i64 n.id, .int .i64 n.part, .int .i64 n.bar, .int .i64 n.voice, .int .i64 n.ossia, .int .i64 n.start.n, .int .i64 n.start.d, .int .i64 n.len.n, .int .i64 n.len.d, .int .i64 n.pitch.s, .int .i64 n.pitch.a, .int .i64 n.pitch.o]] w fun e w' => e = .returned (.bool (noteOk bars n)) ∧ Below w.heap.size w w' := by
  have HBar := Lib.hid (fun W (hb : Below w.heap.size w W) => RBar_any a cap bars n.bar W hl (hm.below hb))
  rw [barAt_idx] at HBar
  have HX1 := Lib.hid (heap_alloc_new w (.cells #[.int .i64 n.id, .int .i64 n.part, .int .i64 n.bar, .int .i64 n.voice, .int .i64 n.ossia, .int .i64 n.start.n, .int .i64 n.start.d, .int .i64 n.len.n, .int .i64 n.len.d, .int .i64 n.pitch.s, .int .i64 n.pitch.a, .int .i64 n.pitch.o] 128))
  have HB := Lib.hid ((Below.refl w.heap.size w).alloc (Nat.le_refl _) (.cells #[.int .i64 n.id, .int .i64 n.part, .int .i64 n.bar, .int .i64 n.voice, .int .i64 n.ossia, .int .i64 n.start.n, .int .i64 n.start.d, .int .i64 n.len.n, .int .i64 n.len.d, .int .i64 n.pitch.s, .int .i64 n.pitch.a, .int .i64 n.pitch.o] 128))
  cases hf : bars.findIdx? (fun b => b.id == n.bar) with
  | none =>
    have HR := Lib.hid (noteOk_none hf)
    rw [barAt_none hf] at HBar
    clear hf hm
    generalize noteOk bars n = R at *
    generalize hE7 : isNoteP n.pitch = P at *; have E7 := Lib.hid (show isNoteP ⟨n.pitch.s, n.pitch.a, n.pitch.o⟩ = P from hE7); clear hE7
    go_enter Tryz.func126, Tryz.ntmps126
    go_upto_region 1 with (fail)
    generalize w.alloc (.cells #[.int .i64 n.id, .int .i64 n.part, .int .i64 n.bar, .int .i64 n.voice, .int .i64 n.ossia, .int .i64 n.start.n, .int .i64 n.start.d, .int .i64 n.len.n, .int .i64 n.len.d, .int .i64 n.pitch.s, .int .i64 n.pitch.a, .int .i64 n.pitch.o] 128) = W at *
    have hc1 := box_cells HX1.out
    go_wp2_with (first | (go_at_call 164; refine (HBar.out _ HB.out).mono ?_; rintro e w' ⟨rfl, rfl⟩) | (go_at_call 165; refine (RIsNote_any _ _ _ _).mono ?_; rw [E7.out]; rintro e w2 ⟨rfl, hb⟩; (try replace hb := drewB hb); replace HB := Lib.hid (HB.out.trans (hb.mono HB.out.size)); (try (replace HX1 := Lib.hid (blk_keep HX1.out hb); replace hc1 := box_cells HX1.out; replace hf1 := box_free HX1.out; replace hz1 := lt_blk HX1.out)); clear hb))
    go_ret
    exact ⟨ret_bool HR.out.symm, HB.out⟩
  | some i =>
    obtain ⟨hi, he⟩ := noteOk_at hf
    rw [barAt_some hf] at HBar
    obtain ⟨b, off, hqa, hbl, c0, c1, c2, c3⟩ := hm.get i hi
    have HR := Lib.hid (he.trans (show noteIn bars[i] n = (isNoteP n.pitch && isID n.id && isID n.part && inB n.voice 0 9 && inB n.ossia 0 20 && decide (0 ≤ ticksI n.start) && decide (0 < ticksI n.len) && decide (ticksI n.start + ticksI n.len ≤ ticksI bars[i].len)) from rfl))
    clear he hf hm c0 c3
    obtain ⟨s1, s2⟩ := tI_bd n.start; obtain ⟨l1, l2⟩ := tI_bd n.len; obtain ⟨m1, m2⟩ := tI_bd bars[i].len
    generalize bars[i] = B at *
    generalize noteOk bars n = R at *
    obtain ⟨bid, ⟨bn, bd⟩, bk⟩ := B
    obtain ⟨nid, npart, nbar, nvoice, nossia, ⟨sn, sd⟩, ⟨ln, ld⟩, ⟨ps, pa, po⟩⟩ := n
    simp only [isID] at *
    generalize hE1 : ticksI ⟨sn, sd⟩ = S at *; have E1 := Lib.hid hE1; clear hE1
    generalize hE2 : ticksI ⟨ln, ld⟩ = L at *; have E2 := Lib.hid hE2; clear hE2
    generalize hE3 : ticksI ⟨bn, bd⟩ = M at *; have E3 := Lib.hid hE3; clear hE3
    generalize hE7 : isNoteP ⟨ps, pa, po⟩ = P at *; have E7 := Lib.hid hE7; clear hE7
    generalize hE8 : inB nid 1 1000000 = b1 at *; have E8 := Lib.hid hE8; clear hE8
    generalize hE9 : inB npart 1 1000000 = b2 at *; have E9 := Lib.hid hE9; clear hE9
    generalize hE10 : inB nvoice 0 9 = b3 at *; have E10 := Lib.hid hE10; clear hE10
    generalize hE11 : inB nossia 0 20 = b4 at *; have E11 := Lib.hid hE11; clear hE11
    subst hqa
    have g1 := c1; have g2 := c2
    have HG1 := Lib.hid c1; have HG2 := Lib.hid c2; clear c1 c2 g1 g2
    go_enter Tryz.func126, Tryz.ntmps126
    go_upto_region 1 with (fail)
    generalize w.alloc (.cells #[.int .i64 (⟨nid, npart, nbar, nvoice, nossia, ⟨sn, sd⟩, ⟨ln, ld⟩, ⟨ps, pa, po⟩⟩ : No).id, .int .i64 (⟨nid, npart, nbar, nvoice, nossia, ⟨sn, sd⟩, ⟨ln, ld⟩, ⟨ps, pa, po⟩⟩ : No).part, .int .i64 (⟨nid, npart, nbar, nvoice, nossia, ⟨sn, sd⟩, ⟨ln, ld⟩, ⟨ps, pa, po⟩⟩ : No).bar, .int .i64 (⟨nid, npart, nbar, nvoice, nossia, ⟨sn, sd⟩, ⟨ln, ld⟩, ⟨ps, pa, po⟩⟩ : No).voice, .int .i64 (⟨nid, npart, nbar, nvoice, nossia, ⟨sn, sd⟩, ⟨ln, ld⟩, ⟨ps, pa, po⟩⟩ : No).ossia, .int .i64 (⟨nid, npart, nbar, nvoice, nossia, ⟨sn, sd⟩, ⟨ln, ld⟩, ⟨ps, pa, po⟩⟩ : No).start.n, .int .i64 (⟨nid, npart, nbar, nvoice, nossia, ⟨sn, sd⟩, ⟨ln, ld⟩, ⟨ps, pa, po⟩⟩ : No).start.d, .int .i64 (⟨nid, npart, nbar, nvoice, nossia, ⟨sn, sd⟩, ⟨ln, ld⟩, ⟨ps, pa, po⟩⟩ : No).len.n, .int .i64 (⟨nid, npart, nbar, nvoice, nossia, ⟨sn, sd⟩, ⟨ln, ld⟩, ⟨ps, pa, po⟩⟩ : No).len.d, .int .i64 (⟨nid, npart, nbar, nvoice, nossia, ⟨sn, sd⟩, ⟨ln, ld⟩, ⟨ps, pa, po⟩⟩ : No).pitch.s, .int .i64 (⟨nid, npart, nbar, nvoice, nossia, ⟨sn, sd⟩, ⟨ln, ld⟩, ⟨ps, pa, po⟩⟩ : No).pitch.a, .int .i64 (⟨nid, npart, nbar, nvoice, nossia, ⟨sn, sd⟩, ⟨ln, ld⟩, ⟨ps, pa, po⟩⟩ : No).pitch.o] 128) = W at *
    have hc1 := box_cells HX1.out
    have g1 := keepE HG1.out HB.out; have g2 := keepE HG2.out HB.out
    cases P
    · (go_wp2_with (first | (go_at_call 164; refine (HBar.out _ HB.out).mono ?_; rintro e w' ⟨rfl, rfl⟩) | (go_at_call 165; refine (RIsNote_any _ _ _ _).mono ?_; rw [E7.out]; rintro e w2 ⟨rfl, hb⟩; (try replace hb := drewB hb); replace HB := Lib.hid (HB.out.trans (hb.mono HB.out.size)); (try (replace HX1 := Lib.hid (blk_keep HX1.out hb); replace hc1 := box_cells HX1.out; replace hf1 := box_free HX1.out; replace hz1 := lt_blk HX1.out)); clear hb; clear g1 g2; have g1 := keepE HG1.out HB.out; have g2 := keepE HG2.out HB.out) | (go_at_call 166; refine (r7in_any _ _ _ _).mono ?_; (first | rw [E8.out] | rw [E9.out] | rw [E10.out] | rw [E11.out]); rintro e w' ⟨rfl, rfl⟩) | (go_at_call 24; refine (RTicks_any _ _ _).mono ?_; (first | rw [E1.out] | rw [E2.out] | rw [E3.out]); rintro e w2 ⟨rfl, hb⟩; (try replace hb := drewB hb); replace HB := Lib.hid (HB.out.trans (hb.mono HB.out.size)); (try (replace HX1 := Lib.hid (blk_keep HX1.out hb); replace hc1 := box_cells HX1.out; replace hf1 := box_free HX1.out; replace hz1 := lt_blk HX1.out)); clear hb; clear g1 g2; have g1 := keepE HG1.out HB.out; have g2 := keepE HG2.out HB.out)); go_ret; exact ⟨ret_bool (by rw [HR.out]; (first | rfl | (simp; done) | (simp; intros; omega))), HB.out⟩)
    cases b1
    · (go_wp2_with (first | (go_at_call 164; refine (HBar.out _ HB.out).mono ?_; rintro e w' ⟨rfl, rfl⟩) | (go_at_call 165; refine (RIsNote_any _ _ _ _).mono ?_; rw [E7.out]; rintro e w2 ⟨rfl, hb⟩; (try replace hb := drewB hb); replace HB := Lib.hid (HB.out.trans (hb.mono HB.out.size)); (try (replace HX1 := Lib.hid (blk_keep HX1.out hb); replace hc1 := box_cells HX1.out; replace hf1 := box_free HX1.out; replace hz1 := lt_blk HX1.out)); clear hb; clear g1 g2; have g1 := keepE HG1.out HB.out; have g2 := keepE HG2.out HB.out) | (go_at_call 166; refine (r7in_any _ _ _ _).mono ?_; (first | rw [E8.out] | rw [E9.out] | rw [E10.out] | rw [E11.out]); rintro e w' ⟨rfl, rfl⟩) | (go_at_call 24; refine (RTicks_any _ _ _).mono ?_; (first | rw [E1.out] | rw [E2.out] | rw [E3.out]); rintro e w2 ⟨rfl, hb⟩; (try replace hb := drewB hb); replace HB := Lib.hid (HB.out.trans (hb.mono HB.out.size)); (try (replace HX1 := Lib.hid (blk_keep HX1.out hb); replace hc1 := box_cells HX1.out; replace hf1 := box_free HX1.out; replace hz1 := lt_blk HX1.out)); clear hb; clear g1 g2; have g1 := keepE HG1.out HB.out; have g2 := keepE HG2.out HB.out)); go_ret; exact ⟨ret_bool (by rw [HR.out]; (first | rfl | (simp; done) | (simp; intros; omega))), HB.out⟩)
    cases b2
    · (go_wp2_with (first | (go_at_call 164; refine (HBar.out _ HB.out).mono ?_; rintro e w' ⟨rfl, rfl⟩) | (go_at_call 165; refine (RIsNote_any _ _ _ _).mono ?_; rw [E7.out]; rintro e w2 ⟨rfl, hb⟩; (try replace hb := drewB hb); replace HB := Lib.hid (HB.out.trans (hb.mono HB.out.size)); (try (replace HX1 := Lib.hid (blk_keep HX1.out hb); replace hc1 := box_cells HX1.out; replace hf1 := box_free HX1.out; replace hz1 := lt_blk HX1.out)); clear hb; clear g1 g2; have g1 := keepE HG1.out HB.out; have g2 := keepE HG2.out HB.out) | (go_at_call 166; refine (r7in_any _ _ _ _).mono ?_; (first | rw [E8.out] | rw [E9.out] | rw [E10.out] | rw [E11.out]); rintro e w' ⟨rfl, rfl⟩) | (go_at_call 24; refine (RTicks_any _ _ _).mono ?_; (first | rw [E1.out] | rw [E2.out] | rw [E3.out]); rintro e w2 ⟨rfl, hb⟩; (try replace hb := drewB hb); replace HB := Lib.hid (HB.out.trans (hb.mono HB.out.size)); (try (replace HX1 := Lib.hid (blk_keep HX1.out hb); replace hc1 := box_cells HX1.out; replace hf1 := box_free HX1.out; replace hz1 := lt_blk HX1.out)); clear hb; clear g1 g2; have g1 := keepE HG1.out HB.out; have g2 := keepE HG2.out HB.out)); go_ret; exact ⟨ret_bool (by rw [HR.out]; (first | rfl | (simp; done) | (simp; intros; omega))), HB.out⟩)
    cases b3
    · (go_wp2_with (first | (go_at_call 164; refine (HBar.out _ HB.out).mono ?_; rintro e w' ⟨rfl, rfl⟩) | (go_at_call 165; refine (RIsNote_any _ _ _ _).mono ?_; rw [E7.out]; rintro e w2 ⟨rfl, hb⟩; (try replace hb := drewB hb); replace HB := Lib.hid (HB.out.trans (hb.mono HB.out.size)); (try (replace HX1 := Lib.hid (blk_keep HX1.out hb); replace hc1 := box_cells HX1.out; replace hf1 := box_free HX1.out; replace hz1 := lt_blk HX1.out)); clear hb; clear g1 g2; have g1 := keepE HG1.out HB.out; have g2 := keepE HG2.out HB.out) | (go_at_call 166; refine (r7in_any _ _ _ _).mono ?_; (first | rw [E8.out] | rw [E9.out] | rw [E10.out] | rw [E11.out]); rintro e w' ⟨rfl, rfl⟩) | (go_at_call 24; refine (RTicks_any _ _ _).mono ?_; (first | rw [E1.out] | rw [E2.out] | rw [E3.out]); rintro e w2 ⟨rfl, hb⟩; (try replace hb := drewB hb); replace HB := Lib.hid (HB.out.trans (hb.mono HB.out.size)); (try (replace HX1 := Lib.hid (blk_keep HX1.out hb); replace hc1 := box_cells HX1.out; replace hf1 := box_free HX1.out; replace hz1 := lt_blk HX1.out)); clear hb; clear g1 g2; have g1 := keepE HG1.out HB.out; have g2 := keepE HG2.out HB.out)); go_ret; exact ⟨ret_bool (by rw [HR.out]; (first | rfl | (simp; done) | (simp; intros; omega))), HB.out⟩)
    cases b4
    · (go_wp2_with (first | (go_at_call 164; refine (HBar.out _ HB.out).mono ?_; rintro e w' ⟨rfl, rfl⟩) | (go_at_call 165; refine (RIsNote_any _ _ _ _).mono ?_; rw [E7.out]; rintro e w2 ⟨rfl, hb⟩; (try replace hb := drewB hb); replace HB := Lib.hid (HB.out.trans (hb.mono HB.out.size)); (try (replace HX1 := Lib.hid (blk_keep HX1.out hb); replace hc1 := box_cells HX1.out; replace hf1 := box_free HX1.out; replace hz1 := lt_blk HX1.out)); clear hb; clear g1 g2; have g1 := keepE HG1.out HB.out; have g2 := keepE HG2.out HB.out) | (go_at_call 166; refine (r7in_any _ _ _ _).mono ?_; (first | rw [E8.out] | rw [E9.out] | rw [E10.out] | rw [E11.out]); rintro e w' ⟨rfl, rfl⟩) | (go_at_call 24; refine (RTicks_any _ _ _).mono ?_; (first | rw [E1.out] | rw [E2.out] | rw [E3.out]); rintro e w2 ⟨rfl, hb⟩; (try replace hb := drewB hb); replace HB := Lib.hid (HB.out.trans (hb.mono HB.out.size)); (try (replace HX1 := Lib.hid (blk_keep HX1.out hb); replace hc1 := box_cells HX1.out; replace hf1 := box_free HX1.out; replace hz1 := lt_blk HX1.out)); clear hb; clear g1 g2; have g1 := keepE HG1.out HB.out; have g2 := keepE HG2.out HB.out)); go_ret; exact ⟨ret_bool (by rw [HR.out]; (first | rfl | (simp; done) | (simp; intros; omega))), HB.out⟩)
    by_cases q1 : 0 ≤ S
    case neg => (go_wp2_with (first | (go_at_call 164; refine (HBar.out _ HB.out).mono ?_; rintro e w' ⟨rfl, rfl⟩) | (go_at_call 165; refine (RIsNote_any _ _ _ _).mono ?_; rw [E7.out]; rintro e w2 ⟨rfl, hb⟩; (try replace hb := drewB hb); replace HB := Lib.hid (HB.out.trans (hb.mono HB.out.size)); (try (replace HX1 := Lib.hid (blk_keep HX1.out hb); replace hc1 := box_cells HX1.out; replace hf1 := box_free HX1.out; replace hz1 := lt_blk HX1.out)); clear hb; clear g1 g2; have g1 := keepE HG1.out HB.out; have g2 := keepE HG2.out HB.out) | (go_at_call 166; refine (r7in_any _ _ _ _).mono ?_; (first | rw [E8.out] | rw [E9.out] | rw [E10.out] | rw [E11.out]); rintro e w' ⟨rfl, rfl⟩) | (go_at_call 24; refine (RTicks_any _ _ _).mono ?_; (first | rw [E1.out] | rw [E2.out] | rw [E3.out]); rintro e w2 ⟨rfl, hb⟩; (try replace hb := drewB hb); replace HB := Lib.hid (HB.out.trans (hb.mono HB.out.size)); (try (replace HX1 := Lib.hid (blk_keep HX1.out hb); replace hc1 := box_cells HX1.out; replace hf1 := box_free HX1.out; replace hz1 := lt_blk HX1.out)); clear hb; clear g1 g2; have g1 := keepE HG1.out HB.out; have g2 := keepE HG2.out HB.out)); go_ret; exact ⟨ret_bool (by rw [HR.out]; (first | rfl | (simp; done) | (simp; intros; omega))), HB.out⟩)
    by_cases q2 : 0 < L
    case neg => (go_wp2_with (first | (go_at_call 164; refine (HBar.out _ HB.out).mono ?_; rintro e w' ⟨rfl, rfl⟩) | (go_at_call 165; refine (RIsNote_any _ _ _ _).mono ?_; rw [E7.out]; rintro e w2 ⟨rfl, hb⟩; (try replace hb := drewB hb); replace HB := Lib.hid (HB.out.trans (hb.mono HB.out.size)); (try (replace HX1 := Lib.hid (blk_keep HX1.out hb); replace hc1 := box_cells HX1.out; replace hf1 := box_free HX1.out; replace hz1 := lt_blk HX1.out)); clear hb; clear g1 g2; have g1 := keepE HG1.out HB.out; have g2 := keepE HG2.out HB.out) | (go_at_call 166; refine (r7in_any _ _ _ _).mono ?_; (first | rw [E8.out] | rw [E9.out] | rw [E10.out] | rw [E11.out]); rintro e w' ⟨rfl, rfl⟩) | (go_at_call 24; refine (RTicks_any _ _ _).mono ?_; (first | rw [E1.out] | rw [E2.out] | rw [E3.out]); rintro e w2 ⟨rfl, hb⟩; (try replace hb := drewB hb); replace HB := Lib.hid (HB.out.trans (hb.mono HB.out.size)); (try (replace HX1 := Lib.hid (blk_keep HX1.out hb); replace hc1 := box_cells HX1.out; replace hf1 := box_free HX1.out; replace hz1 := lt_blk HX1.out)); clear hb; clear g1 g2; have g1 := keepE HG1.out HB.out; have g2 := keepE HG2.out HB.out)); go_ret; exact ⟨ret_bool (by rw [HR.out]; (first | rfl | (simp; done) | (simp; intros; omega))), HB.out⟩)
    by_cases q3 : S + L ≤ M
    · (go_wp2_with (first | (go_at_call 164; refine (HBar.out _ HB.out).mono ?_; rintro e w' ⟨rfl, rfl⟩) | (go_at_call 165; refine (RIsNote_any _ _ _ _).mono ?_; rw [E7.out]; rintro e w2 ⟨rfl, hb⟩; (try replace hb := drewB hb); replace HB := Lib.hid (HB.out.trans (hb.mono HB.out.size)); (try (replace HX1 := Lib.hid (blk_keep HX1.out hb); replace hc1 := box_cells HX1.out; replace hf1 := box_free HX1.out; replace hz1 := lt_blk HX1.out)); clear hb; clear g1 g2; have g1 := keepE HG1.out HB.out; have g2 := keepE HG2.out HB.out) | (go_at_call 166; refine (r7in_any _ _ _ _).mono ?_; (first | rw [E8.out] | rw [E9.out] | rw [E10.out] | rw [E11.out]); rintro e w' ⟨rfl, rfl⟩) | (go_at_call 24; refine (RTicks_any _ _ _).mono ?_; (first | rw [E1.out] | rw [E2.out] | rw [E3.out]); rintro e w2 ⟨rfl, hb⟩; (try replace hb := drewB hb); replace HB := Lib.hid (HB.out.trans (hb.mono HB.out.size)); (try (replace HX1 := Lib.hid (blk_keep HX1.out hb); replace hc1 := box_cells HX1.out; replace hf1 := box_free HX1.out; replace hz1 := lt_blk HX1.out)); clear hb; clear g1 g2; have g1 := keepE HG1.out HB.out; have g2 := keepE HG2.out HB.out)); go_ret; exact ⟨ret_bool (by rw [HR.out]; (first | rfl | (simp; done) | (simp; intros; omega))), HB.out⟩)
    · (go_wp2_with (first | (go_at_call 164; refine (HBar.out _ HB.out).mono ?_; rintro e w' ⟨rfl, rfl⟩) | (go_at_call 165; refine (RIsNote_any _ _ _ _).mono ?_; rw [E7.out]; rintro e w2 ⟨rfl, hb⟩; (try replace hb := drewB hb); replace HB := Lib.hid (HB.out.trans (hb.mono HB.out.size)); (try (replace HX1 := Lib.hid (blk_keep HX1.out hb); replace hc1 := box_cells HX1.out; replace hf1 := box_free HX1.out; replace hz1 := lt_blk HX1.out)); clear hb; clear g1 g2; have g1 := keepE HG1.out HB.out; have g2 := keepE HG2.out HB.out) | (go_at_call 166; refine (r7in_any _ _ _ _).mono ?_; (first | rw [E8.out] | rw [E9.out] | rw [E10.out] | rw [E11.out]); rintro e w' ⟨rfl, rfl⟩) | (go_at_call 24; refine (RTicks_any _ _ _).mono ?_; (first | rw [E1.out] | rw [E2.out] | rw [E3.out]); rintro e w2 ⟨rfl, hb⟩; (try replace hb := drewB hb); replace HB := Lib.hid (HB.out.trans (hb.mono HB.out.size)); (try (replace HX1 := Lib.hid (blk_keep HX1.out hb); replace hc1 := box_cells HX1.out; replace hf1 := box_free HX1.out; replace hz1 := lt_blk HX1.out)); clear hb; clear g1 g2; have g1 := keepE HG1.out HB.out; have g2 := keepE HG2.out HB.out)); go_ret; exact ⟨ret_bool (by rw [HR.out]; (first | rfl | (simp; done) | (simp; intros; omega))), HB.out⟩)
open Go.RowKit Go.Sort

theorem r3in_any (n lo hi : Int) (w : World) : Calls Tryz.prog 218 #[.int .i64 n, .int .i64 lo, .int .i64 hi] w fun e w' => e = .returned (.bool (inB n lo hi)) ∧ w = w' := by
  go_enter Tryz.func218, Tryz.ntmps218
  go_wp2
  all_goals (go_ret; exact ⟨by simp [inB, *] <;> omega, rfl⟩)
set_option maxHeartbeats 400000 in
theorem r3Int_any (x y : Int) (w : World) : Calls Tryz.prog 206 #[.agg #[.int .i64 x, .int .i64 y]] w fun e w' => e = .returned (.bool (frmB x y)) ∧ Below w.heap.size w w' := by
  go_enter Tryz.func206, Tryz.ntmps206
  go_wp2_with ((go_at_call 218; refine (r3in_any _ _ _ _).mono ?_; rintro e w' ⟨rfl, rfl⟩))
  all_goals (go_ret; refine ⟨?_, (Below.refl _ _).alloc (Nat.le_refl _) _⟩; simp_all [frmB])
set_option maxHeartbeats 1000000 in
theorem r3Fif_any (x y : Int) (w : World) : Calls Tryz.prog 184 #[.agg #[.int .i64 x, .int .i64 y]] w fun e w' => e = .returned (.tuple #[.int .i64 (fifR x y).1, .int .i64 (fifR x y).2]) ∧ Below w.heap.size w w' := by
  cases hv : frmB x y
  · rw [show fifR x y = (0, 1) by simp [fifR, hv]]
    go_enter Tryz.func184, Tryz.ntmps184
    go_wp2_with (go_at_call 206; refine (r3Int_any _ _ _).mono ?_; rw [hv]; rintro e w2 ⟨rfl, hb⟩; have HB := Lib.hid (allocB hb); clear hb)
    go_ret2
    exact ⟨rfl, HB.out⟩
  · rw [show fifR x y = (7 * y - 12 * x, 0) by simp [fifR, hv]]
    obtain ⟨⟨p1, p2⟩, p3, p4⟩ := (frm_iff x y).1 hv
    have e1 : IntKind.i64.wrap (7 * y) = 7 * y := IntWalk.i64_in _ (by omega)
    have e2 : IntKind.i64.wrap (12 * x) = 12 * x := IntWalk.i64_in _ (by omega)
    have e3 : IntKind.i64.wrap (7 * y - 12 * x) = 7 * y - 12 * x := IntWalk.i64_in _ (by omega)
    go_enter Tryz.func184, Tryz.ntmps184
    go_wp2_with (go_at_call 206; refine (r3Int_any _ _ _).mono ?_; rw [hv]; rintro e w2 ⟨rfl, hb⟩; have x1 := box_below hb; have HB := Lib.hid (allocB hb); have hc := box_cells x1; clear hb x1)
    go_ret2
    exact ⟨rfl, HB.out⟩
open Go.RowKit Go.Sort

theorem r8in_any (n lo hi : Int) (w : World) : Calls Tryz.prog 79 #[.int .i64 n, .int .i64 lo, .int .i64 hi] w fun e w' => e = .returned (.bool (inB n lo hi)) ∧ w = w' := by
  go_enter Tryz.func79, Tryz.ntmps79
  go_wp2
  all_goals (go_ret; exact ⟨by simp [inB, *] <;> omega, rfl⟩)
set_option maxHeartbeats 1000000 in
theorem RShift_any (x y : Int) (w : World) : Calls Tryz.prog 163 #[.agg #[.int .i64 x, .int .i64 y]] w fun e w' => e = .returned (.bool (shiftB ⟨x, y⟩)) ∧ Below w.heap.size w w' := by
  have HR := Lib.hid (show shiftB ⟨x, y⟩ = (inB x (-21) 21 && inB y (-36) 36 && inB (7 * y - 12 * x) (-12) 12) from rfl)
  have HFr := Lib.hid (show frmB x y = false → shiftB ⟨x, y⟩ = false from fun h => by
    rw [← Bool.not_eq_true]
    intro hs
    have := shift_frm hs
    rw [show frmI ⟨x, y⟩ = frmB x y from rfl, h] at this; cases this)
  generalize shiftB ⟨x, y⟩ = R at *
  cases hf : frmB x y
  · have HF := Lib.hid (HFr.out hf)
    have HC := Lib.hid (show fifR x y = (0, 1) by simp [fifR, hf])
    go_enter Tryz.func163, Tryz.ntmps163
    go_wp2_with (first | (go_at_call 184; refine (r3Fif_any _ _ _).mono ?_; rw [HC.out]; rintro e w2 ⟨rfl, hb⟩; have x1 := box_below hb; have HB := Lib.hid (allocB hb); have hc := box_cells x1; clear hb x1) | (go_at_call 79; refine (r8in_any _ _ _ _).mono ?_; rintro e w' ⟨rfl, rfl⟩))
    go_ret
    exact ⟨ret_bool HF.out.symm, HB.out⟩
  · have HC := Lib.hid (show fifR x y = (7 * y - 12 * x, 0) by simp [fifR, hf])
    generalize 7 * y - 12 * x = F at *
    generalize hE1 : inB x (-21) 21 = b1 at *; have E1 := Lib.hid hE1; clear hE1
    generalize hE2 : inB y (-36) 36 = b2 at *; have E2 := Lib.hid hE2; clear hE2
    generalize hE3 : inB F (-12) 12 = b3 at *; have E3 := Lib.hid hE3; clear hE3
    clear hf
    go_enter Tryz.func163, Tryz.ntmps163
    go_wp2_with (first | (go_at_call 184; refine (r3Fif_any _ _ _).mono ?_; rw [HC.out]; rintro e w2 ⟨rfl, hb⟩; have x1 := box_below hb; have HB := Lib.hid (allocB hb); have hc := box_cells x1; clear hb x1) | (go_at_call 79; refine (r8in_any _ _ _ _).mono ?_; (first | rw [E1.out] | rw [E2.out] | rw [E3.out]); rintro e w' ⟨rfl, rfl⟩))
    all_goals (go_ret; exact ⟨ret_bool (by rw [HR.out]; simp [*]), HB.out⟩)
set_option maxRecDepth 100000 in
set_option maxHeartbeats 8000000 in
theorem RPart1_any (p : Pa) (w : World) : Calls Tryz.prog 125 #[.agg #[.int .i64 p.id, .int .i64 p.section_, .int .i64 p.of, .int .i64 p.octave, .int .i64 p.desks, .int .i64 p.shift.x, .int .i64 p.shift.y, .int .i64 p.low.s, .int .i64 p.low.a, .int .i64 p.low.o, .int .i64 p.high.s, .int .i64 p.high.a, .int .i64 p.high.o]] w fun e w' => e = .returned (.bool (partOk p)) ∧ Below w.heap.size w w' := by
  have HX1 := Lib.hid (heap_alloc_new w (.cells #[.int .i64 p.id, .int .i64 p.section_, .int .i64 p.of, .int .i64 p.octave, .int .i64 p.desks, .int .i64 p.shift.x, .int .i64 p.shift.y, .int .i64 p.low.s, .int .i64 p.low.a, .int .i64 p.low.o, .int .i64 p.high.s, .int .i64 p.high.a, .int .i64 p.high.o] 93))
  have HB := Lib.hid ((Below.refl w.heap.size w).alloc (Nat.le_refl _) (.cells #[.int .i64 p.id, .int .i64 p.section_, .int .i64 p.of, .int .i64 p.octave, .int .i64 p.desks, .int .i64 p.shift.x, .int .i64 p.shift.y, .int .i64 p.low.s, .int .i64 p.low.a, .int .i64 p.low.o, .int .i64 p.high.s, .int .i64 p.high.a, .int .i64 p.high.o] 93))
  have HR0 := Lib.hid (show partOk p = (inB p.id 1 1000000 && inB p.section_ 0 99 && inB p.of 0 1000000 && inB p.octave (-2) 2 && inB p.desks 1 40 && shiftB p.shift && vldP p.low && vldP p.high && decide (p.of ≠ p.id) && (decide (p.of ≠ 0) || decide (p.octave = 0)) && decide (soundI p.low ≤ soundI p.high)) from rfl)
  have HS1 := Lib.hid (fun (h : vldP p.low = true) W => show Calls Tryz.prog 162 #[.agg #[.int .i64 p.low.s, .int .i64 p.low.a, .int .i64 p.low.o]] W fun e w' => e = .returned (.int .i64 (soundI p.low)) ∧ Below W.heap.size W w' from by
    obtain ⟨⟨p1, p2⟩, ⟨p3, p4⟩, p5, p6⟩ := (vldP_iff _).1 h
    exact Sound_any _ _ _ W p1 p2 (by omega) (by omega) (by omega) (by omega))
  have HS2 := Lib.hid (fun (h : vldP p.high = true) W => show Calls Tryz.prog 162 #[.agg #[.int .i64 p.high.s, .int .i64 p.high.a, .int .i64 p.high.o]] W fun e w' => e = .returned (.int .i64 (soundI p.high)) ∧ Below W.heap.size W w' from by
    obtain ⟨⟨p1, p2⟩, ⟨p3, p4⟩, p5, p6⟩ := (vldP_iff _).1 h
    exact Sound_any _ _ _ W p1 p2 (by omega) (by omega) (by omega) (by omega))
  generalize partOk p = R at *
  generalize soundI p.low = n1 at *; generalize soundI p.high = n2 at *
  obtain ⟨id, sec, pof, oct, desks, ⟨x, y⟩, ⟨ls, la, lo⟩, ⟨hs, ha, ho⟩⟩ := p
  simp only at *
  generalize hE1 : inB id 1 1000000 = b1 at *; have E1 := Lib.hid hE1; clear hE1
  generalize hE2 : inB sec 0 99 = b2 at *; have E2 := Lib.hid hE2; clear hE2
  generalize hE3 : inB pof 0 1000000 = b3 at *; have E3 := Lib.hid hE3; clear hE3
  generalize hE4 : inB oct (-2) 2 = b4 at *; have E4 := Lib.hid hE4; clear hE4
  generalize hE5 : inB desks 1 40 = b5 at *; have E5 := Lib.hid hE5; clear hE5
  generalize hE6 : shiftB ⟨x, y⟩ = b6 at *; have E6 := Lib.hid hE6; clear hE6
  generalize hE7 : vldP ⟨ls, la, lo⟩ = b7 at *; have E7 := Lib.hid (show vldB ls la lo = b7 from hE7); clear hE7
  generalize hE8 : vldP ⟨hs, ha, ho⟩ = b8 at *; have E8 := Lib.hid (show vldB hs ha ho = b8 from hE8); clear hE8
  have HR := HR0; clear HR0
  go_enter Tryz.func125, Tryz.ntmps125
  go_upto_region 1 with (fail)
  generalize w.alloc (.cells #[.int .i64 (⟨id, sec, pof, oct, desks, ⟨x, y⟩, ⟨ls, la, lo⟩, ⟨hs, ha, ho⟩⟩ : Pa).id, .int .i64 (⟨id, sec, pof, oct, desks, ⟨x, y⟩, ⟨ls, la, lo⟩, ⟨hs, ha, ho⟩⟩ : Pa).section_, .int .i64 (⟨id, sec, pof, oct, desks, ⟨x, y⟩, ⟨ls, la, lo⟩, ⟨hs, ha, ho⟩⟩ : Pa).of, .int .i64 (⟨id, sec, pof, oct, desks, ⟨x, y⟩, ⟨ls, la, lo⟩, ⟨hs, ha, ho⟩⟩ : Pa).octave, .int .i64 (⟨id, sec, pof, oct, desks, ⟨x, y⟩, ⟨ls, la, lo⟩, ⟨hs, ha, ho⟩⟩ : Pa).desks, .int .i64 (⟨id, sec, pof, oct, desks, ⟨x, y⟩, ⟨ls, la, lo⟩, ⟨hs, ha, ho⟩⟩ : Pa).shift.x, .int .i64 (⟨id, sec, pof, oct, desks, ⟨x, y⟩, ⟨ls, la, lo⟩, ⟨hs, ha, ho⟩⟩ : Pa).shift.y, .int .i64 (⟨id, sec, pof, oct, desks, ⟨x, y⟩, ⟨ls, la, lo⟩, ⟨hs, ha, ho⟩⟩ : Pa).low.s, .int .i64 (⟨id, sec, pof, oct, desks, ⟨x, y⟩, ⟨ls, la, lo⟩, ⟨hs, ha, ho⟩⟩ : Pa).low.a, .int .i64 (⟨id, sec, pof, oct, desks, ⟨x, y⟩, ⟨ls, la, lo⟩, ⟨hs, ha, ho⟩⟩ : Pa).low.o, .int .i64 (⟨id, sec, pof, oct, desks, ⟨x, y⟩, ⟨ls, la, lo⟩, ⟨hs, ha, ho⟩⟩ : Pa).high.s, .int .i64 (⟨id, sec, pof, oct, desks, ⟨x, y⟩, ⟨ls, la, lo⟩, ⟨hs, ha, ho⟩⟩ : Pa).high.a, .int .i64 (⟨id, sec, pof, oct, desks, ⟨x, y⟩, ⟨ls, la, lo⟩, ⟨hs, ha, ho⟩⟩ : Pa).high.o] 93) = W at *
  have hc1 := box_cells HX1.out
  cases b1
  · (go_wp2_with (first | (go_at_call 79; refine (r8in_any _ _ _ _).mono ?_; (first | rw [E1.out] | rw [E2.out] | rw [E3.out] | rw [E4.out] | rw [E5.out]); rintro e w' ⟨rfl, rfl⟩) | (go_at_call 163; refine (RShift_any _ _ _).mono ?_; rw [E6.out]; rintro e w2 ⟨rfl, hb⟩; (try replace hb := drewB hb); replace HB := Lib.hid (HB.out.trans (hb.mono HB.out.size)); (try (replace HX1 := Lib.hid (blk_keep HX1.out hb); replace hc1 := box_cells HX1.out; replace hf1 := box_free HX1.out; replace hz1 := lt_blk HX1.out)); clear hb) | (go_at_call 161; refine (RValid_any _ _ _ _).mono ?_; (first | rw [E7.out] | rw [E8.out]); rintro e w2 ⟨rfl, hb⟩; (try replace hb := drewB hb); replace HB := Lib.hid (HB.out.trans (hb.mono HB.out.size)); (try (replace HX1 := Lib.hid (blk_keep HX1.out hb); replace hc1 := box_cells HX1.out; replace hf1 := box_free HX1.out; replace hz1 := lt_blk HX1.out)); clear hb)); go_ret; exact ⟨ret_bool (by rw [HR.out]; simp), HB.out⟩)
  cases b2
  · (go_wp2_with (first | (go_at_call 79; refine (r8in_any _ _ _ _).mono ?_; (first | rw [E1.out] | rw [E2.out] | rw [E3.out] | rw [E4.out] | rw [E5.out]); rintro e w' ⟨rfl, rfl⟩) | (go_at_call 163; refine (RShift_any _ _ _).mono ?_; rw [E6.out]; rintro e w2 ⟨rfl, hb⟩; (try replace hb := drewB hb); replace HB := Lib.hid (HB.out.trans (hb.mono HB.out.size)); (try (replace HX1 := Lib.hid (blk_keep HX1.out hb); replace hc1 := box_cells HX1.out; replace hf1 := box_free HX1.out; replace hz1 := lt_blk HX1.out)); clear hb) | (go_at_call 161; refine (RValid_any _ _ _ _).mono ?_; (first | rw [E7.out] | rw [E8.out]); rintro e w2 ⟨rfl, hb⟩; (try replace hb := drewB hb); replace HB := Lib.hid (HB.out.trans (hb.mono HB.out.size)); (try (replace HX1 := Lib.hid (blk_keep HX1.out hb); replace hc1 := box_cells HX1.out; replace hf1 := box_free HX1.out; replace hz1 := lt_blk HX1.out)); clear hb)); go_ret; exact ⟨ret_bool (by rw [HR.out]; simp), HB.out⟩)
  cases b3
  · (go_wp2_with (first | (go_at_call 79; refine (r8in_any _ _ _ _).mono ?_; (first | rw [E1.out] | rw [E2.out] | rw [E3.out] | rw [E4.out] | rw [E5.out]); rintro e w' ⟨rfl, rfl⟩) | (go_at_call 163; refine (RShift_any _ _ _).mono ?_; rw [E6.out]; rintro e w2 ⟨rfl, hb⟩; (try replace hb := drewB hb); replace HB := Lib.hid (HB.out.trans (hb.mono HB.out.size)); (try (replace HX1 := Lib.hid (blk_keep HX1.out hb); replace hc1 := box_cells HX1.out; replace hf1 := box_free HX1.out; replace hz1 := lt_blk HX1.out)); clear hb) | (go_at_call 161; refine (RValid_any _ _ _ _).mono ?_; (first | rw [E7.out] | rw [E8.out]); rintro e w2 ⟨rfl, hb⟩; (try replace hb := drewB hb); replace HB := Lib.hid (HB.out.trans (hb.mono HB.out.size)); (try (replace HX1 := Lib.hid (blk_keep HX1.out hb); replace hc1 := box_cells HX1.out; replace hf1 := box_free HX1.out; replace hz1 := lt_blk HX1.out)); clear hb)); go_ret; exact ⟨ret_bool (by rw [HR.out]; simp), HB.out⟩)
  cases b4
  · (go_wp2_with (first | (go_at_call 79; refine (r8in_any _ _ _ _).mono ?_; (first | rw [E1.out] | rw [E2.out] | rw [E3.out] | rw [E4.out] | rw [E5.out]); rintro e w' ⟨rfl, rfl⟩) | (go_at_call 163; refine (RShift_any _ _ _).mono ?_; rw [E6.out]; rintro e w2 ⟨rfl, hb⟩; (try replace hb := drewB hb); replace HB := Lib.hid (HB.out.trans (hb.mono HB.out.size)); (try (replace HX1 := Lib.hid (blk_keep HX1.out hb); replace hc1 := box_cells HX1.out; replace hf1 := box_free HX1.out; replace hz1 := lt_blk HX1.out)); clear hb) | (go_at_call 161; refine (RValid_any _ _ _ _).mono ?_; (first | rw [E7.out] | rw [E8.out]); rintro e w2 ⟨rfl, hb⟩; (try replace hb := drewB hb); replace HB := Lib.hid (HB.out.trans (hb.mono HB.out.size)); (try (replace HX1 := Lib.hid (blk_keep HX1.out hb); replace hc1 := box_cells HX1.out; replace hf1 := box_free HX1.out; replace hz1 := lt_blk HX1.out)); clear hb)); go_ret; exact ⟨ret_bool (by rw [HR.out]; simp), HB.out⟩)
  cases b5
  · (go_wp2_with (first | (go_at_call 79; refine (r8in_any _ _ _ _).mono ?_; (first | rw [E1.out] | rw [E2.out] | rw [E3.out] | rw [E4.out] | rw [E5.out]); rintro e w' ⟨rfl, rfl⟩) | (go_at_call 163; refine (RShift_any _ _ _).mono ?_; rw [E6.out]; rintro e w2 ⟨rfl, hb⟩; (try replace hb := drewB hb); replace HB := Lib.hid (HB.out.trans (hb.mono HB.out.size)); (try (replace HX1 := Lib.hid (blk_keep HX1.out hb); replace hc1 := box_cells HX1.out; replace hf1 := box_free HX1.out; replace hz1 := lt_blk HX1.out)); clear hb) | (go_at_call 161; refine (RValid_any _ _ _ _).mono ?_; (first | rw [E7.out] | rw [E8.out]); rintro e w2 ⟨rfl, hb⟩; (try replace hb := drewB hb); replace HB := Lib.hid (HB.out.trans (hb.mono HB.out.size)); (try (replace HX1 := Lib.hid (blk_keep HX1.out hb); replace hc1 := box_cells HX1.out; replace hf1 := box_free HX1.out; replace hz1 := lt_blk HX1.out)); clear hb)); go_ret; exact ⟨ret_bool (by rw [HR.out]; simp), HB.out⟩)
  cases b6
  · (go_wp2_with (first | (go_at_call 79; refine (r8in_any _ _ _ _).mono ?_; (first | rw [E1.out] | rw [E2.out] | rw [E3.out] | rw [E4.out] | rw [E5.out]); rintro e w' ⟨rfl, rfl⟩) | (go_at_call 163; refine (RShift_any _ _ _).mono ?_; rw [E6.out]; rintro e w2 ⟨rfl, hb⟩; (try replace hb := drewB hb); replace HB := Lib.hid (HB.out.trans (hb.mono HB.out.size)); (try (replace HX1 := Lib.hid (blk_keep HX1.out hb); replace hc1 := box_cells HX1.out; replace hf1 := box_free HX1.out; replace hz1 := lt_blk HX1.out)); clear hb) | (go_at_call 161; refine (RValid_any _ _ _ _).mono ?_; (first | rw [E7.out] | rw [E8.out]); rintro e w2 ⟨rfl, hb⟩; (try replace hb := drewB hb); replace HB := Lib.hid (HB.out.trans (hb.mono HB.out.size)); (try (replace HX1 := Lib.hid (blk_keep HX1.out hb); replace hc1 := box_cells HX1.out; replace hf1 := box_free HX1.out; replace hz1 := lt_blk HX1.out)); clear hb)); go_ret; exact ⟨ret_bool (by rw [HR.out]; simp), HB.out⟩)
  cases b7
  · (go_wp2_with (first | (go_at_call 79; refine (r8in_any _ _ _ _).mono ?_; (first | rw [E1.out] | rw [E2.out] | rw [E3.out] | rw [E4.out] | rw [E5.out]); rintro e w' ⟨rfl, rfl⟩) | (go_at_call 163; refine (RShift_any _ _ _).mono ?_; rw [E6.out]; rintro e w2 ⟨rfl, hb⟩; (try replace hb := drewB hb); replace HB := Lib.hid (HB.out.trans (hb.mono HB.out.size)); (try (replace HX1 := Lib.hid (blk_keep HX1.out hb); replace hc1 := box_cells HX1.out; replace hf1 := box_free HX1.out; replace hz1 := lt_blk HX1.out)); clear hb) | (go_at_call 161; refine (RValid_any _ _ _ _).mono ?_; (first | rw [E7.out] | rw [E8.out]); rintro e w2 ⟨rfl, hb⟩; (try replace hb := drewB hb); replace HB := Lib.hid (HB.out.trans (hb.mono HB.out.size)); (try (replace HX1 := Lib.hid (blk_keep HX1.out hb); replace hc1 := box_cells HX1.out; replace hf1 := box_free HX1.out; replace hz1 := lt_blk HX1.out)); clear hb)); go_ret; exact ⟨ret_bool (by rw [HR.out]; simp), HB.out⟩)
  cases b8
  · (go_wp2_with (first | (go_at_call 79; refine (r8in_any _ _ _ _).mono ?_; (first | rw [E1.out] | rw [E2.out] | rw [E3.out] | rw [E4.out] | rw [E5.out]); rintro e w' ⟨rfl, rfl⟩) | (go_at_call 163; refine (RShift_any _ _ _).mono ?_; rw [E6.out]; rintro e w2 ⟨rfl, hb⟩; (try replace hb := drewB hb); replace HB := Lib.hid (HB.out.trans (hb.mono HB.out.size)); (try (replace HX1 := Lib.hid (blk_keep HX1.out hb); replace hc1 := box_cells HX1.out; replace hf1 := box_free HX1.out; replace hz1 := lt_blk HX1.out)); clear hb) | (go_at_call 161; refine (RValid_any _ _ _ _).mono ?_; (first | rw [E7.out] | rw [E8.out]); rintro e w2 ⟨rfl, hb⟩; (try replace hb := drewB hb); replace HB := Lib.hid (HB.out.trans (hb.mono HB.out.size)); (try (replace HX1 := Lib.hid (blk_keep HX1.out hb); replace hc1 := box_cells HX1.out; replace hf1 := box_free HX1.out; replace hz1 := lt_blk HX1.out)); clear hb)); go_ret; exact ⟨ret_bool (by rw [HR.out]; simp), HB.out⟩)
  replace HS1 := Lib.hid (HS1.out rfl)
  replace HS2 := Lib.hid (HS2.out rfl)
  go_upto_region 11 with (first | (go_at_call 79; refine (r8in_any _ _ _ _).mono ?_; (first | rw [E1.out] | rw [E2.out] | rw [E3.out] | rw [E4.out] | rw [E5.out]); rintro e w' ⟨rfl, rfl⟩) | (go_at_call 163; refine (RShift_any _ _ _).mono ?_; rw [E6.out]; rintro e w2 ⟨rfl, hb⟩; (try replace hb := drewB hb); replace HB := Lib.hid (HB.out.trans (hb.mono HB.out.size)); (try (replace HX1 := Lib.hid (blk_keep HX1.out hb); replace hc1 := box_cells HX1.out; replace hf1 := box_free HX1.out; replace hz1 := lt_blk HX1.out)); clear hb) | (go_at_call 161; refine (RValid_any _ _ _ _).mono ?_; (first | rw [E7.out] | rw [E8.out]); rintro e w2 ⟨rfl, hb⟩; (try replace hb := drewB hb); replace HB := Lib.hid (HB.out.trans (hb.mono HB.out.size)); (try (replace HX1 := Lib.hid (blk_keep HX1.out hb); replace hc1 := box_cells HX1.out; replace hf1 := box_free HX1.out; replace hz1 := lt_blk HX1.out)); clear hb))
  by_cases c1 : pof = id
  · have hd : (id != id) = false := by simp
    subst c1
    (have g0 := cell_regrown (hc1 0); have g2 := cell_regrown (hc1 2); have g3 := cell_regrown (hc1 3); have g7 := cell_regrown (hc1 7); have g8 := cell_regrown (hc1 8); have g9 := cell_regrown (hc1 9); have g10 := cell_regrown (hc1 10); have g11 := cell_regrown (hc1 11); have g12 := cell_regrown (hc1 12); refine wp_quietB (by kernel_rfl) (by kernel_rfl) ?_; (repeat (go_big_quiet_step (fail))); refine wpQuiet_nil ?_; intro w9 hb9; go_wp2; go_ret; exact ⟨ret_bool (by rw [HR.out]; (first | (simp [*]; done) | (simp [*]; intros; omega))), HB.out.trans (hb9.mono HB.out.size)⟩)
  have hd : (pof != id) = true := by simpa using c1
  by_cases c2 : pof = 0
  · subst c2
    by_cases c3 : oct = 0
    · subst c3
      by_cases c4 : n1 ≤ n2
      · (have g0 := cell_regrown (hc1 0); have g2 := cell_regrown (hc1 2); have g3 := cell_regrown (hc1 3); have g7 := cell_regrown (hc1 7); have g8 := cell_regrown (hc1 8); have g9 := cell_regrown (hc1 9); have g10 := cell_regrown (hc1 10); have g11 := cell_regrown (hc1 11); have g12 := cell_regrown (hc1 12); refine wp_quietB (by kernel_rfl) (by kernel_rfl) ?_; (repeat (go_big_quiet_step (fail))); go_big_quiet_step ((go_at_call 162; refine Calls.regrown_of (HS1.out _))); (repeat (go_big_quiet_step (fail))); go_big_quiet_step ((go_at_call 162; refine Calls.regrown_of (HS2.out _))); (repeat (go_big_quiet_step (fail))); refine wpQuiet_nil ?_; intro w9 hb9; go_wp2; go_ret; exact ⟨ret_bool (by rw [HR.out]; (first | (simp [*]; done) | (simp [*]; intros; omega))), HB.out.trans (hb9.mono HB.out.size)⟩)
      · (have g0 := cell_regrown (hc1 0); have g2 := cell_regrown (hc1 2); have g3 := cell_regrown (hc1 3); have g7 := cell_regrown (hc1 7); have g8 := cell_regrown (hc1 8); have g9 := cell_regrown (hc1 9); have g10 := cell_regrown (hc1 10); have g11 := cell_regrown (hc1 11); have g12 := cell_regrown (hc1 12); refine wp_quietB (by kernel_rfl) (by kernel_rfl) ?_; (repeat (go_big_quiet_step (fail))); go_big_quiet_step ((go_at_call 162; refine Calls.regrown_of (HS1.out _))); (repeat (go_big_quiet_step (fail))); go_big_quiet_step ((go_at_call 162; refine Calls.regrown_of (HS2.out _))); (repeat (go_big_quiet_step (fail))); refine wpQuiet_nil ?_; intro w9 hb9; go_wp2; go_ret; exact ⟨ret_bool (by rw [HR.out]; (first | (simp [*]; done) | (simp [*]; intros; omega))), HB.out.trans (hb9.mono HB.out.size)⟩)
    · have hd3 : (oct == 0) = false := by simpa using c3
      have hd4 : decide (oct = 0) = false := decide_eq_false c3
      (have g0 := cell_regrown (hc1 0); have g2 := cell_regrown (hc1 2); have g3 := cell_regrown (hc1 3); have g7 := cell_regrown (hc1 7); have g8 := cell_regrown (hc1 8); have g9 := cell_regrown (hc1 9); have g10 := cell_regrown (hc1 10); have g11 := cell_regrown (hc1 11); have g12 := cell_regrown (hc1 12); refine wp_quietB (by kernel_rfl) (by kernel_rfl) ?_; (repeat (go_big_quiet_step (fail))); refine wpQuiet_nil ?_; intro w9 hb9; go_wp2; go_ret; exact ⟨ret_bool (by rw [HR.out]; (first | (simp [*]; done) | (simp [*]; intros; omega))), HB.out.trans (hb9.mono HB.out.size)⟩)
  · have hd2 : (pof != 0) = true := by simpa using c2
    by_cases c4 : n1 ≤ n2
    · (have g0 := cell_regrown (hc1 0); have g2 := cell_regrown (hc1 2); have g3 := cell_regrown (hc1 3); have g7 := cell_regrown (hc1 7); have g8 := cell_regrown (hc1 8); have g9 := cell_regrown (hc1 9); have g10 := cell_regrown (hc1 10); have g11 := cell_regrown (hc1 11); have g12 := cell_regrown (hc1 12); refine wp_quietB (by kernel_rfl) (by kernel_rfl) ?_; (repeat (go_big_quiet_step (fail))); go_big_quiet_step ((go_at_call 162; refine Calls.regrown_of (HS1.out _))); (repeat (go_big_quiet_step (fail))); go_big_quiet_step ((go_at_call 162; refine Calls.regrown_of (HS2.out _))); (repeat (go_big_quiet_step (fail))); refine wpQuiet_nil ?_; intro w9 hb9; go_wp2; go_ret; exact ⟨ret_bool (by rw [HR.out]; (first | (simp [*]; done) | (simp [*]; intros; omega))), HB.out.trans (hb9.mono HB.out.size)⟩)
    · (have g0 := cell_regrown (hc1 0); have g2 := cell_regrown (hc1 2); have g3 := cell_regrown (hc1 3); have g7 := cell_regrown (hc1 7); have g8 := cell_regrown (hc1 8); have g9 := cell_regrown (hc1 9); have g10 := cell_regrown (hc1 10); have g11 := cell_regrown (hc1 11); have g12 := cell_regrown (hc1 12); refine wp_quietB (by kernel_rfl) (by kernel_rfl) ?_; (repeat (go_big_quiet_step (fail))); go_big_quiet_step ((go_at_call 162; refine Calls.regrown_of (HS1.out _))); (repeat (go_big_quiet_step (fail))); go_big_quiet_step ((go_at_call 162; refine Calls.regrown_of (HS2.out _))); (repeat (go_big_quiet_step (fail))); refine wpQuiet_nil ?_; intro w9 hb9; go_wp2; go_ret; exact ⟨ret_bool (by rw [HR.out]; (first | (simp [*]; done) | (simp [*]; intros; omega))), HB.out.trans (hb9.mono HB.out.size)⟩)
open Go.RowKit Go.Sort

theorem r_notes_bad {bars : List Ba} {l : List No} {k : Nat} (hk : k < l.length) (h : noteOk bars l[k] = false) : notesB bars l = false := by
  have : l.all (noteOk bars) = false := by
    rw [← Bool.not_eq_true]
    intro hh
    have := List.all_eq_true.1 hh l[k] (by simp)
    rw [h] at this; cases this
  simp [notesB, this]
set_option maxRecDepth 100000 in
set_option maxHeartbeats 4000000 in
theorem RNotes_any (ab an : Option Addr) (cb cn : Nat) (bars : List Ba) (l : List No) (w : World) (hlb : bars.length ≤ 100000) (hl : l.length ≤ 100000) (hbm : BaAt w ab bars) (hm : NoAt w an l) :
    Calls Tryz.prog 80 #[.slice ab bars.length cb, .slice an l.length cn] w fun e w' => e = .returned (.bool (notesB bars l)) ∧ Below w.heap.size w w' := by
  have HM := Lib.hid hm
  have HV := Lib.hid (RBars_any ab cb bars w hlb hbm)
  have HN := Lib.hid (fun n W (hb : Below w.heap.size w W) => RNote_any ab cb bars n W hlb (hbm.below hb))
  clear hm hbm
  have HF0 := Lib.hid (show barsB bars = false → notesB bars l = false from fun h => by simp [notesB, h])
  have HF1 := Lib.hid (show ¬ l.length ≤ 20000 → notesB bars l = false from fun h => by simp [notesB, h])
  have HDone := Lib.hid (show barsB bars = true → l.length ≤ 20000 → l.all (noteOk bars) = true → (l.map No.id).Nodup → notesB bars l = true from fun h h1 h2 h3 => by simp [notesB, h, h1, h2, h3])
  have HBad := Lib.hid (fun k (hk : k < l.length) h => r_notes_bad (bars := bars) (l := l) hk h)
  have HDup := Lib.hid (show ¬ (l.map No.id).Nodup → notesB bars l = false from fun h => by simp [notesB, h])
  generalize notesB bars l = R at *
  cases hv : barsB bars
  · rw [hv] at HV
    have HF := Lib.hid (HF0.out hv)
    clear hv
    go_enter Tryz.func80, Tryz.ntmps80
    go_wp2_with (go_at_call 54; refine HV.out.mono ?_; rintro e w2 ⟨rfl, hb⟩; have HB := Lib.hid hb; clear hb)
    go_ret
    exact ⟨ret_bool HF.out.symm, HB.out⟩
  rw [hv] at HV
  by_cases hlen : l.length ≤ 20000
  case neg =>
    have HF := Lib.hid (HF1.out hlen)
    clear hv
    go_enter Tryz.func80, Tryz.ntmps80
    go_wp2_with (go_at_call 54; refine HV.out.mono ?_; rintro e w2 ⟨rfl, hb⟩; have HB := Lib.hid hb; clear hb)
    go_ret
    exact ⟨ret_bool HF.out.symm, HB.out⟩
  replace HDone := Lib.hid (HDone.out hv hlen)
  clear hv
  go_enter Tryz.func80, Tryz.ntmps80
  go_wp2_with (go_at_call 54; refine HV.out.mono ?_; rintro e w2 ⟨rfl, hb⟩; have HB := Lib.hid hb; clear hb)
  go_loopw [6] (fun i wr => ∃ k : Nat, k ≤ l.length ∧ i = .int .i64 k ∧ (l.take k).all (noteOk bars) = true ∧ ((l.map No.id).take k).Nodup ∧ Below w.heap.size w wr) (fun i _ => l.length - (intOf i).toNat)
  case atStart => exact ⟨0, Nat.zero_le _, rfl, by simp, by simp, HB.out⟩
  case round =>
    clear HB
    obtain ⟨k, hk, rfl, hall, hnd, hb⟩ := hrel
    have HA := Lib.hid hall; have HND := Lib.hid hnd; have HB := Lib.hid hb
    clear hall hnd hb
    by_cases hlt : k < l.length
    · obtain ⟨b, off, rfl, _, c0, c1, c2, c3, c4, c5, c6, c7, c8, c9, c10, c11⟩ := HM.out.get k hlt
      have g0 := keepE c0 HB.out; have g1 := keepE c1 HB.out; have g2 := keepE c2 HB.out; have g3 := keepE c3 HB.out; have g4 := keepE c4 HB.out; have g5 := keepE c5 HB.out; have g6 := keepE c6 HB.out; have g7 := keepE c7 HB.out; have g8 := keepE c8 HB.out; have g9 := keepE c9 HB.out; have g10 := keepE c10 HB.out; have g11 := keepE c11 HB.out
      clear c0 c1 c2 c3 c4 c5 c6 c7 c8 c9 c10 c11
      have HOk := Lib.hid (r_all_take (p := noteOk bars) hlt HA.out)
      have HBk := Lib.hid (HBad.out k hlt)
      have hlt' : k < (l.map No.id).length := by simpa using hlt
      have HId := Lib.hid (show (l.map No.id)[k]'hlt' = l[k].id by simp)
      generalize hBk : l[k] = B at *
      have HEq := Lib.hid hBk
      have HC := Lib.hid (HN.out B)
      clear hBk
      cases hok : noteOk bars B
      · have HF := Lib.hid (HBk.out hok)
        rw [hok] at HC
        clear hok
        go_wp2_with (go_at_call 126; refine (HC.out _ HB.out).mono ?_; rintro e w2 ⟨rfl, hb⟩; replace HB := Lib.hid (HB.out.trans (hb.mono HB.out.size)); clear hb g0 g1 g2 g3 g4 g5 g6 g7 g8 g9 g10 g11)
        go_ret
        exact ⟨ret_bool HF.out.symm, HB.out⟩
      · have HO := Lib.hid (HOk.out hok)
        rw [hok] at HC
        clear hok
        go_wp2_with (go_at_call 126; refine (HC.out _ HB.out).mono ?_; rintro e w2 ⟨rfl, hb⟩; replace HB := Lib.hid (HB.out.trans (hb.mono HB.out.size)); clear hb g0 g1 g2 g3 g4 g5 g6 g7 g8 g9 g10 g11)
        go_loopw [8] (fun i wr2 => ∃ m : Nat, m ≤ k ∧ i = .int .i64 m ∧ (∀ j (hj : j < l.length), j < m → l[j].id ≠ B.id) ∧ Below w.heap.size w wr2) (fun i _ => k - (intOf i).toNat)
        case atStart => exact ⟨0, Nat.zero_le _, rfl, fun j hj h => by omega, HB.out⟩
        case round =>
          clear HB
          obtain ⟨m, hm, rfl, hall, hb⟩ := hrel
          have HA2 := Lib.hid hall; have HB := Lib.hid hb
          clear hall hb
          by_cases hlt2 : m < k
          · have hml : m < l.length := by omega
            obtain ⟨b', off', e', _, c0, _⟩ := HM.out.get m hml
            obtain ⟨b'', off'', e'', _, d0, _⟩ := HM.out.get k hlt
            cases e'; cases e''
            rw [HEq.out] at d0
            have g0 := keepE c0 HB.out; have k0 := keepE d0 HB.out
            clear c0 d0
            have HC := Lib.hid (fun h : l[m].id ≠ B.id => (fun j (hj : j < l.length) (hjm : j < m + 1) => if e : j = m then by subst e; exact h else HA2.out j hj (by omega) : ∀ j (hj : j < l.length), j < m + 1 → l[j].id ≠ B.id))
            have HDu := Lib.hid (fun h : l[m].id = B.id => HDup.out (dup_at (l := l.map No.id) (by simpa using hml) hlt' hlt2 (by rw [HId.out]; simpa using h)))
            generalize l[m].id = id2 at *
            generalize B.id = id at *
            by_cases hid : id2 = id
            · have HF := Lib.hid (HDu.out hid)
              subst hid
              go_wp2
              go_quiet (fail)
              go_wp2
              go_ret
              exact ⟨ret_bool HF.out.symm, below_drewN HB.out nq⟩
            · have HC2 := Lib.hid (HC.out hid)
              go_wp2
              go_quiet (fail)
              go_wp2
              exact ⟨⟨m + 1, by omega, by go_num, HC2.out, below_drewN HB.out nq⟩, by simp [intOf]; omega⟩
          · obtain rfl : m = k := by omega
            have HND2 := Lib.hid (nodup_step hlt' HND.out fun j hj hjk => by rw [HId.out]; simpa using HA2.out j (by simpa using hj) hjk)
            go_wp2
            exact ⟨⟨m + 1, by omega, by go_num, HO.out, HND2.out, HB.out⟩, by simp [intOf]; omega⟩
    · obtain rfl : k = l.length := by omega
      have HF := Lib.hid (HDone.out (by have := HA.out; rwa [List.take_length] at this) (by have := HND.out; rwa [List.take_of_length_le (by simp)] at this))
      go_wp2
      go_ret
      exact ⟨ret_bool HF.out.symm, HB.out⟩
/-- Two lists that agree up to a place, and differ there. -/
theorem lex_at {xs ys : List Int} {k : Nat} (hk : k < xs.length) (hk' : k < ys.length) (h : xs.take k = ys.take k) (hne : xs[k] ≠ ys[k]) : lexLt xs ys = decide (xs[k] < ys[k]) := by
  induction xs generalizing ys k with
  | nil => simp at hk
  | cons x xs ih =>
    cases ys with
    | nil => simp at hk'
    | cons y ys =>
      cases k with
      | zero =>
        simp at hne ⊢
        simp [lexLt, hne]
      | succ k =>
        simp only [List.take_succ_cons, List.cons.injEq] at h
        obtain ⟨rfl, h⟩ := h
        simp only [List.getElem_cons_succ] at hne ⊢
        rw [lexLt, if_pos rfl]
        exact ih (by simpa using hk) (by simpa using hk') h hne
/-- What is compared number by number, as the reference does. -/
def KeysOf (W : World) (v : Value) (l : List Int) : Prop := ∃ b, v = .slice (some ⟨b, 0, none⟩) l.length l.length ∧ InAt W (some ⟨b, 0, none⟩) l
theorem KeysOf.below {W W' : World} {v : Value} {l : List Int} (h : KeysOf W v l) (hb : Below W.heap.size W W') : KeysOf W' v l := by
  obtain ⟨b, h1, h2⟩ := h; exact ⟨b, h1, h2.below hb⟩
set_option maxRecDepth 100000 in
set_option maxHeartbeats 4000000 in
theorem Rkeys_any (a : Option Addr) (cap : Nat) (bars : List Ba) (n : No) (w : World) (hl : bars.length ≤ 100000) (hm : BaAt w a bars) (hv : vldP n.pitch = true) :
    Calls Tryz.prog 129 #[.slice a bars.length cap, .agg #[.int .i64 n.id, .int .i64 n.part, .int .i64 n.bar, .int .i64 n.voice, .int .i64 n.ossia, .int .i64 n.start.n, .int .i64 n.start.d, .int .i64 n.len.n, .int .i64 n.len.d, .int .i64 n.pitch.s, .int .i64 n.pitch.a, .int .i64 n.pitch.o]] w fun e w' => ∃ v, e = .returned v ∧ KeysOf w' v (keysL bars n) ∧ Below w.heap.size w w' := by
  have HBar := Lib.hid (fun W (hb : Below w.heap.size w W) => (RBar_any a cap bars n.bar W hl (hm.below hb)).mono fun e w' h => (⟨h.1, h.2 ▸ Below.refl _ _⟩ : _ ∧ Below W.heap.size W w'))
  rw [barAt_idx] at HBar
  have HX1 := Lib.hid (heap_alloc_new w (.cells #[.int .i64 n.id, .int .i64 n.part, .int .i64 n.bar, .int .i64 n.voice, .int .i64 n.ossia, .int .i64 n.start.n, .int .i64 n.start.d, .int .i64 n.len.n, .int .i64 n.len.d, .int .i64 n.pitch.s, .int .i64 n.pitch.a, .int .i64 n.pitch.o] 128))
  have HB := Lib.hid ((Below.refl w.heap.size w).alloc (Nat.le_refl _) (.cells #[.int .i64 n.id, .int .i64 n.part, .int .i64 n.bar, .int .i64 n.voice, .int .i64 n.ossia, .int .i64 n.start.n, .int .i64 n.start.d, .int .i64 n.len.n, .int .i64 n.len.d, .int .i64 n.pitch.s, .int .i64 n.pitch.a, .int .i64 n.pitch.o] 128))
  clear hm
  have HK := Lib.hid (show keysL bars n = [barAt bars n.bar, n.part, ticksI n.start, n.voice, soundI n.pitch, n.id] from rfl)
  generalize keysL bars n = K at *
  generalize barAt bars n.bar = BA at *
  obtain ⟨nid, npart, nbar, nvoice, nossia, ⟨sn, sd⟩, ⟨ln, ld⟩, ⟨ps, pa, po⟩⟩ := n
  obtain ⟨⟨p1, p2⟩, ⟨p3, p4⟩, p5, p6⟩ := (vldP_iff _).1 hv
  simp only at *
  have HS := Lib.hid (fun W => show Calls Tryz.prog 162 #[.agg #[.int .i64 ps, .int .i64 pa, .int .i64 po]] W fun e w' => e = .returned (.int .i64 (soundI ⟨ps, pa, po⟩)) ∧ Below W.heap.size W w' from Sound_any ps pa po W p1 p2 (by omega) (by omega) (by omega) (by omega))
  have HT := Lib.hid (fun W => RTicks_any sn sd W)
  generalize soundI ⟨ps, pa, po⟩ = SO at *
  generalize ticksI ⟨sn, sd⟩ = TI at *
  clear hv p1 p2 p3 p4 p5 p6
  go_enter Tryz.func129, Tryz.ntmps129
  go_upto_region 1 with (fail)
  generalize w.alloc (.cells #[.int .i64 (⟨nid, npart, nbar, nvoice, nossia, ⟨sn, sd⟩, ⟨ln, ld⟩, ⟨ps, pa, po⟩⟩ : No).id, .int .i64 (⟨nid, npart, nbar, nvoice, nossia, ⟨sn, sd⟩, ⟨ln, ld⟩, ⟨ps, pa, po⟩⟩ : No).part, .int .i64 (⟨nid, npart, nbar, nvoice, nossia, ⟨sn, sd⟩, ⟨ln, ld⟩, ⟨ps, pa, po⟩⟩ : No).bar, .int .i64 (⟨nid, npart, nbar, nvoice, nossia, ⟨sn, sd⟩, ⟨ln, ld⟩, ⟨ps, pa, po⟩⟩ : No).voice, .int .i64 (⟨nid, npart, nbar, nvoice, nossia, ⟨sn, sd⟩, ⟨ln, ld⟩, ⟨ps, pa, po⟩⟩ : No).ossia, .int .i64 (⟨nid, npart, nbar, nvoice, nossia, ⟨sn, sd⟩, ⟨ln, ld⟩, ⟨ps, pa, po⟩⟩ : No).start.n, .int .i64 (⟨nid, npart, nbar, nvoice, nossia, ⟨sn, sd⟩, ⟨ln, ld⟩, ⟨ps, pa, po⟩⟩ : No).start.d, .int .i64 (⟨nid, npart, nbar, nvoice, nossia, ⟨sn, sd⟩, ⟨ln, ld⟩, ⟨ps, pa, po⟩⟩ : No).len.n, .int .i64 (⟨nid, npart, nbar, nvoice, nossia, ⟨sn, sd⟩, ⟨ln, ld⟩, ⟨ps, pa, po⟩⟩ : No).len.d, .int .i64 (⟨nid, npart, nbar, nvoice, nossia, ⟨sn, sd⟩, ⟨ln, ld⟩, ⟨ps, pa, po⟩⟩ : No).pitch.s, .int .i64 (⟨nid, npart, nbar, nvoice, nossia, ⟨sn, sd⟩, ⟨ln, ld⟩, ⟨ps, pa, po⟩⟩ : No).pitch.a, .int .i64 (⟨nid, npart, nbar, nvoice, nossia, ⟨sn, sd⟩, ⟨ln, ld⟩, ⟨ps, pa, po⟩⟩ : No).pitch.o] 128) = W at *
  have hc1 := box_cells HX1.out
  have g0 := cell_regrown (hc1 0); have g1 := cell_regrown (hc1 1); have g2 := cell_regrown (hc1 2); have g3 := cell_regrown (hc1 3); have g5 := cell_regrown (hc1 5); have g6 := cell_regrown (hc1 6); have g9 := cell_regrown (hc1 9); have g10 := cell_regrown (hc1 10); have g11 := cell_regrown (hc1 11)
  refine wp_tailB 16 (by kernel_rfl) (by kernel_rfl) ?_
  simp only [List.take_succ_cons, List.take_zero, List.drop_succ_cons, List.drop_zero]
  (repeat (go_big_quiet_step (first | (go_at_call 164; refine Calls.regrown_of (HBar.out _ (HB.out.trans ((below_regrown _ _ _).mono HB.out.size)))) | (go_at_call 24; refine Calls.regrown_of (HT.out _)) | (go_at_call 162; refine Calls.regrown_of (HS.out _)))))
  refine wpQuiet_nil ?_
  intro w6 hb6
  replace HB := Lib.hid (HB.out.trans (hb6.mono HB.out.size))
  clear hb6 g0 g1 g2 g3 g5 g6 g9 g10 g11 hc1 HX1
  go_wp2
  go_ret
  rw [HK.out]
  refine ⟨_, rfl, ⟨_, rfl, inAt_row (heap_alloc_new _ _) (by rfl)⟩, HB.out.alloc HB.out.size _⟩
set_option maxRecDepth 100000 in
set_option maxHeartbeats 4000000 in
theorem RBefore_any (a : Option Addr) (cap : Nat) (bars : List Ba) (x y : No) (w : World) (hl : bars.length ≤ 100000) (hm : BaAt w a bars) (hx : vldP x.pitch = true) (hy : vldP y.pitch = true) :
    Calls Tryz.prog 82 #[.slice a bars.length cap, .agg #[.int .i64 x.id, .int .i64 x.part, .int .i64 x.bar, .int .i64 x.voice, .int .i64 x.ossia, .int .i64 x.start.n, .int .i64 x.start.d, .int .i64 x.len.n, .int .i64 x.len.d, .int .i64 x.pitch.s, .int .i64 x.pitch.a, .int .i64 x.pitch.o], .agg #[.int .i64 y.id, .int .i64 y.part, .int .i64 y.bar, .int .i64 y.voice, .int .i64 y.ossia, .int .i64 y.start.n, .int .i64 y.start.d, .int .i64 y.len.n, .int .i64 y.len.d, .int .i64 y.pitch.s, .int .i64 y.pitch.a, .int .i64 y.pitch.o]] w fun e w' => e = .returned (.bool (beforeB bars x y)) ∧ Below w.heap.size w w' := by
  have HKx := Lib.hid (fun W (hb : Below w.heap.size w W) => Rkeys_any a cap bars x W hl (hm.below hb) hx)
  have HKy := Lib.hid (fun W (hb : Below w.heap.size w W) => Rkeys_any a cap bars y W hl (hm.below hb) hy)
  obtain ⟨x1, x2, hb⟩ := box2 (w := w) (A := .cells #[.int .i64 x.id, .int .i64 x.part, .int .i64 x.bar, .int .i64 x.voice, .int .i64 x.ossia, .int .i64 x.start.n, .int .i64 x.start.d, .int .i64 x.len.n, .int .i64 x.len.d, .int .i64 x.pitch.s, .int .i64 x.pitch.a, .int .i64 x.pitch.o] 128) (B := .cells #[.int .i64 y.id, .int .i64 y.part, .int .i64 y.bar, .int .i64 y.voice, .int .i64 y.ossia, .int .i64 y.start.n, .int .i64 y.start.d, .int .i64 y.len.n, .int .i64 y.len.d, .int .i64 y.pitch.s, .int .i64 y.pitch.a, .int .i64 y.pitch.o] 128) (Below.refl _ _)
  have HX1 := Lib.hid x1; have HX2 := Lib.hid x2; have HB := Lib.hid hb; clear x1 x2 hb
  have HR := Lib.hid (show beforeB bars x y = lexLt (keysL bars x) (keysL bars y) from rfl)
  have hlx : (keysL bars x).length = 6 := rfl
  have hly : (keysL bars y).length = 6 := rfl
  generalize beforeB bars x y = R at *
  generalize keysL bars x = KX at *; generalize keysL bars y = KY at *
  clear hm hx hy
  have HLx := Lib.hid hlx; have HLy := Lib.hid hly; clear hlx hly
  go_enter Tryz.func82, Tryz.ntmps82
  go_upto_region 1 with (fail)
  generalize (w.alloc (.cells #[.int .i64 x.id, .int .i64 x.part, .int .i64 x.bar, .int .i64 x.voice, .int .i64 x.ossia, .int .i64 x.start.n, .int .i64 x.start.d, .int .i64 x.len.n, .int .i64 x.len.d, .int .i64 x.pitch.s, .int .i64 x.pitch.a, .int .i64 x.pitch.o] 128)).alloc (.cells #[.int .i64 y.id, .int .i64 y.part, .int .i64 y.bar, .int .i64 y.voice, .int .i64 y.ossia, .int .i64 y.start.n, .int .i64 y.start.d, .int .i64 y.len.n, .int .i64 y.len.d, .int .i64 y.pitch.s, .int .i64 y.pitch.a, .int .i64 y.pitch.o] 128) = W at *
  have hc1 := box_cells HX1.out; have hc2 := box_cells HX2.out
  go_upto_region 2 with (go_at_call 129; refine (HKx.out _ HB.out).mono ?_; rintro e w2 ⟨va, rfl, hka, hb⟩; have HKA := Lib.hid hka; clear hka; (try replace hb := drewB hb); replace HB := Lib.hid (HB.out.trans (hb.mono HB.out.size)); (try (replace HX1 := Lib.hid (blk_keep HX1.out hb); replace hc1 := box_cells HX1.out; replace hf1 := box_free HX1.out; replace hz1 := lt_blk HX1.out)); (try (replace HX2 := Lib.hid (blk_keep HX2.out hb); replace hc2 := box_cells HX2.out; replace hf2 := box_free HX2.out; replace hz2 := lt_blk HX2.out)); clear hb)
  go_upto_region 3 with (go_at_call 129; refine (HKy.out _ HB.out).mono ?_; rintro e w3 ⟨vb, rfl, hkb, hb⟩; have HKB := Lib.hid hkb; clear hkb; replace HKA := Lib.hid (HKA.out.below hb); (try replace hb := drewB hb); replace HB := Lib.hid (HB.out.trans (hb.mono HB.out.size)); (try (replace HX1 := Lib.hid (blk_keep HX1.out hb); replace hc1 := box_cells HX1.out; replace hf1 := box_free HX1.out; replace hz1 := lt_blk HX1.out)); (try (replace HX2 := Lib.hid (blk_keep HX2.out hb); replace hc2 := box_cells HX2.out; replace hf2 := box_free HX2.out; replace hz2 := lt_blk HX2.out)); clear hb)
  obtain ⟨ba, rfl, hka⟩ := HKA.out
  obtain ⟨bb, rfl, hkb⟩ := HKB.out
  rw [HLx.out, HLy.out]
  have HIA := Lib.hid hka; have HIB := Lib.hid hkb
  clear hka hkb HKA HKB HKx HKy hc1 hc2 HX1 HX2
  go_wp2; go_loopw [9] (fun i wr => ∃ k : Nat, k ≤ 6 ∧ i = .int .i64 k ∧ KX.take k = KY.take k ∧ InAt wr (some ⟨ba, 0, none⟩) KX ∧ InAt wr (some ⟨bb, 0, none⟩) KY ∧ Below w.heap.size w wr) (fun i _ => 6 - (intOf i).toNat)
  case atStart => exact ⟨0, Nat.zero_le _, rfl, rfl, HIA.out, HIB.out, HB.out⟩
  case round =>
    clear HIA HIB HB
    obtain ⟨k, hk, rfl, he, hia, hib, hb⟩ := hrel
    have HE := Lib.hid he; have HIA := Lib.hid hia; have HIB := Lib.hid hib; have HB := Lib.hid hb
    clear he hia hib hb
    have hlx := HLx.out; have hly := HLy.out
    by_cases hlt : k < 6
    · have hkx : k < KX.length := by omega
      have hky : k < KY.length := by omega
      obtain ⟨b1, o1, e1, c1⟩ := HIA.out.get k hkx
      obtain ⟨b2, o2, e2, c2⟩ := HIB.out.get k hky
      cases e1; cases e2
      rw [Nat.zero_add] at c1 c2
      have HT := Lib.hid (fun h : KX[k] = KY[k] => take_eq_succ KX KY k hkx hky HE.out h)
      have HN := Lib.hid (fun h : KX[k] ≠ KY[k] => lex_at hkx hky HE.out h)
      generalize KX[k] = u at *; generalize KY[k] = v at *
      clear hkx hky hlx hly
      by_cases huv : u = v
      · have HT2 := Lib.hid (HT.out huv)
        have hd : (u != v) = false := by simpa using huv
        go_wp2
        go_quiet (fail)
        go_wp2
        exact ⟨⟨k + 1, by omega, by go_num, HT2.out, HIA.out.below (below_drewN (Below.refl _ _) nq), HIB.out.below (below_drewN (Below.refl _ _) nq), below_drewN HB.out nq⟩, by simp [intOf]; omega⟩
      · have HN2 := Lib.hid (HN.out huv)
        have hd : (u != v) = true := by simpa using huv
        go_wp2
        go_quiet (fail)
        go_wp2
        go_quiet (fail)
        go_wp2
        go_ret
        exact ⟨ret_bool (by rw [HR.out, HN2.out]), below_drewN (below_drewN HB.out _) _⟩
    · obtain rfl : k = 6 := by omega
      have HF := Lib.hid (show R = false by have := HE.out; rw [List.take_of_length_le (by omega), List.take_of_length_le (by omega)] at this; rw [HR.out, this]; exact lex_irrefl _)
      clear hlx hly
      go_wp2
      go_ret
      exact ⟨ret_bool HF.out.symm, HB.out⟩
open Go.RowKit Go.Sort

theorem partAt_idx (l : List Pa) (id : Int) : (idxO (fun x => x.id == id) l = -1 ∧ partAt l id = none) ∨ ∃ (i : Nat) (hi : i < l.length), idxO (fun x => x.id == id) l = (i : Int) ∧ partAt l id = some l[i] ∧ l[i].id = id ∧ ∀ j (hj : j < l.length), j < i → l[j].id ≠ id := by
  cases h : l.findIdx? (fun x => x.id == id) with
  | none =>
    left
    refine ⟨by simp [idxO, h], ?_⟩
    rw [List.findIdx?_eq_none_iff] at h
    unfold partAt
    rw [List.find?_eq_none]
    intro x hx; simpa using h x hx
  | some i =>
    right
    obtain ⟨hi, h1, h2⟩ := List.findIdx?_eq_some_iff_getElem.1 h
    refine ⟨i, hi, by simp [idxO, h], ?_, by simpa using h1, fun j hj hji => by simpa using h2 j hji⟩
    unfold partAt
    rw [List.find?_eq_some_iff_getElem]
    exact ⟨h1, i, hi, rfl, fun j hj => by simpa using h2 j hj⟩
/-- What the reference asks of a part in a list. -/
def partIn (l : List Pa) (i : Nat) : Bool := match l[i]? with
  | none => true
  | some p => partOk p && decide (idxO (fun x => x.id == p.id) l = (i : Int)) && (decide (p.of = 0) || match partAt l p.of with | none => false | some q => decide (q.of = 0))
theorem parts_R (l : List Pa) : partsB l = (decide (1 ≤ l.length) && decide (l.length ≤ 60) && (List.range l.length).all (partIn l)) := by
  have key : (l.all partOk && decide (l.map Pa.id).Nodup && l.all fun p => decide (p.of = 0) || l.any fun q => decide (q.id = p.of) && decide (q.of = 0)) = (List.range l.length).all (partIn l) := by
    rw [Bool.eq_iff_iff]
    simp only [Bool.and_eq_true, List.all_eq_true, decide_eq_true_eq, List.mem_range]
    have hget : ∀ i (hi : i < l.length), l[i]? = some l[i] := fun i hi => by simp [hi]
    constructor
    · rintro ⟨⟨h1, h2⟩, h3⟩ i hi
      unfold partIn
      rw [hget i hi]
      have hm := List.getElem_mem hi
      simp only [Bool.and_eq_true, decide_eq_true_eq]
      refine ⟨⟨h1 _ hm, ?_⟩, ?_⟩
      · rcases partAt_idx l l[i].id with ⟨_, e⟩ | ⟨j, hj, e1, _, e3, _⟩
        · unfold partAt at e; rw [List.find?_eq_none] at e; exact absurd (e _ hm) (by simp)
        · have : (l.map Pa.id)[j]'(by simpa using hj) = (l.map Pa.id)[i]'(by simpa using hi) := by simp [e3]
          have := (List.getElem_inj h2).1 this
          rw [e1, this]
      · have h4 := h3 _ hm
        simp only [Bool.or_eq_true, decide_eq_true_eq, List.any_eq_true, Bool.and_eq_true] at h4 ⊢
        rcases h4 with h4 | ⟨q, hq, e1, e2⟩
        · exact .inl h4
        · right
          rw [← e1]
          have : partAt l q.id = some q := by
            unfold partAt
            cases h : l.find? fun x => x.id == q.id with
            | none => rw [List.find?_eq_none] at h; exact absurd (h q hq) (by simp)
            | some r =>
              have g1 := List.mem_of_find?_eq_some h
              have g2 : r.id = q.id := by simpa using List.find?_some h
              obtain ⟨a, ha, f1⟩ := List.getElem_of_mem hq
              obtain ⟨b, hb, f2⟩ := List.getElem_of_mem g1
              have f3 : (l.map Pa.id)[a]'(by simpa using ha) = (l.map Pa.id)[b]'(by simpa using hb) := by simp [f1, f2, g2]
              have := (List.getElem_inj h2).1 f3
              subst this; rw [← f1, ← f2]
          rw [this]; simpa using e2
    · intro h
      have hp : ∀ i (hi : i < l.length), partOk l[i] = true ∧ idxO (fun x => x.id == l[i].id) l = (i : Int) ∧ (l[i].of = 0 ∨ ∃ q, partAt l l[i].of = some q ∧ q.of = 0) := by
        intro i hi
        have := h i hi
        unfold partIn at this
        rw [hget i hi] at this
        simp only [Bool.and_eq_true, decide_eq_true_eq, Bool.or_eq_true] at this
        refine ⟨this.1.1, this.1.2, this.2.imp id fun g => ?_⟩
        cases hq : partAt l l[i].of with
        | none => rw [hq] at g; cases g
        | some q => rw [hq] at g; exact ⟨q, rfl, by simpa using g⟩
      refine ⟨⟨fun x hx => ?_, ?_⟩, fun x hx => ?_⟩
      · obtain ⟨i, hi, rfl⟩ := List.getElem_of_mem hx; exact (hp i hi).1
      · unfold List.Nodup
        rw [List.pairwise_iff_getElem]
        intro i j hi hj hij e
        simp only [List.length_map] at hi hj
        simp only [List.getElem_map] at e
        have e1 := (hp i hi).2.1; have e2 := (hp j hj).2.1
        rw [e] at e1
        omega
      · obtain ⟨i, hi, rfl⟩ := List.getElem_of_mem hx
        simp only [Bool.or_eq_true, decide_eq_true_eq, List.any_eq_true, Bool.and_eq_true]
        rcases (hp i hi).2.2 with g | ⟨q, g1, g2⟩
        · exact .inl g
        · have := List.mem_of_find?_eq_some g1
          have e : q.id = l[i].of := by simpa using List.find?_some g1
          exact .inr ⟨q, this, e, g2⟩
  unfold partsB
  rw [← key]
  simp only [Bool.and_assoc]
theorem partIn_bad {l : List Pa} {i : Nat} (hi : i < l.length) (h : partIn l i = false) : partsB l = false := by
  rw [parts_R]
  have : (List.range l.length).all (partIn l) = false := by
    rw [← Bool.not_eq_true]
    intro hh
    have := List.all_eq_true.1 hh i (List.mem_range.2 hi)
    rw [h] at this; cases this
  simp [this]
set_option maxRecDepth 100000 in
set_option maxHeartbeats 4000000 in
theorem RParts_any (a : Option Addr) (cap : Nat) (l : List Pa) (w : World) (hl : l.length ≤ 100000) (hm : PaAt w a l) :
    Calls Tryz.prog 78 #[.slice a l.length cap] w fun e w' => e = .returned (.bool (partsB l)) ∧ Below w.heap.size w w' := by
  have HM := Lib.hid hm; clear hm
  have HAt := Lib.hid (fun id W (hb : Below w.heap.size w W) => RPartAt_any a cap l id W hl (HM.out.below hb))
  have HLen := Lib.hid (show ¬ (1 ≤ l.length ∧ l.length ≤ 60) → partsB l = false from fun h => by
    rw [parts_R]
    by_cases h1 : 1 ≤ l.length
    · have : ¬ l.length ≤ 60 := fun x => h ⟨h1, x⟩
      simp [this]
    · simp [h1])
  have HDone := Lib.hid (show 1 ≤ l.length ∧ l.length ≤ 60 → (∀ i, i < l.length → partIn l i = true) → partsB l = true from fun h h2 => by
    rw [parts_R, List.all_eq_true.2 fun i hi => h2 i (List.mem_range.1 hi)]; simp [h])
  have HBad := Lib.hid (fun k (hk : k < l.length) h => partIn_bad (l := l) hk h)
  generalize partsB l = R at *
  go_enter Tryz.func78, Tryz.ntmps78
  by_cases hlen : 1 ≤ l.length ∧ l.length ≤ 60
  case neg =>
    have HF := Lib.hid (HLen.out hlen)
    have HN := Lib.hid hlen; clear hlen
    go_wp2
    all_goals first | (go_ret; exact ⟨ret_bool HF.out.symm, Below.refl _ _⟩) | (exfalso; apply HN.out; omega)
  obtain ⟨hl1, hl2⟩ := hlen
  go_wp2
  go_loopw [3] (fun i wr => ∃ k : Nat, k ≤ l.length ∧ i = .int .i64 k ∧ (∀ j, j < k → partIn l j = true) ∧ Below w.heap.size w wr) (fun i _ => l.length - (intOf i).toNat)
  case atStart => exact ⟨0, Nat.zero_le _, rfl, fun j hj => by omega, Below.refl _ _⟩
  case round =>
    obtain ⟨k, hk, rfl, hall, hb⟩ := hrel
    have HA := Lib.hid hall; have HB := Lib.hid hb
    clear hall hb
    by_cases hlt : k < l.length
    · have HBk := Lib.hid (HBad.out k hlt)
      have HS := Lib.hid (show partIn l k = true → ∀ j, j < k + 1 → partIn l j = true from fun h j hj => if e : j = k then by subst e; exact h else HA.out j (by omega))
      have HP := Lib.hid (show partIn l k = (partOk l[k] && decide (idxO (fun x => x.id == l[k].id) l = (k : Int)) && (decide (l[k].of = 0) || match partAt l l[k].of with | none => false | some q => decide (q.of = 0))) from by unfold partIn; simp [hlt])
      have HI0 := Lib.hid (partAt_idx l l[k].of)
      obtain ⟨b, off, rfl, _, c0, c1, c2, c3, c4, c5, c6, c7, c8, c9, c10, c11, c12⟩ := HM.out.get k hlt; have g0 := keepE c0 HB.out; have g1 := keepE c1 HB.out; have g2 := keepE c2 HB.out; have g3 := keepE c3 HB.out; have g4 := keepE c4 HB.out; have g5 := keepE c5 HB.out; have g6 := keepE c6 HB.out; have g7 := keepE c7 HB.out; have g8 := keepE c8 HB.out; have g9 := keepE c9 HB.out; have g10 := keepE c10 HB.out; have g11 := keepE c11 HB.out; have g12 := keepE c12 HB.out; clear c0 c1 c2 c3 c4 c5 c6 c7 c8 c9 c10 c11 c12
      generalize hBk : l[k] = p at *
      have HEq := Lib.hid hBk
      clear hBk
      have HC := Lib.hid (fun W => RPart1_any p W)
      cases hok : partOk p
      · have HF := Lib.hid (HBk.out (by rw [HP.out, hok]; rfl))
        rw [hok] at HC
        clear hok
        go_wp2_with (first | (go_at_call 125; refine (HC.out _).mono ?_; rintro e w2 ⟨rfl, hb⟩; replace g0 := keepE g0 hb; replace g1 := keepE g1 hb; replace g2 := keepE g2 hb; replace g3 := keepE g3 hb; replace g4 := keepE g4 hb; replace g5 := keepE g5 hb; replace g6 := keepE g6 hb; replace g7 := keepE g7 hb; replace g8 := keepE g8 hb; replace g9 := keepE g9 hb; replace g10 := keepE g10 hb; replace g11 := keepE g11 hb; replace g12 := keepE g12 hb; replace HB := Lib.hid (HB.out.trans (hb.mono HB.out.size)); clear hb))
        go_ret
        exact ⟨ret_bool HF.out.symm, HB.out⟩
      rw [hok] at HC HP
      clear hok
      obtain ⟨I1, hI1⟩ : ∃ I, I = idxO (fun x => x.id == p.id) l := ⟨_, rfl⟩
      rw [← hI1] at HP
      have EA1 := Lib.hid hI1.symm
      clear hI1
      by_cases h1 : I1 = (k : Int)
      case neg =>
        have HF := Lib.hid (HBk.out (by rw [HP.out, decide_eq_false h1]; rfl))
        have hd : (I1 != (k : Int)) = true := by simpa using h1
        go_wp2_with (first | first | (go_at_call 125; refine (HC.out _).mono ?_; rintro e w2 ⟨rfl, hb⟩; replace g0 := keepE g0 hb; replace g1 := keepE g1 hb; replace g2 := keepE g2 hb; replace g3 := keepE g3 hb; replace g4 := keepE g4 hb; replace g5 := keepE g5 hb; replace g6 := keepE g6 hb; replace g7 := keepE g7 hb; replace g8 := keepE g8 hb; replace g9 := keepE g9 hb; replace g10 := keepE g10 hb; replace g11 := keepE g11 hb; replace g12 := keepE g12 hb; replace HB := Lib.hid (HB.out.trans (hb.mono HB.out.size)); clear hb) | (go_at_call 114; refine (HAt.out _ _ HB.out).mono ?_; rw [EA1.out]; rintro e w3 ⟨rfl, rfl⟩))
        go_ret
        exact ⟨ret_bool HF.out.symm, HB.out⟩
      subst h1
      have hdk : ((k : Int) != (k : Int)) = false := by simp
      go_upto_region 9 with (first | first | (go_at_call 125; refine (HC.out _).mono ?_; rintro e w2 ⟨rfl, hb⟩; replace g0 := keepE g0 hb; replace g1 := keepE g1 hb; replace g2 := keepE g2 hb; replace g3 := keepE g3 hb; replace g4 := keepE g4 hb; replace g5 := keepE g5 hb; replace g6 := keepE g6 hb; replace g7 := keepE g7 hb; replace g8 := keepE g8 hb; replace g9 := keepE g9 hb; replace g10 := keepE g10 hb; replace g11 := keepE g11 hb; replace g12 := keepE g12 hb; replace HB := Lib.hid (HB.out.trans (hb.mono HB.out.size)); clear hb) | (go_at_call 114; refine (HAt.out _ _ HB.out).mono ?_; rw [EA1.out]; rintro e w3 ⟨rfl, rfl⟩))
      clear hdk
      by_cases h2 : p.of = 0
      · have HT := Lib.hid (HS.out (by rw [HP.out, h2]; simp))
        go_wp2
        exact ⟨⟨k + 1, by omega, by go_num, HT.out, HB.out⟩, by simp [intOf]; omega⟩
      rcases HI0.out with ⟨e1, e2⟩ | ⟨i2, hi2, e1, e2, _, _⟩
      · have HF := Lib.hid (HBk.out (by rw [HP.out, e2]; simp [h2]))
        have EA2 := Lib.hid e1
        clear e1 e2
        go_wp2_with ((go_at_call 114; refine (HAt.out _ _ HB.out).mono ?_; rw [EA2.out]; rintro e w3 ⟨rfl, rfl⟩))
        go_ret
        exact ⟨ret_bool HF.out.symm, HB.out⟩
      · have EA2 := Lib.hid e1
        rw [e2] at HP
        obtain ⟨b2, off2, eq2, _, _, _, c2, _⟩ := HM.out.get i2 hi2
        cases eq2
        have HG2 := Lib.hid c2
        generalize l[i2] = q at *
        clear e1 e2 c2
        have hz2 : (0 : Int) ≤ i2 := by omega
        by_cases h3 : q.of = 0
        · have HT := Lib.hid (HS.out (by rw [HP.out]; simp [h3]))
          go_wp2_with ((go_at_call 114; refine (HAt.out _ _ HB.out).mono ?_; rw [EA2.out]; rintro e w3 ⟨rfl, rfl⟩); have k2 := keepE HG2.out HB.out)
          exact ⟨⟨k + 1, by omega, by go_num, HT.out, HB.out⟩, by simp [intOf]; omega⟩
        · have HF := Lib.hid (HBk.out (by rw [HP.out]; simp [h2, h3]))
          have hd : (q.of != 0) = true := by simpa using h3
          go_wp2_with ((go_at_call 114; refine (HAt.out _ _ HB.out).mono ?_; rw [EA2.out]; rintro e w3 ⟨rfl, rfl⟩); have k2 := keepE HG2.out HB.out)
          go_ret
          exact ⟨ret_bool HF.out.symm, HB.out⟩
    · obtain rfl : k = l.length := by omega
      have HF := Lib.hid (HDone.out ⟨hl1, hl2⟩ HA.out)
      go_wp2
      go_ret
      exact ⟨ret_bool HF.out.symm, HB.out⟩
end Go.Proofs.YtcelciomhngajaaGreatDoor

