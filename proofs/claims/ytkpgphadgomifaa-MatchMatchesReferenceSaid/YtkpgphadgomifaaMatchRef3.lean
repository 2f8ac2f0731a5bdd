/- The reference functions over costs: Total, Proves. -/
import Derived.Test.YtkpgphadgomifaaMatchRef2
namespace Go.Proofs.Ytkpgphadgomifaa
set_option linter.unusedSimpArgs false
set_option linter.unusedVariables false
open Go.RowKit Go.Sort Go.Shelf

/-- These are prices for the costs c. -/
structure IsPr (c : List (List Int)) (rs cs : List Int) : Prop where
  len1 : rs.length = c.length
  len2 : cs.length = wideL c
  col : ∀ k, k < wideL c → priceOk (gz cs k) = true ∧ gz cs k ≤ 0
  row : ∀ i, i < c.length → priceOk (gz rs i) = true
  feas : ∀ i k, i < c.length → k < wideL c → 0 ≤ cc c i k → gz rs i + gz cs k ≤ cc c i k
def priceL (c : List (List Int)) (rs cs : List Int) : Int := priceOf (wideL c) c.length (gz rs) (gz cs)
theorem IsPr.fair {c : List (List Int)} {rs cs : List Int} (h : IsPr c rs cs) : Fair (cc c) (wideL c) c.length (gz rs) (gz cs) := ⟨h.feas, fun k hk => (h.col k hk).2⟩
theorem price_iff {n : Int} : priceOk n = true ↔ -1000000000 ≤ n ∧ n ≤ 1000000000 := by simp [priceOk]
theorem sum_price {l : List Int} {n : Nat} (h : ∀ i, i < n → priceOk (gz l i) = true) : -1000000000 * (n : Int) ≤ sumN (gz l) n ∧ sumN (gz l) n ≤ 1000000000 * n := by
  induction n with
  | zero => simp [sumN]
  | succ n ih =>
    have i1 := ih fun i hi => h i (by omega)
    have i2 := price_iff.1 (h n (by omega))
    have e : sumN (gz l) (n + 1) = sumN (gz l) n + gz l n := rfl
    rw [e]; omega
theorem Rprice_b (n : Int) (w : World) : Calls Try.prog 45 #[.int .i64 n] w fun e w' => e = .returned (.bool (priceOk n)) ∧ w' = w :=
  (Rprice_any n w).mono fun _ _ h => ⟨h.1, h.2.symm⟩
set_option maxRecDepth 100000 in
set_option maxHeartbeats 4000000 in
theorem RTotal_any (a a2 a3 : Option Addr) (cap cap2 cap3 : Nat) (c : List (List Int)) (rs cs : List Int) (w : World) (he : formE c = 0) (hll : rs.length ≤ 100000000000000) (hll3 : cs.length ≤ 100000000000000) (hm : MatAt w a c) (hi : InAt w a2 rs) (hj : InAt w a3 cs) :
    Calls Try.prog 29 #[.slice a c.length cap, .slice a2 rs.length cap2, .slice a3 cs.length cap3] w fun e w' =>
      ∃ b : Bool, e = .returned (.tuple #[.int .i64 (if b then priceL c rs cs else 0), .bool b]) ∧ (b = true ↔ IsPr c rs cs) ∧ Below w.heap.size w w' := by
  obtain ⟨f1, f2, f3, f4⟩ := formE_ok he
  have HM := Lib.hid hm; have HI := Lib.hid hi; have HJ := Lib.hid hj; have HE := Lib.hid he; have HF3 := Lib.hid f3; have HF4 := Lib.hid f4
  have HB := Lib.hid (Below.refl w.heap.size w)
  clear hm hi he f3 f4 hj
  by_cases hne : rs.length = c.length
  case neg =>
    have h1 : ((rs.length : Int) != (c.length : Int)) = true := by simp; omega
    have HNE := Lib.hid hne; clear hne
    go_enter Try.func29, Try.ntmps29
    go_wp2
    go_ret2
    exact ⟨false, rfl, ⟨fun h => by (cases h), fun h => False.elim (absurd h.len1 HNE.out)⟩, HB.out⟩
  have h1 : ((rs.length : Int) != (c.length : Int)) = false := by simp [hne]
  have HNE := Lib.hid hne; clear hne
  by_cases hne2 : cs.length = wideL c
  case neg =>
    have h2 : ((cs.length : Int) != (wideL c : Int)) = true := by simp; omega
    have HNE2 := Lib.hid hne2; clear hne2
    go_enter Try.func29, Try.ntmps29
    go_wp2_with (fail)
    refine (Rcols_any _ _ c _ (by omega) HM.out).mono ?_
    rintro e w1 ⟨rfl, rfl⟩
    go_wp2
    go_ret2
    exact ⟨false, rfl, ⟨fun h => by (cases h), fun h => False.elim (absurd h.len2 HNE2.out)⟩, HB.out⟩
  have h2 : ((cs.length : Int) != (wideL c : Int)) = false := by simp [hne2]
  have HNE2 := Lib.hid hne2; clear hne2
  go_enter Try.func29, Try.ntmps29
  go_wp2_with (fail)
  refine (Rcols_any _ _ c _ (by omega) HM.out).mono ?_
  rintro e w1 ⟨rfl, rfl⟩
  go_wp2
  clear HB
  go_loopw [8, 9] (fun s6 s7 wr => ∃ k : Nat, k ≤ wideL c ∧ s7 = .int .i64 k ∧ s6 = .int .i64 (sumN (gz cs) k) ∧ (∀ i, i < k → priceOk (gz cs i) = true ∧ gz cs i ≤ 0) ∧ Below w.heap.size w wr) (fun _ i _ => wideL c - (intOf i).toNat)
  case atStart => exact ⟨0, Nat.zero_le _, rfl, rfl, fun i hi => by omega, Below.refl _ _⟩
  case round =>
    obtain ⟨k, hk, rfl, rfl, hall, hb⟩ := hrel
    have HA := Lib.hid hall; have HB := Lib.hid hb
    obtain ⟨q1, q2⟩ := sum_price fun i hi => (hall i hi).1
    clear hall hb
    by_cases hlt : k < wideL c
    · have hkl : k < cs.length := by have := HNE2.out; omega
      obtain ⟨b3, o3, rfl, d0⟩ := HJ.out.get k hkl
      have hgz := gz_get hkl
      generalize hX : cs[k] = X at *
      have HG := Lib.hid hgz; have HX := Lib.hid hX; clear hgz hX
      have d1 := keepC d0 HB.out
      go_wp2_with (fail)
      refine (Rprice_b X _).mono ?_
      rintro e w1 ⟨rfl, hww⟩
      subst hww
      cases hp : priceOk X
      · go_wp2
        go_ret2
        exact ⟨false, rfl, ⟨fun h => by (cases h), fun h => False.elim (by have := (h.col k hlt).1; rw [HG.out, hp] at this; cases this)⟩, HB.out⟩
      · by_cases h0 : 0 < X
        · go_wp2
          go_ret2
          exact ⟨false, rfl, ⟨fun h => by (cases h), fun h => False.elim (by have := (h.col k hlt).2; rw [HG.out] at this; omega)⟩, HB.out⟩
        · have HP := Lib.hid hp
          obtain ⟨p1, p2⟩ := price_iff.1 hp
          go_wp2
          go_roundw
          case rel => exact ⟨k + 1, by omega, by go_num, by rw [show sumN (gz cs) (k + 1) = sumN (gz cs) k + gz cs k from rfl, HG.out], fun i hi => by
            by_cases e : i = k
            · subst e; rw [HG.out]; exact ⟨HP.out, by omega⟩
            · exact HA.out i (by omega), HB.out⟩
          case measure => simp [intOf]; omega
    · have hge : ¬ k < cs.length := by have := HNE2.out; omega
      have hge2 : ¬ wideL c < cs.length := by have := HNE2.out; omega
      have hke : k = wideL c := by omega
      have HC := Lib.hid (show ∀ i, i < wideL c → priceOk (gz cs i) = true ∧ gz cs i ≤ 0 from fun i hi => HA.out i (by omega))
      rw [hke] at q1 q2
      rw [show sumN (gz cs) k = sumN (gz cs) (wideL c) by rw [hke]]
      go_wp2
      go_loopw [8, 11] (fun s8 s11 wr => ∃ i : Nat, i ≤ c.length ∧ s11 = .int .i64 i ∧ s8 = .int .i64 (sumN (gz cs) (wideL c) + sumN (gz rs) i) ∧ (∀ i', i' < i → priceOk (gz rs i') = true ∧ ∀ k, k < wideL c → 0 ≤ cc c i' k → gz rs i' + gz cs k ≤ cc c i' k) ∧ Below w.heap.size w wr) (fun _ i _ => c.length - (intOf i).toNat)
      case atStart => exact ⟨0, Nat.zero_le _, rfl, by simp [sumN], fun i hi => by omega, HB.out⟩
      case round =>
        clear HB HA hge hge2 hke hlt
        obtain ⟨i, hi, rfl, rfl, hall, hb⟩ := hrel
        have HA := Lib.hid hall; have HB := Lib.hid hb
        obtain ⟨q3, q4⟩ := sum_price fun i hi => (hall i hi).1
        clear hall hb
        by_cases hlt : i < c.length
        · have hil : i < rs.length := by have := HNE.out; omega
          obtain ⟨b2, o2, rfl, d0⟩ := HI.out.get i hil
          obtain ⟨b, off, ai, ci, rfl, c0, hsk, hik⟩ := HM.out.get i hlt
          have hlen := HF3.out c[i] (List.getElem_mem _)
          have HIK := Lib.hid hik
          rw [hlen] at c0
          clear hsk hik
          have hgz := gz_get hil
          generalize hX : rs[i] = X at *
          have HG := Lib.hid hgz; have HX := Lib.hid hX; clear hgz hX
          have d1 := keepC d0 HB.out
          go_wp2_with (fail)
          refine (Rprice_b X _).mono ?_
          rintro e w1 ⟨rfl, hww⟩
          subst hww
          cases hp : priceOk X
          · go_wp2
            go_ret2
            exact ⟨false, rfl, ⟨fun h => by (cases h), fun h => False.elim (by have := h.row i hlt; rw [HG.out, hp] at this; cases this)⟩, HB.out⟩
          · have HP := Lib.hid hp
            obtain ⟨p1, p2⟩ := price_iff.1 hp
            go_wp2
            go_loopw [13] (fun s13 wr => ∃ m : Nat, m ≤ wideL c ∧ s13 = .int .i64 m ∧ (∀ k, k < m → 0 ≤ cc c i k → X + gz cs k ≤ cc c i k) ∧ Below w.heap.size w wr) (fun i _ => wideL c - (intOf i).toNat)
            case atStart => exact ⟨0, Nat.zero_le _, rfl, fun m' hm' => by omega, HB.out⟩
            case round =>
              obtain ⟨m, hm, rfl, hall, hb⟩ := hrel
              clear HB d1
              have HAA := Lib.hid hall; have HB := Lib.hid hb; clear hall hb
              by_cases hmk : m < wideL c
              · have hml : m < cs.length := by have := HNE2.out; omega
                obtain ⟨b3, o3, rfl, d3⟩ := HJ.out.get m hml
                obtain ⟨b4, o4, rfl, e0⟩ := HIK.out.get m (by omega)
                rw [← cc_get hlt (by omega)] at e0
                obtain ⟨v1, v2⟩ := HC.out m hmk
                have v3 := price_iff.1 v1
                have hgm := gz_get hml
                rw [hgm] at v1 v2 v3
                generalize hY : cs[m] = Y at *
                have HGm := Lib.hid hgm; have HY := Lib.hid hY; clear hgm hY v1
                obtain ⟨v4, v5⟩ := v3
                obtain ⟨n1, n2⟩ := cc_le HF3.out HF4.out i m hlt hmk
                generalize hN : cc c i m = N at *
                have HN := Lib.hid hN; clear hN
                go_wp2
                have g0 := cell_regrown (keepC d0 HB.out); have g1 := cell_regrown (keepC c0 HB.out); have g2 := cell_regrown (keepC e0 HB.out); have g3 := cell_regrown (keepC d3 HB.out)
                cases hs : decide (0 ≤ N)
                · refine wp_quietB (by kernel_rfl) (by kernel_rfl) ?_; (repeat (go_big_quiet_step (fail))); refine wpQuiet_nil ?_; intro wq hq; replace HB := Lib.hid (HB.out.trans (hq.mono HB.out.size)); clear hq
                  clear g0 g1 g2 g3
                  go_wp2
                  go_roundw
                  case rel => exact ⟨m + 1, by omega, by go_num, fun k hk h0 => by
                    by_cases e : k = m
                    · subst e; rw [HN.out] at h0; simp at hs; omega
                    · exact HAA.out k (by omega) h0, HB.out⟩
                  case measure => simp [intOf]; omega
                · refine wp_quietB (by kernel_rfl) (by kernel_rfl) ?_; (repeat (go_big_quiet_step (fail))); refine wpQuiet_nil ?_; intro wq hq; replace HB := Lib.hid (HB.out.trans (hq.mono HB.out.size)); clear hq
                  clear g0 g1 g2 g3
                  by_cases hgt : N < X + Y
                  · go_wp2
                    go_ret2
                    exact ⟨false, rfl, ⟨fun h => by (cases h), fun h => False.elim (by have := h.feas i m hlt hmk (by rw [HN.out]; simpa using hs); rw [HN.out, HG.out, HGm.out] at this; omega)⟩, HB.out⟩
                  · go_wp2
                    go_roundw
                    case rel => exact ⟨m + 1, by omega, by go_num, fun k hk h0 => by
                      by_cases e : k = m
                      · subst e; rw [HN.out, HGm.out]; omega
                      · exact HAA.out k (by omega) h0, HB.out⟩
                    case measure => simp [intOf]; omega
              · have hge : ¬ m < cs.length := by have := HNE2.out; omega
                have HF := Lib.hid (show ∀ k, k < wideL c → 0 ≤ cc c i k → X + gz cs k ≤ cc c i k from fun k hk => HAA.out k (by omega))
                go_wp2
                go_roundw
                case rel => exact ⟨i + 1, by omega, by go_num, by rw [show sumN (gz rs) (i + 1) = sumN (gz rs) i + gz rs i from rfl, HG.out, Int.add_assoc], fun i' hi' => by
                  by_cases e : i' = i
                  · subst e; rw [HG.out]; exact ⟨HP.out, HF.out⟩
                  · exact HA.out i' (by omega), HB.out⟩
                case measure => simp [intOf]; omega
        · have hge : ¬ i < rs.length := by have := HNE.out; omega
          go_wp2
          go_ret2
          have hke : i = c.length := by omega
          subst hke
          exact ⟨true, by simp only [if_pos]; rw [priceL, priceOf, Int.add_comm]; rfl, ⟨fun _ => ⟨HNE.out, HNE2.out, HC.out, fun i hi => (HA.out i hi).1, fun i k hi hk => (HA.out i hi).2 k hk⟩, fun _ => rfl⟩, HB.out⟩
end Go.Proofs.Ytkpgphadgomifaa
