/- The reference functions over costs: Matching. -/
import Derived.Test.YtkpgphadgomifaaMatchRef
namespace Go.Proofs.Ytkpgphadgomifaa
set_option linter.unusedSimpArgs false
set_option linter.unusedVariables false
open Go.RowKit Go.Sort Go.Shelf

theorem keepC {w w' : World} {p : Addr} {v : Value} (h : w.cell? p = some v) (hb : Below w.heap.size w w') : w'.cell? p = some v := by
  have hp : p.block < w.heap.size := by
    unfold World.cell? at h
    rcases Nat.lt_or_ge p.block w.heap.size with h1 | h1
    · exact h1
    · rw [Array.getElem?_eq_none h1] at h; cases h
  rw [hb.cell hp]; exact h
def gz (l : List Int) (i : Nat) : Int := l.getD i (-1)
def nz (l : List Int) (i : Nat) : Nat := (gz l i).toNat
theorem gz_get {l : List Int} {i : Nat} (hi : i < l.length) : gz l i = l[i] := by simp [gz, List.getD, hi]
/-- The columns l are a matching of all rows of c. -/
structure IsMt (c : List (List Int)) (l : List Int) : Prop where
  len : l.length = c.length
  in_ : ∀ i, i < c.length → 0 ≤ gz l i ∧ gz l i < wideL c
  can : ∀ i, i < c.length → 0 ≤ cc c i (nz l i)
  dif : ∀ k i, k < i → i < c.length → gz l k ≠ gz l i
def costL (c : List (List Int)) (l : List Int) : Int := costOf (cc c) c.length (nz l)
theorem IsMt.mt {c : List (List Int)} {l : List Int} (h : IsMt c l) : Mt (may (cc c)) (fun i => i < c.length) (wideL c) (nz l) := by
  refine ⟨fun i hi => ?_, fun i hi => (may_iff _ _ _).2 (h.can i hi), fun i j hi hj e => ?_⟩
  · have := h.in_ i hi
    simp only [nz]; omega
  · have h1 := (h.in_ i hi).1
    have h2 := (h.in_ j hj).1
    have e2 : gz l i = gz l j := by simp only [nz] at e; omega
    rcases Nat.lt_trichotomy i j with q | q | q
    · exact absurd e2 (h.dif i j q hj)
    · exact q
    · exact absurd e2.symm (h.dif j i q hi)
theorem IsMt.of {c : List (List Int)} {l : List Int} (hl : l.length = c.length) {f : Nat → Nat} (h : Mt (may (cc c)) (fun i => i < c.length) (wideL c) f) (e : ∀ i, i < c.length → gz l i = f i) : IsMt c l := by
  refine ⟨hl, fun i hi => ?_, fun i hi => ?_, fun k i hki hi e2 => ?_⟩
  · have := h.lt i hi
    rw [e i hi]; omega
  · have := (may_iff _ _ _).1 (h.can i hi)
    rw [nz, e i hi]; exact this
  · rw [e k (by omega), e i hi] at e2
    have := h.inj k i (by show k < c.length; omega) hi (by omega)
    omega
/-- So far. -/
structure IsMtTo (c : List (List Int)) (l : List Int) (k : Nat) : Prop where
  in_ : ∀ i, i < k → 0 ≤ gz l i ∧ gz l i < wideL c
  can : ∀ i, i < k → 0 ≤ cc c i (nz l i)
  dif : ∀ k' i, k' < i → i < k → gz l k' ≠ gz l i
theorem Rcols_b (a : Option Addr) (cap : Nat) (c : List (List Int)) (w : World) (hl : c.length ≤ 100000000000000) (hm : MatAt w a c) :
    Calls Try.prog 36 #[.slice a c.length cap] w fun e w' => e = .returned (.int .i64 (wideL c : Nat)) ∧ Below w.heap.size w w' :=
  (Rcols_any a cap c w hl hm).mono fun e w' ⟨h1, h2⟩ => ⟨h1, by subst h2; exact Below.refl _ _⟩
theorem IsMtTo.end_ {c : List (List Int)} {l : List Int} (h : IsMtTo c l c.length) (hl : l.length = c.length) : IsMt c l := ⟨hl, h.in_, h.can, h.dif⟩
theorem IsMtTo.next {c : List (List Int)} {l : List Int} {k : Nat} (h : IsMtTo c l k) (h1 : 0 ≤ gz l k ∧ gz l k < wideL c) (h2 : 0 ≤ cc c k (nz l k)) (h3 : ∀ k', k' < k → gz l k' ≠ gz l k) : IsMtTo c l (k + 1) := by
  refine ⟨fun i hi => ?_, fun i hi => ?_, fun k' i hk hi => ?_⟩
  · by_cases e : i = k
    · subst e; exact h1
    · exact h.in_ i (by omega)
  · by_cases e : i = k
    · subst e; exact h2
    · exact h.can i (by omega)
  · by_cases e : i = k
    · subst e; exact h3 k' hk
    · exact h.dif k' i hk (by omega)
theorem costTo_bounds {c : List (List Int)} {l : List Int} (hc : formE c = 0) {k : Nat} (hk : k ≤ c.length) (h : IsMtTo c l k) : 0 ≤ costOf (cc c) k (nz l) ∧ costOf (cc c) k (nz l) ≤ 1000000 * k := by
  obtain ⟨_, _, f3, f4⟩ := formE_ok hc
  have cl := cc_le f3 f4
  clear f3 f4
  induction k with
  | zero => simp [costOf, sumN]
  | succ k ih =>
    have i1 := ih (by omega) ⟨fun i hi => h.in_ i (by omega), fun i hi => h.can i (by omega), fun a b x y => h.dif a b x (by omega)⟩
    have h1 := h.can k (by omega)
    have h2 := h.in_ k (by omega)
    have h3 := (cl k (nz l k) (by omega) (by simp only [nz]; omega)).2
    have e : costOf (cc c) (k + 1) (nz l) = costOf (cc c) k (nz l) + cc c k (nz l k) := rfl
    rw [e]; omega
set_option maxRecDepth 100000 in
set_option maxHeartbeats 4000000 in
theorem RMatching_any (a a2 : Option Addr) (cap cap2 : Nat) (c : List (List Int)) (l : List Int) (w : World) (he : formE c = 0) (hll : l.length ≤ 100000000000000) (hm : MatAt w a c) (hi : InAt w a2 l) :
    Calls Try.prog 20 #[.slice a c.length cap, .slice a2 l.length cap2] w fun e w' =>
      ∃ b : Bool, e = .returned (.tuple #[.int .i64 (if b then costL c l else 0), .bool b]) ∧ (b = true ↔ IsMt c l) ∧ Below w.heap.size w w' := by
  obtain ⟨f1, f2, f3, f4⟩ := formE_ok he
  have HM := Lib.hid hm; have HI := Lib.hid hi; have HE := Lib.hid he; have HF3 := Lib.hid f3; have HF4 := Lib.hid f4
  have HB := Lib.hid (Below.refl w.heap.size w)
  clear hm hi he f3 f4
  by_cases hne : l.length = c.length
  case neg =>
    have h1 : ((l.length : Int) != (c.length : Int)) = true := by simp; omega
    go_enter Try.func20, Try.ntmps20
    go_wp2
    go_ret2
    exact ⟨false, rfl, ⟨fun h => by (cases h), fun h => False.elim (absurd h.len hne)⟩, HB.out⟩
  have h1 : ((l.length : Int) != (c.length : Int)) = false := by simp [hne]
  have HNE := Lib.hid hne; clear hne
  go_enter Try.func20, Try.ntmps20
  go_wp2
  clear HB
  go_loopw [6, 7] (fun s6 s7 wr => ∃ k : Nat, k ≤ c.length ∧ s7 = .int .i64 k ∧ s6 = .int .i64 (costOf (cc c) k (nz l)) ∧ IsMtTo c l k ∧ Below w.heap.size w wr) (fun _ i _ => c.length - (intOf i).toNat)
  case atStart => exact ⟨0, Nat.zero_le _, rfl, rfl, ⟨fun i hi => by omega, fun i hi => by omega, fun a b h1 h2 => by omega⟩, Below.refl _ _⟩
  case round =>
    obtain ⟨k, hk, rfl, rfl, ht, hb⟩ := hrel
    have HT := Lib.hid ht; have HB := Lib.hid hb
    obtain ⟨q1, q2⟩ := costTo_bounds HE.out hk ht
    clear ht hb
    by_cases hlt : k < c.length
    · have hkl : k < l.length := by have := HNE.out; omega
      have d1 : decide ((k : Int) < (l.length : Int)) = true := by have := HNE.out; simp; omega
      obtain ⟨b2, o2, rfl, d0⟩ := HI.out.get k hkl
      obtain ⟨b, off, ai, ci, rfl, c0, hsk, hik⟩ := HM.out.get k hlt
      have hlen := HF3.out c[k] (List.getElem_mem _)
      have HIK := Lib.hid hik
      rw [hlen] at c0
      clear hsk hik
      have hgz := gz_get hkl
      generalize hX : l[k] = X at *
      have HG := Lib.hid hgz; have HX := Lib.hid hX; clear hgz hX
      go_wp2
      have g0 := cell_regrown (keepC d0 HB.out)
      cases hn : decide (X < 0)
      · obtain ⟨j, rfl⟩ : ∃ j : Nat, X = j := ⟨X.toNat, by simp at hn; omega⟩
        have g1 := HB.out
        refine wp_quietB (by kernel_rfl) (by kernel_rfl) ?_; (repeat (go_big_quiet_step (first | (go_at_call 36; go_loud (refine Calls.regrown_of (Rcols_b _ _ c _ (by omega) (HM.out.below (g1.trans ((below_regrown _ _ _).mono g1.size))))))))); refine wpQuiet_nil ?_; intro wq hq; replace HB := Lib.hid (HB.out.trans (hq.mono HB.out.size)); clear hq
        clear g0 g1
        have hnz : nz l k = j := by have := HG.out; simp only [nz]; omega
        have HNZ := Lib.hid hnz; clear hnz
        by_cases hw : j < wideL c
        · obtain ⟨b3, o3, rfl, e0⟩ := HIK.out.get j (by omega)
          rw [← cc_get hlt (by omega)] at e0
          go_wp2
          have g0 := cell_regrown (keepC d0 HB.out); have g1 := cell_regrown (keepC c0 HB.out); have g2 := cell_regrown (keepC e0 HB.out)
          refine wp_quietB (by kernel_rfl) (by kernel_rfl) ?_; (repeat (go_big_quiet_step (fail))); refine wpQuiet_nil ?_; intro wq hq; replace HB := Lib.hid (HB.out.trans (hq.mono HB.out.size)); clear hq
          clear g0 g1 g2
          by_cases hcc : cc c k j < 0
          · go_wp2
            go_ret2
            exact ⟨false, rfl, ⟨fun h => by (cases h), fun h => False.elim (by have := h.can k hlt; rw [HNZ.out] at this; omega)⟩, HB.out⟩
          · go_wp2
            go_loopw [8] (fun s8 wr => ∃ m : Nat, m ≤ k ∧ s8 = .int .i64 m ∧ (∀ m', m' < m → gz l m' ≠ gz l k) ∧ Below w.heap.size w wr) (fun i _ => k - (intOf i).toNat)
            case atStart => exact ⟨0, Nat.zero_le _, rfl, fun m' hm' => by omega, HB.out⟩
            case round =>
              obtain ⟨m, hm, rfl, hall, hb⟩ := hrel
              have HA := Lib.hid hall; clear HB; have HB := Lib.hid hb; clear hall hb
              by_cases hmk : m < k
              · obtain ⟨b4, o4, e4, d4⟩ := HI.out.get m (by omega)
                cases e4
                have hgm := gz_get (l := l) (i := m) (by omega)
                generalize hY : l[m] = Y at *
                have HGm := Lib.hid hgm; have HY := Lib.hid hY; clear hgm hY
                go_wp2
                have g0 := cell_regrown (keepC d0 HB.out); have g1 := cell_regrown (keepC d4 HB.out)
                refine wp_quietB (by kernel_rfl) (by kernel_rfl) ?_; (repeat (go_big_quiet_step (fail))); refine wpQuiet_nil ?_; intro wq hq; replace HB := Lib.hid (HB.out.trans (hq.mono HB.out.size)); clear hq
                clear g0 g1
                by_cases hyj : Y = j
                · have hb1 : (Y == (j : Int)) = true := by simpa using hyj
                  go_wp2
                  go_ret2
                  exact ⟨false, rfl, ⟨fun h => by (cases h), fun h => False.elim (h.dif m k hmk hlt (by rw [HGm.out, HG.out]; exact hyj))⟩, HB.out⟩
                · have hb1 : (Y == (j : Int)) = false := by simpa using hyj
                  have HYJ := Lib.hid hyj; clear hyj
                  go_wp2
                  go_roundw
                  case rel => exact ⟨m + 1, by omega, by go_num, fun m' hm' => by
                    by_cases e : m' = m
                    · subst e; rw [HGm.out, HG.out]; exact HYJ.out
                    · exact HA.out m' (by omega), HB.out⟩
                  case measure => simp [intOf]; omega
              · have hmk' : m = k := by omega
                subst hmk'
                have hbd := (cc_le HF3.out HF4.out m j hlt hw).2
                go_wp2
                have g0 := cell_regrown (keepC d0 HB.out); have g1 := cell_regrown (keepC c0 HB.out); have g2 := cell_regrown (keepC e0 HB.out)
                refine wp_quietB (by kernel_rfl) (by kernel_rfl) ?_; (repeat (go_big_quiet_step (fail))); refine wpQuiet_nil ?_; intro wq hq; replace HB := Lib.hid (HB.out.trans (hq.mono HB.out.size)); clear hq
                clear g0 g1 g2
                go_wp2
                go_roundw
                case rel => exact ⟨m + 1, by omega, by go_num, by
                  have e : costOf (cc c) (m + 1) (nz l) = costOf (cc c) m (nz l) + cc c m (nz l m) := rfl
                  rw [e, HNZ.out], HT.out.next (by rw [HG.out]; omega) (by rw [HNZ.out]; omega) HA.out, HB.out⟩
                case measure => simp [intOf]; omega
        · go_wp2
          go_ret2
          exact ⟨false, rfl, ⟨fun h => by (cases h), fun h => False.elim (by have := (h.in_ k hlt).2; rw [HG.out] at this; omega)⟩, HB.out⟩
      · refine wp_quietB (by kernel_rfl) (by kernel_rfl) ?_; (repeat (go_big_quiet_step (fail))); refine wpQuiet_nil ?_; intro wq hq; replace HB := Lib.hid (HB.out.trans (hq.mono HB.out.size)); clear hq
        go_wp2
        go_ret2
        exact ⟨false, rfl, ⟨fun h => by (cases h), fun h => False.elim (by have := (h.in_ k hlt).1; rw [HG.out] at this; simp at hn; omega)⟩, HB.out⟩
    · have hge : ¬ k < l.length := by have := HNE.out; omega
      go_wp2
      go_ret2
      have hke : k = c.length := by omega
      subst hke
      exact ⟨true, rfl, ⟨fun _ => HT.out.end_ HNE.out, fun _ => rfl⟩, HB.out⟩
end Go.Proofs.Ytkpgphadgomifaa
