/- Plain laws: some rows of costs; the short rows; one row less. -/
import Derived.Test.YtkpgphadgomifaaMatchSome
namespace Go.Proofs.Ytkpgphadgomifaa
set_option linter.unusedSimpArgs false
set_option linter.unusedVariables false
open Go.RowKit Go.Sort Go.Shelf

theorem pick_getD {c : List (List Int)} {l : List Int} {i : Nat} (hi : i < l.length) : (pick c l).getD i [] = c.getD l[i].toNat [] := by
  simp [pick, List.getD, hi]
theorem cc_pick {c : List (List Int)} {l : List Int} {i k : Nat} (hi : i < l.length) : cc (pick c l) i k = cc c l[i].toNat k := by
  simp only [cc, pick_getD hi]
theorem getD_mem_c {c : List (List Int)} {i : Nat} (h : i < c.length) : c.getD i [] ∈ c := by
  simp only [List.getD, List.getElem?_eq_getElem h, Option.getD_some]
  exact List.getElem_mem _
theorem pick_mem {c : List (List Int)} {l : List Int} (hl : ∀ r ∈ l, 0 ≤ r ∧ r < c.length) {x : List Int} (hx : x ∈ pick c l) : x ∈ c := by
  obtain ⟨r, hr, rfl⟩ := List.mem_map.1 hx
  have := hl r hr
  exact getD_mem_c (by omega)
theorem wide_pick {c : List (List Int)} {l : List Int} (hf : ∀ x ∈ c, x.length = wideL c) (hl : ∀ r ∈ l, 0 ≤ r ∧ r < c.length) (hne : l ≠ []) : wideL (pick c l) = wideL c := by
  cases l with
  | nil => exact absurd rfl hne
  | cons r l =>
    have : (pick c (r :: l)).head? = some (c.getD r.toNat []) := rfl
    rw [wideL, this]
    have h1 := hl r (by simp)
    exact hf _ (getD_mem_c (by omega))
theorem form_pick {c : List (List Int)} {l : List Int} (he : formE c = 0) (hl : ∀ r ∈ l, 0 ≤ r ∧ r < c.length) (hlen : l.length ≤ 200) : formE (pick c l) = 0 := by
  obtain ⟨f1, f2, f3, f4⟩ := formE_ok he
  refine form_ok (by rw [pick_len]; exact hlen) ?_ fun i hi => ?_
  · rw [List.any_eq_false]
    intro x hx
    have := f3 x (pick_mem hl hx)
    simp; omega
  · have hm := pick_mem hl (List.getElem_mem hi)
    have hne : l ≠ [] := by rintro rfl; simp [pick] at hi
    simp only [rowOk, Bool.and_eq_true, decide_eq_true_eq, List.all_eq_true, costOk]
    exact ⟨by rw [wide_pick f3 hl hne]; exact f3 _ hm, fun n hn => f4 _ hm n hn⟩
/-- A matching of the rows is one of those that are picked. -/
theorem mt_pick {c : List (List Int)} {l : List Int} {f : Nat → Nat} (he : formE c = 0) (hl : ∀ r ∈ l, 0 ≤ r ∧ r < c.length) (hnd : l.Nodup) (hf : Mt (may (cc c)) (fun i => (i : Int) ∈ l) (wideL c) f) :
    Mt (may (cc (pick c l))) (fun i => i < (pick c l).length) (wideL (pick c l)) (fun i => f (l.getD i 0).toNat) := by
  obtain ⟨f1, f2, f3, f4⟩ := formE_ok he
  have key : ∀ i (hi : i < l.length), ((l[i].toNat : Nat) : Int) ∈ l := fun i hi => by
    have := hl l[i] (List.getElem_mem _)
    rw [Int.toNat_of_nonneg this.1]
    exact List.getElem_mem _
  have gd : ∀ i (hi : i < l.length), l.getD i 0 = l[i] := fun i hi => by simp [List.getD, hi]
  refine ⟨fun i hi => ?_, fun i hi => ?_, fun i j hi hj e => ?_⟩
  · rw [pick_len] at hi
    have hne : l ≠ [] := by rintro rfl; simp at hi
    simp only [gd i hi]
    rw [wide_pick f3 hl hne]
    exact hf.lt _ (key i hi)
  · rw [pick_len] at hi
    rw [may_iff, cc_pick hi]
    simp only [gd i hi]
    exact (may_iff _ _ _).1 (hf.can _ (key i hi))
  · rw [pick_len] at hi hj
    simp only [gd i hi, gd j hj] at e
    have h1 := hf.inj _ _ (key i hi) (key j hj) e
    have h2 := hl l[i] (List.getElem_mem _)
    have h3 := hl l[j] (List.getElem_mem _)
    exact (List.getElem_inj hnd).1 (show l[i] = l[j] by omega)
/-- What the short rows are. -/
structure Shorts (c : List (List Int)) (l : List Int) : Prop where
  pos : 0 < l.length
  le : l.length ≤ c.length
  asc : l.Pairwise (· < ·)
  in_ : ∀ r ∈ l, 0 ≤ r ∧ r < c.length
  others : ∀ i (hi : i < l.length), Mtd (may (cc (pick c (l.eraseIdx i)))) (fun x => x < (pick c (l.eraseIdx i)).length) (wideL (pick c (l.eraseIdx i)))
  few : ((List.range (wideL c)).filter fun k => l.any fun r => decide (0 ≤ cc c r.toNat k)).length < l.length
theorem nodup_le_of_sub {l ks : List Nat} (hn : l.Nodup) (h : ∀ x ∈ l, x ∈ ks) : l.length ≤ ks.length :=
  pigeon l ks (fun x => x) hn (fun _ _ _ _ e => e) h
theorem shorts_of {c : List (List Int)} {j : Nat} {ms : List Nat} (he : formE c = 0) (C : Circ (canC c) (wideL c) c.length j ms) : Shorts c (isort (ms.map fun i : Nat => (i : Int))) := by
  have hnd : (ms.map fun i : Nat => (i : Int)).Nodup := List.Pairwise.map (R := fun a b => a ≠ b) (fun i : Nat => (i : Int)) (fun a b h e => h (by omega)) C.nodup
  obtain ⟨s1, s2⟩ := isort_nodup hnd
  generalize hL : isort (ms.map fun i : Nat => (i : Int)) = l at *
  have hlen : l.length = ms.length := by rw [s2.length_eq, List.length_map]
  have hmem : ∀ r, r ∈ l ↔ ∃ i ∈ ms, (i : Int) = r := fun r => by rw [s2.mem_iff, List.mem_map]
  have hin : ∀ r ∈ l, 0 ≤ r ∧ r < c.length := fun r hr => by
    obtain ⟨i, hi, rfl⟩ := (hmem r).1 hr
    have := C.le i hi
    have := C.lt
    omega
  have hndl : l.Nodup := s1.imp fun {a b} h => by omega
  refine ⟨?_, ?_, s1, hin, fun i hi => ?_, ?_⟩
  · rw [hlen]; exact List.length_pos_of_mem C.mem
  · rw [hlen]
    have := nodup_le_of_sub C.nodup (ks := List.range c.length) fun x hx => by
      have := C.le x hx
      have := C.lt
      exact List.mem_range.2 (by omega)
    simpa using this
  · obtain ⟨x, hx, hxi⟩ := (hmem l[i]).1 (List.getElem_mem _)
    obtain ⟨f, hf⟩ := C.others x hx
    have hsub : ∀ r ∈ l.eraseIdx i, r ∈ l := fun r hr => List.mem_of_mem_eraseIdx hr
    have hnd2 : (l.eraseIdx i).Nodup := hndl.sublist (List.eraseIdx_sublist _ _)
    refine ⟨_, mt_pick he (fun r hr => hin r (hsub r hr)) hnd2 (f := f) ?_⟩
    refine hf.sub (R' := fun y => (y : Int) ∈ l.eraseIdx i) fun y hy => ?_
    obtain ⟨z, hz, hzy⟩ := (hmem _).1 (hsub _ hy)
    have hzy : z = y := by omega
    subst hzy
    refine ⟨C.le z hz, fun e => ?_⟩
    subst e
    rw [hxi] at hy
    obtain ⟨m, hm, hme, hmi⟩ := List.mem_eraseIdx_iff_getElem.1 hy
    exact hme ((List.getElem_inj hndl).1 hmi)
  · obtain ⟨ks, hk1, hk2⟩ := C.few
    rw [hlen]
    have : ((List.range (wideL c)).filter fun k => l.any fun r => decide (0 ≤ cc c r.toNat k)).length ≤ ks.length := by
      refine nodup_le_of_sub (List.Pairwise.filter _ List.nodup_range) fun k hk => ?_
      rw [List.mem_filter, List.mem_range, List.any_eq_true] at hk
      obtain ⟨hk, r, hr, hc⟩ := hk
      obtain ⟨i, hi, rfl⟩ := (hmem r).1 hr
      exact hk2 i hi k hk (by simpa [canC, cc] using hc)
    omega
/-- One row less: its index is skipped. -/
def skip (k i : Nat) : Nat := if i < k then i else i + 1
def upTo (k m : Nat) : Nat := if m ≤ k then m else m - 1
def rowsBut (k m : Nat) : List Int := (List.range (upTo k m)).map fun i => (skip k i : Nat)
theorem rowsBut_zero (k : Nat) : rowsBut k 0 = [] := by simp [rowsBut, upTo]
theorem rowsBut_same (k : Nat) : rowsBut k (k + 1) = rowsBut k k := by
  have e : upTo k (k + 1) = upTo k k := by unfold upTo; split <;> split <;> omega
  unfold rowsBut; rw [e]
theorem rowsBut_next {k m : Nat} (h : m ≠ k) : rowsBut k (m + 1) = rowsBut k m ++ [(m : Int)] := by
  unfold rowsBut
  have e : upTo k (m + 1) = upTo k m + 1 := by unfold upTo; split <;> split <;> omega
  rw [e, List.range_succ, List.map_append]
  congr 1
  simp only [List.map_cons, List.map_nil, List.cons.injEq, and_true]
  unfold skip upTo
  split <;> split <;> omega
theorem rowsBut_len {k m : Nat} (h : k < m) : (rowsBut k m).length = m - 1 := by
  simp [rowsBut, upTo]; omega
theorem rowsBut_in {k m : Nat} : ∀ r ∈ rowsBut k m, 0 ≤ r ∧ r < (m : Int) ∧ r ≠ k := fun r hr => by
  obtain ⟨i, hi, rfl⟩ := List.mem_map.1 hr
  rw [List.mem_range] at hi
  unfold upTo at hi
  unfold skip
  split at hi <;> split <;> omega
theorem rowsBut_nodup (k m : Nat) : (rowsBut k m).Nodup := by
  refine List.Pairwise.map (R := fun a b => a ≠ b) _ (fun a b h e => h ?_) List.nodup_range
  unfold skip at e
  split at e <;> split at e <;> omega
theorem rowsBut_get {k m i : Nat} (hi : i < (rowsBut k m).length) : (rowsBut k m)[i] = (skip k i : Nat) := by
  simp [rowsBut]
theorem sum_skip (F : Nat → Int) (k : Nat) : ∀ m, sumN (fun i => F (skip k i)) (upTo k m) = sumN F m - (if k < m then F k else 0) := fun m => by
  induction m with
  | zero => simp [upTo, sumN]
  | succ m ih =>
    by_cases e : m = k
    · subst e
      have e1 : upTo m (m + 1) = upTo m m := by simp [upTo]
      rw [e1, ih, if_neg (by omega), if_pos (by omega)]
      simp only [sumN]; omega
    · have e1 : upTo k (m + 1) = upTo k m + 1 := by unfold upTo; split <;> split <;> omega
      have e2 : skip k (upTo k m) = m := by unfold skip upTo; split <;> split <;> omega
      rw [e1]
      simp only [sumN]
      rw [ih, e2]
      by_cases h : k < m
      · rw [if_pos h, if_pos (by omega)]; omega
      · rw [if_neg h, if_neg (by omega)]; omega
theorem fewer_cost {c : List (List Int)} {f : Nat → Nat} {k : Nat} (hk : k < c.length) :
    costOf (cc (pick c (rowsBut k c.length))) (pick c (rowsBut k c.length)).length (fun i => f ((rowsBut k c.length).getD i 0).toNat) = costOf (cc c) c.length f - cc c k (f k) := by
  have hl := rowsBut_len hk
  unfold costOf
  rw [pick_len, hl]
  have e : sumN (fun i => cc (pick c (rowsBut k c.length)) i (f ((rowsBut k c.length).getD i 0).toNat)) (c.length - 1) = sumN (fun i => (fun x => cc c x (f x)) (skip k i)) (c.length - 1) := sumN_congr fun i hi => by
    have hi2 : i < (rowsBut k c.length).length := by rw [hl]; exact hi
    have e1 : (rowsBut k c.length).getD i 0 = (skip k i : Nat) := by
      rw [← rowsBut_get hi2]
      simp [List.getD, hi2]
    rw [cc_pick hi2, rowsBut_get hi2, e1]
    simp
  rw [e]
  have := sum_skip (fun x => cc c x (f x)) k c.length
  rw [if_pos hk, show upTo k c.length = c.length - 1 by unfold upTo; split <;> omega] at this
  exact this
end Go.Proofs.Ytkpgphadgomifaa
