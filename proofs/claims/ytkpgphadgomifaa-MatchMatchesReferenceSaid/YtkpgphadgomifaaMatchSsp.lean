/- Least ways found by going round until nothing gets less (the reference's way): plain laws; the conditions are named in each. -/
import Derived.Test.YtkpgphadgomifaaMatchHung2
import Derived.Test.YtkpgphadgomifaaMatchDual
namespace Go.Proofs.Ytkpgphadgomifaa
set_option linter.unusedSimpArgs false
set_option linter.unusedVariables false

/-- The column k is reached from the row r in t steps. -/
inductive Rch (n r : Nat) (ow f : Nat → Int) : Nat → Nat → Prop
  | base (k : Nat) : k < n → f k = (r : Int) → Rch n r ow f k 0
  | step (k k' t : Nat) : k < n → k' < n → 0 ≤ ow k' → f k = ow k' → Rch n r ow f k' t → Rch n r ow f k (t + 1)
theorem Rch.lt {n r : Nat} {ow f : Nat → Int} {k t : Nat} (h : Rch n r ow f k t) : k < n := by cases h <;> assumption
/-- What the labels say at any time. -/
structure Wy (C : Nat → Nat → Int) (n r : Nat) (v ow d f : Nat → Int) : Prop where
  lab : ∀ k, k < n → (f k = -1 ∧ d k = far) ∨ ((∃ t, Rch n r ow f k t) ∧ 0 ≤ f k ∧ d k < far)
  low : ∀ k, k < n → v k ≤ d k
  par : ∀ k k', k < n → k' < n → ∀ i : Nat, ow k' = (i : Int) → f k = (i : Int) → 0 ≤ C i k ∧ d k' - C i k' + C i k ≤ d k
  root : ∀ k, k < n → f k = (r : Int) → 0 ≤ C r k ∧ d k = C r k
  ini : ∀ k, k < n → 0 ≤ C r k → d k ≤ C r k
section
variable {C : Nat → Nat → Int} {n r : Nat} {V : Int} {u v ow d f : Nat → Int}
theorem Pot.row (p : Pot C n r V u v ow) {k : Nat} (hk : k < n) (h : 0 ≤ ow k) : ∃ i : Nat, ow k = (i : Int) ∧ i < r ∧ 0 ≤ C i k ∧ u i + v k = C i k := by
  rcases p.own.val k hk trivial with e | ⟨i, e, e2, e3⟩
  · omega
  · exact ⟨i, e, e2, (may_iff _ _ _).1 e3, p.tight k i hk e⟩
theorem Wy.start (p : Pot C n r V u v ow) (hC : ∀ k, k < n → C r k ≤ 1000000) : Wy C n r v ow (fun k => if 0 ≤ C r k then C r k else far) (fun k => if 0 ≤ C r k then (r : Int) else -1) := by
  refine ⟨fun k hk => ?_, fun k hk => ?_, fun k k' hk hk' i e1 e2 => ?_, fun k hk e => ?_, fun k hk h => ?_⟩
  · by_cases h : 0 ≤ C r k
    · refine .inr ⟨⟨0, .base k hk (by simp [h])⟩, by simp [h], ?_⟩
      have := hC k hk
      simp only [h, if_true]; unfold far; omega
    · exact .inl ⟨by simp [h], by simp [h]⟩
  · have := p.vneg k hk
    split
    · omega
    · unfold far; omega
  · exfalso
    obtain ⟨i', e3, h3, _⟩ := p.row hk' (by omega)
    split at e2 <;> omega
  · split at e
    · rename_i h; simp [h]
    · omega
  · simp [h]
theorem Wy.top (y : Wy C n r v ow d f) {k : Nat} (hk : k < n) : d k ≤ far := by
  rcases y.lab k hk with ⟨_, e⟩ | ⟨_, _, e⟩ <;> omega
/-- A label's way does not go over columns that are farther. -/
theorem Rch.keep (p : Pot C n r V u v ow) (y : Wy C n r v ow d f) {m : Nat} {o c : Int} {k t : Nat} (h : Rch n r ow f k t) : d k - v k < d m - v m → ∃ t, Rch n r ow (upd f m o) k t := by
  induction h with
  | base k hk e =>
    intro hlt
    have : k ≠ m := by rintro rfl; omega
    exact ⟨0, .base k hk (by rw [upd_ne _ _ this]; exact e)⟩
  | step k k' t hk hk' h0 e _ ih =>
    intro hlt
    have hne : k ≠ m := by rintro rfl; omega
    obtain ⟨i, e1, e2, e3, e4⟩ := p.row hk' h0
    obtain ⟨q1, q2⟩ := y.par k k' hk hk' i e1 (by rw [e, e1])
    have q3 := p.feas i k e2 hk q1
    obtain ⟨t', ht⟩ := ih (by omega)
    exact ⟨t' + 1, .step k k' t' hk hk' h0 (by rw [upd_ne _ _ hne]; exact e) ht⟩
theorem Rch.over {m : Nat} {o : Int} {k t : Nat} (hm : ∃ t, Rch n r ow (upd f m o) m t) (h : Rch n r ow f k t) : ∃ t, Rch n r ow (upd f m o) k t := by
  induction h with
  | base k hk e =>
    by_cases q : k = m
    · subst q; exact hm
    · exact ⟨0, .base k hk (by rw [upd_ne _ _ q]; exact e)⟩
  | step k k' t hk hk' h0 e _ ih =>
    by_cases q : k = m
    · subst q; exact hm
    · obtain ⟨t', ht⟩ := ih
      exact ⟨t' + 1, .step k k' t' hk hk' h0 (by rw [upd_ne _ _ q]; exact e) ht⟩
/-- A label gets less. -/
theorem Wy.less (p : Pot C n r V u v ow) (y : Wy C n r v ow d f) {k m o : Nat} (hk : k < n) (hm : m < n) (ho : ow k = (o : Int)) (hd : d k ≠ far) (hc : 0 ≤ C o m) (hl : d k - C o k + C o m < d m) :
    Wy C n r v ow (upd d m (d k - C o k + C o m)) (upd f m (o : Int)) := by
  obtain ⟨i, e1, e2, e3, e4⟩ := p.row hk (by omega)
  have : i = o := by omega
  subst this
  have hne : k ≠ m := by rintro rfl; omega
  have hkl := y.low k hk
  have hf := p.feas i m e2 hm hc
  have rk : ∃ t, Rch n r ow f k t := by
    rcases y.lab k hk with ⟨_, e⟩ | ⟨h, _⟩
    · exact absurd e hd
    · exact h
  have rm : ∃ t, Rch n r ow (upd f m (i : Int)) m t := by
    obtain ⟨t, ht⟩ := rk
    obtain ⟨t', ht'⟩ := ht.keep (c := 0) (o := (i : Int)) (m := m) p y (by omega)
    exact ⟨t' + 1, .step m k t' hm hk (by omega) (by rw [upd_same]; omega) ht'⟩
  have htop := y.top hm
  refine ⟨fun j hj => ?_, fun j hj => ?_, fun j k' hj hk' x e5 e6 => ?_, fun j hj e => ?_, fun j hj h => ?_⟩
  · by_cases q : j = m
    · subst q
      exact .inr ⟨rm, by rw [upd_same]; omega, by rw [upd_same]; omega⟩
    · rw [upd_ne _ _ q, upd_ne _ _ q]
      rcases y.lab j hj with a | ⟨⟨t, ht⟩, b⟩
      · exact .inl a
      · exact .inr ⟨ht.over rm, b⟩
  · by_cases q : j = m
    · subst q; rw [upd_same]; omega
    · rw [upd_ne _ _ q]; exact y.low j hj
  · have hk'd : upd d m (d k - C i k + C i m) k' ≤ d k' := by
      by_cases q : k' = m
      · subst q; rw [upd_same]; omega
      · rw [upd_ne _ _ q]; omega
    by_cases q : j = m
    · subst q
      rw [upd_same] at e6
      have : x = i := by omega
      subst this
      have : k' = k := p.own.inj k' k x hk' hk trivial trivial e5 e1
      subst this
      rw [upd_same, upd_ne _ _ hne]
      exact ⟨hc, Int.le_refl _⟩
    · rw [upd_ne _ _ q] at e6 ⊢
      obtain ⟨a, b⟩ := y.par j k' hj hk' x e5 e6
      exact ⟨a, by omega⟩
  · by_cases q : j = m
    · subst q; rw [upd_same] at e; omega
    · rw [upd_ne _ _ q] at e ⊢; exact y.root j hj e
  · by_cases q : j = m
    · subst q; rw [upd_same]; have := y.ini j hj h; omega
    · rw [upd_ne _ _ q]; exact y.ini j hj h
/-- Nothing gets less. -/
def Fix (C : Nat → Nat → Int) (n : Nat) (ow d : Nat → Int) : Prop := ∀ k, k < n → ∀ o : Nat, ow k = (o : Int) → d k ≠ far → ∀ m, m < n → 0 ≤ C o m → d m ≤ d k - C o k + C o m
/-- How many steps. -/
theorem Rch.uniq (p : Pot C n r V u v ow) {k t : Nat} (h : Rch n r ow f k t) : ∀ s, Rch n r ow f k s → s = t := by
  induction h with
  | base k hk e =>
    intro s hs
    cases hs with
    | base _ _ _ => rfl
    | step _ k' t _ hk' h0 e2 _ =>
      obtain ⟨i, e1, e3, _⟩ := p.row hk' h0
      omega
  | step k k' t hk hk' h0 e _ ih =>
    intro s hs
    obtain ⟨i, e1, e3, _⟩ := p.row hk' h0
    cases hs with
    | base _ _ e2 => omega
    | step _ k2 s' _ hk2 h02 e2 hs' =>
      have : k2 = k' := p.own.inj k2 k' i hk2 hk' trivial trivial (by omega) e1
      subst this
      rw [ih s' hs']
/-- The columns of S in an order in which a column's parent comes before it. -/
theorem in_order (p : Pot C n r V u v ow) (y : Wy C n r v ow d f) (S : Nat → Prop) (hS : ∀ k, S k → k < n ∧ d k ≠ far) (hcl : ∀ k k', S k → k' < n → 0 ≤ ow k' → f k = ow k' → S k') :
    ∃ ord : List Nat, ord.Nodup ∧ (∀ k, k ∈ ord ↔ S k) ∧ ∀ pre k post, ord = pre ++ k :: post → f k = (r : Int) ∨ ∃ k', k' ∈ pre ∧ k' < n ∧ 0 ≤ ow k' ∧ f k = ow k' := by
  classical
  have hr : ∀ k, S k → ∃ t, Rch n r ow f k t := fun k hk => by
    obtain ⟨h1, h2⟩ := hS k hk
    rcases y.lab k h1 with ⟨_, e⟩ | ⟨h, _⟩
    · exact absurd e h2
    · exact h
  let dep : Nat → Nat := fun k => if h : ∃ t, Rch n r ow f k t then Classical.choose h else 0
  have hdep : ∀ k, S k → Rch n r ow f k (dep k) := fun k hk => by
    have h := hr k hk
    show Rch n r ow f k (if h : ∃ t, Rch n r ow f k t then Classical.choose h else 0)
    rw [dif_pos h]
    exact Classical.choose_spec h
  let le : Nat → Nat → Bool := fun a b => decide (dep a ≤ dep b)
  let l := (List.range n).filter fun k => decide (S k)
  have hl : l.Nodup := List.nodup_range.filter _
  have hmem : ∀ k, k ∈ l ↔ S k := fun k => by
    simp only [l, List.mem_filter, List.mem_range, decide_eq_true_eq]
    exact ⟨fun h => h.2, fun h => ⟨(hS k h).1, h⟩⟩
  have hperm := List.mergeSort_perm l le
  have hsorted : (l.mergeSort le).Pairwise fun a b => le a b = true :=
    List.pairwise_mergeSort (fun a b c h1 h2 => by simp only [le, decide_eq_true_eq] at *; omega) (fun a b => by simp only [le, Bool.or_eq_true, decide_eq_true_eq]; omega) l
  refine ⟨l.mergeSort le, hperm.nodup_iff.2 hl, fun k => by rw [hperm.mem_iff]; exact hmem k, fun pre k post e => ?_⟩
  have hk : S k := (hmem k).1 (hperm.mem_iff.1 (by rw [e]; simp))
  have hd := hdep k hk
  cases hq : dep k with
  | zero =>
    rw [hq] at hd
    cases hd with
    | base _ _ e => exact .inl e
  | succ t =>
    rw [hq] at hd
    cases hd with
    | step _ k' _ hk1 hk' h0 e2 hs =>
      have hk'S := hcl k k' hk hk' h0 e2
      have : dep k' = t := Rch.uniq p hs _ (hdep k' hk'S)
      refine .inr ⟨k', ?_, hk', h0, e2⟩
      have hm : k' ∈ pre ++ k :: post := by rw [← e]; exact hperm.mem_iff.2 ((hmem k').2 hk'S)
      rw [e] at hsorted
      rcases List.mem_append.1 hm with h | h
      · exact h
      · rcases List.mem_cons.1 h with h | h
        · subst h; omega
        · have := (List.pairwise_append.1 hsorted).2.1
          have := (List.pairwise_cons.1 this).1 k' h
          simp only [le, decide_eq_true_eq] at this
          omega
/-- A label is not greater than the number of columns before it allows. -/
theorem in_bound (p : Pot C n r V u v ow) (y : Wy C n r v ow d f) (x : Fix C n ow d) (hC : ∀ i k, i ≤ r → k < n → C i k ≤ 1000000) {ord : List Nat} (hlt : ∀ k ∈ ord, k < n ∧ d k ≠ far)
    (ho : ∀ pre k post, ord = pre ++ k :: post → f k = (r : Int) ∨ ∃ k', k' ∈ pre ∧ k' < n ∧ 0 ≤ ow k' ∧ f k = ow k') : ∀ (s : Nat) (pre : List Nat) (k : Nat) (post : List Nat), pre.length = s → ord = pre ++ k :: post → d k ≤ (s + 1) * 1000000 := by
  intro s
  induction s using Nat.strongRecOn with
  | _ s ih =>
  intro pre k post hs e
  have hk := (hlt k (by rw [e]; simp)).1
  rcases ho pre k post e with h | ⟨k', h1, h2, h3, h4⟩
  · obtain ⟨a, b⟩ := y.root k hk h
    have := hC r k (Nat.le_refl _) hk
    omega
  · obtain ⟨i, e1, e2, e3, e4⟩ := p.row h2 h3
    obtain ⟨a, _⟩ := y.par k k' hk h2 i e1 (by omega)
    obtain ⟨pre1, post1, q⟩ := List.append_of_mem h1
    have hk'd := (hlt k' (by rw [e]; simp [h1])).2
    have h5 := ih pre1.length (by rw [← hs, q]; simp <;> omega) pre1 k' (post1 ++ k :: post) rfl (by rw [e, q]; simp)
    have h6 := x k' h2 i e1 hk'd k hk a
    have h7 := hC i k (by omega) hk
    have h8 : pre1.length + 1 ≤ s := by rw [← hs, q]; simp <;> omega
    omega
/-- The search has ended at the free column k0, the nearest one. -/
theorem Wy.fin (p : Pot C n r V u v ow) (y : Wy C n r v ow d f) (x : Fix C n ow d) (hC : ∀ i k, i ≤ r → k < n → C i k ≤ 1000000) {k0 : Nat} (hk0 : k0 < n) (hfree : ow k0 = -1) (h0 : 0 ≤ f k0)
    (hmin : ∀ k, k < n → ow k = -1 → 0 ≤ f k → d k0 ≤ d k) :
    ∃ ord frm, Fin C n r u v ow (fun k => d k - v k) frm ord k0 ∧ ∀ k, k ∈ ord ∨ k = k0 → (f k = (r : Int) ∧ frm k = -1) ∨ ∃ k', k' < n ∧ 0 ≤ ow k' ∧ f k = ow k' ∧ frm k = (k' : Int) := by
  classical
  have lab0 : d k0 < far := by
    rcases y.lab k0 hk0 with ⟨e, _⟩ | ⟨_, _, e⟩
    · omega
    · exact e
  have v0 := p.free k0 hk0 hfree
  have ur := p.zero r (Nat.le_refl _)
  let frm : Nat → Int := fun k => if h : ∃ k', k' < n ∧ 0 ≤ ow k' ∧ f k = ow k' then ((Classical.choose h : Nat) : Int) else -1
  have hfrm : ∀ k, k < n → d k ≠ far → (f k = (r : Int) ∧ frm k = -1) ∨ ∃ k', k' < n ∧ 0 ≤ ow k' ∧ f k = ow k' ∧ frm k = (k' : Int) := fun k hk hd => by
    by_cases h : ∃ k', k' < n ∧ 0 ≤ ow k' ∧ f k = ow k'
    · refine .inr ⟨Classical.choose h, (Classical.choose_spec h).1, (Classical.choose_spec h).2.1, (Classical.choose_spec h).2.2, ?_⟩
      show (if h : ∃ k', k' < n ∧ 0 ≤ ow k' ∧ f k = ow k' then ((Classical.choose h : Nat) : Int) else -1) = _
      rw [dif_pos h]
    · refine .inl ⟨?_, by show (if h : ∃ k', k' < n ∧ 0 ≤ ow k' ∧ f k = ow k' then ((Classical.choose h : Nat) : Int) else -1) = _; rw [dif_neg h]⟩
      rcases y.lab k hk with ⟨_, e⟩ | ⟨⟨t, ht⟩, _⟩
      · exact absurd e hd
      · cases ht with
        | base _ _ e => exact e
        | step _ k' t _ hk' h1 e _ => exact absurd ⟨k', hk', h1, e⟩ h
  -- the parent of a reached column
  have par : ∀ k k', k < n → d k ≠ far → k' < n → 0 ≤ ow k' → f k = ow k' → d k' ≠ far ∧ d k' - v k' ≤ d k - v k ∧ ∃ i : Nat, ow k' = (i : Int) ∧ 0 ≤ C i k ∧ d k - v k = d k' - v k' + (C i k - u i - v k) := fun k k' hk hd hk' h1 e => by
    obtain ⟨i, e1, e2, e3, e4⟩ := p.row hk' h1
    obtain ⟨q1, q2⟩ := y.par k k' hk hk' i e1 (by omega)
    have q3 := p.feas i k e2 hk q1
    have q4 := y.top hk
    have q7 : d k' ≠ far := by
      rcases y.lab k hk with ⟨_, e5⟩ | ⟨⟨t, ht⟩, _⟩
      · exact absurd e5 hd
      · cases ht with
        | base _ _ e5 => omega
        | step _ k2 t _ hk2 h2 e5 ht2 =>
          have : k2 = k' := p.own.inj k2 k' i hk2 hk' trivial trivial (by omega) e1
          subst this
          rcases y.lab k2 hk2 with ⟨e6, _⟩ | ⟨_, _, e6⟩
          · cases ht2 with
            | base _ _ e7 => omega
            | step _ k3 _ _ hk3 h3 e7 _ => omega
          · omega
    have q8 := x k' hk' i e1 q7 k hk q1
    exact ⟨q7, by omega, i, e1, q1, by omega⟩
  let S : Nat → Prop := fun k => k < n ∧ 0 ≤ ow k ∧ d k ≠ far ∧ d k - v k ≤ d k0 - v k0
  obtain ⟨ord, hn, hm, ho⟩ := in_order p y S (fun k h => ⟨h.1, h.2.2.1⟩) fun k k' h hk' h1 e => by
    obtain ⟨a, b, _⟩ := par k k' h.1 h.2.2.1 hk' h1 e
    exact ⟨hk', h1, a, by have := h.2.2.2; omega⟩
  have hS : ∀ k, k ∈ ord → S k := fun k hk => (hm k).1 hk
  have hk0o : k0 ∉ ord := fun h => by have := (hS k0 h).2.1; omega
  have hlen : ord.length + 1 ≤ n := by
    have hn2 : (ord ++ [k0]).Nodup := by
      rw [List.nodup_append]
      exact ⟨hn, by simp, fun a ha b hb e => by simp at hb; subst hb; subst e; exact hk0o ha⟩
    have := ord_len hn2 fun k hk => by
      rcases List.mem_append.1 hk with hk | hk
      · exact (hS k hk).1
      · simp at hk; subst hk; exact hk0
    simpa using this
  have bnd := in_bound p y x hC (fun k hk => ⟨(hS k hk).1, (hS k hk).2.2.1⟩) ho
  have parOf : ∀ k, k < n → d k ≠ far → ∀ P : Nat → Prop, (∀ k', k' < n → 0 ≤ ow k' → f k = ow k' → P k') → Par C u v ow r (fun k => d k - v k) frm P k := fun k hk hd P hP => by
    rcases hfrm k hk hd with ⟨e1, e2⟩ | ⟨k', h1, h2, h3, h4⟩
    · obtain ⟨a, b⟩ := y.root k hk e1
      exact .inl ⟨e2, a, by simp only; omega⟩
    · obtain ⟨_, _, i, a, b, c⟩ := par k k' hk hd h1 h2 h3
      exact .inr ⟨k', i, hP k' h1 h2 h3, h4, a, b, c⟩
  refine ⟨ord, frm, ⟨hn, fun k hk => ⟨(hS k hk).1, (hS k hk).2.1⟩, hk0, hk0o, hfree, fun k hk => ?_, fun k hk hno => ?_, ?_, fun a dx t k hk hc => ?_, ?_, fun pre k post e => ?_, ?_⟩, fun k hk => ?_⟩
  · have := y.low k (hS k hk).1
    exact ⟨by omega, (hS k hk).2.2.2⟩
  · by_cases h1 : ow k = -1
    · have := p.free k hk h1
      rcases y.lab k hk with ⟨_, e⟩ | ⟨_, e, _⟩
      · omega
      · have := hmin k hk h1 e; omega
    · by_cases h2 : d k = far
      · have := p.vneg k hk; omega
      · have h3 : 0 ≤ ow k := by
          rcases p.own.val k hk trivial with a | ⟨i, a, _⟩
          · exact absurd a h1
          · omega
        have : ¬ S k := fun h => hno ((hm k).2 h)
        have : ¬ d k - v k ≤ d k0 - v k0 := fun h => this ⟨hk, h3, h2, h⟩
        omega
  · have := y.low k0 hk0; omega
  · rcases t with ⟨rfl, rfl⟩ | ⟨k', hk', e, rfl⟩
    · have := y.ini k hk hc
      omega
    · obtain ⟨a1, a2, a3, _⟩ := hS k' hk'
      have h1 := x k' a1 a e a3 k hk hc
      have h2 := p.tight k' a a1 e
      simp only; omega
  · exact parOf k0 hk0 (by omega) _ fun k' h1 h2 h3 => by
      obtain ⟨a, b, _⟩ := par k0 k' hk0 (by omega) h1 h2 h3
      exact (hm k').2 ⟨h1, h2, a, b⟩
  · obtain ⟨a1, a2, a3, a4⟩ := hS k (by rw [e]; simp)
    refine parOf k a1 a3 _ fun k' h1 h2 h3 => ?_
    rcases ho pre k post e with q | ⟨k2, q1, q2, q3, q4⟩
    · obtain ⟨i, e1, e2, _⟩ := p.row h1 h2
      omega
    · obtain ⟨i, e1, e2, _⟩ := p.row h1 h2
      have : k2 = k' := p.own.inj k2 k' i q2 h1 trivial trivial (by omega) e1
      subst this; exact q1
  · show d k0 - v k0 ≤ _
    have hb : d k0 ≤ (ord.length + 1) * 1000000 := by
      rcases hfrm k0 hk0 (by omega) with ⟨e1, e2⟩ | ⟨k', h1, h2, h3, h4⟩
      · obtain ⟨a, b⟩ := y.root k0 hk0 e1
        have := hC r k0 (Nat.le_refl _) hk0
        omega
      · obtain ⟨a, b, i, e1, e2, _⟩ := par k0 k' hk0 (by omega) h1 h2 h3
        have hmem : k' ∈ ord := (hm k').2 ⟨h1, h2, a, b⟩
        obtain ⟨pre1, post1, q⟩ := List.append_of_mem hmem
        have h5 := bnd pre1.length pre1 k' post1 rfl q
        have h6 := x k' h1 i e1 a k0 hk0 e2
        obtain ⟨i', g1, g2, g3, _⟩ := p.row h1 h2
        have : i' = i := by omega
        subst this
        have h7 := hC i' k0 (by omega) hk0
        have h8 : pre1.length + 1 ≤ ord.length := by rw [q]; simp
        omega
    have : ((ord.length + 1 : Nat) : Int) ≤ n := by omega
    omega
  · rcases hk with hk | rfl
    · exact hfrm k (hS k hk).1 (hS k hk).2.2.1
    · exact hfrm k hk0 (by omega)
/-- No free column is reached: the rows up to r have no matching. -/
theorem Wy.none (p : Pot C n r V u v ow) (y : Wy C n r v ow d f) (x : Fix C n ow d) (hC : ∀ i k, i ≤ r → k < n → C i k ≤ 1000000) (hn : n ≤ 1000) (hno : ∀ k, k < n → ow k = -1 → f k < 0) (R : Nat → Prop) (hR : ∀ i, i ≤ r → R i) : ¬ Mtd (may C) R n := by
  classical
  rintro ⟨g, hg⟩
  let S : Nat → Prop := fun k => k < n ∧ d k ≠ far
  have hSo : ∀ k, S k → ∃ i : Nat, ow k = (i : Int) ∧ i < r ∧ 0 ≤ C i k ∧ u i + v k = C i k := fun k h => by
    refine p.row h.1 ?_
    rcases p.own.val k h.1 trivial with a | ⟨i, a, _⟩
    · have := hno k h.1 a
      rcases y.lab k h.1 with ⟨_, e⟩ | ⟨_, e, _⟩
      · exact absurd e h.2
      · omega
    · omega
  obtain ⟨ord, hnd, hm, ho⟩ := in_order p y S (fun k h => h) fun k k' h hk' h1 e => by
    refine ⟨hk', fun e6 => ?_⟩
    obtain ⟨i, e1, e2, e3, e4⟩ := p.row hk' h1
    obtain ⟨q1, q2⟩ := y.par k k' h.1 hk' i e1 (by omega)
    rcases y.lab k h.1 with ⟨_, e5⟩ | ⟨⟨t, ht⟩, _, e5⟩
    · exact absurd e5 h.2
    · cases ht with
      | base _ _ e5 => omega
      | step _ k2 t _ hk2 h2 e5 ht2 =>
        have : k2 = k' := p.own.inj k2 k' i hk2 hk' trivial trivial (by omega) e1
        subst this
        rcases y.lab k2 hk2 with ⟨e8, _⟩ | ⟨_, _, e8⟩
        · cases ht2 with
          | base _ _ e7 => omega
          | step _ k3 _ _ hk3 h3 e7 _ => omega
        · omega
  have hlen := ord_len hnd fun k hk => ((hm k).1 hk).1
  have bnd : ∀ k, S k → d k ≤ n * 1000000 := fun k hk => by
    obtain ⟨pre, post, e⟩ := List.append_of_mem ((hm k).2 hk)
    have := in_bound p y x hC (fun k hk => (hm k).1 hk) ho pre.length pre k post rfl e
    have h8 : pre.length + 1 ≤ ord.length := by rw [e]; simp
    omega
  -- what the rows can get is reached
  have reach : ∀ i, (i = r ∨ ∃ k, S k ∧ ow k = (i : Int)) → ∀ m, m < n → 0 ≤ C i m → S m := fun i hi m hm hc => by
    refine ⟨hm, fun e => ?_⟩
    rcases hi with rfl | ⟨k, hk, e1⟩
    · have := y.ini m hm hc
      have := hC i m (Nat.le_refl _) hm
      unfold far at e; omega
    · have h1 := x k hk.1 i e1 hk.2 m hm hc
      obtain ⟨i', e2, e3, e4, _⟩ := hSo k hk
      have : i' = i := by omega
      subst this
      have h2 := hC i' m (by omega) hm
      have h3 := bnd k hk
      unfold far at e; omega
  let rowOf : Nat → Nat := fun k => (ow k).toNat
  have hrow : ∀ k, k ∈ ord → ow k = ((rowOf k : Nat) : Int) ∧ rowOf k < r := fun k hk => by
    obtain ⟨i, e, e2, _⟩ := hSo k ((hm k).1 hk)
    simp only [rowOf]; omega
  have hnd2 : (r :: ord.map rowOf).Nodup := by
    rw [List.nodup_cons]
    refine ⟨fun h => ?_, ?_⟩
    · obtain ⟨k, hk, e⟩ := List.mem_map.1 h
      have := (hrow k hk).2; omega
    · rw [List.nodup_iff_pairwise_ne] at hnd ⊢
      rw [List.pairwise_map]
      refine hnd.imp_of_mem fun {a b} ha hb hne e => hne ?_
      exact p.own.inj a b (rowOf a) ((hm a).1 ha).1 ((hm b).1 hb).1 trivial trivial (hrow a ha).1 (by rw [e]; exact (hrow b hb).1)
  have hin : ∀ i ∈ r :: ord.map rowOf, R i ∧ (i = r ∨ ∃ k, S k ∧ ow k = (i : Int)) := fun i hi => by
    rcases List.mem_cons.1 hi with rfl | h
    · exact ⟨hR _ (Nat.le_refl _), .inl rfl⟩
    · obtain ⟨k, hk, e⟩ := List.mem_map.1 h
      obtain ⟨h1, h2⟩ := hrow k hk
      exact ⟨hR _ (by omega), .inr ⟨k, (hm k).1 hk, by rw [h1, e]⟩⟩
  have := pigeon (r :: ord.map rowOf) ord g hnd2 (fun i hi j hj e => hg.inj i j (hin i hi).1 (hin j hj).1 e) fun i hi => by
    obtain ⟨h1, h2⟩ := hin i hi
    exact (hm _).2 (reach i h2 _ (hg.lt i h1) ((may_iff _ _ _).1 (hg.can i h1)))
  simp at this
  omega
/-- Prices behind a search, made. -/
def vNew (v ow dist : Nat → Int) (base : Int) : List Nat → Nat → Int
  | [] => v
  | k :: l => upd (vNew v ow dist base l) k (v k - (base - dist k))
def uNew (u ow dist : Nat → Int) (r : Nat) (base : Int) : List Nat → Nat → Int
  | [] => upd u r (u r + base)
  | k :: l => upd (uNew u ow dist r base l) (ow k).toNat (u (ow k).toNat + (base - dist k))
theorem vNew_get {dist : Nat → Int} {base : Int} : ∀ (l : List Nat), l.Nodup → ∀ k, vNew v ow dist base l k = if k ∈ l then v k - (base - dist k) else v k
  | [], _, k => by simp [vNew]
  | x :: l, h, k => by
    rw [List.nodup_cons] at h
    have ih := vNew_get (dist := dist) (base := base) l h.2 k
    show upd _ x _ k = _
    by_cases e : k = x
    · subst e; rw [upd_same]; simp
    · rw [upd_ne _ _ e, ih]; simp [e]
/-- The prices exist, and together they are greater by what the way costs. -/
theorem new_prices (p : Pot C n r V u v ow) {dist : Nat → Int} {base : Int} {ord : List Nat} (hnd : ord.Nodup) (hlt : ∀ k ∈ ord, k < n ∧ 0 ≤ ow k) :
    ∃ u' v', NewP n r u v ow dist ord base u' v' ∧ priceOf n (r + 1) u' v' = priceOf n r u v + base := by
  have hrow : ∀ k, k ∈ ord → ow k = (((ow k).toNat : Nat) : Int) ∧ (ow k).toNat < r := fun k hk => by
    obtain ⟨i, e, e2, _⟩ := p.row (hlt k hk).1 (hlt k hk).2
    omega
  have uget : ∀ l : List Nat, l.Nodup → (∀ k ∈ l, k ∈ ord) → (uNew u ow dist r base l r = u r + base) ∧ (∀ k ∈ l, uNew u ow dist r base l (ow k).toNat = u (ow k).toNat + (base - dist k)) ∧ ∀ i, i ≠ r → (∀ k ∈ l, ow k ≠ (i : Int)) → uNew u ow dist r base l i = u i := by
    intro l
    induction l with
    | nil =>
      intro _ _
      exact ⟨upd_same _ _ _, fun k hk => by simp at hk, fun i hi _ => upd_ne _ _ hi⟩
    | cons x l ih =>
      intro h hs
      rw [List.nodup_cons] at h
      obtain ⟨h1, h2, h3⟩ := ih h.2 fun k hk => hs k (by simp [hk])
      obtain ⟨x1, x2⟩ := hrow x (hs x (by simp))
      refine ⟨?_, fun k hk => ?_, fun i hi ho => ?_⟩
      · show upd _ _ _ r = _
        rw [upd_ne _ _ (by omega)]; exact h1
      · show upd _ _ _ _ = _
        rcases List.mem_cons.1 hk with rfl | hk2
        · rw [upd_same]
        · have : (ow k).toNat ≠ (ow x).toNat := fun e => by
            have hkx : k = x := p.own.inj k x (ow k).toNat (hlt k (hs k hk)).1 (hlt x (hs x (by simp))).1 trivial trivial (hrow k (hs k hk)).1 (by rw [e]; exact x1)
            subst hkx; exact h.1 hk2
          rw [upd_ne _ _ this]; exact h2 k hk2
      · show upd _ _ _ i = _
        have : i ≠ (ow x).toNat := fun e => ho x (by simp) (by rw [x1, e])
        rw [upd_ne _ _ this]; exact h3 i hi fun k hk => ho k (by simp [hk])
  have sums : ∀ l : List Nat, l.Nodup → (∀ k ∈ l, k ∈ ord) → sumN (uNew u ow dist r base l) (r + 1) + sumN (vNew v ow dist base l) n = sumN u (r + 1) + sumN v n + base := by
    intro l
    induction l with
    | nil =>
      intro _ _
      show sumN (upd u r (u r + base)) (r + 1) + sumN v n = _
      rw [sumN_upd _ _ _ _ (by omega)]; omega
    | cons x l ih =>
      intro h hs
      rw [List.nodup_cons] at h
      have i1 := ih h.2 fun k hk => hs k (by simp [hk])
      obtain ⟨_, _, g3⟩ := uget l h.2 fun k hk => hs k (by simp [hk])
      obtain ⟨x1, x2⟩ := hrow x (hs x (by simp))
      show sumN (upd _ _ _) (r + 1) + sumN (upd _ _ _) n = _
      rw [sumN_upd _ _ _ _ (by omega), sumN_upd _ _ _ _ (hlt x (hs x (by simp))).1, vNew_get l h.2 x, if_neg h.1, g3 _ (by omega) fun k hk e => by
        have hkx : k = x := p.own.inj k x (ow x).toNat (hlt k (hs k (by simp [hk]))).1 (hlt x (hs x (by simp))).1 trivial trivial e x1
        subst hkx; exact h.1 hk]
      omega
  obtain ⟨g1, g2, g3⟩ := uget ord hnd fun k hk => hk
  refine ⟨uNew u ow dist r base ord, vNew v ow dist base ord, ⟨fun k hk => vNew_get ord hnd k, g1, fun k hk i e => ?_, fun i hi ho => g3 i hi ho⟩, ?_⟩
  · have := g2 k hk
    rw [e] at this
    simpa using this
  · have := sums ord hnd fun k hk => hk
    have h0 := p.zero r (Nat.le_refl _)
    have e1 : sumN u (r + 1) = sumN u r + u r := rfl
    unfold priceOf
    omega
end
end Go.Proofs.Ytkpgphadgomifaa
