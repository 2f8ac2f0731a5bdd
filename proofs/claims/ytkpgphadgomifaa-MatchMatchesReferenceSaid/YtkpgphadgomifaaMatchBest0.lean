/- What match.Best has found after some rows: plain laws; one law for copy of a row onto a row. -/
import Derived.Test.YtkpgphadgomifaaMatchReach2
import Derived.Laws.CopyOwn
namespace Go.Proofs.Ytkpgphadgomifaa
set_option linter.unusedSimpArgs false
set_option linter.unusedVariables false
open Go.RowKit Go.Sort Go.Shelf

/-- The columns l are those of the first rows of a best matching, and no other one has a lesser column where both differ first. -/
structure Beg (c : List (List Int)) (u v : Nat → Int) (l : List Nat) : Prop where
  ex : ∃ f, Tight (cc c) (wideL c) c.length u v f ∧ ∀ j, j < l.length → f j = l.getD j 0
  min : ∀ j, j < l.length → ∀ g, Tight (cc c) (wideL c) c.length u v g → (∀ j', j' < j → g j' = l.getD j' 0) → l.getD j 0 ≤ g j
  len : l.length ≤ c.length
theorem getD_app {l : List Nat} {k j : Nat} : (l ++ [k]).getD j 0 = if j < l.length then l.getD j 0 else if j = l.length then k else 0 := by
  simp only [List.getD]
  split
  · rename_i h; rw [List.getElem?_append_left h]
  · rename_i h
    split
    · rename_i h2; subst h2; simp
    · rename_i h2; rw [List.getElem?_eq_none (by simp; omega)]; rfl
theorem mem_getD {l : List Nat} {k : Nat} (h : k ∈ l) : ∃ j, j < l.length ∧ l.getD j 0 = k := by
  obtain ⟨j, hj, e⟩ := List.mem_iff_getElem.1 h
  exact ⟨j, hj, by simp [List.getD, hj, e]⟩
theorem getD_mem {l : List Nat} {j : Nat} (h : j < l.length) : l.getD j 0 ∈ l := by
  simp only [List.getD, List.getElem?_eq_getElem h, Option.getD_some]
  exact List.getElem_mem _
/-- After row i the column k can come, as reach says. -/
theorem canEnd_iff {c : List (List Int)} {u v : Nat → Int} {l : List Nat} {k : Nat} (b : Beg c u v l) (hl : l.length < c.length) (hk : k < wideL c) (h1 : k ∉ l) (h2 : 0 ≤ cc c l.length k) (h3 : u l.length + v k = cc c l.length k) :
    CanEnd c u v (fun x => (l ++ [k]).contains x) (l.length + 1) ↔ ∃ g, Tight (cc c) (wideL c) c.length u v g ∧ (∀ j, j < l.length → g j = l.getD j 0) ∧ g l.length = k := by
  obtain ⟨f, hf, hfl⟩ := b.ex
  constructor
  · rintro ⟨f', m', all'⟩
    have use : ∀ i, l.length + 1 ≤ i → i < c.length → f' i ∉ l ∧ f' i ≠ k ∧ 0 ≤ cc c i (f' i) ∧ u i + v (f' i) = cc c i (f' i) := fun i h4 h5 => by
      have := m'.can i ⟨h4, h5⟩
      simp only [exB, Bool.and_eq_true, Bool.not_eq_true', decide_eq_true_eq, beq_iff_eq] at this
      obtain ⟨q1, q2, q3⟩ := this
      have q4 : f' i ∉ l ++ [k] := by simpa using q1
      simp at q4
      exact ⟨q4.1, q4.2, q2, q3⟩
    refine ⟨fun i => if i < l.length then l.getD i 0 else if i = l.length then k else f' i, ⟨⟨fun i hi => ?_, fun i hi => ?_, fun i j hi hj e => ?_⟩, fun i hi => ?_, fun x hx hv => ?_⟩, fun j hj => by simp [hj], by simp⟩
    · by_cases e1 : i < l.length
      · simp only [if_pos e1]; rw [← hfl i e1]; exact hf.mt.lt i hi
      · simp only [if_neg e1]
        by_cases e2 : i = l.length
        · simp only [if_pos e2]; exact hk
        · simp only [if_neg e2]; exact m'.lt i ⟨by omega, hi⟩
    · by_cases e1 : i < l.length
      · simp only [if_pos e1]; rw [← hfl i e1]; exact hf.mt.can i hi
      · simp only [if_neg e1]
        by_cases e2 : i = l.length
        · simp only [if_pos e2]; rw [e2]; exact (may_iff _ _ _).2 h2
        · simp only [if_neg e2]; exact (may_iff _ _ _).2 (use i (by omega) hi).2.2.1
    · have key : ∀ i j, i < c.length → j < c.length → i < j → (if i < l.length then l.getD i 0 else if i = l.length then k else f' i) = (if j < l.length then l.getD j 0 else if j = l.length then k else f' j) → False := by
        intro i j hi hj hij e
        by_cases e1 : i < l.length <;> by_cases e3 : j < l.length
        · rw [if_pos e1, if_pos e3, ← hfl i e1, ← hfl j e3] at e
          have := hf.mt.inj i j hi hj e; omega
        · rw [if_pos e1, if_neg e3] at e
          by_cases e4 : j = l.length
          · rw [if_pos e4] at e; exact h1 (e ▸ getD_mem e1)
          · rw [if_neg e4] at e; exact (use j (by omega) hj).1 (e ▸ getD_mem e1)
        · omega
        · rw [if_neg e1, if_neg e3, if_neg (by omega : ¬ j = l.length)] at e
          by_cases e2 : i = l.length
          · rw [if_pos e2] at e; exact (use j (by omega) hj).2.1 e.symm
          · rw [if_neg e2] at e
            have := m'.inj i j ⟨by omega, hi⟩ ⟨by omega, hj⟩ e; omega
      by_cases q : i = j
      · exact q
      · rcases Nat.lt_or_gt_of_ne q with q | q
        · exact (key i j hi hj q e).elim
        · exact (key j i hj hi q e.symm).elim
    · by_cases e1 : i < l.length
      · simp only [if_pos e1]; rw [← hfl i e1]; exact hf.eq i hi
      · simp only [if_neg e1]
        by_cases e2 : i = l.length
        · simp only [if_pos e2]; rw [e2]; exact h3
        · simp only [if_neg e2]; exact (use i (by omega) hi).2.2.2
    · by_cases e1 : x ∈ l
      · obtain ⟨j, hj, e⟩ := mem_getD e1
        exact ⟨j, by omega, by simp only [if_pos hj]; exact e⟩
      · by_cases e2 : x = k
        · exact ⟨l.length, hl, by simp [e2]⟩
        · obtain ⟨i, hi, e⟩ := all' x hx hv (by simp [e1, e2])
          exact ⟨i, hi.2, by rw [if_neg (by omega), if_neg (by omega)]; exact e⟩
  · rintro ⟨g, hg, hgl, hgk⟩
    have out : ∀ i, l.length + 1 ≤ i → i < c.length → g i ∉ l ∧ g i ≠ k := fun i h4 h5 => by
      refine ⟨fun hm => ?_, fun e => ?_⟩
      · obtain ⟨j, hj, e⟩ := mem_getD hm
        have := hg.mt.inj i j h5 (by show j < c.length; omega) (by rw [hgl j hj, e]); omega
      · have := hg.mt.inj i l.length h5 hl (by rw [hgk, e]); omega
    refine ⟨g, ⟨fun i hi => hg.mt.lt i hi.2, fun i hi => ?_, fun i j hi hj e => hg.mt.inj i j hi.2 hj.2 e⟩, fun x hx hv hu => ?_⟩
    · obtain ⟨q1, q2⟩ := out i hi.1 hi.2
      simp only [exB, Bool.and_eq_true, Bool.not_eq_true', decide_eq_true_eq, beq_iff_eq]
      exact ⟨by simp [q1, q2], (may_iff _ _ _).1 (hg.mt.can i hi.2), hg.eq i hi.2⟩
    · obtain ⟨i, hi, e⟩ := hg.all x hx hv
      have hx2 : x ∉ l ++ [k] := by simpa using hu
      simp at hx2
      refine ⟨i, ⟨?_, hi⟩, e⟩
      by_cases q1 : i < l.length
      · exact absurd (by rw [← e, hgl i q1]; exact getD_mem q1) hx2.1
      · by_cases q2 : i = l.length
        · exact absurd (by rw [← e, q2, hgk]) hx2.2
        · omega
/-- The columns below k cannot come. -/
def Not (c : List (List Int)) (u v : Nat → Int) (l : List Nat) (k : Nat) : Prop := ∀ g, Tight (cc c) (wideL c) c.length u v g → (∀ j, j < l.length → g j = l.getD j 0) → k ≤ g l.length
theorem Not.skip {c : List (List Int)} {u v : Nat → Int} {l : List Nat} {k : Nat} (n : Not c u v l k) (hl : l.length < c.length) (h : k ∈ l ∨ cc c l.length k < 0 ∨ u l.length + v k ≠ cc c l.length k) : Not c u v l (k + 1) := fun g hg hp => by
  have h1 := n g hg hp
  have h2 : g l.length ≠ k := fun e => by
    rcases h with h | h | h
    · obtain ⟨j, hj, e2⟩ := mem_getD h
      have := hg.mt.inj l.length j hl (by show j < c.length; omega) (by rw [hp j hj, e2, e]); omega
    · have := (may_iff _ _ _).1 (hg.mt.can _ hl)
      rw [e] at this; omega
    · have := hg.eq _ hl
      rw [e] at this; exact h this
  omega
theorem Not.no {c : List (List Int)} {u v : Nat → Int} {l : List Nat} {k : Nat} (n : Not c u v l k) (h : ¬ ∃ g, Tight (cc c) (wideL c) c.length u v g ∧ (∀ j, j < l.length → g j = l.getD j 0) ∧ g l.length = k) : Not c u v l (k + 1) := fun g hg hp => by
  have h1 := n g hg hp
  have h2 : g l.length ≠ k := fun e => h ⟨g, hg, hp, e⟩
  omega
theorem Beg.next {c : List (List Int)} {u v : Nat → Int} {l : List Nat} {k : Nat} (b : Beg c u v l) (hl : l.length < c.length) (n : Not c u v l k) (h : ∃ g, Tight (cc c) (wideL c) c.length u v g ∧ (∀ j, j < l.length → g j = l.getD j 0) ∧ g l.length = k) : Beg c u v (l ++ [k]) := by
  obtain ⟨g, hg, hp, hk⟩ := h
  refine ⟨⟨g, hg, fun j hj => ?_⟩, fun j hj g2 hg2 hp2 => ?_, by simp; omega⟩
  · rw [getD_app]
    by_cases e : j < l.length
    · rw [if_pos e]; exact hp j e
    · have : j = l.length := by simp at hj; omega
      subst this; simp [hk]
  · by_cases e : j < l.length
    · rw [getD_app, if_pos e]
      refine b.min j e g2 hg2 fun j' hj' => ?_
      rw [hp2 j' hj', getD_app, if_pos (by omega)]
    · have : j = l.length := by simp at hj; omega
      subst this
      rw [getD_app, if_neg (by omega), if_pos rfl]
      refine n g2 hg2 fun j' hj' => ?_
      rw [hp2 j' hj', getD_app, if_pos hj']
theorem Not.end_ {c : List (List Int)} {u v : Nat → Int} {l : List Nat} (b : Beg c u v l) (hl : l.length < c.length) (n : Not c u v l (wideL c)) : False := by
  obtain ⟨f, hf, hp⟩ := b.ex
  have h1 := n f hf hp
  have h2 := hf.mt.lt _ hl
  omega
theorem Not.start (c : List (List Int)) (u v : Nat → Int) (l : List Nat) : Not c u v l 0 := fun _ _ _ => Nat.zero_le _
/-- copy of a row onto a row that has just been made. -/
theorem wpList_copy_rows {P : Program} {w : World} {ops : Array Oper} {rest : List Oper} {o : Oper} {a : Act} {Q : Exit → Act → World → Prop} (hgd : o.guard = none) (d s : Operand) (dT sT : TypeId)
    (ho : o.op = .call { callee := .builtin .copy, args := #[d, s], argTypes := #[dT, sT] }) (elem : TypeId) (hu : P.underlying dT = some (.slice elem)) (hsz : (P.info? elem).map (·.size) = some 1)
    (n g b : Nat) (T : TypeId) (f x : Nat → Value) (hd : a.eval d = .slice (some ⟨g, 0, none⟩) n n) (hs : a.eval s = .slice (some ⟨b, 0, none⟩) n n) (rg : RowAt w g n T f) (rb : RowAt w b n T x) (h1 : ∀ k, (x k).oneCell' = true)
    (K : ∀ w', RowAt w' g n T x → Below g w w' → wpList P ops Q rest (a.put o.dst (goInt n)) w') : wpList P ops Q (o :: rest) a w := by
  obtain ⟨arr, e1, e2, e3⟩ := rg.at_
  have hcs : ((List.range n).map x).length = n := by simp
  refine wpList_copy_splice hgd d s dT sT ho elem hu hsz (some ⟨g, 0, none⟩) (some ⟨b, 0, none⟩) n n n n hd hs g 0 arr.toList T (by simpa using e1) ((List.range n).map x) (by rw [hcs]; exact (Nat.min_self n).symm)
    (fun _ => ⟨rfl, _, rfl, fun j v hj => ?_⟩) (by simp [e2]) (fun v hv => ?_) g w (Below.refl _ _) (Nat.le_refl _) fun w' hw' hb => ?_
  · rw [List.getElem?_map] at hj
    by_cases hjn : j < n
    · rw [List.getElem?_range hjn] at hj
      simp at hj; subst hj
      have := rb.cell hjn
      unfold Addr.add
      split
      · rename_i h0; subst h0; exact this
      · simpa using this
    · rw [List.getElem?_eq_none (by simp; omega)] at hj; cases hj
  · obtain ⟨k, _, rfl⟩ := List.mem_map.1 hv
    exact h1 k
  · have := K w' ⟨_, hw'.out, by simp [splice, e2], fun k hk => by simp [splice, e2, hk]⟩ hb
    rw [hcs]; exact this
theorem own_ne {w : World} {b n B sz : Nat} {T E : TypeId} {f : Nat → Value} {v : Value} {rows : List (List Value)} (r : RowAt w b n T f) (o : OwnR w B E sz v rows) (h : T ≠ E) : v.ownBlock ≠ some b := fun e => by
  obtain ⟨arr, e1, _⟩ := r.at_
  obtain ⟨_, h2⟩ := o.own
  rcases h2 with ⟨rfl, _⟩ | ⟨g, cap, cur, rfl, _, hc, _⟩
  · simp [Value.ownBlock] at e
  · simp [Value.ownBlock] at e
    subst e
    rw [e1] at hc
    simp only [Option.some.injEq, Obj.cells.injEq] at hc
    exact h hc.2.1
end Go.Proofs.Ytkpgphadgomifaa
