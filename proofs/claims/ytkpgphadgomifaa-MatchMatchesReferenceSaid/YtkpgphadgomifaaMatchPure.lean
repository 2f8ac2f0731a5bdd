/- Matchings of rows to columns, and the search for one by alternating paths: plain laws, no condition beside those named. -/
import Derived.Test.YtkpgphadgomifaaLib2
namespace Go.Proofs.Ytkpgphadgomifaa
set_option linter.unusedSimpArgs false
set_option linter.unusedVariables false

/-- f gives each row of R a column below n that it can have, and each another one. -/
structure Mt (can : Nat → Nat → Bool) (R : Nat → Prop) (n : Nat) (f : Nat → Nat) : Prop where
  lt : ∀ i, R i → f i < n
  can : ∀ i, R i → can i (f i) = true
  inj : ∀ i j, R i → R j → f i = f j → i = j
def Mtd (can : Nat → Nat → Bool) (R : Nat → Prop) (n : Nat) : Prop := ∃ f, Mt can R n f
theorem Mt.sub {can : Nat → Nat → Bool} {R R' : Nat → Prop} {n : Nat} {f : Nat → Nat} (m : Mt can R n f) (hs : ∀ i, R' i → R i) : Mt can R' n f :=
  ⟨fun i a => m.lt i (hs i a), fun i a => m.can i (hs i a), fun i j a b => m.inj i j (hs i a) (hs j b)⟩
theorem Mtd.sub {can : Nat → Nat → Bool} {R R' : Nat → Prop} {n : Nat} (m : Mtd can R n) (hs : ∀ i, R' i → R i) : Mtd can R' n := m.elim fun f hf => ⟨f, hf.sub hs⟩

/-- The list of owners ow says, at the columns of U, who of the rows R has which. -/
structure Own (can : Nat → Nat → Bool) (n : Nat) (U R : Nat → Prop) (ow : Nat → Int) : Prop where
  val : ∀ k, k < n → U k → ow k = -1 ∨ ∃ i : Nat, ow k = i ∧ R i ∧ can i k = true
  one : ∀ i, R i → ∃ k, k < n ∧ U k ∧ ow k = (i : Int)
  inj : ∀ k k' (i : Nat), k < n → k' < n → U k → U k' → ow k = i → ow k' = i → k = k'
theorem Own.nobody (can : Nat → Nat → Bool) (n : Nat) : Own can n (fun _ => True) (fun _ => False) (fun _ => -1) :=
  ⟨fun _ _ _ => .inl rfl, fun _ h => h.elim, fun _ _ i _ _ _ _ h _ => by omega⟩
theorem Own.mt {can : Nat → Nat → Bool} {n : Nat} {U R : Nat → Prop} {ow : Nat → Int} (h : Own can n U R ow) : Mtd can R n := by
  have hc : ∀ i, ∃ k, R i → k < n ∧ U k ∧ ow k = (i : Int) := fun i => by
    by_cases hi : R i
    · obtain ⟨k, hk⟩ := h.one i hi
      exact ⟨k, fun _ => hk⟩
    · exact ⟨0, fun a => absurd a hi⟩
  refine ⟨fun i => Classical.choose (hc i), fun i hi => (Classical.choose_spec (hc i) hi).1, fun i hi => ?_, fun i j hi hj e => ?_⟩
  · obtain ⟨h1, h2, h3⟩ := Classical.choose_spec (hc i) hi
    rcases h.val _ h1 h2 with e | ⟨i', e, _, e2⟩
    · omega
    · have : i' = i := by omega
      subst this; exact e2
  · obtain ⟨_, _, h3⟩ := Classical.choose_spec (hc i) hi
    obtain ⟨_, _, h4⟩ := Classical.choose_spec (hc j) hj
    simp only [e] at h3
    omega

/-- A search from r that found a column: what ow has become. -/
structure Yes (can : Nat → Nat → Bool) (n : Nat) (seen : Nat → Bool) (r : Nat) (ow ow' : Nat → Int) : Prop where
  keep : ∀ k, seen k = true → ow' k = ow k
  aug : ∀ R : Nat → Prop, Own can n (fun k => seen k = false) R ow → ¬ R r → Own can n (fun k => seen k = false) (fun i => R i ∨ i = r) ow'
theorem yes_free {can : Nat → Nat → Bool} {n : Nat} {seen : Nat → Bool} {r k : Nat} {ow : Nat → Int} (hk : k < n) (hs : seen k = false) (hc : can r k = true) (ho : ow k < 0) : Yes can n seen r ow (upd ow k (r : Int)) := by
  refine ⟨fun j hj => upd_ne _ _ (by rintro rfl; rw [hs] at hj; cases hj), fun R h hr => ⟨fun j hj hu => ?_, fun i hi => ?_, fun j j' i hj hj' hu hu' e e' => ?_⟩⟩
  · by_cases e : j = k
    · subst e; exact .inr ⟨r, upd_same _ _ _, .inr rfl, hc⟩
    · rw [upd_ne _ _ e]
      rcases h.val j hj hu with a | ⟨i, a, b, c⟩
      · exact .inl a
      · exact .inr ⟨i, a, .inl b, c⟩
  · rcases hi with hi | rfl
    · obtain ⟨j, h1, h2, h3⟩ := h.one i hi
      exact ⟨j, h1, h2, by rw [upd_ne _ _ (by rintro rfl; omega)]; exact h3⟩
    · exact ⟨k, hk, hs, upd_same _ _ _⟩
  · by_cases c : j = k <;> by_cases c' : j' = k
    · rw [c, c']
    · subst c
      rw [upd_same] at e; rw [upd_ne _ _ c'] at e'
      rcases h.val j' hj' hu' with a | ⟨i', a, b, _⟩
      · omega
      · have : i' = r := by omega
        subst this; exact absurd b hr
    · subst c'
      rw [upd_same] at e'; rw [upd_ne _ _ c] at e
      rcases h.val j hj hu with a | ⟨i', a, b, _⟩
      · omega
      · have : i' = r := by omega
        subst this; exact absurd b hr
    · rw [upd_ne _ _ c] at e; rw [upd_ne _ _ c'] at e'
      exact h.inj j j' i hj hj' hu hu' e e'
/-- A column that r can have is taken by r1, and r1 found another one. -/
theorem yes_deep {can : Nat → Nat → Bool} {n : Nat} {seen0 seen : Nat → Bool} {r r1 k : Nat} {ow ow1 : Nat → Int} (hk : k < n) (hs0 : ∀ j, seen0 j = true → seen j = true) (hs : seen k = false) (hc : can r k = true) (ho : ow k = (r1 : Int))
    (Y : Yes can n (upd seen k true) r1 ow ow1) : Yes can n seen0 r ow (upd ow1 k (r : Int)) := by
  have hs0k : seen0 k = false := by
    cases e : seen0 k with
    | false => rfl
    | true => rw [hs0 k e] at hs; cases hs
  have un : ∀ j, (upd seen k true) j = false → j ≠ k ∧ seen0 j = false := fun j hj => by
    have hne : j ≠ k := by rintro rfl; rw [upd_same] at hj; cases hj
    refine ⟨hne, ?_⟩
    rw [upd_ne _ _ hne] at hj
    cases e : seen0 j with
    | false => rfl
    | true => rw [hs0 j e] at hj; cases hj
  refine ⟨fun j hj => ?_, fun R h hr => ?_⟩
  · have hne : j ≠ k := by rintro rfl; rw [hs0k] at hj; cases hj
    rw [upd_ne _ _ hne]
    exact Y.keep j (by rw [upd_ne _ _ hne]; exact hs0 j hj)
  have hR1 : R r1 := by
    rcases h.val k hk hs0k with a | ⟨i, a, b, _⟩
    · omega
    · have : i = r1 := by omega
      subst this; exact b
  have O1 : Own can n (fun j => (upd seen k true) j = false) (fun i => ∃ c, c < n ∧ (upd seen k true) c = false ∧ ow c = (i : Int)) ow := by
    refine ⟨fun j hj hu => ?_, fun i hi => hi, fun j j' i hj hj' hu hu' e e' => h.inj j j' i hj hj' (un j hu).2 (un j' hu').2 e e'⟩
    rcases h.val j hj (un j hu).2 with a | ⟨i, a, b, c⟩
    · exact .inl a
    · exact .inr ⟨i, a, ⟨j, hj, hu, a⟩, c⟩
  have hn1 : ¬ ∃ c, c < n ∧ (upd seen k true) c = false ∧ ow c = (r1 : Int) := by
    rintro ⟨c, h1, h2, h3⟩
    exact (un c h2).1 (h.inj c k r1 h1 hk (un c h2).2 hs0k h3 ho)
  have O2 := Y.aug _ O1 hn1
  have R1R : ∀ i : Nat, (∃ c, c < n ∧ (upd seen k true) c = false ∧ ow c = (i : Int)) → R i := by
    rintro i ⟨c, h1, h2, h3⟩
    rcases h.val c h1 (un c h2).2 with a | ⟨i', a, b, _⟩
    · omega
    · have : i' = i := by omega
      subst this; exact b
  have kept : ∀ j, j ≠ k → (upd seen k true) j = true → ow1 j = ow j := fun j hne hj => Y.keep j hj
  refine ⟨fun j hj hu => ?_, fun i hi => ?_, fun j j' i hj hj' hu hu' e e' => ?_⟩
  · by_cases e : j = k
    · subst e; exact .inr ⟨r, upd_same _ _ _, .inr rfl, hc⟩
    · rw [upd_ne _ _ e]
      cases hsj : (upd seen k true) j with
      | true =>
        rw [kept j e hsj]
        rcases h.val j hj hu with a | ⟨i, a, b, c⟩
        · exact .inl a
        · exact .inr ⟨i, a, .inl b, c⟩
      | false =>
        rcases O2.val j hj hsj with a | ⟨i, a, b, c⟩
        · exact .inl a
        · refine .inr ⟨i, a, .inl ?_, c⟩
          rcases b with b | rfl
          · exact R1R i b
          · exact hR1
  · rcases hi with hi | rfl
    · obtain ⟨c, h1, h2, h3⟩ := h.one i hi
      by_cases e : c = k
      · have : i = r1 := by subst e; omega
        subst this
        obtain ⟨c', g1, g2, g3⟩ := O2.one i (.inr rfl)
        exact ⟨c', g1, (un c' g2).2, by rw [upd_ne _ _ (un c' g2).1]; exact g3⟩
      · cases hsc : (upd seen k true) c with
        | true => exact ⟨c, h1, h2, by rw [upd_ne _ _ e, kept c e hsc]; exact h3⟩
        | false =>
          obtain ⟨c', g1, g2, g3⟩ := O2.one i (.inl ⟨c, h1, hsc, h3⟩)
          exact ⟨c', g1, (un c' g2).2, by rw [upd_ne _ _ (un c' g2).1]; exact g3⟩
    · exact ⟨k, hk, hs0k, upd_same _ _ _⟩
  · have key : ∀ c, c < n → seen0 c = false → c ≠ k → ow1 c = (r : Int) → False := by
      intro c h1 h2 h3 h4
      cases hsc : (upd seen k true) c with
      | true =>
        rw [kept c h3 hsc] at h4
        rcases h.val c h1 h2 with a | ⟨i', a, b, _⟩
        · omega
        · have : i' = r := by omega
          subst this; exact hr b
      | false =>
        rcases O2.val c h1 hsc with a | ⟨i', a, b, _⟩
        · omega
        · have : i' = r := by omega
          subst this
          rcases b with b | rfl
          · exact hr (R1R _ b)
          · exact hr hR1
    have mixed : ∀ c c', c < n → c' < n → seen0 c = false → c ≠ k → (upd seen k true) c = true → (upd seen k true) c' = false → ow1 c = (i : Int) → ow1 c' = (i : Int) → False := by
      intro c c' h1 h2 h3 h4 h5 h6 h7 h8
      rw [kept c h4 h5] at h7
      rcases O2.val c' h2 h6 with a | ⟨i', a, b, _⟩
      · omega
      · have : i' = i := by omega
        subst this
        rcases b with ⟨c2, g1, g2, g3⟩ | rfl
        · have := h.inj c c2 _ h1 g1 h3 (un c2 g2).2 h7 g3
          subst this; rw [h5] at g2; cases g2
        · exact h4 (h.inj c k _ h1 hk h3 hs0k h7 ho)
    by_cases c : j = k <;> by_cases c' : j' = k
    · rw [c, c']
    · subst c
      rw [upd_same] at e; rw [upd_ne _ _ c'] at e'
      exact (key j' hj' hu' c' (by omega)).elim
    · subst c'
      rw [upd_same] at e'; rw [upd_ne _ _ c] at e
      exact (key j hj hu c (by omega)).elim
    · rw [upd_ne _ _ c] at e; rw [upd_ne _ _ c'] at e'
      cases h1 : (upd seen k true) j <;> cases h2 : (upd seen k true) j'
      · exact O2.inj j j' i hj hj' h1 h2 e e'
      · exact (mixed j' j hj' hj hu' c' h2 h1 e' e).elim
      · exact (mixed j j' hj hj' hu c h1 h2 e e').elim
      · rw [kept j c h1] at e; rw [kept j' c' h2] at e'
        exact h.inj j j' i hj hj' hu hu' e e'

/-- Whose columns these are. -/
def rows (ow : Nat → Int) (ks : List Nat) : List Nat := ks.map fun k => (ow k).toNat
theorem rows_app (ow : Nat → Int) (a b : List Nat) : rows ow (a ++ b) = rows ow a ++ rows ow b := by simp [rows]
def colOf (ow : Nat → Int) (ks : List Nat) (i : Nat) : Nat := (ks.find? fun k => (ow k).toNat == i).getD 0
theorem colOf_mem {ow : Nat → Int} {ks : List Nat} {i : Nat} (h : i ∈ rows ow ks) : colOf ow ks i ∈ ks ∧ (ow (colOf ow ks i)).toNat = i := by
  obtain ⟨k, hk, e⟩ := List.mem_map.1 h
  unfold colOf
  cases hf : ks.find? fun k => (ow k).toNat == i with
  | none =>
    have := List.find?_eq_none.1 hf k hk
    exact absurd (by simpa using e) this
  | some c =>
    exact ⟨List.mem_of_find?_eq_some hf, by simpa using List.find?_some hf⟩
/-- Without x the rows r and those of ks can have the columns ks. -/
def Alt (can : Nat → Nat → Bool) (ow : Nat → Int) (ks : List Nat) (r x : Nat) : Prop :=
  ∃ f : Nat → Nat, (∀ i, (i = r ∨ i ∈ rows ow ks) → i ≠ x → f i ∈ ks ∧ can i (f i) = true) ∧ ∀ i i', (i = r ∨ i ∈ rows ow ks) → (i' = r ∨ i' ∈ rows ow ks) → i ≠ x → i' ≠ x → f i = f i' → i = i'
/-- A search from r that has looked at the columns below j in vain; ks were met. -/
structure No (can : Nat → Nat → Bool) (n : Nat) (ow : Nat → Int) (seen seen' : Nat → Bool) (r j : Nat) (ks : List Nat) : Prop where
  lt : ∀ k ∈ ks, k < n ∧ seen k = false ∧ 0 ≤ ow k
  nodup : ks.Nodup
  seen : ∀ k, seen' k = true ↔ seen k = true ∨ k ∈ ks
  mine : ∀ k, k < j → can r k = true → seen' k = true
  closed : ∀ x ∈ rows ow ks, ∀ k, k < n → can x k = true → seen' k = true
  alt : ∀ x ∈ rows ow ks, Alt can ow ks r x
theorem No.start (can : Nat → Nat → Bool) (n : Nat) (ow : Nat → Int) (seen : Nat → Bool) (r : Nat) : No can n ow seen seen r 0 [] :=
  ⟨fun _ h => by simp at h, List.nodup_nil, fun k => by simp, fun _ h => by omega, fun _ h => by simp [rows] at h, fun _ h => by simp [rows] at h⟩
theorem No.skip {can : Nat → Nat → Bool} {n : Nat} {ow : Nat → Int} {seen seen' : Nat → Bool} {r j : Nat} {ks : List Nat} (h : No can n ow seen seen' r j ks) (hj : seen' j = true ∨ can r j = false) : No can n ow seen seen' r (j + 1) ks := by
  refine ⟨h.lt, h.nodup, h.seen, fun k hk hc => ?_, h.closed, h.alt⟩
  by_cases e : k = j
  · subst e
    rcases hj with hj | hj
    · exact hj
    · rw [hj] at hc; cases hc
  · exact h.mine k (by omega) hc
theorem alt_self {can : Nat → Nat → Bool} {ow : Nat → Int} {ks : List Nat} {r : Nat} (hc : ∀ k ∈ ks, can (ow k).toNat k = true) : Alt can ow ks r r := by
  refine ⟨colOf ow ks, fun i hi hne => ?_, fun i i' hi hi' hne hne' e => ?_⟩
  · rcases hi with hi | hi
    · exact absurd hi hne
    · obtain ⟨h1, h2⟩ := colOf_mem hi
      exact ⟨h1, by have := hc _ h1; rwa [h2] at this⟩
  · rcases hi with hi | hi
    · exact absurd hi hne
    · rcases hi' with hi' | hi'
      · exact absurd hi' hne'
      · have h1 := (colOf_mem hi).2
        have h2 := (colOf_mem hi').2
        rw [e] at h1; omega
theorem No.deep {can : Nat → Nat → Bool} {n : Nat} {ow : Nat → Int} {seen seen' seen2 : Nat → Bool} {r r1 j : Nat} {ks ks2 : List Nat} (h : No can n ow seen seen' r j ks) (hj : j < n) (hs : seen' j = false) (hc : can r j = true) (ho : ow j = (r1 : Int))
    (hv : ∀ k, k < n → seen k = false → 0 ≤ ow k → can (ow k).toNat k = true) (h2 : No can n ow (upd seen' j true) seen2 r1 n ks2) : No can n ow seen seen2 r (j + 1) (ks ++ j :: ks2) := by
  have hsj : seen j = false := by
    cases e : seen j with
    | false => rfl
    | true => rw [(h.seen j).2 (.inl e)] at hs; cases hs
  have hjk : j ∉ ks := fun hm => by rw [(h.seen j).2 (.inr hm)] at hs; cases hs
  have sub2 : ∀ k ∈ ks2, k ≠ j ∧ seen' k = false := fun k hk => by
    have := (h2.lt k hk).2.1
    have hne : k ≠ j := by rintro rfl; rw [upd_same] at this; cases this
    rw [upd_ne _ _ hne] at this
    exact ⟨hne, this⟩
  have dis : ∀ k ∈ ks, k ≠ j ∧ k ∉ ks2 := fun k hk => ⟨fun e => hjk (e ▸ hk), fun hm => by have := (sub2 k hm).2; rw [(h.seen k).2 (.inr hk)] at this; cases this⟩
  have grow : ∀ k, seen' k = true → seen2 k = true := fun k hk => (h2.seen k).2 (.inl (by
    by_cases e : k = j
    · subst e; exact upd_same _ _ _
    · rw [upd_ne _ _ e]; exact hk))
  have hr1 : (ow j).toNat = r1 := by omega
  have lts : ∀ k ∈ ks ++ j :: ks2, k < n ∧ seen k = false ∧ 0 ≤ ow k := fun k hk => by
    rcases List.mem_append.1 hk with hk | hk
    · exact h.lt k hk
    · rcases List.mem_cons.1 hk with rfl | hk
      · exact ⟨hj, hsj, by omega⟩
      · obtain ⟨a, _, c⟩ := h2.lt k hk
        refine ⟨a, ?_, c⟩
        cases e : seen k with
        | false => rfl
        | true => have := (sub2 k hk).2; rw [(h.seen k).2 (.inl e)] at this; cases this
  have cans : ∀ k ∈ ks ++ j :: ks2, can (ow k).toNat k = true := fun k hk => hv k (lts k hk).1 (lts k hk).2.1 (lts k hk).2.2
  have rc : rows ow (ks ++ j :: ks2) = rows ow ks ++ r1 :: rows ow ks2 := by simp [rows, hr1]
  refine ⟨lts, ?_, fun k => ?_, fun k hk hck => ?_, fun x hx k hk hck => ?_, fun x hx => ?_⟩
  · rw [List.nodup_append]
    refine ⟨h.nodup, List.nodup_cons.2 ⟨fun hm => (sub2 j hm).1 rfl, h2.nodup⟩, fun a ha b hb e => ?_⟩
    subst e
    rcases List.mem_cons.1 hb with e | hb
    · exact (dis a ha).1 e
    · exact (dis a ha).2 hb
  · rw [h2.seen k]
    by_cases e : k = j
    · subst e; simp [upd_same]
    · rw [upd_ne _ _ e, h.seen k]
      simp [e, or_assoc]
  · by_cases e : k = j
    · subst e; exact (h2.seen k).2 (.inl (upd_same _ _ _))
    · exact grow k (h.mine k (by omega) hck)
  · rw [rc] at hx
    rcases List.mem_append.1 hx with hx | hx
    · exact grow k (h.closed x hx k hk hck)
    · rcases List.mem_cons.1 hx with rfl | hx
      · exact h2.mine k hk hck
      · exact h2.closed x hx k hk hck
  · rw [rc] at hx
    by_cases hxk : x ∈ rows ow ks
    · obtain ⟨f0, g1, g2⟩ := h.alt x hxk
      have p : ∀ i, (i = r ∨ i ∈ rows ow (ks ++ j :: ks2)) → i ≠ x → ((i = r ∨ i ∈ rows ow ks) ∨ ¬ (i = r ∨ i ∈ rows ow ks) ∧ i ∈ rows ow (j :: ks2)) := fun i hi _ => by
        by_cases q : i = r ∨ i ∈ rows ow ks
        · exact .inl q
        · refine .inr ⟨q, ?_⟩
          rcases hi with hi | hi
          · exact absurd (.inl hi) q
          · rw [rows_app] at hi
            rcases List.mem_append.1 hi with hi | hi
            · exact absurd (.inr hi) q
            · exact hi
      refine ⟨fun i => @ite _ (i = r ∨ i ∈ rows ow ks) (Classical.propDecidable _) (f0 i) (colOf ow (j :: ks2) i), fun i hi hne => ?_, fun i i' hi hi' hne hne' e => ?_⟩
      · rcases p i hi hne with q | ⟨q, q2⟩
        · simp only [if_pos q]
          exact ⟨List.mem_append_left _ (g1 i q hne).1, (g1 i q hne).2⟩
        · simp only [if_neg q]
          obtain ⟨a, b⟩ := colOf_mem q2
          exact ⟨List.mem_append_right _ a, by have := cans _ (List.mem_append_right ks a); rwa [b] at this⟩
      · have dd : ∀ a b, a ∈ ks → b ∈ j :: ks2 → a = b → False := fun a b ha hb e => by
          subst e
          rcases List.mem_cons.1 hb with e | hb
          · exact (dis a ha).1 e
          · exact (dis a ha).2 hb
        rcases p i hi hne with q | ⟨q, q2⟩ <;> rcases p i' hi' hne' with q' | ⟨q', q2'⟩
        · simp only [if_pos q, if_pos q'] at e
          exact g2 i i' q q' hne hne' e
        · simp only [if_pos q, if_neg q'] at e
          exact (dd _ _ (g1 i q hne).1 (colOf_mem q2').1 e).elim
        · simp only [if_neg q, if_pos q'] at e
          exact (dd _ _ (g1 i' q' hne').1 (colOf_mem q2).1 e.symm).elim
        · simp only [if_neg q, if_neg q'] at e
          have a := (colOf_mem q2).2
          have b := (colOf_mem q2').2
          rw [e] at a; omega
    · have hx2 : x = r1 ∨ x ∈ rows ow ks2 := by
        rcases List.mem_append.1 hx with hx | hx
        · exact absurd hx hxk
        · exact List.mem_cons.1 hx
      have A2 : Alt can ow ks2 r1 x := by
        rcases hx2 with rfl | hx2
        · exact alt_self fun k hk => cans k (by simp [hk])
        · exact h2.alt x hx2
      obtain ⟨f2, g1, g2⟩ := A2
      have p : ∀ i, (i = r ∨ i ∈ rows ow (ks ++ j :: ks2)) → i ≠ x → i = r ∨ (i ≠ r ∧ (i = r1 ∨ i ∈ rows ow ks2)) ∨ (i ≠ r ∧ ¬ (i = r1 ∨ i ∈ rows ow ks2) ∧ i ∈ rows ow ks) := fun i hi _ => by
        by_cases q : i = r
        · exact .inl q
        · by_cases q2 : i = r1 ∨ i ∈ rows ow ks2
          · exact .inr (.inl ⟨q, q2⟩)
          · refine .inr (.inr ⟨q, q2, ?_⟩)
            rcases hi with hi | hi
            · exact absurd hi q
            · rw [rc] at hi
              rcases List.mem_append.1 hi with hi | hi
              · exact hi
              · exact absurd (List.mem_cons.1 hi) q2
      refine ⟨fun i => @ite _ (i = r) (Classical.propDecidable _) j (@ite _ (i = r1 ∨ i ∈ rows ow ks2) (Classical.propDecidable _) (f2 i) (colOf ow ks i)), fun i hi hne => ?_, fun i i' hi hi' hne hne' e => ?_⟩
      · rcases p i hi hne with q | ⟨q, q2⟩ | ⟨q, q2, q3⟩
        · simp only [if_pos q]
          exact ⟨by simp, by rw [q]; exact hc⟩
        · simp only [if_neg q, if_pos q2]
          exact ⟨by simp [(g1 i q2 hne).1], (g1 i q2 hne).2⟩
        · simp only [if_neg q, if_neg q2]
          obtain ⟨a, b⟩ := colOf_mem q3
          exact ⟨by simp [a], by have := cans _ (List.mem_append_left (j :: ks2) a); rwa [b] at this⟩
      · rcases p i hi hne with q | ⟨q, q2⟩ | ⟨q, q2, q3⟩ <;> rcases p i' hi' hne' with q' | ⟨q', q2'⟩ | ⟨q', q2', q3'⟩
        · rw [q, q']
        · simp only [if_pos q, if_neg q', if_pos q2'] at e
          exact ((sub2 _ (g1 i' q2' hne').1).1 e.symm).elim
        · simp only [if_pos q, if_neg q', if_neg q2'] at e
          exact ((dis _ (colOf_mem q3').1).1 e.symm).elim
        · simp only [if_neg q, if_pos q2, if_pos q'] at e
          exact ((sub2 _ (g1 i q2 hne).1).1 e).elim
        · simp only [if_neg q, if_pos q2, if_neg q', if_pos q2'] at e
          exact g2 i i' q2 q2' hne hne' e
        · simp only [if_neg q, if_pos q2, if_neg q', if_neg q2'] at e
          exact ((dis _ (colOf_mem q3').1).2 (e ▸ (g1 i q2 hne).1)).elim
        · simp only [if_neg q, if_neg q2, if_pos q'] at e
          exact ((dis _ (colOf_mem q3).1).1 e).elim
        · simp only [if_neg q, if_neg q2, if_neg q', if_pos q2'] at e
          exact ((dis _ (colOf_mem q3).1).2 (e ▸ (g1 i' q2' hne').1)).elim
        · simp only [if_neg q, if_neg q2, if_neg q', if_neg q2'] at e
          have a := (colOf_mem q3).2
          have b := (colOf_mem q3').2
          rw [e] at a; omega

/-- As many as go to different ones. -/
theorem pigeon (l : List Nat) : ∀ (ks : List Nat) (f : Nat → Nat), l.Nodup → (∀ i ∈ l, ∀ j ∈ l, f i = f j → i = j) → (∀ i ∈ l, f i ∈ ks) → l.length ≤ ks.length := by
  induction l with
  | nil => intro ks f _ _ _; exact Nat.zero_le _
  | cons x l ih =>
    intro ks f hn hi hm
    have hx := hm x (by simp)
    have h1 := ih (ks.erase (f x)) f (List.nodup_cons.1 hn).2 (fun i hi1 j hj1 => hi i (by simp [hi1]) j (by simp [hj1])) fun i hil => by
      refine (List.mem_erase_of_ne fun e => ?_).2 (hm i (by simp [hil]))
      have := hi i (by simp [hil]) x (by simp) e
      subst this
      exact (List.nodup_cons.1 hn).1 hil
    rw [List.length_erase_of_mem hx] at h1
    have : 0 < ks.length := List.length_pos_of_mem hx
    simp; omega
theorem rows_nodup {can : Nat → Nat → Bool} {n : Nat} {ow : Nat → Int} {seen seen' : Nat → Bool} {r j : Nat} {ks : List Nat} {R : Nat → Prop} (h : No can n ow seen seen' r j ks) (O : Own can n (fun k => seen k = false) R ow) : (rows ow ks).Nodup := by
  have hl := h.lt
  have hn := h.nodup
  clear h
  induction ks with
  | nil => exact List.nodup_nil
  | cons k ks ih =>
    refine List.nodup_cons.2 ⟨fun hm => ?_, ih (fun a ha => hl a (by simp [ha])) (List.nodup_cons.1 hn).2⟩
    obtain ⟨k', hk', e⟩ := List.mem_map.1 hm
    obtain ⟨a1, a2, a3⟩ := hl k (by simp)
    obtain ⟨b1, b2, b3⟩ := hl k' (by simp [hk'])
    have e : (ow k').toNat = (ow k).toNat := e
    have := O.inj k k' (ow k).toNat a1 b1 a2 b2 (by omega) (by omega)
    subst this
    exact (List.nodup_cons.1 hn).1 hk'
theorem rows_in {can : Nat → Nat → Bool} {n : Nat} {ow : Nat → Int} {seen seen' : Nat → Bool} {r j : Nat} {ks : List Nat} {R : Nat → Prop} (h : No can n ow seen seen' r j ks) (O : Own can n (fun k => seen k = false) R ow) : ∀ i ∈ rows ow ks, R i := by
  intro i hi
  obtain ⟨k, hk, e⟩ := List.mem_map.1 hi
  obtain ⟨a1, a2, a3⟩ := h.lt k hk
  rcases O.val k a1 a2 with b | ⟨i', b, c, _⟩
  · omega
  · have : i' = i := by omega
    subst this; exact c
/-- What a search in vain shows: r and the rows that were met cannot be matched; without any one of them they can. -/
theorem No.hall {can : Nat → Nat → Bool} {n : Nat} {ow : Nat → Int} {seen' : Nat → Bool} {r : Nat} {ks : List Nat} {R : Nat → Prop} (h : No can n ow (fun _ => false) seen' r n ks) (O : Own can n (fun _ => True) R ow) (hr : ¬ R r) :
    (r :: rows ow ks).Nodup ∧ ¬ Mtd can (fun i => i ∈ r :: rows ow ks) n ∧ (∀ x ∈ r :: rows ow ks, Mtd can (fun i => i ∈ r :: rows ow ks ∧ i ≠ x) n) ∧ (∀ x ∈ r :: rows ow ks, ∀ k, k < n → can x k = true → k ∈ ks) := by
  have O' : Own can n (fun k => (fun _ : Nat => false) k = false) R ow := ⟨fun k hk _ => O.val k hk trivial, fun i hi => by obtain ⟨k, a, _, b⟩ := O.one i hi; exact ⟨k, a, rfl, b⟩, fun k k' i a b _ _ => O.inj k k' i a b trivial trivial⟩
  have hnd : (r :: rows ow ks).Nodup := List.nodup_cons.2 ⟨fun hm => hr (rows_in h O' r hm), rows_nodup h O'⟩
  have hcl : ∀ x ∈ r :: rows ow ks, ∀ k, k < n → can x k = true → k ∈ ks := fun x hx k hk hc => by
    have : seen' k = true := by
      rcases List.mem_cons.1 hx with rfl | hx
      · exact h.mine k hk hc
      · exact h.closed x hx k hk hc
    rcases (h.seen k).1 this with e | e
    · cases e
    · exact e
  refine ⟨hnd, ?_, fun x hx => ?_, hcl⟩
  · rintro ⟨f, hf⟩
    have := pigeon (r :: rows ow ks) ks f hnd (fun i hi j hj => hf.inj i j hi hj) fun i hi => hcl i hi (f i) (hf.lt i hi) (hf.can i hi)
    simp [rows] at this
    omega
  · have A : Alt can ow ks r x := by
      rcases List.mem_cons.1 hx with rfl | hx
      · exact alt_self fun k hk => by
          obtain ⟨a1, a2, a3⟩ := h.lt k hk
          rcases O'.val k a1 a2 with b | ⟨i', b, _, c⟩
          · omega
          · have : (ow k).toNat = i' := by omega
            rw [this]; exact c
      · exact h.alt x hx
    obtain ⟨f, g1, g2⟩ := A
    exact ⟨f, fun i hi => (h.lt _ (g1 i (List.mem_cons.1 hi.1) hi.2).1).1, fun i hi => (g1 i (List.mem_cons.1 hi.1) hi.2).2, fun i j hi hj => g2 i j (List.mem_cons.1 hi.1) (List.mem_cons.1 hj.1) hi.2 hj.2⟩

/-- Without x all rows can be matched. -/
theorem No.others {can : Nat → Nat → Bool} {n : Nat} {ow : Nat → Int} {seen' : Nat → Bool} {r : Nat} {ks : List Nat} {R : Nat → Prop} (h : No can n ow (fun _ => false) seen' r n ks) (O : Own can n (fun _ => True) R ow) (hr : ¬ R r) :
    ∀ x ∈ r :: rows ow ks, Mtd can (fun i => (R i ∨ i = r) ∧ i ≠ x) n := by
  have O' : Own can n (fun k => (fun _ : Nat => false) k = false) R ow := ⟨fun k hk _ => O.val k hk trivial, fun i hi => by obtain ⟨k, a, _, b⟩ := O.one i hi; exact ⟨k, a, rfl, b⟩, fun k k' i a b _ _ => O.inj k k' i a b trivial trivial⟩
  intro x hx
  have A : Alt can ow ks r x := by
    rcases List.mem_cons.1 hx with rfl | hx
    · exact alt_self fun k hk => by
        obtain ⟨a1, a2, a3⟩ := h.lt k hk
        rcases O'.val k a1 a2 with b | ⟨i', b, _, c⟩
        · omega
        · have : (ow k).toNat = i' := by omega
          rw [this]; exact c
    · exact h.alt x hx
  obtain ⟨f, g1, g2⟩ := A
  have hc : ∀ i, ∃ k, R i → k < n ∧ ow k = (i : Int) := fun i => by
    by_cases hi : R i
    · obtain ⟨k, hk, _, e⟩ := O.one i hi
      exact ⟨k, fun _ => ⟨hk, e⟩⟩
    · exact ⟨0, fun a => absurd a hi⟩
  have out : ∀ i, R i → ¬ (i = r ∨ i ∈ rows ow ks) → Classical.choose (hc i) ∉ ks := fun i hi hn hm => by
    obtain ⟨_, e⟩ := Classical.choose_spec (hc i) hi
    exact hn (.inr (List.mem_map.2 ⟨_, hm, by rw [e]; rfl⟩))
  refine ⟨fun i => @ite _ (i = r ∨ i ∈ rows ow ks) (Classical.propDecidable _) (f i) (Classical.choose (hc i)), fun i hi => ?_, fun i hi => ?_, fun i j hi hj e => ?_⟩
  · by_cases q : i = r ∨ i ∈ rows ow ks
    · simp only [if_pos q]; exact (h.lt _ (g1 i q hi.2).1).1
    · simp only [if_neg q]
      exact (Classical.choose_spec (hc i) (hi.1.resolve_right fun a => q (.inl a))).1
  · by_cases q : i = r ∨ i ∈ rows ow ks
    · simp only [if_pos q]; exact (g1 i q hi.2).2
    · simp only [if_neg q]
      obtain ⟨a, b⟩ := Classical.choose_spec (hc i) (hi.1.resolve_right fun a => q (.inl a))
      rcases O.val _ a trivial with e | ⟨i', e, _, e2⟩
      · omega
      · have : i' = i := by omega
        subst this; exact e2
  · by_cases q : i = r ∨ i ∈ rows ow ks <;> by_cases q' : j = r ∨ j ∈ rows ow ks
    · simp only [if_pos q, if_pos q'] at e
      exact g2 i j q q' hi.2 hj.2 e
    · simp only [if_pos q, if_neg q'] at e
      exact (out j (hj.1.resolve_right fun a => q' (.inl a)) q' (e ▸ (g1 i q hi.2).1)).elim
    · simp only [if_neg q, if_pos q'] at e
      exact (out i (hi.1.resolve_right fun a => q (.inl a)) q (e ▸ (g1 j q' hj.2).1)).elim
    · simp only [if_neg q, if_neg q'] at e
      have a := (Classical.choose_spec (hc i) (hi.1.resolve_right fun a => q (.inl a))).2
      have b := (Classical.choose_spec (hc j) (hj.1.resolve_right fun a => q' (.inl a))).2
      rw [e] at a; omega
/-- Rows that cannot be matched, but without any one of them can; j is the last of them. -/
structure Circ (can : Nat → Nat → Bool) (n m j : Nat) (ms : List Nat) : Prop where
  nodup : ms.Nodup
  mem : j ∈ ms
  le : ∀ x ∈ ms, x ≤ j
  lt : j < m
  before : Mtd can (fun i => i < j) n
  no : ¬ Mtd can (fun i => i ∈ ms) n
  others : ∀ x ∈ ms, Mtd can (fun i => i ≤ j ∧ i ≠ x) n
  few : ∃ ks : List Nat, ks.length + 1 = ms.length ∧ ∀ x ∈ ms, ∀ k, k < n → can x k = true → k ∈ ks
theorem circ_of {can : Nat → Nat → Bool} {n m : Nat} {ow : Nat → Int} {seen' : Nat → Bool} {r : Nat} {ks : List Nat} (h : No can n ow (fun _ => false) seen' r n ks) (O : Own can n (fun _ => True) (fun i => i < r) ow) (hm : r < m) : Circ can n m r (r :: rows ow ks) := by
  have O' : Own can n (fun k => (fun _ : Nat => false) k = false) (fun i => i < r) ow := ⟨fun k hk _ => O.val k hk trivial, fun i hi => by obtain ⟨k, a, _, b⟩ := O.one i hi; exact ⟨k, a, rfl, b⟩, fun k k' i a b _ _ => O.inj k k' i a b trivial trivial⟩
  obtain ⟨h1, h2, h3, h4⟩ := h.hall O (by omega)
  refine ⟨h1, by simp, fun x hx => ?_, hm, O.mt, h2, fun x hx => (h.others O (by omega) x hx).sub fun i hi => ⟨by omega, hi.2⟩, ks, by simp [rows], h4⟩
  rcases List.mem_cons.1 hx with rfl | hx
  · exact Nat.le_refl _
  · have := rows_in h O' x hx; omega
theorem own_yes {can : Nat → Nat → Bool} {n r : Nat} {ow ow' : Nat → Int} (Y : Yes can n (fun _ => false) r ow ow') (O : Own can n (fun _ => True) (fun i => i < r) ow) : Own can n (fun _ => True) (fun i => i < r + 1) ow' := by
  have O' : Own can n (fun k => (fun _ : Nat => false) k = false) (fun i => i < r) ow := ⟨fun k hk _ => O.val k hk trivial, fun i hi => by obtain ⟨k, a, _, b⟩ := O.one i hi; exact ⟨k, a, rfl, b⟩, fun k k' i a b _ _ => O.inj k k' i a b trivial trivial⟩
  have O2 := Y.aug _ O' (by omega)
  refine ⟨fun k hk _ => ?_, fun i hi => ?_, fun k k' i a b _ _ => O2.inj k k' i a b rfl rfl⟩
  · rcases O2.val k hk rfl with e | ⟨i, e, e2, e3⟩
    · exact .inl e
    · exact .inr ⟨i, e, by omega, e3⟩
  · obtain ⟨k, a, _, b⟩ := O2.one i (by omega)
    exact ⟨k, a, trivial, b⟩

end Go.Proofs.Ytkpgphadgomifaa
