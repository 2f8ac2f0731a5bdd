/- A row is added along the least way, and prices are raised: plain laws. -/
import Derived.Test.YtkpgphadgomifaaMatchHung
namespace Go.Proofs.Ytkpgphadgomifaa
set_option linter.unusedSimpArgs false
set_option linter.unusedVariables false

/-- The search has ended at the free column k0. -/
structure Fin (C : Nat → Nat → Int) (n r : Nat) (u v ow : Nat → Int) (dist frm : Nat → Int) (ord : List Nat) (k0 : Nat) : Prop where
  nod : ord.Nodup
  lt : ∀ k ∈ ord, k < n ∧ 0 ≤ ow k
  k0n : k0 < n
  k0o : k0 ∉ ord
  free : ow k0 = -1
  le : ∀ k ∈ ord, 0 ≤ dist k ∧ dist k ≤ dist k0
  ge : ∀ k, k < n → k ∉ ord → dist k0 ≤ dist k
  pos : 0 ≤ dist k0
  rel : ∀ x dx, Tr ow r dist ord x dx → ∀ k, k < n → 0 ≤ C x k → dist k ≤ dx + (C x k - u x - v k)
  par0 : Par C u v ow r dist frm (fun k' => k' ∈ ord) k0
  parD : ∀ pre k post, ord = pre ++ k :: post → Par C u v ow r dist frm (fun k' => k' ∈ pre) k
  bnd : dist k0 ≤ (n : Int) * 1000000
theorem Dj.fin {C : Nat → Nat → Int} {n r : Nat} {V : Int} {u v ow dist frm : Nat → Int} {ord : List Nat} {base : Int} {cur k0 : Nat} (p : Pot C n r V u v ow) (d : Dj C n r u v ow false dist frm ord base cur) (h1 : k0 < n) (h2 : k0 ∉ ord) (h3 : dist k0 < far) (h4 : ∀ k, k < n → k ∉ ord → dist k0 ≤ dist k)
    (ho : ow k0 = -1) : Fin C n r u v ow dist frm ord k0 := by
  have hb := d.ge k0 h1 h2
  have hb0 := d.b0
  have hlen : ord.length + 1 ≤ n := by
    have hn : (ord ++ [k0]).Nodup := by
      rw [List.nodup_append]
      exact ⟨d.nod, by simp, fun a ha b hb e => by simp at hb; subst hb; subst e; exact h2 ha⟩
    have := ord_len hn fun k hk => by
      rcases List.mem_append.1 hk with hk | hk
      · exact (d.lt k hk).1
      · simp at hk; subst hk; exact h1
    simpa using this
  refine ⟨d.nod, d.lt, h1, h2, ho, fun k hk => by have := d.le k hk; omega, h4, by omega, fun x dx t k hk hc => d.rel x dx t (fun e => by cases e) k hk hc, d.parN k0 h1 h2 h3, d.parD, ?_⟩
  have h5 := d.bnd k0 h1 h3
  have h6 := p.free k0 h1 ho
  simp at h5
  rw [Int.add_mul] at h5
  omega
/-- The prices behind the search. -/
structure NewP (n r : Nat) (u v ow dist : Nat → Int) (ord : List Nat) (base : Int) (u' v' : Nat → Int) : Prop where
  hv : ∀ k, k < n → v' k = if k ∈ ord then v k - (base - dist k) else v k
  hr : u' r = u r + base
  ho : ∀ k ∈ ord, ∀ i : Nat, ow k = (i : Int) → u' i = u i + (base - dist k)
  hx : ∀ i, i ≠ r → (∀ k ∈ ord, ow k ≠ (i : Int)) → u' i = u i
/-- On the way back from k0: the column k has been given up by its row. -/
structure Aug (C : Nat → Nat → Int) (n r : Nat) (u' v' ow : Nat → Int) (ord : List Nat) (k0 k : Nat) (pre : List Nat) (o : Nat → Int) : Prop where
  hk : k < n
  at_ : (k = k0 ∧ pre = ord) ∨ ∃ post, ord = pre ++ k :: post
  own : Own (may C) n (fun _ => True) (fun i => i < r) (upd o k (-1))
  same : ∀ k' ∈ pre, o k' = ow k'
  tight : ∀ k' (i : Nat), k' < n → k' ≠ k → o k' = (i : Int) → u' i + v' k' = C i k'
  cov : ∀ k', k' < n → k' ≠ k → 0 ≤ ow k' → 0 ≤ o k'
theorem upd_id {α : Type} (f : Nat → α) (k : Nat) (v : α) (h : f k = v) : upd f k v = f := by
  funext j
  by_cases e : j = k
  · subst e; rw [upd_same, h]
  · rw [upd_ne _ _ e]
section
variable {C : Nat → Nat → Int} {n r : Nat} {V : Int} {u v ow dist frm u' v' : Nat → Int} {ord : List Nat} {k0 : Nat}
theorem Fin.ownR (p : Pot C n r V u v ow) (f : Fin C n r u v ow dist frm ord k0) : ∀ k ∈ ord, ∃ i : Nat, ow k = (i : Int) ∧ i < r ∧ 0 ≤ C i k := fun k hk => by
  obtain ⟨a, b⟩ := f.lt k hk
  rcases p.own.val k a trivial with e | ⟨i, e, e2, e3⟩
  · omega
  · exact ⟨i, e, e2, (may_iff _ _ _).1 e3⟩
theorem Aug.start (p : Pot C n r V u v ow) (f : Fin C n r u v ow dist frm ord k0) (q : NewP n r u v ow dist ord (dist k0) u' v') : Aug C n r u' v' ow ord k0 k0 ord ow := by
  refine ⟨f.k0n, .inl ⟨rfl, rfl⟩, by rw [upd_id _ _ _ f.free]; exact p.own, fun _ _ => rfl, fun k i hk _ e => ?_, fun _ _ _ h => h⟩
  have h1 := p.tight k i hk e
  have h2 := q.hv k hk
  have hir : i < r := by
    rcases p.own.val k hk trivial with a | ⟨i', a, b, _⟩
    · omega
    · omega
  by_cases ho : k ∈ ord
  · rw [if_pos ho] at h2
    have h3 := q.ho k ho i e
    omega
  · rw [if_neg ho] at h2
    have h3 := q.hx i (by omega) fun k' hk' e' => by
      have := p.own.inj k k' i hk (f.lt k' hk').1 trivial trivial e e'
      subst this; exact ho hk'
    omega
theorem Aug.par {k : Nat} {pre : List Nat} {o : Nat → Int} (f : Fin C n r u v ow dist frm ord k0) (g : Aug C n r u' v' ow ord k0 k pre o) : Par C u v ow r dist frm (fun k' => k' ∈ pre) k ∧ (∀ k' ∈ pre, k' ∈ ord ∧ k' ≠ k) ∧ v' k = v' k := by
  rcases g.at_ with ⟨rfl, rfl⟩ | ⟨post, e⟩
  · exact ⟨f.par0, fun k' hk' => ⟨hk', fun e => f.k0o (e ▸ hk')⟩, rfl⟩
  · refine ⟨f.parD pre k post e, fun k' hk' => ⟨by rw [e]; simp [hk'], fun e2 => ?_⟩, rfl⟩
    have := f.nod
    rw [e, List.nodup_append] at this
    exact this.2.2 k' hk' k (by simp) e2
theorem Aug.newv {k : Nat} {pre : List Nat} {o : Nat → Int} (f : Fin C n r u v ow dist frm ord k0) (q : NewP n r u v ow dist ord (dist k0) u' v') (g : Aug C n r u' v' ow ord k0 k pre o) : v' k = v k - (dist k0 - dist k) := by
  have h := q.hv k g.hk
  rcases g.at_ with ⟨rfl, rfl⟩ | ⟨post, e⟩
  · rw [if_neg f.k0o] at h; omega
  · rw [if_pos (by rw [e]; simp)] at h; exact h
theorem Aug.step {k k' : Nat} {pre : List Nat} {o : Nat → Int} (p : Pot C n r V u v ow) (f : Fin C n r u v ow dist frm ord k0) (q : NewP n r u v ow dist ord (dist k0) u' v') (g : Aug C n r u' v' ow ord k0 k pre o) (hf : frm k = (k' : Int)) :
    ∃ pre', pre'.length < pre.length ∧ k' < n ∧ k' ∈ pre ∧ 0 ≤ o k' ∧ o k' = ow k' ∧ Aug C n r u' v' ow ord k0 k' pre' (upd o k (o k')) := by
  obtain ⟨par, hpre, _⟩ := g.par f
  rcases par with ⟨a, _⟩ | ⟨k2, i, a, b, c, c2, c3⟩
  · omega
  have : k2 = k' := by omega
  subst this
  obtain ⟨ho, hne⟩ := hpre k2 a
  have hk2 := (f.lt k2 ho).1
  have hoi : o k2 = (i : Int) := by rw [g.same k2 a]; exact c
  obtain ⟨i', hi', hir, _⟩ := f.ownR p k2 ho
  have hii : i' = i := by omega
  subst hii
  obtain ⟨pre', post', e⟩ := List.append_of_mem a
  have hpo : ∃ post, ord = pre' ++ k2 :: post := by
    rcases g.at_ with ⟨_, h⟩ | ⟨post, h⟩
    · exact ⟨post', by rw [← h, e]⟩
    · exact ⟨post' ++ k :: post, by rw [h, e]; simp⟩
  have hnk : ∀ x ∈ pre', x ≠ k2 ∧ x ∈ pre := fun x hx => by
    refine ⟨fun e2 => ?_, by rw [e]; simp [hx]⟩
    obtain ⟨post, h⟩ := hpo
    have := f.nod
    rw [h, List.nodup_append] at this
    exact this.2.2 x hx k2 (by simp) e2
  refine ⟨pre', by rw [e]; simp, hk2, a, by omega, g.same k2 a, ⟨hk2, .inr hpo, ?_, fun x hx => ?_, fun x j hx hxk e2 => ?_, fun x hx hxk h => ?_⟩⟩
  · rw [hoi]
    have O := g.own
    have vv : ∀ j, j < n → j ≠ k → j ≠ k2 → upd (upd o k (i' : Int)) k2 (-1) j = upd o k (-1) j := fun j _ h1 h2 => by rw [upd_ne _ _ h2, upd_ne _ _ h1, upd_ne _ _ h1]
    have vk : upd (upd o k (i' : Int)) k2 (-1) k = (i' : Int) := by rw [upd_ne _ _ (Ne.symm hne), upd_same]
    have o2 : upd o k (-1) k2 = (i' : Int) := by rw [upd_ne _ _ hne, hoi]
    refine ⟨fun j hj _ => ?_, fun x hx => ?_, fun j j' x hj hj' _ _ e1 e2 => ?_⟩
    · by_cases e1 : j = k2
      · subst e1; exact .inl (upd_same _ _ _)
      · by_cases e2 : j = k
        · subst e2; rw [vk]; exact .inr ⟨i', rfl, hir, (may_iff _ _ _).2 c2⟩
        · rw [vv j hj e2 e1]; exact O.val j hj trivial
    · obtain ⟨j, h1, _, h2⟩ := O.one x hx
      by_cases e1 : j = k2
      · subst e1
        rw [o2] at h2
        exact ⟨k, g.hk, trivial, by rw [vk]; exact h2⟩
      · have e2 : j ≠ k := by rintro rfl; rw [upd_same] at h2; omega
        exact ⟨j, h1, trivial, by rw [vv j h1 e2 e1]; exact h2⟩
    · have n1 : j ≠ k2 := by rintro rfl; rw [upd_same] at e1; omega
      have n2 : j' ≠ k2 := by rintro rfl; rw [upd_same] at e2; omega
      by_cases q1 : j = k <;> by_cases q2 : j' = k
      · rw [q1, q2]
      · subst q1
        rw [vk] at e1; rw [vv j' hj' q2 n2] at e2
        have := O.inj j' k2 x hj' hk2 trivial trivial e2 (by rw [o2]; exact e1)
        exact absurd this n2
      · subst q2
        rw [vk] at e2; rw [vv j hj q1 n1] at e1
        have := O.inj j k2 x hj hk2 trivial trivial e1 (by rw [o2]; exact e2)
        exact absurd this n1
      · rw [vv j hj q1 n1] at e1; rw [vv j' hj' q2 n2] at e2
        exact O.inj j j' x hj hj' trivial trivial e1 e2
  · rw [upd_ne _ _ (hpre x (hnk x hx).2).2]; exact g.same x (hnk x hx).2
  · by_cases e1 : x = k
    · subst e1
      rw [upd_same, hoi] at e2
      have : j = i' := by omega
      subst this
      have h1 := q.ho k2 ho j c
      have h2 := g.newv f q
      omega
    · rw [upd_ne _ _ e1] at e2
      exact g.tight x j hx e1 e2
  · by_cases e1 : x = k
    · subst e1; rw [upd_same, hoi]; omega
    · rw [upd_ne _ _ e1]; exact g.cov x hx e1 h
theorem Aug.last {k : Nat} {pre : List Nat} {o : Nat → Int} (p : Pot C n r V u v ow) (f : Fin C n r u v ow dist frm ord k0) (q : NewP n r u v ow dist ord (dist k0) u' v') (g : Aug C n r u' v' ow ord k0 k pre o) (hf : frm k < 0) :
    Pot C n (r + 1) (V + n * 1000000) u' v' (upd o k (r : Int)) := by
  obtain ⟨par, hpre, _⟩ := g.par f
  rcases par with ⟨a, b, c⟩ | ⟨k2, i, a, b, _⟩
  case inr => omega
  have O := g.own
  have u0 := p.zero r (Nat.le_refl _)
  have tr : ∀ k ∈ ord, ∀ i : Nat, ow k = (i : Int) → Tr ow r dist ord i (dist k) := fun k hk i e => .inr ⟨k, hk, e, rfl⟩
  have vle : ∀ k, k < n → v' k ≤ v k := fun k hk => by
    have := q.hv k hk
    by_cases ho : k ∈ ord
    · rw [if_pos ho] at this; have := f.le k ho; omega
    · rw [if_neg ho] at this; omega
  -- a row that was reached, with its new price
  have reach : ∀ x dx, Tr ow r dist ord x dx → u' x = u x + (dist k0 - dx) := fun x dx t => by
    rcases t with ⟨rfl, rfl⟩ | ⟨k, hk, e, rfl⟩
    · rw [q.hr]; omega
    · exact q.ho k hk x e
  have feasT : ∀ x dx, Tr ow r dist ord x dx → ∀ k, k < n → 0 ≤ C x k → u' x + v' k ≤ C x k := fun x dx t k hk hc => by
    have h1 := reach x dx t
    have h2 := f.rel x dx t k hk hc
    have h3 := q.hv k hk
    by_cases ho : k ∈ ord
    · rw [if_pos ho] at h3; omega
    · rw [if_neg ho] at h3; have := f.ge k hk ho; omega
  have cases' : ∀ i, (∃ dx, Tr ow r dist ord i dx) ∨ (i ≠ r ∧ u' i = u i) := fun i => by
    by_cases h : ∃ dx, Tr ow r dist ord i dx
    · exact .inl h
    · refine .inr ⟨fun e => h ⟨0, .inl ⟨e, rfl⟩⟩, q.hx i (fun e => h ⟨0, .inl ⟨e, rfl⟩⟩) fun k hk e => h ⟨_, tr k hk i e⟩⟩
  have upos : ∀ i, u i ≤ u' i := fun i => by
    rcases cases' i with ⟨dx, t⟩ | ⟨_, e⟩
    · have h1 := reach i dx t
      have : dx ≤ dist k0 := by
        rcases t with ⟨_, rfl⟩ | ⟨k, hk, _, rfl⟩
        · exact f.pos
        · exact (f.le k hk).2
      omega
    · omega
  refine ⟨⟨fun j hj _ => ?_, fun x hx => ?_, fun j j' x hj hj' _ _ e1 e2 => ?_⟩, fun i k' hi hk' hc => ?_, fun k' hk' => ?_, fun k' hk' e => ?_, fun k' i hk' e => ?_, fun i hi => ?_, fun i hi => ?_, fun k' hk' => ?_⟩
  · by_cases e : j = k
    · subst e; exact .inr ⟨r, upd_same _ _ _, by omega, (may_iff _ _ _).2 b⟩
    · rw [upd_ne _ _ e]
      have := O.val j hj trivial
      rw [upd_ne _ _ e] at this
      rcases this with e2 | ⟨i, e2, e3, e4⟩
      · exact .inl e2
      · exact .inr ⟨i, e2, by omega, e4⟩
  · by_cases e : x = r
    · subst e; exact ⟨k, g.hk, trivial, upd_same _ _ _⟩
    · obtain ⟨j, h1, _, h2⟩ := O.one x (by omega)
      have hne : j ≠ k := by rintro rfl; rw [upd_same] at h2; omega
      rw [upd_ne _ _ hne] at h2
      exact ⟨j, h1, trivial, by rw [upd_ne _ _ hne]; exact h2⟩
  · have key : ∀ j, j < n → j ≠ k → o j = (r : Int) → False := fun j hj hne e => by
      have := O.val j hj trivial
      rw [upd_ne _ _ hne] at this
      rcases this with e2 | ⟨i, e2, e3, _⟩ <;> omega
    by_cases q1 : j = k <;> by_cases q2 : j' = k
    · rw [q1, q2]
    · subst q1
      rw [upd_same] at e1; rw [upd_ne _ _ q2] at e2
      exact (key j' hj' q2 (by omega)).elim
    · subst q2
      rw [upd_same] at e2; rw [upd_ne _ _ q1] at e1
      exact (key j hj q1 (by omega)).elim
    · rw [upd_ne _ _ q1] at e1; rw [upd_ne _ _ q2] at e2
      exact O.inj j j' x hj hj' trivial trivial (by rw [upd_ne _ _ q1]; exact e1) (by rw [upd_ne _ _ q2]; exact e2)
  · rcases cases' i with ⟨dx, t⟩ | ⟨hne, e⟩
    · exact feasT i dx t k' hk' hc
    · have := p.feas i k' (by omega) hk' hc
      have := vle k' hk'
      omega
  · have := vle k' hk'; have := p.vneg k' hk'; omega
  · have hne : k' ≠ k := by rintro rfl; rw [upd_same] at e; omega
    rw [upd_ne _ _ hne] at e
    have how : ¬ 0 ≤ ow k' := fun h => by have := g.cov k' hk' hne h; omega
    have hfree : ow k' = -1 := by
      rcases p.own.val k' hk' trivial with a | ⟨i, a, _⟩
      · exact a
      · omega
    have hno : k' ∉ ord := fun h => how (f.lt k' h).2
    have h3 := q.hv k' hk'
    rw [if_neg hno] at h3
    rw [h3]; exact p.free k' hk' hfree
  · by_cases e1 : k' = k
    · subst e1
      rw [upd_same] at e
      have : i = r := by omega
      subst this
      have h1 := q.hr
      have h2 := g.newv f q
      omega
    · rw [upd_ne _ _ e1] at e
      exact g.tight k' i hk' e1 e
  · by_cases e : i < r
    · have := p.upos i e; have := upos i; omega
    · have : i = r := by omega
      subst this
      have := q.hr; have := f.pos; omega
  · rcases cases' i with ⟨dx, t⟩ | ⟨_, e⟩
    · exfalso
      rcases t with ⟨rfl, _⟩ | ⟨k, hk, e, _⟩
      · omega
      · obtain ⟨i', h1, h2, _⟩ := f.ownR p k hk
        omega
    · rw [e]; exact p.zero i (by omega)
  · have h3 := q.hv k' hk'
    have h4 := p.vlow k' hk'
    have h5 := f.bnd
    have h6 := f.pos
    by_cases ho : k' ∈ ord
    · rw [if_pos ho] at h3; have := f.le k' ho; omega
    · rw [if_neg ho] at h3; omega
end
end Go.Proofs.Ytkpgphadgomifaa
