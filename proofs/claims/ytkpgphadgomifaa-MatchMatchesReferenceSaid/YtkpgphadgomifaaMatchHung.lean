/- Prices that prove a matching of least cost, row by row: plain laws, no condition beside those named. -/
import Derived.Test.YtkpgphadgomifaaMatchPure
namespace Go.Proofs.Ytkpgphadgomifaa
set_option linter.unusedSimpArgs false
set_option linter.unusedVariables false

def may (C : Nat → Nat → Int) (i k : Nat) : Bool := decide (0 ≤ C i k)
theorem may_iff (C : Nat → Nat → Int) (i k : Nat) : may C i k = true ↔ 0 ≤ C i k := by simp [may]
/-- A matching of the rows below r, and prices that prove that it is one of least cost. -/
structure Pot (C : Nat → Nat → Int) (n r : Nat) (V : Int) (u v ow : Nat → Int) : Prop where
  own : Own (may C) n (fun _ => True) (fun i => i < r) ow
  feas : ∀ i k, i < r → k < n → 0 ≤ C i k → u i + v k ≤ C i k
  vneg : ∀ k, k < n → v k ≤ 0
  free : ∀ k, k < n → ow k = -1 → v k = 0
  tight : ∀ k (i : Nat), k < n → ow k = i → u i + v k = C i k
  upos : ∀ i, i < r → 0 ≤ u i
  zero : ∀ i, r ≤ i → u i = 0
  vlow : ∀ k, k < n → -V ≤ v k
theorem Pot.start (C : Nat → Nat → Int) (n : Nat) : Pot C n 0 0 (fun _ => 0) (fun _ => 0) (fun _ => -1) :=
  ⟨⟨fun _ _ _ => .inl rfl, fun i hi => by omega, fun _ _ i _ _ _ _ e _ => by omega⟩, fun i k hi => by omega, fun _ _ => Int.le_refl _, fun _ _ _ => rfl, fun _ i _ e => by omega, fun i hi => by omega, fun _ _ => rfl, fun _ _ => by omega⟩
theorem Pot.red {C : Nat → Nat → Int} {n r : Nat} {V : Int} {u v ow : Nat → Int} (p : Pot C n r V u v ow) (i k : Nat) (hk : k < n) (hc : 0 ≤ C i k) : u i + v k ≤ C i k := by
  by_cases hi : i < r
  · exact p.feas i k hi hk hc
  · have := p.zero i (by omega)
    have := p.vneg k hk
    omega
theorem Pot.usmall {C : Nat → Nat → Int} {n r : Nat} {V : Int} {u v ow : Nat → Int} (p : Pot C n r V u v ow) (hC : ∀ i k, i < r → k < n → C i k ≤ 1000000) (hV : 0 ≤ V) (i : Nat) : 0 ≤ u i ∧ u i ≤ 1000000 + V := by
  by_cases hi : i < r
  · obtain ⟨k, hk, _, e⟩ := p.own.one i hi
    have := p.tight k i hk e
    have := hC i k hi hk
    have := p.vlow k hk
    have := p.upos i hi
    omega
  · have := p.zero i (by omega)
    omega
def far : Int := 1099511627776
/-- Where the label of k came from: r itself, or a column of P. -/
def Par (C : Nat → Nat → Int) (u v ow : Nat → Int) (r : Nat) (dist frm : Nat → Int) (P : Nat → Prop) (k : Nat) : Prop :=
  (frm k = -1 ∧ 0 ≤ C r k ∧ dist k = C r k - v k) ∨ ∃ (k' i : Nat), P k' ∧ frm k = (k' : Int) ∧ ow k' = (i : Int) ∧ 0 ≤ C i k ∧ dist k = dist k' + (C i k - u i - v k)
/-- A row that was reached, and how far it is. -/
def Tr (ow : Nat → Int) (r : Nat) (dist : Nat → Int) (ord : List Nat) (x : Nat) (dx : Int) : Prop := (x = r ∧ dx = 0) ∨ ∃ k, k ∈ ord ∧ ow k = (x : Int) ∧ dx = dist k
/-- The search for the least way, the row 'cur' not looked at yet (late) or looked at. -/
structure Dj (C : Nat → Nat → Int) (n r : Nat) (u v ow : Nat → Int) (late : Bool) (dist frm : Nat → Int) (ord : List Nat) (base : Int) (cur : Nat) : Prop where
  nod : ord.Nodup
  lt : ∀ k ∈ ord, k < n ∧ 0 ≤ ow k
  hcur : (ord = [] ∧ cur = r ∧ base = 0) ∨ ∃ k ord0, ord = ord0 ++ [k] ∧ ow k = (cur : Int) ∧ base = dist k
  le : ∀ k ∈ ord, 0 ≤ dist k ∧ dist k ≤ base
  b0 : 0 ≤ base ∧ base < far
  ge : ∀ k, k < n → k ∉ ord → base ≤ dist k
  top : ∀ k, k < n → dist k ≤ far
  rel : ∀ x dx, Tr ow r dist ord x dx → (late = true → x ≠ cur) → ∀ k, k < n → 0 ≤ C x k → dist k ≤ dx + (C x k - u x - v k)
  parN : ∀ k, k < n → k ∉ ord → dist k < far → Par C u v ow r dist frm (fun k' => k' ∈ ord) k
  parD : ∀ pre k post, ord = pre ++ k :: post → Par C u v ow r dist frm (fun k' => k' ∈ pre) k
  bnd : ∀ k, k < n → dist k < far → dist k + v k ≤ (ord.length + (if late then 0 else 1) : Int) * 1000000
theorem Dj.start (C : Nat → Nat → Int) (n r : Nat) (u v ow frm : Nat → Int) : Dj C n r u v ow true (fun _ => far) frm [] 0 r := by
  refine ⟨List.nodup_nil, fun k hk => by simp at hk, .inl ⟨rfl, rfl, rfl⟩, fun k hk => by simp at hk, by unfold far; omega, fun k _ _ => by unfold far; omega, fun _ _ => Int.le_refl _, fun x dx hx hn => ?_, fun k _ _ hf => by omega, fun pre k post e => by simp at e, fun k _ hf => by omega⟩
  rcases hx with ⟨rfl, _⟩ | ⟨k, hk, _⟩
  · exact absurd rfl (hn rfl)
  · simp at hk
theorem ord_len {n : Nat} {ord : List Nat} (hn : ord.Nodup) (h : ∀ k ∈ ord, k < n) : ord.length ≤ n := by
  have := pigeon ord (List.range n) id hn (fun i _ j _ e => e) fun i hi => List.mem_range.2 (h i hi)
  simpa using this
/-- What looking at the row 'cur' makes of a label, for the columns below j. -/
def rlx (C : Nat → Nat → Int) (u v : Nat → Int) (ord : List Nat) (base : Int) (cur : Nat) (dist : Nat → Int) (j k : Nat) : Bool :=
  decide (k < j) && decide (0 ≤ C cur k) && !ord.contains k && decide (base + C cur k - u cur - v k < dist k)
def rdist (C : Nat → Nat → Int) (u v : Nat → Int) (ord : List Nat) (base : Int) (cur : Nat) (dist : Nat → Int) (j k : Nat) : Int := if rlx C u v ord base cur dist j k then base + C cur k - u cur - v k else dist k
def rfrm (C : Nat → Nat → Int) (u v : Nat → Int) (ord : List Nat) (base : Int) (cur : Nat) (dist frm : Nat → Int) (now : Int) (j k : Nat) : Int := if rlx C u v ord base cur dist j k then now else frm k
theorem rlx_iff {C : Nat → Nat → Int} {u v : Nat → Int} {ord : List Nat} {base : Int} {cur : Nat} {dist : Nat → Int} {j k : Nat} : rlx C u v ord base cur dist j k = true ↔ k < j ∧ 0 ≤ C cur k ∧ k ∉ ord ∧ base + C cur k - u cur - v k < dist k := by
  simp [rlx, and_assoc]
theorem Dj.relax {C : Nat → Nat → Int} {n r : Nat} {V : Int} {u v ow dist frm : Nat → Int} {ord : List Nat} {base now : Int} {cur : Nat} (p : Pot C n r V u v ow) (hC : ∀ i k, i ≤ r → k < n → C i k ≤ 1000000) (hV : V ≤ 100000000000) (hn : n ≤ 1000)
    (d : Dj C n r u v ow true dist frm ord base cur) (hnow : (ord = [] ∧ now = -1) ∨ ∃ (k : Nat) (ord0 : List Nat), ord = ord0 ++ [k] ∧ now = (k : Int)) : Dj C n r u v ow false (rdist C u v ord base cur dist n) (rfrm C u v ord base cur dist frm now n) ord base cur := by
  have keep : ∀ k, k ∈ ord → rdist C u v ord base cur dist n k = dist k := fun k hk => by
    unfold rdist
    rw [if_neg]
    rw [rlx_iff]; exact fun a => a.2.2.1 hk
  have keepf : ∀ k, k ∈ ord → rfrm C u v ord base cur dist frm now n k = frm k := fun k hk => by
    unfold rfrm
    rw [if_neg]
    rw [rlx_iff]; exact fun a => a.2.2.1 hk
  have down : ∀ k, rdist C u v ord base cur dist n k ≤ dist k := fun k => by
    unfold rdist
    split
    · rename_i e; have := (rlx_iff.1 e).2.2.2; omega
    · exact Int.le_refl _
  have trk : ∀ x dx, Tr ow r (rdist C u v ord base cur dist n) ord x dx → Tr ow r dist ord x dx := fun x dx t => by
    rcases t with t | ⟨k, hk, e, e2⟩
    · exact .inl t
    · exact .inr ⟨k, hk, e, by rw [e2, keep k hk]⟩
  have hlen := ord_len d.nod fun k hk => (d.lt k hk).1
  have curdx : ∀ dx, Tr ow r dist ord cur dx → dx = base := fun dx t => by
    rcases d.hcur with ⟨rfl, rfl, rfl⟩ | ⟨k, ord0, e, e2, e3⟩
    · rcases t with ⟨_, t⟩ | ⟨k, hk, _⟩
      · exact t
      · simp at hk
    · have hk : k ∈ ord := by rw [e]; simp
      have hcr : cur < r := by
        rcases p.own.val k (d.lt k hk).1 trivial with a | ⟨i, a, b, _⟩
        · omega
        · omega
      rcases t with ⟨t, _⟩ | ⟨k', hk', t, t2⟩
      · omega
      · have := p.own.inj k k' cur (d.lt k hk).1 (d.lt k' hk').1 trivial trivial e2 t
        subst this; rw [t2, e3]
  have wayb : ∀ k, k < n → 0 ≤ C cur k → base + C cur k - u cur ≤ (ord.length + 1 : Int) * 1000000 ∧ cur ≤ r := fun k hk hc => by
    rcases d.hcur with ⟨rfl, rfl, rfl⟩ | ⟨k', ord0, e, e2, e3⟩
    · have := hC cur k (Nat.le_refl _) hk
      have := p.zero cur (Nat.le_refl _)
      simp; omega
    · have hk' : k' ∈ ord := by rw [e]; simp
      have hkn := (d.lt k' hk').1
      rcases p.own.val k' hkn trivial with a | ⟨i, a, b, b2⟩
      · omega
      · have : i = cur := by omega
        subst this
        have h1 := p.tight k' i hkn e2
        have h2 := (may_iff _ _ _).1 b2
        have h3 := d.bnd k' hkn (by rw [← e3]; exact d.b0.2)
        have h4 := hC i k (by omega) hk
        simp at h3
        rw [Int.add_mul]
        omega
  refine ⟨d.nod, d.lt, ?_, fun k hk => by rw [keep k hk]; exact d.le k hk, d.b0, fun k hk hno => ?_, fun k hk => Int.le_trans (down k) (d.top k hk), fun x dx t _ k hk hc => ?_, fun k hk hno hf => ?_, fun pre k post e => ?_, fun k hk hf => ?_⟩
  · rcases d.hcur with a | ⟨k, ord0, e, e2, e3⟩
    · exact .inl a
    · exact .inr ⟨k, ord0, e, e2, by rw [keep k (by rw [e]; simp)]; exact e3⟩
  · unfold rdist
    split
    · rename_i e
      have h1 := rlx_iff.1 e
      have := p.red cur k hk h1.2.1
      omega
    · exact d.ge k hk hno
  · by_cases hx : x = cur
    · subst hx
      have e := curdx dx (trk _ _ t)
      subst e
      by_cases ho : k ∈ ord
      · rw [keep k ho]
        have h1 := (d.le k ho).2
        have h2 := p.red x k hk hc
        omega
      · unfold rdist
        split
        · omega
        · rename_i e
          rw [rlx_iff] at e
          have : ¬ (dx + C x k - u x - v k < dist k) := fun a => e ⟨hk, hc, ho, a⟩
          omega
    · exact Int.le_trans (down k) (d.rel x dx (trk _ _ t) (fun _ => hx) k hk hc)
  · by_cases e : rlx C u v ord base cur dist n k = true
    · have h1 := rlx_iff.1 e
      have e1 : rdist C u v ord base cur dist n k = base + C cur k - u cur - v k := by unfold rdist; rw [if_pos e]
      have e2 : rfrm C u v ord base cur dist frm now n k = now := by unfold rfrm; rw [if_pos e]
      rcases d.hcur with ⟨h2, h3, h4⟩ | ⟨k', ord0, h2, h3, h4⟩
      · rcases hnow with ⟨_, h5⟩ | ⟨k', ord0, h5, _⟩
        · refine .inl ⟨by rw [e2, h5], by rw [← h3]; exact h1.2.1, ?_⟩
          have := p.zero r (Nat.le_refl _)
          rw [e1, h3]; omega
        · rw [h2] at h5; simp at h5
      · rcases hnow with ⟨h5, _⟩ | ⟨k2, ord2, h5, h6⟩
        · rw [h5] at h2; simp at h2
        · have hk2 : k2 = k' := by
            rw [h2] at h5
            have := congrArg List.getLast? h5
            simp at this; exact this.symm
          subst hk2
          have hko : k2 ∈ ord := by rw [h2]; simp
          exact .inr ⟨k2, cur, hko, by rw [e2, h6], h3, h1.2.1, by rw [e1, keep k2 hko, ← h4]; omega⟩
    · have e1 : rdist C u v ord base cur dist n k = dist k := by unfold rdist; rw [if_neg e]
      have e2 : rfrm C u v ord base cur dist frm now n k = frm k := by unfold rfrm; rw [if_neg e]
      rcases d.parN k hk hno (by rw [← e1]; exact hf) with ⟨a, b, c⟩ | ⟨k', i, a, b, c, c2, c3⟩
      · exact .inl ⟨by rw [e2]; exact a, b, by rw [e1]; exact c⟩
      · exact .inr ⟨k', i, a, by rw [e2]; exact b, c, c2, by rw [e1, keep k' a]; exact c3⟩
  · have hk : k ∈ ord := by rw [e]; simp
    have hp : ∀ k', k' ∈ pre → k' ∈ ord := fun k' h => by rw [e]; simp [h]
    rcases d.parD pre k post e with ⟨a, b, c⟩ | ⟨k', i, a, b, c, c2, c3⟩
    · exact .inl ⟨by rw [keepf k hk]; exact a, b, by rw [keep k hk]; exact c⟩
    · exact .inr ⟨k', i, a, by rw [keepf k hk]; exact b, c, c2, by rw [keep k hk, keep k' (hp k' a)]; exact c3⟩
  · by_cases e : rlx C u v ord base cur dist n k = true
    · have h1 := rlx_iff.1 e
      have e1 : rdist C u v ord base cur dist n k = base + C cur k - u cur - v k := by unfold rdist; rw [if_pos e]
      have := (wayb k hk h1.2.1).1
      rw [e1]; simp; omega
    · have e1 : rdist C u v ord base cur dist n k = dist k := by unfold rdist; rw [if_neg e]
      have := d.bnd k hk (by rw [← e1]; exact hf)
      rw [e1]
      simp at this ⊢
      rw [Int.add_mul]; omega
/-- The nearest column below j that is not done, the first of them. -/
def Sel (dist : Nat → Int) (ord : List Nat) (j : Nat) (now : Int) : Prop := (now = -1 ∧ ∀ k, k < j → k ∈ ord) ∨ ∃ k0 : Nat, now = (k0 : Int) ∧ k0 < j ∧ k0 ∉ ord ∧ ∀ k, k < j → k ∉ ord → dist k0 ≤ dist k
theorem rows_nd {can : Nat → Nat → Bool} {n : Nat} {R : Nat → Prop} {ow : Nat → Int} (O : Own can n (fun _ => True) R ow) (ks : List Nat) (hno : ks.Nodup) (hl : ∀ k ∈ ks, k < n ∧ 0 ≤ ow k) : (rows ow ks).Nodup := by
  induction ks with
  | nil => exact List.nodup_nil
  | cons k ks ih =>
    refine List.nodup_cons.2 ⟨fun hm => ?_, ih (List.nodup_cons.1 hno).2 (fun a ha => hl a (by simp [ha]))⟩
    obtain ⟨k', hk', e⟩ := List.mem_map.1 hm
    have e : (ow k').toNat = (ow k).toNat := e
    obtain ⟨a1, a2⟩ := hl k (by simp)
    obtain ⟨b1, b2⟩ := hl k' (by simp [hk'])
    have := O.inj k k' (ow k).toNat a1 b1 trivial trivial (by omega) (by omega)
    subst this
    exact (List.nodup_cons.1 hno).1 hk'
theorem Dj.some {C : Nat → Nat → Int} {n r m : Nat} {V : Int} {u v ow dist frm : Nat → Int} {ord : List Nat} {base now : Int} {cur : Nat} (p : Pot C n r V u v ow) (hC : ∀ i k, i ≤ r → k < n → C i k ≤ 1000000) (hV : V ≤ 100000000000) (hn : n ≤ 1000)
    (d : Dj C n r u v ow false dist frm ord base cur) (hm : Mtd (may C) (fun i => i < m) n) (hr : r < m) (s : Sel dist ord n now) : ∃ k0 : Nat, now = (k0 : Int) ∧ k0 < n ∧ k0 ∉ ord ∧ dist k0 < far ∧ ∀ k, k < n → k ∉ ord → dist k0 ≤ dist k := by
  have hlen := ord_len d.nod fun k hk => (d.lt k hk).1
  have own : ∀ k ∈ ord, ∃ i : Nat, ow k = (i : Int) ∧ i < r ∧ 0 ≤ C i k := fun k hk => by
    obtain ⟨a, b⟩ := d.lt k hk
    rcases p.own.val k a trivial with e | ⟨i, e, e2, e3⟩
    · omega
    · exact ⟨i, e, e2, (may_iff _ _ _).1 e3⟩
  have label : ∀ x dx, Tr ow r dist ord x dx → ∀ k, k < n → 0 ≤ C x k → dist k < far := fun x dx t k hk hc => by
    have h1 := d.rel x dx t (fun e => by cases e) k hk hc
    have h2 := p.vlow k hk
    rcases t with ⟨rfl, rfl⟩ | ⟨k', hk', e, rfl⟩
    · have h3 := hC x k (Nat.le_refl _) hk
      have h4 := p.zero x (Nat.le_refl _)
      unfold far; omega
    · obtain ⟨i, e2, h4, h5⟩ := own k' hk'
      have : i = x := by omega
      subst this
      have h6 := p.tight k' i (d.lt k' hk').1 e
      have h7 := d.bnd k' (d.lt k' hk').1 (by have := (d.le k' hk').2; have := d.b0.2; omega)
      have h8 := hC i k (by omega) hk
      simp at h7
      unfold far; omega
  have ex : ∃ k, k < n ∧ k ∉ ord ∧ dist k < far := by
    by_cases h : ∃ k, k < n ∧ k ∉ ord ∧ dist k < far
    · exact h
    exfalso
    obtain ⟨f, hf⟩ := hm
    have hin : ∀ x dx, Tr ow r dist ord x dx → x < m → f x ∈ ord := fun x dx t hx => by
      by_cases ho : f x ∈ ord
      · exact ho
      · exact (h ⟨f x, hf.lt x hx, ho, label x dx t (f x) (hf.lt x hx) ((may_iff _ _ _).1 (hf.can x hx))⟩).elim
    have htr : ∀ x ∈ r :: rows ow ord, x < m ∧ ∃ dx, Tr ow r dist ord x dx := fun x hx => by
      rcases List.mem_cons.1 hx with rfl | hx
      · exact ⟨hr, 0, .inl ⟨rfl, rfl⟩⟩
      · obtain ⟨k, hk, e⟩ := List.mem_map.1 hx
        obtain ⟨i, e2, h4, _⟩ := own k hk
        have e : (ow k).toNat = x := e
        exact ⟨by omega, dist k, .inr ⟨k, hk, by omega, rfl⟩⟩
    have hnd : (r :: rows ow ord).Nodup := by
      refine List.nodup_cons.2 ⟨fun hm => ?_, ?_⟩
      · obtain ⟨k, hk, e⟩ := List.mem_map.1 hm
        obtain ⟨i, e2, h4, _⟩ := own k hk
        have e : (ow k).toNat = r := e
        omega
      · exact rows_nd p.own ord d.nod d.lt
    have := pigeon (r :: rows ow ord) ord f hnd (fun i hi j hj => hf.inj i j (htr i hi).1 (htr j hj).1) fun i hi => (htr i hi).2.elim fun dx t => hin i dx t (htr i hi).1
    simp [rows] at this
    omega
  obtain ⟨k, h1, h2, h3⟩ := ex
  rcases s with ⟨_, s⟩ | ⟨k0, e, e2, e3, e4⟩
  · exact (h2 (s k h1)).elim
  · exact ⟨k0, e, e2, e3, by have := e4 k h1 h2; omega, e4⟩
theorem Dj.next {C : Nat → Nat → Int} {n r : Nat} {u v ow dist frm : Nat → Int} {ord : List Nat} {base : Int} {cur k0 i : Nat} (d : Dj C n r u v ow false dist frm ord base cur) (h1 : k0 < n) (h2 : k0 ∉ ord) (h3 : dist k0 < far) (h4 : ∀ k, k < n → k ∉ ord → dist k0 ≤ dist k)
    (p : Own (may C) n (fun _ => True) (fun i => i < r) ow) (ho : ow k0 = (i : Int)) : Dj C n r u v ow true dist frm (ord ++ [k0]) (dist k0) i := by
  have hb := d.ge k0 h1 h2
  have b0 := d.b0
  refine ⟨?_, fun k hk => ?_, .inr ⟨k0, ord, rfl, ho, rfl⟩, fun k hk => ?_, by omega, fun k hk hno => h4 k hk fun hm => hno (by simp [hm]), d.top, fun x dx t hne k hk hc => ?_, fun k hk hno hf => ?_, fun pre k post e => ?_, fun k hk hf => ?_⟩
  · rw [List.nodup_append]
    exact ⟨d.nod, by simp, fun a ha b hb e => by simp at hb; subst hb; subst e; exact h2 ha⟩
  · rcases List.mem_append.1 hk with hk | hk
    · exact d.lt k hk
    · simp at hk; subst hk; exact ⟨h1, by omega⟩
  · rcases List.mem_append.1 hk with hk | hk
    · have := d.le k hk; omega
    · simp at hk; subst hk; omega
  · refine d.rel x dx ?_ (fun e => by cases e) k hk hc
    rcases t with t | ⟨k', hk', e, e2⟩
    · exact .inl t
    · rcases List.mem_append.1 hk' with hk' | hk'
      · exact .inr ⟨k', hk', e, e2⟩
      · simp at hk'; subst hk'
        exact absurd (by omega) (hne rfl)
  · rcases d.parN k hk (fun hm => hno (by simp [hm])) hf with a | ⟨k', i', a, b⟩
    · exact .inl a
    · exact .inr ⟨k', i', by simp [a], b⟩
  · rcases List.append_eq_append_iff.1 e with ⟨a', e1, e2⟩ | ⟨c', e1, e2⟩
    · cases a' with
      | nil =>
        simp at e2
        obtain ⟨rfl, rfl⟩ := e2
        rcases d.parN k0 h1 h2 h3 with a | ⟨k', i', a, b⟩
        · exact .inl a
        · exact .inr ⟨k', i', by rw [e1]; simpa using a, b⟩
      | cons y ys => simp at e2
    · cases c' with
      | nil =>
        simp at e1 e2
        obtain ⟨rfl, rfl⟩ := e2
        subst e1
        rcases d.parN k h1 h2 h3 with a | ⟨k', i', a, b⟩
        · exact .inl a
        · exact .inr ⟨k', i', a, b⟩
      | cons y ys =>
        simp at e2
        obtain ⟨rfl, e2⟩ := e2
        exact d.parD pre k ys e1
  · have := d.bnd k hk hf
    simp at this ⊢
    exact this
end Go.Proofs.Ytkpgphadgomifaa
