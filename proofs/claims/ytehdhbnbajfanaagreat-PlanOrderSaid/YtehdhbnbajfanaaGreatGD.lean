/- Texts of this seat, laid together: MatchHung, MatchHung2, MatchRaise0. -/
import Derived.Test.YtehdhbnbajfanaaGreatGA
import Derived.Test.YtehdhbnbajfanaaGreatGC

/- Prices that prove a matching of least cost, row by row: plain laws, no condition beside those named. -/
namespace Go.Proofs.YtehdhbnbajfanaaGreat
set_option linter.unusedSimpArgs false
set_option linter.unusedVariables false

def may (C : Nat → Nat → Int) (i k : Nat) : Bool := decide (0 ≤ C i k)
theorem may_iff (C : Nat → Nat → Int) (i k : Nat) : may C i k = true ↔ 0 ≤ C i k := by simp [may]
/-- A matching of the rows below r, and prices that prove that it is one of least cost. -/
structure Pot (C : Nat → Nat → Int) (n r : Nat) (V : Int) (u v ow : Nat → Int) : Prop where
  own : Own (may C) n (fun _ => True) (fun i => i < r) ow
  feas : ∀ i k, i < r → k < n → 0 ≤ C i k → u i + v k ≤ C i k
  vneg : ∀ k, k < n → v k ≤ 0
  free : ∀ k, k < n → ow k = -1 → v k = 0
  tight : ∀ k (i : Nat), k < n → ow k = i → u i + v k = C i k
  upos : ∀ i, i < r → 0 ≤ u i
  zero : ∀ i, r ≤ i → u i = 0
  vlow : ∀ k, k < n → -V ≤ v k
theorem Pot.start (C : Nat → Nat → Int) (n : Nat) : Pot C n 0 0 (fun _ => 0) (fun _ => 0) (fun _ => -1) :=
  ⟨⟨fun _ _ _ => .inl rfl, fun i hi => by omega, fun _ _ i _ _ _ _ e _ => by omega⟩, fun i k hi => by omega, fun _ _ => Int.le_refl _, fun _ _ _ => rfl, fun _ i _ e => by omega, fun i hi => by omega, fun _ _ => rfl, fun _ _ => by omega⟩
theorem Pot.red {C : Nat → Nat → Int} {n r : Nat} {V : Int} {u v ow : Nat → Int} (p : Pot C n r V u v ow) (i k : Nat) (hk : k < n) (hc : 0 ≤ C i k) : u i + v k ≤ C i k := by
  by_cases hi : i < r
  · exact p.feas i k hi hk hc
  · have := p.zero i (by omega)
    have := p.vneg k hk
    omega
theorem Pot.usmall {C : Nat → Nat → Int} {n r : Nat} {V : Int} {u v ow : Nat → Int} (p : Pot C n r V u v ow) (hC : ∀ i k, i < r → k < n → C i k ≤ 1000000) (hV : 0 ≤ V) (i : Nat) : 0 ≤ u i ∧ u i ≤ 1000000 + V := by
  by_cases hi : i < r
  · obtain ⟨k, hk, _, e⟩ := p.own.one i hi
    have := p.tight k i hk e
    have := hC i k hi hk
    have := p.vlow k hk
    have := p.upos i hi
    omega
  · have := p.zero i (by omega)
    omega
def far : Int := 1099511627776
/-- Where the label of k came from: r itself, or a column of P. -/
def Par (C : Nat → Nat → Int) (u v ow : Nat → Int) (r : Nat) (dist frm : Nat → Int) (P : Nat → Prop) (k : Nat) : Prop :=
  (frm k = -1 ∧ 0 ≤ C r k ∧ dist k = C r k - v k) ∨ ∃ (k' i : Nat), P k' ∧ frm k = (k' : Int) ∧ ow k' = (i : Int) ∧ 0 ≤ C i k ∧ dist k = dist k' + (C i k - u i - v k)
/-- A row that was reached, and how far it is. -/
def Tr (ow : Nat → Int) (r : Nat) (dist : Nat → Int) (ord : List Nat) (x : Nat) (dx : Int) : Prop := (x = r ∧ dx = 0) ∨ ∃ k, k ∈ ord ∧ ow k = (x : Int) ∧ dx = dist k
/-- The search for the least way, the row 'cur' not looked at yet (late) or looked at. -/
structure Dj (C : Nat → Nat → Int) (n r : Nat) (u v ow : Nat → Int) (late : Bool) (dist frm : Nat → Int) (ord : List Nat) (base : Int) (cur : Nat) : Prop where
  nod : ord.Nodup
  lt : ∀ k ∈ ord, k < n ∧ 0 ≤ ow k
  hcur : (ord = [] ∧ cur = r ∧ base = 0) ∨ ∃ k ord0, ord = ord0 ++ [k] ∧ ow k = (cur : Int) ∧ base = dist k
  le : ∀ k ∈ ord, 0 ≤ dist k ∧ dist k ≤ base
  b0 : 0 ≤ base ∧ base < far
  ge : ∀ k, k < n → k ∉ ord → base ≤ dist k
  top : ∀ k, k < n → dist k ≤ far
  rel : ∀ x dx, Tr ow r dist ord x dx → (late = true → x ≠ cur) → ∀ k, k < n → 0 ≤ C x k → dist k ≤ dx + (C x k - u x - v k)
  parN : ∀ k, k < n → k ∉ ord → dist k < far → Par C u v ow r dist frm (fun k' => k' ∈ ord) k
  parD : ∀ pre k post, ord = pre ++ k :: post → Par C u v ow r dist frm (fun k' => k' ∈ pre) k
  bnd : ∀ k, k < n → dist k < far → dist k + v k ≤ (ord.length + (if late then 0 else 1) : Int) * 1000000
theorem Dj.start (C : Nat → Nat → Int) (n r : Nat) (u v ow frm : Nat → Int) : Dj C n r u v ow true (fun _ => far) frm [] 0 r := by
  refine ⟨List.nodup_nil, fun k hk => by simp at hk, .inl ⟨rfl, rfl, rfl⟩, fun k hk => by simp at hk, by unfold far; omega, fun k _ _ => by unfold far; omega, fun _ _ => Int.le_refl _, fun x dx hx hn => ?_, fun k _ _ hf => by omega, fun pre k post e => by simp at e, fun k _ hf => by omega⟩
  rcases hx with ⟨rfl, _⟩ | ⟨k, hk, _⟩
  · exact absurd rfl (hn rfl)
  · simp at hk
theorem ord_len {n : Nat} {ord : List Nat} (hn : ord.Nodup) (h : ∀ k ∈ ord, k < n) : ord.length ≤ n := by
  have := pigeon ord (List.range n) id hn (fun i _ j _ e => e) fun i hi => List.mem_range.2 (h i hi)
  simpa using this
/-- What looking at the row 'cur' makes of a label, for the columns below j. -/
def rlx (C : Nat → Nat → Int) (u v : Nat → Int) (ord : List Nat) (base : Int) (cur : Nat) (dist : Nat → Int) (j k : Nat) : Bool :=
  decide (k < j) && decide (0 ≤ C cur k) && !ord.contains k && decide (base + C cur k - u cur - v k < dist k)
def rdist (C : Nat → Nat → Int) (u v : Nat → Int) (ord : List Nat) (base : Int) (cur : Nat) (dist : Nat → Int) (j k : Nat) : Int := if rlx C u v ord base cur dist j k then base + C cur k - u cur - v k else dist k
def rfrm (C : Nat → Nat → Int) (u v : Nat → Int) (ord : List Nat) (base : Int) (cur : Nat) (dist frm : Nat → Int) (now : Int) (j k : Nat) : Int := if rlx C u v ord base cur dist j k then now else frm k
theorem rlx_iff {C : Nat → Nat → Int} {u v : Nat → Int} {ord : List Nat} {base : Int} {cur : Nat} {dist : Nat → Int} {j k : Nat} : rlx C u v ord base cur dist j k = true ↔ k < j ∧ 0 ≤ C cur k ∧ k ∉ ord ∧ base + C cur k - u cur - v k < dist k := by
  simp [rlx, and_assoc]
theorem Dj.relax {C : Nat → Nat → Int} {n r : Nat} {V : Int} {u v ow dist frm : Nat → Int} {ord : List Nat} {base now : Int} {cur : Nat} (p : Pot C n r V u v ow) (hC : ∀ i k, i ≤ r → k < n → C i k ≤ 1000000) (hV : V ≤ 100000000000) (hn : n ≤ 1000)
    (d : Dj C n r u v ow true dist frm ord base cur) (hnow : (ord = [] ∧ now = -1) ∨ ∃ (k : Nat) (ord0 : List Nat), ord = ord0 ++ [k] ∧ now = (k : Int)) : Dj C n r u v ow false (rdist C u v ord base cur dist n) (rfrm C u v ord base cur dist frm now n) ord base cur := by
  have keep : ∀ k, k ∈ ord → rdist C u v ord base cur dist n k = dist k := fun k hk => by
    unfold rdist
    rw [if_neg]
    rw [rlx_iff]; exact fun a => a.2.2.1 hk
  have keepf : ∀ k, k ∈ ord → rfrm C u v ord base cur dist frm now n k = frm k := fun k hk => by
    unfold rfrm
    rw [if_neg]
    rw [rlx_iff]; exact fun a => a.2.2.1 hk
  have down : ∀ k, rdist C u v ord base cur dist n k ≤ dist k := fun k => by
    unfold rdist
    split
    · rename_i e; have := (rlx_iff.1 e).2.2.2; omega
    · exact Int.le_refl _
  have trk : ∀ x dx, Tr ow r (rdist C u v ord base cur dist n) ord x dx → Tr ow r dist ord x dx := fun x dx t => by
    rcases t with t | ⟨k, hk, e, e2⟩
    · exact .inl t
    · exact .inr ⟨k, hk, e, by rw [e2, keep k hk]⟩
  have hlen := ord_len d.nod fun k hk => (d.lt k hk).1
  have curdx : ∀ dx, Tr ow r dist ord cur dx → dx = base := fun dx t => by
    rcases d.hcur with ⟨rfl, rfl, rfl⟩ | ⟨k, ord0, e, e2, e3⟩
    · rcases t with ⟨_, t⟩ | ⟨k, hk, _⟩
      · exact t
      · simp at hk
    · have hk : k ∈ ord := by rw [e]; simp
      have hcr : cur < r := by
        rcases p.own.val k (d.lt k hk).1 trivial with a | ⟨i, a, b, _⟩
        · omega
        · omega
      rcases t with ⟨t, _⟩ | ⟨k', hk', t, t2⟩
      · omega
      · have := p.own.inj k k' cur (d.lt k hk).1 (d.lt k' hk').1 trivial trivial e2 t
        subst this; rw [t2, e3]
  have wayb : ∀ k, k < n → 0 ≤ C cur k → base + C cur k - u cur ≤ (ord.length + 1 : Int) * 1000000 ∧ cur ≤ r := fun k hk hc => by
    rcases d.hcur with ⟨rfl, rfl, rfl⟩ | ⟨k', ord0, e, e2, e3⟩
    · have := hC cur k (Nat.le_refl _) hk
      have := p.zero cur (Nat.le_refl _)
      simp; omega
    · have hk' : k' ∈ ord := by rw [e]; simp
      have hkn := (d.lt k' hk').1
      rcases p.own.val k' hkn trivial with a | ⟨i, a, b, b2⟩
      · omega
      · have : i = cur := by omega
        subst this
        have h1 := p.tight k' i hkn e2
        have h2 := (may_iff _ _ _).1 b2
        have h3 := d.bnd k' hkn (by rw [← e3]; exact d.b0.2)
        have h4 := hC i k (by omega) hk
        simp at h3
        rw [Int.add_mul]
        omega
  refine ⟨d.nod, d.lt, ?_, fun k hk => by rw [keep k hk]; exact d.le k hk, d.b0, fun k hk hno => ?_, fun k hk => Int.le_trans (down k) (d.top k hk), fun x dx t _ k hk hc => ?_, fun k hk hno hf => ?_, fun pre k post e => ?_, fun k hk hf => ?_⟩
  · rcases d.hcur with a | ⟨k, ord0, e, e2, e3⟩
    · exact .inl a
    · exact .inr ⟨k, ord0, e, e2, by rw [keep k (by rw [e]; simp)]; exact e3⟩
  · unfold rdist
    split
    · rename_i e
      have h1 := rlx_iff.1 e
      have := p.red cur k hk h1.2.1
      omega
    · exact d.ge k hk hno
  · by_cases hx : x = cur
    · subst hx
      have e := curdx dx (trk _ _ t)
      subst e
      by_cases ho : k ∈ ord
      · rw [keep k ho]
        have h1 := (d.le k ho).2
        have h2 := p.red x k hk hc
        omega
      · unfold rdist
        split
        · omega
        · rename_i e
          rw [rlx_iff] at e
          have : ¬ (dx + C x k - u x - v k < dist k) := fun a => e ⟨hk, hc, ho, a⟩
          omega
    · exact Int.le_trans (down k) (d.rel x dx (trk _ _ t) (fun _ => hx) k hk hc)
  · by_cases e : rlx C u v ord base cur dist n k = true
    · have h1 := rlx_iff.1 e
      have e1 : rdist C u v ord base cur dist n k = base + C cur k - u cur - v k := by unfold rdist; rw [if_pos e]
      have e2 : rfrm C u v ord base cur dist frm now n k = now := by unfold rfrm; rw [if_pos e]
      rcases d.hcur with ⟨h2, h3, h4⟩ | ⟨k', ord0, h2, h3, h4⟩
      · rcases hnow with ⟨_, h5⟩ | ⟨k', ord0, h5, _⟩
        · refine .inl ⟨by rw [e2, h5], by rw [← h3]; exact h1.2.1, ?_⟩
          have := p.zero r (Nat.le_refl _)
          rw [e1, h3]; omega
        · rw [h2] at h5; simp at h5
      · rcases hnow with ⟨h5, _⟩ | ⟨k2, ord2, h5, h6⟩
        · rw [h5] at h2; simp at h2
        · have hk2 : k2 = k' := by
            rw [h2] at h5
            have := congrArg List.getLast? h5
            simp at this; exact this.symm
          subst hk2
          have hko : k2 ∈ ord := by rw [h2]; simp
          exact .inr ⟨k2, cur, hko, by rw [e2, h6], h3, h1.2.1, by rw [e1, keep k2 hko, ← h4]; omega⟩
    · have e1 : rdist C u v ord base cur dist n k = dist k := by unfold rdist; rw [if_neg e]
      have e2 : rfrm C u v ord base cur dist frm now n k = frm k := by unfold rfrm; rw [if_neg e]
      rcases d.parN k hk hno (by rw [← e1]; exact hf) with ⟨a, b, c⟩ | ⟨k', i, a, b, c, c2, c3⟩
      · exact .inl ⟨by rw [e2]; exact a, b, by rw [e1]; exact c⟩
      · exact .inr ⟨k', i, a, by rw [e2]; exact b, c, c2, by rw [e1, keep k' a]; exact c3⟩
  · have hk : k ∈ ord := by rw [e]; simp
    have hp : ∀ k', k' ∈ pre → k' ∈ ord := fun k' h => by rw [e]; simp [h]
    rcases d.parD pre k post e with ⟨a, b, c⟩ | ⟨k', i, a, b, c, c2, c3⟩
    · exact .inl ⟨by rw [keepf k hk]; exact a, b, by rw [keep k hk]; exact c⟩
    · exact .inr ⟨k', i, a, by rw [keepf k hk]; exact b, c, c2, by rw [keep k hk, keep k' (hp k' a)]; exact c3⟩
  · by_cases e : rlx C u v ord base cur dist n k = true
    · have h1 := rlx_iff.1 e
      have e1 : rdist C u v ord base cur dist n k = base + C cur k - u cur - v k := by unfold rdist; rw [if_pos e]
      have := (wayb k hk h1.2.1).1
      rw [e1]; simp; omega
    · have e1 : rdist C u v ord base cur dist n k = dist k := by unfold rdist; rw [if_neg e]
      have := d.bnd k hk (by rw [← e1]; exact hf)
      rw [e1]
      simp at this ⊢
      rw [Int.add_mul]; omega
/-- The nearest column below j that is not done, the first of them. -/
def Sel (dist : Nat → Int) (ord : List Nat) (j : Nat) (now : Int) : Prop := (now = -1 ∧ ∀ k, k < j → k ∈ ord) ∨ ∃ k0 : Nat, now = (k0 : Int) ∧ k0 < j ∧ k0 ∉ ord ∧ ∀ k, k < j → k ∉ ord → dist k0 ≤ dist k
theorem rows_nd {can : Nat → Nat → Bool} {n : Nat} {R : Nat → Prop} {ow : Nat → Int} (O : Own can n (fun _ => True) R ow) (ks : List Nat) (hno : ks.Nodup) (hl : ∀ k ∈ ks, k < n ∧ 0 ≤ ow k) : (rows ow ks).Nodup := by
  induction ks with
  | nil => exact List.nodup_nil
  | cons k ks ih =>
    refine List.nodup_cons.2 ⟨fun hm => ?_, ih (List.nodup_cons.1 hno).2 (fun a ha => hl a (by simp [ha]))⟩
    obtain ⟨k', hk', e⟩ := List.mem_map.1 hm
    have e : (ow k').toNat = (ow k).toNat := e
    obtain ⟨a1, a2⟩ := hl k (by simp)
    obtain ⟨b1, b2⟩ := hl k' (by simp [hk'])
    have := O.inj k k' (ow k).toNat a1 b1 trivial trivial (by omega) (by omega)
    subst this
    exact (List.nodup_cons.1 hno).1 hk'
theorem Dj.some {C : Nat → Nat → Int} {n r m : Nat} {V : Int} {u v ow dist frm : Nat → Int} {ord : List Nat} {base now : Int} {cur : Nat} (p : Pot C n r V u v ow) (hC : ∀ i k, i ≤ r → k < n → C i k ≤ 1000000) (hV : V ≤ 100000000000) (hn : n ≤ 1000)
    (d : Dj C n r u v ow false dist frm ord base cur) (hm : Mtd (may C) (fun i => i < m) n) (hr : r < m) (s : Sel dist ord n now) : ∃ k0 : Nat, now = (k0 : Int) ∧ k0 < n ∧ k0 ∉ ord ∧ dist k0 < far ∧ ∀ k, k < n → k ∉ ord → dist k0 ≤ dist k := by
  have hlen := ord_len d.nod fun k hk => (d.lt k hk).1
  have own : ∀ k ∈ ord, ∃ i : Nat, ow k = (i : Int) ∧ i < r ∧ 0 ≤ C i k := fun k hk => by
    obtain ⟨a, b⟩ := d.lt k hk
    rcases p.own.val k a trivial with e | ⟨i, e, e2, e3⟩
    · omega
    · exact ⟨i, e, e2, (may_iff _ _ _).1 e3⟩
  have label : ∀ x dx, Tr ow r dist ord x dx → ∀ k, k < n → 0 ≤ C x k → dist k < far := fun x dx t k hk hc => by
    have h1 := d.rel x dx t (fun e => by cases e) k hk hc
    have h2 := p.vlow k hk
    rcases t with ⟨rfl, rfl⟩ | ⟨k', hk', e, rfl⟩
    · have h3 := hC x k (Nat.le_refl _) hk
      have h4 := p.zero x (Nat.le_refl _)
      unfold far; omega
    · obtain ⟨i, e2, h4, h5⟩ := own k' hk'
      have : i = x := by omega
      subst this
      have h6 := p.tight k' i (d.lt k' hk').1 e
      have h7 := d.bnd k' (d.lt k' hk').1 (by have := (d.le k' hk').2; have := d.b0.2; omega)
      have h8 := hC i k (by omega) hk
      simp at h7
      unfold far; omega
  have ex : ∃ k, k < n ∧ k ∉ ord ∧ dist k < far := by
    by_cases h : ∃ k, k < n ∧ k ∉ ord ∧ dist k < far
    · exact h
    exfalso
    obtain ⟨f, hf⟩ := hm
    have hin : ∀ x dx, Tr ow r dist ord x dx → x < m → f x ∈ ord := fun x dx t hx => by
      by_cases ho : f x ∈ ord
      · exact ho
      · exact (h ⟨f x, hf.lt x hx, ho, label x dx t (f x) (hf.lt x hx) ((may_iff _ _ _).1 (hf.can x hx))⟩).elim
    have htr : ∀ x ∈ r :: rows ow ord, x < m ∧ ∃ dx, Tr ow r dist ord x dx := fun x hx => by
      rcases List.mem_cons.1 hx with rfl | hx
      · exact ⟨hr, 0, .inl ⟨rfl, rfl⟩⟩
      · obtain ⟨k, hk, e⟩ := List.mem_map.1 hx
        obtain ⟨i, e2, h4, _⟩ := own k hk
        have e : (ow k).toNat = x := e
        exact ⟨by omega, dist k, .inr ⟨k, hk, by omega, rfl⟩⟩
    have hnd : (r :: rows ow ord).Nodup := by
      refine List.nodup_cons.2 ⟨fun hm => ?_, ?_⟩
      · obtain ⟨k, hk, e⟩ := List.mem_map.1 hm
        obtain ⟨i, e2, h4, _⟩ := own k hk
        have e : (ow k).toNat = r := e
        omega
      · exact rows_nd p.own ord d.nod d.lt
    have := pigeon (r :: rows ow ord) ord f hnd (fun i hi j hj => hf.inj i j (htr i hi).1 (htr j hj).1) fun i hi => (htr i hi).2.elim fun dx t => hin i dx t (htr i hi).1
    simp [rows] at this
    omega
  obtain ⟨k, h1, h2, h3⟩ := ex
  rcases s with ⟨_, s⟩ | ⟨k0, e, e2, e3, e4⟩
  · exact (h2 (s k h1)).elim
  · exact ⟨k0, e, e2, e3, by have := e4 k h1 h2; omega, e4⟩
theorem Dj.next {C : Nat → Nat → Int} {n r : Nat} {u v ow dist frm : Nat → Int} {ord : List Nat} {base : Int} {cur k0 i : Nat} (d : Dj C n r u v ow false dist frm ord base cur) (h1 : k0 < n) (h2 : k0 ∉ ord) (h3 : dist k0 < far) (h4 : ∀ k, k < n → k ∉ ord → dist k0 ≤ dist k)
    (p : Own (may C) n (fun _ => True) (fun i => i < r) ow) (ho : ow k0 = (i : Int)) : Dj C n r u v ow true dist frm (ord ++ [k0]) (dist k0) i := by
  have hb := d.ge k0 h1 h2
  have b0 := d.b0
  refine ⟨?_, fun k hk => ?_, .inr ⟨k0, ord, rfl, ho, rfl⟩, fun k hk => ?_, by omega, fun k hk hno => h4 k hk fun hm => hno (by simp [hm]), d.top, fun x dx t hne k hk hc => ?_, fun k hk hno hf => ?_, fun pre k post e => ?_, fun k hk hf => ?_⟩
  · rw [List.nodup_append]
    exact ⟨d.nod, by simp, fun a ha b hb e => by simp at hb; subst hb; subst e; exact h2 ha⟩
  · rcases List.mem_append.1 hk with hk | hk
    · exact d.lt k hk
    · simp at hk; subst hk; exact ⟨h1, by omega⟩
  · rcases List.mem_append.1 hk with hk | hk
    · have := d.le k hk; omega
    · simp at hk; subst hk; omega
  · refine d.rel x dx ?_ (fun e => by cases e) k hk hc
    rcases t with t | ⟨k', hk', e, e2⟩
    · exact .inl t
    · rcases List.mem_append.1 hk' with hk' | hk'
      · exact .inr ⟨k', hk', e, e2⟩
      · simp at hk'; subst hk'
        exact absurd (by omega) (hne rfl)
  · rcases d.parN k hk (fun hm => hno (by simp [hm])) hf with a | ⟨k', i', a, b⟩
    · exact .inl a
    · exact .inr ⟨k', i', by simp [a], b⟩
  · rcases List.append_eq_append_iff.1 e with ⟨a', e1, e2⟩ | ⟨c', e1, e2⟩
    · cases a' with
      | nil =>
        simp at e2
        obtain ⟨rfl, rfl⟩ := e2
        rcases d.parN k0 h1 h2 h3 with a | ⟨k', i', a, b⟩
        · exact .inl a
        · exact .inr ⟨k', i', by rw [e1]; simpa using a, b⟩
      | cons y ys => simp at e2
    · cases c' with
      | nil =>
        simp at e1 e2
        obtain ⟨rfl, rfl⟩ := e2
        subst e1
        rcases d.parN k h1 h2 h3 with a | ⟨k', i', a, b⟩
        · exact .inl a
        · exact .inr ⟨k', i', a, b⟩
      | cons y ys =>
        simp at e2
        obtain ⟨rfl, e2⟩ := e2
        exact d.parD pre k ys e1
  · have := d.bnd k hk hf
    simp at this ⊢
    exact this
end Go.Proofs.YtehdhbnbajfanaaGreat


/- A row is added along the least way, and prices are raised: plain laws. -/
namespace Go.Proofs.YtehdhbnbajfanaaGreat
set_option linter.unusedSimpArgs false
set_option linter.unusedVariables false

/-- The search has ended at the free column k0. -/
structure Fin (C : Nat → Nat → Int) (n r : Nat) (u v ow : Nat → Int) (dist frm : Nat → Int) (ord : List Nat) (k0 : Nat) : Prop where
  nod : ord.Nodup
  lt : ∀ k ∈ ord, k < n ∧ 0 ≤ ow k
  k0n : k0 < n
  k0o : k0 ∉ ord
  free : ow k0 = -1
  le : ∀ k ∈ ord, 0 ≤ dist k ∧ dist k ≤ dist k0
  ge : ∀ k, k < n → k ∉ ord → dist k0 ≤ dist k
  pos : 0 ≤ dist k0
  rel : ∀ x dx, Tr ow r dist ord x dx → ∀ k, k < n → 0 ≤ C x k → dist k ≤ dx + (C x k - u x - v k)
  par0 : Par C u v ow r dist frm (fun k' => k' ∈ ord) k0
  parD : ∀ pre k post, ord = pre ++ k :: post → Par C u v ow r dist frm (fun k' => k' ∈ pre) k
  bnd : dist k0 ≤ (n : Int) * 1000000
theorem Dj.fin {C : Nat → Nat → Int} {n r : Nat} {V : Int} {u v ow dist frm : Nat → Int} {ord : List Nat} {base : Int} {cur k0 : Nat} (p : Pot C n r V u v ow) (d : Dj C n r u v ow false dist frm ord base cur) (h1 : k0 < n) (h2 : k0 ∉ ord) (h3 : dist k0 < far) (h4 : ∀ k, k < n → k ∉ ord → dist k0 ≤ dist k)
    (ho : ow k0 = -1) : Fin C n r u v ow dist frm ord k0 := by
  have hb := d.ge k0 h1 h2
  have hb0 := d.b0
  have hlen : ord.length + 1 ≤ n := by
    have hn : (ord ++ [k0]).Nodup := by
      rw [List.nodup_append]
      exact ⟨d.nod, by simp, fun a ha b hb e => by simp at hb; subst hb; subst e; exact h2 ha⟩
    have := ord_len hn fun k hk => by
      rcases List.mem_append.1 hk with hk | hk
      · exact (d.lt k hk).1
      · simp at hk; subst hk; exact h1
    simpa using this
  refine ⟨d.nod, d.lt, h1, h2, ho, fun k hk => by have := d.le k hk; omega, h4, by omega, fun x dx t k hk hc => d.rel x dx t (fun e => by cases e) k hk hc, d.parN k0 h1 h2 h3, d.parD, ?_⟩
  have h5 := d.bnd k0 h1 h3
  have h6 := p.free k0 h1 ho
  simp at h5
  rw [Int.add_mul] at h5
  omega
/-- The prices behind the search. -/
structure NewP (n r : Nat) (u v ow dist : Nat → Int) (ord : List Nat) (base : Int) (u' v' : Nat → Int) : Prop where
  hv : ∀ k, k < n → v' k = if k ∈ ord then v k - (base - dist k) else v k
  hr : u' r = u r + base
  ho : ∀ k ∈ ord, ∀ i : Nat, ow k = (i : Int) → u' i = u i + (base - dist k)
  hx : ∀ i, i ≠ r → (∀ k ∈ ord, ow k ≠ (i : Int)) → u' i = u i
/-- On the way back from k0: the column k has been given up by its row. -/
structure Aug (C : Nat → Nat → Int) (n r : Nat) (u' v' ow : Nat → Int) (ord : List Nat) (k0 k : Nat) (pre : List Nat) (o : Nat → Int) : Prop where
  hk : k < n
  at_ : (k = k0 ∧ pre = ord) ∨ ∃ post, ord = pre ++ k :: post
  own : Own (may C) n (fun _ => True) (fun i => i < r) (upd o k (-1))
  same : ∀ k' ∈ pre, o k' = ow k'
  tight : ∀ k' (i : Nat), k' < n → k' ≠ k → o k' = (i : Int) → u' i + v' k' = C i k'
  cov : ∀ k', k' < n → k' ≠ k → 0 ≤ ow k' → 0 ≤ o k'
theorem upd_id {α : Type} (f : Nat → α) (k : Nat) (v : α) (h : f k = v) : upd f k v = f := by
  funext j
  by_cases e : j = k
  · subst e; rw [upd_same, h]
  · rw [upd_ne _ _ e]
section
variable {C : Nat → Nat → Int} {n r : Nat} {V : Int} {u v ow dist frm u' v' : Nat → Int} {ord : List Nat} {k0 : Nat}
theorem Fin.ownR (p : Pot C n r V u v ow) (f : Fin C n r u v ow dist frm ord k0) : ∀ k ∈ ord, ∃ i : Nat, ow k = (i : Int) ∧ i < r ∧ 0 ≤ C i k := fun k hk => by
  obtain ⟨a, b⟩ := f.lt k hk
  rcases p.own.val k a trivial with e | ⟨i, e, e2, e3⟩
  · omega
  · exact ⟨i, e, e2, (may_iff _ _ _).1 e3⟩
theorem Aug.start (p : Pot C n r V u v ow) (f : Fin C n r u v ow dist frm ord k0) (q : NewP n r u v ow dist ord (dist k0) u' v') : Aug C n r u' v' ow ord k0 k0 ord ow := by
  refine ⟨f.k0n, .inl ⟨rfl, rfl⟩, by rw [upd_id _ _ _ f.free]; exact p.own, fun _ _ => rfl, fun k i hk _ e => ?_, fun _ _ _ h => h⟩
  have h1 := p.tight k i hk e
  have h2 := q.hv k hk
  have hir : i < r := by
    rcases p.own.val k hk trivial with a | ⟨i', a, b, _⟩
    · omega
    · omega
  by_cases ho : k ∈ ord
  · rw [if_pos ho] at h2
    have h3 := q.ho k ho i e
    omega
  · rw [if_neg ho] at h2
    have h3 := q.hx i (by omega) fun k' hk' e' => by
      have := p.own.inj k k' i hk (f.lt k' hk').1 trivial trivial e e'
      subst this; exact ho hk'
    omega
theorem Aug.par {k : Nat} {pre : List Nat} {o : Nat → Int} (f : Fin C n r u v ow dist frm ord k0) (g : Aug C n r u' v' ow ord k0 k pre o) : Par C u v ow r dist frm (fun k' => k' ∈ pre) k ∧ (∀ k' ∈ pre, k' ∈ ord ∧ k' ≠ k) ∧ v' k = v' k := by
  rcases g.at_ with ⟨rfl, rfl⟩ | ⟨post, e⟩
  · exact ⟨f.par0, fun k' hk' => ⟨hk', fun e => f.k0o (e ▸ hk')⟩, rfl⟩
  · refine ⟨f.parD pre k post e, fun k' hk' => ⟨by rw [e]; simp [hk'], fun e2 => ?_⟩, rfl⟩
    have := f.nod
    rw [e, List.nodup_append] at this
    exact this.2.2 k' hk' k (by simp) e2
theorem Aug.newv {k : Nat} {pre : List Nat} {o : Nat → Int} (f : Fin C n r u v ow dist frm ord k0) (q : NewP n r u v ow dist ord (dist k0) u' v') (g : Aug C n r u' v' ow ord k0 k pre o) : v' k = v k - (dist k0 - dist k) := by
  have h := q.hv k g.hk
  rcases g.at_ with ⟨rfl, rfl⟩ | ⟨post, e⟩
  · rw [if_neg f.k0o] at h; omega
  · rw [if_pos (by rw [e]; simp)] at h; exact h
theorem Aug.step {k k' : Nat} {pre : List Nat} {o : Nat → Int} (p : Pot C n r V u v ow) (f : Fin C n r u v ow dist frm ord k0) (q : NewP n r u v ow dist ord (dist k0) u' v') (g : Aug C n r u' v' ow ord k0 k pre o) (hf : frm k = (k' : Int)) :
    ∃ pre', pre'.length < pre.length ∧ k' < n ∧ k' ∈ pre ∧ 0 ≤ o k' ∧ o k' = ow k' ∧ Aug C n r u' v' ow ord k0 k' pre' (upd o k (o k')) := by
  obtain ⟨par, hpre, _⟩ := g.par f
  rcases par with ⟨a, _⟩ | ⟨k2, i, a, b, c, c2, c3⟩
  · omega
  have : k2 = k' := by omega
  subst this
  obtain ⟨ho, hne⟩ := hpre k2 a
  have hk2 := (f.lt k2 ho).1
  have hoi : o k2 = (i : Int) := by rw [g.same k2 a]; exact c
  obtain ⟨i', hi', hir, _⟩ := f.ownR p k2 ho
  have hii : i' = i := by omega
  subst hii
  obtain ⟨pre', post', e⟩ := List.append_of_mem a
  have hpo : ∃ post, ord = pre' ++ k2 :: post := by
    rcases g.at_ with ⟨_, h⟩ | ⟨post, h⟩
    · exact ⟨post', by rw [← h, e]⟩
    · exact ⟨post' ++ k :: post, by rw [h, e]; simp⟩
  have hnk : ∀ x ∈ pre', x ≠ k2 ∧ x ∈ pre := fun x hx => by
    refine ⟨fun e2 => ?_, by rw [e]; simp [hx]⟩
    obtain ⟨post, h⟩ := hpo
    have := f.nod
    rw [h, List.nodup_append] at this
    exact this.2.2 x hx k2 (by simp) e2
  refine ⟨pre', by rw [e]; simp, hk2, a, by omega, g.same k2 a, ⟨hk2, .inr hpo, ?_, fun x hx => ?_, fun x j hx hxk e2 => ?_, fun x hx hxk h => ?_⟩⟩
  · rw [hoi]
    have O := g.own
    have vv : ∀ j, j < n → j ≠ k → j ≠ k2 → upd (upd o k (i' : Int)) k2 (-1) j = upd o k (-1) j := fun j _ h1 h2 => by rw [upd_ne _ _ h2, upd_ne _ _ h1, upd_ne _ _ h1]
    have vk : upd (upd o k (i' : Int)) k2 (-1) k = (i' : Int) := by rw [upd_ne _ _ (Ne.symm hne), upd_same]
    have o2 : upd o k (-1) k2 = (i' : Int) := by rw [upd_ne _ _ hne, hoi]
    refine ⟨fun j hj _ => ?_, fun x hx => ?_, fun j j' x hj hj' _ _ e1 e2 => ?_⟩
    · by_cases e1 : j = k2
      · subst e1; exact .inl (upd_same _ _ _)
      · by_cases e2 : j = k
        · subst e2; rw [vk]; exact .inr ⟨i', rfl, hir, (may_iff _ _ _).2 c2⟩
        · rw [vv j hj e2 e1]; exact O.val j hj trivial
    · obtain ⟨j, h1, _, h2⟩ := O.one x hx
      by_cases e1 : j = k2
      · subst e1
        rw [o2] at h2
        exact ⟨k, g.hk, trivial, by rw [vk]; exact h2⟩
      · have e2 : j ≠ k := by rintro rfl; rw [upd_same] at h2; omega
        exact ⟨j, h1, trivial, by rw [vv j h1 e2 e1]; exact h2⟩
    · have n1 : j ≠ k2 := by rintro rfl; rw [upd_same] at e1; omega
      have n2 : j' ≠ k2 := by rintro rfl; rw [upd_same] at e2; omega
      by_cases q1 : j = k <;> by_cases q2 : j' = k
      · rw [q1, q2]
      · subst q1
        rw [vk] at e1; rw [vv j' hj' q2 n2] at e2
        have := O.inj j' k2 x hj' hk2 trivial trivial e2 (by rw [o2]; exact e1)
        exact absurd this n2
      · subst q2
        rw [vk] at e2; rw [vv j hj q1 n1] at e1
        have := O.inj j k2 x hj hk2 trivial trivial e1 (by rw [o2]; exact e2)
        exact absurd this n1
      · rw [vv j hj q1 n1] at e1; rw [vv j' hj' q2 n2] at e2
        exact O.inj j j' x hj hj' trivial trivial e1 e2
  · rw [upd_ne _ _ (hpre x (hnk x hx).2).2]; exact g.same x (hnk x hx).2
  · by_cases e1 : x = k
    · subst e1
      rw [upd_same, hoi] at e2
      have : j = i' := by omega
      subst this
      have h1 := q.ho k2 ho j c
      have h2 := g.newv f q
      omega
    · rw [upd_ne _ _ e1] at e2
      exact g.tight x j hx e1 e2
  · by_cases e1 : x = k
    · subst e1; rw [upd_same, hoi]; omega
    · rw [upd_ne _ _ e1]; exact g.cov x hx e1 h
theorem Aug.last {k : Nat} {pre : List Nat} {o : Nat → Int} (p : Pot C n r V u v ow) (f : Fin C n r u v ow dist frm ord k0) (q : NewP n r u v ow dist ord (dist k0) u' v') (g : Aug C n r u' v' ow ord k0 k pre o) (hf : frm k < 0) :
    Pot C n (r + 1) (V + n * 1000000) u' v' (upd o k (r : Int)) := by
  obtain ⟨par, hpre, _⟩ := g.par f
  rcases par with ⟨a, b, c⟩ | ⟨k2, i, a, b, _⟩
  case inr => omega
  have O := g.own
  have u0 := p.zero r (Nat.le_refl _)
  have tr : ∀ k ∈ ord, ∀ i : Nat, ow k = (i : Int) → Tr ow r dist ord i (dist k) := fun k hk i e => .inr ⟨k, hk, e, rfl⟩
  have vle : ∀ k, k < n → v' k ≤ v k := fun k hk => by
    have := q.hv k hk
    by_cases ho : k ∈ ord
    · rw [if_pos ho] at this; have := f.le k ho; omega
    · rw [if_neg ho] at this; omega
  -- a row that was reached, with its new price
  have reach : ∀ x dx, Tr ow r dist ord x dx → u' x = u x + (dist k0 - dx) := fun x dx t => by
    rcases t with ⟨rfl, rfl⟩ | ⟨k, hk, e, rfl⟩
    · rw [q.hr]; omega
    · exact q.ho k hk x e
  have feasT : ∀ x dx, Tr ow r dist ord x dx → ∀ k, k < n → 0 ≤ C x k → u' x + v' k ≤ C x k := fun x dx t k hk hc => by
    have h1 := reach x dx t
    have h2 := f.rel x dx t k hk hc
    have h3 := q.hv k hk
    by_cases ho : k ∈ ord
    · rw [if_pos ho] at h3; omega
    · rw [if_neg ho] at h3; have := f.ge k hk ho; omega
  have cases' : ∀ i, (∃ dx, Tr ow r dist ord i dx) ∨ (i ≠ r ∧ u' i = u i) := fun i => by
    by_cases h : ∃ dx, Tr ow r dist ord i dx
    · exact .inl h
    · refine .inr ⟨fun e => h ⟨0, .inl ⟨e, rfl⟩⟩, q.hx i (fun e => h ⟨0, .inl ⟨e, rfl⟩⟩) fun k hk e => h ⟨_, tr k hk i e⟩⟩
  have upos : ∀ i, u i ≤ u' i := fun i => by
    rcases cases' i with ⟨dx, t⟩ | ⟨_, e⟩
    · have h1 := reach i dx t
      have : dx ≤ dist k0 := by
        rcases t with ⟨_, rfl⟩ | ⟨k, hk, _, rfl⟩
        · exact f.pos
        · exact (f.le k hk).2
      omega
    · omega
  refine ⟨⟨fun j hj _ => ?_, fun x hx => ?_, fun j j' x hj hj' _ _ e1 e2 => ?_⟩, fun i k' hi hk' hc => ?_, fun k' hk' => ?_, fun k' hk' e => ?_, fun k' i hk' e => ?_, fun i hi => ?_, fun i hi => ?_, fun k' hk' => ?_⟩
  · by_cases e : j = k
    · subst e; exact .inr ⟨r, upd_same _ _ _, by omega, (may_iff _ _ _).2 b⟩
    · rw [upd_ne _ _ e]
      have := O.val j hj trivial
      rw [upd_ne _ _ e] at this
      rcases this with e2 | ⟨i, e2, e3, e4⟩
      · exact .inl e2
      · exact .inr ⟨i, e2, by omega, e4⟩
  · by_cases e : x = r
    · subst e; exact ⟨k, g.hk, trivial, upd_same _ _ _⟩
    · obtain ⟨j, h1, _, h2⟩ := O.one x (by omega)
      have hne : j ≠ k := by rintro rfl; rw [upd_same] at h2; omega
      rw [upd_ne _ _ hne] at h2
      exact ⟨j, h1, trivial, by rw [upd_ne _ _ hne]; exact h2⟩
  · have key : ∀ j, j < n → j ≠ k → o j = (r : Int) → False := fun j hj hne e => by
      have := O.val j hj trivial
      rw [upd_ne _ _ hne] at this
      rcases this with e2 | ⟨i, e2, e3, _⟩ <;> omega
    by_cases q1 : j = k <;> by_cases q2 : j' = k
    · rw [q1, q2]
    · subst q1
      rw [upd_same] at e1; rw [upd_ne _ _ q2] at e2
      exact (key j' hj' q2 (by omega)).elim
    · subst q2
      rw [upd_same] at e2; rw [upd_ne _ _ q1] at e1
      exact (key j hj q1 (by omega)).elim
    · rw [upd_ne _ _ q1] at e1; rw [upd_ne _ _ q2] at e2
      exact O.inj j j' x hj hj' trivial trivial (by rw [upd_ne _ _ q1]; exact e1) (by rw [upd_ne _ _ q2]; exact e2)
  · rcases cases' i with ⟨dx, t⟩ | ⟨hne, e⟩
    · exact feasT i dx t k' hk' hc
    · have := p.feas i k' (by omega) hk' hc
      have := vle k' hk'
      omega
  · have := vle k' hk'; have := p.vneg k' hk'; omega
  · have hne : k' ≠ k := by rintro rfl; rw [upd_same] at e; omega
    rw [upd_ne _ _ hne] at e
    have how : ¬ 0 ≤ ow k' := fun h => by have := g.cov k' hk' hne h; omega
    have hfree : ow k' = -1 := by
      rcases p.own.val k' hk' trivial with a | ⟨i, a, _⟩
      · exact a
      · omega
    have hno : k' ∉ ord := fun h => how (f.lt k' h).2
    have h3 := q.hv k' hk'
    rw [if_neg hno] at h3
    rw [h3]; exact p.free k' hk' hfree
  · by_cases e1 : k' = k
    · subst e1
      rw [upd_same] at e
      have : i = r := by omega
      subst this
      have h1 := q.hr
      have h2 := g.newv f q
      omega
    · rw [upd_ne _ _ e1] at e
      exact g.tight k' i hk' e1 e
  · by_cases e : i < r
    · have := p.upos i e; have := upos i; omega
    · have : i = r := by omega
      subst this
      have := q.hr; have := f.pos; omega
  · rcases cases' i with ⟨dx, t⟩ | ⟨_, e⟩
    · exfalso
      rcases t with ⟨rfl, _⟩ | ⟨k, hk, e, _⟩
      · omega
      · obtain ⟨i', h1, h2, _⟩ := f.ownR p k hk
        omega
    · rw [e]; exact p.zero i (by omega)
  · have h3 := q.hv k' hk'
    have h4 := p.vlow k' hk'
    have h5 := f.bnd
    have h6 := f.pos
    by_cases ho : k' ∈ ord
    · rw [if_pos ho] at h3; have := f.le k' ho; omega
    · rw [if_neg ho] at h3; omega
end
end Go.Proofs.YtehdhbnbajfanaaGreat


/- Small laws for the walk of match.raise: labels, the nearest column, prices, one column at a time. -/
namespace Go.Proofs.YtehdhbnbajfanaaGreat
set_option linter.unusedSimpArgs false
set_option linter.unusedVariables false
open Go.RowKit Go.Sort Go.Shelf

def cc (c : List (List Int)) (i k : Nat) : Int := (c.getD i []).getD k (-1)
theorem can_cc (c : List (List Int)) : canC c = may (cc c) := rfl
theorem cc_get {c : List (List Int)} {i k : Nat} (hi : i < c.length) (hk : k < (c[i]).length) : cc c i k = (c[i])[k] := by simp [cc, List.getD, hi, hk]
def iv (f : Nat → Int) : Nat → Value := fun k => .int .i64 (f k)
theorem iv_upd (f : Nat → Int) (k : Nat) (x : Int) : upd (iv f) k (.int .i64 x) = iv (upd f k x) := by
  funext j
  by_cases e : j = k
  · subst e; simp [iv, upd_same]
  · simp [iv, upd_ne _ _ e]
section
variable {C : Nat → Nat → Int} {u v dist frm : Nat → Int} {ord : List Nat} {base now : Int} {cur j : Nat}
theorem rdist_zero : rdist C u v ord base cur dist 0 = dist := by
  funext k; unfold rdist rlx; simp
theorem rfrm_zero : rfrm C u v ord base cur dist frm now 0 = frm := by
  funext k; unfold rfrm rlx; simp
theorem rlx_ne {k : Nat} (h : k ≠ j) : rlx C u v ord base cur dist (j + 1) k = rlx C u v ord base cur dist j k := by
  rw [Bool.eq_iff_iff, rlx_iff, rlx_iff]
  constructor
  · rintro ⟨a, b⟩; exact ⟨by omega, b⟩
  · rintro ⟨a, b⟩; exact ⟨by omega, b⟩
theorem rlx_self : rlx C u v ord base cur dist j j = false := by
  rw [Bool.eq_false_iff]; intro h; have := (rlx_iff.1 h).1; omega
theorem rdist_at : rdist C u v ord base cur dist j j = dist j := by unfold rdist; rw [rlx_self]; simp
theorem rdist_no (h : ¬ (0 ≤ C cur j ∧ j ∉ ord ∧ base + C cur j - u cur - v j < dist j)) : rdist C u v ord base cur dist (j + 1) = rdist C u v ord base cur dist j ∧ rfrm C u v ord base cur dist frm now (j + 1) = rfrm C u v ord base cur dist frm now j := by
  have e : rlx C u v ord base cur dist (j + 1) j = false := by
    rw [Bool.eq_false_iff]; intro a; exact h (rlx_iff.1 a).2
  constructor
  all_goals
    funext k
    by_cases hk : k = j
    · subst hk; simp only [rdist, rfrm, e, rlx_self]
    · simp only [rdist, rfrm, rlx_ne hk]
theorem rdist_yes (h1 : 0 ≤ C cur j) (h2 : j ∉ ord) (h3 : base + C cur j - u cur - v j < dist j) : rdist C u v ord base cur dist (j + 1) = upd (rdist C u v ord base cur dist j) j (base + C cur j - u cur - v j) ∧ rfrm C u v ord base cur dist frm now (j + 1) = upd (rfrm C u v ord base cur dist frm now j) j now := by
  have e : rlx C u v ord base cur dist (j + 1) j = true := rlx_iff.2 ⟨by omega, h1, h2, h3⟩
  constructor
  all_goals
    funext k
    by_cases hk : k = j
    · subst hk; simp [rdist, rfrm, e, upd_same]
    · simp [rdist, rfrm, rlx_ne hk, upd_ne _ _ hk]
theorem Sel.start : Sel dist ord 0 (-1) := .inl ⟨rfl, fun k hk => by omega⟩
theorem Sel.done (s : Sel dist ord j now) (h : j ∈ ord) : Sel dist ord (j + 1) now := by
  rcases s with ⟨e, s⟩ | ⟨k0, e, e2, e3, e4⟩
  · refine .inl ⟨e, fun k hk => ?_⟩
    by_cases q : k = j
    · subst q; exact h
    · exact s k (by omega)
  · refine .inr ⟨k0, e, by omega, e3, fun k hk hno => e4 k ?_ hno⟩
    have : k ≠ j := fun q => hno (q ▸ h)
    omega
theorem Sel.first (s : Sel dist ord j (-1)) (h : j ∉ ord) : Sel dist ord (j + 1) (j : Int) := by
  rcases s with ⟨e, s⟩ | ⟨k0, e, _⟩
  · refine .inr ⟨j, rfl, by omega, h, fun k hk hno => ?_⟩
    by_cases q : k = j
    · subst q; exact Int.le_refl _
    · exact absurd (s k (by omega)) hno
  · omega
theorem Sel.less {k0 : Nat} (s : Sel dist ord j (k0 : Int)) (h : j ∉ ord) (hl : dist j < dist k0) : Sel dist ord (j + 1) (j : Int) := by
  rcases s with ⟨e, _⟩ | ⟨k1, e, e2, e3, e4⟩
  · omega
  · have : k1 = k0 := by omega
    subst this
    refine .inr ⟨j, rfl, by omega, h, fun k hk hno => ?_⟩
    by_cases q : k = j
    · subst q; exact Int.le_refl _
    · have := e4 k (by omega) hno; omega
theorem Sel.more {k0 : Nat} (s : Sel dist ord j (k0 : Int)) (hl : ¬ dist j < dist k0) : Sel dist ord (j + 1) (k0 : Int) := by
  rcases s with ⟨e, _⟩ | ⟨k1, e, e2, e3, e4⟩
  · omega
  · have : k1 = k0 := by omega
    subst this
    refine .inr ⟨k1, rfl, by omega, e3, fun k hk hno => ?_⟩
    by_cases q : k = j
    · subst q; omega
    · exact e4 k (by omega) hno
theorem Sel.cases (s : Sel dist ord j now) : now = -1 ∨ ∃ k0 : Nat, now = (k0 : Int) ∧ k0 < j := by
  rcases s with ⟨e, _⟩ | ⟨k0, e, e2, _⟩
  · exact .inl e
  · exact .inr ⟨k0, e, e2⟩
end
/-- The new prices, for the columns below j. -/
structure NewJ (n r : Nat) (u v ow dist : Nat → Int) (ord : List Nat) (base : Int) (j : Nat) (u' v' : Nat → Int) : Prop where
  hv : ∀ k, k < n → v' k = if k < j ∧ k ∈ ord then v k - (base - dist k) else v k
  hr : u' r = u r + base
  ho : ∀ k ∈ ord, ∀ i : Nat, ow k = (i : Int) → u' i = if k < j then u i + (base - dist k) else u i
  hx : ∀ i, i ≠ r → (∀ k ∈ ord, ow k ≠ (i : Int)) → u' i = u i
section
variable {n r : Nat} {u v ow dist u' v' : Nat → Int} {ord : List Nat} {base : Int} {j : Nat}
theorem NewJ.start (hr : ∀ k ∈ ord, ∀ i : Nat, ow k = (i : Int) → i ≠ r) : NewJ n r u v ow dist ord base 0 (upd u r (u r + base)) v := by
  refine ⟨fun k hk => ?_, upd_same _ _ _, fun k hk i e => ?_, fun i hi _ => upd_ne _ _ hi⟩
  · rw [if_neg (by rintro ⟨a, _⟩; omega)]
  · rw [if_neg (by omega), upd_ne _ _ (hr k hk i e)]
theorem NewJ.skip (p : NewJ n r u v ow dist ord base j u' v') (h : j ∉ ord) : NewJ n r u v ow dist ord base (j + 1) u' v' := by
  refine ⟨fun k hk => ?_, p.hr, fun k hk i e => ?_, p.hx⟩
  · rw [p.hv k hk]
    have : (k < j ∧ k ∈ ord) = (k < j + 1 ∧ k ∈ ord) := by
      rw [eq_iff_iff]
      constructor
      · rintro ⟨a, b⟩; exact ⟨by omega, b⟩
      · rintro ⟨a, b⟩
        have : k ≠ j := fun e => h (e ▸ b)
        exact ⟨by omega, b⟩
    simp only [this]
  · rw [p.ho k hk i e]
    have : k ≠ j := fun e => h (e ▸ hk)
    have : (k < j) = (k < j + 1) := by rw [eq_iff_iff]; omega
    simp only [this]
theorem NewJ.step {i : Nat} (p : NewJ n r u v ow dist ord base j u' v') (h : j ∈ ord) (hjn : j < n) (hi : ow j = (i : Int)) (hir : i ≠ r) (inj : ∀ k ∈ ord, ∀ i : Nat, ow k = (i : Int) → ow j = (i : Int) → k = j) :
    v' j = v j ∧ u' i = u i ∧ NewJ n r u v ow dist ord base (j + 1) (upd u' i (u i + (base - dist j))) (upd v' j (v j - (base - dist j))) := by
  have h1 := p.hv j hjn
  rw [if_neg (by rintro ⟨a, _⟩; omega)] at h1
  have h2 := p.ho j h i hi
  rw [if_neg (by omega)] at h2
  refine ⟨h1, h2, ⟨fun k hk => ?_, by rw [upd_ne _ _ (Ne.symm hir)]; exact p.hr, fun k hk x e => ?_, fun x hx hno => ?_⟩⟩
  · by_cases e : k = j
    · subst e; rw [upd_same, if_pos ⟨by omega, h⟩]
    · rw [upd_ne _ _ e, p.hv k hk]
      have : (k < j) = (k < j + 1) := by rw [eq_iff_iff]; omega
      simp only [this]
  · by_cases q : k = j
    · subst q
      have : x = i := by omega
      subst this
      rw [upd_same, if_pos (by omega)]
    · have hxi : x ≠ i := fun e2 => q (inj k hk x e (by rw [hi, e2]))
      rw [upd_ne _ _ hxi, p.ho k hk x e]
      have : (k < j) = (k < j + 1) := by rw [eq_iff_iff]; omega
      simp only [this]
  · have : x ≠ i := fun e => hno j h (by rw [hi, e])
    rw [upd_ne _ _ this]; exact p.hx x hx hno
theorem NewJ.fin (p : NewJ n r u v ow dist ord base n u' v') (hl : ∀ k ∈ ord, k < n) : NewP n r u v ow dist ord base u' v' := by
  refine ⟨fun k hk => ?_, p.hr, fun k hk i e => ?_, p.hx⟩
  · rw [p.hv k hk]
    simp only [hk, true_and]
  · rw [p.ho k hk i e, if_pos (hl k hk)]
end
/-- The prices and the owners in memory. -/
structure RM (m n bp bu bv bow : Nat) (W : World) (u v ow : Nat → Int) : Prop where
  xP : W.heap[bp]? = some (.cells #[.slice (some ⟨bu, 0, none⟩) m m, .slice (some ⟨bv, 0, none⟩) n n] 95 (0, 0))
  ru : RowAt W bu m 3 (iv u)
  rv : RowAt W bv n 3 (iv v)
  ro : RowAt W bow n 3 (iv ow)
theorem RM.below {m n bp bu bv bow : Nat} {W W' : World} {u v ow : Nat → Int} (r : RM m n bp bu bv bow W u v ow) (hb : Below W.heap.size W W') : RM m n bp bu bv bow W' u v ow :=
  ⟨blk_keep r.xP hb, r.ru.below hb, r.rv.below hb, r.ro.below hb⟩
theorem RM.lt {m n bp bu bv bow : Nat} {W : World} {u v ow : Nat → Int} (r : RM m n bp bu bv bow W u v ow) : bp < W.heap.size ∧ bu < W.heap.size ∧ bv < W.heap.size ∧ bow < W.heap.size := ⟨lt_blk r.xP, r.ru.lt, r.rv.lt, r.ro.lt⟩
/-- What the prices are good for. -/
def RaisePost (c : List (List Int)) (w : World) (e : Ending) (w' : World) : Prop :=
  ∃ (u v : Nat → Int) (bu bv : Nat), e = .returned (.agg #[.slice (some ⟨bu, 0, none⟩) c.length c.length, .slice (some ⟨bv, 0, none⟩) (wideL c) (wideL c)]) ∧ (∃ ow, Pot (cc c) (wideL c) c.length (c.length * (wideL c * 1000000)) u v ow) ∧
    RowAt w' bu c.length 3 (iv u) ∧ RowAt w' bv (wideL c) 3 (iv v) ∧ Below w.heap.size w w'
def RaiseInv (c : List (List Int)) (bp bu bv bow : Nat) (w0 : World) (k : Nat) (W : World) : Prop :=
  ∃ u v ow, RM c.length (wideL c) bp bu bv bow W u v ow ∧ Pot (cc c) (wideL c) k (k * (wideL c * 1000000)) u v ow ∧ Below w0.heap.size w0 W
/-- Behind the first lines. -/
def RaiseStart (c : List (List Int)) (bp bu bv : Nat) (w1 W : World) : Prop :=
  W.heap[bp]? = some (.cells #[.slice (some ⟨bu, 0, none⟩) c.length c.length, .slice (some ⟨bv, 0, none⟩) (wideL c) (wideL c)] 95 (0, 0)) ∧ RowAt W bu c.length 3 (iv fun _ => 0) ∧ RowAt W bv (wideL c) 3 (iv fun _ => 0) ∧
    Below w1.heap.size w1 W ∧ (w1.heap.size ≤ bp ∧ w1.heap.size ≤ bu ∧ w1.heap.size ≤ bv) ∧ bp ≠ bu ∧ bp ≠ bv ∧ bu ≠ bv
theorem three (w : World) (A B C : Obj) : (((w.alloc A).alloc B).alloc C).drew.heap[w.heap.size]? = some A ∧ (((w.alloc A).alloc B).alloc C).drew.heap[w.heap.size + 1]? = some B ∧ (((w.alloc A).alloc B).alloc C).drew.heap[w.heap.size + 1 + 1]? = some C ∧ Below w.heap.size w (((w.alloc A).alloc B).alloc C).drew :=
  box3 ((Below.refl (((w.alloc A).alloc B).alloc C).heap.size _).drew)
theorem RowAt.of_made {w : World} {b n : Nat} {T : TypeId} {z : Value} (x : w.heap[b]? = some (.cells (madeCells #[z] n) T (0, 0))) : RowAt w b n T (fun _ => z) :=
  ⟨_, x, size_madeCells _ _, fun k hk => by simp [madeCells, hk, Nat.mod_one]⟩
/-- Two new rows. -/
def TwoRows (n : Nat) (w : World) (bd bf : Nat) (W : World) : Prop := RowAt W bd n 3 (iv fun _ => 0) ∧ RowAt W bf n 3 (iv fun _ => -1) ∧ Below w.heap.size w W ∧ w.heap.size ≤ bd ∧ w.heap.size ≤ bf ∧ bd ≠ bf
/-- The three rows of a search. -/
structure SM (n bd bf bo : Nat) (wr W : World) (dist frm : Nat → Int) (don : Nat → Bool) : Prop where
  rd : RowAt W bd n 3 (iv dist)
  rf : RowAt W bf n 3 (iv frm)
  rb : RowAt W bo n 4 (fun j => .bool (don j))
  bel : Below wr.heap.size wr W
theorem SM.below {n bd bf bo : Nat} {wr W W' : World} {dist frm : Nat → Int} {don : Nat → Bool} (s : SM n bd bf bo wr W dist frm don) (hb : Below W.heap.size W W') : SM n bd bf bo wr W' dist frm don :=
  ⟨s.rd.below hb, s.rf.below hb, s.rb.below hb, s.bel.trans (hb.mono s.bel.size)⟩
theorem contains_app (ord : List Nat) (k : Nat) : (fun j => (ord ++ [k]).contains j) = upd (fun j => ord.contains j) k true := by
  funext j
  by_cases e : j = k
  · subst e; simp [upd_same]
  · rw [upd_ne _ _ e]; simp [e]
theorem two_A {n bn : Nat} {w W : World} (hb : Below (w.alloc (.cells (madeCells #[.int .i64 0] n) 3)).heap.size (w.alloc (.cells (madeCells #[.int .i64 0] n) 3)) W) (hr : RowAt W bn n 3 (fun _ => .int .i64 (-1)))
    (hn : (w.alloc (.cells (madeCells #[.int .i64 0] n) 3)).heap.size ≤ bn) : TwoRows n w w.heap.size bn W := by
  simp at hn
  exact ⟨RowAt.of_made (box_below hb), hr, allocB hb, Nat.le_refl _, by omega, by omega⟩
theorem two_B {n bn : Nat} {w W : World} (hb : Below w.heap.size w W) (hr : RowAt W bn n 3 (fun _ => .int .i64 (-1))) (hn : w.heap.size ≤ bn) : TwoRows n w W.heap.size bn (W.alloc (.cells (madeCells #[.int .i64 0] n) 3)) := by
  have h1 := hb.size
  have h2 := hr.lt
  exact ⟨RowAt.made _ _ _ _, hr.below ((Below.refl _ _).alloc (Nat.le_refl _) _), hb.alloc h1 _, h1, hn, by omega⟩
/-- What the search for the least way knows, a row not looked at yet. -/
def L3Inv (c : List (List Int)) (k : Nat) (u v ow : Nat → Int) (bd bf bo : Nat) (wo : World) (g cur : Nat) (now base : Int) (W : World) : Prop :=
  ∃ (dist frm : Nat → Int) (ord : List Nat), g + ord.length = wideL c + 1 ∧ SM (wideL c) bd bf bo wo W dist frm (fun j => ord.contains j) ∧ Dj (cc c) (wideL c) k u v ow true dist frm ord base cur ∧ ((ord = [] ∧ now = -1) ∨ ∃ (k' : Nat) (ord0 : List Nat), ord = ord0 ++ [k'] ∧ now = (k' : Int))
theorem cell_b {w W : World} {p : Addr} {v : Value} (hb : Below w.heap.size w W) (hc : w.cell? p = some v) : W.cell? p = some v := (hb.cell (World.block_lt_of_cell? _ _ hc)).trans hc
theorem dj_cur {C : Nat → Nat → Int} {n r : Nat} {V : Int} {u v ow dist frm : Nat → Int} {late : Bool} {ord : List Nat} {base : Int} {cur : Nat} (p : Pot C n r V u v ow) (d : Dj C n r u v ow late dist frm ord base cur) : cur ≤ r := by
  rcases d.hcur with ⟨_, e, _⟩ | ⟨k, ord0, e, e2, _⟩
  · omega
  · have hk : k ∈ ord := by rw [e]; simp
    rcases p.own.val k (d.lt k hk).1 trivial with a | ⟨i, a, b, _⟩ <;> omega
theorem pot_small {C : Nat → Nat → Int} {n r m : Nat} {u v ow : Nat → Int} (p : Pot C n r (r * (n * 1000000)) u v ow) (hr : r ≤ m) (hm : m ≤ 200) (hn : n ≤ 200) (hC : ∀ i k, i < m → k < n → C i k ≤ 1000000) :
    ((r : Int) * (n * 1000000) ≤ 40000000000) ∧ (∀ i, 0 ≤ u i ∧ u i ≤ 40001000000) ∧ ∀ k, k < n → -40000000000 ≤ v k ∧ v k ≤ 0 := by
  have h1 : r * (n * 1000000) ≤ 200 * (200 * 1000000) := Nat.mul_le_mul (by omega) (Nat.mul_le_mul_right _ hn)
  have h2 : (r : Int) * (n * 1000000) ≤ 40000000000 := by
    have : ((r * (n * 1000000) : Nat) : Int) = (r : Int) * (n * 1000000) := by simp
    omega
  have h3 : (0 : Int) ≤ (r : Int) * (n * 1000000) := by
    have : ((r * (n * 1000000) : Nat) : Int) = (r : Int) * (n * 1000000) := by simp
    omega
  refine ⟨h2, fun i => ?_, fun k hk => ?_⟩
  · have := p.usmall (fun i k hi hk => hC i k (by omega) hk) h3 i
    omega
  · have := p.vlow k hk
    have := p.vneg k hk
    omega
theorem cc_le {c : List (List Int)} (h1 : ∀ l ∈ c, l.length = wideL c) (h2 : ∀ l ∈ c, ∀ n ∈ l, -1 ≤ n ∧ n ≤ 1000000) : ∀ i k, i < c.length → k < wideL c → -1 ≤ cc c i k ∧ cc c i k ≤ 1000000 := fun i k hi hk => by
  have hl := h1 c[i] (List.getElem_mem _)
  rw [cc_get hi (by omega)]
  exact h2 c[i] (List.getElem_mem _) _ (List.getElem_mem _)
theorem SM.set {n bd bf bo : Nat} {wr W : World} {dist frm : Nat → Int} {don : Nat → Bool} (s : SM n bd bf bo wr W dist frm don) {j : Nat} (hj : j < n) (h1 : wr.heap.size ≤ bd) (h2 : wr.heap.size ≤ bf) (n1 : bd ≠ bf) (n2 : bd ≠ bo) (n3 : bf ≠ bo) (x y : Int) :
    SM n bd bf bo wr ((W.setCell ⟨bd, j, none⟩ (.int .i64 x)).setCell ⟨bf, j, none⟩ (.int .i64 y)) (upd dist j x) (upd frm j y) don :=
  ⟨((s.rd.set hj (.int .i64 x)).other n1 _).congr fun _ _ => by rw [iv_upd], ((s.rf.other (Ne.symm n1) _).set hj (.int .i64 y)).congr fun _ _ => by rw [iv_upd], (s.rb.other (Ne.symm n2) _).other (Ne.symm n3) _, (s.bel.setCell h1 _).setCell h2 _⟩
end Go.Proofs.YtehdhbnbajfanaaGreat
