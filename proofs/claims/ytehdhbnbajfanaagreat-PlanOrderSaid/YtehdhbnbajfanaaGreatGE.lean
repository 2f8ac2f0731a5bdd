/- Texts of this seat, laid together: MatchPlace, MatchDual, MatchSsp, MatchWays0, MatchWays. -/
import Derived.Test.YtehdhbnbajfanaaGreatGD
import Derived.Deep.MidRow

/- The reference's search for a column of a row (place), walked: a row of cells with room, what the search has done; the conditions are named in each. -/
namespace Go.Proofs.YtehdhbnbajfanaaGreat
set_option linter.unusedSimpArgs false
set_option linter.unusedVariables false
open Go.RowKit Go.Sort Go.Shelf

theorem keepD {w w' : World} {p : Addr} {v : Value} (h : w.cell? p = some v) (hb : Below w.heap.size w w') : w'.cell? p = some v := (by
  have hp : p.block < w.heap.size := by
    unfold World.cell? at h
    rcases Nat.lt_or_ge p.block w.heap.size with h1 | h1
    · exact h1
    · rw [Array.getElem?_eq_none h1] at h; cases h
  rw [hb.cell hp]; exact h)
/-- Block b holds integers, cell k below n holds f k; there may be more room. -/
def RowC (w : World) (b n : Nat) (f : Nat → Int) : Prop := ∃ arr : Array Value, w.heap[b]? = some (.cells arr 3 (0, 0)) ∧ n ≤ arr.size ∧ ∀ k, k < n → arr[k]? = some (.int .i64 (f k))
theorem RowC.lt {w : World} {b n : Nat} {f : Nat → Int} (r : RowC w b n f) : b < w.heap.size := by obtain ⟨arr, e, _⟩ := r; exact lt_blk e
theorem RowC.of_eq {w w' : World} {b n : Nat} {f : Nat → Int} (r : RowC w b n f) (e : w'.heap[b]? = w.heap[b]?) : RowC w' b n f := by
  obtain ⟨arr, h1, h2⟩ := r
  exact ⟨arr, e.trans h1, h2⟩
theorem RowC.below {w w' : World} {b n : Nat} {f : Nat → Int} (r : RowC w b n f) (hb : Below w.heap.size w w') : RowC w' b n f := r.of_eq (hb.block b r.lt)
theorem RowC.cell {w : World} {b n : Nat} {f : Nat → Int} (r : RowC w b n f) {k : Nat} (hk : k < n) : w.cell? ⟨b, k, none⟩ = some (.int .i64 (f k)) := by
  obtain ⟨arr, e, _, g⟩ := r
  simp [World.cell?, e, g k hk]
theorem RowC.free {w : World} {b n : Nat} {f : Nat → Int} (r : RowC w b n f) (k : Nat) : w.frozen? ⟨b, k, none⟩ = false := by
  obtain ⟨arr, e, _, g⟩ := r
  simp [World.frozen?, e]
theorem RowC.set {w : World} {b n : Nat} {f : Nat → Int} (r : RowC w b n f) {k : Nat} (hk : k < n) (v : Int) : RowC (w.setCell ⟨b, k, none⟩ (.int .i64 v)) b n (upd f k v) := by
  obtain ⟨arr, h1, h2, h3⟩ := r
  refine ⟨arr.setIfInBounds k (.int .i64 v), heap_setCell_same _ _ _ _ _ _ h1, by simpa using h2, fun j hj => ?_⟩
  by_cases e : j = k
  · subst e; rw [upd_same]; simp [show j < arr.size by omega]
  · rw [upd_ne _ _ e, ← h3 j hj]
    rw [Array.getElem?_setIfInBounds_ne (by omega)]
theorem RowC.other {w : World} {b n c k : Nat} {f : Nat → Int} (r : RowC w b n f) (hne : b ≠ c) (v : Value) : RowC (w.setCell ⟨c, k, none⟩ v) b n f :=
  r.of_eq (heap_setCell_other _ _ _ _ (show _ ≠ _ by simpa using hne))
theorem RowC.congr {w : World} {b n : Nat} {f g : Nat → Int} (r : RowC w b n f) (e : ∀ k, k < n → f k = g k) : RowC w b n g := by
  obtain ⟨arr, h1, h2, h3⟩ := r
  exact ⟨arr, h1, h2, fun k hk => by rw [h3 k hk, e k hk]⟩
theorem RowC.of_own {w : World} {B n : Nat} {v : Value} {f : Nat → Int} (o : OwnR w B 3 1 v (((List.range n).map f).map inRow)) (hn : n ≠ 0) : ∃ g cap, v = .slice (some ⟨g, 0, none⟩) n cap ∧ B ≤ g ∧ n ≤ cap ∧ RowC w g n f := by
  have hne : (List.range n).map f ≠ [] := by simpa using hn
  obtain ⟨_, hl, h2⟩ := o
  rcases h2 with ⟨rfl, h⟩ | ⟨g, cap, cur, rfl, hg, hc, hle, h4, h5, h6⟩
  · simp at h; omega
  · have hlen : (((List.range n).map f).map inRow).length = n := by simp
    refine ⟨g, cap, by rw [hlen], hg, by rw [hlen] at hle; exact hle, cur, hc, ?_, fun j hj => ?_⟩
    · have := congrArg List.length h6
      rw [List.length_take, List.length_flatten] at this
      simp [inRow, Function.comp_def] at this
      simp at hle
      have h7 : ((List.map (fun _ => 1) (List.range n)).sum : Nat) = n := by
        rw [List.map_const', List.sum_replicate_nat]; simp
      omega
    · have e := flat_get (((List.range n).map f).map inRow) 1 (fun r hr => by obtain ⟨x, _, rfl⟩ := List.mem_map.1 hr; rfl) j 0 (inRow (f j)) (.int .i64 (f j)) (by simp [hj]) rfl
      rw [← h6, Nat.mul_one, Nat.add_zero, List.getElem?_take] at e
      split at e
      · simpa using e
      · cases e
theorem below_set {B : Nat} {w w' : World} (hb : Below B w w') {p : Addr} (hp : B ≤ p.block) (v : Value) : Below B w (w'.setCell p v) := ((KeepB.of_below' (S := []) hb).set (.inr hp) v).below
/-- Who is named as an owner is a row. -/
def PV (c : List (List Int)) (ow : Nat → Int) : Prop := ∀ k, k < wideL c → ow k = -1 ∨ ∃ i : Nat, ow k = i ∧ i < c.length
theorem PV.put {c : List (List Int)} {ow : Nat → Int} (v : PV c ow) {k r : Nat} (hr : r < c.length) : PV c (upd ow k (r : Int)) := fun j hj => by
  by_cases e : j = k
  · subst e; exact .inr ⟨r, upd_same _ _ _, hr⟩
  · rw [upd_ne _ _ e]; exact v j hj
/-- The search's variables in memory: all lies above the blocks of w0. -/
structure PSt (w0 : World) (n b bs : Nat) (w : World) (ow : Nat → Int) (seen : Nat → Bool) : Prop where
  hb : Below w0.heap.size w0 w
  ro : RowC w b n ow
  rs : RowAt w bs n 4 (fun k => .bool (seen k))
theorem PSt.below {w0 w w' : World} {n b bs : Nat} {ow : Nat → Int} {seen : Nat → Bool} (p : PSt w0 n b bs w ow seen) (hb : Below w.heap.size w w') : PSt w0 n b bs w' ow seen :=
  ⟨p.hb.trans (hb.mono p.hb.size), p.ro.below hb, p.rs.below hb⟩
theorem PSt.seen {w0 w : World} {n b bs : Nat} {ow : Nat → Int} {seen : Nat → Bool} (p : PSt w0 n b bs w ow seen) (h1 : w0.heap.size ≤ bs) (h2 : b ≠ bs) {k : Nat} (hk : k < n) : PSt w0 n b bs (w.setCell ⟨bs, k, none⟩ (.bool true)) ow (upd seen k true) :=
  ⟨below_set p.hb h1 _, p.ro.other h2 _, (p.rs.set hk (.bool true)).congr fun j hj => by
    by_cases e : j = k
    · subst e; simp [upd_same]
    · simp [upd_ne _ _ e]⟩
theorem PSt.give {w0 w : World} {n b bs : Nat} {ow : Nat → Int} {seen : Nat → Bool} (p : PSt w0 n b bs w ow seen) (h1 : w0.heap.size ≤ b) (h2 : b ≠ bs) {k : Nat} (hk : k < n) (r : Int) : PSt w0 n b bs (w.setCell ⟨b, k, none⟩ (.int .i64 r)) (upd ow k r) seen :=
  ⟨below_set p.hb h1 _, p.ro.set hk r, p.rs.other (Ne.symm h2) _⟩
theorem cnt_mono {s s' : Nat → Bool} (h : ∀ k, s k = true → s' k = true) (n : Nat) : cnt s' n ≤ cnt s n := by
  induction n with
  | zero => exact Nat.le_refl _
  | succ n ih =>
    unfold cnt
    cases e : s n
    · simp; split <;> omega
    · rw [h n e]; simpa using ih
theorem No.cnt {can : Nat → Nat → Bool} {n : Nat} {ow : Nat → Int} {seen seen' : Nat → Bool} {r j : Nat} {ks : List Nat} (h : No can n ow seen seen' r j ks) (m : Nat) : cnt seen' m ≤ cnt seen m :=
  cnt_mono (fun k hk => (h.seen k).2 (.inl hk)) m
/-- What a search from r has done. -/
def PlacePost (w0 : World) (c : List (List Int)) (b bs r : Nat) (ow : Nat → Int) (seen : Nat → Bool) (e : Ending) (w' : World) : Prop :=
  ∃ (ok : Bool) (ow' : Nat → Int) (seen' : Nat → Bool), e = .returned (.bool ok) ∧ PSt w0 (wideL c) b bs w' ow' seen' ∧ PV c ow' ∧
    ((ok = true ∧ Yes (may (cc c)) (wideL c) seen r ow ow') ∨ (ok = false ∧ ow' = ow ∧ ∃ ks, No (may (cc c)) (wideL c) ow seen seen' r (wideL c) ks))
end Go.Proofs.YtehdhbnbajfanaaGreat


/- Sums, prices as a bound, rows and columns that can be matched apart can be matched together: plain laws. -/
namespace Go.Proofs.YtehdhbnbajfanaaGreat
set_option linter.unusedSimpArgs false
set_option linter.unusedVariables false

/-- The sum of F below n. -/
def sumN (F : Nat → Int) : Nat → Int
  | 0 => 0
  | n + 1 => sumN F n + F n
theorem sumN_congr {F G : Nat → Int} {n : Nat} (h : ∀ k, k < n → F k = G k) : sumN F n = sumN G n := by
  induction n with
  | zero => rfl
  | succ n ih => simp only [sumN]; rw [ih fun k hk => h k (by omega), h n (by omega)]
theorem sumN_add (F G : Nat → Int) (n : Nat) : sumN (fun k => F k + G k) n = sumN F n + sumN G n := by
  induction n with
  | zero => rfl
  | succ n ih => simp only [sumN]; rw [ih]; omega
theorem sumN_le {F G : Nat → Int} {n : Nat} (h : ∀ k, k < n → F k ≤ G k) : sumN F n ≤ sumN G n := by
  induction n with
  | zero => exact Int.le_refl _
  | succ n ih => simp only [sumN]; have := ih fun k hk => h k (by omega); have := h n (by omega); omega
theorem sumN_eq {F G : Nat → Int} {n : Nat} (h : ∀ k, k < n → F k ≤ G k) (e : sumN G n ≤ sumN F n) : ∀ k, k < n → F k = G k := by
  induction n with
  | zero => intro k hk; omega
  | succ n ih =>
    simp only [sumN] at e
    have h1 := sumN_le (n := n) fun k hk => h k (by omega)
    have h2 := h n (by omega)
    intro k hk
    by_cases q : k = n
    · subst q; omega
    · exact ih (fun k hk => h k (by omega)) (by omega) k (by omega)
theorem sumN_zero {F : Nat → Int} {n : Nat} (h : ∀ k, k < n → F k = 0) : sumN F n = 0 := by
  induction n with
  | zero => rfl
  | succ n ih => simp only [sumN]; rw [ih fun k hk => h k (by omega), h n (by omega)]; rfl
theorem sumN_upd (F : Nat → Int) (k n : Nat) (x : Int) (hk : k < n) : sumN (upd F k x) n = sumN F n - F k + x := by
  induction n with
  | zero => omega
  | succ n ih =>
    simp only [sumN]
    by_cases e : k = n
    · subst e
      rw [upd_same, sumN_congr (G := F) fun j hj => upd_ne _ _ (by omega)]
      omega
    · rw [ih (by omega), upd_ne _ _ (by omega)]; omega
/-- v without the columns that f gives to the first j rows. -/
def less (v : Nat → Int) (f : Nat → Nat) : Nat → Nat → Int
  | 0 => v
  | j + 1 => upd (less v f j) (f j) 0
theorem less_sum {can : Nat → Nat → Bool} {n m : Nat} {v : Nat → Int} {f : Nat → Nat} (hf : Mt can (fun i => i < m) n f) : ∀ j, j ≤ m → sumN (less v f j) n = sumN v n - sumN (fun i => v (f i)) j ∧ (∀ i, j ≤ i → i < m → less v f j (f i) = v (f i)) ∧ (∀ k, (∀ i, i < j → f i ≠ k) → less v f j k = v k) ∧ ∀ i, i < j → less v f j (f i) = 0
  | 0, _ => ⟨by simp [less, sumN], fun _ _ _ => rfl, fun _ _ => rfl, fun i hi => by omega⟩
  | j + 1, hj => by
    obtain ⟨h1, h2, h3, h4⟩ := less_sum (v := v) hf j (by omega)
    refine ⟨?_, fun i hi hm => ?_, fun k hk => ?_, fun i hi => ?_⟩
    · show sumN (upd _ _ _) n = _
      rw [sumN_upd _ _ _ _ (hf.lt j (by omega)), h1, h2 j (Nat.le_refl _) (by omega)]
      simp only [sumN]; omega
    · show upd _ _ _ _ = _
      rw [upd_ne _ _ fun e => by have := hf.inj i j hm (by show j < m; omega) e; omega]
      exact h2 i (by omega) hm
    · show upd _ _ _ _ = _
      rw [upd_ne _ _ fun e => hk j (by omega) e.symm]
      exact h3 k fun i hi => hk i (by omega)
    · show upd _ _ _ _ = _
      by_cases e : f i = f j
      · rw [e, upd_same]
      · rw [upd_ne _ _ e]
        have : i ≠ j := fun q => e (by rw [q])
        exact h4 i (by omega)
/-- What columns of a matching cost at prices up to 0 is no less than what all columns do; it is as much exactly if those that are left cost nothing. -/
theorem cols_sum {can : Nat → Nat → Bool} {n m : Nat} {v : Nat → Int} {f : Nat → Nat} (hf : Mt can (fun i => i < m) n f) (hv : ∀ k, k < n → v k ≤ 0) :
    sumN v n ≤ sumN (fun i => v (f i)) m ∧ (sumN (fun i => v (f i)) m ≤ sumN v n → ∀ k, k < n → v k ≠ 0 → ∃ i, i < m ∧ f i = k) ∧ ((∀ k, k < n → v k ≠ 0 → ∃ i, i < m ∧ f i = k) → sumN (fun i => v (f i)) m = sumN v n) := by
  obtain ⟨h1, _, h3, h4⟩ := less_sum (v := v) hf m (Nat.le_refl _)
  have hl : ∀ k, k < n → less v f m k ≤ 0 := fun k hk => by
    by_cases h : ∃ i, i < m ∧ f i = k
    · obtain ⟨i, hi, rfl⟩ := h
      rw [h4 i hi]; exact Int.le_refl _
    · rw [h3 k fun i hi e => h ⟨i, hi, e⟩]; exact hv k hk
  have h0 : sumN (fun _ => (0 : Int)) n = 0 := sumN_zero fun _ _ => rfl
  refine ⟨?_, fun he k hk hne => ?_, fun h => ?_⟩
  · have := sumN_le hl
    rw [h0] at this; omega
  · have := sumN_eq (F := less v f m) (G := fun _ => 0) (n := n) hl (by rw [h0]; omega) k hk
    by_cases h : ∃ i, i < m ∧ f i = k
    · exact h
    · rw [h3 k fun i hi e => h ⟨i, hi, e⟩] at this; exact absurd this hne
  · have : sumN (less v f m) n = 0 := sumN_zero fun k hk => by
      by_cases hz : v k = 0
      · by_cases h : ∃ i, i < m ∧ f i = k
        · obtain ⟨i, hi, rfl⟩ := h; exact h4 i hi
        · rw [h3 k fun i hi e => h ⟨i, hi, e⟩]; exact hz
      · obtain ⟨i, hi, rfl⟩ := h k hk hz; exact h4 i hi
    omega
/-- Prices. -/
structure Fair (C : Nat → Nat → Int) (n m : Nat) (u v : Nat → Int) : Prop where
  feas : ∀ i k, i < m → k < n → 0 ≤ C i k → u i + v k ≤ C i k
  vneg : ∀ k, k < n → v k ≤ 0
def costOf (C : Nat → Nat → Int) (m : Nat) (f : Nat → Nat) : Int := sumN (fun i => C i (f i)) m
def priceOf (n m : Nat) (u v : Nat → Int) : Int := sumN u m + sumN v n
/-- A matching on exact prices, to which all columns of a price belong. -/
structure Tight (C : Nat → Nat → Int) (n m : Nat) (u v : Nat → Int) (f : Nat → Nat) : Prop where
  mt : Mt (may C) (fun i => i < m) n f
  eq : ∀ i, i < m → u i + v (f i) = C i (f i)
  all : ∀ k, k < n → v k ≠ 0 → ∃ i, i < m ∧ f i = k
theorem fair_le {C : Nat → Nat → Int} {n m : Nat} {u v : Nat → Int} {f : Nat → Nat} (p : Fair C n m u v) (hf : Mt (may C) (fun i => i < m) n f) : priceOf n m u v ≤ costOf C m f ∧ (costOf C m f ≤ priceOf n m u v → Tight C n m u v f) := by
  obtain ⟨h1, h2, _⟩ := cols_sum hf p.vneg
  have h3 : ∀ i, i < m → u i + v (f i) ≤ C i (f i) := fun i hi => p.feas i (f i) hi (hf.lt i hi) ((may_iff _ _ _).1 (hf.can i hi))
  have h4 := sumN_le h3
  rw [sumN_add] at h4
  refine ⟨by unfold priceOf costOf; omega, fun he => ?_⟩
  unfold priceOf costOf at he
  refine ⟨hf, fun i hi => ?_, h2 (by omega)⟩
  exact sumN_eq h3 (by rw [sumN_add]; omega) i hi
theorem tight_eq {C : Nat → Nat → Int} {n m : Nat} {u v : Nat → Int} {f : Nat → Nat} (p : Fair C n m u v) (t : Tight C n m u v f) : costOf C m f = priceOf n m u v := by
  have h1 := (cols_sum t.mt p.vneg).2.2 t.all
  unfold costOf priceOf
  rw [sumN_congr (G := fun i => u i + v (f i)) fun i hi => (t.eq i hi).symm, sumN_add]; omega
theorem pot_fair {C : Nat → Nat → Int} {n m : Nat} {V : Int} {u v ow : Nat → Int} (p : Pot C n m V u v ow) : Fair C n m u v ∧ ∃ f, Tight C n m u v f := by
  refine ⟨⟨p.feas, p.vneg⟩, ?_⟩
  have hc : ∀ i, ∃ k, i < m → k < n ∧ ow k = (i : Int) := fun i => by
    by_cases hi : i < m
    · obtain ⟨k, hk, _, e⟩ := p.own.one i hi
      exact ⟨k, fun _ => ⟨hk, e⟩⟩
    · exact ⟨0, fun a => absurd a hi⟩
  refine ⟨fun i => Classical.choose (hc i), ⟨fun i hi => (Classical.choose_spec (hc i) hi).1, fun i hi => ?_, fun i j hi hj e => ?_⟩, fun i hi => ?_, fun k hk hne => ?_⟩
  · obtain ⟨a, b⟩ := Classical.choose_spec (hc i) hi
    rcases p.own.val _ a trivial with e | ⟨i', e, _, e2⟩
    · omega
    · have : i' = i := by omega
      subst this; exact e2
  · have a := (Classical.choose_spec (hc i) hi).2
    have b := (Classical.choose_spec (hc j) hj).2
    simp only [e] at a; omega
  · obtain ⟨a, b⟩ := Classical.choose_spec (hc i) hi
    exact p.tight _ i a b
  · rcases p.own.val k hk trivial with e | ⟨i, e, hi, _⟩
    · exact absurd (p.free k hk e) hne
    · refine ⟨i, hi, ?_⟩
      obtain ⟨a, b⟩ := Classical.choose_spec (hc i) hi
      exact p.own.inj _ k i a hk trivial trivial b e
theorem filter_lt (p q : Nat → Bool) (n : Nat) (h : ∀ k, k < n → p k = true → q k = true) (k0 : Nat) (h0 : k0 < n) (h1 : p k0 = false) (h2 : q k0 = true) : ((List.range n).filter p).length < ((List.range n).filter q).length := by
  induction n with
  | zero => omega
  | succ n ih =>
    rw [List.range_succ, List.filter_append, List.filter_append, List.length_append, List.length_append]
    have le : ((List.range n).filter p).length ≤ ((List.range n).filter q).length := by
      have : ∀ m, m ≤ n → ((List.range m).filter p).length ≤ ((List.range m).filter q).length := fun m => by
        induction m with
        | zero => intro _; exact Nat.le_refl _
        | succ m ihm =>
          intro hm
          rw [List.range_succ, List.filter_append, List.filter_append, List.length_append, List.length_append]
          have := ihm (by omega)
          cases hp : p m
          · simp [hp]; omega
          · simp [hp, h m (by omega) hp]; omega
      exact this n (Nat.le_refl _)
    by_cases e : k0 = n
    · subst e
      simp [h1, h2]; omega
    · have := ih (fun k hk => h k (by omega)) (by omega)
      cases hp : p n
      · simp [hp]; omega
      · simp [hp, h n (by omega) hp]; omega
/-- Rows that can be matched, and columns that can: then all of these together. -/
theorem together {can : Nat → Nat → Bool} {R : Nat → Prop} {n : Nat} (req : Nat → Bool) (g : Nat → Nat) (hg : ∀ k, k < n → req k = true → R (g k) ∧ can (g k) k = true) (hi : ∀ k k', k < n → k' < n → req k = true → req k' = true → g k = g k' → k = k') :
    ∀ (d : Nat) (f : Nat → Nat), Mt can R n f → n - ((List.range n).filter fun k => req k && f (g k) == k).length ≤ d → ∃ f', Mt can R n f' ∧ ∀ k, k < n → req k = true → ∃ i, R i ∧ f' i = k := by
  intro d
  induction d with
  | zero =>
    intro f hf hd
    refine ⟨f, hf, fun k hk hr => ?_⟩
    have hfull : ((List.range n).filter fun k => req k && f (g k) == k).length = n := by
      have := List.length_filter_le (fun k => req k && f (g k) == k) (List.range n)
      rw [List.length_range] at this; omega
    have hall : ∀ x ∈ List.range n, (req x && f (g x) == x) = true := by
      rw [← List.length_filter_eq_length_iff, hfull, List.length_range]
    have := hall k (List.mem_range.2 hk)
    simp only [Bool.and_eq_true, beq_iff_eq] at this
    exact ⟨g k, (hg k hk hr).1, this.2⟩
  | succ d ih =>
    intro f hf hd
    by_cases h : ∀ k, k < n → req k = true → ∃ i, R i ∧ f i = k
    · exact ⟨f, hf, h⟩
    · obtain ⟨k, hk⟩ := Classical.not_forall.1 h
      simp only [Classical.not_imp] at hk
      obtain ⟨hk, hr, hno⟩ := hk
      obtain ⟨hR, hcan⟩ := hg k hk hr
      have hun : ∀ i, R i → f i ≠ k := fun i hi e => hno ⟨i, hi, e⟩
      refine ih (upd f (g k) k) ⟨fun i hi => ?_, fun i hi => ?_, fun i j hi hj e => ?_⟩ ?_
      · by_cases e : i = g k
        · subst e; rw [upd_same]; exact hk
        · rw [upd_ne _ _ e]; exact hf.lt i hi
      · by_cases e : i = g k
        · subst e; rw [upd_same]; exact hcan
        · rw [upd_ne _ _ e]; exact hf.can i hi
      · by_cases e1 : i = g k <;> by_cases e2 : j = g k
        · rw [e1, e2]
        · subst e1
          rw [upd_same, upd_ne _ _ e2] at e
          exact absurd e.symm (hun j hj)
        · subst e2
          rw [upd_same, upd_ne _ _ e1] at e
          exact absurd e (hun i hi)
        · rw [upd_ne _ _ e1, upd_ne _ _ e2] at e
          exact hf.inj i j hi hj e
      · have := filter_lt (fun x => req x && f (g x) == x) (fun x => req x && upd f (g k) k (g x) == x) n (fun x hx h => by
          simp only [Bool.and_eq_true, beq_iff_eq] at h ⊢
          refine ⟨h.1, ?_⟩
          by_cases e : g x = g k
          · have := hi x k hx hk h.1 hr e
            subst this; exact upd_same _ _ _
          · rw [upd_ne _ _ e]; exact h.2) k hk (by
          rw [Bool.eq_false_iff]; intro h
          simp only [Bool.and_eq_true, beq_iff_eq] at h
          exact hun _ hR h.2) (by simp [hr, upd_same])
        omega
end Go.Proofs.YtehdhbnbajfanaaGreat


/- Least ways found by going round until nothing gets less (the reference's way): plain laws; the conditions are named in each. -/
namespace Go.Proofs.YtehdhbnbajfanaaGreat
set_option linter.unusedSimpArgs false
set_option linter.unusedVariables false

/-- The column k is reached from the row r in t steps. -/
inductive Rch (n r : Nat) (ow f : Nat → Int) : Nat → Nat → Prop
  | base (k : Nat) : k < n → f k = (r : Int) → Rch n r ow f k 0
  | step (k k' t : Nat) : k < n → k' < n → 0 ≤ ow k' → f k = ow k' → Rch n r ow f k' t → Rch n r ow f k (t + 1)
theorem Rch.lt {n r : Nat} {ow f : Nat → Int} {k t : Nat} (h : Rch n r ow f k t) : k < n := by cases h <;> assumption
/-- What the labels say at any time. -/
structure Wy (C : Nat → Nat → Int) (n r : Nat) (v ow d f : Nat → Int) : Prop where
  lab : ∀ k, k < n → (f k = -1 ∧ d k = far) ∨ ((∃ t, Rch n r ow f k t) ∧ 0 ≤ f k ∧ d k < far)
  low : ∀ k, k < n → v k ≤ d k
  par : ∀ k k', k < n → k' < n → ∀ i : Nat, ow k' = (i : Int) → f k = (i : Int) → 0 ≤ C i k ∧ d k' - C i k' + C i k ≤ d k
  root : ∀ k, k < n → f k = (r : Int) → 0 ≤ C r k ∧ d k = C r k
  ini : ∀ k, k < n → 0 ≤ C r k → d k ≤ C r k
section
variable {C : Nat → Nat → Int} {n r : Nat} {V : Int} {u v ow d f : Nat → Int}
theorem Pot.row (p : Pot C n r V u v ow) {k : Nat} (hk : k < n) (h : 0 ≤ ow k) : ∃ i : Nat, ow k = (i : Int) ∧ i < r ∧ 0 ≤ C i k ∧ u i + v k = C i k := by
  rcases p.own.val k hk trivial with e | ⟨i, e, e2, e3⟩
  · omega
  · exact ⟨i, e, e2, (may_iff _ _ _).1 e3, p.tight k i hk e⟩
theorem Wy.start (p : Pot C n r V u v ow) (hC : ∀ k, k < n → C r k ≤ 1000000) : Wy C n r v ow (fun k => if 0 ≤ C r k then C r k else far) (fun k => if 0 ≤ C r k then (r : Int) else -1) := by
  refine ⟨fun k hk => ?_, fun k hk => ?_, fun k k' hk hk' i e1 e2 => ?_, fun k hk e => ?_, fun k hk h => ?_⟩
  · by_cases h : 0 ≤ C r k
    · refine .inr ⟨⟨0, .base k hk (by simp [h])⟩, by simp [h], ?_⟩
      have := hC k hk
      simp only [h, if_true]; unfold far; omega
    · exact .inl ⟨by simp [h], by simp [h]⟩
  · have := p.vneg k hk
    split
    · omega
    · unfold far; omega
  · exfalso
    obtain ⟨i', e3, h3, _⟩ := p.row hk' (by omega)
    split at e2 <;> omega
  · split at e
    · rename_i h; simp [h]
    · omega
  · simp [h]
theorem Wy.top (y : Wy C n r v ow d f) {k : Nat} (hk : k < n) : d k ≤ far := by
  rcases y.lab k hk with ⟨_, e⟩ | ⟨_, _, e⟩ <;> omega
/-- A label's way does not go over columns that are farther. -/
theorem Rch.keep (p : Pot C n r V u v ow) (y : Wy C n r v ow d f) {m : Nat} {o c : Int} {k t : Nat} (h : Rch n r ow f k t) : d k - v k < d m - v m → ∃ t, Rch n r ow (upd f m o) k t := by
  induction h with
  | base k hk e =>
    intro hlt
    have : k ≠ m := by rintro rfl; omega
    exact ⟨0, .base k hk (by rw [upd_ne _ _ this]; exact e)⟩
  | step k k' t hk hk' h0 e _ ih =>
    intro hlt
    have hne : k ≠ m := by rintro rfl; omega
    obtain ⟨i, e1, e2, e3, e4⟩ := p.row hk' h0
    obtain ⟨q1, q2⟩ := y.par k k' hk hk' i e1 (by rw [e, e1])
    have q3 := p.feas i k e2 hk q1
    obtain ⟨t', ht⟩ := ih (by omega)
    exact ⟨t' + 1, .step k k' t' hk hk' h0 (by rw [upd_ne _ _ hne]; exact e) ht⟩
theorem Rch.over {m : Nat} {o : Int} {k t : Nat} (hm : ∃ t, Rch n r ow (upd f m o) m t) (h : Rch n r ow f k t) : ∃ t, Rch n r ow (upd f m o) k t := by
  induction h with
  | base k hk e =>
    by_cases q : k = m
    · subst q; exact hm
    · exact ⟨0, .base k hk (by rw [upd_ne _ _ q]; exact e)⟩
  | step k k' t hk hk' h0 e _ ih =>
    by_cases q : k = m
    · subst q; exact hm
    · obtain ⟨t', ht⟩ := ih
      exact ⟨t' + 1, .step k k' t' hk hk' h0 (by rw [upd_ne _ _ q]; exact e) ht⟩
/-- A label gets less. -/
theorem Wy.less (p : Pot C n r V u v ow) (y : Wy C n r v ow d f) {k m o : Nat} (hk : k < n) (hm : m < n) (ho : ow k = (o : Int)) (hd : d k ≠ far) (hc : 0 ≤ C o m) (hl : d k - C o k + C o m < d m) :
    Wy C n r v ow (upd d m (d k - C o k + C o m)) (upd f m (o : Int)) := by
  obtain ⟨i, e1, e2, e3, e4⟩ := p.row hk (by omega)
  have : i = o := by omega
  subst this
  have hne : k ≠ m := by rintro rfl; omega
  have hkl := y.low k hk
  have hf := p.feas i m e2 hm hc
  have rk : ∃ t, Rch n r ow f k t := by
    rcases y.lab k hk with ⟨_, e⟩ | ⟨h, _⟩
    · exact absurd e hd
    · exact h
  have rm : ∃ t, Rch n r ow (upd f m (i : Int)) m t := by
    obtain ⟨t, ht⟩ := rk
    obtain ⟨t', ht'⟩ := ht.keep (c := 0) (o := (i : Int)) (m := m) p y (by omega)
    exact ⟨t' + 1, .step m k t' hm hk (by omega) (by rw [upd_same]; omega) ht'⟩
  have htop := y.top hm
  refine ⟨fun j hj => ?_, fun j hj => ?_, fun j k' hj hk' x e5 e6 => ?_, fun j hj e => ?_, fun j hj h => ?_⟩
  · by_cases q : j = m
    · subst q
      exact .inr ⟨rm, by rw [upd_same]; omega, by rw [upd_same]; omega⟩
    · rw [upd_ne _ _ q, upd_ne _ _ q]
      rcases y.lab j hj with a | ⟨⟨t, ht⟩, b⟩
      · exact .inl a
      · exact .inr ⟨ht.over rm, b⟩
  · by_cases q : j = m
    · subst q; rw [upd_same]; omega
    · rw [upd_ne _ _ q]; exact y.low j hj
  · have hk'd : upd d m (d k - C i k + C i m) k' ≤ d k' := by
      by_cases q : k' = m
      · subst q; rw [upd_same]; omega
      · rw [upd_ne _ _ q]; omega
    by_cases q : j = m
    · subst q
      rw [upd_same] at e6
      have : x = i := by omega
      subst this
      have : k' = k := p.own.inj k' k x hk' hk trivial trivial e5 e1
      subst this
      rw [upd_same, upd_ne _ _ hne]
      exact ⟨hc, Int.le_refl _⟩
    · rw [upd_ne _ _ q] at e6 ⊢
      obtain ⟨a, b⟩ := y.par j k' hj hk' x e5 e6
      exact ⟨a, by omega⟩
  · by_cases q : j = m
    · subst q; rw [upd_same] at e; omega
    · rw [upd_ne _ _ q] at e ⊢; exact y.root j hj e
  · by_cases q : j = m
    · subst q; rw [upd_same]; have := y.ini j hj h; omega
    · rw [upd_ne _ _ q]; exact y.ini j hj h
/-- Nothing gets less. -/
def Fix (C : Nat → Nat → Int) (n : Nat) (ow d : Nat → Int) : Prop := ∀ k, k < n → ∀ o : Nat, ow k = (o : Int) → d k ≠ far → ∀ m, m < n → 0 ≤ C o m → d m ≤ d k - C o k + C o m
/-- How many steps. -/
theorem Rch.uniq (p : Pot C n r V u v ow) {k t : Nat} (h : Rch n r ow f k t) : ∀ s, Rch n r ow f k s → s = t := by
  induction h with
  | base k hk e =>
    intro s hs
    cases hs with
    | base _ _ _ => rfl
    | step _ k' t _ hk' h0 e2 _ =>
      obtain ⟨i, e1, e3, _⟩ := p.row hk' h0
      omega
  | step k k' t hk hk' h0 e _ ih =>
    intro s hs
    obtain ⟨i, e1, e3, _⟩ := p.row hk' h0
    cases hs with
    | base _ _ e2 => omega
    | step _ k2 s' _ hk2 h02 e2 hs' =>
      have : k2 = k' := p.own.inj k2 k' i hk2 hk' trivial trivial (by omega) e1
      subst this
      rw [ih s' hs']
/-- The columns of S in an order in which a column's parent comes before it. -/
theorem in_order (p : Pot C n r V u v ow) (y : Wy C n r v ow d f) (S : Nat → Prop) (hS : ∀ k, S k → k < n ∧ d k ≠ far) (hcl : ∀ k k', S k → k' < n → 0 ≤ ow k' → f k = ow k' → S k') :
    ∃ ord : List Nat, ord.Nodup ∧ (∀ k, k ∈ ord ↔ S k) ∧ ∀ pre k post, ord = pre ++ k :: post → f k = (r : Int) ∨ ∃ k', k' ∈ pre ∧ k' < n ∧ 0 ≤ ow k' ∧ f k = ow k' := by
  classical
  have hr : ∀ k, S k → ∃ t, Rch n r ow f k t := fun k hk => by
    obtain ⟨h1, h2⟩ := hS k hk
    rcases y.lab k h1 with ⟨_, e⟩ | ⟨h, _⟩
    · exact absurd e h2
    · exact h
  let dep : Nat → Nat := fun k => if h : ∃ t, Rch n r ow f k t then Classical.choose h else 0
  have hdep : ∀ k, S k → Rch n r ow f k (dep k) := fun k hk => by
    have h := hr k hk
    show Rch n r ow f k (if h : ∃ t, Rch n r ow f k t then Classical.choose h else 0)
    rw [dif_pos h]
    exact Classical.choose_spec h
  let le : Nat → Nat → Bool := fun a b => decide (dep a ≤ dep b)
  let l := (List.range n).filter fun k => decide (S k)
  have hl : l.Nodup := List.nodup_range.filter _
  have hmem : ∀ k, k ∈ l ↔ S k := fun k => by
    simp only [l, List.mem_filter, List.mem_range, decide_eq_true_eq]
    exact ⟨fun h => h.2, fun h => ⟨(hS k h).1, h⟩⟩
  have hperm := List.mergeSort_perm l le
  have hsorted : (l.mergeSort le).Pairwise fun a b => le a b = true :=
    List.pairwise_mergeSort (fun a b c h1 h2 => by simp only [le, decide_eq_true_eq] at *; omega) (fun a b => by simp only [le, Bool.or_eq_true, decide_eq_true_eq]; omega) l
  refine ⟨l.mergeSort le, hperm.nodup_iff.2 hl, fun k => by rw [hperm.mem_iff]; exact hmem k, fun pre k post e => ?_⟩
  have hk : S k := (hmem k).1 (hperm.mem_iff.1 (by rw [e]; simp))
  have hd := hdep k hk
  cases hq : dep k with
  | zero =>
    rw [hq] at hd
    cases hd with
    | base _ _ e => exact .inl e
  | succ t =>
    rw [hq] at hd
    cases hd with
    | step _ k' _ hk1 hk' h0 e2 hs =>
      have hk'S := hcl k k' hk hk' h0 e2
      have : dep k' = t := Rch.uniq p hs _ (hdep k' hk'S)
      refine .inr ⟨k', ?_, hk', h0, e2⟩
      have hm : k' ∈ pre ++ k :: post := by rw [← e]; exact hperm.mem_iff.2 ((hmem k').2 hk'S)
      rw [e] at hsorted
      rcases List.mem_append.1 hm with h | h
      · exact h
      · rcases List.mem_cons.1 h with h | h
        · subst h; omega
        · have := (List.pairwise_append.1 hsorted).2.1
          have := (List.pairwise_cons.1 this).1 k' h
          simp only [le, decide_eq_true_eq] at this
          omega
/-- A label is not greater than the number of columns before it allows. -/
theorem in_bound (p : Pot C n r V u v ow) (y : Wy C n r v ow d f) (x : Fix C n ow d) (hC : ∀ i k, i ≤ r → k < n → C i k ≤ 1000000) {ord : List Nat} (hlt : ∀ k ∈ ord, k < n ∧ d k ≠ far)
    (ho : ∀ pre k post, ord = pre ++ k :: post → f k = (r : Int) ∨ ∃ k', k' ∈ pre ∧ k' < n ∧ 0 ≤ ow k' ∧ f k = ow k') : ∀ (s : Nat) (pre : List Nat) (k : Nat) (post : List Nat), pre.length = s → ord = pre ++ k :: post → d k ≤ (s + 1) * 1000000 := by
  intro s
  induction s using Nat.strongRecOn with
  | _ s ih =>
  intro pre k post hs e
  have hk := (hlt k (by rw [e]; simp)).1
  rcases ho pre k post e with h | ⟨k', h1, h2, h3, h4⟩
  · obtain ⟨a, b⟩ := y.root k hk h
    have := hC r k (Nat.le_refl _) hk
    omega
  · obtain ⟨i, e1, e2, e3, e4⟩ := p.row h2 h3
    obtain ⟨a, _⟩ := y.par k k' hk h2 i e1 (by omega)
    obtain ⟨pre1, post1, q⟩ := List.append_of_mem h1
    have hk'd := (hlt k' (by rw [e]; simp [h1])).2
    have h5 := ih pre1.length (by rw [← hs, q]; simp <;> omega) pre1 k' (post1 ++ k :: post) rfl (by rw [e, q]; simp)
    have h6 := x k' h2 i e1 hk'd k hk a
    have h7 := hC i k (by omega) hk
    have h8 : pre1.length + 1 ≤ s := by rw [← hs, q]; simp <;> omega
    omega
/-- The search has ended at the free column k0, the nearest one. -/
theorem Wy.fin (p : Pot C n r V u v ow) (y : Wy C n r v ow d f) (x : Fix C n ow d) (hC : ∀ i k, i ≤ r → k < n → C i k ≤ 1000000) {k0 : Nat} (hk0 : k0 < n) (hfree : ow k0 = -1) (h0 : 0 ≤ f k0)
    (hmin : ∀ k, k < n → ow k = -1 → 0 ≤ f k → d k0 ≤ d k) :
    ∃ ord frm, Fin C n r u v ow (fun k => d k - v k) frm ord k0 ∧ ∀ k, k ∈ ord ∨ k = k0 → (f k = (r : Int) ∧ frm k = -1) ∨ ∃ k', k' < n ∧ 0 ≤ ow k' ∧ f k = ow k' ∧ frm k = (k' : Int) := by
  classical
  have lab0 : d k0 < far := by
    rcases y.lab k0 hk0 with ⟨e, _⟩ | ⟨_, _, e⟩
    · omega
    · exact e
  have v0 := p.free k0 hk0 hfree
  have ur := p.zero r (Nat.le_refl _)
  let frm : Nat → Int := fun k => if h : ∃ k', k' < n ∧ 0 ≤ ow k' ∧ f k = ow k' then ((Classical.choose h : Nat) : Int) else -1
  have hfrm : ∀ k, k < n → d k ≠ far → (f k = (r : Int) ∧ frm k = -1) ∨ ∃ k', k' < n ∧ 0 ≤ ow k' ∧ f k = ow k' ∧ frm k = (k' : Int) := fun k hk hd => by
    by_cases h : ∃ k', k' < n ∧ 0 ≤ ow k' ∧ f k = ow k'
    · refine .inr ⟨Classical.choose h, (Classical.choose_spec h).1, (Classical.choose_spec h).2.1, (Classical.choose_spec h).2.2, ?_⟩
      show (if h : ∃ k', k' < n ∧ 0 ≤ ow k' ∧ f k = ow k' then ((Classical.choose h : Nat) : Int) else -1) = _
      rw [dif_pos h]
    · refine .inl ⟨?_, by show (if h : ∃ k', k' < n ∧ 0 ≤ ow k' ∧ f k = ow k' then ((Classical.choose h : Nat) : Int) else -1) = _; rw [dif_neg h]⟩
      rcases y.lab k hk with ⟨_, e⟩ | ⟨⟨t, ht⟩, _⟩
      · exact absurd e hd
      · cases ht with
        | base _ _ e => exact e
        | step _ k' t _ hk' h1 e _ => exact absurd ⟨k', hk', h1, e⟩ h
  -- the parent of a reached column
  have par : ∀ k k', k < n → d k ≠ far → k' < n → 0 ≤ ow k' → f k = ow k' → d k' ≠ far ∧ d k' - v k' ≤ d k - v k ∧ ∃ i : Nat, ow k' = (i : Int) ∧ 0 ≤ C i k ∧ d k - v k = d k' - v k' + (C i k - u i - v k) := fun k k' hk hd hk' h1 e => by
    obtain ⟨i, e1, e2, e3, e4⟩ := p.row hk' h1
    obtain ⟨q1, q2⟩ := y.par k k' hk hk' i e1 (by omega)
    have q3 := p.feas i k e2 hk q1
    have q4 := y.top hk
    have q7 : d k' ≠ far := by
      rcases y.lab k hk with ⟨_, e5⟩ | ⟨⟨t, ht⟩, _⟩
      · exact absurd e5 hd
      · cases ht with
        | base _ _ e5 => omega
        | step _ k2 t _ hk2 h2 e5 ht2 =>
          have : k2 = k' := p.own.inj k2 k' i hk2 hk' trivial trivial (by omega) e1
          subst this
          rcases y.lab k2 hk2 with ⟨e6, _⟩ | ⟨_, _, e6⟩
          · cases ht2 with
            | base _ _ e7 => omega
            | step _ k3 _ _ hk3 h3 e7 _ => omega
          · omega
    have q8 := x k' hk' i e1 q7 k hk q1
    exact ⟨q7, by omega, i, e1, q1, by omega⟩
  let S : Nat → Prop := fun k => k < n ∧ 0 ≤ ow k ∧ d k ≠ far ∧ d k - v k ≤ d k0 - v k0
  obtain ⟨ord, hn, hm, ho⟩ := in_order p y S (fun k h => ⟨h.1, h.2.2.1⟩) fun k k' h hk' h1 e => by
    obtain ⟨a, b, _⟩ := par k k' h.1 h.2.2.1 hk' h1 e
    exact ⟨hk', h1, a, by have := h.2.2.2; omega⟩
  have hS : ∀ k, k ∈ ord → S k := fun k hk => (hm k).1 hk
  have hk0o : k0 ∉ ord := fun h => by have := (hS k0 h).2.1; omega
  have hlen : ord.length + 1 ≤ n := by
    have hn2 : (ord ++ [k0]).Nodup := by
      rw [List.nodup_append]
      exact ⟨hn, by simp, fun a ha b hb e => by simp at hb; subst hb; subst e; exact hk0o ha⟩
    have := ord_len hn2 fun k hk => by
      rcases List.mem_append.1 hk with hk | hk
      · exact (hS k hk).1
      · simp at hk; subst hk; exact hk0
    simpa using this
  have bnd := in_bound p y x hC (fun k hk => ⟨(hS k hk).1, (hS k hk).2.2.1⟩) ho
  have parOf : ∀ k, k < n → d k ≠ far → ∀ P : Nat → Prop, (∀ k', k' < n → 0 ≤ ow k' → f k = ow k' → P k') → Par C u v ow r (fun k => d k - v k) frm P k := fun k hk hd P hP => by
    rcases hfrm k hk hd with ⟨e1, e2⟩ | ⟨k', h1, h2, h3, h4⟩
    · obtain ⟨a, b⟩ := y.root k hk e1
      exact .inl ⟨e2, a, by simp only; omega⟩
    · obtain ⟨_, _, i, a, b, c⟩ := par k k' hk hd h1 h2 h3
      exact .inr ⟨k', i, hP k' h1 h2 h3, h4, a, b, c⟩
  refine ⟨ord, frm, ⟨hn, fun k hk => ⟨(hS k hk).1, (hS k hk).2.1⟩, hk0, hk0o, hfree, fun k hk => ?_, fun k hk hno => ?_, ?_, fun a dx t k hk hc => ?_, ?_, fun pre k post e => ?_, ?_⟩, fun k hk => ?_⟩
  · have := y.low k (hS k hk).1
    exact ⟨by omega, (hS k hk).2.2.2⟩
  · by_cases h1 : ow k = -1
    · have := p.free k hk h1
      rcases y.lab k hk with ⟨_, e⟩ | ⟨_, e, _⟩
      · omega
      · have := hmin k hk h1 e; omega
    · by_cases h2 : d k = far
      · have := p.vneg k hk; omega
      · have h3 : 0 ≤ ow k := by
          rcases p.own.val k hk trivial with a | ⟨i, a, _⟩
          · exact absurd a h1
          · omega
        have : ¬ S k := fun h => hno ((hm k).2 h)
        have : ¬ d k - v k ≤ d k0 - v k0 := fun h => this ⟨hk, h3, h2, h⟩
        omega
  · have := y.low k0 hk0; omega
  · rcases t with ⟨rfl, rfl⟩ | ⟨k', hk', e, rfl⟩
    · have := y.ini k hk hc
      omega
    · obtain ⟨a1, a2, a3, _⟩ := hS k' hk'
      have h1 := x k' a1 a e a3 k hk hc
      have h2 := p.tight k' a a1 e
      simp only; omega
  · exact parOf k0 hk0 (by omega) _ fun k' h1 h2 h3 => by
      obtain ⟨a, b, _⟩ := par k0 k' hk0 (by omega) h1 h2 h3
      exact (hm k').2 ⟨h1, h2, a, b⟩
  · obtain ⟨a1, a2, a3, a4⟩ := hS k (by rw [e]; simp)
    refine parOf k a1 a3 _ fun k' h1 h2 h3 => ?_
    rcases ho pre k post e with q | ⟨k2, q1, q2, q3, q4⟩
    · obtain ⟨i, e1, e2, _⟩ := p.row h1 h2
      omega
    · obtain ⟨i, e1, e2, _⟩ := p.row h1 h2
      have : k2 = k' := p.own.inj k2 k' i q2 h1 trivial trivial (by omega) e1
      subst this; exact q1
  · show d k0 - v k0 ≤ _
    have hb : d k0 ≤ (ord.length + 1) * 1000000 := by
      rcases hfrm k0 hk0 (by omega) with ⟨e1, e2⟩ | ⟨k', h1, h2, h3, h4⟩
      · obtain ⟨a, b⟩ := y.root k0 hk0 e1
        have := hC r k0 (Nat.le_refl _) hk0
        omega
      · obtain ⟨a, b, i, e1, e2, _⟩ := par k0 k' hk0 (by omega) h1 h2 h3
        have hmem : k' ∈ ord := (hm k').2 ⟨h1, h2, a, b⟩
        obtain ⟨pre1, post1, q⟩ := List.append_of_mem hmem
        have h5 := bnd pre1.length pre1 k' post1 rfl q
        have h6 := x k' h1 i e1 a k0 hk0 e2
        obtain ⟨i', g1, g2, g3, _⟩ := p.row h1 h2
        have : i' = i := by omega
        subst this
        have h7 := hC i' k0 (by omega) hk0
        have h8 : pre1.length + 1 ≤ ord.length := by rw [q]; simp
        omega
    have : ((ord.length + 1 : Nat) : Int) ≤ n := by omega
    omega
  · rcases hk with hk | rfl
    · exact hfrm k (hS k hk).1 (hS k hk).2.2.1
    · exact hfrm k hk0 (by omega)
/-- No free column is reached: the rows up to r have no matching. -/
theorem Wy.none (p : Pot C n r V u v ow) (y : Wy C n r v ow d f) (x : Fix C n ow d) (hC : ∀ i k, i ≤ r → k < n → C i k ≤ 1000000) (hn : n ≤ 1000) (hno : ∀ k, k < n → ow k = -1 → f k < 0) (R : Nat → Prop) (hR : ∀ i, i ≤ r → R i) : ¬ Mtd (may C) R n := by
  classical
  rintro ⟨g, hg⟩
  let S : Nat → Prop := fun k => k < n ∧ d k ≠ far
  have hSo : ∀ k, S k → ∃ i : Nat, ow k = (i : Int) ∧ i < r ∧ 0 ≤ C i k ∧ u i + v k = C i k := fun k h => by
    refine p.row h.1 ?_
    rcases p.own.val k h.1 trivial with a | ⟨i, a, _⟩
    · have := hno k h.1 a
      rcases y.lab k h.1 with ⟨_, e⟩ | ⟨_, e, _⟩
      · exact absurd e h.2
      · omega
    · omega
  obtain ⟨ord, hnd, hm, ho⟩ := in_order p y S (fun k h => h) fun k k' h hk' h1 e => by
    refine ⟨hk', fun e6 => ?_⟩
    obtain ⟨i, e1, e2, e3, e4⟩ := p.row hk' h1
    obtain ⟨q1, q2⟩ := y.par k k' h.1 hk' i e1 (by omega)
    rcases y.lab k h.1 with ⟨_, e5⟩ | ⟨⟨t, ht⟩, _, e5⟩
    · exact absurd e5 h.2
    · cases ht with
      | base _ _ e5 => omega
      | step _ k2 t _ hk2 h2 e5 ht2 =>
        have : k2 = k' := p.own.inj k2 k' i hk2 hk' trivial trivial (by omega) e1
        subst this
        rcases y.lab k2 hk2 with ⟨e8, _⟩ | ⟨_, _, e8⟩
        · cases ht2 with
          | base _ _ e7 => omega
          | step _ k3 _ _ hk3 h3 e7 _ => omega
        · omega
  have hlen := ord_len hnd fun k hk => ((hm k).1 hk).1
  have bnd : ∀ k, S k → d k ≤ n * 1000000 := fun k hk => by
    obtain ⟨pre, post, e⟩ := List.append_of_mem ((hm k).2 hk)
    have := in_bound p y x hC (fun k hk => (hm k).1 hk) ho pre.length pre k post rfl e
    have h8 : pre.length + 1 ≤ ord.length := by rw [e]; simp
    omega
  -- what the rows can get is reached
  have reach : ∀ i, (i = r ∨ ∃ k, S k ∧ ow k = (i : Int)) → ∀ m, m < n → 0 ≤ C i m → S m := fun i hi m hm hc => by
    refine ⟨hm, fun e => ?_⟩
    rcases hi with rfl | ⟨k, hk, e1⟩
    · have := y.ini m hm hc
      have := hC i m (Nat.le_refl _) hm
      unfold far at e; omega
    · have h1 := x k hk.1 i e1 hk.2 m hm hc
      obtain ⟨i', e2, e3, e4, _⟩ := hSo k hk
      have : i' = i := by omega
      subst this
      have h2 := hC i' m (by omega) hm
      have h3 := bnd k hk
      unfold far at e; omega
  let rowOf : Nat → Nat := fun k => (ow k).toNat
  have hrow : ∀ k, k ∈ ord → ow k = ((rowOf k : Nat) : Int) ∧ rowOf k < r := fun k hk => by
    obtain ⟨i, e, e2, _⟩ := hSo k ((hm k).1 hk)
    simp only [rowOf]; omega
  have hnd2 : (r :: ord.map rowOf).Nodup := by
    rw [List.nodup_cons]
    refine ⟨fun h => ?_, ?_⟩
    · obtain ⟨k, hk, e⟩ := List.mem_map.1 h
      have := (hrow k hk).2; omega
    · rw [List.nodup_iff_pairwise_ne] at hnd ⊢
      rw [List.pairwise_map]
      refine hnd.imp_of_mem fun {a b} ha hb hne e => hne ?_
      exact p.own.inj a b (rowOf a) ((hm a).1 ha).1 ((hm b).1 hb).1 trivial trivial (hrow a ha).1 (by rw [e]; exact (hrow b hb).1)
  have hin : ∀ i ∈ r :: ord.map rowOf, R i ∧ (i = r ∨ ∃ k, S k ∧ ow k = (i : Int)) := fun i hi => by
    rcases List.mem_cons.1 hi with rfl | h
    · exact ⟨hR _ (Nat.le_refl _), .inl rfl⟩
    · obtain ⟨k, hk, e⟩ := List.mem_map.1 h
      obtain ⟨h1, h2⟩ := hrow k hk
      exact ⟨hR _ (by omega), .inr ⟨k, (hm k).1 hk, by rw [h1, e]⟩⟩
  have := pigeon (r :: ord.map rowOf) ord g hnd2 (fun i hi j hj e => hg.inj i j (hin i hi).1 (hin j hj).1 e) fun i hi => by
    obtain ⟨h1, h2⟩ := hin i hi
    exact (hm _).2 (reach i h2 _ (hg.lt i h1) ((may_iff _ _ _).1 (hg.can i h1)))
  simp at this
  omega
/-- Prices behind a search, made. -/
def vNew (v ow dist : Nat → Int) (base : Int) : List Nat → Nat → Int
  | [] => v
  | k :: l => upd (vNew v ow dist base l) k (v k - (base - dist k))
def uNew (u ow dist : Nat → Int) (r : Nat) (base : Int) : List Nat → Nat → Int
  | [] => upd u r (u r + base)
  | k :: l => upd (uNew u ow dist r base l) (ow k).toNat (u (ow k).toNat + (base - dist k))
theorem vNew_get {dist : Nat → Int} {base : Int} : ∀ (l : List Nat), l.Nodup → ∀ k, vNew v ow dist base l k = if k ∈ l then v k - (base - dist k) else v k
  | [], _, k => by simp [vNew]
  | x :: l, h, k => by
    rw [List.nodup_cons] at h
    have ih := vNew_get (dist := dist) (base := base) l h.2 k
    show upd _ x _ k = _
    by_cases e : k = x
    · subst e; rw [upd_same]; simp
    · rw [upd_ne _ _ e, ih]; simp [e]
/-- The prices exist, and together they are greater by what the way costs. -/
theorem new_prices (p : Pot C n r V u v ow) {dist : Nat → Int} {base : Int} {ord : List Nat} (hnd : ord.Nodup) (hlt : ∀ k ∈ ord, k < n ∧ 0 ≤ ow k) :
    ∃ u' v', NewP n r u v ow dist ord base u' v' ∧ priceOf n (r + 1) u' v' = priceOf n r u v + base := by
  have hrow : ∀ k, k ∈ ord → ow k = (((ow k).toNat : Nat) : Int) ∧ (ow k).toNat < r := fun k hk => by
    obtain ⟨i, e, e2, _⟩ := p.row (hlt k hk).1 (hlt k hk).2
    omega
  have uget : ∀ l : List Nat, l.Nodup → (∀ k ∈ l, k ∈ ord) → (uNew u ow dist r base l r = u r + base) ∧ (∀ k ∈ l, uNew u ow dist r base l (ow k).toNat = u (ow k).toNat + (base - dist k)) ∧ ∀ i, i ≠ r → (∀ k ∈ l, ow k ≠ (i : Int)) → uNew u ow dist r base l i = u i := by
    intro l
    induction l with
    | nil =>
      intro _ _
      exact ⟨upd_same _ _ _, fun k hk => by simp at hk, fun i hi _ => upd_ne _ _ hi⟩
    | cons x l ih =>
      intro h hs
      rw [List.nodup_cons] at h
      obtain ⟨h1, h2, h3⟩ := ih h.2 fun k hk => hs k (by simp [hk])
      obtain ⟨x1, x2⟩ := hrow x (hs x (by simp))
      refine ⟨?_, fun k hk => ?_, fun i hi ho => ?_⟩
      · show upd _ _ _ r = _
        rw [upd_ne _ _ (by omega)]; exact h1
      · show upd _ _ _ _ = _
        rcases List.mem_cons.1 hk with rfl | hk2
        · rw [upd_same]
        · have : (ow k).toNat ≠ (ow x).toNat := fun e => by
            have hkx : k = x := p.own.inj k x (ow k).toNat (hlt k (hs k hk)).1 (hlt x (hs x (by simp))).1 trivial trivial (hrow k (hs k hk)).1 (by rw [e]; exact x1)
            subst hkx; exact h.1 hk2
          rw [upd_ne _ _ this]; exact h2 k hk2
      · show upd _ _ _ i = _
        have : i ≠ (ow x).toNat := fun e => ho x (by simp) (by rw [x1, e])
        rw [upd_ne _ _ this]; exact h3 i hi fun k hk => ho k (by simp [hk])
  have sums : ∀ l : List Nat, l.Nodup → (∀ k ∈ l, k ∈ ord) → sumN (uNew u ow dist r base l) (r + 1) + sumN (vNew v ow dist base l) n = sumN u (r + 1) + sumN v n + base := by
    intro l
    induction l with
    | nil =>
      intro _ _
      show sumN (upd u r (u r + base)) (r + 1) + sumN v n = _
      rw [sumN_upd _ _ _ _ (by omega)]; omega
    | cons x l ih =>
      intro h hs
      rw [List.nodup_cons] at h
      have i1 := ih h.2 fun k hk => hs k (by simp [hk])
      obtain ⟨_, _, g3⟩ := uget l h.2 fun k hk => hs k (by simp [hk])
      obtain ⟨x1, x2⟩ := hrow x (hs x (by simp))
      show sumN (upd _ _ _) (r + 1) + sumN (upd _ _ _) n = _
      rw [sumN_upd _ _ _ _ (by omega), sumN_upd _ _ _ _ (hlt x (hs x (by simp))).1, vNew_get l h.2 x, if_neg h.1, g3 _ (by omega) fun k hk e => by
        have hkx : k = x := p.own.inj k x (ow x).toNat (hlt k (hs k (by simp [hk]))).1 (hlt x (hs x (by simp))).1 trivial trivial e x1
        subst hkx; exact h.1 hk]
      omega
  obtain ⟨g1, g2, g3⟩ := uget ord hnd fun k hk => hk
  refine ⟨uNew u ow dist r base ord, vNew v ow dist base ord, ⟨fun k hk => vNew_get ord hnd k, g1, fun k hk i e => ?_, fun i hi ho => g3 i hi ho⟩, ?_⟩
  · have := g2 k hk
    rw [e] at this
    simpa using this
  · have := sums ord hnd fun k hk => hk
    have h0 := p.zero r (Nat.le_refl _)
    have e1 : sumN u (r + 1) = sumN u r + u r := rfl
    unfold priceOf
    omega
end
end Go.Proofs.YtehdhbnbajfanaaGreat


/- Rows of pairs (the reference's steps) in memory, and 'held': walked; the conditions are named in each. -/
namespace Go.Proofs.YtehdhbnbajfanaaGreat
set_option linter.unusedSimpArgs false
set_option linter.unusedVariables false
open Go.RowKit Go.Sort Go.Shelf

/-- Block b holds n pairs; pair k is d k and f k. -/
def RowD (w : World) (b n : Nat) (d f : Nat → Int) : Prop := ∃ arr : Array Value, w.heap[b]? = some (.cells arr 104 (0, 0)) ∧ arr.size = n * 2 ∧ ∀ k, k < n → arr[k * 2]? = some (.int .i64 (d k)) ∧ arr[k * 2 + 1]? = some (.int .i64 (f k))
theorem RowD.lt {w : World} {b n : Nat} {d f : Nat → Int} (r : RowD w b n d f) : b < w.heap.size := by obtain ⟨arr, e, _⟩ := r; exact lt_blk e
theorem RowD.of_eq {w w' : World} {b n : Nat} {d f : Nat → Int} (r : RowD w b n d f) (e : w'.heap[b]? = w.heap[b]?) : RowD w' b n d f := by
  obtain ⟨arr, h1, h2⟩ := r
  exact ⟨arr, e.trans h1, h2⟩
theorem RowD.below {w w' : World} {b n : Nat} {d f : Nat → Int} (r : RowD w b n d f) (hb : Below w.heap.size w w') : RowD w' b n d f := r.of_eq (hb.block b r.lt)
theorem RowD.cellD {w : World} {b n : Nat} {d f : Nat → Int} (r : RowD w b n d f) {k : Nat} (hk : k < n) : w.cell? ⟨b, k * 2, none⟩ = some (.int .i64 (d k)) := by
  obtain ⟨arr, e, _, g⟩ := r
  simp [World.cell?, e, (g k hk).1]
theorem RowD.cellF {w : World} {b n : Nat} {d f : Nat → Int} (r : RowD w b n d f) {k : Nat} (hk : k < n) : w.cell? ⟨b, k * 2 + 1, none⟩ = some (.int .i64 (f k)) := by
  obtain ⟨arr, e, _, g⟩ := r
  simp [World.cell?, e, (g k hk).2]
theorem RowD.there {w : World} {b n : Nat} {d f : Nat → Int} (r : RowD w b n d f) {k : Nat} (hk : k < n) : w.there b (k * 2) 2 := fun j hj => by
  refine ⟨?_, ?_⟩
  · match j, hj with
    | 0, _ => rw [Nat.add_zero, r.cellD hk]; rfl
    | 1, _ => rw [r.cellF hk]; rfl
  · obtain ⟨arr, e, _⟩ := r
    simp [World.frozen?, e]
theorem RowD.frozen {w : World} {b n : Nat} {d f : Nat → Int} (r : RowD w b n d f) (j : Nat) : w.frozen? ⟨b, j, none⟩ = false := by
  obtain ⟨arr, e, _⟩ := r
  simp [World.frozen?, e]
theorem RowD.half {w : World} {b n : Nat} {d f : Nat → Int} (r : RowD w b n d f) {k : Nat} (hk : k < n) (x : Int) : RowD (w.setCell ⟨b, k * 2, none⟩ (.int .i64 x)) b n (upd d k x) f := by
  obtain ⟨arr, h1, h2, h3⟩ := r
  refine ⟨arr.setIfInBounds (k * 2) (.int .i64 x), heap_setCell_same _ _ _ _ _ _ h1, by simp [h2], fun j hj => ?_⟩
  obtain ⟨g1, g2⟩ := h3 j hj
  by_cases e : j = k
  · subst e
    rw [upd_same]
    exact ⟨by rw [Array.getElem?_setIfInBounds_self_of_lt (by omega)], by rw [Array.getElem?_setIfInBounds_ne (by omega)]; exact g2⟩
  · rw [upd_ne _ _ e]
    exact ⟨by rw [Array.getElem?_setIfInBounds_ne (by omega)]; exact g1, by rw [Array.getElem?_setIfInBounds_ne (by omega)]; exact g2⟩
theorem RowD.congr {w : World} {b n : Nat} {d f d' f' : Nat → Int} (r : RowD w b n d f) (e : ∀ k, k < n → d k = d' k ∧ f k = f' k) : RowD w b n d' f' := by
  obtain ⟨arr, h1, h2, h3⟩ := r
  exact ⟨arr, h1, h2, fun k hk => by rw [← (e k hk).1, ← (e k hk).2]; exact h3 k hk⟩
theorem setCells2 (w : World) (b o : Nat) (x y : Value) : w.setCells b o [x, y] = (w.setCell ⟨b, o, none⟩ x).setCell ⟨b, o + 1, none⟩ y := rfl
theorem RowD.set {w : World} {b n : Nat} {d f : Nat → Int} (r : RowD w b n d f) {k : Nat} (hk : k < n) (x y : Int) : RowD (w.setCells b (k * 2) [.int .i64 x, .int .i64 y]) b n (upd d k x) (upd f k y) := by
  obtain ⟨arr, h1, h2, h3⟩ := r
  refine ⟨(arr.setIfInBounds (k * 2) (.int .i64 x)).setIfInBounds (k * 2 + 1) (.int .i64 y), ?_, by simp [h2], fun j hj => ?_⟩
  · rw [setCells2]
    exact heap_setCell_same _ _ _ _ _ _ (heap_setCell_same _ _ _ _ _ _ h1)
  · by_cases e : j = k
    · subst e
      rw [upd_same, upd_same]
      refine ⟨?_, ?_⟩
      · rw [Array.getElem?_setIfInBounds_ne (by omega), Array.getElem?_setIfInBounds_self_of_lt (by omega)]
      · rw [Array.getElem?_setIfInBounds_self_of_lt (by simp; omega)]
    · rw [upd_ne _ _ e, upd_ne _ _ e]
      obtain ⟨g1, g2⟩ := h3 j hj
      refine ⟨?_, ?_⟩
      · rw [Array.getElem?_setIfInBounds_ne (by omega), Array.getElem?_setIfInBounds_ne (by omega)]; exact g1
      · rw [Array.getElem?_setIfInBounds_ne (by omega), Array.getElem?_setIfInBounds_ne (by omega)]; exact g2
theorem RowD.set2 {w : World} {b n : Nat} {d f : Nat → Int} (r : RowD w b n d f) {k : Nat} (hk : k < n) (x y : Int) : RowD ((w.setCell ⟨b, k * 2, none⟩ (.int .i64 x)).setCell ⟨b, k * 2 + 1, none⟩ (.int .i64 y)) b n (upd d k x) (upd f k y) := r.set hk x y
theorem below_set2 {B b : Nat} {w w' : World} (hb : Below B w w') (hB : B ≤ b) (o : Nat) (x y : Value) : Below B w ((w'.setCell ⟨b, o, none⟩ x).setCell ⟨b, o + 1, none⟩ y) :=
  below_set (below_set hb (p := ⟨b, o, none⟩) hB x) (p := ⟨b, o + 1, none⟩) hB y
theorem RowD.made (w : World) (n : Nat) : RowD (w.alloc (.cells (madeCells #[.int .i64 0, .int .i64 0] (n * 2)) 104)) w.heap.size n (fun _ => 0) (fun _ => 0) := by
  refine ⟨_, heap_alloc_new w _, size_madeCells _ _, fun k hk => ⟨?_, ?_⟩⟩
  · have : k * 2 % 2 = 0 := by omega
    simp [madeCells, show k * 2 < n * 2 by omega, this]
  · have : (k * 2 + 1) % 2 = 1 := by omega
    simp [madeCells, show k * 2 + 1 < n * 2 by omega, this]
theorem below_setCells {B b : Nat} {w w' : World} (hb : Below B w w') (hB : B ≤ b) (o : Nat) (x y : Value) : Below B w (w'.setCells b o [x, y]) := by
  rw [setCells2]
  exact below_set (below_set hb (p := ⟨b, o, none⟩) hB x) (p := ⟨b, o + 1, none⟩) hB y
theorem make_steps (n : Nat) (hn : n ≤ 200) (w : World) : (Instr.makeSlice 101 (.int .i64 (n : Int)) (.int .i64 (n : Int))).run Tryz.prog w = .ok (.slice (some ⟨w.heap.size, 0, none⟩) n n) (w.alloc (.cells (madeCells #[.int .i64 0, .int .i64 0] (n * 2)) 104)) := by
  have hinfo : (Tryz.prog.info? 104).map (fun i => (i.zero, i.size, i.bytes)) = some (some (.agg #[.int .i64 0, .int .i64 0]), 2, 16) := by kernel_rfl
  obtain ⟨i, hi, hzz⟩ := Option.map_eq_some_iff.1 hinfo
  simp only [Prod.mk.injEq] at hzz
  obtain ⟨hz, hs, hb⟩ := hzz
  have hr := run_make (P := Tryz.prog) w 101 104 i _ Tryz.underlying101 hi hz .i64 .i64 n n (by omega) (Int.le_refl _) (by rw [hb]; omega) (by omega)
  simp only [Int.toNat_natCast, hs] at hr
  exact hr
/-- An owners' list in memory: there may be no column. -/
def OwnC (w : World) (a : Option Addr) (n : Nat) (ow : Nat → Int) : Prop := ∀ k, k < n → ∃ b, a = some ⟨b, 0, none⟩ ∧ RowC w b n ow
theorem OwnC.below {w w' : World} {a : Option Addr} {n : Nat} {ow : Nat → Int} (o : OwnC w a n ow) (hb : Below w.heap.size w w') : OwnC w' a n ow := fun k hk => by
  obtain ⟨b, e, r⟩ := o k hk
  exact ⟨b, e, r.below hb⟩
/-- Which column a row holds. -/
def HeldPost (n : Nat) (ow : Nat → Int) (row : Int) (w : World) (e : Ending) (w' : World) : Prop :=
  ∃ x : Int, e = .returned (.int .i64 x) ∧ ((x = -1 ∧ ∀ k, k < n → ow k ≠ row) ∨ ∃ k : Nat, k < n ∧ x = k ∧ ow k = row) ∧ w = w'
set_option maxHeartbeats 2000000 in
theorem held_any (b n cap : Nat) (ow : Nat → Int) (row : Int) (w : World) (hn : n ≤ 200) (hr : RowC w b n ow) :
    Calls Tryz.prog 74 #[.slice (some ⟨b, 0, none⟩) n cap, .int .i64 row] w (HeldPost n ow row w) := by
  have HR := Lib.hid hr; clear hr
  go_enter Tryz.func74, Tryz.ntmps74
  go_wp2
  go_loopw [5] (fun i wr => ∃ k : Nat, k ≤ n ∧ i = .int .i64 k ∧ (∀ j, j < k → ow j ≠ row) ∧ w = wr) (fun i _ => n - (intOf i).toNat)
  case atStart => exact ⟨0, Nat.zero_le _, rfl, fun j hj => by omega, rfl⟩
  case round =>
    obtain ⟨k, hk, rfl, hall, rfl⟩ := hrel
    have HA := Lib.hid hall; clear hall
    by_cases hlt : k < n
    · have g0 := HR.out.cell hlt
      generalize hX : ow k = X at *
      have HX := Lib.hid hX; clear hX
      by_cases he : X = row
      · have hb1 : (X == row) = true := by simpa using he
        have HE := Lib.hid he; clear he
        go_wp2
        go_ret
        exact ⟨k, rfl, .inr ⟨k, hlt, rfl, by rw [HX.out]; exact HE.out⟩, rfl⟩
      · have hb1 : (X == row) = false := by simpa using he
        have HE := Lib.hid he; clear he
        go_wp2
        go_roundw
        case rel => exact ⟨k + 1, by omega, by go_num, fun j hj => by
          by_cases e : j = k
          · subst e; rw [HX.out]; exact HE.out
          · exact HA.out j (by omega), trivial⟩
        case measure => simp [intOf]; omega
    · go_wp2
      go_ret
      exact ⟨-1, rfl, .inl ⟨rfl, fun j hj => HA.out j (by omega)⟩, rfl⟩
end Go.Proofs.YtehdhbnbajfanaaGreat


/- The reference's least ways (ways): walked, under prices that prove the rows before; the conditions are named. -/
namespace Go.Proofs.YtehdhbnbajfanaaGreat
set_option linter.unusedSimpArgs false
set_option linter.unusedVariables false
open Go.RowKit Go.Sort Go.Shelf

/-- How far all labels are together, read out of memory. -/
def dOf (w : World) (b k : Nat) : Int := match w.cell? ⟨b, k * 2, none⟩ with
  | some (.int _ x) => x
  | _ => 0
theorem RowD.dOf {w : World} {b n : Nat} {d f : Nat → Int} (r : RowD w b n d f) {k : Nat} (hk : k < n) : dOf w b k = d k := by
  unfold Go.Proofs.YtehdhbnbajfanaaGreat.dOf
  rw [r.cellD hk]
def slack (n : Nat) (v d : Nat → Int) : Int := sumN (fun k => d k - v k) n
theorem slack_nonneg {n : Nat} {v d : Nat → Int} (h : ∀ k, k < n → v k ≤ d k) : 0 ≤ slack n v d := by
  have : sumN (fun _ => (0 : Int)) n ≤ sumN (fun k => d k - v k) n := sumN_le fun k hk => by have := h k hk; omega
  rw [sumN_zero (fun _ _ => rfl)] at this
  exact this
theorem slack_upd {n : Nat} {v d : Nat → Int} {m : Nat} {x : Int} (hm : m < n) (hx : x < d m) : slack n v (upd d m x) < slack n v d := by
  unfold slack
  have e : sumN (fun k => upd d m x k - v k) n = sumN (upd (fun k => d k - v k) m (x - v m)) n := sumN_congr fun k _ => by
    by_cases q : k = m
    · subst q; rw [upd_same, upd_same]
    · rw [upd_ne _ _ q, upd_ne _ _ q]
  rw [e, sumN_upd _ _ _ _ hm]; omega
theorem RowD.slack {w : World} {b n : Nat} {d f : Nat → Int} (r : RowD w b n d f) (v : Nat → Int) : slack n v (Go.Proofs.YtehdhbnbajfanaaGreat.dOf w b) = slack n v d := sumN_congr fun k hk => by rw [r.dOf hk]
/-- What a pass over the columns below k has done. -/
def Pass (C : Nat → Nat → Int) (n : Nat) (v ow d0 d : Nat → Int) (more : Bool) (k : Nat) : Prop :=
  (more = false ∧ (∀ j, j < n → d j = d0 j) ∧ ∀ k', k' < k → ∀ o : Nat, ow k' = (o : Int) → d k' ≠ far → ∀ m, m < n → 0 ≤ C o m → d m ≤ d k' - C o k' + C o m) ∨ (more = true ∧ slack n v d < slack n v d0)
/-- .. and over the columns below m from the column k. -/
def PassIn (C : Nat → Nat → Int) (n : Nat) (v ow d0 d : Nat → Int) (more : Bool) (k o m : Nat) : Prop :=
  (more = false ∧ (∀ j, j < n → d j = d0 j) ∧ (∀ k', k' < k → ∀ o : Nat, ow k' = (o : Int) → d k' ≠ far → ∀ m, m < n → 0 ≤ C o m → d m ≤ d k' - C o k' + C o m) ∧ ∀ m', m' < m → 0 ≤ C o m' → d m' ≤ d k - C o k + C o m') ∨ (more = true ∧ slack n v d < slack n v d0)
theorem Pass.start (C : Nat → Nat → Int) (n : Nat) (v ow d : Nat → Int) : Pass C n v ow d d false 0 := .inl ⟨rfl, fun _ _ => rfl, fun k' hk => by omega⟩
theorem Pass.skip {C : Nat → Nat → Int} {n : Nat} {v ow d0 d : Nat → Int} {more : Bool} {k : Nat} (p : Pass C n v ow d0 d more k) (h : ow k < 0 ∨ d k = far) : Pass C n v ow d0 d more (k + 1) := by
  rcases p with ⟨a, b, c⟩ | p
  · refine .inl ⟨a, b, fun k' hk' o e hd => ?_⟩
    by_cases q : k' = k
    · subst q; rcases h with h | h
      · omega
      · exact absurd h hd
    · exact c k' (by omega) o e hd
  · exact .inr p
theorem Pass.into {C : Nat → Nat → Int} {n : Nat} {v ow d0 d : Nat → Int} {more : Bool} {k : Nat} (p : Pass C n v ow d0 d more k) (o : Nat) : PassIn C n v ow d0 d more k o 0 := by
  rcases p with ⟨a, b, c⟩ | p
  · exact .inl ⟨a, b, c, fun m hm => by omega⟩
  · exact .inr p
theorem PassIn.out {C : Nat → Nat → Int} {n : Nat} {v ow d0 d : Nat → Int} {more : Bool} {k o : Nat} (p : PassIn C n v ow d0 d more k o n) (ho : ow k = (o : Int)) : Pass C n v ow d0 d more (k + 1) := by
  rcases p with ⟨a, b, c, e⟩ | p
  · refine .inl ⟨a, b, fun k' hk' o' e' hd => ?_⟩
    by_cases q : k' = k
    · subst q
      have : o' = o := by omega
      subst this; exact e
    · exact c k' (by omega) o' e' hd
  · exact .inr p
theorem PassIn.next {C : Nat → Nat → Int} {n : Nat} {v ow d0 d : Nat → Int} {more : Bool} {k o m : Nat} (p : PassIn C n v ow d0 d more k o m) (h : 0 ≤ C o m → d m ≤ d k - C o k + C o m) : PassIn C n v ow d0 d more k o (m + 1) := by
  rcases p with ⟨a, b, c, e⟩ | p
  · refine .inl ⟨a, b, c, fun m' hm' hc => ?_⟩
    by_cases q : m' = m
    · subst q; exact h hc
    · exact e m' (by omega) hc
  · exact .inr p
theorem PassIn.less {C : Nat → Nat → Int} {n : Nat} {v ow d0 d : Nat → Int} {more : Bool} {k o m : Nat} {x : Int} (p : PassIn C n v ow d0 d more k o m) (hm : m < n) (hx : x < d m) : PassIn C n v ow d0 (upd d m x) true k o (m + 1) := by
  have h := slack_upd (v := v) hm hx
  rcases p with ⟨a, b, c, e⟩ | ⟨_, p⟩
  · have e : slack n v d = slack n v d0 := sumN_congr fun k hk => by rw [b k hk]
    exact .inr ⟨rfl, by omega⟩
  · exact .inr ⟨rfl, by omega⟩
theorem Pass.fix {C : Nat → Nat → Int} {n : Nat} {v ow d0 d : Nat → Int} (p : Pass C n v ow d0 d false n) : Fix C n ow d := by
  rcases p with ⟨_, _, c⟩ | ⟨h, _⟩
  · exact fun k hk o e hd m hm hc => c k hk o e hd m hm hc
  · cases h
/-- What ways says. -/
def WaysPost (c : List (List Int)) (r : Nat) (v ow : Nat → Int) (w : World) (e : Ending) (w' : World) : Prop :=
  ∃ (b : Nat) (d f : Nat → Int), e = .returned (.slice (some ⟨b, 0, none⟩) (wideL c) (wideL c)) ∧ w.heap.size ≤ b ∧ RowD w' b (wideL c) d f ∧ Below w.heap.size w w' ∧ Wy (cc c) (wideL c) r v ow d f ∧ Fix (cc c) (wideL c) ow d
def moreN : Value → Nat
  | .bool true => 1
  | _ => 0
theorem start_iff {C : Nat → Nat → Int} {r k : Nat} {x : Int} (h : C r k = x) : (if 0 ≤ C r k then C r k else far) = if 0 ≤ x then x else far := by rw [h]
set_option maxRecDepth 100000 in
set_option maxHeartbeats 8000000 in
theorem ways_any (a ao : Option Addr) (cap capo : Nat) (c : List (List Int)) (r : Nat) (u v ow : Nat → Int) (V : Int) (w : World) (he : formE c = 0) (hr : r < c.length) (hm : MatAt w a c) (ho : OwnC w ao (wideL c) ow) (p : Pot (cc c) (wideL c) r V u v ow) (hV : V ≤ 100000000000) :
    Calls Tryz.prog 73 #[.slice a c.length cap, .int .i64 r, .slice ao (wideL c) capo] w (WaysPost c r v ow w) := by
  obtain ⟨h200, hw200, hf, hf4⟩ := formE_ok he
  have hmk := make_steps (wideL c) hw200
  have HC := Lib.hid (cc_le hf hf4)
  have HM := Lib.hid hm; have HF := Lib.hid hf; have HOW := Lib.hid ho; have HPo := Lib.hid p; have HV := Lib.hid hV
  clear hm hf hf4 he ho p hV
  generalize hn : wideL c = n at *
  have HN := Lib.hid hn; clear hn
  go_enter Tryz.func73, Tryz.ntmps73
  go_wp2
  have HR := Lib.hid (RowD.made w n)
  have HB := Lib.hid ((Below.refl w.heap.size w).alloc (Nat.le_refl _) (.cells (madeCells #[.int .i64 0, .int .i64 0] (n * 2)) 104))
  generalize w.alloc (.cells (madeCells #[.int .i64 0, .int .i64 0] (n * 2)) 104) = W1 at *
  clear hmk
  go_loopw [10] (fun i wr => ∃ (k : Nat) (d f : Nat → Int), k ≤ n ∧ i = .int .i64 k ∧ RowD wr w.heap.size n d f ∧ Below w.heap.size w wr ∧ ∀ j, j < k → d j = (if 0 ≤ cc c r j then cc c r j else far) ∧ f j = (if 0 ≤ cc c r j then (r : Int) else -1)) (fun i _ => n - (intOf i).toNat)
  case atStart => exact ⟨0, _, _, Nat.zero_le _, rfl, HR.out, HB.out, fun j hj => by omega⟩
  case round =>
    clear HR HB
    obtain ⟨k, d, f, hk, rfl, hrw, hb, hst⟩ := hrel
    have HR := Lib.hid hrw; have HB := Lib.hid hb; have HS := Lib.hid hst
    clear hrw hb hst
    by_cases hlt : k < n
    · obtain ⟨bc, oc, ai, ci, rfl, c0, hsk, hik⟩ := HM.out.get r hr
      have hlen := HF.out c[r] (List.getElem_mem _)
      rw [hlen] at c0
      obtain ⟨b3, o3, rfl, e0⟩ := hik.get k (by omega)
      rw [← cc_get hr (by omega)] at e0
      have HX0 := Lib.hid (show ∃ X, cc c r k = X from ⟨_, rfl⟩)
      clear hsk hik hlen
      have HR2 := Lib.hid (HR.out.set2 hlt 1099511627776 (-1))
      have HB2 := Lib.hid (below_set2 HB.out (Nat.le_refl _) (k * 2) (.int .i64 1099511627776) (.int .i64 (-1)))
      have sa := HR.out.cellD hlt; have sb := HR.out.cellF hlt; have sc := HR.out.frozen (k * 2); have sd := HR.out.frozen (k * 2 + 1); have se := (HR.out.half hlt 1099511627776).cellF hlt; have sf := (HR.out.half hlt 1099511627776).frozen (k * 2 + 1)
      have g0 := keepD c0 HB2.out; have g1 := keepD e0 HB2.out
      generalize hX : cc c r k = X at *
      have HX := Lib.hid hX; clear hX
      by_cases hx : 0 ≤ X
      · have HR3 := Lib.hid (HR2.out.set2 hlt X r)
        have HB3 := Lib.hid (below_set2 HB2.out (Nat.le_refl _) (k * 2) (.int .i64 X) (.int .i64 r))
        have ta := HR2.out.cellD hlt; have tb := HR2.out.cellF hlt; have tc := HR2.out.frozen (k * 2); have td := HR2.out.frozen (k * 2 + 1); have te := (HR2.out.half hlt X).cellF hlt; have tf := (HR2.out.half hlt X).frozen (k * 2 + 1)
        go_wp2
        go_roundw
        case rel => exact ⟨k + 1, _, _, by omega, by go_num, HR3.out, HB3.out, fun j hj => by
          by_cases e : j = k
          · subst e; rw [upd_same, upd_same, HX.out, if_pos hx, if_pos hx]; exact ⟨rfl, rfl⟩
          · rw [upd_ne _ _ e, upd_ne _ _ e, upd_ne _ _ e, upd_ne _ _ e]; exact HS.out j (by omega)⟩
        case measure => simp [intOf]; omega
      · go_wp2
        go_roundw
        case rel => exact ⟨k + 1, _, _, by omega, by go_num, HR2.out, HB2.out, fun j hj => by
          by_cases e : j = k
          · subst e; rw [upd_same, upd_same, HX.out, if_neg hx, if_neg hx]; exact ⟨rfl, rfl⟩
          · rw [upd_ne _ _ e, upd_ne _ _ e]; exact HS.out j (by omega)⟩
        case measure => simp [intOf]; omega
    · have hke : k = n := by omega
      have HR1 := Lib.hid (HR.out.congr (d' := fun j => if 0 ≤ cc c r j then cc c r j else far) (f' := fun j => if 0 ≤ cc c r j then (r : Int) else -1) fun j hj => HS.out j (by omega))
      have HY := Lib.hid (Wy.start HPo.out fun j hj => (HC.out r j hr hj).2)
      clear HR HS hke
      generalize (fun j => if 0 ≤ cc c r j then cc c r j else far) = d1 at *
      generalize (fun j => if 0 ≤ cc c r j then (r : Int) else -1) = f1 at *
      go_wp2
      go_loopw [11] (fun s11 wr => ∃ (d f : Nat → Int) (more : Bool), s11 = .bool more ∧ RowD wr w.heap.size n d f ∧ Below w.heap.size w wr ∧ Wy (cc c) n r v ow d f ∧ (more = false → Fix (cc c) n ow d)) (fun s11 wr => 2 * (slack n v (dOf wr w.heap.size)).toNat + moreN s11)
      case atStart => exact ⟨d1, f1, true, rfl, HR1.out, HB.out, HY.out, fun h => by cases h⟩
      case round =>
        clear HR1 HB HY
        obtain ⟨d, f, more, rfl, hrw, hb, hy, hfx⟩ := hrel
        have HR0 := Lib.hid hrw; have HB := Lib.hid hb; have HY := Lib.hid hy; have HFX := Lib.hid hfx
        clear hrw hb hy hfx
        cases more
        · go_wp2
          go_ret
          exact ⟨w.heap.size, d, f, by rw [HN.out]; rfl, Nat.le_refl _, by rw [HN.out]; exact HR0.out, HB.out, by rw [HN.out]; exact HY.out, by rw [HN.out]; exact HFX.out trivial⟩
        · go_wp2
          go_loopw [11, 12] (fun s11 s12 wr => ∃ (k : Nat) (d' f' : Nat → Int) (more : Bool), k ≤ n ∧ s12 = .int .i64 k ∧ s11 = .bool more ∧ RowD wr w.heap.size n d' f' ∧ Below w.heap.size w wr ∧ Wy (cc c) n r v ow d' f' ∧ Pass (cc c) n v ow d d' more k) (fun _ i _ => n - (intOf i).toNat)
          case atStart => exact ⟨0, d, f, false, Nat.zero_le _, rfl, rfl, HR0.out, HB.out, HY.out, Pass.start _ _ _ _ _⟩
          case round =>
            clear HB HY HFX
            obtain ⟨k, d', f', more, hk, rfl, rfl, hrw, hb, hy, hps⟩ := hrel
            have HR := Lib.hid hrw; have HB := Lib.hid hb; have HY := Lib.hid hy; have HPS := Lib.hid hps
            clear hrw hb hy hps
            by_cases hlt : k < n
            · obtain ⟨bo, rfl, ro⟩ := HOW.out k hlt
              have g0 := keepD (ro.cell hlt) HB.out
              clear ro
              rcases HPo.out.own.val k hlt trivial with hok | ⟨i, hok, hir, _⟩
              · rw [hok] at g0
                have HOK := Lib.hid hok; clear hok
                go_wp2
                go_roundw
                case rel => exact ⟨k + 1, d', f', more, by omega, by go_num, rfl, HR.out, HB.out, HY.out, HPS.out.skip (.inl (by rw [HOK.out]; decide))⟩
                case measure => simp [intOf]; omega
              · rw [hok] at g0
                have HOK := Lib.hid hok; clear hok
                have hng : decide ((i : Int) < 0) = false := by simp <;> omega
                have s1 := HR.out.cellD hlt
                by_cases hfar : d' k = 1099511627776
                · have hb1 : (d' k == 1099511627776) = true := by simpa using hfar
                  have HFAR := Lib.hid hfar; clear hfar
                  go_wp2
                  go_roundw
                  case rel => exact ⟨k + 1, d', f', more, by omega, by go_num, rfl, HR.out, HB.out, HY.out, HPS.out.skip (.inr HFAR.out)⟩
                  case measure => simp [intOf]; omega
                · have hb1 : (d' k == 1099511627776) = false := by simpa using hfar
                  have HFAR := Lib.hid hfar; clear hfar
                  go_wp2
                  clear s1 hb1
                  go_loopw [11, 14] (fun s11 s14 wr => ∃ (m : Nat) (d2 f2 : Nat → Int) (more2 : Bool), m ≤ n ∧ s14 = .int .i64 m ∧ s11 = .bool more2 ∧ RowD wr w.heap.size n d2 f2 ∧ Below w.heap.size w wr ∧ Wy (cc c) n r v ow d2 f2 ∧ PassIn (cc c) n v ow d d2 more2 k i m ∧ d2 k ≠ far) (fun _ i _ => n - (intOf i).toNat)
                  case atStart => exact ⟨0, d', f', more, Nat.zero_le _, rfl, rfl, HR.out, HB.out, HY.out, HPS.out.into i, HFAR.out⟩
                  case round =>
                    clear HB HY HR HPS HFAR g0
                    obtain ⟨m, d2, f2, more2, hm, rfl, rfl, hrw, hb, hy, hps, hfar⟩ := hrel
                    have HR := Lib.hid hrw; have HB := Lib.hid hb; have HY := Lib.hid hy; have HPS := Lib.hid hps; have HFAR := Lib.hid hfar
                    clear hrw hb hy hps hfar
                    by_cases hlm : m < n
                    · have hic : i < c.length := by omega
                      obtain ⟨bc, oc, ai, ci, rfl, c0, hsk, hik⟩ := HM.out.get i hic
                      have hlen := HF.out c[i] (List.getElem_mem _)
                      rw [hlen] at c0
                      obtain ⟨b3, o3, rfl, e0⟩ := hik.get k (by omega)
                      rw [← cc_get hic (by omega)] at e0
                      obtain ⟨b4, o4, e4, e1⟩ := hik.get m (by omega)
                      cases e4
                      rw [← cc_get hic (by omega)] at e1
                      clear hsk hik hlen
                      have q1 := HC.out i k hic hlt
                      have q2 := HC.out i m hic hlm
                      have q3 := HY.out.low k hlt; have q4 := HY.out.top hlt; have q5 := HPo.out.vlow k hlt; have q6 := HV.out
                      have q7 : -100000000000 ≤ d2 k ∧ d2 k ≤ 1099511627776 := ⟨by omega, q4⟩
                      clear q3 q4 q5 q6
                      have g0 := cell_regrown (keepD c0 HB.out); have g1 := cell_regrown (keepD e0 HB.out); have g2 := cell_regrown (keepD e1 HB.out); have g3 := cell_regrown (HR.out.cellD hlt)
                      generalize hA : cc c i k = A at *
                      generalize hBc : cc c i m = B at *
                      generalize hD : d2 k = D at *
                      have HA := Lib.hid hA; have HBc := Lib.hid hBc; have HD := Lib.hid hD
                      clear hA hBc hD
                      go_wp2
                      refine wp_quietB (by kernel_rfl) (by kernel_rfl) ?_
                      (repeat (go_big_quiet_step (fail)))
                      refine wpQuiet_nil ?_
                      intro wq hq
                      have HR5 := Lib.hid (HR.out.below hq)
                      have HB5 := Lib.hid (HB.out.trans (hq.mono HB.out.size))
                      clear hq g0 g1 g2 g3 HR HB
                      have g0 := keepD c0 HB5.out; have g1 := keepD e1 HB5.out; have g3 := HR5.out.cellD hlm
                      replace HFAR := Lib.hid (show d2 k ≠ far by rw [HD.out]; exact HFAR.out)
                      have hHD := HD.out; have hHA := HA.out; have hHB := HBc.out
                      by_cases hb : 0 ≤ B
                      · by_cases hl : D - A + B < d2 m
                        · have HL := Lib.hid (show d2 k - cc c i k + cc c i m < d2 m by rw [HD.out, HA.out, HBc.out]; exact hl)
                          have HY6 := Lib.hid (HY.out.less HPo.out hlt hlm HOK.out HFAR.out (by rw [HBc.out]; exact hb) HL.out)
                          have HPS6 := Lib.hid (HPS.out.less hlm HL.out)
                          rw [HD.out, HA.out, HBc.out] at HY6 HPS6
                          have HR6 := Lib.hid (HR5.out.set2 hlm (D - A + B) i)
                          have HB6 := Lib.hid (below_set2 HB5.out (Nat.le_refl _) (m * 2) (.int .i64 (D - A + B)) (.int .i64 i))
                          have ta := HR5.out.cellD hlm; have tb := HR5.out.cellF hlm; have tc := HR5.out.frozen (m * 2); have td := HR5.out.frozen (m * 2 + 1); have te := (HR5.out.half hlm (D - A + B)).cellF hlm; have tf := (HR5.out.half hlm (D - A + B)).frozen (m * 2 + 1)
                          clear hHD hHA hHB
                          go_wp2
                          go_roundw
                          case rel => exact ⟨m + 1, _, _, true, by omega, by go_num, rfl, HR6.out, HB6.out, HY6.out, HPS6.out, by
                            by_cases e : k = m
                            · subst e; rw [upd_same]; have := HY.out.top hlm; omega
                            · rw [upd_ne _ _ e]; exact HFAR.out⟩
                          case measure => simp [intOf]; omega
                        · clear hHD hHA hHB
                          go_wp2
                          go_roundw
                          case rel => exact ⟨m + 1, d2, f2, more2, by omega, by go_num, rfl, HR5.out, HB5.out, HY.out, HPS.out.next fun _ => by rw [HD.out, HA.out, HBc.out]; omega, HFAR.out⟩
                          case measure => simp [intOf]; omega
                      · clear hHD hHA hHB
                        go_wp2
                        go_roundw
                        case rel => exact ⟨m + 1, d2, f2, more2, by omega, by go_num, rfl, HR5.out, HB5.out, HY.out, HPS.out.next fun h => absurd (HBc.out ▸ h) hb, HFAR.out⟩
                        case measure => simp [intOf]; omega
                    · have hme : m = n := by omega
                      subst hme
                      go_wp2
                      go_roundw
                      case rel => exact ⟨k + 1, d2, f2, more2, by omega, by go_num, rfl, HR.out, HB.out, HY.out, HPS.out.out HOK.out⟩
                      case measure => simp [intOf]; omega
            · have hke : k = n := by omega
              subst hke
              have h1 := slack_nonneg HY.out.low
              go_wp2
              go_roundw
              case rel => exact ⟨d', f', more, rfl, HR.out, HB.out, HY.out, fun h => by subst h; exact HPS.out.fix⟩
              case measure =>
                rw [HR.out.slack, HR0.out.slack]
                rcases HPS.out with ⟨rfl, b, _⟩ | ⟨rfl, h2⟩
                · have : slack k v d' = slack k v d := sumN_congr fun j hj => by rw [b j hj]
                  rw [this]
                  simp [moreN]
                · simp [moreN]; omega
end Go.Proofs.YtehdhbnbajfanaaGreat
