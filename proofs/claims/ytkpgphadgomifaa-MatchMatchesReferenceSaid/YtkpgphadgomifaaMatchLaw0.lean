/- Plain laws: what Best, Prices and Short say proves what the laws of matchings say; the examples. -/
import Derived.Test.YtkpgphadgomifaaMatchProves
namespace Go.Proofs.Ytkpgphadgomifaa
set_option linter.unusedSimpArgs false
set_option linter.unusedVariables false
open Go.RowKit Go.Sort Go.Shelf

def natsI (l : List Nat) : List Int := l.map fun i : Nat => (i : Int)
theorem natsI_len (l : List Nat) : (natsI l).length = l.length := by simp [natsI]
theorem gz_nats {l : List Nat} {i : Nat} (hi : i < l.length) : gz (natsI l) i = (l.getD i 0 : Nat) := by
  simp [gz, natsI, List.getD, hi]
theorem nz_nats {l : List Nat} {i : Nat} (hi : i < l.length) : nz (natsI l) i = l.getD i 0 := by
  rw [nz, gz_nats hi]; simp
def rangeI (f : Nat → Int) (n : Nat) : List Int := (List.range n).map f
theorem rangeI_len (f : Nat → Int) (n : Nat) : (rangeI f n).length = n := by simp [rangeI]
theorem gz_range {f : Nat → Int} {n i : Nat} (hi : i < n) : gz (rangeI f n) i = f i := by simp [gz, rangeI, List.getD, hi]
theorem RowAt.inAt {w : World} {b n : Nat} {T : TypeId} {f : Nat → Int} (r : RowAt w b n T (iv f)) : InAt w (some ⟨b, 0, none⟩) (rangeI f n) := by
  have := r.slAt
  unfold InAt rangeI
  rw [List.map_map]
  exact this
/-- What a best answer has. -/
structure BestHas (c : List (List Int)) (l : List Nat) (u v : Nat → Int) : Prop where
  len : l.length = c.length
  tight : Tight (cc c) (wideL c) c.length u v (fun i => l.getD i 0)
  fair : Fair (cc c) (wideL c) c.length u v
  min : ∀ g, Tight (cc c) (wideL c) c.length u v g → ∀ j, j < c.length → (∀ j', j' < j → g j' = l.getD j' 0) → l.getD j 0 ≤ g j
theorem Tight.congr {C : Nat → Nat → Int} {n m : Nat} {u v : Nat → Int} {f g : Nat → Nat} (t : Tight C n m u v f) (e : ∀ i, i < m → f i = g i) : Tight C n m u v g :=
  ⟨⟨fun i hi => by rw [← e i hi]; exact t.mt.lt i hi, fun i hi => by rw [← e i hi]; exact t.mt.can i hi, fun i j hi hj h => by rw [← e i hi, ← e j hj] at h; exact t.mt.inj i j hi hj h⟩, fun i hi => by rw [← e i hi]; exact t.eq i hi, fun k hk hv => by
    obtain ⟨i, hi, h⟩ := t.all k hk hv
    exact ⟨i, hi, by rw [← e i hi]; exact h⟩⟩
theorem best_has {c : List (List Int)} {l : List Nat} {total : Int} {ok : Bool} {err : Int} (h : BestSays c l total ok err) (hok : ok = true) : ∃ u v, (∃ ow, Pot (cc c) (wideL c) c.length (c.length * (wideL c * 1000000)) u v ow) ∧ BestHas c l u v ∧ formE c = 0 ∧ err = 0 ∧ total = totL c l := by
  rcases h with ⟨_, _, _, h, _⟩ | ⟨_, _, _, _, _, h⟩ | ⟨h1, h2, _, h3, h4, u, v, ⟨ow, p⟩, b⟩
  · rw [hok] at h; cases h
  · rw [hok] at h; cases h
  · refine ⟨u, v, ⟨ow, p⟩, ⟨h4, ?_, (pot_fair p).1, fun g hg j hj hp => b.min j (by omega) g hg fun j' hj' => hp j' hj'⟩, h1, h2, h3⟩
    obtain ⟨f, hf, e⟩ := b.ex
    exact hf.congr fun i hi => e i (by omega)
theorem totL_cost {c : List (List Int)} {l : List Nat} (h : l.length = c.length) : totL c l = costOf (cc c) c.length (fun i => l.getD i 0) := by
  unfold totL costOf; rw [h]
theorem BestHas.least {c : List (List Int)} {l : List Nat} {u v : Nat → Int} (b : BestHas c l u v) {f : Nat → Nat} (hf : Mt (may (cc c)) (fun i => i < c.length) (wideL c) f) : totL c l ≤ costOf (cc c) c.length f := by
  rw [totL_cost b.len, tight_eq b.fair b.tight]
  exact (fair_le b.fair hf).1
theorem BestHas.tightOf {c : List (List Int)} {l : List Nat} {u v : Nat → Int} (b : BestHas c l u v) {f : Nat → Nat} (hf : Mt (may (cc c)) (fun i => i < c.length) (wideL c) f) (he : costOf (cc c) c.length f ≤ totL c l) : Tight (cc c) (wideL c) c.length u v f := by
  rw [totL_cost b.len, tight_eq b.fair b.tight] at he
  exact (fair_le b.fair hf).2 he
theorem BestHas.isMt {c : List (List Int)} {l : List Nat} {u v : Nat → Int} (b : BestHas c l u v) : IsMt c (natsI l) :=
  IsMt.of (by rw [natsI_len, b.len]) b.tight.mt fun i hi => gz_nats (by rw [b.len]; exact hi)
theorem BestHas.cost {c : List (List Int)} {l : List Nat} {u v : Nat → Int} (b : BestHas c l u v) : costL c (natsI l) = totL c l := by
  rw [totL_cost b.len]
  unfold costL costOf
  exact sumN_congr fun i hi => by rw [nz_nats (by rw [b.len]; exact hi)]
/-- No matching: no best one. -/
theorem best_not {c : List (List Int)} {l : List Nat} {total : Int} {ok : Bool} {err : Int} (h : BestSays c l total ok err) (hok : ok = false) : l = [] ∧ total = 0 ∧ err = formE c ∧ (formE c = 0 → ¬ Mtd (may (cc c)) (fun i => i < c.length) (wideL c)) := by
  rcases h with ⟨h1, h2, h3, _, h4⟩ | ⟨h1, h2, h3, h4, h5, _⟩ | ⟨_, _, h, _⟩
  · exact ⟨h2, h3, h4, fun e => absurd e h1⟩
  · exact ⟨h4, h5, by rw [h1, h2], fun _ => h3⟩
  · rw [hok] at h; cases h
theorem best_err {c : List (List Int)} {l : List Nat} {total : Int} {ok : Bool} {err : Int} (h : BestSays c l total ok err) : err = formE c := by
  rcases h with ⟨_, _, _, _, h⟩ | ⟨h1, h2, _⟩ | ⟨h1, h2, _⟩
  · exact h
  · rw [h1, h2]
  · rw [h1, h2]
theorem best_ok {c : List (List Int)} {l : List Nat} {total : Int} {ok : Bool} {err : Int} (h : BestSays c l total ok err) (he : formE c = 0) (hm : Mtd (may (cc c)) (fun i => i < c.length) (wideL c)) : ok = true := by
  cases hok : ok
  · exact absurd hm ((best_not h hok).2.2.2 he)
  · rfl
theorem best_no {c : List (List Int)} {l : List Nat} {total : Int} {ok : Bool} {err : Int} (h : BestSays c l total ok err) (hm : ¬ Mtd (may (cc c)) (fun i => i < c.length) (wideL c)) : ok = false := by
  cases hok : ok
  · rfl
  · obtain ⟨u, v, _, b, _⟩ := best_has h hok
    exact absurd ⟨_, b.tight.mt⟩ hm
/-- Prices prove the best matching. -/
theorem proof_of {c : List (List Int)} {l : List Nat} {u v u' v' : Nat → Int} {ow' : Nat → Int} (he : formE c = 0) (h7 : c.length ≤ 7) (h8 : wideL c ≤ 8) (b : BestHas c l u v) (p : Pot (cc c) (wideL c) c.length (c.length * (wideL c * 1000000)) u' v' ow') :
    Proof c (natsI l) (rangeI u' c.length) (rangeI v' (wideL c)) := by
  obtain ⟨f1, f2, f3, f4⟩ := formE_ok he
  have hV : c.length * (wideL c * 1000000) ≤ 7 * (8 * 1000000) := Nat.mul_le_mul h7 (Nat.mul_le_mul_right _ h8)
  have hVi : (c.length : Int) * (wideL c * 1000000) ≤ 56000000 := by
    have : ((c.length * (wideL c * 1000000) : Nat) : Int) = (c.length : Int) * (wideL c * 1000000) := by simp
    omega
  have hV0 : (0 : Int) ≤ (c.length : Int) * (wideL c * 1000000) := by
    have : ((c.length * (wideL c * 1000000) : Nat) : Int) = (c.length : Int) * (wideL c * 1000000) := by simp
    omega
  have fair' := (pot_fair p).1
  obtain ⟨g, hg⟩ := (pot_fair p).2
  refine ⟨he, b.isMt, ⟨rangeI_len _ _, rangeI_len _ _, fun k hk => ?_, fun i hi => ?_, fun i k hi hk h0 => ?_⟩, ?_⟩
  · rw [gz_range hk]
    have h1 := p.vlow k hk
    have h2 := p.vneg k hk
    exact ⟨price_iff.2 ⟨by omega, by omega⟩, h2⟩
  · rw [gz_range hi]
    have h1 := p.upos i hi
    have h2 := p.usmall (fun i k hi hk => (cc_le f3 f4 i k hi hk).2) hV0 i
    exact price_iff.2 ⟨by omega, by omega⟩
  · rw [gz_range hi, gz_range hk]
    exact fair'.feas i k hi hk h0
  · rw [b.cost]
    have e1 : priceL c (rangeI u' c.length) (rangeI v' (wideL c)) = priceOf (wideL c) c.length u' v' := by
      unfold priceL priceOf
      rw [sumN_congr (F := gz (rangeI u' c.length)) (G := u') fun k hk => gz_range hk, sumN_congr (F := gz (rangeI v' (wideL c))) (G := v') fun k hk => gz_range hk]
    rw [e1]
    have h1 := tight_eq fair' hg
    have h2 := b.least hg.mt
    have h3 := (fair_le fair' b.tight.mt).1
    rw [← totL_cost b.len] at h3
    omega
theorem proof_cost {c : List (List Int)} {l rs cs : List Int} (h : Proof c l rs cs) {f : Nat → Nat} (hf : Mt (may (cc c)) (fun i => i < c.length) (wideL c) f) : costL c l ≤ costOf (cc c) c.length f := by
  rw [h.2.2.2]
  exact (fair_le h.2.2.1.fair hf).1
/-- The example. -/
def E0 : List (List Int) := [[1, 2], [1, 4]]
def E1 : List (List Int) := [[1, -1], [2, -1]]
def E2 : List (List Int) := [[-1]]
def E3 : List (List Int) := [[1], [1, 2]]
theorem e0_mt : Mt (may (cc E0)) (fun i => i < E0.length) (wideL E0) (fun i => 1 - i) :=
  ⟨fun i hi => by have hi : i < 2 := hi; show 1 - i < 2; omega, fun i hi => by
    have hi : i < 2 := hi
    match i, hi with
    | 0, _ => rfl
    | 1, _ => rfl, fun i j hi hj e => by have hi : i < 2 := hi; have hj : j < 2 := hj; omega⟩
theorem list2 {l : List Nat} (h : l.length = 2) : l = [l.getD 0 0, l.getD 1 0] := by
  match l, h with
  | [a, b], _ => rfl
theorem best0 {l : List Nat} {total : Int} {ok : Bool} {err : Int} (h : BestSays E0 l total ok err) : l = [1, 0] ∧ total = 3 ∧ ok = true ∧ err = 0 := by
  have hok := best_ok h (by rfl) ⟨_, e0_mt⟩
  obtain ⟨u, v, _, b, _, h1, h2⟩ := best_has h hok
  have hle := b.least e0_mt
  have hc : costOf (cc E0) E0.length (fun i => 1 - i) = 3 := by rfl
  rw [hc] at hle
  have hl : l.length = 2 := b.len
  have h3 := b.tight.mt.lt 0 (by decide)
  have h4 := b.tight.mt.lt 1 (by decide)
  have h5 := b.tight.mt.inj 0 1 (by decide) (by decide)
  have e := totL_cost b.len
  have e2 : costOf (cc E0) E0.length (fun i => l.getD i 0) = cc E0 0 (l.getD 0 0) + cc E0 1 (l.getD 1 0) := by
    show (0 : Int) + _ + _ = _
    rw [Int.zero_add]
  rw [e2] at e
  have w2 : wideL E0 = 2 := rfl
  rw [w2] at h3 h4
  have hl2 := list2 hl
  generalize l.getD 0 0 = x at *
  generalize l.getD 1 0 = y at *
  subst hl2
  have hx : x = 0 ∨ x = 1 := by have : x < 2 := h3; omega
  have hy : y = 0 ∨ y = 1 := by have : y < 2 := h4; omega
  rcases hx with rfl | rfl <;> rcases hy with rfl | rfl
  · exact absurd (h5 rfl) (by decide)
  · have : totL E0 [0, 1] = 5 := rfl
    omega
  · exact ⟨rfl, by rw [h2]; rfl, hok, h1⟩
  · exact absurd (h5 rfl) (by decide)
theorem e1_no : ¬ Mtd (may (cc E1)) (fun i => i < E1.length) (wideL E1) := by
  rintro ⟨f, hf⟩
  have h3 := hf.lt 0 (by decide)
  have h4 := hf.lt 1 (by decide)
  have c0 := hf.can 0 (by decide)
  have c1 := hf.can 1 (by decide)
  have h5 := hf.inj 0 1 (by decide) (by decide)
  have w2 : wideL E1 = 2 := rfl
  rw [w2] at h3 h4
  generalize f 0 = x at *
  generalize f 1 = y at *
  have hx : x = 0 ∨ x = 1 := by omega
  have hy : y = 0 ∨ y = 1 := by omega
  rcases hx with rfl | rfl <;> rcases hy with rfl | rfl
  · exact absurd (h5 rfl) (by decide)
  · exact absurd c1 (by decide)
  · exact absurd c0 (by decide)
  · exact absurd c0 (by decide)
theorem best1 {l : List Nat} {total : Int} {ok : Bool} {err : Int} (h : BestSays E1 l total ok err) : ok = false ∧ err = 0 :=
  ⟨best_no h e1_no, best_err h⟩
theorem isort_nodup {l : List Int} (h : l.Nodup) : (isort l).Pairwise (· < ·) ∧ (isort l).Perm l := by
  have hp : (isort l).Perm l := List.mergeSort_perm _ _
  have hs : (isort l).Pairwise fun a b => decide (a ≤ b) = true := List.pairwise_mergeSort (fun a b c h1 h2 => by simp at *; omega) (fun a b => by simp; omega) l
  have hn : (isort l).Nodup := hp.symm.nodup h
  refine ⟨?_, hp⟩
  have := hs.and hn
  exact this.imp fun {a b} h => by
    have h1 : a ≤ b := by simpa using h.1
    have h2 : a ≠ b := h.2
    omega
theorem asc_ext {l r : List Int} (hl : l.Pairwise (· < ·)) (hr : r.Pairwise (· < ·)) (h : ∀ x, x ∈ l ↔ x ∈ r) : l = r := by
  have nl : l.Nodup := hl.imp fun {a b} h => by omega
  have nr : r.Nodup := hr.imp fun {a b} h => by omega
  refine List.Perm.eq_of_pairwise (le := fun a b => a ≤ b) (fun a b _ _ h1 h2 => by omega) (hl.imp fun {a b} h => by omega) (hr.imp fun {a b} h => by omega) ?_
  exact (List.perm_ext_iff_of_nodup nl nr).2 h
theorem short1 {l : List Int} {short : Bool} {err : Int} (h : ShortSays E1 l short err) : l = [0, 1] ∧ short = true ∧ err = 0 := by
  obtain ⟨he, h⟩ := h
  have he0 : err = 0 := he
  rcases h with ⟨_, _, h⟩ | ⟨_, hs, j, ms, C, hl⟩
  · exact absurd (h he0) e1_no
  · refine ⟨?_, hs, he0⟩
    have hj : j < 2 := C.lt
    have hlt : ∀ x ∈ ms, x < 2 := fun x hx => by have := C.le x hx; omega
    have one : ∀ y, y < 2 → Mtd (canC E1) (fun i => i = y) (wideL E1) := fun y hy => ⟨fun _ => 0, fun i _ => by show 0 < 2; omega, fun i hi => by
      have hi : i = y := hi
      subst hi
      match i, hy with
      | 0, _ => rfl
      | 1, _ => rfl, fun i j hi hj _ => by have hi : i = y := hi; have hj : j = y := hj; omega⟩
    have all : ∀ y, y < 2 → y ∈ ms := fun y hy => by
      apply Classical.byContradiction
      intro hn
      exact C.no ((one (1 - y) (by omega)).sub fun i hi => by
        have h1 : i ∈ ms := hi
        have h2 := hlt i h1
        have h3 : i ≠ y := fun e => hn (e ▸ h1)
        show i = 1 - y
        omega)
    have hnd : (ms.map fun i : Nat => (i : Int)).Nodup := List.Pairwise.map (R := fun a b => a ≠ b) (fun i : Nat => (i : Int)) (fun a b h e => h (by omega)) C.nodup
    obtain ⟨s1, s2⟩ := isort_nodup hnd
    rw [hl]
    refine asc_ext s1 (by decide) fun x => ?_
    rw [s2.mem_iff, List.mem_map]
    constructor
    · rintro ⟨i, hi, rfl⟩
      have := hlt i hi
      have : i = 0 ∨ i = 1 := by omega
      rcases this with rfl | rfl <;> simp
    · intro hx
      have : x = 0 ∨ x = 1 := by simpa using hx
      rcases this with rfl | rfl
      · exact ⟨0, all 0 (by omega), rfl⟩
      · exact ⟨1, all 1 (by omega), rfl⟩
theorem e2_no : ¬ Mtd (may (cc E2)) (fun i => i < E2.length) (wideL E2) := by
  rintro ⟨f, hf⟩
  have h3 := hf.lt 0 (by decide)
  have c0 := hf.can 0 (by decide)
  have w2 : wideL E2 = 1 := rfl
  rw [w2] at h3
  generalize f 0 = x at *
  have hx : x = 0 := by omega
  subst hx
  exact absurd c0 (by decide)
theorem proof0 : Proof E0 [1, 0] [2, 2] [-1, 0] := by
  refine ⟨rfl, IsMt.of rfl e0_mt fun i hi => ?_, ⟨rfl, rfl, fun k hk => ?_, fun i hi => ?_, fun i k hi hk => ?_⟩, rfl⟩
  · have hi : i < 2 := hi
    match i, hi with
    | 0, _ => rfl
    | 1, _ => rfl
  · have hk : k < 2 := hk
    match k, hk with
    | 0, _ => decide
    | 1, _ => decide
  · have hi : i < 2 := hi
    match i, hi with
    | 0, _ => rfl
    | 1, _ => rfl
  · have hi : i < 2 := hi
    have hk : k < 2 := hk
    match i, hi, k, hk with
    | 0, _, 0, _ => decide
    | 0, _, 1, _ => decide
    | 1, _, 0, _ => decide
    | 1, _, 1, _ => decide
theorem proof1 : ¬ Proof E0 [0, 1] [2, 2] [-1, 0] := fun h => absurd h.2.2.2 (by decide)
end Go.Proofs.Ytkpgphadgomifaa
