/- Texts of this seat, laid together: TurnPure, TurnPure2, TurnPure3, TurnPure4, TurnPure5. -/
import Derived.Test.YtcelciomhngajaaGreatDoorSB
/- Turns in plain Lean: ratios that are reduced; tempos; seconds between places. -/
namespace Go.Proofs.YtcelciomhngajaaGreatDoor
set_option linter.unusedSimpArgs false
set_option linter.unusedVariables false
open Go.RowKit Go.Sort

/-- n / d, reduced (d above 0), where it is within the limits; 3: it is not. -/
def gcdI (n d : Int) : Int := (Nat.gcd n.natAbs d.natAbs : Nat)
def redR (n d : Int) : Rt × Int := if 1000000 < d / gcdI n d ∨ 1000000000 < ((n / gcdI n d).natAbs : Int) then (⟨0, 0⟩, 3) else (⟨n / gcdI n d, d / gcdI n d⟩, 0)
theorem gcdI_pos (n : Int) {d : Int} (h : 0 < d) : 0 < gcdI n d := by
  unfold gcdI
  have := Nat.gcd_pos_of_pos_right n.natAbs (show 0 < d.natAbs by omega)
  omega
theorem gcdI_n (n d : Int) : gcdI n d ∣ n := by
  unfold gcdI
  exact Int.ofNat_dvd_left.2 (Nat.gcd_dvd_left _ _)
theorem gcdI_d (n d : Int) : gcdI n d ∣ d := by
  unfold gcdI
  exact Int.ofNat_dvd_left.2 (Nat.gcd_dvd_right _ _)
/-- The reduced numbers. -/
structure Red (n d a b : Int) : Prop where
  pos : 0 < b
  cross : a * d = n * b
  cop : Nat.gcd a.natAbs b.natAbs = 1
theorem red_red (n : Int) {d : Int} (h : 0 < d) : Red n d (n / gcdI n d) (d / gcdI n d) := by
  have hg := gcdI_pos n h
  have h1 := Int.ediv_mul_cancel (gcdI_n n d)
  have h2 := Int.ediv_mul_cancel (gcdI_d n d)
  have e1 : (n / gcdI n d).natAbs = n.natAbs / Nat.gcd n.natAbs d.natAbs := Int.natAbs_ediv_of_dvd (gcdI_n n d)
  have e2 : (d / gcdI n d).natAbs = d.natAbs / Nat.gcd n.natAbs d.natAbs := Int.natAbs_ediv_of_dvd (gcdI_d n d)
  refine ⟨?_, ?_, ?_⟩
  · rcases Int.lt_or_le 0 (d / gcdI n d) with h3 | h3
    · exact h3
    · have := Int.mul_nonpos_of_nonpos_of_nonneg h3 (Int.le_of_lt hg); omega
  · generalize n / gcdI n d = a at *
    generalize d / gcdI n d = b at *
    generalize gcdI n d = g at *
    subst h1; subst h2
    rw [Int.mul_assoc, Int.mul_comm b g]
  · rw [e1, e2]
    exact Nat.gcd_div_gcd_div_gcd_of_pos_right (by omega)
theorem red_unique {n d n' d' a b a' b' : Int} (h : Red n d a b) (h' : Red n' d' a' b') (hd : 0 < d) (hd' : 0 < d') (e : n * d' = n' * d) : a = a' ∧ b = b' := by
  have c : a * b' = a' * b := by
    have h1 : (a * b') * (d * d') = (a' * b) * (d * d') := by
      calc (a * b') * (d * d') = (a * d) * (b' * d') := by simp only [Int.mul_assoc, Int.mul_left_comm, Int.mul_comm]
        _ = (n * b) * (b' * d') := by rw [h.cross]
        _ = (n * d') * (b * b') := by simp only [Int.mul_assoc, Int.mul_left_comm, Int.mul_comm]
        _ = (n' * d) * (b * b') := by rw [e]
        _ = (n' * b') * (d * b) := by simp only [Int.mul_assoc, Int.mul_left_comm, Int.mul_comm]
        _ = (a' * d') * (d * b) := by rw [h'.cross]
        _ = (a' * b) * (d * d') := by simp only [Int.mul_assoc, Int.mul_left_comm, Int.mul_comm]
    exact Int.eq_of_mul_eq_mul_right (by have := Int.mul_pos hd hd'; omega) h1
  have hb := h.pos; have hb' := h'.pos
  have hn : a.natAbs * b'.natAbs = a'.natAbs * b.natAbs := by rw [← Int.natAbs_mul, ← Int.natAbs_mul, c]
  have d1 : b.natAbs ∣ b'.natAbs := by
    have : b.natAbs ∣ a.natAbs * b'.natAbs := ⟨a'.natAbs, by rw [hn, Nat.mul_comm]⟩
    exact (Nat.Coprime.symm h.cop).dvd_of_dvd_mul_left this
  have d2 : b'.natAbs ∣ b.natAbs := by
    have : b'.natAbs ∣ a'.natAbs * b.natAbs := ⟨a.natAbs, by rw [← hn, Nat.mul_comm]⟩
    exact (Nat.Coprime.symm h'.cop).dvd_of_dvd_mul_left this
  have eb : b.natAbs = b'.natAbs := Nat.dvd_antisymm d1 d2
  have eb' : b = b' := by omega
  subst eb'
  exact ⟨Int.eq_of_mul_eq_mul_right (by omega) c, rfl⟩
theorem redR_same {n d n' d' : Int} (hd : 0 < d) (hd' : 0 < d') (e : n * d' = n' * d) : redR n d = redR n' d' := by
  obtain ⟨h1, h2⟩ := red_unique (red_red n hd) (red_red n' hd') hd hd' e
  unfold redR
  rw [h1, h2]
theorem redR_ok {n d : Int} {r : Rt} (hd : 0 < d) (h : redR n d = (r, 0)) : rtOk r = true ∧ r.n * d = n * r.d := by
  have hr := red_red n hd
  unfold redR at h
  split at h
  · cases (Prod.mk.inj h).2
  · rename_i hh
    obtain ⟨rfl, _⟩ := Prod.mk.inj h
    have hp := hr.pos
    refine ⟨(rtOk_iff _).2 ⟨⟨by simp only; omega, by simp only; omega⟩, ⟨by simp only; omega, by simp only; omega⟩, hr.cop⟩, hr.cross⟩
theorem redR_self {r : Rt} (h : rtOk r = true) : redR r.n r.d = (r, 0) := by
  obtain ⟨⟨h1, h2⟩, ⟨h3, h4⟩, h5⟩ := (rtOk_iff r).1 h
  unfold redR gcdI
  rw [h5]
  simp only [Int.ofNat_one, Int.natCast_one, Int.ediv_one]
  rw [if_neg (by omega)]

/-- Sums, products, comparisons. -/
def addR2 (a b : Rt) : Rt × Int := if rtOk a && rtOk b then redR (a.n * b.d + b.n * a.d) (a.d * b.d) else (⟨0, 0⟩, 1)
def mulR2 (a b : Rt) : Rt × Int := if rtOk a && rtOk b then redR (a.n * b.n) (a.d * b.d) else (⟨0, 0⟩, 1)
def cmpR (a b : Rt) : Int := if a.n * b.d < b.n * a.d then -1 else if b.n * a.d < a.n * b.d then 1 else 0
/-- The sum of what n / d and m / d are is what (n + m) / d is. -/
theorem add_red {n m d : Int} {a b : Rt} (hd : 0 < d) (ha : redR n d = (a, 0)) (hb : redR m d = (b, 0)) : addR2 a b = redR (n + m) d := by
  obtain ⟨a1, a2⟩ := redR_ok hd ha
  obtain ⟨b1, b2⟩ := redR_ok hd hb
  have a3 := ((rtOk_iff a).1 a1).1.1
  have b3 := ((rtOk_iff b).1 b1).1.1
  unfold addR2
  rw [a1, b1]
  simp only [Bool.and_self, if_true]
  refine redR_same (Int.mul_pos (by omega) (by omega)) hd ?_
  calc (a.n * b.d + b.n * a.d) * d = (a.n * d) * b.d + (b.n * d) * a.d := by rw [Int.add_mul]; simp only [Int.mul_assoc, Int.mul_left_comm, Int.mul_comm]
    _ = (n * a.d) * b.d + (m * b.d) * a.d := by rw [a2, b2]
    _ = (n + m) * (a.d * b.d) := by rw [Int.add_mul]; simp only [Int.mul_assoc, Int.mul_left_comm, Int.mul_comm]
theorem mul_red {n d k : Int} {a : Rt} (hd : 0 < d) (hk : rtOk ⟨k, 1⟩ = true) (ha : redR n d = (a, 0)) : mulR2 a ⟨k, 1⟩ = redR (n * k) d := by
  obtain ⟨a1, a2⟩ := redR_ok hd ha
  have a3 := ((rtOk_iff a).1 a1).1.1
  unfold mulR2
  rw [a1, hk]
  simp only [Bool.and_self, if_true]
  refine redR_same (Int.mul_pos (by omega) (by omega)) hd ?_
  calc (a.n * k) * d = (a.n * d) * k := by simp only [Int.mul_assoc, Int.mul_left_comm, Int.mul_comm]
    _ = (n * a.d) * k := by rw [a2]
    _ = (n * k) * (a.d * 1) := by rw [Int.mul_one]; simp only [Int.mul_assoc, Int.mul_left_comm, Int.mul_comm]
theorem cmp_red {n m d : Int} {a b : Rt} (hd : 0 < d) (ha : redR n d = (a, 0)) (hb : redR m d = (b, 0)) : (cmpR a b < 0 ↔ n < m) ∧ (cmpR a b ≤ 0 ↔ n ≤ m) := by
  obtain ⟨a1, a2⟩ := redR_ok hd ha
  obtain ⟨b1, b2⟩ := redR_ok hd hb
  have a3 := ((rtOk_iff a).1 a1).1.1
  have b3 := ((rtOk_iff b).1 b1).1.1
  have hp : 0 < a.d * b.d := Int.mul_pos (by omega) (by omega)
  have e1 : (a.n * b.d) * d = n * (a.d * b.d) := by
    calc (a.n * b.d) * d = (a.n * d) * b.d := by simp only [Int.mul_assoc, Int.mul_left_comm, Int.mul_comm]
      _ = (n * a.d) * b.d := by rw [a2]
      _ = n * (a.d * b.d) := by rw [Int.mul_assoc]
  have e2 : (b.n * a.d) * d = m * (a.d * b.d) := by
    calc (b.n * a.d) * d = (b.n * d) * a.d := by simp only [Int.mul_assoc, Int.mul_left_comm, Int.mul_comm]
      _ = (m * b.d) * a.d := by rw [b2]
      _ = m * (a.d * b.d) := by simp only [Int.mul_assoc, Int.mul_left_comm, Int.mul_comm]
  have key : a.n * b.d < b.n * a.d ↔ n < m := by
    constructor
    · intro h
      have := Int.mul_lt_mul_of_pos_right h hd
      rw [e1, e2] at this
      exact Int.lt_of_mul_lt_mul_right this (Int.le_of_lt hp)
    · intro h
      have := Int.mul_lt_mul_of_pos_right h hp
      rw [← e1, ← e2] at this
      exact Int.lt_of_mul_lt_mul_right this (Int.le_of_lt hd)
  have key2 : b.n * a.d < a.n * b.d ↔ m < n := by
    constructor
    · intro h
      have := Int.mul_lt_mul_of_pos_right h hd
      rw [e1, e2] at this
      exact Int.lt_of_mul_lt_mul_right this (Int.le_of_lt hp)
    · intro h
      have := Int.mul_lt_mul_of_pos_right h hp
      rw [← e1, ← e2] at this
      exact Int.lt_of_mul_lt_mul_right this (Int.le_of_lt hd)
  unfold cmpR
  constructor
  · rw [← key]
    split <;> (try split) <;> simp_all <;> omega
  · split
    · rename_i h
      have := key.1 h
      constructor <;> (intro; omega)
    · split
      · rename_i h
        have := key2.1 h
        constructor <;> (intro; omega)
      · rename_i h1 h2
        have : ¬ m < n := fun h => h2 (key2.2 h)
        constructor <;> (intro; omega)
/-- r compared with need, for r = n / d: n times need's denominator against need's numerator times d. -/
theorem cmp_need {n d : Int} {a need : Rt} (hd : 0 < d) (ha : redR n d = (a, 0)) : 0 ≤ cmpR a need ↔ need.n * d ≤ n * need.d := by
  obtain ⟨a1, a2⟩ := redR_ok hd ha
  have a3 := ((rtOk_iff a).1 a1).1.1
  have key : a.n * need.d < need.n * a.d ↔ n * need.d < need.n * d := by
    have hp : 0 < a.d := by omega
    have e1 : (a.n * need.d) * d = (n * need.d) * a.d := by
      calc (a.n * need.d) * d = (a.n * d) * need.d := by simp only [Int.mul_assoc, Int.mul_left_comm, Int.mul_comm]
        _ = (n * a.d) * need.d := by rw [a2]
        _ = (n * need.d) * a.d := by simp only [Int.mul_assoc, Int.mul_left_comm, Int.mul_comm]
    have e2 : (need.n * a.d) * d = (need.n * d) * a.d := by simp only [Int.mul_assoc, Int.mul_left_comm, Int.mul_comm]
    constructor
    · intro h
      have := Int.mul_lt_mul_of_pos_right h hd
      rw [e1, e2] at this
      exact Int.lt_of_mul_lt_mul_right this (Int.le_of_lt hp)
    · intro h
      have := Int.mul_lt_mul_of_pos_right h hp
      rw [← e1, ← e2] at this
      exact Int.lt_of_mul_lt_mul_right this (Int.le_of_lt hd)
  unfold cmpR
  split
  · rename_i h
    have := key.1 h
    constructor <;> (intro; omega)
  · rename_i h
    have : ¬ n * need.d < need.n * d := fun h' => h (key.2 h')
    split <;> (constructor <;> (intro; omega))
open Go.RowKit Go.Sort

structure Te where
  bar : Int
  q : Rt
structure Po where
  bar : Int
  at_ : Rt
instance : DecidableEq Te := fun a b => decidable_of_iff (a.bar = b.bar ∧ a.q = b.q) ⟨fun ⟨h0, h1⟩ => by cases a; cases b; simp_all, fun h => by subst h; exact ⟨rfl, rfl⟩⟩
instance : DecidableEq Po := fun a b => decidable_of_iff (a.bar = b.bar ∧ a.at_ = b.at_) ⟨fun ⟨h0, h1⟩ => by cases a; cases b; simp_all, fun h => by subst h; exact ⟨rfl, rfl⟩⟩
instance : Inhabited Te := ⟨⟨0, ⟨0, 0⟩⟩⟩
def tempoB (q : Rt) : Bool := rtOk q && decide (1 ≤ q.n) && decide (q.n ≤ 10 * q.d) && decide (60 % q.d = 0)
/-- A tempo in 60ths of a second, or -1. -/
def scaleI (q : Rt) : Int := if tempoB q then q.n * (60 / q.d) else -1
structure TempoV (q : Rt) : Prop where
  ok : rtOk q = true
  n0 : 1 ≤ q.n
  n1 : q.n ≤ 10 * q.d
  div : 60 % q.d = 0
theorem tempoB_iff (q : Rt) : tempoB q = true ↔ TempoV q := by
  simp only [tempoB, Bool.and_eq_true, decide_eq_true_eq]
  exact ⟨fun ⟨⟨⟨a, b⟩, c⟩, d⟩ => ⟨a, b, c, d⟩, fun ⟨a, b, c, d⟩ => ⟨⟨⟨a, b⟩, c⟩, d⟩⟩
theorem TempoV.d1 {q : Rt} (h : TempoV q) : 1 ≤ q.d ∧ q.d ≤ 60 := by
  have := ((rtOk_iff q).1 h.ok).1.1
  have h2 := Int.le_of_dvd (by decide) (Int.dvd_of_emod_eq_zero h.div)
  exact ⟨this, h2⟩
theorem TempoV.whole {q : Rt} (h : TempoV q) : q.d * (60 / q.d) = 60 := Int.mul_ediv_cancel' (Int.dvd_of_emod_eq_zero h.div)
theorem scale_bd {q : Rt} (h : tempoB q = true) : 1 ≤ scaleI q ∧ scaleI q ≤ 600 := by
  rw [scaleI, if_pos h]
  have v := (tempoB_iff q).1 h
  obtain ⟨h1, h2⟩ := v.d1
  have h3 := v.whole
  have h0 := v.n0; have h4 := v.n1
  have h5 : 1 ≤ 60 / q.d := by
    rcases Int.lt_or_le 0 (60 / q.d) with h | h
    · exact h
    · have := Int.mul_nonpos_of_nonneg_of_nonpos (show 0 ≤ q.d by omega) h; omega
  generalize 60 / q.d = k at *
  have e1 : 1 * 1 ≤ q.n * k := Int.mul_le_mul h0 h5 (by decide) (by omega)
  have e2 : q.n * k ≤ 10 * q.d * k := Int.mul_le_mul_of_nonneg_right h4 (by omega)
  rw [Int.mul_assoc, h3] at e2
  omega
/-- A tempo of half the speed. -/
theorem scale_half {q r : Rt} (h : tempoB q = true) (hr : mulR2 q ⟨2, 1⟩ = (r, 0)) (ht : tempoB r = true) : scaleI r = 2 * scaleI q := by
  have v := (tempoB_iff q).1 h
  have u := (tempoB_iff r).1 ht
  have v1 := v.d1; have u1 := u.d1
  unfold mulR2 at hr
  rw [v.ok, show rtOk ⟨2, 1⟩ = true by decide] at hr
  simp only [Bool.and_self, if_true] at hr
  obtain ⟨_, h2⟩ := redR_ok (by omega) hr
  simp only [Int.mul_one] at h2
  rw [scaleI, if_pos ht, scaleI, if_pos h]
  have w1 := v.whole; have w2 := u.whole
  generalize 60 / q.d = k at *
  generalize 60 / r.d = j at *
  -- r.n * q.d = 2 q.n * r.d;  q.d * k = 60 = r.d * j
  have e : (r.n * j) * (q.d * 1) = (2 * (q.n * k)) * (q.d * 1) := by
    calc (r.n * j) * (q.d * 1) = (r.n * q.d) * j := by rw [Int.mul_one]; simp only [Int.mul_assoc, Int.mul_left_comm, Int.mul_comm]
      _ = (q.n * 2 * r.d) * j := by rw [h2]
      _ = (q.n * 2) * (r.d * j) := by rw [Int.mul_assoc]
      _ = (q.n * 2) * (q.d * k) := by rw [w2, w1]
      _ = (2 * (q.n * k)) * (q.d * 1) := by rw [Int.mul_one]; simp only [Int.mul_assoc, Int.mul_left_comm, Int.mul_comm]
  exact Int.eq_of_mul_eq_mul_right (by omega) e
def risingT : List Te → Bool
  | a :: b :: r => decide (a.bar < b.bar) && risingT (b :: r)
  | _ => true
def temposB (bars : List Ba) (l : List Te) : Bool :=
  barsB bars && decide (1 ≤ l.length) && decide (l.length ≤ 1000) && decide ((l.getD 0 default).bar = 0) && l.all (fun t => tempoB t.q && decide (t.bar < (bars.length : Int))) && risingT l
/-- The tempo of a bar. -/
def atT : List Te → Int → Rt
  | [], _ => ⟨0, 0⟩
  | t :: r, bar => if r.any (fun u => decide (u.bar ≤ bar)) then atT r bar else t.q
theorem atT_mem : ∀ (l : List Te) (bar : Int), l ≠ [] → ∃ t ∈ l, atT l bar = t.q
  | [], _, h => absurd rfl h
  | t :: r, bar, _ => by
    rw [atT]
    split
    · rename_i h
      have hr : r ≠ [] := by rintro rfl; cases h
      obtain ⟨u, hu, e⟩ := atT_mem r bar hr
      exact ⟨u, by simp [hu], e⟩
    · exact ⟨t, by simp, rfl⟩
theorem atT_map (f : Rt → Rt) : ∀ (l : List Te) (bar : Int), l ≠ [] → atT (l.map fun t => ⟨t.bar, f t.q⟩) bar = f (atT l bar)
  | [], _, h => absurd rfl h
  | t :: r, bar, _ => by
    rw [List.map_cons, atT, atT]
    have e : ((r.map fun t => (⟨t.bar, f t.q⟩ : Te)).any fun u => decide (u.bar ≤ bar)) = r.any fun u => decide (u.bar ≤ bar) := by
      rw [List.any_map]; rfl
    rw [e]
    split
    · rename_i h
      have hr : r ≠ [] := by rintro rfl; cases h
      exact atT_map f r bar hr
    · rfl
/-- How long the bars before one take, in 100800ths of a second; and what of a bar comes ahead of a place. -/
def barN (l : List Te) (bars : List Ba) (i : Nat) : Int := ticksI (bars.getD i default).len * scaleI (atT l i)
def beforeN (l : List Te) (bars : List Ba) : Nat → Int
  | 0 => 0
  | k + 1 => beforeN l bars k + barN l bars k
def inN (l : List Te) (bars : List Ba) (p : Po) : Int := if p.bar < bars.length then ticksI p.at_ * scaleI (atT l p.bar) else 0
def cumN (l : List Te) (bars : List Ba) (p : Po) : Int := beforeN l bars p.bar.toNat + inN l bars p
def posB (bars : List Ba) (p : Po) : Bool :=
  decide (0 ≤ p.bar) && decide (p.bar ≤ bars.length) && decide (0 ≤ ticksI p.at_) && (if p.bar = bars.length then decide (ticksI p.at_ = 0) else decide (ticksI p.at_ < ticksI (bars.getD p.bar.toNat default).len))
def laterB (a b : Po) : Bool := decide (b.bar < a.bar) || decide (a.bar = b.bar) && decide (ticksI b.at_ < ticksI a.at_)
/-- How long it takes from a place to a later one. -/
def secR (bars : List Ba) (l : List Te) (from_ until_ : Po) : Rt × Int :=
  if temposB bars l && posB bars from_ && posB bars until_ && !laterB from_ until_ then redR (cumN l bars until_ - cumN l bars from_) 100800 else (⟨0, 0⟩, 1)
structure PosV (bars : List Ba) (p : Po) : Prop where
  b0 : 0 ≤ p.bar
  b1 : p.bar ≤ bars.length
  t0 : 0 ≤ ticksI p.at_
  end_ : p.bar = bars.length → ticksI p.at_ = 0
  mid : p.bar ≠ bars.length → ticksI p.at_ < ticksI (bars.getD p.bar.toNat default).len
theorem posB_iff (bars : List Ba) (p : Po) : posB bars p = true ↔ PosV bars p := by
  simp only [posB, Bool.and_eq_true, decide_eq_true_eq]
  constructor
  · rintro ⟨⟨⟨a, b⟩, c⟩, d⟩
    refine ⟨a, b, c, fun e => ?_, fun e => ?_⟩
    · rw [if_pos e] at d; simpa using d
    · rw [if_neg e] at d; simpa using d
  · rintro ⟨a, b, c, d, e⟩
    refine ⟨⟨⟨a, b⟩, c⟩, ?_⟩
    split
    · rename_i h; simpa using d h
    · rename_i h; simpa using e h
/-- What is known of right tempos: every bar's is one. -/
structure TempV (bars : List Ba) (l : List Te) : Prop where
  bars : barsB bars = true
  at_ : ∀ bar, tempoB (atT l bar) = true
theorem temposB_v {bars : List Ba} {l : List Te} (h : temposB bars l = true) : TempV bars l := by
  simp only [temposB, Bool.and_eq_true, decide_eq_true_eq] at h
  obtain ⟨⟨⟨⟨⟨h1, h2⟩, h3⟩, h4⟩, h5⟩, h6⟩ := h
  refine ⟨h1, fun bar => ?_⟩
  have hne : l ≠ [] := by rintro rfl; simp at h2
  obtain ⟨t, ht, e⟩ := atT_mem l bar hne
  rw [List.all_eq_true] at h5
  have := h5 t ht
  rw [Bool.and_eq_true] at this
  rw [e]; exact this.1
theorem bar_ticks {bars : List Ba} (h : barsB bars = true) {i : Nat} (hi : i < bars.length) : 1 ≤ ticksI (bars.getD i default).len ∧ ticksI (bars.getD i default).len ≤ 40320 := by
  simp only [barsB, Bool.and_eq_true, decide_eq_true_eq] at h
  have := List.all_eq_true.1 h.1.2 (bars.getD i default) (by rw [List.getD_eq_getElem?_getD, List.getElem?_eq_getElem hi]; exact List.getElem_mem hi)
  simp only [barOk, Bool.and_eq_true, inB_iff] at this
  exact this.1.2
theorem barN_bd {bars : List Ba} {l : List Te} (h : TempV bars l) {i : Nat} (hi : i < bars.length) : 1 ≤ barN l bars i ∧ barN l bars i ≤ 24192000 := by
  obtain ⟨h1, h2⟩ := bar_ticks h.bars hi
  obtain ⟨h3, h4⟩ := scale_bd (h.at_ (i : Int))
  unfold barN
  have e1 : 1 * 1 ≤ ticksI (bars.getD i default).len * scaleI (atT l i) := Int.mul_le_mul h1 h3 (by decide) (by omega)
  have e2 : ticksI (bars.getD i default).len * scaleI (atT l i) ≤ 40320 * 600 := Int.mul_le_mul h2 h4 (by omega) (by decide)
  omega
theorem before_mono {bars : List Ba} {l : List Te} (h : TempV bars l) {i : Nat} : ∀ {j : Nat}, i ≤ j → j ≤ bars.length → beforeN l bars i ≤ beforeN l bars j := by
  intro j hij
  induction hij with
  | refl => intro _; exact Int.le_refl _
  | step hm ih =>
    intro hj
    rename_i m
    have := ih (by omega)
    have := (barN_bd h (i := m) (by omega)).1
    rw [beforeN]; omega
theorem before_bd {bars : List Ba} {l : List Te} (h : TempV bars l) : ∀ (j : Nat), j ≤ bars.length → 0 ≤ beforeN l bars j ∧ beforeN l bars j ≤ 24192000 * j
  | 0, _ => by simp [beforeN]
  | j + 1, hj => by
    have := before_bd h j (by omega)
    have := barN_bd h (i := j) (by omega)
    rw [beforeN]; omega
theorem inN_bd {bars : List Ba} {l : List Te} (h : TempV bars l) {p : Po} (hp : PosV bars p) : 0 ≤ inN l bars p ∧ (p.bar < bars.length → inN l bars p < barN l bars p.bar.toNat) ∧ (p.bar = bars.length → inN l bars p = 0) := by
  have h0 := hp.b0; have h1 := hp.b1; have h2 := hp.t0
  obtain ⟨h3, h4⟩ := scale_bd (h.at_ p.bar)
  unfold inN
  refine ⟨?_, ?_, ?_⟩
  · split
    · exact Int.mul_nonneg h2 (by omega)
    · omega
  · intro hb
    rw [if_pos hb]
    have hm := hp.mid (by omega)
    unfold barN
    rw [show ((p.bar.toNat : Nat) : Int) = p.bar by omega]
    exact Int.mul_lt_mul_of_pos_right hm (by omega)
  · intro hb
    rw [if_neg (by omega)]
/-- A later place has more ahead of it. -/
theorem cum_later {bars : List Ba} {l : List Te} (h : TempV bars l) {a b : Po} (ha : PosV bars a) (hb : PosV bars b) : laterB a b = true ↔ cumN l bars b < cumN l bars a := by
  have fwd : ∀ {a b : Po}, PosV bars a → PosV bars b → b.bar < a.bar → cumN l bars b < cumN l bars a := by
    intro a b ha hb hlt
    have a0 := ha.b0; have a1 := ha.b1; have b0 := hb.b0; have b1 := hb.b1
    have ia := inN_bd h ha; have ib := inN_bd h hb
    have h1 := ib.2.1 (by omega)
    have h2 := before_mono h (i := b.bar.toNat + 1) (j := a.bar.toNat) (by omega) (by omega)
    rw [beforeN] at h2
    unfold cumN
    omega
  have same : ∀ {a b : Po}, PosV bars a → PosV bars b → a.bar = b.bar → ticksI b.at_ < ticksI a.at_ → cumN l bars b < cumN l bars a := by
    intro a b ha hb e ht
    have a0 := ha.b0; have a1 := ha.b1; have b2 := hb.t0
    have hlt : a.bar < bars.length := by
      rcases Int.lt_or_le a.bar bars.length with h | h
      · exact h
      · have := ha.end_ (by omega); omega
    obtain ⟨h3, h4⟩ := scale_bd (h.at_ a.bar)
    unfold cumN inN
    rw [← e, if_pos hlt, if_pos hlt]
    have := Int.mul_lt_mul_of_pos_right ht (show 0 < scaleI (atT l a.bar) by omega)
    omega
  constructor
  · intro hl
    simp only [laterB, Bool.or_eq_true, Bool.and_eq_true, decide_eq_true_eq] at hl
    rcases hl with hl | ⟨e, hl⟩
    · exact fwd ha hb hl
    · exact same ha hb e hl
  · intro hc
    simp only [laterB, Bool.or_eq_true, Bool.and_eq_true, decide_eq_true_eq]
    rcases Int.lt_trichotomy b.bar a.bar with hl | e | hl
    · exact .inl hl
    · refine .inr ⟨e.symm, ?_⟩
      rcases Int.lt_trichotomy (ticksI b.at_) (ticksI a.at_) with h2 | h2 | h2
      · exact h2
      · exfalso
        unfold cumN inN at hc
        rw [e, h2] at hc
        omega
      · have := same hb ha e h2
        omega
    · have := fwd hb ha hl
      omega
open Go.RowKit Go.Sort

/-- So many 1680ths, as a ratio. -/
def ofT (n : Int) : Rt := ⟨n / gcdI n 1680, 1680 / gcdI n 1680⟩
theorem ofT_red {n : Int} (h0 : 0 ≤ n) (h1 : n ≤ 1000000000) : redR n 1680 = (ofT n, 0) := by
  have hg := gcdI_pos n (d := 1680) (by decide)
  unfold redR ofT
  have e1 : 1680 / gcdI n 1680 ≤ 1680 := Int.ediv_le_self _ (by decide)
  have e2 : n / gcdI n 1680 ≤ n := Int.ediv_le_self _ h0
  have e3 : 0 ≤ n / gcdI n 1680 := Int.ediv_nonneg h0 (by omega)
  rw [if_neg (by omega)]
theorem ofT_dur {n : Int} (h0 : 0 ≤ n) (h1 : n ≤ 1000000000) : durB (ofT n) = true ∧ ticksI (ofT n) = n := by
  obtain ⟨h2, h3⟩ := redR_ok (by decide) (ofT_red h0 h1)
  have hd : 1680 % (ofT n).d = 0 := by
    have hg := gcdI_d n 1680
    have : (ofT n).d ∣ 1680 := ⟨gcdI n 1680, (Int.ediv_mul_cancel hg).symm⟩
    exact Int.emod_eq_zero_of_dvd this
  have hn : 0 ≤ (ofT n).n := Int.ediv_nonneg h0 (Int.le_of_lt (gcdI_pos n (by decide)))
  have hdur : durB (ofT n) = true := by simp [durB, h2, hn, hd]
  refine ⟨hdur, ?_⟩
  rw [ticksI, if_pos hdur]
  have h6 : (ofT n).d * (1680 / (ofT n).d) = 1680 := Int.mul_ediv_cancel' (Int.dvd_of_emod_eq_zero hd)
  have hp := ((rtOk_iff _).1 h2).1.1
  generalize 1680 / (ofT n).d = k at *
  generalize (ofT n).n = a at *
  generalize (ofT n).d = b at *
  have e : (a * k) * b = n * b := by
    calc (a * k) * b = a * (b * k) := by simp only [Int.mul_assoc, Int.mul_left_comm, Int.mul_comm]
      _ = a * 1680 := by rw [h6]
      _ = n * b := h3
  exact Int.eq_of_mul_eq_mul_right (by omega) e
theorem zero_ticks : ticksI ⟨0, 1⟩ = 0 := by decide
/-- A duration is what its parts say. -/
theorem dur_of {r : Rt} (h : durB r = true) : r.n * 1680 = ticksI r * r.d := by
  obtain ⟨⟨h1, h2, h3⟩, _, _⟩ := (durB_iff r).1 h
  rw [ticksI, if_pos h]
  have h6 : r.d * (1680 / r.d) = 1680 := Int.mul_ediv_cancel' (Int.dvd_of_emod_eq_zero h3)
  generalize 1680 / r.d = k at *
  calc r.n * 1680 = r.n * (r.d * k) := by rw [h6]
    _ = (r.n * k) * r.d := by simp only [Int.mul_assoc, Int.mul_left_comm, Int.mul_comm]
theorem ofT_ticks {r : Rt} (h : durB r = true) (hb : ticksI r ≤ 1000000000) : ofT (ticksI r) = r := by
  have h1 := (ticks_nonneg h).1
  have e : redR r.n r.d = redR (ticksI r) 1680 := by
    have := ((durB_iff r).1 h).1.1
    exact redR_same (by omega) (by decide) (dur_of h)
  rw [redR_self (by simp only [durB, Bool.and_eq_true] at h; exact h.1.1), ofT_red h1 hb] at e
  exact (Prod.mk.inj e).1.symm
theorem add_dur {a b : Rt} (ha : durB a = true) (hb : durB b = true) (hs : ticksI a + ticksI b ≤ 1000000000) : addR2 a b = (ofT (ticksI a + ticksI b), 0) := by
  have a1 : rtOk a = true := by simp only [durB, Bool.and_eq_true] at ha; exact ha.1.1
  have b1 : rtOk b = true := by simp only [durB, Bool.and_eq_true] at hb; exact hb.1.1
  have a0 := (ticks_nonneg ha).1; have b0 := (ticks_nonneg hb).1
  have a3 := ((rtOk_iff a).1 a1).1.1
  have b3 := ((rtOk_iff b).1 b1).1.1
  rw [← ofT_red (by omega) hs]
  unfold addR2
  rw [a1, b1]
  simp only [Bool.and_self, if_true]
  refine redR_same (Int.mul_pos (by omega) (by omega)) (by decide) ?_
  have e1 := dur_of ha; have e2 := dur_of hb
  calc (a.n * b.d + b.n * a.d) * 1680 = (a.n * 1680) * b.d + (b.n * 1680) * a.d := by rw [Int.add_mul]; simp only [Int.mul_assoc, Int.mul_left_comm, Int.mul_comm]
    _ = (ticksI a * a.d) * b.d + (ticksI b * b.d) * a.d := by rw [e1, e2]
    _ = (ticksI a + ticksI b) * (a.d * b.d) := by rw [Int.add_mul]; simp only [Int.mul_assoc, Int.mul_left_comm, Int.mul_comm]

def startP (i : Nat) : Po := ⟨i, ⟨0, 1⟩⟩
/-- Where a note of a measure ends. -/
def endP (i : Nat) (m : MeP) (w : Wr) : Po := if ticksI w.start + ticksI w.len = ticksI m.len then startP (i + 1) else ⟨i, ofT (ticksI w.start + ticksI w.len)⟩
def endsL (ms : List MeP) (i k : Nat) : List Po := (List.range' i k).flatMap fun i => (ms.getD i default).notes.map (endP i (ms.getD i default))
def fromsL (ms : List MeP) (i k : Nat) : List Po := (List.range' i k).flatMap fun i => (ms.getD i default).notes.map fun w => ⟨i, w.start⟩
def maxP (p : Po) (l : List Po) : Po := l.foldl (fun out q => if laterB q out then q else out) p
def minP (p : Po) (l : List Po) : Po := l.foldl (fun out q => if laterB out q then q else out) p
def sinceP (ms : List MeP) (at_ : Nat) : Po := maxP (startP 0) (endsL ms 0 at_)
def untilP (ms : List MeP) (at_ : Nat) : Po := minP (startP ms.length) (fromsL ms at_ (ms.length - at_))
/-- A view's measures fit bars. -/
structure VwOk (bars : List Ba) (ms : List MeP) : Prop where
  len : ms.length = bars.length
  meas : ∀ i, i < bars.length → (ms.getD i default).len = (bars.getD i default).len
  note : ∀ i, i < bars.length → ∀ w ∈ (ms.getD i default).notes, durB w.start = true ∧ durB w.len = true ∧ 0 < ticksI w.len ∧ ticksI w.start + ticksI w.len ≤ ticksI (bars.getD i default).len
theorem maxP_mem (l : List Po) : ∀ p, maxP p l = p ∨ maxP p l ∈ l := by
  induction l with
  | nil => intro p; exact .inl rfl
  | cons q l ih =>
    intro p
    unfold maxP
    rw [List.foldl_cons]
    rcases ih (if laterB q p then q else p) with h | h
    · unfold maxP at h
      rw [h]
      split
      · exact .inr (by simp)
      · exact .inl rfl
    · exact .inr (List.mem_cons_of_mem _ h)
theorem minP_mem (l : List Po) : ∀ p, minP p l = p ∨ minP p l ∈ l := by
  induction l with
  | nil => intro p; exact .inl rfl
  | cons q l ih =>
    intro p
    unfold minP
    rw [List.foldl_cons]
    rcases ih (if laterB p q then q else p) with h | h
    · unfold minP at h
      rw [h]
      split
      · exact .inr (by simp)
      · exact .inl rfl
    · exact .inr (List.mem_cons_of_mem _ h)
theorem maxP_top {bars : List Ba} {l : List Te} (h : TempV bars l) : ∀ (ps : List Po) (p : Po), PosV bars p → (∀ q ∈ ps, PosV bars q) → PosV bars (maxP p ps) ∧ cumN l bars p ≤ cumN l bars (maxP p ps) ∧ ∀ q ∈ ps, cumN l bars q ≤ cumN l bars (maxP p ps)
  | [], p, hp, _ => ⟨hp, Int.le_refl _, by simp⟩
  | q :: ps, p, hp, hq => by
    have hqq := hq q (by simp)
    have hl := cum_later h hqq hp
    unfold maxP
    rw [List.foldl_cons]
    by_cases e : laterB q p = true
    · rw [if_pos e]
      obtain ⟨h1, h2, h3⟩ := maxP_top h ps q hqq fun x hx => hq x (by simp [hx])
      have := hl.1 e
      unfold maxP at h1 h2 h3
      refine ⟨h1, by omega, fun x hx => ?_⟩
      rw [List.mem_cons] at hx
      rcases hx with rfl | hx
      · exact h2
      · exact h3 x hx
    · rw [if_neg e]
      obtain ⟨h1, h2, h3⟩ := maxP_top h ps p hp fun x hx => hq x (by simp [hx])
      have : ¬ cumN l bars p < cumN l bars q := fun x => e (hl.2 x)
      unfold maxP at h1 h2 h3
      refine ⟨h1, h2, fun x hx => ?_⟩
      rw [List.mem_cons] at hx
      rcases hx with rfl | hx
      · omega
      · exact h3 x hx
theorem minP_top {bars : List Ba} {l : List Te} (h : TempV bars l) : ∀ (ps : List Po) (p : Po), PosV bars p → (∀ q ∈ ps, PosV bars q) → PosV bars (minP p ps) ∧ cumN l bars (minP p ps) ≤ cumN l bars p ∧ ∀ q ∈ ps, cumN l bars (minP p ps) ≤ cumN l bars q
  | [], p, hp, _ => ⟨hp, Int.le_refl _, by simp⟩
  | q :: ps, p, hp, hq => by
    have hqq := hq q (by simp)
    have hl := cum_later h hp hqq
    unfold minP
    rw [List.foldl_cons]
    by_cases e : laterB p q = true
    · rw [if_pos e]
      obtain ⟨h1, h2, h3⟩ := minP_top h ps q hqq fun x hx => hq x (by simp [hx])
      have := hl.1 e
      unfold minP at h1 h2 h3
      refine ⟨h1, by omega, fun x hx => ?_⟩
      rw [List.mem_cons] at hx
      rcases hx with rfl | hx
      · exact h2
      · exact h3 x hx
    · rw [if_neg e]
      obtain ⟨h1, h2, h3⟩ := minP_top h ps p hp fun x hx => hq x (by simp [hx])
      have : ¬ cumN l bars q < cumN l bars p := fun x => e (hl.2 x)
      unfold minP at h1 h2 h3
      refine ⟨h1, h2, fun x hx => ?_⟩
      rw [List.mem_cons] at hx
      rcases hx with rfl | hx
      · omega
      · exact h3 x hx
theorem startP_v {bars : List Ba} (h : barsB bars = true) {i : Nat} (hi : i ≤ bars.length) : PosV bars (startP i) := by
  refine ⟨by simp only [startP]; omega, by simp only [startP]; omega, by simp only [startP, zero_ticks]; omega, fun _ => zero_ticks, fun hne => ?_⟩
  have hlt : i < bars.length := by simp only [startP] at hne; omega
  simp only [startP, zero_ticks, Int.toNat_natCast]
  have := (bar_ticks h hlt).1
  omega
theorem cum_start (l : List Te) (bars : List Ba) (i : Nat) : cumN l bars (startP i) = beforeN l bars i := by
  unfold cumN inN
  simp only [startP, zero_ticks, Int.zero_mul, Int.toNat_natCast]
  split <;> omega
theorem endP_v {bars : List Ba} {ms : List MeP} (hb : barsB bars = true) (h : VwOk bars ms) {i : Nat} (hi : i < bars.length) {w : Wr} (hw : w ∈ (ms.getD i default).notes) : PosV bars (endP i (ms.getD i default) w) := by
  obtain ⟨h1, h2, h3, h4⟩ := h.note i hi w hw
  have h0 := (ticks_nonneg h1).1
  have hbt := bar_ticks hb hi
  unfold endP
  split
  · exact startP_v hb (by omega)
  · rename_i hne
    rw [h.meas i hi] at hne
    have ht := (ofT_dur (n := ticksI w.start + ticksI w.len) (by omega) (by omega)).2
    refine ⟨by simp only; omega, by simp only; omega, by simp only [ht]; omega, fun e => by simp only at e; omega, fun _ => ?_⟩
    simp only [ht, Int.toNat_natCast]
    omega
theorem fromP_v {bars : List Ba} {ms : List MeP} (h : VwOk bars ms) {i : Nat} (hi : i < bars.length) {w : Wr} (hw : w ∈ (ms.getD i default).notes) : PosV bars ⟨i, w.start⟩ := by
  obtain ⟨h1, h2, h3, h4⟩ := h.note i hi w hw
  have h0 := (ticks_nonneg h1).1
  refine ⟨by simp only; omega, by simp only; omega, h0, fun e => by simp only at e; omega, fun _ => ?_⟩
  simp only [Int.toNat_natCast]
  omega
theorem mem_ends {ms : List MeP} {i k : Nat} {q : Po} (h : q ∈ endsL ms i k) : ∃ j, i ≤ j ∧ j < i + k ∧ ∃ w ∈ (ms.getD j default).notes, q = endP j (ms.getD j default) w := by
  unfold endsL at h
  obtain ⟨j, hj, hq⟩ := List.mem_flatMap.1 h
  obtain ⟨w, hw, rfl⟩ := List.mem_map.1 hq
  rw [List.mem_range'_1] at hj
  exact ⟨j, hj.1, hj.2, w, hw, rfl⟩
theorem mem_froms {ms : List MeP} {i k : Nat} {q : Po} (h : q ∈ fromsL ms i k) : ∃ j, i ≤ j ∧ j < i + k ∧ ∃ w ∈ (ms.getD j default).notes, q = ⟨j, w.start⟩ := by
  unfold fromsL at h
  obtain ⟨j, hj, hq⟩ := List.mem_flatMap.1 h
  obtain ⟨w, hw, rfl⟩ := List.mem_map.1 hq
  rw [List.mem_range'_1] at hj
  exact ⟨j, hj.1, hj.2, w, hw, rfl⟩
theorem ends_mem {ms : List MeP} {i k j : Nat} {w : Wr} (h1 : i ≤ j) (h2 : j < i + k) (hw : w ∈ (ms.getD j default).notes) : endP j (ms.getD j default) w ∈ endsL ms i k := by
  unfold endsL
  exact List.mem_flatMap.2 ⟨j, List.mem_range'_1.2 ⟨h1, h2⟩, List.mem_map.2 ⟨w, hw, rfl⟩⟩
theorem froms_mem {ms : List MeP} {i k j : Nat} {w : Wr} (h1 : i ≤ j) (h2 : j < i + k) (hw : w ∈ (ms.getD j default).notes) : (⟨j, w.start⟩ : Po) ∈ fromsL ms i k := by
  unfold fromsL
  exact List.mem_flatMap.2 ⟨j, List.mem_range'_1.2 ⟨h1, h2⟩, List.mem_map.2 ⟨w, hw, rfl⟩⟩
/-- How much is ahead of a note's end: no more than of its bar's end; more than of its bar. -/
theorem cum_end {bars : List Ba} {l : List Te} {ms : List MeP} (h : TempV bars l) (hv : VwOk bars ms) {i : Nat} (hi : i < bars.length) {w : Wr} (hw : w ∈ (ms.getD i default).notes) :
    cumN l bars (endP i (ms.getD i default) w) = beforeN l bars i + (ticksI w.start + ticksI w.len) * scaleI (atT l i) ∧ cumN l bars ⟨i, w.start⟩ = beforeN l bars i + ticksI w.start * scaleI (atT l i) := by
  obtain ⟨h1, h2, h3, h4⟩ := hv.note i hi w hw
  have h0 := (ticks_nonneg h1).1
  have hbt := bar_ticks h.bars hi
  constructor
  · unfold endP
    split
    · rename_i e
      rw [cum_start, beforeN, barN, e, hv.meas i hi]
    · have ht := (ofT_dur (n := ticksI w.start + ticksI w.len) (by omega) (by omega)).2
      unfold cumN inN
      simp only [Int.toNat_natCast, ht]
      rw [if_pos (by omega)]
  · unfold cumN inN
    simp only [Int.toNat_natCast]
    rw [if_pos (by omega)]
theorem since_says {bars : List Ba} {l : List Te} {ms : List MeP} (h : TempV bars l) (hv : VwOk bars ms) {k : Nat} (hk : k ≤ bars.length) :
    PosV bars (sinceP ms k) ∧ 0 ≤ cumN l bars (sinceP ms k) ∧ cumN l bars (sinceP ms k) ≤ beforeN l bars k ∧ ∀ q ∈ endsL ms 0 k, cumN l bars q ≤ cumN l bars (sinceP ms k) := by
  have hall : ∀ q ∈ endsL ms 0 k, PosV bars q ∧ cumN l bars q ≤ beforeN l bars k := by
    intro q hq
    obtain ⟨j, h1, h2, w, hw, rfl⟩ := mem_ends hq
    have hj : j < bars.length := by omega
    refine ⟨endP_v h.bars hv hj hw, ?_⟩
    rw [(cum_end h hv hj hw).1]
    have hs := scale_bd (h.at_ (j : Int))
    have h4 := (hv.note j hj w hw).2.2.2
    have := Int.mul_le_mul_of_nonneg_right h4 (show 0 ≤ scaleI (atT l j) by omega)
    have hb := before_mono h (i := j + 1) (j := k) (by omega) hk
    rw [beforeN, barN] at hb
    omega
  obtain ⟨h1, h2, h3⟩ := maxP_top h (endsL ms 0 k) (startP 0) (startP_v h.bars (Nat.zero_le _)) fun q hq => (hall q hq).1
  rw [cum_start] at h2
  refine ⟨h1, by simpa [beforeN, sinceP] using h2, ?_, h3⟩
  rcases maxP_mem (endsL ms 0 k) (startP 0) with e | e
  · unfold sinceP
    rw [e, cum_start]
    exact before_mono h (Nat.zero_le _) hk
  · exact (hall _ e).2
theorem until_says {bars : List Ba} {l : List Te} {ms : List MeP} (h : TempV bars l) (hv : VwOk bars ms) {k : Nat} (hk : k ≤ bars.length) :
    PosV bars (untilP ms k) ∧ beforeN l bars k ≤ cumN l bars (untilP ms k) ∧ cumN l bars (untilP ms k) ≤ beforeN l bars bars.length ∧ ∀ q ∈ fromsL ms k (ms.length - k), cumN l bars (untilP ms k) ≤ cumN l bars q := by
  have hl := hv.len
  have hall : ∀ q ∈ fromsL ms k (ms.length - k), PosV bars q ∧ beforeN l bars k ≤ cumN l bars q := by
    intro q hq
    obtain ⟨j, h1, h2, w, hw, rfl⟩ := mem_froms hq
    have hj : j < bars.length := by omega
    refine ⟨fromP_v hv hj hw, ?_⟩
    rw [(cum_end h hv hj hw).2]
    have hs := scale_bd (h.at_ (j : Int))
    have h4 := (ticks_nonneg (hv.note j hj w hw).1).1
    have := Int.mul_nonneg h4 (show 0 ≤ scaleI (atT l j) by omega)
    have hb := before_mono h h1 (by omega)
    omega
  obtain ⟨h1, h2, h3⟩ := minP_top h (fromsL ms k (ms.length - k)) (startP ms.length) (startP_v h.bars (by omega)) fun q hq => (hall q hq).1
  rw [cum_start, hl] at h2
  refine ⟨h1, ?_, ?_, h3⟩
  · rcases minP_mem (fromsL ms k (ms.length - k)) (startP ms.length) with e | e
    · unfold untilP
      rw [e, cum_start, hl]
      exact before_mono h hk (Nat.le_refl _)
    · exact (hall _ e).2
  · unfold untilP
    rw [hl]; exact h2
/-- Seconds between right places, the first not later. -/
theorem sec_is {bars : List Ba} {l : List Te} (ht : temposB bars l = true) {a b : Po} (ha : PosV bars a) (hb : PosV bars b) (hle : cumN l bars a ≤ cumN l bars b) : secR bars l a b = redR (cumN l bars b - cumN l bars a) 100800 := by
  have h := temposB_v ht
  have hl : laterB a b = false := by
    rw [Bool.eq_false_iff]
    intro e
    have := (cum_later h ha hb).1 e
    omega
  unfold secR
  rw [ht, (posB_iff bars a).2 ha, (posB_iff bars b).2 hb, hl]
  simp
open Go.RowKit Go.Sort

/-- Both times of a place; 3: one of them is out of the limits. -/
def freeR (bars : List Ba) (l : List Te) (ms : List MeP) (k : Nat) : (Rt × Rt) × Int :=
  if (secR bars l (sinceP ms k) (startP k)).2 = 0 ∧ (secR bars l (startP k) (untilP ms k)).2 = 0 then (((secR bars l (sinceP ms k) (startP k)).1, (secR bars l (startP k) (untilP ms k)).1), 0) else ((⟨0, 0⟩, ⟨0, 0⟩), 3)
def goodR (bars : List Ba) (l : List Te) (ms : List MeP) (need : Rt) : Option (List Bool) :=
  if (List.range ms.length).all (fun i => decide ((secR bars l (sinceP ms i) (untilP ms i)).2 = 0)) then some ((List.range ms.length).map fun i => decide (0 ≤ cmpR (secR bars l (sinceP ms i) (untilP ms i)).1 need)) else none
def aheadN (bars : List Ba) (l : List Te) (ms : List MeP) (k : Nat) : Int := beforeN l bars k - cumN l bars (sinceP ms k)
def behindN (bars : List Ba) (l : List Te) (ms : List MeP) (k : Nat) : Int := cumN l bars (untilP ms k) - beforeN l bars k
section
variable {bars : List Ba} {l : List Te} {ms : List MeP}
theorem ahead_is (ht : temposB bars l = true) (hv : VwOk bars ms) {k : Nat} (hk : k ≤ bars.length) : secR bars l (sinceP ms k) (startP k) = redR (aheadN bars l ms k) 100800 ∧ 0 ≤ aheadN bars l ms k := by
  have h := temposB_v ht
  obtain ⟨h1, h2, h3, h4⟩ := since_says h hv hk
  rw [sec_is ht h1 (startP_v h.bars hk) (by rw [cum_start]; exact h3), cum_start]
  exact ⟨rfl, by unfold aheadN; omega⟩
theorem behind_is (ht : temposB bars l = true) (hv : VwOk bars ms) {k : Nat} (hk : k ≤ bars.length) : secR bars l (startP k) (untilP ms k) = redR (behindN bars l ms k) 100800 ∧ 0 ≤ behindN bars l ms k := by
  have h := temposB_v ht
  obtain ⟨h1, h2, h3, h4⟩ := until_says h hv hk
  rw [sec_is ht (startP_v h.bars hk) h1 (by rw [cum_start]; exact h2), cum_start]
  exact ⟨rfl, by unfold behindN; omega⟩
theorem both_is (ht : temposB bars l = true) (hv : VwOk bars ms) {k : Nat} (hk : k ≤ bars.length) : secR bars l (sinceP ms k) (untilP ms k) = redR (aheadN bars l ms k + behindN bars l ms k) 100800 := by
  have h := temposB_v ht
  obtain ⟨h1, h2, h3, h4⟩ := since_says h hv hk
  obtain ⟨g1, g2, g3, g4⟩ := until_says h hv hk
  rw [sec_is ht h1 g1 (by omega)]
  unfold aheadN behindN
  congr 1
  omega
theorem free_ok (ht : temposB bars l = true) (hv : VwOk bars ms) {k : Nat} (hk : k ≤ bars.length) {a b : Rt} (h : freeR bars l ms k = ((a, b), 0)) : redR (aheadN bars l ms k) 100800 = (a, 0) ∧ redR (behindN bars l ms k) 100800 = (b, 0) := by
  unfold freeR at h
  rw [(ahead_is ht hv hk).1, (behind_is ht hv hk).1] at h
  split at h
  · rename_i he
    obtain ⟨h1, _⟩ := Prod.mk.inj h
    obtain ⟨rfl, rfl⟩ := Prod.mk.inj h1
    exact ⟨Prod.ext rfl he.1, Prod.ext rfl he.2⟩
  · cases (Prod.mk.inj h).2
theorem free_cases (k : Nat) : (∃ a b, freeR bars l ms k = ((a, b), 0)) ∨ (freeR bars l ms k).2 = 3 := by
  unfold freeR
  split
  · exact .inl ⟨_, _, rfl⟩
  · exact .inr rfl
/-- The sum of both times. -/
theorem free_sum (ht : temposB bars l = true) (hv : VwOk bars ms) {k : Nat} (hk : k ≤ bars.length) {a b : Rt} (h : freeR bars l ms k = ((a, b), 0)) : addR2 a b = redR (aheadN bars l ms k + behindN bars l ms k) 100800 := by
  obtain ⟨h1, h2⟩ := free_ok ht hv hk h
  exact add_red (by decide) h1 h2

/-- TurnTogether. -/
theorem good_none (need need' : Rt) : goodR bars l ms need = none ↔ goodR bars l ms need' = none := by
  unfold goodR
  split <;> simp
theorem good_len {need : Rt} {r : List Bool} (h : goodR bars l ms need = some r) : r.length = ms.length := by
  unfold goodR at h
  split at h
  · injection h with h
    subst h
    simp
  · cases h
theorem good_at (ht : temposB bars l = true) (hv : VwOk bars ms) {need : Rt} {r : List Bool} (h : goodR bars l ms need = some r) {i : Nat} (hi : i < ms.length) :
    ∃ f, redR (aheadN bars l ms i + behindN bars l ms i) 100800 = (f, 0) ∧ r.getD i false = decide (0 ≤ cmpR f need) := by
  have hl := hv.len
  unfold goodR at h
  split at h
  · rename_i ha
    injection h with h
    rw [List.all_eq_true] at ha
    have := ha i (List.mem_range.2 hi)
    rw [decide_eq_true_eq] at this
    have hb := both_is ht hv (k := i) (by omega)
    rw [hb] at this
    refine ⟨(redR (aheadN bars l ms i + behindN bars l ms i) 100800).1, Prod.ext rfl this, ?_⟩
    rw [← h, List.getD_eq_getElem?_getD, List.getElem?_map, List.getElem?_range hi]
    simp only [Option.map_some, Option.getD_some, hb]
  · cases h
theorem good_zero (ht : temposB bars l = true) (hv : VwOk bars ms) {r : List Bool} (h : goodR bars l ms ⟨0, 1⟩ = some r) {i : Nat} (hi : i < ms.length) : r.getD i false = true := by
  obtain ⟨f, h1, h2⟩ := good_at ht hv h hi
  have hl := hv.len
  have ha := (ahead_is ht hv (k := i) (by omega)).2
  have hb := (behind_is ht hv (k := i) (by omega)).2
  rw [h2, decide_eq_true_eq, cmp_need (by decide) h1]
  simp only [Int.zero_mul, Int.mul_one]
  omega
theorem good_sum (ht : temposB bars l = true) (hv : VwOk bars ms) {need : Rt} {r : List Bool} (h : goodR bars l ms need = some r) {i : Nat} (hi : i < ms.length) {a b c : Rt} (hf : freeR bars l ms i = ((a, b), 0)) (hs : addR2 a b = (c, 0)) :
    r.getD i false = decide (0 ≤ cmpR c need) := by
  obtain ⟨f, h1, h2⟩ := good_at ht hv h hi
  have hl := hv.len
  rw [free_sum ht hv (by omega) hf, h1] at hs
  obtain ⟨rfl, _⟩ := Prod.mk.inj hs
  exact h2
theorem good_less (ht : temposB bars l = true) (hv : VwOk bars ms) {need less : Rt} (hn : rtOk need = true) (hl : rtOk less = true) (hc : cmpR less need ≤ 0) {r q : List Bool} (h : goodR bars l ms need = some r) (h' : goodR bars l ms less = some q) {i : Nat} (hi : i < ms.length) :
    r.getD i false = true → q.getD i false = true := by
  obtain ⟨f, h1, h2⟩ := good_at ht hv h hi
  obtain ⟨g, h3, h4⟩ := good_at ht hv h' hi
  rw [h2, h4, decide_eq_true_eq, decide_eq_true_eq, cmp_need (by decide) h1, cmp_need (by decide) h3]
  have n1 := ((rtOk_iff need).1 hn).1.1
  have l1 := ((rtOk_iff less).1 hl).1.1
  have hle : less.n * need.d ≤ need.n * less.d := by
    unfold cmpR at hc
    split at hc
    · omega
    · split at hc
      · omega
      · omega
  intro hh
  generalize aheadN bars l ms i + behindN bars l ms i = n at *
  have e1 : (less.n * 100800) * need.d ≤ (n * less.d) * need.d := by
    calc (less.n * 100800) * need.d = (less.n * need.d) * 100800 := by simp only [Int.mul_assoc, Int.mul_left_comm, Int.mul_comm]
      _ ≤ (need.n * less.d) * 100800 := Int.mul_le_mul_of_nonneg_right hle (by decide)
      _ = (need.n * 100800) * less.d := by simp only [Int.mul_assoc, Int.mul_left_comm, Int.mul_comm]
      _ ≤ (n * need.d) * less.d := Int.mul_le_mul_of_nonneg_right hh (by omega)
      _ = (n * less.d) * need.d := by simp only [Int.mul_assoc, Int.mul_left_comm, Int.mul_comm]
  exact Int.le_of_mul_le_mul_right e1 (by omega)

/-- TurnSame. -/
theorem ends_succ (ms : List MeP) (k : Nat) : endsL ms 0 (k + 1) = endsL ms 0 k ++ (ms.getD k default).notes.map (endP k (ms.getD k default)) := by
  unfold endsL
  rw [List.range'_1_concat, List.flatMap_append]
  simp
theorem froms_pred (ms : List MeP) (k j : Nat) : fromsL ms k (j + 1) = ((ms.getD k default).notes.map fun w => (⟨k, w.start⟩ : Po)) ++ fromsL ms (k + 1) j := by
  unfold fromsL
  rw [List.range'_succ, List.flatMap_cons]
theorem same_none {k : Nat} (hk : k < ms.length) (h : (ms.getD k default).notes = []) : sinceP ms (k + 1) = sinceP ms k ∧ untilP ms (k + 1) = untilP ms k := by
  unfold sinceP untilP
  rw [ends_succ, h]
  constructor
  · simp
  · have : ms.length - k = (ms.length - (k + 1)) + 1 := by omega
    rw [this, froms_pred, h]
    simp
theorem same_sum {k : Nat} (hk : k < ms.length) (h : (ms.getD k default).notes = []) : aheadN bars l ms (k + 1) + behindN bars l ms (k + 1) = aheadN bars l ms k + behindN bars l ms k := by
  obtain ⟨h1, h2⟩ := same_none hk h
  unfold aheadN behindN
  rw [h1, h2]
  omega
theorem some_less (ht : temposB bars l = true) (hv : VwOk bars ms) {k : Nat} (hk : k < bars.length) {w : Wr} (hw : w ∈ (ms.getD k default).notes) : behindN bars l ms k < barN l bars k ∧ aheadN bars l ms (k + 1) < barN l bars k := by
  have h := temposB_v ht
  have hl := hv.len
  obtain ⟨c1, c2⟩ := cum_end h hv hk hw
  obtain ⟨n1, n2, n3, n4⟩ := hv.note k hk w hw
  have n0 := (ticks_nonneg n1).1
  have hs := scale_bd (h.at_ (k : Int))
  constructor
  · have hu := (until_says h hv (k := k) (by omega)).2.2.2 ⟨k, w.start⟩ (froms_mem (Nat.le_refl _) (by omega) hw)
    rw [c2] at hu
    have := Int.mul_lt_mul_of_pos_right (show ticksI w.start < ticksI (bars.getD k default).len by omega) (show 0 < scaleI (atT l k) by omega)
    unfold behindN barN
    omega
  · have hu := (since_says h hv (k := k + 1) (by omega)).2.2.2 _ (ends_mem (i := 0) (j := k) (by omega) (by omega) hw)
    rw [c1] at hu
    have := Int.mul_pos (show 0 < ticksI w.start + ticksI w.len by omega) (show 0 < scaleI (atT l k) by omega)
    unfold aheadN
    rw [beforeN]
    omega
theorem bar_is (ht : temposB bars l = true) {k : Nat} (hk : k < bars.length) : secR bars l (startP k) (startP (k + 1)) = redR (barN l bars k) 100800 := by
  have h := temposB_v ht
  have hb := (barN_bd h hk).1
  rw [sec_is ht (startP_v h.bars (by omega)) (startP_v h.bars (by omega)) (by rw [cum_start, cum_start, beforeN]; omega), cum_start, cum_start, beforeN]
  congr 1
  omega

/-- TurnSlower. -/
theorem tempo_twice {q : Rt} (h : tempoB q = true) : ∃ r, mulR2 q ⟨2, 1⟩ = (r, 0) := by
  have v := (tempoB_iff q).1 h
  have v1 := v.d1
  have n0 := v.n0; have n1 := v.n1
  unfold mulR2
  rw [v.ok, show rtOk ⟨2, 1⟩ = true by decide]
  simp only [Bool.and_self, if_true, Int.mul_one]
  have hg := gcdI_pos (q.n * 2) (d := q.d) (by omega)
  unfold redR
  have e1 : q.d / gcdI (q.n * 2) q.d ≤ q.d := Int.ediv_le_self _ (by omega)
  have e2 : q.n * 2 / gcdI (q.n * 2) q.d ≤ q.n * 2 := Int.ediv_le_self _ (by omega)
  have e3 : 0 ≤ q.n * 2 / gcdI (q.n * 2) q.d := Int.ediv_nonneg (by omega) (by omega)
  rw [if_neg (by omega)]
  exact ⟨_, rfl⟩
/-- The tempos, half as fast. -/
def slowT (l : List Te) : List Te := l.map fun t => ⟨t.bar, (mulR2 t.q ⟨2, 1⟩).1⟩
theorem slow_scale (ht : temposB bars l = true) (hs : temposB bars (slowT l) = true) (bar : Int) : scaleI (atT (slowT l) bar) = 2 * scaleI (atT l bar) := by
  have h := temposB_v ht
  have g := temposB_v hs
  have hne : l ≠ [] := by
    rintro rfl
    simp [temposB] at ht
  have e : atT (slowT l) bar = (mulR2 (atT l bar) ⟨2, 1⟩).1 := atT_map (fun q => (mulR2 q ⟨2, 1⟩).1) l bar hne
  obtain ⟨r, hr⟩ := tempo_twice (h.at_ bar)
  have := g.at_ bar
  rw [e, hr] at this
  rw [e, hr]
  exact scale_half (h.at_ bar) hr this
theorem slow_before (ht : temposB bars l = true) (hs : temposB bars (slowT l) = true) : ∀ k, beforeN (slowT l) bars k = 2 * beforeN l bars k
  | 0 => rfl
  | k + 1 => by
    rw [beforeN, beforeN, slow_before ht hs k, barN, barN, slow_scale ht hs, Int.mul_add, Int.mul_left_comm]
theorem slow_cum (ht : temposB bars l = true) (hs : temposB bars (slowT l) = true) (p : Po) : cumN (slowT l) bars p = 2 * cumN l bars p := by
  unfold cumN inN
  rw [slow_before ht hs, slow_scale ht hs]
  split
  · rw [Int.mul_add, Int.mul_left_comm]
  · omega
theorem slow_twice (ht : temposB bars l = true) (hs : temposB bars (slowT l) = true) (hv : VwOk bars ms) {k : Nat} (hk : k ≤ bars.length) {a b c d : Rt} (h : freeR bars l ms k = ((a, b), 0)) (h' : freeR bars (slowT l) ms k = ((c, d), 0)) :
    mulR2 a ⟨2, 1⟩ = (c, 0) ∧ mulR2 b ⟨2, 1⟩ = (d, 0) := by
  obtain ⟨h1, h2⟩ := free_ok ht hv hk h
  obtain ⟨h3, h4⟩ := free_ok hs hv hk h'
  rw [mul_red (by decide) (by decide) h1, mul_red (by decide) (by decide) h2, ← h3, ← h4]
  constructor
  · congr 1
    unfold aheadN
    rw [slow_before ht hs, slow_cum ht hs]
    omega
  · congr 1
    unfold behindN
    rw [slow_before ht hs, slow_cum ht hs]
    omega

/-- TurnFewer. -/
theorem fewer_less {ns : List MeP} (ht : temposB bars l = true) (hv : VwOk bars ms) (hw : VwOk bars ns) (hsub : ∀ i, i < bars.length → ∀ w ∈ (ns.getD i default).notes, w ∈ (ms.getD i default).notes) {k : Nat} (hk : k ≤ bars.length) :
    aheadN bars l ms k ≤ aheadN bars l ns k ∧ behindN bars l ms k ≤ behindN bars l ns k := by
  have h := temposB_v ht
  have l1 := hv.len; have l2 := hw.len
  constructor
  · have hs := since_says h hv hk
    unfold aheadN
    have : cumN l bars (sinceP ns k) ≤ cumN l bars (sinceP ms k) := by
      rcases maxP_mem (endsL ns 0 k) (startP 0) with e | e
      · unfold sinceP
        rw [e, cum_start]
        exact hs.2.1
      · obtain ⟨j, _, hj, w, hwj, he⟩ := mem_ends e
        have hj' : j < bars.length := by omega
        have := hs.2.2.2 _ (ends_mem (i := 0) (Nat.zero_le _) hj (hsub j hj' w hwj))
        unfold sinceP at this ⊢
        rw [he]
        rw [(cum_end h hv hj' (hsub j hj' w hwj)).1] at this
        rw [(cum_end h hw hj' hwj).1]
        exact this
    omega
  · have hs := until_says h hv hk
    unfold behindN
    have : cumN l bars (untilP ms k) ≤ cumN l bars (untilP ns k) := by
      rcases minP_mem (fromsL ns k (ns.length - k)) (startP ns.length) with e | e
      · have h3 := hs.2.2.1
        unfold untilP at h3 ⊢
        rw [e, cum_start, l2]
        exact h3
      · obtain ⟨j, hj0, hj, w, hwj, he⟩ := mem_froms e
        have hj' : j < bars.length := by omega
        have := hs.2.2.2 _ (froms_mem hj0 (by omega) (hsub j hj' w hwj))
        unfold untilP at this ⊢
        rw [he]
        exact this
    omega

/-- TurnRests. -/
theorem rests_no (ht : temposB bars l = true) (hv : VwOk bars ms) {k : Nat} (hk : k ≤ bars.length) {i : Nat} (hi : i < bars.length) {w : Wr} (hw : w ∈ (ms.getD i default).notes) :
    ¬ (laterB (endP i (ms.getD i default) w) (sinceP ms k) = true ∧ laterB (untilP ms k) ⟨i, w.start⟩ = true) := by
  have h := temposB_v ht
  have hl := hv.len
  rintro ⟨h1, h2⟩
  have hs := since_says h hv hk
  have hu := until_says h hv hk
  rcases Nat.lt_or_ge i k with hik | hik
  · have := hs.2.2.2 _ (ends_mem (i := 0) (Nat.zero_le _) (by omega) hw)
    have := (cum_later h (endP_v h.bars hv hi hw) hs.1).1 h1
    omega
  · have := hu.2.2.2 _ (froms_mem hik (by omega) hw)
    have := (cum_later h hu.1 (fromP_v hv hi hw)).1 h2
    omega
theorem rests_ends {k : Nat} : sinceP ms k = startP 0 ∨ ∃ i, i < k ∧ ∃ w ∈ (ms.getD i default).notes, sinceP ms k = endP i (ms.getD i default) w := by
  rcases maxP_mem (endsL ms 0 k) (startP 0) with e | e
  · exact .inl e
  · obtain ⟨j, _, hj, w, hw, he⟩ := mem_ends e
    exact .inr ⟨j, by omega, w, hw, he⟩
theorem rests_begins {k : Nat} : untilP ms k = startP ms.length ∨ ∃ i, i < ms.length ∧ ∃ w ∈ (ms.getD i default).notes, untilP ms k = ⟨i, w.start⟩ := by
  rcases minP_mem (fromsL ms k (ms.length - k)) (startP ms.length) with e | e
  · exact .inl e
  · obtain ⟨j, h1, hj, w, hw, he⟩ := mem_froms e
    exact .inr ⟨j, by omega, w, hw, he⟩
end
end Go.Proofs.YtcelciomhngajaaGreatDoor
/- Turns in plain Lean: a valid view's measures fit its bars. -/
namespace Go.Proofs.YtcelciomhngajaaGreatDoor
set_option linter.unusedSimpArgs false
set_option linter.unusedVariables false
open Go.RowKit Go.Sort

theorem zip_all {α β : Type} [Inhabited α] [Inhabited β] {f : α → β → Bool} : ∀ (xs : List α) (ys : List β), xs.length = ys.length → (List.zipWith f xs ys).all id = true → ∀ i, i < xs.length → f (xs.getD i default) (ys.getD i default) = true
  | [], ys, _, _, i, hi => by simp at hi
  | x :: xs, [], hl, _, i, hi => by simp at hl
  | x :: xs, y :: ys, hl, h, i, hi => by
    rw [List.zipWith_cons_cons, List.all_cons, Bool.and_eq_true] at h
    cases i with
    | zero => simpa using h.1
    | succ i =>
      have := zip_all xs ys (by simpa using hl) h.2 i (by simpa using hi)
      simpa using this
theorem vwok_valid {s : Sc} {part : Int} {ms : List MeP} (h : validV s part ms = true) : VwOk s.bars ms := by
  unfold validV at h
  simp only [Bool.and_eq_true, decide_eq_true_eq] at h
  obtain ⟨⟨h1, h2⟩, h3⟩ := h
  split at h3
  · cases h3
  · rename_i p _
    simp only [Bool.and_eq_true, decide_eq_true_eq] at h3
    have hz := zip_all s.bars ms h2.symm h3.1.1
    have hm : ∀ i, i < s.bars.length → (ms.getD i default).len = (s.bars.getD i default).len ∧ ((ms.getD i default).notes.all fun w => formW w (ms.getD i default).len) = true := by
      intro i hi
      have := hz i hi
      simp only [measureB, Bool.and_eq_true, decide_eq_true_eq] at this
      exact ⟨this.1.1.2, this.1.2⟩
    refine ⟨h2, fun i hi => (hm i hi).1, fun i hi w hw => ?_⟩
    have hf := List.all_eq_true.1 (hm i hi).2 w hw
    rw [(hm i hi).1] at hf
    simp only [formW, Bool.and_eq_true, decide_eq_true_eq] at hf
    obtain ⟨⟨⟨_, f1⟩, f2⟩, f3⟩ := hf
    refine ⟨?_, ?_, f2, f3⟩
    · cases q : durB w.start
      · have := ticks_neg.2 q; omega
      · rfl
    · cases q : durB w.len
      · have := ticks_neg.2 q; omega
      · rfl
theorem view_notes (s : Sc) (p : Pa) {i : Nat} (hi : i < s.bars.length) : ((viewL s p).getD i default).notes = (inBar (s.bars.getD i default) (playedL s p)).map (writtenW p (s.bars.getD i default)) := by
  unfold viewL
  rw [List.getD_eq_getElem?_getD, List.getElem?_map, List.getD_eq_getElem?_getD, List.getElem?_eq_getElem hi]
  rfl
/-- With fewer notes a view has no others. -/
theorem view_fewer {s t : Sc} {p : Pa} (hb : t.bars = s.bars) (hn : ∀ n ∈ t.notes, n ∈ s.notes) : ∀ i, i < s.bars.length → ∀ w ∈ ((viewL t p).getD i default).notes, w ∈ ((viewL s p).getD i default).notes := by
  intro i hi w hw
  rw [view_notes t p (by rw [hb]; exact hi), hb] at hw
  rw [view_notes s p hi]
  obtain ⟨n, hnn, rfl⟩ := List.mem_map.1 hw
  refine List.mem_map.2 ⟨n, ?_, rfl⟩
  unfold inBar at hnn ⊢
  rw [List.mem_filter] at hnn ⊢
  refine ⟨?_, hnn.2⟩
  have hp := hnn.1
  unfold playedL at hp ⊢
  obtain ⟨m, hm, rfl⟩ := List.mem_map.1 hp
  rw [List.mem_filter] at hm
  exact List.mem_map.2 ⟨m, List.mem_filter.2 ⟨hn m hm.1, hm.2⟩, rfl⟩
end Go.Proofs.YtcelciomhngajaaGreatDoor

