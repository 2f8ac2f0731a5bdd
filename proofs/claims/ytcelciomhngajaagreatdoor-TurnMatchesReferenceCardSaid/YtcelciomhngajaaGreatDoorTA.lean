/- Texts of this seat, laid together: TurnPure, TurnPure2, TurnPure3, TurnPure4, TurnPure5. -/
import Derived.Test.YtcelciomhngajaaGreatDoorSB
/- Turns in plain Lean: ratios that are reduced; tempos; seconds between places. -/
namespace Go.Proofs.YtcelciomhngajaaGreatDoor
set_option linter.unusedSimpArgs false
set_option linter.unusedVariables false
open Go.RowKit Go.Sort

/-- n / d, reduced (d above 0), where it is within the limits; 3: it is not. -/
def gcdI (n d : Int) : Int := (Nat.gcd n.natAbs d.natAbs : Nat)
def redR (n d : Int) : Rt × Int := if 1000000 < d / gcdI n d ∨ 1000000000 < ((n / gcdI n d).natAbs : Int) then (⟨0, 0⟩, 3) else (⟨n / gcdI n d, d / gcdI n d⟩, 0)
theorem gcdI_pos (n : Int) {d : Int} (h : 0 < d) : 0 < gcdI n d := by
  unfold gcdI
  have := Nat.gcd_pos_of_pos_right n.natAbs (show 0 < d.natAbs by omega)
  omega
theorem gcdI_n (n d : Int) : gcdI n d ∣ n := by
  unfold gcdI
  exact Int.ofNat_dvd_left.2 (Nat.gcd_dvd_left _ _)
theorem gcdI_d (n d : Int) : gcdI n d ∣ d := by
  unfold gcdI
  exact Int.ofNat_dvd_left.2 (Nat.gcd_dvd_right _ _)
/-- The reduced numbers. -/
structure Red (n d a b : Int) : Prop where
  pos : 0 < b
  cross : a * d = n * b
  cop : Nat.gcd a.natAbs b.natAbs = 1
theorem red_red (n : Int) {d : Int} (h : 0 < d) : Red n d (n / gcdI n d) (d / gcdI n d) := by
  have hg := gcdI_pos n h
  have h1 := Int.ediv_mul_cancel (gcdI_n n d)
  have h2 := Int.ediv_mul_cancel (gcdI_d n d)
  have e1 : (n / gcdI n d).natAbs = n.natAbs / Nat.gcd n.natAbs d.natAbs := Int.natAbs_ediv_of_dvd (gcdI_n n d)
  have e2 : (d / gcdI n d).natAbs = d.natAbs / Nat.gcd n.natAbs d.natAbs := Int.natAbs_ediv_of_dvd (gcdI_d n d)
  refine ⟨?_, ?_, ?_⟩
  · rcases Int.lt_or_le 0 (d / gcdI n d) with h3 | h3
    · exact h3
    · have := Int.mul_nonpos_of_nonpos_of_nonneg h3 (Int.le_of_lt hg); omega
  · generalize n / gcdI n d = a at *
    generalize d / gcdI n d = b at *
    generalize gcdI n d = g at *
    subst h1; subst h2
    rw [Int.mul_assoc, Int.mul_comm b g]
  · rw [e1, e2]
    exact Nat.gcd_div_gcd_div_gcd_of_pos_right (by omega)
theorem red_unique {n d n' d' a b a' b' : Int} (h : Red n d a b) (h' : Red n' d' a' b') (hd : 0 < d) (hd' : 0 < d') (e : n * d' = n' * d) : a = a' ∧ b = b' := by
  have c : a * b' = a' * b := by
    have h1 : (a * b') * (d * d') = (a' * b) * (d * d') := by
      calc (a * b') * (d * d') = (a * d) * (b' * d') := by simp only [Int.mul_assoc, Int.mul_left_comm, Int.mul_comm]
        _ = (n * b) * (b' * d') := by rw [h.cross]
        _ = (n * d') * (b * b') := by simp only [Int.mul_assoc, Int.mul_left_comm, Int.mul_comm]
        _ = (n' * d) * (b * b') := by rw [e]
        _ = (n' * b') * (d * b) := by simp only [Int.mul_assoc, Int.mul_left_comm, Int.mul_comm]
        _ = (a' * d') * (d * b) := by rw [h'.cross]
        _ = (a' * b) * (d * d') := by simp only [Int.mul_assoc, Int.mul_left_comm, Int.mul_comm]
    exact Int.eq_of_mul_eq_mul_right (by have := Int.mul_pos hd hd'; omega) h1
  have hb := h.pos; have hb' := h'.pos
  have hn : a.natAbs * b'.natAbs = a'.natAbs * b.natAbs := by rw [← Int.natAbs_mul, ← Int.natAbs_mul, c]
  have d1 : b.natAbs ∣ b'.natAbs := by
    have : b.natAbs ∣ a.natAbs * b'.natAbs := ⟨a'.natAbs, by rw [hn, Nat.mul_comm]⟩
    exact (Nat.Coprime.symm h.cop).dvd_of_dvd_mul_left this
  have d2 : b'.natAbs ∣ b.natAbs := by
    have : b'.natAbs ∣ a'.natAbs * b.natAbs := ⟨a.natAbs, by rw [← hn, Nat.mul_comm]⟩
    exact (Nat.Coprime.symm h'.cop).dvd_of_dvd_mul_left this
  have eb : b.natAbs = b'.natAbs := Nat.dvd_antisymm d1 d2
  have eb' : b = b' := by omega
  subst eb'
  exact ⟨Int.eq_of_mul_eq_mul_right (by omega) c, rfl⟩
theorem redR_same {n d n' d' : Int} (hd : 0 < d) (hd' : 0 < d') (e : n * d' = n' * d) : redR n d = redR n' d' := by
  obtain ⟨h1, h2⟩ := red_unique (red_red n hd) (red_red n' hd') hd hd' e
  unfold redR
  rw [h1, h2]
theorem redR_ok {n d : Int} {r : Rt} (hd : 0 < d) (h : redR n d = (r, 0)) : rtOk r = true ∧ r.n * d = n * r.d := by
  have hr := red_red n hd
  unfold redR at h
  split at h
  · cases (Prod.mk.inj h).2
  · rename_i hh
    obtain ⟨rfl, _⟩ := Prod.mk.inj h
    have hp := hr.pos
    refine ⟨(rtOk_iff _).2 ⟨⟨by simp only; omega, by simp only; omega⟩, ⟨by simp only; omega, by simp only; omega⟩, hr.cop⟩, hr.cross⟩
theorem redR_self {r : Rt} (h : rtOk r = true) : redR r.n r.d = (r, 0) := by
  obtain ⟨⟨h1, h2⟩, ⟨h3, h4⟩, h5⟩ := (rtOk_iff r).1 h
  unfold redR gcdI
  rw [h5]
  simp only [Int.ofNat_one, Int.natCast_one, Int.ediv_one]
  rw [if_neg (by omega)]

/-- Sums, products, comparisons. -/
def addR2 (a b : Rt) : Rt × Int := if rtOk a && rtOk b then redR (a.n * b.d + b.n * a.d) (a.d * b.d) else (⟨0, 0⟩, 1)
def cmpR (a b : Rt) : Int := if a.n * b.d < b.n * a.d then -1 else if b.n * a.d < a.n * b.d then 1 else 0
open Go.RowKit Go.Sort

structure Te where
  bar : Int
  q : Rt
structure Po where
  bar : Int
  at_ : Rt
instance : DecidableEq Te := fun a b => decidable_of_iff (a.bar = b.bar ∧ a.q = b.q) ⟨fun ⟨h0, h1⟩ => by cases a; cases b; simp_all, fun h => by subst h; exact ⟨rfl, rfl⟩⟩
instance : DecidableEq Po := fun a b => decidable_of_iff (a.bar = b.bar ∧ a.at_ = b.at_) ⟨fun ⟨h0, h1⟩ => by cases a; cases b; simp_all, fun h => by subst h; exact ⟨rfl, rfl⟩⟩
instance : Inhabited Te := ⟨⟨0, ⟨0, 0⟩⟩⟩
def tempoB (q : Rt) : Bool := rtOk q && decide (1 ≤ q.n) && decide (q.n ≤ 10 * q.d) && decide (60 % q.d = 0)
/-- A tempo in 60ths of a second, or -1. -/
def scaleI (q : Rt) : Int := if tempoB q then q.n * (60 / q.d) else -1
structure TempoV (q : Rt) : Prop where
  ok : rtOk q = true
  n0 : 1 ≤ q.n
  n1 : q.n ≤ 10 * q.d
  div : 60 % q.d = 0
theorem tempoB_iff (q : Rt) : tempoB q = true ↔ TempoV q := by
  simp only [tempoB, Bool.and_eq_true, decide_eq_true_eq]
  exact ⟨fun ⟨⟨⟨a, b⟩, c⟩, d⟩ => ⟨a, b, c, d⟩, fun ⟨a, b, c, d⟩ => ⟨⟨⟨a, b⟩, c⟩, d⟩⟩
theorem TempoV.d1 {q : Rt} (h : TempoV q) : 1 ≤ q.d ∧ q.d ≤ 60 := by
  have := ((rtOk_iff q).1 h.ok).1.1
  have h2 := Int.le_of_dvd (by decide) (Int.dvd_of_emod_eq_zero h.div)
  exact ⟨this, h2⟩
theorem TempoV.whole {q : Rt} (h : TempoV q) : q.d * (60 / q.d) = 60 := Int.mul_ediv_cancel' (Int.dvd_of_emod_eq_zero h.div)
theorem scale_bd {q : Rt} (h : tempoB q = true) : 1 ≤ scaleI q ∧ scaleI q ≤ 600 := by
  rw [scaleI, if_pos h]
  have v := (tempoB_iff q).1 h
  obtain ⟨h1, h2⟩ := v.d1
  have h3 := v.whole
  have h0 := v.n0; have h4 := v.n1
  have h5 : 1 ≤ 60 / q.d := by
    rcases Int.lt_or_le 0 (60 / q.d) with h | h
    · exact h
    · have := Int.mul_nonpos_of_nonneg_of_nonpos (show 0 ≤ q.d by omega) h; omega
  generalize 60 / q.d = k at *
  have e1 : 1 * 1 ≤ q.n * k := Int.mul_le_mul h0 h5 (by decide) (by omega)
  have e2 : q.n * k ≤ 10 * q.d * k := Int.mul_le_mul_of_nonneg_right h4 (by omega)
  rw [Int.mul_assoc, h3] at e2
  omega
def risingT : List Te → Bool
  | a :: b :: r => decide (a.bar < b.bar) && risingT (b :: r)
  | _ => true
def temposB (bars : List Ba) (l : List Te) : Bool :=
  barsB bars && decide (1 ≤ l.length) && decide (l.length ≤ 1000) && decide ((l.getD 0 default).bar = 0) && l.all (fun t => tempoB t.q && decide (t.bar < (bars.length : Int))) && risingT l
/-- The tempo of a bar. -/
def atT : List Te → Int → Rt
  | [], _ => ⟨0, 0⟩
  | t :: r, bar => if r.any (fun u => decide (u.bar ≤ bar)) then atT r bar else t.q
theorem atT_mem : ∀ (l : List Te) (bar : Int), l ≠ [] → ∃ t ∈ l, atT l bar = t.q
  | [], _, h => absurd rfl h
  | t :: r, bar, _ => by
    rw [atT]
    split
    · rename_i h
      have hr : r ≠ [] := by rintro rfl; cases h
      obtain ⟨u, hu, e⟩ := atT_mem r bar hr
      exact ⟨u, by simp [hu], e⟩
    · exact ⟨t, by simp, rfl⟩
/-- How long the bars before one take, in 100800ths of a second; and what of a bar comes ahead of a place. -/
def barN (l : List Te) (bars : List Ba) (i : Nat) : Int := ticksI (bars.getD i default).len * scaleI (atT l i)
def beforeN (l : List Te) (bars : List Ba) : Nat → Int
  | 0 => 0
  | k + 1 => beforeN l bars k + barN l bars k
def inN (l : List Te) (bars : List Ba) (p : Po) : Int := if p.bar < bars.length then ticksI p.at_ * scaleI (atT l p.bar) else 0
def cumN (l : List Te) (bars : List Ba) (p : Po) : Int := beforeN l bars p.bar.toNat + inN l bars p
def posB (bars : List Ba) (p : Po) : Bool :=
  decide (0 ≤ p.bar) && decide (p.bar ≤ bars.length) && decide (0 ≤ ticksI p.at_) && (if p.bar = bars.length then decide (ticksI p.at_ = 0) else decide (ticksI p.at_ < ticksI (bars.getD p.bar.toNat default).len))
def laterB (a b : Po) : Bool := decide (b.bar < a.bar) || decide (a.bar = b.bar) && decide (ticksI b.at_ < ticksI a.at_)
/-- How long it takes from a place to a later one. -/
def secR (bars : List Ba) (l : List Te) (from_ until_ : Po) : Rt × Int :=
  if temposB bars l && posB bars from_ && posB bars until_ && !laterB from_ until_ then redR (cumN l bars until_ - cumN l bars from_) 100800 else (⟨0, 0⟩, 1)
structure PosV (bars : List Ba) (p : Po) : Prop where
  b0 : 0 ≤ p.bar
  b1 : p.bar ≤ bars.length
  t0 : 0 ≤ ticksI p.at_
  end_ : p.bar = bars.length → ticksI p.at_ = 0
  mid : p.bar ≠ bars.length → ticksI p.at_ < ticksI (bars.getD p.bar.toNat default).len
theorem posB_iff (bars : List Ba) (p : Po) : posB bars p = true ↔ PosV bars p := by
  simp only [posB, Bool.and_eq_true, decide_eq_true_eq]
  constructor
  · rintro ⟨⟨⟨a, b⟩, c⟩, d⟩
    refine ⟨a, b, c, fun e => ?_, fun e => ?_⟩
    · rw [if_pos e] at d; simpa using d
    · rw [if_neg e] at d; simpa using d
  · rintro ⟨a, b, c, d, e⟩
    refine ⟨⟨⟨a, b⟩, c⟩, ?_⟩
    split
    · rename_i h; simpa using d h
    · rename_i h; simpa using e h
/-- What is known of right tempos: every bar's is one. -/
structure TempV (bars : List Ba) (l : List Te) : Prop where
  bars : barsB bars = true
  at_ : ∀ bar, tempoB (atT l bar) = true
theorem temposB_v {bars : List Ba} {l : List Te} (h : temposB bars l = true) : TempV bars l := by
  simp only [temposB, Bool.and_eq_true, decide_eq_true_eq] at h
  obtain ⟨⟨⟨⟨⟨h1, h2⟩, h3⟩, h4⟩, h5⟩, h6⟩ := h
  refine ⟨h1, fun bar => ?_⟩
  have hne : l ≠ [] := by rintro rfl; simp at h2
  obtain ⟨t, ht, e⟩ := atT_mem l bar hne
  rw [List.all_eq_true] at h5
  have := h5 t ht
  rw [Bool.and_eq_true] at this
  rw [e]; exact this.1
theorem bar_ticks {bars : List Ba} (h : barsB bars = true) {i : Nat} (hi : i < bars.length) : 1 ≤ ticksI (bars.getD i default).len ∧ ticksI (bars.getD i default).len ≤ 40320 := by
  simp only [barsB, Bool.and_eq_true, decide_eq_true_eq] at h
  have := List.all_eq_true.1 h.1.2 (bars.getD i default) (by rw [List.getD_eq_getElem?_getD, List.getElem?_eq_getElem hi]; exact List.getElem_mem hi)
  simp only [barOk, Bool.and_eq_true, inB_iff] at this
  exact this.1.2
theorem barN_bd {bars : List Ba} {l : List Te} (h : TempV bars l) {i : Nat} (hi : i < bars.length) : 1 ≤ barN l bars i ∧ barN l bars i ≤ 24192000 := by
  obtain ⟨h1, h2⟩ := bar_ticks h.bars hi
  obtain ⟨h3, h4⟩ := scale_bd (h.at_ (i : Int))
  unfold barN
  have e1 : 1 * 1 ≤ ticksI (bars.getD i default).len * scaleI (atT l i) := Int.mul_le_mul h1 h3 (by decide) (by omega)
  have e2 : ticksI (bars.getD i default).len * scaleI (atT l i) ≤ 40320 * 600 := Int.mul_le_mul h2 h4 (by omega) (by decide)
  omega
theorem before_bd {bars : List Ba} {l : List Te} (h : TempV bars l) : ∀ (j : Nat), j ≤ bars.length → 0 ≤ beforeN l bars j ∧ beforeN l bars j ≤ 24192000 * j
  | 0, _ => by simp [beforeN]
  | j + 1, hj => by
    have := before_bd h j (by omega)
    have := barN_bd h (i := j) (by omega)
    rw [beforeN]; omega
open Go.RowKit Go.Sort

/-- So many 1680ths, as a ratio. -/
def ofT (n : Int) : Rt := ⟨n / gcdI n 1680, 1680 / gcdI n 1680⟩
theorem ofT_red {n : Int} (h0 : 0 ≤ n) (h1 : n ≤ 1000000000) : redR n 1680 = (ofT n, 0) := by
  have hg := gcdI_pos n (d := 1680) (by decide)
  unfold redR ofT
  have e1 : 1680 / gcdI n 1680 ≤ 1680 := Int.ediv_le_self _ (by decide)
  have e2 : n / gcdI n 1680 ≤ n := Int.ediv_le_self _ h0
  have e3 : 0 ≤ n / gcdI n 1680 := Int.ediv_nonneg h0 (by omega)
  rw [if_neg (by omega)]
theorem ofT_dur {n : Int} (h0 : 0 ≤ n) (h1 : n ≤ 1000000000) : durB (ofT n) = true ∧ ticksI (ofT n) = n := by
  obtain ⟨h2, h3⟩ := redR_ok (by decide) (ofT_red h0 h1)
  have hd : 1680 % (ofT n).d = 0 := by
    have hg := gcdI_d n 1680
    have : (ofT n).d ∣ 1680 := ⟨gcdI n 1680, (Int.ediv_mul_cancel hg).symm⟩
    exact Int.emod_eq_zero_of_dvd this
  have hn : 0 ≤ (ofT n).n := Int.ediv_nonneg h0 (Int.le_of_lt (gcdI_pos n (by decide)))
  have hdur : durB (ofT n) = true := by simp [durB, h2, hn, hd]
  refine ⟨hdur, ?_⟩
  rw [ticksI, if_pos hdur]
  have h6 : (ofT n).d * (1680 / (ofT n).d) = 1680 := Int.mul_ediv_cancel' (Int.dvd_of_emod_eq_zero hd)
  have hp := ((rtOk_iff _).1 h2).1.1
  generalize 1680 / (ofT n).d = k at *
  generalize (ofT n).n = a at *
  generalize (ofT n).d = b at *
  have e : (a * k) * b = n * b := by
    calc (a * k) * b = a * (b * k) := by simp only [Int.mul_assoc, Int.mul_left_comm, Int.mul_comm]
      _ = a * 1680 := by rw [h6]
      _ = n * b := h3
  exact Int.eq_of_mul_eq_mul_right (by omega) e
theorem zero_ticks : ticksI ⟨0, 1⟩ = 0 := by decide
/-- A duration is what its parts say. -/
theorem dur_of {r : Rt} (h : durB r = true) : r.n * 1680 = ticksI r * r.d := by
  obtain ⟨⟨h1, h2, h3⟩, _, _⟩ := (durB_iff r).1 h
  rw [ticksI, if_pos h]
  have h6 : r.d * (1680 / r.d) = 1680 := Int.mul_ediv_cancel' (Int.dvd_of_emod_eq_zero h3)
  generalize 1680 / r.d = k at *
  calc r.n * 1680 = r.n * (r.d * k) := by rw [h6]
    _ = (r.n * k) * r.d := by simp only [Int.mul_assoc, Int.mul_left_comm, Int.mul_comm]
theorem ofT_ticks {r : Rt} (h : durB r = true) (hb : ticksI r ≤ 1000000000) : ofT (ticksI r) = r := by
  have h1 := (ticks_nonneg h).1
  have e : redR r.n r.d = redR (ticksI r) 1680 := by
    have := ((durB_iff r).1 h).1.1
    exact redR_same (by omega) (by decide) (dur_of h)
  rw [redR_self (by simp only [durB, Bool.and_eq_true] at h; exact h.1.1), ofT_red h1 hb] at e
  exact (Prod.mk.inj e).1.symm
theorem add_dur {a b : Rt} (ha : durB a = true) (hb : durB b = true) (hs : ticksI a + ticksI b ≤ 1000000000) : addR2 a b = (ofT (ticksI a + ticksI b), 0) := by
  have a1 : rtOk a = true := by simp only [durB, Bool.and_eq_true] at ha; exact ha.1.1
  have b1 : rtOk b = true := by simp only [durB, Bool.and_eq_true] at hb; exact hb.1.1
  have a0 := (ticks_nonneg ha).1; have b0 := (ticks_nonneg hb).1
  have a3 := ((rtOk_iff a).1 a1).1.1
  have b3 := ((rtOk_iff b).1 b1).1.1
  rw [← ofT_red (by omega) hs]
  unfold addR2
  rw [a1, b1]
  simp only [Bool.and_self, if_true]
  refine redR_same (Int.mul_pos (by omega) (by omega)) (by decide) ?_
  have e1 := dur_of ha; have e2 := dur_of hb
  calc (a.n * b.d + b.n * a.d) * 1680 = (a.n * 1680) * b.d + (b.n * 1680) * a.d := by rw [Int.add_mul]; simp only [Int.mul_assoc, Int.mul_left_comm, Int.mul_comm]
    _ = (ticksI a * a.d) * b.d + (ticksI b * b.d) * a.d := by rw [e1, e2]
    _ = (ticksI a + ticksI b) * (a.d * b.d) := by rw [Int.add_mul]; simp only [Int.mul_assoc, Int.mul_left_comm, Int.mul_comm]

def startP (i : Nat) : Po := ⟨i, ⟨0, 1⟩⟩
/-- Where a note of a measure ends. -/
def endP (i : Nat) (m : MeP) (w : Wr) : Po := if ticksI w.start + ticksI w.len = ticksI m.len then startP (i + 1) else ⟨i, ofT (ticksI w.start + ticksI w.len)⟩
def endsL (ms : List MeP) (i k : Nat) : List Po := (List.range' i k).flatMap fun i => (ms.getD i default).notes.map (endP i (ms.getD i default))
def fromsL (ms : List MeP) (i k : Nat) : List Po := (List.range' i k).flatMap fun i => (ms.getD i default).notes.map fun w => ⟨i, w.start⟩
def maxP (p : Po) (l : List Po) : Po := l.foldl (fun out q => if laterB q out then q else out) p
def minP (p : Po) (l : List Po) : Po := l.foldl (fun out q => if laterB out q then q else out) p
def sinceP (ms : List MeP) (at_ : Nat) : Po := maxP (startP 0) (endsL ms 0 at_)
def untilP (ms : List MeP) (at_ : Nat) : Po := minP (startP ms.length) (fromsL ms at_ (ms.length - at_))
/-- A view's measures fit bars. -/
structure VwOk (bars : List Ba) (ms : List MeP) : Prop where
  len : ms.length = bars.length
  meas : ∀ i, i < bars.length → (ms.getD i default).len = (bars.getD i default).len
  note : ∀ i, i < bars.length → ∀ w ∈ (ms.getD i default).notes, durB w.start = true ∧ durB w.len = true ∧ 0 < ticksI w.len ∧ ticksI w.start + ticksI w.len ≤ ticksI (bars.getD i default).len
theorem maxP_mem (l : List Po) : ∀ p, maxP p l = p ∨ maxP p l ∈ l := by
  induction l with
  | nil => intro p; exact .inl rfl
  | cons q l ih =>
    intro p
    unfold maxP
    rw [List.foldl_cons]
    rcases ih (if laterB q p then q else p) with h | h
    · unfold maxP at h
      rw [h]
      split
      · exact .inr (by simp)
      · exact .inl rfl
    · exact .inr (List.mem_cons_of_mem _ h)
theorem minP_mem (l : List Po) : ∀ p, minP p l = p ∨ minP p l ∈ l := by
  induction l with
  | nil => intro p; exact .inl rfl
  | cons q l ih =>
    intro p
    unfold minP
    rw [List.foldl_cons]
    rcases ih (if laterB p q then q else p) with h | h
    · unfold minP at h
      rw [h]
      split
      · exact .inr (by simp)
      · exact .inl rfl
    · exact .inr (List.mem_cons_of_mem _ h)
open Go.RowKit Go.Sort

/-- Both times of a place; 3: one of them is out of the limits. -/
def freeR (bars : List Ba) (l : List Te) (ms : List MeP) (k : Nat) : (Rt × Rt) × Int :=
  if (secR bars l (sinceP ms k) (startP k)).2 = 0 ∧ (secR bars l (startP k) (untilP ms k)).2 = 0 then (((secR bars l (sinceP ms k) (startP k)).1, (secR bars l (startP k) (untilP ms k)).1), 0) else ((⟨0, 0⟩, ⟨0, 0⟩), 3)
def goodR (bars : List Ba) (l : List Te) (ms : List MeP) (need : Rt) : Option (List Bool) :=
  if (List.range ms.length).all (fun i => decide ((secR bars l (sinceP ms i) (untilP ms i)).2 = 0)) then some ((List.range ms.length).map fun i => decide (0 ≤ cmpR (secR bars l (sinceP ms i) (untilP ms i)).1 need)) else none
section
variable {bars : List Ba} {l : List Te} {ms : List MeP}
theorem good_len {need : Rt} {r : List Bool} (h : goodR bars l ms need = some r) : r.length = ms.length := by
  unfold goodR at h
  split at h
  · injection h with h
    subst h
    simp
  · cases h
/-- TurnSame. -/
theorem ends_succ (ms : List MeP) (k : Nat) : endsL ms 0 (k + 1) = endsL ms 0 k ++ (ms.getD k default).notes.map (endP k (ms.getD k default)) := by
  unfold endsL
  rw [List.range'_1_concat, List.flatMap_append]
  simp
end
end Go.Proofs.YtcelciomhngajaaGreatDoor
/- Turns in plain Lean: a valid view's measures fit its bars. -/
namespace Go.Proofs.YtcelciomhngajaaGreatDoor
set_option linter.unusedSimpArgs false
set_option linter.unusedVariables false
open Go.RowKit Go.Sort

theorem zip_all {α β : Type} [Inhabited α] [Inhabited β] {f : α → β → Bool} : ∀ (xs : List α) (ys : List β), xs.length = ys.length → (List.zipWith f xs ys).all id = true → ∀ i, i < xs.length → f (xs.getD i default) (ys.getD i default) = true
  | [], ys, _, _, i, hi => by simp at hi
  | x :: xs, [], hl, _, i, hi => by simp at hl
  | x :: xs, y :: ys, hl, h, i, hi => by
    rw [List.zipWith_cons_cons, List.all_cons, Bool.and_eq_true] at h
    cases i with
    | zero => simpa using h.1
    | succ i =>
      have := zip_all xs ys (by simpa using hl) h.2 i (by simpa using hi)
      simpa using this
theorem vwok_valid {s : Sc} {part : Int} {ms : List MeP} (h : validV s part ms = true) : VwOk s.bars ms := by
  unfold validV at h
  simp only [Bool.and_eq_true, decide_eq_true_eq] at h
  obtain ⟨⟨h1, h2⟩, h3⟩ := h
  split at h3
  · cases h3
  · rename_i p _
    simp only [Bool.and_eq_true, decide_eq_true_eq] at h3
    have hz := zip_all s.bars ms h2.symm h3.1.1
    have hm : ∀ i, i < s.bars.length → (ms.getD i default).len = (s.bars.getD i default).len ∧ ((ms.getD i default).notes.all fun w => formW w (ms.getD i default).len) = true := by
      intro i hi
      have := hz i hi
      simp only [measureB, Bool.and_eq_true, decide_eq_true_eq] at this
      exact ⟨this.1.1.2, this.1.2⟩
    refine ⟨h2, fun i hi => (hm i hi).1, fun i hi w hw => ?_⟩
    have hf := List.all_eq_true.1 (hm i hi).2 w hw
    rw [(hm i hi).1] at hf
    simp only [formW, Bool.and_eq_true, decide_eq_true_eq] at hf
    obtain ⟨⟨⟨_, f1⟩, f2⟩, f3⟩ := hf
    refine ⟨?_, ?_, f2, f3⟩
    · cases q : durB w.start
      · have := ticks_neg.2 q; omega
      · rfl
    · cases q : durB w.len
      · have := ticks_neg.2 q; omega
      · rfl
end Go.Proofs.YtcelciomhngajaaGreatDoor

