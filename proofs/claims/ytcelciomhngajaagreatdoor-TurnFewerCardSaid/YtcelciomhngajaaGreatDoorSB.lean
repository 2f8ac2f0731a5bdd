/- Texts of this seat, laid together: ScPure, ScPure2, ScPure3, Maps, ScSeen, ScPure4, ScPure5, ScPure6, ScPure7, ScPure8. -/
import Derived.Test.YtcelciomhngajaaGreatDoorSA
import Derived.MapKept
import Derived.RangeFuncRecord
import Derived.Maps.OwnSet
import Derived.Test.YtcelciomhngajaaGreatDoorRows
/- Scores by themselves: ratios, bars, notes, parts; their cells; plain laws; no condition. -/
namespace Go.Proofs.YtcelciomhngajaaGreatDoor
set_option linter.unusedSimpArgs false
set_option linter.unusedVariables false
open Go.RowKit Go.Sort

structure Rt where
  n : Int
  d : Int
structure Pi where
  s : Int
  a : Int
  o : Int
structure Iv where
  x : Int
  y : Int
structure Ba where
  id : Int
  len : Rt
  key : Int
structure No where
  id : Int
  part : Int
  bar : Int
  voice : Int
  ossia : Int
  start : Rt
  len : Rt
  pitch : Pi
structure Pa where
  id : Int
  section_ : Int
  of : Int
  octave : Int
  desks : Int
  shift : Iv
  low : Pi
  high : Pi
structure Wr where
  id : Int
  voice : Int
  ossia : Int
  start : Rt
  len : Rt
  pitch : Pi
instance : DecidableEq Rt := fun a b => decidable_of_iff (a.n = b.n ∧ a.d = b.d) ⟨fun ⟨h0, h1⟩ => by cases a; cases b; simp_all, fun h => by subst h; exact ⟨rfl, rfl⟩⟩
instance : DecidableEq Pi := fun a b => decidable_of_iff (a.s = b.s ∧ a.a = b.a ∧ a.o = b.o) ⟨fun ⟨h0, h1, h2⟩ => by cases a; cases b; simp_all, fun h => by subst h; exact ⟨rfl, rfl, rfl⟩⟩
instance : DecidableEq Iv := fun a b => decidable_of_iff (a.x = b.x ∧ a.y = b.y) ⟨fun ⟨h0, h1⟩ => by cases a; cases b; simp_all, fun h => by subst h; exact ⟨rfl, rfl⟩⟩
instance : DecidableEq Ba := fun a b => decidable_of_iff (a.id = b.id ∧ a.len = b.len ∧ a.key = b.key) ⟨fun ⟨h0, h1, h2⟩ => by cases a; cases b; simp_all, fun h => by subst h; exact ⟨rfl, rfl, rfl⟩⟩
instance : DecidableEq No := fun a b => decidable_of_iff (a.id = b.id ∧ a.part = b.part ∧ a.bar = b.bar ∧ a.voice = b.voice ∧ a.ossia = b.ossia ∧ a.start = b.start ∧ a.len = b.len ∧ a.pitch = b.pitch) ⟨fun ⟨h0, h1, h2, h3, h4, h5, h6, h7⟩ => by cases a; cases b; simp_all, fun h => by subst h; exact ⟨rfl, rfl, rfl, rfl, rfl, rfl, rfl, rfl⟩⟩
instance : DecidableEq Pa := fun a b => decidable_of_iff (a.id = b.id ∧ a.section_ = b.section_ ∧ a.of = b.of ∧ a.octave = b.octave ∧ a.desks = b.desks ∧ a.shift = b.shift ∧ a.low = b.low ∧ a.high = b.high) ⟨fun ⟨h0, h1, h2, h3, h4, h5, h6, h7⟩ => by cases a; cases b; simp_all, fun h => by subst h; exact ⟨rfl, rfl, rfl, rfl, rfl, rfl, rfl, rfl⟩⟩
instance : DecidableEq Wr := fun a b => decidable_of_iff (a.id = b.id ∧ a.voice = b.voice ∧ a.ossia = b.ossia ∧ a.start = b.start ∧ a.len = b.len ∧ a.pitch = b.pitch) ⟨fun ⟨h0, h1, h2, h3, h4, h5⟩ => by cases a; cases b; simp_all, fun h => by subst h; exact ⟨rfl, rfl, rfl, rfl, rfl, rfl⟩⟩
instance : Inhabited Ba := ⟨⟨0, ⟨0, 0⟩, 0⟩⟩
instance : Inhabited No := ⟨⟨0, 0, 0, 0, 0, ⟨0, 0⟩, ⟨0, 0⟩, ⟨0, 0, 0⟩⟩⟩
instance : Inhabited Pa := ⟨⟨0, 0, 0, 0, 0, ⟨0, 0⟩, ⟨0, 0, 0⟩, ⟨0, 0, 0⟩⟩⟩
instance : Inhabited Wr := ⟨⟨0, 0, 0, ⟨0, 0⟩, ⟨0, 0⟩, ⟨0, 0, 0⟩⟩⟩
def Rt.cells (r : Rt) : List Value := [.int .i64 r.n, .int .i64 r.d]
def Pi.cells (p : Pi) : List Value := [.int .i64 p.s, .int .i64 p.a, .int .i64 p.o]
def Iv.cells (i : Iv) : List Value := [.int .i64 i.x, .int .i64 i.y]
def Ba.cells (b : Ba) : List Value := [.int .i64 b.id, .int .i64 b.len.n, .int .i64 b.len.d, .int .i64 b.key]
def No.cells (n : No) : List Value := [.int .i64 n.id, .int .i64 n.part, .int .i64 n.bar, .int .i64 n.voice, .int .i64 n.ossia, .int .i64 n.start.n, .int .i64 n.start.d, .int .i64 n.len.n, .int .i64 n.len.d, .int .i64 n.pitch.s, .int .i64 n.pitch.a, .int .i64 n.pitch.o]
def Pa.cells (p : Pa) : List Value := [.int .i64 p.id, .int .i64 p.section_, .int .i64 p.of, .int .i64 p.octave, .int .i64 p.desks, .int .i64 p.shift.x, .int .i64 p.shift.y, .int .i64 p.low.s, .int .i64 p.low.a, .int .i64 p.low.o, .int .i64 p.high.s, .int .i64 p.high.a, .int .i64 p.high.o]
def Wr.cells (n : Wr) : List Value := [.int .i64 n.id, .int .i64 n.voice, .int .i64 n.ossia, .int .i64 n.start.n, .int .i64 n.start.d, .int .i64 n.len.n, .int .i64 n.len.d, .int .i64 n.pitch.s, .int .i64 n.pitch.a, .int .i64 n.pitch.o]
def BaAt (w : World) (a : Option Addr) (l : List Ba) : Prop := SlAt w a 4 (l.map Ba.cells)
def NoAt (w : World) (a : Option Addr) (l : List No) : Prop := SlAt w a 12 (l.map No.cells)
def PaAt (w : World) (a : Option Addr) (l : List Pa) : Prop := SlAt w a 13 (l.map Pa.cells)
def WrAt (w : World) (a : Option Addr) (l : List Wr) : Prop := SlAt w a 10 (l.map Wr.cells)
theorem BaAt.below {w w' : World} {a : Option Addr} {l : List Ba} (h : BaAt w a l) (hb : Below w.heap.size w w') : BaAt w' a l := SlAt.below h hb
theorem NoAt.below {w w' : World} {a : Option Addr} {l : List No} (h : NoAt w a l) (hb : Below w.heap.size w w') : NoAt w' a l := SlAt.below h hb
theorem PaAt.below {w w' : World} {a : Option Addr} {l : List Pa} (h : PaAt w a l) (hb : Below w.heap.size w w') : PaAt w' a l := SlAt.below h hb
theorem WrAt.below {w w' : World} {a : Option Addr} {l : List Wr} (h : WrAt w a l) (hb : Below w.heap.size w w') : WrAt w' a l := SlAt.below h hb

/-- Is a ratio reduced, and within the limits? -/
def rtOk (r : Rt) : Bool := inB r.d 1 1000000 && inB r.n (-1000000000) 1000000000 && decide (Nat.gcd r.n.natAbs r.d.natAbs = 1)
/-- Is a ratio a duration? -/
def durB (r : Rt) : Bool := rtOk r && decide (0 ≤ r.n) && decide (1680 % r.d = 0)
/-- A duration in parts of a quarter, or -1. -/
def ticksI (r : Rt) : Int := if durB r then r.n * (1680 / r.d) else -1
theorem rtOk_iff (r : Rt) : rtOk r = true ↔ (1 ≤ r.d ∧ r.d ≤ 1000000) ∧ (-1000000000 ≤ r.n ∧ r.n ≤ 1000000000) ∧ Nat.gcd r.n.natAbs r.d.natAbs = 1 := by simp [rtOk, inB_iff, and_assoc]
theorem durB_iff (r : Rt) : durB r = true ↔ (1 ≤ r.d ∧ r.d ≤ 1680 ∧ 1680 % r.d = 0) ∧ (0 ≤ r.n ∧ r.n ≤ 1000000000) ∧ Nat.gcd r.n.natAbs r.d.natAbs = 1 := by
  simp only [durB, Bool.and_eq_true, decide_eq_true_eq, rtOk_iff]
  constructor
  · rintro ⟨⟨⟨⟨h1, h2⟩, ⟨h3, h4⟩, h5⟩, h6⟩, h7⟩
    refine ⟨⟨h1, ?_, h7⟩, ⟨h6, h4⟩, h5⟩
    have := Int.le_of_dvd (by decide) (Int.dvd_of_emod_eq_zero h7)
    exact this
  · rintro ⟨⟨h1, h2, h3⟩, ⟨h4, h5⟩, h6⟩
    exact ⟨⟨⟨⟨h1, by omega⟩, ⟨by omega, h5⟩, h6⟩, h4⟩, h3⟩
theorem ticks_nonneg {r : Rt} (h : durB r = true) : 0 ≤ ticksI r ∧ ticksI r ≤ 1680000000000 := by
  rw [ticksI, if_pos h]
  obtain ⟨⟨h1, h2, h3⟩, ⟨h4, h5⟩, _⟩ := (durB_iff r).1 h
  have h6 : 0 ≤ 1680 / r.d := Int.ediv_nonneg (by decide) (by omega)
  have h7 : 1680 / r.d ≤ 1680 := Int.ediv_le_self _ (by decide)
  exact ⟨Int.mul_nonneg h4 h6, by have := Int.mul_le_mul h5 h7 h6 (by decide); omega⟩
theorem ticks_neg {r : Rt} : ticksI r < 0 ↔ durB r = false := by
  cases h : durB r
  · simp [ticksI, h]
  · have := ticks_nonneg h
    constructor
    · omega
    · intro e; cases e
/-- More than 24 quarters. -/
theorem ticks_long {r : Rt} (h : durB r = true) : 40320 < ticksI r ↔ 24 * r.d < r.n := by
  rw [ticksI, if_pos h]
  obtain ⟨⟨h1, h2, h3⟩, ⟨h4, h5⟩, _⟩ := (durB_iff r).1 h
  have h6 : 1680 = r.d * (1680 / r.d) := (Int.mul_ediv_cancel' (Int.dvd_of_emod_eq_zero h3)).symm
  have h7 : 0 < 1680 / r.d := by
    rcases Int.lt_or_le 0 (1680 / r.d) with h | h
    · exact h
    · have := Int.mul_nonpos_of_nonneg_of_nonpos (show 0 ≤ r.d by omega) h; omega
  generalize 1680 / r.d = q at *
  have e : (40320 : Int) = 24 * r.d * q := by rw [Int.mul_assoc, ← h6]; rfl
  rw [e]
  exact ⟨fun h => Int.lt_of_mul_lt_mul_right h (Int.le_of_lt h7), fun h => Int.mul_lt_mul_of_pos_right h h7⟩
theorem ticks_zero {r : Rt} (h : durB r = true) : ticksI r = 0 ↔ r.n = 0 := by
  rw [ticksI, if_pos h]
  obtain ⟨⟨h1, h2, h3⟩, ⟨h4, h5⟩, _⟩ := (durB_iff r).1 h
  have h6 : 1680 = r.d * (1680 / r.d) := (Int.mul_ediv_cancel' (Int.dvd_of_emod_eq_zero h3)).symm
  constructor
  · intro h
    rcases Int.mul_eq_zero.1 h with h | h
    · exact h
    · rw [h] at h6; simp at h6
  · intro h; rw [h]; simp
def isID (n : Int) : Bool := inB n 1 1000000
/-- A well-formed bar. -/
def barOk (b : Ba) : Bool := isID b.id && inB (ticksI b.len) 1 40320 && inB b.key (-7) 7
def barsB (l : List Ba) : Bool := decide (1 ≤ l.length) && decide (l.length ≤ 4000) && l.all barOk && decide (l.map Ba.id).Nodup
theorem barOk_iff (b : Ba) : barOk b = true ↔ isID b.id = true ∧ durB b.len = true ∧ b.len.n ≠ 0 ∧ ¬ 24 * b.len.d < b.len.n ∧ -7 ≤ b.key ∧ b.key ≤ 7 := by
  simp only [barOk, Bool.and_eq_true, inB_iff]
  constructor
  · rintro ⟨⟨h1, h2, h3⟩, h4, h5⟩
    have hd : durB b.len = true := by
      cases q : durB b.len
      · have := ticks_neg.2 q; omega
      · rfl
    refine ⟨h1, hd, fun e => ?_, fun e => ?_, h4, h5⟩
    · have := (ticks_zero hd).2 e; omega
    · have := (ticks_long hd).2 e; omega
  · rintro ⟨h1, h2, h3, h4, h5, h6⟩
    have h7 := ticks_nonneg h2
    refine ⟨⟨h1, ?_, ?_⟩, h5, h6⟩
    · rcases Int.lt_or_le 0 (ticksI b.len) with h | h
      · omega
      · exact absurd ((ticks_zero h2).1 (by omega)) h3
    · rcases Int.lt_or_le 40320 (ticksI b.len) with h | h
      · exact absurd ((ticks_long h2).1 h) h4
      · exact h
open Go.RowKit Go.Sort

def vldP (p : Pi) : Bool := vldB p.s p.a p.o
theorem vldP_iff (p : Pi) : vldP p = true ↔ (0 ≤ p.s ∧ p.s ≤ 6) ∧ (-4 ≤ p.a ∧ p.a ≤ 4) ∧ -8 ≤ p.o ∧ p.o ≤ 20 := vld_iff _ _ _
def soundI (p : Pi) : Int := 12 * p.o + natI p.s + p.a
theorem sound_bd {p : Pi} (h : vldP p = true) : -1000 ≤ soundI p ∧ soundI p ≤ 1000 := by
  obtain ⟨⟨h1, h2⟩, ⟨h3, h4⟩, h5, h6⟩ := (vldP_iff p).1 h
  have := natI_bd p.s h1 h2
  unfold soundI; omega
/-- The number of a pitch, or 0. -/
def numI (p : Pi) : Int := if vldP p then soundI p else 0
theorem num_bd (p : Pi) : -1000 ≤ numI p ∧ numI p ≤ 1000 := by
  unfold numI
  split
  · rename_i h; exact sound_bd h
  · omega
def frmI (i : Iv) : Bool := frmB i.x i.y
def fifI (i : Iv) : Int := 7 * i.y - 12 * i.x
def shiftB (i : Iv) : Bool := inB i.x (-21) 21 && inB i.y (-36) 36 && inB (fifI i) (-12) 12
theorem shift_iff (i : Iv) : shiftB i = true ↔ (-21 ≤ i.x ∧ i.x ≤ 21) ∧ (-36 ≤ i.y ∧ i.y ≤ 36) ∧ -12 ≤ fifI i ∧ fifI i ≤ 12 := by simp [shiftB, inB_iff, and_assoc]
theorem shift_frm {i : Iv} (h : shiftB i = true) : frmI i = true := by
  obtain ⟨⟨h1, h2⟩, ⟨h3, h4⟩, _⟩ := (shift_iff i).1 h
  exact (frm_iff _ _).2 ⟨⟨by omega, by omega⟩, by omega, by omega⟩
def partOk (p : Pa) : Bool :=
  isID p.id && inB p.section_ 0 99 && inB p.of 0 1000000 && inB p.octave (-2) 2 && inB p.desks 1 40 && shiftB p.shift && vldP p.low && vldP p.high && decide (p.of ≠ p.id) && (decide (p.of ≠ 0) || decide (p.octave = 0)) && decide (soundI p.low ≤ soundI p.high)
def partsB (l : List Pa) : Bool :=
  decide (1 ≤ l.length) && decide (l.length ≤ 60) && l.all partOk && decide (l.map Pa.id).Nodup && l.all fun p => decide (p.of = 0) || l.any fun q => decide (q.id = p.of) && decide (q.of = 0)
/-- The index of a bar, or -1. -/
def barAt (bars : List Ba) (id : Int) : Int := match bars.findIdx? (fun b => b.id == id) with | some i => i | none => -1
def isNoteP (p : Pi) : Bool := vldP p && inB p.a (-2) 2 && inB p.o 0 9
/-- Is a note well-formed in its bar? -/
def noteIn (b : Ba) (n : No) : Bool :=
  isNoteP n.pitch && isID n.id && isID n.part && inB n.voice 0 9 && inB n.ossia 0 20 && decide (0 ≤ ticksI n.start) && decide (0 < ticksI n.len) && decide (ticksI n.start + ticksI n.len ≤ ticksI b.len)
def noteOk (bars : List Ba) (n : No) : Bool := match bars.find? (fun b => b.id == n.bar) with | some b => noteIn b n | none => false
def notesB (bars : List Ba) (l : List No) : Bool := barsB bars && decide (l.length ≤ 20000) && l.all (noteOk bars) && decide (l.map No.id).Nodup
/-- The part whose own note it is. -/
def ownP (parts : List Pa) (n : No) : Option Pa := parts.find? fun p => decide (p.of = 0) && (p.id == n.part)
def inRange (parts : List Pa) (n : No) : Bool := match ownP parts n with | some p => decide (numI p.low ≤ numI n.pitch) && decide (numI n.pitch ≤ numI p.high) | none => false
def wrongI (parts : List Pa) (l : List No) : Int := if l.all fun n => (ownP parts n).isSome then (if l.all (inRange parts) then 0 else 20) else 22
/-- What notes are compared by. -/
def keysL (bars : List Ba) (n : No) : List Int := [barAt bars n.bar, n.part, ticksI n.start, n.voice, soundI n.pitch, n.id]
def lexLt : List Int → List Int → Bool
  | x :: xs, y :: ys => if x = y then lexLt xs ys else decide (x < y)
  | _, _ => false
def beforeB (bars : List Ba) (a b : No) : Bool := lexLt (keysL bars a) (keysL bars b)
def sortedB (bars : List Ba) (l : List No) : Bool := (List.range (l.length - 1)).all fun i => beforeB bars (l.getD i default) (l.getD (i + 1) default)
structure Sc where
  version : Int
  bars : List Ba
  parts : List Pa
  notes : List No
def validS (s : Sc) : Bool := isID s.version && barsB s.bars && partsB s.parts && notesB s.bars s.notes && decide (wrongI s.parts s.notes = 0) && sortedB s.bars s.notes
def sourceP (p : Pa) : Int := if p.of = 0 then p.id else p.of
def asPlayed (p : Pa) (n : No) : No := { n with part := p.id, pitch := ⟨n.pitch.s, n.pitch.a, n.pitch.o + p.octave⟩ }
/-- What a part plays. -/
def playedL (s : Sc) (p : Pa) : List No := (s.notes.filter fun n => n.part == sourceP p).map (asPlayed p)
open Go.RowKit Go.Sort

/-- The first number that is not 0. -/
def orL : List Int → Int
  | [] => 0
  | x :: xs => if x = 0 then orL xs else x
theorem lex_irrefl (xs : List Int) : lexLt xs xs = false := by
  induction xs with
  | nil => rfl
  | cons x xs ih => simp [lexLt, ih]
theorem lex_trans {xs ys zs : List Int} (h1 : lexLt xs ys = true) (h2 : lexLt ys zs = true) : lexLt xs zs = true := by
  induction xs generalizing ys zs with
  | nil => simp [lexLt] at h1
  | cons x xs ih =>
    cases ys with
    | nil => simp [lexLt] at h1
    | cons y ys =>
      cases zs with
      | nil => simp [lexLt] at h2
      | cons z zs =>
        simp only [lexLt] at *
        by_cases e1 : x = y
        · by_cases e2 : y = z
          · rw [if_pos e1] at h1; rw [if_pos e2] at h2; rw [if_pos (e1.trans e2)]; exact ih h1 h2
          · rw [if_neg e2] at h2; rw [if_neg (by omega)]; simp at *; omega
        · by_cases e2 : y = z
          · rw [if_neg e1] at h1; rw [if_neg (by omega)]; simp at *; omega
          · rw [if_neg e1] at h1; rw [if_neg e2] at h2; simp at h1 h2; rw [if_neg (by omega)]; simp; omega
theorem lex_asymm {xs ys : List Int} (h1 : lexLt xs ys = true) : lexLt ys xs = false := by
  cases h : lexLt ys xs
  · rfl
  · have := lex_trans h1 h
    rw [lex_irrefl] at this; cases this
theorem lex_total {xs ys : List Int} (hl : xs.length = ys.length) (hne : xs ≠ ys) : lexLt xs ys = true ∨ lexLt ys xs = true := by
  induction xs generalizing ys with
  | nil =>
    cases ys with
    | nil => exact absurd rfl hne
    | cons y ys => simp at hl
  | cons x xs ih =>
    cases ys with
    | nil => simp at hl
    | cons y ys =>
      simp only [lexLt]
      by_cases e : x = y
      · subst e
        rw [if_pos rfl, if_pos rfl]
        exact ih (by simpa using hl) (fun e => hne (by rw [e]))
      · rw [if_neg e, if_neg (fun e2 => e e2.symm)]
        simp; omega
/-- The differences, one by one: the first one that is not 0 tells the order. -/
def diffL (xs ys : List Int) : List Int := List.zipWith (fun x y => x - y) xs ys
theorem or_neg {xs ys : List Int} (hl : xs.length = ys.length) : decide (orL (diffL xs ys) < 0) = lexLt xs ys := by
  induction xs generalizing ys with
  | nil =>
    cases ys with
    | nil => rfl
    | cons y ys => simp at hl
  | cons x xs ih =>
    cases ys with
    | nil => simp at hl
    | cons y ys =>
      simp only [diffL, List.zipWith_cons_cons, orL, lexLt]
      by_cases e : x = y
      · subst e
        rw [if_pos (by omega), if_pos rfl]
        exact ih (by simpa using hl)
      · rw [if_neg (by omega), if_neg e]
        rw [decide_eq_decide]; omega
/-- Two lists of the same members that both rise strictly by their keys are equal. -/
theorem sorted_eq {α : Type} {key : α → List Int} {l r : List α} (hp : l.Perm r) (hl : l.Pairwise fun a b => lexLt (key a) (key b) = true) (hr : r.Pairwise fun a b => lexLt (key a) (key b) = true) : l = r :=
  List.Perm.eq_of_pairwise (le := fun a b => lexLt (key a) (key b) = true) (fun a b _ _ h1 h2 => by rw [lex_asymm h1] at h2; cases h2) hl hr hp
theorem adj_pairwise {α : Type} [Inhabited α] {R : α → α → Bool} (ht : ∀ a b c, R a b = true → R b c = true → R a c = true) {l : List α} :
    ((List.range (l.length - 1)).all fun i => R (l.getD i default) (l.getD (i + 1) default)) = true ↔ l.Pairwise fun a b => R a b = true := by
  rw [List.all_eq_true]
  have hg : ∀ i (hi : i < l.length), l.getD i default = l[i] := fun i hi => by simp [List.getD, hi]
  constructor
  · intro h
    have key : ∀ (j i : Nat) (hj : j < l.length) (hij : i < j), R (l[i]'(by omega)) l[j] = true := by
      intro j
      induction j with
      | zero => intro i _ hij; omega
      | succ j ih =>
        intro i hj hij
        have h1 := h j (List.mem_range.2 (by omega))
        rw [hg j (by omega), hg (j + 1) hj] at h1
        by_cases e : i = j
        · subst e; exact h1
        · exact ht _ _ _ (ih i (by omega) (by omega)) h1
    rw [List.pairwise_iff_getElem]
    exact fun i j hi hj hij => key j i hj hij
  · intro h i hi
    have hi := List.mem_range.1 hi
    rw [hg i (by omega), hg (i + 1) (by omega)]
    exact List.pairwise_iff_getElem.1 h i (i + 1) (by omega) (by omega) (by omega)
theorem sorted_iff {bars : List Ba} {l : List No} : sortedB bars l = true ↔ l.Pairwise fun a b => beforeB bars a b = true :=
  adj_pairwise (R := fun a b => beforeB bars a b) fun a b c h1 h2 => lex_trans (xs := keysL bars a) (ys := keysL bars b) (zs := keysL bars c) h1 h2
open Go.RowKit Go.Sort

/-- What the model wants to know of a plain key. -/
structure KeyOk (P : Program) (K : TypeId) {κ : Type} [DecidableEq κ] (enc : κ → Value) : Prop where
  kind : ∃ d, P.underlying K = some d ∧ (∀ a b, Instr.sameNow d (enc a) (enc b) = some (decide (a = b)))
  bits : ∀ a, Instr.sameBits 10000 (enc a) (enc a) = true
  check : ∀ (a : κ) (b : Bool) (w : World), (Instr.checkKey b 10000 K (enc a)).run P w = .ok () w

section
variable {κ : Type} [DecidableEq κ] {enc : κ → Value} {P : Program} {w : World}

/-- Block r is a map of these entries, in the order in which they came. -/
structure MapAt (w : World) (enc : κ → Value) (r : Nat) (m : List (κ × Value)) : Prop where
  ex : ∃ es clock, w.heap[r]? = some (.map es clock) ∧ es.toList.map (fun e => (e.key, e.val)) = m.map (fun p => (enc p.1, p.2)) ∧ (∀ e ∈ es.toList, e.born < clock) ∧ (es.toList.map (·.born)).Nodup
  nodup : (m.map Prod.fst).Nodup

def mget (m : List (κ × Value)) (k : κ) : Option Value := (m.find? fun p => decide (p.1 = k)).map Prod.snd
def mput (m : List (κ × Value)) (k : κ) (v : Value) : List (κ × Value) := if (mget m k).isSome then m.map (fun p => if p.1 = k then (k, v) else p) else m ++ [(k, v)]
theorem mget_nil (k : κ) : mget [] k = none := rfl
theorem mget_cons (p : κ × Value) (m : List (κ × Value)) (k : κ) : mget (p :: m) k = if p.1 = k then some p.2 else mget m k := by
  unfold mget; rw [List.find?_cons]; by_cases h : p.1 = k <;> simp [h]
theorem mget_append (m r : List (κ × Value)) (k : κ) : mget (m ++ r) k = (mget m k).or (mget r k) := by
  induction m with
  | nil => simp [mget_nil]
  | cons p m ih => rw [List.cons_append, mget_cons, mget_cons, ih]; split <;> simp
theorem mget_map (m : List (κ × Value)) (k k' : κ) (v : Value) : mget (m.map fun p => if p.1 = k then (k, v) else p) k' = if k' = k then (mget m k).map (fun _ => v) else mget m k' := by
  induction m with
  | nil => simp [mget_nil]
  | cons p m ih =>
    rw [List.map_cons, mget_cons, mget_cons, mget_cons, ih]
    by_cases h : p.1 = k
    · by_cases h' : k' = k
      · simp [h, h']
      · have h'' : ¬ k = k' := fun e => h' e.symm
        simp [h, h', h'']
    · by_cases h' : k' = k
      · subst h'; simp [h]
      · simp [h, h']
theorem mget_mput (m : List (κ × Value)) (k k' : κ) (v : Value) : mget (mput m k v) k' = if k' = k then some v else mget m k' := by
  unfold mput
  split
  · rename_i h
    rw [mget_map]
    obtain ⟨x, hx⟩ := Option.isSome_iff_exists.1 h
    rw [hx]; rfl
  · rename_i h
    have h0 : mget m k = none := by simpa using h
    rw [mget_append, mget_cons, mget_nil]
    by_cases e : k' = k
    · subst e; simp [h0]
    · have e' : ¬ k = k' := fun x => e x.symm
      simp [e, e']
theorem mget_isSome (m : List (κ × Value)) (k : κ) : (mget m k).isSome = true ↔ k ∈ m.map Prod.fst := by
  induction m with
  | nil => simp [mget_nil]
  | cons p m ih =>
    rw [mget_cons]
    by_cases h : p.1 = k
    · simp [h]
    · have : ¬ k = p.1 := fun e => h e.symm
      rw [if_neg h, ih]; simp [this]
omit [DecidableEq κ] in
theorem MapAt.lt {r : Nat} {m : List (κ × Value)} (h : MapAt w enc r m) : r < w.heap.size := by
  obtain ⟨es, c, hb, _⟩ := h.ex; exact (Array.getElem?_eq_some_iff.1 hb).1
omit [DecidableEq κ] in
theorem MapAt.below {w' : World} {r : Nat} {m : List (κ × Value)} (h : MapAt w enc r m) (hb : Below w.heap.size w w') : MapAt w' enc r m := by
  obtain ⟨⟨es, c, h1, h2⟩, h3⟩ := h; exact ⟨⟨es, c, blk_keep h1 hb, h2⟩, h3⟩
omit [DecidableEq κ] in
theorem MapAt.kept {w' : World} {r : Nat} {m : List (κ × Value)} {row : Option Nat} (h : MapAt w enc r m) (hg : w.grownBy w' row) (hne : row ≠ some r) : MapAt w' enc r m := by
  have hlt := h.lt
  obtain ⟨⟨es, c, h1, h2⟩, h3⟩ := h; exact ⟨⟨es, c, (hg.block r hlt (fun e => hne e.symm)).trans h1, h2⟩, h3⟩
omit [DecidableEq κ] in
theorem MapAt.new (w : World) (enc : κ → Value) : MapAt (w.alloc (.map #[] 0)) enc w.heap.size [] := ⟨⟨#[], 0, heap_alloc_new _ _, rfl, by simp, by simp⟩, by simp⟩

/-- Where a key is. -/
def whereIs : List (κ × Value) → κ → Nat → Option (Nat × Value)
  | [], _, _ => none
  | p :: m, k, i => if k = p.1 then some (i, p.2) else whereIs m k (i + 1)
theorem whereIs_snd (m : List (κ × Value)) (k : κ) (i : Nat) : (whereIs m k i).map Prod.snd = mget m k := by
  induction m generalizing i with
  | nil => rfl
  | cons p m ih =>
    rw [mget_cons, whereIs]
    by_cases h : k = p.1
    · rw [if_pos h, if_pos h.symm]; rfl
    · rw [if_neg h, if_neg (fun e => h e.symm), ih]
theorem whereIs_get (m : List (κ × Value)) (k : κ) (i j : Nat) (v : Value) (h : whereIs m k i = some (j, v)) : ∃ t, j = i + t ∧ m[t]? = some (k, v) ∧ ∀ s, s < t → ∀ p, m[s]? = some p → p.1 ≠ k := by
  induction m generalizing i with
  | nil => cases h
  | cons p m ih =>
    rw [whereIs] at h
    by_cases e : k = p.1
    · rw [if_pos e] at h
      cases h
      exact ⟨0, rfl, by simp [e], fun s hs => by omega⟩
    · rw [if_neg e] at h
      obtain ⟨t, h1, h2, h3⟩ := ih _ h
      refine ⟨t + 1, by omega, by simpa using h2, fun s hs q hq => ?_⟩
      cases s with
      | zero => simp at hq; subst hq; exact fun x => e x.symm
      | succ s => exact h3 s (by omega) q (by simpa using hq)
theorem findNow_eq {d : TypeDesc} (hnow : ∀ a b, Instr.sameNow d (enc a) (enc b) = some (decide (a = b))) (k : κ) (es : List MapEntry) (m : List (κ × Value)) (h : es.map (fun e => (e.key, e.val)) = m.map (fun p => (enc p.1, p.2))) (i : Nat) :
    Instr.findNow d (enc k) es i = some (whereIs m k i) := by
  induction es generalizing m i with
  | nil => cases m with
    | nil => rfl
    | cons p m => simp at h
  | cons e es ih =>
    cases m with
    | nil => simp at h
    | cons p m =>
      simp only [List.map_cons, List.cons.injEq, Prod.mk.injEq] at h
      obtain ⟨⟨h1, h2⟩, h3⟩ := h
      rw [Instr.findNow, h1, hnow, whereIs]
      by_cases e' : k = p.1
      · simp [e', h2]
      · simp [e', ih m h3 (i + 1)]
theorem run_findKey {K : TypeId} (hk : KeyOk P K enc) (k : κ) (es : List MapEntry) (m : List (κ × Value)) (h : es.map (fun e => (e.key, e.val)) = m.map (fun p => (enc p.1, p.2))) (w : World) :
    (Instr.findKey K (enc k) es).run P w = .ok (whereIs m k 0) w := by
  obtain ⟨d, hd, hnow⟩ := hk.kind
  unfold Instr.findKey
  simp [run_underlying hd, findNow_eq hnow k es m h 0, Result.andThen]

/-- 'm[k]'. -/
theorem run_lookup_at {t K E : TypeId} (ht : P.underlying t = some (.map K E)) (hk : KeyOk P K enc) {z : Value} (hz : ∀ w, (zeroValue E).run P w = .ok z w) {r : Nat} {m : List (κ × Value)} (h : MapAt w enc r m) (k : κ) (ok : Bool) :
    (Instr.lookup t (.map (some r)) (enc k) ok).run P w = .ok (if ok then .tuple #[(mget m k).getD z, .bool (mget m k).isSome] else (mget m k).getD z) w := by
  obtain ⟨es, c, hb, he, _, _⟩ := h.ex
  have hf := run_findKey hk k es.toList m he w
  have hs := whereIs_snd m k 0
  cases hw : whereIs m k 0 with
  | none =>
    rw [hw] at hf hs
    have hs' : mget m k = none := hs.symm
    cases ok <;> simp [Instr.lookup, run_underlying ht, MapKept.run_getObj_map hb, hk.check, hf, hs', hz, Result.andThen]
  | some x =>
    obtain ⟨i, v⟩ := x
    rw [hw] at hf hs
    have hs' : mget m k = some v := hs.symm
    cases ok <;> simp [Instr.lookup, run_underlying ht, MapKept.run_getObj_map hb, hk.check, hf, hs', Result.andThen]
theorem grownBy_putObj (w : World) (r : Nat) (o : Obj) : w.grownBy { w with heap := w.heap.setIfInBounds r o } (some r) :=
  ⟨rfl, rfl, rfl, by simp, fun k _ hne => by simp only; rw [Array.getElem?_setIfInBounds_ne (fun e => hne (by rw [e]))]⟩

theorem map_set_entry (m : List (κ × Value)) (k : κ) (v v0 : Value) (i : Nat) (hi : m[i]? = some (k, v0)) (hn : (m.map Prod.fst).Nodup) : m.set i (k, v) = m.map (fun p => if p.1 = k then (k, v) else p) := by
  induction m generalizing i with
  | nil => simp at hi
  | cons p m ih =>
    simp only [List.map_cons, List.nodup_cons] at hn
    cases i with
    | zero =>
      simp at hi; subst hi
      simp only [List.set_cons_zero, List.map_cons, if_true]
      congr 1
      symm
      conv => rhs; rw [← List.map_id m]
      refine List.map_congr_left fun q hq => ?_
      rw [if_neg]; rfl
      exact fun e => hn.1 (by rw [← e]; exact List.mem_map.2 ⟨q, hq, rfl⟩)
    | succ i =>
      have hi' : m[i]? = some (k, v0) := by simpa using hi
      rw [List.set_cons_succ, List.map_cons, if_neg, ih i hi' hn.2]
      intro e
      exact hn.1 (by rw [e]; exact List.mem_map.2 ⟨(k, v0), List.mem_of_getElem? hi', rfl⟩)

/-- 'm[k] = v'. -/
theorem run_update_at {t K E : TypeId} (ht : P.underlying t = some (.map K E)) (hk : KeyOk P K enc) {r : Nat} {m : List (κ × Value)} (h : MapAt w enc r m) (k : κ) (v : Value) :
    ∃ w', (Instr.mapUpdate t (.map (some r)) (enc k) v).run P w = .ok () w' ∧ MapAt w' enc r (mput m k v) ∧ w.grownBy w' (some r) := by
  have hlt := h.lt
  obtain ⟨⟨es, c, hb, he, hbn, hnd⟩, hn⟩ := h
  have hf := run_findKey hk k es.toList m he w
  have hs := whereIs_snd m k 0
  cases hw : whereIs m k 0 with
  | none =>
    rw [hw] at hf hs
    have hs' : mget m k = none := hs.symm
    refine ⟨_, by simp [Instr.mapUpdate, run_underlying ht, MapKept.run_getObj_map hb, hk.check, hf, MapKept.run_setObj_map _ hb, Result.andThen]; rfl, ?_, grownBy_putObj w r _⟩
    refine ⟨⟨es.push { key := enc k, val := v, born := c }, c + 1, by simp [hlt], ?_, ?_, ?_⟩, ?_⟩
    · unfold mput; simp [hs', he]
    · intro e hme
      simp only [Array.toList_push, List.mem_append, List.mem_singleton] at hme
      rcases hme with hme | rfl
      · have := hbn e hme; omega
      · simp
    · simp only [Array.toList_push, List.map_append, List.map_cons, List.map_nil]
      refine List.nodup_append.2 ⟨hnd, by simp, fun x hx y hy e => ?_⟩
      obtain ⟨e', he', rfl⟩ := List.mem_map.1 hx
      simp at hy; subst hy
      have := hbn e' he'; omega
    · unfold mput; simp only [hs', Option.isSome_none, Bool.false_eq_true, if_false, List.map_append, List.map_cons, List.map_nil]
      refine List.nodup_append.2 ⟨hn, by simp, fun x hx y hy e => ?_⟩
      simp at hy; subst hy; subst e
      have := (mget_isSome m x).2 hx
      rw [hs'] at this; cases this
  | some x =>
    obtain ⟨i, v0⟩ := x
    rw [hw] at hf hs
    have hs' : mget m k = some v0 := hs.symm
    obtain ⟨t', e1, hget, _⟩ := whereIs_get m k 0 i v0 hw
    obtain rfl : i = t' := by omega
    have hi : i < es.size := by
      have h1 := congrArg List.length he
      simp only [List.length_map, Array.length_toList] at h1
      rw [h1]; exact (List.getElem?_eq_some_iff.1 hget).1
    have hkey : es[i].key = enc k := by
      have h1 := congrArg (fun l => l[i]?) he
      simp only [List.getElem?_map, hget, Array.getElem?_toList, Array.getElem?_eq_getElem hi, Option.map_some, Option.some.injEq, Prod.mk.injEq] at h1
      exact h1.1
    have hkey' : (Option.map (fun e => e.key) es[i]?).getD (enc k) = enc k := by
      rw [Array.getElem?_eq_getElem hi]; exact hkey
    refine ⟨_, by simp [Instr.mapUpdate, run_underlying ht, MapKept.run_getObj_map hb, hk.check, hf, Instr.keyThatStays, hkey', hk.bits, MapKept.run_setObj_map _ hb, Result.andThen]; rfl, ?_, grownBy_putObj w r _⟩
    have hmod : (es.modify i fun e => { e with key := enc k, val := v }).toList = es.toList.set i ⟨enc k, v, es[i].born⟩ := by
      apply List.ext_getElem?
      intro j
      rw [Array.getElem?_toList, Array.getElem?_modify, List.getElem?_set, Array.getElem?_toList]
      by_cases e : i = j
      · subst e; simp [hi]
      · simp [e]
    refine ⟨⟨_, c, by simp [hlt]; rfl, ?_, ?_, ?_⟩, ?_⟩
    · rw [hmod, List.map_set, he]
      unfold mput
      rw [hs', ← map_set_entry m k v v0 i hget hn, if_pos (show (some v0).isSome = true from rfl), List.map_set]
    · intro e hme
      rw [hmod] at hme
      rcases List.mem_or_eq_of_mem_set hme with hme | rfl
      · exact hbn e hme
      · exact hbn es[i] (by simp)
    · rw [hmod, List.map_set]
      have : (es.toList.map (·.born)).set i es[i].born = es.toList.map (·.born) := by
        apply List.ext_getElem?
        intro j
        rw [List.getElem?_set]
        split
        · rename_i e; subst e; simp [hi]
        · rfl
      rw [this]; exact hnd
    · unfold mput; rw [hs']; simp only [Option.isSome_some, if_true, List.map_map]
      have : (Prod.fst ∘ fun p : κ × Value => if p.1 = k then (k, v) else p) = Prod.fst := by
        funext p; simp only [Function.comp]; split
        · rename_i e; exact e.symm
        · rfl
      rw [this]; exact hn

section
variable {ops : Array Oper} {rest : List Oper} {o : Oper} {a : Act} {Q : Exit → Act → World → Prop}
theorem wpList_mapUpdate_at (hg : o.guard = none) (mo x v : Operand) (t : TypeId) (hop : o.op = Op.mapUpdate t mo x v ∨ o.op = Op.insert t mo x v) {K E : TypeId} (ht : P.underlying t = some (.map K E)) (hk : KeyOk P K enc)
    (r : Nat) (m : List (κ × Value)) (hm : a.eval mo = .map (some r)) (h : MapAt w enc r m) (k : κ) (hx : a.eval x = enc k) (val : Value) (hv : a.eval v = val)
    (hK : ∀ w', MapAt w' enc r (mput m k val) → w.grownBy w' (some r) → wpList P ops Q rest (a.put o.dst undef) w') : wpList P ops Q (o :: rest) a w := by
  refine wpList_plain hg fun K' hK' => ?_
  obtain ⟨w', hrun, r1, r2⟩ := run_update_at ht hk h k val
  unfold Oper.wp
  rcases hop with hop | hop <;>
    (simp only [execOp, hop, hm, hx, hv]
     simp [hrun, Result.andThen]
     exact hK' _ _ (hK w' r1 r2))
end
end

theorem checkKey_int {P : Program} {K : TypeId} (hK : P.underlying K = some (.int .i64)) (n : Nat) (a : Int) (b : Bool) (w : World) : (Instr.checkKey b (n + 1) K (.int .i64 a)).run P w = .ok () w := by
  simp [Instr.checkKey, run_underlying hK]
theorem keyInt {P : Program} {K : TypeId} (hK : P.underlying K = some (.int .i64)) : KeyOk P K (fun n : Int => Value.int .i64 n) :=
  ⟨⟨_, hK, fun a b => by simp [Instr.sameNow]; by_cases h : a = b <;> simp [h]⟩, fun a => by simp [Instr.sameBits], fun a b w => checkKey_int hK 9999 a b w⟩

end Go.Proofs.YtcelciomhngajaaGreatDoor
/- Rows of bars, notes, parts; a map of what was seen; no condition. -/
namespace Go.Proofs.YtcelciomhngajaaGreatDoor
set_option linter.unusedSimpArgs false
set_option linter.unusedVariables false
open Go.RowKit Go.Sort

theorem keepE {w w' : World} {p : Addr} {v : Value} (h : w.cell? p = some v) (hb : Below w.heap.size w w') : w'.cell? p = some v := by
  rcases Nat.lt_or_ge p.block w.heap.size with hlt | hge
  · rw [hb.cell hlt]; exact h
  · exact absurd (World.block_lt_of_cell? _ _ h) (by omega)
theorem BaAt.get {w : World} {a : Option Addr} {l : List Ba} (h : BaAt w a l) (i : Nat) (hi : i < l.length) : ∃ b off, a = some ⟨b, off, none⟩ ∧ b < w.heap.size ∧ w.cell? ⟨b, off + i * 4, none⟩ = some (.int .i64 l[i].id) ∧ w.cell? ⟨b, off + i * 4 + 1, none⟩ = some (.int .i64 l[i].len.n) ∧ w.cell? ⟨b, off + i * 4 + 2, none⟩ = some (.int .i64 l[i].len.d) ∧ w.cell? ⟨b, off + i * 4 + 3, none⟩ = some (.int .i64 l[i].key) := by
  obtain ⟨b, off, e, hb, _, hc⟩ := h i l[i].cells (by simp [hi])
  exact ⟨b, off, e, hb, hc 0 _ rfl, hc 1 _ rfl, hc 2 _ rfl, hc 3 _ rfl⟩
theorem BaAt.take {w : World} {a : Option Addr} {l : List Ba} (h : BaAt w a l) (k : Nat) : BaAt w a (l.take k) := by
  unfold BaAt; rw [List.map_take]; exact SlAt.take h k
theorem NoAt.get {w : World} {a : Option Addr} {l : List No} (h : NoAt w a l) (i : Nat) (hi : i < l.length) : ∃ b off, a = some ⟨b, off, none⟩ ∧ b < w.heap.size ∧ w.cell? ⟨b, off + i * 12, none⟩ = some (.int .i64 l[i].id) ∧ w.cell? ⟨b, off + i * 12 + 1, none⟩ = some (.int .i64 l[i].part) ∧ w.cell? ⟨b, off + i * 12 + 2, none⟩ = some (.int .i64 l[i].bar) ∧ w.cell? ⟨b, off + i * 12 + 3, none⟩ = some (.int .i64 l[i].voice) ∧ w.cell? ⟨b, off + i * 12 + 4, none⟩ = some (.int .i64 l[i].ossia) ∧ w.cell? ⟨b, off + i * 12 + 5, none⟩ = some (.int .i64 l[i].start.n) ∧ w.cell? ⟨b, off + i * 12 + 6, none⟩ = some (.int .i64 l[i].start.d) ∧ w.cell? ⟨b, off + i * 12 + 7, none⟩ = some (.int .i64 l[i].len.n) ∧ w.cell? ⟨b, off + i * 12 + 8, none⟩ = some (.int .i64 l[i].len.d) ∧ w.cell? ⟨b, off + i * 12 + 9, none⟩ = some (.int .i64 l[i].pitch.s) ∧ w.cell? ⟨b, off + i * 12 + 10, none⟩ = some (.int .i64 l[i].pitch.a) ∧ w.cell? ⟨b, off + i * 12 + 11, none⟩ = some (.int .i64 l[i].pitch.o) := by
  obtain ⟨b, off, e, hb, _, hc⟩ := h i l[i].cells (by simp [hi])
  exact ⟨b, off, e, hb, hc 0 _ rfl, hc 1 _ rfl, hc 2 _ rfl, hc 3 _ rfl, hc 4 _ rfl, hc 5 _ rfl, hc 6 _ rfl, hc 7 _ rfl, hc 8 _ rfl, hc 9 _ rfl, hc 10 _ rfl, hc 11 _ rfl⟩
theorem NoAt.take {w : World} {a : Option Addr} {l : List No} (h : NoAt w a l) (k : Nat) : NoAt w a (l.take k) := by
  unfold NoAt; rw [List.map_take]; exact SlAt.take h k
theorem PaAt.get {w : World} {a : Option Addr} {l : List Pa} (h : PaAt w a l) (i : Nat) (hi : i < l.length) : ∃ b off, a = some ⟨b, off, none⟩ ∧ b < w.heap.size ∧ w.cell? ⟨b, off + i * 13, none⟩ = some (.int .i64 l[i].id) ∧ w.cell? ⟨b, off + i * 13 + 1, none⟩ = some (.int .i64 l[i].section_) ∧ w.cell? ⟨b, off + i * 13 + 2, none⟩ = some (.int .i64 l[i].of) ∧ w.cell? ⟨b, off + i * 13 + 3, none⟩ = some (.int .i64 l[i].octave) ∧ w.cell? ⟨b, off + i * 13 + 4, none⟩ = some (.int .i64 l[i].desks) ∧ w.cell? ⟨b, off + i * 13 + 5, none⟩ = some (.int .i64 l[i].shift.x) ∧ w.cell? ⟨b, off + i * 13 + 6, none⟩ = some (.int .i64 l[i].shift.y) ∧ w.cell? ⟨b, off + i * 13 + 7, none⟩ = some (.int .i64 l[i].low.s) ∧ w.cell? ⟨b, off + i * 13 + 8, none⟩ = some (.int .i64 l[i].low.a) ∧ w.cell? ⟨b, off + i * 13 + 9, none⟩ = some (.int .i64 l[i].low.o) ∧ w.cell? ⟨b, off + i * 13 + 10, none⟩ = some (.int .i64 l[i].high.s) ∧ w.cell? ⟨b, off + i * 13 + 11, none⟩ = some (.int .i64 l[i].high.a) ∧ w.cell? ⟨b, off + i * 13 + 12, none⟩ = some (.int .i64 l[i].high.o) := by
  obtain ⟨b, off, e, hb, _, hc⟩ := h i l[i].cells (by simp [hi])
  exact ⟨b, off, e, hb, hc 0 _ rfl, hc 1 _ rfl, hc 2 _ rfl, hc 3 _ rfl, hc 4 _ rfl, hc 5 _ rfl, hc 6 _ rfl, hc 7 _ rfl, hc 8 _ rfl, hc 9 _ rfl, hc 10 _ rfl, hc 11 _ rfl, hc 12 _ rfl⟩
theorem PaAt.take {w : World} {a : Option Addr} {l : List Pa} (h : PaAt w a l) (k : Nat) : PaAt w a (l.take k) := by
  unfold PaAt; rw [List.map_take]; exact SlAt.take h k
theorem WrAt.get {w : World} {a : Option Addr} {l : List Wr} (h : WrAt w a l) (i : Nat) (hi : i < l.length) : ∃ b off, a = some ⟨b, off, none⟩ ∧ b < w.heap.size ∧ w.cell? ⟨b, off + i * 10, none⟩ = some (.int .i64 l[i].id) ∧ w.cell? ⟨b, off + i * 10 + 1, none⟩ = some (.int .i64 l[i].voice) ∧ w.cell? ⟨b, off + i * 10 + 2, none⟩ = some (.int .i64 l[i].ossia) ∧ w.cell? ⟨b, off + i * 10 + 3, none⟩ = some (.int .i64 l[i].start.n) ∧ w.cell? ⟨b, off + i * 10 + 4, none⟩ = some (.int .i64 l[i].start.d) ∧ w.cell? ⟨b, off + i * 10 + 5, none⟩ = some (.int .i64 l[i].len.n) ∧ w.cell? ⟨b, off + i * 10 + 6, none⟩ = some (.int .i64 l[i].len.d) ∧ w.cell? ⟨b, off + i * 10 + 7, none⟩ = some (.int .i64 l[i].pitch.s) ∧ w.cell? ⟨b, off + i * 10 + 8, none⟩ = some (.int .i64 l[i].pitch.a) ∧ w.cell? ⟨b, off + i * 10 + 9, none⟩ = some (.int .i64 l[i].pitch.o) := by
  obtain ⟨b, off, e, hb, _, hc⟩ := h i l[i].cells (by simp [hi])
  exact ⟨b, off, e, hb, hc 0 _ rfl, hc 1 _ rfl, hc 2 _ rfl, hc 3 _ rfl, hc 4 _ rfl, hc 5 _ rfl, hc 6 _ rfl, hc 7 _ rfl, hc 8 _ rfl, hc 9 _ rfl⟩
theorem WrAt.take {w : World} {a : Option Addr} {l : List Wr} (h : WrAt w a l) (k : Nat) : WrAt w a (l.take k) := by
  unfold WrAt; rw [List.map_take]; exact SlAt.take h k

abbrev encJ (n : Int) : Value := .int .i64 n
theorem keyJ : KeyOk Tryz.prog 3 encJ := keyInt Tryz.underlying3
theorem zeroBoolJ (w : World) : (zeroValue 4).run Tryz.prog w = .ok (.bool false) w := by kernel_rfl
/-- Block r is a map of the first k keys. -/
def SeenAt (W : World) (r : Nat) (l : List Int) (k : Nat) : Prop := ∃ m, MapAt W encJ r m ∧ ∀ x, (mget m x).getD (.bool false) = .bool ((l.take k).contains x)
theorem SeenAt.below {W W' : World} {r : Nat} {l : List Int} {k : Nat} (h : SeenAt W r l k) (hb : Below W.heap.size W W') : SeenAt W' r l k := by
  obtain ⟨m, h1, h2⟩ := h
  exact ⟨m, h1.below hb, h2⟩
theorem SeenAt.look {W : World} {r : Nat} {l : List Int} {k : Nat} (h : SeenAt W r l k) (x : Int) : (Instr.lookup 147 (.map (some r)) (.int .i64 x) false).run Tryz.prog W = .ok (.bool ((l.take k).contains x)) W := by
  obtain ⟨m, h1, h2⟩ := h
  rw [← h2 x]
  exact run_lookup_at Tryz.underlying147 keyJ zeroBoolJ h1 x false
theorem seen_put {m : List (Int × Value)} {l : List Int} {k : Nat} (h : ∀ x, (mget m x).getD (.bool false) = .bool ((l.take k).contains x)) (hk : k < l.length) (x : Int) : (mget (mput m l[k] (.bool true)) x).getD (.bool false) = .bool ((l.take (k + 1)).contains x) := by
  rw [mget_mput, List.take_succ_eq_append_getElem hk]
  generalize l.take k = t at *
  generalize l[k] = y at *
  by_cases e : x = y
  · rw [if_pos e, e]; simp
  · rw [if_neg e, h x]; simp [e]
theorem nodup_take {l : List Int} {k : Nat} (hk : k < l.length) (h : (l.take k).Nodup) (hc : (l.take k).contains l[k] = false) : (l.take (k + 1)).Nodup := by
  rw [List.take_succ_eq_append_getElem hk, List.nodup_append]
  refine ⟨h, by simp, fun a ha b hb e => ?_⟩
  simp only [List.mem_singleton] at hb
  subst hb; subst e
  have : (l.take k).contains l[k] = true := by simpa using ha
  rw [hc] at this; cases this
theorem dup_take {l : List Int} {k : Nat} (hk : k < l.length) (hc : (l.take k).contains l[k] = true) : ¬ l.Nodup := by
  intro hn
  have h1 : (l.take (k + 1)).Nodup := hn.sublist (List.take_sublist _ _)
  rw [List.take_succ_eq_append_getElem hk, List.nodup_append] at h1
  exact h1.2.2 l[k] (by simpa using hc) l[k] (by simp) rfl
end Go.Proofs.YtcelciomhngajaaGreatDoor
/- Instruments, views and cues by themselves; no condition. -/
namespace Go.Proofs.YtcelciomhngajaaGreatDoor
set_option linter.unusedSimpArgs false
set_option linter.unusedVariables false
open Go.RowKit Go.Sort

/-- How often a key is turned by twelve fifths. -/
def turnsI (n : Int) : Int := if 0 < n then (n + 4) / 12 else -((4 - n) / 12)
theorem turns_key {n : Int} (h1 : -10000 ≤ n) (h2 : n ≤ 10000) : -7 ≤ n - 12 * turnsI n ∧ n - 12 * turnsI n ≤ 7 := by unfold turnsI; split <;> omega
def moveR (k x y : Int) : Int × Int × Int × Int := if frmB x y && inB k (-7) 7 then (7 * y - 12 * x + k - 12 * turnsI (7 * y - 12 * x + k), x + turnsI (7 * y - 12 * x + k), y, 0) else (0, 0, 0, 1)
def keyB (k : Int) : Bool := inB k (-7) 7
/-- Can a part be written? -/
def writtenB (p : Pa) : Bool := shiftB p.shift && vldP p.low && vldP p.high && decide (numI p.low ≤ numI p.high)
def mvK (p : Pa) (k : Int) : Int := (moveR k (-p.shift.x) (-p.shift.y)).1
def mvX (p : Pa) (k : Int) : Int := (moveR k (-p.shift.x) (-p.shift.y)).2.1
def mvY (p : Pa) (k : Int) : Int := (moveR k (-p.shift.x) (-p.shift.y)).2.2.1
theorem move_ok {p : Pa} {k : Int} (h : shiftB p.shift = true) (hk : keyB k = true) : (moveR k (-p.shift.x) (-p.shift.y)).2.2.2 = 0 ∧ keyB (mvK p k) = true ∧ (-30 ≤ mvX p k ∧ mvX p k ≤ 30) ∧ mvY p k = -p.shift.y ∧ -40 ≤ mvY p k ∧ mvY p k ≤ 40 := by
  obtain ⟨⟨h1, h2⟩, ⟨h3, h4⟩, h5, h6⟩ := (shift_iff _).1 h
  obtain ⟨k1, k2⟩ := (inB_iff _ _ _).1 hk
  have hf : frmB (-p.shift.x) (-p.shift.y) = true := (frm_iff _ _).2 ⟨⟨by omega, by omega⟩, by omega, by omega⟩
  have hk' : inB k (-7) 7 = true := hk
  unfold fifI at h5 h6
  have hn := turns_key (n := 7 * -p.shift.y - 12 * -p.shift.x + k) (by omega) (by omega)
  have e : moveR k (-p.shift.x) (-p.shift.y) = (7 * -p.shift.y - 12 * -p.shift.x + k - 12 * turnsI (7 * -p.shift.y - 12 * -p.shift.x + k), -p.shift.x + turnsI (7 * -p.shift.y - 12 * -p.shift.x + k), -p.shift.y, 0) := by simp [moveR, hf, hk']
  rw [mvK, mvX, mvY, e]
  refine ⟨rfl, (inB_iff _ _ _).2 (by omega), ?_, rfl, by show -40 ≤ -p.shift.y; omega, by show -p.shift.y ≤ 40; omega⟩
  show -30 ≤ -p.shift.x + turnsI _ ∧ -p.shift.x + turnsI _ ≤ 30
  unfold turnsI; split <;> omega
/-- The written key of a part, and an error. -/
def keyR (p : Pa) (k : Int) : Int × Int := if writtenB p && keyB k then (mvK p k, 0) else (0, 1)
def addP (q : Pi) (x y : Int) : Pi × Int := (⟨(addR q.s q.a q.o x y).1, (addR q.s q.a q.o x y).2.1, (addR q.s q.a q.o x y).2.2.1⟩, (addR q.s q.a q.o x y).2.2.2)
/-- How a part writes a sounding pitch. -/
def writeR (p : Pa) (k : Int) (q : Pi) : Pi × Int := if writtenB p && keyB k && vldP q then addP q (mvX p k) (mvY p k) else (⟨0, 0, 0⟩, 1)
/-- How a written pitch sounds. -/
def soundR (p : Pa) (k : Int) (q : Pi) : Pi × Int := if writtenB p && keyB k && vldP q then addP q (-(mvX p k)) (-(mvY p k)) else (⟨0, 0, 0⟩, 1)
/-- A slice of a row: its length and its capacity. -/
structure SlOk0 (a : Option Addr) (n cap : Nat) : Prop where
  le : n ≤ cap
  none : a = none → cap = 0
theorem SlOk.weak {a : Option Addr} {n cap : Nat} (h : SlOk a n cap) : SlOk0 a n cap := ⟨h.le, h.none⟩
/-- A measure, and where its notes lie. -/
structure Me where
  bar : Int
  key : Int
  len : Rt
  na : Option Addr
  ncap : Nat
  notes : List Wr
/-- What a measure says. -/
structure MeP where
  bar : Int
  key : Int
  len : Rt
  notes : List Wr
instance : DecidableEq MeP := fun a b => decidable_of_iff (a.bar = b.bar ∧ a.key = b.key ∧ a.len = b.len ∧ a.notes = b.notes) ⟨fun ⟨h0, h1, h2, h3⟩ => by cases a; cases b; simp_all, fun h => by subst h; exact ⟨rfl, rfl, rfl, rfl⟩⟩
instance : Inhabited Me := ⟨⟨0, 0, ⟨0, 0⟩, none, 0, []⟩⟩
instance : Inhabited MeP := ⟨⟨0, 0, ⟨0, 0⟩, []⟩⟩
def Me.says (m : Me) : MeP := ⟨m.bar, m.key, m.len, m.notes⟩
def Me.cells (m : Me) : List Value := [.int .i64 m.bar, .int .i64 m.key, .int .i64 m.len.n, .int .i64 m.len.d, .slice m.na m.notes.length m.ncap]
/-- Measures as they lie in memory. -/
structure MeAt (w : World) (a : Option Addr) (l : List Me) : Prop where
  at_ : SlAt w a 5 (l.map Me.cells)
  notes : ∀ m ∈ l, WrAt w m.na m.notes
  ok : ∀ m ∈ l, SlOk0 m.na m.notes.length m.ncap
theorem MeAt.below {w w' : World} {a : Option Addr} {l : List Me} (h : MeAt w a l) (hb : Below w.heap.size w w') : MeAt w' a l := ⟨h.at_.below hb, fun m hm => (h.notes m hm).below hb, h.ok⟩
/-- How a part writes a note of a bar. -/
def writtenW (p : Pa) (b : Ba) (n : No) : Wr := ⟨n.id, n.voice, n.ossia, n.start, n.len, (writeR p b.key n.pitch).1⟩
def inBar (b : Ba) (l : List No) : List No := l.filter fun n => n.bar == b.id
def measureM (p : Pa) (b : Ba) (l : List Wr) : MeP := ⟨b.id, (keyR p b.key).1, b.len, l⟩
/-- The measures of a part's view. -/
def viewL (s : Sc) (p : Pa) : List MeP := s.bars.map fun b => measureM p b ((inBar b (playedL s p)).map (writtenW p b))
def partAt (l : List Pa) (id : Int) : Option Pa := l.find? fun p => p.id == id
/-- The view of a part: the part's ID, its measures, an error. -/
def getR (s : Sc) (part : Int) : Int × List MeP × Int := if validS s then (match partAt s.parts part with | some p => (p.id, viewL s p, 0) | none => (0, [], 22)) else (0, [], 1)
/-- Is a written note well-formed in a bar of a length? -/
def formW (w : Wr) (len : Rt) : Bool := isID w.id && inB w.voice 0 9 && inB w.ossia 0 20 && vldP w.pitch && decide (0 ≤ ticksI w.start) && decide (0 < ticksI w.len) && decide (ticksI w.start + ticksI w.len ≤ ticksI len)
def keysW (w : Wr) : List Int := [ticksI w.start, w.voice, numI w.pitch, w.id]
def beforeW (a b : Wr) : Bool := lexLt (keysW a) (keysW b)
def sortedW (l : List Wr) : Bool := (List.range (l.length - 1)).all fun i => beforeW (l.getD i default) (l.getD (i + 1) default)
/-- Is a measure one of a part, for a bar? -/
def measureB (p : Pa) (b : Ba) (m : MeP) : Bool := decide (m.bar = b.id) && decide (m.key = (keyR p b.key).1) && decide (m.len = b.len) && m.notes.all (fun w => formW w m.len) && sortedW m.notes
def allW (l : List MeP) : List Wr := (l.map MeP.notes).flatten
def validV (s : Sc) (part : Int) (l : List MeP) : Bool :=
  validS s && decide (l.length = s.bars.length) && (match partAt s.parts part with | none => false | some p => (List.zipWith (fun b m => measureB p b m) s.bars l).all id && decide ((allW l).map Wr.id).Nodup && decide ((allW l).length ≤ 20000))
end Go.Proofs.YtcelciomhngajaaGreatDoor
/- Writing and sounding undo each other; cues by themselves; no condition. -/
namespace Go.Proofs.YtcelciomhngajaaGreatDoor
set_option linter.unusedSimpArgs false
set_option linter.unusedVariables false
open Go.RowKit Go.Sort

/-- Where a pitch is in the order of fifths. -/
def fifP (q : Pi) : Int := 7 * (natI q.s + q.a) - 12 * q.s
theorem move_fif {p : Pa} {k : Int} (h : shiftB p.shift = true) (hk : keyB k = true) : 7 * mvY p k - 12 * mvX p k = mvK p k - k := by
  obtain ⟨⟨h1, h2⟩, ⟨h3, h4⟩, h5, h6⟩ := (shift_iff _).1 h
  have hf : frmB (-p.shift.x) (-p.shift.y) = true := (frm_iff _ _).2 ⟨⟨by omega, by omega⟩, by omega, by omega⟩
  have hk' : inB k (-7) 7 = true := hk
  have e : moveR k (-p.shift.x) (-p.shift.y) = (7 * -p.shift.y - 12 * -p.shift.x + k - 12 * turnsI (7 * -p.shift.y - 12 * -p.shift.x + k), -p.shift.x + turnsI (7 * -p.shift.y - 12 * -p.shift.x + k), -p.shift.y, 0) := by simp [moveR, hf, hk']
  rw [mvK, mvX, mvY, e]
  show 7 * -p.shift.y - 12 * (-p.shift.x + turnsI _) = 7 * -p.shift.y - 12 * -p.shift.x + k - 12 * turnsI _ - k
  omega
/-- A pitch that a part may play. -/
def playP (q : Pi) : Prop := (0 ≤ q.s ∧ q.s ≤ 6) ∧ (-2 ≤ q.a ∧ q.a ≤ 2) ∧ -2 ≤ q.o ∧ q.o ≤ 11
theorem playP.vld {q : Pi} (h : playP q) : vldP q = true := (vldP_iff q).2 ⟨h.1, by have := h.2.1; omega, by have := h.2.2; omega⟩
/-- What is written of a pitch that can be played: it is there, and sounds as it was. -/
theorem add_back {q : Pi} {x y : Int} (hq : playP q) (hx : -30 ≤ x ∧ x ≤ 30) (hy : -40 ≤ y ∧ y ≤ 40) (hf : -14 ≤ 7 * y - 12 * x ∧ 7 * y - 12 * x ≤ 14) :
    (addP q x y).2 = 0 ∧ vldP (addP q x y).1 = true ∧ soundI (addP q x y).1 = soundI q + y ∧ 7 * (addP q x y).1.o + (addP q x y).1.s = 7 * q.o + q.s + x ∧ fifP (addP q x y).1 = fifP q + (7 * y - 12 * x) ∧ addP (addP q x y).1 (-x) (-y) = (q, 0) := by
  have hv := hq.vld
  obtain ⟨s, a, o⟩ := q
  obtain ⟨⟨h1, h2⟩, ⟨h3, h4⟩, h5, h6⟩ := hq
  simp only at h1 h2 h3 h4 h5 h6
  have hv' : vldB s a o = true := hv
  have hfr : frmB x y = true := (frm_iff _ _).2 ⟨⟨by omega, by omega⟩, by omega, by omega⟩
  have hfr2 : frmB (-x) (-y) = true := (frm_iff _ _).2 ⟨⟨by omega, by omega⟩, by omega, by omega⟩
  have hd : 7 * ((7 * o + s + x) / 7) + (7 * o + s + x) % 7 = 7 * o + s + x := Int.mul_ediv_add_emod _ _
  have hm0 : 0 ≤ (7 * o + s + x) % 7 := Int.emod_nonneg _ (by decide)
  have hm1 : (7 * o + s + x) % 7 < 7 := Int.emod_lt_of_pos _ (by decide)
  have key : vldB ((7 * o + s + x) % 7) (12 * o + natI s + a + y - (12 * ((7 * o + s + x) / 7) + natI ((7 * o + s + x) % 7))) ((7 * o + s + x) / 7) = true := by
    rw [vld_iff]
    refine ⟨⟨hm0, by omega⟩, ?_, by omega, by omega⟩
    generalize (7 * o + s + x) % 7 = S at *; generalize (7 * o + s + x) / 7 = O at *
    unfold natI; split <;> split <;> omega
  have e1 : addP ⟨s, a, o⟩ x y = (⟨(7 * o + s + x) % 7, 12 * o + natI s + a + y - (12 * ((7 * o + s + x) / 7) + natI ((7 * o + s + x) % 7)), (7 * o + s + x) / 7⟩, 0) := by simp [addP, addR, hv', hfr, key]
  rw [e1]
  generalize hS : (7 * o + s + x) % 7 = S at *; generalize hO : (7 * o + s + x) / 7 = O at *
  refine ⟨rfl, key, ?_, hd, ?_, ?_⟩
  · show 12 * O + natI S + (12 * o + natI s + a + y - (12 * O + natI S)) = 12 * o + natI s + a + y
    omega
  · show 7 * (natI S + (12 * o + natI s + a + y - (12 * O + natI S))) - 12 * S = 7 * (natI s + a) - 12 * s + (7 * y - 12 * x)
    omega
  · have p1 : (7 * O + S + -x) % 7 = s := by
      have : 7 * O + S + -x = s + 7 * o := by omega
      rw [this, Int.add_mul_emod_self_left]; exact Int.emod_eq_of_lt h1 (by omega)
    have p2 : (7 * O + S + -x) / 7 = o := by
      have : 7 * O + S + -x = s + 7 * o := by omega
      rw [this, Int.add_mul_ediv_left _ _ (by decide), Int.ediv_eq_zero_of_lt h1 (by omega)]; omega
    have p3 : 12 * O + natI S + (12 * o + natI s + a + y - (12 * O + natI S)) + -y - (12 * o + natI s) = a := by omega
    simp only [addP, addR, key, hfr2, Bool.and_self, if_true, p1, p2, p3, hv']
theorem write_back {p : Pa} {k : Int} {q : Pi} (hw : writtenB p = true) (hk : keyB k = true) (hq : playP q) :
    (writeR p k q).2 = 0 ∧ vldP (writeR p k q).1 = true ∧ soundI (writeR p k q).1 = soundI q + mvY p k ∧ 7 * (writeR p k q).1.o + (writeR p k q).1.s = 7 * q.o + q.s + mvX p k ∧ fifP (writeR p k q).1 = fifP q + (mvK p k - k) ∧ soundR p k (writeR p k q).1 = (q, 0) := by
  have hs : shiftB p.shift = true := by simp only [writtenB, Bool.and_eq_true] at hw; exact hw.1.1.1
  obtain ⟨_, h2, h3, _, h5⟩ := move_ok hs hk
  have hk' := (inB_iff _ _ _).1 hk; have hk2 := (inB_iff _ _ _).1 h2
  have hf := move_fif hs hk
  obtain ⟨a1, a2, a3, a4, a5, a6⟩ := add_back hq h3 h5 (by omega)
  have e : writeR p k q = addP q (mvX p k) (mvY p k) := by simp [writeR, hw, hk, hq.vld]
  have e2 : soundR p k (addP q (mvX p k) (mvY p k)).1 = addP (addP q (mvX p k) (mvY p k)).1 (-(mvX p k)) (-(mvY p k)) := by simp [soundR, hw, hk, a2]
  rw [e]
  exact ⟨a1, a2, a3, a4, by rw [a5, hf], by rw [e2, a6]⟩
/-- A cue, and where its notes lie. -/
structure Cu where
  measure : Int
  part : Int
  na : Option Addr
  ncap : Nat
  notes : List Wr
/-- What a cue says. -/
structure CuP where
  measure : Int
  part : Int
  notes : List Wr
instance : DecidableEq CuP := fun a b => decidable_of_iff (a.measure = b.measure ∧ a.part = b.part ∧ a.notes = b.notes) ⟨fun ⟨h0, h1, h2⟩ => by cases a; cases b; simp_all, fun h => by subst h; exact ⟨rfl, rfl, rfl⟩⟩
instance : Inhabited Cu := ⟨⟨0, 0, none, 0, []⟩⟩
instance : Inhabited CuP := ⟨⟨0, 0, []⟩⟩
def Cu.says (m : Cu) : CuP := ⟨m.measure, m.part, m.notes⟩
def Cu.cells (m : Cu) : List Value := [.int .i64 m.measure, .int .i64 m.part, .slice m.na m.notes.length m.ncap]
/-- Cues as they lie in memory. -/
structure CuAt (w : World) (a : Option Addr) (l : List Cu) : Prop where
  at_ : SlAt w a 3 (l.map Cu.cells)
  notes : ∀ m ∈ l, WrAt w m.na m.notes
  ok : ∀ m ∈ l, SlOk0 m.na m.notes.length m.ncap
theorem CuAt.below {w w' : World} {a : Option Addr} {l : List Cu} (h : CuAt w a l) (hb : Below w.heap.size w w') : CuAt w' a l := ⟨h.at_.below hb, fun m hm => (h.notes m hm).below hb, h.ok⟩
end Go.Proofs.YtcelciomhngajaaGreatDoor
/- Notes in order cut up by their bars; no condition. -/
namespace Go.Proofs.YtcelciomhngajaaGreatDoor
set_option linter.unusedSimpArgs false
set_option linter.unusedVariables false
open Go.RowKit Go.Sort

/-- The measures of a part, where the notes are in order. -/
def measW (p : Pa) : List Ba → List No → List MeP
  | [], _ => []
  | b :: bs, l => measureM p b ((l.takeWhile fun n => n.bar == b.id).map (writtenW p b)) :: measW p bs (l.dropWhile fun n => n.bar == b.id)
theorem span_take {l : List No} {m : Nat} {id : Int} (h1 : ∀ x ∈ l.take m, x.bar = id) (h2 : ∀ x, (l.drop m).head? = some x → ¬ x.bar = id) : (l.takeWhile fun n => n.bar == id) = l.take m ∧ (l.dropWhile fun n => n.bar == id) = l.drop m := by
  induction l generalizing m with
  | nil => simp
  | cons y l ih =>
    cases m with
    | zero =>
      have := h2 y rfl
      simp [this]
    | succ m =>
      have hy : y.bar = id := h1 y (by simp)
      obtain ⟨e1, e2⟩ := ih (m := m) (fun x hx => h1 x (by simp [hx])) (fun x hx => h2 x (by simpa using hx))
      simp [hy, e1, e2]
theorem span_app {T R : List No} {id : Int} (h1 : ∀ x ∈ T, x.bar = id) (h2 : ∀ x, R.head? = some x → ¬ x.bar = id) : ((T ++ R).takeWhile fun n => n.bar == id) = T ∧ ((T ++ R).dropWhile fun n => n.bar == id) = R := by
  have := span_take (l := T ++ R) (m := T.length) (id := id) (by simpa using h1) (by simpa using h2)
  simpa using this
/-- Notes that are in the order of their bars are cut up as they are filtered. -/
theorem measW_eq (p : Pa) (bs : List Ba) (l : List No) (hn : (bs.map Ba.id).Nodup) (hm : ∀ x ∈ l, x.bar ∈ bs.map Ba.id) (hs : l.Pairwise fun a b => barAt bs a.bar ≤ barAt bs b.bar) : measW p bs l = bs.map fun b => measureM p b ((inBar b l).map (writtenW p b)) := by
  induction bs generalizing l with
  | nil => rfl
  | cons b bs ih =>
    have hz : ∀ x, barAt (b :: bs) x = if x = b.id then 0 else if barAt bs x < 0 then -1 else barAt bs x + 1 := by
      intro x
      unfold barAt
      rw [List.findIdx?_cons]
      by_cases e : x = b.id
      · have : (b.id == x) = true := by simp [e]
        simp [this, e]
      · have : (b.id == x) = false := by simp; exact fun h => e h.symm
        simp only [this, if_neg e]
        cases h : bs.findIdx? fun b => b.id == x with
        | none => simp
        | some i => simp; omega
    have hin : ∀ x ∈ l, x.bar ≠ b.id → 0 ≤ barAt bs x.bar := by
      intro x hx hne
      have := hm x hx
      simp only [List.map_cons, List.mem_cons] at this
      rcases this with h | h
      · exact absurd h hne
      · obtain ⟨c, hc, e⟩ := List.mem_map.1 h
        unfold barAt
        cases h2 : bs.findIdx? fun b => b.id == x.bar with
        | none => rw [List.findIdx?_eq_none_iff] at h2; have := h2 c hc; simp [e] at this
        | some i => simp
    have hsplit : (l.takeWhile fun n => n.bar == b.id) = inBar b l ∧ (l.dropWhile fun n => n.bar == b.id) = l.filter (fun n => !(n.bar == b.id)) := by
      clear ih hm
      induction l with
      | nil => simp [inBar]
      | cons y l ih2 =>
        rw [List.pairwise_cons] at hs
        by_cases hy : y.bar = b.id
        · obtain ⟨e1, e2⟩ := ih2 hs.2 (fun x hx => hin x (List.mem_cons_of_mem _ hx))
          unfold inBar at *
          simp [hy, e1, e2]
        · have hall : ∀ x ∈ l, ¬ x.bar = b.id := by
            intro x hx e
            have h1 := hs.1 x hx
            rw [hz, hz, if_neg hy, if_pos e] at h1
            have h2 := hin y (by simp) hy
            rw [if_neg (by omega)] at h1
            omega
          have f1 : l.filter (fun n => n.bar == b.id) = [] := by rw [List.filter_eq_nil_iff]; intro x hx; simpa using hall x hx
          have f2 : l.filter (fun n => !(n.bar == b.id)) = l := by rw [List.filter_eq_self]; intro x hx; simpa using hall x hx
          unfold inBar
          simp only [List.takeWhile_cons, List.dropWhile_cons, List.filter_cons, beq_eq_false_iff_ne.2 hy, f1, f2, Bool.false_eq_true, if_false, Bool.not_false, if_true]
          exact ⟨trivial, trivial⟩
    rw [measW, hsplit.1, hsplit.2, List.map_cons]
    congr 1
    rw [List.map_cons, List.nodup_cons] at hn
    rw [ih _ hn.2]
    · refine List.map_congr_left fun c hc => ?_
      have hne : c.id ≠ b.id := fun e => hn.1 (by rw [← e]; exact List.mem_map_of_mem hc)
      congr 2
      unfold inBar
      rw [List.filter_filter]
      refine List.filter_congr fun x _ => ?_
      by_cases e : x.bar = c.id
      · simp [e, hne]
      · simp [e]
    · intro x hx
      obtain ⟨h1, h2⟩ := List.mem_filter.1 hx
      have := hm x h1
      simp only [List.map_cons, List.mem_cons] at this
      rcases this with h | h
      · simp [h] at h2
      · exact h
    · refine (hs.filter _).imp_of_mem fun {x y} hx hy h => ?_
      obtain ⟨h1, h2⟩ := List.mem_filter.1 hx
      obtain ⟨h3, h4⟩ := List.mem_filter.1 hy
      have n1 : x.bar ≠ b.id := by simpa using h2
      have n2 : y.bar ≠ b.id := by simpa using h4
      have q1 := hin x h1 n1; have q2 := hin y h3 n2
      rw [hz, hz, if_neg n1, if_neg n2, if_neg (by omega), if_neg (by omega)] at h
      omega
/-- What a part of a valid score plays is in the order of the bars. -/
theorem played_bars {s : Sc} (h : validS s = true) (p : Pa) : (s.bars.map Ba.id).Nodup ∧ (∀ x ∈ playedL s p, x.bar ∈ s.bars.map Ba.id) ∧ (playedL s p).Pairwise fun a b => barAt s.bars a.bar ≤ barAt s.bars b.bar := by
  simp only [validS, Bool.and_eq_true] at h
  obtain ⟨⟨⟨⟨⟨h1, h2⟩, h3⟩, h4⟩, h5⟩, h6⟩ := h
  have hb : (s.bars.map Ba.id).Nodup := by simp only [barsB, Bool.and_eq_true, decide_eq_true_eq] at h2; exact h2.2
  have h4' : s.notes.all (noteOk s.bars) = true := by simp only [notesB, Bool.and_eq_true, decide_eq_true_eq] at h4; exact h4.1.2
  refine ⟨hb, fun x hx => ?_, ?_⟩
  · unfold playedL at hx
    obtain ⟨y, hy, rfl⟩ := List.mem_map.1 hx
    have := List.all_eq_true.1 h4' y (List.mem_filter.1 hy).1
    unfold noteOk at this
    cases hf : s.bars.find? (fun b => b.id == y.bar) with
    | none => rw [hf] at this; cases this
    | some b =>
      have e1 := List.mem_of_find?_eq_some hf
      have e2 := List.find?_some hf
      have : b.id = y.bar := by simpa using e2
      show y.bar ∈ _
      rw [← this]; exact List.mem_map_of_mem e1
  · unfold playedL
    rw [List.pairwise_map]
    refine ((sorted_iff.1 h6).filter _).imp fun {a b} hab => ?_
    show barAt s.bars a.bar ≤ barAt s.bars b.bar
    unfold beforeB keysL at hab
    simp only [lexLt] at hab
    split at hab
    · omega
    · simp at hab; omega
theorem view_measW {s : Sc} (h : validS s = true) (p : Pa) : measW p s.bars (playedL s p) = viewL s p := by
  obtain ⟨h1, h2, h3⟩ := played_bars h p
  exact measW_eq p s.bars _ h1 h2 h3
end Go.Proofs.YtcelciomhngajaaGreatDoor
/- What a part plays, cut up by bars, is written and sounds as it was; the plain laws of views; no condition. -/
namespace Go.Proofs.YtcelciomhngajaaGreatDoor
set_option linter.unusedSimpArgs false
set_option linter.unusedVariables false
open Go.RowKit Go.Sort

/-- The first bar's notes stand first. -/
theorem bar_split (b : Ba) (bs : List Ba) (l : List No) (hn : ((b :: bs).map Ba.id).Nodup) (hm : ∀ x ∈ l, x.bar ∈ (b :: bs).map Ba.id) (hs : l.Pairwise fun a c => barAt (b :: bs) a.bar ≤ barAt (b :: bs) c.bar) :
    inBar b l ++ l.filter (fun n => !(n.bar == b.id)) = l ∧ (∀ x ∈ l.filter (fun n => !(n.bar == b.id)), x.bar ∈ bs.map Ba.id) ∧ ((l.filter (fun n => !(n.bar == b.id))).Pairwise fun a c => barAt bs a.bar ≤ barAt bs c.bar) ∧ ∀ c ∈ bs, inBar c (l.filter (fun n => !(n.bar == b.id))) = inBar c l := by
  have hz : ∀ x, barAt (b :: bs) x = if x = b.id then 0 else if barAt bs x < 0 then -1 else barAt bs x + 1 := by
    intro x
    unfold barAt
    rw [List.findIdx?_cons]
    by_cases e : x = b.id
    · have : (b.id == x) = true := by simp [e]
      simp [this, e]
    · have : (b.id == x) = false := by simp; exact fun h => e h.symm
      simp only [this, if_neg e]
      cases h : bs.findIdx? fun b => b.id == x with
      | none => simp
      | some i => simp; omega
  have hin : ∀ x ∈ l, x.bar ≠ b.id → 0 ≤ barAt bs x.bar := by
    intro x hx hne
    have := hm x hx
    simp only [List.map_cons, List.mem_cons] at this
    rcases this with h | h
    · exact absurd h hne
    · obtain ⟨c, hc, e⟩ := List.mem_map.1 h
      unfold barAt
      cases h2 : bs.findIdx? fun b => b.id == x.bar with
      | none => rw [List.findIdx?_eq_none_iff] at h2; have := h2 c hc; simp [e] at this
      | some i => simp
  have hsplit : inBar b l ++ l.filter (fun n => !(n.bar == b.id)) = l := by
    clear hm
    induction l with
    | nil => simp [inBar]
    | cons y l ih2 =>
      rw [List.pairwise_cons] at hs
      by_cases hy : y.bar = b.id
      · have e1 := ih2 hs.2 (fun x hx => hin x (List.mem_cons_of_mem _ hx))
        unfold inBar at *
        simp [hy, e1]
      · have hall : ∀ x ∈ l, ¬ x.bar = b.id := by
          intro x hx e
          have h1 := hs.1 x hx
          rw [hz, hz, if_neg hy, if_pos e] at h1
          have h2 := hin y (by simp) hy
          rw [if_neg (by omega)] at h1
          omega
        have f1 : l.filter (fun n => n.bar == b.id) = [] := by rw [List.filter_eq_nil_iff]; intro x hx; simpa using hall x hx
        have f2 : l.filter (fun n => !(n.bar == b.id)) = l := by rw [List.filter_eq_self]; intro x hx; simpa using hall x hx
        unfold inBar
        simp only [List.filter_cons, beq_eq_false_iff_ne.2 hy, f1, f2, Bool.false_eq_true, if_false, Bool.not_false, if_true, List.nil_append]
  refine ⟨hsplit, fun x hx => ?_, ?_, fun c hc => ?_⟩
  · obtain ⟨h1, h2⟩ := List.mem_filter.1 hx
    have := hm x h1
    simp only [List.map_cons, List.mem_cons] at this
    rcases this with h | h
    · simp [h] at h2
    · exact h
  · refine (hs.filter _).imp_of_mem fun {x y} hx hy h => ?_
    obtain ⟨h1, h2⟩ := List.mem_filter.1 hx
    obtain ⟨h3, h4⟩ := List.mem_filter.1 hy
    have n1 : x.bar ≠ b.id := by simpa using h2
    have n2 : y.bar ≠ b.id := by simpa using h4
    have q1 := hin x h1 n1; have q2 := hin y h3 n2
    rw [hz, hz, if_neg n1, if_neg n2, if_neg (by omega), if_neg (by omega)] at h
    omega
  · rw [List.map_cons, List.nodup_cons] at hn
    have hne : c.id ≠ b.id := fun e => hn.1 (by rw [← e]; exact List.mem_map_of_mem hc)
    unfold inBar
    rw [List.filter_filter]
    refine List.filter_congr fun x _ => ?_
    by_cases e : x.bar = c.id
    · simp [e, hne]
    · simp [e]
/-- Notes in the order of their bars are the pieces of the bars, one behind the other. -/
theorem inBar_flat (bs : List Ba) (l : List No) (hn : (bs.map Ba.id).Nodup) (hm : ∀ x ∈ l, x.bar ∈ bs.map Ba.id) (hs : l.Pairwise fun a b => barAt bs a.bar ≤ barAt bs b.bar) : (bs.map fun b => inBar b l).flatten = l := by
  induction bs generalizing l with
  | nil =>
    cases l with
    | nil => rfl
    | cons x l => have := hm x (by simp); simp at this
  | cons b bs ih =>
    obtain ⟨h1, h2, h3, h4⟩ := bar_split b bs l hn hm hs
    rw [List.map_cons, List.flatten_cons]
    rw [List.map_cons, List.nodup_cons] at hn
    have h5 := ih _ hn.2 h2 h3
    have h6 : (bs.map fun c => inBar c l) = bs.map fun c => inBar c (l.filter (fun n => !(n.bar == b.id))) := List.map_congr_left fun c hc => (h4 c hc).symm
    rw [h6, h5, h1]
/-- What of a valid score is used below. -/
structure ScV (s : Sc) : Prop where
  bars : (s.bars.map Ba.id).Nodup
  key : ∀ b ∈ s.bars, keyB b.key = true ∧ durB b.len = true
  parts : (s.parts.map Pa.id).Nodup
  part : ∀ p ∈ s.parts, partOk p = true
  some_ : 1 ≤ s.parts.length
  note : ∀ n ∈ s.notes, noteOk s.bars n = true
  ids : (s.notes.map No.id).Nodup
  few : s.notes.length ≤ 20000
  barsLen : 1 ≤ s.bars.length ∧ s.bars.length ≤ 4000
  sorted : s.notes.Pairwise fun a b => beforeB s.bars a b = true
theorem scV {s : Sc} (h : validS s = true) : ScV s := by
  simp only [validS, Bool.and_eq_true] at h
  obtain ⟨⟨⟨⟨⟨h1, h2⟩, h3⟩, h4⟩, h5⟩, h6⟩ := h
  have h7 := h2
  simp only [barsB, Bool.and_eq_true, decide_eq_true_eq] at h2
  simp only [partsB, Bool.and_eq_true, decide_eq_true_eq] at h3
  simp only [notesB, Bool.and_eq_true, decide_eq_true_eq] at h4
  refine ⟨h2.2, fun b hb => ?_, h3.1.2, fun p hp => List.all_eq_true.1 h3.1.1.2 p hp, h3.1.1.1.1, fun n hn => List.all_eq_true.1 h4.1.2 n hn, h4.2, h4.1.1.2, ⟨h2.1.1.1, h2.1.1.2⟩, sorted_iff.1 h6⟩
  obtain ⟨_, a2, _, _, a5, a6⟩ := (barOk_iff b).1 (List.all_eq_true.1 h2.1.2 b hb)
  exact ⟨(inB_iff _ _ _).2 ⟨a5, a6⟩, a2⟩
theorem part_written {p : Pa} (h : partOk p = true) : writtenB p = true ∧ -2 ≤ p.octave ∧ p.octave ≤ 2 := by
  simp only [partOk, Bool.and_eq_true, inB_iff, decide_eq_true_eq] at h
  obtain ⟨⟨⟨⟨⟨⟨⟨⟨⟨⟨h1, h2⟩, h3⟩, h4⟩, h5⟩, h6⟩, h7⟩, h8⟩, h9⟩, h10⟩, h11⟩ := h
  refine ⟨?_, h4⟩
  simp only [writtenB, h6, h7, h8, numI, if_true, Bool.true_and, decide_eq_true_eq]
  exact h11
/-- A part is found by its ID. -/
theorem partAt_mem {l : List Pa} (hn : (l.map Pa.id).Nodup) {p : Pa} (hp : p ∈ l) : partAt l p.id = some p := by
  unfold partAt
  cases h : l.find? fun q => q.id == p.id with
  | none => rw [List.find?_eq_none] at h; exact absurd (h p hp) (by simp)
  | some q =>
    have h1 := List.mem_of_find?_eq_some h
    have h2 : q.id = p.id := by simpa using List.find?_some h
    obtain ⟨i, hi, e1⟩ := List.getElem_of_mem hp
    obtain ⟨j, hj, e2⟩ := List.getElem_of_mem h1
    have h3 : (l.map Pa.id)[i]'(by simpa using hi) = (l.map Pa.id)[j]'(by simpa using hj) := by simp [e1, e2, h2]
    have := (List.getElem_inj hn).1 h3
    subst this; rw [← e1, ← e2]
/-- What is known of a note that a part plays in a bar. -/
theorem played_note {s : Sc} (v : ScV s) {p : Pa} (hp : p ∈ s.parts) {b : Ba} (hb : b ∈ s.bars) {n : No} (hn : n ∈ inBar b (playedL s p)) :
    ∃ m ∈ s.notes, n = asPlayed p m ∧ m.part = sourceP p ∧ m.bar = b.id ∧ noteIn b m = true ∧ playP n.pitch ∧ n.part = p.id := by
  obtain ⟨h1, h2⟩ := List.mem_filter.1 hn
  unfold playedL at h1
  obtain ⟨m, h3, rfl⟩ := List.mem_map.1 h1
  obtain ⟨h4, h5⟩ := List.mem_filter.1 h3
  have hbar : m.bar = b.id := by simpa [asPlayed] using h2
  have hok := v.note m h4
  have hin : noteIn b m = true := by
    unfold noteOk at hok
    cases hf : s.bars.find? (fun c => c.id == m.bar) with
    | none => rw [hf] at hok; cases hok
    | some c =>
      rw [hf] at hok
      have e1 := List.mem_of_find?_eq_some hf
      have e2 : c.id = m.bar := by simpa using List.find?_some hf
      obtain ⟨i, hi, f1⟩ := List.getElem_of_mem e1
      obtain ⟨j, hj, f2⟩ := List.getElem_of_mem hb
      have f3 : (s.bars.map Ba.id)[i]'(by simpa using hi) = (s.bars.map Ba.id)[j]'(by simpa using hj) := by simp [f1, f2, e2, hbar]
      have := (List.getElem_inj v.bars).1 f3
      subst this
      rw [← f2, f1]; exact hok
  refine ⟨m, h4, rfl, by simpa using h5, hbar, hin, ?_, rfl⟩
  have hpo := (part_written (v.part p hp)).2
  simp only [noteIn, isNoteP, Bool.and_eq_true, inB_iff] at hin
  obtain ⟨⟨⟨⟨⟨⟨⟨⟨⟨a1, a2⟩, a3⟩, _⟩, _⟩, _⟩, _⟩, _⟩, _⟩, _⟩ := hin
  have := (vldP_iff _).1 a1
  exact ⟨this.1, a2, by show -2 ≤ m.pitch.o + p.octave; omega, by show m.pitch.o + p.octave ≤ 11; omega⟩
theorem inBar_mem {b : Ba} {l : List No} {n : No} (h : n ∈ inBar b l) : n ∈ l ∧ n.bar = b.id := by
  obtain ⟨h1, h2⟩ := List.mem_filter.1 h
  exact ⟨h1, by simpa using h2⟩
/-- How a part writes what it plays. -/
theorem written_says {s : Sc} (v : ScV s) {p : Pa} (hp : p ∈ s.parts) {b : Ba} (hb : b ∈ s.bars) {n : No} (hn : n ∈ inBar b (playedL s p)) :
    (writeR p b.key n.pitch).2 = 0 ∧ vldP (writtenW p b n).pitch = true ∧ soundI (writtenW p b n).pitch = soundI n.pitch + mvY p b.key ∧ fifP (writtenW p b n).pitch = fifP n.pitch + (mvK p b.key - b.key) ∧ soundR p b.key (writtenW p b n).pitch = (n.pitch, 0) := by
  obtain ⟨m, _, _, _, _, _, hpl, _⟩ := played_note v hp hb hn
  obtain ⟨a1, a2, a3, _, a5, a6⟩ := write_back (part_written (v.part p hp)).1 (v.key b hb).1 hpl
  exact ⟨a1, a2, a3, a5, a6⟩
theorem written_form {s : Sc} (v : ScV s) {p : Pa} (hp : p ∈ s.parts) {b : Ba} (hb : b ∈ s.bars) {n : No} (hn : n ∈ inBar b (playedL s p)) : formW (writtenW p b n) b.len = true := by
  obtain ⟨_, a2, _, _, _⟩ := written_says v hp hb hn
  obtain ⟨m, _, rfl, _, _, hin, _, _⟩ := played_note v hp hb hn
  simp only [noteIn, Bool.and_eq_true] at hin
  obtain ⟨⟨⟨⟨⟨⟨⟨b1, b2⟩, b3⟩, b4⟩, b5⟩, b6⟩, b7⟩, b8⟩ := hin
  simp only [formW, Bool.and_eq_true]
  exact ⟨⟨⟨⟨⟨⟨b2, b4⟩, b5⟩, a2⟩, b6⟩, b7⟩, b8⟩
theorem soundI_oct (q : Pi) (k : Int) : soundI ⟨q.s, q.a, q.o + k⟩ = soundI q + 12 * k := by unfold soundI; show 12 * (q.o + k) + natI q.s + q.a = _; omega
theorem numI_vld {q : Pi} (h : vldP q = true) : numI q = soundI q := by unfold numI; rw [if_pos h]
/-- What stands before in a bar is written before. -/
theorem written_before {s : Sc} (v : ScV s) {p : Pa} (hp : p ∈ s.parts) {b : Ba} (hb : b ∈ s.bars) {n m : No} (hn : n ∈ s.notes) (hm : m ∈ s.notes) (sn : n.part = sourceP p) (sm : m.part = sourceP p) (bn : n.bar = b.id) (bm : m.bar = b.id) (h : beforeB s.bars n m = true) :
    beforeW (writtenW p b (asPlayed p n)) (writtenW p b (asPlayed p m)) = true := by
  have h1 : ∀ x ∈ s.notes, x.part = sourceP p → x.bar = b.id → asPlayed p x ∈ inBar b (playedL s p) := fun x hx h1 h2 => by
    refine List.mem_filter.2 ⟨List.mem_map.2 ⟨x, List.mem_filter.2 ⟨hx, by simpa using h1⟩, rfl⟩, by simpa [asPlayed] using h2⟩
  obtain ⟨_, a2, a3, _, _⟩ := written_says v hp hb (h1 n hn sn bn)
  obtain ⟨_, c2, c3, _, _⟩ := written_says v hp hb (h1 m hm sm bm)
  unfold beforeB keysL at h
  unfold beforeW keysW
  rw [numI_vld a2, numI_vld c2, a3, c3]
  rw [bn, bm, sn, sm] at h
  have e1 : soundI (asPlayed p n).pitch = soundI n.pitch + 12 * p.octave := soundI_oct _ _
  have e2 : soundI (asPlayed p m).pitch = soundI m.pitch + 12 * p.octave := soundI_oct _ _
  rw [e1, e2]
  simp only [lexLt, if_true] at h
  show lexLt [ticksI n.start, n.voice, soundI n.pitch + 12 * p.octave + mvY p b.key, n.id] [ticksI m.start, m.voice, soundI m.pitch + 12 * p.octave + mvY p b.key, m.id] = true
  simp only [lexLt]
  by_cases q1 : ticksI n.start = ticksI m.start
  · rw [if_pos q1] at h ⊢
    by_cases q2 : n.voice = m.voice
    · rw [if_pos q2] at h ⊢
      by_cases q3 : soundI n.pitch = soundI m.pitch
      · rw [if_pos q3] at h; rw [if_pos (by omega)]; exact h
      · rw [if_neg q3] at h; rw [if_neg (by omega)]; simp at h ⊢; omega
    · rw [if_neg q2] at h ⊢; exact h
  · rw [if_neg q1] at h ⊢; exact h
theorem beforeW_trans {a b c : Wr} (h1 : beforeW a b = true) (h2 : beforeW b c = true) : beforeW a c = true := lex_trans (xs := keysW a) (ys := keysW b) (zs := keysW c) h1 h2
theorem sortedW_iff {l : List Wr} : sortedW l = true ↔ l.Pairwise fun a b => beforeW a b = true :=
  adj_pairwise (R := fun a b => beforeW a b) fun a b c h1 h2 => beforeW_trans h1 h2
theorem inBar_map (b : Ba) (p : Pa) (l : List No) : inBar b (l.map (asPlayed p)) = (inBar b l).map (asPlayed p) := by
  unfold inBar
  rw [List.filter_map]; rfl
/-- What a part plays in a bar, as it is written. -/
def barW (s : Sc) (p : Pa) (b : Ba) : List Wr := (inBar b (playedL s p)).map (writtenW p b)
theorem written_sorted {s : Sc} (v : ScV s) {p : Pa} (hp : p ∈ s.parts) {b : Ba} (hb : b ∈ s.bars) : (barW s p b).Pairwise fun a c => beforeW a c = true := by
  unfold barW playedL
  rw [inBar_map, List.map_map, List.pairwise_map]
  have h1 : (inBar b (s.notes.filter fun n => n.part == sourceP p)).Pairwise fun a c => beforeB s.bars a c = true := (v.sorted.filter _).filter _
  refine h1.imp_of_mem fun {x y} hx hy h => ?_
  obtain ⟨x1, x2⟩ := inBar_mem hx
  obtain ⟨y1, y2⟩ := inBar_mem hy
  obtain ⟨x3, x4⟩ := List.mem_filter.1 x1
  obtain ⟨y3, y4⟩ := List.mem_filter.1 y1
  exact written_before v hp hb x3 y3 (by simpa using x4) (by simpa using y4) x2 y2 h
theorem viewL_eq (s : Sc) (p : Pa) : viewL s p = s.bars.map fun b => measureM p b (barW s p b) := rfl
theorem view_len (s : Sc) (p : Pa) : (viewL s p).length = s.bars.length := by rw [viewL_eq, List.length_map]
theorem played_flat {s : Sc} (h : validS s = true) (p : Pa) : (s.bars.map fun b => inBar b (playedL s p)).flatten = playedL s p := by
  obtain ⟨h1, h2, h3⟩ := played_bars h p
  exact inBar_flat _ _ h1 h2 h3
/-- The IDs of what is written are those of what is played. -/
theorem view_ids {s : Sc} (h : validS s = true) (p : Pa) : (allW (viewL s p)).map Wr.id = (playedL s p).map No.id := by
  have e : allW (viewL s p) = (s.bars.map fun b => barW s p b).flatten := by
    unfold allW; rw [viewL_eq, List.map_map]; rfl
  rw [e, List.map_flatten, List.map_map]
  have e2 : (List.map Wr.id ∘ fun b => barW s p b) = fun b => (inBar b (playedL s p)).map No.id := by
    funext b; show (barW s p b).map Wr.id = _; unfold barW; rw [List.map_map]; rfl
  rw [e2]
  have e3 : (s.bars.map fun b => (inBar b (playedL s p)).map No.id) = (s.bars.map fun b => inBar b (playedL s p)).map (List.map No.id) := by rw [List.map_map]; rfl
  rw [e3, ← List.map_flatten, played_flat h p]
theorem played_ids {s : Sc} (v : ScV s) (p : Pa) : ((playedL s p).map No.id).Nodup ∧ (playedL s p).length ≤ 20000 := by
  have e : (playedL s p).map No.id = (s.notes.filter fun n => n.part == sourceP p).map No.id := by unfold playedL; rw [List.map_map]; rfl
  refine ⟨?_, ?_⟩
  · rw [e]; exact v.ids.sublist ((List.filter_sublist).map _)
  · unfold playedL; rw [List.length_map]; exact Nat.le_trans (List.length_filter_le _ _) v.few
theorem zip_self {α β γ : Type} (f : α → β → γ) (g : α → β) (l : List α) : List.zipWith f l (l.map g) = l.map fun a => f a (g a) := by
  induction l with
  | nil => rfl
  | cons a l ih => simp [ih]
/-- The view of a part is valid. -/
theorem view_valid {s : Sc} (h : validS s = true) {p : Pa} (hp : p ∈ s.parts) : validV s p.id (viewL s p) = true := by
  have v := scV h
  unfold validV
  rw [h, partAt_mem v.parts hp, view_len]
  simp only [decide_true, Bool.true_and, Bool.and_eq_true, decide_eq_true_eq, view_ids h p]
  have hl := congrArg List.length (view_ids h p)
  simp only [List.length_map] at hl
  refine ⟨⟨?_, (played_ids v p).1⟩, by rw [hl]; exact (played_ids v p).2⟩
  rw [viewL_eq, zip_self, List.all_map, List.all_eq_true]
  intro b hb
  show measureB p b (measureM p b (barW s p b)) = true
  unfold measureB measureM
  simp only [decide_true, Bool.true_and, Bool.and_eq_true]
  refine ⟨List.all_eq_true.2 fun w hw => ?_, sortedW_iff.2 (written_sorted v hp hb)⟩
  obtain ⟨n, hn, rfl⟩ := List.mem_map.1 hw
  exact written_form v hp hb hn
theorem get_mem {s : Sc} (h : validS s = true) {p : Pa} (hp : p ∈ s.parts) : getR s p.id = (p.id, viewL s p, 0) := by
  unfold getR
  rw [if_pos h, partAt_mem (scV h).parts hp]
end Go.Proofs.YtcelciomhngajaaGreatDoor
/- Views of parts that play the same notes; steps and scales; no condition. -/
namespace Go.Proofs.YtcelciomhngajaaGreatDoor
set_option linter.unusedSimpArgs false
set_option linter.unusedVariables false
open Go.RowKit Go.Sort

end Go.Proofs.YtcelciomhngajaaGreatDoor

