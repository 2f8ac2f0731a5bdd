import Derived.Test.YtajijcfikihhjaaGreatDoorAAE
set_option linter.unusedSimpArgs false
set_option linter.unusedVariables false
set_option maxRecDepth 100000
set_option maxHeartbeats 16000000
namespace Go.Proofs.YtajijcfikihhjaaGreatDoor
open Go.RowKit Go.Sort Go.Shelf
structure Br where
 id : Int
 n : Int
 d : Int
 key : Int
 deriving DecidableEq, Inhabited
def Y4 (b : Br) : List Value := [.int .i64 b.id, .int .i64 b.n, .int .i64 b.d, .int .i64 b.key]
structure Wk where
 ver : Int
 bars : List Br
 f : Fo
 deriving DecidableEq, Inhabited
structure Wp where
 ab : Option Addr
 cb : Nat
 ap : Option Addr
 np : Nat
 cp : Nat
 an : Option Addr
 nn : Nat
 cn : Nat
 q : Fp
 ta : Option Addr
 tn : Nat
 tc : Nat
def JW (x : Wk × Wp) : List Value := [.int .i64 x.1.ver, .slice x.2.ab x.1.bars.length x.2.cb, .slice x.2.ap x.2.np x.2.cp, .slice x.2.an x.2.nn x.2.cn, .int .i64 x.1.f.bars, .slice x.2.q.ra x.1.f.reps.length x.2.q.rc, .slice x.2.q.ea x.1.f.ends.length x.2.q.ec, .int .i64 x.1.f.jump.x, .int .i64 x.1.f.jump.y, .int .i64 x.1.f.jump.z, .slice x.2.q.ca x.1.f.cuts.length x.2.q.cc, .slice x.2.ta x.2.tn x.2.tc]
structure WsAt (w : World) (a : Option Addr) (l : List (Wk × Wp)) : Prop where
 rows : SlAt w a 12 (l.map JW)
 forms : ∀ x ∈ l, FoAt w x.1.f x.2.q
 bars : ∀ x ∈ l, SlAt w x.2.ab 4 (x.1.bars.map Y4)
 okb : ∀ x ∈ l, SlOk x.2.ab x.1.bars.length x.2.cb
theorem WsAt.below {w w' : World} {a : Option Addr} {l : List (Wk × Wp)} (h : WsAt w a l) (hb : Below w.heap.size w w') : WsAt w' a l :=
 ⟨h.rows.below hb, fun x hx => (h.forms x hx).below hb, fun x hx => (h.bars x hx).below hb, h.okb⟩
def Qk (l : List (Wk × Wp)) : List Wk := l.map Prod.fst
structure De where
 num : Int
 time : Int
 kind : Int
 a : Int
 b : Int
 c : Int
 deriving DecidableEq, Inhabited
def Ul (x : De) : List Value := [.int .i64 x.num, .int .i64 x.time, .int .i64 x.kind, .int .i64 x.a, .int .i64 x.b, .int .i64 x.c]
def DeAt (w : World) (a : Option Addr) (l : List De) : Prop := SlAt w a 6 (l.map Ul)
structure Rm where
 ver : Int
 f : Fo
 oss : List Int
 deriving DecidableEq, Inhabited
def badW (last : Int) (x : Wk) : Bool := decide (x.ver ≤ last) || decide (1000000 < x.ver) || decide (x.f.bars ≠ (x.bars.length : Int)) || !Qy x.f
def Zr : Int → List Wk → Bool
 | _, [] => true
 | last, x :: l => !badW last x && Zr x.ver l
def Q6 (l : List Wk) : Bool := Zr 0 l && (decide (1 ≤ l.length) && decide (l.length ≤ 100))
def Zk (l : List Wk) (v : Int) : Option Wk := l.find? fun x => decide (x.ver = v)
def Qx (l : List Wk) : Rm := match l with | [] => ⟨0, fo0, []⟩ | x :: _ => ⟨x.ver, x.f, []⟩
def insI (a : Int) (l : List Int) : List Int := l.takeWhile (fun x => decide (x < a)) ++ a :: l.dropWhile (fun x => decide (x < a))
def Yz (x : De) : Bool := decide (x.a < 1) || decide (20 < x.a) || decide (x.b < 0) || decide (1 < x.b) || decide (x.c ≠ 0)
def ossL (l : List Int) (x : De) : List Int := if x.b = 0 then l.filter (fun y => decide (y ≠ x.a)) else insI x.a l
def ossR (r : Rm) (x : De) : Rm × Int :=
 if Yz x then (r, 1)
 else if decide (x.a ∈ r.oss) = decide (x.b = 1) then (r, 6)
 else ({ r with oss := ossL r.oss x }, 0)
def reform (r : Rm) (p : Fo × Int) : Rm × Int := if p.2 = 0 then ({ r with f := p.1 }, 0) else (r, p.2)
def verR (l : List Wk) (r : Rm) (x : De) : Rm × Int :=
 if x.b ≠ 0 ∨ x.c ≠ 0 then (r, 1) else match Zk l x.a with | none => (r, 4) | some y => (⟨y.ver, y.f, []⟩, 0)
def doR (l : List Wk) (r : Rm) (x : De) : Rm × Int :=
 if x.kind = 1 then verR l r x
 else if x.kind = 2 then reform r (cutR r.f ⟨x.a, x.b, x.c⟩)
 else if x.kind = 3 then reform r (Zj r.f ⟨x.a, x.b, x.c⟩)
 else if x.kind = 4 then (if x.c ≠ 0 then (r, 1) else reform r (QW r.f x.a x.b))
 else if x.kind = 5 then ossR r x
 else (r, 1)
def runR (l : List Wk) : Rm → List De → Rm × Int
 | r, [] => (r, 0)
 | r, x :: d => if (doR l r x).2 = 0 then runR l (doR l r x).1 d else (r, (doR l r x).2)
def badD (i : Nat) (last : Int) (x : De) : Bool := decide (x.num ≠ (i : Int) + 1) || decide (x.time < last) || !(decide (0 ≤ x.time) && decide (x.time ≤ 1000000000))
def Zq : Nat → Int → List De → Bool
 | _, _, [] => true
 | i, last, x :: d => !badD i last x && Zq (i + 1) x.time d
def QH (l : List Wk) (d : List De) : Bool := Q6 l && decide (d.length ≤ 1000) && Zq 0 0 d && decide ((runR l (Qx l) d).2 = 0)
def upD (known time : Int) (d : List De) : List De := d.takeWhile fun x => decide (x.num ≤ known) && decide (x.time ≤ time)
def rm0 : Rm := ⟨0, fo0, []⟩
def atR (l : List Wk) (d : List De) (known time : Int) : Rm × Int :=
 if !QH l d || decide (known < 0) || decide ((d.length : Int) < known) || !(decide (0 ≤ time) && decide (time ≤ 1000000000)) then (rm0, 1) else ((runR l (Qx l) (upD known time d)).1, 0)
structure RmOk (r : Rm) : Prop where
 few : FoFew r.f
 sorted : r.oss.Pairwise (· < ·)
 lim : ∀ x ∈ r.oss, 1 ≤ x ∧ x ≤ 20
theorem erase_len {α : Type} [DecidableEq α] (l : List α) (c : α) : (l.erase c).length ≤ l.length := List.length_erase_le
theorem cutR_few {f : Fo} (h : FoFew f) (c : R3) : FoFew (cutR f c).1 := by
 have h0 : FoFew fo0 := ⟨by decide, by decide, by decide, by decide⟩
 unfold cutR
 split
 ·exact h0
 ·split
  ·exact h0
  ·split
   ·exact h0
   ·rename_i h1 _ h3
    have hv : Qy f = true := by
     cases hv : Qy f
     ·rw [hv] at h1; exact absurd rfl h1
     ·rfl
    refine ⟨h.bars, h.reps, h.ends, ?_⟩
    unfold Qy at hv
    simp only [Bool.and_eq_true, decide_eq_true_eq] at hv
    obtain ⟨⟨⟨⟨⟨⟨_, _⟩, _⟩, _⟩, _⟩, hc⟩, _⟩ := hv
    unfold ZZ at hc
    simp only [Bool.and_eq_true, decide_eq_true_eq] at hc
    simp only [List.length_append, List.length_cons, List.length_nil]
    omega
theorem openR_few {f : Fo} (h : FoFew f) (c : R3) : FoFew (Zj f c).1 := by
 have h0 : FoFew fo0 := ⟨by decide, by decide, by decide, by decide⟩
 unfold Zj
 split
 ·exact h0
 ·split
  ·exact ⟨h.bars, h.reps, h.ends, Nat.le_trans (erase_len _ _) h.cuts⟩
  ·exact h0
theorem timesR_few {f : Fo} (h : FoFew f) (k t : Int) : FoFew (QW f k t).1 := by
 have h0 : FoFew fo0 := ⟨by decide, by decide, by decide, by decide⟩
 unfold QW
 split
 ·exact h0
 ·split
  ·exact h0
  ·split
   ·exact h0
   ·split
    ·exact JN h _ _
    ·exact h0
theorem tw_lt {a : Int} {l : List Int} : ∀ x ∈ l.takeWhile (fun x => decide (x < a)), x < a := fun x hx => by
 have := List.all_takeWhile (l := l) (p := fun x => decide (x < a))
 rw [List.all_eq_true] at this
 simpa using this x hx
theorem UF {a : Int} : ∀ {l : List Int}, l.Pairwise (· < ·) → ∀ x ∈ l.dropWhile (fun x => decide (x < a)), a ≤ x
 | [], _, x, hx => by cases hx
 | y :: l, h, x, hx => by
  rw [List.dropWhile_cons] at hx
  split at hx
  ·exact UF (List.pairwise_cons.1 h).2 x hx
  ·rename_i hy
   rcases List.mem_cons.1 hx with rfl | hx
   ·simpa using hy
   ·have := (List.pairwise_cons.1 h).1 x hx
    have hy' : ¬ y < a := by simpa using hy
    omega
theorem insI_mem {a x : Int} {l : List Int} : x ∈ insI a l ↔ x = a ∨ x ∈ l := by
 unfold insI
 rw [List.mem_append, List.mem_cons]
 constructor
 ·rintro (h | rfl | h)
  ·exact .inr ((List.takeWhile_sublist _).subset h)
  ·exact .inl rfl
  ·exact .inr ((List.dropWhile_sublist _).subset h)
 ·rintro (rfl | h)
  ·exact .inr (.inl rfl)
  ·rw [← List.takeWhile_append_dropWhile (p := fun x => decide (x < a)) (l := l), List.mem_append] at h
   rcases h with h | h
   ·exact .inl h
   ·exact .inr (.inr h)
theorem insI_sorted {a : Int} {l : List Int} (h : l.Pairwise (· < ·)) (ha : a ∉ l) : (insI a l).Pairwise (· < ·) := by
 unfold insI
 rw [List.pairwise_append]
 refine ⟨h.sublist (List.takeWhile_sublist _), List.pairwise_cons.2 ⟨fun x hx => ?_, h.sublist (List.dropWhile_sublist _)⟩, fun x hx y hy => ?_⟩
 ·have h1 := UF h x hx
  have h2 : x ≠ a := fun e => ha (e ▸ (List.dropWhile_sublist _).subset hx)
  omega
 ·have h1 := tw_lt x hx
  rcases List.mem_cons.1 hy with rfl | hy
  ·exact h1
  ·have := UF h y hy; omega
theorem RmOk.oss {r : Rm} (h : RmOk r) (x : De) : RmOk (ossR r x).1 := by
 unfold ossR
 split
 ·exact h
 ·split
  ·exact h
  ·rename_i hb hne
   have hb' : Yz x = false := by simpa using hb
   unfold Yz at hb'
   simp only [Bool.or_eq_false_iff, decide_eq_false_iff_not] at hb'
   obtain ⟨⟨⟨⟨h1, h2⟩, h3⟩, h4⟩, h5⟩ := hb'
   refine ⟨h.few, ?_, ?_⟩
   ·simp only [ossL]
    split
    ·exact h.sorted.sublist List.filter_sublist
    ·refine insI_sorted h.sorted fun hm => hne ?_
     have : x.b = 1 := by omega
     simp [hm, this]
   ·simp only [ossL]
    split
    ·exact fun y hy => h.lim y (List.mem_filter.1 hy).1
    ·intro y hy
     rcases insI_mem.1 hy with rfl | hy
     ·omega
     ·exact h.lim y hy
theorem RmOk.reform {r : Rm} (h : RmOk r) {p : Fo × Int} (hp : FoFew p.1) : RmOk (Proofs.YtajijcfikihhjaaGreatDoor.reform r p).1 := by
 unfold Proofs.YtajijcfikihhjaaGreatDoor.reform
 split
 ·exact ⟨hp, h.sorted, h.lim⟩
 ·exact h
theorem RmOk.do_ {l : List Wk} (hl : ∀ x ∈ l, FoFew x.f) {r : Rm} (h : RmOk r) (x : De) : RmOk (doR l r x).1 := by
 unfold doR
 split
 ·unfold verR
  split
  ·exact h
  ·split
   ·exact h
   ·rename_i y hy
    exact ⟨hl y (List.mem_of_find?_eq_some hy), List.Pairwise.nil, fun x hx => by cases hx⟩
 ·split
  ·exact h.reform (cutR_few h.few _)
  ·split
   ·exact h.reform (openR_few h.few _)
   ·split
    ·split
     ·exact h
     ·exact h.reform (timesR_few h.few _ _)
    ·split
     ·exact h.oss x
     ·exact h
theorem RmOk.run {l : List Wk} (hl : ∀ x ∈ l, FoFew x.f) : ∀ (d : List De) {r : Rm}, RmOk r → RmOk (runR l r d).1
 | [], r, h => h
 | x :: d, r, h => by
  rw [runR]
  split
  ·exact RmOk.run hl d (h.do_ hl x)
  ·exact h
theorem RmOk.first {l : List Wk} (hl : ∀ x ∈ l, FoFew x.f) : RmOk (Qx l) := by
 cases l with
 | nil => exact ⟨⟨by decide, by decide, by decide, by decide⟩, List.Pairwise.nil, fun x hx => by cases hx⟩
 | cons x l => exact ⟨hl x List.mem_cons_self, List.Pairwise.nil, fun x hx => by cases hx⟩
theorem RmOk.oss_len {r : Rm} (h : RmOk r) : r.oss.length ≤ 20 := by
 have key : ∀ (l : List Int) (a : Int), l.Pairwise (· < ·) → (∀ x ∈ l, a ≤ x ∧ x ≤ 20) → a ≤ 21 → (l.length : Int) ≤ 21 - a := by
  intro l
  induction l with
  | nil => intro a _ _ ha; simp only [List.length_nil]; omega
  | cons y l ih =>
   intro a hp hl ha
   have hy := hl y List.mem_cons_self
   have := ih (y + 1) (List.pairwise_cons.1 hp).2 (fun x hx => ⟨by have := (List.pairwise_cons.1 hp).1 x hx; omega, (hl x (List.mem_cons_of_mem _ hx)).2⟩) (by omega)
   simp only [List.length_cons]; omega
 have := key r.oss 1 h.sorted h.lim (by decide)
 omega
theorem YN (l : List Wk) : ∀ (d e : List De) (r : Rm), runR l r (d ++ e) = if (runR l r d).2 = 0 then runR l (runR l r d).1 e else runR l r d
 | [], e, r => by simp [runR]
 | x :: d, e, r => by
  rw [List.cons_append, runR, runR]
  by_cases h : (doR l r x).2 = 0
  ·rw [if_pos h, if_pos h, YN l d e]
  ·rw [if_neg h, if_neg h, if_neg h]
structure CpT (f : Fo) (q : Fp) (w : World) (B bx : Nat) (D : Nat → Bool) (x4 x5 x7 x8 x10 x11 x12 x13 x14 : Value) (v : World) : Prop where
 l1 : D 1 = true → x4 = (.slice q.ra f.reps.length q.rc)
 l4 : D 4 = true → x7 = (.slice q.ea f.ends.length q.ec)
 l7 : D 7 = true → x10 = (.slice q.ca f.cuts.length q.cc)
 p9 : D 9 = true → x12 = .pointer (some ⟨bx, 1, none⟩)
 p11 : D 11 = true → x13 = .pointer (some ⟨bx, 2, none⟩)
 p13 : D 13 = true → x14 = .pointer (some ⟨bx, 6, none⟩)
 c2 : D 2 = true → OwnR v B 254 3 x5 (f.reps.map R3.cells)
 c5 : D 5 = true → OwnR v B 255 3 x8 (f.ends.map R3.cells)
 c8 : D 8 = true → OwnR v B 186 3 x11 (f.cuts.map R3.cells)
 g5 : D 5 = true → D 2 = true
 g8 : D 8 = true → D 5 = true
 s10 : D 10 = true → D 8 = true ∧ D 1 = true ∧ D 4 = true ∧ D 7 = true
 s12 : D 12 = true → D 10 = true
 s14 : D 14 = true → D 12 = true
 box : v.heap[bx]? = some (.cells #[.int .i64 f.bars, cond (D 10) x5 (.slice q.ra f.reps.length q.rc), cond (D 12) x8 (.slice q.ea f.ends.length q.ec), .int .i64 f.jump.x, .int .i64 f.jump.y, .int .i64 f.jump.z, cond (D 14) x11 (.slice q.ca f.cuts.length q.cc)] 109)
 below : Below bx w v
 size : B ≤ v.heap.size
section
variable {f : Fo} {q : Fp} {w : World} {B bx : Nat} {D : Nat → Bool} {x4 x5 x7 x8 x10 x11 x12 x13 x14 : Value} {v : World}
theorem CpT.fresh (j : CpT f q w B bx D x4 x5 x7 x8 x10 x11 x12 x13 x14 v) (h : D 10 = false) : v.heap[bx]? = some (.cells #[.int .i64 f.bars, (.slice q.ra f.reps.length q.rc), (.slice q.ea f.ends.length q.ec), .int .i64 f.jump.x, .int .i64 f.jump.y, .int .i64 f.jump.z, (.slice q.ca f.cuts.length q.cc)] 109) := by
 have h12 := Qv j.s12 h; have h14 := Qv j.s14 h12
 have := j.box
 rw [h, h12, h14] at this; exact this
theorem CpT.t1 (j : CpT f q w B bx D x4 x5 x7 x8 x10 x11 x12 x13 x14 v) : CpT f q w B bx (dset D 1) ((.slice q.ra f.reps.length q.rc)) x5 x7 x8 x10 x11 x12 x13 x14 v := ⟨(fun _ => rfl), j.l4, j.l7, j.p9, j.p11, j.p13, j.c2, j.c5, j.c8, (fun h => Qh (j.g5 h)), (fun h => Qh (j.g8 h)), (fun h => ⟨Qh (j.s10 h).1, Qh (j.s10 h).2.1, Qh (j.s10 h).2.2.1, Qh (j.s10 h).2.2.2⟩), (fun h => Qh (j.s12 h)), (fun h => Qh (j.s14 h)), j.box, j.below, j.size⟩
theorem CpT.t4 (j : CpT f q w B bx D x4 x5 x7 x8 x10 x11 x12 x13 x14 v) : CpT f q w B bx (dset D 4) x4 x5 ((.slice q.ea f.ends.length q.ec)) x8 x10 x11 x12 x13 x14 v := ⟨j.l1, (fun _ => rfl), j.l7, j.p9, j.p11, j.p13, j.c2, j.c5, j.c8, (fun h => Qh (j.g5 h)), (fun h => Qh (j.g8 h)), (fun h => ⟨Qh (j.s10 h).1, Qh (j.s10 h).2.1, Qh (j.s10 h).2.2.1, Qh (j.s10 h).2.2.2⟩), (fun h => Qh (j.s12 h)), (fun h => Qh (j.s14 h)), j.box, j.below, j.size⟩
theorem CpT.t7 (j : CpT f q w B bx D x4 x5 x7 x8 x10 x11 x12 x13 x14 v) : CpT f q w B bx (dset D 7) x4 x5 x7 x8 ((.slice q.ca f.cuts.length q.cc)) x11 x12 x13 x14 v := ⟨j.l1, j.l4, (fun _ => rfl), j.p9, j.p11, j.p13, j.c2, j.c5, j.c8, (fun h => Qh (j.g5 h)), (fun h => Qh (j.g8 h)), (fun h => ⟨Qh (j.s10 h).1, Qh (j.s10 h).2.1, Qh (j.s10 h).2.2.1, Qh (j.s10 h).2.2.2⟩), (fun h => Qh (j.s12 h)), (fun h => Qh (j.s14 h)), j.box, j.below, j.size⟩
theorem CpT.t9 (j : CpT f q w B bx D x4 x5 x7 x8 x10 x11 x12 x13 x14 v) : CpT f q w B bx (dset D 9) x4 x5 x7 x8 x10 x11 (.pointer (some ⟨bx, 1, none⟩)) x13 x14 v := ⟨j.l1, j.l4, j.l7, (fun _ => rfl), j.p11, j.p13, j.c2, j.c5, j.c8, (fun h => Qh (j.g5 h)), (fun h => Qh (j.g8 h)), (fun h => ⟨Qh (j.s10 h).1, Qh (j.s10 h).2.1, Qh (j.s10 h).2.2.1, Qh (j.s10 h).2.2.2⟩), (fun h => Qh (j.s12 h)), (fun h => Qh (j.s14 h)), j.box, j.below, j.size⟩
theorem CpT.t11 (j : CpT f q w B bx D x4 x5 x7 x8 x10 x11 x12 x13 x14 v) : CpT f q w B bx (dset D 11) x4 x5 x7 x8 x10 x11 x12 (.pointer (some ⟨bx, 2, none⟩)) x14 v := ⟨j.l1, j.l4, j.l7, j.p9, (fun _ => rfl), j.p13, j.c2, j.c5, j.c8, (fun h => Qh (j.g5 h)), (fun h => Qh (j.g8 h)), (fun h => ⟨Qh (j.s10 h).1, Qh (j.s10 h).2.1, Qh (j.s10 h).2.2.1, Qh (j.s10 h).2.2.2⟩), (fun h => Qh (j.s12 h)), (fun h => Qh (j.s14 h)), j.box, j.below, j.size⟩
theorem CpT.t13 (j : CpT f q w B bx D x4 x5 x7 x8 x10 x11 x12 x13 x14 v) : CpT f q w B bx (dset D 13) x4 x5 x7 x8 x10 x11 x12 x13 (.pointer (some ⟨bx, 6, none⟩)) v := ⟨j.l1, j.l4, j.l7, j.p9, j.p11, (fun _ => rfl), j.c2, j.c5, j.c8, (fun h => Qh (j.g5 h)), (fun h => Qh (j.g8 h)), (fun h => ⟨Qh (j.s10 h).1, Qh (j.s10 h).2.1, Qh (j.s10 h).2.2.1, Qh (j.s10 h).2.2.2⟩), (fun h => Qh (j.s12 h)), (fun h => Qh (j.s14 h)), j.box, j.below, j.size⟩
theorem CpT.t2 (j : CpT f q w B bx D x4 x5 x7 x8 x10 x11 x12 x13 x14 v) {u : Value} {v' : World} (hB : bx < B) (hd : D 2 = false) (ho : OwnR v' v.heap.size 254 3 u (f.reps.map R3.cells)) (hb : Below v.heap.size v v') : CpT f q w B bx (dset D 2) x4 u x7 x8 x10 x11 x12 x13 x14 v' := ⟨j.l1, j.l4, j.l7, j.p9, j.p11, j.p13, (fun _ => ho.low j.size), (fun h => (j.c5 h).below hb), (fun h => (j.c8 h).below hb), (fun h => Qh (j.g5 h)), (fun h => Qh (j.g8 h)), (fun h => ⟨Qh (j.s10 h).1, Qh (j.s10 h).2.1, Qh (j.s10 h).2.2.1, Qh (j.s10 h).2.2.2⟩), (fun h => Qh (j.s12 h)), (fun h => Qh (j.s14 h)), (by
  have h10 : D 10 = false := Qv (fun h => j.g5 (j.g8 (j.s10 h).1)) hd
  have h12 := Qv j.s12 h10; have h14 := Qv j.s14 h12
  have h := (hb.block _ (by have := j.size; omega)).trans (j.fresh h10)
  simpa [dset, h10, h12, h14] using h), (j.below.trans (hb.mono (by have := j.size; omega))), (Nat.le_trans j.size hb.size)⟩
theorem CpT.t5 (j : CpT f q w B bx D x4 x5 x7 x8 x10 x11 x12 x13 x14 v) {u : Value} {v' : World} (hB : bx < B) (hd : D 5 = false) (hg : D 2 = true) (ho : OwnR v' v.heap.size 255 3 u (f.ends.map R3.cells)) (hb : Below v.heap.size v v') : CpT f q w B bx (dset D 5) x4 x5 x7 u x10 x11 x12 x13 x14 v' := ⟨j.l1, j.l4, j.l7, j.p9, j.p11, j.p13, (fun h => (j.c2 h).below hb), (fun _ => ho.low j.size), (fun h => (j.c8 h).below hb), (fun _ => Qh hg), (fun h => Qh (j.g8 h)), (fun h => ⟨Qh (j.s10 h).1, Qh (j.s10 h).2.1, Qh (j.s10 h).2.2.1, Qh (j.s10 h).2.2.2⟩), (fun h => Qh (j.s12 h)), (fun h => Qh (j.s14 h)), (by
  have h10 : D 10 = false := Qv (fun h => j.g8 (j.s10 h).1) hd
  have h12 := Qv j.s12 h10; have h14 := Qv j.s14 h12
  have h := (hb.block _ (by have := j.size; omega)).trans (j.fresh h10)
  simpa [dset, h10, h12, h14] using h), (j.below.trans (hb.mono (by have := j.size; omega))), (Nat.le_trans j.size hb.size)⟩
theorem CpT.t8 (j : CpT f q w B bx D x4 x5 x7 x8 x10 x11 x12 x13 x14 v) {u : Value} {v' : World} (hB : bx < B) (hd : D 8 = false) (hg : D 5 = true) (ho : OwnR v' v.heap.size 186 3 u (f.cuts.map R3.cells)) (hb : Below v.heap.size v v') : CpT f q w B bx (dset D 8) x4 x5 x7 x8 x10 u x12 x13 x14 v' := ⟨j.l1, j.l4, j.l7, j.p9, j.p11, j.p13, (fun h => (j.c2 h).below hb), (fun h => (j.c5 h).below hb), (fun _ => ho.low j.size), (fun h => Qh (j.g5 h)), (fun _ => Qh hg), (fun h => ⟨Qh (j.s10 h).1, Qh (j.s10 h).2.1, Qh (j.s10 h).2.2.1, Qh (j.s10 h).2.2.2⟩), (fun h => Qh (j.s12 h)), (fun h => Qh (j.s14 h)), (by
  have h10 : D 10 = false := Qv (fun h => (j.s10 h).1) hd
  have h12 := Qv j.s12 h10; have h14 := Qv j.s14 h12
  have h := (hb.block _ (by have := j.size; omega)).trans (j.fresh h10)
  simpa [dset, h10, h12, h14] using h), (j.below.trans (hb.mono (by have := j.size; omega))), (Nat.le_trans j.size hb.size)⟩
theorem CpT.t10 (j : CpT f q w B bx D x4 x5 x7 x8 x10 x11 x12 x13 x14 v) (hB : bx < B) (hd : D 10 = false) (h8 : D 8 = true ∧ D 1 = true ∧ D 4 = true ∧ D 7 = true) : CpT f q w B bx (dset D 10) x4 x5 x7 x8 x10 x11 x12 x13 x14 (v.setCell ⟨bx, 1, none⟩ x5) :=
 ⟨j.l1, j.l4, j.l7, j.p9, j.p11, j.p13, (fun h => (j.c2 h).setAt (by omega) _), (fun h => (j.c5 h).setAt (by omega) _), (fun h => (j.c8 h).setAt (by omega) _), (fun h => Qh (j.g5 h)), (fun h => Qh (j.g8 h)), (fun _ => ⟨Qh h8.1, Qh h8.2.1, Qh h8.2.2.1, Qh h8.2.2.2⟩), (fun h => Qh (j.s12 h)), (fun h => Qh (j.s14 h)), (by
  have h12 := Qv j.s12 hd; have h14 := Qv j.s14 h12
  have h := heap_setCell_same _ bx 1 _ _ x5 j.box
  simpa [dset, h12, h14, hd] using h), (j.below.setCell (p := ⟨bx, 1, none⟩) (Nat.le_refl _) _), (by simpa using j.size)⟩
theorem CpT.t12 (j : CpT f q w B bx D x4 x5 x7 x8 x10 x11 x12 x13 x14 v) (hB : bx < B) (hd : D 12 = false) (h8 : D 10 = true) : CpT f q w B bx (dset D 12) x4 x5 x7 x8 x10 x11 x12 x13 x14 (v.setCell ⟨bx, 2, none⟩ x8) :=
 ⟨j.l1, j.l4, j.l7, j.p9, j.p11, j.p13, (fun h => (j.c2 h).setAt (by omega) _), (fun h => (j.c5 h).setAt (by omega) _), (fun h => (j.c8 h).setAt (by omega) _), (fun h => Qh (j.g5 h)), (fun h => Qh (j.g8 h)), (fun h => ⟨Qh (j.s10 h).1, Qh (j.s10 h).2.1, Qh (j.s10 h).2.2.1, Qh (j.s10 h).2.2.2⟩), (fun _ => Qh h8), (fun h => Qh (j.s14 h)), (by
  have h12 := h8; have h14 := Qv j.s14 hd
  have h := heap_setCell_same _ bx 2 _ _ x8 j.box
  simpa [dset, h12, h14, hd] using h), (j.below.setCell (p := ⟨bx, 2, none⟩) (Nat.le_refl _) _), (by simpa using j.size)⟩
theorem CpT.t14 (j : CpT f q w B bx D x4 x5 x7 x8 x10 x11 x12 x13 x14 v) (hB : bx < B) (hd : D 14 = false) (h8 : D 12 = true) : CpT f q w B bx (dset D 14) x4 x5 x7 x8 x10 x11 x12 x13 x14 (v.setCell ⟨bx, 6, none⟩ x11) :=
 ⟨j.l1, j.l4, j.l7, j.p9, j.p11, j.p13, (fun h => (j.c2 h).setAt (by omega) _), (fun h => (j.c5 h).setAt (by omega) _), (fun h => (j.c8 h).setAt (by omega) _), (fun h => Qh (j.g5 h)), (fun h => Qh (j.g8 h)), (fun h => ⟨Qh (j.s10 h).1, Qh (j.s10 h).2.1, Qh (j.s10 h).2.2.1, Qh (j.s10 h).2.2.2⟩), (fun h => Qh (j.s12 h)), (fun _ => Qh h8), (by
  have h12 := h8; have h14 := j.s12 h8
  have h := heap_setCell_same _ bx 6 _ _ x11 j.box
  simpa [dset, h12, h14, hd] using h), (j.below.setCell (p := ⟨bx, 6, none⟩) (Nat.le_refl _) _), (by simpa using j.size)⟩
end
abbrev set9 (v : World) (b : Nat) (a0 a1 a2 a3 a4 a5 a6 a7 a8 : Value) : World := ((((((((v.setCell ⟨b, 0, none⟩ a0).setCell ⟨b, 1, none⟩ a1).setCell ⟨b, 2, none⟩ a2).setCell ⟨b, 3, none⟩ a3).setCell ⟨b, 4, none⟩ a4).setCell ⟨b, 5, none⟩ a5).setCell ⟨b, 6, none⟩ a6).setCell ⟨b, 7, none⟩ a7).setCell ⟨b, 8, none⟩ a8
theorem set9_at {v : World} {b : Nat} {T : TypeId} {c0 c1 c2 c3 c4 c5 c6 c7 c8 c9 : Value} (h : v.heap[b]? = some (.cells #[c0, c1, c2, c3, c4, c5, c6, c7, c8, c9] T (0, 0))) (a0 a1 a2 a3 a4 a5 a6 a7 a8 : Value) : (set9 v b a0 a1 a2 a3 a4 a5 a6 a7 a8).heap[b]? = some (.cells #[a0, a1, a2, a3, a4, a5, a6, a7, a8, c9] T (0, 0)) := by
 unfold set9
 replace h : (v.setCell ⟨b, 0, none⟩ a0).heap[b]? = some (.cells #[a0, c1, c2, c3, c4, c5, c6, c7, c8, c9] T (0, 0)) := heap_setCell_same v b 0 _ _ a0 h
 generalize v.setCell ⟨b, 0, none⟩ a0 = v at *
 replace h : (v.setCell ⟨b, 1, none⟩ a1).heap[b]? = some (.cells #[a0, a1, c2, c3, c4, c5, c6, c7, c8, c9] T (0, 0)) := heap_setCell_same v b 1 _ _ a1 h
 generalize v.setCell ⟨b, 1, none⟩ a1 = v at *
 replace h : (v.setCell ⟨b, 2, none⟩ a2).heap[b]? = some (.cells #[a0, a1, a2, c3, c4, c5, c6, c7, c8, c9] T (0, 0)) := heap_setCell_same v b 2 _ _ a2 h
 generalize v.setCell ⟨b, 2, none⟩ a2 = v at *
 replace h : (v.setCell ⟨b, 3, none⟩ a3).heap[b]? = some (.cells #[a0, a1, a2, a3, c4, c5, c6, c7, c8, c9] T (0, 0)) := heap_setCell_same v b 3 _ _ a3 h
 generalize v.setCell ⟨b, 3, none⟩ a3 = v at *
 replace h : (v.setCell ⟨b, 4, none⟩ a4).heap[b]? = some (.cells #[a0, a1, a2, a3, a4, c5, c6, c7, c8, c9] T (0, 0)) := heap_setCell_same v b 4 _ _ a4 h
 generalize v.setCell ⟨b, 4, none⟩ a4 = v at *
 replace h : (v.setCell ⟨b, 5, none⟩ a5).heap[b]? = some (.cells #[a0, a1, a2, a3, a4, a5, c6, c7, c8, c9] T (0, 0)) := heap_setCell_same v b 5 _ _ a5 h
 generalize v.setCell ⟨b, 5, none⟩ a5 = v at *
 replace h : (v.setCell ⟨b, 6, none⟩ a6).heap[b]? = some (.cells #[a0, a1, a2, a3, a4, a5, a6, c7, c8, c9] T (0, 0)) := heap_setCell_same v b 6 _ _ a6 h
 generalize v.setCell ⟨b, 6, none⟩ a6 = v at *
 replace h : (v.setCell ⟨b, 7, none⟩ a7).heap[b]? = some (.cells #[a0, a1, a2, a3, a4, a5, a6, a7, c8, c9] T (0, 0)) := heap_setCell_same v b 7 _ _ a7 h
 generalize v.setCell ⟨b, 7, none⟩ a7 = v at *
 replace h : (v.setCell ⟨b, 8, none⟩ a8).heap[b]? = some (.cells #[a0, a1, a2, a3, a4, a5, a6, a7, a8, c9] T (0, 0)) := heap_setCell_same v b 8 _ _ a8 h
 generalize v.setCell ⟨b, 8, none⟩ a8 = v at *
 exact h
theorem OwnR.set9 {w : World} {B b : Nat} {E : TypeId} {sz : Nat} {v : Value} {rows : List (List Value)} (o : OwnR w B E sz v rows) (h : b < B) (a0 a1 a2 a3 a4 a5 a6 a7 a8 : Value) : OwnR (set9 w b a0 a1 a2 a3 a4 a5 a6 a7 a8) B E sz v rows := ((((((((o.setAt h a0).setAt h a1).setAt h a2).setAt h a3).setAt h a4).setAt h a5).setAt h a6).setAt h a7).setAt h a8
theorem Yq {n : Nat} {w v : World} {b : Nat} (h : KeepB n [b] w v) (a0 a1 a2 a3 a4 a5 a6 a7 a8 : Value) : KeepB n [b] w (set9 v b a0 a1 a2 a3 a4 a5 a6 a7 a8) := ((((((((h.set (p := ⟨b, 0, none⟩) (.inl (List.mem_singleton.2 rfl)) a0).set (p := ⟨b, 1, none⟩) (.inl (List.mem_singleton.2 rfl)) a1).set (p := ⟨b, 2, none⟩) (.inl (List.mem_singleton.2 rfl)) a2).set (p := ⟨b, 3, none⟩) (.inl (List.mem_singleton.2 rfl)) a3).set (p := ⟨b, 4, none⟩) (.inl (List.mem_singleton.2 rfl)) a4).set (p := ⟨b, 5, none⟩) (.inl (List.mem_singleton.2 rfl)) a5).set (p := ⟨b, 6, none⟩) (.inl (List.mem_singleton.2 rfl)) a6).set (p := ⟨b, 7, none⟩) (.inl (List.mem_singleton.2 rfl)) a7).set (p := ⟨b, 8, none⟩) (.inl (List.mem_singleton.2 rfl)) a8
structure FpNe (q : Fp) (s : Nat) : Prop where
 ra : ∀ ad, q.ra = some ad → ad.block ≠ s
 ea : ∀ ad, q.ea = some ad → ad.block ≠ s
 ca : ∀ ad, q.ca = some ad → ad.block ≠ s
theorem FpNew.ne {q : Fp} {B s : Nat} (h : FpNew q B) (hs : s < B) : FpNe q s := ⟨fun ad e => by have := h.ra ad e; omega, fun ad e => by have := h.ea ad e; omega, fun ad e => by have := h.ca ad e; omega⟩
theorem FpNew.low {q : Fp} {B B' : Nat} (h : FpNew q B) (hB : B' ≤ B) : FpNew q B' := ⟨fun ad e => Nat.le_trans hB (h.ra ad e), fun ad e => Nat.le_trans hB (h.ea ad e), fun ad e => Nat.le_trans hB (h.ca ad e)⟩
theorem SlAt.keepB {w w' : World} {S : List Nat} {a : Option Addr} {sz : Nat} {rows : List (List Value)} (h : SlAt w a sz rows) (k : KeepB w.heap.size S w w') (hn : ∀ ad, a = some ad → ad.block ∉ S) : SlAt w' a sz rows := fun i r hr => by
 obtain ⟨b, off, e, hlt, hl, hc⟩ := h i r hr
 exact ⟨b, off, e, Nat.lt_of_lt_of_le hlt k.size, hl, fun j v hv => (World.cell?_of_block (w := w) (k.block b hlt (hn _ e))).trans (hc j v hv)⟩
theorem FoAt.keepB {w w' : World} {s : Nat} {f : Fo} {q : Fp} (h : FoAt w f q) (k : KeepB w.heap.size [s] w w') (hn : FpNe q s) : FoAt w' f q :=
 ⟨SlAt.keepB h.reps k (fun ad e => by rw [List.mem_singleton]; exact hn.ra ad e), SlAt.keepB h.ends k (fun ad e => by rw [List.mem_singleton]; exact hn.ea ad e), SlAt.keepB h.cuts k (fun ad e => by rw [List.mem_singleton]; exact hn.ca ad e), h.okr, h.oke, h.okc⟩
theorem FoAt.keptRow {w w' : World} {f : Fo} {q : Fp} {row : Option Nat} (h : FoAt w f q) (hg : w.grownBy w' row) (hr : ∀ r, row = some r → ∃ o : Obj, w.heap[r]? = some o ∧ o.isCells = false) : FoAt w' f q :=
 ⟨SlAt.keptRow h.reps hg hr, SlAt.keptRow h.ends hg hr, SlAt.keptRow h.cuts hg hr, h.okr, h.oke, h.okc⟩
structure StAt (w : World) (s : Nat) (r : Rm) (q : Fp) (oa : Option Addr) (oc : Nat) (wv : Value) : Prop where
 box : w.heap[s]? = some (.cells #[.int .i64 r.ver, .int .i64 r.f.bars, .slice q.ra r.f.reps.length q.rc, .slice q.ea r.f.ends.length q.ec, .int .i64 r.f.jump.x, .int .i64 r.f.jump.y, .int .i64 r.f.jump.z, .slice q.ca r.f.cuts.length q.cc, .slice oa r.oss.length oc, wv] 179)
 form : FoAt w r.f q
 oss : InAt w oa r.oss
 oko : SlOk oa r.oss.length oc
 nef : FpNew q (s + 1)
 neo : ∀ ad, oa = some ad → s + 1 ≤ ad.block
theorem StAt.below {w w' : World} {s : Nat} {r : Rm} {q : Fp} {oa : Option Addr} {oc : Nat} {wv : Value} (h : StAt w s r q oa oc wv) (hb : Below w.heap.size w w') : StAt w' s r q oa oc wv :=
 ⟨Qc h.box hb, h.form.below hb, SlAt.below h.oss hb, h.oko, h.nef, h.neo⟩
theorem StAt.keptRow {w w' : World} {s : Nat} {r : Rm} {q : Fp} {oa : Option Addr} {oc : Nat} {wv : Value} {row : Option Nat} (h : StAt w s r q oa oc wv) (hg : w.grownBy w' row) (hr : ∀ r, row = some r → ∃ o : Obj, w.heap[r]? = some o ∧ o.isCells = false) : StAt w' s r q oa oc wv :=
 ⟨(hg.block s (Qd h.box) (fun e => by obtain ⟨o, ho, hc⟩ := hr s e.symm; rw [h.box] at ho; cases ho; cases hc)).trans h.box, h.form.keptRow hg hr, SlAt.keptRow h.oss hg hr, h.oko, h.nef, h.neo⟩
theorem take_any (s : Nat) (x : Wk) (p : Wp) (o0 o1 o2 o3 o4 o5 o6 o7 o8 wv : Value) (w : World) (hf : FoFew x.f) (hq : FoAt w x.f p.q) (hs : w.heap[s]? = some (.cells #[o0, o1, o2, o3, o4, o5, o6, o7, o8, wv] 179)) :
  Calls Tryz.prog 158 #[.pointer (some ⟨s, 0, none⟩), .agg #[.int .i64 x.ver, .slice p.ab x.bars.length p.cb, .slice p.ap p.np p.cp, .slice p.an p.nn p.cn, .int .i64 x.f.bars, .slice p.q.ra x.f.reps.length p.q.rc, .slice p.q.ea x.f.ends.length p.q.ec, .int .i64 x.f.jump.x, .int .i64 x.f.jump.y, .int .i64 x.f.jump.z, .slice p.q.ca x.f.cuts.length p.q.cc, .slice p.ta p.tn p.tc]] w fun e w' => (∃ v, e = .returned v) ∧ ∃ q', StAt w' s ⟨x.ver, x.f, []⟩ q' none 0 wv ∧ KeepB w.heap.size [s] w w' := by
 obtain ⟨ver, bars, f⟩ := x
 obtain ⟨ab, cb, ap, np, cp, an, nn, cn, q, ta, tn, tc⟩ := p
 dsimp only at *
 have hsl := Qd hs
 obtain ⟨x1, x2, hb⟩ := box2 (w := w) (A := .cells #[.int .i64 ver, .slice ab bars.length cb, .slice ap np cp, .slice an nn cn, .int .i64 f.bars, .slice q.ra f.reps.length q.rc, .slice q.ea f.ends.length q.ec, .int .i64 f.jump.x, .int .i64 f.jump.y, .int .i64 f.jump.z, .slice q.ca f.cuts.length q.cc, .slice ta tn tc] 112) (B := .cells #[.int .i64 f.bars, .slice q.ra f.reps.length q.rc, .slice q.ea f.ends.length q.ec, .int .i64 f.jump.x, .int .i64 f.jump.y, .int .i64 f.jump.z, .slice q.ca f.cuts.length q.cc] 109) (Below.refl _ _)
 have hb1 := (Below.refl w.heap.size w).alloc (Nat.le_refl _) (.cells #[.int .i64 ver, .slice ab bars.length cb, .slice ap np cp, .slice an nn cn, .int .i64 f.bars, .slice q.ra f.reps.length q.rc, .slice q.ea f.ends.length q.ec, .int .i64 f.jump.x, .int .i64 f.jump.y, .int .i64 f.jump.z, .slice q.ca f.cuts.length q.cc, .slice ta tn tc] 112)
 have HR := Qa (fun V (hV : Below (w.alloc (.cells #[.int .i64 ver, .slice ab bars.length cb, .slice ap np cp, .slice an nn cn, .int .i64 f.bars, .slice q.ra f.reps.length q.rc, .slice q.ea f.ends.length q.ec, .int .i64 f.jump.x, .int .i64 f.jump.y, .int .i64 f.jump.z, .slice q.ca f.cuts.length q.cc, .slice ta tn tc] 112)).heap.size (w.alloc (.cells #[.int .i64 ver, .slice ab bars.length cb, .slice ap np cp, .slice an nn cn, .int .i64 f.bars, .slice q.ra f.reps.length q.rc, .slice q.ea f.ends.length q.ec, .int .i64 f.jump.x, .int .i64 f.jump.y, .int .i64 f.jump.z, .slice q.ca f.cuts.length q.cc, .slice ta tn tc] 112)) V) => CloneRe_any q.ra q.rc f.reps V (by have := hf.reps; omega) hq.okr ((hq.reps.below hb1).below hV))
 have HE := Qa (fun V (hV : Below (w.alloc (.cells #[.int .i64 ver, .slice ab bars.length cb, .slice ap np cp, .slice an nn cn, .int .i64 f.bars, .slice q.ra f.reps.length q.rc, .slice q.ea f.ends.length q.ec, .int .i64 f.jump.x, .int .i64 f.jump.y, .int .i64 f.jump.z, .slice q.ca f.cuts.length q.cc, .slice ta tn tc] 112)).heap.size (w.alloc (.cells #[.int .i64 ver, .slice ab bars.length cb, .slice ap np cp, .slice an nn cn, .int .i64 f.bars, .slice q.ra f.reps.length q.rc, .slice q.ea f.ends.length q.ec, .int .i64 f.jump.x, .int .i64 f.jump.y, .int .i64 f.jump.z, .slice q.ca f.cuts.length q.cc, .slice ta tn tc] 112)) V) => CloneEn_any q.ea q.ec f.ends V (by have := hf.ends; omega) hq.oke ((hq.ends.below hb1).below hV))
 have HC := Qa (fun V (hV : Below (w.alloc (.cells #[.int .i64 ver, .slice ab bars.length cb, .slice ap np cp, .slice an nn cn, .int .i64 f.bars, .slice q.ra f.reps.length q.rc, .slice q.ea f.ends.length q.ec, .int .i64 f.jump.x, .int .i64 f.jump.y, .int .i64 f.jump.z, .slice q.ca f.cuts.length q.cc, .slice ta tn tc] 112)).heap.size (w.alloc (.cells #[.int .i64 ver, .slice ab bars.length cb, .slice ap np cp, .slice an nn cn, .int .i64 f.bars, .slice q.ra f.reps.length q.rc, .slice q.ea f.ends.length q.ec, .int .i64 f.jump.x, .int .i64 f.jump.y, .int .i64 f.jump.z, .slice q.ca f.cuts.length q.cc, .slice ta tn tc] 112)) V) => CloneCu_any q.ca q.cc f.cuts V (by have := hf.cuts; omega) hq.okc ((hq.cuts.below hb1).below hV))
 clear hf hq
 have hs1 := Qc hs hb1
 have hw1 : (w.alloc (.cells #[.int .i64 ver, .slice ab bars.length cb, .slice ap np cp, .slice an nn cn, .int .i64 f.bars, .slice q.ra f.reps.length q.rc, .slice q.ea f.ends.length q.ec, .int .i64 f.jump.x, .int .i64 f.jump.y, .int .i64 f.jump.z, .slice q.ca f.cuts.length q.cc, .slice ta tn tc] 112)).heap.size = w.heap.size + 1 := by simp
 go_enter Tryz.func158, Tryz.ntmps158
 have hc0 := Qb (heap_alloc_new w (.cells #[.int .i64 ver, .slice ab bars.length cb, .slice ap np cp, .slice an nn cn, .int .i64 f.bars, .slice q.ra f.reps.length q.rc, .slice q.ea f.ends.length q.ec, .int .i64 f.jump.x, .int .i64 f.jump.y, .int .i64 f.jump.z, .slice q.ca f.cuts.length q.cc, .slice ta tn tc] 112))
 have hWB := Qg (w := w.alloc (.cells #[.int .i64 ver, .slice ab bars.length cb, .slice ap np cp, .slice an nn cn, .int .i64 f.bars, .slice q.ra f.reps.length q.rc, .slice q.ea f.ends.length q.ec, .int .i64 f.jump.x, .int .i64 f.jump.y, .int .i64 f.jump.z, .slice q.ca f.cuts.length q.cc, .slice ta tn tc] 112)) (.cells #[.int .i64 f.bars, .slice q.ra f.reps.length q.rc, .slice q.ea f.ends.length q.ec, .int .i64 f.jump.x, .int .i64 f.jump.y, .int .i64 f.jump.z, .slice q.ca f.cuts.length q.cc] 109)
 go_upto_region 2 with (fail)
 rw [hw1] at HR HE HC hWB
 generalize w.alloc (.cells #[.int .i64 ver, .slice ab bars.length cb, .slice ap np cp, .slice an nn cn, .int .i64 f.bars, .slice q.ra f.reps.length q.rc, .slice q.ea f.ends.length q.ec, .int .i64 f.jump.x, .int .i64 f.jump.y, .int .i64 f.jump.z, .slice q.ca f.cuts.length q.cc, .slice ta tn tc] 112) = w1 at *
 generalize w1.alloc (.cells #[.int .i64 f.bars, .slice q.ra f.reps.length q.rc, .slice q.ea f.ends.length q.ec, .int .i64 f.jump.x, .int .i64 f.jump.y, .int .i64 f.jump.z, .slice q.ca f.cuts.length q.cc] 109) = W at *
 clear hc0
 refine wp_region_noPanic ?_
 refine wp_region_held_drew (S := fun _ => True) (by kernel_rfl) trivial (fun hHeld => ?_)
 (refine tq 0 ?_ (y := fun _ hSw => by go_simp; try rfl))
 (refine tq 3 ?_ (y := fun _ hSw => by go_simp; try rfl))
 (refine tq 6 ?_ (y := fun _ hSw => by go_simp; try rfl))
 refine Yn [1, 2, 4, 5, 7, 8, 9, 10, 11, 12, 13, 14] (fun _ D a v => ∃ x4 x5 x7 x8 x10 x11 x12 x13 x14, a = { tmps := #[.pointer (some ⟨s, 0, none⟩), .agg #[.int .i64 ver, .slice ab bars.length cb, .slice ap np cp, .slice an nn cn, .int .i64 f.bars, .slice q.ra f.reps.length q.rc, .slice q.ea f.ends.length q.ec, .int .i64 f.jump.x, .int .i64 f.jump.y, .int .i64 f.jump.z, .slice q.ca f.cuts.length q.cc, .slice ta tn tc], undef, .pointer (some ⟨w.heap.size, 0, none⟩), .pointer (some ⟨w.heap.size + 1, 0, none⟩), .pointer (some ⟨w.heap.size, 4, none⟩), .agg #[.int .i64 f.bars, .slice q.ra f.reps.length q.rc, .slice q.ea f.ends.length q.ec, .int .i64 f.jump.x, .int .i64 f.jump.y, .int .i64 f.jump.z, .slice q.ca f.cuts.length q.cc], .pointer (some ⟨w.heap.size + 1, 1, none⟩), x4, x5, .pointer (some ⟨w.heap.size + 1, 2, none⟩), x7, x8, .pointer (some ⟨w.heap.size + 1, 6, none⟩), x10, x11, x12, x13, x14, undef, undef, undef, undef, undef, undef, undef, undef], defers := [] } ∧ CpT f q w1 W.heap.size (w.heap.size + 1) D x4 x5 x7 x8 x10 x11 x12 x13 x14 v) (by kernel_rfl) rfl rfl (by kernel_rfl) ?_ ?_ ?_ ?_
 ·refine ⟨_, _, _, _, _, _, _, _, _, rfl, ?_⟩
  exact ⟨fun h => absurd h (by decide), fun h => absurd h (by decide), fun h => absurd h (by decide), fun h => absurd h (by decide), fun h => absurd h (by decide), fun h => absurd h (by decide), fun h => absurd h (by decide), fun h => absurd h (by decide), fun h => absurd h (by decide), fun h => absurd h (by decide), fun h => absurd h (by decide), fun h => absurd h (by decide), fun h => absurd h (by decide), fun h => absurd h (by decide), x2, hWB.drew, Nat.le_refl _⟩
 ·intro D b1 v _
  trivial
 ·rintro D b1 v ⟨x4, x5, x7, x8, x10, x11, x12, x13, x14, rfl, j⟩
  have hB1 : w.heap.size + 1 < W.heap.size := Qd x2
  refine sc (fun hd hdep => ?_) ?_
  ·have hbx := j.fresh (Qv (fun h => (j.s10 h).2.1) hd)
   have hc := Qb hbx
   clear hdep
   intro K hK
   (try simp only [Act.put, List.setIfInBounds_toArray, List.set_cons_zero, List.set_cons_succ])
   go_simp
   exact hK.out _ _ ⟨_, x5, x7, x8, x10, x11, x12, x13, x14, rfl, j.t1⟩
  refine sc (fun hd hdep => ?_) ?_
  ·obtain rfl := j.l1 (hdep ⟨1, .data⟩ (by simp) rfl)
   clear hdep
   intro K hK
   (try simp only [Act.put, List.setIfInBounds_toArray, List.set_cons_zero, List.set_cons_succ])
   go_simp
   refine (HR.out _ j.below).mono ?_
   rintro e w8 ⟨u, rfl, ho, hbb⟩
   go_simp
   exact hK.out _ _ ⟨_, _, x7, x8, x10, x11, x12, x13, x14, rfl, j.t2 hB1 hd ho hbb⟩
  refine sc (fun hd hdep => ?_) ?_
  ·have hbx := j.fresh (Qv (fun h => (j.s10 h).2.2.1) hd)
   have hc := Qb hbx
   clear hdep
   intro K hK
   (try simp only [Act.put, List.setIfInBounds_toArray, List.set_cons_zero, List.set_cons_succ])
   go_simp
   exact hK.out _ _ ⟨x4, x5, _, x8, x10, x11, x12, x13, x14, rfl, j.t4⟩
  refine sc (fun hd hdep => ?_) ?_
  ·obtain rfl := j.l4 (hdep ⟨4, .data⟩ (by simp) rfl)
   have hg := hdep ⟨2, .chain⟩ (by simp) rfl
   clear hdep
   intro K hK
   (try simp only [Act.put, List.setIfInBounds_toArray, List.set_cons_zero, List.set_cons_succ])
   go_simp
   refine (HE.out _ j.below).mono ?_
   rintro e w8 ⟨u, rfl, ho, hbb⟩
   go_simp
   exact hK.out _ _ ⟨x4, x5, _, _, x10, x11, x12, x13, x14, rfl, j.t5 hB1 hd hg ho hbb⟩
  refine sc (fun hd hdep => ?_) ?_
  ·have hbx := j.fresh (Qv (fun h => (j.s10 h).2.2.2) hd)
   have hc := Qb hbx
   clear hdep
   intro K hK
   (try simp only [Act.put, List.setIfInBounds_toArray, List.set_cons_zero, List.set_cons_succ])
   go_simp
   exact hK.out _ _ ⟨x4, x5, x7, x8, _, x11, x12, x13, x14, rfl, j.t7⟩
  refine sc (fun hd hdep => ?_) ?_
  ·obtain rfl := j.l7 (hdep ⟨7, .data⟩ (by simp) rfl)
   have hg := hdep ⟨5, .chain⟩ (by simp) rfl
   clear hdep
   intro K hK
   (try simp only [Act.put, List.setIfInBounds_toArray, List.set_cons_zero, List.set_cons_succ])
   go_simp
   refine (HC.out _ j.below).mono ?_
   rintro e w8 ⟨u, rfl, ho, hbb⟩
   go_simp
   exact hK.out _ _ ⟨x4, x5, x7, x8, _, _, x12, x13, x14, rfl, j.t8 hB1 hd hg ho hbb⟩
  refine sc (fun hd hdep => ?_) ?_
  ·clear hdep
   intro K hK
   (try simp only [Act.put, List.setIfInBounds_toArray, List.set_cons_zero, List.set_cons_succ])
   go_simp
   exact hK.out _ _ ⟨x4, x5, x7, x8, x10, x11, _, x13, x14, rfl, j.t9⟩
  refine sc (fun hd hdep => ?_) ?_
  ·obtain rfl := j.p9 (hdep ⟨9, .data⟩ (by simp) rfl)
   obtain ⟨a9, c9, e9, _, _⟩ := (j.c2 (hdep ⟨2, .data⟩ (by simp) rfl)).slAt
   have h8 := (⟨hdep ⟨8, .chain⟩ (by simp) rfl, hdep ⟨1, .phase⟩ (by simp) rfl, hdep ⟨4, .phase⟩ (by simp) rfl, hdep ⟨7, .phase⟩ (by simp) rfl⟩ : D 8 = true ∧ D 1 = true ∧ D 4 = true ∧ D 7 = true)
   rw [List.length_map] at e9
   subst e9
   have hc := Qb j.box; have hf := Qe j.box; have hz := Qd j.box
   clear hdep
   intro K hK
   (try simp only [Act.put, List.setIfInBounds_toArray, List.set_cons_zero, List.set_cons_succ])
   go_simp
   exact hK.out _ _ ⟨x4, _, x7, x8, x10, x11, _, x13, x14, rfl, j.t10 hB1 hd h8⟩
  refine sc (fun hd hdep => ?_) ?_
  ·clear hdep
   intro K hK
   (try simp only [Act.put, List.setIfInBounds_toArray, List.set_cons_zero, List.set_cons_succ])
   go_simp
   exact hK.out _ _ ⟨x4, x5, x7, x8, x10, x11, x12, _, x14, rfl, j.t11⟩
  refine sc (fun hd hdep => ?_) ?_
  ·obtain rfl := j.p11 (hdep ⟨11, .data⟩ (by simp) rfl)
   obtain ⟨a9, c9, e9, _, _⟩ := (j.c5 (hdep ⟨5, .data⟩ (by simp) rfl)).slAt
   have h8 := hdep ⟨10, .chain⟩ (by simp) rfl
   rw [List.length_map] at e9
   subst e9
   have hc := Qb j.box; have hf := Qe j.box; have hz := Qd j.box
   clear hdep
   intro K hK
   (try simp only [Act.put, List.setIfInBounds_toArray, List.set_cons_zero, List.set_cons_succ])
   go_simp
   exact hK.out _ _ ⟨x4, x5, x7, _, x10, x11, x12, _, x14, rfl, j.t12 hB1 hd h8⟩
  refine sc (fun hd hdep => ?_) ?_
  ·clear hdep
   intro K hK
   (try simp only [Act.put, List.setIfInBounds_toArray, List.set_cons_zero, List.set_cons_succ])
   go_simp
   exact hK.out _ _ ⟨x4, x5, x7, x8, x10, x11, x12, x13, _, rfl, j.t13⟩
  refine sc (fun hd hdep => ?_) ?_
  ·obtain rfl := j.p13 (hdep ⟨13, .data⟩ (by simp) rfl)
   obtain ⟨a9, c9, e9, _, _⟩ := (j.c8 (hdep ⟨8, .data⟩ (by simp) rfl)).slAt
   have h8 := hdep ⟨12, .chain⟩ (by simp) rfl
   rw [List.length_map] at e9
   subst e9
   have hc := Qb j.box; have hf := Qe j.box; have hz := Qd j.box
   clear hdep
   intro K hK
   (try simp only [Act.put, List.setIfInBounds_toArray, List.set_cons_zero, List.set_cons_succ])
   go_simp
   exact hK.out _ _ ⟨x4, x5, x7, x8, x10, _, x12, x13, _, rfl, j.t14 hB1 hd h8⟩
  exact StepAll.nil
 ·rintro D b1 v hall ⟨x4, x5, x7, x8, x10, x11, x12, x13, x14, rfl, j⟩
  have hB1 : w.heap.size + 1 < W.heap.size := Qd x2
  have h5 := j.c2 (hall 2 (by simp)); have h8 := j.c5 (hall 5 (by simp)); have h11 := j.c8 (hall 8 (by simp))
  have hbx := j.box
  rw [hall 10 (by simp), hall 12 (by simp), hall 14 (by simp)] at hbx
  replace hbx : v.heap[w.heap.size + 1]? = some (.cells #[.int .i64 f.bars, x5, x8, .int .i64 f.jump.x, .int .i64 f.jump.y, .int .i64 f.jump.z, x11] 109) := hbx
  have hsz := j.size; have hbl := j.below
  obtain ⟨a5, c5, e5, _, _⟩ := h5.slAt
  rw [List.length_map] at e5
  subst e5
  obtain ⟨a8, c8, e8, _, _⟩ := h8.slAt
  rw [List.length_map] at e8
  subst e8
  obtain ⟨a11, c11, e11, _, _⟩ := h11.slAt
  rw [List.length_map] at e11
  subst e11
  (try simp only [Act.put, List.setIfInBounds_toArray, List.set_cons_zero, List.set_cons_succ])
  refine NoPanic.normal ?_
  have hy1 : v.heap[w.heap.size]? = some (.cells #[.int .i64 ver, .slice ab bars.length cb, .slice ap np cp, .slice an nn cn, .int .i64 f.bars, .slice q.ra f.reps.length q.rc, .slice q.ea f.ends.length q.ec, .int .i64 f.jump.x, .int .i64 f.jump.y, .int .i64 f.jump.z, .slice q.ca f.cuts.length q.cc, .slice ta tn tc] 112) := (hbl.block _ (by omega)).trans (by rw [← hWB.block _ (by omega)]; exact x1)
  have hys : v.heap[s]? = some (.cells #[o0, o1, o2, o3, o4, o5, o6, o7, o8, wv] 179) := (hbl.block _ (by omega)).trans hs1
  have hc := Qb hbx; have hd := Qb hy1; have hcs := Qb hys; have hfs := Qe hys; have hzs := Qd hys
  have hbw : Below w.heap.size w v := hb1.trans (hbl.mono (by omega))
  clear x1 x2 hHeld j hall
  go_wp2
  go_end0
  have p1 := h5.set9 (b := s) (by omega) (.int .i64 ver) (.int .i64 f.bars) (.slice a5 f.reps.length c5) (.slice a8 f.ends.length c8) (.int .i64 f.jump.x) (.int .i64 f.jump.y) (.int .i64 f.jump.z) (.slice a11 f.cuts.length c11) (.slice none 0 0)
  have p2 := h8.set9 (b := s) (by omega) (.int .i64 ver) (.int .i64 f.bars) (.slice a5 f.reps.length c5) (.slice a8 f.ends.length c8) (.int .i64 f.jump.x) (.int .i64 f.jump.y) (.int .i64 f.jump.z) (.slice a11 f.cuts.length c11) (.slice none 0 0)
  have p3 := h11.set9 (b := s) (by omega) (.int .i64 ver) (.int .i64 f.bars) (.slice a5 f.reps.length c5) (.slice a8 f.ends.length c8) (.int .i64 f.jump.x) (.int .i64 f.jump.y) (.int .i64 f.jump.z) (.slice a11 f.cuts.length c11) (.slice none 0 0)
  exact ⟨⟨_, rfl⟩, ⟨a5, c5, a8, c8, a11, c11⟩, ⟨set9_at hys _ _ _ _ _ _ _ _ _, ⟨p1.r3.2, p2.r3.2, p3.r3.2, p1.r3.1, p2.r3.1, p3.r3.1⟩, SlAt.nil _ _ _, SlOk.nil, ⟨p1.newB (by omega), p2.newB (by omega), p3.newB (by omega)⟩, fun ad e => (by cases e)⟩, Yq (KeepB.of_below' hbw) _ _ _ _ _ _ _ _ _⟩
end Go.Proofs.YtajijcfikihhjaaGreatDoor
namespace Go.Proofs.YtajijcfikihhjaaGreatDoor
open Go.RowKit Go.Sort Go.Shelf
def wkV (x : Wk × Wp) : Value := .agg #[.int .i64 (x.1).ver, .slice (x.2).ab (x.1).bars.length (x.2).cb, .slice (x.2).ap (x.2).np (x.2).cp, .slice (x.2).an (x.2).nn (x.2).cn, .int .i64 (x.1).f.bars, .slice (x.2).q.ra (x.1).f.reps.length (x.2).q.rc, .slice (x.2).q.ea (x.1).f.ends.length (x.2).q.ec, .int .i64 (x.1).f.jump.x, .int .i64 (x.1).f.jump.y, .int .i64 (x.1).f.jump.z, .slice (x.2).q.ca (x.1).f.cuts.length (x.2).q.cc, .slice (x.2).ta (x.2).tn (x.2).tc]
def WlAt (w : World) (a : Option Addr) (l : List (Wk × Wp)) : Prop := SlAt w a 12 (l.map JW)
theorem WlAt.get {w : World} {a : Option Addr} {l : List (Wk × Wp)} (h : WlAt w a l) (i : Nat) (hi : i < l.length) : ∃ b off, a = some ⟨b, off, none⟩ ∧ b < w.heap.size ∧ w.cell? ⟨b, off + i * 12, none⟩ = some (.int .i64 l[i].1.ver) ∧ w.cell? ⟨b, off + i * 12 + 1, none⟩ = some (.slice l[i].2.ab l[i].1.bars.length l[i].2.cb) ∧ w.cell? ⟨b, off + i * 12 + 2, none⟩ = some (.slice l[i].2.ap l[i].2.np l[i].2.cp) ∧ w.cell? ⟨b, off + i * 12 + 3, none⟩ = some (.slice l[i].2.an l[i].2.nn l[i].2.cn) ∧ w.cell? ⟨b, off + i * 12 + 4, none⟩ = some (.int .i64 l[i].1.f.bars) ∧ w.cell? ⟨b, off + i * 12 + 5, none⟩ = some (.slice l[i].2.q.ra l[i].1.f.reps.length l[i].2.q.rc) ∧ w.cell? ⟨b, off + i * 12 + 6, none⟩ = some (.slice l[i].2.q.ea l[i].1.f.ends.length l[i].2.q.ec) ∧ w.cell? ⟨b, off + i * 12 + 7, none⟩ = some (.int .i64 l[i].1.f.jump.x) ∧ w.cell? ⟨b, off + i * 12 + 8, none⟩ = some (.int .i64 l[i].1.f.jump.y) ∧ w.cell? ⟨b, off + i * 12 + 9, none⟩ = some (.int .i64 l[i].1.f.jump.z) ∧ w.cell? ⟨b, off + i * 12 + 10, none⟩ = some (.slice l[i].2.q.ca l[i].1.f.cuts.length l[i].2.q.cc) ∧ w.cell? ⟨b, off + i * 12 + 11, none⟩ = some (.slice l[i].2.ta l[i].2.tn l[i].2.tc) := by
 obtain ⟨b, off, e, hb, _, hc⟩ := h i (JW l[i]) (by simp [hi])
 exact ⟨b, off, e, hb, hc 0 _ rfl, hc 1 _ rfl, hc 2 _ rfl, hc 3 _ rfl, hc 4 _ rfl, hc 5 _ rfl, hc 6 _ rfl, hc 7 _ rfl, hc 8 _ rfl, hc 9 _ rfl, hc 10 _ rfl, hc 11 _ rfl⟩
theorem WlAt.below {w w' : World} {a : Option Addr} {l : List (Wk × Wp)} (h : WlAt w a l) (hb : Below w.heap.size w w') : WlAt w' a l := SlAt.below h hb
theorem IndexW_any (g : Nat) (caps : Array Value) (eg : ∀ args w, (callFunc g args).run Tryz.prog w = .ok (.enter g args) w) (B : Nat) (p : (Wk × Wp) → Bool) (a : Option Addr) (cap : Nat) (ds : List (Wk × Wp)) (w : World) (hl : ds.length ≤ 100000) (hp : JS wkV g caps p ds B w) (hB : B ≤ w.heap.size) (hm : WlAt w a ds) :
  Calls Tryz.prog 142 #[.slice a ds.length cap, .func (.func g) #[] caps] w fun e w' => e = .returned (.int .i64 (idxO p ds)) ∧ RowKit.Below w.heap.size w w' := by
 have HM := Qa hm; have HP := Qa hp
 clear hm hp
 go_enter Tryz.func142, Tryz.ntmps142
 go_wp2
 go_loopw [8] (fun i wr => ∃ k : Nat, k ≤ ds.length ∧ i = .int .i64 k ∧ (∀ j (hj : j < ds.length), j < k → p ds[j] = false) ∧ RowKit.Below w.heap.size w wr) (fun i _ => ds.length - (intOf i).toNat)
 case atStart => exact ⟨0, Nat.zero_le _, rfl, fun j hj h => by omega, RowKit.Below.refl _ _⟩
 case round =>
  obtain ⟨k, hk, rfl, hall, hb⟩ := hrel
  have HA := Qa hall; have HB := Qa hb
  clear hall hb
  by_cases hlt : k < ds.length
  ·obtain ⟨b, off, rfl, _, e0, e1, e2, e3, e4, e5, e6, e7, e8, e9, e10, e11⟩ := HM.out.get k hlt
   have g0 := Qq e0 HB.out; have g1 := Qq e1 HB.out; have g2 := Qq e2 HB.out; have g3 := Qq e3 HB.out; have g4 := Qq e4 HB.out; have g5 := Qq e5 HB.out; have g6 := Qq e6 HB.out; have g7 := Qq e7 HB.out; have g8 := Qq e8 HB.out; have g9 := Qq e9 HB.out; have g10 := Qq e10 HB.out; have g11 := Qq e11 HB.out
   clear e0 e1 e2 e3 e4 e5 e6 e7 e8 e9 e10 e11
   have HPk := Qa (HP.out ds[k] (List.getElem_mem _) wr (HB.out.mono hB))
   have HT := Qa (fun h : p ds[k] = true => Zv hlt h HA.out)
   have HF := Qa (fun h : p ds[k] = false => (fun j (hj : j < ds.length) (hjk : j < k + 1) => if e : j = k then by subst e; exact h else HA.out j hj (by omega) : ∀ j (hj : j < ds.length), j < k + 1 → p ds[j] = false))
   generalize ds[k] = d at *
   have hcall := HPk.out
   unfold wkV at hcall
   cases hpd : p d
   ·rw [hpd] at hcall
    go_wp2_with (go_at_fn g; refine hcall.mono ?_; rintro e w' ⟨rfl, hb'⟩; replace HB := Qa (HB.out.trans (hb'.mono HB.out.size)))
    go_roundw
    case rel => exact ⟨k + 1, by omega, by go_num, HF.out hpd, HB.out⟩
    case measure => simp [intOf]; omega
   ·rw [hpd] at hcall
    have HT2 := Qa (HT.out hpd)
    go_wp2_with (go_at_fn g; refine hcall.mono ?_; rintro e w' ⟨rfl, hb'⟩; replace HB := Qa (HB.out.trans (hb'.mono HB.out.size)))
    go_ret
    exact ⟨QK HT2.out.symm, HB.out⟩
  ·have HT2 := Qa (Q0 fun j hj => HA.out j hj (by omega))
   go_wp2
   go_ret
   exact ⟨QK HT2.out.symm, HB.out⟩
theorem YZ (l : List (Wk × Wp)) (v : Int) : (∃ k, ∃ hk : k < l.length, idxO (fun y : Wk × Wp => decide (y.1.ver = v)) l = k ∧ Zk (Qk l) v = some l[k].1) ∨ (idxO (fun y : Wk × Wp => decide (y.1.ver = v)) l = -1 ∧ Zk (Qk l) v = none) := by
 unfold Zk Qk
 rw [List.find?_map]
 cases h : l.findIdx? (fun y : Wk × Wp => decide (y.1.ver = v)) with
 | none =>
  right
  have h' := h
  rw [List.findIdx?_eq_none_iff] at h
  refine ⟨by simp [idxO, h'], ?_⟩
  rw [show l.find? ((fun x : Wk => decide (x.ver = v)) ∘ Prod.fst) = none from List.find?_eq_none.2 fun x hx => by simpa using h x hx]; rfl
 | some k =>
  left
  obtain ⟨hk, h1, h2⟩ := List.findIdx?_eq_some_iff_getElem.1 h
  refine ⟨k, hk, by simp [idxO, h], ?_⟩
  have : l.find? ((fun x : Wk => decide (x.ver = v)) ∘ Prod.fst) = some l[k] := by
   rw [List.find?_eq_some_iff_getElem]
   exact ⟨h1, k, hk, rfl, fun j hj => by have := h2 j hj; simpa using this⟩
  rw [this]; rfl
theorem version1_any (x : Wk × Wp) (d : De) (b : Nat) (w : World) (h : w.heap[b]? = some (.cells #[.int .i64 d.num, .int .i64 d.time, .int .i64 d.kind, .int .i64 d.a, .int .i64 d.b, .int .i64 d.c] 207)) :
  Calls Tryz.prog 209 (#[wkV x] ++ #[.pointer (some ⟨b, 0, none⟩)]) w fun e w' => e = .returned (.bool (decide (x.1.ver = d.a))) ∧ Below w.heap.size w w' := by
 unfold wkV
 obtain ⟨x, p⟩ := x
 have HX := Qa (Qj h (.cells #[.int .i64 x.ver, .slice p.ab x.bars.length p.cb, .slice p.ap p.np p.cp, .slice p.an p.nn p.cn, .int .i64 x.f.bars, .slice p.q.ra x.f.reps.length p.q.rc, .slice p.q.ea x.f.ends.length p.q.ec, .int .i64 x.f.jump.x, .int .i64 x.f.jump.y, .int .i64 x.f.jump.z, .slice p.q.ca x.f.cuts.length p.q.cc, .slice p.ta p.tn p.tc] 112))
 have HB := Qa (Qg (w := w) (.cells #[.int .i64 x.ver, .slice p.ab x.bars.length p.cb, .slice p.ap p.np p.cp, .slice p.an p.nn p.cn, .int .i64 x.f.bars, .slice p.q.ra x.f.reps.length p.q.rc, .slice p.q.ea x.f.ends.length p.q.ec, .int .i64 x.f.jump.x, .int .i64 x.f.jump.y, .int .i64 x.f.jump.z, .slice p.q.ca x.f.cuts.length p.q.cc, .slice p.ta p.tn p.tc] 112))
 have HN := Qa (heap_alloc_new w (.cells #[.int .i64 x.ver, .slice p.ab x.bars.length p.cb, .slice p.ap p.np p.cp, .slice p.an p.nn p.cn, .int .i64 x.f.bars, .slice p.q.ra x.f.reps.length p.q.rc, .slice p.q.ea x.f.ends.length p.q.ec, .int .i64 x.f.jump.x, .int .i64 x.f.jump.y, .int .i64 x.f.jump.z, .slice p.q.ca x.f.cuts.length p.q.cc, .slice p.ta p.tn p.tc] 112))
 clear h
 go_enter Tryz.func209, Tryz.ntmps209
 go_upto_region 1 with (fail)
 have hc := Qb HX.out; have hd := Qb HN.out
 generalize w.alloc (.cells #[.int .i64 x.ver, .slice p.ab x.bars.length p.cb, .slice p.ap p.np p.cp, .slice p.an p.nn p.cn, .int .i64 x.f.bars, .slice p.q.ra x.f.reps.length p.q.rc, .slice p.q.ea x.f.ends.length p.q.ec, .int .i64 x.f.jump.x, .int .i64 x.f.jump.y, .int .i64 x.f.jump.z, .slice p.q.ca x.f.cuts.length p.q.cc, .slice p.ta p.tn p.tc] 112) = W at *
 go_wp2
 go_ret
 exact ⟨Qf rfl, HB.out⟩
def YE (p : Rm × Int) (s : Nat) (wv : Value) (w : World) (e : Ending) (w' : World) : Prop :=
 e = .returned (.int .i64 p.2) ∧ ∃ q' oa' oc', StAt w' s p.1 q' oa' oc' wv ∧ KeepB w.heap.size [s] w w'
theorem version_any (s : Nat) (x : De) (r : Rm) (q : Fp) (oa : Option Addr) (oc : Nat) (wa : Option Addr) (wc : Nat) (l : List (Wk × Wp)) (w0 w : World) (hw : WsAt w0 wa l) (hB : Below w0.heap.size w0 w) (hl : l.length ≤ 1000) (hfew : ∀ y ∈ l, FoFew y.1.f) (h : StAt w s r q oa oc (.slice wa l.length wc)) :
  Calls Tryz.prog 161 #[.pointer (some ⟨s, 0, none⟩), .agg #[.int .i64 x.num, .int .i64 x.time, .int .i64 x.kind, .int .i64 x.a, .int .i64 x.b, .int .i64 x.c]] w (YE (verR (Qk l) r x) s (.slice wa l.length wc) w) := by
 have hb := Qg (w := w) (.cells #[.int .i64 x.num, .int .i64 x.time, .int .i64 x.kind, .int .i64 x.a, .int .i64 x.b, .int .i64 x.c] 207)
 have HX := Qa (heap_alloc_new w (.cells #[.int .i64 x.num, .int .i64 x.time, .int .i64 x.kind, .int .i64 x.a, .int .i64 x.b, .int .i64 x.c] 207))
 have HS := Qa (h.below hb)
 have HB := Qa hb
 have HB0 := Qa (hB.trans (hb.mono hB.size))
 have hsl := Qd h.box
 have HW := Qa hw
 clear hb h hB hw
 go_enter Tryz.func161, Tryz.ntmps161
 go_upto_region 1 with (fail)
 generalize w.alloc (.cells #[.int .i64 x.num, .int .i64 x.time, .int .i64 x.kind, .int .i64 x.a, .int .i64 x.b, .int .i64 x.c] 207) = W at *
 have hc := Qb HX.out
 by_cases h0 : ¬ x.b = 0
 ·have HR := Qa (show verR (Qk l) r x = (r, 1) from if_pos (.inl h0))
  go_upto_region 2 with (fail)
  go_wp2
  go_ret
  rw [HR.out]
  exact ⟨rfl, _, _, _, HS.out, KeepB.of_below' HB.out⟩
 have h0 : x.b = 0 := by omega
 by_cases h1 : ¬ x.c = 0
 ·have HR := Qa (show verR (Qk l) r x = (r, 1) from if_pos (.inr h1))
  go_upto_region 2 with (fail)
  go_wp2
  go_ret
  rw [HR.out]
  exact ⟨rfl, _, _, _, HS.out, KeepB.of_below' HB.out⟩
 have h1 : x.c = 0 := by omega
 have HV := Qa (show verR (Qk l) r x = (match Zk (Qk l) x.a with | none => (r, 4) | some y => (⟨y.ver, y.f, []⟩, 0)) from if_neg (by omega))
 have hcs := Qb HS.out.box
 have HI := Qa (fun V (hV : Below W.heap.size W V) => IndexW_any 209 #[.pointer (some ⟨w.heap.size, 0, none⟩)] (enters_of Tryz.func209 (by kernel_rfl) rfl) W.heap.size (fun y => decide (y.1.ver = x.a)) wa wc l V (by omega) (fun d _ V' hV' => version1_any d x w.heap.size V' ((hV'.block _ (Qd HX.out)).trans ((hV.block _ (Qd HX.out)).trans HX.out))) hV.size ((HW.out.below (HB0.out.trans (hV.mono HB0.out.size))).rows))
 go_upto_region 4 with (go_at_call 142; refine (HI.out _ (Below.refl _ _)).mono ?_; rintro e w5 ⟨rfl, hb5⟩)
 have HS5 := Qa (HS.out.below hb5)
 have HB5 := bu HB hb5
 have HB05 := bu HB0 hb5
 clear hc hcs hb5 HI
 have hcs := Qb HS5.out.box
 rcases YZ l x.a with ⟨k, hk, e1, e2⟩ | ⟨e1, e2⟩
 ·rw [e1]
  rw [e2] at HV
  have hk0 : (0 : Int) ≤ (k : Int) := by omega
  have hk1 : (k : Int) < (l.length : Int) := by omega
  obtain ⟨b, off, ea, _, d0, d1, d2, d3, d4, d5, d6, d7, d8, d9, d10, d11⟩ := WlAt.get (HW.out.below HB05.out).rows k hk
  have HT := Qa (fun V (hV : Below w5.heap.size w5 V) => take_any s l[k].1 l[k].2 (.int .i64 r.ver) (.int .i64 r.f.bars) (.slice q.ra r.f.reps.length q.rc) (.slice q.ea r.f.ends.length q.ec) (.int .i64 r.f.jump.x) (.int .i64 r.f.jump.y) (.int .i64 r.f.jump.z) (.slice q.ca r.f.cuts.length q.cc) (.slice oa r.oss.length oc) (.slice wa l.length wc) V (hfew _ (List.getElem_mem hk)) ((HW.out.below (HB05.out.trans (hV.mono HB05.out.size))).forms _ (List.getElem_mem hk)) ((HS5.out.below hV).box))
  subst ea
  clear e1 e2
  go_wp2_with (go_at_call 158; refine (HT.out _ (Below.refl _ _)).mono ?_; rintro e w6 ⟨⟨v6, rfl⟩, q6, h6, hk6⟩)
  go_ret
  rw [HV.out]
  exact ⟨rfl, _, _, _, h6, KeepB.trans (KeepB.of_below' HB5.out) (hk6.weaken HB5.out.size (fun k hk _ => hk))⟩
 ·rw [e1]
  rw [e2] at HV
  clear e1 e2
  go_wp2
  go_ret
  rw [HV.out]
  exact ⟨rfl, _, _, _, HS5.out, KeepB.of_below' HB5.out⟩
end Go.Proofs.YtajijcfikihhjaaGreatDoor
namespace Go.Proofs.YtajijcfikihhjaaGreatDoor
open Go.RowKit Go.Sort Go.Shelf
abbrev setF (v : World) (b : Nat) (a1 a2 a3 a4 a5 a6 a7 : Value) : World := ((((((v.setCell ⟨b, 1, none⟩ a1).setCell ⟨b, 2, none⟩ a2).setCell ⟨b, 3, none⟩ a3).setCell ⟨b, 4, none⟩ a4).setCell ⟨b, 5, none⟩ a5).setCell ⟨b, 6, none⟩ a6).setCell ⟨b, 7, none⟩ a7
theorem setF_at {v : World} {b : Nat} {T : TypeId} {c0 c1 c2 c3 c4 c5 c6 c7 c8 c9 : Value} (h : v.heap[b]? = some (.cells #[c0, c1, c2, c3, c4, c5, c6, c7, c8, c9] T (0, 0))) (a1 a2 a3 a4 a5 a6 a7 : Value) : (setF v b a1 a2 a3 a4 a5 a6 a7).heap[b]? = some (.cells #[c0, a1, a2, a3, a4, a5, a6, a7, c8, c9] T (0, 0)) := by
 unfold setF
 replace h : (v.setCell ⟨b, 1, none⟩ a1).heap[b]? = some (.cells #[c0, a1, c2, c3, c4, c5, c6, c7, c8, c9] T (0, 0)) := heap_setCell_same v b 1 _ _ a1 h
 generalize v.setCell ⟨b, 1, none⟩ a1 = v at *
 replace h : (v.setCell ⟨b, 2, none⟩ a2).heap[b]? = some (.cells #[c0, a1, a2, c3, c4, c5, c6, c7, c8, c9] T (0, 0)) := heap_setCell_same v b 2 _ _ a2 h
 generalize v.setCell ⟨b, 2, none⟩ a2 = v at *
 replace h : (v.setCell ⟨b, 3, none⟩ a3).heap[b]? = some (.cells #[c0, a1, a2, a3, c4, c5, c6, c7, c8, c9] T (0, 0)) := heap_setCell_same v b 3 _ _ a3 h
 generalize v.setCell ⟨b, 3, none⟩ a3 = v at *
 replace h : (v.setCell ⟨b, 4, none⟩ a4).heap[b]? = some (.cells #[c0, a1, a2, a3, a4, c5, c6, c7, c8, c9] T (0, 0)) := heap_setCell_same v b 4 _ _ a4 h
 generalize v.setCell ⟨b, 4, none⟩ a4 = v at *
 replace h : (v.setCell ⟨b, 5, none⟩ a5).heap[b]? = some (.cells #[c0, a1, a2, a3, a4, a5, c6, c7, c8, c9] T (0, 0)) := heap_setCell_same v b 5 _ _ a5 h
 generalize v.setCell ⟨b, 5, none⟩ a5 = v at *
 replace h : (v.setCell ⟨b, 6, none⟩ a6).heap[b]? = some (.cells #[c0, a1, a2, a3, a4, a5, a6, c7, c8, c9] T (0, 0)) := heap_setCell_same v b 6 _ _ a6 h
 generalize v.setCell ⟨b, 6, none⟩ a6 = v at *
 replace h : (v.setCell ⟨b, 7, none⟩ a7).heap[b]? = some (.cells #[c0, a1, a2, a3, a4, a5, a6, a7, c8, c9] T (0, 0)) := heap_setCell_same v b 7 _ _ a7 h
 generalize v.setCell ⟨b, 7, none⟩ a7 = v at *
 exact h
theorem JG {n : Nat} {w v : World} {b : Nat} (h : KeepB n [b] w v) (a1 a2 a3 a4 a5 a6 a7 : Value) : KeepB n [b] w (setF v b a1 a2 a3 a4 a5 a6 a7) := ((((((h.set (p := ⟨b, 1, none⟩) (.inl (List.mem_singleton.2 rfl)) a1).set (p := ⟨b, 2, none⟩) (.inl (List.mem_singleton.2 rfl)) a2).set (p := ⟨b, 3, none⟩) (.inl (List.mem_singleton.2 rfl)) a3).set (p := ⟨b, 4, none⟩) (.inl (List.mem_singleton.2 rfl)) a4).set (p := ⟨b, 5, none⟩) (.inl (List.mem_singleton.2 rfl)) a5).set (p := ⟨b, 6, none⟩) (.inl (List.mem_singleton.2 rfl)) a6).set (p := ⟨b, 7, none⟩) (.inl (List.mem_singleton.2 rfl)) a7
theorem Jb (s : Nat) (r : Rm) (q : Fp) (oa : Option Addr) (oc : Nat) (wv : Value) (f' : Fo) (q' : Fp) (e : Int) (w : World) (h : StAt w s r q oa oc wv) (hf' : FoAt w f' q') (hne : FpNew q' (s + 1)) :
  Calls Tryz.prog 163 #[.pointer (some ⟨s, 0, none⟩), .agg #[.int .i64 f'.bars, .slice q'.ra f'.reps.length q'.rc, .slice q'.ea f'.ends.length q'.ec, .int .i64 f'.jump.x, .int .i64 f'.jump.y, .int .i64 f'.jump.z, .slice q'.ca f'.cuts.length q'.cc], .int .i64 e] w (YE (reform r (f', e)) s wv w) := by
 have hb := Qg (w := w) (.cells #[.int .i64 f'.bars, .slice q'.ra f'.reps.length q'.rc, .slice q'.ea f'.ends.length q'.ec, .int .i64 f'.jump.x, .int .i64 f'.jump.y, .int .i64 f'.jump.z, .slice q'.ca f'.cuts.length q'.cc] 109)
 have HX := Qa (heap_alloc_new w (.cells #[.int .i64 f'.bars, .slice q'.ra f'.reps.length q'.rc, .slice q'.ea f'.ends.length q'.ec, .int .i64 f'.jump.x, .int .i64 f'.jump.y, .int .i64 f'.jump.z, .slice q'.ca f'.cuts.length q'.cc] 109))
 have HS := Qa (h.below hb)
 have HF := Qa (hf'.below hb)
 have HB := Qa hb
 have hsl := Qd h.box
 clear hb h hf'
 go_enter Tryz.func163, Tryz.ntmps163
 go_upto_region 1 with (fail)
 generalize w.alloc (.cells #[.int .i64 f'.bars, .slice q'.ra f'.reps.length q'.rc, .slice q'.ea f'.ends.length q'.ec, .int .i64 f'.jump.x, .int .i64 f'.jump.y, .int .i64 f'.jump.z, .slice q'.ca f'.cuts.length q'.cc] 109) = W at *
 have hc := Qb HX.out; have hcs := Qb HS.out.box; have hfs := Qe HS.out.box; have hzs := Qd HS.out.box
 by_cases he : e = 0
 ·subst he
  go_wp2
  go_ret
  refine ⟨rfl, q', oa, oc, ⟨setF_at HS.out.box _ _ _ _ _ _ _, ?_, ?_, HS.out.oko, hne, HS.out.neo⟩, JG (KeepB.of_below' HB.out) _ _ _ _ _ _ _⟩
  ·exact FoAt.keepB HF.out (JG (KeepB.refl _ _ _) _ _ _ _ _ _ _) (hne.ne (Nat.lt_succ_self s))
  ·exact SlAt.keepB HS.out.oss (JG (KeepB.refl _ _ _) _ _ _ _ _ _ _) (fun ad e => by rw [List.mem_singleton]; have := HS.out.neo ad e; omega)
 ·have HR := Qa (show reform r (f', e) = (r, e) from if_neg he)
  go_wp2
  go_ret
  rw [HR.out]
  exact ⟨rfl, q, oa, oc, HS.out, KeepB.of_below' HB.out⟩
theorem do2_any (s bs bc : Nat) (x : De) (r : Rm) (q : Fp) (oa : Option Addr) (oc : Nat) (wv : Value) (w : World) (hf : FoFew r.f) (hs : StAt w s r q oa oc wv) (h1 : w.heap[bs]? = some (.cells #[.pointer (some ⟨s, 0, none⟩)] 174)) (h2 : w.heap[bc]? = some (.cells #[.int .i64 x.a, .int .i64 x.b, .int .i64 x.c] 186)) (hne1 : bs ≠ s) (hne2 : bc ≠ s) :
  Calls Tryz.prog 162 #[.pointer (some ⟨bs, 0, none⟩), .pointer (some ⟨bc, 0, none⟩)] w (YE (reform r (cutR r.f ⟨x.a, x.b, x.c⟩)) s wv w) := by
 have HS := Qa hs; have H1 := Qa h1; have H2 := Qa h2
 have hsl := Qd hs.box
 have HC := Qa (fun V (hV : Below w.heap.size w V) => rCut_any r.f q ⟨x.a, x.b, x.c⟩ V hf (hs.form.below hV))
 clear hs h1 h2 hf
 go_enter Tryz.func162, Tryz.ntmps162
 go_upto_region 1 with (fail)
 refine wp_region_held_drew (S := fun w' => w'.heap[bs]? = some (.cells #[.pointer (some ⟨s, 0, none⟩)] 174) ∧ w'.heap[bc]? = some (.cells #[.int .i64 x.a, .int .i64 x.b, .int .i64 x.c] 186)) (by kernel_rfl) ⟨H1.out, H2.out⟩ (fun hHeld => ?_)
 (refine tq 0 ?_ (y := fun _ hSw => by have hx := Qb hSw.1; have hy := Qb hSw.2; go_simp; try rfl))
 (refine tq 1 ?_ (y := fun _ hSw => by have hx := Qb hSw.1; have hy := Qb hSw.2; go_simp; try rfl))
 (refine tq 2 ?_ (y := fun _ hSw => by have hx := Qb hSw.1; have hy := Qb hSw.2; go_simp; try rfl))
 (refine tq 3 ?_ (y := fun _ hSw => by have hx := Qb hSw.1; have hy := Qb hSw.2; go_simp; try rfl))
 (refine tq 4 ?_ (y := fun _ hSw => by have hx := Qb hSw.1; have hy := Qb hSw.2; go_simp; try rfl))
 (refine tq 6 ?_ (y := fun _ hSw => by have hx := Qb hSw.1; have hy := Qb hSw.2; go_simp; try rfl))
 have hcs := Qb (show w.drew.heap[s]? = _ from HS.out.box)
 (refine tc 5 (fun K hK => ?_); go_simp)
 refine hK.out _ _ ⟨H1.out, H2.out⟩ (fun hHeld1 => ?_)
 clear hK K hHeld
 (refine tc 7 (fun K hK => ?_); go_simp)
 refine (HC.out _ (Below.refl _ _).drew).mono ?_; rintro e w2 ⟨q2, rfl, hf2, hb2, hn2⟩
 have HB2 := Qa (show Below w.heap.size w w2 from ((Below.refl _ _).drew).trans (hb2.mono (by simp)))
 have HS2 := Qa (HS.out.below HB2.out)
 have hne := FpNew.low hn2 (show s + 1 ≤ _ by simp; omega)
 go_simp
 refine hK.out _ _ ⟨Qc H1.out HB2.out, Qc H2.out HB2.out⟩ (fun hHeld2 => ?_)
 clear hK K hHeld1 hcs
 (refine tq 8 ?_ (y := fun _ hSw => by go_simp; try rfl))
 (refine tq 9 ?_ (y := fun _ hSw => by go_simp; try rfl))
 (refine tc 10 (fun K hK => ?_); go_simp)
 refine (Jb s r q oa oc wv _ q2 _ w2 HS2.out hf2 hne).mono ?_; rintro e w3 ⟨rfl, q3, oa3, oc3, hs3, hk3⟩
 go_simp
 refine hK.out _ _ ⟨(hk3.block _ (Qd hHeld2.1) (by simpa using hne1)).trans hHeld2.1, (hk3.block _ (Qd hHeld2.2) (by simpa using hne2)).trans hHeld2.2⟩ (fun hHeld3 => ?_)
 clear hK K hHeld2
 (refine tq 11 ?_ (y := fun _ hSw => by go_simp; try rfl))
 refine wpAnyH_done (by kernel_rfl) ?_ _
 go_wp2
 go_ret
 exact ⟨rfl, q3, oa3, oc3, hs3, KeepB.trans (KeepB.of_below' HB2.out) (hk3.weaken HB2.out.size (fun k hk _ => hk))⟩
theorem do3_any (s bs bc : Nat) (x : De) (r : Rm) (q : Fp) (oa : Option Addr) (oc : Nat) (wv : Value) (w : World) (hf : FoFew r.f) (hs : StAt w s r q oa oc wv) (h1 : w.heap[bs]? = some (.cells #[.pointer (some ⟨s, 0, none⟩)] 174)) (h2 : w.heap[bc]? = some (.cells #[.int .i64 x.a, .int .i64 x.b, .int .i64 x.c] 186)) (hne1 : bs ≠ s) (hne2 : bc ≠ s) :
  Calls Tryz.prog 165 #[.pointer (some ⟨bs, 0, none⟩), .pointer (some ⟨bc, 0, none⟩)] w (YE (reform r (Zj r.f ⟨x.a, x.b, x.c⟩)) s wv w) := by
 have HS := Qa hs; have H1 := Qa h1; have H2 := Qa h2
 have hsl := Qd hs.box
 have HC := Qa (fun V (hV : Below w.heap.size w V) => rOpen_any r.f q ⟨x.a, x.b, x.c⟩ V hf (hs.form.below hV))
 clear hs h1 h2 hf
 go_enter Tryz.func165, Tryz.ntmps165
 go_upto_region 1 with (fail)
 refine wp_region_held_drew (S := fun w' => w'.heap[bs]? = some (.cells #[.pointer (some ⟨s, 0, none⟩)] 174) ∧ w'.heap[bc]? = some (.cells #[.int .i64 x.a, .int .i64 x.b, .int .i64 x.c] 186)) (by kernel_rfl) ⟨H1.out, H2.out⟩ (fun hHeld => ?_)
 (refine tq 0 ?_ (y := fun _ hSw => by have hx := Qb hSw.1; have hy := Qb hSw.2; go_simp; try rfl))
 (refine tq 1 ?_ (y := fun _ hSw => by have hx := Qb hSw.1; have hy := Qb hSw.2; go_simp; try rfl))
 (refine tq 2 ?_ (y := fun _ hSw => by have hx := Qb hSw.1; have hy := Qb hSw.2; go_simp; try rfl))
 (refine tq 3 ?_ (y := fun _ hSw => by have hx := Qb hSw.1; have hy := Qb hSw.2; go_simp; try rfl))
 (refine tq 4 ?_ (y := fun _ hSw => by have hx := Qb hSw.1; have hy := Qb hSw.2; go_simp; try rfl))
 (refine tq 6 ?_ (y := fun _ hSw => by have hx := Qb hSw.1; have hy := Qb hSw.2; go_simp; try rfl))
 have hcs := Qb (show w.drew.heap[s]? = _ from HS.out.box)
 (refine tc 5 (fun K hK => ?_); go_simp)
 refine hK.out _ _ ⟨H1.out, H2.out⟩ (fun hHeld1 => ?_)
 clear hK K hHeld
 (refine tc 7 (fun K hK => ?_); go_simp)
 refine (HC.out _ (Below.refl _ _).drew).mono ?_; rintro e w2 ⟨q2, rfl, hf2, hb2, hn2⟩
 have HB2 := Qa (show Below w.heap.size w w2 from ((Below.refl _ _).drew).trans (hb2.mono (by simp)))
 have HS2 := Qa (HS.out.below HB2.out)
 have hne := FpNew.low hn2 (show s + 1 ≤ _ by simp; omega)
 go_simp
 refine hK.out _ _ ⟨Qc H1.out HB2.out, Qc H2.out HB2.out⟩ (fun hHeld2 => ?_)
 clear hK K hHeld1 hcs
 (refine tq 8 ?_ (y := fun _ hSw => by go_simp; try rfl))
 (refine tq 9 ?_ (y := fun _ hSw => by go_simp; try rfl))
 (refine tc 10 (fun K hK => ?_); go_simp)
 refine (Jb s r q oa oc wv _ q2 _ w2 HS2.out hf2 hne).mono ?_; rintro e w3 ⟨rfl, q3, oa3, oc3, hs3, hk3⟩
 go_simp
 refine hK.out _ _ ⟨(hk3.block _ (Qd hHeld2.1) (by simpa using hne1)).trans hHeld2.1, (hk3.block _ (Qd hHeld2.2) (by simpa using hne2)).trans hHeld2.2⟩ (fun hHeld3 => ?_)
 clear hK K hHeld2
 (refine tq 11 ?_ (y := fun _ hSw => by go_simp; try rfl))
 refine wpAnyH_done (by kernel_rfl) ?_ _
 go_wp2
 go_ret
 exact ⟨rfl, q3, oa3, oc3, hs3, KeepB.trans (KeepB.of_below' HB2.out) (hk3.weaken HB2.out.size (fun k hk _ => hk))⟩
end Go.Proofs.YtajijcfikihhjaaGreatDoor
