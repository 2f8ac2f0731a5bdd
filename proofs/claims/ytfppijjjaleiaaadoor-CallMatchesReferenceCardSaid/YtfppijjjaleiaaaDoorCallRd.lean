
/- Contracts of must, (*reader).next, number, (*reader).take. -/
import Derived.Test.YtfppijjjaleiaaaDoorCallProg
import Derived.WalkLawsBesides
import Derived.Lib.AtoiAllCases
namespace Go.Proofs.YtfppijjjaleiaaaDoor
set_option linter.unusedSimpArgs false
set_option linter.unusedVariables false
open Go.RowKit Go.Sort

/-- What reading panics with. -/
abbrev failE : Ending := .panicked [{ v := .iface 45 (.agg #[]), recovered := false }]
/-- A slice of strings. -/
def StrAt (w : World) (p : Option Addr) (ws : List Bs) : Prop := SlAt w p 1 (ws.map fun s => [.string (mkS s)])
theorem StrAt.get {w : World} {b off : Nat} {ws : List Bs} (h : StrAt w (some ⟨b, off, none⟩) ws) (k : Nat) (hk : k < ws.length) : b < w.heap.size ∧ w.cell? ⟨b, off + k, none⟩ = some (.string (mkS ws[k])) := by
  obtain ⟨b', o', e, hl, _, hc⟩ := h k [.string (mkS ws[k])] (by simp [List.getElem?_eq_getElem hk])
  cases e
  have := hc 0 _ rfl
  rw [Nat.mul_one, Nat.add_zero] at this
  exact ⟨hl, this⟩
theorem StrAt.below {w w' : World} {p : Option Addr} {ws : List Bs} (h : StrAt w p ws) (hb : Below w.heap.size w w') : StrAt w' p ws := SlAt.below h hb
/-- The reader lies in block b: its call is c, the words ws are left. -/
structure RdAt (n0 b : Nat) (c : Cl) (ws : List Bs) (w : World) : Prop where
  le : n0 ≤ b
  few : ws.length ≤ 1000
  short : ∀ s ∈ ws, s.length ≤ 1000
  at_ : ∃ p cap, w.heap[b]? = some (.cells #[.string (mkS c.letter), .int .i64 c.number, .int .i64 c.bars, .int .i64 c.n, .int .i64 c.d, .int .i64 c.pass, .slice p ws.length cap] 48 (0, 0)) ∧ SlOk p ws.length cap ∧ cap ≤ maxLen ∧ StrAt w p ws ∧ ∀ q, p = some q → q.block ≠ b
theorem RdAt.lt {n0 b : Nat} {c : Cl} {ws : List Bs} {w : World} (h : RdAt n0 b c ws w) : b < w.heap.size := by
  obtain ⟨_, _, h1, _⟩ := h.at_; exact lt_blk h1
theorem RdAt.below {n0 b : Nat} {c : Cl} {ws : List Bs} {w w' : World} (h : RdAt n0 b c ws w) (hb : Below w.heap.size w w') : RdAt n0 b c ws w' := by
  obtain ⟨p, cap, h1, h2, h3, h4, h5⟩ := h.at_
  exact ⟨h.le, h.few, h.short, p, cap, blk_keep h1 hb, h2, h3, h4.below hb, h5⟩
theorem SlAt.other {w : World} {p : Option Addr} {sz : Nat} {rows : List (List Value)} (h : SlAt w p sz rows) {b k : Nat} (hne : ∀ q, p = some q → q.block ≠ b) (v : Value) : SlAt (w.setCell ⟨b, k, none⟩ v) p sz rows := fun i r hr => by
  obtain ⟨b', o', e, h1, h2, h3⟩ := h i r hr
  refine ⟨b', o', e, by simpa [World.setCell] using h1, h2, fun j u hu => ?_⟩
  exact (World.cell?_of_block (w := w) (heap_setCell_other _ _ _ _ (show b' ≠ b from hne _ e))).trans (h3 j u hu)
/-- Of the blocks that lay, none has turned but b. -/
def Turn1 (b : Nat) (w w' : World) : Prop := KeepB w.heap.size [b] w w'
theorem Turn1.refl (b : Nat) (w : World) : Turn1 b w w := KeepB.refl _ _ _
theorem Turn1.trans {b : Nat} {w w1 w2 : World} (h : Turn1 b w w1) (k : Turn1 b w1 w2) : Turn1 b w w2 := KeepB.trans h (KeepB.weaken k h.size (fun _ hk _ => hk))
theorem Turn1.of_below {b : Nat} {w w' : World} (h : Below w.heap.size w w') : Turn1 b w w' := KeepB.of_below h (Nat.le_refl _)
theorem Turn1.set1 (b j : Nat) (w : World) (v : Value) : Turn1 b w (w.setCell ⟨b, j, none⟩ v) := (KeepB.refl _ _ _).set (.inl (by simp)) v
theorem Turn1.below {n0 b : Nat} {w w' : World} (h : Turn1 b w w') (h1 : n0 ≤ b) (h2 : n0 ≤ w.heap.size) : Below n0 w w' := KeepB.below (KeepB.weaken h h2 (fun k hk hlt => by simp at hk; omega))
theorem Turn1.at_ {b k : Nat} {w w' : World} {o : Obj} (h : Turn1 b w w') (hx : w.heap[k]? = some o) (hne : k ≠ b) : w'.heap[k]? = some o := (h.block k (lt_blk hx) (by simpa using hne)).trans hx
theorem must_true (w : World) : Calls Tryd.prog 45 #[.bool true] w fun e w' => e = .returned (.tuple #[]) ∧ w = w' := by
  go_enter Tryd.func45, Tryd.ntmps45
  go_wp2
  go_end0
  exact ⟨rfl, rfl⟩
theorem must_false (w : World) : Calls Tryd.prog 45 #[.bool false] w fun e w' => e = failE ∧ w = w' := by
  go_enter Tryd.func45, Tryd.ntmps45
  go_wp2
  exact ⟨rfl, rfl, rfl⟩
theorem must_any (t : Bool) (w : World) : Calls Tryd.prog 45 #[.bool t] w fun e w' => e = (if t then .returned (.tuple #[]) else failE) ∧ w = w' := by
  cases t
  · exact must_false w
  · exact must_true w
set_option maxRecDepth 100000 in
set_option maxHeartbeats 1000000 in
theorem next_some {n0 b : Nat} {c : Cl} {x : Bs} {r : List Bs} {w : World} (h : RdAt n0 b c (x :: r) w) : Calls Tryd.prog 41 #[.pointer (some ⟨b, 0, none⟩)] w fun e w' => e = .returned (.string (mkS x)) ∧ RdAt n0 b c r w' ∧ Turn1 b w w' := by
  obtain ⟨p, cap, h1, h2, h3, h4, h5⟩ := h.at_
  obtain ⟨hle, hfew, hsh⟩ := h
  have hcap := h2.le
  rcases h2.cases with ⟨_, hn, _⟩ | ⟨pb, off, rfl⟩
  · simp at hn
  have hg := h4.get 0 (by simp)
  rw [Nat.add_zero] at hg
  obtain ⟨hpl, c0⟩ := hg
  simp only [List.getElem_cons_zero] at c0
  rw [List.length_cons] at h1 hcap hfew
  have hc := box_cells h1
  have hf := box_free h1
  have hpos : (0 : Int) < ((r.length + 1 : Nat) : Int) := by omega
  obtain ⟨p', hsl, hsp, hst, hne⟩ : ∃ p', (∀ w, (Instr.slice 35 (.slice (some ⟨pb, off, none⟩) (r.length + 1) cap) (some (.int .i64 1)) none none).run Tryd.prog w = .ok (.slice p' r.length (cap - 1)) w) ∧ SlOk p' r.length (cap - 1) ∧ StrAt w p' r ∧ ∀ q, p' = some q → q.block ≠ b := by
    by_cases hC1 : cap = 1
    · have hnil : r = [] := by cases r with | nil => rfl | cons y z => simp at hcap; omega
      subst hnil
      refine ⟨some ⟨pb, off, none⟩, fun w => ?_, ⟨by simp, (fun e => by cases e), (fun ad e => by cases e; rfl)⟩, SlAt.nil _ _ _, h5⟩
      rw [run_slice_l w 35 _ _ _ Tryd.underlying35 _ _ (by omega) (by simp <;> omega)]
      subst hC1
      rfl
    · refine ⟨some ⟨pb, off + 1, none⟩, fun w => ?_, ⟨by omega, (fun e => by cases e), (fun ad e => by cases e; rfl)⟩, ?_, fun q e => by cases e; exact h5 ⟨pb, off, none⟩ rfl⟩
      · rw [run_slice_l w 35 _ _ _ Tryd.underlying35 _ _ (by omega) (by simp <;> omega)]
        have : ((sizeOf (Tryd.prog.elem 35)).run Tryd.prog w) = .ok 1 w := by kernel_rfl
        rw [this]
        simp [Result.andThen, sliced, hC1, Addr.add]
      · have := SlAt.drop h4 1
        simpa [StrAt] using this
  have HR := Lib.hid (show ∀ W, W = w.setCell ⟨b, 6, none⟩ (.slice p' r.length (cap - 1)) → RdAt n0 b c r W ∧ Turn1 b w W from fun W e => by
    subst e
    refine ⟨⟨hle, by omega, fun s hs => hsh s (List.mem_cons_of_mem _ hs), p', cap - 1, heap_setCell_same _ _ _ _ _ _ h1, hsp, by omega, hst.other hne _, hne⟩, Turn1.set1 _ _ _ _⟩)
  clear h1 h2 h4 h5 hsp hst hne hle hfew hsh
  go_enter Tryd.func41, Tryd.ntmps41
  go_wp2_with (go_at_call 45; refine (must_true _).mono ?_; rintro e w' ⟨rfl, rfl⟩)
  go_ret
  obtain ⟨h6, h7⟩ := HR.out _ rfl
  exact ⟨rfl, h6, h7⟩
set_option maxHeartbeats 1000000 in
theorem next_none {n0 b : Nat} {c : Cl} {w : World} (h : RdAt n0 b c [] w) : Calls Tryd.prog 41 #[.pointer (some ⟨b, 0, none⟩)] w fun e w' => e = failE ∧ w = w' := by
  obtain ⟨p, cap, h1, _⟩ := h.at_
  have hc := box_cells h1
  clear h h1
  go_enter Tryd.func41, Tryd.ntmps41
  go_wp2_with (go_at_call 45; refine (must_false _).mono ?_; rintro e w' ⟨rfl, rfl⟩)
  exact ⟨rfl, rfl, rfl⟩
/-- call.number: the number, or a panic. -/
def NumPost (s : Bs) (w : World) (e : Ending) (w' : World) : Prop := e = (match numP s with | some n => .returned (.int .i64 n) | none => failE) ∧ Below w.heap.size w w'
set_option maxRecDepth 100000 in
set_option maxHeartbeats 2000000 in
theorem number_any (s : Bs) (w : World) (hs : s.length ≤ 1000) (hE : Env w) : Calls Tryd.prog 42 #[.string (mkS s)] w (NumPost s w) := by
  have HE := Lib.hid hE; clear hE
  have hb0 : bsS (mkS s) = s := bs_mk s
  go_enter Tryd.func42, Tryd.ntmps42
  go_wp2_with (fail)
  refine (atoi_any _ _ (show (mkS s).size ≤ 1000 from hs) HE.out).mono ?_
  rintro e w' ⟨n, ev, rfl, hb, hev⟩
  have HB := Lib.hid hb; clear hb
  rw [hb0] at hev
  clear hb0
  rcases hev with ⟨rfl, hok⟩ | ⟨⟨t, a, rfl⟩, hno⟩
  · have hbd := Lib.atoiAll_bounds hok
    have HQ := Lib.hid (show numP s = if Lib.itoa n = s ∧ 0 ≤ n then some n else none by simp [numP, hok])
    have heq := str_eq (mkS (Lib.itoa n)) (mkS s)
    rw [bs_mk, bs_mk] at heq
    clear hok
    by_cases he : Lib.itoa n = s
    · rw [decide_eq_true he] at heq
      by_cases h0 : 0 ≤ n
      · rw [if_pos ⟨he, h0⟩] at HQ
        clear he
        go_wp2_with (first | (go_at_call 31; refine (itoa_any _ _ hbd.1 hbd.2 (HE.out.below HB.out)).mono ?_; rintro e w' ⟨rfl, hb⟩; replace HB := Lib.hid (HB.out.trans (hb.mono HB.out.size)); clear hb) | (go_at_call 45; (try rw [decide_eq_true h0]); refine (must_true _).mono ?_; rintro e w' ⟨rfl, rfl⟩))
        go_ret
        exact ⟨by rw [HQ.out]; rfl, HB.out⟩
      · rw [if_neg (fun h => h0 h.2)] at HQ
        have hd0 : decide (0 ≤ n) = false := decide_eq_false h0
        clear h0
        clear he
        go_wp2_with (first | (go_at_call 31; refine (itoa_any _ _ hbd.1 hbd.2 (HE.out.below HB.out)).mono ?_; rintro e w' ⟨rfl, hb⟩; replace HB := Lib.hid (HB.out.trans (hb.mono HB.out.size)); clear hb) | (go_at_call 45; (try rw [hd0]); refine (must_false _).mono ?_; rintro e w' ⟨rfl, rfl⟩))
        exact ⟨rfl, by rw [HQ.out], HB.out⟩
    · rw [decide_eq_false he] at heq
      rw [if_neg (fun h => he h.1)] at HQ
      clear he
      go_wp2_with (first | (go_at_call 31; refine (itoa_any _ _ hbd.1 hbd.2 (HE.out.below HB.out)).mono ?_; rintro e w' ⟨rfl, hb⟩; replace HB := Lib.hid (HB.out.trans (hb.mono HB.out.size)); clear hb) | (go_at_call 45; refine (must_false _).mono ?_; rintro e w' ⟨rfl, rfl⟩))
      exact ⟨rfl, by rw [HQ.out], HB.out⟩
  · have HQ := Lib.hid (show numP s = none by
      unfold numP
      split
      · rename_i m hm; exact absurd hm (hno m)
      · rfl)
    clear hno
    go_wp2_with (go_at_call 45; refine (must_false _).mono ?_; rintro e w' ⟨rfl, rfl⟩)
    exact ⟨rfl, by rw [HQ.out], HB.out⟩
set_option maxRecDepth 100000 in
set_option maxHeartbeats 1000000 in
/-- take: the words a, b, if they are next. -/
theorem take_yes {n0 b : Nat} {c : Cl} {x y : Bs} {r : List Bs} {w : World} (h : RdAt n0 b c (x :: y :: r) w) : Calls Tryd.prog 43 #[.pointer (some ⟨b, 0, none⟩), .string (mkS x), .string (mkS y)] w fun e w' => e = .returned (.bool true) ∧ RdAt n0 b c r w' ∧ Turn1 b w w' := by
  obtain ⟨p, cap, h1, h2, h3, h4, h5⟩ := h.at_
  obtain ⟨hle, hfew, hsh⟩ := h
  have hcap := h2.le
  rcases h2.cases with ⟨_, hn, _⟩ | ⟨pb, off, rfl⟩
  · simp at hn
  have hg := h4.get 0 (by simp)
  rw [Nat.add_zero] at hg
  obtain ⟨hpl, c0⟩ := hg
  obtain ⟨_, c1⟩ := h4.get 1 (by simp)
  simp only [List.getElem_cons_zero, List.getElem_cons_succ] at c0 c1
  rw [List.length_cons, List.length_cons] at h1 hcap hfew
  have hc := box_cells h1
  have hf := box_free h1
  have hpos : ¬ ((r.length + 1 + 1 : Nat) : Int) < 2 := by omega
  have hex := str_eq (mkS x) (mkS x); have hey := str_eq (mkS y) (mkS y)
  rw [decide_eq_true rfl] at hex hey
  obtain ⟨p', hsl, hsp, hst, hne⟩ : ∃ p', (∀ w, (Instr.slice 35 (.slice (some ⟨pb, off, none⟩) (r.length + 1 + 1) cap) (some (.int .i64 2)) none none).run Tryd.prog w = .ok (.slice p' r.length (cap - 2)) w) ∧ SlOk p' r.length (cap - 2) ∧ StrAt w p' r ∧ ∀ q, p' = some q → q.block ≠ b := by
    by_cases hC1 : cap = 2
    · have hnil : r = [] := by cases r with | nil => rfl | cons y z => simp at hcap; omega
      subst hnil
      refine ⟨some ⟨pb, off, none⟩, fun w => ?_, ⟨by simp, (fun e => by cases e), (fun ad e => by cases e; rfl)⟩, SlAt.nil _ _ _, h5⟩
      rw [run_slice_l w 35 _ _ _ Tryd.underlying35 _ _ (by omega) (by simp <;> omega)]
      subst hC1
      rfl
    · refine ⟨some ⟨pb, off + 2, none⟩, fun w => ?_, ⟨by omega, (fun e => by cases e), (fun ad e => by cases e; rfl)⟩, ?_, fun q e => by cases e; exact h5 ⟨pb, off, none⟩ rfl⟩
      · rw [run_slice_l w 35 _ _ _ Tryd.underlying35 _ _ (by omega) (by simp <;> omega)]
        have : ((sizeOf (Tryd.prog.elem 35)).run Tryd.prog w) = .ok 1 w := by kernel_rfl
        rw [this]
        simp [Result.andThen, sliced, hC1, Addr.add]
      · have := SlAt.drop h4 2
        simpa [StrAt] using this
  have HR := Lib.hid (show ∀ W, W = w.setCell ⟨b, 6, none⟩ (.slice p' r.length (cap - 2)) → RdAt n0 b c r W ∧ Turn1 b w W from fun W e => by
    subst e
    refine ⟨⟨hle, by omega, fun s hs => hsh s (List.mem_cons_of_mem _ (List.mem_cons_of_mem _ hs)), p', cap - 2, heap_setCell_same _ _ _ _ _ _ h1, hsp, by omega, hst.other hne _, hne⟩, Turn1.set1 _ _ _ _⟩)
  clear h1 h2 h4 h5 hsp hst hne hle hfew hsh
  go_enter Tryd.func43, Tryd.ntmps43
  go_wp2
  go_ret
  obtain ⟨h6, h7⟩ := HR.out _ rfl
  exact ⟨rfl, h6, h7⟩
set_option maxRecDepth 100000 in
set_option maxHeartbeats 1000000 in
theorem take_no {n0 b : Nat} {c : Cl} {ws : List Bs} {u v : Bs} {w : World} (h : RdAt n0 b c ws w) (hno : ∀ r, ws ≠ u :: v :: r) : Calls Tryd.prog 43 #[.pointer (some ⟨b, 0, none⟩), .string (mkS u), .string (mkS v)] w fun e w' => e = .returned (.bool false) ∧ w = w' := by
  obtain ⟨p, cap, h1, h2, h3, h4, h5⟩ := h.at_
  have hfew := h.few
  have hcap := h2.le
  match ws, h1, h2, h4, hno, hfew, hcap with
  | [], h1, h2, h4, hno, _, _ =>
    have hc := box_cells h1
    clear h1 h2 h4 h5
    go_enter Tryd.func43, Tryd.ntmps43
    go_wp2
    go_ret
    exact ⟨rfl, rfl⟩
  | [x], h1, h2, h4, hno, _, _ =>
    have hc := box_cells h1
    clear h1 h2 h4 h5
    go_enter Tryd.func43, Tryd.ntmps43
    go_wp2
    go_ret
    exact ⟨rfl, rfl⟩
  | x :: y :: r, h1, h2, h4, hno, hfew, hcap =>
    rcases h2.cases with ⟨_, hn, _⟩ | ⟨pb, off, rfl⟩
    · simp at hn
    have hg := h4.get 0 (by simp)
    rw [Nat.add_zero] at hg
    obtain ⟨hpl, c0⟩ := hg
    obtain ⟨_, c1⟩ := h4.get 1 (by simp)
    simp only [List.getElem_cons_zero, List.getElem_cons_succ] at c0 c1
    rw [List.length_cons, List.length_cons] at h1 hcap hfew
    have hc := box_cells h1
    have hpos : ¬ ((r.length + 1 + 1 : Nat) : Int) < 2 := by omega
    have hex := str_eq (mkS x) (mkS u); have hey := str_eq (mkS y) (mkS v)
    rw [bs_mk, bs_mk] at hex hey
    clear h1 h2 h4 h5
    by_cases e1 : x = u
    · rw [decide_eq_true e1] at hex
      have e2 : ¬ y = v := fun e2 => hno r (by rw [e1, e2])
      rw [decide_eq_false e2] at hey
      clear hno e1 e2
      go_enter Tryd.func43, Tryd.ntmps43
      go_wp2
      go_ret
      exact ⟨rfl, rfl⟩
    · rw [decide_eq_false e1] at hex
      clear hno e1 hey
      go_enter Tryd.func43, Tryd.ntmps43
      go_wp2
      go_ret
      exact ⟨rfl, rfl⟩
end Go.Proofs.YtfppijjjaleiaaaDoor
