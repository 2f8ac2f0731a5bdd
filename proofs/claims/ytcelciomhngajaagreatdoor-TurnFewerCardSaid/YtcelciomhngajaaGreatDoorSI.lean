/- Texts of this seat, laid together: ScR08c, ScRef2, ScR13, ScR13b. -/
import Derived.Test.YtcelciomhngajaaGreatDoorSH
import Derived.Test.YtcelciomhngajaaGreatDoorSF
import Derived.Test.YtcelciomhngajaaGreatDoorSB
import Derived.Test.YtcelciomhngajaaGreatDoorSG
/- The reference's scores (layer 8): Own, Range, Wrong, Source, Few: walked. -/
namespace Go.Proofs.YtcelciomhngajaaGreatDoor
set_option linter.unusedSimpArgs false
set_option linter.unusedVariables false
open Go.RowKit Go.Sort

/-- The index of the part whose own note it is, or -1. -/
def ownI (l : List Pa) (n : No) : Int := idxO (fun p => decide (p.of = 0) && (p.id == n.part)) l
theorem own_cases (l : List Pa) (n : No) : (ownI l n = -1 ∧ ownP l n = none) ∨ ∃ (i : Nat) (hi : i < l.length), ownI l n = (i : Int) ∧ ownP l n = some l[i] := by
  unfold ownI ownP
  cases h : l.findIdx? (fun p => decide (p.of = 0) && (p.id == n.part)) with
  | none =>
    left
    refine ⟨by simp [idxO, h], ?_⟩
    rw [List.findIdx?_eq_none_iff] at h
    rw [List.find?_eq_none]
    intro x hx; have := h x hx; simpa using this
  | some i =>
    right
    obtain ⟨hi, h1, h2⟩ := List.findIdx?_eq_some_iff_getElem.1 h
    refine ⟨i, hi, by simp [idxO, h], ?_⟩
    rw [List.find?_eq_some_iff_getElem]
    exact ⟨h1, i, hi, rfl, fun j hj => by have := h2 j hj; simp only [Bool.not_eq_true] at this ⊢; simp [this]⟩
theorem ROwn_any (a : Option Addr) (cap : Nat) (l : List Pa) (n : No) (w : World) (hl : l.length ≤ 100000) (hn : (l.map Pa.id).Nodup) (hm : PaAt w a l) :
    Calls Tryz.prog 127 #[.slice a l.length cap, .agg #[.int .i64 n.id, .int .i64 n.part, .int .i64 n.bar, .int .i64 n.voice, .int .i64 n.ossia, .int .i64 n.start.n, .int .i64 n.start.d, .int .i64 n.len.n, .int .i64 n.len.d, .int .i64 n.pitch.s, .int .i64 n.pitch.a, .int .i64 n.pitch.o]] w fun e w' => e = .returned (.int .i64 (ownI l n)) ∧ Below w.heap.size w w' := by
  have HM := Lib.hid hm; clear hm
  have HAt := Lib.hid (fun id W (hb : Below w.heap.size w W) => RPartAt_any a cap l id W hl (HM.out.below hb))
  have HX1 := Lib.hid (heap_alloc_new w (.cells #[.int .i64 n.id, .int .i64 n.part, .int .i64 n.bar, .int .i64 n.voice, .int .i64 n.ossia, .int .i64 n.start.n, .int .i64 n.start.d, .int .i64 n.len.n, .int .i64 n.len.d, .int .i64 n.pitch.s, .int .i64 n.pitch.a, .int .i64 n.pitch.o] 128))
  have HB := Lib.hid ((Below.refl w.heap.size w).alloc (Nat.le_refl _) (.cells #[.int .i64 n.id, .int .i64 n.part, .int .i64 n.bar, .int .i64 n.voice, .int .i64 n.ossia, .int .i64 n.start.n, .int .i64 n.start.d, .int .i64 n.len.n, .int .i64 n.len.d, .int .i64 n.pitch.s, .int .i64 n.pitch.a, .int .i64 n.pitch.o] 128))
  rcases partAt_idx l n.part with ⟨e1, e2⟩ | ⟨i, hi, e1, _, e3, e4⟩
  · have HR := Lib.hid (show ownI l n = -1 by
      refine idxO_miss fun j hj => ?_
      unfold partAt at e2
      rw [List.find?_eq_none] at e2
      have := e2 l[j] (List.getElem_mem hj)
      simp at this ⊢; exact fun _ => this)
    have EA := Lib.hid e1
    clear e1 e2
    go_enter Tryz.func127, Tryz.ntmps127
    go_upto_region 1 with (fail)
    generalize w.alloc (.cells #[.int .i64 n.id, .int .i64 n.part, .int .i64 n.bar, .int .i64 n.voice, .int .i64 n.ossia, .int .i64 n.start.n, .int .i64 n.start.d, .int .i64 n.len.n, .int .i64 n.len.d, .int .i64 n.pitch.s, .int .i64 n.pitch.a, .int .i64 n.pitch.o] 128) = W at *
    have hc1 := box_cells HX1.out
    go_wp2_with (go_at_call 114; refine (HAt.out _ _ HB.out).mono ?_; rw [EA.out]; rintro e w3 ⟨rfl, rfl⟩)
    go_ret
    exact ⟨ret_int HR.out.symm, HB.out⟩
  · obtain ⟨b, off, rfl, _, c0, c1, c2, c3, c4, c5, c6, c7, c8, c9, c10, c11, c12⟩ := HM.out.get i hi
    have HG := Lib.hid c2
    clear c0 c1 c2 c3 c4 c5 c6 c7 c8 c9 c10 c11 c12
    have HR0 := Lib.hid (show l[i].of = 0 → ownI l n = i from fun h => idxO_hit hi (by simp [h, e3]) fun j hj hji => by have := e4 j hj hji; simp [this])
    have HR1 := Lib.hid (show l[i].of ≠ 0 → ownI l n = -1 from fun h => idxO_miss fun j hj => by
      by_cases hid : l[j].id = n.part
      · have : (l.map Pa.id)[j]'(by simpa using hj) = (l.map Pa.id)[i]'(by simpa using hi) := by simp [hid, e3]
        have := (List.getElem_inj hn).1 this
        subst this; simp [h]
      · simp [hid])
    have EA := Lib.hid e1
    have hz : (0 : Int) ≤ i := by omega
    clear e1 e3 e4
    generalize l[i].of = pof at *
    generalize ownI l n = R at *
    by_cases h0 : pof = 0
    · have HR := Lib.hid (HR0.out h0)
      subst h0
      go_enter Tryz.func127, Tryz.ntmps127
      go_upto_region 1 with (fail)
      generalize w.alloc (.cells #[.int .i64 n.id, .int .i64 n.part, .int .i64 n.bar, .int .i64 n.voice, .int .i64 n.ossia, .int .i64 n.start.n, .int .i64 n.start.d, .int .i64 n.len.n, .int .i64 n.len.d, .int .i64 n.pitch.s, .int .i64 n.pitch.a, .int .i64 n.pitch.o] 128) = W at *
      have hc1 := box_cells HX1.out
      have g := keepE HG.out HB.out
      go_wp2_with (go_at_call 114; refine (HAt.out _ _ HB.out).mono ?_; rw [EA.out]; rintro e w3 ⟨rfl, rfl⟩)
      go_ret
      exact ⟨ret_int HR.out.symm, HB.out⟩
    · have HR := Lib.hid (HR1.out h0)
      have hd : (pof != 0) = true := by simpa using h0
      go_enter Tryz.func127, Tryz.ntmps127
      go_upto_region 1 with (fail)
      generalize w.alloc (.cells #[.int .i64 n.id, .int .i64 n.part, .int .i64 n.bar, .int .i64 n.voice, .int .i64 n.ossia, .int .i64 n.start.n, .int .i64 n.start.d, .int .i64 n.len.n, .int .i64 n.len.d, .int .i64 n.pitch.s, .int .i64 n.pitch.a, .int .i64 n.pitch.o] 128) = W at *
      have hc1 := box_cells HX1.out
      have g := keepE HG.out HB.out
      go_wp2_with (go_at_call 114; refine (HAt.out _ _ HB.out).mono ?_; rw [EA.out]; rintro e w3 ⟨rfl, rfl⟩)
      go_ret
      exact ⟨ret_int HR.out.symm, HB.out⟩
theorem SoundP_any (q : Pi) (h : vldP q = true) (W : World) : Calls Tryz.prog 162 #[.agg #[.int .i64 q.s, .int .i64 q.a, .int .i64 q.o]] W fun e w' => e = .returned (.int .i64 (soundI q)) ∧ Below W.heap.size W w' := by
  obtain ⟨⟨p1, p2⟩, ⟨p3, p4⟩, p5, p6⟩ := (vldP_iff _).1 h
  exact Sound_any _ _ _ W p1 p2 (by omega) (by omega) (by omega) (by omega)
set_option maxHeartbeats 1000000 in
theorem RRange_any (p : Pa) (x : Pi) (w : World) (h1 : vldP p.low = true) (h2 : vldP p.high = true) (h3 : vldP x = true) :
    Calls Tryz.prog 128 #[.agg #[.int .i64 p.id, .int .i64 p.section_, .int .i64 p.of, .int .i64 p.octave, .int .i64 p.desks, .int .i64 p.shift.x, .int .i64 p.shift.y, .int .i64 p.low.s, .int .i64 p.low.a, .int .i64 p.low.o, .int .i64 p.high.s, .int .i64 p.high.a, .int .i64 p.high.o], .agg #[.int .i64 x.s, .int .i64 x.a, .int .i64 x.o]] w fun e w' => e = .returned (.bool (inB (soundI x) (soundI p.low) (soundI p.high))) ∧ Below w.heap.size w w' := by
  obtain ⟨x1, x2, hb⟩ := box2 (w := w) (A := .cells #[.int .i64 p.id, .int .i64 p.section_, .int .i64 p.of, .int .i64 p.octave, .int .i64 p.desks, .int .i64 p.shift.x, .int .i64 p.shift.y, .int .i64 p.low.s, .int .i64 p.low.a, .int .i64 p.low.o, .int .i64 p.high.s, .int .i64 p.high.a, .int .i64 p.high.o] 93) (B := .cells #[.int .i64 x.s, .int .i64 x.a, .int .i64 x.o] 62) (Below.refl _ _)
  have HX1 := Lib.hid x1; have HX2 := Lib.hid x2; have HB := Lib.hid hb; clear x1 x2 hb
  have H1 := Lib.hid (SoundP_any p.low h1); have H2 := Lib.hid (SoundP_any p.high h2); have H3 := Lib.hid (SoundP_any x h3)
  have H4 := Lib.hid (fun W => (r8in_any (soundI x) (soundI p.low) (soundI p.high) W).mono fun e w' h => (⟨h.1, h.2 ▸ Below.refl _ _⟩ : _ ∧ Below W.heap.size W w'))
  generalize inB (soundI x) (soundI p.low) (soundI p.high) = R at *
  generalize soundI x = n0 at *; generalize soundI p.low = n1 at *; generalize soundI p.high = n2 at *
  go_enter Tryz.func128, Tryz.ntmps128
  go_upto_region 1 with (fail)
  generalize (w.alloc (.cells #[.int .i64 p.id, .int .i64 p.section_, .int .i64 p.of, .int .i64 p.octave, .int .i64 p.desks, .int .i64 p.shift.x, .int .i64 p.shift.y, .int .i64 p.low.s, .int .i64 p.low.a, .int .i64 p.low.o, .int .i64 p.high.s, .int .i64 p.high.a, .int .i64 p.high.o] 93)).alloc (.cells #[.int .i64 x.s, .int .i64 x.a, .int .i64 x.o] 62) = W at *
  have hc1 := box_cells HX1.out; have hc2 := box_cells HX2.out
  have g7 := cell_regrown (hc1 7); have g8 := cell_regrown (hc1 8); have g9 := cell_regrown (hc1 9); have g10 := cell_regrown (hc1 10); have g11 := cell_regrown (hc1 11); have g12 := cell_regrown (hc1 12)
  have k0 := cell_regrown (hc2 0); have k1 := cell_regrown (hc2 1); have k2 := cell_regrown (hc2 2)
  refine wp_quietB (by kernel_rfl) (by kernel_rfl) ?_
  (repeat (go_big_quiet_step (fail)))
  go_big_quiet_step ((go_at_call 162; refine Calls.regrown_of (H3.out _)))
  (repeat (go_big_quiet_step (fail)))
  go_big_quiet_step ((go_at_call 162; refine Calls.regrown_of (H1.out _)))
  (repeat (go_big_quiet_step (fail)))
  go_big_quiet_step ((go_at_call 162; refine Calls.regrown_of (H2.out _)))
  (repeat (go_big_quiet_step (fail)))
  go_big_quiet_step ((go_at_call 79; refine Calls.regrown_of (H4.out _)))
  (repeat (go_big_quiet_step (fail)))
  refine wpQuiet_nil ?_
  intro w9 hb9
  go_wp2
  go_ret
  exact ⟨rfl, HB.out.trans (hb9.mono HB.out.size)⟩
/-- Does layer 8 call a score few? -/
def few8 (s : Sc) : Bool := decide (s.bars.length ≤ 60) && decide (s.parts.length ≤ 61) && decide (s.notes.length ≤ 60)
theorem RFew8_any (s : Sc) (q : Sp) (w : World) : Calls Tryz.prog 32 #[.agg #[.int .i64 s.version, .slice q.ab s.bars.length q.cb, .slice q.ap s.parts.length q.cp, .slice q.an s.notes.length q.cn]] w fun e w' => e = .returned (.bool (few8 s)) ∧ Below w.heap.size w w' := by
  have HX1 := Lib.hid (heap_alloc_new w (.cells #[.int .i64 s.version, .slice q.ab s.bars.length q.cb, .slice q.ap s.parts.length q.cp, .slice q.an s.notes.length q.cn] 26))
  have HB := Lib.hid ((Below.refl w.heap.size w).alloc (Nat.le_refl _) (.cells #[.int .i64 s.version, .slice q.ab s.bars.length q.cb, .slice q.ap s.parts.length q.cp, .slice q.an s.notes.length q.cn] 26))
  have HR := Lib.hid (show few8 s = (decide (s.bars.length ≤ 60) && decide (s.parts.length ≤ 61) && decide (s.notes.length ≤ 60)) from rfl)
  generalize few8 s = R at *
  generalize s.bars.length = n1 at *; generalize s.parts.length = n2 at *; generalize s.notes.length = n3 at *
  go_enter Tryz.func32, Tryz.ntmps32
  go_upto_region 1 with (fail)
  generalize w.alloc (.cells #[.int .i64 s.version, .slice q.ab n1 q.cb, .slice q.ap n2 q.cp, .slice q.an n3 q.cn] 26) = W at *
  have hc1 := box_cells HX1.out
  go_wp2
  all_goals (go_ret; refine ⟨ret_bool ?_, HB.out⟩; rw [HR.out]; rw [Bool.eq_iff_iff]; simp only [Bool.and_eq_true, decide_eq_true_eq, Bool.false_eq_true, false_iff, iff_false]; omega)
open Go.RowKit Go.Sort

open Go.RowKit Go.Sort

open Go.RowKit Go.Sort

/-- The cells of a part. -/
abbrev PaC (W : World) (b : Nat) (p : Pa) : Prop := W.cell? ⟨b, 0, none⟩ = some (.int .i64 p.id) ∧ W.cell? ⟨b, 1, none⟩ = some (.int .i64 p.section_) ∧ W.cell? ⟨b, 2, none⟩ = some (.int .i64 p.of) ∧ W.cell? ⟨b, 3, none⟩ = some (.int .i64 p.octave) ∧ W.cell? ⟨b, 4, none⟩ = some (.int .i64 p.desks) ∧ W.cell? ⟨b, 5, none⟩ = some (.int .i64 p.shift.x) ∧ W.cell? ⟨b, 6, none⟩ = some (.int .i64 p.shift.y) ∧ W.cell? ⟨b, 7, none⟩ = some (.int .i64 p.low.s) ∧ W.cell? ⟨b, 8, none⟩ = some (.int .i64 p.low.a) ∧ W.cell? ⟨b, 9, none⟩ = some (.int .i64 p.low.o) ∧ W.cell? ⟨b, 10, none⟩ = some (.int .i64 p.high.s) ∧ W.cell? ⟨b, 11, none⟩ = some (.int .i64 p.high.a) ∧ W.cell? ⟨b, 12, none⟩ = some (.int .i64 p.high.o)
theorem paC {W : World} {b : Nat} {p : Pa} {T : TypeId} {fr : Nat × Nat} (h : W.heap[b]? = some (.cells #[.int .i64 p.id, .int .i64 p.section_, .int .i64 p.of, .int .i64 p.octave, .int .i64 p.desks, .int .i64 p.shift.x, .int .i64 p.shift.y, .int .i64 p.low.s, .int .i64 p.low.a, .int .i64 p.low.o, .int .i64 p.high.s, .int .i64 p.high.a, .int .i64 p.high.o] T fr)) : PaC W b p :=
  ⟨box_cells h 0, box_cells h 1, box_cells h 2, box_cells h 3, box_cells h 4, box_cells h 5, box_cells h 6, box_cells h 7, box_cells h 8, box_cells h 9, box_cells h 10, box_cells h 11, box_cells h 12⟩
theorem set3 {w : World} {c : Nat} {a b d u v x : Value} {T : TypeId} (hx : w.heap[c]? = some (.cells #[a, b, d] T (0, 0))) : (((w.setCell ⟨c, 0, none⟩ u).setCell ⟨c, 1, none⟩ v).setCell ⟨c, 2, none⟩ x).heap[c]? = some (.cells #[u, v, x] T (0, 0)) :=
  heap_setCell_same _ _ _ _ _ _ (heap_setCell_same _ _ _ _ _ _ (heap_setCell_same _ _ _ _ _ _ hx))
end Go.Proofs.YtcelciomhngajaaGreatDoor

