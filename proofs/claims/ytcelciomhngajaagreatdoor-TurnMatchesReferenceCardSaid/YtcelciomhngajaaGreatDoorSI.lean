/- Texts of this seat, laid together: ScR08c, ScRef2, ScR13, ScR13b. -/
import Derived.Test.YtcelciomhngajaaGreatDoorSH
import Derived.Test.YtcelciomhngajaaGreatDoorSF
import Derived.Test.YtcelciomhngajaaGreatDoorSB
import Derived.Test.YtcelciomhngajaaGreatDoorSG
/- The reference's scores (layer 8): Own, Range, Wrong, Source, Few: walked. -/
namespace Go.Proofs.YtcelciomhngajaaGreatDoor
set_option linter.unusedSimpArgs false
set_option linter.unusedVariables false
open Go.RowKit Go.Sort

/-- The index of the part whose own note it is, or -1. -/
def ownI (l : List Pa) (n : No) : Int := idxO (fun p => decide (p.of = 0) && (p.id == n.part)) l
theorem own_cases (l : List Pa) (n : No) : (ownI l n = -1 ∧ ownP l n = none) ∨ ∃ (i : Nat) (hi : i < l.length), ownI l n = (i : Int) ∧ ownP l n = some l[i] := by
  unfold ownI ownP
  cases h : l.findIdx? (fun p => decide (p.of = 0) && (p.id == n.part)) with
  | none =>
    left
    refine ⟨by simp [idxO, h], ?_⟩
    rw [List.findIdx?_eq_none_iff] at h
    rw [List.find?_eq_none]
    intro x hx; have := h x hx; simpa using this
  | some i =>
    right
    obtain ⟨hi, h1, h2⟩ := List.findIdx?_eq_some_iff_getElem.1 h
    refine ⟨i, hi, by simp [idxO, h], ?_⟩
    rw [List.find?_eq_some_iff_getElem]
    exact ⟨h1, i, hi, rfl, fun j hj => by have := h2 j hj; simp only [Bool.not_eq_true] at this ⊢; simp [this]⟩
theorem ROwn_any (a : Option Addr) (cap : Nat) (l : List Pa) (n : No) (w : World) (hl : l.length ≤ 100000) (hn : (l.map Pa.id).Nodup) (hm : PaAt w a l) :
    Calls Tryz.prog 127 #[.slice a l.length cap, .agg #[.int .i64 n.id, .int .i64 n.part, .int .i64 n.bar, .int .i64 n.voice, .int .i64 n.ossia, .int .i64 n.start.n, .int .i64 n.start.d, .int .i64 n.len.n, .int .i64 n.len.d, .int .i64 n.pitch.s, .int .i64 n.pitch.a, .int .i64 n.pitch.o]] w fun e w' => e = .returned (.int .i64 (ownI l n)) ∧ Below w.heap.size w w' := by
  have HM := Lib.hid hm; clear hm
  have HAt := Lib.hid (fun id W (hb : Below w.heap.size w W) => RPartAt_any a cap l id W hl (HM.out.below hb))
  have HX1 := Lib.hid (heap_alloc_new w (.cells #[.int .i64 n.id, .int .i64 n.part, .int .i64 n.bar, .int .i64 n.voice, .int .i64 n.ossia, .int .i64 n.start.n, .int .i64 n.start.d, .int .i64 n.len.n, .int .i64 n.len.d, .int .i64 n.pitch.s, .int .i64 n.pitch.a, .int .i64 n.pitch.o] 128))
  have HB := Lib.hid ((Below.refl w.heap.size w).alloc (Nat.le_refl _) (.cells #[.int .i64 n.id, .int .i64 n.part, .int .i64 n.bar, .int .i64 n.voice, .int .i64 n.ossia, .int .i64 n.start.n, .int .i64 n.start.d, .int .i64 n.len.n, .int .i64 n.len.d, .int .i64 n.pitch.s, .int .i64 n.pitch.a, .int .i64 n.pitch.o] 128))
  rcases partAt_idx l n.part with ⟨e1, e2⟩ | ⟨i, hi, e1, _, e3, e4⟩
  · have HR := Lib.hid (show ownI l n = -1 by
      refine idxO_miss fun j hj => ?_
      unfold partAt at e2
      rw [List.find?_eq_none] at e2
      have := e2 l[j] (List.getElem_mem hj)
      simp at this ⊢; exact fun _ => this)
    have EA := Lib.hid e1
    clear e1 e2
    go_enter Tryz.func127, Tryz.ntmps127
    go_upto_region 1 with (fail)
    generalize w.alloc (.cells #[.int .i64 n.id, .int .i64 n.part, .int .i64 n.bar, .int .i64 n.voice, .int .i64 n.ossia, .int .i64 n.start.n, .int .i64 n.start.d, .int .i64 n.len.n, .int .i64 n.len.d, .int .i64 n.pitch.s, .int .i64 n.pitch.a, .int .i64 n.pitch.o] 128) = W at *
    have hc1 := box_cells HX1.out
    go_wp2_with (go_at_call 114; refine (HAt.out _ _ HB.out).mono ?_; rw [EA.out]; rintro e w3 ⟨rfl, rfl⟩)
    go_ret
    exact ⟨ret_int HR.out.symm, HB.out⟩
  · obtain ⟨b, off, rfl, _, c0, c1, c2, c3, c4, c5, c6, c7, c8, c9, c10, c11, c12⟩ := HM.out.get i hi
    have HG := Lib.hid c2
    clear c0 c1 c2 c3 c4 c5 c6 c7 c8 c9 c10 c11 c12
    have HR0 := Lib.hid (show l[i].of = 0 → ownI l n = i from fun h => idxO_hit hi (by simp [h, e3]) fun j hj hji => by have := e4 j hj hji; simp [this])
    have HR1 := Lib.hid (show l[i].of ≠ 0 → ownI l n = -1 from fun h => idxO_miss fun j hj => by
      by_cases hid : l[j].id = n.part
      · have : (l.map Pa.id)[j]'(by simpa using hj) = (l.map Pa.id)[i]'(by simpa using hi) := by simp [hid, e3]
        have := (List.getElem_inj hn).1 this
        subst this; simp [h]
      · simp [hid])
    have EA := Lib.hid e1
    have hz : (0 : Int) ≤ i := by omega
    clear e1 e3 e4
    generalize l[i].of = pof at *
    generalize ownI l n = R at *
    by_cases h0 : pof = 0
    · have HR := Lib.hid (HR0.out h0)
      subst h0
      go_enter Tryz.func127, Tryz.ntmps127
      go_upto_region 1 with (fail)
      generalize w.alloc (.cells #[.int .i64 n.id, .int .i64 n.part, .int .i64 n.bar, .int .i64 n.voice, .int .i64 n.ossia, .int .i64 n.start.n, .int .i64 n.start.d, .int .i64 n.len.n, .int .i64 n.len.d, .int .i64 n.pitch.s, .int .i64 n.pitch.a, .int .i64 n.pitch.o] 128) = W at *
      have hc1 := box_cells HX1.out
      have g := keepE HG.out HB.out
      go_wp2_with (go_at_call 114; refine (HAt.out _ _ HB.out).mono ?_; rw [EA.out]; rintro e w3 ⟨rfl, rfl⟩)
      go_ret
      exact ⟨ret_int HR.out.symm, HB.out⟩
    · have HR := Lib.hid (HR1.out h0)
      have hd : (pof != 0) = true := by simpa using h0
      go_enter Tryz.func127, Tryz.ntmps127
      go_upto_region 1 with (fail)
      generalize w.alloc (.cells #[.int .i64 n.id, .int .i64 n.part, .int .i64 n.bar, .int .i64 n.voice, .int .i64 n.ossia, .int .i64 n.start.n, .int .i64 n.start.d, .int .i64 n.len.n, .int .i64 n.len.d, .int .i64 n.pitch.s, .int .i64 n.pitch.a, .int .i64 n.pitch.o] 128) = W at *
      have hc1 := box_cells HX1.out
      have g := keepE HG.out HB.out
      go_wp2_with (go_at_call 114; refine (HAt.out _ _ HB.out).mono ?_; rw [EA.out]; rintro e w3 ⟨rfl, rfl⟩)
      go_ret
      exact ⟨ret_int HR.out.symm, HB.out⟩
theorem SoundP_any (q : Pi) (h : vldP q = true) (W : World) : Calls Tryz.prog 162 #[.agg #[.int .i64 q.s, .int .i64 q.a, .int .i64 q.o]] W fun e w' => e = .returned (.int .i64 (soundI q)) ∧ Below W.heap.size W w' := by
  obtain ⟨⟨p1, p2⟩, ⟨p3, p4⟩, p5, p6⟩ := (vldP_iff _).1 h
  exact Sound_any _ _ _ W p1 p2 (by omega) (by omega) (by omega) (by omega)
set_option maxHeartbeats 1000000 in
theorem RRange_any (p : Pa) (x : Pi) (w : World) (h1 : vldP p.low = true) (h2 : vldP p.high = true) (h3 : vldP x = true) :
    Calls Tryz.prog 128 #[.agg #[.int .i64 p.id, .int .i64 p.section_, .int .i64 p.of, .int .i64 p.octave, .int .i64 p.desks, .int .i64 p.shift.x, .int .i64 p.shift.y, .int .i64 p.low.s, .int .i64 p.low.a, .int .i64 p.low.o, .int .i64 p.high.s, .int .i64 p.high.a, .int .i64 p.high.o], .agg #[.int .i64 x.s, .int .i64 x.a, .int .i64 x.o]] w fun e w' => e = .returned (.bool (inB (soundI x) (soundI p.low) (soundI p.high))) ∧ Below w.heap.size w w' := by
  obtain ⟨x1, x2, hb⟩ := box2 (w := w) (A := .cells #[.int .i64 p.id, .int .i64 p.section_, .int .i64 p.of, .int .i64 p.octave, .int .i64 p.desks, .int .i64 p.shift.x, .int .i64 p.shift.y, .int .i64 p.low.s, .int .i64 p.low.a, .int .i64 p.low.o, .int .i64 p.high.s, .int .i64 p.high.a, .int .i64 p.high.o] 93) (B := .cells #[.int .i64 x.s, .int .i64 x.a, .int .i64 x.o] 62) (Below.refl _ _)
  have HX1 := Lib.hid x1; have HX2 := Lib.hid x2; have HB := Lib.hid hb; clear x1 x2 hb
  have H1 := Lib.hid (SoundP_any p.low h1); have H2 := Lib.hid (SoundP_any p.high h2); have H3 := Lib.hid (SoundP_any x h3)
  have H4 := Lib.hid (fun W => (r8in_any (soundI x) (soundI p.low) (soundI p.high) W).mono fun e w' h => (⟨h.1, h.2 ▸ Below.refl _ _⟩ : _ ∧ Below W.heap.size W w'))
  generalize inB (soundI x) (soundI p.low) (soundI p.high) = R at *
  generalize soundI x = n0 at *; generalize soundI p.low = n1 at *; generalize soundI p.high = n2 at *
  go_enter Tryz.func128, Tryz.ntmps128
  go_upto_region 1 with (fail)
  generalize (w.alloc (.cells #[.int .i64 p.id, .int .i64 p.section_, .int .i64 p.of, .int .i64 p.octave, .int .i64 p.desks, .int .i64 p.shift.x, .int .i64 p.shift.y, .int .i64 p.low.s, .int .i64 p.low.a, .int .i64 p.low.o, .int .i64 p.high.s, .int .i64 p.high.a, .int .i64 p.high.o] 93)).alloc (.cells #[.int .i64 x.s, .int .i64 x.a, .int .i64 x.o] 62) = W at *
  have hc1 := box_cells HX1.out; have hc2 := box_cells HX2.out
  have g7 := cell_regrown (hc1 7); have g8 := cell_regrown (hc1 8); have g9 := cell_regrown (hc1 9); have g10 := cell_regrown (hc1 10); have g11 := cell_regrown (hc1 11); have g12 := cell_regrown (hc1 12)
  have k0 := cell_regrown (hc2 0); have k1 := cell_regrown (hc2 1); have k2 := cell_regrown (hc2 2)
  refine wp_quietB (by kernel_rfl) (by kernel_rfl) ?_
  (repeat (go_big_quiet_step (fail)))
  go_big_quiet_step ((go_at_call 162; refine Calls.regrown_of (H3.out _)))
  (repeat (go_big_quiet_step (fail)))
  go_big_quiet_step ((go_at_call 162; refine Calls.regrown_of (H1.out _)))
  (repeat (go_big_quiet_step (fail)))
  go_big_quiet_step ((go_at_call 162; refine Calls.regrown_of (H2.out _)))
  (repeat (go_big_quiet_step (fail)))
  go_big_quiet_step ((go_at_call 79; refine Calls.regrown_of (H4.out _)))
  (repeat (go_big_quiet_step (fail)))
  refine wpQuiet_nil ?_
  intro w9 hb9
  go_wp2
  go_ret
  exact ⟨rfl, HB.out.trans (hb9.mono HB.out.size)⟩
/-- Does layer 8 call a score few? -/
def few8 (s : Sc) : Bool := decide (s.bars.length ≤ 60) && decide (s.parts.length ≤ 61) && decide (s.notes.length ≤ 60)
theorem RFew8_any (s : Sc) (q : Sp) (w : World) : Calls Tryz.prog 32 #[.agg #[.int .i64 s.version, .slice q.ab s.bars.length q.cb, .slice q.ap s.parts.length q.cp, .slice q.an s.notes.length q.cn]] w fun e w' => e = .returned (.bool (few8 s)) ∧ Below w.heap.size w w' := by
  have HX1 := Lib.hid (heap_alloc_new w (.cells #[.int .i64 s.version, .slice q.ab s.bars.length q.cb, .slice q.ap s.parts.length q.cp, .slice q.an s.notes.length q.cn] 26))
  have HB := Lib.hid ((Below.refl w.heap.size w).alloc (Nat.le_refl _) (.cells #[.int .i64 s.version, .slice q.ab s.bars.length q.cb, .slice q.ap s.parts.length q.cp, .slice q.an s.notes.length q.cn] 26))
  have HR := Lib.hid (show few8 s = (decide (s.bars.length ≤ 60) && decide (s.parts.length ≤ 61) && decide (s.notes.length ≤ 60)) from rfl)
  generalize few8 s = R at *
  generalize s.bars.length = n1 at *; generalize s.parts.length = n2 at *; generalize s.notes.length = n3 at *
  go_enter Tryz.func32, Tryz.ntmps32
  go_upto_region 1 with (fail)
  generalize w.alloc (.cells #[.int .i64 s.version, .slice q.ab n1 q.cb, .slice q.ap n2 q.cp, .slice q.an n3 q.cn] 26) = W at *
  have hc1 := box_cells HX1.out
  go_wp2
  all_goals (go_ret; refine ⟨ret_bool ?_, HB.out⟩; rw [HR.out]; rw [Bool.eq_iff_iff]; simp only [Bool.and_eq_true, decide_eq_true_eq, Bool.false_eq_true, false_iff, iff_false]; omega)
open Go.RowKit Go.Sort

open Go.RowKit Go.Sort

theorem r13in_any (n lo hi : Int) (w : World) : Calls Tryz.prog 203 #[.int .i64 n, .int .i64 lo, .int .i64 hi] w fun e w' => e = .returned (.bool (inB n lo hi)) ∧ w = w' := by
  go_enter Tryz.func203, Tryz.ntmps203
  go_wp2
  all_goals (go_ret; exact ⟨by simp [inB, *] <;> omega, rfl⟩)
set_option maxRecDepth 100000 in
set_option maxHeartbeats 4000000 in
theorem R13Part_any (p : Pa) (w : World) : Calls Tryz.prog 179 #[.agg #[.int .i64 p.id, .int .i64 p.section_, .int .i64 p.of, .int .i64 p.octave, .int .i64 p.desks, .int .i64 p.shift.x, .int .i64 p.shift.y, .int .i64 p.low.s, .int .i64 p.low.a, .int .i64 p.low.o, .int .i64 p.high.s, .int .i64 p.high.a, .int .i64 p.high.o]] w fun e w' => e = .returned (.bool (writtenB p)) ∧ Below w.heap.size w w' := by
  have HX1 := Lib.hid (heap_alloc_new w (.cells #[.int .i64 p.id, .int .i64 p.section_, .int .i64 p.of, .int .i64 p.octave, .int .i64 p.desks, .int .i64 p.shift.x, .int .i64 p.shift.y, .int .i64 p.low.s, .int .i64 p.low.a, .int .i64 p.low.o, .int .i64 p.high.s, .int .i64 p.high.a, .int .i64 p.high.o] 93))
  have HB := Lib.hid ((Below.refl w.heap.size w).alloc (Nat.le_refl _) (.cells #[.int .i64 p.id, .int .i64 p.section_, .int .i64 p.of, .int .i64 p.octave, .int .i64 p.desks, .int .i64 p.shift.x, .int .i64 p.shift.y, .int .i64 p.low.s, .int .i64 p.low.a, .int .i64 p.low.o, .int .i64 p.high.s, .int .i64 p.high.a, .int .i64 p.high.o] 93))
  have HR0 := Lib.hid (show writtenB p = (inB p.shift.x (-21) 21 && inB p.shift.y (-36) 36 && inB (7 * p.shift.y - 12 * p.shift.x) (-12) 12 && vldP p.low && vldP p.high && decide (numI p.low ≤ numI p.high)) from rfl)
  have HS1 := Lib.hid (fun (h : vldP p.low = true) W => SoundP_any p.low h W)
  have HS2 := Lib.hid (fun (h : vldP p.high = true) W => SoundP_any p.high h W)
  have HN1 := Lib.hid (fun (h : vldP p.low = true) => numI_vld h)
  have HN2 := Lib.hid (fun (h : vldP p.high = true) => numI_vld h)
  generalize writtenB p = R at *
  generalize soundI p.low = n1 at *; generalize soundI p.high = n2 at *
  generalize numI p.low = m1 at *; generalize numI p.high = m2 at *
  obtain ⟨id, sec, pof, oct, desks, ⟨x, y⟩, ⟨ls, la, lo⟩, ⟨hs, ha, ho⟩⟩ := p
  simp only at *
  generalize hE1 : inB x (-21) 21 = b1 at *; have E1 := Lib.hid hE1
  generalize hE2 : inB y (-36) 36 = b2 at *; have E2 := Lib.hid hE2
  generalize hE7 : vldP ⟨ls, la, lo⟩ = b7 at *; have E7 := Lib.hid (show vldB ls la lo = b7 from hE7); clear hE7
  generalize hE8 : vldP ⟨hs, ha, ho⟩ = b8 at *; have E8 := Lib.hid (show vldB hs ha ho = b8 from hE8); clear hE8
  go_enter Tryz.func179, Tryz.ntmps179
  go_upto_region 1 with (fail)
  generalize w.alloc (.cells #[.int .i64 (⟨id, sec, pof, oct, desks, ⟨x, y⟩, ⟨ls, la, lo⟩, ⟨hs, ha, ho⟩⟩ : Pa).id, .int .i64 (⟨id, sec, pof, oct, desks, ⟨x, y⟩, ⟨ls, la, lo⟩, ⟨hs, ha, ho⟩⟩ : Pa).section_, .int .i64 (⟨id, sec, pof, oct, desks, ⟨x, y⟩, ⟨ls, la, lo⟩, ⟨hs, ha, ho⟩⟩ : Pa).of, .int .i64 (⟨id, sec, pof, oct, desks, ⟨x, y⟩, ⟨ls, la, lo⟩, ⟨hs, ha, ho⟩⟩ : Pa).octave, .int .i64 (⟨id, sec, pof, oct, desks, ⟨x, y⟩, ⟨ls, la, lo⟩, ⟨hs, ha, ho⟩⟩ : Pa).desks, .int .i64 (⟨id, sec, pof, oct, desks, ⟨x, y⟩, ⟨ls, la, lo⟩, ⟨hs, ha, ho⟩⟩ : Pa).shift.x, .int .i64 (⟨id, sec, pof, oct, desks, ⟨x, y⟩, ⟨ls, la, lo⟩, ⟨hs, ha, ho⟩⟩ : Pa).shift.y, .int .i64 (⟨id, sec, pof, oct, desks, ⟨x, y⟩, ⟨ls, la, lo⟩, ⟨hs, ha, ho⟩⟩ : Pa).low.s, .int .i64 (⟨id, sec, pof, oct, desks, ⟨x, y⟩, ⟨ls, la, lo⟩, ⟨hs, ha, ho⟩⟩ : Pa).low.a, .int .i64 (⟨id, sec, pof, oct, desks, ⟨x, y⟩, ⟨ls, la, lo⟩, ⟨hs, ha, ho⟩⟩ : Pa).low.o, .int .i64 (⟨id, sec, pof, oct, desks, ⟨x, y⟩, ⟨ls, la, lo⟩, ⟨hs, ha, ho⟩⟩ : Pa).high.s, .int .i64 (⟨id, sec, pof, oct, desks, ⟨x, y⟩, ⟨ls, la, lo⟩, ⟨hs, ha, ho⟩⟩ : Pa).high.a, .int .i64 (⟨id, sec, pof, oct, desks, ⟨x, y⟩, ⟨ls, la, lo⟩, ⟨hs, ha, ho⟩⟩ : Pa).high.o] 93) = W at *
  have hc1 := box_cells HX1.out
  cases b7
  · have HR := Lib.hid (show R = false by rw [HR0.out]; simp)
    clear hE1 hE2
    cases b8 <;> (go_wp2_with (first | (go_at_call 161; refine (RValid_any _ _ _ _).mono ?_; (first | rw [E7.out] | rw [E8.out]); rintro e w2 ⟨rfl, hb⟩; (try replace hb := drewB hb); replace HB := Lib.hid (HB.out.trans (hb.mono HB.out.size)); (try (replace HX1 := Lib.hid (blk_keep HX1.out hb); replace hc1 := box_cells HX1.out; replace hf1 := box_free HX1.out; replace hz1 := lt_blk HX1.out)); clear hb) | (go_at_call 203; refine (r13in_any _ _ _ _).mono ?_; (first | rw [E1.out] | rw [E2.out] | rw [E3.out]); rintro e w' ⟨rfl, rfl⟩)); go_ret; exact ⟨ret_bool HR.out.symm, HB.out⟩)
  cases b8
  · have HR := Lib.hid (show R = false by rw [HR0.out]; simp)
    clear hE1 hE2
    (go_wp2_with (first | (go_at_call 161; refine (RValid_any _ _ _ _).mono ?_; (first | rw [E7.out] | rw [E8.out]); rintro e w2 ⟨rfl, hb⟩; (try replace hb := drewB hb); replace HB := Lib.hid (HB.out.trans (hb.mono HB.out.size)); (try (replace HX1 := Lib.hid (blk_keep HX1.out hb); replace hc1 := box_cells HX1.out; replace hf1 := box_free HX1.out; replace hz1 := lt_blk HX1.out)); clear hb) | (go_at_call 203; refine (r13in_any _ _ _ _).mono ?_; (first | rw [E1.out] | rw [E2.out] | rw [E3.out]); rintro e w' ⟨rfl, rfl⟩)); go_ret; exact ⟨ret_bool HR.out.symm, HB.out⟩)
  cases b1
  · have HR := Lib.hid (show R = false by rw [HR0.out]; simp)
    clear hE1 hE2
    (go_wp2_with (first | (go_at_call 161; refine (RValid_any _ _ _ _).mono ?_; (first | rw [E7.out] | rw [E8.out]); rintro e w2 ⟨rfl, hb⟩; (try replace hb := drewB hb); replace HB := Lib.hid (HB.out.trans (hb.mono HB.out.size)); (try (replace HX1 := Lib.hid (blk_keep HX1.out hb); replace hc1 := box_cells HX1.out; replace hf1 := box_free HX1.out; replace hz1 := lt_blk HX1.out)); clear hb) | (go_at_call 203; refine (r13in_any _ _ _ _).mono ?_; (first | rw [E1.out] | rw [E2.out] | rw [E3.out]); rintro e w' ⟨rfl, rfl⟩)); go_ret; exact ⟨ret_bool HR.out.symm, HB.out⟩)
  cases b2
  · have HR := Lib.hid (show R = false by rw [HR0.out]; simp)
    clear hE1 hE2
    (go_wp2_with (first | (go_at_call 161; refine (RValid_any _ _ _ _).mono ?_; (first | rw [E7.out] | rw [E8.out]); rintro e w2 ⟨rfl, hb⟩; (try replace hb := drewB hb); replace HB := Lib.hid (HB.out.trans (hb.mono HB.out.size)); (try (replace HX1 := Lib.hid (blk_keep HX1.out hb); replace hc1 := box_cells HX1.out; replace hf1 := box_free HX1.out; replace hz1 := lt_blk HX1.out)); clear hb) | (go_at_call 203; refine (r13in_any _ _ _ _).mono ?_; (first | rw [E1.out] | rw [E2.out] | rw [E3.out]); rintro e w' ⟨rfl, rfl⟩)); go_ret; exact ⟨ret_bool HR.out.symm, HB.out⟩)
  obtain ⟨x1, x2⟩ := (inB_iff _ _ _).1 hE1
  obtain ⟨y1, y2⟩ := (inB_iff _ _ _).1 hE2
  have e1 : IntKind.i64.wrap (7 * y) = 7 * y := IntWalk.i64_in _ (by omega)
  have e2 : IntKind.i64.wrap (12 * x) = 12 * x := IntWalk.i64_in _ (by omega)
  have e3 : IntKind.i64.wrap (7 * y - 12 * x) = 7 * y - 12 * x := IntWalk.i64_in _ (by omega)
  generalize hE3 : inB (7 * y - 12 * x) (-12) 12 = b3 at *; have E3 := Lib.hid hE3
  clear hE1 hE2 hE3
  cases b3
  · have HR := Lib.hid (show R = false by rw [HR0.out]; simp)
    (go_wp2_with (first | (go_at_call 161; refine (RValid_any _ _ _ _).mono ?_; (first | rw [E7.out] | rw [E8.out]); rintro e w2 ⟨rfl, hb⟩; (try replace hb := drewB hb); replace HB := Lib.hid (HB.out.trans (hb.mono HB.out.size)); (try (replace HX1 := Lib.hid (blk_keep HX1.out hb); replace hc1 := box_cells HX1.out; replace hf1 := box_free HX1.out; replace hz1 := lt_blk HX1.out)); clear hb) | (go_at_call 203; refine (r13in_any _ _ _ _).mono ?_; (first | rw [E1.out] | rw [E2.out] | rw [E3.out]); rintro e w' ⟨rfl, rfl⟩)); go_ret; exact ⟨ret_bool HR.out.symm, HB.out⟩)
  have HR := Lib.hid (show R = decide (n1 ≤ n2) by rw [HR0.out, HN1.out rfl, HN2.out rfl]; simp)
  replace HS1 := Lib.hid (HS1.out rfl)
  replace HS2 := Lib.hid (HS2.out rfl)
  go_wp2_with (first | (go_at_call 161; refine (RValid_any _ _ _ _).mono ?_; (first | rw [E7.out] | rw [E8.out]); rintro e w2 ⟨rfl, hb⟩; (try replace hb := drewB hb); replace HB := Lib.hid (HB.out.trans (hb.mono HB.out.size)); (try (replace HX1 := Lib.hid (blk_keep HX1.out hb); replace hc1 := box_cells HX1.out; replace hf1 := box_free HX1.out; replace hz1 := lt_blk HX1.out)); clear hb) | (go_at_call 203; refine (r13in_any _ _ _ _).mono ?_; (first | rw [E1.out] | rw [E2.out] | rw [E3.out]); rintro e w' ⟨rfl, rfl⟩))
  have g7 := cell_regrown (hc1 7); have g8 := cell_regrown (hc1 8); have g9 := cell_regrown (hc1 9); have g10 := cell_regrown (hc1 10); have g11 := cell_regrown (hc1 11); have g12 := cell_regrown (hc1 12)
  refine wp_quietB (by kernel_rfl) (by kernel_rfl) ?_
  (repeat (go_big_quiet_step (fail)))
  go_big_quiet_step ((go_at_call 162; refine Calls.regrown_of (HS1.out _)))
  (repeat (go_big_quiet_step (fail)))
  go_big_quiet_step ((go_at_call 162; refine Calls.regrown_of (HS2.out _)))
  (repeat (go_big_quiet_step (fail)))
  refine wpQuiet_nil ?_
  intro w9 hb9
  go_wp2
  go_ret
  exact ⟨ret_bool HR.out.symm, HB.out.trans (hb9.mono HB.out.size)⟩
theorem rback_good {p : Pa} (h : shiftB p.shift = true) : backR p.shift.x p.shift.y = (-p.shift.x, -p.shift.y, 0) := by
  have : frmB p.shift.x p.shift.y = true := shift_frm h
  simp [backR, this]
set_option maxRecDepth 100000 in
set_option maxHeartbeats 4000000 in
theorem R13shift_any (p : Pa) (k : Int) (w : World) (h : shiftB p.shift = true) (hk : keyB k = true) :
    Calls Tryz.prog 181 #[.agg #[.int .i64 p.id, .int .i64 p.section_, .int .i64 p.of, .int .i64 p.octave, .int .i64 p.desks, .int .i64 p.shift.x, .int .i64 p.shift.y, .int .i64 p.low.s, .int .i64 p.low.a, .int .i64 p.low.o, .int .i64 p.high.s, .int .i64 p.high.a, .int .i64 p.high.o], .int .i64 k] w fun e w' => e = .returned (.tuple #[.int .i64 (mvK p k), .agg #[.int .i64 (mvX p k), .int .i64 (mvY p k)]]) ∧ Below w.heap.size w w' := by
  have HBk := Lib.hid (rback_good h)
  have HM := Lib.hid (move_good h hk)
  clear h hk
  obtain ⟨x1, x2, hb⟩ := box2 (w := w) (A := .cells #[.int .i64 p.id, .int .i64 p.section_, .int .i64 p.of, .int .i64 p.octave, .int .i64 p.desks, .int .i64 p.shift.x, .int .i64 p.shift.y, .int .i64 p.low.s, .int .i64 p.low.a, .int .i64 p.low.o, .int .i64 p.high.s, .int .i64 p.high.a, .int .i64 p.high.o] 93) (B := .cells #[.int .i64 0, .int .i64 0] 91) (Below.refl _ _)
  have HX1 := Lib.hid x1; have HX2 := Lib.hid x2; have HB := Lib.hid hb; clear x1 x2 hb
  generalize mvK p k = K at *; generalize mvX p k = X at *; generalize mvY p k = Y at *
  go_enter Tryz.func181, Tryz.ntmps181
  go_upto_region 1 with (fail)
  generalize (w.alloc (.cells #[.int .i64 p.id, .int .i64 p.section_, .int .i64 p.of, .int .i64 p.octave, .int .i64 p.desks, .int .i64 p.shift.x, .int .i64 p.shift.y, .int .i64 p.low.s, .int .i64 p.low.a, .int .i64 p.low.o, .int .i64 p.high.s, .int .i64 p.high.a, .int .i64 p.high.o] 93)).alloc (.cells #[.int .i64 0, .int .i64 0] 91) = W at *
  have hc1 := box_cells HX1.out
  go_upto_region 2 with (go_at_call 204; refine (RBack_any _ _ _).mono ?_; rw [HBk.out]; rintro e w2 ⟨rfl, hb⟩; (try replace hb := drewB hb); replace HB := Lib.hid (HB.out.trans (hb.mono HB.out.size)); (try (replace HX1 := Lib.hid (blk_keep HX1.out hb); replace hc1 := box_cells HX1.out; replace hf1 := box_free HX1.out; replace hz1 := lt_blk HX1.out)); (try (replace HX2 := Lib.hid (blk_keep HX2.out hb); replace hc2 := box_cells HX2.out; replace hf2 := box_free HX2.out; replace hz2 := lt_blk HX2.out)); (try (replace HX3 := Lib.hid (blk_keep HX3.out hb); replace hc3 := box_cells HX3.out; replace hf3 := box_free HX3.out; replace hz3 := lt_blk HX3.out)); (try (replace HX4 := Lib.hid (blk_keep HX4.out hb); replace hc4 := box_cells HX4.out; replace hf4 := box_free HX4.out; replace hz4 := lt_blk HX4.out)); clear hb)
  have HX3 := Lib.hid (heap_alloc_new w2 (.cells #[.int .i64 (-p.shift.x), .int .i64 (-p.shift.y)] 91))
  have hb := (Below.refl w2.heap.size w2).alloc (Nat.le_refl _) (.cells #[.int .i64 (-p.shift.x), .int .i64 (-p.shift.y)] 91)
  replace HX1 := Lib.hid (blk_keep HX1.out hb); replace HX2 := Lib.hid (blk_keep HX2.out hb); replace HB := Lib.hid (HB.out.trans (hb.mono HB.out.size))
  generalize w2.alloc (.cells #[.int .i64 (-p.shift.x), .int .i64 (-p.shift.y)] 91) = W3 at *
  clear hb
  (try (replace hc1 := box_cells HX1.out; replace hf1 := box_free HX1.out; replace hz1 := lt_blk HX1.out)); (try (replace hc2 := box_cells HX2.out; replace hf2 := box_free HX2.out; replace hz2 := lt_blk HX2.out)); (try (replace hc3 := box_cells HX3.out; replace hf3 := box_free HX3.out; replace hz3 := lt_blk HX3.out)); (try (replace hc4 := box_cells HX4.out; replace hf4 := box_free HX4.out; replace hz4 := lt_blk HX4.out)); 
  have hc3 := box_cells HX3.out
  go_upto_region 3 with (go_at_call 205; refine (r3Move_any _ _ _ _).mono ?_; rw [HM.out]; rintro e w4 ⟨rfl, hb⟩; (try replace hb := drewB hb); replace HB := Lib.hid (HB.out.trans (hb.mono HB.out.size)); (try (replace HX1 := Lib.hid (blk_keep HX1.out hb); replace hc1 := box_cells HX1.out; replace hf1 := box_free HX1.out; replace hz1 := lt_blk HX1.out)); (try (replace HX2 := Lib.hid (blk_keep HX2.out hb); replace hc2 := box_cells HX2.out; replace hf2 := box_free HX2.out; replace hz2 := lt_blk HX2.out)); (try (replace HX3 := Lib.hid (blk_keep HX3.out hb); replace hc3 := box_cells HX3.out; replace hf3 := box_free HX3.out; replace hz3 := lt_blk HX3.out)); (try (replace HX4 := Lib.hid (blk_keep HX4.out hb); replace hc4 := box_cells HX4.out; replace hf4 := box_free HX4.out; replace hz4 := lt_blk HX4.out)); clear hb)
  have HX4 := Lib.hid (heap_alloc_new w4 (.cells #[.int .i64 X, .int .i64 Y] 91))
  have hb := (Below.refl w4.heap.size w4).alloc (Nat.le_refl _) (.cells #[.int .i64 X, .int .i64 Y] 91)
  replace HX2 := Lib.hid (blk_keep HX2.out hb); replace HB := Lib.hid (HB.out.trans (hb.mono HB.out.size))
  generalize w4.alloc (.cells #[.int .i64 X, .int .i64 Y] 91) = W5 at *
  clear hb
  have hc4 := box_cells HX4.out
  have g0 := cell_regrown (hc4 0); have g1 := cell_regrown (hc4 1)
  refine wp_tailB 3 (by kernel_rfl) (by kernel_rfl) ?_
  simp only [List.take_succ_cons, List.take_zero, List.drop_succ_cons, List.drop_zero]
  (repeat (go_big_quiet_step (fail)))
  refine wpQuiet_nil ?_
  intro w6 hb6
  replace HX2 := Lib.hid (blk_keep HX2.out hb6); replace HB := Lib.hid (HB.out.trans (hb6.mono HB.out.size))
  clear hb6 g0 g1
  clear hc1 hf1 hz1 hc2 hf2 hz2 hc3 hc4
  have hc2 := box_cells HX2.out; have hf2 := box_free HX2.out; have hz2 := lt_blk HX2.out
  go_wp2
  exact bodyPost_ret (v := .tuple #[.int .i64 K, .agg #[.int .i64 X, .int .i64 Y]]) (by simp [results, Tryz.results181, go_sem, hc2, hf2]) rfl ⟨rfl, (HB.out.setCell (by simp <;> omega) _).setCell (by simp <;> omega) _⟩
open Go.RowKit Go.Sort

/-- The cells of a part. -/
abbrev PaC (W : World) (b : Nat) (p : Pa) : Prop := W.cell? ⟨b, 0, none⟩ = some (.int .i64 p.id) ∧ W.cell? ⟨b, 1, none⟩ = some (.int .i64 p.section_) ∧ W.cell? ⟨b, 2, none⟩ = some (.int .i64 p.of) ∧ W.cell? ⟨b, 3, none⟩ = some (.int .i64 p.octave) ∧ W.cell? ⟨b, 4, none⟩ = some (.int .i64 p.desks) ∧ W.cell? ⟨b, 5, none⟩ = some (.int .i64 p.shift.x) ∧ W.cell? ⟨b, 6, none⟩ = some (.int .i64 p.shift.y) ∧ W.cell? ⟨b, 7, none⟩ = some (.int .i64 p.low.s) ∧ W.cell? ⟨b, 8, none⟩ = some (.int .i64 p.low.a) ∧ W.cell? ⟨b, 9, none⟩ = some (.int .i64 p.low.o) ∧ W.cell? ⟨b, 10, none⟩ = some (.int .i64 p.high.s) ∧ W.cell? ⟨b, 11, none⟩ = some (.int .i64 p.high.a) ∧ W.cell? ⟨b, 12, none⟩ = some (.int .i64 p.high.o)
theorem paC {W : World} {b : Nat} {p : Pa} {T : TypeId} {fr : Nat × Nat} (h : W.heap[b]? = some (.cells #[.int .i64 p.id, .int .i64 p.section_, .int .i64 p.of, .int .i64 p.octave, .int .i64 p.desks, .int .i64 p.shift.x, .int .i64 p.shift.y, .int .i64 p.low.s, .int .i64 p.low.a, .int .i64 p.low.o, .int .i64 p.high.s, .int .i64 p.high.a, .int .i64 p.high.o] T fr)) : PaC W b p :=
  ⟨box_cells h 0, box_cells h 1, box_cells h 2, box_cells h 3, box_cells h 4, box_cells h 5, box_cells h 6, box_cells h 7, box_cells h 8, box_cells h 9, box_cells h 10, box_cells h 11, box_cells h 12⟩
theorem shift_of {p : Pa} (h : writtenB p = true) : shiftB p.shift = true := by simp only [writtenB, Bool.and_eq_true] at h; exact h.1.1.1
set_option maxRecDepth 100000 in
set_option maxHeartbeats 4000000 in
theorem R13Key_any (p : Pa) (k : Int) (w : World) : Calls Tryz.prog 159 #[.agg #[.int .i64 p.id, .int .i64 p.section_, .int .i64 p.of, .int .i64 p.octave, .int .i64 p.desks, .int .i64 p.shift.x, .int .i64 p.shift.y, .int .i64 p.low.s, .int .i64 p.low.a, .int .i64 p.low.o, .int .i64 p.high.s, .int .i64 p.high.a, .int .i64 p.high.o], .int .i64 k] w fun e w' => e = .returned (.tuple #[.int .i64 (keyR p k).1, .int .i64 (keyR p k).2]) ∧ Below w.heap.size w w' := by
  have HX1 := Lib.hid (heap_alloc_new w (.cells #[.int .i64 p.id, .int .i64 p.section_, .int .i64 p.of, .int .i64 p.octave, .int .i64 p.desks, .int .i64 p.shift.x, .int .i64 p.shift.y, .int .i64 p.low.s, .int .i64 p.low.a, .int .i64 p.low.o, .int .i64 p.high.s, .int .i64 p.high.a, .int .i64 p.high.o] 93))
  have HB := Lib.hid ((Below.refl w.heap.size w).alloc (Nat.le_refl _) (.cells #[.int .i64 p.id, .int .i64 p.section_, .int .i64 p.of, .int .i64 p.octave, .int .i64 p.desks, .int .i64 p.shift.x, .int .i64 p.shift.y, .int .i64 p.low.s, .int .i64 p.low.a, .int .i64 p.low.o, .int .i64 p.high.s, .int .i64 p.high.a, .int .i64 p.high.o] 93))
  have HPa := Lib.hid (fun W => R13Part_any p W)
  cases hw : writtenB p
  · have HR := Lib.hid (show keyR p k = (0, 1) by simp [keyR, hw])
    rw [hw] at HPa
    clear hw
    go_enter Tryz.func159, Tryz.ntmps159
    go_upto_region 1 with (fail)
    generalize w.alloc (.cells #[.int .i64 p.id, .int .i64 p.section_, .int .i64 p.of, .int .i64 p.octave, .int .i64 p.desks, .int .i64 p.shift.x, .int .i64 p.shift.y, .int .i64 p.low.s, .int .i64 p.low.a, .int .i64 p.low.o, .int .i64 p.high.s, .int .i64 p.high.a, .int .i64 p.high.o] 93) = W at *
    have hc1 := box_cells HX1.out
    go_wp2_with ((go_at_call 179; refine (HPa.out _).mono ?_; rintro e w2 ⟨rfl, hb⟩; (try replace hb := drewB hb); replace HB := Lib.hid (HB.out.trans (hb.mono HB.out.size)); (try (replace HX1 := Lib.hid (blk_keep HX1.out hb); replace hc1 := box_cells HX1.out; replace hf1 := box_free HX1.out; replace hz1 := lt_blk HX1.out)); clear hb))
    go_ret2
    rw [HR.out]
    exact ⟨rfl, HB.out⟩
  · rw [hw] at HPa
    cases hk : keyB k
    · have HR := Lib.hid (show keyR p k = (0, 1) by simp [keyR, hk])
      have HK := Lib.hid hk
      clear hw hk
      go_enter Tryz.func159, Tryz.ntmps159
      go_upto_region 1 with (fail)
      generalize w.alloc (.cells #[.int .i64 p.id, .int .i64 p.section_, .int .i64 p.of, .int .i64 p.octave, .int .i64 p.desks, .int .i64 p.shift.x, .int .i64 p.shift.y, .int .i64 p.low.s, .int .i64 p.low.a, .int .i64 p.low.o, .int .i64 p.high.s, .int .i64 p.high.a, .int .i64 p.high.o] 93) = W at *
      have hc1 := box_cells HX1.out
      go_wp2_with (first | (go_at_call 179; refine (HPa.out _).mono ?_; rintro e w2 ⟨rfl, hb⟩; (try replace hb := drewB hb); replace HB := Lib.hid (HB.out.trans (hb.mono HB.out.size)); (try (replace HX1 := Lib.hid (blk_keep HX1.out hb); replace hc1 := box_cells HX1.out; replace hf1 := box_free HX1.out; replace hz1 := lt_blk HX1.out)); clear hb) | (go_at_call 180; refine (r3Key_any _ _).mono ?_; rw [HK.out]; rintro e w' ⟨rfl, rfl⟩))
      go_ret2
      rw [HR.out]
      exact ⟨rfl, HB.out⟩
    · have HR := Lib.hid (show keyR p k = (mvK p k, 0) by simp [keyR, hw, hk])
      have HK := Lib.hid hk
      have HSh := Lib.hid (fun W => R13shift_any p k W (shift_of hw) hk)
      clear hw hk
      generalize mvK p k = K at *; generalize mvX p k = X at *; generalize mvY p k = Y at *
      go_enter Tryz.func159, Tryz.ntmps159
      go_upto_region 1 with (fail)
      generalize w.alloc (.cells #[.int .i64 p.id, .int .i64 p.section_, .int .i64 p.of, .int .i64 p.octave, .int .i64 p.desks, .int .i64 p.shift.x, .int .i64 p.shift.y, .int .i64 p.low.s, .int .i64 p.low.a, .int .i64 p.low.o, .int .i64 p.high.s, .int .i64 p.high.a, .int .i64 p.high.o] 93) = W at *
      have hc1 := box_cells HX1.out
      go_wp2_with (first | (go_at_call 179; refine (HPa.out _).mono ?_; rintro e w2 ⟨rfl, hb⟩; (try replace hb := drewB hb); replace HB := Lib.hid (HB.out.trans (hb.mono HB.out.size)); (try (replace HX1 := Lib.hid (blk_keep HX1.out hb); replace hc1 := box_cells HX1.out; replace hf1 := box_free HX1.out; replace hz1 := lt_blk HX1.out)); clear hb) | (go_at_call 180; refine (r3Key_any _ _).mono ?_; rw [HK.out]; rintro e w' ⟨rfl, rfl⟩) | (go_at_call 181; refine (HSh.out _).mono ?_; rintro e w4 ⟨rfl, hb⟩; (try replace hb := drewB hb); replace HB := Lib.hid (HB.out.trans (hb.mono HB.out.size)); (try (replace HX1 := Lib.hid (blk_keep HX1.out hb); replace hc1 := box_cells HX1.out; replace hf1 := box_free HX1.out; replace hz1 := lt_blk HX1.out)); clear hb))
      go_ret2
      rw [HR.out]
      exact ⟨rfl, HB.out.alloc HB.out.size _⟩
end Go.Proofs.YtcelciomhngajaaGreatDoor

