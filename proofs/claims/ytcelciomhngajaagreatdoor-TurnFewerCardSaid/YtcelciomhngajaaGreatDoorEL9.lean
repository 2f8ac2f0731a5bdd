/- Texts of this seat, laid together: TurnPure6, TurnLaw7. -/
import Derived.Test.YtcelciomhngajaaGreatDoorTA
import Derived.Test.YtcelciomhngajaaGreatDoorEL8
import Derived.Test.YtcelciomhngajaaGreatDoorEL5
/- Turns in plain Lean: a score with a note less. -/
namespace Go.Proofs.YtcelciomhngajaaGreatDoor
set_option linter.unusedSimpArgs false
set_option linter.unusedVariables false
open Go.RowKit Go.Sort

theorem less_with {s : Sc} (h : validS s = true) {l : List No} (hl : l.Sublist s.notes) : withE s s.version l = 0 := by
  have h0 := h
  simp only [validS, Bool.and_eq_true] at h
  obtain ⟨⟨⟨⟨⟨h1, h2⟩, h3⟩, h4⟩, h5⟩, h6⟩ := h
  have hn : notesB s.bars l = true := by
    simp only [notesB, Bool.and_eq_true, decide_eq_true_eq] at h4 ⊢
    obtain ⟨⟨⟨a1, a2⟩, a3⟩, a4⟩ := h4
    exact ⟨⟨⟨a1, Nat.le_trans hl.length_le a2⟩, List.all_eq_true.2 fun x hx => List.all_eq_true.1 a3 x (hl.subset hx)⟩, a4.sublist (hl.map _)⟩
  have hw : wrongI s.parts l = 0 := by
    have h7 : wrongI s.parts s.notes = 0 := by simpa using h5
    unfold wrongI at h7 ⊢
    split at h7
    · rename_i c1
      split at h7
      · rename_i c2
        rw [if_pos (List.all_eq_true.2 fun x hx => List.all_eq_true.1 c1 x (hl.subset hx)), if_pos (List.all_eq_true.2 fun x hx => List.all_eq_true.1 c2 x (hl.subset hx))]
      · cases h7
    · cases h7
  unfold withE
  rw [h0, show isID s.version = true from h1, hn]
  simpa using hw
theorem less_valid {s : Sc} (h : validS s = true) {l : List No} (hl : l.Sublist s.notes) : validS (withS s s.version l) = true := by
  obtain ⟨h1, h2, h3, h4⟩ := with_ok (less_with h hl)
  exact with_valid h1 h2 h3 h4
theorem less_notes {s : Sc} {l : List No} (hl : l.Sublist s.notes) : ∀ n ∈ (withS s s.version l).notes, n ∈ s.notes := fun n hn => hl.subset ((sortN_perm s.bars l).mem_iff.1 hn)
theorem drop_sub (l : List No) (k : Nat) : (l.take k ++ l.drop (k + 1)).Sublist l := by
  have h : (l.take k ++ l.drop (k + 1)).Sublist (l.take k ++ l.drop k) := by
    refine (List.Sublist.refl _).append ?_
    rw [show l.drop (k + 1) = (l.drop k).drop 1 by rw [List.drop_drop]]
    exact List.drop_sublist _ _
  rwa [List.take_append_drop] at h
/-- Without a note the player is free for no shorter time. -/
theorem less_free {bars : List Ba} {l : List Te} {ms ns : List MeP} (ht : temposB bars l = true) (hv : VwOk bars ms) (hw : VwOk bars ns) (hsub : ∀ i, i < bars.length → ∀ w ∈ (ns.getD i default).notes, w ∈ (ms.getD i default).notes) {k : Nat} (hk : k ≤ bars.length) {a b c d : Rt} (h1 : freeR bars l ms k = ((a, b), 0)) (h2 : freeR bars l ns k = ((c, d), 0)) :
    (rtOk a = true ∧ rtOk b = true ∧ rtOk c = true ∧ rtOk d = true) ∧ cmpR a c ≤ 0 ∧ cmpR b d ≤ 0 := by
  obtain ⟨e1, e2⟩ := fewer_less ht hv hw hsub hk
  obtain ⟨f1, f2⟩ := free_ok ht hv hk h1
  obtain ⟨g1, g2⟩ := free_ok ht hw hk h2
  exact ⟨⟨(redR_ok (by decide) f1).1, (redR_ok (by decide) f2).1, (redR_ok (by decide) g1).1, (redR_ok (by decide) g2).1⟩, (cmp_red (by decide) f1 g1).2.2 e1, (cmp_red (by decide) f2 g2).2.2 e2⟩
open Go.RowKit Go.Sort Go.Shelf

theorem own_empty {w : World} {B g : Nat} {E : TypeId} {sz : Nat} (h : w.heap[g]? = some (.cells #[] E (0, 0))) (hB : B ≤ g) : OwnR w B E sz (.slice (some ⟨g, 0, none⟩) 0 0) [] :=
  ⟨by simp, by simp, .inr ⟨g, 0, #[], rfl, hB, h, Nat.le_refl _, by simp [maxLen], by simp, by simp⟩⟩
theorem kept_grown {w w' : World} {g0 : Nat} (hg : w.grownBy w' (some g0)) (h0 : w.heap[g0]? = some (.cells #[] 128 (0, 0))) {g : Nat} {cs : Array Value} {T' : TypeId} {fr' : Nat × Nat} (h : w.heap[g]? = some (.cells cs T' fr')) (hs : 0 < cs.size) : w'.heap[g]? = some (.cells cs T' fr') :=
  (hg.block g (lt_blk h) (fun e => by
    have e2 : g = g0 := Option.some.inj e
    subst e2
    rw [h0] at h
    simp only [Option.some.injEq, Obj.cells.injEq] at h
    rw [← h.1] at hs
    exact absurd hs (by decide))).trans h
theorem useP {P Q : Prop} (a : P) (b : P → Q) : Q := b a
theorem up_drew {w : World} {b : Nat} {o : Obj} (h : w.heap[b]? = some o) : w.drew.heap[b]? = some o := h
theorem blk_pair {w w' : World} {g : Nat} {o : Obj} (h : w.heap[g]? = some o) (hb : Below w.heap.size w w') : g < w.heap.size ∧ w'.heap[g]? = some o := ⟨lt_blk h, blk_keep h hb⟩
theorem ScAt.set4 {w : World} {s : Sc} {q : Sp} (h : ScAt w s q) {c : Nat} {cs : Array Value} {T : TypeId} {fr : Nat × Nat} (hc : w.heap[c]? = some (.cells cs T fr)) (hs : cs.size < 12) (hne : ∀ ad, q.ab = some ad → ad.block ≠ c) (x0 x1 x2 x3 : Value) : ScAt ((((w.setCell ⟨c, 0, none⟩ x0).setCell ⟨c, 1, none⟩ x1).setCell ⟨c, 2, none⟩ x2).setCell ⟨c, 3, none⟩ x3) s q :=
  ⟨SlAt.setOther (SlAt.setOther (SlAt.setOther (SlAt.setOther h.bars (fun ad e _ => hne ad e) x0) (fun ad e _ => hne ad e) x1) (fun ad e _ => hne ad e) x2) (fun ad e _ => hne ad e) x3, SlAt.set4 h.parts hc (by omega) x0 x1 x2 x3, SlAt.set4 h.notes hc hs x0 x1 x2 x3, h.okb, h.okp, h.okn⟩
theorem far_grown {w w' : World} {B : Nat} {E : TypeId} {sz : Nat} {v : Value} {rows : List (List Value)} (o : OwnR w B E sz v rows) (hg : w.grownBy w' v.ownBlock) {g : Nat} {cs : Array Value} {T : TypeId} {fr : Nat × Nat} (h : w.heap[g]? = some (.cells cs T fr)) (hne : T ≠ E) : w'.heap[g]? = some (.cells cs T fr) :=
  (hg.block g (lt_blk h) (fun e => by
    obtain ⟨cur, hc⟩ := o.isCells e.symm
    rw [h] at hc
    simp only [Option.some.injEq, Obj.cells.injEq] at hc
    exact hne hc.2.1)).trans h
theorem relA {WW w : World} {T : Sc} {tq : Sp} {er : Int} (hs : ScAt w T tq) (hb : RowKit.Below WW.heap.size WW w) : ∃ (tb : Nat) (tq1 : Sp), Value.pointer (some ⟨w.heap.size, 0, none⟩) = Value.pointer (some ⟨tb, 0, none⟩) ∧ Value.int .i64 er = Value.int .i64 er ∧ (w.alloc (.cells #[.int .i64 T.version, .slice tq.ab T.bars.length tq.cb, .slice tq.ap T.parts.length tq.cp, .slice tq.an T.notes.length tq.cn] 26)).heap[tb]? = some (.cells #[.int .i64 T.version, .slice tq1.ab T.bars.length tq1.cb, .slice tq1.ap T.parts.length tq1.cp, .slice tq1.an T.notes.length tq1.cn] 26) ∧ ScAt (w.alloc (.cells #[.int .i64 T.version, .slice tq.ab T.bars.length tq.cb, .slice tq.ap T.parts.length tq.cp, .slice tq.an T.notes.length tq.cn] 26)) T tq1 ∧ RowKit.Below WW.heap.size WW (w.alloc (.cells #[.int .i64 T.version, .slice tq.ab T.bars.length tq.cb, .slice tq.ap T.parts.length tq.cp, .slice tq.an T.notes.length tq.cn] 26)) :=
  ⟨_, tq, rfl, rfl, heap_alloc_new _ _, hs.below (below_box _), hb.alloc hb.size _⟩
theorem relB {WW w : World} {T : Sc} {tq : Sp} {er : Int} {g : Nat} (hx : w.heap[g]? = some (.cells #[.int .i64 0, .slice none 0 0, .slice none 0 0, .slice none 0 0] 26)) (hne : ∀ ad, tq.ab = some ad → ad.block ≠ g) (hg : WW.heap.size ≤ g) (hs : ScAt w T tq) (hb : RowKit.Below WW.heap.size WW w) :
    ∃ (tb : Nat) (tq1 : Sp), Value.pointer (some ⟨g, 0, none⟩) = Value.pointer (some ⟨tb, 0, none⟩) ∧ Value.int .i64 er = Value.int .i64 er ∧ ((((w.setCell ⟨g, 0, none⟩ (.int .i64 T.version)).setCell ⟨g, 1, none⟩ (.slice tq.ab T.bars.length tq.cb)).setCell ⟨g, 2, none⟩ (.slice tq.ap T.parts.length tq.cp)).setCell ⟨g, 3, none⟩ (.slice tq.an T.notes.length tq.cn)).heap[tb]? = some (.cells #[.int .i64 T.version, .slice tq1.ab T.bars.length tq1.cb, .slice tq1.ap T.parts.length tq1.cp, .slice tq1.an T.notes.length tq1.cn] 26) ∧ ScAt ((((w.setCell ⟨g, 0, none⟩ (.int .i64 T.version)).setCell ⟨g, 1, none⟩ (.slice tq.ab T.bars.length tq.cb)).setCell ⟨g, 2, none⟩ (.slice tq.ap T.parts.length tq.cp)).setCell ⟨g, 3, none⟩ (.slice tq.an T.notes.length tq.cn)) T tq1 ∧ RowKit.Below WW.heap.size WW ((((w.setCell ⟨g, 0, none⟩ (.int .i64 T.version)).setCell ⟨g, 1, none⟩ (.slice tq.ab T.bars.length tq.cb)).setCell ⟨g, 2, none⟩ (.slice tq.ap T.parts.length tq.cp)).setCell ⟨g, 3, none⟩ (.slice tq.an T.notes.length tq.cn)) :=
  ⟨_, tq, rfl, rfl, set4_at hx, hs.set4 hx (by decide) hne _ _ _ _, (((hb.setCell (p := ⟨g, 0, none⟩) hg _).setCell (p := ⟨g, 1, none⟩) hg _).setCell (p := ⟨g, 2, none⟩) hg _).setCell (p := ⟨g, 3, none⟩) hg _⟩
set_option maxRecDepth 100000 in
set_option maxHeartbeats 8000000 in
theorem TurnFewer_any (s : Sc) (q : Sp) (ta : Option Addr) (tcap : Nat) (l : List Te) (k n j : Nat) (hk : k ≤ 255) (hn : n ≤ 255) (hj : j ≤ 255) (w : World) (hs : ScAt w s q) (ht : TeAt w ta l) (hE : Env w) :
    Calls Tryz.prog 8 #[.agg #[.int .i64 s.version, .slice q.ab s.bars.length q.cb, .slice q.ap s.parts.length q.cp, .slice q.an s.notes.length q.cn], .slice ta l.length tcap, .int .u8 k, .int .u8 n, .int .u8 j] w fun e w' => e = .returned (.bool true) ∧ Below w.heap.size w w' := by
  have HX1 := Lib.hid (heap_alloc_new w (.cells #[.int .i64 s.version, .slice q.ab s.bars.length q.cb, .slice q.ap s.parts.length q.cp, .slice q.an s.notes.length q.cn] 26))
  have HB := Lib.hid ((Below.refl w.heap.size w).alloc (Nat.le_refl _) (.cells #[.int .i64 s.version, .slice q.ab s.bars.length q.cb, .slice q.ap s.parts.length q.cp, .slice q.an s.notes.length q.cn] 26))
  have HHd := Lib.hid (fun W (hb : Below w.heap.size w W) => head25_any W (hE.below hb))
  cases hu : useB s l
  · have HUn := Lib.hid (fun W (hb : Below w.heap.size w W) => usable_no s q ta tcap l k W (hs.below hb) (ht.below hb) hu)
    clear hs hE ht hu
    obtain ⟨ab, cb, ap, cp, an, cn⟩ := q
    try dsimp only at *
    go_enter Tryz.func8, Tryz.ntmps8
    go_upto_region 1 with (fail)
    generalize w.alloc (.cells #[.int .i64 s.version, .slice (⟨ab, cb, ap, cp, an, cn⟩ : Sp).ab s.bars.length (⟨ab, cb, ap, cp, an, cn⟩ : Sp).cb, .slice (⟨ab, cb, ap, cp, an, cn⟩ : Sp).ap s.parts.length (⟨ab, cb, ap, cp, an, cn⟩ : Sp).cp, .slice (⟨ab, cb, ap, cp, an, cn⟩ : Sp).an s.notes.length (⟨ab, cb, ap, cp, an, cn⟩ : Sp).cn] 26) = W at *
    (try have hc1 := box_cells HX1.out); (try have hc2 := box_cells HX2.out); (try have hc3 := box_cells HX3.out); (try have hc4 := box_cells HX4.out); (try have hc5 := box_cells HX5.out); (try have hc6 := box_cells HX6.out)
    go_wp2_with (first | (go_at_call 9; refine (HHd.out _ HB.out).mono ?_; rintro e w2 ⟨rfl, hb⟩; (try clear hc1); (try clear hc2); (try clear hc3); (try clear hc4); (try clear hc5); (try clear hc6); (try replace hb := drewB hb); (try replace HX1 := Lib.hid (blk_keep HX1.out hb)); (try replace HX2 := Lib.hid (blk_keep HX2.out hb)); (try replace HX3 := Lib.hid (blk_keep HX3.out hb)); (try replace HX4 := Lib.hid (blk_keep HX4.out hb)); (try replace HX5 := Lib.hid (blk_keep HX5.out hb)); (try replace HX6 := Lib.hid (blk_keep HX6.out hb)); (try replace HC := Lib.hid (HC.out.trans (hb.mono HC.out.size))); replace HB := Lib.hid (HB.out.trans (hb.mono HB.out.size)); clear hb; (try have hc1 := box_cells HX1.out); (try have hc2 := box_cells HX2.out); (try have hc3 := box_cells HX3.out); (try have hc4 := box_cells HX4.out); (try have hc5 := box_cells HX5.out); (try have hc6 := box_cells HX6.out)) | (go_at_call 16; refine (HUn.out _ HB.out).mono ?_; rintro e w3 ⟨rfl, hb⟩; (try clear hc1); (try clear hc2); (try clear hc3); (try clear hc4); (try clear hc5); (try clear hc6); (try replace hb := drewB hb); (try replace HX1 := Lib.hid (blk_keep HX1.out hb)); (try replace HX2 := Lib.hid (blk_keep HX2.out hb)); (try replace HX3 := Lib.hid (blk_keep HX3.out hb)); (try replace HX4 := Lib.hid (blk_keep HX4.out hb)); (try replace HX5 := Lib.hid (blk_keep HX5.out hb)); (try replace HX6 := Lib.hid (blk_keep HX6.out hb)); (try replace HC := Lib.hid (HC.out.trans (hb.mono HC.out.size))); replace HB := Lib.hid (HB.out.trans (hb.mono HB.out.size)); clear hb; (try have hc1 := box_cells HX1.out); (try have hc2 := box_cells HX2.out); (try have hc3 := box_cells HX3.out); (try have hc4 := box_cells HX4.out); (try have hc5 := box_cells HX5.out); (try have hc6 := box_cells HX6.out)))
    go_ret
    exact ⟨rfl, (HB.out.alloc (by have := HB.out.size; omega) _)⟩
  obtain ⟨hnp, hnb1, hnb2, htem⟩ := use_parts hu
  obtain ⟨ip, hip, _, _, hmod⟩ := modT_lt hnp k
  obtain ⟨p, hpe⟩ : ∃ p, s.parts[ip] = p := ⟨_, rfl⟩
  have HUs := Lib.hid (fun W (hb : Below w.heap.size w W) => usable_use s q ta tcap l k hk W (hs.below hb) (ht.below hb) (hE.below hb) hu ip hip hmod p hpe)
  have HRa := Lib.hid (fun n d V => rat25_any n d V)
  have hp : p ∈ s.parts := hpe ▸ List.getElem_mem hip
  obtain ⟨⟨⟨u1, u2⟩, u3⟩, u4⟩ : ((few8 s = true ∧ l.length ≤ 60) ∧ validS s = true) ∧ temposB s.bars l = true := by unfold useB at hu; simpa [Bool.and_eq_true, decide_eq_true_eq] using hu
  have hf := few8_U u1
  clear hmod hpe hnp hip u1 hu
  by_cases hne : s.notes.length = 0
  · have hn0' : ((s.notes.length : Int) == 0) = true := by rw [hne]; rfl
    clear hs hE ht hne
    obtain ⟨ab, cb, ap, cp, an, cn⟩ := q
    try dsimp only at *
    go_enter Tryz.func8, Tryz.ntmps8
    go_upto_region 1 with (fail)
    generalize w.alloc (.cells #[.int .i64 s.version, .slice (⟨ab, cb, ap, cp, an, cn⟩ : Sp).ab s.bars.length (⟨ab, cb, ap, cp, an, cn⟩ : Sp).cb, .slice (⟨ab, cb, ap, cp, an, cn⟩ : Sp).ap s.parts.length (⟨ab, cb, ap, cp, an, cn⟩ : Sp).cp, .slice (⟨ab, cb, ap, cp, an, cn⟩ : Sp).an s.notes.length (⟨ab, cb, ap, cp, an, cn⟩ : Sp).cn] 26) = W at *
    (try have hc1 := box_cells HX1.out); (try have hc2 := box_cells HX2.out); (try have hc3 := box_cells HX3.out); (try have hc4 := box_cells HX4.out); (try have hc5 := box_cells HX5.out); (try have hc6 := box_cells HX6.out)
    go_upto_region 3 with (first | (go_at_call 9; refine (HHd.out _ HB.out).mono ?_; rintro e w2 ⟨rfl, hb⟩; (try clear hc1); (try clear hc2); (try clear hc3); (try clear hc4); (try clear hc5); (try clear hc6); (try replace hb := drewB hb); (try replace HX1 := Lib.hid (blk_keep HX1.out hb)); (try replace HX2 := Lib.hid (blk_keep HX2.out hb)); (try replace HX3 := Lib.hid (blk_keep HX3.out hb)); (try replace HX4 := Lib.hid (blk_keep HX4.out hb)); (try replace HX5 := Lib.hid (blk_keep HX5.out hb)); (try replace HX6 := Lib.hid (blk_keep HX6.out hb)); (try replace HC := Lib.hid (HC.out.trans (hb.mono HC.out.size))); replace HB := Lib.hid (HB.out.trans (hb.mono HB.out.size)); clear hb; (try have hc1 := box_cells HX1.out); (try have hc2 := box_cells HX2.out); (try have hc3 := box_cells HX3.out); (try have hc4 := box_cells HX4.out); (try have hc5 := box_cells HX5.out); (try have hc6 := box_cells HX6.out)) | (go_at_call 16; refine (HUs.out _ HB.out).mono ?_; rintro e w3 ⟨a, cap, ms, rfl, huse, hb⟩; clear huse; (try clear hc1); (try clear hc2); (try clear hc3); (try clear hc4); (try clear hc5); (try clear hc6); (try replace hb := drewB hb); (try replace HX1 := Lib.hid (blk_keep HX1.out hb)); (try replace HX2 := Lib.hid (blk_keep HX2.out hb)); (try replace HX3 := Lib.hid (blk_keep HX3.out hb)); (try replace HX4 := Lib.hid (blk_keep HX4.out hb)); (try replace HX5 := Lib.hid (blk_keep HX5.out hb)); (try replace HX6 := Lib.hid (blk_keep HX6.out hb)); (try replace HC := Lib.hid (HC.out.trans (hb.mono HC.out.size))); replace HB := Lib.hid (HB.out.trans (hb.mono HB.out.size)); clear hb; (try have hc1 := box_cells HX1.out); (try have hc2 := box_cells HX2.out); (try have hc3 := box_cells HX3.out); (try have hc4 := box_cells HX4.out); (try have hc5 := box_cells HX5.out); (try have hc6 := box_cells HX6.out)))
    have x4 := heap_alloc_new w3 (.cells #[.int .i64 p.id, .slice a ms.length cap] 30 (0, 0)); have hb := (Below.refl (w3).heap.size w3).alloc (Nat.le_refl _) (.cells #[.int .i64 p.id, .slice a ms.length cap] 30 (0, 0)); (try clear hc1); (try clear hc2); (try clear hc3); (try clear hc4); (try clear hc5); (try clear hc6); (try replace hb := drewB hb); (try replace HX1 := Lib.hid (blk_keep HX1.out hb)); (try replace HX2 := Lib.hid (blk_keep HX2.out hb)); (try replace HX3 := Lib.hid (blk_keep HX3.out hb)); (try replace HX4 := Lib.hid (blk_keep HX4.out hb)); (try replace HX5 := Lib.hid (blk_keep HX5.out hb)); (try replace HX6 := Lib.hid (blk_keep HX6.out hb)); (try replace HC := Lib.hid (HC.out.trans (hb.mono HC.out.size))); replace HB := Lib.hid (HB.out.trans (hb.mono HB.out.size)); clear hb; have HX4 := Lib.hid x4; clear x4; generalize World.alloc w3 (.cells #[.int .i64 p.id, .slice a ms.length cap] 30 (0, 0)) = W4 at *; generalize World.heap w3 = vh at *; (try have hc1 := box_cells HX1.out); (try have hc2 := box_cells HX2.out); (try have hc3 := box_cells HX3.out); (try have hc4 := box_cells HX4.out); (try have hc5 := box_cells HX5.out); (try have hc6 := box_cells HX6.out)
    go_wp2
    go_ret
    exact ⟨rfl, HB.out⟩
  have hq0 : ((s.notes.length : Int) == 0) = false := by simp; intro e; apply hne; simp [e]
  obtain ⟨np, hnp, hrn, hrn2, _⟩ := modT_lt (n := s.notes.length) (by omega) n
  obtain ⟨jp, hjp, hrj0, hrj20, _⟩ := modT_lt (n := s.bars.length + 1) (by omega) j
  have hrj : (j : Int) % ((s.bars.length : Int) + 1) = (jp : Int) := by rw [← hrj0]; push_cast; rfl
  have hrj2 : (j : Int).tmod ((s.bars.length : Int) + 1) = (jp : Int) := by rw [← hrj20]; push_cast; rfl
  clear hrj0 hrj20
  have hwj : IntKind.i64.wrap (j : Int) = (j : Int) := IntWalk.i64_in _ (by omega)
  have hwnn : IntKind.i64.wrap (n : Int) = (n : Int) := IntWalk.i64_in _ (by omega)
  have hwn : IntKind.i64.wrap ((s.bars.length : Int) + 1) = (s.bars.length : Int) + 1 := IntWalk.i64_in _ (by omega)
  have hn0 : ((s.bars.length : Int) + 1 == 0) = false := by simp; omega
  have hz : ¬ ((s.bars.length : Int) + 1 = 0) := by omega
  have hz2 : ¬ s.notes = [] := fun e => hne (by rw [e]; rfl)
  have hjL : j < 256 := by omega
  have hnL : n < 256 := by omega
  have HS := Lib.hid hs; have HE := Lib.hid hE; have HT := Lib.hid ht; have HF := Lib.hid hf; have HV := Lib.hid u3; have HP := Lib.hid hp; have HTm := Lib.hid u4
  clear hs hE ht hf u3 u4 hp htem
  obtain ⟨ab, cb, ap, cp, an, cn⟩ := q
  try dsimp only at *
  go_enter Tryz.func8, Tryz.ntmps8
  go_upto_region 1 with (fail)
  generalize w.alloc (.cells #[.int .i64 s.version, .slice (⟨ab, cb, ap, cp, an, cn⟩ : Sp).ab s.bars.length (⟨ab, cb, ap, cp, an, cn⟩ : Sp).cb, .slice (⟨ab, cb, ap, cp, an, cn⟩ : Sp).ap s.parts.length (⟨ab, cb, ap, cp, an, cn⟩ : Sp).cp, .slice (⟨ab, cb, ap, cp, an, cn⟩ : Sp).an s.notes.length (⟨ab, cb, ap, cp, an, cn⟩ : Sp).cn] 26) = W at *
  (try have hc1 := box_cells HX1.out); (try have hc2 := box_cells HX2.out); (try have hc3 := box_cells HX3.out); (try have hc4 := box_cells HX4.out); (try have hc5 := box_cells HX5.out); (try have hc6 := box_cells HX6.out)
  go_upto_region 3 with (first | (go_at_call 9; refine (HHd.out _ HB.out).mono ?_; rintro e w2 ⟨rfl, hb⟩; (try clear hc1); (try clear hc2); (try clear hc3); (try clear hc4); (try clear hc5); (try clear hc6); (try replace hb := drewB hb); (try replace HX1 := Lib.hid (blk_keep HX1.out hb)); (try replace HX2 := Lib.hid (blk_keep HX2.out hb)); (try replace HX3 := Lib.hid (blk_keep HX3.out hb)); (try replace HX4 := Lib.hid (blk_keep HX4.out hb)); (try replace HX5 := Lib.hid (blk_keep HX5.out hb)); (try replace HX6 := Lib.hid (blk_keep HX6.out hb)); (try replace HC := Lib.hid (HC.out.trans (hb.mono HC.out.size))); replace HB := Lib.hid (HB.out.trans (hb.mono HB.out.size)); clear hb; (try have hc1 := box_cells HX1.out); (try have hc2 := box_cells HX2.out); (try have hc3 := box_cells HX3.out); (try have hc4 := box_cells HX4.out); (try have hc5 := box_cells HX5.out); (try have hc6 := box_cells HX6.out)) | (go_at_call 16; refine (HUs.out _ HB.out).mono ?_; rintro e w3 ⟨a, cap, ms, rfl, huse, hb⟩; have HUw := Lib.hid huse; clear huse; (try clear hc1); (try clear hc2); (try clear hc3); (try clear hc4); (try clear hc5); (try clear hc6); (try replace hb := drewB hb); (try replace HX1 := Lib.hid (blk_keep HX1.out hb)); (try replace HX2 := Lib.hid (blk_keep HX2.out hb)); (try replace HX3 := Lib.hid (blk_keep HX3.out hb)); (try replace HX4 := Lib.hid (blk_keep HX4.out hb)); (try replace HX5 := Lib.hid (blk_keep HX5.out hb)); (try replace HX6 := Lib.hid (blk_keep HX6.out hb)); (try replace HC := Lib.hid (HC.out.trans (hb.mono HC.out.size))); replace HB := Lib.hid (HB.out.trans (hb.mono HB.out.size)); clear hb; (try have hc1 := box_cells HX1.out); (try have hc2 := box_cells HX2.out); (try have hc3 := box_cells HX3.out); (try have hc4 := box_cells HX4.out); (try have hc5 := box_cells HX5.out); (try have hc6 := box_cells HX6.out)))
  have hb := (Below.refl w3.heap.size w3).alloc (Nat.le_refl _) (.cells #[.int .i64 p.id, .slice a ms.length cap] 30 (0, 0))
  replace HUw := Lib.hid (HUw.out.below hb)
  clear hb
  have x4 := heap_alloc_new w3 (.cells #[.int .i64 p.id, .slice a ms.length cap] 30 (0, 0)); have hb := (Below.refl (w3).heap.size w3).alloc (Nat.le_refl _) (.cells #[.int .i64 p.id, .slice a ms.length cap] 30 (0, 0)); (try clear hc1); (try clear hc2); (try clear hc3); (try clear hc4); (try clear hc5); (try clear hc6); (try replace hb := drewB hb); (try replace HX1 := Lib.hid (blk_keep HX1.out hb)); (try replace HX2 := Lib.hid (blk_keep HX2.out hb)); (try replace HX3 := Lib.hid (blk_keep HX3.out hb)); (try replace HX4 := Lib.hid (blk_keep HX4.out hb)); (try replace HX5 := Lib.hid (blk_keep HX5.out hb)); (try replace HX6 := Lib.hid (blk_keep HX6.out hb)); (try replace HC := Lib.hid (HC.out.trans (hb.mono HC.out.size))); replace HB := Lib.hid (HB.out.trans (hb.mono HB.out.size)); clear hb; have HX4 := Lib.hid x4; clear x4; generalize World.alloc w3 (.cells #[.int .i64 p.id, .slice a ms.length cap] 30 (0, 0)) = W4 at *; generalize World.heap w3 = vh at *; (try have hc1 := box_cells HX1.out); (try have hc2 := box_cells HX2.out); (try have hc3 := box_cells HX3.out); (try have hc4 := box_cells HX4.out); (try have hc5 := box_cells HX5.out); (try have hc6 := box_cells HX6.out)
  obtain ⟨L2, hL2⟩ : ∃ L2, L2 = s.notes.take np ++ s.notes.drop (np + 1) := ⟨_, rfl⟩
  have hsub : L2.Sublist s.notes := by rw [hL2]; exact drop_sub _ _
  obtain ⟨T, hTd⟩ : ∃ T, withS s s.version L2 = T := ⟨_, rfl⟩
  have hvT : validS T = true := hTd ▸ less_valid HV.out hsub
  have hpT : T.parts = s.parts := hTd ▸ rfl
  have hbT : T.bars = s.bars := hTd ▸ rfl
  have hnT : ∀ x ∈ T.notes, x ∈ s.notes := hTd ▸ less_notes hsub
  have hfT : ScFew T := ⟨by rw [hbT]; exact HF.out.bars, by rw [hpT]; exact HF.out.parts, by
    rw [← hTd]
    show (sortN s.bars L2).length ≤ 1000
    rw [(sortN_perm _ _).length_eq]; exact Nat.le_trans hsub.length_le HF.out.notes⟩
  go_upto_region 6 with (fail)
  have HC := Lib.hid (Below.refl W4.heap.size W4)
  go_cut [15, 16] (fun s15 s16 V => ∃ tb tq, s15 = .pointer (some ⟨tb, 0, none⟩) ∧ s16 = .int .i64 0 ∧ V.heap[tb]? = some (.cells #[.int .i64 T.version, .slice (tq : Sp).ab T.bars.length (tq : Sp).cb, .slice (tq : Sp).ap T.parts.length (tq : Sp).cp, .slice (tq : Sp).an T.notes.length (tq : Sp).cn] 26) ∧ ScAt V T tq ∧ Below W4.heap.size W4 V)
  case first =>
    have hokn : SlOk an s.notes.length cn := HS.out.okn
    have hnt : NoAt w an s.notes := HS.out.notes
    have hcn := hokn.le
    obtain ⟨nb, noff, rfl⟩ : ∃ b off, an = some ⟨b, off, none⟩ := by
      rcases hokn.cases with ⟨_, h, _⟩ | h
      · omega
      · exact h
    have hln : s.notes.length ≤ 1000 := HF.out.notes
    have hwp : IntKind.i64.wrap ((np : Int) + 1) = (np : Int) + 1 := IntWalk.i64_in _ (by omega)
    have hs1 : ∀ V, (Instr.slice 24 (.slice (some ⟨nb, noff, none⟩) s.notes.length cn) none (some (.int .i64 (np : Int))) none).run Tryz.prog V = .ok (.slice (some ⟨nb, noff, none⟩) np cn) V := fun V => by
      rw [run_slice_h V 24 _ _ _ Tryz.underlying24 _ _ (by omega) (by omega)]
      have : ((sizeOf (Tryz.prog.elem 24)).run Tryz.prog V) = .ok 12 V := by kernel_rfl
      rw [this]
      simp [Result.andThen, sliced, Addr.add]
    obtain ⟨an2, hs2, hn2, hnt2⟩ : ∃ an2, (∀ V, (Instr.slice 24 (.slice (some ⟨nb, noff, none⟩) s.notes.length cn) (some (.int .i64 ((np : Int) + 1))) none none).run Tryz.prog V = .ok (.slice an2 (s.notes.length - (np + 1)) (cn - (np + 1))) V) ∧ (an2 = none → cn - (np + 1) = 0) ∧ ∀ W, NoAt W (some ⟨nb, noff, none⟩) s.notes → NoAt W an2 (s.notes.drop (np + 1)) := by
      by_cases hC1 : cn = np + 1
      · refine ⟨some ⟨nb, noff, none⟩, fun V => ?_, (fun h => by cases h), fun W _ => ?_⟩
        · rw [run_slice_l V 24 _ _ _ Tryz.underlying24 _ _ (by omega) (by omega)]
          have : ((sizeOf (Tryz.prog.elem 24)).run Tryz.prog V) = .ok 12 V := by kernel_rfl
          rw [this]
          have e : ((np : Int) + 1).toNat = np + 1 := by omega
          simp [Result.andThen, sliced, e, hC1]
        · rw [List.drop_eq_nil_of_le (by omega)]; exact SlAt.nil _ _ _
      · refine ⟨some ⟨nb, noff + (np + 1) * 12, none⟩, fun V => ?_, (fun h => by cases h), fun W h => ?_⟩
        · rw [run_slice_l V 24 _ _ _ Tryz.underlying24 _ _ (by omega) (by omega)]
          have : ((sizeOf (Tryz.prog.elem 24)).run Tryz.prog V) = .ok 12 V := by kernel_rfl
          rw [this]
          have e : ((np : Int) + 1).toNat = np + 1 := by omega
          simp [Result.andThen, sliced, e, hC1, Addr.add]
        · have h2 := SlAt.drop (show SlAt W (some ⟨nb, noff, none⟩) 12 (s.notes.map No.cells) from h) (np + 1)
          show SlAt W _ 12 ((s.notes.drop (np + 1)).map No.cells)
          rw [List.map_drop]; exact h2
    have hs1' : ∀ V, (Instr.sliceAt 24 (.slice (some ⟨nb, noff, none⟩) s.notes.length cn) none (some (.int .i64 (np : Int))) none).run Tryz.prog V = .ok (.slice (some ⟨nb, noff, none⟩) np cn) V := fun V => (run_sliceAt_slice V _ _ _ _ _ Tryz.underlying24).trans (hs1 V)
    have hs2' : ∀ V, (Instr.sliceAt 24 (.slice (some ⟨nb, noff, none⟩) s.notes.length cn) (some (.int .i64 ((np : Int) + 1))) none none).run Tryz.prog V = .ok (.slice an2 (s.notes.length - (np + 1)) (cn - (np + 1))) V := fun V => (run_sliceAt_slice V _ _ _ _ _ Tryz.underlying24).trans (hs2 V)
    clear hs1 hs2
    have HL2 := Lib.hid hL2.symm
    have hl2 : L2.length ≤ 1000 := Nat.le_trans hsub.length_le HF.out.notes
    have HTl := Lib.hid (show np = (s.notes.take np).length by rw [List.length_take]; omega)
    have HNn2 := Lib.hid hn2
    have HOn := Lib.hid hokn
    have hE0 : withE s s.version L2 = 0 := less_with HV.out hsub
    have HWi := Lib.hid (fun V a c (hb : Below w.heap.size w V) (hok : SlOk a L2.length c) (hm : NoAt V a L2) => show Calls Tryz.prog 29 #[.agg #[.int .i64 s.version, .slice (⟨ab, cb, ap, cp, some ⟨nb, noff, none⟩, cn⟩ : Sp).ab s.bars.length (⟨ab, cb, ap, cp, some ⟨nb, noff, none⟩, cn⟩ : Sp).cb, .slice (⟨ab, cb, ap, cp, some ⟨nb, noff, none⟩, cn⟩ : Sp).ap s.parts.length (⟨ab, cb, ap, cp, some ⟨nb, noff, none⟩, cn⟩ : Sp).cp, .slice (⟨ab, cb, ap, cp, some ⟨nb, noff, none⟩, cn⟩ : Sp).an s.notes.length (⟨ab, cb, ap, cp, some ⟨nb, noff, none⟩, cn⟩ : Sp).cn], .int .i64 s.version, .slice a L2.length c] V (RetScE T 0 V) from by
      have h := With_any s ⟨ab, cb, ap, cp, some ⟨nb, noff, none⟩, cn⟩ s.version a c L2 V HF.out (HS.out.below hb) (HE.out.below hb) hl2 hok hm
      rw [hE0, if_pos rfl, hTd] at h
      exact h)
    have hq := box_cells HX1.out
    have KS := Lib.hid (fun W (hb : RowKit.Below W4.heap.size W4 W) => show W.cell? ⟨w.heap.size, 0, none⟩ = some (.int .i64 s.version) ∧ W.cell? ⟨w.heap.size, 1, none⟩ = some (.slice ab s.bars.length cb) ∧ W.cell? ⟨w.heap.size, 2, none⟩ = some (.slice ap s.parts.length cp) ∧ W.cell? ⟨w.heap.size, 3, none⟩ = some (.slice (some ⟨nb, noff, none⟩) s.notes.length cn) from ⟨keepE (hq 0) hb, keepE (hq 1) hb, keepE (hq 2) hb, keepE (hq 3) hb⟩)
    have HBr := Lib.hid (RowKit.Below.refl W4.heap.size W4)
    have HBw := Lib.hid (fun W (hb : RowKit.Below W4.heap.size W4 W) => HB.out.trans (hb.mono HB.out.size))
    have HNt := Lib.hid (fun W (hb : RowKit.Below W4.heap.size W4 W) => show NoAt W (some ⟨nb, noff, none⟩) s.notes from hnt.below (HB.out.trans (hb.mono HB.out.size)))
    have HNt2 := Lib.hid (fun W (hb : RowKit.Below W4.heap.size W4 W) => show NoAt W an2 (s.notes.drop (np + 1)) from hnt2 W (hnt.below (HB.out.trans (hb.mono HB.out.size))))
    (try clear hc1); (try clear hc2); (try clear hc3); (try clear hc4); (try clear hc5); (try clear hc6)
    clear hq hn2 hnt hnt2 hokn hE0 hTd hvT hpT hbT hnT hfT HUw HUs HHd HRa HC HB hL2 hsub
    go_region_held3 (fun W => W.cell? ⟨w.heap.size, 0, none⟩ = some (.int .i64 s.version) ∧ W.cell? ⟨w.heap.size, 1, none⟩ = some (.slice ab s.bars.length cb) ∧ W.cell? ⟨w.heap.size, 2, none⟩ = some (.slice ap s.parts.length cp) ∧ W.cell? ⟨w.heap.size, 3, none⟩ = some (.slice (some ⟨nb, noff, none⟩) s.notes.length cn))
      ((refine KS.out _ ?_; (repeat (first | with_reducible exact HBr.out | with_reducible refine RowKit.Below.drew ?_ | with_reducible refine RowKit.Below.alloc ?_ (by have := HBr.out.size; first | omega | (simp; done) | (simp; omega)) _ | with_reducible refine RowKit.Below.setCell ?_ (by have := HBr.out.size; first | omega | (simp; done) | (simp; omega)) _))))
      ((first | (refine step_of rfl (oper_appR eltNo (.tmp 51) (.tmp 55) (by rfl) W4.heap.size _ [] (by rfl) (own_empty (by (repeat (first | with_reducible exact X8b.out | with_reducible exact X8.out | with_reducible refine up_drew ?_ | (refine at_alloc _ _ ?_; first | omega | (simp; done) | (simp; omega)) | with_reducible refine up_alloc ?_ _)); done) (by omega)) (some ⟨nb, noff, none⟩) np cn (s.notes.take np) (by rfl) HTl.out HOn.out.none ((HNt.out _ (by (repeat (first | with_reducible exact HBr.out | with_reducible refine RowKit.Below.drew ?_ | with_reducible refine RowKit.Below.alloc ?_ (by have := HBr.out.size; first | omega | (simp; done) | (simp; omega)) _ | with_reducible refine RowKit.Below.setCell ?_ (by have := HBr.out.size; first | omega | (simp; done) | (simp; omega)) _)); done)).take np) (by simp; omega) (by unfold maxLen; simp; omega) (by have := HBr.out.size; first | omega | (simp; done) | (simp; omega)) ?_); intro v38 w38 ho38 hg38; have HO38 := Lib.hid ho38; (first | (refine useP (P := w38.heap[W4.heap.size]? = some (.cells #[.int .i64 0, .slice none 0 0, .slice none 0 0, .slice none 0 0] 26)) (kept_grown hg38 ?_ ?_ (by simp)) (fun x0 => ?_); (· (repeat (first | with_reducible exact X8b.out | with_reducible exact X8.out | with_reducible refine up_drew ?_ | (refine at_alloc _ _ ?_; first | omega | (simp; done) | (simp; omega)) | with_reducible refine up_alloc ?_ _))); (· (repeat (first | with_reducible exact X8b.out | with_reducible exact X8.out | with_reducible refine up_drew ?_ | (refine at_alloc _ _ ?_; first | omega | (simp; done) | (simp; omega)) | with_reducible refine up_alloc ?_ _))); have X8 := Lib.hid x0; clear x0) | (refine useP (P := w38.heap[W4.heap.size + 1]? = some (.cells #[.int .i64 0, .slice none 0 0, .slice none 0 0, .slice none 0 0] 26)) (kept_grown hg38 ?_ ?_ (by simp)) (fun x0 => ?_); (· (repeat (first | with_reducible exact X8b.out | with_reducible exact X8.out | with_reducible refine up_drew ?_ | (refine at_alloc _ _ ?_; first | omega | (simp; done) | (simp; omega)) | with_reducible refine up_alloc ?_ _))); (· (repeat (first | with_reducible exact X8b.out | with_reducible exact X8.out | with_reducible refine up_drew ?_ | (refine at_alloc _ _ ?_; first | omega | (simp; done) | (simp; omega)) | with_reducible refine up_alloc ?_ _))); have X8 := Lib.hid x0; clear x0) | skip); have HBx := Lib.hid (below_grown (B := W4.heap.size) (w0 := W4) (by (repeat (first | with_reducible exact HBr.out | with_reducible refine RowKit.Below.drew ?_ | with_reducible refine RowKit.Below.alloc ?_ (by have := HBr.out.size; first | omega | (simp; done) | (simp; omega)) _ | with_reducible refine RowKit.Below.setCell ?_ (by have := HBr.out.size; first | omega | (simp; done) | (simp; omega)) _)); done) (own_empty (sz := 12) (by (repeat (first | with_reducible exact X8b.out | with_reducible exact X8.out | with_reducible refine up_drew ?_ | (refine at_alloc _ _ ?_; first | omega | (simp; done) | (simp; omega)) | with_reducible refine up_alloc ?_ _)); done) (by omega)) (by have := HBr.out.size; first | omega | (simp; done) | (simp; omega)) hg38); replace HBr := HBx; clear HBx ho38 hg38; have hz38 := HBr.out.size) | (refine step_of rfl (oper_appR eltNo (.tmp 56) (.tmp 61) (by rfl) W4.heap.size _ (s.notes.take np) (by rfl) (by have h0 := HO38.out; rw [List.nil_append] at h0; exact h0.below (by (repeat (first | with_reducible exact RowKit.Below.refl _ _ | with_reducible refine RowKit.Below.drew ?_ | with_reducible refine RowKit.Below.alloc ?_ (by first | omega | (simp; done) | (simp; omega)) _)); done)) an2 (s.notes.length - (np + 1)) (cn - (np + 1)) (s.notes.drop (np + 1)) (by rfl) (by simp) HNn2.out (HNt2.out _ (by (repeat (first | with_reducible exact HBr.out | with_reducible refine RowKit.Below.drew ?_ | with_reducible refine RowKit.Below.alloc ?_ (by have := HBr.out.size; first | omega | (simp; done) | (simp; omega)) _ | with_reducible refine RowKit.Below.setCell ?_ (by have := HBr.out.size; first | omega | (simp; done) | (simp; omega)) _)); done)) (by simp; omega) (by unfold maxLen; simp; omega) (by have := HBr.out.size; first | omega | (simp; done) | (simp; omega)) ?_); intro v41 w41 ho41 hg41; rw [HL2.out] at ho41; (first | (refine useP (P := w41.heap[W4.heap.size]? = some (.cells #[.int .i64 0, .slice none 0 0, .slice none 0 0, .slice none 0 0] 26)) (far_grown (HO38.out.below (by (repeat (first | with_reducible exact RowKit.Below.refl _ _ | with_reducible refine RowKit.Below.drew ?_ | with_reducible refine RowKit.Below.alloc ?_ (by first | omega | (simp; done) | (simp; omega)) _)); done)) hg41 ?_ (by decide)) (fun x0 => ?_); (· (repeat (first | with_reducible exact X8b.out | with_reducible exact X8.out | with_reducible refine up_drew ?_ | (refine at_alloc _ _ ?_; first | omega | (simp; done) | (simp; omega)) | with_reducible refine up_alloc ?_ _))); have X8b := Lib.hid x0; clear x0) | (refine useP (P := w41.heap[W4.heap.size + 1]? = some (.cells #[.int .i64 0, .slice none 0 0, .slice none 0 0, .slice none 0 0] 26)) (far_grown (HO38.out.below (by (repeat (first | with_reducible exact RowKit.Below.refl _ _ | with_reducible refine RowKit.Below.drew ?_ | with_reducible refine RowKit.Below.alloc ?_ (by first | omega | (simp; done) | (simp; omega)) _)); done)) hg41 ?_ (by decide)) (fun x0 => ?_); (· (repeat (first | with_reducible exact X8b.out | with_reducible exact X8.out | with_reducible refine up_drew ?_ | (refine at_alloc _ _ ?_; first | omega | (simp; done) | (simp; omega)) | with_reducible refine up_alloc ?_ _))); have X8b := Lib.hid x0; clear x0) | (refine useP (P := w41.heap[w38.heap.size]? = some (.cells #[.int .i64 0, .slice none 0 0, .slice none 0 0, .slice none 0 0] 26)) (far_grown (HO38.out.below (by (repeat (first | with_reducible exact RowKit.Below.refl _ _ | with_reducible refine RowKit.Below.drew ?_ | with_reducible refine RowKit.Below.alloc ?_ (by first | omega | (simp; done) | (simp; omega)) _)); done)) hg41 ?_ (by decide)) (fun x0 => ?_); (· (repeat (first | with_reducible exact X8b.out | with_reducible exact X8.out | with_reducible refine up_drew ?_ | (refine at_alloc _ _ ?_; first | omega | (simp; done) | (simp; omega)) | with_reducible refine up_alloc ?_ _))); have X8b := Lib.hid x0; clear x0) | skip); have HBx := Lib.hid (below_grown (B := W4.heap.size) (w0 := W4) (by (repeat (first | with_reducible exact HBr.out | with_reducible refine RowKit.Below.drew ?_ | with_reducible refine RowKit.Below.alloc ?_ (by have := HBr.out.size; first | omega | (simp; done) | (simp; omega)) _ | with_reducible refine RowKit.Below.setCell ?_ (by have := HBr.out.size; first | omega | (simp; done) | (simp; omega)) _)); done) (HO38.out.below (by (repeat (first | with_reducible exact RowKit.Below.refl _ _ | with_reducible refine RowKit.Below.drew ?_ | with_reducible refine RowKit.Below.alloc ?_ (by first | omega | (simp; done) | (simp; omega)) _)); done)) (by have := HBr.out.size; first | omega | (simp; done) | (simp; omega)) hg41); replace HBr := HBx; clear HBx hg41; obtain ⟨a41, c41, e41, hk41, hs41⟩ := ho41.slAt; rw [List.length_map] at e41 hk41; subst e41; have HN41 := Lib.hid hs41; have HK41 := Lib.hid hk41; clear ho41 hk41 hs41; have hz41 := HBr.out.size) | (go_at_call 29; refine (HWi.out _ a41 c41 (HBw.out _ (by (repeat (first | with_reducible exact HBr.out | with_reducible refine RowKit.Below.drew ?_ | with_reducible refine RowKit.Below.alloc ?_ (by have := HBr.out.size; first | omega | (simp; done) | (simp; omega)) _ | with_reducible refine RowKit.Below.setCell ?_ (by have := HBr.out.size; first | omega | (simp; done) | (simp; omega)) _)); done)) HK41.out (NoAt.below HN41.out (by (repeat (first | with_reducible exact RowKit.Below.refl _ _ | with_reducible refine RowKit.Below.drew ?_ | with_reducible refine RowKit.Below.alloc ?_ (by first | omega | (simp; done) | (simp; omega)) _)); done))).mono ?_; rintro e w42 ⟨tq, rfl, hsc, hb, hfar⟩; have HSc := Lib.hid hsc; (first | (refine useP (blk_pair (g := W4.heap.size) (o := .cells #[.int .i64 0, .slice none 0 0, .slice none 0 0, .slice none 0 0] 26) ?_ hb) (fun hXw => ?_); (· (repeat (first | with_reducible exact X8b.out | with_reducible exact X8.out | with_reducible refine up_drew ?_ | (refine at_alloc _ _ ?_; first | omega | (simp; done) | (simp; omega)) | with_reducible refine up_alloc ?_ _))); have X8c := Lib.hid hXw.2; have HNe := Lib.hid (fun ad (e : tq.ab = some ad) => show ad.block ≠ W4.heap.size from by have h1 := hfar ad e; have h2 := hXw.1; omega); have HG8 := Lib.hid (show W4.heap.size ≤ W4.heap.size from by have := HBr.out.size; omega); have hc8 := box_cells X8c.out; have hf8 := box_free X8c.out; have hz8 := lt_blk X8c.out; clear hXw) | (refine useP (blk_pair (g := W4.heap.size + 1) (o := .cells #[.int .i64 0, .slice none 0 0, .slice none 0 0, .slice none 0 0] 26) ?_ hb) (fun hXw => ?_); (· (repeat (first | with_reducible exact X8b.out | with_reducible exact X8.out | with_reducible refine up_drew ?_ | (refine at_alloc _ _ ?_; first | omega | (simp; done) | (simp; omega)) | with_reducible refine up_alloc ?_ _))); have X8c := Lib.hid hXw.2; have HNe := Lib.hid (fun ad (e : tq.ab = some ad) => show ad.block ≠ W4.heap.size + 1 from by have h1 := hfar ad e; have h2 := hXw.1; omega); have HG8 := Lib.hid (show W4.heap.size ≤ W4.heap.size + 1 from by have := HBr.out.size; omega); have hc8 := box_cells X8c.out; have hf8 := box_free X8c.out; have hz8 := lt_blk X8c.out; clear hXw) | (refine useP (blk_pair (g := w38.heap.size) (o := .cells #[.int .i64 0, .slice none 0 0, .slice none 0 0, .slice none 0 0] 26) ?_ hb) (fun hXw => ?_); (· (repeat (first | with_reducible exact X8b.out | with_reducible exact X8.out | with_reducible refine up_drew ?_ | (refine at_alloc _ _ ?_; first | omega | (simp; done) | (simp; omega)) | with_reducible refine up_alloc ?_ _))); have X8c := Lib.hid hXw.2; have HNe := Lib.hid (fun ad (e : tq.ab = some ad) => show ad.block ≠ w38.heap.size from by have h1 := hfar ad e; have h2 := hXw.1; omega); have HG8 := Lib.hid (show W4.heap.size ≤ w38.heap.size from by have := HBr.out.size; omega); have hc8 := box_cells X8c.out; have hf8 := box_free X8c.out; have hz8 := lt_blk X8c.out; clear hXw) | (refine useP (blk_pair (g := w41.heap.size) (o := .cells #[.int .i64 0, .slice none 0 0, .slice none 0 0, .slice none 0 0] 26) ?_ hb) (fun hXw => ?_); (· (repeat (first | with_reducible exact X8b.out | with_reducible exact X8.out | with_reducible refine up_drew ?_ | (refine at_alloc _ _ ?_; first | omega | (simp; done) | (simp; omega)) | with_reducible refine up_alloc ?_ _))); have X8c := Lib.hid hXw.2; have HNe := Lib.hid (fun ad (e : tq.ab = some ad) => show ad.block ≠ w41.heap.size from by have h1 := hfar ad e; have h2 := hXw.1; omega); have HG8 := Lib.hid (show W4.heap.size ≤ w41.heap.size from by have := HBr.out.size; omega); have hc8 := box_cells X8c.out; have hf8 := box_free X8c.out; have hz8 := lt_blk X8c.out; clear hXw) | skip); have HBx := Lib.hid (RowKit.Below.trans (show RowKit.Below W4.heap.size W4 _ from (by (repeat (first | with_reducible exact HBr.out | with_reducible refine RowKit.Below.drew ?_ | with_reducible refine RowKit.Below.alloc ?_ (by have := HBr.out.size; first | omega | (simp; done) | (simp; omega)) _ | with_reducible refine RowKit.Below.setCell ?_ (by have := HBr.out.size; first | omega | (simp; done) | (simp; omega)) _)); done)) (hb.mono (by have := HBr.out.size; first | omega | (simp; done) | (simp; omega)))); replace HBr := HBx; clear HBx hb hfar hsc; have hz42 := HBr.out.size)))
    all_goals
      go_wp2
      go_meet
      case rel => first | with_reducible exact relA HSc.out HBr.out | with_reducible exact relB X8c.out HNe.out HG8.out HSc.out HBr.out
  case rest =>
  obtain ⟨tb, tq, rfl, rfl, hxt, hst, hb⟩ := hcut
  (try clear hc1); (try clear hc2); (try clear hc3); (try clear hc4); (try clear hc5); (try clear hc6)
  have HBs := Lib.hid (HB.out.trans (hb.mono HB.out.size))
  (try replace hb := drewB hb); (try replace HX1 := Lib.hid (blk_keep HX1.out hb)); (try replace HX2 := Lib.hid (blk_keep HX2.out hb)); (try replace HX3 := Lib.hid (blk_keep HX3.out hb)); (try replace HX4 := Lib.hid (blk_keep HX4.out hb)); (try replace HX5 := Lib.hid (blk_keep HX5.out hb)); (try replace HX6 := Lib.hid (blk_keep HX6.out hb)); (try replace HC := Lib.hid (HC.out.trans (hb.mono HC.out.size))); replace HB := Lib.hid (HB.out.trans (hb.mono HB.out.size)); clear hb
  have HX2 := Lib.hid hxt; have HST := Lib.hid hst
  clear hxt hst
  generalize wc = W5 at *
  have HD := Lib.hid (Below.refl W5.heap.size W5)
  (try have hc1 := box_cells HX1.out); (try have hc2 := box_cells HX2.out); (try have hc3 := box_cells HX3.out); (try have hc4 := box_cells HX4.out); (try have hc5 := box_cells HX5.out); (try have hc6 := box_cells HX6.out)
  obtain ⟨FX, hFX⟩ : ∃ FX, freeR s.bars l (viewL s p) jp = FX := ⟨_, rfl⟩
  obtain ⟨FY, hFY⟩ : ∃ FY, freeR s.bars l (viewL T p) jp = FY := ⟨_, rfl⟩
  have hx3 := free_err hFX
  have hy3 := free_err hFY
  have hvw : VwOk s.bars (viewL T p) := by have h := vwok_valid (view_valid hvT (by rw [hpT]; exact HP.out)); rwa [hbT] at h
  have HLe := Lib.hid (fun (a b c d : Rt) (h1 : FX = ((a, b), 0)) (h2 : FY = ((c, d), 0)) => less_free HTm.out HUw.out.vw hvw (view_fewer hbT hnT) (k := jp) (by omega) (hFX.trans h1) (hFY.trans h2))
  have HF1 := Lib.hid (fun V (hV : Below W4.heap.size W4 V) => free_use (cap := cap) (tcap := tcap) (HUw.out.below hV) (k := jp) (by omega) hFX)
  have HG2 := Lib.hid (fun V (hb : Below W5.heap.size W5 V) => show Calls Tryz.prog 30 #[.agg #[.int .i64 T.version, .slice tq.ab T.bars.length tq.cb, .slice tq.ap T.parts.length tq.cp, .slice tq.an T.notes.length tq.cn], .int .i64 p.id] V (RetVE p.id (viewL T p) 0 V) from by have := VGet_any T tq p.id V hfT (HST.out.below hb) (HE.out.below (HBs.out.trans (hb.mono HBs.out.size))); rwa [get_mem hvT (by rw [hpT]; exact HP.out)] at this)
  have HUT := Lib.hid (fun V a2 (ms2 : List Me) (hb : Below W5.heap.size W5 V) (hm : MeAt V a2 ms2) (hy : ms2.map Me.says = viewL T p) => show UseW V T tq ta l a2 ms2 p from ⟨⟨hfT, HST.out.below hb, HE.out.below (HBs.out.trans (hb.mono HBs.out.size)), by have e := congrArg List.length hy; rw [List.length_map, view_lenT] at e; have := hfT.bars; omega, fun m hm' => view_fewT hfT p m.says (by rw [← hy]; exact List.mem_map_of_mem hm'), hm, (HT.out.below HBs.out).below hb, by omega⟩, by unfold okT; rw [view_valid hvT (by rw [hpT]; exact HP.out), hbT, HTm.out]; rfl, hy⟩)
  have HF2 := Lib.hid (fun V a2 c2 (ms2 : List Me) (hb : Below W5.heap.size W5 V) (hm : MeAt V a2 ms2) (hy : ms2.map Me.says = viewL T p) => show Calls Tryz.prog 11 #[.agg #[.int .i64 T.version, .slice tq.ab T.bars.length tq.cb, .slice tq.ap T.parts.length tq.cp, .slice tq.an T.notes.length tq.cn], .slice ta l.length tcap, .agg #[.int .i64 p.id, .slice a2 ms2.length c2], .int .i64 (jp : Int)] V (fun e w' => e = .returned (.tuple #[.agg #[.int .i64 (FY).1.1.n, .int .i64 (FY).1.1.d, .int .i64 (FY).1.2.n, .int .i64 (FY).1.2.d], .int .i64 (FY).2]) ∧ Below V.heap.size V w') from free_use (cap := c2) (tcap := tcap) (HUT.out V a2 ms2 hb hm hy) (k := jp) (by rw [hbT]; omega) (by rw [hbT]; exact hFY))
  clear hFX hFY HUT hvT hpT hfT hvw hnT hTd hsub hL2 hbT
  obtain ⟨⟨⟨n1, d1⟩, ⟨n2, d2⟩⟩, fx⟩ := FX
  obtain ⟨⟨⟨m1, e1⟩, ⟨m2, e2⟩⟩, fy⟩ := FY
  dsimp only at HF1 HF2 hx3 hy3
  go_upto_region 8 with (go_at_call 30; refine (HG2.out _ HD.out).mono ?_; rintro e w6 ⟨a2, c2, ms2, rfl, hok, hme, hsy, hb⟩; have HMe := Lib.hid hme; have HSy := Lib.hid hsy; clear hok hme hsy; replace HD := Lib.hid (HD.out.trans (hb.mono HD.out.size)); (try clear hc1); (try clear hc2); (try clear hc3); (try clear hc4); (try clear hc5); (try clear hc6); (try replace hb := drewB hb); (try replace HX1 := Lib.hid (blk_keep HX1.out hb)); (try replace HX2 := Lib.hid (blk_keep HX2.out hb)); (try replace HX3 := Lib.hid (blk_keep HX3.out hb)); (try replace HX4 := Lib.hid (blk_keep HX4.out hb)); (try replace HX5 := Lib.hid (blk_keep HX5.out hb)); (try replace HX6 := Lib.hid (blk_keep HX6.out hb)); (try replace HC := Lib.hid (HC.out.trans (hb.mono HC.out.size))); replace HB := Lib.hid (HB.out.trans (hb.mono HB.out.size)); clear hb; (try have hc1 := box_cells HX1.out); (try have hc2 := box_cells HX2.out); (try have hc3 := box_cells HX3.out); (try have hc4 := box_cells HX4.out); (try have hc5 := box_cells HX5.out); (try have hc6 := box_cells HX6.out))
  have hb := (Below.refl w6.heap.size w6).alloc (Nat.le_refl _) (.cells #[.int .i64 p.id, .slice a2 ms2.length c2] 30 (0, 0))
  replace HD := Lib.hid (HD.out.trans (hb.mono HD.out.size))
  replace HMe := Lib.hid (HMe.out.below hb)
  clear hb
  have x4 := heap_alloc_new w6 (.cells #[.int .i64 p.id, .slice a2 ms2.length c2] 30 (0, 0)); have hb := (Below.refl (w6).heap.size w6).alloc (Nat.le_refl _) (.cells #[.int .i64 p.id, .slice a2 ms2.length c2] 30 (0, 0)); (try clear hc1); (try clear hc2); (try clear hc3); (try clear hc4); (try clear hc5); (try clear hc6); (try replace hb := drewB hb); (try replace HX1 := Lib.hid (blk_keep HX1.out hb)); (try replace HX2 := Lib.hid (blk_keep HX2.out hb)); (try replace HX3 := Lib.hid (blk_keep HX3.out hb)); (try replace HX4 := Lib.hid (blk_keep HX4.out hb)); (try replace HX5 := Lib.hid (blk_keep HX5.out hb)); (try replace HX6 := Lib.hid (blk_keep HX6.out hb)); (try replace HC := Lib.hid (HC.out.trans (hb.mono HC.out.size))); replace HB := Lib.hid (HB.out.trans (hb.mono HB.out.size)); clear hb; have HX3 := Lib.hid x4; clear x4; generalize World.alloc w6 (.cells #[.int .i64 p.id, .slice a2 ms2.length c2] 30 (0, 0)) = W6 at *; generalize World.heap w6 = x6 at *; (try have hc1 := box_cells HX1.out); (try have hc2 := box_cells HX2.out); (try have hc3 := box_cells HX3.out); (try have hc4 := box_cells HX4.out); (try have hc5 := box_cells HX5.out); (try have hc6 := box_cells HX6.out)
  have HF3 := Lib.hid (fun V (hb : Below W6.heap.size W6 V) => HF2.out V a2 c2 ms2 (HD.out.trans (hb.mono HD.out.size)) (HMe.out.below hb) HSy.out)
  have HG := Lib.hid (Below.refl W6.heap.size W6)
  clear HF2
  go_upto_region 12 with (go_at_call 11; refine (HF1.out _ HC.out).mono ?_; rintro e w7 ⟨rfl, hb⟩; replace HG := Lib.hid (HG.out.trans (hb.mono HG.out.size)); (try clear hc1); (try clear hc2); (try clear hc3); (try clear hc4); (try clear hc5); (try clear hc6); (try replace hb := drewB hb); (try replace HX1 := Lib.hid (blk_keep HX1.out hb)); (try replace HX2 := Lib.hid (blk_keep HX2.out hb)); (try replace HX3 := Lib.hid (blk_keep HX3.out hb)); (try replace HX4 := Lib.hid (blk_keep HX4.out hb)); (try replace HX5 := Lib.hid (blk_keep HX5.out hb)); (try replace HX6 := Lib.hid (blk_keep HX6.out hb)); (try replace HC := Lib.hid (HC.out.trans (hb.mono HC.out.size))); replace HB := Lib.hid (HB.out.trans (hb.mono HB.out.size)); clear hb; (try have hc1 := box_cells HX1.out); (try have hc2 := box_cells HX2.out); (try have hc3 := box_cells HX3.out); (try have hc4 := box_cells HX4.out); (try have hc5 := box_cells HX5.out); (try have hc6 := box_cells HX6.out))
  have hb := (Below.refl w7.heap.size w7).alloc (Nat.le_refl _) (.cells #[.int .i64 n1, .int .i64 d1, .int .i64 n2, .int .i64 d2] 36 (0, 0))
  replace HG := Lib.hid (HG.out.trans (hb.mono HG.out.size))
  clear hb
  have x4 := heap_alloc_new w7 (.cells #[.int .i64 n1, .int .i64 d1, .int .i64 n2, .int .i64 d2] 36 (0, 0)); have hb := (Below.refl (w7).heap.size w7).alloc (Nat.le_refl _) (.cells #[.int .i64 n1, .int .i64 d1, .int .i64 n2, .int .i64 d2] 36 (0, 0)); (try clear hc1); (try clear hc2); (try clear hc3); (try clear hc4); (try clear hc5); (try clear hc6); (try replace hb := drewB hb); (try replace HX1 := Lib.hid (blk_keep HX1.out hb)); (try replace HX2 := Lib.hid (blk_keep HX2.out hb)); (try replace HX3 := Lib.hid (blk_keep HX3.out hb)); (try replace HX4 := Lib.hid (blk_keep HX4.out hb)); (try replace HX5 := Lib.hid (blk_keep HX5.out hb)); (try replace HX6 := Lib.hid (blk_keep HX6.out hb)); (try replace HC := Lib.hid (HC.out.trans (hb.mono HC.out.size))); replace HB := Lib.hid (HB.out.trans (hb.mono HB.out.size)); clear hb; have HX5 := Lib.hid x4; clear x4; generalize World.alloc w7 (.cells #[.int .i64 n1, .int .i64 d1, .int .i64 n2, .int .i64 d2] 36 (0, 0)) = W7 at *; generalize World.heap w7 = x7 at *; (try have hc1 := box_cells HX1.out); (try have hc2 := box_cells HX2.out); (try have hc3 := box_cells HX3.out); (try have hc4 := box_cells HX4.out); (try have hc5 := box_cells HX5.out); (try have hc6 := box_cells HX6.out)
  go_upto_region 13 with (go_at_call 11; refine (HF3.out _ HG.out).mono ?_; rintro e w8 ⟨rfl, hb⟩; (try clear hc1); (try clear hc2); (try clear hc3); (try clear hc4); (try clear hc5); (try clear hc6); (try replace hb := drewB hb); (try replace HX1 := Lib.hid (blk_keep HX1.out hb)); (try replace HX2 := Lib.hid (blk_keep HX2.out hb)); (try replace HX3 := Lib.hid (blk_keep HX3.out hb)); (try replace HX4 := Lib.hid (blk_keep HX4.out hb)); (try replace HX5 := Lib.hid (blk_keep HX5.out hb)); (try replace HX6 := Lib.hid (blk_keep HX6.out hb)); (try replace HC := Lib.hid (HC.out.trans (hb.mono HC.out.size))); replace HB := Lib.hid (HB.out.trans (hb.mono HB.out.size)); clear hb; (try have hc1 := box_cells HX1.out); (try have hc2 := box_cells HX2.out); (try have hc3 := box_cells HX3.out); (try have hc4 := box_cells HX4.out); (try have hc5 := box_cells HX5.out); (try have hc6 := box_cells HX6.out))
  have x4 := heap_alloc_new w8 (.cells #[.int .i64 m1, .int .i64 e1, .int .i64 m2, .int .i64 e2] 36 (0, 0)); have hb := (Below.refl (w8).heap.size w8).alloc (Nat.le_refl _) (.cells #[.int .i64 m1, .int .i64 e1, .int .i64 m2, .int .i64 e2] 36 (0, 0)); (try clear hc1); (try clear hc2); (try clear hc3); (try clear hc4); (try clear hc5); (try clear hc6); (try replace hb := drewB hb); (try replace HX1 := Lib.hid (blk_keep HX1.out hb)); (try replace HX2 := Lib.hid (blk_keep HX2.out hb)); (try replace HX3 := Lib.hid (blk_keep HX3.out hb)); (try replace HX4 := Lib.hid (blk_keep HX4.out hb)); (try replace HX5 := Lib.hid (blk_keep HX5.out hb)); (try replace HX6 := Lib.hid (blk_keep HX6.out hb)); (try replace HC := Lib.hid (HC.out.trans (hb.mono HC.out.size))); replace HB := Lib.hid (HB.out.trans (hb.mono HB.out.size)); clear hb; have HX6 := Lib.hid x4; clear x4; generalize World.alloc w8 (.cells #[.int .i64 m1, .int .i64 e1, .int .i64 m2, .int .i64 e2] 36 (0, 0)) = W8 at *; generalize World.heap w8 = x8 at *; (try have hc1 := box_cells HX1.out); (try have hc2 := box_cells HX2.out); (try have hc3 := box_cells HX3.out); (try have hc4 := box_cells HX4.out); (try have hc5 := box_cells HX5.out); (try have hc6 := box_cells HX6.out)
  clear HF1 HF3
  by_cases he1 : fx = 0
  · by_cases he2 : fy = 0
    · subst he1 he2
      obtain ⟨⟨r1, r2, r3, r4⟩, r5, r6⟩ := HLe.out ⟨n1, d1⟩ ⟨n2, d2⟩ ⟨m1, e1⟩ ⟨m2, e2⟩ rfl rfl
      have HCx := Lib.hid (fun (x0 x1 y0 y1 : Int) V (hx : (x0 = n1 ∧ x1 = d1 ∧ y0 = m1 ∧ y1 = e1) ∨ (x0 = n2 ∧ x1 = d2 ∧ y0 = m2 ∧ y1 = e2)) => show Calls Tryz.prog 20 #[.agg #[.int .i64 x0, .int .i64 x1], .agg #[.int .i64 y0, .int .i64 y1]] V (fun e w' => ∃ g, e = .returned (.int .i64 g) ∧ g ≤ 0 ∧ Below V.heap.size V w') from by
        rcases hx with ⟨rfl, rfl, rfl, rfl⟩ | ⟨rfl, rfl, rfl, rfl⟩
        · refine (tCmp_any ⟨x0, x1⟩ ⟨y0, y1⟩ V r1 r3).mono ?_
          rintro e w' ⟨rfl, hb⟩
          exact ⟨_, rfl, r5, hb⟩
        · refine (tCmp_any ⟨x0, x1⟩ ⟨y0, y1⟩ V r2 r4).mono ?_
          rintro e w' ⟨rfl, hb⟩
          exact ⟨_, rfl, r6, hb⟩)
      clear HLe r1 r2 r3 r4 r5 r6
      go_wp2_with (go_at_call 20; refine (HCx.out _ _ _ _ _ (by first | exact .inl ⟨rfl, rfl, rfl, rfl⟩ | exact .inr ⟨rfl, rfl, rfl, rfl⟩)).mono ?_; rintro e w9 ⟨g, rfl, hg, hb⟩; (try clear hc1); (try clear hc2); (try clear hc3); (try clear hc4); (try clear hc5); (try clear hc6); (try replace hb := drewB hb); (try replace HX1 := Lib.hid (blk_keep HX1.out hb)); (try replace HX2 := Lib.hid (blk_keep HX2.out hb)); (try replace HX3 := Lib.hid (blk_keep HX3.out hb)); (try replace HX4 := Lib.hid (blk_keep HX4.out hb)); (try replace HX5 := Lib.hid (blk_keep HX5.out hb)); (try replace HX6 := Lib.hid (blk_keep HX6.out hb)); (try replace HC := Lib.hid (HC.out.trans (hb.mono HC.out.size))); replace HB := Lib.hid (HB.out.trans (hb.mono HB.out.size)); clear hb; (try have hc1 := box_cells HX1.out); (try have hc2 := box_cells HX2.out); (try have hc3 := box_cells HX3.out); (try have hc4 := box_cells HX4.out); (try have hc5 := box_cells HX5.out); (try have hc6 := box_cells HX6.out))
      go_ret
      exact ⟨rfl, HB.out⟩
    · obtain rfl : fy = 3 := by omega
      subst he1
      go_wp2
      go_ret
      exact ⟨rfl, HB.out⟩
  · obtain rfl : fx = 3 := by omega
    rcases hy3 with rfl | rfl
    all_goals
      go_wp2
      go_ret
      exact ⟨rfl, HB.out⟩
end Go.Proofs.YtcelciomhngajaaGreatDoor

