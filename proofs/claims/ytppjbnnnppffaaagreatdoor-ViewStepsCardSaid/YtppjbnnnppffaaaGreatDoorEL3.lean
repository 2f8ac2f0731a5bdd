/- Texts of this seat, laid together: ScL14e, ScL14f. -/
import Derived.Test.YtppjbnnnppffaaaGreatDoorEL2
import Derived.Test.YtppjbnnnppffaaaGreatDoorEL7

/- The law ViewSteps: what it rests on; its inner loop: walked. -/
namespace Go.Proofs.YtppjbnnnppffaaaGreatDoor
set_option linter.unusedSimpArgs false
set_option linter.unusedVariables false
open Go.RowKit Go.Sort Go.Shelf

theorem between_moves {p : Pa} {k : Int} {q : Pi} (hw : writtenB p = true) (hk : keyB k = true) (hq : vldP q = true) (he : (soundR p k q).2 = 0) :
    betweenR (soundR p k q).1.s (soundR p k q).1.a (soundR p k q).1.o q.s q.a q.o = (mvX p k, mvY p k, 0) := by
  obtain ⟨h1, h2, h3, h4⟩ := between_sound hw hk hq he
  have e1 : vldB (soundR p k q).1.s (soundR p k q).1.a (soundR p k q).1.o = true := h1
  have e2 : vldB q.s q.a q.o = true := hq
  have e3 : 12 * q.o + natI q.s + q.a - (12 * (soundR p k q).1.o + natI (soundR p k q).1.s + (soundR p k q).1.a) = mvY p k := h2
  unfold betweenR
  rw [e1, e2, e3, h3]
  unfold checkedR
  simp [h4]
noncomputable def stepsBody (i : Nat) : Code := ((Tryz.f11.body.map loopsOf).getD []).getD i .skip
theorem cell2_far {w : World} {b c j : Nat} {u v0 v1 : Value} (h : w.cell? ⟨b, j, none⟩ = some u) (hne : b ≠ c) : ((w.setCell ⟨c, 0, none⟩ v0).setCell ⟨c, 1, none⟩ v1).cell? ⟨b, j, none⟩ = some u := cell1_far (cell1_far h hne _) hne _
/-- What the inner loop of ViewSteps rests on. -/
structure StL (L : List No) (al : Option Addr) (M : Me) (C mb fb B0 : Nat) (X Y : Int) (wo : World) : Prop where
  m : wo.heap[mb]? = some (.cells #[.int .i64 M.bar, .int .i64 M.key, .int .i64 M.len.n, .int .i64 M.len.d, .slice M.na M.notes.length M.ncap] 65)
  f : wo.heap[fb]? = some (.cells #[.int .i64 0, .int .i64 0] 55)
  l : ∀ W, Below B0 wo W → NoAt W al L
  n : ∀ W, Below B0 wo W → WrAt W M.na M.notes
  len : C + M.notes.length ≤ L.length
  few : L.length ≤ 50000
  id : ∀ j (hj : j < M.notes.length), (L[C + j]'(by omega)).id = M.notes[j].id ∧ (L[C + j]'(by omega)).bar = M.bar
  bt : ∀ j (hj : j < M.notes.length) W, Below B0 wo W → Calls Tryz.prog 38 #[.agg #[.int .i64 (L[C + j]'(by omega)).pitch.s, .int .i64 (L[C + j]'(by omega)).pitch.a, .int .i64 (L[C + j]'(by omega)).pitch.o], .agg #[.int .i64 M.notes[j].pitch.s, .int .i64 M.notes[j].pitch.a, .int .i64 M.notes[j].pitch.o]] W fun e w' => e = .returned (.tuple #[.agg #[.int .i64 X, .int .i64 Y], .int .i64 0]) ∧ Below W.heap.size W w'
  lt : B0 ≤ fb ∧ B0 ≤ mb ∧ fb ≠ mb
set_option maxRecDepth 1000000 in
set_option maxHeartbeats 8000000 in
theorem steps2_any {L : List No} {al : Option Addr} {M : Me} {C mb fb B0 : Nat} {X Y : Int} {wo : World} (X0 : StL L al M C mb fb B0 X Y wo) (capl : Nat)
    (bn offn bl offl : Nat) (hna : M.notes ≠ [] → M.na = some ⟨bn, offn, none⟩) (hla : L ≠ [] → al = some ⟨bl, offl, none⟩) {s0 s1 s2 s3 s4 s7 s9 s12 s13 s14 s15 s16 s17 s18 s19 s20 s21 s22 s23 s24 s25 s26 s27 s28 s29 s30 s31 s32 s33 s34 s35 s36 s37 s38 s39 s40 s41 s42 s43 s44 s45 s46 s47 s51 s52 s53 s54 s55 s56 s57 s58 s59 s60 s61 s62 s63 s64 s65 s66 s67 s68 s69 s70 s71 s72 s73 s74 s75 s76 s77 s78 s79 s80 s81 s82 s83 s84 s85 s86 s87 s88 s89 s90 s91 s92 s93 s94 s95 s96 s97 s98 s99 s100 s101 s102 s103 s104 s105 s106 s107 s108 s109 s110 s111 s112 s113 : Value} (Q : Exit → Act → World → Prop)
    (hexit : ∀ (t4 t12 t13 t14 t15 t50 t51 t52 t53 t54 t55 t56 t57 t58 t59 t60 t61 t62 t63 t64 t65 t66 t67 t68 t69 t70 t71 t72 t73 t74 t75 t76 t77 t78 t79 t80 t81 t82 t83 t84 t85 t86 t87 t88 t89 t90 t91 t92 t93 t94 t95 t96 t97 t98 t99 t100 t101 t102 t103 t104 t105 : Value) (W' : World), Below B0 wo W' → Q (.exit 2) ⟨(List.toArray (s0 :: s1 :: s2 :: s3 :: t4 :: .bool true :: .slice al L.length capl :: s7 :: .int .i64 ((C + M.notes.length : Nat) : Int) :: s9 :: .pointer (some ⟨mb, 0, none⟩) :: .pointer (some ⟨fb, 0, none⟩) :: t12 :: t13 :: t14 :: t15 :: s16 :: s17 :: s18 :: s19 :: s20 :: s21 :: s22 :: s23 :: s24 :: s25 :: s26 :: s27 :: s28 :: s29 :: s30 :: s31 :: s32 :: s33 :: s34 :: s35 :: s36 :: s37 :: s38 :: s39 :: s40 :: s41 :: s42 :: s43 :: s44 :: s45 :: s46 :: s47 :: .slice M.na M.notes.length M.ncap :: .int .i64 M.notes.length :: t50 :: t51 :: t52 :: t53 :: t54 :: t55 :: t56 :: t57 :: t58 :: t59 :: t60 :: t61 :: t62 :: t63 :: t64 :: t65 :: t66 :: t67 :: t68 :: t69 :: t70 :: t71 :: t72 :: t73 :: t74 :: t75 :: t76 :: t77 :: t78 :: t79 :: t80 :: t81 :: t82 :: t83 :: t84 :: t85 :: t86 :: t87 :: t88 :: t89 :: t90 :: t91 :: t92 :: t93 :: t94 :: t95 :: t96 :: t97 :: t98 :: t99 :: t100 :: t101 :: t102 :: t103 :: t104 :: t105 :: s106 :: s107 :: s108 :: s109 :: s110 :: s111 :: s112 :: s113 :: List.nil)), []⟩ W') :
    Code.wp Tryz.prog (Code.loop (stepsBody 1)) Q ⟨(List.toArray (s0 :: s1 :: s2 :: s3 :: s4 :: .bool true :: .slice al L.length capl :: s7 :: .int .i64 (C : Int) :: s9 :: .pointer (some ⟨mb, 0, none⟩) :: .pointer (some ⟨fb, 0, none⟩) :: s12 :: s13 :: s14 :: s15 :: s16 :: s17 :: s18 :: s19 :: s20 :: s21 :: s22 :: s23 :: s24 :: s25 :: s26 :: s27 :: s28 :: s29 :: s30 :: s31 :: s32 :: s33 :: s34 :: s35 :: s36 :: s37 :: s38 :: s39 :: s40 :: s41 :: s42 :: s43 :: s44 :: s45 :: s46 :: s47 :: .slice M.na M.notes.length M.ncap :: .int .i64 M.notes.length :: .int .i64 0 :: s51 :: s52 :: s53 :: s54 :: s55 :: s56 :: s57 :: s58 :: s59 :: s60 :: s61 :: s62 :: s63 :: s64 :: s65 :: s66 :: s67 :: s68 :: s69 :: s70 :: s71 :: s72 :: s73 :: s74 :: s75 :: s76 :: s77 :: s78 :: s79 :: s80 :: s81 :: s82 :: s83 :: s84 :: s85 :: s86 :: s87 :: s88 :: s89 :: s90 :: s91 :: s92 :: s93 :: s94 :: s95 :: s96 :: s97 :: s98 :: s99 :: s100 :: s101 :: s102 :: s103 :: s104 :: s105 :: s106 :: s107 :: s108 :: s109 :: s110 :: s111 :: s112 :: s113 :: List.nil)), []⟩ wo := by
  have HX := Lib.hid X0; have HQ := Lib.hid hexit
  have hlen := X0.len; have hfew := X0.few
  obtain ⟨hlt1, hlt2, hlt3⟩ := X0.lt
  clear X0 hexit
  conv => arg 2; arg 1; whnf
  go_loopw [5, 8, 50] (fun s5 s8 i wi => ∃ (j : Nat) (x y : Int), j ≤ M.notes.length ∧ i = .int .i64 j ∧ s8 = .int .i64 ((C + j : Nat) : Int) ∧ s5 = .bool true ∧ wi.heap[mb]? = some (.cells #[.int .i64 M.bar, .int .i64 M.key, .int .i64 M.len.n, .int .i64 M.len.d, .slice M.na M.notes.length M.ncap] 65) ∧ wi.heap[fb]? = some (.cells #[.int .i64 x, .int .i64 y] 55) ∧ (0 < j → x = X ∧ y = Y) ∧ Below B0 wo wi ∧ wo.heap.size ≤ wi.heap.size) (fun _ _ i _ => M.notes.length - (intOf i).toNat)
  case atStart => exact ⟨0, 0, 0, Nat.zero_le _, rfl, rfl, rfl, HX.out.m, HX.out.f, (fun h => by omega), Below.refl _ _, Nat.le_refl _⟩
  case round =>
    obtain ⟨j, x, y, hj, rfl, rfl, rfl, hm, hf, hxy, hbe, hsz⟩ := hrel
    have HM := Lib.hid hm; have HF := Lib.hid hf; have HXY := Lib.hid hxy; have HB := Lib.hid hbe
    clear hm hf hxy hbe
    by_cases hlt : j < M.notes.length
    · have hqa := hna (fun e => by rw [e] at hlt; simp at hlt)
      have hcl : C + j < L.length := by omega
      have hqb := hla (fun e => by rw [e] at hcl; simp at hcl)
      obtain ⟨b', off', e', _, c0, c1, c2, c3, c4, c5, c6, c7, c8, c9⟩ := (HX.out.n _ HB.out).get j hlt
      rw [hqa] at e'
      cases e'
      obtain ⟨b', off', e', hbl, d0, _, d2, _, _, _, _, _, _, d9, d10, d11⟩ := (HX.out.l _ HB.out).get (C + j) hcl
      rw [hqb] at e'
      cases e'
      have hbf : bl ≠ fb := SlAt.small (w := wr) (off := offl) (sz := 12) (by have := HX.out.l _ HB.out; rw [hqb] at this; exact this) (by intro e; have := congrArg List.length e; rw [List.length_map, List.length_nil] at this; omega) HF.out (by simp)
      obtain ⟨hid1, hid2⟩ := HX.out.id j hlt
      have HBt := Lib.hid (HX.out.bt j hlt)
      have HNo := Lib.hid hqa; have HLa := Lib.hid hqb; clear hqa hqb
      rw [HNo.out, HLa.out]
      generalize M.notes[j] = wn at *
      generalize L[C + j] = ln at *
      obtain ⟨n1, n2, n3, n4, n5, n6, n7, n8⟩ := ln
      simp only at hid1 hid2 HBt d0 d2 d9 d10 d11
      generalize hmm : C + j = m at *
      have HMm := Lib.hid hmm; clear hmm
      subst hid1; subst hid2
      have hc9q := HM.out
      rw [HNo.out] at hc9q
      have hcm := box_cells hc9q
      clear hc9q
      go_upto_region 15 with (fail)
      have HX5 := Lib.hid (heap_alloc_new wr (.cells #[.int .i64 wn.id, .int .i64 wn.voice, .int .i64 wn.ossia, .int .i64 wn.start.n, .int .i64 wn.start.d, .int .i64 wn.len.n, .int .i64 wn.len.d, .int .i64 wn.pitch.s, .int .i64 wn.pitch.a, .int .i64 wn.pitch.o] 68))
      have hb := (Below.refl wr.heap.size wr).alloc (Nat.le_refl _) (.cells #[.int .i64 wn.id, .int .i64 wn.voice, .int .i64 wn.ossia, .int .i64 wn.start.n, .int .i64 wn.start.d, .int .i64 wn.len.n, .int .i64 wn.len.d, .int .i64 wn.pitch.s, .int .i64 wn.pitch.a, .int .i64 wn.pitch.o] 68)
      have hxl := lt_blk HX5.out
      have hml := lt_blk HM.out; have hfl := lt_blk HF.out
      have hbB : B0 ≤ wr.heap.size := by omega
      replace HM := Lib.hid (blk_keep HM.out hb); replace HF := Lib.hid (blk_keep HF.out hb); replace HB := Lib.hid (HB.out.trans (hb.mono hbB))
      replace d0 := keepE d0 hb; replace d2 := keepE d2 hb; replace d9 := keepE d9 hb; replace d10 := keepE d10 hb; replace d11 := keepE d11 hb
      have hsz1 := hb.size
      clear hb c0 c1 c2 c3 c4 c5 c6 c7 c8 c9 hcm
      generalize wr.alloc (.cells #[.int .i64 wn.id, .int .i64 wn.voice, .int .i64 wn.ossia, .int .i64 wn.start.n, .int .i64 wn.start.d, .int .i64 wn.len.n, .int .i64 wn.len.d, .int .i64 wn.pitch.s, .int .i64 wn.pitch.a, .int .i64 wn.pitch.o] 68) = W1 at *
      generalize hxb : wr.heap.size = xb at *
      clear hxb
      have hgl : ¬ ((L.length : Int) ≤ (m : Int)) := by omega
      go_upto_region 17 with (fail)
      have e7 : W1.cell? ⟨xb, 7, none⟩ = some (.int .i64 wn.pitch.s) := box_cells HX5.out 7
      have e8 : W1.cell? ⟨xb, 8, none⟩ = some (.int .i64 wn.pitch.a) := box_cells HX5.out 8
      have e9 : W1.cell? ⟨xb, 9, none⟩ = some (.int .i64 wn.pitch.o) := box_cells HX5.out 9
      have HD := Lib.hid (show _ ∧ _ from ⟨d0, d2⟩)
      have hdl := lt_cell d9
      have HBt2 := Lib.hid (fun W (hb : Below W1.heap.size W1 W) => HBt.out W (HB.out.trans (hb.mono (by omega))))
      clear HBt
      go_cut [14, 15] from 59 to 69 (fun s14 s15 W => ∃ ib, s14 = .pointer (some ⟨ib, 0, none⟩) ∧ s15 = .int .i64 0 ∧ W1.heap.size ≤ ib ∧ W.heap[ib]? = some (.cells #[.int .i64 X, .int .i64 Y] 55) ∧ Below W1.heap.size W1 W)
      case first =>
        have HBr := Lib.hid (Below.refl W1.heap.size W1)
        go_region_held3 (fun W => W.cell? ⟨bl, offl + m * 12 + 9, none⟩ = some (.int .i64 n8.s) ∧ W.cell? ⟨bl, offl + m * 12 + 10, none⟩ = some (.int .i64 n8.a) ∧ W.cell? ⟨bl, offl + m * 12 + 11, none⟩ = some (.int .i64 n8.o) ∧ W.cell? ⟨xb, 7, none⟩ = some (.int .i64 wn.pitch.s) ∧ W.cell? ⟨xb, 8, none⟩ = some (.int .i64 wn.pitch.a) ∧ W.cell? ⟨xb, 9, none⟩ = some (.int .i64 wn.pitch.o))
          (first | with_reducible exact ⟨keepE d9 (box_drew _), keepE d10 (box_drew _), keepE d11 (box_drew _), keepE e7 (box_drew _), keepE e8 (box_drew _), keepE e9 (box_drew _)⟩ | with_reducible exact ⟨keepE d9 (below_box _), keepE d10 (below_box _), keepE d11 (below_box _), keepE e7 (below_box _), keepE e8 (below_box _), keepE e9 (below_box _)⟩ | with_reducible exact ⟨cell2_far d9 (by omega), cell2_far d10 (by omega), cell2_far d11 (by omega), cell2_far e7 (by omega), cell2_far e8 (by omega), cell2_far e9 (by omega)⟩ | exact ⟨d9, d10, d11, e7, e8, e9⟩ | go_keep)
          ((go_at_call 38; refine (HBt2.out _ (by first | with_reducible exact Below.refl _ _ | with_reducible exact box_drew _ | with_reducible exact below_box _ | exact (Below.refl _ _).drew)).mono ?_; rintro e w5 ⟨rfl, hb⟩; (try replace hb := drewB hb); (first | (have x0 := box_below hb; have HX9 := Lib.hid x0; have hc9 := box_cells x0; have hf9 := box_free x0; have hz9 := lt_blk x0; clear x0; replace hb := allocB hb) | skip); (try replace hb := drewB hb); replace HBr := Lib.hid (HBr.out.trans (hb.mono HBr.out.size)); replace d9 := keepE d9 hb; replace d10 := keepE d10 hb; replace d11 := keepE d11 hb; replace e7 := keepE e7 hb; replace e8 := keepE e8 hb; replace e9 := keepE e9 hb; clear hb))
        · go_wp2
          go_meet
          case rel => exact ⟨_, rfl, rfl, HBr.out.size, heap_alloc_new _ _, HBr.out.alloc HBr.out.size _⟩
        · go_wp2
          go_meet
          case rel => exact ⟨_, rfl, rfl, Nat.le_refl _, heap_setCell_same _ _ _ _ _ _ (heap_setCell_same _ _ _ _ _ _ HX9.out), (HBr.out.setCell (p := ⟨_, 0, none⟩) (Nat.le_refl _) _).setCell (p := ⟨_, 1, none⟩) (Nat.le_refl _) _⟩
      case rest =>
        obtain ⟨ib, rfl, rfl, hib, xi, hb⟩ := hcut
        have HI := Lib.hid xi
        clear e7 e8 e9 d9 d10 d11 HBt2
        obtain ⟨d0, d2⟩ := HD.out
        replace d0 := keepE d0 hb; replace d2 := keepE d2 hb
        replace HX5 := Lib.hid (blk_keep HX5.out hb); replace HM := Lib.hid (blk_keep HM.out hb); replace HF := Lib.hid (blk_keep HF.out hb)
        replace HB := Lib.hid (HB.out.trans (hb.mono (by omega)))
        have hsz2 := hb.size
        have hne : ib ≠ fb := by omega
        have hne2 : xb ≠ fb := by omega
        clear hb xi HD
        have hdb := lt_cell d0
        have hcm := box_cells HM.out; have hcf := box_cells HF.out; have hff := box_free HF.out; have hci := box_cells HI.out; have hcw := box_cells HX5.out
        have heq := fun w => eql_iv X Y X Y w
        by_cases hj0 : j = 0
        · subst hj0
          go_upto_region 20 with (fail)
          have q1 : ((wc.setCell ⟨fb, 0, none⟩ (.int .i64 X)).setCell ⟨fb, 1, none⟩ (.int .i64 Y)).heap[fb]? = some (.cells #[.int .i64 X, .int .i64 Y] 55) := heap_setCell_same _ _ _ _ _ _ (heap_setCell_same _ _ _ _ _ _ HF.out)
          have q2 := set1_far (i := 1) (set1_far (i := 0) HM.out (show mb ≠ fb by omega) (.int .i64 X)) (show mb ≠ fb by omega) (.int .i64 Y)
          have q3 := set1_far (i := 1) (set1_far (i := 0) HI.out hne (.int .i64 X)) hne (.int .i64 Y)
          have q4 := set1_far (i := 1) (set1_far (i := 0) HX5.out hne2 (.int .i64 X)) hne2 (.int .i64 Y)
          have q5 := (HB.out.setCell (p := ⟨fb, 0, none⟩) hlt1 (.int .i64 X)).setCell (p := ⟨fb, 1, none⟩) hlt1 (.int .i64 Y)
          replace d0 := cell2_far (v0 := .int .i64 X) (v1 := .int .i64 Y) d0 hbf
          replace d2 := cell2_far (v0 := .int .i64 X) (v1 := .int .i64 Y) d2 hbf
          have hs9 : wc.heap.size ≤ ((wc.setCell ⟨fb, 0, none⟩ (.int .i64 X)).setCell ⟨fb, 1, none⟩ (.int .i64 Y)).heap.size := by simp
          clear hcm hcf hff hci hcw
          generalize (wc.setCell ⟨fb, 0, none⟩ (.int .i64 X)).setCell ⟨fb, 1, none⟩ (.int .i64 Y) = V at *
          replace HF := Lib.hid q1; replace HM := Lib.hid q2; replace HI := Lib.hid q3; replace HX5 := Lib.hid q4; replace HB := Lib.hid q5
          clear q1 q2 q3 q4 q5
          have hcm := box_cells HM.out; have hcf := box_cells HF.out; have hci := box_cells HI.out; have hcw := box_cells HX5.out
          go_quiet (fail); go_wp2; rw [← HNo.out]; refine ⟨⟨0 + 1, _, _, by omega, (by first | go_num | rfl), by rw [show C + (0 + 1) = m + 1 by have := HMm.out; omega]; go_num, rfl, blk_keep HM.out (below_drewN (Below.refl _ _) nq), blk_keep HF.out (below_drewN (Below.refl _ _) nq), fun _ => ⟨rfl, rfl⟩, below_drewN HB.out nq, by have h9 := (below_drewN (Below.refl V.heap.size V) nq).size; omega⟩, by simp [intOf]; omega⟩
        · obtain ⟨rfl, rfl⟩ := HXY.out (by omega)
          have hs9 : wc.heap.size ≤ wc.heap.size := Nat.le_refl _
          go_upto_region 20 with (fail)
          generalize wc = V at *
          go_quiet (fail); go_wp2; rw [← HNo.out]; refine ⟨⟨j + 1, _, _, by omega, (by first | go_num | rfl), by rw [show C + (j + 1) = m + 1 by have := HMm.out; omega]; go_num, rfl, blk_keep HM.out (below_drewN (Below.refl _ _) nq), blk_keep HF.out (below_drewN (Below.refl _ _) nq), fun _ => ⟨rfl, rfl⟩, below_drewN HB.out nq, by have h9 := (below_drewN (Below.refl V.heap.size V) nq).size; omega⟩, by simp [intOf]; omega⟩
    · obtain rfl : j = M.notes.length := by omega
      go_wp2
      exact HQ.out _ _ _ _ _ _ _ _ _ _ _ _ _ _ _ _ _ _ _ _ _ _ _ _ _ _ _ _ _ _ _ _ _ _ _ _ _ _ _ _ _ _ _ _ _ _ _ _ _ _ _ _ _ _ _ _ _ _ _ _ _ wr HB.out
end Go.Proofs.YtppjbnnnppffaaaGreatDoor


/- The law ViewSteps: walked. -/
namespace Go.Proofs.YtppjbnnnppffaaaGreatDoor
set_option linter.unusedSimpArgs false
set_option linter.unusedVariables false
open Go.RowKit Go.Sort Go.Shelf

theorem NoAt.addr {w : World} {a : Option Addr} {l : List No} (h : NoAt w a l) : ∃ b off, l ≠ [] → a = some ⟨b, off, none⟩ := by
  by_cases e : l = []
  · exact ⟨0, 0, fun h => absurd e h⟩
  · obtain ⟨b, off, e1, _⟩ := h.get 0 (List.length_pos_iff.2 e)
    exact ⟨b, off, fun _ => e1⟩
/-- What a measure's notes are in what sounds. -/
structure StP (L : List No) (M : Me) (C : Nat) (X Y : Int) (w6 : World) : Prop where
  len : C + M.notes.length ≤ L.length
  id : ∀ j (hj : j < M.notes.length), (L[C + j]'(by omega)).id = M.notes[j].id ∧ (L[C + j]'(by omega)).bar = M.bar
  bt : ∀ j (hj : j < M.notes.length) W, Below w6.heap.size w6 W → Calls Tryz.prog 38 #[.agg #[.int .i64 (L[C + j]'(by omega)).pitch.s, .int .i64 (L[C + j]'(by omega)).pitch.a, .int .i64 (L[C + j]'(by omega)).pitch.o], .agg #[.int .i64 M.notes[j].pitch.s, .int .i64 M.notes[j].pitch.a, .int .i64 M.notes[j].pitch.o]] W fun e w' => e = .returned (.tuple #[.agg #[.int .i64 X, .int .i64 Y], .int .i64 0]) ∧ Below W.heap.size W w'
set_option maxRecDepth 100000 in
set_option maxHeartbeats 8000000 in
theorem ViewSteps_any (s : Sc) (q : Sp) (pv : Int) (a : Option Addr) (cap : Nat) (ms : List Me) (w : World) (hs : ScAt w s q) (hE : Env w) (hm : MeAt w a ms) (hl : ms.length ≤ 140737488355328) (hn : ∀ m ∈ ms, m.notes.length ≤ 140737488355328) :
    Calls Tryz.prog 11 #[.agg #[.int .i64 s.version, .slice q.ab s.bars.length q.cb, .slice q.ap s.parts.length q.cp, .slice q.an s.notes.length q.cn], .agg #[.int .i64 pv, .slice a ms.length cap]] w fun e w' => e = .returned (.bool true) ∧ Below w.heap.size w w' := by
  have HS := Lib.hid hs; have HE := Lib.hid hE; have HM := Lib.hid hm
  obtain ⟨ab, cb, ap, cp, an, cn⟩ := q
  obtain ⟨x1, x2, hb⟩ := box2 (w := w) (A := .cells #[.int .i64 s.version, .slice (⟨ab, cb, ap, cp, an, cn⟩ : Sp).ab s.bars.length (⟨ab, cb, ap, cp, an, cn⟩ : Sp).cb, .slice (⟨ab, cb, ap, cp, an, cn⟩ : Sp).ap s.parts.length (⟨ab, cb, ap, cp, an, cn⟩ : Sp).cp, .slice (⟨ab, cb, ap, cp, an, cn⟩ : Sp).an s.notes.length (⟨ab, cb, ap, cp, an, cn⟩ : Sp).cn] 26) (B := .cells #[.int .i64 pv, .slice a ms.length cap] 44) (Below.refl _ _)
  have HX1 := Lib.hid x1; have HX2 := Lib.hid x2; have HB := Lib.hid hb; clear x1 x2 hb
  have HFw := Lib.hid (fun W => RFew8_any s (⟨ab, cb, ap, cp, an, cn⟩ : Sp) W)
  have HFv := Lib.hid (fun W (hb : Below w.heap.size w W) => RFew14_any pv a cap ms W hl hn (HM.out.below hb))
  clear hs hE hm hn
  dsimp only at *
  cases hfw : few8 s
  · rw [hfw] at HFw
    clear hfw
    go_enter Tryz.func11, Tryz.ntmps11; go_upto_region 1 with (fail); generalize (w.alloc (.cells #[.int .i64 s.version, .slice (⟨ab, cb, ap, cp, an, cn⟩ : Sp).ab s.bars.length (⟨ab, cb, ap, cp, an, cn⟩ : Sp).cb, .slice (⟨ab, cb, ap, cp, an, cn⟩ : Sp).ap s.parts.length (⟨ab, cb, ap, cp, an, cn⟩ : Sp).cp, .slice (⟨ab, cb, ap, cp, an, cn⟩ : Sp).an s.notes.length (⟨ab, cb, ap, cp, an, cn⟩ : Sp).cn] 26)).alloc (.cells #[.int .i64 pv, .slice a ms.length cap] 44) = W at *; have hc1 := box_cells HX1.out; have hc2 := box_cells HX2.out
    go_wp2_with (first | (go_at_call 21; refine (head14_any _ (HE.out.below HB.out)).mono ?_; rintro e w2 ⟨rfl, hb⟩; (try replace hb := drewB hb); replace HB := Lib.hid (HB.out.trans (hb.mono HB.out.size)); (try (replace HX1 := Lib.hid (blk_keep HX1.out hb); replace hc1 := box_cells HX1.out; replace hf1 := box_free HX1.out; replace hz1 := lt_blk HX1.out)); (try (replace HX2 := Lib.hid (blk_keep HX2.out hb); replace hc2 := box_cells HX2.out; replace hf2 := box_free HX2.out; replace hz2 := lt_blk HX2.out)); (try (replace HX10 := Lib.hid (blk_keep HX10.out hb); replace hc10 := box_cells HX10.out; replace hf10 := box_free HX10.out; replace hz10 := lt_blk HX10.out)); clear hb) | (go_at_call 22; refine (HFw.out _).mono ?_; rintro e w2 ⟨rfl, hb⟩; (try replace hb := drewB hb); replace HB := Lib.hid (HB.out.trans (hb.mono HB.out.size)); (try (replace HX1 := Lib.hid (blk_keep HX1.out hb); replace hc1 := box_cells HX1.out; replace hf1 := box_free HX1.out; replace hz1 := lt_blk HX1.out)); (try (replace HX2 := Lib.hid (blk_keep HX2.out hb); replace hc2 := box_cells HX2.out; replace hf2 := box_free HX2.out; replace hz2 := lt_blk HX2.out)); (try (replace HX10 := Lib.hid (blk_keep HX10.out hb); replace hc10 := box_cells HX10.out; replace hf10 := box_free HX10.out; replace hz10 := lt_blk HX10.out)); clear hb))
    go_ret
    exact ⟨rfl, HB.out⟩
  have hf := few8_few hfw
  rw [hfw] at HFw
  cases hfv : few14 (ms.map Me.says)
  · rw [hfv] at HFv
    clear hfw hfv hf
    go_enter Tryz.func11, Tryz.ntmps11; go_upto_region 1 with (fail); generalize (w.alloc (.cells #[.int .i64 s.version, .slice (⟨ab, cb, ap, cp, an, cn⟩ : Sp).ab s.bars.length (⟨ab, cb, ap, cp, an, cn⟩ : Sp).cb, .slice (⟨ab, cb, ap, cp, an, cn⟩ : Sp).ap s.parts.length (⟨ab, cb, ap, cp, an, cn⟩ : Sp).cp, .slice (⟨ab, cb, ap, cp, an, cn⟩ : Sp).an s.notes.length (⟨ab, cb, ap, cp, an, cn⟩ : Sp).cn] 26)).alloc (.cells #[.int .i64 pv, .slice a ms.length cap] 44) = W at *; have hc1 := box_cells HX1.out; have hc2 := box_cells HX2.out
    go_wp2_with (first | (go_at_call 21; refine (head14_any _ (HE.out.below HB.out)).mono ?_; rintro e w2 ⟨rfl, hb⟩; (try replace hb := drewB hb); replace HB := Lib.hid (HB.out.trans (hb.mono HB.out.size)); (try (replace HX1 := Lib.hid (blk_keep HX1.out hb); replace hc1 := box_cells HX1.out; replace hf1 := box_free HX1.out; replace hz1 := lt_blk HX1.out)); (try (replace HX2 := Lib.hid (blk_keep HX2.out hb); replace hc2 := box_cells HX2.out; replace hf2 := box_free HX2.out; replace hz2 := lt_blk HX2.out)); (try (replace HX10 := Lib.hid (blk_keep HX10.out hb); replace hc10 := box_cells HX10.out; replace hf10 := box_free HX10.out; replace hz10 := lt_blk HX10.out)); clear hb) | (go_at_call 22; refine (HFw.out _).mono ?_; rintro e w2 ⟨rfl, hb⟩; (try replace hb := drewB hb); replace HB := Lib.hid (HB.out.trans (hb.mono HB.out.size)); (try (replace HX1 := Lib.hid (blk_keep HX1.out hb); replace hc1 := box_cells HX1.out; replace hf1 := box_free HX1.out; replace hz1 := lt_blk HX1.out)); (try (replace HX2 := Lib.hid (blk_keep HX2.out hb); replace hc2 := box_cells HX2.out; replace hf2 := box_free HX2.out; replace hz2 := lt_blk HX2.out)); (try (replace HX10 := Lib.hid (blk_keep HX10.out hb); replace hc10 := box_cells HX10.out; replace hf10 := box_free HX10.out; replace hz10 := lt_blk HX10.out)); clear hb) | (go_at_call 23; refine (HFv.out _ HB.out).mono ?_; rintro e w2 ⟨rfl, hb⟩; (try replace hb := drewB hb); replace HB := Lib.hid (HB.out.trans (hb.mono HB.out.size)); (try (replace HX1 := Lib.hid (blk_keep HX1.out hb); replace hc1 := box_cells HX1.out; replace hf1 := box_free HX1.out; replace hz1 := lt_blk HX1.out)); (try (replace HX2 := Lib.hid (blk_keep HX2.out hb); replace hc2 := box_cells HX2.out; replace hf2 := box_free HX2.out; replace hz2 := lt_blk HX2.out)); (try (replace HX10 := Lib.hid (blk_keep HX10.out hb); replace hc10 := box_cells HX10.out; replace hf10 := box_free HX10.out; replace hz10 := lt_blk HX10.out)); clear hb))
    go_ret
    exact ⟨rfl, HB.out⟩
  rw [hfv] at HFv
  obtain ⟨hl1, hn1⟩ := few14_few hfv
  have HSo := Lib.hid (fun W (hb : Below w.heap.size w W) => VSounds_any s (⟨ab, cb, ap, cp, an, cn⟩ : Sp) pv a cap ms W hf (HS.out.below hb) (HE.out.below hb) hl1 hn1 (HM.out.below hb))
  by_cases her : (soundsR s pv (ms.map Me.says)).2 = 0
  case neg =>
    rw [sounds_err her] at HSo
    obtain ⟨er, hee⟩ : ∃ er, er = (soundsR s pv (ms.map Me.says)).2 := ⟨_, rfl⟩
    rw [← hee] at HSo her
    have hd : (er != 0) = true := by simpa using her
    clear hfw hfv hf hl1 hn1 hee her
    go_enter Tryz.func11, Tryz.ntmps11; go_upto_region 1 with (fail); generalize (w.alloc (.cells #[.int .i64 s.version, .slice (⟨ab, cb, ap, cp, an, cn⟩ : Sp).ab s.bars.length (⟨ab, cb, ap, cp, an, cn⟩ : Sp).cb, .slice (⟨ab, cb, ap, cp, an, cn⟩ : Sp).ap s.parts.length (⟨ab, cb, ap, cp, an, cn⟩ : Sp).cp, .slice (⟨ab, cb, ap, cp, an, cn⟩ : Sp).an s.notes.length (⟨ab, cb, ap, cp, an, cn⟩ : Sp).cn] 26)).alloc (.cells #[.int .i64 pv, .slice a ms.length cap] 44) = W at *; have hc1 := box_cells HX1.out; have hc2 := box_cells HX2.out
    go_wp2_with (first | (go_at_call 21; refine (head14_any _ (HE.out.below HB.out)).mono ?_; rintro e w2 ⟨rfl, hb⟩; (try replace hb := drewB hb); replace HB := Lib.hid (HB.out.trans (hb.mono HB.out.size)); (try (replace HX1 := Lib.hid (blk_keep HX1.out hb); replace hc1 := box_cells HX1.out; replace hf1 := box_free HX1.out; replace hz1 := lt_blk HX1.out)); (try (replace HX2 := Lib.hid (blk_keep HX2.out hb); replace hc2 := box_cells HX2.out; replace hf2 := box_free HX2.out; replace hz2 := lt_blk HX2.out)); (try (replace HX10 := Lib.hid (blk_keep HX10.out hb); replace hc10 := box_cells HX10.out; replace hf10 := box_free HX10.out; replace hz10 := lt_blk HX10.out)); clear hb) | (go_at_call 22; refine (HFw.out _).mono ?_; rintro e w2 ⟨rfl, hb⟩; (try replace hb := drewB hb); replace HB := Lib.hid (HB.out.trans (hb.mono HB.out.size)); (try (replace HX1 := Lib.hid (blk_keep HX1.out hb); replace hc1 := box_cells HX1.out; replace hf1 := box_free HX1.out; replace hz1 := lt_blk HX1.out)); (try (replace HX2 := Lib.hid (blk_keep HX2.out hb); replace hc2 := box_cells HX2.out; replace hf2 := box_free HX2.out; replace hz2 := lt_blk HX2.out)); (try (replace HX10 := Lib.hid (blk_keep HX10.out hb); replace hc10 := box_cells HX10.out; replace hf10 := box_free HX10.out; replace hz10 := lt_blk HX10.out)); clear hb) | (go_at_call 23; refine (HFv.out _ HB.out).mono ?_; rintro e w2 ⟨rfl, hb⟩; (try replace hb := drewB hb); replace HB := Lib.hid (HB.out.trans (hb.mono HB.out.size)); (try (replace HX1 := Lib.hid (blk_keep HX1.out hb); replace hc1 := box_cells HX1.out; replace hf1 := box_free HX1.out; replace hz1 := lt_blk HX1.out)); (try (replace HX2 := Lib.hid (blk_keep HX2.out hb); replace hc2 := box_cells HX2.out; replace hf2 := box_free HX2.out; replace hz2 := lt_blk HX2.out)); (try (replace HX10 := Lib.hid (blk_keep HX10.out hb); replace hc10 := box_cells HX10.out; replace hf10 := box_free HX10.out; replace hz10 := lt_blk HX10.out)); clear hb) | (go_at_call 29; refine (HSo.out _ HB.out).mono ?_; rintro e w6 ⟨al, capl, rfl, hokl, hnl, hb⟩; (try replace hb := drewB hb); replace HB := Lib.hid (HB.out.trans (hb.mono HB.out.size)); (try (replace HX1 := Lib.hid (blk_keep HX1.out hb); replace hc1 := box_cells HX1.out; replace hf1 := box_free HX1.out; replace hz1 := lt_blk HX1.out)); (try (replace HX2 := Lib.hid (blk_keep HX2.out hb); replace hc2 := box_cells HX2.out; replace hf2 := box_free HX2.out; replace hz2 := lt_blk HX2.out)); (try (replace HX10 := Lib.hid (blk_keep HX10.out hb); replace hc10 := box_cells HX10.out; replace hf10 := box_free HX10.out; replace hz10 := lt_blk HX10.out)); clear hb))
    go_ret
    exact ⟨rfl, HB.out⟩
  obtain ⟨p, hv, hp, hN, hall⟩ := sounds_zero her
  obtain ⟨hvs, hlen, p', hp', hmb, hmany⟩ := validV_some hv
  rw [hp] at hp'
  cases hp'
  rw [her] at HSo
  obtain ⟨L, hL⟩ : ∃ L, L = (soundsR s pv (ms.map Me.says)).1 := ⟨_, rfl⟩
  rw [← hL] at HSo hN
  rw [List.length_map] at hN hlen
  have hLl : L.length ≤ 50000 := by have := sounds_few (s := s) (part := pv) (l := ms.map Me.says); rw [← hL] at this; omega
  have hsm := sndM_len (p := p) hlen ms.length (Nat.le_refl _)
  rw [← hN] at hsm
  have hwr : writtenB p = true := (part_written ((scV hvs).part p (partAt_some hp).1)).1
  have HAtL := Lib.hid (fun k (h1 : k < s.bars.length) (h2 : k < ms.length) => sndM_at (p := p) (L := L) hlen hN h1 h2)
  have HKey := Lib.hid (fun b hb => ((scV hvs).key b hb).1)
  have HMb := Lib.hid (fun k (h1 : k < s.bars.length) (h2 : k < ms.length) => (measureB_parts (by have := hmb k h1 (by simpa using h2); rwa [List.getElem_map] at this) : ms[k].says.bar = s.bars[k].id ∧ ms[k].says.len = s.bars[k].len ∧ ∀ j (hj : j < ms[k].says.notes.length), vldP ms[k].says.notes[j].pitch = true))
  have HAll := Lib.hid (fun k (h1 : k < s.bars.length) (h2 : k < ms.length) j (hj : j < ms[k].notes.length) => show (soundR p s.bars[k].key ms[k].notes[j].pitch).2 = 0 from by
    have e : (ms.map Me.says)[k]'(by simpa using h2) = ms[k].says := List.getElem_map ..
    have := hall k h1 (by simpa using h2) j (by rw [e]; exact hj)
    simp only [e] at this; exact this)
  have HNl := Lib.hid hn1
  have HLen := Lib.hid hlen; have HSm := Lib.hid hsm; have HWb := Lib.hid hwr
  clear hfw hfv hf hn1 her hv hp hN hall hvs hmb hmany hL hlen hsm hwr
  go_enter Tryz.func11, Tryz.ntmps11; go_upto_region 1 with (fail); generalize (w.alloc (.cells #[.int .i64 s.version, .slice (⟨ab, cb, ap, cp, an, cn⟩ : Sp).ab s.bars.length (⟨ab, cb, ap, cp, an, cn⟩ : Sp).cb, .slice (⟨ab, cb, ap, cp, an, cn⟩ : Sp).ap s.parts.length (⟨ab, cb, ap, cp, an, cn⟩ : Sp).cp, .slice (⟨ab, cb, ap, cp, an, cn⟩ : Sp).an s.notes.length (⟨ab, cb, ap, cp, an, cn⟩ : Sp).cn] 26)).alloc (.cells #[.int .i64 pv, .slice a ms.length cap] 44) = W at *; have hc1 := box_cells HX1.out; have hc2 := box_cells HX2.out
  go_upto_region 7 with (first | (go_at_call 21; refine (head14_any _ (HE.out.below HB.out)).mono ?_; rintro e w2 ⟨rfl, hb⟩; (try replace hb := drewB hb); replace HB := Lib.hid (HB.out.trans (hb.mono HB.out.size)); (try (replace HX1 := Lib.hid (blk_keep HX1.out hb); replace hc1 := box_cells HX1.out; replace hf1 := box_free HX1.out; replace hz1 := lt_blk HX1.out)); (try (replace HX2 := Lib.hid (blk_keep HX2.out hb); replace hc2 := box_cells HX2.out; replace hf2 := box_free HX2.out; replace hz2 := lt_blk HX2.out)); (try (replace HX10 := Lib.hid (blk_keep HX10.out hb); replace hc10 := box_cells HX10.out; replace hf10 := box_free HX10.out; replace hz10 := lt_blk HX10.out)); clear hb) | (go_at_call 22; refine (HFw.out _).mono ?_; rintro e w2 ⟨rfl, hb⟩; (try replace hb := drewB hb); replace HB := Lib.hid (HB.out.trans (hb.mono HB.out.size)); (try (replace HX1 := Lib.hid (blk_keep HX1.out hb); replace hc1 := box_cells HX1.out; replace hf1 := box_free HX1.out; replace hz1 := lt_blk HX1.out)); (try (replace HX2 := Lib.hid (blk_keep HX2.out hb); replace hc2 := box_cells HX2.out; replace hf2 := box_free HX2.out; replace hz2 := lt_blk HX2.out)); (try (replace HX10 := Lib.hid (blk_keep HX10.out hb); replace hc10 := box_cells HX10.out; replace hf10 := box_free HX10.out; replace hz10 := lt_blk HX10.out)); clear hb) | (go_at_call 23; refine (HFv.out _ HB.out).mono ?_; rintro e w2 ⟨rfl, hb⟩; (try replace hb := drewB hb); replace HB := Lib.hid (HB.out.trans (hb.mono HB.out.size)); (try (replace HX1 := Lib.hid (blk_keep HX1.out hb); replace hc1 := box_cells HX1.out; replace hf1 := box_free HX1.out; replace hz1 := lt_blk HX1.out)); (try (replace HX2 := Lib.hid (blk_keep HX2.out hb); replace hc2 := box_cells HX2.out; replace hf2 := box_free HX2.out; replace hz2 := lt_blk HX2.out)); (try (replace HX10 := Lib.hid (blk_keep HX10.out hb); replace hc10 := box_cells HX10.out; replace hf10 := box_free HX10.out; replace hz10 := lt_blk HX10.out)); clear hb) | (go_at_call 29; refine (HSo.out _ HB.out).mono ?_; rintro e w6 ⟨al, capl, rfl, hokl, hnl, hb⟩; have HNl2 := Lib.hid (fun W (hx : Below w6.heap.size w6 W) => NoAt.below hnl hx); clear hnl hokl; (try replace hb := drewB hb); replace HB := Lib.hid (HB.out.trans (hb.mono HB.out.size)); (try (replace HX1 := Lib.hid (blk_keep HX1.out hb); replace hc1 := box_cells HX1.out; replace hf1 := box_free HX1.out; replace hz1 := lt_blk HX1.out)); (try (replace HX2 := Lib.hid (blk_keep HX2.out hb); replace hc2 := box_cells HX2.out; replace hf2 := box_free HX2.out; replace hz2 := lt_blk HX2.out)); (try (replace HX10 := Lib.hid (blk_keep HX10.out hb); replace hc10 := box_cells HX10.out; replace hf10 := box_free HX10.out; replace hz10 := lt_blk HX10.out)); clear hb))
  obtain ⟨bl, offl, hbl⟩ := NoAt.addr (HNl2.out w6 (Below.refl _ _))
  have HSz := Lib.hid HB.out.size
  go_wp2
  clear hc1 hc2 hf1 hf2 hz1 hz2
  go_loopw [5, 8, 43] (fun s5 s8 s43 wi => ∃ k : Nat, k ≤ ms.length ∧ s43 = .int .i64 k ∧ s8 = .int .i64 (sumK ms k : Nat) ∧ s5 = .bool true ∧ Below w6.heap.size w6 wi) (fun _ _ s43 _ => ms.length - (intOf s43).toNat)
  case atStart => exact ⟨0, Nat.zero_le _, rfl, by simp [sumK], rfl, Below.refl _ _⟩
  case round =>
    obtain ⟨k, hk, rfl, rfl, rfl, hbe⟩ := hrel
    have HBe := Lib.hid hbe
    clear hbe
    have HBB := Lib.hid (HB.out.trans (HBe.out.mono HSz.out))
    by_cases hlt : k < ms.length
    · have hltb : k < s.bars.length := by have := HLen.out; omega
      obtain ⟨b1, o1, hqa, hb1, c0, c1, c2, c3, c4⟩ := (HM.out.below HBB.out).get k hlt
      subst hqa
      have HMk := Lib.hid (fun W (hb : Below w.heap.size w W) => ((HM.out.below hb).notes _ (List.getElem_mem hlt)))
      have HNk := Lib.hid (HNl.out _ (List.getElem_mem hlt))
      obtain ⟨hat1, hat2⟩ := HAtL.out k hltb hlt
      have hmb := HMb.out k hltb hlt
      have HSu := Lib.hid (sumK_succ hlt)
      have HId := Lib.hid (show ∀ j (hj : j < ms[k].notes.length), (L[sumK ms k + j]'(by omega)).id = ms[k].notes[j].id ∧ (L[sumK ms k + j]'(by omega)).bar = ms[k].bar from fun j hj => by
        rw [hat2 j hj (by omega)]; exact ⟨rfl, hmb.1.symm⟩)
      have HBt := Lib.hid (show ∀ j (hj : j < ms[k].notes.length) W, Below w6.heap.size w6 W → Calls Tryz.prog 38 #[.agg #[.int .i64 (L[sumK ms k + j]'(by omega)).pitch.s, .int .i64 (L[sumK ms k + j]'(by omega)).pitch.a, .int .i64 (L[sumK ms k + j]'(by omega)).pitch.o], .agg #[.int .i64 ms[k].notes[j].pitch.s, .int .i64 ms[k].notes[j].pitch.a, .int .i64 ms[k].notes[j].pitch.o]] W fun e w' => e = .returned (.tuple #[.agg #[.int .i64 (mvX p s.bars[k].key), .int .i64 (mvY p s.bars[k].key)], .int .i64 0]) ∧ Below W.heap.size W w' from fun j hj W hW => by
        have h1 := between_moves HWb.out (HKey.out _ (List.getElem_mem hltb)) (hmb.2.2 j hj) (HAll.out k hltb hlt j hj)
        have h2 := Between_any (L[sumK ms k + j]'(by omega)).pitch.s (L[sumK ms k + j]'(by omega)).pitch.a (L[sumK ms k + j]'(by omega)).pitch.o ms[k].notes[j].pitch.s ms[k].notes[j].pitch.a ms[k].notes[j].pitch.o W (HE.out.below (HB.out.trans (hW.mono HSz.out)))
        have h3 : betweenR (L[sumK ms k + j]'(by omega)).pitch.s (L[sumK ms k + j]'(by omega)).pitch.a (L[sumK ms k + j]'(by omega)).pitch.o ms[k].notes[j].pitch.s ms[k].notes[j].pitch.a ms[k].notes[j].pitch.o = (mvX p s.bars[k].key, mvY p s.bars[k].key, 0) := by
          rw [hat2 j hj (by omega)]; exact h1
        rw [h3] at h2; exact h2)
      have HSp := Lib.hid (show StP L ms[k] (sumK ms k) (mvX p s.bars[k].key) (mvY p s.bars[k].key) w6 from ⟨hat1, HId.out, HBt.out⟩)
      clear hat2 hmb HId HBt hat1
      generalize mvX p s.bars[k].key = X at *
      generalize mvY p s.bars[k].key = Y at *
      generalize ms[k] = M at *
      generalize sumK ms k = C at *
      go_upto_region 12 with (fail)
      have hw6 : w6.heap.size ≤ wr.heap.size := HBe.out.size
      have xm := up_alloc (heap_alloc_new wr (.cells #[.int .i64 M.bar, .int .i64 M.key, .int .i64 M.len.n, .int .i64 M.len.d, .slice M.na M.notes.length M.ncap] 65)) (.cells #[.int .i64 0, .int .i64 0] 55)
      have xf := heap_alloc_new (wr.alloc (.cells #[.int .i64 M.bar, .int .i64 M.key, .int .i64 M.len.n, .int .i64 M.len.d, .slice M.na M.notes.length M.ncap] 65)) (.cells #[.int .i64 0, .int .i64 0] 55)
      rw [World.size_alloc] at xf
      have hb : Below wr.heap.size wr ((wr.alloc (.cells #[.int .i64 M.bar, .int .i64 M.key, .int .i64 M.len.n, .int .i64 M.len.d, .slice M.na M.notes.length M.ncap] 65)).alloc (.cells #[.int .i64 0, .int .i64 0] 55)) := ((Below.refl _ _).alloc (Nat.le_refl _) _).alloc (by simp) _
      replace HBe := Lib.hid (HBe.out.trans (hb.mono HBe.out.size))
      generalize (wr.alloc (.cells #[.int .i64 M.bar, .int .i64 M.key, .int .i64 M.len.n, .int .i64 M.len.d, .slice M.na M.notes.length M.ncap] 65)).alloc (.cells #[.int .i64 0, .int .i64 0] 55) = W1 at *
      have HXm := Lib.hid xm; have HXf := Lib.hid xf
      clear c0 c1 c2 c3 c4 hb xm xf
      obtain ⟨bx, ox, hbx⟩ := WrAt.addr (HMk.out w (Below.refl _ _))
      have HV := Lib.hid (show StL L al M C wr.heap.size (wr.heap.size + 1) w6.heap.size X Y W1 from ⟨HXm.out, HXf.out, fun W hb => HNl2.out W (HBe.out.trans hb), fun W hb => HMk.out W (HB.out.trans ((HBe.out.trans hb).mono HSz.out)), HSp.out.len, hLl, HSp.out.id, fun j hj W hb => HSp.out.bt j hj W (HBe.out.trans hb), ⟨by omega, by omega, by omega⟩⟩)
      have hcm := box_cells HXm.out
      go_wp2
      refine steps2_any HV.out capl bx ox bl offl hbx hbl _ ?_
      intro t4 t12 t13 t14 t15 t50 t51 t52 t53 t54 t55 t56 t57 t58 t59 t60 t61 t62 t63 t64 t65 t66 t67 t68 t69 t70 t71 t72 t73 t74 t75 t76 t77 t78 t79 t80 t81 t82 t83 t84 t85 t86 t87 t88 t89 t90 t91 t92 t93 t94 t95 t96 t97 t98 t99 t100 t101 t102 t103 t104 t105 W' hb
      have HBw := Lib.hid hb
      clear hb hcm
      go_wp2
      exact ⟨⟨k + 1, by omega, by go_num, by rw [HSu.out], rfl, HBe.out.trans HBw.out⟩, by simp [intOf]; omega⟩
    · obtain rfl : k = ms.length := by omega
      have hd : ((sumK ms ms.length : Nat) : Int) = (L.length : Int) := by rw [HSm.out]
      have HD := Lib.hid hd
      generalize sumK ms ms.length = S0 at *
      obtain rfl : S0 = L.length := by have := HD.out; omega
      clear hd
      go_wp2
      go_ret
      exact ⟨rfl, HBB.out⟩
end Go.Proofs.YtppjbnnnppffaaaGreatDoor
