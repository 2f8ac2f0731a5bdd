/- Texts of this seat, laid together: ScR14s, ScR14t, ScVw9. -/
import Derived.Test.YtppjbnnnppffaaaGreatDoorSJ
import Derived.Test.YtppjbnnnppffaaaGreatDoorSM
import Derived.Test.YtppjbnnnppffaaaGreatDoorSL
import Derived.Test.YtppjbnnnppffaaaGreatDoorSF

/- The reference's Sounds: its inner loop: walked. -/
namespace Go.Proofs.YtppjbnnnppffaaaGreatDoor
set_option linter.unusedSimpArgs false
set_option linter.unusedVariables false
open Go.RowKit Go.Sort

noncomputable def rsnd2Body (i : Nat) : Code := ((Tryz.f30.body.map loopsOf).getD []).getD i .skip
/-- What the inner loop of Sounds rests on. -/
structure RSL (p : Pa) (b : Ba) (M : Me) (sS sP mb k bb boff nb cb B0 : Nat) (wo : World) : Prop where
  part : wo.heap[sP]? = some (.cells #[.int .i64 p.id, .int .i64 p.section_, .int .i64 p.of, .int .i64 p.octave, .int .i64 p.desks, .int .i64 p.shift.x, .int .i64 p.shift.y, .int .i64 p.low.s, .int .i64 p.low.a, .int .i64 p.low.o, .int .i64 p.high.s, .int .i64 p.high.a, .int .i64 p.high.o] 59)
  sc : wo.cell? ⟨sS, 1, none⟩ = some (.slice (some ⟨bb, boff, none⟩) nb cb)
  hk : k < nb
  c3 : wo.cell? ⟨bb, boff + k * 4 + 3, none⟩ = some (.int .i64 b.key)
  m : wo.heap[mb]? = some (.cells #[.int .i64 M.bar, .int .i64 M.key, .int .i64 M.len.n, .int .i64 M.len.d, .slice M.na M.notes.length M.ncap] 65)
  bar : M.bar = b.id
  n : ∀ W, Below B0 wo W → WrAt W M.na M.notes
  lt : sP < B0 ∧ sS < B0 ∧ bb < B0
  few : M.notes.length ≤ 1000
  nb1 : nb ≤ 1000
set_option maxRecDepth 1000000 in
set_option maxHeartbeats 8000000 in
theorem rsnd2_any {p : Pa} {b : Ba} {M : Me} {A0 : List No} {sS sP mb k bb boff nb cb B0 : Nat} {wo : World} (X : RSL p b M sS sP mb k bb boff nb cb B0 wo) (v0 : Value) (h0 : OwnR wo B0 73 12 v0 (A0.map No.cells)) (hA0 : A0.length ≤ 50000) (hB0 : B0 ≤ wo.heap.size)
    (bn offn : Nat) (hna : M.notes ≠ [] → M.na = some ⟨bn, offn, none⟩) {s0 s1 s3 s4 s5 s6 s12 s13 s14 s15 s16 s17 s18 s19 s20 s21 s22 s23 s24 s25 s26 s27 s28 s29 s30 s31 s32 s33 s34 s35 s36 s37 s38 s39 s40 s41 s42 s43 s44 s45 s46 s47 s48 s49 s50 s51 s52 s53 s54 s55 s56 s57 s58 s59 s60 s61 s62 s63 s64 s65 s66 s67 s68 s69 s70 s71 s72 s73 s74 s75 s76 s77 s78 s79 s80 s81 s82 s83 s84 s85 s86 s87 : Value} (Q : Exit → Act → World → Prop)
    (hfail : ∀ (t8 t11 t12 t13 t14 t41 t42 t43 t44 t45 t46 t47 t48 t49 t50 t51 t52 t53 t54 t55 t56 t57 t58 t59 t60 t61 t62 t63 t64 t65 t66 t67 t68 t69 t70 t71 t72 t73 t74 t75 t76 t77 t78 t79 t80 t81 t82 t83 t84 t85 t86 : Value) (W' : World), (∃ j, ∃ hj : j < M.notes.length, (soundR p b.key M.notes[j].pitch).2 ≠ 0) → Below B0 wo W' → Q .ret ⟨(List.toArray (s0 :: s1 :: .pointer (some ⟨sS, 0, none⟩) :: s3 :: .slice none 0 0 :: .int .i64 3 :: s6 :: .pointer (some ⟨sP, 0, none⟩) :: t8 :: .int .i64 (k : Int) :: .pointer (some ⟨mb, 0, none⟩) :: t11 :: t12 :: t13 :: t14 :: s15 :: s16 :: s17 :: s18 :: s19 :: s20 :: s21 :: s22 :: s23 :: s24 :: s25 :: s26 :: s27 :: s28 :: s29 :: s30 :: s31 :: s32 :: s33 :: s34 :: s35 :: s36 :: s37 :: s38 :: s39 :: s40 :: t41 :: t42 :: t43 :: t44 :: t45 :: t46 :: t47 :: t48 :: t49 :: t50 :: t51 :: t52 :: t53 :: t54 :: t55 :: t56 :: t57 :: t58 :: t59 :: t60 :: t61 :: t62 :: t63 :: t64 :: t65 :: t66 :: t67 :: t68 :: t69 :: t70 :: t71 :: t72 :: t73 :: t74 :: t75 :: t76 :: t77 :: t78 :: t79 :: t80 :: t81 :: t82 :: t83 :: t84 :: t85 :: t86 :: s87 :: List.nil)), []⟩ W')
    (hexit : ∀ (t4 t5 t11 t12 t13 t14 t41 t42 t43 t44 t45 t46 t47 t48 t49 t50 t51 t52 t53 t54 t55 t56 t57 t58 t59 t60 t61 t62 t63 t64 t65 t66 t67 t68 t69 t70 t71 t72 t73 t74 t75 t76 t77 t78 t79 t80 t81 t82 t83 t84 t85 t86 : Value) (W' : World) (v' : Value), OwnR W' B0 73 12 v' ((A0 ++ M.notes.map (soundN p b)).map No.cells) → (∀ j (hj : j < M.notes.length), (soundR p b.key M.notes[j].pitch).2 = 0) → Below B0 wo W' → Q (.exit 2) ⟨(List.toArray (s0 :: s1 :: .pointer (some ⟨sS, 0, none⟩) :: s3 :: t4 :: t5 :: s6 :: .pointer (some ⟨sP, 0, none⟩) :: v' :: .int .i64 (k : Int) :: .pointer (some ⟨mb, 0, none⟩) :: t11 :: t12 :: t13 :: t14 :: s15 :: s16 :: s17 :: s18 :: s19 :: s20 :: s21 :: s22 :: s23 :: s24 :: s25 :: s26 :: s27 :: s28 :: s29 :: s30 :: s31 :: s32 :: s33 :: s34 :: s35 :: s36 :: s37 :: s38 :: s39 :: s40 :: t41 :: t42 :: t43 :: t44 :: t45 :: t46 :: t47 :: t48 :: t49 :: t50 :: t51 :: t52 :: t53 :: t54 :: t55 :: t56 :: t57 :: t58 :: t59 :: t60 :: t61 :: t62 :: t63 :: t64 :: t65 :: t66 :: t67 :: t68 :: t69 :: t70 :: t71 :: t72 :: t73 :: t74 :: t75 :: t76 :: t77 :: t78 :: t79 :: t80 :: t81 :: t82 :: t83 :: t84 :: t85 :: t86 :: s87 :: List.nil)), []⟩ W') :
    Code.wp Tryz.prog (Code.loop (rsnd2Body 1)) Q ⟨(List.toArray (s0 :: s1 :: .pointer (some ⟨sS, 0, none⟩) :: s3 :: s4 :: s5 :: s6 :: .pointer (some ⟨sP, 0, none⟩) :: v0 :: .int .i64 (k : Int) :: .pointer (some ⟨mb, 0, none⟩) :: .int .i64 0 :: s12 :: s13 :: s14 :: s15 :: s16 :: s17 :: s18 :: s19 :: s20 :: s21 :: s22 :: s23 :: s24 :: s25 :: s26 :: s27 :: s28 :: s29 :: s30 :: s31 :: s32 :: s33 :: s34 :: s35 :: s36 :: s37 :: s38 :: s39 :: s40 :: s41 :: s42 :: s43 :: s44 :: s45 :: s46 :: s47 :: s48 :: s49 :: s50 :: s51 :: s52 :: s53 :: s54 :: s55 :: s56 :: s57 :: s58 :: s59 :: s60 :: s61 :: s62 :: s63 :: s64 :: s65 :: s66 :: s67 :: s68 :: s69 :: s70 :: s71 :: s72 :: s73 :: s74 :: s75 :: s76 :: s77 :: s78 :: s79 :: s80 :: s81 :: s82 :: s83 :: s84 :: s85 :: s86 :: s87 :: List.nil)), []⟩ wo := by
  have HX := Lib.hid X; have HQ := Lib.hid hexit; have HQf := Lib.hid hfail
  have hL := X.few; have hk := X.hk; have hnb := X.nb1
  have H0 := Lib.hid h0; have HB0 := Lib.hid hB0
  clear X hexit hfail h0 hB0
  conv => arg 2; arg 1; whnf
  go_loopw [8, 11] (fun s8 i wi => ∃ (m : Nat), m ≤ M.notes.length ∧ i = .int .i64 m ∧ OwnR wi B0 73 12 s8 ((A0 ++ (M.notes.take m).map (soundN p b)).map No.cells) ∧ (∀ j (hj : j < M.notes.length), j < m → (soundR p b.key M.notes[j].pitch).2 = 0) ∧ wi.heap[mb]? = some (.cells #[.int .i64 M.bar, .int .i64 M.key, .int .i64 M.len.n, .int .i64 M.len.d, .slice M.na M.notes.length M.ncap] 65) ∧ Below B0 wo wi) (fun _ i _ => M.notes.length - (intOf i).toNat)
  case atStart => exact ⟨0, Nat.zero_le _, rfl, by simpa using H0.out, fun j hj h => by omega, HX.out.m, Below.refl _ _⟩
  case round =>
    obtain ⟨m, hm, rfl, hov, hall, xm, hbe⟩ := hrel
    have HO := Lib.hid hov; have HA := Lib.hid hall; have HB := Lib.hid hbe; have HM := Lib.hid xm; have HP := Lib.hid ((hbe.block sP HX.out.lt.1).trans HX.out.part); have HN := Lib.hid (HX.out.n _ hbe); have gs := (hbe.cell (p := ⟨sS, 1, none⟩) HX.out.lt.2.1).trans HX.out.sc; have g3 := (hbe.cell (p := ⟨bb, boff + k * 4 + 3, none⟩) HX.out.lt.2.2).trans HX.out.c3
    clear hov hall hbe xm H0
    by_cases hlt : m < M.notes.length
    · have hqa := hna (fun e => by rw [e] at hlt; simp at hlt)
      obtain ⟨b', off', e', _, c0, c1, c2, c3, c4, c5, c6, c7, c8, c9⟩ := HN.out.get m hlt
      rw [hqa] at e'
      cases e'
      have HBad := Lib.hid (fun h : (soundR p b.key M.notes[m].pitch).2 ≠ 0 => (⟨m, hlt, h⟩ : ∃ j, ∃ hj : j < M.notes.length, (soundR p b.key M.notes[j].pitch).2 ≠ 0))
      have HAS := Lib.hid (fun (h : (soundR p b.key M.notes[m].pitch).2 = 0) j (hj : j < M.notes.length) (hjm : j < m + 1) => show (soundR p b.key M.notes[j].pitch).2 = 0 from if e : j = m then by subst e; exact h else HA.out j hj (by omega))
      have hLt : (A0 ++ (M.notes.take m).map (soundN p b)).length = A0.length + m := by rw [List.length_append, List.length_map, List.length_take, Nat.min_eq_left hm]
      have HLt := Lib.hid hLt; clear hLt
      have HTk := Lib.hid (show A0 ++ (M.notes.take (m + 1)).map (soundN p b) = (A0 ++ (M.notes.take m).map (soundN p b)) ++ [soundN p b M.notes[m]] by rw [List.take_succ_eq_append_getElem hlt, List.map_append, List.append_assoc]; rfl)
      have HNo := Lib.hid hqa; clear hqa
      have hc9q := HM.out
      rw [HNo.out] at hc9q
      have hcm := box_cells hc9q
      clear hc9q
      rw [HNo.out]
      have HWr := Lib.hid (fun W => R13Sound_any p b.key M.notes[m].pitch W)
      obtain ⟨⟨r1, r2, r3⟩, hR⟩ : ∃ R, (soundR p b.key M.notes[m].pitch).1 = R := ⟨_, rfl⟩
      have HWn := Lib.hid (show soundN p b M.notes[m] = ⟨M.notes[m].id, p.id, M.bar, M.notes[m].voice, M.notes[m].ossia, M.notes[m].start, M.notes[m].len, ⟨r1, r2, r3⟩⟩ by unfold soundN; rw [hR, HX.out.bar])
      rw [hR] at HWr
      simp only at HWr
      clear hR
      generalize soundN p b M.notes[m] = xn at *
      generalize A0 ++ (M.notes.take m).map (soundN p b) = A1 at *
      generalize (soundR p b.key M.notes[m].pitch).2 = r4 at *
      generalize M.notes[m] = x at *
      have HLs := Lib.hid (show sP < wr.heap.size ∧ sS < wr.heap.size ∧ bb < wr.heap.size ∧ mb < wr.heap.size from ⟨lt_blk HP.out, lt_cell gs, lt_cell g3, lt_blk HM.out⟩)
      go_upto_region 14 with (fail)
      have HX5 := Lib.hid (heap_alloc_new wr (.cells #[.int .i64 x.id, .int .i64 x.voice, .int .i64 x.ossia, .int .i64 x.start.n, .int .i64 x.start.d, .int .i64 x.len.n, .int .i64 x.len.d, .int .i64 x.pitch.s, .int .i64 x.pitch.a, .int .i64 x.pitch.o] 68))
      have hb := (Below.refl wr.heap.size wr).alloc (Nat.le_refl _) (.cells #[.int .i64 x.id, .int .i64 x.voice, .int .i64 x.ossia, .int .i64 x.start.n, .int .i64 x.start.d, .int .i64 x.len.n, .int .i64 x.len.d, .int .i64 x.pitch.s, .int .i64 x.pitch.a, .int .i64 x.pitch.o] 68)
      have HXl := Lib.hid (lt_blk HX5.out)
      replace HM := Lib.hid (blk_keep HM.out hb); replace HP := Lib.hid (blk_keep HP.out hb); replace HN := Lib.hid (HN.out.below hb); replace gs := keepE gs hb; replace g3 := keepE g3 hb; replace HB := Lib.hid (HB.out.trans (hb.mono (Nat.le_trans HB0.out HB.out.size)))
      replace HO := Lib.hid (HO.out.below hb)
      replace HLs := Lib.hid (show _ ∧ _ ∧ _ ∧ _ from ⟨Nat.lt_of_lt_of_le HLs.out.1 hb.size, Nat.lt_of_lt_of_le HLs.out.2.1 hb.size, Nat.lt_of_lt_of_le HLs.out.2.2.1 hb.size, Nat.lt_of_lt_of_le HLs.out.2.2.2 hb.size⟩)
      have HXn := Lib.hid (rfl : wr.heap.size = wr.heap.size)
      generalize wr.alloc (.cells #[.int .i64 x.id, .int .i64 x.voice, .int .i64 x.ossia, .int .i64 x.start.n, .int .i64 x.start.d, .int .i64 x.len.n, .int .i64 x.len.d, .int .i64 x.pitch.s, .int .i64 x.pitch.a, .int .i64 x.pitch.o] 68) = W1 at *
      generalize wr.heap.size = xb at *
      clear hb c0 c1 c2 c3 c4 c5 c6 c7 c8 c9 hcm
      obtain ⟨hlt1, hlt3, hlt4, hlt6⟩ := HLs.out
      have hlt5 := HXl.out
      have e7 : W1.cell? ⟨xb, 7, none⟩ = some (.int .i64 x.pitch.s) := box_cells HX5.out 7
      have e8 : W1.cell? ⟨xb, 8, none⟩ = some (.int .i64 x.pitch.a) := box_cells HX5.out 8
      have e9 : W1.cell? ⟨xb, 9, none⟩ = some (.int .i64 x.pitch.o) := box_cells HX5.out 9
      have HGs := Lib.hid gs; have HG3 := Lib.hid g3
      go_cut [13, 14] from 53 to 65 (fun s13 s14 W => ∃ pb, s13 = .pointer (some ⟨pb, 0, none⟩) ∧ s14 = .int .i64 r4 ∧ W1.heap.size ≤ pb ∧ W.heap[pb]? = some (.cells #[.int .i64 r1, .int .i64 r2, .int .i64 r3] 57) ∧ Below W1.heap.size W1 W)
      case first =>
        have HBr := Lib.hid (Below.refl W1.heap.size W1)
        have HZ2 := Lib.hid HP.out
        go_region_held3 (fun W => (W.cell? ⟨sP, 0, none⟩ = some (.int .i64 p.id) ∧ W.cell? ⟨sP, 1, none⟩ = some (.int .i64 p.section_) ∧ W.cell? ⟨sP, 2, none⟩ = some (.int .i64 p.of) ∧ W.cell? ⟨sP, 3, none⟩ = some (.int .i64 p.octave) ∧ W.cell? ⟨sP, 4, none⟩ = some (.int .i64 p.desks) ∧ W.cell? ⟨sP, 5, none⟩ = some (.int .i64 p.shift.x) ∧ W.cell? ⟨sP, 6, none⟩ = some (.int .i64 p.shift.y) ∧ W.cell? ⟨sP, 7, none⟩ = some (.int .i64 p.low.s) ∧ W.cell? ⟨sP, 8, none⟩ = some (.int .i64 p.low.a) ∧ W.cell? ⟨sP, 9, none⟩ = some (.int .i64 p.low.o) ∧ W.cell? ⟨sP, 10, none⟩ = some (.int .i64 p.high.s) ∧ W.cell? ⟨sP, 11, none⟩ = some (.int .i64 p.high.a) ∧ W.cell? ⟨sP, 12, none⟩ = some (.int .i64 p.high.o)) ∧ W.cell? ⟨sS, 1, none⟩ = some (.slice (some ⟨bb, boff, none⟩) nb cb) ∧ W.cell? ⟨bb, boff + k * 4 + 3, none⟩ = some (.int .i64 b.key) ∧ W.cell? ⟨xb, 7, none⟩ = some (.int .i64 x.pitch.s) ∧ W.cell? ⟨xb, 8, none⟩ = some (.int .i64 x.pitch.a) ∧ W.cell? ⟨xb, 9, none⟩ = some (.int .i64 x.pitch.o))
          (first | with_reducible exact ⟨paC (blk_keep HZ2.out (box_drew _)), keepE gs (box_drew _), keepE g3 (box_drew _), keepE e7 (box_drew _), keepE e8 (box_drew _), keepE e9 (box_drew _)⟩ | with_reducible exact ⟨paC (up_alloc HZ2.out _), keepE gs (below_box _), keepE g3 (below_box _), keepE e7 (below_box _), keepE e8 (below_box _), keepE e9 (below_box _)⟩ | with_reducible exact ⟨paC (keep3 HZ2.out (by omega)), cell3_far gs (by omega), cell3_far g3 (by omega), cell3_far e7 (by omega), cell3_far e8 (by omega), cell3_far e9 (by omega)⟩ | exact ⟨paC HZ2.out, gs, g3, e7, e8, e9⟩ | go_keep)
          ((go_at_call 73; refine (HWr.out _).mono ?_; rintro e w5 ⟨rfl, hb⟩; (try replace hb := drewB hb); (first | (have x0 := box_below hb; have HX9 := Lib.hid x0; have hc9 := box_cells x0; have hf9 := box_free x0; have hz9 := lt_blk x0; clear x0; replace hb := allocB hb) | skip); (try replace hb := drewB hb); replace HBr := Lib.hid (HBr.out.trans (hb.mono HBr.out.size)); replace HZ2 := Lib.hid (blk_keep HZ2.out hb); replace gs := keepE gs hb; replace g3 := keepE g3 hb; replace e7 := keepE e7 hb; replace e8 := keepE e8 hb; replace e9 := keepE e9 hb; clear hb))
        · go_wp2
          go_meet
          case rel => exact ⟨_, rfl, rfl, HBr.out.size, heap_alloc_new _ _, HBr.out.alloc HBr.out.size _⟩
        · go_wp2
          go_meet
          case rel => exact ⟨_, rfl, rfl, Nat.le_refl _, set3 HX9.out, set3_below HBr.out (Nat.le_refl _)⟩
      case rest =>
        obtain ⟨pb, rfl, rfl, hpb, xp, hb⟩ := hcut
        have HPb := Lib.hid xp
        clear e7 e8 e9 gs g3
        have gs := HGs.out; have g3 := HG3.out
        replace HX5 := Lib.hid (blk_keep HX5.out hb)
        replace HM := Lib.hid (blk_keep HM.out hb); replace HP := Lib.hid (blk_keep HP.out hb); replace HN := Lib.hid (HN.out.below hb); replace gs := keepE gs hb; replace g3 := keepE g3 hb; replace HB := Lib.hid (HB.out.trans (hb.mono (Nat.le_trans HB0.out HB.out.size)))
        replace HO := Lib.hid (HO.out.below hb)
        clear hb xp
        have HSz := Lib.hid (Nat.le_trans HB0.out HB.out.size)
        have hp5 := box_cells HX5.out; have hpp := box_cells HP.out; have hpq := box_cells HPb.out
        have hc9q := HM.out
        rw [HNo.out] at hc9q
        have hcm := box_cells hc9q
        clear hc9q
        by_cases hr4 : r4 = 0
        case neg =>
          have HF := Lib.hid (HBad.out hr4)
          have hd : (r4 != 0) = true := by simpa using hr4
          clear hr4
          go_wp2
          rw [← HNo.out]
          exact HQf.out _ _ _ _ _ _ _ _ _ _ _ _ _ _ _ _ _ _ _ _ _ _ _ _ _ _ _ _ _ _ _ _ _ _ _ _ _ _ _ _ _ _ _ _ _ _ _ _ _ _ _ _ HF.out HB.out
        have HOk := Lib.hid (HAS.out hr4)
        have hd : (r4 != 0) = false := by simpa using hr4
        clear hr4
        have hlen : A1.length + 1 ≤ 60000 := by rw [HLt.out]; omega
        go_wp2_with (at_builtin; refine appE eltNo rfl (.tmp 68) (.tmp 85) rfl B0 _ A1 rfl (HO.out.below (below_box _)) _ _ _ [xn] rfl rfl (fun e => by cases e) (eltNo.new _ xn _ _ (by rw [HWn.out]; rfl)) (by simp; omega) (Nat.le_trans HSz.out (below_box _).size) ?_; intro v2 w2 ho2 hg2; have HO2 := Lib.hid ho2; have HG2 := Lib.hid hg2; clear ho2 hg2)
        rw [← HNo.out]
        refine ⟨⟨m + 1, by omega, by go_num, by rw [HTk.out]; exact HO2.out, HOk.out, ?_, ?_⟩, by simp [intOf]; omega⟩
        · exact (HG2.out.block mb (by have := lt_blk HM.out; simp; omega) (HO.out.neType HM.out (by decide))).trans (up_alloc HM.out _)
        · exact (HB.out.alloc HSz.out _).grown HG2.out (Nat.le_trans HSz.out (below_box _).size) (fun j e => (HO.out.lt j e).1)
    · obtain rfl : m = M.notes.length := by omega
      have hcm := box_cells HM.out
      go_wp2
      refine HQ.out _ _ _ _ _ _ _ _ _ _ _ _ _ _ _ _ _ _ _ _ _ _ _ _ _ _ _ _ _ _ _ _ _ _ _ _ _ _ _ _ _ _ _ _ _ _ _ _ _ _ _ _ wr _ (by have := HO.out; rwa [List.take_length] at this) (fun j hj => HA.out j hj hj) HB.out
end Go.Proofs.YtppjbnnnppffaaaGreatDoor


/- The reference's Sounds: walked. -/
namespace Go.Proofs.YtppjbnnnppffaaaGreatDoor
set_option linter.unusedSimpArgs false
set_option linter.unusedVariables false
open Go.RowKit Go.Sort

/-- Everything in a measure sounds. -/
def okS (p : Pa) (bars : List Ba) (ms : List Me) (k : Nat) : Prop := ∀ (h1 : k < bars.length) (h2 : k < ms.length) (j : Nat) (hj : j < ms[k].notes.length), (soundR p bars[k].key ms[k].notes[j].pitch).2 = 0
theorem sndM_succ {p : Pa} {bars : List Ba} {ms : List Me} {k : Nat} (h1 : k < bars.length) (h2 : k < ms.length) : sndK p bars (ms.map Me.says) (k + 1) = sndK p bars (ms.map Me.says) k ++ ms[k].notes.map (soundN p bars[k]) := by
  rw [sndK_succ h1 (by simpa using h2), List.getElem_map]; rfl
theorem allW_take_len (l : List MeP) (k : Nat) : (allW (l.take k)).length ≤ (allW l).length := by
  have e : allW l = allW (l.take k) ++ allW (l.drop k) := by unfold allW; rw [← List.flatten_append, ← List.map_append, List.take_append_drop]
  rw [e, List.length_append]; omega
set_option maxRecDepth 100000 in
set_option maxHeartbeats 8000000 in
theorem RSounds_any (s : Sc) (q : Sp) (part : Int) (a : Option Addr) (cap : Nat) (ms : List Me) (w : World) (hf : ScFew s) (hs : ScAt w s q) (hl : ms.length ≤ 1000) (hn : ∀ m ∈ ms, m.notes.length ≤ 1000) (hm : MeAt w a ms) :
    Calls Tryz.prog 30 #[.agg #[.int .i64 s.version, .slice q.ab s.bars.length q.cb, .slice q.ap s.parts.length q.cp, .slice q.an s.notes.length q.cn], .agg #[.int .i64 part, .slice a ms.length cap]] w (RetNE (soundsR s part (ms.map Me.says)).1 (soundsR s part (ms.map Me.says)).2 w) := by
  have HS := Lib.hid hs; have HM := Lib.hid hm
  have HV := Lib.hid (fun W (hb : Below w.heap.size w W) => RValid14_any s q part a cap ms W hf (hs.below hb) hl hn (hm.below hb))
  have HAt := Lib.hid (fun W (hb : Below w.heap.size w W) => RPartAt_any q.ap q.cp s.parts part W (by have := hf.parts; omega) (hs.parts.below hb))
  obtain ⟨x1, x2, hb⟩ := box2 (w := w) (A := .cells #[.int .i64 s.version, .slice q.ab s.bars.length q.cb, .slice q.ap s.parts.length q.cp, .slice q.an s.notes.length q.cn] 26) (B := .cells #[.int .i64 part, .slice a ms.length cap] 44) (Below.refl _ _)
  have HX1 := Lib.hid x1; have HX2 := Lib.hid x2; have HB := Lib.hid hb; clear x1 x2 hb
  obtain ⟨ab, cb, ap, cp, an, cn⟩ := q
  cases hv : validV s part (ms.map Me.says)
  · rw [show soundsR s part (ms.map Me.says) = ([], 1) by unfold soundsR; rw [hv]; rfl]
    rw [hv] at HV
    clear hv hs hf hm
    dsimp only at *
    go_enter Tryz.func30, Tryz.ntmps30
    go_upto_region 1 with (fail)
    generalize (w.alloc (.cells #[.int .i64 s.version, .slice (⟨ab, cb, ap, cp, an, cn⟩ : Sp).ab s.bars.length (⟨ab, cb, ap, cp, an, cn⟩ : Sp).cb, .slice (⟨ab, cb, ap, cp, an, cn⟩ : Sp).ap s.parts.length (⟨ab, cb, ap, cp, an, cn⟩ : Sp).cp, .slice (⟨ab, cb, ap, cp, an, cn⟩ : Sp).an s.notes.length (⟨ab, cb, ap, cp, an, cn⟩ : Sp).cn] 26)).alloc (.cells #[.int .i64 part, .slice a ms.length cap] 44) = W at *
    have hc1 := box_cells HX1.out; have hc2 := box_cells HX2.out
    go_wp2_with ((go_at_call 28; refine (HV.out _ HB.out).mono ?_; rintro e w2 ⟨rfl, hb⟩; (try replace hb := drewB hb); replace HB := Lib.hid (HB.out.trans (hb.mono HB.out.size)); (try (replace HX1 := Lib.hid (blk_keep HX1.out hb); replace hc1 := box_cells HX1.out; replace hf1 := box_free HX1.out; replace hz1 := lt_blk HX1.out)); (try (replace HX2 := Lib.hid (blk_keep HX2.out hb); replace hc2 := box_cells HX2.out; replace hf2 := box_free HX2.out; replace hz2 := lt_blk HX2.out)); (try (replace HX9 := Lib.hid (blk_keep HX9.out hb); replace hc9 := box_cells HX9.out; replace hf9 := box_free HX9.out; replace hz9 := lt_blk HX9.out)); (try (replace HX10 := Lib.hid (blk_keep HX10.out hb); replace hc10 := box_cells HX10.out; replace hf10 := box_free HX10.out; replace hz10 := lt_blk HX10.out)); clear hb))
    go_ret2
    exact ⟨_, _, rfl, SlOk.nil, SlAt.nil _ _ _, HB.out⟩
  · rw [hv] at HV
    obtain ⟨hvs, hlen, p, hp, hmb, hmany⟩ := validV_some hv
    rw [List.length_map] at hlen
    obtain ⟨RR, hRR⟩ : ∃ R, R = soundsR s part (ms.map Me.says) := ⟨_, rfl⟩
    have HBad := Lib.hid (fun k (h1 : k < s.bars.length) (h2 : k < ms.length) (h : ∃ j, ∃ hj : j < ms[k].notes.length, (soundR p s.bars[k].key ms[k].notes[j].pitch).2 ≠ 0) => show RR = ([], 3) from by
      obtain ⟨j, hj, h⟩ := h
      rw [hRR]
      have e : (ms.map Me.says)[k]'(by simpa using h2) = ms[k].says := List.getElem_map ..
      exact sounds_bad hv hp k h1 (by simpa using h2) j (by rw [e]; exact hj) (by simp only [e]; exact h))
    have HDone := Lib.hid (fun (h : ∀ k, k < ms.length → okS p s.bars ms k) => show RR = (sndK p s.bars (ms.map Me.says) ms.length, 0) from by
      rw [hRR, sounds_done hv hp (fun i h1 h2 k hk => by
        have h2' : i < ms.length := by simpa using h2
        have e : (ms.map Me.says)[i] = ms[i].says := List.getElem_map ..
        simp only [e] at hk ⊢
        exact h i h2' h1 h2' k hk), List.length_map])
    have HLn := Lib.hid (fun k => Nat.le_trans (sndK_len p s.bars (ms.map Me.says) k) (Nat.le_trans (allW_take_len (ms.map Me.says) k) hmany))
    have HMb := Lib.hid (fun k (h1 : k < s.bars.length) (h2 : k < ms.length) => (measureB_parts (by have := hmb k h1 (by simpa using h2); rwa [List.getElem_map] at this) : ms[k].says.bar = s.bars[k].id ∧ _))
    rw [← hRR]
    obtain ⟨ip, hip, ei, ep⟩ : ∃ ip, ∃ h : ip < s.parts.length, idxO (fun x => x.id == part) s.parts = (ip : Int) ∧ s.parts[ip] = p := by
      rcases partAt_idx s.parts part with ⟨e1, e2⟩ | ⟨i, hi, e1, e2, e3, e4⟩
      · rw [e2] at hp; cases hp
      · rw [e2] at hp; cases hp; exact ⟨i, hi, e1, rfl⟩
    have HPar := Lib.hid hs.parts; have HBar := Lib.hid hs.bars
    have hnp := hf.parts
    have hnb := hf.bars
    rw [ei] at HAt
    have HHi := Lib.hid hip; have HEp := Lib.hid ep; have HLen := Lib.hid hlen; have HNl := Lib.hid hn
    have HB0 := Lib.hid (Below.refl w.heap.size w)
    clear hv hs hf hm hvs hmb hmany hp hRR ei ep hlen hn
    dsimp only at *
    generalize hG : okS p s.bars ms = G at *
    have HG := Lib.hid hG; clear hG
    go_enter Tryz.func30, Tryz.ntmps30
    go_upto_region 1 with (fail)
    generalize (w.alloc (.cells #[.int .i64 s.version, .slice (⟨ab, cb, ap, cp, an, cn⟩ : Sp).ab s.bars.length (⟨ab, cb, ap, cp, an, cn⟩ : Sp).cb, .slice (⟨ab, cb, ap, cp, an, cn⟩ : Sp).ap s.parts.length (⟨ab, cb, ap, cp, an, cn⟩ : Sp).cp, .slice (⟨ab, cb, ap, cp, an, cn⟩ : Sp).an s.notes.length (⟨ab, cb, ap, cp, an, cn⟩ : Sp).cn] 26)).alloc (.cells #[.int .i64 part, .slice a ms.length cap] 44) = W at *
    have hc1 := box_cells HX1.out; have hc2 := box_cells HX2.out
    go_upto_region 4 with ((go_at_call 28; refine (HV.out _ HB.out).mono ?_; rintro e w2 ⟨rfl, hb⟩; (try replace hb := drewB hb); replace HB := Lib.hid (HB.out.trans (hb.mono HB.out.size)); (try (replace HX1 := Lib.hid (blk_keep HX1.out hb); replace hc1 := box_cells HX1.out; replace hf1 := box_free HX1.out; replace hz1 := lt_blk HX1.out)); (try (replace HX2 := Lib.hid (blk_keep HX2.out hb); replace hc2 := box_cells HX2.out; replace hf2 := box_free HX2.out; replace hz2 := lt_blk HX2.out)); (try (replace HX9 := Lib.hid (blk_keep HX9.out hb); replace hc9 := box_cells HX9.out; replace hf9 := box_free HX9.out; replace hz9 := lt_blk HX9.out)); (try (replace HX10 := Lib.hid (blk_keep HX10.out hb); replace hc10 := box_cells HX10.out; replace hf10 := box_free HX10.out; replace hz10 := lt_blk HX10.out)); clear hb))
    obtain ⟨b3, o3, hqc, hb3, f0, f1, f2, f3, f4, f5, f6, f7, f8, f9, f10, f11, f12⟩ := (HPar.out.below HB.out).get ip HHi.out
    rw [HEp.out] at f0 f1 f2 f3 f4 f5 f6 f7 f8 f9 f10 f11 f12
    have hap : ap = some ⟨b3, o3, none⟩ := hqc
    subst hap
    clear hqc HV
    have g0 : w2.cell? ⟨w.heap.size + 1, 0, none⟩ = some (.int .i64 part) := hc2 0
    have g2 : w2.cell? ⟨w.heap.size, 2, none⟩ = some (.slice (some ⟨b3, o3, none⟩) s.parts.length cp) := hc1 2
    have HAt2 := Lib.hid (fun W (hb : Below w2.heap.size w2 W) => HAt.out W (HB.out.trans (hb.mono HB.out.size)))
    have hl1 := lt_blk HX1.out; have hl2 := lt_blk HX2.out
    clear hc1 hc2 hf1 hf2 hz1 hz2 HAt
    go_cut [7] from 20 to 28 (fun s7 W => ∃ pb, s7 = .pointer (some ⟨pb, 0, none⟩) ∧ w2.heap.size ≤ pb ∧ W.heap[pb]? = some (.cells #[.int .i64 p.id, .int .i64 p.section_, .int .i64 p.of, .int .i64 p.octave, .int .i64 p.desks, .int .i64 p.shift.x, .int .i64 p.shift.y, .int .i64 p.low.s, .int .i64 p.low.a, .int .i64 p.low.o, .int .i64 p.high.s, .int .i64 p.high.a, .int .i64 p.high.o] 59) ∧ Below w2.heap.size w2 W)
    case first =>
      have HBr := Lib.hid (Below.refl w2.heap.size w2)
      go_region_held3 (fun W => W.cell? ⟨w.heap.size + 1, 0, none⟩ = some (.int .i64 part) ∧ W.cell? ⟨w.heap.size, 2, none⟩ = some (.slice (some ⟨b3, o3, none⟩) s.parts.length cp) ∧ W.cell? ⟨b3, o3 + ip * 13, none⟩ = some (.int .i64 p.id) ∧ W.cell? ⟨b3, o3 + ip * 13 + 1, none⟩ = some (.int .i64 p.section_) ∧ W.cell? ⟨b3, o3 + ip * 13 + 2, none⟩ = some (.int .i64 p.of) ∧ W.cell? ⟨b3, o3 + ip * 13 + 3, none⟩ = some (.int .i64 p.octave) ∧ W.cell? ⟨b3, o3 + ip * 13 + 4, none⟩ = some (.int .i64 p.desks) ∧ W.cell? ⟨b3, o3 + ip * 13 + 5, none⟩ = some (.int .i64 p.shift.x) ∧ W.cell? ⟨b3, o3 + ip * 13 + 6, none⟩ = some (.int .i64 p.shift.y) ∧ W.cell? ⟨b3, o3 + ip * 13 + 7, none⟩ = some (.int .i64 p.low.s) ∧ W.cell? ⟨b3, o3 + ip * 13 + 8, none⟩ = some (.int .i64 p.low.a) ∧ W.cell? ⟨b3, o3 + ip * 13 + 9, none⟩ = some (.int .i64 p.low.o) ∧ W.cell? ⟨b3, o3 + ip * 13 + 10, none⟩ = some (.int .i64 p.high.s) ∧ W.cell? ⟨b3, o3 + ip * 13 + 11, none⟩ = some (.int .i64 p.high.a) ∧ W.cell? ⟨b3, o3 + ip * 13 + 12, none⟩ = some (.int .i64 p.high.o))
        (first | with_reducible exact ⟨keepE g0 (box_drew _), keepE g2 (box_drew _), keepE f0 (box_drew _), keepE f1 (box_drew _), keepE f2 (box_drew _), keepE f3 (box_drew _), keepE f4 (box_drew _), keepE f5 (box_drew _), keepE f6 (box_drew _), keepE f7 (box_drew _), keepE f8 (box_drew _), keepE f9 (box_drew _), keepE f10 (box_drew _), keepE f11 (box_drew _), keepE f12 (box_drew _)⟩ | with_reducible exact ⟨keepE g0 (below_box _), keepE g2 (below_box _), keepE f0 (below_box _), keepE f1 (below_box _), keepE f2 (below_box _), keepE f3 (below_box _), keepE f4 (below_box _), keepE f5 (below_box _), keepE f6 (below_box _), keepE f7 (below_box _), keepE f8 (below_box _), keepE f9 (below_box _), keepE f10 (below_box _), keepE f11 (below_box _), keepE f12 (below_box _)⟩ | with_reducible exact ⟨g0, g2, f0, f1, f2, f3, f4, f5, f6, f7, f8, f9, f10, f11, f12⟩ | exact ⟨g0, g2, f0, f1, f2, f3, f4, f5, f6, f7, f8, f9, f10, f11, f12⟩)
        ((go_at_call 51; refine (HAt2.out _ (by first | with_reducible exact Below.refl _ _ | with_reducible exact box_drew _ | with_reducible exact below_box _ | exact (Below.refl _ _).drew)).mono ?_; rintro e w5 ⟨rfl, rfl⟩; (try go_simp)))
      all_goals
        go_wp2
        go_meet
        case rel => exact ⟨_, rfl, Nat.le_refl _, heap_alloc_new w2 (.cells #[.int .i64 p.id, .int .i64 p.section_, .int .i64 p.of, .int .i64 p.octave, .int .i64 p.desks, .int .i64 p.shift.x, .int .i64 p.shift.y, .int .i64 p.low.s, .int .i64 p.low.a, .int .i64 p.low.o, .int .i64 p.high.s, .int .i64 p.high.a, .int .i64 p.high.o] 59), box_drew _⟩
    case rest =>
      obtain ⟨pb, rfl, hpb, xp, hb⟩ := hcut
      have HP := Lib.hid xp
      replace HX1 := Lib.hid (blk_keep HX1.out hb); replace HX2 := Lib.hid (blk_keep HX2.out hb)
      replace HB := Lib.hid (HB.out.trans (hb.mono HB.out.size))
      have HL := Lib.hid (show pb < wc.heap.size ∧ w.heap.size < wc.heap.size from ⟨lt_blk xp, lt_blk HX1.out⟩)
      clear hb xp g0 g2 f0 f1 f2 f3 f4 f5 f6 f7 f8 f9 f10 f11 f12 HAt2 hl1 hl2
      have HSz := Lib.hid HB.out.size
      go_wp2
      go_loopw [8, 9] (fun s8 s9 wi => ∃ k : Nat, k ≤ ms.length ∧ s9 = .int .i64 k ∧ OwnR wi wc.heap.size 73 12 s8 ((sndK p s.bars (ms.map Me.says) k).map No.cells) ∧ (∀ j, j < k → G j) ∧ Below wc.heap.size wc wi) (fun _ s9 _ => ms.length - (intOf s9).toNat)
      case atStart => exact ⟨0, Nat.zero_le _, rfl, by simpa [sndK] using OwnR.nil _ _ _ _, fun j h => by omega, Below.refl _ _⟩
      case round =>
        obtain ⟨k, hk, rfl, hov, hall, hbe⟩ := hrel
        have HO := Lib.hid hov; have HA := Lib.hid hall; have HBe := Lib.hid hbe
        clear hov hall hbe
        have HZ1 := Lib.hid (blk_keep HX1.out HBe.out); have HZ2 := Lib.hid (blk_keep HX2.out HBe.out); have HZP := Lib.hid (blk_keep HP.out HBe.out)
        have HBB := Lib.hid (HB.out.trans (HBe.out.mono HSz.out))
        have hc1 := box_cells HZ1.out; have hc2 := box_cells HZ2.out
        by_cases hlt : k < ms.length
        · have hltb : k < s.bars.length := by have := HLen.out; omega
          obtain ⟨b1, o1, hqa, hb1, c0, c1, c2, c3, c4⟩ := (HM.out.below HBB.out).get k hlt
          subst hqa
          have HMk := Lib.hid (fun W (hb : Below w.heap.size w W) => ((HM.out.below hb).notes _ (List.getElem_mem hlt)))
          have HNk := Lib.hid (HNl.out _ (List.getElem_mem hlt))
          have HBk := Lib.hid (HBad.out k hltb hlt)
          have HSu := Lib.hid (sndM_succ (p := p) hltb hlt)
          have HMk2 := Lib.hid (show ms[k].bar = s.bars[k].id from (HMb.out k hltb hlt).1)
          have HGk := Lib.hid (fun (h : ∀ j (hj : j < ms[k].notes.length), (soundR p s.bars[k].key ms[k].notes[j].pitch).2 = 0) => show G k from HG.out ▸ (fun _ _ => h : okS p s.bars ms k))
          have HLk := Lib.hid (HLn.out k)
          obtain ⟨bb, boff, hqb, hbb, _, _, _, d3⟩ := HBar.out.get k hltb
          have hab : ab = some ⟨bb, boff, none⟩ := hqb
          subst hab
          clear hqb
          generalize s.bars[k] = b at *
          generalize ms[k] = M at *
          generalize sndK p s.bars (ms.map Me.says) k = A0 at *
          go_upto_region 10 with (fail)
          have HX9 := Lib.hid (heap_alloc_new wr (.cells #[.int .i64 M.bar, .int .i64 M.key, .int .i64 M.len.n, .int .i64 M.len.d, .slice M.na M.notes.length M.ncap] 65))
          have hb := (Below.refl wr.heap.size wr).alloc (Nat.le_refl _) (.cells #[.int .i64 M.bar, .int .i64 M.key, .int .i64 M.len.n, .int .i64 M.len.d, .slice M.na M.notes.length M.ncap] 65)
          replace HO := Lib.hid (HO.out.below hb)
          replace HBe := Lib.hid (HBe.out.trans (hb.mono HBe.out.size))
          replace HBB := Lib.hid (HBB.out.trans (hb.mono HBB.out.size))
          replace HZ1 := Lib.hid (blk_keep HZ1.out hb); replace HZP := Lib.hid (blk_keep HZP.out hb)
          clear hb c0 c1 c2 c3 c4 hc1 hc2
          generalize wr.alloc (.cells #[.int .i64 M.bar, .int .i64 M.key, .int .i64 M.len.n, .int .i64 M.len.d, .slice M.na M.notes.length M.ncap] 65) = W1 at *
          generalize wr.heap.size = mb at *
          obtain ⟨bx, ox, hbx⟩ := WrAt.addr (HMk.out w HB0.out)
          have HV := Lib.hid (show RSL p b M w.heap.size pb mb k bb boff s.bars.length cb wc.heap.size W1 from ⟨HZP.out, box_cells HZ1.out 1, hltb, keepE d3 HBB.out, HX9.out, HMk2.out, fun W hb => HMk.out W (HB.out.trans ((HBe.out.trans hb).mono HSz.out)), ⟨HL.out.1, HL.out.2, Nat.lt_of_lt_of_le hbb HSz.out⟩, HNk.out, hnb⟩)
          go_wp2
          refine rsnd2_any HV.out _ HO.out (Nat.le_trans HLk.out (by omega)) HBe.out.size bx ox hbx _ ?_ ?_
          · intro t8 t11 t12 t13 t14 t41 t42 t43 t44 t45 t46 t47 t48 t49 t50 t51 t52 t53 t54 t55 t56 t57 t58 t59 t60 t61 t62 t63 t64 t65 t66 t67 t68 t69 t70 t71 t72 t73 t74 t75 t76 t77 t78 t79 t80 t81 t82 t83 t84 t85 t86 W' hR hb
            have HF := Lib.hid (HBk.out hR)
            have HBx := Lib.hid (HB.out.trans ((HBe.out.trans hb).mono HSz.out))
            clear hR hb
            go_wp2
            rw [HF.out]
            go_ret2
            exact ⟨_, _, rfl, SlOk.nil, SlAt.nil _ _ _, HBx.out⟩
          · intro t4 t5 t11 t12 t13 t14 t41 t42 t43 t44 t45 t46 t47 t48 t49 t50 t51 t52 t53 t54 t55 t56 t57 t58 t59 t60 t61 t62 t63 t64 t65 t66 t67 t68 t69 t70 t71 t72 t73 t74 t75 t76 t77 t78 t79 t80 t81 t82 t83 t84 t85 t86 W' v' ho hok hb
            have HOk := Lib.hid hok; have HOw := Lib.hid ho; have HBw := Lib.hid hb
            clear hok ho hb
            go_wp2
            refine ⟨⟨k + 1, by omega, by go_num, by rw [HSu.out]; exact HOw.out, fun j hj => ?_, HBe.out.trans HBw.out⟩, by simp [intOf]; omega⟩
            by_cases e : j = k
            · subst e; exact HGk.out HOk.out
            · exact HA.out j (by omega)
        · obtain rfl : k = ms.length := by omega
          have HF := Lib.hid (HDone.out HA.out)
          obtain ⟨a9, c9, rfl, hok, hin⟩ := HO.out.slAt
          have HIn := Lib.hid hin; have HOk := Lib.hid hok
          clear hin hok HO
          go_wp2
          rw [HF.out]
          go_ret2
          exact ⟨a9, c9, by simp, by simpa using HOk.out, HIn.out, HBB.out⟩
end Go.Proofs.YtppjbnnnppffaaaGreatDoor


/- view.Sounds: walked. -/
namespace Go.Proofs.YtppjbnnnppffaaaGreatDoor
set_option linter.unusedSimpArgs false
set_option linter.unusedVariables false
open Go.RowKit Go.Sort

set_option maxRecDepth 100000 in
set_option maxHeartbeats 8000000 in
theorem VSounds_any (s : Sc) (q : Sp) (part : Int) (a : Option Addr) (cap : Nat) (ms : List Me) (w : World) (hf : ScFew s) (hs : ScAt w s q) (hE : Env w) (hl : ms.length ≤ 1000) (hn : ∀ m ∈ ms, m.notes.length ≤ 1000) (hm : MeAt w a ms) :
    Calls Tryz.prog 29 #[.agg #[.int .i64 s.version, .slice q.ab s.bars.length q.cb, .slice q.ap s.parts.length q.cp, .slice q.an s.notes.length q.cn], .agg #[.int .i64 part, .slice a ms.length cap]] w (RetNE (soundsR s part (ms.map Me.says)).1 (soundsR s part (ms.map Me.says)).2 w) := by
  have HS := Lib.hid hs; have HM := Lib.hid hm
  have HV := Lib.hid (fun W (hb : Below w.heap.size w W) => VValid_any s q part a cap ms W hf (hs.below hb) (hE.below hb) hl hn (hm.below hb))
  have HE := Lib.hid hE
  have HFi := Lib.hid (fun W (hb : Below w.heap.size w W) => VFind_any s q part W hf (hs.below hb))
  obtain ⟨x1, x2, hb⟩ := box2 (w := w) (A := .cells #[.int .i64 s.version, .slice q.ab s.bars.length q.cb, .slice q.ap s.parts.length q.cp, .slice q.an s.notes.length q.cn] 26) (B := .cells #[.int .i64 part, .slice a ms.length cap] 44) (Below.refl _ _)
  have HX1 := Lib.hid x1; have HX2 := Lib.hid x2; have HB := Lib.hid hb; clear x1 x2 hb
  obtain ⟨ab, cb, ap, cp, an, cn⟩ := q
  cases hv : validV s part (ms.map Me.says)
  · rw [show soundsR s part (ms.map Me.says) = ([], 1) by unfold soundsR; rw [hv]; rfl]
    rw [hv] at HV
    clear hv hs hf hm hE
    dsimp only at *
    go_enter Tryz.func29, Tryz.ntmps29
    go_upto_region 1 with (fail)
    generalize (w.alloc (.cells #[.int .i64 s.version, .slice (⟨ab, cb, ap, cp, an, cn⟩ : Sp).ab s.bars.length (⟨ab, cb, ap, cp, an, cn⟩ : Sp).cb, .slice (⟨ab, cb, ap, cp, an, cn⟩ : Sp).ap s.parts.length (⟨ab, cb, ap, cp, an, cn⟩ : Sp).cp, .slice (⟨ab, cb, ap, cp, an, cn⟩ : Sp).an s.notes.length (⟨ab, cb, ap, cp, an, cn⟩ : Sp).cn] 26)).alloc (.cells #[.int .i64 part, .slice a ms.length cap] 44) = W at *
    have hc1 := box_cells HX1.out; have hc2 := box_cells HX2.out
    go_wp2_with ((go_at_call 27; refine (HV.out _ HB.out).mono ?_; rintro e w2 ⟨rfl, hb⟩; (try replace hb := drewB hb); replace HB := Lib.hid (HB.out.trans (hb.mono HB.out.size)); (try (replace HX1 := Lib.hid (blk_keep HX1.out hb); replace hc1 := box_cells HX1.out; replace hf1 := box_free HX1.out; replace hz1 := lt_blk HX1.out)); (try (replace HX2 := Lib.hid (blk_keep HX2.out hb); replace hc2 := box_cells HX2.out; replace hf2 := box_free HX2.out; replace hz2 := lt_blk HX2.out)); (try (replace HX9 := Lib.hid (blk_keep HX9.out hb); replace hc9 := box_cells HX9.out; replace hf9 := box_free HX9.out; replace hz9 := lt_blk HX9.out)); (try (replace HX10 := Lib.hid (blk_keep HX10.out hb); replace hc10 := box_cells HX10.out; replace hf10 := box_free HX10.out; replace hz10 := lt_blk HX10.out)); clear hb))
    go_ret2
    exact ⟨_, _, rfl, SlOk.nil, SlAt.nil _ _ _, HB.out⟩
  · rw [hv] at HV
    obtain ⟨hvs, hlen, p, hp, hmb, hmany⟩ := validV_some hv
    rw [List.length_map] at hlen
    obtain ⟨RR, hRR⟩ : ∃ R, R = soundsR s part (ms.map Me.says) := ⟨_, rfl⟩
    have HBad := Lib.hid (fun k (h1 : k < s.bars.length) (h2 : k < ms.length) (h : ∃ j, ∃ hj : j < ms[k].notes.length, (soundR p s.bars[k].key ms[k].notes[j].pitch).2 ≠ 0) => show RR = ([], 3) from by
      obtain ⟨j, hj, h⟩ := h
      rw [hRR]
      have e : (ms.map Me.says)[k]'(by simpa using h2) = ms[k].says := List.getElem_map ..
      exact sounds_bad hv hp k h1 (by simpa using h2) j (by rw [e]; exact hj) (by simp only [e]; exact h))
    have HDone := Lib.hid (fun (h : ∀ k, k < ms.length → okS p s.bars ms k) => show RR = (sndK p s.bars (ms.map Me.says) ms.length, 0) from by
      rw [hRR, sounds_done hv hp (fun i h1 h2 k hk => by
        have h2' : i < ms.length := by simpa using h2
        have e : (ms.map Me.says)[i] = ms[i].says := List.getElem_map ..
        simp only [e] at hk ⊢
        exact h i h2' h1 h2' k hk), List.length_map])
    have HLn := Lib.hid (fun k => Nat.le_trans (sndK_len p s.bars (ms.map Me.says) k) (Nat.le_trans (allW_take_len (ms.map Me.says) k) hmany))
    have HMb := Lib.hid (fun k (h1 : k < s.bars.length) (h2 : k < ms.length) => (measureB_parts (by have := hmb k h1 (by simpa using h2); rwa [List.getElem_map] at this) : ms[k].says.bar = s.bars[k].id ∧ _))
    rw [← hRR]
    rw [show foundP s.parts part = p by simp [foundP, hp], hp] at HFi
    simp only [Option.isSome_some] at HFi
    have HBar := Lib.hid hs.bars
    have hnb := hf.bars
    have HLen := Lib.hid hlen; have HNl := Lib.hid hn
    have HB0 := Lib.hid (Below.refl w.heap.size w)
    clear hv hs hf hm hvs hmb hmany hp hRR hlen hn hE
    dsimp only at *
    generalize hG : okS p s.bars ms = G at *
    have HG := Lib.hid hG; clear hG
    go_enter Tryz.func29, Tryz.ntmps29
    go_upto_region 1 with (fail)
    generalize (w.alloc (.cells #[.int .i64 s.version, .slice (⟨ab, cb, ap, cp, an, cn⟩ : Sp).ab s.bars.length (⟨ab, cb, ap, cp, an, cn⟩ : Sp).cb, .slice (⟨ab, cb, ap, cp, an, cn⟩ : Sp).ap s.parts.length (⟨ab, cb, ap, cp, an, cn⟩ : Sp).cp, .slice (⟨ab, cb, ap, cp, an, cn⟩ : Sp).an s.notes.length (⟨ab, cb, ap, cp, an, cn⟩ : Sp).cn] 26)).alloc (.cells #[.int .i64 part, .slice a ms.length cap] 44) = W at *
    have hc1 := box_cells HX1.out; have hc2 := box_cells HX2.out
    go_upto_region 4 with (first | (go_at_call 27; refine (HV.out _ HB.out).mono ?_; rintro e w2 ⟨rfl, hb⟩; (try replace hb := drewB hb); replace HB := Lib.hid (HB.out.trans (hb.mono HB.out.size)); (try (replace HX1 := Lib.hid (blk_keep HX1.out hb); replace hc1 := box_cells HX1.out; replace hf1 := box_free HX1.out; replace hz1 := lt_blk HX1.out)); (try (replace HX2 := Lib.hid (blk_keep HX2.out hb); replace hc2 := box_cells HX2.out; replace hf2 := box_free HX2.out; replace hz2 := lt_blk HX2.out)); (try (replace HX9 := Lib.hid (blk_keep HX9.out hb); replace hc9 := box_cells HX9.out; replace hf9 := box_free HX9.out; replace hz9 := lt_blk HX9.out)); (try (replace HX10 := Lib.hid (blk_keep HX10.out hb); replace hc10 := box_cells HX10.out; replace hf10 := box_free HX10.out; replace hz10 := lt_blk HX10.out)); clear hb) | (go_at_call 59; refine (HFi.out _ HB.out).mono ?_; rintro e w3 ⟨rfl, hb⟩; (try replace hb := drewB hb); replace HB := Lib.hid (HB.out.trans (hb.mono HB.out.size)); (try (replace HX1 := Lib.hid (blk_keep HX1.out hb); replace hc1 := box_cells HX1.out; replace hf1 := box_free HX1.out; replace hz1 := lt_blk HX1.out)); (try (replace HX2 := Lib.hid (blk_keep HX2.out hb); replace hc2 := box_cells HX2.out; replace hf2 := box_free HX2.out; replace hz2 := lt_blk HX2.out)); (try (replace HX9 := Lib.hid (blk_keep HX9.out hb); replace hc9 := box_cells HX9.out; replace hf9 := box_free HX9.out; replace hz9 := lt_blk HX9.out)); (try (replace HX10 := Lib.hid (blk_keep HX10.out hb); replace hc10 := box_cells HX10.out; replace hf10 := box_free HX10.out; replace hz10 := lt_blk HX10.out)); clear hb))
    have HP := Lib.hid (heap_alloc_new w3 (.cells #[.int .i64 p.id, .int .i64 p.section_, .int .i64 p.of, .int .i64 p.octave, .int .i64 p.desks, .int .i64 p.shift.x, .int .i64 p.shift.y, .int .i64 p.low.s, .int .i64 p.low.a, .int .i64 p.low.o, .int .i64 p.high.s, .int .i64 p.high.a, .int .i64 p.high.o] 107))
    have hb := (Below.refl w3.heap.size w3).alloc (Nat.le_refl _) (.cells #[.int .i64 p.id, .int .i64 p.section_, .int .i64 p.of, .int .i64 p.octave, .int .i64 p.desks, .int .i64 p.shift.x, .int .i64 p.shift.y, .int .i64 p.low.s, .int .i64 p.low.a, .int .i64 p.low.o, .int .i64 p.high.s, .int .i64 p.high.a, .int .i64 p.high.o] 107)
    replace HX1 := Lib.hid (blk_keep HX1.out hb); replace HX2 := Lib.hid (blk_keep HX2.out hb)
    replace HB := Lib.hid (HB.out.trans (hb.mono HB.out.size))
    clear hb hc1 hc2 hf1 hf2 hz1 hz2
    generalize w3.alloc (.cells #[.int .i64 p.id, .int .i64 p.section_, .int .i64 p.of, .int .i64 p.octave, .int .i64 p.desks, .int .i64 p.shift.x, .int .i64 p.shift.y, .int .i64 p.low.s, .int .i64 p.low.a, .int .i64 p.low.o, .int .i64 p.high.s, .int .i64 p.high.a, .int .i64 p.high.o] 107) = wc at *
    generalize w3.heap.size = pb at *
    have HL := Lib.hid (show pb < wc.heap.size ∧ w.heap.size < wc.heap.size from ⟨lt_blk HP.out, lt_blk HX1.out⟩)
    have hc2 := box_cells HX2.out
    have HSz := Lib.hid HB.out.size
    go_wp2
    clear hc2
    go_loopw [8, 29] (fun s8 s9 wi => ∃ k : Nat, k ≤ ms.length ∧ s9 = .int .i64 k ∧ OwnR wi wc.heap.size 73 12 s8 ((sndK p s.bars (ms.map Me.says) k).map No.cells) ∧ (∀ j, j < k → G j) ∧ Below wc.heap.size wc wi) (fun _ s9 _ => ms.length - (intOf s9).toNat)
    case atStart => exact ⟨0, Nat.zero_le _, rfl, by simpa [sndK] using OwnR.nil _ _ _ _, fun j h => by omega, Below.refl _ _⟩
    case round =>
      obtain ⟨k, hk, rfl, hov, hall, hbe⟩ := hrel
      have HO := Lib.hid hov; have HA := Lib.hid hall; have HBe := Lib.hid hbe
      clear hov hall hbe
      have HZ1 := Lib.hid (blk_keep HX1.out HBe.out); have HZ2 := Lib.hid (blk_keep HX2.out HBe.out); have HZP := Lib.hid (blk_keep HP.out HBe.out)
      have HBB := Lib.hid (HB.out.trans (HBe.out.mono HSz.out))
      have hc1 := box_cells HZ1.out; have hc2 := box_cells HZ2.out
      by_cases hlt : k < ms.length
      · have hltb : k < s.bars.length := by have := HLen.out; omega
        obtain ⟨b1, o1, hqa, hb1, c0, c1, c2, c3, c4⟩ := (HM.out.below HBB.out).get k hlt
        subst hqa
        have HMk := Lib.hid (fun W (hb : Below w.heap.size w W) => ((HM.out.below hb).notes _ (List.getElem_mem hlt)))
        have HNk := Lib.hid (HNl.out _ (List.getElem_mem hlt))
        have HBk := Lib.hid (HBad.out k hltb hlt)
        have HSu := Lib.hid (sndM_succ (p := p) hltb hlt)
        have HMk2 := Lib.hid (show ms[k].bar = s.bars[k].id from (HMb.out k hltb hlt).1)
        have HGk := Lib.hid (fun (h : ∀ j (hj : j < ms[k].notes.length), (soundR p s.bars[k].key ms[k].notes[j].pitch).2 = 0) => show G k from HG.out ▸ (fun _ _ => h : okS p s.bars ms k))
        have HLk := Lib.hid (HLn.out k)
        obtain ⟨bb, boff, hqb, hbb, _, _, _, d3⟩ := HBar.out.get k hltb
        have hab : ab = some ⟨bb, boff, none⟩ := hqb
        subst hab
        clear hqb
        generalize s.bars[k] = b at *
        generalize ms[k] = M at *
        generalize sndK p s.bars (ms.map Me.says) k = A0 at *
        go_upto_region 8 with (fail)
        have HX9 := Lib.hid (heap_alloc_new wr (.cells #[.int .i64 M.bar, .int .i64 M.key, .int .i64 M.len.n, .int .i64 M.len.d, .slice M.na M.notes.length M.ncap] 65))
        have hb := (Below.refl wr.heap.size wr).alloc (Nat.le_refl _) (.cells #[.int .i64 M.bar, .int .i64 M.key, .int .i64 M.len.n, .int .i64 M.len.d, .slice M.na M.notes.length M.ncap] 65)
        replace HO := Lib.hid (HO.out.below hb)
        replace HBe := Lib.hid (HBe.out.trans (hb.mono HBe.out.size))
        replace HBB := Lib.hid (HBB.out.trans (hb.mono HBB.out.size))
        replace HZ1 := Lib.hid (blk_keep HZ1.out hb); replace HZP := Lib.hid (blk_keep HZP.out hb)
        clear hb c0 c1 c2 c3 c4 hc1 hc2
        generalize wr.alloc (.cells #[.int .i64 M.bar, .int .i64 M.key, .int .i64 M.len.n, .int .i64 M.len.d, .slice M.na M.notes.length M.ncap] 65) = W1 at *
        generalize wr.heap.size = mb at *
        obtain ⟨bx, ox, hbx⟩ := WrAt.addr (HMk.out w HB0.out)
        have HV := Lib.hid (show VSL p b M w.heap.size pb mb k bb boff s.bars.length cb wc.heap.size W1 from ⟨HZP.out, box_cells HZ1.out 1, hltb, keepE d3 HBB.out, HX9.out, HMk2.out, fun W hb => HMk.out W (HB.out.trans ((HBe.out.trans hb).mono HSz.out)), ⟨HL.out.1, HL.out.2, Nat.lt_of_lt_of_le hbb HSz.out⟩, HNk.out, hnb⟩)
        have hc9 := box_cells HX9.out
        go_wp2
        refine vsnd2_any HV.out _ HO.out (Nat.le_trans HLk.out (by omega)) HBe.out.size (fun W hb => HE.out.below (HB.out.trans ((HBe.out.trans hb).mono HSz.out))) bx ox hbx _ ?_ ?_
        · intro t8 t12 t13 t14 t37 t38 t39 t40 t41 t42 t43 t44 t45 t46 t47 t48 t49 t50 t51 t52 t53 t54 t55 t56 t57 t58 t59 t60 t61 t62 t63 t64 t65 t66 t67 t68 t69 t70 t71 t72 t73 t74 t75 t76 t77 W' hR hb
          have HF := Lib.hid (HBk.out hR)
          have HBx := Lib.hid (HB.out.trans ((HBe.out.trans hb).mono HSz.out))
          clear hR hb
          go_wp2
          rw [HF.out]
          go_ret2
          exact ⟨_, _, rfl, SlOk.nil, SlAt.nil _ _ _, HBx.out⟩
        · intro t4 t5 t12 t13 t14 t37 t38 t39 t40 t41 t42 t43 t44 t45 t46 t47 t48 t49 t50 t51 t52 t53 t54 t55 t56 t57 t58 t59 t60 t61 t62 t63 t64 t65 t66 t67 t68 t69 t70 t71 t72 t73 t74 t75 t76 t77 W' v' ho hok hb
          have HOk := Lib.hid hok; have HOw := Lib.hid ho; have HBw := Lib.hid hb
          clear hok ho hb
          go_wp2
          refine ⟨⟨k + 1, by omega, by go_num, by rw [HSu.out]; exact HOw.out, fun j hj => ?_, HBe.out.trans HBw.out⟩, by simp [intOf]; omega⟩
          by_cases e : j = k
          · subst e; exact HGk.out HOk.out
          · exact HA.out j (by omega)
      · obtain rfl : k = ms.length := by omega
        have HF := Lib.hid (HDone.out HA.out)
        obtain ⟨a9, c9, rfl, hok, hin⟩ := HO.out.slAt
        have HIn := Lib.hid hin; have HOk := Lib.hid hok
        clear hin hok HO
        go_wp2
        rw [HF.out]
        go_ret2
        exact ⟨a9, c9, by simp, by simpa using HOk.out, HIn.out, HBB.out⟩
end Go.Proofs.YtppjbnnnppffaaaGreatDoor
