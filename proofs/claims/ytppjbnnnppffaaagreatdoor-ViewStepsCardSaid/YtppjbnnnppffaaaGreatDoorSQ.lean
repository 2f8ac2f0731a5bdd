/- Texts of this seat, laid together: ScR14c, ScR14d. -/
import Derived.Test.YtppjbnnnppffaaaGreatDoorSL

/- The reference's View: walked. -/
namespace Go.Proofs.YtppjbnnnppffaaaGreatDoor
set_option linter.unusedSimpArgs false
set_option linter.unusedVariables false
open Go.RowKit Go.Sort

set_option maxRecDepth 100000 in
set_option maxHeartbeats 8000000 in
theorem RView_any (s : Sc) (q : Sp) (p : Pa) (w : World) (hf : ScFew s) (hoct : ∀ x ∈ s.notes, -1000 ≤ x.pitch.o + p.octave ∧ x.pitch.o + p.octave ≤ 1000) (hs : ScAt w s q) :
    Calls Tryz.prog 61 #[.agg #[.int .i64 s.version, .slice q.ab s.bars.length q.cb, .slice q.ap s.parts.length q.cp, .slice q.an s.notes.length q.cn], .agg #[.int .i64 p.id, .int .i64 p.section_, .int .i64 p.of, .int .i64 p.octave, .int .i64 p.desks, .int .i64 p.shift.x, .int .i64 p.shift.y, .int .i64 p.low.s, .int .i64 p.low.a, .int .i64 p.low.o, .int .i64 p.high.s, .int .i64 p.high.a, .int .i64 p.high.o]] w (RetV p.id (viewL s p) w) := by
  have HS := Lib.hid hs
  have HPl := Lib.hid (fun W (hb : Below w.heap.size w W) => RPlayed_any s q p W hf.notes hoct (hs.notes.below hb))
  have hlb := hf.bars
  have hpl : (playedL s p).length ≤ 1000 := by unfold playedL; rw [List.length_map]; exact Nat.le_trans (List.length_filter_le _ _) hf.notes
  clear hs hf hoct
  obtain ⟨x1, x2, x3, hb⟩ := box3 (w := w) (A := .cells #[.int .i64 s.version, .slice q.ab s.bars.length q.cb, .slice q.ap s.parts.length q.cp, .slice q.an s.notes.length q.cn] 26) (B := .cells #[.int .i64 p.id, .int .i64 p.section_, .int .i64 p.of, .int .i64 p.octave, .int .i64 p.desks, .int .i64 p.shift.x, .int .i64 p.shift.y, .int .i64 p.low.s, .int .i64 p.low.a, .int .i64 p.low.o, .int .i64 p.high.s, .int .i64 p.high.a, .int .i64 p.high.o] 59) (C := .cells #[.int .i64 0, .slice none 0 0] 44) (Below.refl _ _)
  have hz : (((w.alloc (.cells #[.int .i64 s.version, .slice q.ab s.bars.length q.cb, .slice q.ap s.parts.length q.cp, .slice q.an s.notes.length q.cn] 26)).alloc (.cells #[.int .i64 p.id, .int .i64 p.section_, .int .i64 p.of, .int .i64 p.octave, .int .i64 p.desks, .int .i64 p.shift.x, .int .i64 p.shift.y, .int .i64 p.low.s, .int .i64 p.low.a, .int .i64 p.low.o, .int .i64 p.high.s, .int .i64 p.high.a, .int .i64 p.high.o] 59)).alloc (.cells #[.int .i64 0, .slice none 0 0] 44)).heap.size = w.heap.size + 3 := by simp
  have HX1 := Lib.hid x1; have HX2 := Lib.hid x2; have HX3 := Lib.hid x3; have HB := Lib.hid hb; clear x1 x2 x3 hb
  generalize hL : playedL s p = L at *
  have HV := Lib.hid (show viewL s p = s.bars.map (fun b => measureM p b ((inBar b L).map (writtenW p b))) by rw [← hL]; rfl)
  clear hL
  generalize viewL s p = VL at *
  have HBars := Lib.hid HS.out.bars
  obtain ⟨ab, cb, ap, cp, an, cn⟩ := q
  dsimp only at *
  go_enter Tryz.func61, Tryz.ntmps61
  go_upto_region 1 with (fail)
  generalize ((w.alloc (.cells #[.int .i64 s.version, .slice (⟨ab, cb, ap, cp, an, cn⟩ : Sp).ab s.bars.length (⟨ab, cb, ap, cp, an, cn⟩ : Sp).cb, .slice (⟨ab, cb, ap, cp, an, cn⟩ : Sp).ap s.parts.length (⟨ab, cb, ap, cp, an, cn⟩ : Sp).cp, .slice (⟨ab, cb, ap, cp, an, cn⟩ : Sp).an s.notes.length (⟨ab, cb, ap, cp, an, cn⟩ : Sp).cn] 26)).alloc (.cells #[.int .i64 p.id, .int .i64 p.section_, .int .i64 p.of, .int .i64 p.octave, .int .i64 p.desks, .int .i64 p.shift.x, .int .i64 p.shift.y, .int .i64 p.low.s, .int .i64 p.low.a, .int .i64 p.low.o, .int .i64 p.high.s, .int .i64 p.high.a, .int .i64 p.high.o] 59)).alloc (.cells #[.int .i64 0, .slice none 0 0] 44) = W at *
  have hc1 := box_cells HX1.out; have hc2 := box_cells HX2.out
  go_upto_region 2 with (fail)
  have HX4 := Lib.hid (heap_alloc_new W (.cells #[.int .i64 p.id, .slice none 0 0] 44))
  have hb := (Below.refl W.heap.size W).alloc (Nat.le_refl _) (.cells #[.int .i64 p.id, .slice none 0 0] 44)
  replace HX1 := Lib.hid (blk_keep HX1.out hb); replace HX2 := Lib.hid (blk_keep HX2.out hb); replace HX3 := Lib.hid (blk_keep HX3.out hb); replace HB := Lib.hid (HB.out.trans (hb.mono HB.out.size))
  rw [hz] at HX4
  (try rw [hz])
  generalize W.alloc (.cells #[.int .i64 p.id, .slice none 0 0] 44) = W2 at *
  clear hb hz hc1 hc2
  have hc1 := box_cells HX1.out; have hc2 := box_cells HX2.out
  go_upto_region 3 with (go_at_call 116; refine (HPl.out _ HB.out).mono ?_; rintro e w3 ⟨al, capl, rfl, hokl, hsl, hb⟩; have HN := Lib.hid hsl; have HOkL := Lib.hid hokl; clear hsl hokl; (try replace hb := drewB hb); replace HB := Lib.hid (HB.out.trans (hb.mono HB.out.size)); (try (replace HX1 := Lib.hid (blk_keep HX1.out hb); replace hc1 := box_cells HX1.out; replace hf1 := box_free HX1.out; replace hz1 := lt_blk HX1.out)); (try (replace HX2 := Lib.hid (blk_keep HX2.out hb); replace hc2 := box_cells HX2.out; replace hf2 := box_free HX2.out; replace hz2 := lt_blk HX2.out)); (try (replace HX3 := Lib.hid (blk_keep HX3.out hb); replace hc3 := box_cells HX3.out; replace hf3 := box_free HX3.out; replace hz3 := lt_blk HX3.out)); (try (replace HX4 := Lib.hid (blk_keep HX4.out hb); replace hc4 := box_cells HX4.out; replace hf4 := box_free HX4.out; replace hz4 := lt_blk HX4.out)); (try (replace HX9 := Lib.hid (blk_keep HX9.out hb); replace hc9 := box_cells HX9.out; replace hf9 := box_free HX9.out; replace hz9 := lt_blk HX9.out)); (try (replace HX10 := Lib.hid (blk_keep HX10.out hb); replace hc10 := box_cells HX10.out; replace hf10 := box_free HX10.out; replace hz10 := lt_blk HX10.out)); clear hb)
  clear hc1 hf1 hz1 hc2 hf2 hz2 hc3 hf3 hz3 HPl
  have hn3 : w.heap.size + 3 < w3.heap.size := lt_blk HX4.out
  have HBw := Lib.hid (HBars.out.below HB.out)
  go_wp2
  go_loopw [7] (fun i wr => ∃ (k : Nat) (v5 : Value) (ms : List Me), k ≤ s.bars.length ∧ i = .int .i64 k ∧ wr.heap[w.heap.size + 3]? = some (.cells #[.int .i64 p.id, v5] 44) ∧ OwnR wr w3.heap.size 65 5 v5 (ms.map Me.cells) ∧ OwnMs wr w3.heap.size ms ∧ ms.map Me.says = VL.take k ∧ KeepB w3.heap.size [w.heap.size + 3] w3 wr) (fun i _ => s.bars.length - (intOf i).toNat)
  case atStart => exact ⟨0, _, [], Nat.zero_le _, rfl, HX4.out, OwnR.nil _ _ _ _, (fun m hm => by cases hm), rfl, KeepB.refl _ _ _⟩
  case round =>
    obtain ⟨k, v5, ms, hk, rfl, x4, ho, hms, hsay, hkb⟩ := hrel
    have HY4 := Lib.hid x4; have HO := Lib.hid ho; have HMs := Lib.hid hms; have HSay := Lib.hid hsay; have HKB := Lib.hid hkb
    have HY1 := Lib.hid (hkb.at_ HX1.out (by omega) (by simp)); have HY2 := Lib.hid (hkb.at_ HX2.out (by omega) (by simp))
    have HYB := Lib.hid (hkb.onBelow HB.out HB.out.size (fun b hb => by simp at hb; omega))
    clear x4 ho hms hsay hkb
    have hc1 := box_cells HY1.out; have hc2 := box_cells HY2.out
    have hsz := HKB.out.size
    by_cases hlt : k < s.bars.length
    · obtain ⟨bb, boff, hqa, hbl, c0, c1, c2, c3⟩ := HBw.out.get k hlt
      have hne4 : bb ≠ w.heap.size + 3 := by
        have := HBw.out
        rw [hqa] at this
        exact SlAt.small this (by intro e; have := congrArg List.length e; rw [List.length_map, List.length_nil] at this; omega) HX4.out (by simp)
      have hcell : ∀ j u, w3.cell? ⟨bb, j, none⟩ = some u → wr.cell? ⟨bb, j, none⟩ = some u := fun j u h => (World.cell?_of_block (HKB.out.block bb hbl (by simp; exact hne4))).trans h
      have g0 := hcell _ _ c0; have g1 := hcell _ _ c1; have g2 := hcell _ _ c2; have g3 := hcell _ _ c3
      have HG0 := Lib.hid g0; have HG3 := Lib.hid g3
      clear c0 c1 c2 c3 hcell hne4
      have hab : ab = some ⟨bb, boff, none⟩ := hqa
      clear hqa
      have HVk := Lib.hid (show ∀ (M : MeP), M = measureM p s.bars[k] ((inBar s.bars[k] L).map (writtenW p s.bars[k])) → VL.take (k + 1) = VL.take k ++ [M] from fun M hM => by
        have hkv : k < VL.length := by rw [HV.out, List.length_map]; exact hlt
        rw [List.take_succ_eq_append_getElem hkv, hM]
        congr 2
        simp [HV.out])
      generalize s.bars[k] = b at *
      subst hab
      have HMe := Lib.hid (fun W => R14Measure_any p b W)
      obtain ⟨K1, hK1⟩ : ∃ K, K = (keyR p b.key).1 := ⟨_, rfl⟩
      rw [← hK1] at HMe
      have HK1 := Lib.hid hK1; clear hK1
      have hbbl := lt_cell g0
      have hwr3 : w.heap.size + 3 < wr.heap.size := by omega
      go_upto_region 6 with (fail)
      go_cut [8] (fun s8 W => ∃ mb, s8 = .pointer (some ⟨mb, 0, none⟩) ∧ wr.heap.size ≤ mb ∧ W.heap[mb]? = some (.cells #[.int .i64 b.id, .int .i64 K1, .int .i64 b.len.n, .int .i64 b.len.d, .slice none 0 0] 65) ∧ Below wr.heap.size wr W)
      case first =>
        have HBr := Lib.hid (Below.refl wr.heap.size wr)
        have g9 : wr.cell? ⟨w.heap.size, 1, none⟩ = some (.slice (some ⟨bb, boff, none⟩) s.bars.length cb) := hc1 1
        go_region_held3 (fun W => (W.cell? ⟨w.heap.size + 1, 0, none⟩ = some (.int .i64 p.id) ∧ W.cell? ⟨w.heap.size + 1, 1, none⟩ = some (.int .i64 p.section_) ∧ W.cell? ⟨w.heap.size + 1, 2, none⟩ = some (.int .i64 p.of) ∧ W.cell? ⟨w.heap.size + 1, 3, none⟩ = some (.int .i64 p.octave) ∧ W.cell? ⟨w.heap.size + 1, 4, none⟩ = some (.int .i64 p.desks) ∧ W.cell? ⟨w.heap.size + 1, 5, none⟩ = some (.int .i64 p.shift.x) ∧ W.cell? ⟨w.heap.size + 1, 6, none⟩ = some (.int .i64 p.shift.y) ∧ W.cell? ⟨w.heap.size + 1, 7, none⟩ = some (.int .i64 p.low.s) ∧ W.cell? ⟨w.heap.size + 1, 8, none⟩ = some (.int .i64 p.low.a) ∧ W.cell? ⟨w.heap.size + 1, 9, none⟩ = some (.int .i64 p.low.o) ∧ W.cell? ⟨w.heap.size + 1, 10, none⟩ = some (.int .i64 p.high.s) ∧ W.cell? ⟨w.heap.size + 1, 11, none⟩ = some (.int .i64 p.high.a) ∧ W.cell? ⟨w.heap.size + 1, 12, none⟩ = some (.int .i64 p.high.o)) ∧ W.cell? ⟨w.heap.size, 1, none⟩ = some (.slice (some ⟨bb, boff, none⟩) s.bars.length cb) ∧ W.cell? ⟨bb, boff + k * 4, none⟩ = some (.int .i64 b.id) ∧ W.cell? ⟨bb, boff + k * 4 + 1, none⟩ = some (.int .i64 b.len.n) ∧ W.cell? ⟨bb, boff + k * 4 + 2, none⟩ = some (.int .i64 b.len.d) ∧ W.cell? ⟨bb, boff + k * 4 + 3, none⟩ = some (.int .i64 b.key))
          (first | with_reducible exact ⟨paC (up_alloc HY2.out _), keepE g9 (below_box _), keepE g0 (below_box _), keepE g1 (below_box _), keepE g2 (below_box _), keepE g3 (below_box _)⟩ | with_reducible exact ⟨paC (set5_far HY2.out (by omega)), cell5_far g9 (by omega), cell5_far g0 (by omega), cell5_far g1 (by omega), cell5_far g2 (by omega), cell5_far g3 (by omega)⟩ | exact ⟨paC HY2.out, g9, g0, g1, g2, g3⟩ | go_keep)
          ((go_at_call 68; refine (HMe.out _).mono ?_; rintro e w5 ⟨rfl, hb⟩; (try replace hb := drewB hb); (first | (have x0 := box_below hb; have HX9 := Lib.hid x0; have hc9 := box_cells x0; have hf9 := box_free x0; have hz9 := lt_blk x0; clear x0; replace hb := allocB hb) | skip); (try replace hb := drewB hb); replace HBr := Lib.hid (HBr.out.trans (hb.mono HBr.out.size)); replace HY1 := Lib.hid (blk_keep HY1.out hb); replace HY2 := Lib.hid (blk_keep HY2.out hb); replace g0 := keepE g0 hb; replace g1 := keepE g1 hb; replace g2 := keepE g2 hb; replace g3 := keepE g3 hb; replace g9 := keepE g9 hb; clear hc1; have hc1 := box_cells HY1.out; clear hb))
        · go_wp2
          go_meet
          case rel => exact ⟨_, rfl, HBr.out.size, heap_alloc_new _ _, HBr.out.alloc HBr.out.size _⟩
        · go_wp2
          go_meet
          case rel => exact ⟨_, rfl, Nat.le_refl _, set5_at HX9.out, set5_below HBr.out (Nat.le_refl _)⟩
      case rest =>
        obtain ⟨mb, rfl, hmb, xm, hbm⟩ := hcut
        have hmlt := lt_blk xm
        have hnl : NoAt wc al L := by
          refine (show NoAt w3 al L from HN.out).keptB (HKB.out.andBelow hbm hsz) (Nat.le_refl _) (fun ad e h0 => ?_)
          have h1 := HN.out
          obtain ⟨r, rs, er⟩ := List.exists_cons_of_ne_nil h0
          obtain ⟨b0, o0, e0, _⟩ := h1 0 r (by rw [er]; rfl)
          rw [e] at e0; cases e0
          have h2 : SlAt w3 (some ⟨b0, o0, none⟩) 12 (L.map No.cells) := by rw [← e]; exact h1
          have := SlAt.small h2 h0 HX4.out (by simp)
          simpa using this
        have hX : RVC p b L w.heap.size (w.heap.size + 1) mb k bb boff s.bars.length cb al K1 wc :=
          ⟨blk_keep HY2.out hbm, keepE (hc1 1) hbm, hlt, keepE HG0.out hbm, keepE HG3.out hbm, xm, hnl, hpl, hlb, ⟨by omega, by omega, by omega⟩⟩
        have HXX := Lib.hid hX; have HBm := Lib.hid hbm
        clear xm hbm hc1 hc2 g0 g1 g2 g3 hnl hX
        go_wp2
        refine rview2_any HXX.out capl _ ?_
        intro t9 t10 t11 t32 t33 t34 t35 t36 t37 t38 t39 t40 t41 t42 t43 t44 t45 t46 t47 t48 t49 t50 t51 t52 t53 t54 t55 t56 t57 t58 t59 t60 t61 t62 t63 t64 t65 t66 t67 t68 t69 t70 t71 t72 t73 t74 t75 t76 t77 t78 t79 t80 t81 t82 t83 t84 t85 t86 t87 t88 t89 t90 t91 t92 t93 t94 t95 t96 t97 w7 vn hm7 ho7 hk7
        have hb7 : Below wr.heap.size wr w7 := HBm.out.trans ((KeepB.below (hk7.weaken (Nat.le_of_lt hmlt) (fun j hj hlt => by simp at hj; omega))).mono hmb)
        have hkb7 := HKB.out.andBelow hb7 hsz
        have HY4' := Lib.hid (blk_keep HY4.out hb7)
        have HOl := Lib.hid (fun j (hj : v5.ownBlock = some j) => (HO.out.lt j hj).2)
        have HO' := Lib.hid (HO.out.below hb7); have HMs' := Lib.hid (HMs.out.below hb7)
        have HM7 := Lib.hid hm7; have HO7 := Lib.hid ho7; have HK7 := Lib.hid hkb7
        have hz7 := HK7.out.size; have hz8 := hb7.size; have hz9 := hk7.size
        clear hm7 ho7 hk7 hkb7 hb7 HXX HBm HY1 HY2 HO HMs
        have HVk2 := Lib.hid (HVk.out _ rfl)
        have e0 : (inBar b L).map (writtenW p b) = barK p b L L.length := by unfold barK; rw [List.take_length]
        rw [e0] at HVk2
        clear e0
        have hbl := barK_len p b L L.length
        generalize barK p b L L.length = B at *
        obtain ⟨na, nc, env, hon, hin⟩ := HO7.out.slAt
        rw [List.length_map] at env hon
        subst env
        obtain ⟨M, hM⟩ : ∃ M : Me, M = ⟨b.id, K1, b.len, na, nc, B⟩ := ⟨_, rfl⟩
        have HME := Lib.hid hM
        have HSayM := Lib.hid (show M.says = measureM p b B by rw [hM, HK1.out]; rfl)
        have HNM := Lib.hid (show OwnR w7 w3.heap.size 68 10 (.slice M.na M.notes.length M.ncap) (M.notes.map Wr.cells) by rw [hM]; exact HO7.out.mono (by omega))
        clear hM HO7 hon hin
        have hc4 := box_cells HY4'.out; have hc9 := box_cells HM7.out
        have hmsl : ms.length ≤ 1000 := by have := congrArg List.length HSay.out; rw [List.length_map, List.length_take] at this; omega
        go_wp2_with (at_builtin; refine appE eltMe rfl (.tmp 99) (.tmp 101) rfl w3.heap.size _ ms rfl (HO'.out.below (below_box _)) _ _ _ [M] rfl rfl (fun e => by cases e) (eltMe.new _ M _ _ (by rw [HME.out]; rfl)) (by simp; omega) (Nat.le_trans hz7 (below_box _).size) ?_; intro v2 w2 ho2 hg2; obtain ⟨a9, c9, e9, _, _⟩ := ho2.slAt; rw [show ((ms ++ [M]).map Me.cells).length = ms.length + 1 by simp] at e9; subst e9; have HO2 := Lib.hid ho2; have HG2 := Lib.hid hg2; have hk4 := (hg2.block (w.heap.size + 3) (by simp; omega) (HO'.out.neBlk (by omega))).trans (up_alloc HY4'.out _); have HK4 := Lib.hid hk4; have hcm := box_cells hk4; have hfm := box_free hk4; have hzm := lt_blk hk4; clear ho2 hg2 hk4)
        have hsn : (ms ++ [M]).map Me.says = VL.take (k + 1) := by rw [List.map_append, HSay.out, HVk2.out, List.map_singleton, HSayM.out]
        have hms2 : OwnMs w2 w3.heap.size (ms ++ [M]) := (((HMs'.out.snoc HNM.out).below (below_box _)).kept (HO'.out.below (below_box _)) HG2.out)
        refine ⟨⟨k + 1, _, ms ++ [M], by omega, by go_num, heap_setCell_same _ _ _ _ _ _ HK4.out, HO2.out.setFar (b := w.heap.size + 3) (fun j hj => by have h9 := (HO2.out.lt j hj).1; omega) _, hms2.setFar (by omega) _, hsn, ?_⟩, by simp [intOf]; omega⟩
        refine KeepB.set ?_ (.inl (by simp)) _
        exact (HK7.out.andBelow (below_box _) hz7).grown HG2.out (Nat.le_trans hz7 (below_box _).size) (fun j e => (HO'.out.lt j e).1)
    · obtain rfl : k = s.bars.length := by omega
      have hc4 := box_cells HY4.out; have hf4 := box_free HY4.out
      have HY3 := Lib.hid (HKB.out.at_ HX3.out (by omega) (by simp))
      have hc3 := box_cells HY3.out; have hf3 := box_free HY3.out; have hz3 := lt_blk HY3.out
      have hn2 : w.heap.size + 2 < w3.heap.size := by omega
      obtain ⟨a, cap, rfl, hok, hme⟩ := ((HMs.out.setFar (j := 0) hn2 (.int .i64 p.id)).setFar (j := 1) hn2 v5).meAt ((HO.out.setFar (b := w.heap.size + 2) (j := 0) (fun j hj => by have := (HO.out.lt j hj).1; omega) (.int .i64 p.id)).setFar (b := w.heap.size + 2) (j := 1) (fun j hj => by have := (HO.out.lt j hj).1; omega) v5)
      have HMe := Lib.hid hme; clear hme hn2
      have HSay2 := Lib.hid (show ms.map Me.says = VL by rw [HSay.out, List.take_of_length_le (by rw [HV.out, List.length_map]; exact Nat.le_refl _)])
      go_wp2
      exact bodyPost_ret (v := .agg #[.int .i64 p.id, .slice a ms.length cap]) (by simp [results, Tryz.results61, go_sem, hc3, hf3]) rfl ⟨a, cap, ms, rfl, hok, HMe.out, HSay2.out, (HYB.out.setCell (by simp <;> omega) _).setCell (by simp <;> omega) _⟩
end Go.Proofs.YtppjbnnnppffaaaGreatDoor


/- The reference's Get: walked. -/
namespace Go.Proofs.YtppjbnnnppffaaaGreatDoor
set_option linter.unusedSimpArgs false
set_option linter.unusedVariables false
open Go.RowKit Go.Sort

set_option maxRecDepth 100000 in
set_option maxHeartbeats 8000000 in
theorem RGet_any (s : Sc) (q : Sp) (part : Int) (w : World) (hf : ScFew s) (hs : ScAt w s q) :
    Calls Tryz.prog 25 #[.agg #[.int .i64 s.version, .slice q.ab s.bars.length q.cb, .slice q.ap s.parts.length q.cp, .slice q.an s.notes.length q.cn], .int .i64 part] w (RetVE (getR s part).1 (getR s part).2.1 (getR s part).2.2 w) := by
  have HS := Lib.hid hs
  have HC := Lib.hid (fun W (hb : Below w.heap.size w W) => RValid8_any s q W hf (hs.below hb))
  have HAt := Lib.hid (fun W (hb : Below w.heap.size w W) => RPartAt_any q.ap q.cp s.parts part W (by have := hf.parts; omega) (hs.parts.below hb))
  obtain ⟨x1, x2, hb⟩ := box2 (w := w) (A := .cells #[.int .i64 s.version, .slice q.ab s.bars.length q.cb, .slice q.ap s.parts.length q.cp, .slice q.an s.notes.length q.cn] 26) (B := .cells #[.int .i64 0, .slice none 0 0] 44) (Below.refl _ _)
  have HX1 := Lib.hid x1; have HX2 := Lib.hid x2; have HB := Lib.hid hb; clear x1 x2 hb
  cases hv : validS s
  · rw [hv] at HC
    rw [show getR s part = (0, [], 1) by simp [getR, hv]]
    clear hv hs hf
    go_enter Tryz.func25, Tryz.ntmps25
    go_upto_region 1 with (fail)
    generalize (w.alloc (.cells #[.int .i64 s.version, .slice q.ab s.bars.length q.cb, .slice q.ap s.parts.length q.cp, .slice q.an s.notes.length q.cn] 26)).alloc (.cells #[.int .i64 0, .slice none 0 0] 44) = W at *
    have hc1 := box_cells HX1.out; have hc2 := box_cells HX2.out; have hf2 := box_free HX2.out; have hz2 := lt_blk HX2.out
    go_wp2_with ((go_at_call 32; refine (HC.out _ HB.out).mono ?_; rintro e w2 ⟨rfl, hb⟩; (try replace hb := drewB hb); replace HB := Lib.hid (HB.out.trans (hb.mono HB.out.size)); (try (replace HX1 := Lib.hid (blk_keep HX1.out hb); replace hc1 := box_cells HX1.out; replace hf1 := box_free HX1.out; replace hz1 := lt_blk HX1.out)); (try (replace HX2 := Lib.hid (blk_keep HX2.out hb); replace hc2 := box_cells HX2.out; replace hf2 := box_free HX2.out; replace hz2 := lt_blk HX2.out)); (try (replace HX10 := Lib.hid (blk_keep HX10.out hb); replace hc10 := box_cells HX10.out; replace hf10 := box_free HX10.out; replace hz10 := lt_blk HX10.out)); clear hb))
    exact bodyPost_ret (v := .tuple #[.agg #[.int .i64 0, .slice none 0 0], .int .i64 1]) (by simp [results, Tryz.results25, go_sem, hc2, hf2]) rfl ⟨none, 0, [], rfl, SlOk.nil, ⟨SlAt.nil _ _ _, (fun m hm => by cases hm), fun m hm => by cases hm⟩, rfl, (HB.out.setCell (by simp <;> omega) _).setCell (by simp <;> omega) _⟩
  rw [hv] at HC
  rcases partAt_idx s.parts part with ⟨e1, e2⟩ | ⟨i, hi, e1, e2, e3, e4⟩
  · rw [show getR s part = (0, [], 22) by simp [getR, hv, e2]]
    rw [e1] at HAt
    (try clear e3 e4); clear hv hs hf e1 e2
    go_enter Tryz.func25, Tryz.ntmps25
    go_upto_region 1 with (fail)
    generalize (w.alloc (.cells #[.int .i64 s.version, .slice q.ab s.bars.length q.cb, .slice q.ap s.parts.length q.cp, .slice q.an s.notes.length q.cn] 26)).alloc (.cells #[.int .i64 0, .slice none 0 0] 44) = W at *
    have hc1 := box_cells HX1.out; have hc2 := box_cells HX2.out; have hf2 := box_free HX2.out; have hz2 := lt_blk HX2.out
    go_wp2_with (first | (go_at_call 32; refine (HC.out _ HB.out).mono ?_; rintro e w2 ⟨rfl, hb⟩; (try replace hb := drewB hb); replace HB := Lib.hid (HB.out.trans (hb.mono HB.out.size)); (try (replace HX1 := Lib.hid (blk_keep HX1.out hb); replace hc1 := box_cells HX1.out; replace hf1 := box_free HX1.out; replace hz1 := lt_blk HX1.out)); (try (replace HX2 := Lib.hid (blk_keep HX2.out hb); replace hc2 := box_cells HX2.out; replace hf2 := box_free HX2.out; replace hz2 := lt_blk HX2.out)); (try (replace HX10 := Lib.hid (blk_keep HX10.out hb); replace hc10 := box_cells HX10.out; replace hf10 := box_free HX10.out; replace hz10 := lt_blk HX10.out)); clear hb) | (go_at_call 51; refine (HAt.out _ HB.out).mono ?_; rintro e w3 ⟨rfl, rfl⟩))
    exact bodyPost_ret (v := .tuple #[.agg #[.int .i64 0, .slice none 0 0], .int .i64 22]) (by simp [results, Tryz.results25, go_sem, hc2, hf2]) rfl ⟨none, 0, [], rfl, SlOk.nil, ⟨SlAt.nil _ _ _, (fun m hm => by cases hm), fun m hm => by cases hm⟩, rfl, (HB.out.setCell (by simp <;> omega) _).setCell (by simp <;> omega) _⟩
  · rw [show getR s part = (s.parts[i].id, viewL s s.parts[i], 0) by simp [getR, hv, e2]]
    rw [e1] at HAt
    have HVw := Lib.hid (fun W (hb : Below w.heap.size w W) => RView_any s q s.parts[i] W hf (oct_ok hv (List.getElem_mem hi)) (hs.below hb))
    obtain ⟨bp, offp, hqa, hpl, d0, d1, d2, d3, d4, d5, d6, d7, d8, d9, d10, d11, d12⟩ := HS.out.parts.get i hi
    have hz : (0 : Int) ≤ i := by omega
    (try clear e3 e4); clear hv hs hf e1 e2
    generalize s.parts[i] = p at *
    generalize viewL s p = VL at *
    obtain ⟨ab, cb, ap, cp, an, cn⟩ := q
    dsimp only at *
    subst hqa
    have HD := Lib.hid (show PaC w bp p ∨ True from .inr trivial)
    have HPc := Lib.hid (show ∀ W, Below w.heap.size w W → (W.cell? ⟨bp, offp + i * 13, none⟩ = some (.int .i64 p.id) ∧ W.cell? ⟨bp, offp + i * 13 + 1, none⟩ = some (.int .i64 p.section_) ∧ W.cell? ⟨bp, offp + i * 13 + 2, none⟩ = some (.int .i64 p.of) ∧ W.cell? ⟨bp, offp + i * 13 + 3, none⟩ = some (.int .i64 p.octave) ∧ W.cell? ⟨bp, offp + i * 13 + 4, none⟩ = some (.int .i64 p.desks) ∧ W.cell? ⟨bp, offp + i * 13 + 5, none⟩ = some (.int .i64 p.shift.x) ∧ W.cell? ⟨bp, offp + i * 13 + 6, none⟩ = some (.int .i64 p.shift.y) ∧ W.cell? ⟨bp, offp + i * 13 + 7, none⟩ = some (.int .i64 p.low.s) ∧ W.cell? ⟨bp, offp + i * 13 + 8, none⟩ = some (.int .i64 p.low.a) ∧ W.cell? ⟨bp, offp + i * 13 + 9, none⟩ = some (.int .i64 p.low.o) ∧ W.cell? ⟨bp, offp + i * 13 + 10, none⟩ = some (.int .i64 p.high.s) ∧ W.cell? ⟨bp, offp + i * 13 + 11, none⟩ = some (.int .i64 p.high.a) ∧ W.cell? ⟨bp, offp + i * 13 + 12, none⟩ = some (.int .i64 p.high.o)) from fun W hb => ⟨keepE d0 hb, keepE d1 hb, keepE d2 hb, keepE d3 hb, keepE d4 hb, keepE d5 hb, keepE d6 hb, keepE d7 hb, keepE d8 hb, keepE d9 hb, keepE d10 hb, keepE d11 hb, keepE d12 hb⟩)
    clear d0 d1 d2 d3 d4 d5 d6 d7 d8 d9 d10 d11 d12 HD
    go_enter Tryz.func25, Tryz.ntmps25
    go_upto_region 1 with (fail)
    generalize (w.alloc (.cells #[.int .i64 s.version, .slice ab s.bars.length cb, .slice (some ⟨bp, offp, none⟩) s.parts.length cp, .slice an s.notes.length cn] 26)).alloc (.cells #[.int .i64 0, .slice none 0 0] 44) = W at *
    have hc1 := box_cells HX1.out; have hc2 := box_cells HX2.out; have hf2 := box_free HX2.out; have hz2 := lt_blk HX2.out
    go_upto_region 7 with (first | (go_at_call 32; refine (HC.out _ HB.out).mono ?_; rintro e w2 ⟨rfl, hb⟩; (try replace hb := drewB hb); replace HB := Lib.hid (HB.out.trans (hb.mono HB.out.size)); (try (replace HX1 := Lib.hid (blk_keep HX1.out hb); replace hc1 := box_cells HX1.out; replace hf1 := box_free HX1.out; replace hz1 := lt_blk HX1.out)); (try (replace HX2 := Lib.hid (blk_keep HX2.out hb); replace hc2 := box_cells HX2.out; replace hf2 := box_free HX2.out; replace hz2 := lt_blk HX2.out)); (try (replace HX10 := Lib.hid (blk_keep HX10.out hb); replace hc10 := box_cells HX10.out; replace hf10 := box_free HX10.out; replace hz10 := lt_blk HX10.out)); clear hb) | (go_at_call 51; refine (HAt.out _ HB.out).mono ?_; rintro e w3 ⟨rfl, rfl⟩))
    obtain ⟨g0, g1, g2, g3, g4, g5, g6, g7, g8, g9, g10, g11, g12⟩ := HPc.out w2 HB.out
    have k0 : w2.cell? ⟨w.heap.size, 0, none⟩ = some (.int .i64 s.version) := hc1 0
    have k1 : w2.cell? ⟨w.heap.size, 1, none⟩ = some (.slice ab s.bars.length cb) := hc1 1
    have k2 : w2.cell? ⟨w.heap.size, 2, none⟩ = some (.slice (some ⟨bp, offp, none⟩) s.parts.length cp) := hc1 2
    have k3 : w2.cell? ⟨w.heap.size, 3, none⟩ = some (.slice an s.notes.length cn) := hc1 3
    replace g0 := keepE g0 ((Below.refl w2.heap.size w2).drew); replace g1 := keepE g1 ((Below.refl w2.heap.size w2).drew); replace g2 := keepE g2 ((Below.refl w2.heap.size w2).drew); replace g3 := keepE g3 ((Below.refl w2.heap.size w2).drew); replace g4 := keepE g4 ((Below.refl w2.heap.size w2).drew); replace g5 := keepE g5 ((Below.refl w2.heap.size w2).drew); replace g6 := keepE g6 ((Below.refl w2.heap.size w2).drew); replace g7 := keepE g7 ((Below.refl w2.heap.size w2).drew); replace g8 := keepE g8 ((Below.refl w2.heap.size w2).drew); replace g9 := keepE g9 ((Below.refl w2.heap.size w2).drew); replace g10 := keepE g10 ((Below.refl w2.heap.size w2).drew); replace g11 := keepE g11 ((Below.refl w2.heap.size w2).drew); replace g12 := keepE g12 ((Below.refl w2.heap.size w2).drew); replace k0 := keepE k0 ((Below.refl w2.heap.size w2).drew); replace k1 := keepE k1 ((Below.refl w2.heap.size w2).drew); replace k2 := keepE k2 ((Below.refl w2.heap.size w2).drew); replace k3 := keepE k3 ((Below.refl w2.heap.size w2).drew)
    go_region_held3 (fun W => (W.cell? ⟨bp, offp + i * 13, none⟩ = some (.int .i64 p.id) ∧ W.cell? ⟨bp, offp + i * 13 + 1, none⟩ = some (.int .i64 p.section_) ∧ W.cell? ⟨bp, offp + i * 13 + 2, none⟩ = some (.int .i64 p.of) ∧ W.cell? ⟨bp, offp + i * 13 + 3, none⟩ = some (.int .i64 p.octave) ∧ W.cell? ⟨bp, offp + i * 13 + 4, none⟩ = some (.int .i64 p.desks) ∧ W.cell? ⟨bp, offp + i * 13 + 5, none⟩ = some (.int .i64 p.shift.x) ∧ W.cell? ⟨bp, offp + i * 13 + 6, none⟩ = some (.int .i64 p.shift.y) ∧ W.cell? ⟨bp, offp + i * 13 + 7, none⟩ = some (.int .i64 p.low.s) ∧ W.cell? ⟨bp, offp + i * 13 + 8, none⟩ = some (.int .i64 p.low.a) ∧ W.cell? ⟨bp, offp + i * 13 + 9, none⟩ = some (.int .i64 p.low.o) ∧ W.cell? ⟨bp, offp + i * 13 + 10, none⟩ = some (.int .i64 p.high.s) ∧ W.cell? ⟨bp, offp + i * 13 + 11, none⟩ = some (.int .i64 p.high.a) ∧ W.cell? ⟨bp, offp + i * 13 + 12, none⟩ = some (.int .i64 p.high.o)) ∧ W.cell? ⟨w.heap.size, 0, none⟩ = some (.int .i64 s.version) ∧ W.cell? ⟨w.heap.size, 1, none⟩ = some (.slice ab s.bars.length cb) ∧ W.cell? ⟨w.heap.size, 2, none⟩ = some (.slice (some ⟨bp, offp, none⟩) s.parts.length cp) ∧ W.cell? ⟨w.heap.size, 3, none⟩ = some (.slice an s.notes.length cn))
      (first | with_reducible exact ⟨⟨cell1_far (cell1_far g0 (by omega) _) (by omega) _, cell1_far (cell1_far g1 (by omega) _) (by omega) _, cell1_far (cell1_far g2 (by omega) _) (by omega) _, cell1_far (cell1_far g3 (by omega) _) (by omega) _, cell1_far (cell1_far g4 (by omega) _) (by omega) _, cell1_far (cell1_far g5 (by omega) _) (by omega) _, cell1_far (cell1_far g6 (by omega) _) (by omega) _, cell1_far (cell1_far g7 (by omega) _) (by omega) _, cell1_far (cell1_far g8 (by omega) _) (by omega) _, cell1_far (cell1_far g9 (by omega) _) (by omega) _, cell1_far (cell1_far g10 (by omega) _) (by omega) _, cell1_far (cell1_far g11 (by omega) _) (by omega) _, cell1_far (cell1_far g12 (by omega) _) (by omega) _⟩, cell1_far (cell1_far k0 (by omega) _) (by omega) _, cell1_far (cell1_far k1 (by omega) _) (by omega) _, cell1_far (cell1_far k2 (by omega) _) (by omega) _, cell1_far (cell1_far k3 (by omega) _) (by omega) _⟩ | with_reducible exact ⟨⟨g0, g1, g2, g3, g4, g5, g6, g7, g8, g9, g10, g11, g12⟩, k0, k1, k2, k3⟩ | go_keep)
      ((go_at_call 61; refine (HVw.out _ (HB.out.drew)).mono ?_; rintro e w5 ⟨a9, c9, ms, rfl, hok, hme, hsay, hb⟩; have HOk := Lib.hid hok; have HMe := Lib.hid hme; have HSay := Lib.hid hsay; clear hok hme hsay; replace g0 := keepE g0 hb; replace g1 := keepE g1 hb; replace g2 := keepE g2 hb; replace g3 := keepE g3 hb; replace g4 := keepE g4 hb; replace g5 := keepE g5 hb; replace g6 := keepE g6 hb; replace g7 := keepE g7 hb; replace g8 := keepE g8 hb; replace g9 := keepE g9 hb; replace g10 := keepE g10 hb; replace g11 := keepE g11 hb; replace g12 := keepE g12 hb; replace k0 := keepE k0 hb; replace k1 := keepE k1 hb; replace k2 := keepE k2 hb; replace k3 := keepE k3 hb; (try replace hb := drewB hb); (try replace hb := drewB hb); replace HB := Lib.hid (HB.out.trans (hb.mono HB.out.size)); (try (replace HX1 := Lib.hid (blk_keep HX1.out hb); replace hc1 := box_cells HX1.out; replace hf1 := box_free HX1.out; replace hz1 := lt_blk HX1.out)); (try (replace HX2 := Lib.hid (blk_keep HX2.out hb); replace hc2 := box_cells HX2.out; replace hf2 := box_free HX2.out; replace hz2 := lt_blk HX2.out)); (try (replace HX10 := Lib.hid (blk_keep HX10.out hb); replace hc10 := box_cells HX10.out; replace hf10 := box_free HX10.out; replace hz10 := lt_blk HX10.out)); clear hb))
    have HMe2 := Lib.hid (((HMe.out.setSmall (j := 0) HX2.out (by simp) (.int .i64 p.id)).setSmall (j := 1) (heap_setCell_same _ _ _ _ _ _ HX2.out) (by simp) (.slice a9 ms.length c9)))
    have HBf := Lib.hid ((HB.out.setCell (p := ⟨w.heap.size + 1, 0, none⟩) (by simp <;> omega) (.int .i64 p.id)).setCell (p := ⟨w.heap.size + 1, 1, none⟩) (by simp <;> omega) (.slice a9 ms.length c9))
    have HX2' := Lib.hid (show ((w5.setCell ⟨w.heap.size + 1, 0, none⟩ (.int .i64 p.id)).setCell ⟨w.heap.size + 1, 1, none⟩ (.slice a9 ms.length c9)).heap[w.heap.size + 1]? = some (.cells #[.int .i64 p.id, .slice a9 ms.length c9] 44) from (heap_setCell_same _ _ _ _ _ _ (heap_setCell_same _ _ _ _ _ _ HX2.out)))
    generalize (w5.setCell ⟨w.heap.size + 1, 0, none⟩ (.int .i64 p.id)).setCell ⟨w.heap.size + 1, 1, none⟩ (.slice a9 ms.length c9) = W9 at *
    clear hc1 hf1 hz1 hc2 hf2 hz2 HX2 HX1
    have hc2 := box_cells HX2'.out; have hf2 := box_free HX2'.out; have hz2 := lt_blk HX2'.out
    go_wp2
    exact bodyPost_ret (v := .tuple #[.agg #[.int .i64 p.id, .slice a9 ms.length c9], .int .i64 0]) (by simp [results, Tryz.results25, go_sem, hc2, hf2]) rfl ⟨a9, c9, ms, rfl, HOk.out, HMe2.out, HSay.out, HBf.out⟩
end Go.Proofs.YtppjbnnnppffaaaGreatDoor
