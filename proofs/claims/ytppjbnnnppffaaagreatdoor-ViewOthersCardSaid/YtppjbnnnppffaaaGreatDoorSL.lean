/- Texts of this seat, laid together: ScR14v, ScR14e, ScR14f, ScPure11. -/
import Derived.Test.YtppjbnnnppffaaaGreatDoorSJ
import Derived.Test.YtppjbnnnppffaaaGreatDoorSF
import Derived.Test.YtppjbnnnppffaaaGreatDoorSB

/- The reference's View: its inner loop: walked. -/
namespace Go.Proofs.YtppjbnnnppffaaaGreatDoor
set_option linter.unusedSimpArgs false
set_option linter.unusedVariables false
open Go.RowKit Go.Sort

/-- The bodies of all loops, in the order of the text. -/
def loopsOf : Code → List Code
  | .loop c => c :: loopsOf c
  | .seq a b => loopsOf a ++ loopsOf b
  | .block _ c => loopsOf c
  | .scope c => loopsOf c
  | .cond _ a b => loopsOf a ++ loopsOf b
  | _ => []
noncomputable def rviewBody (i : Nat) : Code := ((Tryz.f61.body.map loopsOf).getD []).getD i .skip
/-- What a part writes in a bar of the first notes. -/
def barK (p : Pa) (b : Ba) (L : List No) (m : Nat) : List Wr := (inBar b (L.take m)).map (writtenW p b)
theorem barK_succ {p : Pa} {b : Ba} {L : List No} {m : Nat} (h : m < L.length) : barK p b L (m + 1) = if L[m].bar = b.id then barK p b L m ++ [writtenW p b L[m]] else barK p b L m := by
  unfold barK
  rw [List.take_succ_eq_append_getElem h]
  unfold inBar
  rw [List.filter_append, List.map_append]
  by_cases h : L[m].bar = b.id <;> simp [h]
theorem barK_len (p : Pa) (b : Ba) (L : List No) (m : Nat) : (barK p b L m).length ≤ m := by
  unfold barK
  rw [List.length_map]; unfold inBar
  exact Nat.le_trans (List.length_filter_le _ _) (by rw [List.length_take]; exact Nat.min_le_left _ _)
/-- What the inner loop of View leaves alone. -/
structure RVC (p : Pa) (b : Ba) (L : List No) (sS sP mb k bb boff nb cb : Nat) (al : Option Addr) (K1 : Int) (wo : World) : Prop where
  part : wo.heap[sP]? = some (.cells #[.int .i64 p.id, .int .i64 p.section_, .int .i64 p.of, .int .i64 p.octave, .int .i64 p.desks, .int .i64 p.shift.x, .int .i64 p.shift.y, .int .i64 p.low.s, .int .i64 p.low.a, .int .i64 p.low.o, .int .i64 p.high.s, .int .i64 p.high.a, .int .i64 p.high.o] 59)
  sc : wo.cell? ⟨sS, 1, none⟩ = some (.slice (some ⟨bb, boff, none⟩) nb cb)
  hk : k < nb
  c0 : wo.cell? ⟨bb, boff + k * 4, none⟩ = some (.int .i64 b.id)
  c3 : wo.cell? ⟨bb, boff + k * 4 + 3, none⟩ = some (.int .i64 b.key)
  m : wo.heap[mb]? = some (.cells #[.int .i64 b.id, .int .i64 K1, .int .i64 b.len.n, .int .i64 b.len.d, .slice none 0 0] 65)
  l : NoAt wo al L
  few : L.length ≤ 1000
  nb1 : nb ≤ 1000
  ne : sP ≠ mb ∧ sS ≠ mb ∧ bb ≠ mb
set_option maxRecDepth 1000000 in
set_option maxHeartbeats 8000000 in
theorem rview2_any {p : Pa} {b : Ba} {L : List No} {sS sP mb k bb boff nb cb : Nat} {al : Option Addr} {K1 : Int} {wo : World} (X : RVC p b L sS sP mb k bb boff nb cb al K1 wo) (capl : Nat)
    {s0 s1 s4 s5 s10 s11 s12 s13 s14 s15 s16 s17 s18 s19 s20 s21 s22 s23 s24 s25 s26 s27 s28 s29 s30 s31 s32 s33 s34 s35 s36 s37 s38 s39 s40 s41 s42 s43 s44 s45 s46 s47 s48 s49 s50 s51 s52 s53 s54 s55 s56 s57 s58 s59 s60 s61 s62 s63 s64 s65 s66 s67 s68 s69 s70 s71 s72 s73 s74 s75 s76 s77 s78 s79 s80 s81 s82 s83 s84 s85 s86 s87 s88 s89 s90 s91 s92 s93 s94 s95 s96 s97 s98 s99 s100 s101 s102 s103 s104 : Value} (Q : Exit → Act → World → Prop)
    (hexit : ∀ (t9 t10 t11 t32 t33 t34 t35 t36 t37 t38 t39 t40 t41 t42 t43 t44 t45 t46 t47 t48 t49 t50 t51 t52 t53 t54 t55 t56 t57 t58 t59 t60 t61 t62 t63 t64 t65 t66 t67 t68 t69 t70 t71 t72 t73 t74 t75 t76 t77 t78 t79 t80 t81 t82 t83 t84 t85 t86 t87 t88 t89 t90 t91 t92 t93 t94 t95 t96 t97 : Value) (W' : World) (vn : Value), W'.heap[mb]? = some (.cells #[.int .i64 b.id, .int .i64 K1, .int .i64 b.len.n, .int .i64 b.len.d, vn] 65) → OwnR W' wo.heap.size 68 10 vn ((barK p b L L.length).map Wr.cells) → KeepB wo.heap.size [mb] wo W' → Q (.exit 2) ⟨(List.toArray (s0 :: s1 :: .pointer (some ⟨sS, 0, none⟩) :: .pointer (some ⟨sP, 0, none⟩) :: s4 :: s5 :: .slice al L.length capl :: .int .i64 (k : Int) :: .pointer (some ⟨mb, 0, none⟩) :: t9 :: t10 :: t11 :: s12 :: s13 :: s14 :: s15 :: s16 :: s17 :: s18 :: s19 :: s20 :: s21 :: s22 :: s23 :: s24 :: s25 :: s26 :: s27 :: s28 :: s29 :: s30 :: s31 :: t32 :: t33 :: t34 :: t35 :: t36 :: t37 :: t38 :: t39 :: t40 :: t41 :: t42 :: t43 :: t44 :: t45 :: t46 :: t47 :: t48 :: t49 :: t50 :: t51 :: t52 :: t53 :: t54 :: t55 :: t56 :: t57 :: t58 :: t59 :: t60 :: t61 :: t62 :: t63 :: t64 :: t65 :: t66 :: t67 :: t68 :: t69 :: t70 :: t71 :: t72 :: t73 :: t74 :: t75 :: t76 :: t77 :: t78 :: t79 :: t80 :: t81 :: t82 :: t83 :: t84 :: t85 :: t86 :: t87 :: t88 :: t89 :: t90 :: t91 :: t92 :: t93 :: t94 :: t95 :: t96 :: t97 :: s98 :: s99 :: s100 :: s101 :: s102 :: s103 :: s104 :: List.nil)), []⟩ W') :
    Code.wp Tryz.prog (Code.loop (rviewBody 1)) Q ⟨(List.toArray (s0 :: s1 :: .pointer (some ⟨sS, 0, none⟩) :: .pointer (some ⟨sP, 0, none⟩) :: s4 :: s5 :: .slice al L.length capl :: .int .i64 (k : Int) :: .pointer (some ⟨mb, 0, none⟩) :: .int .i64 0 :: s10 :: s11 :: s12 :: s13 :: s14 :: s15 :: s16 :: s17 :: s18 :: s19 :: s20 :: s21 :: s22 :: s23 :: s24 :: s25 :: s26 :: s27 :: s28 :: s29 :: s30 :: s31 :: s32 :: s33 :: s34 :: s35 :: s36 :: s37 :: s38 :: s39 :: s40 :: s41 :: s42 :: s43 :: s44 :: s45 :: s46 :: s47 :: s48 :: s49 :: s50 :: s51 :: s52 :: s53 :: s54 :: s55 :: s56 :: s57 :: s58 :: s59 :: s60 :: s61 :: s62 :: s63 :: s64 :: s65 :: s66 :: s67 :: s68 :: s69 :: s70 :: s71 :: s72 :: s73 :: s74 :: s75 :: s76 :: s77 :: s78 :: s79 :: s80 :: s81 :: s82 :: s83 :: s84 :: s85 :: s86 :: s87 :: s88 :: s89 :: s90 :: s91 :: s92 :: s93 :: s94 :: s95 :: s96 :: s97 :: s98 :: s99 :: s100 :: s101 :: s102 :: s103 :: s104 :: List.nil)), []⟩ wo := by
  have HX := Lib.hid X; have HQ := Lib.hid hexit
  have hL := X.few; have hk := X.hk; have hnb := X.nb1
  have hmb := lt_blk X.m
  clear X hexit
  conv => arg 2; arg 1; whnf
  go_loopw [9] (fun i wi => ∃ (m : Nat) (vn : Value), m ≤ L.length ∧ i = .int .i64 m ∧ wi.heap[mb]? = some (.cells #[.int .i64 b.id, .int .i64 K1, .int .i64 b.len.n, .int .i64 b.len.d, vn] 65) ∧ OwnR wi wo.heap.size 68 10 vn ((barK p b L m).map Wr.cells) ∧ KeepB wo.heap.size [mb] wo wi) (fun i _ => L.length - (intOf i).toNat)
  case atStart => exact ⟨0, _, Nat.zero_le _, rfl, HX.out.m, (by rw [show barK p b L 0 = [] by simp [barK, inBar]]; exact OwnR.nil _ _ _ _), KeepB.refl _ _ _⟩
  case round =>
    obtain ⟨m, vn, hm, rfl, xm, hon, hki⟩ := hrel
    have hne := HX.out.ne
    have HZ2 := Lib.hid (hki.at_ HX.out.part (lt_blk HX.out.part) (by simp; exact hne.1))
    have HM := Lib.hid xm; have HOn := Lib.hid hon; have HKi := Lib.hid hki
    clear xm hon hki
    have hcell : ∀ c j u, c ≠ mb → wo.cell? ⟨c, j, none⟩ = some u → wr.cell? ⟨c, j, none⟩ = some u := fun c j u h2 h => (World.cell?_of_block (HKi.out.block c (lt_cell h) (by simp; exact h2))).trans h
    have gs := hcell _ _ _ hne.2.1 HX.out.sc
    have g0 := hcell _ _ _ hne.2.2 HX.out.c0
    have g3 := hcell _ _ _ hne.2.2 HX.out.c3
    by_cases hlt2 : m < L.length
    · obtain ⟨lb, loff, hqa, hll, d0, d1, d2, d3, d4, d5, d6, d7, d8, d9, d10, d11⟩ := HX.out.l.get m hlt2
      have hlm : lb ≠ mb := by
        have := HX.out.l
        rw [hqa] at this
        exact SlAt.small this (by intro e; have := congrArg List.length e; rw [List.length_map, List.length_nil] at this; omega) HX.out.m (by simp)
      have hlow : lb < wo.heap.size := hll
      have e0 := hcell _ _ _ hlm d0; have e2 := hcell _ _ _ hlm d2; have e3 := hcell _ _ _ hlm d3; have e4 := hcell _ _ _ hlm d4; have e5 := hcell _ _ _ hlm d5; have e6 := hcell _ _ _ hlm d6; have e7 := hcell _ _ _ hlm d7; have e8 := hcell _ _ _ hlm d8; have e9 := hcell _ _ _ hlm d9; have e10 := hcell _ _ _ hlm d10; have e11 := hcell _ _ _ hlm d11
      have HSt := Lib.hid (barK_succ (p := p) (b := b) hlt2)
      have HLen := Lib.hid (barK_len p b L m)
      clear d0 d1 d2 d3 d4 d5 d6 d7 d8 d9 d10 d11 hcell
      subst hqa
      generalize L[m] = n at *
      generalize barK p b L m = ns at *
      by_cases hbar : n.bar = b.id
      case neg =>
        have hd : (n.bar != b.id) = true := by simpa using hbar
        have HS2 := Lib.hid (by have := HSt.out; rwa [if_neg hbar] at this)
        clear hbar
        go_wp2
        go_quiet (fail)
        go_wp2
        exact ⟨⟨m + 1, vn, by omega, by go_num, HM.out, by rw [HS2.out]; exact HOn.out.below (below_drewN (Below.refl _ _) nq), HKi.out.andBelow (below_drewN (Below.refl _ _) nq) HKi.out.size⟩, by simp [intOf]; omega⟩
      have hd : (n.bar != b.id) = false := by simpa using hbar
      have HS2 := Lib.hid (by have := HSt.out; rwa [if_pos hbar] at this)
      clear hbar
      have HWr := Lib.hid (fun W => R13Write_any p b.key n.pitch W)
      obtain ⟨⟨r1, r2, r3⟩, hR⟩ : ∃ R, (writeR p b.key n.pitch).1 = R := ⟨_, rfl⟩
      have HWn := Lib.hid (show writtenW p b n = ⟨n.id, n.voice, n.ossia, n.start, n.len, ⟨r1, r2, r3⟩⟩ by unfold writtenW; rw [hR])
      rw [hR] at HWr
      simp only at HWr
      clear hR
      generalize (writeR p b.key n.pitch).2 = r4 at *
      generalize writtenW p b n = wn at *
      go_wp2
      go_quiet (fail)
      have HLt := Lib.hid (show sP < wr.heap.size ∧ sS < wr.heap.size ∧ bb < wr.heap.size ∧ lb < wr.heap.size ∧ mb < wr.heap.size from ⟨lt_blk HZ2.out, lt_cell gs, lt_cell g0, lt_cell e0, lt_blk HM.out⟩)
      replace HZ2 := Lib.hid (blk_keep HZ2.out (below_drewN (Below.refl _ _) nq)); replace HM := Lib.hid (blk_keep HM.out (below_drewN (Below.refl _ _) nq))
      replace gs := keepE gs (below_drewN (Below.refl _ _) nq); replace g0 := keepE g0 (below_drewN (Below.refl _ _) nq); replace g3 := keepE g3 (below_drewN (Below.refl _ _) nq)
      replace e0 := keepE e0 (below_drewN (Below.refl _ _) nq); replace e3 := keepE e3 (below_drewN (Below.refl _ _) nq); replace e4 := keepE e4 (below_drewN (Below.refl _ _) nq); replace e5 := keepE e5 (below_drewN (Below.refl _ _) nq); replace e6 := keepE e6 (below_drewN (Below.refl _ _) nq); replace e7 := keepE e7 (below_drewN (Below.refl _ _) nq); replace e8 := keepE e8 (below_drewN (Below.refl _ _) nq); replace e9 := keepE e9 (below_drewN (Below.refl _ _) nq); replace e10 := keepE e10 (below_drewN (Below.refl _ _) nq); replace e11 := keepE e11 (below_drewN (Below.refl _ _) nq)
      replace HOn := Lib.hid (HOn.out.below (below_drewN (Below.refl _ _) nq)); replace HKi := Lib.hid (HKi.out.andBelow (below_drewN (Below.refl _ _) nq) HKi.out.size)
      replace HLt := Lib.hid (show sP < (wr.drewN nq).heap.size ∧ sS < (wr.drewN nq).heap.size ∧ bb < (wr.drewN nq).heap.size ∧ lb < (wr.drewN nq).heap.size ∧ mb < (wr.drewN nq).heap.size from HLt.out)
      clear e2
      generalize wr.drewN nq = W1 at *
      obtain ⟨hlt1, hlt3, hlt4, hlt5, hlt6⟩ := HLt.out
      go_upto_region 11 with (fail)
      go_cut [10, 11] from 50 to 65 (fun s10 s11 W => ∃ pb, s10 = .pointer (some ⟨pb, 0, none⟩) ∧ W1.heap.size ≤ pb ∧ W.heap[pb]? = some (.cells #[.int .i64 r1, .int .i64 r2, .int .i64 r3] 57) ∧ Below W1.heap.size W1 W)
      case first =>
        have HBr := Lib.hid (Below.refl W1.heap.size W1)
        go_region_held3 (fun W => (W.cell? ⟨sP, 0, none⟩ = some (.int .i64 p.id) ∧ W.cell? ⟨sP, 1, none⟩ = some (.int .i64 p.section_) ∧ W.cell? ⟨sP, 2, none⟩ = some (.int .i64 p.of) ∧ W.cell? ⟨sP, 3, none⟩ = some (.int .i64 p.octave) ∧ W.cell? ⟨sP, 4, none⟩ = some (.int .i64 p.desks) ∧ W.cell? ⟨sP, 5, none⟩ = some (.int .i64 p.shift.x) ∧ W.cell? ⟨sP, 6, none⟩ = some (.int .i64 p.shift.y) ∧ W.cell? ⟨sP, 7, none⟩ = some (.int .i64 p.low.s) ∧ W.cell? ⟨sP, 8, none⟩ = some (.int .i64 p.low.a) ∧ W.cell? ⟨sP, 9, none⟩ = some (.int .i64 p.low.o) ∧ W.cell? ⟨sP, 10, none⟩ = some (.int .i64 p.high.s) ∧ W.cell? ⟨sP, 11, none⟩ = some (.int .i64 p.high.a) ∧ W.cell? ⟨sP, 12, none⟩ = some (.int .i64 p.high.o)) ∧ W.cell? ⟨sS, 1, none⟩ = some (.slice (some ⟨bb, boff, none⟩) nb cb) ∧ W.cell? ⟨bb, boff + k * 4 + 3, none⟩ = some (.int .i64 b.key) ∧ W.cell? ⟨lb, loff + m * 12 + 9, none⟩ = some (.int .i64 n.pitch.s) ∧ W.cell? ⟨lb, loff + m * 12 + 10, none⟩ = some (.int .i64 n.pitch.a) ∧ W.cell? ⟨lb, loff + m * 12 + 11, none⟩ = some (.int .i64 n.pitch.o))
          (first | with_reducible exact ⟨paC (blk_keep HZ2.out (box_drew _)), keepE gs (box_drew _), keepE g3 (box_drew _), keepE e9 (box_drew _), keepE e10 (box_drew _), keepE e11 (box_drew _)⟩ | with_reducible exact ⟨paC (up_alloc HZ2.out _), keepE gs (below_box _), keepE g3 (below_box _), keepE e9 (below_box _), keepE e10 (below_box _), keepE e11 (below_box _)⟩ | with_reducible exact ⟨paC (keep3 HZ2.out (by omega)), cell3_far gs (by omega), cell3_far g3 (by omega), cell3_far e9 (by omega), cell3_far e10 (by omega), cell3_far e11 (by omega)⟩ | exact ⟨paC HZ2.out, gs, g3, e9, e10, e11⟩ | go_keep)
          ((go_at_call 110; refine (HWr.out _).mono ?_; rintro e w5 ⟨rfl, hb⟩; (try replace hb := drewB hb); (first | (have x0 := box_below hb; have HX9 := Lib.hid x0; have hc9 := box_cells x0; have hf9 := box_free x0; have hz9 := lt_blk x0; clear x0; replace hb := allocB hb) | skip); (try replace hb := drewB hb); replace HBr := Lib.hid (HBr.out.trans (hb.mono HBr.out.size)); replace HZ2 := Lib.hid (blk_keep HZ2.out hb); replace gs := keepE gs hb; replace g3 := keepE g3 hb; replace e9 := keepE e9 hb; replace e10 := keepE e10 hb; replace e11 := keepE e11 hb; clear hb))
        · go_wp2
          go_meet
          case rel => exact ⟨_, rfl, HBr.out.size, heap_alloc_new _ _, HBr.out.alloc HBr.out.size _⟩
        · go_wp2
          go_meet
          case rel => exact ⟨_, rfl, Nat.le_refl _, set3 HX9.out, set3_below HBr.out (Nat.le_refl _)⟩
      case rest =>
        obtain ⟨pb, rfl, hpb, xp, hbp⟩ := hcut
        have HPb := Lib.hid xp
        replace HZ2 := Lib.hid (blk_keep HZ2.out hbp); replace HM := Lib.hid (blk_keep HM.out hbp)
        replace e0 := keepE e0 hbp; replace e3 := keepE e3 hbp; replace e4 := keepE e4 hbp; replace e5 := keepE e5 hbp; replace e6 := keepE e6 hbp; replace e7 := keepE e7 hbp; replace e8 := keepE e8 hbp
        have HOb := Lib.hid (fun j (hj : vn.ownBlock = some j) => (HOn.out.lt j hj).2)
        replace HOn := Lib.hid (HOn.out.below hbp); replace HKi := Lib.hid (HKi.out.andBelow hbp HKi.out.size)
        clear xp hbp gs g0 g3 e9 e10 e11 HZ2 HWr
        have hlen := HLen.out
        have hksz := HKi.out.size
        go_upto_region 12 with (fail)
        have hlb : lb < wo.heap.size := hlow
        have hpl : pb < wc.heap.size := lt_blk HPb.out
        have hvp : ∀ j, vn.ownBlock = some j → j < W1.heap.size := HOb.out
        refine wp_region_noPanic ?_
        refine wp_region_held_drew (S := fun w' => w'.heap[pb]? = some (.cells #[.int .i64 r1, .int .i64 r2, .int .i64 r3] 57) ∧ w'.cell? ⟨lb, loff + m * 12, none⟩ = some (.int .i64 n.id) ∧ w'.cell? ⟨lb, loff + m * 12 + 3, none⟩ = some (.int .i64 n.voice) ∧ w'.cell? ⟨lb, loff + m * 12 + 4, none⟩ = some (.int .i64 n.ossia) ∧ w'.cell? ⟨lb, loff + m * 12 + 5, none⟩ = some (.int .i64 n.start.n) ∧ w'.cell? ⟨lb, loff + m * 12 + 6, none⟩ = some (.int .i64 n.start.d) ∧ w'.cell? ⟨lb, loff + m * 12 + 7, none⟩ = some (.int .i64 n.len.n) ∧ w'.cell? ⟨lb, loff + m * 12 + 8, none⟩ = some (.int .i64 n.len.d)) (by kernel_rfl) ⟨HPb.out, e0, e3, e4, e5, e6, e7, e8⟩ (fun hHeld => ?_)
        (refine wpAnyH_take1 0 (oi := ?_) (v := ?_) ?_ (by kernel_rfl) (by kernel_rfl) (by kernel_rfl) (by assumption) ?_ ?_ ?_; rotate_left 2; (· simp only [List.getElem?_toArray, List.getElem?_cons_succ, List.getElem?_cons_zero]; try rfl); (· refine ⟨by kernel_rfl, ?_⟩; intro wq hSw; obtain ⟨y2, z0, z3, z4, z5, z6, z7, z8⟩ := hSw; have hy := box_cells y2; go_simp; first | done | with_reducible rfl); (· exact fun _ _ _ h => h); try simp only [Act.put, List.setIfInBounds_toArray, List.set_cons_zero, List.set_cons_succ])
        (refine wpAnyH_take1 2 (oi := ?_) (v := ?_) ?_ (by kernel_rfl) (by kernel_rfl) (by kernel_rfl) (by assumption) ?_ ?_ ?_; rotate_left 2; (· simp only [List.getElem?_toArray, List.getElem?_cons_succ, List.getElem?_cons_zero]; try rfl); (· refine ⟨by kernel_rfl, ?_⟩; intro wq hSw; obtain ⟨y2, z0, z3, z4, z5, z6, z7, z8⟩ := hSw; have hy := box_cells y2; go_simp; first | done | with_reducible rfl); (· exact fun _ _ _ h => h); try simp only [Act.put, List.setIfInBounds_toArray, List.set_cons_zero, List.set_cons_succ])
        (refine wpAnyH_take1 3 (oi := ?_) (v := ?_) ?_ (by kernel_rfl) (by kernel_rfl) (by kernel_rfl) (by assumption) ?_ ?_ ?_; rotate_left 2; (· simp only [List.getElem?_toArray, List.getElem?_cons_succ, List.getElem?_cons_zero]; try rfl); (· refine ⟨by kernel_rfl, ?_⟩; intro wq hSw; obtain ⟨y2, z0, z3, z4, z5, z6, z7, z8⟩ := hSw; have hy := box_cells y2; go_simp; first | done | with_reducible rfl); (· exact fun _ _ _ h => h); try simp only [Act.put, List.setIfInBounds_toArray, List.set_cons_zero, List.set_cons_succ])
        (refine wpAnyH_take1 4 (oi := ?_) (v := ?_) ?_ (by kernel_rfl) (by kernel_rfl) (by kernel_rfl) (by assumption) ?_ ?_ ?_; rotate_left 2; (· simp only [List.getElem?_toArray, List.getElem?_cons_succ, List.getElem?_cons_zero]; try rfl); (· refine ⟨by kernel_rfl, ?_⟩; intro wq hSw; obtain ⟨y2, z0, z3, z4, z5, z6, z7, z8⟩ := hSw; have hy := box_cells y2; go_simp; first | done | with_reducible rfl); (· exact fun _ _ _ h => h); try simp only [Act.put, List.setIfInBounds_toArray, List.set_cons_zero, List.set_cons_succ])
        (refine wpAnyH_take1 5 (oi := ?_) (v := ?_) ?_ (by kernel_rfl) (by kernel_rfl) (by kernel_rfl) (by assumption) ?_ ?_ ?_; rotate_left 2; (· simp only [List.getElem?_toArray, List.getElem?_cons_succ, List.getElem?_cons_zero]; try rfl); (· refine ⟨by kernel_rfl, ?_⟩; intro wq hSw; obtain ⟨y2, z0, z3, z4, z5, z6, z7, z8⟩ := hSw; have hy := box_cells y2; go_simp; first | done | with_reducible rfl); (· exact fun _ _ _ h => h); try simp only [Act.put, List.setIfInBounds_toArray, List.set_cons_zero, List.set_cons_succ])
        (refine wpAnyH_take1 6 (oi := ?_) (v := ?_) ?_ (by kernel_rfl) (by kernel_rfl) (by kernel_rfl) (by assumption) ?_ ?_ ?_; rotate_left 2; (· simp only [List.getElem?_toArray, List.getElem?_cons_succ, List.getElem?_cons_zero]; try rfl); (· refine ⟨by kernel_rfl, ?_⟩; intro wq hSw; obtain ⟨y2, z0, z3, z4, z5, z6, z7, z8⟩ := hSw; have hy := box_cells y2; go_simp; first | done | with_reducible rfl); (· exact fun _ _ _ h => h); try simp only [Act.put, List.setIfInBounds_toArray, List.set_cons_zero, List.set_cons_succ])
        (refine wpAnyH_take1 7 (oi := ?_) (v := ?_) ?_ (by kernel_rfl) (by kernel_rfl) (by kernel_rfl) (by assumption) ?_ ?_ ?_; rotate_left 2; (· simp only [List.getElem?_toArray, List.getElem?_cons_succ, List.getElem?_cons_zero]; try rfl); (· refine ⟨by kernel_rfl, ?_⟩; intro wq hSw; obtain ⟨y2, z0, z3, z4, z5, z6, z7, z8⟩ := hSw; have hy := box_cells y2; go_simp; first | done | with_reducible rfl); (· exact fun _ _ _ h => h); try simp only [Act.put, List.setIfInBounds_toArray, List.set_cons_zero, List.set_cons_succ])
        (refine wpAnyH_take1 8 (oi := ?_) (v := ?_) ?_ (by kernel_rfl) (by kernel_rfl) (by kernel_rfl) (by assumption) ?_ ?_ ?_; rotate_left 2; (· simp only [List.getElem?_toArray, List.getElem?_cons_succ, List.getElem?_cons_zero]; try rfl); (· refine ⟨by kernel_rfl, ?_⟩; intro wq hSw; obtain ⟨y2, z0, z3, z4, z5, z6, z7, z8⟩ := hSw; have hy := box_cells y2; go_simp; first | done | with_reducible rfl); (· exact fun _ _ _ h => h); try simp only [Act.put, List.setIfInBounds_toArray, List.set_cons_zero, List.set_cons_succ])
        (refine wpAnyH_take1 9 (oi := ?_) (v := ?_) ?_ (by kernel_rfl) (by kernel_rfl) (by kernel_rfl) (by assumption) ?_ ?_ ?_; rotate_left 2; (· simp only [List.getElem?_toArray, List.getElem?_cons_succ, List.getElem?_cons_zero]; try rfl); (· refine ⟨by kernel_rfl, ?_⟩; intro wq hSw; obtain ⟨y2, z0, z3, z4, z5, z6, z7, z8⟩ := hSw; have hy := box_cells y2; go_simp; first | done | with_reducible rfl); (· exact fun _ _ _ h => h); try simp only [Act.put, List.setIfInBounds_toArray, List.set_cons_zero, List.set_cons_succ])
        (refine wpAnyH_take1 10 (oi := ?_) (v := ?_) ?_ (by kernel_rfl) (by kernel_rfl) (by kernel_rfl) (by assumption) ?_ ?_ ?_; rotate_left 2; (· simp only [List.getElem?_toArray, List.getElem?_cons_succ, List.getElem?_cons_zero]; try rfl); (· refine ⟨by kernel_rfl, ?_⟩; intro wq hSw; obtain ⟨y2, z0, z3, z4, z5, z6, z7, z8⟩ := hSw; have hy := box_cells y2; go_simp; first | done | with_reducible rfl); (· exact fun _ _ _ h => h); try simp only [Act.put, List.setIfInBounds_toArray, List.set_cons_zero, List.set_cons_succ])
        (refine wpAnyH_take1 11 (oi := ?_) (v := ?_) ?_ (by kernel_rfl) (by kernel_rfl) (by kernel_rfl) (by assumption) ?_ ?_ ?_; rotate_left 2; (· simp only [List.getElem?_toArray, List.getElem?_cons_succ, List.getElem?_cons_zero]; try rfl); (· refine ⟨by kernel_rfl, ?_⟩; intro wq hSw; obtain ⟨y2, z0, z3, z4, z5, z6, z7, z8⟩ := hSw; have hy := box_cells y2; go_simp; first | done | with_reducible rfl); (· exact fun _ _ _ h => h); try simp only [Act.put, List.setIfInBounds_toArray, List.set_cons_zero, List.set_cons_succ])
        (refine wpAnyH_take1 12 (oi := ?_) (v := ?_) ?_ (by kernel_rfl) (by kernel_rfl) (by kernel_rfl) (by assumption) ?_ ?_ ?_; rotate_left 2; (· simp only [List.getElem?_toArray, List.getElem?_cons_succ, List.getElem?_cons_zero]; try rfl); (· refine ⟨by kernel_rfl, ?_⟩; intro wq hSw; obtain ⟨y2, z0, z3, z4, z5, z6, z7, z8⟩ := hSw; have hy := box_cells y2; go_simp; first | done | with_reducible rfl); (· exact fun _ _ _ h => h); try simp only [Act.put, List.setIfInBounds_toArray, List.set_cons_zero, List.set_cons_succ])
        (refine wpAnyH_take1 13 (oi := ?_) (v := ?_) ?_ (by kernel_rfl) (by kernel_rfl) (by kernel_rfl) (by assumption) ?_ ?_ ?_; rotate_left 2; (· simp only [List.getElem?_toArray, List.getElem?_cons_succ, List.getElem?_cons_zero]; try rfl); (· refine ⟨by kernel_rfl, ?_⟩; intro wq hSw; obtain ⟨y2, z0, z3, z4, z5, z6, z7, z8⟩ := hSw; have hy := box_cells y2; go_simp; first | done | with_reducible rfl); (· exact fun _ _ _ h => h); try simp only [Act.put, List.setIfInBounds_toArray, List.set_cons_zero, List.set_cons_succ])
        (refine wpAnyH_take1 14 (oi := ?_) (v := ?_) ?_ (by kernel_rfl) (by kernel_rfl) (by kernel_rfl) (by assumption) ?_ ?_ ?_; rotate_left 2; (· simp only [List.getElem?_toArray, List.getElem?_cons_succ, List.getElem?_cons_zero]; try rfl); (· refine ⟨by kernel_rfl, ?_⟩; intro wq hSw; obtain ⟨y2, z0, z3, z4, z5, z6, z7, z8⟩ := hSw; have hy := box_cells y2; go_simp; first | done | with_reducible rfl); (· exact fun _ _ _ h => h); try simp only [Act.put, List.setIfInBounds_toArray, List.set_cons_zero, List.set_cons_succ])
        (refine wpAnyH_take1 15 (oi := ?_) (v := ?_) ?_ (by kernel_rfl) (by kernel_rfl) (by kernel_rfl) (by assumption) ?_ ?_ ?_; rotate_left 2; (· simp only [List.getElem?_toArray, List.getElem?_cons_succ, List.getElem?_cons_zero]; try rfl); (· refine ⟨by kernel_rfl, ?_⟩; intro wq hSw; obtain ⟨y2, z0, z3, z4, z5, z6, z7, z8⟩ := hSw; have hy := box_cells y2; go_simp; first | done | with_reducible rfl); (· exact fun _ _ _ h => h); try simp only [Act.put, List.setIfInBounds_toArray, List.set_cons_zero, List.set_cons_succ])
        (refine wpAnyH_take1 16 (oi := ?_) (v := ?_) ?_ (by kernel_rfl) (by kernel_rfl) (by kernel_rfl) (by assumption) ?_ ?_ ?_; rotate_left 2; (· simp only [List.getElem?_toArray, List.getElem?_cons_succ, List.getElem?_cons_zero]; try rfl); (· refine ⟨by kernel_rfl, ?_⟩; intro wq hSw; obtain ⟨y2, z0, z3, z4, z5, z6, z7, z8⟩ := hSw; have hy := box_cells y2; go_simp; first | done | with_reducible rfl); (· exact fun _ _ _ h => h); try simp only [Act.put, List.setIfInBounds_toArray, List.set_cons_zero, List.set_cons_succ])
        (refine wpAnyH_take1 17 (oi := ?_) (v := ?_) ?_ (by kernel_rfl) (by kernel_rfl) (by kernel_rfl) (by assumption) ?_ ?_ ?_; rotate_left 2; (· simp only [List.getElem?_toArray, List.getElem?_cons_succ, List.getElem?_cons_zero]; try rfl); (· refine ⟨by kernel_rfl, ?_⟩; intro wq hSw; obtain ⟨y2, z0, z3, z4, z5, z6, z7, z8⟩ := hSw; have hy := box_cells y2; go_simp; first | done | with_reducible rfl); (· exact fun _ _ _ h => h); try simp only [Act.put, List.setIfInBounds_toArray, List.set_cons_zero, List.set_cons_succ])
        (refine wpAnyH_take1 18 (oi := ?_) (v := ?_) ?_ (by kernel_rfl) (by kernel_rfl) (by kernel_rfl) (by assumption) ?_ ?_ ?_; rotate_left 2; (· simp only [List.getElem?_toArray, List.getElem?_cons_succ, List.getElem?_cons_zero]; try rfl); (· refine ⟨by kernel_rfl, ?_⟩; intro wq hSw; obtain ⟨y2, z0, z3, z4, z5, z6, z7, z8⟩ := hSw; have hy := box_cells y2; go_simp; first | done | with_reducible rfl); (· exact fun _ _ _ h => h); try simp only [Act.put, List.setIfInBounds_toArray, List.set_cons_zero, List.set_cons_succ])
        (refine wpAnyH_take1 19 (oi := ?_) (v := ?_) ?_ (by kernel_rfl) (by kernel_rfl) (by kernel_rfl) (by assumption) ?_ ?_ ?_; rotate_left 2; (· simp only [List.getElem?_toArray, List.getElem?_cons_succ, List.getElem?_cons_zero]; try rfl); (· refine ⟨by kernel_rfl, ?_⟩; intro wq hSw; obtain ⟨y2, z0, z3, z4, z5, z6, z7, z8⟩ := hSw; have hy := box_cells y2; go_simp; first | done | with_reducible rfl); (· exact fun _ _ _ h => h); try simp only [Act.put, List.setIfInBounds_toArray, List.set_cons_zero, List.set_cons_succ])
        (refine wpAnyH_take1 20 (oi := ?_) (v := ?_) ?_ (by kernel_rfl) (by kernel_rfl) (by kernel_rfl) (by assumption) ?_ ?_ ?_; rotate_left 2; (· simp only [List.getElem?_toArray, List.getElem?_cons_succ, List.getElem?_cons_zero]; try rfl); (· refine ⟨by kernel_rfl, ?_⟩; intro wq hSw; obtain ⟨y2, z0, z3, z4, z5, z6, z7, z8⟩ := hSw; have hy := box_cells y2; go_simp; first | done | with_reducible rfl); (· exact fun _ _ _ h => h); try simp only [Act.put, List.setIfInBounds_toArray, List.set_cons_zero, List.set_cons_succ])
        (refine wpAnyH_take1 21 (oi := ?_) (v := ?_) ?_ (by kernel_rfl) (by kernel_rfl) (by kernel_rfl) (by assumption) ?_ ?_ ?_; rotate_left 2; (· simp only [List.getElem?_toArray, List.getElem?_cons_succ, List.getElem?_cons_zero]; try rfl); (· refine ⟨by kernel_rfl, ?_⟩; intro wq hSw; obtain ⟨y2, z0, z3, z4, z5, z6, z7, z8⟩ := hSw; have hy := box_cells y2; go_simp; first | done | with_reducible rfl); (· exact fun _ _ _ h => h); try simp only [Act.put, List.setIfInBounds_toArray, List.set_cons_zero, List.set_cons_succ])
        (refine wpAnyH_take1 22 (oi := ?_) (v := ?_) ?_ (by kernel_rfl) (by kernel_rfl) (by kernel_rfl) (by assumption) ?_ ?_ ?_; rotate_left 2; (· simp only [List.getElem?_toArray, List.getElem?_cons_succ, List.getElem?_cons_zero]; try rfl); (· refine ⟨by kernel_rfl, ?_⟩; intro wq hSw; obtain ⟨y2, z0, z3, z4, z5, z6, z7, z8⟩ := hSw; have hy := box_cells y2; go_simp; first | done | with_reducible rfl); (· exact fun _ _ _ h => h); try simp only [Act.put, List.setIfInBounds_toArray, List.set_cons_zero, List.set_cons_succ])
        (refine wpAnyH_take1 23 (oi := ?_) (v := ?_) ?_ (by kernel_rfl) (by kernel_rfl) (by kernel_rfl) (by assumption) ?_ ?_ ?_; rotate_left 2; (· simp only [List.getElem?_toArray, List.getElem?_cons_succ, List.getElem?_cons_zero]; try rfl); (· refine ⟨by kernel_rfl, ?_⟩; intro wq hSw; obtain ⟨y2, z0, z3, z4, z5, z6, z7, z8⟩ := hSw; have hy := box_cells y2; go_simp; first | done | with_reducible rfl); (· exact fun _ _ _ h => h); try simp only [Act.put, List.setIfInBounds_toArray, List.set_cons_zero, List.set_cons_succ])
        (refine wpAnyH_take1 24 (oi := ?_) (v := ?_) ?_ (by kernel_rfl) (by kernel_rfl) (by kernel_rfl) (by assumption) ?_ ?_ ?_; rotate_left 2; (· simp only [List.getElem?_toArray, List.getElem?_cons_succ, List.getElem?_cons_zero]; try rfl); (· refine ⟨by kernel_rfl, ?_⟩; intro wq hSw; obtain ⟨y2, z0, z3, z4, z5, z6, z7, z8⟩ := hSw; have hy := box_cells y2; go_simp; first | done | with_reducible rfl); (· exact fun _ _ _ h => h); try simp only [Act.put, List.setIfInBounds_toArray, List.set_cons_zero, List.set_cons_succ])
        (refine wpAnyH_take1 25 (oi := ?_) (v := ?_) ?_ (by kernel_rfl) (by kernel_rfl) (by kernel_rfl) (by assumption) ?_ ?_ ?_; rotate_left 2; (· simp only [List.getElem?_toArray, List.getElem?_cons_succ, List.getElem?_cons_zero]; try rfl); (· refine ⟨by kernel_rfl, ?_⟩; intro wq hSw; obtain ⟨y2, z0, z3, z4, z5, z6, z7, z8⟩ := hSw; have hy := box_cells y2; go_simp; first | done | with_reducible rfl); (· exact fun _ _ _ h => h); try simp only [Act.put, List.setIfInBounds_toArray, List.set_cons_zero, List.set_cons_succ])
        (refine wpAnyH_take1 26 (oi := ?_) (v := ?_) ?_ (by kernel_rfl) (by kernel_rfl) (by kernel_rfl) (by assumption) ?_ ?_ ?_; rotate_left 2; (· simp only [List.getElem?_toArray, List.getElem?_cons_succ, List.getElem?_cons_zero]; try rfl); (· refine ⟨by kernel_rfl, ?_⟩; intro wq hSw; obtain ⟨y2, z0, z3, z4, z5, z6, z7, z8⟩ := hSw; have hy := box_cells y2; go_simp; first | done | with_reducible rfl); (· exact fun _ _ _ h => h); try simp only [Act.put, List.setIfInBounds_toArray, List.set_cons_zero, List.set_cons_succ])
        (refine wpAnyH_take1 27 (oi := ?_) (v := ?_) ?_ (by kernel_rfl) (by kernel_rfl) (by kernel_rfl) (by assumption) ?_ ?_ ?_; rotate_left 2; (· simp only [List.getElem?_toArray, List.getElem?_cons_succ, List.getElem?_cons_zero]; try rfl); (· refine ⟨by kernel_rfl, ?_⟩; intro wq hSw; obtain ⟨y2, z0, z3, z4, z5, z6, z7, z8⟩ := hSw; have hy := box_cells y2; go_simp; first | done | with_reducible rfl); (· exact fun _ _ _ h => h); try simp only [Act.put, List.setIfInBounds_toArray, List.set_cons_zero, List.set_cons_succ])
        (refine wpAnyH_take1 28 (oi := ?_) (v := ?_) ?_ (by kernel_rfl) (by kernel_rfl) (by kernel_rfl) (by assumption) ?_ ?_ ?_; rotate_left 2; (· simp only [List.getElem?_toArray, List.getElem?_cons_succ, List.getElem?_cons_zero]; try rfl); (· refine ⟨by kernel_rfl, ?_⟩; intro wq hSw; obtain ⟨y2, z0, z3, z4, z5, z6, z7, z8⟩ := hSw; have hy := box_cells y2; go_simp; first | done | with_reducible rfl); (· exact fun _ _ _ h => h); try simp only [Act.put, List.setIfInBounds_toArray, List.set_cons_zero, List.set_cons_succ])
        have hm4 : wc.cell? ⟨mb, 4, none⟩ = some vn := box_cells HM.out 4
        replace HM := Lib.hid (show wc.drew.heap[mb]? = _ from HM.out); replace HOn := Lib.hid (HOn.out.below (Below.refl _ _).drew); replace HKi := Lib.hid (HKi.out.andBelow (Below.refl _ _).drew hksz)
        replace hm4 : wc.drew.cell? ⟨mb, 4, none⟩ = some vn := hm4
        replace hpl : pb < wc.drew.heap.size := hpl
        replace hksz : wo.heap.size ≤ wc.drew.heap.size := hksz
        have hml : mb < wc.drew.heap.size := lt_blk HM.out
        clear HPb e0 e3 e4 e5 e6 e7 e8
        generalize wc.drew = wd at *
        (refine wpAnyH_two (i := 1) (j := 29) (o := ?_) (o' := ?_) (by kernel_rfl) ?_ ?_ (fun K hK => ?_) (fun K hK => ?_); rotate_left 2; (· simp only [List.getElem?_toArray, List.getElem?_cons_succ, List.getElem?_cons_zero]; try rfl); (· simp only [List.getElem?_toArray, List.getElem?_cons_succ, List.getElem?_cons_zero]; try rfl))
        · go_simp
          refine hK.out _ _ hHeld (fun hHeld2 => ?_)
          clear hK K
          (try simp only [Act.put, List.setIfInBounds_toArray, List.set_cons_zero, List.set_cons_succ])
          (refine wpAnyH_call1 (i := 29) (o := ?_) (by kernel_rfl) ?_ (fun K hK => ?_); rotate_left 1; (· simp only [List.getElem?_toArray, List.getElem?_cons_succ, List.getElem?_cons_zero]; try rfl); go_simp)
          refine hK.out _ _ ⟨blk_keep hHeld.1 (below_box _), keepE hHeld.2.1 (below_box _), keepE hHeld.2.2.1 (below_box _), keepE hHeld.2.2.2.1 (below_box _), keepE hHeld.2.2.2.2.1 (below_box _), keepE hHeld.2.2.2.2.2.1 (below_box _), keepE hHeld.2.2.2.2.2.2.1 (below_box _), keepE hHeld.2.2.2.2.2.2.2 (below_box _)⟩ (fun hHeld3 => ?_)
          clear hK K
          (try simp only [Act.put, List.setIfInBounds_toArray, List.set_cons_zero, List.set_cons_succ]); (refine wpAnyH_call1 (i := 30) (o := ?_) (by kernel_rfl) ?_ (fun K hK => ?_); rotate_left 1; (· simp only [List.getElem?_toArray, List.getElem?_cons_succ, List.getElem?_cons_zero]; try rfl)); refine step_of rfl (oper_appR eltWr (.tmp 67) (.tmp 95) rfl wo.heap.size vn ns rfl (HOn.out.below (below_box _)) _ _ _ [wn] rfl rfl (fun e => by cases e) (eltWr.new _ wn _ _ (by rw [HWn.out]; rfl)) (by simp; omega) (by unfold maxLen; simp; omega) (Nat.le_trans hksz (below_box _).size) ?_); intro v2 w2 ho2 hg2; obtain ⟨a9, c9, e9, _, _⟩ := ho2.slAt; rw [show ((ns ++ [wn]).map Wr.cells).length = ns.length + 1 by simp] at e9; subst e9; have hpk := hg2.block pb (by simp; omega) (fun e => by have := hvp _ e.symm; omega); have hlk := hg2.block lb (by simp; omega) (fun e => by have := (HOn.out.lt _ e.symm).1; omega); have hkm := (hg2.block mb (by simp; omega) (HOn.out.neBlk hmb)).trans (up_alloc HM.out _); refine hK.out _ _ ⟨hpk.trans hHeld3.1, (World.cell?_of_block hlk).trans hHeld3.2.1, (World.cell?_of_block hlk).trans hHeld3.2.2.1, (World.cell?_of_block hlk).trans hHeld3.2.2.2.1, (World.cell?_of_block hlk).trans hHeld3.2.2.2.2.1, (World.cell?_of_block hlk).trans hHeld3.2.2.2.2.2.1, (World.cell?_of_block hlk).trans hHeld3.2.2.2.2.2.2.1, (World.cell?_of_block hlk).trans hHeld3.2.2.2.2.2.2.2⟩ (fun hHeld4 => ?_); clear hK K; (try simp only [Act.put, List.setIfInBounds_toArray, List.set_cons_zero, List.set_cons_succ]); ((refine wpAnyH_take1 31 (oi := ?_) (v := ?_) ?_ (by kernel_rfl) (by kernel_rfl) (by kernel_rfl) (by assumption) ?_ ?_ ?_; rotate_left 2; (· simp only [List.getElem?_toArray, List.getElem?_cons_succ, List.getElem?_cons_zero]; try rfl); (· refine ⟨by kernel_rfl, ?_⟩; intro wq hSw; skip; go_simp; first | done | with_reducible rfl); (· exact fun _ _ _ h => h); try simp only [Act.put, List.setIfInBounds_toArray, List.set_cons_zero, List.set_cons_succ])); have HKM := Lib.hid hkm; have hcm := box_cells hkm; have hfm := box_free hkm; have hzm := lt_blk hkm; have HO2 := Lib.hid ho2; have HG2 := Lib.hid hg2; clear ho2 hg2 hpk hlk; (refine wpAnyH_call1 (i := 32) (o := ?_) (by kernel_rfl) ?_ (fun K hK => ?_); rotate_left 1; (· simp only [List.getElem?_toArray, List.getElem?_cons_succ, List.getElem?_cons_zero]; try rfl); go_simp); refine hK.out _ _ ⟨set1_far hHeld4.1 (by omega) _, cell1_far hHeld4.2.1 hlm _, cell1_far hHeld4.2.2.1 hlm _, cell1_far hHeld4.2.2.2.1 hlm _, cell1_far hHeld4.2.2.2.2.1 hlm _, cell1_far hHeld4.2.2.2.2.2.1 hlm _, cell1_far hHeld4.2.2.2.2.2.2.1 hlm _, cell1_far hHeld4.2.2.2.2.2.2.2 hlm _⟩ (fun hHeld5 => ?_); clear hK K; refine wpAnyH_done (by kernel_rfl) ?_ _; refine NoPanic.normal ?_; clear hcm hfm hzm; have HOF := Lib.hid (HO2.out.setFar (b := mb) (j := 4) (fun j hj => by have h9 := (HO2.out.lt j hj).1; omega) (.slice a9 (ns.length + 1) c9)); go_wp2; refine ⟨⟨m + 1, _, by omega, by go_num, heap_setCell_same _ _ _ _ _ _ HKM.out, by rw [HS2.out]; exact HOF.out, ?_⟩, by simp [intOf]; omega⟩; refine KeepB.set ?_ (.inl (by simp)) _; exact (HKi.out.andBelow (below_box _) hksz).grown HG2.out (Nat.le_trans hksz (below_box _).size) (fun j e => (HOn.out.lt j e).1)
        · go_simp
          refine hK.out _ _ ⟨blk_keep hHeld.1 (below_box _), keepE hHeld.2.1 (below_box _), keepE hHeld.2.2.1 (below_box _), keepE hHeld.2.2.2.1 (below_box _), keepE hHeld.2.2.2.2.1 (below_box _), keepE hHeld.2.2.2.2.2.1 (below_box _), keepE hHeld.2.2.2.2.2.2.1 (below_box _), keepE hHeld.2.2.2.2.2.2.2 (below_box _)⟩ (fun hHeld2 => ?_)
          clear hK K
          (try simp only [Act.put, List.setIfInBounds_toArray, List.set_cons_zero, List.set_cons_succ])
          have hm5 := keepE hm4 (below_box (.cells #[.int .i64 n.id, .int .i64 n.voice, .int .i64 n.ossia, .int .i64 n.start.n, .int .i64 n.start.d, .int .i64 n.len.n, .int .i64 n.len.d, .int .i64 r1, .int .i64 r2, .int .i64 r3] 68))
          (refine wpAnyH_call1 (i := 1) (o := ?_) (by kernel_rfl) ?_ (fun K hK => ?_); rotate_left 1; (· simp only [List.getElem?_toArray, List.getElem?_cons_succ, List.getElem?_cons_zero]; try rfl); go_simp)
          refine hK.out _ _ hHeld2 (fun hHeld3 => ?_)
          clear hK K
          (try simp only [Act.put, List.setIfInBounds_toArray, List.set_cons_zero, List.set_cons_succ]); (refine wpAnyH_call1 (i := 30) (o := ?_) (by kernel_rfl) ?_ (fun K hK => ?_); rotate_left 1; (· simp only [List.getElem?_toArray, List.getElem?_cons_succ, List.getElem?_cons_zero]; try rfl)); refine step_of rfl (oper_appR eltWr (.tmp 67) (.tmp 95) rfl wo.heap.size vn ns rfl (HOn.out.below (below_box _)) _ _ _ [wn] rfl rfl (fun e => by cases e) (eltWr.new _ wn _ _ (by rw [HWn.out]; rfl)) (by simp; omega) (by unfold maxLen; simp; omega) (Nat.le_trans hksz (below_box _).size) ?_); intro v2 w2 ho2 hg2; obtain ⟨a9, c9, e9, _, _⟩ := ho2.slAt; rw [show ((ns ++ [wn]).map Wr.cells).length = ns.length + 1 by simp] at e9; subst e9; have hpk := hg2.block pb (by simp; omega) (fun e => by have := hvp _ e.symm; omega); have hlk := hg2.block lb (by simp; omega) (fun e => by have := (HOn.out.lt _ e.symm).1; omega); have hkm := (hg2.block mb (by simp; omega) (HOn.out.neBlk hmb)).trans (up_alloc HM.out _); refine hK.out _ _ ⟨hpk.trans hHeld3.1, (World.cell?_of_block hlk).trans hHeld3.2.1, (World.cell?_of_block hlk).trans hHeld3.2.2.1, (World.cell?_of_block hlk).trans hHeld3.2.2.2.1, (World.cell?_of_block hlk).trans hHeld3.2.2.2.2.1, (World.cell?_of_block hlk).trans hHeld3.2.2.2.2.2.1, (World.cell?_of_block hlk).trans hHeld3.2.2.2.2.2.2.1, (World.cell?_of_block hlk).trans hHeld3.2.2.2.2.2.2.2⟩ (fun hHeld4 => ?_); clear hK K; (try simp only [Act.put, List.setIfInBounds_toArray, List.set_cons_zero, List.set_cons_succ]); ((refine wpAnyH_take1 31 (oi := ?_) (v := ?_) ?_ (by kernel_rfl) (by kernel_rfl) (by kernel_rfl) (by assumption) ?_ ?_ ?_; rotate_left 2; (· simp only [List.getElem?_toArray, List.getElem?_cons_succ, List.getElem?_cons_zero]; try rfl); (· refine ⟨by kernel_rfl, ?_⟩; intro wq hSw; skip; go_simp; first | done | with_reducible rfl); (· exact fun _ _ _ h => h); try simp only [Act.put, List.setIfInBounds_toArray, List.set_cons_zero, List.set_cons_succ])); have HKM := Lib.hid hkm; have hcm := box_cells hkm; have hfm := box_free hkm; have hzm := lt_blk hkm; have HO2 := Lib.hid ho2; have HG2 := Lib.hid hg2; clear ho2 hg2 hpk hlk; (refine wpAnyH_call1 (i := 32) (o := ?_) (by kernel_rfl) ?_ (fun K hK => ?_); rotate_left 1; (· simp only [List.getElem?_toArray, List.getElem?_cons_succ, List.getElem?_cons_zero]; try rfl); go_simp); refine hK.out _ _ ⟨set1_far hHeld4.1 (by omega) _, cell1_far hHeld4.2.1 hlm _, cell1_far hHeld4.2.2.1 hlm _, cell1_far hHeld4.2.2.2.1 hlm _, cell1_far hHeld4.2.2.2.2.1 hlm _, cell1_far hHeld4.2.2.2.2.2.1 hlm _, cell1_far hHeld4.2.2.2.2.2.2.1 hlm _, cell1_far hHeld4.2.2.2.2.2.2.2 hlm _⟩ (fun hHeld5 => ?_); clear hK K; refine wpAnyH_done (by kernel_rfl) ?_ _; refine NoPanic.normal ?_; clear hcm hfm hzm; have HOF := Lib.hid (HO2.out.setFar (b := mb) (j := 4) (fun j hj => by have h9 := (HO2.out.lt j hj).1; omega) (.slice a9 (ns.length + 1) c9)); go_wp2; refine ⟨⟨m + 1, _, by omega, by go_num, heap_setCell_same _ _ _ _ _ _ HKM.out, by rw [HS2.out]; exact HOF.out, ?_⟩, by simp [intOf]; omega⟩; refine KeepB.set ?_ (.inl (by simp)) _; exact (HKi.out.andBelow (below_box _) hksz).grown HG2.out (Nat.le_trans hksz (below_box _).size) (fun j e => (HOn.out.lt j e).1)
    · obtain rfl : m = L.length := by omega
      go_wp2
      exact HQ.out _ _ _ _ _ _ _ _ _ _ _ _ _ _ _ _ _ _ _ _ _ _ _ _ _ _ _ _ _ _ _ _ _ _ _ _ _ _ _ _ _ _ _ _ _ _ _ _ _ _ _ _ _ _ _ _ _ _ _ _ _ _ _ _ _ _ _ _ _ wr vn HM.out HOn.out HKi.out
end Go.Proofs.YtppjbnnnppffaaaGreatDoor


/- The reference's SameMeasures, Same, Few on views: walked. -/
namespace Go.Proofs.YtppjbnnnppffaaaGreatDoor
set_option linter.unusedSimpArgs false
set_option linter.unusedVariables false
open Go.RowKit Go.Sort

theorem MeAt.get {w : World} {a : Option Addr} {l : List Me} (h : MeAt w a l) (i : Nat) (hi : i < l.length) : ∃ b off, a = some ⟨b, off, none⟩ ∧ b < w.heap.size ∧ w.cell? ⟨b, off + i * 5, none⟩ = some (.int .i64 l[i].bar) ∧ w.cell? ⟨b, off + i * 5 + 1, none⟩ = some (.int .i64 l[i].key) ∧ w.cell? ⟨b, off + i * 5 + 2, none⟩ = some (.int .i64 l[i].len.n) ∧ w.cell? ⟨b, off + i * 5 + 3, none⟩ = some (.int .i64 l[i].len.d) ∧ w.cell? ⟨b, off + i * 5 + 4, none⟩ = some (.slice l[i].na l[i].notes.length l[i].ncap) := by
  obtain ⟨b, off, e, hb, _, hc⟩ := h.at_ i l[i].cells (by simp [hi])
  exact ⟨b, off, e, hb, hc 0 _ rfl, hc 1 _ rfl, hc 2 _ rfl, hc 3 _ rfl, hc 4 _ rfl⟩
theorem says_ext {x y : Me} (h1 : x.bar = y.bar) (h2 : x.key = y.key) (h3 : x.len = y.len) (h4 : x.notes = y.notes) : x.says = y.says := by unfold Me.says; rw [h1, h2, h3, h4]
set_option maxRecDepth 100000 in
set_option maxHeartbeats 4000000 in
theorem RSameMs_any (a b : Option Addr) (cap cap' : Nat) (l r : List Me) (w : World) (hl : l.length ≤ 100000) (hl' : r.length ≤ 100000) (hn : ∀ m ∈ l, m.notes.length ≤ 100000) (hn' : ∀ m ∈ r, m.notes.length ≤ 100000) (ha : MeAt w a l) (hb : MeAt w b r) :
    Calls Tryz.prog 36 #[.slice a l.length cap, .slice b r.length cap'] w fun e w' => e = .returned (.bool (decide (l.map Me.says = r.map Me.says))) ∧ Below w.heap.size w w' := by
  by_cases hne : l.length = r.length
  case neg =>
    have h1 : ((l.length : Int) != (r.length : Int)) = true := by simp; omega
    go_enter Tryz.func36, Tryz.ntmps36
    go_wp2
    go_ret
    exact ⟨ret_bool (by simp; intro h; have := congrArg List.length h; simp at this; exact hne this), Below.refl _ _⟩
  have h1 : ((l.length : Int) != (r.length : Int)) = false := by simp [hne]
  have HNE := Lib.hid hne; clear hne
  have HA := Lib.hid ha; have HB2 := Lib.hid hb; have HN := Lib.hid hn; have HN' := Lib.hid hn'
  clear ha hb hn hn'
  go_enter Tryz.func36, Tryz.ntmps36
  go_wp2
  go_loopw [5] (fun i wr => ∃ k : Nat, k ≤ l.length ∧ i = .int .i64 k ∧ (l.map Me.says).take k = (r.map Me.says).take k ∧ Below w.heap.size w wr) (fun i _ => l.length - (intOf i).toNat)
  case atStart => exact ⟨0, Nat.zero_le _, rfl, rfl, Below.refl _ _⟩
  case round =>
    obtain ⟨k, hk, rfl, hall, hbw⟩ := hrel
    have H := Lib.hid hall; have HB := Lib.hid hbw; clear hall hbw
    by_cases hlt : k < l.length
    · have hlt' : k < r.length := by have := HNE.out; omega
      have hlm : k < (l.map Me.says).length := by simpa using hlt
      have hlm' : k < (r.map Me.says).length := by simpa using hlt'
      obtain ⟨b1, o1, hqa, _, c0, c1, c2, c3, c4⟩ := (HA.out.below HB.out).get k hlt
      obtain ⟨b2, o2, hqb, _, d0, d1, d2, d3, d4⟩ := (HB2.out.below HB.out).get k hlt'
      subst hqa; subst hqb
      have HS := Lib.hid (fun W (hb : Below w.heap.size w W) => RSameW_any l[k].na r[k].na l[k].ncap r[k].ncap l[k].notes r[k].notes W (HN.out _ (List.getElem_mem hlt)) (HN'.out _ (List.getElem_mem hlt')) ((HA.out.below hb).notes _ (List.getElem_mem hlt)) ((HB2.out.below hb).notes _ (List.getElem_mem hlt')))
      have HT := Lib.hid (fun hd : l[k].says = r[k].says => take_eq_succ (l.map Me.says) (r.map Me.says) k hlm hlm' H.out (by simpa using hd))
      have HNo := Lib.hid (fun hd : ¬ l[k].says = r[k].says => ne_at (l.map Me.says) (r.map Me.says) k hlm hlm' (by simpa using hd))
      have HSm := Lib.hid (fun W => r14same_any l[k].bar l[k].key l[k].len.n l[k].len.d r[k].bar r[k].key r[k].len.n r[k].len.d l[k].na r[k].na l[k].notes.length l[k].ncap r[k].notes.length r[k].ncap W)
      clear hlm hlm'
      generalize l[k] = X at *; generalize r[k] = Y at *
      obtain ⟨x1, x2, ⟨x3, x4⟩, x5, x6, x7⟩ := X
      obtain ⟨y1, y2, ⟨y3, y4⟩, y5, y6, y7⟩ := Y
      simp only at *
      have g0 := cell_regrown c0; have g1 := cell_regrown c1; have g2 := cell_regrown c2; have g3 := cell_regrown c3; have g4 := cell_regrown c4
      have k0 := cell_regrown d0; have k1 := cell_regrown d1; have k2 := cell_regrown d2; have k3 := cell_regrown d3; have k4 := cell_regrown d4
      have HC4 := Lib.hid c4; have HD4 := Lib.hid d4
      clear c0 c1 c2 c3 c4 d0 d1 d2 d3 d4
      obtain ⟨E1, hE1⟩ : ∃ E, E = (decide (x1 = y1) && decide (x2 = y2) && decide ((⟨x3, x4⟩ : Rt) = ⟨y3, y4⟩)) := ⟨_, rfl⟩
      obtain ⟨E2, hE2⟩ : ∃ E, E = decide (x7 = y7) := ⟨_, rfl⟩
      rw [← hE1] at HSm; rw [← hE2] at HS
      have HE1 := Lib.hid hE1; have HE2 := Lib.hid hE2
      clear hE1 hE2
      go_wp2
      refine wp_quietB (by kernel_rfl) (by kernel_rfl) ?_
      (repeat (go_big_quiet_step (fail)))
      go_big_quiet_step ((go_at_call 66; refine Calls.regrown_of (HSm.out _)))
      (repeat (go_big_quiet_step (fail)))
      refine wpQuiet_nil ?_
      intro w5 hb5
      replace HB := Lib.hid (HB.out.trans (hb5.mono HB.out.size))
      clear g0 g1 g2 g3 g4 k0 k1 k2 k3 k4
      have g4 := cell_regrown (keepE HC4.out hb5); have k4 := cell_regrown (keepE HD4.out hb5)
      clear hb5
      go_wp2
      refine wp_quietB (by kernel_rfl) (by kernel_rfl) ?_
      (repeat (go_big_quiet_step (fail)))
      go_big_quiet_step ((go_at_call 84; refine Calls.regrown_of (HS.out _ (HB.out.trans ((below_regrown _ _ _).mono HB.out.size)))))
      (repeat (go_big_quiet_step (fail)))
      refine wpQuiet_nil ?_
      intro w6 hb6
      replace HB := Lib.hid (HB.out.trans (hb6.mono HB.out.size))
      clear hb6 g4 k4
      have HNF := Lib.hid (show E1 = false ∨ E2 = false → decide (l.map Me.says = r.map Me.says) = false from fun h => decide_eq_false (HNo.out (fun e => by
        simp only [Me.says, MeP.mk.injEq] at e
        rcases h with h | h
        · rw [HE1.out] at h; simp [e.1, e.2.1, e.2.2.1] at h
        · rw [HE2.out] at h; simp [e.2.2.2] at h)))
      cases E1
      · have HF := Lib.hid (HNF.out (.inl rfl))
        go_wp2
        go_ret
        exact ⟨ret_bool HF.out.symm, HB.out⟩
      cases E2
      · have HF := Lib.hid (HNF.out (.inr rfl))
        go_wp2
        go_ret
        exact ⟨ret_bool HF.out.symm, HB.out⟩
      · have HT2 := Lib.hid (HT.out (by
          have h1 := HE1.out.symm; have h2 := HE2.out.symm
          simp only [Bool.and_eq_true, decide_eq_true_eq] at h1 h2
          exact says_ext h1.1.1 h1.1.2 h1.2 h2))
        go_wp2
        exact ⟨⟨k + 1, by omega, by go_num, HT2.out, HB.out⟩, by simp [intOf]; omega⟩
    · go_wp2
      go_ret
      refine ⟨ret_bool ?_, HB.out⟩
      have h3 := H.out
      have h4 := HNE.out
      rw [List.take_of_length_le (by simp; omega), List.take_of_length_le (by simp; omega)] at h3
      simp [h3]
theorem RSameV_any (p p' : Int) (a b : Option Addr) (cap cap' : Nat) (l r : List Me) (w : World) (hl : l.length ≤ 100000) (hl' : r.length ≤ 100000) (hn : ∀ m ∈ l, m.notes.length ≤ 100000) (hn' : ∀ m ∈ r, m.notes.length ≤ 100000) (ha : MeAt w a l) (hb : MeAt w b r) :
    Calls Tryz.prog 26 #[.agg #[.int .i64 p, .slice a l.length cap], .agg #[.int .i64 p', .slice b r.length cap']] w fun e w' => e = .returned (.bool (decide (p = p') && decide (l.map Me.says = r.map Me.says))) ∧ Below w.heap.size w w' := by
  obtain ⟨x1, x2, hb2⟩ := box2 (w := w) (A := .cells #[.int .i64 p, .slice a l.length cap] 44) (B := .cells #[.int .i64 p', .slice b r.length cap'] 44) (Below.refl _ _)
  have HX1 := Lib.hid x1; have HX2 := Lib.hid x2; have HB := Lib.hid hb2; clear x1 x2 hb2
  have HS := Lib.hid (fun W (h : Below w.heap.size w W) => RSameMs_any a b cap cap' l r W hl hl' hn hn' (ha.below h) (hb.below h))
  clear ha hb hn hn'
  obtain ⟨E, hE⟩ : ∃ E, E = decide (l.map Me.says = r.map Me.says) := ⟨_, rfl⟩
  rw [← hE] at HS ⊢
  clear hE
  go_enter Tryz.func26, Tryz.ntmps26
  go_upto_region 1 with (fail)
  generalize (w.alloc (.cells #[.int .i64 p, .slice a l.length cap] 44)).alloc (.cells #[.int .i64 p', .slice b r.length cap'] 44) = W at *
  have hc1 := box_cells HX1.out; have hc2 := box_cells HX2.out
  go_wp2_with (go_at_call 36; refine (HS.out _ HB.out).mono ?_; rintro e w2 ⟨rfl, hb⟩; (try replace hb := drewB hb); replace HB := Lib.hid (HB.out.trans (hb.mono HB.out.size)); (try (replace HX1 := Lib.hid (blk_keep HX1.out hb); replace hc1 := box_cells HX1.out; replace hf1 := box_free HX1.out; replace hz1 := lt_blk HX1.out)); (try (replace HX2 := Lib.hid (blk_keep HX2.out hb); replace hc2 := box_cells HX2.out; replace hf2 := box_free HX2.out; replace hz2 := lt_blk HX2.out)); (try (replace HX10 := Lib.hid (blk_keep HX10.out hb); replace hc10 := box_cells HX10.out; replace hf10 := box_free HX10.out; replace hz10 := lt_blk HX10.out)); clear hb)
  all_goals (go_ret; exact ⟨ret_bool (by simp [*]), HB.out⟩)
/-- Does layer 14 call a view few? -/
def few14 (l : List MeP) : Bool := decide (l.length ≤ 60) && decide ((l.map fun m => m.notes.length).sum ≤ 80)
/-- How many notes the first measures have. -/
def sumK (ms : List Me) (k : Nat) : Nat := ((ms.take k).map fun m => m.notes.length).sum
theorem sumK_succ {ms : List Me} {k : Nat} (h : k < ms.length) : sumK ms (k + 1) = sumK ms k + ms[k].notes.length := by
  unfold sumK
  rw [List.take_succ_eq_append_getElem h, List.map_append, List.sum_append]; simp
theorem sumK_le {ms : List Me} {B : Nat} (hn : ∀ m ∈ ms, m.notes.length ≤ B) (k : Nat) : sumK ms k ≤ k * B := by
  induction k with
  | zero => simp [sumK]
  | succ k ih =>
    rw [Nat.succ_mul]
    by_cases h : k < ms.length
    · rw [sumK_succ h]
      exact Nat.add_le_add ih (hn _ (List.getElem_mem h))
    · have : sumK ms (k + 1) = sumK ms k := by unfold sumK; rw [List.take_of_length_le (by omega), List.take_of_length_le (by omega)]
      rw [this]; exact Nat.le_trans ih (Nat.le_add_right _ _)
theorem few14_eq (ms : List Me) : few14 (ms.map Me.says) = (decide (ms.length ≤ 60) && decide (sumK ms ms.length ≤ 80)) := by
  unfold few14 sumK
  rw [List.take_length, List.length_map, List.map_map]; rfl
set_option maxRecDepth 100000 in
set_option maxHeartbeats 4000000 in
theorem RFew14_any (p : Int) (a : Option Addr) (cap : Nat) (ms : List Me) (w : World) (hl : ms.length ≤ 140737488355328) (hn : ∀ m ∈ ms, m.notes.length ≤ 140737488355328) (hm : MeAt w a ms) :
    Calls Tryz.prog 23 #[.agg #[.int .i64 p, .slice a ms.length cap]] w fun e w' => e = .returned (.bool (few14 (ms.map Me.says))) ∧ Below w.heap.size w w' := by
  have HR := Lib.hid (few14_eq ms)
  generalize few14 (ms.map Me.says) = R at *
  have HX1 := Lib.hid (heap_alloc_new w (.cells #[.int .i64 p, .slice a ms.length cap] 44))
  have HB := Lib.hid ((Below.refl w.heap.size w).alloc (Nat.le_refl _) (.cells #[.int .i64 p, .slice a ms.length cap] 44))
  have HM := Lib.hid hm; have HLe := Lib.hid (sumK_le hn)
  clear hm
  go_enter Tryz.func23, Tryz.ntmps23
  go_upto_region 1 with (fail)
  generalize w.alloc (.cells #[.int .i64 p, .slice a ms.length cap] 44) = W at *
  have hc1 := box_cells HX1.out
  go_wp2
  go_loopw [3, 4] (fun s3 s4 wr => ∃ k : Nat, k ≤ ms.length ∧ k ≤ 61 ∧ s4 = .int .i64 k ∧ s3 = .int .i64 (sumK ms k : Nat) ∧ W = wr) (fun _ s4 _ => 61 - (intOf s4).toNat)
  case atStart => exact ⟨0, Nat.zero_le _, by omega, rfl, by simp [sumK], rfl⟩
  case round =>
    obtain ⟨k, hk, hk2, rfl, rfl, rfl⟩ := hrel
    have hsl := HLe.out k
    by_cases hlt : k < ms.length
    · by_cases hlt2 : k < 61
      · obtain ⟨b, off, hqa, _, _, _, _, _, c4⟩ := (HM.out.below HB.out).get k hlt
        have HSu := Lib.hid (sumK_succ hlt)
        have hnl := hn _ (List.getElem_mem hlt)
        subst hqa
        generalize sumK ms k = S0 at *
        generalize ms[k] = M at *
        have hw : IntKind.i64.wrap ((S0 : Int) + (M.notes.length : Int)) = (S0 : Int) + (M.notes.length : Int) := IntWalk.i64_in _ (by omega)
        go_wp2
        exact ⟨⟨k + 1, by omega, by omega, by go_num, by rw [HSu.out]; simp, trivial⟩, by simp [intOf]; omega⟩
      · have HF := Lib.hid (show R = false by rw [HR.out, decide_eq_false (show ¬ ms.length ≤ 60 by omega)]; rfl)
        generalize sumK ms k = S0 at *
        have hbig : ¬ ((ms.length : Int) ≤ 60) := by omega
        go_wp2
        go_ret
        exact ⟨ret_bool HF.out.symm, HB.out⟩
    · obtain rfl : k = ms.length := by omega
      generalize sumK ms ms.length = S0 at *
      go_wp2
      all_goals (go_ret; refine ⟨ret_bool ?_, HB.out⟩; rw [HR.out, Bool.eq_iff_iff]; simp only [Bool.and_eq_true, decide_eq_true_eq, Bool.false_eq_true, false_iff, iff_false]; omega)
end Go.Proofs.YtppjbnnnppffaaaGreatDoor

/- The reference's Valid on views: its inner loop: walked. -/
namespace Go.Proofs.YtppjbnnnppffaaaGreatDoor
set_option linter.unusedSimpArgs false
set_option linter.unusedVariables false
open Go.RowKit Go.Sort

noncomputable def rvalBody (i : Nat) : Code := ((Tryz.f28.body.map loopsOf).getD []).getD i .skip
theorem OwnR.neType {w : World} {B c : Nat} {E T : TypeId} {sz : Nat} {v : Value} {rows : List (List Value)} {cs : Array Value} {fr : Nat × Nat} (o : OwnR w B E sz v rows) (h : w.heap[c]? = some (.cells cs T fr)) (hne : T ≠ E) : some c ≠ v.ownBlock := fun e => by
  obtain ⟨cur, hc⟩ := o.isCells e.symm
  rw [h] at hc; cases hc; exact hne rfl
/-- What the inner loop of Valid rests on. -/
structure RVL (M : Me) (A0 : List Wr) (mb B0 : Nat) (R : Bool) (wo : World) : Prop where
  m : wo.heap[mb]? = some (.cells #[.int .i64 M.bar, .int .i64 M.key, .int .i64 M.len.n, .int .i64 M.len.d, .slice M.na M.notes.length M.ncap] 65)
  n : ∀ W, Below B0 wo W → WrAt W M.na M.notes
  few : M.notes.length ≤ 1000
  few0 : A0.length ≤ 50000
  le : B0 ≤ wo.heap.size
  form : ∀ k (hk : k < M.notes.length), formW M.notes[k] M.len = false → R = false
  dup : ∀ k (hk : k < M.notes.length), ((A0 ++ M.notes.take k).map Wr.id).contains M.notes[k].id = true → R = false
  many : ∀ k (hk : k < M.notes.length), 20000 ≤ A0.length + k → R = false
  ord : ∀ k (hk : k + 1 < M.notes.length), beforeW M.notes[k] M.notes[k + 1] = false → R = false
theorem formW_vld {x : Wr} {l : Rt} (h : formW x l = true) : vldP x.pitch = true := by simp only [formW, Bool.and_eq_true] at h; exact h.1.1.1.2
/-- What a measure's notes are that Valid has gone through. -/
structure RVOk (M : Me) (A0 : List Wr) (k : Nat) : Prop where
  form : ∀ j (hj : j < M.notes.length), j < k → formW M.notes[j] M.len = true
  dup : ∀ j (hj : j < M.notes.length), j < k → ((A0 ++ M.notes.take j).map Wr.id).contains M.notes[j].id = false
  many : ∀ j, j < M.notes.length → j < k → A0.length + j < 20000
  ord : ∀ j (hj : j + 1 < M.notes.length), j + 1 < k → beforeW M.notes[j] M.notes[j + 1] = true
theorem RVOk.zero (M : Me) (A0 : List Wr) : RVOk M A0 0 := ⟨fun j hj h => by omega, fun j hj h => by omega, fun j hj h => by omega, fun j hj h => by omega⟩
theorem RVOk.succ {M : Me} {A0 : List Wr} {k : Nat} (h : RVOk M A0 k) (hk : k < M.notes.length) (h1 : formW M.notes[k] M.len = true) (h2 : ((A0 ++ M.notes.take k).map Wr.id).contains M.notes[k].id = false) (h3 : A0.length + k < 20000) (h4 : ∀ j (hj : j + 1 = k), beforeW (M.notes[j]'(by omega)) M.notes[k] = true) : RVOk M A0 (k + 1) :=
  ⟨fun j hj hjk => if e : j = k then by subst e; exact h1 else h.form j hj (by omega), fun j hj hjk => if e : j = k then by subst e; exact h2 else h.dup j hj (by omega), fun j hj hjk => if e : j = k then by subst e; exact h3 else h.many j hj (by omega),
    fun j hj hjk => if e : j + 1 = k then by subst e; exact h4 j rfl else h.ord j hj (by omega)⟩
set_option maxRecDepth 1000000 in
set_option maxHeartbeats 8000000 in
theorem rval2_any {M : Me} {A0 : List Wr} {mb B0 : Nat} {R : Bool} {wo : World} (X : RVL M A0 mb B0 R wo) (v0 : Value) (h0 : OwnR wo B0 68 10 v0 (A0.map Wr.cells))
    (b off : Nat) (hna : M.notes ≠ [] → M.na = some ⟨b, off, none⟩) {s0 s1 s2 s3 s4 s5 s6 s8 s10 s12 s13 s14 s15 s16 s17 s18 s19 s20 s21 s22 s23 s24 s25 s26 s27 s28 s29 s30 s31 s32 s33 s34 s35 s36 s37 s38 s39 s40 s41 s42 s43 s44 s45 s46 s47 s48 s49 s50 s51 s52 s53 s54 s55 s56 s57 s58 s59 s60 s61 s62 s63 s64 s65 s66 s67 s68 s69 s70 s71 s72 s73 s74 s75 s76 s77 s78 s79 s80 s81 s82 s83 s84 s85 s86 s87 s88 s89 s90 s91 s92 s93 s94 s95 s96 s97 s98 s99 s100 s101 s102 s103 s104 s105 s106 s107 s108 s109 s110 s111 s112 s113 s114 s115 s116 s117 s118 s119 : Value} (Q : Exit → Act → World → Prop)
    (hfail : ∀ (t7 t11 t12 t13 t14 t63 t64 t65 t66 t67 t68 t69 t70 t71 t72 t73 t74 t75 t76 t77 t78 t79 t80 t81 t82 t83 t84 t85 t86 t87 t88 t89 t90 t91 t92 t93 t94 t95 t96 t97 t98 t99 t100 t101 t102 t103 t104 t105 t106 t107 t108 t109 t110 t111 t112 t113 t114 t115 t116 t117 t118 t119 : Value) (W' : World), R = false → Below B0 wo W' → Q .ret ⟨(List.toArray (s0 :: s1 :: s2 :: s3 :: .bool false :: s5 :: s6 :: t7 :: s8 :: .pointer (some ⟨mb, 0, none⟩) :: s10 :: t11 :: t12 :: t13 :: t14 :: s15 :: s16 :: s17 :: s18 :: s19 :: s20 :: s21 :: s22 :: s23 :: s24 :: s25 :: s26 :: s27 :: s28 :: s29 :: s30 :: s31 :: s32 :: s33 :: s34 :: s35 :: s36 :: s37 :: s38 :: s39 :: s40 :: s41 :: s42 :: s43 :: s44 :: s45 :: s46 :: s47 :: s48 :: s49 :: s50 :: s51 :: s52 :: s53 :: s54 :: s55 :: s56 :: s57 :: s58 :: s59 :: s60 :: s61 :: s62 :: t63 :: t64 :: t65 :: t66 :: t67 :: t68 :: t69 :: t70 :: t71 :: t72 :: t73 :: t74 :: t75 :: t76 :: t77 :: t78 :: t79 :: t80 :: t81 :: t82 :: t83 :: t84 :: t85 :: t86 :: t87 :: t88 :: t89 :: t90 :: t91 :: t92 :: t93 :: t94 :: t95 :: t96 :: t97 :: t98 :: t99 :: t100 :: t101 :: t102 :: t103 :: t104 :: t105 :: t106 :: t107 :: t108 :: t109 :: t110 :: t111 :: t112 :: t113 :: t114 :: t115 :: t116 :: t117 :: t118 :: t119 :: List.nil)), []⟩ W')
    (hexit : ∀ (t4 t11 t12 t13 t14 t63 t64 t65 t66 t67 t68 t69 t70 t71 t72 t73 t74 t75 t76 t77 t78 t79 t80 t81 t82 t83 t84 t85 t86 t87 t88 t89 t90 t91 t92 t93 t94 t95 t96 t97 t98 t99 t100 t101 t102 t103 t104 t105 t106 t107 t108 t109 t110 t111 t112 t113 t114 t115 t116 t117 t118 t119 : Value) (W' : World) (v' : Value), OwnR W' B0 68 10 v' ((A0 ++ M.notes).map Wr.cells) → RVOk M A0 M.notes.length → Below B0 wo W' → Q (.exit 2) ⟨(List.toArray (s0 :: s1 :: s2 :: s3 :: t4 :: s5 :: s6 :: v' :: s8 :: .pointer (some ⟨mb, 0, none⟩) :: s10 :: t11 :: t12 :: t13 :: t14 :: s15 :: s16 :: s17 :: s18 :: s19 :: s20 :: s21 :: s22 :: s23 :: s24 :: s25 :: s26 :: s27 :: s28 :: s29 :: s30 :: s31 :: s32 :: s33 :: s34 :: s35 :: s36 :: s37 :: s38 :: s39 :: s40 :: s41 :: s42 :: s43 :: s44 :: s45 :: s46 :: s47 :: s48 :: s49 :: s50 :: s51 :: s52 :: s53 :: s54 :: s55 :: s56 :: s57 :: s58 :: s59 :: s60 :: s61 :: s62 :: t63 :: t64 :: t65 :: t66 :: t67 :: t68 :: t69 :: t70 :: t71 :: t72 :: t73 :: t74 :: t75 :: t76 :: t77 :: t78 :: t79 :: t80 :: t81 :: t82 :: t83 :: t84 :: t85 :: t86 :: t87 :: t88 :: t89 :: t90 :: t91 :: t92 :: t93 :: t94 :: t95 :: t96 :: t97 :: t98 :: t99 :: t100 :: t101 :: t102 :: t103 :: t104 :: t105 :: t106 :: t107 :: t108 :: t109 :: t110 :: t111 :: t112 :: t113 :: t114 :: t115 :: t116 :: t117 :: t118 :: t119 :: List.nil)), []⟩ W') :
    Code.wp Tryz.prog (Code.loop (rvalBody 1)) Q ⟨(List.toArray (s0 :: s1 :: s2 :: s3 :: s4 :: s5 :: s6 :: v0 :: s8 :: .pointer (some ⟨mb, 0, none⟩) :: s10 :: .int .i64 0 :: s12 :: s13 :: s14 :: s15 :: s16 :: s17 :: s18 :: s19 :: s20 :: s21 :: s22 :: s23 :: s24 :: s25 :: s26 :: s27 :: s28 :: s29 :: s30 :: s31 :: s32 :: s33 :: s34 :: s35 :: s36 :: s37 :: s38 :: s39 :: s40 :: s41 :: s42 :: s43 :: s44 :: s45 :: s46 :: s47 :: s48 :: s49 :: s50 :: s51 :: s52 :: s53 :: s54 :: s55 :: s56 :: s57 :: s58 :: s59 :: s60 :: s61 :: s62 :: s63 :: s64 :: s65 :: s66 :: s67 :: s68 :: s69 :: s70 :: s71 :: s72 :: s73 :: s74 :: s75 :: s76 :: s77 :: s78 :: s79 :: s80 :: s81 :: s82 :: s83 :: s84 :: s85 :: s86 :: s87 :: s88 :: s89 :: s90 :: s91 :: s92 :: s93 :: s94 :: s95 :: s96 :: s97 :: s98 :: s99 :: s100 :: s101 :: s102 :: s103 :: s104 :: s105 :: s106 :: s107 :: s108 :: s109 :: s110 :: s111 :: s112 :: s113 :: s114 :: s115 :: s116 :: s117 :: s118 :: s119 :: List.nil)), []⟩ wo := by
  have HX := Lib.hid X; have HQ := Lib.hid hexit; have HQf := Lib.hid hfail
  have hL := X.few; have hL0 := X.few0
  have H0 := Lib.hid h0
  clear X hexit hfail h0
  conv => arg 2; arg 1; whnf
  go_loopw [7, 11] (fun s7 i wi => ∃ (k : Nat), k ≤ M.notes.length ∧ i = .int .i64 k ∧ OwnR wi B0 68 10 s7 ((A0 ++ M.notes.take k).map Wr.cells) ∧ RVOk M A0 k ∧ wi.heap[mb]? = some (.cells #[.int .i64 M.bar, .int .i64 M.key, .int .i64 M.len.n, .int .i64 M.len.d, .slice M.na M.notes.length M.ncap] 65) ∧ Below B0 wo wi) (fun _ i _ => M.notes.length - (intOf i).toNat)
  case atStart => exact ⟨0, Nat.zero_le _, rfl, by simpa using H0.out, RVOk.zero _ _, HX.out.m, Below.refl _ _⟩
  case round =>
    obtain ⟨k, hk, rfl, hov, hall, hm, hbe⟩ := hrel
    have HO := Lib.hid hov; have HA := Lib.hid hall; have HB := Lib.hid hbe; have HM := Lib.hid hm
    clear hov hall hbe hm H0
    by_cases hlt : k < M.notes.length
    · have hqa := hna (fun e => by rw [e] at hlt; simp at hlt)
      have HPrev := Lib.hid (show ∀ W, Below B0 wo W → ∀ j (hj : j < M.notes.length), W.cell? ⟨b, off + j * 10, none⟩ = some (.int .i64 M.notes[j].id) ∧ W.cell? ⟨b, off + j * 10 + 1, none⟩ = some (.int .i64 M.notes[j].voice) ∧ W.cell? ⟨b, off + j * 10 + 2, none⟩ = some (.int .i64 M.notes[j].ossia) ∧ W.cell? ⟨b, off + j * 10 + 3, none⟩ = some (.int .i64 M.notes[j].start.n) ∧ W.cell? ⟨b, off + j * 10 + 4, none⟩ = some (.int .i64 M.notes[j].start.d) ∧ W.cell? ⟨b, off + j * 10 + 5, none⟩ = some (.int .i64 M.notes[j].len.n) ∧ W.cell? ⟨b, off + j * 10 + 6, none⟩ = some (.int .i64 M.notes[j].len.d) ∧ W.cell? ⟨b, off + j * 10 + 7, none⟩ = some (.int .i64 M.notes[j].pitch.s) ∧ W.cell? ⟨b, off + j * 10 + 8, none⟩ = some (.int .i64 M.notes[j].pitch.a) ∧ W.cell? ⟨b, off + j * 10 + 9, none⟩ = some (.int .i64 M.notes[j].pitch.o) from fun W hb j hj => by
        obtain ⟨b', off', e', _, h⟩ := (HX.out.n W hb).get j hj
        rw [hqa] at e'
        cases e'
        exact h)
      obtain ⟨c0, c1, c2, c3, c4, c5, c6, c7, c8, c9⟩ := HPrev.out _ HB.out k hlt
      have HF1 := Lib.hid (HX.out.form k hlt); have HF2 := Lib.hid (HX.out.dup k hlt); have HF3 := Lib.hid (HX.out.many k hlt)
      have HSu := Lib.hid (HA.out.succ hlt)
      have HFo := Lib.hid (fun W => R14Form_any M.notes[k] M.len W)
      have hLt : (A0 ++ M.notes.take k).length = A0.length + k := by rw [List.length_append, List.length_take, Nat.min_eq_left hk]
      have HHas := Lib.hid (fun (W : World) (a : Option Addr) (c : Nat) (h : WrAt W a (A0 ++ M.notes.take k)) => by have := RHas_any a c (A0 ++ M.notes.take k) M.notes[k].id W (by omega) h; rwa [hLt] at this)
      have HTk := Lib.hid (show A0 ++ M.notes.take (k + 1) = (A0 ++ M.notes.take k) ++ [M.notes[k]] by rw [List.take_succ_eq_append_getElem hlt, List.append_assoc])
      obtain ⟨aa, cc, e7, _, hsA⟩ := HO.out.slAt
      rw [List.length_map, hLt] at e7
      subst e7
      have HSA := Lib.hid (show WrAt wr aa (A0 ++ M.notes.take k) from hsA)
      have HLt := Lib.hid hLt
      clear hsA hLt
      have HCs := Lib.hid (show _ ∧ _ ∧ _ ∧ _ ∧ _ ∧ _ ∧ _ ∧ _ ∧ _ ∧ _ from ⟨c0, c1, c2, c3, c4, c5, c6, c7, c8, c9⟩)
      have HId0 := Lib.hid c0
      have hc9q := HM.out
      rw [hqa] at hc9q
      have hc9 := box_cells hc9q
      clear hc9q
      have HNo := Lib.hid hqa; clear hqa
      have HTake := Lib.hid (rfl : M.notes.take k = M.notes.take k)
      have HBef := Lib.hid (fun (j : Nat) (hj : j + 1 = k) (h1 : vldP (M.notes[j]'(by omega)).pitch = true) (h2 : vldP M.notes[k].pitch = true) W => R14Before_any (M.notes[j]'(by omega)) M.notes[k] W h1 h2)
      generalize hxk : M.notes[k] = x at *
      have HXk := Lib.hid hxk; clear hxk
      obtain ⟨E, hE⟩ : ∃ E, E = formW x M.len := ⟨_, rfl⟩
      obtain ⟨D, hD⟩ : ∃ D, D = ((A0 ++ M.notes.take k).map Wr.id).contains x.id := ⟨_, rfl⟩
      rw [← hE] at HF1 HFo HSu; rw [← hD] at HF2 HHas HSu
      have HE := Lib.hid hE; clear hE hD
      have g2 := cell_regrown (hc9 2); have g3 := cell_regrown (hc9 3); have g4 := cell_regrown (hc9 4)
      have y0 := cell_regrown c0; have y1 := cell_regrown c1; have y2 := cell_regrown c2; have y3 := cell_regrown c3; have y4 := cell_regrown c4; have y5 := cell_regrown c5; have y6 := cell_regrown c6; have y7 := cell_regrown c7; have y8 := cell_regrown c8; have y9 := cell_regrown c9
      clear c0 c1 c2 c3 c4 c5 c6 c7 c8 c9
      go_wp2
      refine wp_quietB (by kernel_rfl) (by kernel_rfl) ?_
      (repeat (go_big_quiet_step (fail)))
      go_big_quiet_step ((go_at_call 69; refine Calls.regrown_of (HFo.out _)))
      (repeat (go_big_quiet_step (fail)))
      refine wpQuiet_nil ?_
      intro w5 hb
      have HSB := Lib.hid (Nat.le_trans HX.out.le HB.out.size)
      replace HSA := Lib.hid (HSA.out.below hb)
      replace HB := Lib.hid (HB.out.trans (hb.mono (Nat.le_trans HX.out.le HB.out.size))); replace HO := Lib.hid (HO.out.below hb); replace HM := Lib.hid (blk_keep HM.out hb)
      clear hb g2 g3 g4 y0 y1 y2 y3 y4 y5 y6 y7 y8 y9 hc9
      have hc9q := HM.out
      rw [HNo.out] at hc9q
      have hc9 := box_cells hc9q
      clear hc9q
      obtain ⟨c0, c1, c2, c3, c4, c5, c6, c7, c8, c9⟩ := HPrev.out _ HB.out k hlt
      rw [HXk.out] at c0 c1 c2 c3 c4 c5 c6 c7 c8 c9
      cases E
      · have HF := Lib.hid (HF1.out rfl)
        cases D <;> (go_wp2_with (go_at_call 70; refine (HHas.out _ _ _ HSA.out).mono ?_; rintro e w6 ⟨rfl, rfl⟩); exact HQf.out _ _ _ _ _ _ _ _ _ _ _ _ _ _ _ _ _ _ _ _ _ _ _ _ _ _ _ _ _ _ _ _ _ _ _ _ _ _ _ _ _ _ _ _ _ _ _ _ _ _ _ _ _ _ _ _ _ _ _ _ _ _ _ HF.out HB.out)
      cases D
      case true =>
        have HF := Lib.hid (HF2.out rfl)
        go_wp2_with (go_at_call 70; refine (HHas.out _ _ _ HSA.out).mono ?_; rintro e w6 ⟨rfl, rfl⟩)
        exact HQf.out _ _ _ _ _ _ _ _ _ _ _ _ _ _ _ _ _ _ _ _ _ _ _ _ _ _ _ _ _ _ _ _ _ _ _ _ _ _ _ _ _ _ _ _ _ _ _ _ _ _ _ _ _ _ _ _ _ _ _ _ _ _ _ HF.out HB.out
      by_cases hmany : 20000 ≤ A0.length + k
      · have HF := Lib.hid (HF3.out hmany)
        have hmi : (20000 : Int) ≤ (A0.length : Int) + (k : Int) := by omega
        go_wp2_with (go_at_call 70; refine (HHas.out _ _ _ HSA.out).mono ?_; rintro e w6 ⟨rfl, rfl⟩)
        exact HQf.out _ _ _ _ _ _ _ _ _ _ _ _ _ _ _ _ _ _ _ _ _ _ _ _ _ _ _ _ _ _ _ _ _ _ _ _ _ _ _ _ _ _ _ _ _ _ _ _ _ _ _ _ _ _ _ _ _ _ _ _ _ _ _ HF.out HB.out
      have hmi : ¬ (20000 : Int) ≤ (A0.length : Int) + (k : Int) := by omega
      have HVx := Lib.hid (formW_vld HE.out.symm)
      go_upto_region 22 with (go_at_call 70; refine (HHas.out _ _ _ HSA.out).mono ?_; rintro e w6 ⟨rfl, rfl⟩)
      have HSB2 := Lib.hid (Nat.le_trans HX.out.le HB.out.size)
      by_cases hk0 : 0 < (k : Int)
      · obtain ⟨j, hj⟩ : ∃ j, j + 1 = k := ⟨k - 1, by omega⟩
        have HJ := Lib.hid hj
        have hjl : j < M.notes.length := by omega
        have HVj := Lib.hid (formW_vld (HA.out.form j hjl (by omega)))
        have HBe := Lib.hid (fun W => show Calls Tryz.prog 71 #[.agg #[.int .i64 (M.notes[j]'hjl).id, .int .i64 (M.notes[j]'hjl).voice, .int .i64 (M.notes[j]'hjl).ossia, .int .i64 (M.notes[j]'hjl).start.n, .int .i64 (M.notes[j]'hjl).start.d, .int .i64 (M.notes[j]'hjl).len.n, .int .i64 (M.notes[j]'hjl).len.d, .int .i64 (M.notes[j]'hjl).pitch.s, .int .i64 (M.notes[j]'hjl).pitch.a, .int .i64 (M.notes[j]'hjl).pitch.o], .agg #[.int .i64 x.id, .int .i64 x.voice, .int .i64 x.ossia, .int .i64 x.start.n, .int .i64 x.start.d, .int .i64 x.len.n, .int .i64 x.len.d, .int .i64 x.pitch.s, .int .i64 x.pitch.a, .int .i64 x.pitch.o]] W fun e w' => e = .returned (.bool (beforeW (M.notes[j]'hjl) x)) ∧ Below W.heap.size W w' from HBef.out j hj HVj.out HVx.out W)
        have HF4 := Lib.hid (show beforeW (M.notes[j]'hjl) x = false → R = false from fun h => by
          have hjk : j + 1 < M.notes.length := by omega
          refine HX.out.ord j hjk ?_
          have e : M.notes[j + 1] = x := by have := HXk.out; simpa [hj] using this
          rw [e]; exact h)
        have hw : IntKind.i64.wrap ((k : Int) - 1) = (j : Int) := by rw [IntWalk.i64_in _ (by omega)]; omega
        obtain ⟨d0, d1, d2, d3, d4, d5, d6, d7, d8, d9⟩ := HPrev.out _ HB.out j hjl
        have HSu2 := Lib.hid (show beforeW (M.notes[j]'hjl) x = true → RVOk M A0 (k + 1) from fun h => HSu.out trivial trivial (by omega) (fun j2 hj2 => by (have e : j2 = j := Nat.succ.inj (hj2.trans hj.symm); subst e; exact h)))
        clear hj HBef HVj HSu
        generalize M.notes[j] = y at *
        have g4 := cell_regrown (hc9 4)
        replace c0 := cell_regrown c0; replace c1 := cell_regrown c1; replace c2 := cell_regrown c2; replace c3 := cell_regrown c3; replace c4 := cell_regrown c4; replace c5 := cell_regrown c5; replace c6 := cell_regrown c6; replace c7 := cell_regrown c7; replace c8 := cell_regrown c8; replace c9 := cell_regrown c9
        replace d0 := cell_regrown d0; replace d1 := cell_regrown d1; replace d2 := cell_regrown d2; replace d3 := cell_regrown d3; replace d4 := cell_regrown d4; replace d5 := cell_regrown d5; replace d6 := cell_regrown d6; replace d7 := cell_regrown d7; replace d8 := cell_regrown d8; replace d9 := cell_regrown d9
        obtain ⟨Q2, hQ2⟩ : ∃ Q2, Q2 = beforeW y x := ⟨_, rfl⟩
        rw [← hQ2] at HBe HF4 HSu2
        clear hQ2
        go_wp2
        refine wp_quietB (by kernel_rfl) (by kernel_rfl) ?_
        (repeat (go_big_quiet_step (fail)))
        go_big_quiet_step ((go_at_call 71; refine Calls.regrown_of (HBe.out _)))
        (repeat (go_big_quiet_step (fail)))
        refine wpQuiet_nil ?_
        intro w7 hb
        replace HB := Lib.hid (HB.out.trans (hb.mono (Nat.le_trans HX.out.le HB.out.size))); replace HO := Lib.hid (HO.out.below hb); replace HM := Lib.hid (blk_keep HM.out hb)
        replace HSB2 := Lib.hid (Nat.le_trans HX.out.le HB.out.size)
        clear hb g4 c0 c1 c2 c3 c4 c5 c6 c7 c8 c9 d0 d1 d2 d3 d4 d5 d6 d7 d8 d9 hc9
        cases Q2
        · have HF := Lib.hid (HF4.out rfl)
          go_wp2
          exact HQf.out _ _ _ _ _ _ _ _ _ _ _ _ _ _ _ _ _ _ _ _ _ _ _ _ _ _ _ _ _ _ _ _ _ _ _ _ _ _ _ _ _ _ _ _ _ _ _ _ _ _ _ _ _ _ _ _ _ _ _ _ _ _ _ HF.out HB.out
        · have HOk := Lib.hid (HSu2.out rfl)
          have hc9q := HM.out
          rw [HNo.out] at hc9q
          have hc9 := box_cells hc9q
          clear hc9q
          obtain ⟨c0, c1, c2, c3, c4, c5, c6, c7, c8, c9⟩ := HPrev.out _ HB.out k hlt
          rw [HXk.out] at c0 c1 c2 c3 c4 c5 c6 c7 c8 c9
          go_wp2_with (at_builtin; refine appE eltWr rfl (.tmp 112) (.tmp 118) rfl B0 _ (A0 ++ M.notes.take k) rfl (HO.out.below (below_box _)) _ _ _ [x] rfl rfl (fun e => by cases e) (eltWr.new _ x _ _ rfl) (by rw [HLt.out]; simp; omega) (Nat.le_trans HSB2.out (below_box _).size) ?_; intro v2 w2 ho2 hg2; have HO2 := Lib.hid ho2; have HG2 := Lib.hid hg2; clear ho2 hg2); refine ⟨⟨k + 1, by omega, by go_num, by rw [HTk.out]; exact HO2.out, HOk.out, ?_, ?_⟩, by simp [intOf]; omega⟩; (· exact (HG2.out.block mb (by have := lt_blk HM.out; simp; omega) (HO.out.neType HM.out (by decide))).trans (up_alloc HM.out _)); (· exact (HB.out.alloc HSB2.out _).grown HG2.out (Nat.le_trans HSB2.out (below_box _).size) (fun j e => (HO.out.lt j e).1))
      · have hk0' : k = 0 := by omega
        have HOk := Lib.hid (HSu.out trivial trivial (by omega) (fun j hj => by omega))
        clear hk0'
        go_wp2_with (at_builtin; refine appE eltWr rfl (.tmp 112) (.tmp 118) rfl B0 _ (A0 ++ M.notes.take k) rfl (HO.out.below (below_box _)) _ _ _ [x] rfl rfl (fun e => by cases e) (eltWr.new _ x _ _ rfl) (by rw [HLt.out]; simp; omega) (Nat.le_trans HSB2.out (below_box _).size) ?_; intro v2 w2 ho2 hg2; have HO2 := Lib.hid ho2; have HG2 := Lib.hid hg2; clear ho2 hg2); refine ⟨⟨k + 1, by omega, by go_num, by rw [HTk.out]; exact HO2.out, HOk.out, ?_, ?_⟩, by simp [intOf]; omega⟩; (· exact (HG2.out.block mb (by have := lt_blk HM.out; simp; omega) (HO.out.neType HM.out (by decide))).trans (up_alloc HM.out _)); (· exact (HB.out.alloc HSB2.out _).grown HG2.out (Nat.le_trans HSB2.out (below_box _).size) (fun j e => (HO.out.lt j e).1))
    · obtain rfl : k = M.notes.length := by omega
      have hc9 := box_cells HM.out
      go_wp2
      refine HQ.out _ _ _ _ _ _ _ _ _ _ _ _ _ _ _ _ _ _ _ _ _ _ _ _ _ _ _ _ _ _ _ _ _ _ _ _ _ _ _ _ _ _ _ _ _ _ _ _ _ _ _ _ _ _ _ _ _ _ _ _ _ _ wr _ (by have := HO.out; rwa [List.take_length] at this) HA.out HB.out
end Go.Proofs.YtppjbnnnppffaaaGreatDoor


/- When a view is valid, measure by measure; no condition. -/
namespace Go.Proofs.YtppjbnnnppffaaaGreatDoor
set_option linter.unusedSimpArgs false
set_option linter.unusedVariables false
open Go.RowKit Go.Sort

theorem nodup_snoc {l r : List Int} (h : (l ++ r).Nodup) (k : Nat) (hk : k < r.length) : (l ++ r.take k).contains r[k] = false := by
  rw [← Bool.not_eq_true]
  intro hc
  have hc : r[k] ∈ l ++ r.take k := by simpa using hc
  have e : l ++ r = (l ++ r.take k) ++ r.drop k := by rw [List.append_assoc, List.take_append_drop]
  rw [e, List.nodup_append] at h
  exact h.2.2 r[k] hc r[k] (by rw [List.drop_eq_getElem_cons hk]; exact List.mem_cons_self) rfl
theorem nodup_of {l r : List Int} (hl : l.Nodup) (h : ∀ k (hk : k < r.length), (l ++ r.take k).contains r[k] = false) : (l ++ r).Nodup := by
  have key : ∀ m, m ≤ r.length → (l ++ r.take m).Nodup := by
    intro m
    induction m with
    | zero => intro _; simpa using hl
    | succ m ih =>
      intro hm
      have h1 := ih (by omega)
      have h2 := h m (by omega)
      rw [List.take_succ_eq_append_getElem (by omega), ← List.append_assoc, List.nodup_append]
      refine ⟨h1, by simp, fun a ha b hb e => ?_⟩
      simp only [List.mem_singleton] at hb
      subst hb; subst e
      have : (l ++ r.take m).contains r[m] = true := by simpa using ha
      rw [h2] at this; cases this
  have := key r.length (Nat.le_refl _)
  rwa [List.take_length] at this
/-- The notes of a measure are in their order, if neighbours are. -/
theorem sortedW_ok {M : Me} {A0 : List Wr} (h : RVOk M A0 M.notes.length) : sortedW M.notes = true := by
  unfold sortedW
  rw [List.all_eq_true]
  intro j hj
  have hj := List.mem_range.1 hj
  have e1 : M.notes.getD j default = M.notes[j] := by simp [List.getD, show j < M.notes.length by omega]
  have e2 : M.notes.getD (j + 1) default = M.notes[j + 1] := by simp [List.getD, show j + 1 < M.notes.length by omega]
  rw [e1, e2]; exact h.ord j (by omega) (by omega)
theorem formW_ok {M : Me} {A0 : List Wr} (h : RVOk M A0 M.notes.length) : M.notes.all (fun w => formW w M.len) = true := by
  rw [List.all_eq_true]
  intro x hx
  obtain ⟨j, hj, rfl⟩ := List.getElem_of_mem hx
  exact h.form j hj hj
theorem ids_ok {M : Me} {A0 : List Wr} (h : RVOk M A0 M.notes.length) (h0 : (A0.map Wr.id).Nodup) : ((A0 ++ M.notes).map Wr.id).Nodup := by
  rw [List.map_append]
  refine nodup_of h0 fun k hk => ?_
  have hk' : k < M.notes.length := by simpa using hk
  have := h.dup k hk' hk'
  rw [List.map_append, List.map_take] at this
  simpa using this
theorem many_ok {M : Me} {A0 : List Wr} (h : RVOk M A0 M.notes.length) (h0 : A0.length ≤ 20000) : (A0 ++ M.notes).length ≤ 20000 := by
  rw [List.length_append]
  rcases Nat.eq_zero_or_pos M.notes.length with e | e
  · omega
  · have := h.many (M.notes.length - 1) (by omega) (by omega); omega
theorem allW_split {l : List MeP} {i : Nat} (hi : i < l.length) : allW l = allW (l.take i) ++ (l[i].notes ++ allW (l.drop (i + 1))) := by
  have e : l = l.take i ++ l[i] :: l.drop (i + 1) := by rw [← List.drop_eq_getElem_cons hi, List.take_append_drop]
  unfold allW
  calc (l.map MeP.notes).flatten = ((l.take i ++ l[i] :: l.drop (i + 1)).map MeP.notes).flatten := by rw [← e]
    _ = _ := by rw [List.map_append, List.map_cons, List.flatten_append, List.flatten_cons]
theorem allW_succ {l : List MeP} {i : Nat} (hi : i < l.length) : allW (l.take (i + 1)) = allW (l.take i) ++ l[i].notes := by
  unfold allW
  rw [List.take_succ_eq_append_getElem hi, List.map_append, List.flatten_append, List.map_singleton, List.flatten_singleton]
/-- What is asked of a view of a valid score, the part found. -/
theorem validV_eq {s : Sc} {part : Int} {p : Pa} {l : List MeP} (h : validS s = true) (hl : l.length = s.bars.length) (hp : partAt s.parts part = some p) :
    validV s part l = ((List.zipWith (fun b m => measureB p b m) s.bars l).all id && decide ((allW l).map Wr.id).Nodup && decide ((allW l).length ≤ 20000)) := by
  unfold validV; rw [h, hp]; simp [hl, Bool.and_assoc]
theorem validV_bad {s : Sc} {part : Int} {p : Pa} {l : List MeP} (h : validS s = true) (hl : l.length = s.bars.length) (hp : partAt s.parts part = some p) (i : Nat) (hi : i < l.length) (hb : measureB p (s.bars[i]'(by omega)) l[i] = false) : validV s part l = false := by
  rw [validV_eq h hl hp]
  have : (List.zipWith (fun b m => measureB p b m) s.bars l).all id = false := by
    rw [← Bool.not_eq_true]; intro ha
    have := List.all_eq_true.1 ha (measureB p (s.bars[i]'(by omega)) l[i]) (by
      rw [List.mem_iff_getElem]
      exact ⟨i, by simp; omega, by simp⟩)
    rw [hb] at this; cases this
  rw [this]; rfl
theorem validV_dup {s : Sc} {part : Int} {p : Pa} {l : List MeP} (h : validS s = true) (hl : l.length = s.bars.length) (hp : partAt s.parts part = some p) (hd : ¬ ((allW l).map Wr.id).Nodup) : validV s part l = false := by
  rw [validV_eq h hl hp, decide_eq_false hd]; simp
theorem validV_many {s : Sc} {part : Int} {p : Pa} {l : List MeP} (h : validS s = true) (hl : l.length = s.bars.length) (hp : partAt s.parts part = some p) (hd : 20000 < (allW l).length) : validV s part l = false := by
  rw [validV_eq h hl hp, decide_eq_false (by omega : ¬ (allW l).length ≤ 20000)]; simp
/-- A double among the notes gone through. -/
theorem dup_all {l : List MeP} {i k : Nat} (hi : i < l.length) (hk : k < l[i].notes.length) (hc : ((allW (l.take i) ++ l[i].notes.take k).map Wr.id).contains l[i].notes[k].id = true) : ¬ ((allW l).map Wr.id).Nodup := by
  intro hn
  have e : (allW l).map Wr.id = (allW (l.take i)).map Wr.id ++ ((l[i].notes ++ allW (l.drop (i + 1))).map Wr.id) := by rw [allW_split hi, List.map_append]
  rw [e] at hn
  have hk2 : k < ((l[i].notes ++ allW (l.drop (i + 1))).map Wr.id).length := by simp; omega
  have := nodup_snoc hn k hk2
  have e2 : ((l[i].notes ++ allW (l.drop (i + 1))).map Wr.id).take k = (l[i].notes.take k).map Wr.id := by
    rw [← List.map_take, List.take_append_of_le_length (by omega)]
  have e3 : ((l[i].notes ++ allW (l.drop (i + 1))).map Wr.id)[k] = l[i].notes[k].id := by rw [List.getElem_map, List.getElem_append_left hk]
  rw [e2, e3, ← List.map_append, hc] at this
  cases this
theorem many_all {l : List MeP} {i k : Nat} (hi : i < l.length) (hk : k < l[i].notes.length) (hc : 20000 ≤ (allW (l.take i)).length + k) : 20000 < (allW l).length := by
  rw [allW_split hi, List.length_append, List.length_append]; omega
theorem validV_done {s : Sc} {part : Int} {p : Pa} {l : List MeP} (h : validS s = true) (hl : l.length = s.bars.length) (hp : partAt s.parts part = some p) (hm : ∀ i (hi : i < l.length), measureB p (s.bars[i]'(by omega)) l[i] = true) (hd : ((allW l).map Wr.id).Nodup) (hn : (allW l).length ≤ 20000) : validV s part l = true := by
  rw [validV_eq h hl hp, decide_eq_true hd, decide_eq_true hn]
  have : (List.zipWith (fun b m => measureB p b m) s.bars l).all id = true := by
    rw [List.all_eq_true]
    intro x hx
    obtain ⟨i, hi, rfl⟩ := List.getElem_of_mem hx
    simp only [List.length_zipWith] at hi
    simp only [List.getElem_zipWith, id]
    exact hm i (by omega)
  rw [this]; rfl
end Go.Proofs.YtppjbnnnppffaaaGreatDoor
