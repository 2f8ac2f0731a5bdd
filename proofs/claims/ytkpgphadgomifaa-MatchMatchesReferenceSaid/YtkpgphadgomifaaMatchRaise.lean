/- match.raise, walked. -/
import Derived.Test.YtkpgphadgomifaaMatchRaise5
import Derived.Deep.LoopGhost
namespace Go.Proofs.Ytkpgphadgomifaa
set_option linter.unusedSimpArgs false
set_option linter.unusedVariables false
open Go.RowKit Go.Sort Go.Shelf

set_option maxRecDepth 100000 in
set_option maxHeartbeats 8000000 in
theorem raise_any (a : Option Addr) (cap : Nat) (c : List (List Int)) (w : World) (he : formE c = 0) (hm : MatAt w a c) (hs : SlOk a c.length cap) (hmt : Mtd (may (cc c)) (fun i => i < c.length) (wideL c)) :
    Calls Try.prog 35 #[.slice a c.length cap] w (RaisePost c w) := by
  have HS := Lib.hid hs; have HM := Lib.hid hm; have HMt := Lib.hid hmt; clear hs hm hmt
  obtain ⟨f1, f2, f3, f4⟩ := formE_ok he
  have HE := Lib.hid he; have HF3 := Lib.hid f3; have HF4 := Lib.hid f4; clear he f3 f4
  have hmk := fun (n : Nat) (hn : n ≤ 200) w => run_make_row' (P := Try.prog) 23 3 (.int .i64 0) 8 Try.underlying23 (by kernel_rfl) rfl .i64 .i64 n (by omega) (by omega) w
  have hmk1 := hmk c.length f1
  have hmk2 := hmk (wideL c) f2
  clear hmk
  have hmk3 := fun w => run_make_row' (P := Try.prog) 49 4 (.bool false) 1 Try.underlying49 (by kernel_rfl) rfl .i64 .i64 (wideL c) (by omega) (by omega) w
  go_enter Try.func35, Try.ntmps35
  go_wp2_with (fail)
  refine (wide_any a cap c _ (by omega) (HM.out.below ((Below.refl w.heap.size w).alloc (Nat.le_refl _) _))).mono ?_; rintro e w' ⟨rfl, rfl⟩
  have x0 := heap_alloc_new w (.cells #[.slice none 0 0, .slice none 0 0] 48)
  have hb := (Below.refl w.heap.size w).alloc (Nat.le_refl _) (.cells #[.slice none 0 0, .slice none 0 0] 48)
  generalize w.alloc (.cells #[.slice none 0 0, .slice none 0 0] 48) = w1 at *
  have HX0 := Lib.hid x0; have HB := Lib.hid hb; replace HM := Lib.hid (HM.out.below hb); clear x0 hb
  go_upto_region 2 with (fail)
  go_cut [4] (fun s4 W => ∃ bp bu bv : Nat, s4 = .pointer (some ⟨bp, 0, none⟩) ∧ RaiseStart c bp bu bv w1 W)
  case first => (go_region; all_goals (go_wp2_with (fail); go_meet; case rel => (obtain ⟨x1, x2, x3, xb⟩ := three w1 _ _ _; first | exact ⟨_, _, _, rfl, x1, RowAt.of_made x2, RowAt.of_made x3, xb, by omega, by omega, by omega, by omega⟩ | exact ⟨_, _, _, rfl, x1, RowAt.of_made x3, RowAt.of_made x2, xb, by omega, by omega, by omega, by omega⟩ | exact ⟨_, _, _, rfl, x2, RowAt.of_made x1, RowAt.of_made x3, xb, by omega, by omega, by omega, by omega⟩ | exact ⟨_, _, _, rfl, x2, RowAt.of_made x3, RowAt.of_made x1, xb, by omega, by omega, by omega, by omega⟩ | exact ⟨_, _, _, rfl, x3, RowAt.of_made x1, RowAt.of_made x2, xb, by omega, by omega, by omega, by omega⟩ | exact ⟨_, _, _, rfl, x3, RowAt.of_made x2, RowAt.of_made x1, xb, by omega, by omega, by omega, by omega⟩)))
  case rest =>
    obtain ⟨bp, bu, bv, rfl, xP, ru, rv, xb, ⟨g1, g2, g3⟩, d1, d2, d3⟩ := hcut
    have HxP := Lib.hid xP; have Hru := Lib.hid ru; have Hrv := Lib.hid rv; have HB1 := Lib.hid xb
    clear xP ru rv xb
    go_wp2_with (fail)
    refine (nobody_any _ _ (by omega)).mono ?_; rintro e W1 ⟨bow, rfl, g4, ro, hb⟩
    have l1 := lt_blk HxP.out; have l2 := Hru.out.lt; have l3 := Hrv.out.lt
    have R1 : RM c.length (wideL c) bp bu bv bow W1 (fun _ => 0) (fun _ => 0) (fun _ => -1) := ⟨blk_keep HxP.out hb, Hru.out.below hb, Hrv.out.below hb, ro⟩
    have HR1 := Lib.hid R1
    replace HB1 := Lib.hid (HB1.out.trans (hb.mono HB1.out.size))
    clear hb ro R1 HxP Hru Hrv
    have hds : (w1.heap.size ≤ bow ∧ bp ≠ bow ∧ bu ≠ bow ∧ bv ≠ bow) := ⟨by have := HB1.out.size; omega, by omega, by omega, by omega⟩
    obtain ⟨g5, d4, d5, d6⟩ := hds
    clear l1 l2 l3 g4
    go_wp2
    go_loopw [32] (fun i wr => ∃ k : Nat, k ≤ c.length ∧ i = .int .i64 k ∧ RaiseInv c bp bu bv bow w1 k wr) (fun i _ => c.length - (intOf i).toNat)
    case atStart => exact ⟨0, Nat.zero_le _, rfl, _, _, _, HR1.out, by rw [show ((0 : Nat) : Int) * _ = 0 from Int.zero_mul _]; exact Pot.start _ _, HB1.out⟩
    case round =>
      obtain ⟨k, hk, rfl, u, v, ow, R, P, b⟩ := hrel
      obtain ⟨wo, rfl⟩ : ∃ wo : World, wo = wr := ⟨_, rfl⟩
      have HR := Lib.hid R; have HP := Lib.hid P; have HBW := Lib.hid b
      clear R P b HR1 HB1
      have HMo := Lib.hid (HM.out.below HBW.out)
      have HCC := Lib.hid (cc_le HF3.out HF4.out)
      have HPS := Lib.hid (pot_small HP.out hk f1 f2 fun i k hi hk => (HCC.out i k hi hk).2)
      by_cases hlt : k < c.length
      · go_upto_region 7 with (fail)
        go_cut [7, 8] (fun s7 s8 W => ∃ bd bf : Nat, s7 = .slice (some ⟨bd, 0, none⟩) (wideL c) (wideL c) ∧ s8 = .slice (some ⟨bf, 0, none⟩) (wideL c) (wideL c) ∧ TwoRows (wideL c) wo bd bf W)
        case first =>
          have HB0 := Lib.hid (Below.refl wo.heap.size wo)
          go_region_held3 (fun _ => True) (exact trivial) ((go_at_call 31; refine (nobody_any _ _ (by omega)).mono ?_; rintro e w2 ⟨bn, rfl, hbn, hr, hb⟩; have HBN := Lib.hid hbn; have HRN := Lib.hid hr; have HBB := Lib.hid hb; clear hbn hr hb))
          all_goals
            go_wp2_with (fail)
            go_meet
            case rel =>
              first
                | exact ⟨_, _, rfl, rfl, two_A HBB.out HRN.out HBN.out⟩
                | exact ⟨_, _, rfl, rfl, two_A (drewB HBB.out) HRN.out HBN.out⟩
                | exact ⟨_, _, rfl, rfl, two_B HBB.out HRN.out HBN.out⟩
                | exact ⟨_, _, rfl, rfl, two_B (drewB HBB.out) HRN.out HBN.out⟩
        case rest =>
          obtain ⟨bd, bf, rfl, rfl, rd, rf, hbw, q1, q2, q3⟩ := hcut
          have Hrd := Lib.hid rd; have Hrf := Lib.hid rf; have HW := Lib.hid hbw
          clear rd rf hbw
          go_wp2
          go_loopw [41] (fun i W => ∃ j : Nat, j ≤ wideL c ∧ i = .int .i64 j ∧ RowAt W bd (wideL c) 3 (iv fun x => if x < j then far else 0) ∧ RowAt W bf (wideL c) 3 (iv fun _ => -1) ∧ Below wo.heap.size wo W) (fun i _ => wideL c - (intOf i).toNat)
          case atStart => exact ⟨0, Nat.zero_le _, rfl, Hrd.out.congr fun x _ => by simp [iv], Hrf.out, HW.out⟩
          case round =>
            obtain ⟨j, hj, rfl, rd, rf, hbw⟩ := hrel
            obtain ⟨w2, rfl⟩ : ∃ w2 : World, w2 = wr := ⟨_, rfl⟩
            have Hrd := Lib.hid rd; have Hrf := Lib.hid rf; have HW := Lib.hid hbw
            clear rd rf hbw
            by_cases hjn : j < wideL c
            ·
              have hcd := Hrd.out.cell hjn
              have hfd := Hrd.out.free j
              go_wp2
              go_roundw
              case rel => exact ⟨j + 1, by omega, by go_num, (Hrd.out.set hjn (.int .i64 1099511627776)).congr fun x hx => by
                by_cases e : x = j
                · subst e; simp [upd_same, iv, far]
                · rw [upd_ne _ _ e]
                  have e2 : (x < j) = (x < j + 1) := by rw [eq_iff_iff]; omega
                  simp only [iv, e2], Hrf.out.other (Ne.symm q3) _, HW.out.setCell q1 _⟩
              case measure => simp [intOf]; omega
            · have hjn' : j = wideL c := by omega
              subst hjn'
              go_wp2
              have rb := RowAt.made w2 (wideL c) 4 (.bool false)
              have hb := (Below.refl w2.heap.size w2).alloc (Nat.le_refl _) (.cells (madeCells #[.bool false] (wideL c)) 4)
              have hwz := HW.out.size
              have S0 : SM (wideL c) bd bf w2.heap.size wo (w2.alloc (.cells (madeCells #[.bool false] (wideL c)) 4)) (fun _ => far) (fun _ => -1) (fun j => ([] : List Nat).contains j) :=
                ⟨(Hrd.out.congr fun x hx => by simp [iv, hx]).below hb, Hrf.out.below hb, rb, HW.out.trans (hb.mono hwz)⟩
              have b1 := Hrd.out.lt
              have b2 := Hrf.out.lt
              have hwm : wo.heap.size ≤ w2.heap.size := hwz
              generalize w2.alloc (.cells (madeCells #[.bool false] (wideL c)) 4) = W3 at *
              generalize w2.heap.size = bo at *
              have HS0 := Lib.hid S0
              clear rb hb S0 hwz Hrd Hrf HW
              have X : RC c a k bp bu bv bow bd bf bo u v ow wo := ⟨HE.out, hlt, HR.out, HP.out, HMo.out, HMt.out, ⟨q3, by omega, by omega⟩, q1, q2, by omega⟩
              have HX := Lib.hid X; clear X
              refine loop3_any HX.out _ _ HS0.out ?_
              intro t11 t14 t15 t16 t17 t51 t52 t53 t54 t55 t56 t57 t58 t59 t60 t61 t62 t63 t64 t65 t66 t67 t68 t69 t70 t71 t72 t73 t74 t75 t76 t77 t78 t79 t80 t81 t82 t83 t84 t85 t86 t87 t88 t89 t90 t91 t92 t93 t94 t95 t96 t97 t98 t99 t100 t101 t102 t103 t104 t105 t106 t107 t108 t109 t110 t111 t112 t113 t114 t115 t116 t117 t118 t119 t120 t121 t122 t123 t124 t125 t126 t127 t128 t129 t130 t131 t132 t133 t134 t135 t136 t137 t138 t139 t140 t141 t142 t143 t144 k0 dist frm ord w4 F S4
              have HF := Lib.hid F; have HS4 := Lib.hid S4
              clear F S4 HS0
              have RW := HR.out.below HS4.out.bel
              have gP := box_cells RW.xP
              have gU : w4.cell? ⟨bu, k, none⟩ = some (.int .i64 (u k)) := RW.ru.cell hlt
              have fU := RW.ru.free k
              have hu1 := (HPS.out.2.1 k).1
              have hu2 := (HPS.out.2.1 k).2
              have hd1 := HF.out.pos
              have hd2 : dist k0 ≤ 200000000 := by have := HF.out.bnd; omega
              have HRW := Lib.hid RW; clear RW
              go_wp2
              have I0 : L6I c k bp bu bv bow bd bf bo u v ow w4 k0 dist ord 0 (w4.setCell ⟨bu, k, none⟩ (.int .i64 (u k + dist k0))) :=
                ⟨upd u k (u k + dist k0), v, (HRW.out.ru.set hlt (.int .i64 (u k + dist k0))).congr fun _ _ => by rw [iv_upd], HRW.out.rv.other (Ne.symm d3) _, NewJ.start fun x hx i e => by
                  obtain ⟨i', h1, h2, _⟩ := HF.out.ownR HP.out x hx
                  omega, (KeepB.refl _ _ _).set (p := ⟨bu, k, none⟩) (.inl (by simp)) _⟩
              refine loop6_any HX.out k0 dist frm ord HF.out ⟨d1, d2, d3, Ne.symm d5, Ne.symm d6⟩ _ w4 _ u HRW.out.xP HS4.out.rd HS4.out.rb HRW.out.ro I0 ?_
              intro t18 t156 t157 t158 t159 t160 t161 t162 t163 t164 t165 t166 t167 t168 t169 t170 t171 t172 t173 t174 t175 t176 t177 t178 t179 t180 t181 t182 t183 t184 t185 t186 t187 t188 t189 t190 t191 t192 t193 t194 t195 t196 w6 I6
              obtain ⟨u1, v1, ru, rv, N, K6⟩ := I6
              have Hru := Lib.hid ru; have Hrv := Lib.hid rv; have HN := Lib.hid (N.fin fun x hx => (HF.out.lt x hx).1); have HK6 := Lib.hid K6
              clear ru rv N K6 gP gU fU
              have lt4 := HRW.out.lt
              have lf4 := HS4.out.rf.lt
              obtain ⟨m1, m2, m3, m4⟩ := lt4
              have lo := HR.out.lt
              go_wp2
              refine loop7_any HX.out k0 dist frm ord HF.out _ w6 u1 v1 HN.out (HS4.out.rf.of_eq (HK6.out.block bf lf4 (by simp; omega))) (HRW.out.ro.of_eq (HK6.out.block bow m4 (by simp; omega))) ?_
              intro t19 t198 t199 t200 t201 t202 t203 t204 t205 t206 t207 t208 t209 t210 t211 t212 t213 t214 t215 t216 t217 t218 t219 t220 t221 t222 w8 o ro K8 P8
              have s6 := HK6.out.size
              have RM8 : RM c.length (wideL c) bp bu bv bow w8 u1 v1 o := ⟨(K8.block bp (by omega) (by simpa using d4)).trans ((HK6.out.block bp m1 (by simp; omega)).trans HRW.out.xP), Hru.out.of_eq (K8.block bu (by omega) (by simpa using d5)), Hrv.out.of_eq (K8.block bv (by omega) (by simpa using d6)), ro⟩
              have hw1 := HBW.out.size
              have B8 : Below w1.heap.size w1 w8 := (HBW.out.trans (HS4.out.bel.mono hw1)).trans (((HK6.out.weaken (S' := []) (B' := w1.heap.size) (by have := HS4.out.bel.size; omega) (fun x hx hlt => by simp at hx; omega)).trans (K8.weaken (S' := []) (B' := w1.heap.size) (by have := HS4.out.bel.size; omega) (fun x hx hlt => by simp at hx; omega))).below)
              have HRM := Lib.hid RM8; have HP8 := Lib.hid P8; have HB8 := Lib.hid B8
              clear RM8 P8 B8 ro K8
              go_wp2
              go_roundw
              case rel => exact ⟨k + 1, by omega, by go_num, u1, v1, o, HRM.out, HP8.out, HB8.out⟩
              case measure => simp [intOf]; omega
      · have hkm : k = c.length := by omega
        subst hkm
        have hcP := box_cells HR.out.xP
        have hcR := box_cells (blk_keep HX0.out HBW.out)
        have hfR := box_free (blk_keep HX0.out HBW.out)
        have HSZ := Lib.hid (show w.heap.size < w1.heap.size from lt_blk HX0.out)
        have ne1 : bu ≠ w.heap.size := by have := HSZ.out; omega
        have ne2 : bv ≠ w.heap.size := by have := HSZ.out; omega
        go_wp2
        exact bodyPost_ret (v := .agg #[.slice (some ⟨bu, 0, none⟩) c.length c.length, .slice (some ⟨bv, 0, none⟩) (wideL c) (wideL c)]) (by simp [results, Try.results35, go_sem, hcR, hfR]) rfl
          ⟨u, v, bu, bv, rfl, ⟨ow, HP.out⟩, (HR.out.ru.other ne1 _).other ne1 _, (HR.out.rv.other ne2 _).other ne2 _, ((HB.out.trans (HBW.out.mono HB.out.size)).setCell (by simp <;> omega) _).setCell (by simp <;> omega) _⟩
end Go.Proofs.Ytkpgphadgomifaa
