/- Texts of this seat, laid together: TurnBnd, TurnSin. -/
import Derived.Test.YtcelciomhngajaaGreatDoorTF
import Derived.Test.YtcelciomhngajaaGreatDoorTA
/- From where, until where the player is free: the program's bounds. -/
namespace Go.Proofs.YtcelciomhngajaaGreatDoor
set_option linter.unusedSimpArgs false
set_option linter.unusedVariables false
open Go.RowKit Go.Sort Go.Shelf
attribute [local go_sem] Oper.semAt_some

def endR {ms : List Me} (x : SndR ms) : Po := endQ x.1.1 (ms[x.1.1]'x.2.lt).len x.1.2
def fromR {ms : List Me} (x : SndR ms) : Po := ⟨x.1.1, x.1.2.start⟩
def curS {ms : List Me} (pre : List (SndR ms)) : Po := maxP (startP 0) (pre.map endR)
def curU {ms : List Me} (pre : List (SndR ms)) : Po := minP (startP ms.length) (pre.map fromR)
theorem maxP_snoc (p : Po) (l : List Po) (q : Po) : maxP p (l ++ [q]) = if laterB q (maxP p l) then q else maxP p l := by unfold maxP; rw [List.foldl_append]; rfl
theorem minP_snoc (p : Po) (l : List Po) (q : Po) : minP p (l ++ [q]) = if laterB (minP p l) q then q else minP p l := by unfold minP; rw [List.foldl_append]; rfl
theorem curS_snoc {ms : List Me} (pre : List (SndR ms)) (x : SndR ms) : curS (pre ++ [x]) = if laterB (endR x) (curS pre) then endR x else curS pre := by unfold curS; rw [List.map_append]; exact maxP_snoc _ _ _
theorem curU_snoc {ms : List Me} (pre : List (SndR ms)) (x : SndR ms) : curU (pre ++ [x]) = if laterB (curU pre) (fromR x) then fromR x else curU pre := by unfold curU; rw [List.map_append]; exact minP_snoc _ _ _
theorem zero_dur : durB ⟨0, 1⟩ = true := by decide
theorem endR_dur {ms : List Me} (hv : MsV ms) (x : SndR ms) : durB (endR x).at_ = true := by
  obtain ⟨h1, h2, h3⟩ := hv.note _ x.2.lt _ (x.2.mem x.2.lt)
  have t0 := (ticks_nonneg h1).1; have t1 := (ticks_nonneg h2).1
  unfold endR endQ
  split
  · exact zero_dur
  · exact (ofT_dur (by omega) h3).1
theorem fromR_dur {ms : List Me} (hv : MsV ms) (x : SndR ms) : durB (fromR x).at_ = true := (hv.note _ x.2.lt _ (x.2.mem x.2.lt)).1
theorem curS_dur {ms : List Me} (hv : MsV ms) (pre : List (SndR ms)) : durB (curS pre).at_ = true := by
  rcases maxP_mem (pre.map endR) (startP 0) with e | e
  · unfold curS; rw [e]; exact zero_dur
  · obtain ⟨x, _, hx⟩ := List.mem_map.1 e
    unfold curS; rw [← hx]; exact endR_dur hv x
theorem curU_dur {ms : List Me} (hv : MsV ms) (pre : List (SndR ms)) : durB (curU pre).at_ = true := by
  rcases minP_mem (pre.map fromR) (startP ms.length) with e | e
  · unfold curU; rw [e]; exact zero_dur
  · obtain ⟨x, _, hx⟩ := List.mem_map.1 e
    unfold curU; rw [← hx]; exact fromR_dur hv x
theorem curS_all {ms : List Me} {pre : List (SndR ms)} {k : Nat} (h : pre.map Subtype.val = sndL (ms.map Me.says) 0 k) : curS pre = sinceP (ms.map Me.says) k := by
  unfold curS sinceP
  rw [ends_snd, ← h, List.map_map]
  congr 1
  refine List.map_congr_left fun x _ => ?_
  simp only [Function.comp, endR]
  rw [says_getD ms x.2.lt]
  rfl
theorem curU_all {ms : List Me} {pre : List (SndR ms)} {k : Nat} (h : pre.map Subtype.val = sndL (ms.map Me.says) k (ms.length - k)) : curU pre = untilP (ms.map Me.says) k := by
  unfold curU untilP
  rw [froms_snd, List.length_map, ← h, List.map_map]
  rfl
set_option maxHeartbeats 4000000 in
set_option maxRecDepth 100000 in
theorem bounds_any (part : Int) (b off cap : Nat) (ms : List Me) (at_ : Nat) (w : World) (hv : MsV ms) (hat : at_ ≤ ms.length) (hm : MeAt w (some ⟨b, off, none⟩) ms) :
    Calls Tryz.prog 35 #[.agg #[.int .i64 part, .slice (some ⟨b, off, none⟩) ms.length cap], .int .i64 at_] w fun e w' => e = .returned (.tuple #[.agg #[.int .i64 (sinceP (ms.map Me.says) at_).bar, .int .i64 (sinceP (ms.map Me.says) at_).at_.n, .int .i64 (sinceP (ms.map Me.says) at_).at_.d], .agg #[.int .i64 (untilP (ms.map Me.says) at_).bar, .int .i64 (untilP (ms.map Me.says) at_).at_.n, .int .i64 (untilP (ms.map Me.says) at_).at_.d]]) ∧ Below w.heap.size w w' := by
  have hfew := hv.few
  obtain ⟨x1, x2, x3, hb⟩ := box3 (w := w) (A := .cells #[.int .i64 part, .slice (some ⟨b, off, none⟩) ms.length cap] 30 (0, 0)) (B := .cells #[.int .i64 0, .int .i64 0, .int .i64 0] 54 (0, 0)) (C := .cells #[.int .i64 0, .int .i64 0, .int .i64 0] 54 (0, 0)) (Below.refl _ _)
  have HX1 := Lib.hid x1; have HX2 := Lib.hid x2; have HX3 := Lib.hid x3; have HB := Lib.hid hb
  clear x1 x2 x3 hb
  refine (callsIn_wide (n := 6)).1 ?_
  refine callsIn_of_wp_marks Tryz.func35 rfl trivial ?_ rfl
  simp only [Tryz.ntmps35, List.size_toArray, List.length_cons, List.length_nil, Nat.reduceAdd, Nat.reduceSub, Array.replicate_succ, Array.replicate_zero, List.push_toArray, List.append_toArray, List.nil_append, List.cons_append]
  refine wpIn_wide.2 ?_
  go_upto_region 1 with (fail)
  generalize ((w.alloc (.cells #[.int .i64 part, .slice (some ⟨b, off, none⟩) ms.length cap] 30 (0, 0))).alloc (.cells #[.int .i64 0, .int .i64 0, .int .i64 0] 54 (0, 0))).alloc (.cells #[.int .i64 0, .int .i64 0, .int .i64 0] 54 (0, 0)) = W at *
  have hc1 := box_cells HX1.out
  have HSt := Lib.hid (fun i V => tstart_any i V)
  go_upto_region 3 with (go_at_call 36; refine (HSt.out _ _).mono ?_; rintro e w' ⟨rfl, hb⟩; replace HX1 := Lib.hid (blk_keep HX1.out hb); replace HX2 := Lib.hid (blk_keep HX2.out hb); replace HX3 := Lib.hid (blk_keep HX3.out hb); replace HB := Lib.hid (HB.out.trans (hb.mono HB.out.size)); clear hb hc1; have hc1 := box_cells HX1.out)
  have HX7 := Lib.hid (up_alloc (heap_alloc_new w' (.cells #[.int .i64 (startP 0).bar, .int .i64 (startP 0).at_.n, .int .i64 (startP 0).at_.d] 54 (0, 0))) (.cells #[.int .i64 (startP ms.length).bar, .int .i64 (startP ms.length).at_.n, .int .i64 (startP ms.length).at_.d] 54 (0, 0)))
  have HX8 := Lib.hid (show ((w'.alloc (.cells #[.int .i64 (startP 0).bar, .int .i64 (startP 0).at_.n, .int .i64 (startP 0).at_.d] 54 (0, 0))).alloc (.cells #[.int .i64 (startP ms.length).bar, .int .i64 (startP ms.length).at_.n, .int .i64 (startP ms.length).at_.d] 54 (0, 0))).heap[w'.heap.size + 1]? = _ from at_alloc (w'.alloc (.cells #[.int .i64 (startP 0).bar, .int .i64 (startP 0).at_.n, .int .i64 (startP 0).at_.d] 54 (0, 0))) (.cells #[.int .i64 (startP ms.length).bar, .int .i64 (startP ms.length).at_.n, .int .i64 (startP ms.length).at_.d] 54 (0, 0)) (by simp))
  have hlw : w.heap.size + 1 + 1 < w'.heap.size := lt_blk HX3.out
  replace HX1 := Lib.hid (up_alloc (up_alloc HX1.out (.cells #[.int .i64 (startP 0).bar, .int .i64 (startP 0).at_.n, .int .i64 (startP 0).at_.d] 54 (0, 0))) (.cells #[.int .i64 (startP ms.length).bar, .int .i64 (startP ms.length).at_.n, .int .i64 (startP ms.length).at_.d] 54 (0, 0))); replace HX2 := Lib.hid (up_alloc (up_alloc HX2.out (.cells #[.int .i64 (startP 0).bar, .int .i64 (startP 0).at_.n, .int .i64 (startP 0).at_.d] 54 (0, 0))) (.cells #[.int .i64 (startP ms.length).bar, .int .i64 (startP ms.length).at_.n, .int .i64 (startP ms.length).at_.d] 54 (0, 0))); replace HX3 := Lib.hid (up_alloc (up_alloc HX3.out (.cells #[.int .i64 (startP 0).bar, .int .i64 (startP 0).at_.n, .int .i64 (startP 0).at_.d] 54 (0, 0))) (.cells #[.int .i64 (startP ms.length).bar, .int .i64 (startP ms.length).at_.n, .int .i64 (startP ms.length).at_.d] 54 (0, 0)))
  replace HB := Lib.hid ((HB.out.alloc HB.out.size (.cells #[.int .i64 (startP 0).bar, .int .i64 (startP 0).at_.n, .int .i64 (startP 0).at_.d] 54 (0, 0))).alloc (by have := HB.out.size; simp; omega) (.cells #[.int .i64 (startP ms.length).bar, .int .i64 (startP ms.length).at_.n, .int .i64 (startP ms.length).at_.d] 54 (0, 0)))
  have hz3 : ((w'.alloc (.cells #[.int .i64 (startP 0).bar, .int .i64 (startP 0).at_.n, .int .i64 (startP 0).at_.d] 54 (0, 0))).alloc (.cells #[.int .i64 (startP ms.length).bar, .int .i64 (startP ms.length).at_.n, .int .i64 (startP ms.length).at_.d] 54 (0, 0))).heap.size = w'.heap.size + 2 := by simp
  change Code.wp _ _ _ _ ((w'.alloc (.cells #[.int .i64 (startP 0).bar, .int .i64 (startP 0).at_.n, .int .i64 (startP 0).at_.d] 54 (0, 0))).alloc (.cells #[.int .i64 (startP ms.length).bar, .int .i64 (startP ms.length).at_.n, .int .i64 (startP ms.length).at_.d] 54 (0, 0)))
  generalize ((w'.alloc (.cells #[.int .i64 (startP 0).bar, .int .i64 (startP 0).at_.n, .int .i64 (startP 0).at_.d] 54 (0, 0))).alloc (.cells #[.int .i64 (startP ms.length).bar, .int .i64 (startP ms.length).at_.n, .int .i64 (startP ms.length).at_.d] 54 (0, 0))) = W3 at *
  generalize w'.heap.size = sb at *
  clear hc1
  have hc1 := box_cells HX1.out
  go_wp2_with (go_at_call 69; refine (sounds_any part (some ⟨b, off, none⟩) ms.length cap 0 at_ W3).mono ?_; rintro e w5 ⟨rfl, hw5⟩; have HW5 := Lib.hid hw5; clear hw5)
  have hz5 : w5.heap.size = sb + 5 := by rw [HW5.out]; simp; omega
  obtain ⟨kv, kf, ku, hb5'⟩ := box3 (w := W3) (A := .cells #[.int .i64 part, .slice (some ⟨b, off, none⟩) ms.length cap] 30 (0, 0)) (B := .cells #[.int .i64 (0 : Nat)] 3 (0, 0)) (C := .cells #[.int .i64 at_] 3 (0, 0)) (w' := w5) (by rw [HW5.out]; exact Below.refl _ _)
  have hb5 : Below w.heap.size w w5 := HB.out.trans (hb5'.mono HB.out.size)
  have k1 := blk_keep HX1.out hb5'; have k2 := blk_keep HX2.out hb5'; have k3 := blk_keep HX3.out hb5'; have k7 := blk_keep HX7.out hb5'; have k8 := blk_keep HX8.out hb5'
  have hzw : w.heap.size + 3 ≤ sb := by omega
  clear HX1 HX2 HX3 HX7 HX8 HW5 HSt hc1 hb5'
  have HV := Lib.hid hv
  have HM := Lib.hid hm
  have hfT : Fence.wide.fn 70 := trivial
  refine (wpIn_wide (n := 6)).1 ?_
  refine rangeFunc_low (α := SndR ms) rfl (by omega) (gf := 112) (lb := #[.pointer (some ⟨W3.heap.size + 1, 0, none⟩), .pointer (some ⟨W3.heap.size + 2, 0, none⟩), .pointer (some ⟨W3.heap.size, 0, none⟩)]) (by rw [hz3]; rfl) trivial (enters_of Tryz.func112 (by kernel_rfl) rfl) (encs := encSnd) (fun _ => rfl)
    (Kp := KeptC [sb]) (S := fun xs => xs.map Subtype.val = sndL (ms.map Me.says) 0 (at_ - 0)) (N := 1000000000000) ?hseq KeptC.trans ?hKb
    (fun pre V => V.heap[w.heap.size]? = some (.cells #[.int .i64 part, .slice (some ⟨b, off, none⟩) ms.length cap] 30 (0, 0)) ∧ V.heap[w.heap.size + 1]? = some (.cells #[.int .i64 0, .int .i64 0, .int .i64 0] 54 (0, 0)) ∧ V.heap[w.heap.size + 1 + 1]? = some (.cells #[.int .i64 0, .int .i64 0, .int .i64 0] 54 (0, 0)) ∧ V.heap[sb]? = some (.cells #[.int .i64 (curS pre).bar, .int .i64 (curS pre).at_.n, .int .i64 (curS pre).at_.d] 54 (0, 0)) ∧ V.heap[sb + 1]? = some (.cells #[.int .i64 (startP ms.length).bar, .int .i64 (startP ms.length).at_.n, .int .i64 (startP ms.length).at_.d] 54 (0, 0)) ∧ Below w.heap.size w V ∧ w5.heap.size ≤ V.heap.size) ?hI
    (fun _ _ => False) (fun _ _ _ h _ => h) ⟨k1, k2, k3, k7, k8, hb5, Nat.le_refl _⟩
    (fun x a' V => ∃ Bx, w5.heap.size ≤ Bx ∧ V.heap[Bx]? = some (.cells #[.int .i64 (endR x).bar, .int .i64 (endR x).at_.n, .int .i64 (endR x).at_.d] 54 (0, 0)) ∧ a' = { tmps := #[.agg #[.int .i64 part, .slice (some ⟨b, off, none⟩) ms.length cap], .int .i64 at_, .pointer (some ⟨w.heap.size, 0, none⟩), undef, .pointer (some ⟨w.heap.size + 1, 0, none⟩), .pointer (some ⟨w.heap.size + 1 + 1, 0, none⟩), .int .i64 ms.length, .pointer (some ⟨sb, 0, none⟩), .pointer (some ⟨sb + 1, 0, none⟩), undef, .pointer (some ⟨Bx, 0, none⟩), undef, .pointer (some ⟨w.heap.size, 1, none⟩), .slice (some ⟨b, off, none⟩) ms.length cap, .int .i64 ms.length, .agg #[.int .i64 0, .int .i64 0, .int .i64 1], .int .i64 ms.length, .agg #[.int .i64 ms.length, .int .i64 0, .int .i64 1], .agg #[.int .i64 part, .slice (some ⟨b, off, none⟩) ms.length cap], .int .i64 at_, .func (.func 112) #[] #[.pointer (some ⟨W3.heap.size + 1, 0, none⟩), .pointer (some ⟨W3.heap.size + 2, 0, none⟩), .pointer (some ⟨W3.heap.size, 0, none⟩)], .agg #[.int .i64 ((x.1.1 : Nat) : Int), .int .i64 x.1.2.start.n, .int .i64 x.1.2.start.d], .agg #[.int .i64 (endR x).bar, .int .i64 (endR x).at_.n, .int .i64 (endR x).at_.d], undef, undef, undef, undef, undef, undef, undef, undef, undef, undef, undef, undef, undef, undef, undef, undef], defers := [] }) ?hAx ?hassign ?hbody ?hdone (fun _ _ _ _ h _ => h.elim)
  case hseq =>
    exact sounds1_in 5 (by omega) [sb] part b off cap ms 0 at_ _ _ _ w w5 HV.out (Nat.zero_le _) hat kv kf ku ⟨by simp; omega, by simp; omega, by simp; omega⟩ (fun k hk => by simp at hk; omega) HM.out hb5
  case hKb =>
    intro V l0 o o' _ hV hc
    exact KeptC.put hV hc
  case hI =>
    rintro pre X Y ⟨i1, i2, i3, i4, i5, i6, i7⟩ hb
    exact ⟨(hb.block _ (by omega)).trans i1, (hb.block _ (by omega)).trans i2, (hb.block _ (by omega)).trans i3, (hb.block _ (by omega)).trans i4, (hb.block _ (by omega)).trans i5, i6.trans (hb.mono (by omega)), Nat.le_trans i7 hb.size⟩
  case hAx =>
    rintro x a' u V V' row ⟨Bx, h1, h2, h3⟩ hg hrow
    refine ⟨Bx, h1, (hg.block _ (lt_of_block h2) (fun e => ?_)).trans h2, h3⟩
    obtain ⟨_, o, ho, hc⟩ := hrow Bx e.symm
    rw [h2] at ho; cases ho; cases hc
  case hassign =>
    rintro l0 pre x V K ⟨i1, i2, i3, i4, i5, i6, i7⟩ hK
    gi_wp2
    refine hK _ _ ((KeepsOthers.alloc _ _).from _) (KeptC.below ((RowKit.Below.refl _ _).alloc (Nat.le_refl _) _)) ⟨up_alloc i1 _, up_alloc i2 _, up_alloc i3 _, up_alloc i4 _, up_alloc i5 _, i6.alloc i6.size _, by simp; omega⟩ ⟨V.heap.size, i7, heap_alloc_new _ _, ?_⟩
    rw [hz3]
    rfl
  case hbody =>
    rintro l0 pre x a' V hl0 ⟨i1, i2, i3, i4, i5, i6, i7⟩ ⟨Bx, hBx, hbx, rfl⟩ hlt
    have HLa := Lib.hid (fun V => turnLater_any (endR x) (curS pre) V (endR_dur HV.out x) (curS_dur HV.out pre))
    have HSn := Lib.hid (curS_snoc pre x)
    have hc7 := box_cells i4; have hf7 := box_free i4; have hcx := box_cells hbx
    have HI1 := Lib.hid i1; have HI2 := Lib.hid i2; have HI3 := Lib.hid i3; have HI4 := Lib.hid i4; have HI5 := Lib.hid i5; have HI6 := Lib.hid i6; have HBx := Lib.hid hbx
    clear i1 i2 i3 i4 i5 i6 hbx
    generalize endR x = E at *
    generalize curS pre = C at *
    generalize curS (pre ++ [x]) = C2 at *
    cases hl : laterB E C
    · rw [hl] at HLa HSn
      have HC := Lib.hid (show C2 = C from HSn.out)
      clear hl HSn
      gi_wp2_with (gi_at_call 70; refine (CallsIn.inRound l0 (callsIn_wide.2 (HLa.out _))).mono ?_; rintro e W2 ⟨rfl, hb2⟩; have HB2 := Lib.hid hb2; clear hb2; have i4 := blk_keep HI4.out HB2.out; have ix := blk_keep HBx.out HB2.out; clear hc7 hf7 hcx; have hc7 := box_cells i4; have hf7 := box_free i4; have hcx := box_cells ix; clear i4 ix)
      have KB : KeepB V.heap.size [sb] V W2 := KeepB.of_below HB2.out (Nat.le_refl _)
      rw [HC.out]
      exact ⟨keepsFrom_keepB KB (by simp; omega), KeptC.keepB KB, blk_keep HI1.out HB2.out, blk_keep HI2.out HB2.out, blk_keep HI3.out HB2.out, blk_keep HI4.out HB2.out, blk_keep HI5.out HB2.out, HI6.out.trans (HB2.out.mono HI6.out.size), Nat.le_trans i7 HB2.out.size⟩
    · rw [hl] at HLa HSn
      have HC := Lib.hid (show C2 = E from HSn.out)
      clear hl HSn
      gi_wp2_with (gi_at_call 70; refine (CallsIn.inRound l0 (callsIn_wide.2 (HLa.out _))).mono ?_; rintro e W2 ⟨rfl, hb2⟩; have HB2 := Lib.hid hb2; clear hb2; have i4 := blk_keep HI4.out HB2.out; have ix := blk_keep HBx.out HB2.out; clear hc7 hf7 hcx; have hc7 := box_cells i4; have hf7 := box_free i4; have hcx := box_cells ix; clear i4 ix)
      have KB := (((KeepB.of_below (S := [sb]) HB2.out (Nat.le_refl _)).set (p := ⟨sb, 0, none⟩) (.inl (by simp)) (.int .i64 E.bar)).set (p := ⟨sb, 1, none⟩) (.inl (by simp)) (.int .i64 E.at_.n)).set (p := ⟨sb, 2, none⟩) (.inl (by simp)) (.int .i64 E.at_.d)
      rw [HC.out]
      exact ⟨keepsFrom_keepB KB (by simp; omega), KeptC.keepB KB, KB.at_ HI1.out (lt_blk HI1.out) (by simp; omega), KB.at_ HI2.out (lt_blk HI2.out) (by simp; omega), KB.at_ HI3.out (lt_blk HI3.out) (by simp; omega), heap_setCell_same _ _ _ _ _ _ (heap_setCell_same _ _ _ _ _ _ (heap_setCell_same _ _ _ _ _ _ (blk_keep HI4.out HB2.out))), KB.at_ HI5.out (lt_blk HI5.out) (by simp), KB.onBelow HI6.out HI6.out.size (by simp; omega), Nat.le_trans i7 KB.size⟩
  case hdone =>
    rintro D xs V hD hS ⟨i1, i2, i3, i4, i5, i6, i7⟩ hK
    have HSi := Lib.hid (curS_all (k := at_) (by simpa using hS))
    rw [HSi.out] at i4
    clear HSi hS k1 k2 k3 k7 k8 kv kf ku
    obtain ⟨SI, hSI⟩ : ∃ SI, SI = sinceP (ms.map Me.says) at_ := ⟨_, rfl⟩
    rw [← hSI] at i4
    have HSI := Lib.hid hSI
    clear hSI
    have hc1 := box_cells i1
    have HB := Lib.hid i6
    go_wp2_with (go_at_call 69; refine (sounds_any part (some ⟨b, off, none⟩) ms.length cap at_ ms.length V).mono ?_; rintro e w7 ⟨rfl, hw7⟩; have HW7 := Lib.hid hw7; clear hw7)
    have hz7 : w7.heap.size = V.heap.size + 3 := by rw [HW7.out]; simp
    obtain ⟨kv, kf, ku, hb7'⟩ := box3 (w := V) (A := .cells #[.int .i64 part, .slice (some ⟨b, off, none⟩) ms.length cap] 30 (0, 0)) (B := .cells #[.int .i64 at_] 3 (0, 0)) (C := .cells #[.int .i64 ms.length] 3 (0, 0)) (w' := w7) (by rw [HW7.out]; exact Below.refl _ _)
    have hb7 : Below w.heap.size w w7 := i6.trans (hb7'.mono i6.size)
    have k2 := blk_keep i2 hb7'; have k3 := blk_keep i3 hb7'; have k7 := blk_keep i4 hb7'; have k8 := blk_keep i5 hb7'; have kD := blk_keep hK hb7'
    have hDl := lt_blk hK
    clear i1 i2 i3 i4 i5 i6 hc1 HB HW7 hb7' hK hb5
    refine (wpIn_wide (n := 6)).1 ?_
    refine rangeFunc_low (α := SndR ms) rfl (by omega) (gf := 112) (lb := #[.pointer (some ⟨V.heap.size + 1, 0, none⟩), .pointer (some ⟨V.heap.size + 2, 0, none⟩), .pointer (some ⟨V.heap.size, 0, none⟩)]) rfl trivial (enters_of Tryz.func112 (by kernel_rfl) rfl) (encs := encSnd) (fun _ => rfl)
      (Kp := KeptC [sb + 1]) (S := fun xs => xs.map Subtype.val = sndL (ms.map Me.says) at_ (ms.length - at_)) (N := 1000000000000) ?hseq2 KeptC.trans ?hKb2
      (fun pre X => X.heap[w.heap.size + 1]? = some (.cells #[.int .i64 0, .int .i64 0, .int .i64 0] 54 (0, 0)) ∧ X.heap[w.heap.size + 1 + 1]? = some (.cells #[.int .i64 0, .int .i64 0, .int .i64 0] 54 (0, 0)) ∧ X.heap[sb]? = some (.cells #[.int .i64 (SI).bar, .int .i64 (SI).at_.n, .int .i64 (SI).at_.d] 54 (0, 0)) ∧ X.heap[sb + 1]? = some (.cells #[.int .i64 (curU pre).bar, .int .i64 (curU pre).at_.n, .int .i64 (curU pre).at_.d] 54 (0, 0)) ∧ X.heap[D]? = some (.deferred (some [])) ∧ Below w.heap.size w X ∧ w7.heap.size ≤ X.heap.size) ?hI2
      (fun _ _ => False) (fun _ _ _ h _ => h) ⟨k2, k3, k7, k8, kD, hb7, Nat.le_refl _⟩
      (fun x a' X => ∃ Bx, w7.heap.size ≤ Bx ∧ X.heap[Bx]? = some (.cells #[.int .i64 (fromR x).bar, .int .i64 (fromR x).at_.n, .int .i64 (fromR x).at_.d] 54 (0, 0)) ∧ a' = { tmps := #[.agg #[.int .i64 part, .slice (some ⟨b, off, none⟩) ms.length cap], .int .i64 at_, .pointer (some ⟨w.heap.size, 0, none⟩), undef, .pointer (some ⟨w.heap.size + 1, 0, none⟩), .pointer (some ⟨w.heap.size + 1 + 1, 0, none⟩), .int .i64 ms.length, .pointer (some ⟨sb, 0, none⟩), .pointer (some ⟨sb + 1, 0, none⟩), undef, undef, .pointer (some ⟨Bx, 0, none⟩), .pointer (some ⟨w.heap.size, 1, none⟩), .slice (some ⟨b, off, none⟩) ms.length cap, .int .i64 ms.length, .agg #[.int .i64 0, .int .i64 0, .int .i64 1], .int .i64 ms.length, .agg #[.int .i64 ms.length, .int .i64 0, .int .i64 1], .agg #[.int .i64 part, .slice (some ⟨b, off, none⟩) ms.length cap], .int .i64 at_, .func (.func 112) #[] #[.pointer (some ⟨W3.heap.size + 1, 0, none⟩), .pointer (some ⟨W3.heap.size + 2, 0, none⟩), .pointer (some ⟨W3.heap.size, 0, none⟩)], undef, undef, undef, undef, undef, undef, .agg #[.int .i64 part, .slice (some ⟨b, off, none⟩) ms.length cap], .int .i64 at_, .int .i64 ms.length, .func (.func 112) #[] #[.pointer (some ⟨V.heap.size + 1, 0, none⟩), .pointer (some ⟨V.heap.size + 2, 0, none⟩), .pointer (some ⟨V.heap.size, 0, none⟩)], .agg #[.int .i64 (fromR x).bar, .int .i64 (fromR x).at_.n, .int .i64 (fromR x).at_.d], .agg #[.int .i64 (endR x).bar, .int .i64 (endR x).at_.n, .int .i64 (endR x).at_.d], undef, undef, undef, undef, undef, undef], defers := [] }) ?hAx2 ?hassign2 ?hbody2 ?hdone2 (fun _ _ _ _ h _ => h.elim)
    case hseq2 =>
      exact sounds1_in 5 (by omega) [sb + 1] part b off cap ms at_ ms.length _ _ _ w w7 HV.out hat (Nat.le_refl _) kv kf ku ⟨by simp; omega, by simp; omega, by simp; omega⟩ (fun k hk => by simp at hk; omega) HM.out hb7
    case hKb2 =>
      intro V l0 o o' _ hV hc
      exact KeptC.put hV hc
    case hI2 =>
      rintro pre X Y ⟨i2, i3, i4, i5, i6, i7, i8⟩ hb
      exact ⟨(hb.block _ (by omega)).trans i2, (hb.block _ (by omega)).trans i3, (hb.block _ (by omega)).trans i4, (hb.block _ (by omega)).trans i5, (hb.block _ (by omega)).trans i6, i7.trans (hb.mono (by omega)), Nat.le_trans i8 hb.size⟩
    case hAx2 =>
      rintro x a' u V V' row ⟨Bx, h1, h2, h3⟩ hg hrow
      refine ⟨Bx, h1, (hg.block _ (lt_of_block h2) (fun e => ?_)).trans h2, h3⟩
      obtain ⟨_, o, ho, hc⟩ := hrow Bx e.symm
      rw [h2] at ho; cases ho; cases hc
    case hassign2 =>
      rintro l0 pre x X K ⟨i2, i3, i4, i5, i6, i7, i8⟩ hK
      gi_wp2
      refine hK _ _ ((KeepsOthers.alloc _ _).from _) (KeptC.below ((RowKit.Below.refl _ _).alloc (Nat.le_refl _) _)) ⟨up_alloc i2 _, up_alloc i3 _, up_alloc i4 _, up_alloc i5 _, up_alloc i6 _, i7.alloc i7.size _, by simp; omega⟩ ⟨X.heap.size, i8, heap_alloc_new _ _, ?_⟩
      rw [hz3]
      rfl
    case hbody2 =>
      rintro l0 pre x a' X hl0 ⟨i2, i3, i4, i5, i6, i7, i8⟩ ⟨Bx, hBx, hbx, rfl⟩ hlt
      have HLa := Lib.hid (fun V => turnLater_any (curU pre) (fromR x) V (curU_dur HV.out pre) (fromR_dur HV.out x))
      have HSn := Lib.hid (curU_snoc pre x)
      have hc7 := box_cells i5; have hf7 := box_free i5; have hcx := box_cells hbx
      have HI2 := Lib.hid i2; have HI3 := Lib.hid i3; have HI4 := Lib.hid i4; have HI5 := Lib.hid i5; have HI6 := Lib.hid i6; have HI7 := Lib.hid i7; have HBx := Lib.hid hbx
      clear i2 i3 i4 i5 i6 i7 hbx
      generalize fromR x = E at *
      generalize curU pre = C at *
      generalize curU (pre ++ [x]) = C2 at *
      cases hl : laterB C E
      · rw [hl] at HLa HSn
        have HC := Lib.hid (show C2 = C from HSn.out)
        clear hl HSn
        gi_wp2_with (gi_at_call 70; refine (CallsIn.inRound l0 (callsIn_wide.2 (HLa.out _))).mono ?_; rintro e W2 ⟨rfl, hb2⟩; have HB2 := Lib.hid hb2; clear hb2; have i4 := blk_keep HI5.out HB2.out; have ix := blk_keep HBx.out HB2.out; clear hc7 hf7 hcx; have hc7 := box_cells i4; have hf7 := box_free i4; have hcx := box_cells ix; clear i4 ix)
        have KB : KeepB X.heap.size [sb + 1] X W2 := KeepB.of_below HB2.out (Nat.le_refl _)
        rw [HC.out]
        exact ⟨keepsFrom_keepB KB (by simp; omega), KeptC.keepB KB, blk_keep HI2.out HB2.out, blk_keep HI3.out HB2.out, blk_keep HI4.out HB2.out, blk_keep HI5.out HB2.out, blk_keep HI6.out HB2.out, HI7.out.trans (HB2.out.mono HI7.out.size), Nat.le_trans i8 HB2.out.size⟩
      · rw [hl] at HLa HSn
        have HC := Lib.hid (show C2 = E from HSn.out)
        clear hl HSn
        gi_wp2_with (gi_at_call 70; refine (CallsIn.inRound l0 (callsIn_wide.2 (HLa.out _))).mono ?_; rintro e W2 ⟨rfl, hb2⟩; have HB2 := Lib.hid hb2; clear hb2; have i4 := blk_keep HI5.out HB2.out; have ix := blk_keep HBx.out HB2.out; clear hc7 hf7 hcx; have hc7 := box_cells i4; have hf7 := box_free i4; have hcx := box_cells ix; clear i4 ix)
        have KB := (((KeepB.of_below (S := [sb + 1]) HB2.out (Nat.le_refl _)).set (p := ⟨sb + 1, 0, none⟩) (.inl (by simp)) (.int .i64 E.bar)).set (p := ⟨sb + 1, 1, none⟩) (.inl (by simp)) (.int .i64 E.at_.n)).set (p := ⟨sb + 1, 2, none⟩) (.inl (by simp)) (.int .i64 E.at_.d)
        rw [HC.out]
        exact ⟨keepsFrom_keepB KB (by simp; omega), KeptC.keepB KB, KB.at_ HI2.out (lt_blk HI2.out) (by simp; omega), KB.at_ HI3.out (lt_blk HI3.out) (by simp; omega), KB.at_ HI4.out (lt_blk HI4.out) (by simp), heap_setCell_same _ _ _ _ _ _ (heap_setCell_same _ _ _ _ _ _ (heap_setCell_same _ _ _ _ _ _ (blk_keep HI5.out HB2.out))), KB.at_ HI6.out (lt_blk HI6.out) (by simp; omega), KB.onBelow HI7.out HI7.out.size (by simp; omega), Nat.le_trans i8 KB.size⟩
    case hdone2 =>
      rintro D2 ys X hD2 hS ⟨i2, i3, i4, i5, i6, i7, i8⟩ hK2
      have HSi := Lib.hid (curU_all (k := at_) hS)
      rw [HSi.out] at i5
      clear HSi hS k2 k3 k7 k8 kD kv kf ku
      obtain ⟨UN, hUN⟩ : ∃ UN, UN = untilP (ms.map Me.says) at_ := ⟨_, rfl⟩
      rw [← hUN] at i5
      have HUN := Lib.hid hUN
      clear hUN
      have h2 := box_cells i2; have h3 := box_cells i3; have h4 := box_cells i4; have h5 := box_cells i5; have f2 := box_free i2; have f3 := box_free i3
      go_wp2
      go_region
      go_wp2
      have q2 : ((((((X.setCell ⟨w.heap.size + 1, 0, none⟩ (.int .i64 SI.bar)).setCell ⟨w.heap.size + 1, 1, none⟩ (.int .i64 SI.at_.n)).setCell ⟨w.heap.size + 1, 2, none⟩ (.int .i64 SI.at_.d)).setCell ⟨w.heap.size + 1 + 1, 0, none⟩ (.int .i64 UN.bar)).setCell ⟨w.heap.size + 1 + 1, 1, none⟩ (.int .i64 UN.at_.n)).setCell ⟨w.heap.size + 1 + 1, 2, none⟩ (.int .i64 UN.at_.d)).heap[w.heap.size + 1]? = some (.cells #[.int .i64 (SI).bar, .int .i64 (SI).at_.n, .int .i64 (SI).at_.d] 54 (0, 0)) :=
        set1_far (set1_far (set1_far (heap_setCell_same _ _ _ _ _ _ (heap_setCell_same _ _ _ _ _ _ (heap_setCell_same _ _ _ _ _ _ i2))) (by omega) _) (by omega) _) (by omega) _
      have q3 : ((((((X.setCell ⟨w.heap.size + 1, 0, none⟩ (.int .i64 SI.bar)).setCell ⟨w.heap.size + 1, 1, none⟩ (.int .i64 SI.at_.n)).setCell ⟨w.heap.size + 1, 2, none⟩ (.int .i64 SI.at_.d)).setCell ⟨w.heap.size + 1 + 1, 0, none⟩ (.int .i64 UN.bar)).setCell ⟨w.heap.size + 1 + 1, 1, none⟩ (.int .i64 UN.at_.n)).setCell ⟨w.heap.size + 1 + 1, 2, none⟩ (.int .i64 UN.at_.d)).heap[w.heap.size + 1 + 1]? = some (.cells #[.int .i64 (UN).bar, .int .i64 (UN).at_.n, .int .i64 (UN).at_.d] 54 (0, 0)) :=
        heap_setCell_same _ _ _ _ _ _ (heap_setCell_same _ _ _ _ _ _ (heap_setCell_same _ _ _ _ _ _ (set1_far (set1_far (set1_far i3 (by omega) _) (by omega) _) (by omega) _)))
      have far6 : ∀ {k : Nat} {o : Obj}, X.heap[k]? = some o → k ≠ w.heap.size + 1 → k ≠ w.heap.size + 1 + 1 → ((((((X.setCell ⟨w.heap.size + 1, 0, none⟩ (.int .i64 SI.bar)).setCell ⟨w.heap.size + 1, 1, none⟩ (.int .i64 SI.at_.n)).setCell ⟨w.heap.size + 1, 2, none⟩ (.int .i64 SI.at_.d)).setCell ⟨w.heap.size + 1 + 1, 0, none⟩ (.int .i64 UN.bar)).setCell ⟨w.heap.size + 1 + 1, 1, none⟩ (.int .i64 UN.at_.n)).setCell ⟨w.heap.size + 1 + 1, 2, none⟩ (.int .i64 UN.at_.d)).heap[k]? = some o :=
        fun h h1 h2 => set1_far (set1_far (set1_far (set1_far (set1_far (set1_far h h1 _) h1 _) h1 _) h2 _) h2 _) h2 _
      have qD := far6 i6 (by omega) (by omega)
      have qD2 := far6 hK2 (by omega) (by omega)
      have qb := ((((((i7.setCell (p := ⟨w.heap.size + 1, 0, none⟩) (by simp) (.int .i64 SI.bar)).setCell (p := ⟨w.heap.size + 1, 1, none⟩) (by simp) (.int .i64 SI.at_.n)).setCell (p := ⟨w.heap.size + 1, 2, none⟩) (by simp) (.int .i64 SI.at_.d)).setCell (p := ⟨w.heap.size + 1 + 1, 0, none⟩) (by simp; omega) (.int .i64 UN.bar)).setCell (p := ⟨w.heap.size + 1 + 1, 1, none⟩) (by simp; omega) (.int .i64 UN.at_.n)).setCell (p := ⟨w.heap.size + 1 + 1, 2, none⟩) (by simp; omega) (.int .i64 UN.at_.d)).drew
      clear far6 h2 h3 h4 h5 f2 f3
      generalize ((((((X.setCell ⟨w.heap.size + 1, 0, none⟩ (.int .i64 SI.bar)).setCell ⟨w.heap.size + 1, 1, none⟩ (.int .i64 SI.at_.n)).setCell ⟨w.heap.size + 1, 2, none⟩ (.int .i64 SI.at_.d)).setCell ⟨w.heap.size + 1 + 1, 0, none⟩ (.int .i64 UN.bar)).setCell ⟨w.heap.size + 1 + 1, 1, none⟩ (.int .i64 UN.at_.n)).setCell ⟨w.heap.size + 1 + 1, 2, none⟩ (.int .i64 UN.at_.d)) = X4 at *
      have r2 : X4.drew.heap[w.heap.size + 1]? = _ := q2
      have r3 : X4.drew.heap[w.heap.size + 1 + 1]? = _ := q3
      have rD : X4.drew.heap[D]? = _ := qD
      have rD2 : X4.drew.heap[D2]? = _ := qD2
      generalize X4.drew = X5 at *
      have rD' : (X5.putObj D2 (.deferred none)).heap[D]? = some (.deferred (some [])) := (World.putObj_heap_other (by omega)).trans rD
      have s2 : ((X5.putObj D2 (.deferred none)).putObj D (.deferred none)).heap[w.heap.size + 1]? = some (.cells #[.int .i64 (SI).bar, .int .i64 (SI).at_.n, .int .i64 (SI).at_.d] 54 (0, 0)) := (World.putObj_heap_other (by omega)).trans ((World.putObj_heap_other (by omega)).trans r2)
      have s3 : ((X5.putObj D2 (.deferred none)).putObj D (.deferred none)).heap[w.heap.size + 1 + 1]? = some (.cells #[.int .i64 (UN).bar, .int .i64 (UN).at_.n, .int .i64 (UN).at_.d] 54 (0, 0)) := (World.putObj_heap_other (by omega)).trans ((World.putObj_heap_other (by omega)).trans r3)
      refine ⟨by simp, .inl ⟨_, _, rfl, run_takeDeferred rD2, by simp, .inl ⟨_, _, rfl, run_takeDeferred rD', ?_⟩⟩⟩
      have hq := (qb.trans (below_put (l := D2) (o := .deferred none) (by omega))).trans (below_put (l := D) (o := .deferred none) (by omega))
      generalize (X5.putObj D2 (.deferred none)).putObj D (.deferred none) = X6 at *
      have h2 := box_cells s2; have h3 := box_cells s3
      exact ⟨_, by simp [results, Tryz.results35, go_sem, h2, h3]; rfl, by rw [HSI.out, HUN.out], hq⟩
open Go.RowKit Go.Sort

theorem pos3_at {w : World} {c : Nat} {u0 u1 u2 v0 v1 v2 : Value} {T : TypeId} (h : w.heap[c]? = some (.cells #[u0, u1, u2] T (0, 0))) : (((w.setCell ⟨c, 0, none⟩ v0).setCell ⟨c, 1, none⟩ v1).setCell ⟨c, 2, none⟩ v2).heap[c]? = some (.cells #[v0, v1, v2] T (0, 0)) :=
  heap_setCell_same _ _ _ _ _ _ (heap_setCell_same _ _ _ _ _ _ (heap_setCell_same _ _ _ _ _ _ h))
theorem pos3_far {w : World} {b c : Nat} {o : Obj} {v0 v1 v2 : Value} (h : w.heap[b]? = some o) (hne : b ≠ c) : (((w.setCell ⟨c, 0, none⟩ v0).setCell ⟨c, 1, none⟩ v1).setCell ⟨c, 2, none⟩ v2).heap[b]? = some o := set1_far (set1_far (set1_far h hne _) hne _) hne _
theorem pos3_below {n : Nat} {w0 w : World} {c : Nat} {v0 v1 v2 : Value} (h : Below n w0 w) (hc : n ≤ c) : Below n w0 (((w.setCell ⟨c, 0, none⟩ v0).setCell ⟨c, 1, none⟩ v1).setCell ⟨c, 2, none⟩ v2) := ((h.setCell (p := ⟨c, 0, none⟩) hc _).setCell (p := ⟨c, 1, none⟩) hc _).setCell (p := ⟨c, 2, none⟩) hc _
theorem of0_any (w : World) : Calls Tryz.prog 25 #[.int .i64 0] w fun e w' => e = .returned (.agg #[.int .i64 0, .int .i64 1]) ∧ Below w.heap.size w w' := by
  have h := tOf_any 0 w (by decide) (by decide)
  rw [show ofT 0 = ⟨0, 1⟩ by decide] at h
  exact h
set_option maxHeartbeats 8000000 in
set_option maxRecDepth 100000 in
theorem rSince_any (part : Int) (b off cap : Nat) (ms : List Me) (at_ : Nat) (w : World) (hv : MsV ms) (hat : at_ ≤ ms.length) (hm : MeAt w (some ⟨b, off, none⟩) ms) :
    Calls Tryz.prog 21 #[.agg #[.int .i64 part, .slice (some ⟨b, off, none⟩) ms.length cap], .int .i64 at_] w fun e w' => e = .returned (.agg #[.int .i64 (sinceP (ms.map Me.says) at_).bar, .int .i64 (sinceP (ms.map Me.says) at_).at_.n, .int .i64 (sinceP (ms.map Me.says) at_).at_.d]) ∧ Below w.heap.size w w' := by
  have hfew := hv.few
  have HV := Lib.hid hv
  have HM := Lib.hid hm
  clear hv hm
  obtain ⟨x1, x2, hb⟩ := box2 (w := w) (A := .cells #[.int .i64 part, .slice (some ⟨b, off, none⟩) ms.length cap] 30 (0, 0)) (B := .cells #[.int .i64 0, .int .i64 0, .int .i64 0] 54 (0, 0)) (Below.refl _ _)
  have HX1 := Lib.hid x1; have HX2 := Lib.hid x2; have HB := Lib.hid hb
  clear x1 x2 hb
  go_enter Tryz.func21, Tryz.ntmps21
  go_upto_region 1 with (fail)
  generalize (w.alloc (.cells #[.int .i64 part, .slice (some ⟨b, off, none⟩) ms.length cap] 30 (0, 0))).alloc (.cells #[.int .i64 0, .int .i64 0, .int .i64 0] 54 (0, 0)) = W at *
  go_upto_region 2 with (go_at_call 25; refine (of0_any _).mono ?_; rintro e w' ⟨rfl, hb⟩; replace HX1 := Lib.hid (blk_keep HX1.out hb); replace HX2 := Lib.hid (blk_keep HX2.out hb); replace HB := Lib.hid (HB.out.trans (hb.mono HB.out.size)); clear hb)
  have hlw : w.heap.size + 1 < w'.heap.size := lt_blk HX2.out
  have HX5 := Lib.hid (heap_alloc_new w' (.cells #[.int .i64 (startP 0).bar, .int .i64 (startP 0).at_.n, .int .i64 (startP 0).at_.d] 54 (0, 0)))
  replace HX1 := Lib.hid (up_alloc HX1.out (.cells #[.int .i64 (startP 0).bar, .int .i64 (startP 0).at_.n, .int .i64 (startP 0).at_.d] 54 (0, 0))); replace HX2 := Lib.hid (up_alloc HX2.out (.cells #[.int .i64 (startP 0).bar, .int .i64 (startP 0).at_.n, .int .i64 (startP 0).at_.d] 54 (0, 0))); replace HB := Lib.hid (HB.out.alloc HB.out.size (.cells #[.int .i64 (startP 0).bar, .int .i64 (startP 0).at_.n, .int .i64 (startP 0).at_.d] 54 (0, 0)))
  change Code.wp _ _ _ _ (w'.alloc (.cells #[.int .i64 (startP 0).bar, .int .i64 (startP 0).at_.n, .int .i64 (startP 0).at_.d] 54 (0, 0)))
  generalize w'.alloc (.cells #[.int .i64 (startP 0).bar, .int .i64 (startP 0).at_.n, .int .i64 (startP 0).at_.d] 54 (0, 0)) = W2 at *
  generalize w'.heap.size = ob at *
  go_wp2
  go_loopw [6] (fun s6 wi => ∃ i : Nat, i ≤ at_ ∧ s6 = .int .i64 i ∧ wi.heap[w.heap.size]? = some (.cells #[.int .i64 part, .slice (some ⟨b, off, none⟩) ms.length cap] 30 (0, 0)) ∧ wi.heap[w.heap.size + 1]? = some (.cells #[.int .i64 0, .int .i64 0, .int .i64 0] 54 (0, 0)) ∧ wi.heap[ob]? = some (.cells #[.int .i64 (maxP (startP 0) (endsL (ms.map Me.says) 0 i)).bar, .int .i64 (maxP (startP 0) (endsL (ms.map Me.says) 0 i)).at_.n, .int .i64 (maxP (startP 0) (endsL (ms.map Me.says) 0 i)).at_.d] 54 (0, 0)) ∧ Below w.heap.size w wi) (fun s6 _ => at_ - (intOf s6).toNat)
  case atStart => exact ⟨0, Nat.zero_le _, rfl, HX1.out, HX2.out, HX5.out, HB.out⟩
  case round =>
    clear HX1 HX2 HX5 HB
    obtain ⟨i, hi, rfl, hx1, hx2, hx5, hb⟩ := hrel
    have HX1 := Lib.hid hx1; have HX2 := Lib.hid hx2; have HX5 := Lib.hid hx5; have HB := Lib.hid hb
    clear hx1 hx2 hx5 hb
    by_cases hlt : i < at_
    · have hil : i < ms.length := by omega
      have hsm := HV.out.small i hil
      have HNo := Lib.hid (HV.out.note i hil)
      have HSu := Lib.hid (show endsL (ms.map Me.says) 0 (i + 1) = endsL (ms.map Me.says) 0 i ++ ms[i].notes.map (endQ i ms[i].len) by rw [ends_succ, says_getD ms hil]; rfl)
      have HRe := Lib.hid (fun x hx V (hV : Below w.heap.size w V) => rEnd_any part b off cap ms i hil x V (HM.out.below hV) hfew (HNo.out x hx).1 (HNo.out x hx).2.1 (HNo.out x hx).2.2)
      have HGet := Lib.hid (fun V (hV : Below w.heap.size w V) => (HM.out.below hV).get i hil)
      have HWr := Lib.hid (fun V (hV : Below w.heap.size w V) => (HM.out.below hV).notes _ (List.getElem_mem hil))
      have hil2 : (i : Int) < (ms.length : Int) := by omega
      clear HNo
      generalize endsL (ms.map Me.says) 0 i = EL at *
      generalize ms[i] = m at *
      go_wp2
      go_loopw [7] (fun s7 wi => ∃ k : Nat, k ≤ m.notes.length ∧ s7 = .int .i64 k ∧ wi.heap[w.heap.size]? = some (.cells #[.int .i64 part, .slice (some ⟨b, off, none⟩) ms.length cap] 30 (0, 0)) ∧ wi.heap[w.heap.size + 1]? = some (.cells #[.int .i64 0, .int .i64 0, .int .i64 0] 54 (0, 0)) ∧ wi.heap[ob]? = some (.cells #[.int .i64 (maxP (startP 0) (EL ++ (m.notes.take k).map (endQ i m.len))).bar, .int .i64 (maxP (startP 0) (EL ++ (m.notes.take k).map (endQ i m.len))).at_.n, .int .i64 (maxP (startP 0) (EL ++ (m.notes.take k).map (endQ i m.len))).at_.d] 54 (0, 0)) ∧ Below w.heap.size w wi) (fun s7 _ => m.notes.length - (intOf s7).toNat)
      case atStart => exact ⟨0, Nat.zero_le _, rfl, HX1.out, HX2.out, by simpa using HX5.out, HB.out⟩
      case round =>
        clear HX1 HX2 HX5 HB
        obtain ⟨k, hk, rfl, hx1, hx2, hx5, hb⟩ := hrel
        have HX1 := Lib.hid hx1; have HX2 := Lib.hid hx2; have HX5 := Lib.hid hx5; have HB := Lib.hid hb
        have hc1 := box_cells hx1
        clear hx1 hx2 hx5 hb
        obtain ⟨b', off', e, hbl, _, _, _, _, c4⟩ := HGet.out wr HB.out
        cases e
        by_cases hlt2 : k < m.notes.length
        · obtain ⟨b2, off2, e2, hbl2, d0, d1, d2, d3, d4, d5, d6, d7, d8, d9⟩ := (HWr.out wr HB.out).get k hlt2
          have HTk := Lib.hid (show EL ++ (m.notes.take (k + 1)).map (endQ i m.len) = (EL ++ (m.notes.take k).map (endQ i m.len)) ++ [endQ i m.len m.notes[k]] by rw [List.take_succ_eq_append_getElem hlt2, List.map_append, List.append_assoc]; rfl)
          have HRk := Lib.hid (HRe.out m.notes[k] (List.getElem_mem hlt2))
          rw [e2] at c4
          have hlt3 : (k : Int) < (m.notes.length : Int) := by omega
          generalize m.notes[k] = x at *
          generalize EL ++ (m.notes.take k).map (endQ i m.len) = L at *
          generalize endQ i m.len x = E at *
          have HBw := HB.out.size
          go_upto_region 8 with (fail)
          go_cut [8] (fun s8 V => ∃ pb, s8 = .pointer (some ⟨pb, 0, none⟩) ∧ wr.heap.size ≤ pb ∧ V.heap[pb]? = some (.cells #[.int .i64 (E).bar, .int .i64 (E).at_.n, .int .i64 (E).at_.d] 54 (0, 0)) ∧ Below wr.heap.size wr V)
          case first =>
            have HBr := Lib.hid (RowKit.Below.refl wr.heap.size wr)
            have j0 := hc1 0; have j1 := hc1 1
            have HRk2 := Lib.hid (fun V (hV : RowKit.Below wr.heap.size wr V) => HRk.out V (HB.out.trans (hV.mono HB.out.size)))
            have KS := Lib.hid (fun W (hb : RowKit.Below wr.heap.size wr W) => show W.cell? ⟨w.heap.size, 0, none⟩ = some (.int .i64 part) ∧ W.cell? ⟨w.heap.size, 1, none⟩ = some (.slice (some ⟨b, off, none⟩) ms.length cap) ∧ W.cell? ⟨b, off + i * 5 + 4, none⟩ = some (.slice (some ⟨b2, off2, none⟩) m.notes.length m.ncap) ∧ W.cell? ⟨b2, off2 + k * 10, none⟩ = some (.int .i64 x.id) ∧ W.cell? ⟨b2, off2 + k * 10 + 1, none⟩ = some (.int .i64 x.voice) ∧ W.cell? ⟨b2, off2 + k * 10 + 2, none⟩ = some (.int .i64 x.ossia) ∧ W.cell? ⟨b2, off2 + k * 10 + 3, none⟩ = some (.int .i64 x.start.n) ∧ W.cell? ⟨b2, off2 + k * 10 + 4, none⟩ = some (.int .i64 x.start.d) ∧ W.cell? ⟨b2, off2 + k * 10 + 5, none⟩ = some (.int .i64 x.len.n) ∧ W.cell? ⟨b2, off2 + k * 10 + 6, none⟩ = some (.int .i64 x.len.d) ∧ W.cell? ⟨b2, off2 + k * 10 + 7, none⟩ = some (.int .i64 x.pitch.s) ∧ W.cell? ⟨b2, off2 + k * 10 + 8, none⟩ = some (.int .i64 x.pitch.a) ∧ W.cell? ⟨b2, off2 + k * 10 + 9, none⟩ = some (.int .i64 x.pitch.o) from ⟨keepE j0 hb, keepE j1 hb, keepE c4 hb, keepE d0 hb, keepE d1 hb, keepE d2 hb, keepE d3 hb, keepE d4 hb, keepE d5 hb, keepE d6 hb, keepE d7 hb, keepE d8 hb, keepE d9 hb⟩)
            clear j0 j1 c4 d0 d1 d2 d3 d4 d5 d6 d7 d8 d9 hc1
            go_region_held3 (fun W => W.cell? ⟨w.heap.size, 0, none⟩ = some (.int .i64 part) ∧ W.cell? ⟨w.heap.size, 1, none⟩ = some (.slice (some ⟨b, off, none⟩) ms.length cap) ∧ W.cell? ⟨b, off + i * 5 + 4, none⟩ = some (.slice (some ⟨b2, off2, none⟩) m.notes.length m.ncap) ∧ W.cell? ⟨b2, off2 + k * 10, none⟩ = some (.int .i64 x.id) ∧ W.cell? ⟨b2, off2 + k * 10 + 1, none⟩ = some (.int .i64 x.voice) ∧ W.cell? ⟨b2, off2 + k * 10 + 2, none⟩ = some (.int .i64 x.ossia) ∧ W.cell? ⟨b2, off2 + k * 10 + 3, none⟩ = some (.int .i64 x.start.n) ∧ W.cell? ⟨b2, off2 + k * 10 + 4, none⟩ = some (.int .i64 x.start.d) ∧ W.cell? ⟨b2, off2 + k * 10 + 5, none⟩ = some (.int .i64 x.len.n) ∧ W.cell? ⟨b2, off2 + k * 10 + 6, none⟩ = some (.int .i64 x.len.d) ∧ W.cell? ⟨b2, off2 + k * 10 + 7, none⟩ = some (.int .i64 x.pitch.s) ∧ W.cell? ⟨b2, off2 + k * 10 + 8, none⟩ = some (.int .i64 x.pitch.a) ∧ W.cell? ⟨b2, off2 + k * 10 + 9, none⟩ = some (.int .i64 x.pitch.o))
              ((refine KS.out _ ?_; (repeat (first | exact HBr.out | with_reducible exact RowKit.Below.refl _ _ | with_reducible refine RowKit.Below.drew ?_ | with_reducible refine RowKit.Below.alloc ?_ (by first | (simp <;> omega) | (have := HBr.out.size; simp <;> omega)) _ | with_reducible refine RowKit.Below.setCell ?_ (by first | (simp <;> omega) | (have := HBr.out.size; simp <;> omega)) _))))
              ((go_at_call 45; refine (HRk2.out _ (by (repeat (first | exact HBr.out | with_reducible exact RowKit.Below.refl _ _ | with_reducible refine RowKit.Below.drew ?_ | with_reducible refine RowKit.Below.alloc ?_ (by first | (simp <;> omega) | (have := HBr.out.size; simp <;> omega)) _ | with_reducible refine RowKit.Below.setCell ?_ (by first | (simp <;> omega) | (have := HBr.out.size; simp <;> omega)) _)))).mono ?_; rintro e w5 ⟨rfl, hb⟩; (try replace hb := drewB hb); (first | (have x0 := box_below hb; have HX9 := Lib.hid x0; have hc9 := box_cells x0; have hf9 := box_free x0; have hz9 := lt_blk x0; clear x0; replace hb := allocB hb) | skip); (try replace hb := drewB hb); replace HBr := Lib.hid (HBr.out.trans (hb.mono HBr.out.size)); clear hb))
            all_goals
              go_wp2
              go_meet
              case rel =>
                first
                | exact ⟨_, rfl, HBr.out.size, heap_alloc_new _ _, HBr.out.alloc HBr.out.size _⟩
                | exact ⟨_, rfl, Nat.le_refl _, pos3_at HX9.out, pos3_below HBr.out (Nat.le_refl _)⟩
          case rest =>
            obtain ⟨pb, rfl, hpb, xp, hbp⟩ := hcut
            have HXp := Lib.hid xp
            replace HX1 := Lib.hid (blk_keep HX1.out hbp); replace HX2 := Lib.hid (blk_keep HX2.out hbp); replace HX5 := Lib.hid (blk_keep HX5.out hbp); replace HB := Lib.hid (HB.out.trans (hbp.mono HB.out.size))
            clear xp hbp hc1 c4 d0 d1 d2 d3 d4 d5 d6 d7 d8 d9
            have HLa := Lib.hid (fun V => tLater_any E (maxP (startP 0) L) V)
            have HSn := Lib.hid (maxP_snoc (startP 0) L E)
            rw [← HTk.out] at HSn
            have hcp := box_cells HXp.out; have hc5 := box_cells HX5.out; have hf5 := box_free HX5.out
            have hz1 := lt_blk HX1.out; have hz5 := lt_blk HX5.out
            cases hl : laterB E (maxP (startP 0) L)
            · rw [hl] at HLa HSn
              clear hl
              generalize maxP (startP 0) L = C at *
              go_wp2_with (go_at_call 26; refine (HLa.out _).mono ?_; rintro e w6 ⟨rfl, hb⟩; replace HX1 := Lib.hid (blk_keep HX1.out hb); replace HX2 := Lib.hid (blk_keep HX2.out hb); replace HX5 := Lib.hid (blk_keep HX5.out hb); replace HXp := Lib.hid (blk_keep HXp.out hb); replace HB := Lib.hid (HB.out.trans (hb.mono HB.out.size)); clear hb hcp hc5 hf5; have hcp := box_cells HXp.out; have hc5 := box_cells HX5.out; have hf5 := box_free HX5.out)
              go_roundw
              case rel => exact ⟨k + 1, by omega, by go_num, HX1.out, HX2.out, by rw [HSn.out]; exact HX5.out, HB.out⟩
              case measure => simp [intOf]; omega
            · rw [hl] at HLa HSn
              clear hl
              generalize maxP (startP 0) L = C at *
              go_wp2_with (go_at_call 26; refine (HLa.out _).mono ?_; rintro e w6 ⟨rfl, hb⟩; replace HX1 := Lib.hid (blk_keep HX1.out hb); replace HX2 := Lib.hid (blk_keep HX2.out hb); replace HX5 := Lib.hid (blk_keep HX5.out hb); replace HXp := Lib.hid (blk_keep HXp.out hb); replace HB := Lib.hid (HB.out.trans (hb.mono HB.out.size)); clear hb hcp hc5 hf5; have hcp := box_cells HXp.out; have hc5 := box_cells HX5.out; have hf5 := box_free HX5.out)
              go_roundw
              case rel => exact ⟨k + 1, by omega, by go_num, pos3_far HX1.out (by omega), pos3_far HX2.out (by omega), by rw [HSn.out]; exact pos3_at HX5.out, pos3_below HB.out (by omega)⟩
              case measure => simp [intOf]; omega
        · obtain rfl : k = m.notes.length := by omega
          rw [List.take_length, ← HSu.out] at HX5
          go_wp2
          go_roundw
          case rel => exact ⟨i + 1, by omega, by go_num, HX1.out, HX2.out, HX5.out, HB.out⟩
          case measure => simp [intOf]; omega
    · obtain rfl : i = at_ := by omega
      have HF := Lib.hid (show maxP (startP 0) (endsL (ms.map Me.says) 0 i) = sinceP (ms.map Me.says) i from rfl)
      rw [HF.out] at HX5
      obtain ⟨SI, hSI⟩ : ∃ SI, SI = sinceP (ms.map Me.says) i := ⟨_, rfl⟩
      rw [← hSI] at HX5
      have HSI := Lib.hid hSI
      clear hSI
      have hc5 := box_cells HX5.out; have hc2 := box_cells HX2.out; have hf2 := box_free HX2.out
      go_wp2
      exact bodyPost_ret (v := .agg #[.int .i64 (SI).bar, .int .i64 (SI).at_.n, .int .i64 (SI).at_.d]) (by simp [results, Tryz.results21, go_sem, hc2, hf2]) rfl ⟨by rw [HSI.out], ((HB.out.setCell (by simp <;> omega) _).setCell (by simp <;> omega) _).setCell (by simp <;> omega) _⟩
set_option maxHeartbeats 8000000 in
set_option maxRecDepth 100000 in
theorem rUntil_any (part : Int) (b off cap : Nat) (ms : List Me) (at_ : Nat) (w : World) (hv : MsV ms) (hat : at_ ≤ ms.length) (hm : MeAt w (some ⟨b, off, none⟩) ms) :
    Calls Tryz.prog 22 #[.agg #[.int .i64 part, .slice (some ⟨b, off, none⟩) ms.length cap], .int .i64 at_] w fun e w' => e = .returned (.agg #[.int .i64 (untilP (ms.map Me.says) at_).bar, .int .i64 (untilP (ms.map Me.says) at_).at_.n, .int .i64 (untilP (ms.map Me.says) at_).at_.d]) ∧ Below w.heap.size w w' := by
  have hfew := hv.few
  have HV := Lib.hid hv
  have HM := Lib.hid hm
  clear hv hm
  obtain ⟨x1, x2, hb⟩ := box2 (w := w) (A := .cells #[.int .i64 part, .slice (some ⟨b, off, none⟩) ms.length cap] 30 (0, 0)) (B := .cells #[.int .i64 0, .int .i64 0, .int .i64 0] 54 (0, 0)) (Below.refl _ _)
  have HX1 := Lib.hid x1; have HX2 := Lib.hid x2; have HB := Lib.hid hb
  clear x1 x2 hb
  go_enter Tryz.func22, Tryz.ntmps22
  go_upto_region 1 with (fail)
  generalize (w.alloc (.cells #[.int .i64 part, .slice (some ⟨b, off, none⟩) ms.length cap] 30 (0, 0))).alloc (.cells #[.int .i64 0, .int .i64 0, .int .i64 0] 54 (0, 0)) = W at *
  have hc1 := box_cells HX1.out
  have hlw : w.heap.size + 1 < W.heap.size := lt_blk HX2.out
  go_cut [5] (fun s5 V => ∃ pb, s5 = .pointer (some ⟨pb, 0, none⟩) ∧ W.heap.size ≤ pb ∧ V.heap[pb]? = some (.cells #[.int .i64 (startP ms.length).bar, .int .i64 (startP ms.length).at_.n, .int .i64 (startP ms.length).at_.d] 54 (0, 0)) ∧ Below W.heap.size W V)
  case first =>
    have HBr := Lib.hid (RowKit.Below.refl W.heap.size W)
    have j0 := hc1 0; have j1 := hc1 1
    have KS := Lib.hid (fun V (hb : RowKit.Below W.heap.size W V) => show V.cell? ⟨w.heap.size, 0, none⟩ = some (.int .i64 part) ∧ V.cell? ⟨w.heap.size, 1, none⟩ = some (.slice (some ⟨b, off, none⟩) ms.length cap) from ⟨keepE j0 hb, keepE j1 hb⟩)
    clear j0 j1 hc1
    go_region_held3 (fun V => V.cell? ⟨w.heap.size, 0, none⟩ = some (.int .i64 part) ∧ V.cell? ⟨w.heap.size, 1, none⟩ = some (.slice (some ⟨b, off, none⟩) ms.length cap))
      ((refine KS.out _ ?_; (repeat (first | exact HBr.out | with_reducible exact RowKit.Below.refl _ _ | with_reducible refine RowKit.Below.drew ?_ | with_reducible refine RowKit.Below.alloc ?_ (by first | (simp <;> omega) | (have := HBr.out.size; simp <;> omega)) _ | with_reducible refine RowKit.Below.setCell ?_ (by first | (simp <;> omega) | (have := HBr.out.size; simp <;> omega)) _))))
      ((go_at_call 25; refine (of0_any _).mono ?_; rintro e w5 ⟨rfl, hb⟩; (try replace hb := drewB hb); (first | (have x0 := box_below hb; have HX9 := Lib.hid x0; have hc9 := box_cells x0; have hf9 := box_free x0; have hz9 := lt_blk x0; clear x0; replace hb := allocB hb) | skip); (try replace hb := drewB hb); replace HBr := Lib.hid (HBr.out.trans (hb.mono HBr.out.size)); clear hb))
    all_goals
      go_wp2
      go_meet
      case rel =>
        first
        | exact ⟨_, rfl, HBr.out.size, heap_alloc_new _ _, HBr.out.alloc HBr.out.size _⟩
        | exact ⟨_, rfl, Nat.le_refl _, pos3_at HX9.out, pos3_below HBr.out (Nat.le_refl _)⟩
  case rest =>
  obtain ⟨ob, rfl, hob, xp, hbp⟩ := hcut
  have HX5 := Lib.hid xp
  replace HX1 := Lib.hid (blk_keep HX1.out hbp); replace HX2 := Lib.hid (blk_keep HX2.out hbp); replace HB := Lib.hid (HB.out.trans (hbp.mono HB.out.size))
  clear xp hbp hc1
  go_wp2
  go_loopw [6] (fun s6 wi => ∃ i : Nat, at_ ≤ i ∧ i ≤ ms.length ∧ s6 = .int .i64 i ∧ wi.heap[w.heap.size]? = some (.cells #[.int .i64 part, .slice (some ⟨b, off, none⟩) ms.length cap] 30 (0, 0)) ∧ wi.heap[w.heap.size + 1]? = some (.cells #[.int .i64 0, .int .i64 0, .int .i64 0] 54 (0, 0)) ∧ wi.heap[ob]? = some (.cells #[.int .i64 (minP (startP ms.length) (fromsL (ms.map Me.says) at_ (i - at_))).bar, .int .i64 (minP (startP ms.length) (fromsL (ms.map Me.says) at_ (i - at_))).at_.n, .int .i64 (minP (startP ms.length) (fromsL (ms.map Me.says) at_ (i - at_))).at_.d] 54 (0, 0)) ∧ Below w.heap.size w wi) (fun s6 _ => ms.length - (intOf s6).toNat)
  case atStart => exact ⟨at_, Nat.le_refl _, hat, rfl, HX1.out, HX2.out, by rw [Nat.sub_self]; exact HX5.out, HB.out⟩
  case round =>
    clear HX1 HX2 HX5 HB
    obtain ⟨i, hai, hi, rfl, hx1, hx2, hx5, hb⟩ := hrel
    have HX1 := Lib.hid hx1; have HX2 := Lib.hid hx2; have HX5 := Lib.hid hx5; have HB := Lib.hid hb
    have hc1 := box_cells hx1
    clear hx1 hx2 hx5 hb
    by_cases hlt : i < ms.length
    · have hsm := HV.out.small i hlt
      have HSu := Lib.hid (show fromsL (ms.map Me.says) at_ (i + 1 - at_) = fromsL (ms.map Me.says) at_ (i - at_) ++ ms[i].notes.map (fun w => (⟨i, w.start⟩ : Po)) by
        unfold fromsL
        rw [show i + 1 - at_ = (i - at_) + 1 by omega, List.range'_1_concat, List.flatMap_append, show at_ + (i - at_) = i by omega]
        simp only [List.flatMap_cons, List.flatMap_nil, List.append_nil]
        rw [says_getD ms hlt]
        rfl)
      have HGet := Lib.hid (fun V (hV : Below w.heap.size w V) => (HM.out.below hV).get i hlt)
      have HWr := Lib.hid (fun V (hV : Below w.heap.size w V) => (HM.out.below hV).notes _ (List.getElem_mem hlt))
      have hil2 : (i : Int) < (ms.length : Int) := by omega
      generalize fromsL (ms.map Me.says) at_ (i - at_) = EL at *
      generalize ms[i] = m at *
      go_wp2
      clear hc1
      go_loopw [7] (fun s7 wi => ∃ k : Nat, k ≤ m.notes.length ∧ s7 = .int .i64 k ∧ wi.heap[w.heap.size]? = some (.cells #[.int .i64 part, .slice (some ⟨b, off, none⟩) ms.length cap] 30 (0, 0)) ∧ wi.heap[w.heap.size + 1]? = some (.cells #[.int .i64 0, .int .i64 0, .int .i64 0] 54 (0, 0)) ∧ wi.heap[ob]? = some (.cells #[.int .i64 (minP (startP ms.length) (EL ++ (m.notes.take k).map (fun w => (⟨i, w.start⟩ : Po)))).bar, .int .i64 (minP (startP ms.length) (EL ++ (m.notes.take k).map (fun w => (⟨i, w.start⟩ : Po)))).at_.n, .int .i64 (minP (startP ms.length) (EL ++ (m.notes.take k).map (fun w => (⟨i, w.start⟩ : Po)))).at_.d] 54 (0, 0)) ∧ Below w.heap.size w wi) (fun s7 _ => m.notes.length - (intOf s7).toNat)
      case atStart => exact ⟨0, Nat.zero_le _, rfl, HX1.out, HX2.out, by simpa using HX5.out, HB.out⟩
      case round =>
        clear HX1 HX2 HX5 HB
        obtain ⟨k, hk, rfl, hx1, hx2, hx5, hb⟩ := hrel
        have HX1 := Lib.hid hx1; have HX2 := Lib.hid hx2; have HX5 := Lib.hid hx5; have HB := Lib.hid hb
        have hc1 := box_cells hx1
        clear hx1 hx2 hx5 hb
        obtain ⟨b', off', e, hbl, _, _, _, _, c4⟩ := HGet.out wr HB.out
        cases e
        by_cases hlt2 : k < m.notes.length
        · obtain ⟨b2, off2, e2, hbl2, _, _, _, d3, d4, _, _, _, _, _⟩ := (HWr.out wr HB.out).get k hlt2
          have HTk := Lib.hid (show EL ++ (m.notes.take (k + 1)).map (fun w => (⟨i, w.start⟩ : Po)) = (EL ++ (m.notes.take k).map (fun w => (⟨i, w.start⟩ : Po))) ++ [⟨i, m.notes[k].start⟩] by rw [List.take_succ_eq_append_getElem hlt2, List.map_append, List.append_assoc]; rfl)
          rw [e2] at c4
          have hlt3 : (k : Int) < (m.notes.length : Int) := by omega
          generalize m.notes[k].start = q at *
          generalize EL ++ (m.notes.take k).map (fun w => (⟨i, w.start⟩ : Po)) = L at *
          have HBw := HB.out.size
          have HLa := Lib.hid (fun V => tLater_any (minP (startP ms.length) L) ⟨i, q⟩ V)
          have HSn := Lib.hid (minP_snoc (startP ms.length) L ⟨i, q⟩)
          rw [← HTk.out] at HSn
          go_upto_region 9 with (fail)
          have HXp := Lib.hid (heap_alloc_new wr (.cells #[.int .i64 ((⟨(i : Int), q⟩ : Po)).bar, .int .i64 ((⟨(i : Int), q⟩ : Po)).at_.n, .int .i64 ((⟨(i : Int), q⟩ : Po)).at_.d] 54 (0, 0)))
          replace HX1 := Lib.hid (up_alloc HX1.out (.cells #[.int .i64 ((⟨(i : Int), q⟩ : Po)).bar, .int .i64 ((⟨(i : Int), q⟩ : Po)).at_.n, .int .i64 ((⟨(i : Int), q⟩ : Po)).at_.d] 54 (0, 0))); replace HX2 := Lib.hid (up_alloc HX2.out (.cells #[.int .i64 ((⟨(i : Int), q⟩ : Po)).bar, .int .i64 ((⟨(i : Int), q⟩ : Po)).at_.n, .int .i64 ((⟨(i : Int), q⟩ : Po)).at_.d] 54 (0, 0))); replace HX5 := Lib.hid (up_alloc HX5.out (.cells #[.int .i64 ((⟨(i : Int), q⟩ : Po)).bar, .int .i64 ((⟨(i : Int), q⟩ : Po)).at_.n, .int .i64 ((⟨(i : Int), q⟩ : Po)).at_.d] 54 (0, 0))); replace HB := Lib.hid (HB.out.alloc HB.out.size (.cells #[.int .i64 ((⟨(i : Int), q⟩ : Po)).bar, .int .i64 ((⟨(i : Int), q⟩ : Po)).at_.n, .int .i64 ((⟨(i : Int), q⟩ : Po)).at_.d] 54 (0, 0)))
          clear hc1 c4 d3 d4
          change Code.wp _ _ _ _ (wr.alloc (.cells #[.int .i64 ((⟨(i : Int), q⟩ : Po)).bar, .int .i64 ((⟨(i : Int), q⟩ : Po)).at_.n, .int .i64 ((⟨(i : Int), q⟩ : Po)).at_.d] 54 (0, 0)))
          generalize wr.alloc (.cells #[.int .i64 ((⟨(i : Int), q⟩ : Po)).bar, .int .i64 ((⟨(i : Int), q⟩ : Po)).at_.n, .int .i64 ((⟨(i : Int), q⟩ : Po)).at_.d] 54 (0, 0)) = W4 at *
          generalize wr.heap.size = pb at *
          have hcp := box_cells HXp.out; have hc5 := box_cells HX5.out; have hf5 := box_free HX5.out
          have hz1 := lt_blk HX1.out; have hz5 := lt_blk HX5.out
          cases hl : laterB (minP (startP ms.length) L) ⟨i, q⟩
          · rw [hl] at HLa HSn
            clear hl
            generalize minP (startP ms.length) L = C at *
            go_wp2_with (go_at_call 26; refine (HLa.out _).mono ?_; rintro e w6 ⟨rfl, hb⟩; replace HX1 := Lib.hid (blk_keep HX1.out hb); replace HX2 := Lib.hid (blk_keep HX2.out hb); replace HX5 := Lib.hid (blk_keep HX5.out hb); replace HXp := Lib.hid (blk_keep HXp.out hb); replace HB := Lib.hid (HB.out.trans (hb.mono HB.out.size)); clear hb hcp hc5 hf5; have hcp := box_cells HXp.out; have hc5 := box_cells HX5.out; have hf5 := box_free HX5.out)
            go_roundw
            case rel => exact ⟨k + 1, by omega, by go_num, HX1.out, HX2.out, by rw [HSn.out]; exact HX5.out, HB.out⟩
            case measure => simp [intOf]; omega
          · rw [hl] at HLa HSn
            clear hl
            generalize minP (startP ms.length) L = C at *
            go_wp2_with (go_at_call 26; refine (HLa.out _).mono ?_; rintro e w6 ⟨rfl, hb⟩; replace HX1 := Lib.hid (blk_keep HX1.out hb); replace HX2 := Lib.hid (blk_keep HX2.out hb); replace HX5 := Lib.hid (blk_keep HX5.out hb); replace HXp := Lib.hid (blk_keep HXp.out hb); replace HB := Lib.hid (HB.out.trans (hb.mono HB.out.size)); clear hb hcp hc5 hf5; have hcp := box_cells HXp.out; have hc5 := box_cells HX5.out; have hf5 := box_free HX5.out)
            go_roundw
            case rel => exact ⟨k + 1, by omega, by go_num, pos3_far HX1.out (by omega), pos3_far HX2.out (by omega), by rw [HSn.out]; exact pos3_at HX5.out, pos3_below HB.out (by omega)⟩
            case measure => simp [intOf]; omega
        · obtain rfl : k = m.notes.length := by omega
          rw [List.take_length, ← HSu.out] at HX5
          go_wp2
          go_roundw
          case rel => exact ⟨i + 1, by omega, by omega, by go_num, HX1.out, HX2.out, HX5.out, HB.out⟩
          case measure => simp [intOf]; omega
    · obtain rfl : i = ms.length := by omega
      have HF := Lib.hid (show minP (startP ms.length) (fromsL (ms.map Me.says) at_ (ms.length - at_)) = untilP (ms.map Me.says) at_ by unfold untilP; rw [List.length_map])
      rw [HF.out] at HX5
      obtain ⟨SI, hSI⟩ : ∃ SI, SI = untilP (ms.map Me.says) at_ := ⟨_, rfl⟩
      rw [← hSI] at HX5
      have HSI := Lib.hid hSI
      clear hSI
      have hc5 := box_cells HX5.out; have hc2 := box_cells HX2.out; have hf2 := box_free HX2.out
      go_wp2
      exact bodyPost_ret (v := .agg #[.int .i64 (SI).bar, .int .i64 (SI).at_.n, .int .i64 (SI).at_.d]) (by simp [results, Tryz.results22, go_sem, hc2, hf2]) rfl ⟨by rw [HSI.out], ((HB.out.setCell (by simp <;> omega) _).setCell (by simp <;> omega) _).setCell (by simp <;> omega) _⟩
end Go.Proofs.YtcelciomhngajaaGreatDoor

