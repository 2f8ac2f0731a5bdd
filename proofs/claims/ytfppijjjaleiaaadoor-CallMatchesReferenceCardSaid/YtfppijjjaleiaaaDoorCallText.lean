
/- call.text, call.Print. -/
import Derived.Test.YtfppijjjaleiaaaDoorCallRd2
import Derived.Deep.CutBlock
namespace Go.Proofs.YtfppijjjaleiaaaDoor
set_option linter.unusedSimpArgs false
set_option linter.unusedVariables false
open Go.RowKit Go.Sort

theorem byteCells_str (s : Bs) : Lib.strCells (mkS s) = Lib.byteCells s := rfl
/-- The builder in block B holds the text so far; the call's block, ahead of it, is as it was. -/
structure TxAt (w : World) (c : Cl) (acc : Bs) (W : World) : Prop where
  bld : Lib.IsBuilder 56 5 (w.heap.size + 1) (w.heap.size + 1) (Lib.byteCells acc) W
  box : W.heap[w.heap.size]? = some (.cells #[.string (mkS c.letter), .int .i64 c.number, .int .i64 c.bars, .int .i64 c.n, .int .i64 c.d, .int .i64 c.pass] 25 (0, 0))
  lo : Below w.heap.size w W
  sz : w.heap.size + 1 ≤ W.heap.size
theorem TxAt.below {w W W' : World} {c : Cl} {acc : Bs} (h : TxAt w c acc W) (hb : Below W.heap.size W W') : TxAt w c acc W' := by
  refine ⟨?_, blk_keep h.box hb, h.lo.trans (hb.mono h.lo.size), Nat.le_trans h.sz hb.size⟩
  rcases h.bld with ⟨h1, v, h2, h3, h4⟩ | ⟨h1, v, h2, h3, h4⟩
  · exact .inl ⟨h1, v, blk_keep h2 hb, ownsRow_below h3 hb, h4⟩
  · exact .inr ⟨h1, v, blk_keep h2 hb, ownsRow_below h3 hb, h4⟩
theorem TxAt.start (w : World) (c : Cl) : TxAt w c [] ((w.alloc (.cells #[.string (mkS c.letter), .int .i64 c.number, .int .i64 c.bars, .int .i64 c.n, .int .i64 c.d, .int .i64 c.pass] 25 (0, 0))).alloc (.cells #[.pointer none, .slice none 0 0] 56)) := by
  have h := Lib.fresh_isBuilder 56 5 (w.alloc (.cells #[.string (mkS c.letter), .int .i64 c.number, .int .i64 c.bars, .int .i64 c.n, .int .i64 c.d, .int .i64 c.pass] 25 (0, 0)))
  have e : (w.alloc (.cells #[.string (mkS c.letter), .int .i64 c.number, .int .i64 c.bars, .int .i64 c.n, .int .i64 c.d, .int .i64 c.pass] 25 (0, 0))).heap.size = w.heap.size + 1 := by simp
  rw [e] at h
  exact ⟨h, up_alloc (heap_alloc_new w _) _, ((Below.refl _ w).alloc (Nat.le_refl _) _).alloc (by simp) _, by simp⟩
theorem ws_any {w W : World} {c : Cl} {acc : Bs} (s : Bs) (h : TxAt w c acc W) (hl : acc.length + s.length ≤ 1000000) : Calls Tryd.prog 30 #[.pointer (some ⟨w.heap.size + 1, 0, none⟩), .string (mkS s)] W fun e W' => e = .returned (.tuple #[.int .i64 (s.length : Int), .nilIface]) ∧ TxAt w c (acc ++ s) W' := by
  refine (Any.Builder_WriteString Lay.p166 Lay.extra166 (w.heap.size + 1) (w.heap.size + 1) _ (mkS s) W h.bld (by rw [Lib.byteCells_length, mkS_size]; omega) h.sz).mono ?_
  rintro e W' ⟨rfl, h1, h2⟩
  refine ⟨rfl, ⟨.inr ?_, (h2.block _ (by omega)).trans h.box, h.lo.trans (h2.mono (by omega)), Nat.le_trans h.sz h2.size⟩⟩
  rw [byteCells_str, ← Lib.byteCells_append] at h1
  exact h1
theorem str_any {w W : World} {c : Cl} {acc : Bs} (h : TxAt w c acc W) (h0 : acc ≠ []) : Calls Tryd.prog 32 #[.pointer (some ⟨w.heap.size + 1, 0, none⟩)] W fun e W' => e = .returned (.string (mkS acc)) ∧ Below w.heap.size w W' := by
  refine (Any.Builder_String Lay.p169 Lay.extra169 (w.heap.size + 1) (w.heap.size + 1) acc W h.bld h0).mono ?_
  rintro e W' ⟨rfl, h2⟩
  exact ⟨rfl, h.lo.trans (h2.mono (by omega))⟩
theorem TxAt.cells {w W : World} {c : Cl} {acc : Bs} (h : TxAt w c acc W) : ∀ j, W.cell? ⟨w.heap.size, j, none⟩ = #[Value.string (mkS c.letter), .int .i64 c.number, .int .i64 c.bars, .int .i64 c.n, .int .i64 c.d, .int .i64 c.pass][j]? := box_cells h.box
theorem EnvB.up {n0 n1 : Nat} {w : World} (h : EnvB n0 w) (hn : n0 ≤ n1) : EnvB n1 w := ⟨h.env, by obtain ⟨_, a, b, c, d⟩ := h; exact ⟨by omega, by omega, by omega, by omega⟩⟩
theorem itoa_sz {n : Int} (h0 : 0 ≤ n) (h1 : n ≤ 1000000) : (mkS (Lib.itoa n)).size ≤ 7 := by
  have := itoa_len 7 h0 (by omega) (show n < 10 ^ 7 by omega)
  exact this
theorem cat_eq (a b : Bs) : mkS a ++ (⟨b.toArray⟩ : ByteArray) = mkS (a ++ b) := mkS_append a b
theorem cat_eq' (a b : Bs) : (⟨a.toArray⟩ : ByteArray) ++ mkS b = mkS (a ++ b) := mkS_append a b
set_option maxRecDepth 100000 in
set_option maxHeartbeats 8000000 in
theorem text_any (c : Cl) (w : World) (hv : VC c) (hE : EnvB w.heap.size w) : Calls Tryd.prog 18 #[.agg #[.string (mkS c.letter), .int .i64 c.number, .int .i64 c.bars, .int .i64 c.n, .int .i64 c.d, .int .i64 c.pass]] w fun e w' => e = .returned (.string (mkS (textC c))) ∧ Below w.heap.size w w' := by
  have HE := Lib.hid hE; have HV := Lib.hid hv
  have hd := div_le hv.d1 hv.div
  obtain ⟨hpl, d1, _, n0, _, n1, b0, b1, p0, p1⟩ := hv
  have HPl := Lib.hid hpl
  clear hE hpl
  have HT := Lib.hid (TxAt.start w c)
  go_enter Tryd.func18, Tryd.ntmps18
  go_upto_block 0 with (fail)
  generalize ((w.alloc (.cells #[.string (mkS c.letter), .int .i64 c.number, .int .i64 c.bars, .int .i64 c.n, .int .i64 c.d, .int .i64 c.pass] 25)).alloc (.cells #[.pointer none, .slice none 0 0] 56)) = W0 at *
  have hc := HT.out.cells
  go_cut [4] from 5 (fun s4 V => ∃ acc : Bs, Hid (acc = barsT c.bars) ∧ acc.length ≤ 20 ∧ TxAt w c acc V)
  case first =>
    by_cases h1 : 0 < c.bars
    · have hz := itoa_sz (n := c.bars) (by omega) (by omega)
      have ht : mkS (Lib.itoa c.bars) ++ (⟨#[32, 97, 102, 116, 101, 114, 32]⟩ : ByteArray) = mkS (Lib.itoa c.bars ++ [32, 97, 102, 116, 101, 114, 32]) := cat_eq _ _
      have hz2 : (Lib.itoa c.bars).length ≤ 7 := hz
      have HF := Lib.hid (show [] ++ (Lib.itoa c.bars ++ [32, 97, 102, 116, 101, 114, 32]) = barsT c.bars by rw [List.nil_append]; unfold barsT; rw [if_pos h1])
      go_wp2_with (first | (go_at_call 31; refine (itoa_any _ _ (by omega) (by omega) (HE.out.below HT.out.lo).env).mono ?_; rintro e w' ⟨rfl, hb⟩; replace HT := Lib.hid (HT.out.below hb); clear hb hc; have hc := HT.out.cells) | (go_at_call 30; refine (ws_any _ HT.out (by first | assumption | omega | simp; omega)).mono ?_; rintro e w' ⟨rfl, ht⟩; replace HT := Lib.hid ht; clear ht hc; have hc := HT.out.cells))
      go_meet
      case rel => exact ⟨_, HF, by simp; omega, HT.out⟩
    · by_cases h2 : c.bars < 0
      · have hz := itoa_sz (n := -c.bars) (by omega) (by omega)
        have ht : mkS (Lib.itoa (-c.bars)) ++ (⟨#[32, 98, 101, 102, 111, 114, 101, 32]⟩ : ByteArray) = mkS (Lib.itoa (-c.bars) ++ [32, 98, 101, 102, 111, 114, 101, 32]) := cat_eq _ _
        have hz2 : (Lib.itoa (-c.bars)).length ≤ 7 := hz
        have HF := Lib.hid (show [] ++ (Lib.itoa (-c.bars) ++ [32, 98, 101, 102, 111, 114, 101, 32]) = barsT c.bars by rw [List.nil_append]; unfold barsT; rw [if_neg h1, if_pos h2])
        go_wp2_with (first | (go_at_call 31; refine (itoa_any _ _ (by omega) (by omega) (HE.out.below HT.out.lo).env).mono ?_; rintro e w' ⟨rfl, hb⟩; replace HT := Lib.hid (HT.out.below hb); clear hb hc; have hc := HT.out.cells) | (go_at_call 30; refine (ws_any _ HT.out (by first | assumption | omega | simp; omega)).mono ?_; rintro e w' ⟨rfl, ht⟩; replace HT := Lib.hid ht; clear ht hc; have hc := HT.out.cells))
        go_meet
        case rel => exact ⟨_, HF, by simp; omega, HT.out⟩
      · have HF := Lib.hid (show [] = barsT c.bars by unfold barsT; rw [if_neg h1, if_neg h2])
        go_wp2
        go_meet
        case rel => exact ⟨_, HF, by simp, HT.out⟩
  case rest =>
  obtain ⟨acc, HA1, hal, ht⟩ := hcut
  replace HT := Lib.hid ht; clear ht hc
  generalize (wc : World) = W1 at *
  have hc := HT.out.cells
  have hll : c.letter.length ≤ 12 := by
    rcases HPl.out with ⟨h, _⟩ | ⟨h, _⟩
    · rw [h]; simp
    · exact ((nameB_iff _).1 h).2.1
  have hnu : 0 ≤ c.number ∧ c.number ≤ 100000 := by
    rcases HPl.out with ⟨_, h, h'⟩ | ⟨_, h⟩
    · exact ⟨h, h'⟩
    · rw [h]; decide
  obtain ⟨hnu0, hnu1⟩ := hnu
  have hpass := hal
  go_upto_if 28 with (first | (go_at_call 30; refine (ws_any _ HT.out (by first | assumption | omega | simp; omega)).mono ?_; rintro e w' ⟨rfl, ht⟩; replace HT := Lib.hid ht; clear ht hc; have hc := HT.out.cells))
  go_cut [4] from 5 (fun s4 V => ∃ acc : Bs, Hid (acc = barsT c.bars ++ placeT c) ∧ acc.length ≤ 40 ∧ TxAt w c acc V)
  case first =>
    by_cases h1 : c.letter = []
    · have he : (mkS c.letter).toList.isEmpty = true := by rw [mk_list, h1]; rfl
      have hz := itoa_sz (n := c.number) (by omega) (by omega)
      have hz2 : (Lib.itoa c.number).length ≤ 7 := hz
      have HF := Lib.hid (show acc ++ c.letter ++ Lib.itoa c.number = barsT c.bars ++ placeT c by unfold placeT; rw [if_pos h1, h1, List.append_nil, HA1.out])
      clear h1
      rw [he]
      go_wp2_with (first | (go_at_call 31; refine (itoa_any _ _ (by omega) (by omega) (HE.out.below HT.out.lo).env).mono ?_; rintro e w' ⟨rfl, hb⟩; replace HT := Lib.hid (HT.out.below hb); clear hb hc; have hc := HT.out.cells) | (go_at_call 30; refine (ws_any _ HT.out (by first | assumption | omega | simp; omega)).mono ?_; rintro e w' ⟨rfl, ht⟩; replace HT := Lib.hid ht; clear ht hc; have hc := HT.out.cells))
      go_meet
      case rel => exact ⟨_, HF, by simp; omega, HT.out⟩
    · have he : (mkS c.letter).toList.isEmpty = false := by rw [mk_list, ← Bool.not_eq_true, List.isEmpty_iff]; exact h1
      have HF := Lib.hid (show acc ++ c.letter = barsT c.bars ++ placeT c by unfold placeT; rw [if_neg h1, HA1.out])
      clear h1
      rw [he]
      go_wp2
      go_meet
      case rel => exact ⟨_, HF, by simp; omega, HT.out⟩
  case rest =>
  obtain ⟨acc2, HA2, hal2, ht⟩ := hcut
  replace HT := Lib.hid ht; clear ht hc
  generalize (wc : World) = W2 at *
  have hc := HT.out.cells
  go_upto_if 36 with (fail)
  go_cut [4] from 5 (fun s4 V => ∃ acc : Bs, Hid (acc = barsT c.bars ++ placeT c ++ beatT c.n c.d) ∧ acc.length ≤ 80 ∧ TxAt w c acc V)
  case first =>
    by_cases h1 : 0 < c.n
    · have hz := itoa_sz (n := c.n) (by omega) (by omega)
      have hz2 : (Lib.itoa c.n).length ≤ 7 := hz
      have ht : (⟨#[44, 32, 98, 101, 97, 116, 32]⟩ : ByteArray) ++ mkS (Lib.itoa c.n) = mkS ([44, 32, 98, 101, 97, 116, 32] ++ Lib.itoa c.n) := cat_eq' _ _
      by_cases h2 : 1 < c.d
      · have hzd := itoa_sz (n := c.d) (by omega) (by omega)
        have hzd2 : (Lib.itoa c.d).length ≤ 7 := hzd
        have htd : (⟨#[47]⟩ : ByteArray) ++ mkS (Lib.itoa c.d) = mkS ([47] ++ Lib.itoa c.d) := cat_eq' _ _
        have HF := Lib.hid (show acc2 ++ ([44, 32, 98, 101, 97, 116, 32] ++ Lib.itoa c.n) ++ ([47] ++ Lib.itoa c.d) = barsT c.bars ++ placeT c ++ beatT c.n c.d by unfold beatT fracT; rw [if_pos h1, if_pos h2, HA2.out]; simp)
        go_wp2_with (first | (go_at_call 31; refine (itoa_any _ _ (by omega) (by omega) (HE.out.below HT.out.lo).env).mono ?_; rintro e w' ⟨rfl, hb⟩; replace HT := Lib.hid (HT.out.below hb); clear hb hc; have hc := HT.out.cells) | (go_at_call 30; refine (ws_any _ HT.out (by first | assumption | omega | simp; omega)).mono ?_; rintro e w' ⟨rfl, ht⟩; replace HT := Lib.hid ht; clear ht hc; have hc := HT.out.cells))
        go_meet
        case rel => exact ⟨_, HF, by simp; omega, HT.out⟩
      · have HF := Lib.hid (show acc2 ++ ([44, 32, 98, 101, 97, 116, 32] ++ Lib.itoa c.n) = barsT c.bars ++ placeT c ++ beatT c.n c.d by unfold beatT fracT; rw [if_pos h1, if_neg h2, HA2.out])
        go_wp2_with (first | (go_at_call 31; refine (itoa_any _ _ (by omega) (by omega) (HE.out.below HT.out.lo).env).mono ?_; rintro e w' ⟨rfl, hb⟩; replace HT := Lib.hid (HT.out.below hb); clear hb hc; have hc := HT.out.cells) | (go_at_call 30; refine (ws_any _ HT.out (by first | assumption | omega | simp; omega)).mono ?_; rintro e w' ⟨rfl, ht⟩; replace HT := Lib.hid ht; clear ht hc; have hc := HT.out.cells))
        go_meet
        case rel => exact ⟨_, HF, by simp; omega, HT.out⟩
    · have HF := Lib.hid (show acc2 = barsT c.bars ++ placeT c ++ beatT c.n c.d by unfold beatT; rw [if_neg h1, HA2.out, List.append_nil])
      go_wp2
      go_meet
      case rel => exact ⟨_, HF, by omega, HT.out⟩
  case rest =>
  obtain ⟨acc3, HA3, hal3, ht⟩ := hcut
  replace HT := Lib.hid ht; clear ht hc
  generalize (wc : World) = W3 at *
  have hc := HT.out.cells
  go_upto_if 55 with (fail)
  go_cut [4] from 5 (fun s4 V => ∃ acc : Bs, Hid (acc = textC c) ∧ acc.length ≤ 120 ∧ TxAt w c acc V)
  case first =>
    by_cases h1 : 0 < c.pass
    · have hz := itoa_sz (n := c.pass) (by omega) (by omega)
      have hz2 : (Lib.itoa c.pass).length ≤ 7 := hz
      have ht : (⟨#[44, 32, 116, 105, 109, 101, 32]⟩ : ByteArray) ++ mkS (Lib.itoa c.pass) = mkS ([44, 32, 116, 105, 109, 101, 32] ++ Lib.itoa c.pass) := cat_eq' _ _
      have HF := Lib.hid (show acc3 ++ ([44, 32, 116, 105, 109, 101, 32] ++ Lib.itoa c.pass) = textC c by unfold textC passT; rw [if_pos h1, HA3.out])
      go_wp2_with (first | (go_at_call 31; refine (itoa_any _ _ (by omega) (by omega) (HE.out.below HT.out.lo).env).mono ?_; rintro e w' ⟨rfl, hb⟩; replace HT := Lib.hid (HT.out.below hb); clear hb hc; have hc := HT.out.cells) | (go_at_call 30; refine (ws_any _ HT.out (by first | assumption | omega | simp; omega)).mono ?_; rintro e w' ⟨rfl, ht⟩; replace HT := Lib.hid ht; clear ht hc; have hc := HT.out.cells))
      go_meet
      case rel => exact ⟨_, HF, by simp; omega, HT.out⟩
    · have HF := Lib.hid (show acc3 = textC c by unfold textC passT; rw [if_neg h1, HA3.out, List.append_nil])
      go_wp2
      go_meet
      case rel => exact ⟨_, HF, by omega, HT.out⟩
  case rest =>
  obtain ⟨acc4, HA4, hal4, ht⟩ := hcut
  replace HT := Lib.hid ht; clear ht hc
  have HNe := Lib.hid (show acc4 ≠ [] by
    have := (place_plain HV.out).1
    rw [HA4.out]; unfold textC
    intro e
    simp only [List.append_eq_nil_iff] at e
    exact this e.1.1.2)
  go_wp2_with (go_at_call 32; refine (str_any HT.out HNe.out).mono ?_; rintro e w' ⟨rfl, hb⟩)
  go_ret
  exact ⟨by rw [HA4.out]; rfl, hb⟩
theorem print_any (c : Cl) (w : World) (hE : EnvB w.heap.size w) : Calls Tryd.prog 10 #[.agg #[.string (mkS c.letter), .int .i64 c.number, .int .i64 c.bars, .int .i64 c.n, .int .i64 c.d, .int .i64 c.pass]] w fun e w' => e = .returned (.tuple #[.string (mkS (printC c).1), .int .i64 (printC c).2]) ∧ Below w.heap.size w w' := by
  have HE := Lib.hid hE; clear hE
  have HX := Lib.hid (heap_alloc_new w (.cells #[.string (mkS c.letter), .int .i64 c.number, .int .i64 c.bars, .int .i64 c.n, .int .i64 c.d, .int .i64 c.pass] 25))
  have HB := Lib.hid ((Below.refl w.heap.size w).alloc (Nat.le_refl _) (.cells #[.string (mkS c.letter), .int .i64 c.number, .int .i64 c.bars, .int .i64 c.n, .int .i64 c.d, .int .i64 c.pass] 25))
  have HVa := Lib.hid (fun W => cvalid_any c W)
  cases hv : validC c
  · have HP := Lib.hid (show printC c = ([], 1) by simp [printC, hv])
    rw [hv] at HVa
    clear hv
    go_enter Tryd.func10, Tryd.ntmps10
    go_upto_region 1 with (fail)
    generalize w.alloc (.cells #[.string (mkS c.letter), .int .i64 c.number, .int .i64 c.bars, .int .i64 c.n, .int .i64 c.d, .int .i64 c.pass] 25) = W at *
    have hc := box_cells HX.out
    go_wp2_with (go_at_call 12; refine (HVa.out _).mono ?_; rintro e w' ⟨rfl, hb⟩; replace HB := Lib.hid (HB.out.trans (hb.mono HB.out.size)); clear hb)
    go_ret2
    exact ⟨by rw [HP.out]; rfl, HB.out⟩
  · have HP := Lib.hid (show printC c = (textC c, 0) by simp [printC, hv])
    have HT := Lib.hid (fun W hE => text_any c W ((validC_iff c).1 hv) hE)
    rw [hv] at HVa
    clear hv
    go_enter Tryd.func10, Tryd.ntmps10
    go_upto_region 1 with (fail)
    generalize w.alloc (.cells #[.string (mkS c.letter), .int .i64 c.number, .int .i64 c.bars, .int .i64 c.n, .int .i64 c.d, .int .i64 c.pass] 25) = W at *
    have hc := box_cells HX.out
    go_wp2_with (first | (go_at_call 12; refine (HVa.out _).mono ?_; rintro e w' ⟨rfl, hb⟩; replace HB := Lib.hid (HB.out.trans (hb.mono HB.out.size)); replace HX := Lib.hid (blk_keep HX.out hb); clear hb hc; have hc := box_cells HX.out) | (go_at_call 18; refine (HT.out _ ((HE.out.below HB.out).up HB.out.size)).mono ?_; rintro e w' ⟨rfl, hb⟩; replace HB := Lib.hid (HB.out.trans (hb.mono HB.out.size)); clear hb hc))
    go_ret2
    exact ⟨by rw [HP.out]; rfl, HB.out⟩
end Go.Proofs.YtfppijjjaleiaaaDoor
