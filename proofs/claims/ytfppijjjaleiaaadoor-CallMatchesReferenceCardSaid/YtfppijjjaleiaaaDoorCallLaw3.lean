
/- The law CallBlanks: walked. -/
import Derived.Test.YtfppijjjaleiaaaDoorCallLaw2
namespace Go.Proofs.YtfppijjjaleiaaaDoor
set_option linter.unusedSimpArgs false
set_option linter.unusedVariables false
open Go.RowKit Go.Sort

/-- How many further blanks stand ahead of a word. -/
def gapF (wv : Nat) (i : Nat) : Nat := (wv / 2 ^ (2 * (i % 32))) % 4
theorem wraps_u64n (n : Int) (h₀ : 0 ≤ n) (h₁ : n < 2 ^ 64) : IntKind.u64.wrap n = n := by rw [IntKind.wrap_u64]; omega
theorem cat_rep (a : Bs) (m : Nat) : mkS (a ++ List.replicate m 32) ++ ⟨#[32]⟩ = mkS (a ++ List.replicate (m + 1) 32) := by
  refine bsS_inj ?_
  rw [bsS_append, bs_mk, bs_mk, List.replicate_succ']
  simp [bsS]
theorem cat_mid (a b : Bs) : mkS a ++ (⟨#[32]⟩ ++ mkS b) = mkS (a ++ 32 :: b) := by
  refine bsS_inj ?_
  rw [bsS_append, bsS_append, bs_mk, bs_mk, bs_mk]
  simp [bsS]
theorem cat_two (a b : Bs) : mkS a ++ ⟨#[32]⟩ ++ mkS b = mkS (a ++ 32 :: b) := by
  refine bsS_inj ?_
  rw [bsS_append, bsS_append, bs_mk, bs_mk, bs_mk]
  simp [bsS]
theorem ne_lit {x k : Bs} (h : x ≠ k) : ((mkS x).toList == k) = false := by
  rw [mk_list]
  rw [← Bool.not_eq_true, beq_iff_eq]
  exact h
theorem eq_lit (x : Bs) : ((mkS x).toList == x) = true := by rw [mk_list]; simp
theorem gap_lt (wv i : Nat) : gapF wv i < 4 := Nat.mod_lt _ (by decide)
theorem gap_bits (wv k : Nat) (hw : wv < 18446744073709551616) : bits BinOp.and IntKind.u64 ((wv : Int) / 2 ^ (2 * (k % 32))) 3 = (gapF wv k : Int) := by
  have e : ((wv : Int) / 2 ^ (2 * (k % 32))) = ((wv / 2 ^ (2 * (k % 32)) : Nat) : Int) := by simp
  have h1 : wv / 2 ^ (2 * (k % 32)) ≤ wv := Nat.div_le_self _ _
  rw [e]
  have := bits_mask .u64 64 (by decide) wraps_u64n 2 (by decide) ((wv / 2 ^ (2 * (k % 32)) : Nat) : Int) (Int.natCast_nonneg _) (by omega)
  rw [show ((2 : Int) ^ 2 - 1) = 3 by decide] at this
  rw [this]
  simp [gapF]
set_option maxRecDepth 100000 in
set_option maxHeartbeats 8000000 in
theorem blanks_any (s : Bs) (wv : Nat) (hw : wv < 18446744073709551616) (w : World) (hE : EnvB w.heap.size w) : Calls Tryd.prog 6 #[.string (mkS s), .int .u64 (wv : Int)] w fun e w' => e = .returned (.bool true) ∧ Below w.heap.size w w' := by
  have HE := Lib.hid hE; have HB := Lib.hid (Below.refl w.heap.size w)
  clear hE
  have hz : (mkS s).size = s.length := rfl
  go_enter Tryd.func6, Tryd.ntmps6
  go_upto_region 2 with (go_at_call 9; refine (head_any _ HE.out).mono ?_; rintro e w' ⟨rfl, hb⟩; replace HE := Lib.hid ((HE.out.below hb).up hb.size); replace HB := Lib.hid (HB.out.trans (hb.mono HB.out.size)); clear hb)
  by_cases hl : (200 : Int) < (s.length : Int)
  · go_wp2
    go_ret
    exact ⟨rfl, HB.out⟩
  have hs : s.length ≤ 200 := by omega
  have HWc := Lib.hid (words_count s)
  have HWl := Lib.hid (words_short s)
  go_wp2_with (fail)
  refine (RWords_any s _ (by omega)).mono ?_
  rintro e w1 ⟨a1, c1, rfl, hs1, ht1, hb⟩
  replace HE := Lib.hid ((HE.out.below hb).up hb.size); replace HB := Lib.hid (HB.out.trans (hb.mono HB.out.size))
  clear hb
  have HT1 := Lib.hid (show StrAt w1 a1 (wordsL s) from ht1)
  clear ht1 hs1
  have HBw := Lib.hid (fun h => blanks_wide (gapF wv) (s := s) hs h)
  have HBt := Lib.hid (blanks_tight (s := s) hs)
  rw [List.length_map]
  generalize hL : wordsL s = L at *
  have HLs := Lib.hid hL; clear hL
  go_wp2
  go_loopw [7, 8, 9] (fun s7 s8 i wr => ∃ k : Nat, k ≤ L.length ∧ i = .int .i64 k ∧ s7 = .string (mkS (wideL (gapF wv) 0 (L.take k))) ∧ s8 = .string (mkS (tightL false (L.take k))) ∧ (wideL (gapF wv) 0 (L.take k)).length ≤ 300 * k ∧ (tightL false (L.take k)).length ≤ 300 * k ∧ wr = w1) (fun _ _ i _ => L.length - (intOf i).toNat)
  case atStart => exact ⟨0, Nat.zero_le _, rfl, rfl, rfl, by simp [wideL], by simp [tightL], rfl⟩
  case round =>
    obtain ⟨k, hk, rfl, rfl, rfl, hwl, htl, rfl⟩ := hrel
    by_cases hlt : k < L.length
    · have hws := wide_succ (gapF wv) L k hlt
      have hts := tight_succ L k hlt
      have HWS := Lib.hid hws; have HTS := Lib.hid hts
      clear hws hts
      have hxl := HWl.out _ (List.getElem_mem hlt)
      have hLc := HWc.out
      generalize wideL (gapF wv) 0 (L.take k) = wi at *
      generalize tightL false (L.take k) = ti at *
      have hwz : (mkS wi).size ≤ 200000 := by show wi.length ≤ _; omega
      have htz : (mkS ti).size ≤ 200000 := by show ti.length ≤ _; omega
      go_wp2
      go_loopw [7, 10] (fun s7 s10 wx => ∃ m : Nat, m ≤ gapF wv k ∧ s10 = .int .u64 m ∧ s7 = .string (mkS (wi ++ List.replicate m 32)) ∧ wx = wr) (fun _ s10 _ => gapF wv k - (intOf s10).toNat)
      case atStart => exact ⟨0, Nat.zero_le _, rfl, by simp, rfl⟩
      case round =>
        obtain ⟨m, hm, rfl, rfl, rfl⟩ := hrel
        have hG : bits BinOp.and IntKind.u64 ((wv : Int) / 2 ^ (2 * (k % 32))) 3 = (gapF wv k : Int) := gap_bits wv k hw
        have hg4 := gap_lt wv k
        have hrz : (mkS (wi ++ List.replicate m 32)).size ≤ 200010 := by show (wi ++ List.replicate m 32).length ≤ _; rw [List.length_append, List.length_replicate]; omega
        by_cases hmt : m < gapF wv k
        · have hc : decide ((m : Int) < (gapF wv k : Int)) = true := decide_eq_true (by omega)
          go_wp2
          go_roundw
          case rel => exact ⟨m + 1, by omega, by go_num, congrArg Value.string (cat_rep wi m), trivial⟩
          case measure => simp [intOf]; omega
        · have hc : decide ((m : Int) < (gapF wv k : Int)) = false := decide_eq_false (by omega)
          obtain rfl : m = gapF wv k := by omega
          have hpa : ∃ b0 o0, a1 = some ⟨b0, o0, none⟩ := by obtain ⟨b0, o0, e, _⟩ := HT1.out k (strW L[k]) (by simp [List.getElem?_eq_getElem hlt]); exact ⟨b0, o0, e⟩
          obtain ⟨b0, o0, rfl⟩ := hpa
          obtain ⟨hb0, hcell⟩ := HT1.out.get k hlt
          have hcell2 : 0 < k → wr.cell? ⟨b0, o0 + (k - 1), none⟩ = some (.string (mkS L[k - 1])) := fun h0 => (HT1.out.get (k - 1) (by omega)).2
          generalize hxe : L[k] = x at *
          generalize hye : L[k - 1] = y at *
          have hxz : (mkS x).size ≤ 201 := by show x.length ≤ _; omega
          clear hxe hye hm
          have hwn : (wi ++ List.replicate (gapF wv k) 32 ++ 32 :: x).length ≤ 300 * (k + 1) := by simp only [List.length_append, List.length_replicate, List.length_cons]; omega
          have htn : ∀ t : Bs, (t = x ∨ t = 32 :: x) → (ti ++ t).length ≤ 300 * (k + 1) := by rintro t (rfl | rfl) <;> simp only [List.length_append, List.length_cons] <;> omega
          by_cases hk0 : 0 < k
          · have hc2 := hcell2 hk0
            have hkc : ((k - 1 : Nat) : Int) = (k : Int) - 1 := by omega
            clear hcell2
            by_cases hx44 : x = [44]
            · have HF := Lib.hid (HTS.out.trans (congrArg (ti ++ ·) (if_neg (fun h => h.2.1 hx44))))
              have hx : ((mkS x).toList == [44]) = true := by rw [hx44]; exact eq_lit [44]
              clear hx44
              go_wp2
              go_roundw
              case rel => exact ⟨k + 1, by omega, by go_num, congrArg Value.string ((cat_mid _ _).trans (congrArg mkS HWS.out.symm)), congrArg Value.string ((mkS_append _ _).trans (congrArg mkS HF.out.symm)), by rw [HWS.out]; exact hwn, by rw [HF.out]; exact htn _ (.inl rfl), trivial⟩
              case measure => simp [intOf]; omega
            · have hx := ne_lit hx44
              by_cases hy44 : y = [44]
              · have HF := Lib.hid (HTS.out.trans (congrArg (ti ++ ·) (if_neg (fun h => h.2.2 hy44))))
                have hy : ((mkS y).toList == [44]) = true := by rw [hy44]; exact eq_lit [44]
                clear hx44 hy44
                go_wp2
                go_roundw
                case rel => exact ⟨k + 1, by omega, by go_num, congrArg Value.string ((cat_mid _ _).trans (congrArg mkS HWS.out.symm)), congrArg Value.string ((mkS_append _ _).trans (congrArg mkS HF.out.symm)), by rw [HWS.out]; exact hwn, by rw [HF.out]; exact htn _ (.inl rfl), trivial⟩
                case measure => simp [intOf]; omega
              · have hy := ne_lit hy44
                have HF := Lib.hid (HTS.out.trans (congrArg (ti ++ ·) (if_pos ⟨hk0, hx44, hy44⟩)))
                clear hx44 hy44
                go_wp2
                go_roundw
                case rel => exact ⟨k + 1, by omega, by go_num, congrArg Value.string ((cat_mid _ _).trans (congrArg mkS HWS.out.symm)), congrArg Value.string ((cat_two _ _).trans (congrArg mkS HF.out.symm)), by rw [HWS.out]; exact hwn, by rw [HF.out]; exact htn _ (.inr rfl), trivial⟩
                case measure => simp [intOf]; omega
          · have HF := Lib.hid (HTS.out.trans (congrArg (ti ++ ·) (if_neg (fun h => hk0 h.1))))
            clear hcell2
            go_wp2
            go_roundw
            case rel => exact ⟨k + 1, by omega, by go_num, congrArg Value.string ((cat_mid _ _).trans (congrArg mkS HWS.out.symm)), congrArg Value.string ((mkS_append _ _).trans (congrArg mkS HF.out.symm)), by rw [HWS.out]; exact hwn, by rw [HF.out]; exact htn _ (.inl rfl), trivial⟩
            case measure => simp [intOf]; omega
    · obtain rfl : k = L.length := by omega
      rw [List.take_length] at hwl htl ⊢
      have HLc := HWc.out
      generalize wideL (gapF wv) 0 L = WW at *
      generalize tightL false L = TT at *
      have hwz : (mkS WW).size = WW.length := rfl
      have hpw : 200 < WW.length ∨ parseC WW = parseC s := by by_cases h : WW.length ≤ 200; exact .inr (HBw.out h); exact .inl (by omega)
      have hpt := HBt.out
      have HPs := Lib.hid (parses_to s)
      have HPw := Lib.hid (parses_to WW)
      have HPt := Lib.hid (parses_to TT)
      rw [hpt] at HPt
      generalize parseC s = ps at *
      generalize parseC WW = pw at *
      obtain ⟨c, er⟩ := ps
      obtain ⟨f, er2⟩ := pw
      clear hpt HBw HBt
      go_upto_region 18 with (go_at_call 14; refine (HPs.out _ HE.out).mono ?_; rintro e w2 ⟨rfl, hb⟩; replace HE := Lib.hid ((HE.out.below hb).up hb.size); replace HB := Lib.hid (HB.out.trans (hb.mono HB.out.size)); clear hb)
      have HX1 := Lib.hid (heap_alloc_new w2 (.cells #[.string (mkS c.letter), .int .i64 c.number, .int .i64 c.bars, .int .i64 c.n, .int .i64 c.d, .int .i64 c.pass] 25 (0, 0)))
      replace HE := Lib.hid (HE.out.box (.cells #[.string (mkS c.letter), .int .i64 c.number, .int .i64 c.bars, .int .i64 c.n, .int .i64 c.d, .int .i64 c.pass] 25 (0, 0))); replace HB := Lib.hid (HB.out.alloc HB.out.size (.cells #[.string (mkS c.letter), .int .i64 c.number, .int .i64 c.bars, .int .i64 c.n, .int .i64 c.d, .int .i64 c.pass] 25 (0, 0)))
      generalize w2.alloc (.cells #[.string (mkS c.letter), .int .i64 c.number, .int .i64 c.bars, .int .i64 c.n, .int .i64 c.d, .int .i64 c.pass] 25 (0, 0)) = W2 at *
      generalize w2.heap.size = b1 at *
      go_upto_region 19 with (go_at_call 14; refine (HPw.out _ HE.out).mono ?_; rintro e w3 ⟨rfl, hb⟩; replace HE := Lib.hid ((HE.out.below hb).up hb.size); replace HB := Lib.hid (HB.out.trans (hb.mono HB.out.size)); replace HX1 := Lib.hid (blk_keep HX1.out hb); clear hb)
      have HX2 := Lib.hid (heap_alloc_new w3 (.cells #[.string (mkS f.letter), .int .i64 f.number, .int .i64 f.bars, .int .i64 f.n, .int .i64 f.d, .int .i64 f.pass] 25 (0, 0)))
      replace HX1 := Lib.hid (up_alloc HX1.out (.cells #[.string (mkS f.letter), .int .i64 f.number, .int .i64 f.bars, .int .i64 f.n, .int .i64 f.d, .int .i64 f.pass] 25 (0, 0)))
      replace HE := Lib.hid (HE.out.box (.cells #[.string (mkS f.letter), .int .i64 f.number, .int .i64 f.bars, .int .i64 f.n, .int .i64 f.d, .int .i64 f.pass] 25 (0, 0))); replace HB := Lib.hid (HB.out.alloc HB.out.size (.cells #[.string (mkS f.letter), .int .i64 f.number, .int .i64 f.bars, .int .i64 f.n, .int .i64 f.d, .int .i64 f.pass] 25 (0, 0)))
      generalize w3.alloc (.cells #[.string (mkS f.letter), .int .i64 f.number, .int .i64 f.bars, .int .i64 f.n, .int .i64 f.d, .int .i64 f.pass] 25 (0, 0)) = W3 at *
      generalize w3.heap.size = b2 at *
      go_upto_region 20 with (go_at_call 14; refine (HPt.out _ HE.out).mono ?_; rintro e w4 ⟨rfl, hb⟩; replace HE := Lib.hid ((HE.out.below hb).up hb.size); replace HB := Lib.hid (HB.out.trans (hb.mono HB.out.size)); replace HX1 := Lib.hid (blk_keep HX1.out hb); replace HX2 := Lib.hid (blk_keep HX2.out hb); clear hb)
      have HX3 := Lib.hid (heap_alloc_new w4 (.cells #[.string (mkS c.letter), .int .i64 c.number, .int .i64 c.bars, .int .i64 c.n, .int .i64 c.d, .int .i64 c.pass] 25 (0, 0)))
      replace HX1 := Lib.hid (up_alloc HX1.out (.cells #[.string (mkS c.letter), .int .i64 c.number, .int .i64 c.bars, .int .i64 c.n, .int .i64 c.d, .int .i64 c.pass] 25 (0, 0))); replace HX2 := Lib.hid (up_alloc HX2.out (.cells #[.string (mkS c.letter), .int .i64 c.number, .int .i64 c.bars, .int .i64 c.n, .int .i64 c.d, .int .i64 c.pass] 25 (0, 0)))
      replace HE := Lib.hid (HE.out.box (.cells #[.string (mkS c.letter), .int .i64 c.number, .int .i64 c.bars, .int .i64 c.n, .int .i64 c.d, .int .i64 c.pass] 25 (0, 0))); replace HB := Lib.hid (HB.out.alloc HB.out.size (.cells #[.string (mkS c.letter), .int .i64 c.number, .int .i64 c.bars, .int .i64 c.n, .int .i64 c.d, .int .i64 c.pass] 25 (0, 0)))
      generalize w4.alloc (.cells #[.string (mkS c.letter), .int .i64 c.number, .int .i64 c.bars, .int .i64 c.n, .int .i64 c.d, .int .i64 c.pass] 25 (0, 0)) = W4 at *
      generalize w4.heap.size = b3 at *
      have hc1 := box_cells HX1.out; have hc2 := box_cells HX2.out; have hc3 := box_cells HX3.out
      have heq := eql_cl c c
      rw [decide_eq_true rfl] at heq
      by_cases hlw : (200 : Int) < (WW.length : Int)
      · go_wp2
        go_ret
        exact ⟨rfl, HB.out⟩
      · obtain hpe := hpw.resolve_left (by omega)
        obtain ⟨rfl, rfl⟩ := Prod.mk.inj hpe
        go_wp2
        go_ret
        exact ⟨rfl, HB.out⟩
end Go.Proofs.YtfppijjjaleiaaaDoor
