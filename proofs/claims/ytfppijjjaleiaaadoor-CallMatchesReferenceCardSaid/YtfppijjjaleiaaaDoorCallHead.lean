
/- The head of the laws on calls. -/
import Derived.Test.YtfppijjjaleiaaaDoorCallParse
import Derived.Test.YtfppijjjaleiaaaDoorCallText
import Derived.Test.YtfppijjjaleiaaaDoorCallEx
import Derived.Test.YtfppijjjaleiaaaDoorCallWide
namespace Go.Proofs.YtfppijjjaleiaaaDoor
set_option linter.unusedSimpArgs false
set_option linter.unusedVariables false
open Go.RowKit Go.Sort

theorem EnvB.box {w : World} (h : EnvB w.heap.size w) (o : Obj) : EnvB (w.alloc o).heap.size (w.alloc o) := (h.below ((Below.refl _ _).alloc (Nat.le_refl _) o)).up (by simp)
theorem eql_cl (a b : Cl) (w : World) : (binOp .eql 25 (.agg #[.string (mkS a.letter), .int .i64 a.number, .int .i64 a.bars, .int .i64 a.n, .int .i64 a.d, .int .i64 a.pass]) (.agg #[.string (mkS b.letter), .int .i64 b.number, .int .i64 b.bars, .int .i64 b.n, .int .i64 b.d, .int .i64 b.pass])).run Tryd.prog w = .ok (.bool (decide (a = b))) w := by
  rw [run_eql_struct]
  simp [go_sem]
  rw [mk_list, mk_list]
  by_cases h : a = b
  · subst h; simp
  · rw [decide_eq_false h]
    obtain ⟨a1, a2, a3, a4, a5, a6⟩ := a
    obtain ⟨b1, b2, b3, b4, b5, b6⟩ := b
    dsimp only
    repeat' split
    all_goals first | rfl | exact absurd (by simp_all) h
/-- What the head calls. -/
def PrintsTo (c : Cl) (t : Bs) (er : Int) : Prop := ∀ W, EnvB W.heap.size W → Calls Tryd.prog 10 #[.agg #[.string (mkS c.letter), .int .i64 c.number, .int .i64 c.bars, .int .i64 c.n, .int .i64 c.d, .int .i64 c.pass]] W fun e w' => e = .returned (.tuple #[.string (mkS t), .int .i64 er]) ∧ Below W.heap.size W w'
def ParsesTo (s : Bs) (c : Cl) (er : Int) : Prop := ∀ W, EnvB W.heap.size W → Calls Tryd.prog 14 #[.string (mkS s)] W fun e w' => e = .returned (.tuple #[.agg #[.string (mkS c.letter), .int .i64 c.number, .int .i64 c.bars, .int .i64 c.n, .int .i64 c.d, .int .i64 c.pass], .int .i64 er]) ∧ Below W.heap.size W w'
theorem prints_to (c : Cl) : PrintsTo c (printC c).1 (printC c).2 := fun W h => print_any c W h
theorem parses_to (s : Bs) : ParsesTo s (parseC s).1 (parseC s).2 := fun W h => parse_any s W h
theorem print_yes {c : Cl} (h : validC c = true) : PrintsTo c (textC c) 0 := by
  have := prints_to c
  rwa [show printC c = (textC c, 0) by simp [printC, h]] at this
theorem print_no {c : Cl} (h : validC c = false) : PrintsTo c [] 1 := by
  have := prints_to c
  rwa [show printC c = ([], 1) by simp [printC, h]] at this
theorem parse_is {s : Bs} {c : Cl} {er : Int} (h : parseC s = (c, er)) : ParsesTo s c er := by
  have := parses_to s
  rwa [h] at this
def zeroC : Cl := ⟨[], 0, 0, 0, 0, 0⟩
def noWords : List Bs := [[48, 32, 97, 102, 116, 101, 114, 32, 66], [66, 44, 32, 98, 101, 97, 116, 32, 49, 48, 47, 52], [66, 32, 116, 105, 109, 101, 32, 50], [98], []]
theorem no_words : ∀ s ∈ noWords, ParsesTo s zeroC 8 := by
  intro s hs
  simp only [noWords, List.mem_cons, List.not_mem_nil, or_false] at hs
  rcases hs with rfl | rfl | rfl | rfl | rfl
  · exact parse_is ex_no1
  · exact parse_is ex_no2
  · exact parse_is ex_no3
  · exact parse_is ex_no4
  · exact parse_is ex_no5
set_option maxRecDepth 100000 in
set_option maxHeartbeats 8000000 in
theorem head_any (w : World) (hE : EnvB w.heap.size w) : Calls Tryd.prog 9 #[] w fun e w' => e = .returned (.bool true) ∧ Below w.heap.size w w' := by
  have HE := Lib.hid hE; clear hE
  have HB := Lib.hid (Below.refl w.heap.size w)
  have P1 := Lib.hid (show PrintsTo exC exS 0 by have := print_yes ex_valid; rwa [ex_text] at this)
  have P2 := Lib.hid (show PrintsTo ⟨[], 117, 0, 0, 1, 0⟩ [49, 49, 55] 0 by have := print_yes ex2_valid; rwa [ex2_text] at this)
  have P3 := Lib.hid (show PrintsTo ⟨[], 0, 1, 3, 1, 0⟩ [49, 32, 97, 102, 116, 101, 114, 32, 48, 44, 32, 98, 101, 97, 116, 32, 51] 0 by have := print_yes ex3_valid; rwa [ex3_text] at this)
  have P4 := Lib.hid (print_no ex4_valid)
  have P5 := Lib.hid (parse_is ex_parse)
  go_enter Tryd.func9, Tryd.ntmps9
  go_wp2_with (fail)
  refine (P1.out _ (HE.out.box _)).mono ?_
  rintro e w1 ⟨rfl, hb⟩
  have HX1 := Lib.hid (show w1.heap[w.heap.size]? = some (.cells #[.string (mkS exC.letter), .int .i64 exC.number, .int .i64 exC.bars, .int .i64 exC.n, .int .i64 exC.d, .int .i64 exC.pass] 25 (0, 0)) from box_below hb)
  replace hb := allocB hb
  replace HE := Lib.hid ((HE.out.below hb).up hb.size); replace HB := Lib.hid (HB.out.trans (hb.mono HB.out.size))
  clear hb
  go_wp2_with (fail)
  refine (P2.out _ HE.out).mono ?_
  rintro e w2 ⟨rfl, hb⟩
  replace HX1 := Lib.hid (blk_keep HX1.out hb)
  replace HE := Lib.hid ((HE.out.below hb).up hb.size); replace HB := Lib.hid (HB.out.trans (hb.mono HB.out.size))
  clear hb
  go_wp2_with (fail)
  refine (P3.out _ HE.out).mono ?_
  rintro e w3 ⟨rfl, hb⟩
  replace HX1 := Lib.hid (blk_keep HX1.out hb)
  replace HE := Lib.hid ((HE.out.below hb).up hb.size); replace HB := Lib.hid (HB.out.trans (hb.mono HB.out.size))
  clear hb
  go_wp2_with (fail)
  refine (P5.out _ HE.out).mono ?_
  rintro e w4 ⟨rfl, hb⟩
  replace HX1 := Lib.hid (blk_keep HX1.out hb)
  replace HE := Lib.hid ((HE.out.below hb).up hb.size); replace HB := Lib.hid (HB.out.trans (hb.mono HB.out.size))
  clear hb
  go_wp2_with (fail)
  refine (P4.out _ (HE.out.box _)).mono ?_
  rintro e w5 ⟨rfl, hb⟩
  have HX8 := Lib.hid (show w5.heap[w4.heap.size]? = some (.cells #[.string (mkS exC.letter), .int .i64 exC.number, .int .i64 exC.bars, .int .i64 exC.n, .int .i64 exC.d, .int .i64 exC.pass] 25 (0, 0)) from box_below hb)
  replace hb := allocB hb
  replace HX1 := Lib.hid (blk_keep HX1.out hb)
  replace HE := Lib.hid ((HE.out.below hb).up hb.size); replace HB := Lib.hid (HB.out.trans (hb.mono HB.out.size))
  clear hb
  generalize hs8 : w4.heap.size = b8 at *
  clear hs8
  have hb := (Below.refl w5.heap.size w5).alloc (Nat.le_refl _) (.cells #[.string ⟨#[48, 32, 97, 102, 116, 101, 114, 32, 66]⟩, .string ⟨#[66, 44, 32, 98, 101, 97, 116, 32, 49, 48, 47, 52]⟩, .string ⟨#[66, 32, 116, 105, 109, 101, 32, 50]⟩, .string ⟨#[98]⟩, .string ⟨#[]⟩] 9)
  have HW := Lib.hid (show StrAt (w5.alloc (.cells #[.string ⟨#[48, 32, 97, 102, 116, 101, 114, 32, 66]⟩, .string ⟨#[66, 44, 32, 98, 101, 97, 116, 32, 49, 48, 47, 52]⟩, .string ⟨#[66, 32, 116, 105, 109, 101, 32, 50]⟩, .string ⟨#[98]⟩, .string ⟨#[]⟩] 9)) (some ⟨w5.heap.size, 0, none⟩) noWords from SlAt.new w5 _ _ 1 _ (by simp [noWords]) rfl)
  replace HX1 := Lib.hid (blk_keep HX1.out hb); replace HX8 := Lib.hid (blk_keep HX8.out hb)
  replace HE := Lib.hid ((HE.out.below hb).up hb.size); replace HB := Lib.hid (HB.out.trans (hb.mono HB.out.size))
  have HNW := Lib.hid no_words
  clear hb P1 P2 P3 P4 P5
  go_wp2
  go_loopw [12, 65] (fun s12 i wr => ∃ k : Nat, k ≤ 5 ∧ s12 = .bool true ∧ i = .int .i64 k ∧ wr.heap[w.heap.size]? = some (.cells #[.string (mkS exC.letter), .int .i64 exC.number, .int .i64 exC.bars, .int .i64 exC.n, .int .i64 exC.d, .int .i64 exC.pass] 25 (0, 0)) ∧ wr.heap[b8]? = some (.cells #[.string (mkS exC.letter), .int .i64 exC.number, .int .i64 exC.bars, .int .i64 exC.n, .int .i64 exC.d, .int .i64 exC.pass] 25 (0, 0)) ∧ StrAt wr (some ⟨w5.heap.size, 0, none⟩) noWords ∧ EnvB wr.heap.size wr ∧ Below w.heap.size w wr) (fun _ i _ => 5 - (intOf i).toNat)
  case atStart => exact ⟨0, by omega, rfl, rfl, HX1.out, HX8.out, HW.out, HE.out, HB.out⟩
  case round =>
    obtain ⟨k, hk, rfl, rfl, x1, x8, hw, he, hbb⟩ := hrel
    clear HX1 HX8 HW HE HB
    have HX1 := Lib.hid x1; have HX8 := Lib.hid x8; have HW := Lib.hid hw; have HE := Lib.hid he; have HB := Lib.hid hbb
    clear x1 x8 hw he hbb
    by_cases hlt : k < 5
    · obtain ⟨hl, hcell⟩ := HW.out.get k (show k < noWords.length from hlt)
      rw [Nat.zero_add] at hcell
      have HPk := Lib.hid (HNW.out _ (List.getElem_mem (show k < noWords.length from hlt)))
      generalize noWords[k]'(show k < noWords.length from hlt) = wd at *
      go_wp2_with (fail)
      refine (HPk.out _ HE.out).mono ?_
      rintro e w6 ⟨rfl, hb⟩
      replace HX1 := Lib.hid (blk_keep HX1.out hb); replace HX8 := Lib.hid (blk_keep HX8.out hb); replace HW := Lib.hid (HW.out.below hb)
      replace HE := Lib.hid ((HE.out.below hb).up hb.size); replace HB := Lib.hid (HB.out.trans (hb.mono HB.out.size))
      clear hb hcell
      go_wp2
      go_roundw
      case rel => exact ⟨k + 1, by omega, rfl, by go_num, up_alloc HX1.out _, up_alloc HX8.out _, HW.out.below (below_box _), HE.out.box _, HB.out.alloc HB.out.size _⟩
      case measure => simp [intOf]; omega
    · obtain rfl : k = 5 := by omega
      have hc1 := box_cells HX1.out; have hc8 := box_cells HX8.out
      have heq := eql_cl exC exC
      rw [decide_eq_true rfl] at heq
      have HVa := Lib.hid (fun W => by have := cvalid_any exC W; rw [ex_valid] at this; exact this)
      simp only [exC] at heq hc1 hc8
      have q1 : (mkS exS).toList = [50, 32, 98, 101, 102, 111, 114, 101, 32, 66, 44, 32, 98, 101, 97, 116, 32, 53, 47, 50, 44, 32, 116, 105, 109, 101, 32, 50] := mk_list exS
      have q2 := mk_list [49, 49, 55]
      have q3 := mk_list [49, 32, 97, 102, 116, 101, 114, 32, 48, 44, 32, 98, 101, 97, 116, 32, 51]
      go_wp2_with (go_at_call 12; refine (HVa.out _).mono ?_; rintro e w' ⟨rfl, hb⟩)
      go_ret
      exact ⟨rfl, HB.out.trans (hb.mono HB.out.size)⟩
end Go.Proofs.YtfppijjjaleiaaaDoor
