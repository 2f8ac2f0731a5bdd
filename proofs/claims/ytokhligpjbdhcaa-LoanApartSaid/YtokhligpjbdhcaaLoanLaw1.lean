/- The first law on loans: the walk. -/
import Derived.Test.YtokhligpjbdhcaaLoanHead
namespace Go.Proofs.Ytokhligpjbdhcaa
set_option linter.unusedSimpArgs false
set_option linter.unusedVariables false
open Go.RowKit Go.Sort

theorem pushR_len (l : List Lo) (x : Lo) : (pushR l x).1.length ≤ l.length + 1 := by
  unfold pushR
  repeat' split
  all_goals simp
theorem heldR_len (l : List Lo) (s t : Int) : (heldR l s t).1.length ≤ l.length := by
  unfold heldR
  split
  · exact Nat.le_trans (heldF_len _ _ _ (Nat.le_refl _)) (upTo_len l t)
  · simp
set_option maxRecDepth 100000 in
set_option maxHeartbeats 2000000 in
theorem law1_few (a : Option Addr) (n cap : Nat) (l : List Lo) (t k s st h sheet stand time : Int) (w : World) (hn : n = l.length) (hl : n ≤ 9223372036854775807) (hs : SlOk a n cap) (hr : LoAt w a l) (h1 : decide (n ≤ 60) = true) :
    Calls Try.prog 3 #[.slice a n cap, .agg #[.int .i64 t, .int .i64 k, .int .i64 s, .int .i64 st, .int .i64 h], .int .i64 sheet, .int .i64 stand, .int .i64 time] w fun e w' => e = .returned (.bool true) ∧ Below w.heap.size w w' := by
  have HF := Lib.hid (fun w => Few_any a n cap w hl); clear hl
  have HN := Lib.hid hn; clear hn
  have HL := Lib.hid (show n ≤ 60 by simpa using h1)
  have HL2 := Lib.hid (show n ≤ 1000000 by have := HL.out; omega)
  have HP := Lib.hid (show (pushR l ⟨t, k, s, st, h⟩).1.length ≤ 1000000 by have h2 := pushR_len l ⟨t, k, s, st, h⟩; have h3 := HL.out; have h4 := HN.out; omega)
  have HD := Lib.hid (show (heldR l stand time).1.length ≤ 1000000 by have h2 := heldR_len l stand time; have h3 := HL.out; have h4 := HN.out; omega)
  have HS := Lib.hid hs; clear hs
  rw [h1] at HF
  clear h1
  go_enter Try.func3, Try.ntmps3
  go_wp2_with (first | (go_at_call 8; refine (head_any _).mono ?_; rintro e w1 ⟨rfl, hb⟩; have HX := Lib.hid (box_below hb); have hc := box_cells HX.out; have HB := Lib.hid (((Below.refl _ _).alloc (Nat.le_refl _) _).trans (hb.mono (by simp))); have HR := Lib.hid (hr.below HB.out); clear hb hr) | (go_at_call 9; refine (HF.out _).mono ?_; rintro e w' ⟨rfl, rfl⟩) | (go_at_call 10; refine (PPush_any _ _ _ l _ _ _ _ _ _ HN.out HL2.out HS.out HR.out).mono ?_; rintro e w2 ⟨a1, c1, rfl, _, ha, hb⟩; replace HB := Lib.hid (HB.out.trans (hb.mono HB.out.size)); replace HR := Lib.hid (HR.out.below hb); replace HX := Lib.hid (blk_keep HX.out hb); replace hc := box_cells HX.out; (try replace HA := Lib.hid (SlAt.below HA.out hb)); (try replace HC := Lib.hid (SlAt.below HC.out hb)); (try replace HE := Lib.hid (SlAt.below HE.out hb)); (try replace HG := Lib.hid (SlAt.below HG.out hb)); clear hb; have HA := Lib.hid ha; clear ha) | (go_at_call 11; refine (Push_any _ _ _ l _ _ _ _ _ _ HN.out HL2.out HS.out HR.out).mono ?_; rintro e w3 ⟨a2, c2, rfl, _, ha, hb⟩; replace HB := Lib.hid (HB.out.trans (hb.mono HB.out.size)); replace HR := Lib.hid (HR.out.below hb); replace HX := Lib.hid (blk_keep HX.out hb); replace hc := box_cells HX.out; (try replace HA := Lib.hid (SlAt.below HA.out hb)); (try replace HC := Lib.hid (SlAt.below HC.out hb)); (try replace HE := Lib.hid (SlAt.below HE.out hb)); (try replace HG := Lib.hid (SlAt.below HG.out hb)); clear hb; have HC := Lib.hid ha; clear ha) | (go_at_call 12; refine (PValid_any _ _ _ l _ HN.out HL2.out HR.out).mono ?_; rintro e w4 ⟨rfl, hb⟩; replace HB := Lib.hid (HB.out.trans (hb.mono HB.out.size)); replace HR := Lib.hid (HR.out.below hb); replace HX := Lib.hid (blk_keep HX.out hb); replace hc := box_cells HX.out; (try replace HA := Lib.hid (SlAt.below HA.out hb)); (try replace HC := Lib.hid (SlAt.below HC.out hb)); (try replace HE := Lib.hid (SlAt.below HE.out hb)); (try replace HG := Lib.hid (SlAt.below HG.out hb)); clear hb) | (go_at_call 13; refine (Valid_any _ _ _ l _ HN.out HL2.out HS.out HR.out).mono ?_; rintro e w5 ⟨rfl, hb⟩; replace HB := Lib.hid (HB.out.trans (hb.mono HB.out.size)); replace HR := Lib.hid (HR.out.below hb); replace HX := Lib.hid (blk_keep HX.out hb); replace hc := box_cells HX.out; (try replace HA := Lib.hid (SlAt.below HA.out hb)); (try replace HC := Lib.hid (SlAt.below HC.out hb)); (try replace HE := Lib.hid (SlAt.below HE.out hb)); (try replace HG := Lib.hid (SlAt.below HG.out hb)); clear hb) | (go_at_call 14; refine (Same_any _ _ _ _ _ _ (pushR l ⟨t, k, s, st, h⟩).1 (pushR l ⟨t, k, s, st, h⟩).1 _ (by simp) (by simp) (by simpa using HP.out) (by simpa using HP.out) HA.out HC.out).mono ?_; rw [decide_eq_true rfl]; rintro e w6 ⟨rfl, hb⟩; replace HB := Lib.hid (HB.out.trans (hb.mono HB.out.size)); replace HR := Lib.hid (HR.out.below hb); replace HX := Lib.hid (blk_keep HX.out hb); replace hc := box_cells HX.out; (try replace HA := Lib.hid (SlAt.below HA.out hb)); (try replace HC := Lib.hid (SlAt.below HC.out hb)); (try replace HE := Lib.hid (SlAt.below HE.out hb)); (try replace HG := Lib.hid (SlAt.below HG.out hb)); clear hb) | (go_at_call 15; refine (PHolder_any _ _ _ l _ _ _ HN.out HL2.out HR.out).mono ?_; rintro e w7 ⟨rfl, hb⟩; replace HB := Lib.hid (HB.out.trans (hb.mono HB.out.size)); replace HR := Lib.hid (HR.out.below hb); replace HX := Lib.hid (blk_keep HX.out hb); replace hc := box_cells HX.out; (try replace HA := Lib.hid (SlAt.below HA.out hb)); (try replace HC := Lib.hid (SlAt.below HC.out hb)); (try replace HE := Lib.hid (SlAt.below HE.out hb)); (try replace HG := Lib.hid (SlAt.below HG.out hb)); clear hb) | (go_at_call 16; refine (Holder_any _ _ _ l _ _ _ HN.out HL2.out HS.out HR.out).mono ?_; rintro e w8 ⟨rfl, hb⟩; replace HB := Lib.hid (HB.out.trans (hb.mono HB.out.size)); replace HR := Lib.hid (HR.out.below hb); replace HX := Lib.hid (blk_keep HX.out hb); replace hc := box_cells HX.out; (try replace HA := Lib.hid (SlAt.below HA.out hb)); (try replace HC := Lib.hid (SlAt.below HC.out hb)); (try replace HE := Lib.hid (SlAt.below HE.out hb)); (try replace HG := Lib.hid (SlAt.below HG.out hb)); clear hb) | (go_at_call 17; refine (PHeld_any _ _ _ l _ _ _ HN.out HL2.out HR.out).mono ?_; rintro e w9 ⟨a3, c3, rfl, _, ha, hb⟩; replace HB := Lib.hid (HB.out.trans (hb.mono HB.out.size)); replace HR := Lib.hid (HR.out.below hb); replace HX := Lib.hid (blk_keep HX.out hb); replace hc := box_cells HX.out; (try replace HA := Lib.hid (SlAt.below HA.out hb)); (try replace HC := Lib.hid (SlAt.below HC.out hb)); (try replace HE := Lib.hid (SlAt.below HE.out hb)); (try replace HG := Lib.hid (SlAt.below HG.out hb)); clear hb; have HE := Lib.hid ha; clear ha) | (go_at_call 18; refine (Held_any _ _ _ l _ _ _ HN.out HL2.out HS.out HR.out).mono ?_; rintro e w10 ⟨a4, c4, rfl, _, ha, hb⟩; replace HB := Lib.hid (HB.out.trans (hb.mono HB.out.size)); replace HR := Lib.hid (HR.out.below hb); replace HX := Lib.hid (blk_keep HX.out hb); replace hc := box_cells HX.out; (try replace HA := Lib.hid (SlAt.below HA.out hb)); (try replace HC := Lib.hid (SlAt.below HC.out hb)); (try replace HE := Lib.hid (SlAt.below HE.out hb)); (try replace HG := Lib.hid (SlAt.below HG.out hb)); clear hb; have HG := Lib.hid ha; clear ha) | (go_at_call 19; refine (SameInts_any _ _ _ _ _ _ (heldR l stand time).1 (heldR l stand time).1 _ (by simp) (by simp) (by simpa using HD.out) (by simpa using HD.out) HE.out HG.out).mono ?_; rw [decide_eq_true rfl]; rintro e w11 ⟨rfl, hb⟩; replace HB := Lib.hid (HB.out.trans (hb.mono HB.out.size)); replace HR := Lib.hid (HR.out.below hb); replace HX := Lib.hid (blk_keep HX.out hb); replace hc := box_cells HX.out; (try replace HA := Lib.hid (SlAt.below HA.out hb)); (try replace HC := Lib.hid (SlAt.below HC.out hb)); (try replace HE := Lib.hid (SlAt.below HE.out hb)); (try replace HG := Lib.hid (SlAt.below HG.out hb)); clear hb) | (go_at_call 20; refine (PHall_any _ _ _ l _ _ _ HN.out HL2.out HR.out).mono ?_; rintro e w12 ⟨rfl, hb⟩; replace HB := Lib.hid (HB.out.trans (hb.mono HB.out.size)); replace HR := Lib.hid (HR.out.below hb); replace HX := Lib.hid (blk_keep HX.out hb); replace hc := box_cells HX.out; (try replace HA := Lib.hid (SlAt.below HA.out hb)); (try replace HC := Lib.hid (SlAt.below HC.out hb)); (try replace HE := Lib.hid (SlAt.below HE.out hb)); (try replace HG := Lib.hid (SlAt.below HG.out hb)); clear hb) | (go_at_call 21; refine (Hall_any _ _ _ l _ _ _ HN.out HL2.out HS.out HR.out).mono ?_; rintro e w13 ⟨rfl, hb⟩; replace HB := Lib.hid (HB.out.trans (hb.mono HB.out.size)); replace HR := Lib.hid (HR.out.below hb); replace HX := Lib.hid (blk_keep HX.out hb); replace hc := box_cells HX.out; (try replace HA := Lib.hid (SlAt.below HA.out hb)); (try replace HC := Lib.hid (SlAt.below HC.out hb)); (try replace HE := Lib.hid (SlAt.below HE.out hb)); (try replace HG := Lib.hid (SlAt.below HG.out hb)); clear hb))
  go_ret
  exact ⟨rfl, HB.out⟩

set_option maxRecDepth 100000 in
set_option maxHeartbeats 2000000 in
theorem law1_any (a : Option Addr) (n cap : Nat) (l : List Lo) (t k s st h sheet stand time : Int) (w : World) (hn : n = l.length) (hl : n ≤ 9223372036854775807) (hs : SlOk a n cap) (hr : LoAt w a l) :
    Calls Try.prog 3 #[.slice a n cap, .agg #[.int .i64 t, .int .i64 k, .int .i64 s, .int .i64 st, .int .i64 h], .int .i64 sheet, .int .i64 stand, .int .i64 time] w fun e w' => e = .returned (.bool true) ∧ Below w.heap.size w w' := by
  by_cases h1 : n ≤ 60
  · exact law1_few a n cap l t k s st h sheet stand time w hn hl hs hr (by simpa using h1)
  · have h2 : decide (n ≤ 60) = false := by simpa using h1
    have HF := Lib.hid (fun w => Few_any a n cap w hl); clear hl hn hs hr h1
    rw [h2] at HF
    clear h2
    go_enter Try.func3, Try.ntmps3
    go_wp2_with (first | (go_at_call 8; refine (head_any _).mono ?_; rintro e w1 ⟨rfl, hb⟩; have HB := Lib.hid (((Below.refl _ _).alloc (Nat.le_refl _) _).trans (hb.mono (by simp))); clear hb) | (go_at_call 9; refine (HF.out _).mono ?_; rintro e w' ⟨rfl, rfl⟩))
    go_ret
    exact ⟨rfl, HB.out⟩

end Go.Proofs.Ytokhligpjbdhcaa
