
/- The reference's Words and Same. -/
import Derived.Test.YtfppijjjaleiaaaDoorCallRd2
import Derived.Test.YtfppijjjaleiaaaDoorOwn
import Derived.Deep.OwnRows
namespace Go.Proofs.YtfppijjjaleiaaaDoor
set_option linter.unusedSimpArgs false
set_option linter.unusedVariables false
open Go.RowKit Go.Sort

abbrev strW (s : Bs) : List Value := [.string (mkS s)]
theorem eltW : Elt Tryd.prog 35 9 1 16 strW := ⟨Tryd.underlying35, ⟨.string ⟨#[]⟩, by kernel_rfl, by kernel_rfl⟩, by decide, by decide, fun _ => rfl, fun x u hu => by simp [strW] at hu; subst hu; rfl⟩
/-- Two lists of words. -/
theorem RSame_any (a b : List Bs) (pa pb : Option Addr) (ca cb : Nat) (w : World) (ha : StrAt w pa a) (hb : StrAt w pb b) (hla : a.length ≤ 100000) :
    Calls Tryd.prog 16 #[.slice pa a.length ca, .slice pb b.length cb] w fun e w' => e = .returned (.bool (decide (a = b))) ∧ Below w.heap.size w w' := by
  by_cases hl : a.length = b.length
  · have HA := Lib.hid ha; have HB := Lib.hid hb; have HL := Lib.hid hl
    have hne : ((a.length : Int) != (b.length : Int)) = false := by rw [hl]; simp
    clear ha hb hl
    go_enter Tryd.func16, Tryd.ntmps16
    go_wp2
    go_loopw [5] (fun i wr => ∃ k : Nat, k ≤ a.length ∧ i = .int .i64 k ∧ Hid (a.take k = b.take k) ∧ Below w.heap.size w wr) (fun i _ => a.length - (intOf i).toNat)
    case atStart => exact ⟨0, Nat.zero_le _, rfl, Lib.hid rfl, Below.refl _ _⟩
    case round =>
      obtain ⟨k, hk, rfl, HT, hbw⟩ := hrel
      have HW := Lib.hid hbw; clear hbw
      by_cases hlt : k < a.length
      · have hltb : k < b.length := by have := HL.out; omega
        have ga := HA.out.below HW.out; have gb := HB.out.below HW.out
        have hpa : ∃ b0 o0, pa = some ⟨b0, o0, none⟩ := by obtain ⟨b0, o0, e, _⟩ := HA.out k (strW a[k]) (by simp [List.getElem?_eq_getElem hlt]); exact ⟨b0, o0, e⟩
        have hpb : ∃ b0 o0, pb = some ⟨b0, o0, none⟩ := by obtain ⟨b0, o0, e, _⟩ := HB.out k (strW b[k]) (by simp [List.getElem?_eq_getElem hltb]); exact ⟨b0, o0, e⟩
        obtain ⟨ba, oa, rfl⟩ := hpa
        obtain ⟨bb, ob, rfl⟩ := hpb
        have ca' := (ga.get k hlt).2; have cb' := (gb.get k hltb).2
        have hltb2 : (k : Int) < (b.length : Int) := by omega
        have HEq := Lib.hid (show a[k] = b[k] → a.take (k + 1) = b.take (k + 1) from fun e => take_eq_succ a b k hlt hltb HT.out e)
        have HNe := Lib.hid (show a[k] ≠ b[k] → a ≠ b from ne_at a b k hlt hltb)
        clear ga gb
        generalize a[k] = x at *
        generalize b[k] = y at *
        by_cases hxy : x = y
        · have heq := str_eq (mkS x) (mkS y)
          rw [bs_mk, bs_mk, decide_eq_true hxy] at heq
          have hneg : (!((mkS x).toList == (mkS y).toList)) = false := by rw [heq]; rfl
          have HTn := Lib.hid (HEq.out hxy)
          clear hxy HEq HNe
          go_wp2
          go_quiet (fail)
          go_wp2
          go_roundw
          case rel => exact ⟨k + 1, by omega, by go_num, HTn, HW.out.trans ((below_drewN _ nq).mono HW.out.size)⟩
          case measure => simp [intOf]; omega
        · have heq := str_eq (mkS x) (mkS y)
          rw [bs_mk, bs_mk, decide_eq_false hxy] at heq
          have HTn := Lib.hid (HNe.out hxy)
          clear hxy HEq HNe
          go_wp2
          go_quiet (fail)
          go_wp2
          go_ret
          exact ⟨ret_bool (decide_eq_false HTn.out).symm, HW.out.trans ((below_drewN _ nq).mono HW.out.size)⟩
      · obtain rfl : k = a.length := by omega
        have HTn := Lib.hid (show a = b by
          have := HT.out
          rwa [List.take_length, HL.out, List.take_length] at this)
        go_wp2
        go_ret
        exact ⟨ret_bool (decide_eq_true HTn.out).symm, HW.out⟩
  · have hne : ((a.length : Int) != (b.length : Int)) = true := by simp; omega
    have HN := Lib.hid (show a ≠ b from fun e => hl (by rw [e]))
    clear hl
    go_enter Tryd.func16, Tryd.ntmps16
    go_wp2
    go_ret
    exact ⟨ret_bool (decide_eq_false HN.out).symm, Below.refl _ _⟩
theorem flush_len (c : Bs) : (flushW c).length ≤ 1 := by unfold flushW; split <;> simp
/-- What the loop over a source keeps. -/
def WInv (s : Bs) (l : List Bs) (fr k : Nat) : Prop := (k ≤ s.length ∧ fr ≤ k ∧ l ++ wordsA ((s.take k).drop fr) (s.drop k) = wordsL s) ∨ (k = s.length + 1 ∧ l = wordsL s)
theorem winv_plain {s : Bs} {l : List Bs} {fr k : Nat} (h : k < s.length) (hi : WInv s l fr k) (h1 : s[k] ≠ 32) (h2 : s[k] ≠ 44) : WInv s l fr (k + 1) := by
  rcases hi with ⟨a, b, e⟩ | ⟨a, _⟩
  · refine .inl ⟨by omega, by omega, ?_⟩
    rw [← e, List.drop_eq_getElem_cons h, wordsA, if_neg h1, if_neg h2]
    congr 2
    rw [List.take_succ_eq_append_getElem h, List.drop_append_of_le_length (by simp; omega)]
  · omega
theorem winv_blank {s : Bs} {l : List Bs} {fr k : Nat} (h : k < s.length) (hi : WInv s l fr k) (h1 : s[k] = 32) : WInv s (l ++ flushW ((s.take k).drop fr)) (k + 1) (k + 1) := by
  rcases hi with ⟨a, b, e⟩ | ⟨a, _⟩
  · refine .inl ⟨by omega, by omega, ?_⟩
    rw [← e, List.drop_eq_getElem_cons h, wordsA, if_pos h1, List.append_assoc]
    congr 3
    rw [List.drop_eq_nil_of_le (by simp; omega)]
  · omega
theorem winv_comma {s : Bs} {l : List Bs} {fr k : Nat} (h : k < s.length) (hi : WInv s l fr k) (h1 : s[k] = 44) : WInv s (l ++ flushW ((s.take k).drop fr) ++ [[44]]) (k + 1) (k + 1) := by
  rcases hi with ⟨a, b, e⟩ | ⟨a, _⟩
  · refine .inl ⟨by omega, by omega, ?_⟩
    rw [← e, List.drop_eq_getElem_cons h, wordsA, if_neg (by rw [h1]; decide), if_pos h1, List.append_assoc, List.append_assoc]
    congr 2
    rw [List.singleton_append]
    congr 2
    rw [List.drop_eq_nil_of_le (by simp; omega)]
  · omega
theorem winv_end {s : Bs} {l : List Bs} {fr : Nat} (hi : WInv s l fr s.length) : WInv s (l ++ flushW ((s.take s.length).drop fr)) (s.length + 1) (s.length + 1) := by
  rcases hi with ⟨a, b, e⟩ | ⟨a, _⟩
  · refine .inr ⟨rfl, ?_⟩
    rw [← e, List.drop_length, wordsA]
  · omega
set_option maxRecDepth 100000 in
set_option maxHeartbeats 4000000 in
theorem RWords_any (s : Bs) (w : World) (hs : s.length ≤ 10000) : Calls Tryd.prog 17 #[.string (mkS s)] w (RetSl 1 ((wordsL s).map strW) w) := by
  have hz : (mkS s).size = s.length := rfl
  go_enter Tryd.func17, Tryd.ntmps17
  go_wp2
  go_loopg [3, 4, 5] (s.length + 1) (fun g s3 s4 s5 wr => ∃ (l : List Bs) (fr k : Nat), g = s.length + 1 - k ∧ s4 = .int .i64 fr ∧ s5 = .int .i64 k ∧ OwnR wr w.heap.size 9 1 s3 (l.map strW) ∧ Below w.heap.size w wr ∧ l.length ≤ 2 * k ∧ k ≤ s.length + 1 ∧ Hid (WInv s l fr k))
  case atStart => exact ⟨[], 0, 0, by simp, rfl, rfl, OwnR.nil _ _ _ _, Below.refl _ _, by simp, by omega, Lib.hid (.inl ⟨Nat.zero_le _, Nat.zero_le _, rfl⟩)⟩
  case round =>
    obtain ⟨l, fr, k, hg, rfl, rfl, ho, hb, hll, hk1, HI⟩ := hrel
    have HO := Lib.hid ho; have HB := Lib.hid hb; have HG := Lib.hid hg
    clear ho hb hg
    by_cases hk : k ≤ s.length
    · have hfr : fr ≤ k := by
        rcases HI.out with ⟨_, h, _⟩ | ⟨h, _⟩
        · exact h
        · omega
      by_cases hp : ∃ (hlt : k < s.length), s[k] ≠ 32 ∧ s[k] ≠ 44
      · obtain ⟨hlt, h1, h2⟩ := hp
        have hsz : k < (mkS s).size := hlt
        have hx : ∀ h, ((mkS s)[k]'h).toNat = (s[k]'hlt).toNat := fun _ => rfl
        have hi1 : ¬ ((s[k]'hlt).toNat : Int) = 32 := fun e => h1 (UInt8.toNat_inj.1 (by show _ = 32; omega))
        have hi2 : ¬ ((s[k]'hlt).toNat : Int) = 44 := fun e => h2 (UInt8.toNat_inj.1 (by show _ = 44; omega))
        have HN := Lib.hid (winv_plain hlt HI.out h1 h2)
        clear h1 h2
        have hv1 : (((s[k]'hlt).toNat : Int) != 32) = true := by rw [bne_iff_ne]; exact hi1
        have hv2 : (((s[k]'hlt).toNat : Int) != 44) = true := by rw [bne_iff_ne]; exact hi2
        go_wp2
        go_roundg (s.length + 1 - (k + 1))
        case measure => have := HG.out; omega
        case rel => exact ⟨l, fr, k + 1, rfl, rfl, by go_num, HO.out, HB.out, by omega, by omega, HN⟩
      · have hsep : k = s.length ∨ ∃ (hlt : k < s.length), s[k] = 32 ∨ s[k] = 44 := by
          by_cases e : k = s.length
          · exact .inl e
          · refine .inr ⟨by omega, ?_⟩
            by_cases e1 : s[k]'(by omega) = 32
            · exact .inl e1
            · by_cases e2 : s[k]'(by omega) = 44
              · exact .inr e2
              · exact absurd ⟨by omega, e1, e2⟩ hp
        clear hp
        rcases hsep with rfl | ⟨hlt, hc⟩
        · have HN := Lib.hid (winv_end HI.out)
          have HFl := Lib.hid (flush_len ((s.take s.length).drop fr))
          go_upto_if 30 with (fail)
          go_cut [3] from 6 to 52 (fun s3 V => OwnR V w.heap.size 9 1 s3 ((l ++ flushW ((s.take s.length).drop fr)).map strW) ∧ Below w.heap.size w V)
          case first =>
            by_cases hf : (fr : Int) < (s.length : Int)
            · have hx1 : (mkS s).extract fr s.length = mkS ((s.take s.length).drop fr) := mkS_extract s fr s.length
              have HF := Lib.hid (show flushW ((s.take s.length).drop fr) = [(s.take s.length).drop fr] by
                unfold flushW
                rw [if_neg]
                intro e
                have := congrArg List.length e
                simp at this
                omega)
              generalize (s.take s.length).drop fr = cw at *
              go_wp2_with (at_builtin; go_must (refine appE eltW rfl (.tmp 31) (.tmp 36) rfl w.heap.size _ l rfl (HO.out.below ((Below.refl _ _).alloc (Nat.le_refl _) _)) _ _ _ [cw] rfl rfl (fun e => by cases e) (eltW.new _ cw _ _ rfl) (by simp; omega) (by have := HB.out.size; simp; omega) ?_); intro v2 w2 ho2 hg2)
              go_meet
              case rel => exact ⟨by rw [HF.out]; exact ho2, (HB.out.alloc HB.out.size _).grown hg2 (by have := HB.out.size; simp; omega) (fun j e => by have := (HO.out.lt j e).1; omega)⟩
            · have HF := Lib.hid (show flushW ((s.take s.length).drop fr) = [] by
                unfold flushW
                rw [if_pos]
                exact List.drop_eq_nil_of_le (by simp; omega))
              go_wp2
              go_meet
              case rel => exact ⟨by rw [HF.out, List.append_nil]; exact HO.out, HB.out⟩
          case rest =>
          obtain ⟨ho, hb⟩ := hcut
          replace HO := Lib.hid ho; replace HB := Lib.hid hb
          clear ho hb
          generalize (wc : World) = W2 at *
          go_wp2
          go_roundg 0
          case measure => have := HG.out; omega
          case rel => exact ⟨_, s.length + 1, s.length + 1, by omega, by go_num, by go_num, HO.out, HB.out, by have := HFl.out; rw [List.length_append]; omega, by omega, HN⟩
        · have hsz : k < (mkS s).size := hlt
          have HFl := Lib.hid (flush_len ((s.take k).drop fr))
          have hx : ∀ h, ((mkS s)[k]'h).toNat = (s[k]'hlt).toNat := fun _ => rfl
          rcases hc with hc | hc
          · have hi1 : ((s[k]'hlt).toNat : Int) = 32 := by rw [hc]; rfl
            have hv1 : (((s[k]'hlt).toNat : Int) != 32) = false := by rw [hi1]; rfl
            have hv2 : (((s[k]'hlt).toNat : Int) == 44) = false := by rw [hi1]; rfl
            have HN := Lib.hid (winv_blank hlt HI.out hc)
            clear hc
            go_upto_if 30 with (fail)
            go_cut [3] from 6 to 52 (fun s3 V => OwnR V w.heap.size 9 1 s3 ((l ++ flushW ((s.take k).drop fr)).map strW) ∧ Below w.heap.size w V)
            case first =>
              by_cases hf : (fr : Int) < (k : Int)
              · have hx1 : (mkS s).extract fr k = mkS ((s.take k).drop fr) := mkS_extract s fr k
                have HF := Lib.hid (show flushW ((s.take k).drop fr) = [(s.take k).drop fr] by
                  unfold flushW
                  rw [if_neg]
                  intro e
                  have := congrArg List.length e
                  simp at this
                  omega)
                generalize (s.take k).drop fr = cw at *
                go_wp2_with (at_builtin; go_must (refine appE eltW rfl (.tmp 31) (.tmp 36) rfl w.heap.size _ l rfl (HO.out.below ((Below.refl _ _).alloc (Nat.le_refl _) _)) _ _ _ [cw] rfl rfl (fun e => by cases e) (eltW.new _ cw _ _ rfl) (by simp; omega) (by have := HB.out.size; simp; omega) ?_); intro v2 w2 ho2 hg2)
                go_meet
                case rel => exact ⟨by rw [HF.out]; exact ho2, (HB.out.alloc HB.out.size _).grown hg2 (by have := HB.out.size; simp; omega) (fun j e => by have := (HO.out.lt j e).1; omega)⟩
              · have HF := Lib.hid (show flushW ((s.take k).drop fr) = [] by
                  unfold flushW
                  rw [if_pos]
                  exact List.drop_eq_nil_of_le (by simp; omega))
                go_wp2
                go_meet
                case rel => exact ⟨by rw [HF.out, List.append_nil]; exact HO.out, HB.out⟩
            case rest =>
            obtain ⟨ho, hb⟩ := hcut
            replace HO := Lib.hid ho; replace HB := Lib.hid hb
            clear ho hb
            generalize (wc : World) = W2 at *
            go_wp2
            go_roundg (s.length + 1 - (k + 1))
            case measure => have := HG.out; omega
            case rel => exact ⟨_, k + 1, k + 1, rfl, by go_num, by go_num, HO.out, HB.out, by have := HFl.out; rw [List.length_append]; omega, by omega, HN⟩
          · have hi1 : ((s[k]'hlt).toNat : Int) = 44 := by rw [hc]; rfl
            have hv1 : (((s[k]'hlt).toNat : Int) != 32) = true := by rw [hi1]; rfl
            have hv2 : (((s[k]'hlt).toNat : Int) != 44) = false := by rw [hi1]; rfl
            have HN := Lib.hid (winv_comma hlt HI.out hc)
            clear hc
            go_upto_if 30 with (fail)
            go_cut [3] from 6 to 52 (fun s3 V => OwnR V w.heap.size 9 1 s3 ((l ++ flushW ((s.take k).drop fr)).map strW) ∧ Below w.heap.size w V)
            case first =>
              by_cases hf : (fr : Int) < (k : Int)
              · have hx1 : (mkS s).extract fr k = mkS ((s.take k).drop fr) := mkS_extract s fr k
                have HF := Lib.hid (show flushW ((s.take k).drop fr) = [(s.take k).drop fr] by
                  unfold flushW
                  rw [if_neg]
                  intro e
                  have := congrArg List.length e
                  simp at this
                  omega)
                generalize (s.take k).drop fr = cw at *
                go_wp2_with (at_builtin; go_must (refine appE eltW rfl (.tmp 31) (.tmp 36) rfl w.heap.size _ l rfl (HO.out.below ((Below.refl _ _).alloc (Nat.le_refl _) _)) _ _ _ [cw] rfl rfl (fun e => by cases e) (eltW.new _ cw _ _ rfl) (by simp; omega) (by have := HB.out.size; simp; omega) ?_); intro v2 w2 ho2 hg2)
                go_meet
                case rel => exact ⟨by rw [HF.out]; exact ho2, (HB.out.alloc HB.out.size _).grown hg2 (by have := HB.out.size; simp; omega) (fun j e => by have := (HO.out.lt j e).1; omega)⟩
              · have HF := Lib.hid (show flushW ((s.take k).drop fr) = [] by
                  unfold flushW
                  rw [if_pos]
                  exact List.drop_eq_nil_of_le (by simp; omega))
                go_wp2
                go_meet
                case rel => exact ⟨by rw [HF.out, List.append_nil]; exact HO.out, HB.out⟩
            case rest =>
            obtain ⟨ho, hb⟩ := hcut
            replace HO := Lib.hid ho; replace HB := Lib.hid hb
            clear ho hb
            generalize (wc : World) = W2 at *
            have HLf := Lib.hid (show (l ++ flushW ((s.take k).drop fr)).length ≤ 2 * k + 1 by have := HFl.out; rw [List.length_append]; omega)
            generalize l ++ flushW ((s.take k).drop fr) = l2 at *
            go_wp2_with (at_builtin; go_must (refine appE eltW rfl (.tmp 48) (.tmp 49) rfl w.heap.size _ l2 rfl (HO.out.below ((Below.refl _ _).alloc (Nat.le_refl _) _)) _ _ _ [[44]] rfl rfl (fun e => by cases e) (eltW.new _ [44] _ _ rfl) (by have := HLf.out; simp; omega) (by have := HB.out.size; simp; omega) ?_); intro v2 w2 ho2 hg2)
            have HO2 := Lib.hid ho2
            have HB2 := Lib.hid ((HB.out.alloc HB.out.size (.cells #[.string ⟨#[44]⟩] 9)).grown hg2 (by have := HB.out.size; simp; omega) (fun j e => by have := (HO.out.lt j e).1; omega))
            go_roundg (s.length + 1 - (k + 1))
            case measure => have := HG.out; omega
            case rel => exact ⟨_, k + 1, k + 1, rfl, by go_num, by go_num, HO2.out, HB2.out, by have := HLf.out; simp; omega, by omega, HN⟩
    · obtain rfl : k = s.length + 1 := by omega
      have HE := Lib.hid (show l = wordsL s by
        rcases HI.out with ⟨h, _⟩ | ⟨_, h⟩
        · omega
        · exact h)
      go_wp2
      go_ret
      have := HO.out.retSl (by rw [HE.out]) HB.out
      exact this
end Go.Proofs.YtfppijjjaleiaaaDoor
