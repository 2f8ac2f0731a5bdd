
/- The reference's decimal, text, Print. -/
import Derived.Test.YtfppijjjaleiaaaDoorCallText
import Derived.Test.YtfppijjjaleiaaaDoorCallRefV
import Derived.Laws.IdiomStrings
namespace Go.Proofs.YtfppijjjaleiaaaDoor
set_option linter.unusedSimpArgs false
set_option linter.unusedVariables false
open Go.RowKit Go.Sort

def dgR (j : Nat) : UInt8 := UInt8.ofNat (48 + j % 10)
theorem digR_run (j : Nat) (w : World) : (convert 54 9 (.slice (some ⟨w.heap.size, 0, none⟩) 1 1)).run Tryd.prog (w.alloc (.cells #[.int .u8 (48 + (j : Int) % 10)] 5)) = .ok (.string ⟨#[dgR j]⟩) (w.alloc (.cells #[.int .u8 (48 + (j : Int) % 10)] 5)) := by
  refine run_convert_bytes_back (P := Tryd.prog) _ _ _ _ ⟨w.heap.size, 0, none⟩ 1 [dgR j] Tryd.underlying54 Tryd.underlying5 Tryd.underlying9 fun k hk => ?_
  have hk0 : k = 0 := by simp at hk; omega
  subst hk0
  have e : ((dgR j).toNat : Int) = 48 + (j : Int) % 10 := by
    unfold dgR
    rw [UInt8.toNat_ofNat']; omega
  have e2 : ([dgR j][0]'hk) = dgR j := rfl
  rw [e2, e]
  have := World.cell?_alloc_mark w #[.int .u8 (48 + (j : Int) % 10)] 5 (0, 0) 0
  exact this
theorem itoa_lo (j : Nat) (h : j ≤ 9) : (⟨#[dgR j]⟩ : ByteArray) = mkS (Lib.itoa j) := by
  rw [itoa_nat (by omega)]
  show mkS [UInt8.ofNat (48 + j % 10)] = mkS (Lib.decDigits j)
  rw [Lib.decDigits, dif_pos (by omega), Nat.mod_eq_of_lt (by omega)]
theorem itoa_hi (j : Nat) (h : 10 ≤ j) : mkS (Lib.itoa ((j / 10 : Nat) : Int)) ++ (⟨#[dgR j]⟩ : ByteArray) = mkS (Lib.itoa j) := by
  rw [itoa_nat (by omega), itoa_nat (by omega)]
  show mkS (Lib.decDigits (j / 10)) ++ mkS [UInt8.ofNat (48 + j % 10)] = mkS (Lib.decDigits j)
  rw [mkS_append]
  conv => rhs; rw [Lib.decDigits, dif_neg (by omega)]
set_option maxRecDepth 100000 in
set_option maxHeartbeats 1000000 in
theorem RdecN_any : ∀ (j : Nat) (w : World), j ≤ 10000000 → Calls Tryd.prog 33 #[.int .i64 j] w fun e w' => e = .returned (.string (mkS (Lib.itoa j))) ∧ Below w.heap.size w w' := by
  intro j
  induction j using Nat.strongRecOn with
  | _ j IH =>
  intro w hj
  have hcv := digR_run j w
  by_cases h : j ≤ 9
  · have hten : ¬ ((10 : Int) ≤ j) := by omega
    have HI := Lib.hid (itoa_lo j h)
    clear IH
    go_enter Tryd.func33, Tryd.ntmps33
    go_wp2
    go_ret
    exact ⟨by rw [HI.out]; rfl, (Below.refl _ _).alloc (Nat.le_refl _) _⟩
  · have hten : (10 : Int) ≤ j := by omega
    have HI := Lib.hid (itoa_hi j (by omega))
    have hq : ((j / 10 : Nat) : Int) = (j : Int) / 10 := by omega
    have HQ := Lib.hid hq
    have HD := Lib.hid (fun w => IH (j / 10) (by omega) w (by omega))
    have hz : (mkS (Lib.itoa ((j / 10 : Nat) : Int))).size ≤ 8 := by show (Lib.itoa ((j / 10 : Nat) : Int)).length ≤ 8; exact itoa_len (n := ((j / 10 : Nat) : Int)) 8 (by omega) (by omega) (by omega)
    rw [hq] at HD HI hz
    clear hq IH
    go_enter Tryd.func33, Tryd.ntmps33
    go_wp2_with (fail)
    refine (HD.out _).mono ?_
    rintro e w2 ⟨rfl, hb⟩
    have HB := Lib.hid (allocB hb); clear hb hcv
    go_wp2
    go_ret
    exact ⟨by rw [HI.out]; rfl, HB.out⟩
theorem Rdec_any (n : Int) (w : World) (h0 : 0 ≤ n) (h1 : n ≤ 10000000) : Calls Tryd.prog 33 #[.int .i64 n] w fun e w' => e = .returned (.string (mkS (Lib.itoa n))) ∧ Below w.heap.size w w' := by
  obtain ⟨j, rfl⟩ := Int.eq_ofNat_of_zero_le h0
  exact RdecN_any j w (by omega)
set_option maxRecDepth 100000 in
set_option maxHeartbeats 8000000 in
theorem Rtext_any (c : Cl) (w : World) (hv : VC c) : Calls Tryd.prog 19 #[.agg #[.string (mkS c.letter), .int .i64 c.number, .int .i64 c.bars, .int .i64 c.n, .int .i64 c.d, .int .i64 c.pass]] w fun e w' => e = .returned (.string (mkS (textC c))) ∧ Below w.heap.size w w' := by
  have HV := Lib.hid hv
  have htl := text_len hv
  have hd := div_le hv.d1 hv.div
  obtain ⟨hpl, d1, hgcd, n0, _, n1, b0, b1, p0, p1⟩ := hv
  have hnu : 0 ≤ c.number ∧ c.number ≤ 100000 := by
    rcases hpl with ⟨_, h, h'⟩ | ⟨_, h⟩
    · exact ⟨h, h'⟩
    · rw [h]; decide
  obtain ⟨hnu0, hnu1⟩ := hnu
  have HD0 := Lib.hid (show c.n = 0 → c.d = 1 from fun e => by rw [e] at hgcd; simp at hgcd; omega)
  clear hpl hgcd
  have HTx := Lib.hid (show textC c = barsT c.bars ++ placeT c ++ beatT c.n c.d ++ passT c.pass from rfl)
  have hl1 : (barsT c.bars).length ≤ 100 ∧ (placeT c).length ≤ 100 ∧ (beatT c.n c.d).length ≤ 100 ∧ (passT c.pass).length ≤ 100 ∧ c.letter.length ≤ 100 := by
    have e := HTx.out
    have h2 : c.letter.length ≤ (placeT c).length := by
      unfold placeT
      split
      · rename_i h; rw [h]; simp
      · exact Nat.le_refl _
    rw [e] at htl
    simp only [List.length_append] at htl
    omega
  obtain ⟨hlb, hlp, hlq, hlt, hll⟩ := hl1
  have HB1 := Lib.hid (show 0 < c.bars → barsT c.bars = Lib.itoa c.bars ++ [32, 97, 102, 116, 101, 114, 32] from fun h => by unfold barsT; rw [if_pos h])
  have HB2 := Lib.hid (show c.bars < 0 → barsT c.bars = Lib.itoa (-c.bars) ++ [32, 98, 101, 102, 111, 114, 101, 32] from fun h => by unfold barsT; rw [if_neg (by omega), if_pos h])
  have HB3 := Lib.hid (show c.bars = 0 → barsT c.bars = [] from fun h => by unfold barsT; rw [if_neg (by omega), if_neg (by omega)])
  have HP1 := Lib.hid (show c.letter = [] → placeT c = Lib.itoa c.number from fun h => by unfold placeT; rw [if_pos h])
  have HP2 := Lib.hid (show c.letter ≠ [] → placeT c = c.letter from fun h => by unfold placeT; rw [if_neg h])
  have HQ0 := Lib.hid (show c.n = 0 → beatT c.n c.d = [] from fun h => by unfold beatT; rw [if_neg (by omega)])
  have HQ1 := Lib.hid (show 0 < c.n → c.d = 1 → beatT c.n c.d = [44, 32, 98, 101, 97, 116, 32] ++ Lib.itoa c.n from fun h h2 => by unfold beatT fracT; rw [if_pos h, if_neg (by omega)])
  have HQ2 := Lib.hid (show 0 < c.n → c.d ≠ 1 → beatT c.n c.d = [44, 32, 98, 101, 97, 116, 32] ++ (Lib.itoa c.n ++ ([47] ++ Lib.itoa c.d)) from fun h h2 => by unfold beatT fracT; rw [if_pos h, if_pos (by omega)]; simp)
  have HT0 := Lib.hid (show c.pass = 0 → passT c.pass = [] from fun h => by unfold passT; rw [if_neg (by omega)])
  have HT1 := Lib.hid (show 0 < c.pass → passT c.pass = [44, 32, 116, 105, 109, 101, 32] ++ Lib.itoa c.pass from fun h => by unfold passT; rw [if_pos h])
  generalize textC c = TX at *
  generalize barsT c.bars = B at *
  generalize placeT c = PL at *
  generalize beatT c.n c.d = Q at *
  generalize passT c.pass = T at *
  have hzB : (mkS B).size = B.length := rfl
  obtain ⟨A1, hA1⟩ : ∃ A1, A1 = if 0 < c.bars then B else [] := ⟨_, rfl⟩
  have HA1 := Lib.hid (show 0 < c.bars → A1 = B from fun h => by rw [hA1, if_pos h])
  have HA2 := Lib.hid (show c.bars ≤ 0 → A1 = [] from fun h => by rw [hA1, if_neg (by omega)])
  obtain ⟨A3, hA3⟩ : ∃ A3, A3 = if c.letter = [] then Lib.itoa c.number else [] := ⟨_, rfl⟩
  have HA3 := Lib.hid (show c.letter = [] → A3 = Lib.itoa c.number from fun h => by rw [hA3, if_pos h])
  have HA4 := Lib.hid (show c.letter ≠ [] → A3 = [] from fun h => by rw [hA3, if_neg h])
  clear hA1 hA3
  obtain ⟨BP, hBP⟩ : ∃ BP, BP = B ++ PL := ⟨_, rfl⟩
  obtain ⟨BPQ, hBPQ⟩ : ∃ BPQ, BPQ = BP ++ Q := ⟨_, rfl⟩
  have HBP := Lib.hid hBP; have HBPQ := Lib.hid hBPQ
  have hlbp : BP.length ≤ 200 := by rw [hBP, List.length_append]; omega
  have hlbpq : BPQ.length ≤ 300 := by rw [hBPQ, List.length_append]; omega
  clear hBP hBPQ
  obtain ⟨BA, hBA⟩ : ∃ BA, BA = B ++ A3 := ⟨_, rfl⟩
  have HBA := Lib.hid hBA
  clear hBA
  have hl3 : A3.length ≤ 7 := by
    by_cases h : c.letter = []
    · rw [HA3.out h]; exact itoa_sz (n := c.number) (by omega) (by omega)
    · rw [HA4.out h]; simp
  go_enter Tryd.func19, Tryd.ntmps19
  go_upto_region 1 with (fail)
  have HX := Lib.hid (heap_alloc_new w (.cells #[.string (mkS c.letter), .int .i64 c.number, .int .i64 c.bars, .int .i64 c.n, .int .i64 c.d, .int .i64 c.pass] 25 (0, 0)))
  have HB := Lib.hid ((Below.refl w.heap.size w).alloc (Nat.le_refl _) (.cells #[.string (mkS c.letter), .int .i64 c.number, .int .i64 c.bars, .int .i64 c.n, .int .i64 c.d, .int .i64 c.pass] 25 (0, 0)))
  generalize w.alloc (.cells #[.string (mkS c.letter), .int .i64 c.number, .int .i64 c.bars, .int .i64 c.n, .int .i64 c.d, .int .i64 c.pass] 25 (0, 0)) = W at *
  have hc := box_cells HX.out
  go_upto_if 6 with (fail)
  go_cut [3] from 4 (fun s3 V => s3 = .string (mkS A1) ∧ V.heap[w.heap.size]? = some (.cells #[.string (mkS c.letter), .int .i64 c.number, .int .i64 c.bars, .int .i64 c.n, .int .i64 c.d, .int .i64 c.pass] 25 (0, 0)) ∧ Below w.heap.size w V)
  case first =>
    by_cases h1 : 0 < c.bars
    · have hz := itoa_sz (n := c.bars) (by omega) (by omega)
      have ht : mkS (Lib.itoa c.bars) ++ (⟨#[32, 97, 102, 116, 101, 114, 32]⟩ : ByteArray) = mkS (Lib.itoa c.bars ++ [32, 97, 102, 116, 101, 114, 32]) := cat_eq _ _
      go_wp2_with ((go_at_call 33; refine (Rdec_any _ _ (by omega) (by omega)).mono ?_; rintro e w' ⟨rfl, hb⟩; replace HX := Lib.hid (blk_keep HX.out hb); replace HB := Lib.hid (HB.out.trans (hb.mono HB.out.size)); clear hb hc; have hc := box_cells HX.out))
      go_meet
      case rel => exact ⟨by rw [HA1.out h1, HB1.out h1], HX.out, HB.out⟩
    · go_wp2
      go_meet
      case rel => exact ⟨by rw [HA2.out (by omega)]; rfl, HX.out, HB.out⟩
  case rest =>
  obtain ⟨rfl, hx, hbb⟩ := hcut; replace HX := Lib.hid hx; replace HB := Lib.hid hbb; clear hx hbb hc; generalize (wc : World) = W1 at *; have hc := box_cells HX.out
  go_upto_if 13 with (fail)
  go_cut [3] from 4 (fun s3 V => s3 = .string (mkS B) ∧ V.heap[w.heap.size]? = some (.cells #[.string (mkS c.letter), .int .i64 c.number, .int .i64 c.bars, .int .i64 c.n, .int .i64 c.d, .int .i64 c.pass] 25 (0, 0)) ∧ Below w.heap.size w V)
  case first =>
    by_cases h1 : c.bars < 0
    · have hz := itoa_sz (n := -c.bars) (by omega) (by omega)
      have ht : mkS (Lib.itoa (-c.bars)) ++ (⟨#[32, 98, 101, 102, 111, 114, 101, 32]⟩ : ByteArray) = mkS (Lib.itoa (-c.bars) ++ [32, 98, 101, 102, 111, 114, 101, 32]) := cat_eq _ _
      go_wp2_with ((go_at_call 33; refine (Rdec_any _ _ (by omega) (by omega)).mono ?_; rintro e w' ⟨rfl, hb⟩; replace HX := Lib.hid (blk_keep HX.out hb); replace HB := Lib.hid (HB.out.trans (hb.mono HB.out.size)); clear hb hc; have hc := box_cells HX.out))
      go_meet
      case rel => exact ⟨by rw [HB2.out h1], HX.out, HB.out⟩
    · have HE1 := Lib.hid (show A1 = B by
        by_cases h2 : 0 < c.bars
        · exact HA1.out h2
        · rw [HA2.out (by omega), HB3.out (by omega)])
      go_wp2
      go_meet
      case rel => exact ⟨by rw [HE1.out], HX.out, HB.out⟩
  case rest =>
  obtain ⟨rfl, hx, hbb⟩ := hcut; replace HX := Lib.hid hx; replace HB := Lib.hid hbb; clear hx hbb hc; generalize (wc : World) = W2 at *; have hc := box_cells HX.out
  go_upto_if 21 with (fail)
  go_cut [3] from 4 (fun s3 V => s3 = .string (mkS BA) ∧ V.heap[w.heap.size]? = some (.cells #[.string (mkS c.letter), .int .i64 c.number, .int .i64 c.bars, .int .i64 c.n, .int .i64 c.d, .int .i64 c.pass] 25 (0, 0)) ∧ Below w.heap.size w V)
  case first =>
    by_cases h1 : c.letter = []
    · have he : (mkS c.letter).toList.isEmpty = true := by rw [mk_list, h1]; rfl
      have hz := itoa_sz (n := c.number) (by omega) (by omega)
      have ht : mkS B ++ mkS (Lib.itoa c.number) = mkS BA := by rw [mkS_append, HBA.out, HA3.out h1]
      clear h1
      rw [he]
      go_wp2_with ((go_at_call 33; refine (Rdec_any _ _ (by omega) (by omega)).mono ?_; rintro e w' ⟨rfl, hb⟩; replace HX := Lib.hid (blk_keep HX.out hb); replace HB := Lib.hid (HB.out.trans (hb.mono HB.out.size)); clear hb hc; have hc := box_cells HX.out))
      go_meet
      case rel => exact ⟨rfl, HX.out, HB.out⟩
    · have he : (mkS c.letter).toList.isEmpty = false := by rw [mk_list, ← Bool.not_eq_true, List.isEmpty_iff]; exact h1
      have HE1 := Lib.hid (show BA = B by rw [HBA.out, HA4.out h1, List.append_nil])
      clear h1
      rw [he]
      go_wp2
      go_meet
      case rel => exact ⟨by rw [HE1.out], HX.out, HB.out⟩
  case rest =>
  obtain ⟨rfl, hx, hbb⟩ := hcut; replace HX := Lib.hid hx; replace HB := Lib.hid hbb; clear hx hbb hc; generalize (wc : World) = W3 at *; have hc := box_cells HX.out
  have htp : mkS BA ++ mkS c.letter = mkS BP := by
    rw [mkS_append, HBA.out, HBP.out]
    congr 1
    by_cases h1 : c.letter = []
    · rw [HA3.out h1, HP1.out h1, h1, List.append_nil]
    · rw [HA4.out h1, HP2.out h1, List.append_nil]
  have hzp : (mkS BA).size ≤ 200 := by
    show BA.length ≤ 200
    rw [HBA.out, List.length_append]
    omega
  have hzl : (mkS c.letter).size = c.letter.length := rfl
  go_upto_if 34 with (fail)
  go_cut [3] from 4 (fun s3 V => s3 = .string (mkS BPQ) ∧ V.heap[w.heap.size]? = some (.cells #[.string (mkS c.letter), .int .i64 c.number, .int .i64 c.bars, .int .i64 c.n, .int .i64 c.d, .int .i64 c.pass] 25 (0, 0)) ∧ Below w.heap.size w V)
  case first =>
    clear htp
    have hzBP : (mkS BP).size ≤ 200 := hlbp
    by_cases h1 : c.n = 0
    · have hne : (c.n != 0) = false := by rw [h1]; rfl
      have HE1 := Lib.hid (show BPQ = BP by rw [HBPQ.out, HQ0.out h1, List.append_nil])
      clear h1
      go_wp2
      go_meet
      case rel => exact ⟨by rw [HE1.out], HX.out, HB.out⟩
    · have hne : (c.n != 0) = true := by rw [bne_iff_ne]; exact h1
      have hpos : 0 < c.n := by omega
      have hz := itoa_sz (n := c.n) (by omega) (by omega)
      have hz2 : (Lib.itoa c.n).length ≤ 7 := hz
      obtain ⟨X1, hX1⟩ : ∃ X1, X1 = BP ++ [44, 32, 98, 101, 97, 116, 32] := ⟨_, rfl⟩
      obtain ⟨X2, hX2⟩ : ∃ X2, X2 = X1 ++ Lib.itoa c.n := ⟨_, rfl⟩
      have ht1 : mkS BP ++ (⟨#[44, 32, 98, 101, 97, 116, 32]⟩ : ByteArray) = mkS X1 := (cat_eq _ _).trans (by rw [hX1])
      have ht2 : mkS X1 ++ mkS (Lib.itoa c.n) = mkS X2 := (mkS_append _ _).trans (by rw [hX2])
      have hs1 : (mkS X1).size ≤ 300 := by show X1.length ≤ 300; rw [hX1]; simp; omega
      have hs2 : (mkS X2).size ≤ 310 := by show X2.length ≤ 310; rw [hX2, hX1]; simp; omega
      by_cases h2 : c.d = 1
      · have hne2 : (c.d != 1) = false := by rw [h2]; rfl
        have HE1 := Lib.hid (show BPQ = X2 by rw [HBPQ.out, HQ1.out hpos h2, hX2, hX1]; simp)
        clear h1 h2 hX1 hX2
        go_wp2_with ((go_at_call 33; refine (Rdec_any _ _ (by omega) (by omega)).mono ?_; rintro e w' ⟨rfl, hb⟩; replace HX := Lib.hid (blk_keep HX.out hb); replace HB := Lib.hid (HB.out.trans (hb.mono HB.out.size)); clear hb hc; have hc := box_cells HX.out))
        go_meet
        case rel => exact ⟨by rw [HE1.out], HX.out, HB.out⟩
      · have hne2 : (c.d != 1) = true := by rw [bne_iff_ne]; exact h2
        have hzd := itoa_sz (n := c.d) (by omega) (by omega)
        have hzd2 : (Lib.itoa c.d).length ≤ 7 := hzd
        obtain ⟨X3, hX3⟩ : ∃ X3, X3 = X2 ++ [47] := ⟨_, rfl⟩
        obtain ⟨X4, hX4⟩ : ∃ X4, X4 = X3 ++ Lib.itoa c.d := ⟨_, rfl⟩
        have ht3 : mkS X2 ++ (⟨#[47]⟩ : ByteArray) = mkS X3 := (cat_eq _ _).trans (by rw [hX3])
        have ht4 : mkS X3 ++ mkS (Lib.itoa c.d) = mkS X4 := (mkS_append _ _).trans (by rw [hX4])
        have hs3 : (mkS X3).size ≤ 320 := by show X3.length ≤ 320; rw [hX3, hX2, hX1]; simp; omega
        have HE1 := Lib.hid (show BPQ = X4 by rw [HBPQ.out, HQ2.out hpos h2, hX4, hX3, hX2, hX1]; simp)
        clear h1 h2 hX1 hX2 hX3 hX4
        go_wp2_with ((go_at_call 33; refine (Rdec_any _ _ (by omega) (by omega)).mono ?_; rintro e w' ⟨rfl, hb⟩; replace HX := Lib.hid (blk_keep HX.out hb); replace HB := Lib.hid (HB.out.trans (hb.mono HB.out.size)); clear hb hc; have hc := box_cells HX.out))
        go_meet
        case rel => exact ⟨by rw [HE1.out], HX.out, HB.out⟩
  case rest =>
  clear htp
  obtain ⟨rfl, hx, hbb⟩ := hcut; replace HX := Lib.hid hx; replace HB := Lib.hid hbb; clear hx hbb hc; generalize (wc : World) = W4 at *; have hc := box_cells HX.out
  have hzQ : (mkS BPQ).size ≤ 300 := hlbpq
  go_upto_if 55 with (fail)
  by_cases h1 : c.pass = 0
  · have hne : (c.pass != 0) = false := by rw [h1]; rfl
    have HE1 := Lib.hid (show TX = BPQ by rw [HTx.out, HT0.out h1, HBPQ.out, HBP.out, List.append_nil])
    clear h1
    go_wp2
    go_ret
    exact ⟨by rw [HE1.out]; rfl, HB.out⟩
  · have hne : (c.pass != 0) = true := by rw [bne_iff_ne]; exact h1
    have hz := itoa_sz (n := c.pass) (by omega) (by omega)
    have hz2 : (Lib.itoa c.pass).length ≤ 7 := hz
    obtain ⟨X1, hX1⟩ : ∃ X1, X1 = BPQ ++ [44, 32, 116, 105, 109, 101, 32] := ⟨_, rfl⟩
    obtain ⟨X2, hX2⟩ : ∃ X2, X2 = X1 ++ Lib.itoa c.pass := ⟨_, rfl⟩
    have ht1 : mkS BPQ ++ (⟨#[44, 32, 116, 105, 109, 101, 32]⟩ : ByteArray) = mkS X1 := (cat_eq _ _).trans (by rw [hX1])
    have ht2 : mkS X1 ++ mkS (Lib.itoa c.pass) = mkS X2 := (mkS_append _ _).trans (by rw [hX2])
    have hs1 : (mkS X1).size ≤ 400 := by show X1.length ≤ 400; rw [hX1]; simp; omega
    have HE1 := Lib.hid (show TX = X2 by rw [HTx.out, HT1.out (by omega), hX2, hX1, HBPQ.out, HBP.out]; simp)
    clear h1 hX1 hX2
    go_wp2_with ((go_at_call 33; refine (Rdec_any _ _ (by omega) (by omega)).mono ?_; rintro e w' ⟨rfl, hb⟩; replace HX := Lib.hid (blk_keep HX.out hb); replace HB := Lib.hid (HB.out.trans (hb.mono HB.out.size)); clear hb hc; have hc := box_cells HX.out))
    go_ret
    exact ⟨by rw [HE1.out]; rfl, HB.out⟩
theorem RPrint_any (c : Cl) (w : World) : Calls Tryd.prog 11 #[.agg #[.string (mkS c.letter), .int .i64 c.number, .int .i64 c.bars, .int .i64 c.n, .int .i64 c.d, .int .i64 c.pass]] w fun e w' => e = .returned (.tuple #[.string (mkS (printC c).1), .int .i64 (printC c).2]) ∧ Below w.heap.size w w' := by
  have HX := Lib.hid (heap_alloc_new w (.cells #[.string (mkS c.letter), .int .i64 c.number, .int .i64 c.bars, .int .i64 c.n, .int .i64 c.d, .int .i64 c.pass] 25 (0, 0)))
  have HB := Lib.hid ((Below.refl w.heap.size w).alloc (Nat.le_refl _) (.cells #[.string (mkS c.letter), .int .i64 c.number, .int .i64 c.bars, .int .i64 c.n, .int .i64 c.d, .int .i64 c.pass] 25 (0, 0)))
  have HVa := Lib.hid (fun W => RValid_any c W)
  cases hv : validC c
  · have HP := Lib.hid (show printC c = ([], 1) by simp [printC, hv])
    rw [hv] at HVa
    clear hv
    go_enter Tryd.func11, Tryd.ntmps11
    go_upto_region 1 with (fail)
    generalize w.alloc (.cells #[.string (mkS c.letter), .int .i64 c.number, .int .i64 c.bars, .int .i64 c.n, .int .i64 c.d, .int .i64 c.pass] 25 (0, 0)) = W at *
    have hc := box_cells HX.out
    go_wp2_with (go_at_call 13; refine (HVa.out _).mono ?_; rintro e w' ⟨rfl, hb⟩; replace HB := Lib.hid (HB.out.trans (hb.mono HB.out.size)); clear hb)
    go_ret2
    exact ⟨by rw [HP.out]; rfl, HB.out⟩
  · have HP := Lib.hid (show printC c = (textC c, 0) by simp [printC, hv])
    have HT := Lib.hid (fun W => Rtext_any c W ((validC_iff c).1 hv))
    rw [hv] at HVa
    clear hv
    go_enter Tryd.func11, Tryd.ntmps11
    go_upto_region 1 with (fail)
    generalize w.alloc (.cells #[.string (mkS c.letter), .int .i64 c.number, .int .i64 c.bars, .int .i64 c.n, .int .i64 c.d, .int .i64 c.pass] 25 (0, 0)) = W at *
    have hc := box_cells HX.out
    go_wp2_with (first | (go_at_call 13; refine (HVa.out _).mono ?_; rintro e w' ⟨rfl, hb⟩; replace HX := Lib.hid (blk_keep HX.out hb); replace HB := Lib.hid (HB.out.trans (hb.mono HB.out.size)); clear hb hc; have hc := box_cells HX.out) | (go_at_call 19; refine (HT.out _).mono ?_; rintro e w' ⟨rfl, hb⟩; replace HB := Lib.hid (HB.out.trans (hb.mono HB.out.size)); clear hb hc))
    go_ret2
    exact ⟨by rw [HP.out]; rfl, HB.out⟩
end Go.Proofs.YtfppijjjaleiaaaDoor
