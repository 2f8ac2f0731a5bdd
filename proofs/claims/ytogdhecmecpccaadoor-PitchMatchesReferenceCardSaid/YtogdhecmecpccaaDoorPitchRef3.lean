/- Contracts of the reference's Text on pitches. -/
import Derived.Test.YtogdhecmecpccaaDoorPitchRef2
import Derived.Laws.IdiomStrings
namespace Go.Proofs.YtogdhecmecpccaaDoor
set_option linter.unusedSimpArgs false
set_option linter.unusedVariables false
open Go.RowKit Go.Sort

def dg (j : Nat) : UInt8 := UInt8.ofNat (48 + j % 10)
theorem digit_run (j : Nat) (w : World) : (convert 67 9 (.slice (some ⟨w.heap.size, 0, none⟩) 1 1)).run Tryd.prog (w.alloc (.cells #[.int .u8 (48 + (j : Int) % 10)] 5)) = .ok (.string ⟨#[dg j]⟩) (w.alloc (.cells #[.int .u8 (48 + (j : Int) % 10)] 5)) := by
  refine run_convert_bytes_back (P := Tryd.prog) _ _ _ _ ⟨w.heap.size, 0, none⟩ 1 [dg j] Tryd.underlying67 Tryd.underlying5 Tryd.underlying9 fun k hk => ?_
  have hk0 : k = 0 := by simp at hk; omega
  subst hk0
  have e : ((dg j).toNat : Int) = 48 + (j : Int) % 10 := by
    unfold dg
    rw [UInt8.toNat_ofNat']; omega
  have e2 : ([dg j][0]'hk) = dg j := rfl
  rw [e2, e]
  have := World.cell?_alloc_mark w #[.int .u8 (48 + (j : Int) % 10)] 5 (0, 0) 0
  exact this
theorem itoa_one (j : Nat) (h : j ≤ 9) : (⟨#[dg j]⟩ : ByteArray) = itoaS j := by
  refine bytes_ext ?_
  show [UInt8.ofNat (48 + j % 10)] = Lib.itoa j
  rw [itoa_small j (by omega) (by omega), if_neg (by omega), dd, if_pos (by simp; omega)]
  simp [Nat.mod_eq_of_lt (show j < 10 by omega)]
theorem itoa_two (j : Nat) (h0 : 10 ≤ j) (h : j ≤ 99) : itoaS ((j / 10 : Nat) : Int) ++ (⟨#[dg j]⟩ : ByteArray) = itoaS j := by
  refine bytes_ext ?_
  rw [ByteArray.data_append, Array.toList_append]
  show Lib.itoa ((j / 10 : Nat) : Int) ++ [UInt8.ofNat (48 + j % 10)] = Lib.itoa j
  rw [itoa_small j (by omega) (by omega), if_neg (by omega), itoa_small ((j / 10 : Nat) : Int) (by omega) (by omega), if_neg (by omega), dd, if_pos (by simp; omega), dd, if_neg (by simp; omega)]
  rfl
theorem itoa_neg (j : Nat) (h0 : 1 ≤ j) (h : j ≤ 99) : (⟨#[45]⟩ : ByteArray) ++ itoaS j = itoaS (-(j : Int)) := by
  refine bytes_ext ?_
  rw [ByteArray.data_append, Array.toList_append]
  show [45] ++ Lib.itoa (j : Int) = Lib.itoa (-(j : Int))
  rw [itoa_small j (by omega) (by omega), if_neg (by omega), itoa_small (-(j : Int)) (by omega) (by omega), if_pos (by omega)]
  simp
set_option maxRecDepth 100000 in
set_option maxHeartbeats 1000000 in
theorem dec1_any (j : Nat) (w : World) (h1 : j ≤ 9) : Calls Tryd.prog 41 #[.int .i64 j] w fun e w' => e = .returned (.string (itoaS j)) ∧ Below w.heap.size w w' := by
  have hneg : ¬ ((j : Int) < 0) := by omega
  have hten : ¬ ((10 : Int) ≤ j) := by omega
  have hcv := digit_run j w
  have HI := Lib.hid (itoa_one j h1)
  go_enter Tryd.func41, Tryd.ntmps41
  go_wp2
  go_ret
  exact ⟨by rw [HI.out]; rfl, (Below.refl _ _).alloc (Nat.le_refl _) _⟩
set_option maxRecDepth 100000 in
set_option maxHeartbeats 1000000 in
theorem dec2_any (j : Nat) (w : World) (h0 : 10 ≤ j) (h1 : j ≤ 99) : Calls Tryd.prog 41 #[.int .i64 j] w fun e w' => e = .returned (.string (itoaS j)) ∧ Below w.heap.size w w' := by
  have hneg : ¬ ((j : Int) < 0) := by omega
  have hten : (10 : Int) ≤ j := by omega
  have hcv := digit_run j w
  have HI := Lib.hid (itoa_two j h0 h1)
  have hq : ((j / 10 : Nat) : Int) = (j : Int) / 10 := by omega
  have HQ := Lib.hid hq
  have HD := Lib.hid (fun w => dec1_any (j / 10) w (by omega))
  rw [hq] at HD HI
  have hz := itoaS_size ((j : Int) / 10) (by omega) (by omega)
  clear hq
  go_enter Tryd.func41, Tryd.ntmps41
  go_wp2_with (fail)
  refine (HD.out _).mono ?_
  rintro e w2 ⟨rfl, hb⟩
  have HB := Lib.hid (allocB hb); clear hb hcv
  go_wp2
  go_ret
  exact ⟨by rw [HI.out]; rfl, HB.out⟩
theorem decP_any (j : Nat) (w : World) (h1 : j ≤ 99) : Calls Tryd.prog 41 #[.int .i64 j] w fun e w' => e = .returned (.string (itoaS j)) ∧ Below w.heap.size w w' := by
  rcases Nat.lt_or_ge j 10 with h | h
  · exact dec1_any j w (by omega)
  · exact dec2_any j w h h1
set_option maxRecDepth 100000 in
set_option maxHeartbeats 1000000 in
theorem dec_any (n : Int) (w : World) (h0 : -99 ≤ n) (h1 : n ≤ 99) : Calls Tryd.prog 41 #[.int .i64 n] w fun e w' => e = .returned (.string (itoaS n)) ∧ Below w.heap.size w w' := by
  rcases Int.lt_or_le n 0 with hneg | hpos
  · obtain ⟨j, rfl⟩ : ∃ j : Nat, n = -(j : Int) := ⟨(-n).toNat, by omega⟩
    have HI := Lib.hid (itoa_neg j (by omega) (by omega))
    have HD := Lib.hid (fun w => decP_any j w (by omega))
    have hz := itoaS_size (j : Int) (by omega) (by omega)
    have HE := Lib.hid (Int.neg_neg (j : Int))
    go_enter Tryd.func41, Tryd.ntmps41
    go_wp2_with (fail)
    refine (HD.out w).mono ?_
    rintro e w2 ⟨rfl, hb⟩
    have HB := Lib.hid hb; clear hb
    go_wp2
    go_ret
    exact ⟨by rw [← HI.out]; rfl, HB.out⟩
  · obtain ⟨j, rfl⟩ := Int.eq_ofNat_of_zero_le hpos
    exact decP_any j w (by omega)
theorem letters_any (w : World) : Calls Tryd.prog 40 #[] w fun e w' => e = .returned (.string ⟨#[67, 68, 69, 70, 71, 65, 66]⟩) ∧ w = w' := by
  go_enter Tryd.func40, Tryd.ntmps40
  go_wp2
  go_ret
  exact ⟨rfl, rfl⟩
/-- A letter and sharps and flats. -/
def lettS (j : Nat) : ByteArray := (⟨#[67, 68, 69, 70, 71, 65, 66]⟩ : ByteArray).extract j (j + 1)
theorem lett_size (j : Nat) : (lettS j).size ≤ 1 := by
  unfold lettS
  rw [ByteArray.size_extract]; omega
theorem rep_succ (b : UInt8) (x : ByteArray) (k : Nat) : x ++ repS b k ++ ⟨#[b]⟩ = x ++ repS b ((k + 1 : Nat) : Int) := bytes_ext (by simp [ByteArray.data_append, repS, List.replicate_succ'])
theorem rep_zero (b : UInt8) (x : ByteArray) : x ++ repS b ((0 : Nat) : Int) = x := bytes_ext (by simp [ByteArray.data_append, repS])
set_option maxRecDepth 100000 in
set_option maxHeartbeats 4000000 in
theorem RText_go (s a o : Int) (w : World) (hv : vldB s a o = true) : Calls Tryd.prog 25 #[.agg #[.int .i64 s, .int .i64 a, .int .i64 o]] w fun e w' => e = .returned (.tuple #[.string (textS s a o), .int .i64 0]) ∧ Below w.heap.size w w' := by
  obtain ⟨⟨p1, p2⟩, ⟨p3, p4⟩, p5, p6⟩ := (vld_iff s a o).1 hv
  obtain ⟨j, rfl⟩ := Int.eq_ofNat_of_zero_le p1
  have HFIN := Lib.hid (text_eq j a o (by omega))
  go_enter Tryd.func25, Tryd.ntmps25
  go_wp2_with (fail)
  refine (RValid_any _ _ _ _).mono ?_; rintro e w1 ⟨rfl, hb⟩; have x0 := box_below hb; have HX1 := Lib.hid x0; have HB := Lib.hid (allocB hb); clear hb x0
  go_wp2
  have g0 := cell_regrown (cells3 HX1.out).1; have g1 := cell_regrown (cells3 HX1.out).2.1; have g2 := cell_regrown (cells3 HX1.out).2.2
  refine wp_quietB (by kernel_rfl) (by kernel_rfl) ?_
  repeat (go_big_quiet_step (first | (go_at_call 40; exact Calls.regrown (letters_any _))))
  refine wpQuiet_nil ?_
  intro w2 hb
  clear g0 g1 g2
  (try replace hb := drewB hb); replace HB := Lib.hid (HB.out.trans (hb.mono HB.out.size)); (try (replace HX1 := Lib.hid (blk_keep HX1.out hb); replace hc1 := box_cells HX1.out; replace hf1 := box_free HX1.out; replace hz1 := lt_blk HX1.out)); (try (replace HX2 := Lib.hid (blk_keep HX2.out hb); replace hc2 := box_cells HX2.out; replace hf2 := box_free HX2.out; replace hz2 := lt_blk HX2.out)); (try (replace HX3 := Lib.hid (blk_keep HX3.out hb); replace hc3 := box_cells HX3.out; replace hf3 := box_free HX3.out; replace hz3 := lt_blk HX3.out)); (try (replace HX4 := Lib.hid (blk_keep HX4.out hb); replace hc4 := box_cells HX4.out; replace hf4 := box_free HX4.out; replace hz4 := lt_blk HX4.out)); (try (replace HX5 := Lib.hid (blk_keep HX5.out hb); replace hc5 := box_cells HX5.out; replace hf5 := box_free HX5.out; replace hz5 := lt_blk HX5.out)); (try (replace HX6 := Lib.hid (blk_keep HX6.out hb); replace hc6 := box_cells HX6.out; replace hf6 := box_free HX6.out; replace hz6 := lt_blk HX6.out)); (try (replace HX7 := Lib.hid (blk_keep HX7.out hb); replace hc7 := box_cells HX7.out; replace hf7 := box_free HX7.out; replace hz7 := lt_blk HX7.out)); (try (replace HX8 := Lib.hid (blk_keep HX8.out hb); replace hc8 := box_cells HX8.out; replace hf8 := box_free HX8.out; replace hz8 := lt_blk HX8.out)); (try (replace HX9 := Lib.hid (blk_keep HX9.out hb); replace hc9 := box_cells HX9.out; replace hf9 := box_free HX9.out; replace hz9 := lt_blk HX9.out)); (try (replace HX10 := Lib.hid (blk_keep HX10.out hb); replace hc10 := box_cells HX10.out; replace hf10 := box_free HX10.out; replace hz10 := lt_blk HX10.out)); clear hb
  have hle : (⟨#[67, 68, 69, 70, 71, 65, 66]⟩ : ByteArray).extract j (j + 1) = lettS j := rfl
  rw [hle]
  clear hle
  rw [show (⟨#[67, 68, 69, 70, 71, 65, 66]⟩ : ByteArray).extract j (j + 1) = lettS j from rfl] at HFIN
  have hls := lett_size j
  generalize lettS j = L0 at *
  go_wp2
  go_loop [5, 6] (fun out i => ∃ k : Nat, k ≤ a.toNat ∧ i = .int .i64 k ∧ out = .string (L0 ++ repS 35 k)) (fun _ i => a.toNat - (intOf i).toNat)
  case atStart => exact ⟨0, Nat.zero_le _, rfl, by rw [rep_zero]⟩
  case round =>
    obtain ⟨k, hk, rfl, rfl⟩ := hrel
    have hc1 := box_cells HX1.out
    by_cases hlt : (k : Int) < a
    · have HS := Lib.hid (rep_succ 35 L0 k)
      have hsz : (repS 35 (k : Int)).size ≤ 4 := by rw [repS_size]; omega
      go_wp2
      go_round
      case rel => exact ⟨k + 1, by omega, by go_num, by rw [← HS.out]⟩
      case measure => simp [intOf]; omega
    · have hka : (k : Int) = max 0 a := by omega
      have HKA := Lib.hid hka; clear hka
      have hsz : (repS 35 (k : Int)).size ≤ 4 := by rw [repS_size]; omega
      have hsum : (L0 ++ repS 35 (k : Int)).size ≤ 5 := by rw [ByteArray.size_append]; omega
      have HE1 := Lib.hid (show ∃ L1, L0 ++ repS 35 (k : Int) = L1 from ⟨_, rfl⟩)
      obtain ⟨L1, hL1⟩ := HE1.out
      rw [hL1] at hsum
      have HL1 := Lib.hid hL1
      rw [hL1]
      clear hL1 HE1
      go_wp2
      go_loop [5, 7] (fun out i => ∃ m : Nat, m ≤ (-a).toNat ∧ i = .int .i64 m ∧ out = .string (L1 ++ repS 98 m)) (fun _ i => (-a).toNat - (intOf i).toNat)
      case atStart => exact ⟨0, Nat.zero_le _, rfl, by rw [rep_zero]⟩
      case round =>
        obtain ⟨m, hm, rfl, rfl⟩ := hrel
        by_cases hlt2 : (m : Int) < -a
        · have HS := Lib.hid (rep_succ 98 L1 m)
          have hsz2 : (repS 98 (m : Int)).size ≤ 4 := by rw [repS_size]; omega
          go_wp2
          go_round
          case rel => exact ⟨m + 1, by omega, by go_num, by rw [← HS.out]⟩
          case measure => simp [intOf]; omega
        · have hma : (m : Int) = max 0 (-a) := by omega
          have HMA := Lib.hid hma; clear hma
          have hsz2 : (repS 98 (m : Int)).size ≤ 4 := by rw [repS_size]; omega
          have hz := itoaS_size o (by omega) (by omega)
          go_wp2_with (fail)
          refine (dec_any o _ (by omega) (by omega)).mono ?_
          rintro e w3 ⟨rfl, hb⟩
          (try replace hb := drewB hb); replace HB := Lib.hid (HB.out.trans (hb.mono HB.out.size)); (try (replace HX1 := Lib.hid (blk_keep HX1.out hb); replace hc1 := box_cells HX1.out; replace hf1 := box_free HX1.out; replace hz1 := lt_blk HX1.out)); (try (replace HX2 := Lib.hid (blk_keep HX2.out hb); replace hc2 := box_cells HX2.out; replace hf2 := box_free HX2.out; replace hz2 := lt_blk HX2.out)); (try (replace HX3 := Lib.hid (blk_keep HX3.out hb); replace hc3 := box_cells HX3.out; replace hf3 := box_free HX3.out; replace hz3 := lt_blk HX3.out)); (try (replace HX4 := Lib.hid (blk_keep HX4.out hb); replace hc4 := box_cells HX4.out; replace hf4 := box_free HX4.out; replace hz4 := lt_blk HX4.out)); (try (replace HX5 := Lib.hid (blk_keep HX5.out hb); replace hc5 := box_cells HX5.out; replace hf5 := box_free HX5.out; replace hz5 := lt_blk HX5.out)); (try (replace HX6 := Lib.hid (blk_keep HX6.out hb); replace hc6 := box_cells HX6.out; replace hf6 := box_free HX6.out; replace hz6 := lt_blk HX6.out)); (try (replace HX7 := Lib.hid (blk_keep HX7.out hb); replace hc7 := box_cells HX7.out; replace hf7 := box_free HX7.out; replace hz7 := lt_blk HX7.out)); (try (replace HX8 := Lib.hid (blk_keep HX8.out hb); replace hc8 := box_cells HX8.out; replace hf8 := box_free HX8.out; replace hz8 := lt_blk HX8.out)); (try (replace HX9 := Lib.hid (blk_keep HX9.out hb); replace hc9 := box_cells HX9.out; replace hf9 := box_free HX9.out; replace hz9 := lt_blk HX9.out)); (try (replace HX10 := Lib.hid (blk_keep HX10.out hb); replace hc10 := box_cells HX10.out; replace hf10 := box_free HX10.out; replace hz10 := lt_blk HX10.out)); clear hb
          have HLAST := Lib.hid (show L1 ++ repS 98 (m : Int) ++ itoaS o = textS j a o by
            rw [← HFIN.out, ← HL1.out, HKA.out, HMA.out]
            exact bytes_ext (by simp [ByteArray.data_append]))
          go_wp2
          go_ret2
          exact ⟨by rw [← HLAST.out]; rfl, HB.out⟩
set_option maxHeartbeats 1000000 in
theorem RText_bad (s a o : Int) (w : World) (hv : vldB s a o = false) : Calls Tryd.prog 25 #[.agg #[.int .i64 s, .int .i64 a, .int .i64 o]] w fun e w' => e = .returned (.tuple #[.string ⟨#[]⟩, .int .i64 1]) ∧ Below w.heap.size w w' := by
  go_enter Tryd.func25, Tryd.ntmps25
  go_wp2_with (fail)
  refine (RValid_any _ _ _ _).mono ?_; rintro e w1 ⟨rfl, hb⟩; have HB := Lib.hid (allocB hb); clear hb
  go_wp2
  go_ret2
  exact ⟨rfl, HB.out⟩
theorem RText_any (s a o : Int) (w : World) : Calls Tryd.prog 25 #[.agg #[.int .i64 s, .int .i64 a, .int .i64 o]] w fun e w' => e = .returned (.tuple #[.string (textR s a o).1, .int .i64 (textR s a o).2]) ∧ Below w.heap.size w w' := by
  cases hv : vldB s a o
  · rw [show textR s a o = (⟨#[]⟩, 1) by simp [textR, hv]]
    exact RText_bad s a o w hv
  · rw [show textR s a o = (textS s a o, 0) by simp [textR, hv]]
    exact RText_go s a o w hv
end Go.Proofs.YtogdhecmecpccaaDoor
