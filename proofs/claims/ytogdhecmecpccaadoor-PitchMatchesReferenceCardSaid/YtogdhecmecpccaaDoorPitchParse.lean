/- The contract of pitch.Parse. -/
import Derived.Test.YtogdhecmecpccaaDoorPitchPure
import Derived.Test.YtogdhecmecpccaaDoorPitchIdx
import Derived.Test.YtogdhecmecpccaaDoorPitchProg3
namespace Go.Proofs.YtogdhecmecpccaaDoor
set_option linter.unusedSimpArgs false
set_option linter.unusedVariables false
open Go.RowKit Go.Sort

/-- strconv.Atoi at whatever short string: a number and no error, or an error. -/
def AtoiPost (x : ByteArray) (w : World) (e : Ending) (w' : World) : Prop :=
  ∃ (n : Int) (ev : Value), e = .returned (.tuple #[.int .i64 n, ev]) ∧ Below w.heap.size w w' ∧ (ev = .nilIface ∧ Lib.atoiAll x.data.toList = .ok n ∨ (∃ a, ev = .iface 71 (.pointer (some a))) ∧ ∀ v, Lib.atoiAll x.data.toList ≠ .ok v)
theorem atoi_any (x : ByteArray) (w : World) (hx : x.size ≤ 1000) (hE : Env w) : Calls Tryd.prog 34 #[.string x] w (AtoiPost x w) := by
  rcases h : Lib.atoiAll x.data.toList with v | _ | _
  · refine (Any.strconv_Atoi_ok Lay.pC172 x (by omega) v h w).mono ?_
    rintro e w' ⟨he, hw⟩
    refine ⟨v, _, he, ?_, .inl ⟨rfl, h⟩⟩
    rcases hw with rfl | ⟨t, rfl⟩
    · exact Below.refl _ _
    · exact Lib.bytesWorld_below w _ t
  · obtain ⟨ev, h1, h2⟩ := hE.syn
    refine (Any.strconv_Atoi_syntax Lay.pC172 x (by omega) h ev w h1 h2).mono ?_
    rintro e w' ⟨N, he, _, _, hb⟩
    exact ⟨_, _, he, hb, .inr ⟨⟨_, rfl⟩, fun v hv => by rw [h] at hv; cases hv⟩⟩
  · obtain ⟨ev, h1, h2⟩ := hE.rng
    refine (Any.strconv_Atoi_range Lay.pC172 x (by omega) h ev w h1 h2).mono ?_
    rintro e w' ⟨N, he, _, _, hb⟩
    exact ⟨_, _, he, hb, .inr ⟨⟨_, rfl⟩, fun v hv => by rw [h] at hv; cases hv⟩⟩

/-- What Parse says of a string. -/
def ParseSays (s : ByteArray) (r0 r1 r2 r3 : Int) : Prop := (r3 = 0 ∧ vldB r0 r1 r2 = true ∧ textS r0 r1 r2 = s) ∨ (r3 = 7 ∧ r0 = 0 ∧ r1 = 0 ∧ r2 = 0 ∧ ∀ s' a' o', vldB s' a' o' = true → textS s' a' o' ≠ s)
def ParsePost (s : ByteArray) (w : World) (e : Ending) (w' : World) : Prop := ∃ r0 r1 r2 r3 : Int, e = .returned (.tuple #[.agg #[.int .i64 r0, .int .i64 r1, .int .i64 r2], .int .i64 r3]) ∧ ParseSays s r0 r1 r2 r3 ∧ Below w.heap.size w w'
theorem says_no {s : ByteArray} (h : ∀ s' a' o', vldB s' a' o' = true → textS s' a' o' ≠ s) : ParseSays s 0 0 0 7 := .inr ⟨rfl, rfl, rfl, rfl, h⟩

theorem str_ne {a b : ByteArray} (h : a ≠ b) : (a.toList == b.toList) = false := by
  rw [beq_eq_false_iff_ne]
  intro e
  exact h (bytes_ext (by rw [← Go.ByteArray.toList_eq a, ← Go.ByteArray.toList_eq b, e]))
def NoText (s : ByteArray) : Prop := ∀ s' a' o', vldB s' a' o' = true → textS s' a' o' ≠ s
/-- What is known ahead of the last lines: x is read as the octave. -/
structure PKey (s x : ByteArray) (st al : Int) : Prop where
  none : (∀ v, Lib.atoiAll x.data.toList ≠ .ok v) → NoText s
  bad : ∀ n, Lib.atoiAll x.data.toList = .ok n → vldB st al n = false → NoText s
  other : ∀ n, Lib.atoiAll x.data.toList = .ok n → textS st al n ≠ s → NoText s
theorem pkey_fin {s : ByteArray} {rest : Nat} {st al : Int} (h : PFin s rest st al) : PKey s (s.extract rest s.size) st al := by
  refine ⟨fun h1 s' a' o' hv ht => ?_, fun n h1 h2 s' a' o' hv ht => ?_, fun n h1 h2 s' a' o' hv ht => ?_⟩
  · exact h1 _ (pfin_tail h hv ht).1
  · obtain ⟨e1, e2, e3⟩ := pfin_tail h hv ht
    rw [h1] at e1
    cases e1
    rw [e2, e3, hv] at h2; cases h2
  · obtain ⟨e1, e2, e3⟩ := pfin_tail h hv ht
    rw [h1] at e1
    cases e1
    rw [e2, e3] at h2; exact h2 ht
theorem pkey_no {s x : ByteArray} {st al : Int} (h : NoText s) : PKey s x st al := ⟨fun _ => h, fun _ _ _ => h, fun _ _ _ => h⟩
theorem no_end (s : ByteArray) (pos : Nat) (st al : Int) (h : ¬ pos < s.size) (hi : PInv s pos st al) : NoText s := by
  intro s' a' o' hv ht
  have h1 := (pinv_end s pos st al h hi s' a' o' hv ht).1
  obtain ⟨⟨q1, q2⟩, _, q5, q6⟩ := (vld_iff s' a' o').1 hv
  have T := textAt s' a' o' q1 q2
  rw [ht] at T
  have hsz := T.size
  have hpos : 0 < (Lib.itoa o').length := by
    have := (itoa_ok o' q5 q6).2
    cases hi : Lib.itoa o' with
    | nil => rw [hi] at this; cases this
    | cons c r => simp
  omega
theorem ext_size (s : ByteArray) (k : Nat) (h : s.size ≤ 1000) : (s.extract k s.size).size ≤ 1000 := by rw [ByteArray.size_extract]; omega
set_option maxRecDepth 100000 in
set_option maxHeartbeats 4000000 in
theorem Parse_any (s : ByteArray) (w : World) (hs : s.size ≤ 1000) (hE : Env w) : Calls Tryd.prog 14 #[.string s] w (ParsePost s w) := by
  have HE := Lib.hid hE; clear hE
  have hxs := ext_size s
  have HXS := Lib.hid hxs; clear hxs
  go_enter Tryd.func14, Tryd.ntmps14
  go_wp2
  have h0 := box3 (w := w) (A := .cells #[.int .i64 0, .int .i64 0, .int .i64 0] 23) (B := .cells #[.int .i64 0, .int .i64 0, .int .i64 0] 23) (C := .stringIter s 0) (Below.refl _ _)
  go_loopw [5] (fun v wr => ∃ (pos : Nat) (st al : Int), v = .int .i64 s.size ∧ PInv s pos st al ∧ wr.heap[w.heap.size]? = some (.cells #[.int .i64 0, .int .i64 0, .int .i64 0] 23 (0, 0)) ∧ wr.heap[w.heap.size + 1]? = some (.cells #[.int .i64 st, .int .i64 al, .int .i64 0] 23 (0, 0)) ∧ wr.heap[w.heap.size + 2]? = some (.stringIter s pos) ∧ Below w.heap.size w wr) (fun _ wr => s.size - wr.iterPos (w.heap.size + 2))
  case atStart => exact ⟨0, 0, 0, rfl, pinv_start s, h0.1, h0.2.1, h0.2.2.1, h0.2.2.2⟩
  case round =>
    clear h0
    obtain ⟨pos, st, al, rfl, hi, x1, x2, x3, xb⟩ := hrel
    have HI := Lib.hid hi
    have hal1 := hi.1
    have hal2 := hi.2.1
    have HMS := Lib.hid (iterPos_of x3)
    by_cases hp : pos < s.size
    · have hnx : ∀ ty, (Instr.next (.pointer (some ⟨w.heap.size + 2, 0, none⟩)) true ty).run Tryd.prog wr = _ := fun ty => Lib.run_next_any_at wr (w.heap.size + 2) s pos ty x3 hp
      have y1 := (Lib.iterAt_other wr (w.heap.size + 2) w.heap.size s (pos + (Utf8.decode s pos).2) (by omega)).trans x1
      have y2 := (Lib.iterAt_other wr (w.heap.size + 2) (w.heap.size + 1) s (pos + (Utf8.decode s pos).2) (by omega)).trans x2
      have y3 := Lib.iterAt_heap wr (w.heap.size + 2) s pos (pos + (Utf8.decode s pos).2) x3
      have yb := Lib.below_iterAt xb (k := w.heap.size + 2) (by omega) s (pos + (Utf8.decode s pos).2)
      have hr1 := decode_le s pos
      clear x1 x2 x3 xb hi
      generalize wr.iterAt (w.heap.size + 2) s (pos + (Utf8.decode s pos).2) = w9 at *
      have HX1 := Lib.hid y1; have HX2 := Lib.hid y2; have HX3 := Lib.hid y3; have HB := Lib.hid yb
      clear y1 y2 y3 yb
      have hc1 := box_cells HX1.out; have hc2 := box_cells HX2.out; have hf1 := box_free HX1.out; have hf2 := box_free HX2.out
      by_cases h0 : pos = 0
      · subst h0
        have HN := Lib.hid (pinv_first s st al)
        have HD := Lib.hid (dec_pos s 0 hp)
        generalize (Utf8.decode s 0).2 = wd at *
        generalize (Utf8.decode s 0).1 = r at *
        go_wp2_with (fail)
        refine (idx_any _ _ (by omega) (by omega)).mono ?_
        rintro e w9 ⟨n, rfl, hn, hb⟩
        have HN2 := Lib.hid (HN.out n hp HI.out hn); clear hn
        replace HB := Lib.hid (HB.out.trans (hb.mono HB.out.size)); replace HX1 := Lib.hid (blk_keep HX1.out hb); replace HX2 := Lib.hid (blk_keep HX2.out hb); (try replace HX3 := Lib.hid (blk_keep HX3.out hb)); replace hc1 := box_cells HX1.out; replace hc2 := box_cells HX2.out; replace hf1 := box_free HX1.out; replace hf2 := box_free HX2.out; clear hb
        go_wp2
        have y1 : (w9.setCell ⟨w.heap.size + 1, 0, none⟩ (.int .i64 n)).heap[w.heap.size]? = _ := (heap_setCell_other _ _ _ _ (show _ ≠ _ by simp <;> omega)).trans HX1.out; have y2 : (w9.setCell ⟨w.heap.size + 1, 0, none⟩ (.int .i64 n)).heap[w.heap.size + 1]? = some (.cells #[.int .i64 n, .int .i64 al, .int .i64 0] 23 (0, 0)) := heap_setCell_same _ _ _ _ _ _ HX2.out; (try have y3 : (w9.setCell ⟨w.heap.size + 1, 0, none⟩ (.int .i64 n)).heap[w.heap.size + 2]? = _ := (heap_setCell_other _ _ _ _ (show _ ≠ _ by simp <;> omega)).trans HX3.out); have yb : Below w.heap.size w (w9.setCell ⟨w.heap.size + 1, 0, none⟩ (.int .i64 n)) := HB.out.setCell (by simp <;> omega) _; clear HX1 HX2 HB hc1 hc2 hf1 hf2; (try clear HX3); have HX1 := Lib.hid y1; have HX2 := Lib.hid y2; (try have HX3 := Lib.hid y3); have HB := Lib.hid yb; clear y1 y2 yb; (try clear y3)
        exact ⟨⟨_, _, _, rfl, HN2.out, HX1.out, HX2.out, HX3.out, HB.out⟩, by rw [iterPos_of HX3.out, HMS.out]; have := HD.out; omega⟩
      · have hp0 : ((pos : Int) == 0) = false := by simp; omega
        obtain ⟨s1, s2, s3⟩ := pinv_sign s pos st al (by omega) hp HI.out
        have S1 := Lib.hid s1; have S2 := Lib.hid s2; have S3 := Lib.hid s3; clear s1 s2 s3
        have HD := Lib.hid (dec_pos s pos hp)
        have hn0 : ¬ pos = 0 := h0
        generalize (Utf8.decode s pos).2 = wd at *
        generalize (Utf8.decode s pos).1 = r at *
        by_cases e1 : r = 35
        · subst e1
          have HN2 := Lib.hid (S1.out rfl)
          clear S1 S2 S3
          go_wp2
          have y1 : (w9.setCell ⟨w.heap.size + 1, 1, none⟩ (.int .i64 (al + 1))).heap[w.heap.size]? = _ := (heap_setCell_other _ _ _ _ (show _ ≠ _ by simp <;> omega)).trans HX1.out; have y2 : (w9.setCell ⟨w.heap.size + 1, 1, none⟩ (.int .i64 (al + 1))).heap[w.heap.size + 1]? = some (.cells #[.int .i64 st, .int .i64 (al + 1), .int .i64 0] 23 (0, 0)) := heap_setCell_same _ _ _ _ _ _ HX2.out; (try have y3 : (w9.setCell ⟨w.heap.size + 1, 1, none⟩ (.int .i64 (al + 1))).heap[w.heap.size + 2]? = _ := (heap_setCell_other _ _ _ _ (show _ ≠ _ by simp <;> omega)).trans HX3.out); have yb : Below w.heap.size w (w9.setCell ⟨w.heap.size + 1, 1, none⟩ (.int .i64 (al + 1))) := HB.out.setCell (by simp <;> omega) _; clear HX1 HX2 HB hc1 hc2 hf1 hf2; (try clear HX3); have HX1 := Lib.hid y1; have HX2 := Lib.hid y2; (try have HX3 := Lib.hid y3); have HB := Lib.hid yb; clear y1 y2 yb; (try clear y3)
          exact ⟨⟨_, _, _, rfl, HN2.out, HX1.out, HX2.out, HX3.out, HB.out⟩, by rw [iterPos_of HX3.out, HMS.out]; have := HD.out; omega⟩
        · by_cases e2 : r = 98
          · subst e2
            have HN2 := Lib.hid (S2.out rfl)
            clear S1 S2 S3
            go_wp2
            have y1 : (w9.setCell ⟨w.heap.size + 1, 1, none⟩ (.int .i64 (al + 1))).heap[w.heap.size]? = _ := (heap_setCell_other _ _ _ _ (show _ ≠ _ by simp <;> omega)).trans HX1.out; have y2 : (w9.setCell ⟨w.heap.size + 1, 1, none⟩ (.int .i64 (al + 1))).heap[w.heap.size + 1]? = some (.cells #[.int .i64 st, .int .i64 (al + 1), .int .i64 0] 23 (0, 0)) := heap_setCell_same _ _ _ _ _ _ HX2.out; (try have y3 : (w9.setCell ⟨w.heap.size + 1, 1, none⟩ (.int .i64 (al + 1))).heap[w.heap.size + 2]? = _ := (heap_setCell_other _ _ _ _ (show _ ≠ _ by simp <;> omega)).trans HX3.out); have yb : Below w.heap.size w (w9.setCell ⟨w.heap.size + 1, 1, none⟩ (.int .i64 (al + 1))) := HB.out.setCell (by simp <;> omega) _; clear HX1 HX2 HB hc1 hc2 hf1 hf2; (try clear HX3); have HX1 := Lib.hid y1; have HX2 := Lib.hid y2; (try have HX3 := Lib.hid y3); have HB := Lib.hid yb; clear y1 y2 yb; (try clear y3)
            have hc1 := box_cells HX1.out; have hc2 := box_cells HX2.out; have hf1 := box_free HX1.out; have hf2 := box_free HX2.out
            generalize w9.setCell ⟨w.heap.size + 1, 1, none⟩ (.int .i64 (al + 1)) = w9 at *
            have y1 : (w9.setCell ⟨w.heap.size + 1, 1, none⟩ (.int .i64 (al + 1 - 2))).heap[w.heap.size]? = _ := (heap_setCell_other _ _ _ _ (show _ ≠ _ by simp <;> omega)).trans HX1.out; have y2 : (w9.setCell ⟨w.heap.size + 1, 1, none⟩ (.int .i64 (al + 1 - 2))).heap[w.heap.size + 1]? = some (.cells #[.int .i64 st, .int .i64 (al + 1 - 2), .int .i64 0] 23 (0, 0)) := heap_setCell_same _ _ _ _ _ _ HX2.out; (try have y3 : (w9.setCell ⟨w.heap.size + 1, 1, none⟩ (.int .i64 (al + 1 - 2))).heap[w.heap.size + 2]? = _ := (heap_setCell_other _ _ _ _ (show _ ≠ _ by simp <;> omega)).trans HX3.out); have yb : Below w.heap.size w (w9.setCell ⟨w.heap.size + 1, 1, none⟩ (.int .i64 (al + 1 - 2))) := HB.out.setCell (by simp <;> omega) _; clear HX1 HX2 HB hc1 hc2 hf1 hf2; (try clear HX3); have HX1 := Lib.hid y1; have HX2 := Lib.hid y2; (try have HX3 := Lib.hid y3); have HB := Lib.hid yb; clear y1 y2 yb; (try clear y3)
            exact ⟨⟨_, _, _, rfl, HN2.out, HX1.out, HX2.out, HX3.out, HB.out⟩, by rw [iterPos_of HX3.out, HMS.out]; have := HD.out; omega⟩
          · have HF := Lib.hid (S3.out (by omega) (by omega))
            have e3 : ((r : Int) != 35) = true := by simp; omega
            have e4 : ((r : Int) != 98) = true := by simp; omega
            clear S1 S2 S3
            go_wp2_with (fail)
            refine (atoi_any _ _ (by first | exact HXS.out _ hs | (show _ ≤ 1000; simp)) (HE.out.below HB.out)).mono ?_
            rintro e w9 ⟨nn, ev, rfl, hb, hev⟩
            replace HB := Lib.hid (HB.out.trans (hb.mono HB.out.size)); replace HX1 := Lib.hid (blk_keep HX1.out hb); replace HX2 := Lib.hid (blk_keep HX2.out hb); (try replace HX3 := Lib.hid (blk_keep HX3.out hb)); replace hc1 := box_cells HX1.out; replace hc2 := box_cells HX2.out; replace hf1 := box_free HX1.out; replace hf2 := box_free HX2.out; clear hb
            have HK := Lib.hid (pkey_fin HF.out)
            rcases hev with ⟨rfl, hok⟩ | ⟨⟨ea, rfl⟩, hno⟩
            · cases hvd : vldB st al nn
              · have HNT := Lib.hid (HK.out.bad nn hok hvd); clear hok
                go_wp2_with (fail)
                have y1 : (w9.setCell ⟨w.heap.size + 1, 2, none⟩ (.int .i64 nn)).heap[w.heap.size]? = _ := (heap_setCell_other _ _ _ _ (show _ ≠ _ by simp <;> omega)).trans HX1.out; have y2 : (w9.setCell ⟨w.heap.size + 1, 2, none⟩ (.int .i64 nn)).heap[w.heap.size + 1]? = some (.cells #[.int .i64 st, .int .i64 al, .int .i64 nn] 23 (0, 0)) := heap_setCell_same _ _ _ _ _ _ HX2.out; (try have y3 : (w9.setCell ⟨w.heap.size + 1, 2, none⟩ (.int .i64 nn)).heap[w.heap.size + 2]? = _ := (heap_setCell_other _ _ _ _ (show _ ≠ _ by simp <;> omega)).trans HX3.out); have yb : Below w.heap.size w (w9.setCell ⟨w.heap.size + 1, 2, none⟩ (.int .i64 nn)) := HB.out.setCell (by simp <;> omega) _; clear HX1 HX2 HB hc1 hc2 hf1 hf2; (try clear HX3); have HX1 := Lib.hid y1; have HX2 := Lib.hid y2; (try have HX3 := Lib.hid y3); have HB := Lib.hid yb; clear y1 y2 yb; (try clear y3)
                refine (PValid_any _ _ _ _).mono ?_; rintro e w9 ⟨rfl, hb⟩; replace HB := Lib.hid (HB.out.trans (hb.mono HB.out.size)); replace HX1 := Lib.hid (blk_keep HX1.out hb); replace HX2 := Lib.hid (blk_keep HX2.out hb); (try replace HX3 := Lib.hid (blk_keep HX3.out hb)); replace hc1 := box_cells HX1.out; replace hc2 := box_cells HX2.out; replace hf1 := box_free HX1.out; replace hf2 := box_free HX2.out; clear hb
                go_wp2
                exact bodyPost_ret (v := .tuple #[.agg #[.int .i64 0, .int .i64 0, .int .i64 0], .int .i64 7]) (by simp [results, Tryd.results14, go_sem, hc1, hf1, hc2, hf2]) rfl ⟨0, 0, 0, 7, rfl, says_no HNT.out, (((HB.out.setCell (by simp <;> omega) _).setCell (by simp <;> omega) _).setCell (by simp <;> omega) _)⟩
              · by_cases htx : textS st al nn = s
                · have HSY := Lib.hid (show ParseSays s st al nn 0 from .inl ⟨rfl, hvd, htx⟩)
                  have htb : ((textS st al nn).toList == s.toList) = true := by rw [htx]; simp
                  have HVD := Lib.hid hvd
                  clear hok htx
                  go_wp2_with (fail)
                  have y1 : (w9.setCell ⟨w.heap.size + 1, 2, none⟩ (.int .i64 nn)).heap[w.heap.size]? = _ := (heap_setCell_other _ _ _ _ (show _ ≠ _ by simp <;> omega)).trans HX1.out; have y2 : (w9.setCell ⟨w.heap.size + 1, 2, none⟩ (.int .i64 nn)).heap[w.heap.size + 1]? = some (.cells #[.int .i64 st, .int .i64 al, .int .i64 nn] 23 (0, 0)) := heap_setCell_same _ _ _ _ _ _ HX2.out; (try have y3 : (w9.setCell ⟨w.heap.size + 1, 2, none⟩ (.int .i64 nn)).heap[w.heap.size + 2]? = _ := (heap_setCell_other _ _ _ _ (show _ ≠ _ by simp <;> omega)).trans HX3.out); have yb : Below w.heap.size w (w9.setCell ⟨w.heap.size + 1, 2, none⟩ (.int .i64 nn)) := HB.out.setCell (by simp <;> omega) _; clear HX1 HX2 HB hc1 hc2 hf1 hf2; (try clear HX3); have HX1 := Lib.hid y1; have HX2 := Lib.hid y2; (try have HX3 := Lib.hid y3); have HB := Lib.hid yb; clear y1 y2 yb; (try clear y3)
                  refine (PValid_any _ _ _ _).mono ?_; rintro e w9 ⟨rfl, hb⟩; replace HB := Lib.hid (HB.out.trans (hb.mono HB.out.size)); replace HX1 := Lib.hid (blk_keep HX1.out hb); replace HX2 := Lib.hid (blk_keep HX2.out hb); (try replace HX3 := Lib.hid (blk_keep HX3.out hb)); replace hc1 := box_cells HX1.out; replace hc2 := box_cells HX2.out; replace hf1 := box_free HX1.out; replace hf2 := box_free HX2.out; clear hb
                  go_wp2_with (fail)
                  refine (text_any _ _ _ _ (HE.out.below HB.out) HVD.out).mono ?_; rintro e w9 ⟨rfl, hb⟩; replace HB := Lib.hid (HB.out.trans (hb.mono HB.out.size)); replace HX1 := Lib.hid (blk_keep HX1.out hb); replace HX2 := Lib.hid (blk_keep HX2.out hb); (try replace HX3 := Lib.hid (blk_keep HX3.out hb)); replace hc1 := box_cells HX1.out; replace hc2 := box_cells HX2.out; replace hf1 := box_free HX1.out; replace hf2 := box_free HX2.out; clear hb
                  go_wp2
                  exact bodyPost_ret (v := .tuple #[.agg #[.int .i64 st, .int .i64 al, .int .i64 nn], .int .i64 0]) (by simp [results, Tryd.results14, go_sem, hc1, hf1, hc2, hf2]) rfl ⟨st, al, nn, 0, rfl, HSY.out, (((HB.out.setCell (by simp <;> omega) _).setCell (by simp <;> omega) _).setCell (by simp <;> omega) _)⟩
                · have HNT := Lib.hid (HK.out.other nn hok htx)
                  have htb := str_ne htx
                  have HVD := Lib.hid hvd
                  clear hok htx
                  go_wp2_with (fail)
                  have y1 : (w9.setCell ⟨w.heap.size + 1, 2, none⟩ (.int .i64 nn)).heap[w.heap.size]? = _ := (heap_setCell_other _ _ _ _ (show _ ≠ _ by simp <;> omega)).trans HX1.out; have y2 : (w9.setCell ⟨w.heap.size + 1, 2, none⟩ (.int .i64 nn)).heap[w.heap.size + 1]? = some (.cells #[.int .i64 st, .int .i64 al, .int .i64 nn] 23 (0, 0)) := heap_setCell_same _ _ _ _ _ _ HX2.out; (try have y3 : (w9.setCell ⟨w.heap.size + 1, 2, none⟩ (.int .i64 nn)).heap[w.heap.size + 2]? = _ := (heap_setCell_other _ _ _ _ (show _ ≠ _ by simp <;> omega)).trans HX3.out); have yb : Below w.heap.size w (w9.setCell ⟨w.heap.size + 1, 2, none⟩ (.int .i64 nn)) := HB.out.setCell (by simp <;> omega) _; clear HX1 HX2 HB hc1 hc2 hf1 hf2; (try clear HX3); have HX1 := Lib.hid y1; have HX2 := Lib.hid y2; (try have HX3 := Lib.hid y3); have HB := Lib.hid yb; clear y1 y2 yb; (try clear y3)
                  refine (PValid_any _ _ _ _).mono ?_; rintro e w9 ⟨rfl, hb⟩; replace HB := Lib.hid (HB.out.trans (hb.mono HB.out.size)); replace HX1 := Lib.hid (blk_keep HX1.out hb); replace HX2 := Lib.hid (blk_keep HX2.out hb); (try replace HX3 := Lib.hid (blk_keep HX3.out hb)); replace hc1 := box_cells HX1.out; replace hc2 := box_cells HX2.out; replace hf1 := box_free HX1.out; replace hf2 := box_free HX2.out; clear hb
                  go_wp2_with (fail)
                  refine (text_any _ _ _ _ (HE.out.below HB.out) HVD.out).mono ?_; rintro e w9 ⟨rfl, hb⟩; replace HB := Lib.hid (HB.out.trans (hb.mono HB.out.size)); replace HX1 := Lib.hid (blk_keep HX1.out hb); replace HX2 := Lib.hid (blk_keep HX2.out hb); (try replace HX3 := Lib.hid (blk_keep HX3.out hb)); replace hc1 := box_cells HX1.out; replace hc2 := box_cells HX2.out; replace hf1 := box_free HX1.out; replace hf2 := box_free HX2.out; clear hb
                  go_wp2
                  exact bodyPost_ret (v := .tuple #[.agg #[.int .i64 0, .int .i64 0, .int .i64 0], .int .i64 7]) (by simp [results, Tryd.results14, go_sem, hc1, hf1, hc2, hf2]) rfl ⟨0, 0, 0, 7, rfl, says_no HNT.out, (((HB.out.setCell (by simp <;> omega) _).setCell (by simp <;> omega) _).setCell (by simp <;> omega) _)⟩
            · have HNT := Lib.hid (HK.out.none hno); clear hno
              go_wp2_with (fail)
              exact bodyPost_ret (v := .tuple #[.agg #[.int .i64 0, .int .i64 0, .int .i64 0], .int .i64 7]) (by simp [results, Tryd.results14, go_sem, hc1, hf1, hc2, hf2]) rfl ⟨0, 0, 0, 7, rfl, says_no HNT.out, ((((HB.out.setCell (by simp <;> omega) _).setCell (by simp <;> omega) _).setCell (by simp <;> omega) _).setCell (by simp <;> omega) _)⟩
    · have hnx : ∀ ty, (Instr.next (.pointer (some ⟨w.heap.size + 2, 0, none⟩)) true ty).run Tryd.prog wr = _ := fun ty => Lib.run_next_end_at wr (w.heap.size + 2) s pos ty x3 hp
      have HF := Lib.hid (no_end s pos st al hp hi)
      have HX1 := Lib.hid x1; have HX2 := Lib.hid x2; have HX3 := Lib.hid x3; have HB := Lib.hid xb
      clear hi x1 x2 x3 xb
      go_wp2_with (fail)
      refine (atoi_any _ _ (by first | exact HXS.out _ hs | (show _ ≤ 1000; simp)) (HE.out.below HB.out)).mono ?_
      rintro e w9 ⟨nn, ev, rfl, hb, hev⟩
      replace HB := Lib.hid (HB.out.trans (hb.mono HB.out.size)); replace HX1 := Lib.hid (blk_keep HX1.out hb); replace HX2 := Lib.hid (blk_keep HX2.out hb); (try replace HX3 := Lib.hid (blk_keep HX3.out hb)); replace hc1 := box_cells HX1.out; replace hc2 := box_cells HX2.out; replace hf1 := box_free HX1.out; replace hf2 := box_free HX2.out; clear hb
      rcases hev with ⟨rfl, hok⟩ | ⟨⟨ea, rfl⟩, hno⟩
      · cases hvd : vldB st al nn
        · have HNT := Lib.hid HF.out; clear hok
          go_wp2_with (fail)
          have y1 : (w9.setCell ⟨w.heap.size + 1, 2, none⟩ (.int .i64 nn)).heap[w.heap.size]? = _ := (heap_setCell_other _ _ _ _ (show _ ≠ _ by simp <;> omega)).trans HX1.out; have y2 : (w9.setCell ⟨w.heap.size + 1, 2, none⟩ (.int .i64 nn)).heap[w.heap.size + 1]? = some (.cells #[.int .i64 st, .int .i64 al, .int .i64 nn] 23 (0, 0)) := heap_setCell_same _ _ _ _ _ _ HX2.out; (try have y3 : (w9.setCell ⟨w.heap.size + 1, 2, none⟩ (.int .i64 nn)).heap[w.heap.size + 2]? = _ := (heap_setCell_other _ _ _ _ (show _ ≠ _ by simp <;> omega)).trans HX3.out); have yb : Below w.heap.size w (w9.setCell ⟨w.heap.size + 1, 2, none⟩ (.int .i64 nn)) := HB.out.setCell (by simp <;> omega) _; clear HX1 HX2 HB hc1 hc2 hf1 hf2; (try clear HX3); have HX1 := Lib.hid y1; have HX2 := Lib.hid y2; (try have HX3 := Lib.hid y3); have HB := Lib.hid yb; clear y1 y2 yb; (try clear y3)
          refine (PValid_any _ _ _ _).mono ?_; rintro e w9 ⟨rfl, hb⟩; replace HB := Lib.hid (HB.out.trans (hb.mono HB.out.size)); replace HX1 := Lib.hid (blk_keep HX1.out hb); replace HX2 := Lib.hid (blk_keep HX2.out hb); (try replace HX3 := Lib.hid (blk_keep HX3.out hb)); replace hc1 := box_cells HX1.out; replace hc2 := box_cells HX2.out; replace hf1 := box_free HX1.out; replace hf2 := box_free HX2.out; clear hb
          go_wp2
          exact bodyPost_ret (v := .tuple #[.agg #[.int .i64 0, .int .i64 0, .int .i64 0], .int .i64 7]) (by simp [results, Tryd.results14, go_sem, hc1, hf1, hc2, hf2]) rfl ⟨0, 0, 0, 7, rfl, says_no HNT.out, (((HB.out.setCell (by simp <;> omega) _).setCell (by simp <;> omega) _).setCell (by simp <;> omega) _)⟩
        · by_cases htx : textS st al nn = s
          · have HSY := Lib.hid (show ParseSays s st al nn 0 from .inl ⟨rfl, hvd, htx⟩)
            have htb : ((textS st al nn).toList == s.toList) = true := by rw [htx]; simp
            have HVD := Lib.hid hvd
            clear hok htx
            go_wp2_with (fail)
            have y1 : (w9.setCell ⟨w.heap.size + 1, 2, none⟩ (.int .i64 nn)).heap[w.heap.size]? = _ := (heap_setCell_other _ _ _ _ (show _ ≠ _ by simp <;> omega)).trans HX1.out; have y2 : (w9.setCell ⟨w.heap.size + 1, 2, none⟩ (.int .i64 nn)).heap[w.heap.size + 1]? = some (.cells #[.int .i64 st, .int .i64 al, .int .i64 nn] 23 (0, 0)) := heap_setCell_same _ _ _ _ _ _ HX2.out; (try have y3 : (w9.setCell ⟨w.heap.size + 1, 2, none⟩ (.int .i64 nn)).heap[w.heap.size + 2]? = _ := (heap_setCell_other _ _ _ _ (show _ ≠ _ by simp <;> omega)).trans HX3.out); have yb : Below w.heap.size w (w9.setCell ⟨w.heap.size + 1, 2, none⟩ (.int .i64 nn)) := HB.out.setCell (by simp <;> omega) _; clear HX1 HX2 HB hc1 hc2 hf1 hf2; (try clear HX3); have HX1 := Lib.hid y1; have HX2 := Lib.hid y2; (try have HX3 := Lib.hid y3); have HB := Lib.hid yb; clear y1 y2 yb; (try clear y3)
            refine (PValid_any _ _ _ _).mono ?_; rintro e w9 ⟨rfl, hb⟩; replace HB := Lib.hid (HB.out.trans (hb.mono HB.out.size)); replace HX1 := Lib.hid (blk_keep HX1.out hb); replace HX2 := Lib.hid (blk_keep HX2.out hb); (try replace HX3 := Lib.hid (blk_keep HX3.out hb)); replace hc1 := box_cells HX1.out; replace hc2 := box_cells HX2.out; replace hf1 := box_free HX1.out; replace hf2 := box_free HX2.out; clear hb
            go_wp2_with (fail)
            refine (text_any _ _ _ _ (HE.out.below HB.out) HVD.out).mono ?_; rintro e w9 ⟨rfl, hb⟩; replace HB := Lib.hid (HB.out.trans (hb.mono HB.out.size)); replace HX1 := Lib.hid (blk_keep HX1.out hb); replace HX2 := Lib.hid (blk_keep HX2.out hb); (try replace HX3 := Lib.hid (blk_keep HX3.out hb)); replace hc1 := box_cells HX1.out; replace hc2 := box_cells HX2.out; replace hf1 := box_free HX1.out; replace hf2 := box_free HX2.out; clear hb
            go_wp2
            exact bodyPost_ret (v := .tuple #[.agg #[.int .i64 st, .int .i64 al, .int .i64 nn], .int .i64 0]) (by simp [results, Tryd.results14, go_sem, hc1, hf1, hc2, hf2]) rfl ⟨st, al, nn, 0, rfl, HSY.out, (((HB.out.setCell (by simp <;> omega) _).setCell (by simp <;> omega) _).setCell (by simp <;> omega) _)⟩
          · have HNT := Lib.hid HF.out
            have htb := str_ne htx
            have HVD := Lib.hid hvd
            clear hok htx
            go_wp2_with (fail)
            have y1 : (w9.setCell ⟨w.heap.size + 1, 2, none⟩ (.int .i64 nn)).heap[w.heap.size]? = _ := (heap_setCell_other _ _ _ _ (show _ ≠ _ by simp <;> omega)).trans HX1.out; have y2 : (w9.setCell ⟨w.heap.size + 1, 2, none⟩ (.int .i64 nn)).heap[w.heap.size + 1]? = some (.cells #[.int .i64 st, .int .i64 al, .int .i64 nn] 23 (0, 0)) := heap_setCell_same _ _ _ _ _ _ HX2.out; (try have y3 : (w9.setCell ⟨w.heap.size + 1, 2, none⟩ (.int .i64 nn)).heap[w.heap.size + 2]? = _ := (heap_setCell_other _ _ _ _ (show _ ≠ _ by simp <;> omega)).trans HX3.out); have yb : Below w.heap.size w (w9.setCell ⟨w.heap.size + 1, 2, none⟩ (.int .i64 nn)) := HB.out.setCell (by simp <;> omega) _; clear HX1 HX2 HB hc1 hc2 hf1 hf2; (try clear HX3); have HX1 := Lib.hid y1; have HX2 := Lib.hid y2; (try have HX3 := Lib.hid y3); have HB := Lib.hid yb; clear y1 y2 yb; (try clear y3)
            refine (PValid_any _ _ _ _).mono ?_; rintro e w9 ⟨rfl, hb⟩; replace HB := Lib.hid (HB.out.trans (hb.mono HB.out.size)); replace HX1 := Lib.hid (blk_keep HX1.out hb); replace HX2 := Lib.hid (blk_keep HX2.out hb); (try replace HX3 := Lib.hid (blk_keep HX3.out hb)); replace hc1 := box_cells HX1.out; replace hc2 := box_cells HX2.out; replace hf1 := box_free HX1.out; replace hf2 := box_free HX2.out; clear hb
            go_wp2_with (fail)
            refine (text_any _ _ _ _ (HE.out.below HB.out) HVD.out).mono ?_; rintro e w9 ⟨rfl, hb⟩; replace HB := Lib.hid (HB.out.trans (hb.mono HB.out.size)); replace HX1 := Lib.hid (blk_keep HX1.out hb); replace HX2 := Lib.hid (blk_keep HX2.out hb); (try replace HX3 := Lib.hid (blk_keep HX3.out hb)); replace hc1 := box_cells HX1.out; replace hc2 := box_cells HX2.out; replace hf1 := box_free HX1.out; replace hf2 := box_free HX2.out; clear hb
            go_wp2
            exact bodyPost_ret (v := .tuple #[.agg #[.int .i64 0, .int .i64 0, .int .i64 0], .int .i64 7]) (by simp [results, Tryd.results14, go_sem, hc1, hf1, hc2, hf2]) rfl ⟨0, 0, 0, 7, rfl, says_no HNT.out, (((HB.out.setCell (by simp <;> omega) _).setCell (by simp <;> omega) _).setCell (by simp <;> omega) _)⟩
      · have HNT := Lib.hid HF.out; clear hno
        go_wp2_with (fail)
        exact bodyPost_ret (v := .tuple #[.agg #[.int .i64 0, .int .i64 0, .int .i64 0], .int .i64 7]) (by simp [results, Tryd.results14, go_sem, hc1, hf1, hc2, hf2]) rfl ⟨0, 0, 0, 7, rfl, says_no HNT.out, ((((HB.out.setCell (by simp <;> omega) _).setCell (by simp <;> omega) _).setCell (by simp <;> omega) _).setCell (by simp <;> omega) _)⟩

end Go.Proofs.YtogdhecmecpccaaDoor
