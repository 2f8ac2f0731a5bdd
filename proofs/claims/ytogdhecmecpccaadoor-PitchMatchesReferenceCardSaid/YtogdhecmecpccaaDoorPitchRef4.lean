/- The contract of the reference's Parse on pitches. -/
import Derived.Test.YtogdhecmecpccaaDoorPitchRef3
import Derived.Test.YtogdhecmecpccaaDoorPitchParse
namespace Go.Proofs.YtogdhecmecpccaaDoor
set_option linter.unusedSimpArgs false
set_option linter.unusedVariables false
open Go.RowKit Go.Sort

/-- No pitch has this text whose step, or alter, or octave, is one of the first. -/
def NoS (s : ByteArray) (k : Int) : Prop := ∀ s' a' o', vldB s' a' o' = true → s' < k → textS s' a' o' ≠ s
def NoA (s : ByteArray) (st k : Int) : Prop := ∀ a' o', vldB st a' o' = true → a' < k → textS st a' o' ≠ s
def NoO (s : ByteArray) (st al k : Int) : Prop := ∀ o', vldB st al o' = true → o' < k → textS st al o' ≠ s
theorem NoS.zero (s : ByteArray) : NoS s 0 := fun s' a' o' hv hl => by
  obtain ⟨⟨p1, _⟩, _⟩ := (vld_iff s' a' o').1 hv
  omega
theorem NoA.zero (s : ByteArray) (st : Int) : NoA s st (-4) := fun a' o' hv hl => by
  obtain ⟨_, ⟨p1, _⟩, _⟩ := (vld_iff st a' o').1 hv
  omega
theorem NoO.zero (s : ByteArray) (st al : Int) : NoO s st al (-8) := fun o' hv hl => by
  obtain ⟨_, _, p1, _⟩ := (vld_iff st al o').1 hv
  omega
theorem NoS.end_ {s : ByteArray} (h : NoS s 7) : NoText s := fun s' a' o' hv => h s' a' o' hv (by
  obtain ⟨⟨_, p1⟩, _⟩ := (vld_iff s' a' o').1 hv
  omega)
theorem NoA.next {s : ByteArray} {st : Int} (hs : NoS s st) (h : NoA s st 5) : NoS s (st + 1) := fun s' a' o' hv hl => by
  by_cases e : s' = st
  · subst e
    exact h a' o' hv (by obtain ⟨_, ⟨_, p1⟩, _⟩ := (vld_iff s' a' o').1 hv; omega)
  · exact hs s' a' o' hv (by omega)
theorem NoO.next {s : ByteArray} {st al : Int} (ha : NoA s st al) (h : NoO s st al 21) : NoA s st (al + 1) := fun a' o' hv hl => by
  by_cases e : a' = al
  · subst e
    exact h o' hv (by obtain ⟨_, _, _, p1⟩ := (vld_iff st a' o').1 hv; omega)
  · exact ha a' o' hv (by omega)
theorem NoO.put {s : ByteArray} {st al o : Int} (h : NoO s st al o) (hne : textS st al o ≠ s) : NoO s st al (o + 1) := fun o' hv hl => by
  by_cases e : o' = o
  · subst e; exact hne
  · exact h o' hv (by omega)
theorem no_first {s : ByteArray} {j : Nat} (hs : NoS s j) (hj : j < 7) (c : UInt8) (hc : s.data.toList[0]? = some c) (hne : letters[j]? ≠ some c) : NoS s ((j : Int) + 1) := fun s' a' o' hv hl => by
  by_cases e : s' = j
  · subst e
    intro ht
    have T := textAt (j : Int) a' o' (by omega) (by omega)
    rw [ht] at T
    have := T.first
    rw [hc] at this
    exact hne (by simpa using this.symm)
  · exact hs s' a' o' hv (by omega)
theorem no_size {s : ByteArray} (h : s.size = 0 ∨ 9 < s.size) : NoText s := fun s' a' o' hv ht => by
  obtain ⟨⟨p1, p2⟩, ⟨p3, p4⟩, p5, p6⟩ := (vld_iff s' a' o').1 hv
  have T := (textAt s' a' o' p1 p2).size
  rw [ht] at T
  have := itoaS_size o' (by omega) (by omega)
  have e : (itoaS o').size = (Lib.itoa o').length := by simp [itoaS, ByteArray.size]
  omega
theorem lett_at (j : Nat) (h : j < (⟨#[67, 68, 69, 70, 71, 65, 66]⟩ : ByteArray).size) : letters[j]? = some ((⟨#[67, 68, 69, 70, 71, 65, 66]⟩ : ByteArray)[j]) := get_list ⟨#[67, 68, 69, 70, 71, 65, 66]⟩ j h
set_option maxRecDepth 100000 in
set_option maxHeartbeats 4000000 in
theorem RParse_any (s : ByteArray) (w : World) (hs : s.size ≤ 1000) : Calls Tryd.prog 26 #[.string s] w (ParsePost s w) := by
  by_cases hsz : s.size = 0 ∨ 9 < s.size
  · have HN := Lib.hid (no_size hsz)
    rcases hsz with hsz | hsz
    · have h1 : ((s.size : Int) == 0) = true := by simp [hsz]
      have hcA := box_cells (heap_alloc_new w (.cells #[.int .i64 0, .int .i64 0, .int .i64 0] 23))
      go_enter Tryd.func26, Tryd.ntmps26
      go_wp2
      exact bodyPost_ret (v := .tuple #[.agg #[.int .i64 0, .int .i64 0, .int .i64 0], .int .i64 7]) (by simp [results, Tryd.results26, go_sem, hcA]) rfl ⟨0, 0, 0, 7, rfl, says_no HN.out, (Below.refl _ _).alloc (Nat.le_refl _) _⟩
    · have h1 : ((s.size : Int) == 0) = false := beq_eq_false_iff_ne.2 (by omega)
      have h2 : (9 : Int) < s.size := by omega
      have hcA := box_cells (heap_alloc_new w (.cells #[.int .i64 0, .int .i64 0, .int .i64 0] 23))
      go_enter Tryd.func26, Tryd.ntmps26
      go_wp2
      exact bodyPost_ret (v := .tuple #[.agg #[.int .i64 0, .int .i64 0, .int .i64 0], .int .i64 7]) (by simp [results, Tryd.results26, go_sem, hcA]) rfl ⟨0, 0, 0, 7, rfl, says_no HN.out, (Below.refl _ _).alloc (Nat.le_refl _) _⟩
  · have h1 : ((s.size : Int) == 0) = false := beq_eq_false_iff_ne.2 (by omega)
    have h2 : ¬ (9 : Int) < s.size := by omega
    have hpos : 0 < s.size := by omega
    clear hsz
    go_enter Tryd.func26, Tryd.ntmps26
    go_wp2
    have x0 := heap_alloc_new w (.cells #[.int .i64 0, .int .i64 0, .int .i64 0] 23)
    have hb0 := (Below.refl w.heap.size w).alloc (Nat.le_refl _) (.cells #[.int .i64 0, .int .i64 0, .int .i64 0] 23)
    generalize w.alloc (.cells #[.int .i64 0, .int .i64 0, .int .i64 0] 23) = w1 at *
    have HX := Lib.hid x0; have HB := Lib.hid hb0
    clear x0 hb0
    go_loopw [4] (fun i wr => ∃ j : Nat, j ≤ 7 ∧ i = .int .i64 j ∧ NoS s j ∧ wr.heap[w.heap.size]? = some (.cells #[.int .i64 0, .int .i64 0, .int .i64 0] 23 (0, 0)) ∧ Below w.heap.size w wr) (fun i _ => 7 - (intOf i).toNat)
    case atStart => exact ⟨0, by omega, rfl, NoS.zero s, HX.out, HB.out⟩
    case round =>
      clear HX HB
      obtain ⟨j, hj, rfl, hno, hx, hb⟩ := hrel
      have HN := Lib.hid hno; have HX := Lib.hid hx; have HB := Lib.hid hb
      clear hno hx hb
      by_cases hlt : j < 7
      · go_wp2
        refine wp_quietB (by kernel_rfl) (by kernel_rfl) ?_
        repeat (go_big_quiet_step (first | (go_at_call 40; exact Calls.regrown (letters_any _))))
        refine wpQuiet_nil ?_
        intro wq hq
        replace HX := Lib.hid (blk_keep HX.out hq); replace HB := Lib.hid (HB.out.trans (hq.mono HB.out.size)); clear hq
        have hj7 : j < (⟨#[67, 68, 69, 70, 71, 65, 66]⟩ : ByteArray).size := hlt
        have hlj := lett_at j hj7
        have hc0 := get_list s 0 hpos
        generalize (⟨#[67, 68, 69, 70, 71, 65, 66]⟩ : ByteArray)[j]'hj7 = lj at *
        generalize s[0]'hpos = c0 at *
        have HLJ := Lib.hid hlj; have HC0 := Lib.hid hc0; clear hlj hc0
        by_cases hq : lj = c0
        · subst hq
          have hb1 : ((lj.toNat : Int) != (lj.toNat : Int)) = false := by simp
          have hd7 : decide ((j : Int) < 7) = true := decide_eq_true (by omega)
          rw [hd7, hb1]
          clear hd7 hb1
          go_wp2
          go_loopw [5] (fun i wr => ∃ al : Int, -4 ≤ al ∧ al ≤ 5 ∧ i = .int .i64 al ∧ NoA s j al ∧ wr.heap[w.heap.size]? = some (.cells #[.int .i64 0, .int .i64 0, .int .i64 0] 23 (0, 0)) ∧ Below w.heap.size w wr) (fun i _ => (5 - intOf i).toNat)
          case atStart => exact ⟨-4, by omega, by omega, rfl, NoA.zero s j, HX.out, HB.out⟩
          case round =>
            clear HX HB
            obtain ⟨al, ha1, ha2, rfl, hno, hx, hb⟩ := hrel
            have HA := Lib.hid hno; have HX := Lib.hid hx; have HB := Lib.hid hb
            clear hno hx hb
            by_cases hal : al ≤ 4
            · go_wp2
              go_loopw [6] (fun i wr => ∃ o : Int, -8 ≤ o ∧ o ≤ 21 ∧ i = .int .i64 o ∧ NoO s j al o ∧ wr.heap[w.heap.size]? = some (.cells #[.int .i64 0, .int .i64 0, .int .i64 0] 23 (0, 0)) ∧ Below w.heap.size w wr) (fun i _ => (21 - intOf i).toNat)
              case atStart => exact ⟨-8, by omega, by omega, rfl, NoO.zero s j al, HX.out, HB.out⟩
              case round =>
                clear HX HB
                obtain ⟨o, ho1, ho2, rfl, hno, hx, hb⟩ := hrel
                have HO := Lib.hid hno; have HX := Lib.hid hx; have HB := Lib.hid hb
                clear hno hx hb
                by_cases hol : o ≤ 20
                · have hv : vldB j al o = true := (vld_iff _ _ _).2 ⟨⟨by omega, by omega⟩, ⟨by omega, by omega⟩, by omega, by omega⟩
                  have HV := Lib.hid hv; clear hv
                  go_wp2_with (fail)
                  refine (RText_go _ _ _ _ HV.out).mono ?_
                  rintro e w3 ⟨rfl, hb⟩
                  have HP := Lib.hid (box_below hb)
                  replace HX := Lib.hid (blk_keep (up_alloc HX.out _) hb)
                  replace HB := Lib.hid (HB.out.trans ((allocB hb).mono HB.out.size))
                  clear hb
                  have hc := box_cells HX.out; have hf := box_free HX.out; have hz := lt_blk HX.out
                  have hcp := box_cells HP.out
                  by_cases htx : textS j al o = s
                  · have htb : ((textS j al o).toList == s.toList) = true := by rw [htx]; simp
                    have HTX := Lib.hid htx; clear htx
                    go_wp2
                    exact bodyPost_ret (v := .tuple #[.agg #[.int .i64 (j : Int), .int .i64 al, .int .i64 o], .int .i64 0]) (by simp [results, Tryd.results26, go_sem, hc, hf]) rfl ⟨j, al, o, 0, rfl, .inl ⟨rfl, HV.out, HTX.out⟩, ((HB.out.setCell (by simp <;> omega) _).setCell (by simp <;> omega) _).setCell (by simp <;> omega) _⟩
                  · have htb := str_ne htx
                    have HO2 := Lib.hid (HO.out.put htx)
                    clear htx
                    go_wp2
                    go_roundw
                    case rel => exact ⟨o + 1, by omega, by omega, rfl, HO2.out, HX.out, HB.out⟩
                    case measure => simp [intOf]; omega
                · have ho21 : o = 21 := by omega
                  subst ho21
                  have HA2 := Lib.hid (HO.out.next HA.out)
                  go_wp2
                  go_roundw
                  case rel => exact ⟨al + 1, by omega, by omega, rfl, HA2.out, HX.out, HB.out⟩
                  case measure => simp [intOf]; omega
            · have hal5 : al = 5 := by omega
              subst hal5
              have HN2 := Lib.hid (HA.out.next HN.out)
              go_wp2
              go_roundw
              case rel => exact ⟨j + 1, by omega, by go_num, by simpa using HN2.out, HX.out, HB.out⟩
              case measure => simp [intOf]; omega
        · have hb1 : ((lj.toNat : Int) != (c0.toNat : Int)) = true := by
            rw [bne_iff_ne]
            exact fun e => hq (UInt8.toNat_inj.1 (by omega))
          have HN2 := Lib.hid (no_first HN.out hlt c0 HC0.out (by rw [HLJ.out]; simpa using hq))
          go_wp2
          go_roundw
          case rel => exact ⟨j + 1, by omega, by go_num, by simpa using HN2.out, HX.out, HB.out⟩
          case measure => simp [intOf]; omega
      · have hj7 : j = 7 := by omega
        subst hj7
        have hc := box_cells HX.out; have hf := box_free HX.out; have hz := lt_blk HX.out
        go_wp2
        exact bodyPost_ret (v := .tuple #[.agg #[.int .i64 0, .int .i64 0, .int .i64 0], .int .i64 7]) (by simp [results, Tryd.results26, go_sem, hc, hf]) rfl ⟨0, 0, 0, 7, rfl, says_no HN.out.end_, ((HB.out.setCell (by simp <;> omega) _).setCell (by simp <;> omega) _).setCell (by simp <;> omega) _⟩
end Go.Proofs.YtogdhecmecpccaaDoor
