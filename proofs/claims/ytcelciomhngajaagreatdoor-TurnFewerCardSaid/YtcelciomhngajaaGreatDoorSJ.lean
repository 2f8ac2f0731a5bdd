/- Texts of this seat, laid together: ScR14, ScR08d, ScR08e, ScR14b, ScElt. -/
import Derived.Test.YtcelciomhngajaaGreatDoorSI
import Derived.Test.YtcelciomhngajaaGreatDoorSH
import Derived.Test.YtcelciomhngajaaGreatDoorSB
import Derived.Test.YtcelciomhngajaaGreatDoorSG
import Derived.Test.YtcelciomhngajaaGreatDoorSA
/- The reference's views (layer 14): the small functions: walked. -/
namespace Go.Proofs.YtcelciomhngajaaGreatDoor
set_option linter.unusedSimpArgs false
set_option linter.unusedVariables false
open Go.RowKit Go.Sort

theorem eql_rt (x y x' y' : Int) (w : World) : (binOp .eql 32 (.agg #[.int .i64 x, .int .i64 y]) (.agg #[.int .i64 x', .int .i64 y'])).run Tryz.prog w = .ok (.bool (x == x' && y == y')) w := by
  rw [run_eql_struct]
  simp [go_sem]
  by_cases h0 : x = x'
  · simp [h0]
    by_cases h1 : y = y' <;> simp [h1]
  · simp [h0]
open Go.RowKit Go.Sort

theorem wrong_22 {l : List Pa} {ns : List No} {k : Nat} (hk : k < ns.length) (h : ownP l ns[k] = none) : wrongI l ns = 22 := by
  unfold wrongI
  have : (ns.all fun n => (ownP l n).isSome) = false := by
    rw [← Bool.not_eq_true]; intro hh
    have := List.all_eq_true.1 hh ns[k] (List.getElem_mem hk)
    rw [h] at this; cases this
  simp [this]
theorem wrong_20 {l : List Pa} {ns : List No} {k : Nat} (hk : k < ns.length) (ha : (ns.all fun n => (ownP l n).isSome) = true) (h : inRange l ns[k] = false) : wrongI l ns = 20 := by
  unfold wrongI
  have : ns.all (inRange l) = false := by
    rw [← Bool.not_eq_true]; intro hh
    have := List.all_eq_true.1 hh ns[k] (List.getElem_mem hk)
    rw [h] at this; cases this
  rw [if_pos ha, this]; rfl
theorem wrong_0 {l : List Pa} {ns : List No} (ha : (ns.all fun n => (ownP l n).isSome) = true) (h : ns.all (inRange l) = true) : wrongI l ns = 0 := by
  unfold wrongI; rw [if_pos ha, if_pos h]
theorem all_get {α : Type} {l : List α} {p : α → Bool} (h : ∀ j (hj : j < l.length), p l[j] = true) : l.all p = true := by
  rw [List.all_eq_true]; intro x hx
  obtain ⟨j, hj, rfl⟩ := List.getElem_of_mem hx
  exact h j hj
theorem upto_succ {α : Type} {l : List α} {p : α → Bool} {k : Nat} (h : ∀ j (hj : j < l.length), j < k → p l[j] = true) (hk : k < l.length) (hp : p l[k] = true) : ∀ j (hj : j < l.length), j < k + 1 → p l[j] = true := fun j hj hjk =>
  if e : j = k then by subst e; exact hp else h j hj (by omega)
set_option maxRecDepth 100000 in
set_option maxHeartbeats 4000000 in
theorem RWrong_any (a b : Option Addr) (cap cap' : Nat) (l : List Pa) (ns : List No) (w : World) (hl : l.length ≤ 100000) (hl' : ns.length ≤ 100000) (hn : (l.map Pa.id).Nodup) (hp : ∀ p ∈ l, vldP p.low = true ∧ vldP p.high = true) (hv : ∀ n ∈ ns, vldP n.pitch = true) (hm : PaAt w a l) (hm' : NoAt w b ns) :
    Calls Tryz.prog 81 #[.slice a l.length cap, .slice b ns.length cap'] w fun e w' => e = .returned (.int .i64 (wrongI l ns)) ∧ Below w.heap.size w w' := by
  have HM := Lib.hid hm; have HM' := Lib.hid hm'
  have HOwn := Lib.hid (fun n W (hb : Below w.heap.size w W) => ROwn_any a cap l n W hl hn (hm.below hb))
  clear hm hm'
  have H22 := Lib.hid (fun k (hk : k < ns.length) h => wrong_22 (l := l) hk h)
  have H20 := Lib.hid (fun k (hk : k < ns.length) ha h => wrong_20 (l := l) hk ha h)
  have H0 := Lib.hid (fun ha h => wrong_0 (l := l) (ns := ns) ha h)
  have HP := Lib.hid hp; have HV := Lib.hid hv
  clear hp hv
  generalize wrongI l ns = R at *
  go_enter Tryz.func81, Tryz.ntmps81
  go_wp2
  go_loopw [5] (fun i wr => ∃ k : Nat, k ≤ ns.length ∧ i = .int .i64 k ∧ (∀ j (hj : j < ns.length), j < k → (ownP l ns[j]).isSome = true) ∧ Below w.heap.size w wr) (fun i _ => ns.length - (intOf i).toNat)
  case atStart => exact ⟨0, Nat.zero_le _, rfl, fun j hj h => by omega, Below.refl _ _⟩
  case round =>
    obtain ⟨k, hk, rfl, hall, hb⟩ := hrel
    have HA := Lib.hid hall; have HB := Lib.hid hb
    clear hall hb
    by_cases hlt : k < ns.length
    · have HS := Lib.hid (fun h => upto_succ (p := fun n => (ownP l n).isSome) HA.out hlt h)
      have HF := Lib.hid (H22.out k hlt)
      have HC := Lib.hid (own_cases l ns[k])
      obtain ⟨b, off, rfl, _, c0, c1, c2, c3, c4, c5, c6, c7, c8, c9, c10, c11⟩ := HM'.out.get k hlt; have g0 := keepE c0 HB.out; have g1 := keepE c1 HB.out; have g2 := keepE c2 HB.out; have g3 := keepE c3 HB.out; have g4 := keepE c4 HB.out; have g5 := keepE c5 HB.out; have g6 := keepE c6 HB.out; have g7 := keepE c7 HB.out; have g8 := keepE c8 HB.out; have g9 := keepE c9 HB.out; have g10 := keepE c10 HB.out; have g11 := keepE c11 HB.out; clear c0 c1 c2 c3 c4 c5 c6 c7 c8 c9 c10 c11
      generalize ns[k] = n at *
      rcases HC.out with ⟨e1, e2⟩ | ⟨i, hi, e1, e2⟩
      · have EA := Lib.hid e1
        have HF2 := Lib.hid (HF.out e2)
        clear e1 e2
        go_wp2_with (go_at_call 127; refine (HOwn.out _ _ HB.out).mono ?_; rw [EA.out]; rintro e w3 ⟨rfl, hb⟩; replace HB := Lib.hid (HB.out.trans (hb.mono HB.out.size)); clear hb g0 g1 g2 g3 g4 g5 g6 g7 g8 g9 g10 g11)
        go_ret
        exact ⟨ret_int HF2.out.symm, HB.out⟩
      · have EA := Lib.hid e1
        have HS2 := Lib.hid (HS.out (by rw [e2]; rfl))
        have hz : ¬ (i : Int) < 0 := by omega
        clear e1 e2
        go_wp2_with (go_at_call 127; refine (HOwn.out _ _ HB.out).mono ?_; rw [EA.out]; rintro e w3 ⟨rfl, hb⟩; replace HB := Lib.hid (HB.out.trans (hb.mono HB.out.size)); clear hb g0 g1 g2 g3 g4 g5 g6 g7 g8 g9 g10 g11)
        exact ⟨⟨k + 1, by omega, by go_num, HS2.out, HB.out⟩, by simp [intOf]; omega⟩
    · obtain rfl : k = ns.length := by omega
      have HAl := Lib.hid (all_get (p := fun n => (ownP l n).isSome) fun j hj => HA.out j hj hj)
      clear HA
      go_wp2
      go_loopw [6] (fun i wr => ∃ k : Nat, k ≤ ns.length ∧ i = .int .i64 k ∧ (∀ j (hj : j < ns.length), j < k → inRange l ns[j] = true) ∧ Below w.heap.size w wr) (fun i _ => ns.length - (intOf i).toNat)
      case atStart => exact ⟨0, Nat.zero_le _, rfl, fun j hj h => by omega, HB.out⟩
      case round =>
        clear HB
        obtain ⟨k, hk, rfl, hall, hb⟩ := hrel
        have HA := Lib.hid hall; have HB := Lib.hid hb
        clear hall hb
        by_cases hlt : k < ns.length
        · have HS := Lib.hid (fun h => upto_succ (p := fun n => inRange l n) HA.out hlt h)
          have HF := Lib.hid (H20.out k hlt HAl.out)
          have HC := Lib.hid (own_cases l ns[k])
          have HO := Lib.hid (List.all_eq_true.1 HAl.out ns[k] (List.getElem_mem hlt))
          have HVk := Lib.hid (HV.out ns[k] (List.getElem_mem hlt))
          have HIR := Lib.hid (show ∀ p, ownP l ns[k] = some p → inRange l ns[k] = inB (numI ns[k].pitch) (numI p.low) (numI p.high) from fun p h => by unfold inRange; rw [h]; rfl)
          obtain ⟨b, off, rfl, _, c0, c1, c2, c3, c4, c5, c6, c7, c8, c9, c10, c11⟩ := HM'.out.get k hlt; have g0 := keepE c0 HB.out; have g1 := keepE c1 HB.out; have g2 := keepE c2 HB.out; have g3 := keepE c3 HB.out; have g4 := keepE c4 HB.out; have g5 := keepE c5 HB.out; have g6 := keepE c6 HB.out; have g7 := keepE c7 HB.out; have g8 := keepE c8 HB.out; have g9 := keepE c9 HB.out; have g10 := keepE c10 HB.out; have g11 := keepE c11 HB.out; clear c0 c1 c2 c3 c4 c5 c6 c7 c8 c9 c10 c11
          generalize ns[k] = n at *
          rcases HC.out with ⟨e1, e2⟩ | ⟨i, hi, e1, e2⟩
          · have := HO.out
            rw [e2] at this; cases this
          · have EA := Lib.hid e1
            have hpl := HP.out l[i] (List.getElem_mem hi)
            have HI2 := Lib.hid (HIR.out _ e2)
            have HRg := Lib.hid (fun W => RRange_any l[i] n.pitch W hpl.1 hpl.2 HVk.out)
            rw [← numI_vld hpl.1, ← numI_vld hpl.2, ← numI_vld HVk.out] at HRg
            clear e1 e2 hpl HIR HO HVk HC
            have hz : (0 : Int) ≤ i := by omega
            obtain ⟨bp, offp, rfl, _, d0, d1, d2, d3, d4, d5, d6, d7, d8, d9, d10, d11, d12⟩ := HM.out.get i hi; have p0 := cell_regrown (keepE d0 HB.out); have p1 := cell_regrown (keepE d1 HB.out); have p2 := cell_regrown (keepE d2 HB.out); have p3 := cell_regrown (keepE d3 HB.out); have p4 := cell_regrown (keepE d4 HB.out); have p5 := cell_regrown (keepE d5 HB.out); have p6 := cell_regrown (keepE d6 HB.out); have p7 := cell_regrown (keepE d7 HB.out); have p8 := cell_regrown (keepE d8 HB.out); have p9 := cell_regrown (keepE d9 HB.out); have p10 := cell_regrown (keepE d10 HB.out); have p11 := cell_regrown (keepE d11 HB.out); have p12 := cell_regrown (keepE d12 HB.out); clear d0 d1 d2 d3 d4 d5 d6 d7 d8 d9 d10 d11 d12
            generalize l[i] = p at *
            generalize inB (numI n.pitch) (numI p.low) (numI p.high) = Q at *
            replace g0 := cell_regrown g0; replace g1 := cell_regrown g1; replace g2 := cell_regrown g2; replace g3 := cell_regrown g3; replace g4 := cell_regrown g4; replace g5 := cell_regrown g5; replace g6 := cell_regrown g6; replace g7 := cell_regrown g7; replace g8 := cell_regrown g8; replace g9 := cell_regrown g9; replace g10 := cell_regrown g10; replace g11 := cell_regrown g11
            have HO1 := Lib.hid (show ∀ W, Below w.heap.size w W → Calls Tryz.prog 127 #[.slice (some ⟨bp, offp, none⟩) l.length cap, .agg #[.int .i64 n.id, .int .i64 n.part, .int .i64 n.bar, .int .i64 n.voice, .int .i64 n.ossia, .int .i64 n.start.n, .int .i64 n.start.d, .int .i64 n.len.n, .int .i64 n.len.d, .int .i64 n.pitch.s, .int .i64 n.pitch.a, .int .i64 n.pitch.o]] W fun e w' => e = .returned (.int .i64 i) ∧ Below W.heap.size W w' from fun W hb => by have := HOwn.out n W hb; rwa [EA.out] at this)
            go_wp2
            refine wp_quietB (by kernel_rfl) (by kernel_rfl) ?_
            (repeat (go_big_quiet_step (fail)))
            go_big_quiet_step ((go_at_call 127; refine Calls.regrown_of (HO1.out _ (HB.out.trans ((below_regrown _ _ _).mono HB.out.size)))))
            (repeat (go_big_quiet_step (fail)))
            go_big_quiet_step ((go_at_call 128; refine Calls.regrown_of (HRg.out _)))
            (repeat (go_big_quiet_step (fail)))
            refine wpQuiet_nil ?_
            intro w9 hb9
            replace HB := Lib.hid (HB.out.trans (hb9.mono HB.out.size))
            clear hb9 g0 g1 g2 g3 g4 g5 g6 g7 g8 g9 g10 g11 p0 p1 p2 p3 p4 p5 p6 p7 p8 p9 p10 p11 p12
            cases Q
            · have HF2 := Lib.hid (HF.out HI2.out)
              go_wp2
              go_ret
              exact ⟨ret_int HF2.out.symm, HB.out⟩
            · have HS2 := Lib.hid (HS.out HI2.out)
              go_wp2
              exact ⟨⟨k + 1, by omega, by go_num, HS2.out, HB.out⟩, by simp [intOf]; omega⟩
        · obtain rfl : k = ns.length := by omega
          have HF := Lib.hid (H0.out HAl.out (all_get fun j hj => HA.out j hj hj))
          go_wp2
          go_ret
          exact ⟨ret_int HF.out.symm, HB.out⟩
open Go.RowKit Go.Sort

theorem sorted_bad {bars : List Ba} {l : List No} {m : Nat} (hm : m + 1 < l.length) (h : beforeB bars l[m] l[m + 1] = false) : sortedB bars l = false := by
  unfold sortedB
  rw [← Bool.not_eq_true]; intro hh
  have := List.all_eq_true.1 hh m (List.mem_range.2 (by omega))
  have e1 : l.getD m default = l[m] := by simp [List.getD, show m < l.length by omega]
  have e2 : l.getD (m + 1) default = l[m + 1] := by simp [List.getD, hm]
  rw [e1, e2, h] at this; cases this
theorem sorted_done {bars : List Ba} {l : List No} (h : ∀ j (hj : j + 1 < l.length), beforeB bars l[j] l[j + 1] = true) : sortedB bars l = true := by
  unfold sortedB
  rw [List.all_eq_true]
  intro j hj
  have hj := List.mem_range.1 hj
  have e1 : l.getD j default = l[j] := by simp [List.getD, show j < l.length by omega]
  have e2 : l.getD (j + 1) default = l[j + 1] := by simp [List.getD, show j + 1 < l.length by omega]
  rw [e1, e2]; exact h j (by omega)
theorem noteOk_vld {bars : List Ba} {n : No} (h : noteOk bars n = true) : vldP n.pitch = true := by
  unfold noteOk at h
  split at h
  · simp only [noteIn, isNoteP, Bool.and_eq_true] at h
    exact h.1.1.1.1.1.1.1.1.1
  · cases h
set_option maxRecDepth 100000 in
set_option maxHeartbeats 8000000 in
theorem RValid8_any (s : Sc) (q : Sp) (w : World) (hf : ScFew s) (hs : ScAt w s q) :
    Calls Tryz.prog 41 #[.agg #[.int .i64 s.version, .slice q.ab s.bars.length q.cb, .slice q.ap s.parts.length q.cp, .slice q.an s.notes.length q.cn]] w fun e w' => e = .returned (.bool (validS s)) ∧ Below w.heap.size w w' := by
  have HX1 := Lib.hid (heap_alloc_new w (.cells #[.int .i64 s.version, .slice q.ab s.bars.length q.cb, .slice q.ap s.parts.length q.cp, .slice q.an s.notes.length q.cn] 26))
  have HB := Lib.hid ((Below.refl w.heap.size w).alloc (Nat.le_refl _) (.cells #[.int .i64 s.version, .slice q.ab s.bars.length q.cb, .slice q.ap s.parts.length q.cp, .slice q.an s.notes.length q.cn] 26))
  have HV := Lib.hid (show validS s = (inB s.version 1 1000000 && barsB s.bars && partsB s.parts && notesB s.bars s.notes && decide (wrongI s.parts s.notes = 0) && sortedB s.bars s.notes) from rfl)
  have H1 := Lib.hid (fun W (hb : Below w.heap.size w W) => RBars_any q.ab q.cb s.bars W (by have := hf.bars; omega) (hs.bars.below hb))
  have H2 := Lib.hid (fun W (hb : Below w.heap.size w W) => RParts_any q.ap q.cp s.parts W (by have := hf.parts; omega) (hs.parts.below hb))
  have H4 := Lib.hid (fun W (hb : Below w.heap.size w W) => RNotes_any q.ab q.an q.cb q.cn s.bars s.notes W (by have := hf.bars; omega) (by have := hf.notes; omega) (hs.bars.below hb) (hs.notes.below hb))
  have HS := Lib.hid hs; have HF := Lib.hid hf
  clear hs hf
  generalize validS s = R at *
  cases h1 : barsB s.bars
  · have HR := Lib.hid (show R = false by rw [HV.out, h1]; simp)
    rw [h1] at H1
    have HI := Lib.hid (rfl : inB s.version 1 1000000 = inB s.version 1 1000000)
    generalize partsB s.parts = b2 at *
    clear h1 HV
    obtain ⟨b0, hb0⟩ : ∃ b, inB s.version 1 1000000 = b := ⟨_, rfl⟩
    replace HI := Lib.hid hb0
    clear hb0
    cases b0 <;> (go_enter Tryz.func41, Tryz.ntmps41; go_upto_region 1 with (fail); generalize w.alloc (.cells #[.int .i64 s.version, .slice q.ab s.bars.length q.cb, .slice q.ap s.parts.length q.cp, .slice q.an s.notes.length q.cn] 26) = W at *; have hc1 := box_cells HX1.out; go_wp2_with (first | (go_at_call 54; refine (H1.out _ HB.out).mono ?_; rintro e w2 ⟨rfl, hb⟩; (try replace hb := drewB hb); replace HB := Lib.hid (HB.out.trans (hb.mono HB.out.size)); (try (replace HX1 := Lib.hid (blk_keep HX1.out hb); replace hc1 := box_cells HX1.out; replace hf1 := box_free HX1.out; replace hz1 := lt_blk HX1.out)); clear hb) | (go_at_call 78; refine (H2.out _ HB.out).mono ?_; rintro e w2 ⟨rfl, hb⟩; (try replace hb := drewB hb); replace HB := Lib.hid (HB.out.trans (hb.mono HB.out.size)); (try (replace HX1 := Lib.hid (blk_keep HX1.out hb); replace hc1 := box_cells HX1.out; replace hf1 := box_free HX1.out; replace hz1 := lt_blk HX1.out)); clear hb) | (go_at_call 79; refine (r8in_any _ _ _ _).mono ?_; rw [HI.out]; rintro e w' ⟨rfl, rfl⟩) | (go_at_call 80; refine (H4.out _ HB.out).mono ?_; rintro e w2 ⟨rfl, hb⟩; (try replace hb := drewB hb); replace HB := Lib.hid (HB.out.trans (hb.mono HB.out.size)); (try (replace HX1 := Lib.hid (blk_keep HX1.out hb); replace hc1 := box_cells HX1.out; replace hf1 := box_free HX1.out; replace hz1 := lt_blk HX1.out)); clear hb) | (go_at_call 81; refine (H5.out _ HB.out).mono ?_; rintro e w2 ⟨rfl, hb⟩; (try replace hb := drewB hb); replace HB := Lib.hid (HB.out.trans (hb.mono HB.out.size)); (try (replace HX1 := Lib.hid (blk_keep HX1.out hb); replace hc1 := box_cells HX1.out; replace hf1 := box_free HX1.out; replace hz1 := lt_blk HX1.out)); clear hb)); go_ret; exact ⟨ret_bool HR.out.symm, HB.out⟩)
  cases h2 : partsB s.parts
  · have HR := Lib.hid (show R = false by rw [HV.out, h2]; simp)
    rw [h1] at H1; rw [h2] at H2
    clear h1 h2 HV
    obtain ⟨b0, hb0⟩ : ∃ b, inB s.version 1 1000000 = b := ⟨_, rfl⟩
    have HI := Lib.hid hb0
    clear hb0
    cases b0 <;> (go_enter Tryz.func41, Tryz.ntmps41; go_upto_region 1 with (fail); generalize w.alloc (.cells #[.int .i64 s.version, .slice q.ab s.bars.length q.cb, .slice q.ap s.parts.length q.cp, .slice q.an s.notes.length q.cn] 26) = W at *; have hc1 := box_cells HX1.out; go_wp2_with (first | (go_at_call 54; refine (H1.out _ HB.out).mono ?_; rintro e w2 ⟨rfl, hb⟩; (try replace hb := drewB hb); replace HB := Lib.hid (HB.out.trans (hb.mono HB.out.size)); (try (replace HX1 := Lib.hid (blk_keep HX1.out hb); replace hc1 := box_cells HX1.out; replace hf1 := box_free HX1.out; replace hz1 := lt_blk HX1.out)); clear hb) | (go_at_call 78; refine (H2.out _ HB.out).mono ?_; rintro e w2 ⟨rfl, hb⟩; (try replace hb := drewB hb); replace HB := Lib.hid (HB.out.trans (hb.mono HB.out.size)); (try (replace HX1 := Lib.hid (blk_keep HX1.out hb); replace hc1 := box_cells HX1.out; replace hf1 := box_free HX1.out; replace hz1 := lt_blk HX1.out)); clear hb) | (go_at_call 79; refine (r8in_any _ _ _ _).mono ?_; rw [HI.out]; rintro e w' ⟨rfl, rfl⟩) | (go_at_call 80; refine (H4.out _ HB.out).mono ?_; rintro e w2 ⟨rfl, hb⟩; (try replace hb := drewB hb); replace HB := Lib.hid (HB.out.trans (hb.mono HB.out.size)); (try (replace HX1 := Lib.hid (blk_keep HX1.out hb); replace hc1 := box_cells HX1.out; replace hf1 := box_free HX1.out; replace hz1 := lt_blk HX1.out)); clear hb) | (go_at_call 81; refine (H5.out _ HB.out).mono ?_; rintro e w2 ⟨rfl, hb⟩; (try replace hb := drewB hb); replace HB := Lib.hid (HB.out.trans (hb.mono HB.out.size)); (try (replace HX1 := Lib.hid (blk_keep HX1.out hb); replace hc1 := box_cells HX1.out; replace hf1 := box_free HX1.out; replace hz1 := lt_blk HX1.out)); clear hb)); go_ret; exact ⟨ret_bool HR.out.symm, HB.out⟩)
  rw [h1] at H1; rw [h2] at H2
  cases h0 : inB s.version 1 1000000
  · have HR := Lib.hid (show R = false by rw [HV.out, h0]; simp)
    have HI := Lib.hid h0
    clear h0 h1 h2 HV
    (go_enter Tryz.func41, Tryz.ntmps41; go_upto_region 1 with (fail); generalize w.alloc (.cells #[.int .i64 s.version, .slice q.ab s.bars.length q.cb, .slice q.ap s.parts.length q.cp, .slice q.an s.notes.length q.cn] 26) = W at *; have hc1 := box_cells HX1.out; go_wp2_with (first | (go_at_call 54; refine (H1.out _ HB.out).mono ?_; rintro e w2 ⟨rfl, hb⟩; (try replace hb := drewB hb); replace HB := Lib.hid (HB.out.trans (hb.mono HB.out.size)); (try (replace HX1 := Lib.hid (blk_keep HX1.out hb); replace hc1 := box_cells HX1.out; replace hf1 := box_free HX1.out; replace hz1 := lt_blk HX1.out)); clear hb) | (go_at_call 78; refine (H2.out _ HB.out).mono ?_; rintro e w2 ⟨rfl, hb⟩; (try replace hb := drewB hb); replace HB := Lib.hid (HB.out.trans (hb.mono HB.out.size)); (try (replace HX1 := Lib.hid (blk_keep HX1.out hb); replace hc1 := box_cells HX1.out; replace hf1 := box_free HX1.out; replace hz1 := lt_blk HX1.out)); clear hb) | (go_at_call 79; refine (r8in_any _ _ _ _).mono ?_; rw [HI.out]; rintro e w' ⟨rfl, rfl⟩) | (go_at_call 80; refine (H4.out _ HB.out).mono ?_; rintro e w2 ⟨rfl, hb⟩; (try replace hb := drewB hb); replace HB := Lib.hid (HB.out.trans (hb.mono HB.out.size)); (try (replace HX1 := Lib.hid (blk_keep HX1.out hb); replace hc1 := box_cells HX1.out; replace hf1 := box_free HX1.out; replace hz1 := lt_blk HX1.out)); clear hb) | (go_at_call 81; refine (H5.out _ HB.out).mono ?_; rintro e w2 ⟨rfl, hb⟩; (try replace hb := drewB hb); replace HB := Lib.hid (HB.out.trans (hb.mono HB.out.size)); (try (replace HX1 := Lib.hid (blk_keep HX1.out hb); replace hc1 := box_cells HX1.out; replace hf1 := box_free HX1.out; replace hz1 := lt_blk HX1.out)); clear hb)); go_ret; exact ⟨ret_bool HR.out.symm, HB.out⟩)
  have HI := Lib.hid h0
  cases h4 : notesB s.bars s.notes
  · have HR := Lib.hid (show R = false by rw [HV.out, h4]; simp)
    rw [h4] at H4
    clear h0 h1 h2 h4 HV
    (go_enter Tryz.func41, Tryz.ntmps41; go_upto_region 1 with (fail); generalize w.alloc (.cells #[.int .i64 s.version, .slice q.ab s.bars.length q.cb, .slice q.ap s.parts.length q.cp, .slice q.an s.notes.length q.cn] 26) = W at *; have hc1 := box_cells HX1.out; go_wp2_with (first | (go_at_call 54; refine (H1.out _ HB.out).mono ?_; rintro e w2 ⟨rfl, hb⟩; (try replace hb := drewB hb); replace HB := Lib.hid (HB.out.trans (hb.mono HB.out.size)); (try (replace HX1 := Lib.hid (blk_keep HX1.out hb); replace hc1 := box_cells HX1.out; replace hf1 := box_free HX1.out; replace hz1 := lt_blk HX1.out)); clear hb) | (go_at_call 78; refine (H2.out _ HB.out).mono ?_; rintro e w2 ⟨rfl, hb⟩; (try replace hb := drewB hb); replace HB := Lib.hid (HB.out.trans (hb.mono HB.out.size)); (try (replace HX1 := Lib.hid (blk_keep HX1.out hb); replace hc1 := box_cells HX1.out; replace hf1 := box_free HX1.out; replace hz1 := lt_blk HX1.out)); clear hb) | (go_at_call 79; refine (r8in_any _ _ _ _).mono ?_; rw [HI.out]; rintro e w' ⟨rfl, rfl⟩) | (go_at_call 80; refine (H4.out _ HB.out).mono ?_; rintro e w2 ⟨rfl, hb⟩; (try replace hb := drewB hb); replace HB := Lib.hid (HB.out.trans (hb.mono HB.out.size)); (try (replace HX1 := Lib.hid (blk_keep HX1.out hb); replace hc1 := box_cells HX1.out; replace hf1 := box_free HX1.out; replace hz1 := lt_blk HX1.out)); clear hb) | (go_at_call 81; refine (H5.out _ HB.out).mono ?_; rintro e w2 ⟨rfl, hb⟩; (try replace hb := drewB hb); replace HB := Lib.hid (HB.out.trans (hb.mono HB.out.size)); (try (replace HX1 := Lib.hid (blk_keep HX1.out hb); replace hc1 := box_cells HX1.out; replace hf1 := box_free HX1.out; replace hz1 := lt_blk HX1.out)); clear hb)); go_ret; exact ⟨ret_bool HR.out.symm, HB.out⟩)
  rw [h4] at H4
  have hpv : ∀ p ∈ s.parts, vldP p.low = true ∧ vldP p.high = true := fun p hp => by
    have := h2
    simp only [partsB, Bool.and_eq_true] at this
    have := List.all_eq_true.1 this.1.1.2 p hp
    simp only [partOk, Bool.and_eq_true] at this
    exact ⟨this.1.1.1.1.2, this.1.1.1.2⟩
  have hnv : ∀ n ∈ s.notes, vldP n.pitch = true := fun n hn => by
    have := h4
    simp only [notesB, Bool.and_eq_true] at this
    exact noteOk_vld (List.all_eq_true.1 this.1.2 n hn)
  have H5 := Lib.hid (fun W (hb : Below w.heap.size w W) => RWrong_any q.ap q.an q.cp q.cn s.parts s.notes W (by have := HF.out.parts; omega) (by have := HF.out.notes; omega) (parts_nodup h2) hpv hnv (HS.out.parts.below hb) (HS.out.notes.below hb))
  have HBef := Lib.hid (fun (x y : No) (hx : x ∈ s.notes) (hy : y ∈ s.notes) W (hb : Below w.heap.size w W) => RBefore_any q.ab q.cb s.bars x y W (by have := HF.out.bars; omega) (HS.out.bars.below hb) (hnv x hx) (hnv y hy))
  by_cases h5 : wrongI s.parts s.notes = 0
  case neg =>
    have HR := Lib.hid (show R = false by rw [HV.out, decide_eq_false h5]; simp)
    have hd : (wrongI s.parts s.notes != 0) = true := by simpa using h5
    clear h0 h1 h2 h4 HV hpv hnv
    generalize wrongI s.parts s.notes = I at *
    (go_enter Tryz.func41, Tryz.ntmps41; go_upto_region 1 with (fail); generalize w.alloc (.cells #[.int .i64 s.version, .slice q.ab s.bars.length q.cb, .slice q.ap s.parts.length q.cp, .slice q.an s.notes.length q.cn] 26) = W at *; have hc1 := box_cells HX1.out; go_wp2_with (first | (go_at_call 54; refine (H1.out _ HB.out).mono ?_; rintro e w2 ⟨rfl, hb⟩; (try replace hb := drewB hb); replace HB := Lib.hid (HB.out.trans (hb.mono HB.out.size)); (try (replace HX1 := Lib.hid (blk_keep HX1.out hb); replace hc1 := box_cells HX1.out; replace hf1 := box_free HX1.out; replace hz1 := lt_blk HX1.out)); clear hb) | (go_at_call 78; refine (H2.out _ HB.out).mono ?_; rintro e w2 ⟨rfl, hb⟩; (try replace hb := drewB hb); replace HB := Lib.hid (HB.out.trans (hb.mono HB.out.size)); (try (replace HX1 := Lib.hid (blk_keep HX1.out hb); replace hc1 := box_cells HX1.out; replace hf1 := box_free HX1.out; replace hz1 := lt_blk HX1.out)); clear hb) | (go_at_call 79; refine (r8in_any _ _ _ _).mono ?_; rw [HI.out]; rintro e w' ⟨rfl, rfl⟩) | (go_at_call 80; refine (H4.out _ HB.out).mono ?_; rintro e w2 ⟨rfl, hb⟩; (try replace hb := drewB hb); replace HB := Lib.hid (HB.out.trans (hb.mono HB.out.size)); (try (replace HX1 := Lib.hid (blk_keep HX1.out hb); replace hc1 := box_cells HX1.out; replace hf1 := box_free HX1.out; replace hz1 := lt_blk HX1.out)); clear hb) | (go_at_call 81; refine (H5.out _ HB.out).mono ?_; rintro e w2 ⟨rfl, hb⟩; (try replace hb := drewB hb); replace HB := Lib.hid (HB.out.trans (hb.mono HB.out.size)); (try (replace HX1 := Lib.hid (blk_keep HX1.out hb); replace hc1 := box_cells HX1.out; replace hf1 := box_free HX1.out; replace hz1 := lt_blk HX1.out)); clear hb)); go_ret; exact ⟨ret_bool HR.out.symm, HB.out⟩)
  have HV2 := Lib.hid (show R = sortedB s.bars s.notes by rw [HV.out, h0, h1, h2, h4, h5]; rfl)
  rw [h5] at H5
  clear h0 h1 h2 h4 h5 HV hpv hnv
  have HBad := Lib.hid (fun m (hm : m + 1 < s.notes.length) h => sorted_bad (bars := s.bars) hm h)
  have HDone := Lib.hid (fun h => sorted_done (bars := s.bars) (l := s.notes) h)
  rw [← HV2.out] at HBad HDone
  clear HV2
  go_enter Tryz.func41, Tryz.ntmps41; go_upto_region 1 with (fail); generalize w.alloc (.cells #[.int .i64 s.version, .slice q.ab s.bars.length q.cb, .slice q.ap s.parts.length q.cp, .slice q.an s.notes.length q.cn] 26) = W at *; have hc1 := box_cells HX1.out
  go_wp2_with (first | (go_at_call 54; refine (H1.out _ HB.out).mono ?_; rintro e w2 ⟨rfl, hb⟩; (try replace hb := drewB hb); replace HB := Lib.hid (HB.out.trans (hb.mono HB.out.size)); (try (replace HX1 := Lib.hid (blk_keep HX1.out hb); replace hc1 := box_cells HX1.out; replace hf1 := box_free HX1.out; replace hz1 := lt_blk HX1.out)); clear hb) | (go_at_call 78; refine (H2.out _ HB.out).mono ?_; rintro e w2 ⟨rfl, hb⟩; (try replace hb := drewB hb); replace HB := Lib.hid (HB.out.trans (hb.mono HB.out.size)); (try (replace HX1 := Lib.hid (blk_keep HX1.out hb); replace hc1 := box_cells HX1.out; replace hf1 := box_free HX1.out; replace hz1 := lt_blk HX1.out)); clear hb) | (go_at_call 79; refine (r8in_any _ _ _ _).mono ?_; rw [HI.out]; rintro e w' ⟨rfl, rfl⟩) | (go_at_call 80; refine (H4.out _ HB.out).mono ?_; rintro e w2 ⟨rfl, hb⟩; (try replace hb := drewB hb); replace HB := Lib.hid (HB.out.trans (hb.mono HB.out.size)); (try (replace HX1 := Lib.hid (blk_keep HX1.out hb); replace hc1 := box_cells HX1.out; replace hf1 := box_free HX1.out; replace hz1 := lt_blk HX1.out)); clear hb) | (go_at_call 81; refine (H5.out _ HB.out).mono ?_; rintro e w2 ⟨rfl, hb⟩; (try replace hb := drewB hb); replace HB := Lib.hid (HB.out.trans (hb.mono HB.out.size)); (try (replace HX1 := Lib.hid (blk_keep HX1.out hb); replace hc1 := box_cells HX1.out; replace hf1 := box_free HX1.out; replace hz1 := lt_blk HX1.out)); clear hb))
  go_loopw [6] (fun i wr => ∃ m : Nat, m ≤ s.notes.length ∧ i = .int .i64 ((m : Int) + 1) ∧ (∀ j (hj : j + 1 < s.notes.length), j < m → beforeB s.bars s.notes[j] s.notes[j + 1] = true) ∧ wr.heap[w.heap.size]? = some (.cells #[.int .i64 s.version, .slice q.ab s.bars.length q.cb, .slice q.ap s.parts.length q.cp, .slice q.an s.notes.length q.cn] 26) ∧ Below w.heap.size w wr) (fun i _ => s.notes.length + 1 - (intOf i).toNat)
  case atStart => exact ⟨0, Nat.zero_le _, rfl, fun j hj h => by omega, HX1.out, HB.out⟩
  case round =>
    clear HB HX1 hc1
    obtain ⟨m, hm, rfl, hall, hx1, hb⟩ := hrel
    have HA := Lib.hid hall; have HX1 := Lib.hid hx1; have HB := Lib.hid hb
    clear hall hx1 hb
    have hc1 := box_cells HX1.out
    have hln := HF.out.notes
    by_cases hlt : m + 1 < s.notes.length
    · obtain ⟨b, off, hqa, _, c0, c1, c2, c3, c4, c5, c6, c7, c8, c9, c10, c11⟩ := HS.out.notes.get m (by omega)
      obtain ⟨b', off', hqb, _, d0, d1, d2, d3, d4, d5, d6, d7, d8, d9, d10, d11⟩ := HS.out.notes.get (m + 1) hlt
      obtain ⟨ab, cb, ap, cp, an, cn⟩ := q
      dsimp only at *
      subst hqa
      cases hqb
      have HC := Lib.hid (HBef.out s.notes[m] s.notes[m + 1] (List.getElem_mem _) (List.getElem_mem _))
      have HBd := Lib.hid (HBad.out m hlt)
      have HOk := Lib.hid (fun h : beforeB s.bars s.notes[m] s.notes[m + 1] = true => (fun j (hj : j + 1 < s.notes.length) (hjm : j < m + 1) => if e : j = m then by subst e; exact h else HA.out j hj (by omega) : ∀ j (hj : j + 1 < s.notes.length), j < m + 1 → beforeB s.bars s.notes[j] s.notes[j + 1] = true))
      generalize s.notes[m] = x at *; generalize s.notes[m + 1] = y at *
      have g0 := cell_regrown (keepE c0 HB.out); have g1 := cell_regrown (keepE c1 HB.out); have g2 := cell_regrown (keepE c2 HB.out); have g3 := cell_regrown (keepE c3 HB.out); have g4 := cell_regrown (keepE c4 HB.out); have g5 := cell_regrown (keepE c5 HB.out); have g6 := cell_regrown (keepE c6 HB.out); have g7 := cell_regrown (keepE c7 HB.out); have g8 := cell_regrown (keepE c8 HB.out); have g9 := cell_regrown (keepE c9 HB.out); have g10 := cell_regrown (keepE c10 HB.out); have g11 := cell_regrown (keepE c11 HB.out)
      have p0 := cell_regrown (keepE d0 HB.out); have p1 := cell_regrown (keepE d1 HB.out); have p2 := cell_regrown (keepE d2 HB.out); have p3 := cell_regrown (keepE d3 HB.out); have p4 := cell_regrown (keepE d4 HB.out); have p5 := cell_regrown (keepE d5 HB.out); have p6 := cell_regrown (keepE d6 HB.out); have p7 := cell_regrown (keepE d7 HB.out); have p8 := cell_regrown (keepE d8 HB.out); have p9 := cell_regrown (keepE d9 HB.out); have p10 := cell_regrown (keepE d10 HB.out); have p11 := cell_regrown (keepE d11 HB.out)
      clear c0 c1 c2 c3 c4 c5 c6 c7 c8 c9 c10 c11 d0 d1 d2 d3 d4 d5 d6 d7 d8 d9 d10 d11
      have k1 := cell_regrown (hc1 1); have k3 := cell_regrown (hc1 3)
      generalize beforeB s.bars x y = Q at *
      have hw1 : IntKind.i64.wrap ((m : Int) + 1 - 1) = (m : Int) := by rw [IntWalk.i64_in _ (by omega)]; omega
      go_wp2
      refine wp_quietB (by kernel_rfl) (by kernel_rfl) ?_
      (repeat (go_big_quiet_step (fail)))
      go_big_quiet_step ((go_at_call 82; refine Calls.regrown_of (HC.out _ (HB.out.trans ((below_regrown _ _ _).mono HB.out.size)))))
      (repeat (go_big_quiet_step (fail)))
      refine wpQuiet_nil ?_
      intro w9 hb9
      replace HB := Lib.hid (HB.out.trans (hb9.mono HB.out.size))
      replace HX1 := Lib.hid (blk_keep HX1.out hb9)
      clear hb9 g0 g1 g2 g3 g4 g5 g6 g7 g8 g9 g10 g11 p0 p1 p2 p3 p4 p5 p6 p7 p8 p9 p10 p11 k1 k3 hc1
      cases Q
      · have HF2 := Lib.hid (HBd.out rfl)
        go_wp2
        go_ret
        exact ⟨ret_bool HF2.out.symm, HB.out⟩
      · have HS2 := Lib.hid (HOk.out rfl)
        go_wp2
        exact ⟨⟨m + 1, by omega, by go_num, HS2.out, HX1.out, HB.out⟩, by simp [intOf]; omega⟩
    · have HF2 := Lib.hid (HDone.out fun j hj => HA.out j hj (by omega))
      go_wp2
      go_ret
      exact ⟨ret_bool HF2.out.symm, HB.out⟩
open Go.RowKit Go.Sort

theorem OwnR.setFar {w : World} {B b j : Nat} {E : TypeId} {sz : Nat} {v : Value} {rows : List (List Value)} (o : OwnR w B E sz v rows) (h : ∀ k, v.ownBlock = some k → k ≠ b) (x : Value) : OwnR (w.setCell ⟨b, j, none⟩ x) B E sz v rows := by
  refine o.kept (row := some b) ⟨rfl, rfl, rfl, by simp, fun k _ hne => heap_setCell_other _ _ _ _ (fun e => hne (by rw [e]))⟩ ?_
  cases hv : v.ownBlock with
  | none => exact .inl rfl
  | some k => exact .inr (fun e => h k hv (by cases e; rfl))
open Go.RowKit Go.Sort

theorem eltWr : Elt Tryz.prog 58 64 10 80 Wr.cells := ⟨Tryz.underlying58, ⟨.agg #[.int .i64 0, .int .i64 0, .int .i64 0, .int .i64 0, .int .i64 0, .int .i64 0, .int .i64 0, .int .i64 0, .int .i64 0, .int .i64 0], by kernel_rfl, rfl⟩, by decide, by decide, fun _ => rfl, fun x u hu => by simp [Wr.cells] at hu; rcases hu with rfl | rfl | rfl | rfl | rfl | rfl | rfl | rfl | rfl | rfl <;> rfl⟩
theorem eltMe : Elt Tryz.prog 28 60 5 56 Me.cells := ⟨Tryz.underlying28, ⟨.agg #[.int .i64 0, .int .i64 0, .int .i64 0, .int .i64 0, .slice none 0 0], by kernel_rfl, rfl⟩, by decide, by decide, fun _ => rfl, fun x u hu => by simp [Me.cells] at hu; rcases hu with rfl | rfl | rfl | rfl | rfl <;> rfl⟩
/-- Rows of different types lie apart. -/
theorem OwnR.apart {w : World} {B B' : Nat} {E E' : TypeId} {sz sz' : Nat} {v v' : Value} {rows rows' : List (List Value)} (o : OwnR w B E sz v rows) (o' : OwnR w B' E' sz' v' rows') (h : E ≠ E') : v.ownBlock = none ∨ v.ownBlock ≠ v'.ownBlock := by
  cases hv : v.ownBlock with
  | none => exact .inl rfl
  | some k =>
    right
    intro e
    obtain ⟨cur, hc⟩ := o.isCells hv
    obtain ⟨cur', hc'⟩ := o'.isCells e.symm
    rw [hc] at hc'
    cases hc'
    exact h rfl
/-- The notes of measures, each a row of the call's own. -/
def OwnMs (w : World) (B : Nat) (ms : List Me) : Prop := ∀ m ∈ ms, OwnR w B 64 10 (.slice m.na m.notes.length m.ncap) (m.notes.map Wr.cells)
theorem OwnMs.below {w w' : World} {B : Nat} {ms : List Me} (h : OwnMs w B ms) (hb : Below w.heap.size w w') : OwnMs w' B ms := fun m hm => (h m hm).below hb
theorem OwnMs.kept {w w' : World} {B B' : Nat} {sz : Nat} {v : Value} {rows : List (List Value)} {ms : List Me} (h : OwnMs w B ms) (o : OwnR w B' 60 sz v rows) (hg : w.grownBy w' v.ownBlock) : OwnMs w' B ms := fun m hm => (h m hm).kept hg ((h m hm).apart o (by decide))
theorem OwnMs.snoc {w : World} {B : Nat} {ms : List Me} {m : Me} (h : OwnMs w B ms) (hm : OwnR w B 64 10 (.slice m.na m.notes.length m.ncap) (m.notes.map Wr.cells)) : OwnMs w B (ms ++ [m]) := fun x hx => by
  rcases List.mem_append.1 hx with hx | hx
  · exact h x hx
  · simp at hx; subst hx; exact hm
theorem OwnMs.setFar {w : World} {B b j : Nat} {ms : List Me} (h : OwnMs w B ms) (hb : b < B) (x : Value) : OwnMs (w.setCell ⟨b, j, none⟩ x) B ms := fun m hm => (h m hm).setFar (fun k hk => by have := ((h m hm).lt k hk).1; omega) x
theorem OwnR.mono {w : World} {B B' : Nat} {E : TypeId} {sz : Nat} {v : Value} {rows : List (List Value)} (o : OwnR w B E sz v rows) (h : B' ≤ B) : OwnR w B' E sz v rows := by
  obtain ⟨h1, h2, h3⟩ := o
  refine ⟨h1, h2, ?_⟩
  rcases h3 with h3 | ⟨g, cap, cur, e, hg, h4⟩
  · exact .inl h3
  · exact .inr ⟨g, cap, cur, e, Nat.le_trans h hg, h4⟩
theorem OwnMs.mono {w : World} {B B' : Nat} {ms : List Me} (h : OwnMs w B ms) (hB : B' ≤ B) : OwnMs w B' ms := fun m hm => (h m hm).mono hB
/-- What is owned lies in memory as measures. -/
theorem OwnMs.meAt {w : World} {B B' : Nat} {ms : List Me} {v : Value} (h : OwnMs w B ms) (o : OwnR w B' 60 5 v (ms.map Me.cells)) : ∃ a cap, v = .slice a ms.length cap ∧ SlOk a ms.length cap ∧ MeAt w a ms := by
  obtain ⟨a, cap, rfl, hok, hs⟩ := o.slAt
  rw [List.length_map] at hok
  refine ⟨a, cap, by rw [List.length_map], hok, hs, fun m hm => ?_, fun m hm => ?_⟩
  · obtain ⟨a', c', e, _, hs'⟩ := (h m hm).slAt
    rw [List.length_map] at e
    cases e; exact hs'
  · obtain ⟨a', c', e, hok', _⟩ := (h m hm).slAt
    rw [List.length_map] at e hok'
    cases e; exact hok'.weak
/-- The same with an error number beside. -/
def RetVE (part : Int) (l : List MeP) (er : Int) (w : World) (e : Ending) (w' : World) : Prop := ∃ a cap ms, e = .returned (.tuple #[.agg #[.int .i64 part, .slice a ms.length cap], .int .i64 er]) ∧ SlOk a ms.length cap ∧ MeAt w' a ms ∧ ms.map Me.says = l ∧ Below w.heap.size w w'
theorem SlAt.keptB {w w' : World} {B : Nat} {S : List Nat} {a : Option Addr} {sz : Nat} {rows : List (List Value)} (h : SlAt w a sz rows) (k : KeepB B S w w') (hB : w.heap.size ≤ B) (hne : ∀ ad, a = some ad → rows ≠ [] → ad.block ∉ S) : SlAt w' a sz rows := fun i r hi => by
  obtain ⟨b, off, e, h1, h2, h3⟩ := h i r hi
  have hn := hne _ e (fun e' => by subst e'; simp at hi)
  exact ⟨b, off, e, Nat.lt_of_lt_of_le h1 k.size, h2, fun j u hu => (World.cell?_of_block (w := w) (k.block b (by omega) hn)).trans (h3 j u hu)⟩
/-- A row of more cells than a block has lies elsewhere. -/
theorem SlAt.small {w : World} {b off sz c : Nat} {rows : List (List Value)} {cs : Array Value} {T : TypeId} {fr : Nat × Nat} (h : SlAt w (some ⟨b, off, none⟩) sz rows) (h0 : rows ≠ []) (hc : w.heap[c]? = some (.cells cs T fr)) (hs : cs.size < sz) : b ≠ c := by
  rintro rfl
  obtain ⟨r, rs, rfl⟩ := List.exists_cons_of_ne_nil h0
  obtain ⟨b', off', e, _, hl, hcl⟩ := h 0 r rfl
  cases e
  have hlt : sz - 1 < r.length := by omega
  have := hcl (sz - 1) r[sz - 1] (by simp [hlt])
  rw [box_cells hc] at this
  have := (Array.getElem?_eq_some_iff.1 this).1
  omega
theorem KeepB.at_ {B : Nat} {S : List Nat} {w w' : World} (k : KeepB B S w w') {b : Nat} {o : Obj} (h : w.heap[b]? = some o) (hb : b < B) (hn : b ∉ S) : w'.heap[b]? = some o := (k.block b hb hn).trans h
theorem KeepB.onBelow {B n : Nat} {S : List Nat} {w0 w w' : World} (k : KeepB B S w w') (h : Below n w0 w) (hB : n ≤ B) (hS : ∀ b ∈ S, n ≤ b) : Below n w0 w' := h.trans (KeepB.below (k.weaken hB fun b hb hlt => by have := hS b hb; omega))
theorem KeepB.andBelow {B : Nat} {S : List Nat} {w w1 w2 : World} (k : KeepB B S w w1) (h : Below w1.heap.size w1 w2) (hB : B ≤ w1.heap.size) : KeepB B S w w2 := k.trans (KeepB.of_below h hB)
theorem set5_at {w : World} {c : Nat} {a0 a1 a2 a3 a4 v0 v1 v2 v3 v4 : Value} {T : TypeId} (h : w.heap[c]? = some (.cells #[a0, a1, a2, a3, a4] T (0, 0))) : (((((w.setCell ⟨c, 0, none⟩ v0).setCell ⟨c, 1, none⟩ v1).setCell ⟨c, 2, none⟩ v2).setCell ⟨c, 3, none⟩ v3).setCell ⟨c, 4, none⟩ v4).heap[c]? = some (.cells #[v0, v1, v2, v3, v4] T (0, 0)) :=
  heap_setCell_same _ _ _ _ _ _ (heap_setCell_same _ _ _ _ _ _ (heap_setCell_same _ _ _ _ _ _ (heap_setCell_same _ _ _ _ _ _ (heap_setCell_same _ _ _ _ _ _ h))))
theorem set1_far {w : World} {b c i : Nat} {o : Obj} (h : w.heap[b]? = some o) (hne : b ≠ c) (v : Value) : (w.setCell ⟨c, i, none⟩ v).heap[b]? = some o := (heap_setCell_other _ _ _ _ (show _ ≠ _ by simpa using hne)).trans h
theorem set5_far {w : World} {b c : Nat} {o : Obj} {v0 v1 v2 v3 v4 : Value} (h : w.heap[b]? = some o) (hne : b ≠ c) : (((((w.setCell ⟨c, 0, none⟩ v0).setCell ⟨c, 1, none⟩ v1).setCell ⟨c, 2, none⟩ v2).setCell ⟨c, 3, none⟩ v3).setCell ⟨c, 4, none⟩ v4).heap[b]? = some o := set1_far (set1_far (set1_far (set1_far (set1_far h hne _) hne _) hne _) hne _) hne _
theorem cell1_far {w : World} {b c i j : Nat} {u : Value} (h : w.cell? ⟨b, j, none⟩ = some u) (hne : b ≠ c) (v : Value) : (w.setCell ⟨c, i, none⟩ v).cell? ⟨b, j, none⟩ = some u := (World.cell?_setCell_other _ _ _ _ (fun e => hne (by cases e; rfl))).trans h
theorem cell5_far {w : World} {b c j : Nat} {u v0 v1 v2 v3 v4 : Value} (h : w.cell? ⟨b, j, none⟩ = some u) (hne : b ≠ c) : (((((w.setCell ⟨c, 0, none⟩ v0).setCell ⟨c, 1, none⟩ v1).setCell ⟨c, 2, none⟩ v2).setCell ⟨c, 3, none⟩ v3).setCell ⟨c, 4, none⟩ v4).cell? ⟨b, j, none⟩ = some u := cell1_far (cell1_far (cell1_far (cell1_far (cell1_far h hne _) hne _) hne _) hne _) hne _
theorem set5_below {n : Nat} {w0 w : World} {c : Nat} {v0 v1 v2 v3 v4 : Value} (h : Below n w0 w) (hc : n ≤ c) : Below n w0 (((((w.setCell ⟨c, 0, none⟩ v0).setCell ⟨c, 1, none⟩ v1).setCell ⟨c, 2, none⟩ v2).setCell ⟨c, 3, none⟩ v3).setCell ⟨c, 4, none⟩ v4) := ((((h.setCell (p := ⟨c, 0, none⟩) hc _).setCell (p := ⟨c, 1, none⟩) hc _).setCell (p := ⟨c, 2, none⟩) hc _).setCell (p := ⟨c, 3, none⟩) hc _).setCell (p := ⟨c, 4, none⟩) hc _
theorem box_drew {w : World} (o : Obj) : Below w.heap.size w (w.alloc o).drew := (below_box o).drew
theorem lt_cell {w : World} {b j : Nat} {v : Value} (h : w.cell? ⟨b, j, none⟩ = some v) : b < w.heap.size := World.block_lt_of_cell? _ _ h
/-- append onto a slice of the call's own, as an operation by itself. -/
theorem oper_appR {P : Program} {w : World} {o : Oper} {a : Act} {K : Act → World → Prop} {Q : Exit → Act → World → Prop} {T E : TypeId} {sz bytes : Nat} {α : Type} {f : α → List Value} (he : Elt P T E sz bytes f)
    (s x : Operand) (ho : o.op = .call { callee := .builtin .append, args := #[s, x], argTypes := #[T, T] })
    (B : Nat) (v : Value) (l : List α) (hs : a.eval s = v) (hown : OwnR w B E sz v (l.map f))
    (ad : Option Addr) (m c : Nat) (news : List α) (hx : a.eval x = .slice ad m c) (hm : m = news.length) (hc0 : ad = none → c = 0) (hnews : SlAt w ad sz (news.map f))
    (hlen : (l.length + news.length) * bytes ≤ 140737488355328) (h63 : l.length + news.length ≤ maxLen) (hbase : B ≤ w.heap.size)
    (h : ∀ v' w', OwnR w' B E sz v' ((l ++ news).map f) → w.grownBy w' v.ownBlock → K (a.put o.dst v') w') : Oper.wp P o a w K Q := by
  obtain ⟨z, hi, hz⟩ := he.info
  obtain ⟨i, hi, hz0, hz1, hz2⟩ := info_parts hi
  subst hm
  have hwn : ∀ r ∈ news.map f, r.length = sz := fun r hr => by obtain ⟨y, _, rfl⟩ := List.mem_map.1 hr; exact he.len y
  have hww : ∀ r ∈ (l ++ news).map f, r.length = sz := fun r hr => by obtain ⟨y, _, rfl⟩ := List.mem_map.1 hr; exact he.len y
  have hown' := hown.own
  rw [List.length_map] at hown'
  cases ad with
  | none =>
    have hn : news = [] := by
      cases news with
      | nil => rfl
      | cons r news => obtain ⟨_, _, e, _⟩ := hnews 0 (f r) rfl; cases e
    subst hn
    obtain rfl := hc0 rfl
    have hrun := run_append_owned_none (P := P) (w := w) B T o.type E i sz he.ty (by rw [hi]) v l.length (l.map f).flatten hown'
    unfold Oper.wp
    simp [execOp, ho, resolve, invoke, builtin, hs, hx, hrun, Result.andThen]
    exact h v w (by rw [List.append_nil]; exact hown) (World.grownBy.refl w _)
  | some ad =>
    have hcell : ∀ j u, (news.map f).flatten[j]? = some u → w.cell? (ad.add j) = some u := by
      intro j u hj
      obtain ⟨i', j', r, g1, _, _⟩ := flat_inv (news.map f) sz hwn j u hj
      obtain ⟨b, off, e, _⟩ := hnews i' r g1
      cases e
      exact hnews.flat j u hj
    refine wp_append_own (P := P) w s x T ho B E i z sz bytes he.ty hi hz0 hz1 hz2 hz he.pos v l.length (l.map f).flatten hs hown' ad news.length c (news.map f).flatten hx (by rw [flat_len _ sz hwn, List.length_map]) hcell
      (oneCell_flat fun r hr u hu => by obtain ⟨y, _, rfl⟩ := List.mem_map.1 hr; exact he.one y u hu) h63 hlen hbase fun v' w' ho' hg _ => h v' w' ⟨hww, by rw [List.length_map, List.length_append, List.map_append, List.flatten_append]; exact ho'⟩ hg
theorem step_of {P : Program} {ops : Array Oper} {o : Oper} {a : Act} {w : World} {K : Act → World → Prop} {Q : Exit → Act → World → Prop} {F : Prop} (hg : o.guard = none) (h : Oper.wp P o a w K Q) : if Region.wanted o (yielded ops a.tmps) = true then Oper.wp P o a w K Q else F := by
  rw [if_pos (by simp [Region.wanted, hg])]; exact h
end Go.Proofs.YtcelciomhngajaaGreatDoor

