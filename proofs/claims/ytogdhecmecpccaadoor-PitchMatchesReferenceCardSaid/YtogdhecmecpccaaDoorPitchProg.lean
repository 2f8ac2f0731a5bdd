/- Contracts of the functions of package pitch that only reckon; the pitches and intervals are whatever they are, the table of naturals lies in memory. -/
import Derived.Test.YtogdhecmecpccaaDoorLib
import Derived.Test.YtogdhecmecpccaaDoorRows
import Derived.Test.YtogdhecmecpccaaDoorPitchLay
namespace Go.Proofs.YtogdhecmecpccaaDoor
set_option linter.unusedSimpArgs false
set_option linter.unusedVariables false
open Go.RowKit Go.Sort

theorem box2 {w w' : World} {A B : Obj} (hb : Below ((w.alloc A).alloc B).heap.size ((w.alloc A).alloc B) w') : w'.heap[w.heap.size]? = some A ∧ w'.heap[w.heap.size + 1]? = some B ∧ Below w.heap.size w w' := by
  have e : (w.alloc A).heap.size = w.heap.size + 1 := by simp
  refine ⟨blk_keep (up_alloc (heap_alloc_new w A) B) hb, blk_keep (e ▸ heap_alloc_new (w.alloc A) B) hb, (((Below.refl _ _).alloc (Nat.le_refl _) _).alloc (by simp) _).trans (hb.mono (by simp; omega))⟩
theorem box3 {w w' : World} {A B C : Obj} (hb : Below (((w.alloc A).alloc B).alloc C).heap.size (((w.alloc A).alloc B).alloc C) w') : w'.heap[w.heap.size]? = some A ∧ w'.heap[w.heap.size + 1]? = some B ∧ w'.heap[w.heap.size + 2]? = some C ∧ Below w.heap.size w w' := by
  have e : (w.alloc A).heap.size = w.heap.size + 1 := by simp
  have e2 : ((w.alloc A).alloc B).heap.size = w.heap.size + 2 := by simp
  refine ⟨blk_keep (up_alloc (up_alloc (heap_alloc_new w A) B) C) hb, blk_keep (up_alloc (e ▸ heap_alloc_new (w.alloc A) B) C) hb, blk_keep (e2 ▸ heap_alloc_new ((w.alloc A).alloc B) C) hb, ((((Below.refl _ _).alloc (Nat.le_refl _) _).alloc (by simp) _).alloc (by simp; omega) _).trans (hb.mono (by simp; omega))⟩
/-- The number of a step. -/
def natI (s : Int) : Int := if 2 < s then 2 * s - 1 else 2 * s
theorem natI_bd (s : Int) (h0 : 0 ≤ s) (h1 : s ≤ 6) : 0 ≤ natI s ∧ natI s ≤ 11 := by unfold natI; split <;> omega
/-- The name of the table of powers of ten, off the row. -/
def powName : String := ((Rows.pitchBetweenRow.laid.map Prod.fst).getD 2 default)
theorem pow_named : Tryd.prog.globalNamed powName = some 4 := by kernel_rfl
theorem var_below {P : Program} {w w' : World} {n : String} {g : Nat} {cs : Array Value} (h : w.var? P n = some cs) (hg : P.globalNamed n = some g) (hb : Below w.heap.size w w') : w'.var? P n = some cs := by
  unfold World.var? at *
  rw [hg] at h ⊢
  simp only [Option.bind_some] at h ⊢
  have hlt : g < w.heap.size := by
    by_cases hlt : g < w.heap.size
    · exact hlt
    · rw [Array.getElem?_eq_none (by omega)] at h; cases h
  rw [hb.block g hlt]; exact h
/-- What lies in memory of the package-level variables that are read. -/
structure Env (w : World) : Prop where
  nat : ∀ j : Nat, j < 7 → w.cell? ⟨0, j, none⟩ = some (.int .i64 (natI j))
  tab : Lib.TabIs Tryd.prog w powName .u64 Lib.pow10Tab
  syn : ∃ ev, w.cell? ⟨2, 0, none⟩ = some ev ∧ (ev = .nilIface ∨ ∃ te pe, ev = .iface te pe)
  rng : ∃ ev, w.cell? ⟨3, 0, none⟩ = some ev ∧ (ev = .nilIface ∨ ∃ te pe, ev = .iface te pe)
theorem Env.lt {w : World} (h : Env w) : 0 < w.heap.size := World.block_lt_of_cell? _ _ (h.nat 0 (by decide))
theorem Env.below {w w' : World} (h : Env w) (hb : Below w.heap.size w w') : Env w' := by
  refine ⟨fun j hj => (hb.cell (p := ⟨0, j, none⟩) h.lt).trans (h.nat j hj), var_below h.tab pow_named hb, ?_, ?_⟩
  · obtain ⟨ev, h1, h2⟩ := h.syn
    exact ⟨ev, (hb.cell (p := ⟨2, 0, none⟩) (World.block_lt_of_cell? _ _ h1)).trans h1, h2⟩
  · obtain ⟨ev, h1, h2⟩ := h.rng
    exact ⟨ev, (hb.cell (p := ⟨3, 0, none⟩) (World.block_lt_of_cell? _ _ h1)).trans h1, h2⟩
theorem Env.drew {w : World} (h : Env w) : Env w.drew := h.below ((Below.refl _ _).drew)

def vldB (s a o : Int) : Bool := inB s 0 6 && inB a (-4) 4 && inB o (-8) 20
def frmB (x y : Int) : Bool := inB x (-70) 70 && inB y (-120) 120
theorem vld_iff (s a o : Int) : vldB s a o = true ↔ (0 ≤ s ∧ s ≤ 6) ∧ (-4 ≤ a ∧ a ≤ 4) ∧ -8 ≤ o ∧ o ≤ 20 := by simp [vldB, inB_iff, and_assoc]
theorem frm_iff (x y : Int) : frmB x y = true ↔ (-70 ≤ x ∧ x ≤ 70) ∧ -120 ≤ y ∧ y ≤ 120 := by simp [frmB, inB_iff, and_assoc]

theorem within_any (n lo hi : Int) (w : World) : Calls Tryd.prog 36 #[.int .i64 n, .int .i64 lo, .int .i64 hi] w fun e w' => e = .returned (.bool (inB n lo hi)) ∧ w = w' := by
  go_enter Tryd.func36, Tryd.ntmps36
  go_wp2
  all_goals (go_ret; exact ⟨by simp [inB, *] <;> omega, rfl⟩)
set_option maxHeartbeats 400000 in
theorem PValid_any (s a o : Int) (w : World) : Calls Tryd.prog 17 #[.agg #[.int .i64 s, .int .i64 a, .int .i64 o]] w fun e w' => e = .returned (.bool (vldB s a o)) ∧ Below w.heap.size w w' := by
  go_enter Tryd.func17, Tryd.ntmps17
  go_wp2_with ((go_at_call 36; refine (within_any _ _ _ _).mono ?_; rintro e w' ⟨rfl, rfl⟩))
  all_goals (go_ret; refine ⟨?_, (Below.refl _ _).alloc (Nat.le_refl _) _⟩; simp_all [vldB])
set_option maxHeartbeats 400000 in
theorem formed_any (x y : Int) (w : World) : Calls Tryd.prog 31 #[.agg #[.int .i64 x, .int .i64 y]] w fun e w' => e = .returned (.bool (frmB x y)) ∧ Below w.heap.size w w' := by
  go_enter Tryd.func31, Tryd.ntmps31
  go_wp2_with ((go_at_call 36; refine (within_any _ _ _ _).mono ?_; rintro e w' ⟨rfl, rfl⟩))
  all_goals (go_ret; refine ⟨?_, (Below.refl _ _).alloc (Nat.le_refl _) _⟩; simp_all [frmB])
theorem place_any (s a o : Int) (w : World) (h0 : -1000 ≤ s) (h1 : s ≤ 1000) (h2 : -1000 ≤ o) (h3 : o ≤ 1000) : Calls Tryd.prog 29 #[.agg #[.int .i64 s, .int .i64 a, .int .i64 o]] w fun e w' => e = .returned (.int .i64 (7 * o + s)) ∧ Below w.heap.size w w' := by
  go_enter Tryd.func29, Tryd.ntmps29
  go_wp2
  go_ret
  exact ⟨rfl, (Below.refl _ _).alloc (Nat.le_refl _) _⟩
set_option maxHeartbeats 400000 in
theorem number_any (s a o : Int) (w : World) (h0 : 0 ≤ s) (h1 : s ≤ 6) (h2 : -1000 ≤ o) (h3 : o ≤ 1000) (h4 : -1000 ≤ a) (h5 : a ≤ 1000) (hE : Env w) : Calls Tryd.prog 30 #[.agg #[.int .i64 s, .int .i64 a, .int .i64 o]] w fun e w' => e = .returned (.int .i64 (12 * o + natI s + a)) ∧ Below w.heap.size w w' := by
  obtain ⟨j, rfl⟩ := Int.eq_ofNat_of_zero_le h0
  have hz := hE.lt
  have hc := hE.nat j (by omega)
  obtain ⟨hn0, hn1⟩ := natI_bd j h0 h1
  have hj : j < 7 := by omega
  generalize natI j = N at *
  go_enter Tryd.func30, Tryd.ntmps30
  go_wp2
  go_quiet (fail)
  go_wp2
  go_ret
  exact ⟨rfl, below_drewN ((Below.refl _ _).alloc (Nat.le_refl _) _) nq⟩
theorem tdm (n : Int) : (n.tmod 7 < 0 → n.tdiv 7 - 1 = n / 7 ∧ n.tmod 7 + 7 = n % 7) ∧ (0 ≤ n.tmod 7 → n.tdiv 7 = n / 7 ∧ n.tmod 7 = n % 7) := by
  have h1 := Int.tmod_add_mul_tdiv n 7
  have h2 : n.tmod 7 < 7 := Int.tmod_lt_of_pos n (by decide)
  have h3 : -7 < n.tmod 7 := by
    have := Int.tmod_lt_of_pos (-n) (show (0 : Int) < 7 by decide)
    rw [Int.neg_tmod] at this; omega
  constructor <;> intro h <;> constructor <;> omega
/-- A quotient rounded down, and what is left. -/
theorem split_any (n : Int) (w : World) (h0 : -100000 ≤ n) (h1 : n ≤ 100000) : Calls Tryd.prog 32 #[.int .i64 n, .int .i64 7] w fun e w' => e = .returned (.tuple #[.int .i64 (n / 7), .int .i64 (n % 7)]) ∧ Below w.heap.size w w' := by
  obtain ⟨t1, t2⟩ := tdm n
  have T1 := Lib.hid t1; have T2 := Lib.hid t2; clear t1 t2
  have b1 : -100000 ≤ n.tdiv 7 := by have := Int.tmod_add_mul_tdiv n 7; have := T1.out; have := T2.out; omega
  have b2 : n.tdiv 7 ≤ 100000 := by have := Int.tmod_add_mul_tdiv n 7; have := T1.out; have := T2.out; omega
  have b3 : -7 ≤ n.tmod 7 := by have := T1.out; have := T2.out; omega
  have b4 : n.tmod 7 ≤ 7 := by have := T1.out; have := T2.out; omega
  go_enter Tryd.func32, Tryd.ntmps32
  go_wp2
  go_quiet (fail)
  go_wp2
  all_goals go_ret2
  · have h : n.tmod 7 < 0 := by assumption
    exact ⟨ret_ii (T1.out h).1 (T1.out h).2, below_drewN (Below.refl _ _) nq⟩
  · have h : 0 ≤ n.tmod 7 := by assumption
    exact ⟨ret_ii (T2.out h).1 (T2.out h).2, below_drewN (Below.refl _ _) nq⟩

def numberR (s a o : Int) : Int × Int := if vldB s a o then (12 * o + natI s + a, 0) else (0, 1)
set_option maxHeartbeats 400000 in
theorem Number_any (s a o : Int) (w : World) (hE : Env w) : Calls Tryd.prog 12 #[.agg #[.int .i64 s, .int .i64 a, .int .i64 o]] w fun e w' => e = .returned (.tuple #[.int .i64 (numberR s a o).1, .int .i64 (numberR s a o).2]) ∧ Below w.heap.size w w' := by
  have HE := Lib.hid hE; clear hE
  cases hv : vldB s a o
  · go_enter Tryd.func12, Tryd.ntmps12
    go_wp2_with ((go_at_call 17; refine (PValid_any _ _ _ _).mono ?_; rintro e w' ⟨rfl, hb⟩; have HX := Lib.hid (box_below hb); have hc := box_cells HX.out; have HB := Lib.hid (((Below.refl _ _).alloc (Nat.le_refl _) _).trans (hb.mono (by simp))); clear hb))
    go_ret2
    exact ⟨ret_ii (by simp [numberR, hv]) (by simp [numberR, hv]), HB.out⟩
  · have hbd := (vld_iff s a o).1 hv
    obtain ⟨⟨p1, p2⟩, ⟨p3, p4⟩, p5, p6⟩ := hbd
    go_enter Tryd.func12, Tryd.ntmps12
    go_wp2_with (first | (go_at_call 17; refine (PValid_any _ _ _ _).mono ?_; rintro e w' ⟨rfl, hb⟩; have HX := Lib.hid (box_below hb); have hc := box_cells HX.out; have HB := Lib.hid (((Below.refl _ _).alloc (Nat.le_refl _) _).trans (hb.mono (by simp))); clear hb) | (go_at_call 30; refine (number_any _ _ _ _ (by omega) (by omega) (by omega) (by omega) (by omega) (by omega) (HE.out.below HB.out)).mono ?_; rintro e w2 ⟨rfl, hb⟩; replace HB := Lib.hid (HB.out.trans (hb.mono HB.out.size)); clear hb))
    go_ret2
    exact ⟨ret_ii (by simp [numberR, hv]) (by simp [numberR, hv]), HB.out⟩
def checkedR (x y : Int) : Int × Int × Int := if frmB x y then (x, y, 0) else (0, 0, 3)
set_option maxHeartbeats 400000 in
theorem checked_any (x y : Int) (w : World) : Calls Tryd.prog 28 #[.agg #[.int .i64 x, .int .i64 y]] w fun e w' => e = .returned (.tuple #[.agg #[.int .i64 (checkedR x y).1, .int .i64 (checkedR x y).2.1], .int .i64 (checkedR x y).2.2]) ∧ Below w.heap.size w w' := by
  cases hv : frmB x y
  · rw [show checkedR x y = (0, 0, 3) by simp [checkedR, hv]]
    go_enter Tryd.func28, Tryd.ntmps28
    go_wp2_with (go_at_call 31; refine (formed_any _ _ _).mono ?_; rintro e w' ⟨rfl, hb⟩; obtain ⟨x1, x2, hb'⟩ := box2 hb; have HX1 := Lib.hid x1; have HX2 := Lib.hid x2; have hc1 := box_cells x1; have hc2 := box_cells x2; have hf2 := box_free x2; have HB := Lib.hid hb'; clear hb hb' x1 x2)
    exact bodyPost_ret (v := .tuple #[.agg #[.int .i64 0, .int .i64 0], .int .i64 3]) (by simp [results, Tryd.results28, go_sem, hc2, hf2]) rfl ⟨rfl, (HB.out.setCell (by simp <;> omega) _).setCell (by simp <;> omega) _⟩
  · rw [show checkedR x y = (x, y, 0) by simp [checkedR, hv]]
    go_enter Tryd.func28, Tryd.ntmps28
    go_wp2_with (go_at_call 31; refine (formed_any _ _ _).mono ?_; rintro e w' ⟨rfl, hb⟩; obtain ⟨x1, x2, hb'⟩ := box2 hb; have HX1 := Lib.hid x1; have HX2 := Lib.hid x2; have hc1 := box_cells x1; have hc2 := box_cells x2; have hf2 := box_free x2; have HB := Lib.hid hb'; clear hb hb' x1 x2)
    exact bodyPost_ret (v := .tuple #[.agg #[.int .i64 x, .int .i64 y], .int .i64 0]) (by simp [results, Tryd.results28, go_sem, hc2, hf2]) rfl ⟨rfl, (HB.out.setCell (by simp <;> omega) _).setCell (by simp <;> omega) _⟩
def backR (x y : Int) : Int × Int × Int := if frmB x y then (-x, -y, 0) else (0, 0, 1)
set_option maxHeartbeats 400000 in
theorem Back_any (x y : Int) (w : World) : Calls Tryd.prog 16 #[.agg #[.int .i64 x, .int .i64 y]] w fun e w' => e = .returned (.tuple #[.agg #[.int .i64 (backR x y).1, .int .i64 (backR x y).2.1], .int .i64 (backR x y).2.2]) ∧ Below w.heap.size w w' := by
  cases hv : frmB x y
  · rw [show backR x y = (0, 0, 1) by simp [backR, hv]]
    go_enter Tryd.func16, Tryd.ntmps16
    go_wp2_with (go_at_call 31; refine (formed_any _ _ _).mono ?_; rintro e w' ⟨rfl, hb⟩; obtain ⟨x1, x2, hb'⟩ := box2 hb; have HX1 := Lib.hid x1; have HX2 := Lib.hid x2; have hc1 := box_cells x1; have hc2 := box_cells x2; have hf2 := box_free x2; have HB := Lib.hid hb'; clear hb hb' x1 x2)
    exact bodyPost_ret (v := .tuple #[.agg #[.int .i64 0, .int .i64 0], .int .i64 1]) (by simp [results, Tryd.results16, go_sem, hc2, hf2]) rfl ⟨rfl, (HB.out.setCell (by simp <;> omega) _).setCell (by simp <;> omega) _⟩
  · rw [show backR x y = (-x, -y, 0) by simp [backR, hv]]
    obtain ⟨⟨p1, p2⟩, p3, p4⟩ := (frm_iff x y).1 hv
    go_enter Tryd.func16, Tryd.ntmps16
    go_wp2_with (go_at_call 31; refine (formed_any _ _ _).mono ?_; rintro e w' ⟨rfl, hb⟩; obtain ⟨x1, x2, hb'⟩ := box2 hb; have HX1 := Lib.hid x1; have HX2 := Lib.hid x2; have hc1 := box_cells x1; have hc2 := box_cells x2; have hf2 := box_free x2; have HB := Lib.hid hb'; clear hb hb' x1 x2)
    exact bodyPost_ret (v := .tuple #[.agg #[.int .i64 (-x), .int .i64 (-y)], .int .i64 0]) (by simp [results, Tryd.results16, go_sem, hc2, hf2]) rfl ⟨rfl, (HB.out.setCell (by simp <;> omega) _).setCell (by simp <;> omega) _⟩
def joinR (x y x' y' : Int) : Int × Int × Int := if frmB x y && frmB x' y' then checkedR (x + x') (y + y') else (0, 0, 1)
set_option maxHeartbeats 1000000 in
theorem Join_any (x y x' y' : Int) (w : World) : Calls Tryd.prog 18 #[.agg #[.int .i64 x, .int .i64 y], .agg #[.int .i64 x', .int .i64 y']] w fun e w' => e = .returned (.tuple #[.agg #[.int .i64 (joinR x y x' y').1, .int .i64 (joinR x y x' y').2.1], .int .i64 (joinR x y x' y').2.2]) ∧ Below w.heap.size w w' := by
  cases hv : frmB x y
  · rw [show joinR x y x' y' = (0, 0, 1) by simp [joinR, hv]]
    go_enter Tryd.func18, Tryd.ntmps18
    go_wp2_with (go_at_call 31; refine (formed_any _ _ _).mono ?_; rintro e w' ⟨rfl, hb⟩; obtain ⟨x1, x2, x3, hb'⟩ := box3 hb; have HX1 := Lib.hid x1; have HX2 := Lib.hid x2; have HX3 := Lib.hid x3; have hc1 := box_cells x1; have hc2 := box_cells x2; have hc3 := box_cells x3; have hf3 := box_free x3; have HB := Lib.hid hb'; clear hb hb' x1 x2 x3)
    exact bodyPost_ret (v := .tuple #[.agg #[.int .i64 0, .int .i64 0], .int .i64 1]) (by simp [results, Tryd.results18, go_sem, hc3, hf3]) rfl ⟨rfl, (HB.out.setCell (by simp <;> omega) _).setCell (by simp <;> omega) _⟩
  · obtain ⟨⟨p1, p2⟩, p3, p4⟩ := (frm_iff x y).1 hv
    cases hv' : frmB x' y'
    · rw [show joinR x y x' y' = (0, 0, 1) by simp [joinR, hv']]
      go_enter Tryd.func18, Tryd.ntmps18
      go_wp2_with (fail)
      refine (formed_any _ _ _).mono ?_; rintro e w' ⟨rfl, hb⟩; obtain ⟨x1, x2, x3, hb'⟩ := box3 hb; have HX1 := Lib.hid x1; have HX2 := Lib.hid x2; have HX3 := Lib.hid x3; have hc1 := box_cells x1; have hc2 := box_cells x2; have hc3 := box_cells x3; have hf3 := box_free x3; have HB := Lib.hid hb'; clear hb hb' x1 x2 x3
      go_wp2_with (fail)
      refine (formed_any _ _ _).mono ?_; rintro e w' ⟨rfl, hb⟩; replace HB := Lib.hid (HB.out.trans (hb.mono HB.out.size)); replace HX1 := Lib.hid (blk_keep HX1.out hb); replace HX2 := Lib.hid (blk_keep HX2.out hb); replace HX3 := Lib.hid (blk_keep HX3.out hb); replace hc1 := box_cells HX1.out; replace hc2 := box_cells HX2.out; replace hc3 := box_cells HX3.out; replace hf3 := box_free HX3.out; clear hb
      go_wp2
      exact bodyPost_ret (v := .tuple #[.agg #[.int .i64 0, .int .i64 0], .int .i64 1]) (by simp [results, Tryd.results18, go_sem, hc3, hf3]) rfl ⟨rfl, (HB.out.setCell (by simp <;> omega) _).setCell (by simp <;> omega) _⟩
    · rw [show joinR x y x' y' = checkedR (x + x') (y + y') by simp [joinR, hv, hv']]
      obtain ⟨⟨q1, q2⟩, q3, q4⟩ := (frm_iff x' y').1 hv'
      generalize hR : checkedR (x + x') (y + y') = R
      have HR := Lib.hid hR; clear hR
      go_enter Tryd.func18, Tryd.ntmps18
      go_wp2_with (fail)
      refine (formed_any _ _ _).mono ?_; rintro e w' ⟨rfl, hb⟩; obtain ⟨x1, x2, x3, hb'⟩ := box3 hb; have HX1 := Lib.hid x1; have HX2 := Lib.hid x2; have HX3 := Lib.hid x3; have hc1 := box_cells x1; have hc2 := box_cells x2; have hc3 := box_cells x3; have hf3 := box_free x3; have HB := Lib.hid hb'; clear hb hb' x1 x2 x3
      go_wp2_with (fail)
      refine (formed_any _ _ _).mono ?_; rintro e w' ⟨rfl, hb⟩; replace HB := Lib.hid (HB.out.trans (hb.mono HB.out.size)); replace HX1 := Lib.hid (blk_keep HX1.out hb); replace HX2 := Lib.hid (blk_keep HX2.out hb); replace HX3 := Lib.hid (blk_keep HX3.out hb); replace hc1 := box_cells HX1.out; replace hc2 := box_cells HX2.out; replace hc3 := box_cells HX3.out; replace hf3 := box_free HX3.out; clear hb
      go_wp2_with (fail)
      refine (checked_any _ _ _).mono ?_; rw [HR.out]; rintro e w' ⟨rfl, hb⟩; replace HB := Lib.hid (HB.out.trans (hb.mono HB.out.size)); replace HX1 := Lib.hid (blk_keep HX1.out hb); replace HX2 := Lib.hid (blk_keep HX2.out hb); replace HX3 := Lib.hid (blk_keep HX3.out hb); replace hc1 := box_cells HX1.out; replace hc2 := box_cells HX2.out; replace hc3 := box_cells HX3.out; replace hf3 := box_free HX3.out; clear hb
      go_wp2
      exact bodyPost_ret (v := .tuple #[.agg #[.int .i64 R.1, .int .i64 R.2.1], .int .i64 R.2.2]) (by simp [results, Tryd.results18, go_sem, hc3, hf3]) rfl ⟨rfl, (HB.out.setCell (by simp <;> omega) _).setCell (by simp <;> omega) _⟩

end Go.Proofs.YtogdhecmecpccaaDoor
