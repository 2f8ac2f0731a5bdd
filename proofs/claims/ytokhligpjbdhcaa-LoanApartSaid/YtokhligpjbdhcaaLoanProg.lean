/- Contracts of the functions of package loan: kinds, formed, add. -/
import Derived.Test.YtokhligpjbdhcaaLoanRef4
import Derived.Test.YtokhligpjbdhcaaMaps
import Derived.Laws.EntriesVeiled
import Derived.Shelf.Abstract
namespace Go.Proofs.Ytokhligpjbdhcaa
set_option linter.unusedSimpArgs false
set_option linter.unusedVariables false
open Go.RowKit Go.Sort

theorem keyI : KeyOk Try.prog 3 (fun n : Int => Value.int .i64 n) := keyInt Try.underlying3
theorem within_any (n lo hi : Int) (w : World) :
    Calls Try.prog 45 #[.int .i64 n, .int .i64 lo, .int .i64 hi] w fun e w' => e = .returned (.bool (inB n lo hi)) ∧ w = w' := by
  go_enter Try.func45, Try.ntmps45
  go_wp2
  all_goals (go_ret; exact ⟨by simp [inB, *] <;> omega, rfl⟩)
theorem isTime_any (n : Int) (w : World) : Calls Try.prog 33 #[.int .i64 n] w fun e w' => e = .returned (.bool (inB n 0 1000000000)) ∧ w = w' := by
  go_enter Try.func33, Try.ntmps33
  go_wp2_with (go_at_call 45; refine (within_any _ _ _ _).mono ?_; rintro e w' ⟨rfl, rfl⟩)
  go_ret
  exact ⟨rfl, rfl⟩
theorem isID_any (n : Int) (w : World) : Calls Try.prog 32 #[.int .i64 n] w fun e w' => e = .returned (.bool (inB n 1 1000000)) ∧ w = w' := by
  go_enter Try.func32, Try.ntmps32
  go_wp2_with (go_at_call 45; refine (within_any _ _ _ _).mono ?_; rintro e w' ⟨rfl, rfl⟩)
  go_ret
  exact ⟨rfl, rfl⟩

/-- The kinds of loans, as a map. -/
def kindsM : List (Int × Value) := [(1, .agg #[.func (.func 49) #[] #[], .bool false]), (2, .agg #[.func (.func 50) #[] #[], .bool true]), (3, .agg #[.func (.func 51) #[] #[], .bool false])]
abbrev encI (n : Int) : Value := .int .i64 n
/-- A map that the call has made. -/
def NewMap (m : List (Int × Value)) (w : World) (e : Ending) (w' : World) : Prop := ∃ r, e = .returned (.map (some r)) ∧ MapAt w' encI r m ∧ Below w.heap.size w w' ∧ w.heap.size ≤ r
set_option maxHeartbeats 400000 in
theorem kinds_any (w : World) : Calls Try.prog 43 #[] w (NewMap kindsM w) := by
  have hmm := @run_makeMap Try.prog
  go_enter Try.func43, Try.ntmps43
  go_wp2_with (first | (refine wpList_mapUpdate_at rfl (.tmp 1) _ (.tmp 2) _ (.inr rfl) Try.underlying68 keyI w.heap.size [] rfl (MapAt.new w encI) 1 rfl _ rfl ?_; intro w1 hm1 hg1) | (refine wpList_mapUpdate_at rfl (.tmp 1) _ (.tmp 3) _ (.inr rfl) Try.underlying68 keyI w.heap.size _ rfl hm1 2 rfl _ rfl ?_; intro w2 hm2 hg2) | (refine wpList_mapUpdate_at rfl (.tmp 1) _ (.tmp 4) _ (.inr rfl) Try.underlying68 keyI w.heap.size _ rfl hm2 3 rfl _ rfl ?_; intro w3 hm3 hg3))
  go_ret
  exact ⟨_, rfl, hm3, ((((Below.refl _ _).alloc (Nat.le_refl _) _).grown hg1 (by simp) (fun k e => by cases e; exact Nat.le_refl _)).grown hg2 (by have := hg1.size; simp at this; omega) (fun k e => by cases e; exact Nat.le_refl _)).grown hg3 (by have := hg1.size; have := hg2.size; simp at *; omega) (fun k e => by cases e; exact Nat.le_refl _), Nat.le_refl _⟩

set_option maxHeartbeats 400000 in
theorem kind1_any (t k s st h : Int) (w : World) :
    Calls Try.prog 49 #[.agg #[.int .i64 t, .int .i64 k, .int .i64 s, .int .i64 st, .int .i64 h]] w fun e w' => e = .returned (.bool (inB st 1 1000000 && h == 0)) ∧ Below w.heap.size w w' := by
  go_enter Try.func49, Try.ntmps49
  go_wp2_with (go_at_call 32; refine (isID_any _ _).mono ?_; rintro e w' ⟨rfl, rfl⟩)
  all_goals go_ret
  all_goals (refine ⟨ret_bool ?_, (Below.refl _ _).alloc (Nat.le_refl _) _⟩; go_tidy; simp_all)
set_option maxHeartbeats 400000 in
theorem kind2_any (t k s st h : Int) (w : World) :
    Calls Try.prog 50 #[.agg #[.int .i64 t, .int .i64 k, .int .i64 s, .int .i64 st, .int .i64 h]] w fun e w' => e = .returned (.bool (st == 0 && h == 0)) ∧ Below w.heap.size w w' := by
  go_enter Try.func50, Try.ntmps50
  go_wp2
  all_goals go_ret
  all_goals (refine ⟨ret_bool ?_, (Below.refl _ _).alloc (Nat.le_refl _) _⟩; go_tidy; simp_all)
set_option maxHeartbeats 400000 in
theorem kind3_any (t k s st h : Int) (w : World) :
    Calls Try.prog 51 #[.agg #[.int .i64 t, .int .i64 k, .int .i64 s, .int .i64 st, .int .i64 h]] w fun e w' => e = .returned (.bool (st == 0 && inB h 0 99)) ∧ Below w.heap.size w w' := by
  go_enter Try.func51, Try.ntmps51
  go_wp2_with (go_at_call 45; refine (within_any _ _ _ _).mono ?_; rintro e w' ⟨rfl, rfl⟩)
  all_goals go_ret
  all_goals (refine ⟨ret_bool ?_, (Below.refl _ _).alloc (Nat.le_refl _) _⟩; go_tidy; simp_all)

theorem zeroKind (w : World) : (zeroValue 66).run Try.prog w = .ok (.agg #[.nilFunc, .bool false]) w := by kernel_rfl
theorem kindsM_get (k : Int) : (mget kindsM k = some (.agg #[.func (.func 49) #[] #[], .bool false]) ∧ k = 1) ∨ (mget kindsM k = some (.agg #[.func (.func 50) #[] #[], .bool true]) ∧ k = 2) ∨
    (mget kindsM k = some (.agg #[.func (.func 51) #[] #[], .bool false]) ∧ k = 3) ∨ (mget kindsM k = none ∧ k ≠ 1 ∧ k ≠ 2 ∧ k ≠ 3) := by
  by_cases h1 : k = 1
  · subst h1; exact .inl ⟨rfl, rfl⟩
  by_cases h2 : k = 2
  · subst h2; exact .inr (.inl ⟨rfl, rfl⟩)
  by_cases h3 : k = 3
  · subst h3; exact .inr (.inr (.inl ⟨rfl, rfl⟩))
  refine .inr (.inr (.inr ⟨?_, h1, h2, h3⟩))
  unfold kindsM
  rw [mget_cons, mget_cons, mget_cons, mget_nil, if_neg (Ne.symm h1), if_neg (Ne.symm h2), if_neg (Ne.symm h3)]
/-- What loans.kinds says of a kind. -/
def kindV (k : Int) : Value := (mget kindsM k).getD (.agg #[.nilFunc, .bool false])
def kindB (k : Int) : Bool := (mget kindsM k).isSome
theorem kind_look {W : World} {r : Nat} (hm : MapAt W encI r kindsM) (k : Int) : (Instr.lookup 68 (.map (some r)) (.int .i64 k) true).run Try.prog W = .ok (.tuple #[kindV k, .bool (kindB k)]) W := run_lookup_at Try.underlying68 keyI zeroKind hm k true
theorem kind_look1 {W : World} {r : Nat} (hm : MapAt W encI r kindsM) (k : Int) : (Instr.lookup 68 (.map (some r)) (.int .i64 k) false).run Try.prog W = .ok (kindV k) W := run_lookup_at Try.underlying68 keyI zeroKind hm k false

set_option maxRecDepth 100000 in
set_option maxHeartbeats 1000000 in
theorem formed_ok (t k s st h : Int) (w : World) (g : Nat) (b gv : Bool) (eg : ∀ args w, (callFunc g args).run Try.prog w = .ok (.enter g args) w) (hG : ∀ W, Calls Try.prog g #[.agg #[.int .i64 t, .int .i64 k, .int .i64 s, .int .i64 st, .int .i64 h]] W fun e w' => e = .returned (.bool gv) ∧ Below W.heap.size W w')
    (hform : loanOk ⟨t, k, s, st, h⟩ = (inB t 0 1000000000 && inB s 1 1000000 && gv)) (hkv : kindV k = .agg #[.func (.func g) #[] #[], .bool b]) (hkb : kindB k = true) :
    Calls Try.prog 27 #[.agg #[.int .i64 t, .int .i64 k, .int .i64 s, .int .i64 st, .int .i64 h]] w fun e w' => e = .returned (.bool (loanOk ⟨t, k, s, st, h⟩)) ∧ Below w.heap.size w w' := by
  obtain ⟨w0, hw0⟩ : ∃ w0, w0 = w.alloc (.cells #[.int .i64 t, .int .i64 k, .int .i64 s, .int .i64 st, .int .i64 h] 24) := ⟨_, rfl⟩
  have hB0 : Below w.heap.size w w0 := by rw [hw0]; exact (Below.refl _ _).alloc (Nat.le_refl _) _
  have hX0 : w0.heap[w.heap.size]? = some (.cells #[.int .i64 t, .int .i64 k, .int .i64 s, .int .i64 st, .int .i64 h] 24) := by rw [hw0]; exact heap_alloc_new _ _
  have HG := Lib.hid hG; clear hG
  have HF := Lib.hid hform; clear hform
  have HKV := Lib.hid hkv; clear hkv
  have HKB := Lib.hid hkb; clear hkb
  have HBB := Lib.hid hB0; clear hB0
  go_enter Try.func27, Try.ntmps27
  go_wp2
  rw [← hw0]
  clear hw0
  have hc := box_cells hX0
  have hlt0 := lt_of_block hX0
  have hne0 : ¬ w0.heap.size = w.heap.size := Nat.ne_of_gt hlt0
  have HX0 := Lib.hid hX0; clear hX0
  go_region_held3 (fun w' => w'.cell? ⟨w.heap.size, 1, none⟩ = some (.int .i64 k)) (first | (simp [hc]; done) | (simp [hc2]; done) | (simp [hc, World.cell?_alloc_some, World.cell?_setCell_far, hne0]; done) | (simp [hc2, World.cell?_alloc_some, World.cell?_setCell_far, hne0]; done)) (first | (go_at_call 43; refine (kinds_any _).mono ?_; rintro e w2 ⟨r, rfl, hm, hb, hr⟩; have HX2 := Lib.hid (blk_keep2 HX0.out (by first | exact (Below.refl _ _).drew | exact ((Below.refl _ _).alloc (Nat.le_refl _) _).drew) hb); have hc2 := box_cells HX2.out; have hlt2 := lt_of_block HX2.out; (first | (have HX3 := Lib.hid (show w2.heap[w0.heap.size]? = some (.cells #[.nilFunc, .bool false] 66) from blk_keep2 (heap_alloc_new w0 _) (Below.refl _ _).drew hb); have hc3 := box_cells HX3.out; have hf3 := box_free HX3.out; have hlt3 := lt_of_block HX3.out) | skip); have hk1 := kind_look hm k; rw [HKV.out, HKB.out] at hk1; have hk2 := fun o => kind_look (hm.below ((Below.refl _ _).alloc (Nat.le_refl _) o)) k; simp only [HKV.out, HKB.out] at hk2; have HM := Lib.hid hm; clear hm; have HBW := Lib.hid (HBB.out.trans ((Below.trans (show Below w0.heap.size w0 _ by first | exact (Below.refl _ _).drew | exact ((Below.refl _ _).alloc (Nat.le_refl _) _).drew) (hb.mono (by simp))).mono HBB.out.size)); clear hb hr))
  all_goals go_wp2_with (first | (go_at_call 33; refine (isTime_any _ _).mono ?_; rintro e w' ⟨rfl, rfl⟩) | (go_at_call 32; refine (isID_any _ _).mono ?_; rintro e w' ⟨rfl, rfl⟩) | (go_at_fn g; refine (HG.out _).mono ?_; rintro e w3 ⟨rfl, hb⟩; have HB3 := Lib.hid hb; clear hb))
  all_goals go_ret
  all_goals refine ⟨ret_bool ?_, ?_⟩
  all_goals first | (rw [HF.out]; go_tidy; simp_all; done) | exact HBW.out.alloc HBW.out.size _ | exact (HBW.out.setCell (p := ⟨w0.heap.size, 0, none⟩) HBB.out.size _).setCell (p := ⟨w0.heap.size, 1, none⟩) HBB.out.size _ | exact (HBW.out.alloc HBW.out.size _).trans (HB3.out.mono (HBW.out.alloc HBW.out.size _).size) | exact ((HBW.out.setCell (p := ⟨w0.heap.size, 0, none⟩) HBB.out.size _).setCell (p := ⟨w0.heap.size, 1, none⟩) HBB.out.size _).trans (HB3.out.mono ((HBW.out.setCell (p := ⟨w0.heap.size, 0, none⟩) HBB.out.size _).setCell (p := ⟨w0.heap.size, 1, none⟩) HBB.out.size _).size)

set_option maxRecDepth 100000 in
set_option maxHeartbeats 1000000 in
theorem formed_bad (t k s st h : Int) (w : World)
    (hform : loanOk ⟨t, k, s, st, h⟩ = false) (hkv : kindV k = .agg #[.nilFunc, .bool false]) (hkb : kindB k = false) :
    Calls Try.prog 27 #[.agg #[.int .i64 t, .int .i64 k, .int .i64 s, .int .i64 st, .int .i64 h]] w fun e w' => e = .returned (.bool (loanOk ⟨t, k, s, st, h⟩)) ∧ Below w.heap.size w w' := by
  obtain ⟨w0, hw0⟩ : ∃ w0, w0 = w.alloc (.cells #[.int .i64 t, .int .i64 k, .int .i64 s, .int .i64 st, .int .i64 h] 24) := ⟨_, rfl⟩
  have hB0 : Below w.heap.size w w0 := by rw [hw0]; exact (Below.refl _ _).alloc (Nat.le_refl _) _
  have hX0 : w0.heap[w.heap.size]? = some (.cells #[.int .i64 t, .int .i64 k, .int .i64 s, .int .i64 st, .int .i64 h] 24) := by rw [hw0]; exact heap_alloc_new _ _
  have HF := Lib.hid hform; clear hform
  have HKV := Lib.hid hkv; clear hkv
  have HKB := Lib.hid hkb; clear hkb
  have HBB := Lib.hid hB0; clear hB0
  go_enter Try.func27, Try.ntmps27
  go_wp2
  rw [← hw0]
  clear hw0
  have hc := box_cells hX0
  have hlt0 := lt_of_block hX0
  have hne0 : ¬ w0.heap.size = w.heap.size := Nat.ne_of_gt hlt0
  have HX0 := Lib.hid hX0; clear hX0
  go_region_held3 (fun w' => w'.cell? ⟨w.heap.size, 1, none⟩ = some (.int .i64 k)) (first | (simp [hc]; done) | (simp [hc2]; done) | (simp [hc, World.cell?_alloc_some, World.cell?_setCell_far, hne0]; done) | (simp [hc2, World.cell?_alloc_some, World.cell?_setCell_far, hne0]; done)) (first | (go_at_call 43; refine (kinds_any _).mono ?_; rintro e w2 ⟨r, rfl, hm, hb, hr⟩; have HX2 := Lib.hid (blk_keep2 HX0.out (by first | exact (Below.refl _ _).drew | exact ((Below.refl _ _).alloc (Nat.le_refl _) _).drew) hb); have hc2 := box_cells HX2.out; have hlt2 := lt_of_block HX2.out; (first | (have HX3 := Lib.hid (show w2.heap[w0.heap.size]? = some (.cells #[.nilFunc, .bool false] 66) from blk_keep2 (heap_alloc_new w0 _) (Below.refl _ _).drew hb); have hc3 := box_cells HX3.out; have hf3 := box_free HX3.out; have hlt3 := lt_of_block HX3.out) | skip); have hk1 := kind_look hm k; rw [HKV.out, HKB.out] at hk1; have hk2 := fun o => kind_look (hm.below ((Below.refl _ _).alloc (Nat.le_refl _) o)) k; simp only [HKV.out, HKB.out] at hk2; have HM := Lib.hid hm; clear hm; have HBW := Lib.hid (HBB.out.trans ((Below.trans (show Below w0.heap.size w0 _ by first | exact (Below.refl _ _).drew | exact ((Below.refl _ _).alloc (Nat.le_refl _) _).drew) (hb.mono (by simp))).mono HBB.out.size)); clear hb hr))
  all_goals go_wp2
  all_goals go_ret
  all_goals refine ⟨ret_bool HF.out.symm, ?_⟩
  all_goals first | exact HBW.out.alloc HBW.out.size _ | exact (HBW.out.setCell (p := ⟨w0.heap.size, 0, none⟩) HBB.out.size _).setCell (p := ⟨w0.heap.size, 1, none⟩) HBB.out.size _

theorem loanOk_k (t k s st h : Int) : loanOk ⟨t, k, s, st, h⟩ = (inB t 0 1000000000 && inB s 1 1000000 && (if k == 1 then inB st 1 1000000 && h == 0 else if k == 2 then st == 0 && h == 0 else if k == 3 then st == 0 && inB h 0 99 else false)) := rfl
theorem formed_any (t k s st h : Int) (w : World) :
    Calls Try.prog 27 #[.agg #[.int .i64 t, .int .i64 k, .int .i64 s, .int .i64 st, .int .i64 h]] w fun e w' => e = .returned (.bool (loanOk ⟨t, k, s, st, h⟩)) ∧ Below w.heap.size w w' := by
  rcases kindsM_get k with ⟨e, rfl⟩ | ⟨e, rfl⟩ | ⟨e, rfl⟩ | ⟨e, h1, h2, h3⟩
  · exact formed_ok t 1 s st h w 49 false _ (enters_of Try.func49 (by kernel_rfl) rfl) (fun W => kind1_any t 1 s st h W) (loanOk_k t 1 s st h) (by unfold kindV; rw [e]; rfl) (by unfold kindB; rw [e]; rfl)
  · exact formed_ok t 2 s st h w 50 true _ (enters_of Try.func50 (by kernel_rfl) rfl) (fun W => kind2_any t 2 s st h W) (loanOk_k t 2 s st h) (by unfold kindV; rw [e]; rfl) (by unfold kindB; rw [e]; rfl)
  · exact formed_ok t 3 s st h w 51 false _ (enters_of Try.func51 (by kernel_rfl) rfl) (fun W => kind3_any t 3 s st h W) (loanOk_k t 3 s st h) (by unfold kindV; rw [e]; rfl) (by unfold kindB; rw [e]; rfl)
  · refine formed_bad t k s st h w ?_ (by unfold kindV; rw [e]; rfl) (by unfold kindB; rw [e]; rfl)
    rw [loanOk_k]
    have e1 : (k == 1) = false := by simpa using h1
    have e2 : (k == 2) = false := by simpa using h2
    have e3 : (k == 3) = false := by simpa using h3
    rw [e1, e2, e3]; simp

end Go.Proofs.Ytokhligpjbdhcaa
