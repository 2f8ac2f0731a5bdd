import Derived.Test.YtajijcfikihhjaaGreatDoorAAG
set_option linter.unusedSimpArgs false
set_option linter.unusedVariables false
set_option maxRecDepth 100000
set_option maxHeartbeats 16000000
namespace Go.Proofs.YtajijcfikihhjaaGreatDoor
open Go.RowKit Go.Sort
theorem Few_any (a : Option Addr) (n cap : Nat) (w : World) (hn : n ≤ 9223372036854775807) :
  Calls Tryz.prog 29 #[.slice a n cap] w fun e w' => e = .returned (.bool (decide (n ≤ 60))) ∧ w = w' := by
 have H := Qa hn; clear hn
 go_enter Tryz.func29, Tryz.ntmps29
 go_wp2
 go_ret
 exact ⟨Qf (by rw [decide_eq_decide]; omega), rfl⟩
def upTo (l : List Lo) (time : Int) : List Lo := l.takeWhile fun x => decide (x.t ≤ time)
theorem U1 (l : List Lo) (time : Int) : (upTo l time).length ≤ l.length := (List.takeWhile_prefix _).length_le
theorem upTo_stop (l : List Lo) (time : Int) (k : Nat) (hk : k ≤ l.length) (h : ∀ j (hj : j < k), l[j].t ≤ time) (hs : ∀ hlt : k < l.length, time < l[k].t) : (upTo l time) = l.take k := by
 induction l generalizing k with
 | nil => simp at hk; subst hk; rfl
 | cons x l ih =>
  cases k with
  | zero => simp only [upTo, List.takeWhile_cons, List.take_zero]; rw [if_neg]; have := hs (by simp); simpa using this
  | succ k =>
   have h0 := h 0 (by omega)
   simp at h0
   simp only [upTo, List.takeWhile_cons, List.take_succ_cons]
   rw [if_pos (by simpa using h0)]
   congr 1
   exact ih k (by simpa using hk) (fun j hj => by have := h (j + 1) (by omega); simpa using this) (fun hlt => by have := hs (by simpa using hlt); simpa using this)
theorem upTo_take (l : List Lo) (time : Int) : upTo l time = l.take (upTo l time).length := List.prefix_iff_eq_take.1 (List.takeWhile_prefix _)
def Zo (l : List Lo) (sheet time : Int) : Int × Bool × Int :=
 if QP l && inB sheet 1 1000000 && inB time 0 1000000000 then (hold (upTo l time) sheet, decide (0 < hold (upTo l time) sheet), 0) else (0, false, 1)
theorem eltInt : Elt Tryz.prog 37 3 1 8 inRow := ⟨Tryz.underlying37, ⟨.int .i64 0, by kernel_rfl, rfl⟩, by decide, by decide, fun _ => rfl, fun x u hu => by simp [inRow] at hu; subst hu; rfl⟩
def Qao (l : List Int) (n : Int) : Nat := l.length - (l.reverse.takeWhile fun x => decide (n ≤ x)).length
def putL (l : List Int) (n : Int) : List Int := if (l.drop (Qao l n)).head? = some n then l else l.take (Qao l n) ++ [n] ++ l.drop (Qao l n)
theorem putL_len (l : List Int) (n : Int) : (putL l n).length ≤ l.length + 1 := by
 unfold putL; split
 ·omega
 ·simp; omega
def Qag (s : List Lo) (stand : Int) (k : Nat) : List Int := (s.take k).foldl (fun out x => if hold s x.s = stand then putL out x.s else out) []
theorem heldF_succ (s : List Lo) (stand : Int) (k : Nat) (h : k < s.length) : Qag s stand (k + 1) = if hold s s[k].s = stand then putL (Qag s stand k) s[k].s else Qag s stand k := by
 unfold Qag; rw [List.take_succ_eq_append_getElem h, List.foldl_append]; rfl
theorem heldF_len (s : List Lo) (stand : Int) (k : Nat) (h : k ≤ s.length) : (Qag s stand k).length ≤ k := by
 induction k with
 | zero => simp [Qag]
 | succ k ih =>
  rw [heldF_succ s stand k h]
  split
  ·exact Nat.le_trans (putL_len _ _) (by have := ih (by omega); omega)
  ·have := ih (by omega); omega
def Qaj (l : List Lo) (stand time : Int) : List Int × Int :=
 if QP l && inB stand 1 1000000 && inB time 0 1000000000 then (Qag (upTo l time) stand (upTo l time).length, 0) else ([], 1)
def IsInts (w : World) (v : Value) (l : List Int) : Prop := ∃ a cap, v = .slice a l.length cap ∧ SlOk a l.length cap ∧ InAt w a l
theorem IsInts.ret {w w' : World} {v : Value} {l : List Int} {err : Int} (h : IsInts w' v l) (hb : Below w.heap.size w w') : RetSlI 1 (l.map inRow) err w (.returned (.tuple #[v, .int .i64 err])) w' := by
 obtain ⟨a, cap, rfl, h1, h2⟩ := h
 refine ⟨a, cap, ?_, by rw [List.length_map]; exact h1, h2, hb⟩
 rw [List.length_map]
def Uv (s : List Lo) (sheet : Int) : Int := s.foldl (fun acc x => if x.s = sheet ∧ x.k = 3 then x.h else acc) 0
theorem keyI : KeyOk Tryz.prog 3 (fun n : Int => Value.int .i64 n) := Uy Tryz.underlying3
theorem Y5 (n lo hi : Int) (w : World) :
  Calls Tryz.prog 79 #[.int .i64 n, .int .i64 lo, .int .i64 hi] w fun e w' => e = .returned (.bool (inB n lo hi)) ∧ w = w' := by
 go_enter Tryz.func79, Tryz.ntmps79
 go_wp2
 all_goals (go_ret; exact ⟨by simp [inB, *] <;> omega, rfl⟩)
theorem Qar (n : Int) (w : World) : Calls Tryz.prog 47 #[.int .i64 n] w fun e w' => e = .returned (.bool (inB n 0 1000000000)) ∧ w = w' := by
 go_enter Tryz.func47, Tryz.ntmps47
 go_wp2_with (go_at_call 79; refine (Y5 _ _ _ _).mono ?_; rintro e w' ⟨rfl, rfl⟩)
 go_ret
 exact ⟨rfl, rfl⟩
theorem Ua (n : Int) (w : World) : Calls Tryz.prog 46 #[.int .i64 n] w fun e w' => e = .returned (.bool (inB n 1 1000000)) ∧ w = w' := by
 go_enter Tryz.func46, Tryz.ntmps46
 go_wp2_with (go_at_call 79; refine (Y5 _ _ _ _).mono ?_; rintro e w' ⟨rfl, rfl⟩)
 go_ret
 exact ⟨rfl, rfl⟩
def Yl : List (Int × Value) := [(1, .agg #[.func (.func 153) #[] #[], .bool false]), (2, .agg #[.func (.func 154) #[] #[], .bool true]), (3, .agg #[.func (.func 155) #[] #[], .bool false])]
abbrev encI (n : Int) : Value := .int .i64 n
def NewMap (m : List (Int × Value)) (w : World) (e : Ending) (w' : World) : Prop := ∃ r, e = .returned (.map (some r)) ∧ MapAt w' encI r m ∧ Below w.heap.size w w' ∧ w.heap.size ≤ r
theorem JI (w : World) : Calls Tryz.prog 119 #[] w (NewMap Yl w) := by
 have hmm := @run_makeMap Tryz.prog
 go_enter Tryz.func119, Tryz.ntmps119
 go_wp2_with (first | (refine Qm rfl (.tmp 1) _ (.tmp 2) _ (.inr rfl) Tryz.underlying217 keyI w.heap.size [] rfl (MapAt.new w encI) 1 rfl _ rfl ?_; intro w1 hm1 hg1) | (refine Qm rfl (.tmp 1) _ (.tmp 3) _ (.inr rfl) Tryz.underlying217 keyI w.heap.size _ rfl hm1 2 rfl _ rfl ?_; intro w2 hm2 hg2) | (refine Qm rfl (.tmp 1) _ (.tmp 4) _ (.inr rfl) Tryz.underlying217 keyI w.heap.size _ rfl hm2 3 rfl _ rfl ?_; intro w3 hm3 hg3))
 go_ret
 exact ⟨_, rfl, hm3, ((((Below.refl _ _).alloc (Nat.le_refl _) _).grown hg1 (by simp) (fun k e => by cases e; exact Nat.le_refl _)).grown hg2 (by have := hg1.size; simp at this; omega) (fun k e => by cases e; exact Nat.le_refl _)).grown hg3 (by have := hg1.size; have := hg2.size; simp at *; omega) (fun k e => by cases e; exact Nat.le_refl _), Nat.le_refl _⟩
theorem kind1_any (t k s st h : Int) (w : World) :
  Calls Tryz.prog 153 #[.agg #[.int .i64 t, .int .i64 k, .int .i64 s, .int .i64 st, .int .i64 h]] w fun e w' => e = .returned (.bool (inB st 1 1000000 && h == 0)) ∧ Below w.heap.size w w' := by
 go_enter Tryz.func153, Tryz.ntmps153
 go_wp2_with (go_at_call 46; refine (Ua _ _).mono ?_; rintro e w' ⟨rfl, rfl⟩)
 all_goals go_ret
 all_goals (refine ⟨Qf ?_, (Below.refl _ _).alloc (Nat.le_refl _) _⟩; go_tidy; simp_all)
theorem kind2_any (t k s st h : Int) (w : World) :
  Calls Tryz.prog 154 #[.agg #[.int .i64 t, .int .i64 k, .int .i64 s, .int .i64 st, .int .i64 h]] w fun e w' => e = .returned (.bool (st == 0 && h == 0)) ∧ Below w.heap.size w w' := by
 go_enter Tryz.func154, Tryz.ntmps154
 go_wp2
 all_goals go_ret
 all_goals (refine ⟨Qf ?_, (Below.refl _ _).alloc (Nat.le_refl _) _⟩; go_tidy; simp_all)
theorem kind3_any (t k s st h : Int) (w : World) :
  Calls Tryz.prog 155 #[.agg #[.int .i64 t, .int .i64 k, .int .i64 s, .int .i64 st, .int .i64 h]] w fun e w' => e = .returned (.bool (st == 0 && inB h 0 99)) ∧ Below w.heap.size w w' := by
 go_enter Tryz.func155, Tryz.ntmps155
 go_wp2_with (go_at_call 79; refine (Y5 _ _ _ _).mono ?_; rintro e w' ⟨rfl, rfl⟩)
 all_goals go_ret
 all_goals (refine ⟨Qf ?_, (Below.refl _ _).alloc (Nat.le_refl _) _⟩; go_tidy; simp_all)
theorem zeroKind (w : World) : (zeroValue 215).run Tryz.prog w = .ok (.agg #[.nilFunc, .bool false]) w := by kernel_rfl
theorem kindsM_get (k : Int) : (mget Yl k = some (.agg #[.func (.func 153) #[] #[], .bool false]) ∧ k = 1) ∨ (mget Yl k = some (.agg #[.func (.func 154) #[] #[], .bool true]) ∧ k = 2) ∨
  (mget Yl k = some (.agg #[.func (.func 155) #[] #[], .bool false]) ∧ k = 3) ∨ (mget Yl k = none ∧ k ≠ 1 ∧ k ≠ 2 ∧ k ≠ 3) := by
 by_cases h1 : k = 1
 ·subst h1; exact .inl ⟨rfl, rfl⟩
 by_cases h2 : k = 2
 ·subst h2; exact .inr (.inl ⟨rfl, rfl⟩)
 by_cases h3 : k = 3
 ·subst h3; exact .inr (.inr (.inl ⟨rfl, rfl⟩))
 refine .inr (.inr (.inr ⟨?_, h1, h2, h3⟩))
 unfold Yl
 rw [QE, QE, QE, Q2, if_neg (Ne.symm h1), if_neg (Ne.symm h2), if_neg (Ne.symm h3)]
def Yt (k : Int) : Value := (mget Yl k).getD (.agg #[.nilFunc, .bool false])
def J9 (k : Int) : Bool := (mget Yl k).isSome
theorem YW {W : World} {r : Nat} (hm : MapAt W encI r Yl) (k : Int) : (Instr.lookup 217 (.map (some r)) (.int .i64 k) true).run Tryz.prog W = .ok (.tuple #[Yt k, .bool (J9 k)]) W := QF Tryz.underlying217 keyI zeroKind hm k true
theorem kind_look1 {W : World} {r : Nat} (hm : MapAt W encI r Yl) (k : Int) : (Instr.lookup 217 (.map (some r)) (.int .i64 k) false).run Tryz.prog W = .ok (Yt k) W := QF Tryz.underlying217 keyI zeroKind hm k false
theorem JK (t k s st h : Int) (w : World) (g : Nat) (b gv : Bool) (eg : ∀ args w, (callFunc g args).run Tryz.prog w = .ok (.enter g args) w) (hG : ∀ W, Calls Tryz.prog g #[.agg #[.int .i64 t, .int .i64 k, .int .i64 s, .int .i64 st, .int .i64 h]] W fun e w' => e = .returned (.bool gv) ∧ Below W.heap.size W w')
  (hform : Zs ⟨t, k, s, st, h⟩ = (inB t 0 1000000000 && inB s 1 1000000 && gv)) (hkv : Yt k = .agg #[.func (.func g) #[] #[], .bool b]) (hkb : J9 k = true) :
  Calls Tryz.prog 77 #[.agg #[.int .i64 t, .int .i64 k, .int .i64 s, .int .i64 st, .int .i64 h]] w fun e w' => e = .returned (.bool (Zs ⟨t, k, s, st, h⟩)) ∧ Below w.heap.size w w' := by
 obtain ⟨w0, hw0⟩ : ∃ w0, w0 = w.alloc (.cells #[.int .i64 t, .int .i64 k, .int .i64 s, .int .i64 st, .int .i64 h] 137) := ⟨_, rfl⟩
 have hB0 : Below w.heap.size w w0 := by rw [hw0]; exact (Below.refl _ _).alloc (Nat.le_refl _) _
 have hX0 : w0.heap[w.heap.size]? = some (.cells #[.int .i64 t, .int .i64 k, .int .i64 s, .int .i64 st, .int .i64 h] 137) := by rw [hw0]; exact heap_alloc_new _ _
 have HG := Qa hG; clear hG
 have HF := Qa hform; clear hform
 have HKV := Qa hkv; clear hkv
 have HKB := Qa hkb; clear hkb
 have HBB := Qa hB0; clear hB0
 go_enter Tryz.func77, Tryz.ntmps77
 go_wp2
 rw [← hw0]
 clear hw0
 have hc := Qb hX0
 have hlt0 := lt_of_block hX0
 have hne0 : ¬ w0.heap.size = w.heap.size := Nat.ne_of_gt hlt0
 have HX0 := Qa hX0; clear hX0
 go_region_held3 (fun w' => w'.cell? ⟨w.heap.size, 1, none⟩ = some (.int .i64 k)) (first | (simp [hc]; done) | (simp [hc2]; done) | (simp [hc, World.cell?_alloc_some, World.cell?_setCell_far, hne0]; done) | (simp [hc2, World.cell?_alloc_some, World.cell?_setCell_far, hne0]; done)) (first | (go_at_call 119; refine (JI _).mono ?_; rintro e w2 ⟨r, rfl, hm, hb, hr⟩; have HX2 := Qa (QG HX0.out (by first | exact (Below.refl _ _).drew | exact ((Below.refl _ _).alloc (Nat.le_refl _) _).drew) hb); have hc2 := Qb HX2.out; have hlt2 := lt_of_block HX2.out; (first | (have HX3 := Qa (show w2.heap[w0.heap.size]? = some (.cells #[.nilFunc, .bool false] 215) from QG (heap_alloc_new w0 _) (Below.refl _ _).drew hb); have hc3 := Qb HX3.out; have hf3 := Qe HX3.out; have hlt3 := lt_of_block HX3.out) | skip); have hk1 := YW hm k; rw [HKV.out, HKB.out] at hk1; have hk2 := fun o => YW (hm.below ((Below.refl _ _).alloc (Nat.le_refl _) o)) k; simp only [HKV.out, HKB.out] at hk2; have HM := Qa hm; clear hm; have HBW := Qa (HBB.out.trans ((Below.trans (show Below w0.heap.size w0 _ by first | exact (Below.refl _ _).drew | exact ((Below.refl _ _).alloc (Nat.le_refl _) _).drew) (hb.mono (by simp))).mono HBB.out.size)); clear hb hr))
 all_goals go_wp2_with (first | (go_at_call 47; refine (Qar _ _).mono ?_; rintro e w' ⟨rfl, rfl⟩) | (go_at_call 46; refine (Ua _ _).mono ?_; rintro e w' ⟨rfl, rfl⟩) | (go_at_fn g; refine (HG.out _).mono ?_; rintro e w3 ⟨rfl, hb⟩; have HB3 := Qa hb; clear hb))
 all_goals go_ret
 all_goals refine ⟨Qf ?_, ?_⟩
 all_goals first | (rw [HF.out]; go_tidy; simp_all; done) | exact HBW.out.alloc HBW.out.size _ | exact (HBW.out.setCell (p := ⟨w0.heap.size, 0, none⟩) HBB.out.size _).setCell (p := ⟨w0.heap.size, 1, none⟩) HBB.out.size _ | exact (HBW.out.alloc HBW.out.size _).trans (HB3.out.mono (HBW.out.alloc HBW.out.size _).size) | exact ((HBW.out.setCell (p := ⟨w0.heap.size, 0, none⟩) HBB.out.size _).setCell (p := ⟨w0.heap.size, 1, none⟩) HBB.out.size _).trans (HB3.out.mono ((HBW.out.setCell (p := ⟨w0.heap.size, 0, none⟩) HBB.out.size _).setCell (p := ⟨w0.heap.size, 1, none⟩) HBB.out.size _).size)
theorem formed_bad (t k s st h : Int) (w : World)
  (hform : Zs ⟨t, k, s, st, h⟩ = false) (hkv : Yt k = .agg #[.nilFunc, .bool false]) (hkb : J9 k = false) :
  Calls Tryz.prog 77 #[.agg #[.int .i64 t, .int .i64 k, .int .i64 s, .int .i64 st, .int .i64 h]] w fun e w' => e = .returned (.bool (Zs ⟨t, k, s, st, h⟩)) ∧ Below w.heap.size w w' := by
 obtain ⟨w0, hw0⟩ : ∃ w0, w0 = w.alloc (.cells #[.int .i64 t, .int .i64 k, .int .i64 s, .int .i64 st, .int .i64 h] 137) := ⟨_, rfl⟩
 have hB0 : Below w.heap.size w w0 := by rw [hw0]; exact (Below.refl _ _).alloc (Nat.le_refl _) _
 have hX0 : w0.heap[w.heap.size]? = some (.cells #[.int .i64 t, .int .i64 k, .int .i64 s, .int .i64 st, .int .i64 h] 137) := by rw [hw0]; exact heap_alloc_new _ _
 have HF := Qa hform; clear hform
 have HKV := Qa hkv; clear hkv
 have HKB := Qa hkb; clear hkb
 have HBB := Qa hB0; clear hB0
 go_enter Tryz.func77, Tryz.ntmps77
 go_wp2
 rw [← hw0]
 clear hw0
 have hc := Qb hX0
 have hlt0 := lt_of_block hX0
 have hne0 : ¬ w0.heap.size = w.heap.size := Nat.ne_of_gt hlt0
 have HX0 := Qa hX0; clear hX0
 go_region_held3 (fun w' => w'.cell? ⟨w.heap.size, 1, none⟩ = some (.int .i64 k)) (first | (simp [hc]; done) | (simp [hc2]; done) | (simp [hc, World.cell?_alloc_some, World.cell?_setCell_far, hne0]; done) | (simp [hc2, World.cell?_alloc_some, World.cell?_setCell_far, hne0]; done)) (first | (go_at_call 119; refine (JI _).mono ?_; rintro e w2 ⟨r, rfl, hm, hb, hr⟩; have HX2 := Qa (QG HX0.out (by first | exact (Below.refl _ _).drew | exact ((Below.refl _ _).alloc (Nat.le_refl _) _).drew) hb); have hc2 := Qb HX2.out; have hlt2 := lt_of_block HX2.out; (first | (have HX3 := Qa (show w2.heap[w0.heap.size]? = some (.cells #[.nilFunc, .bool false] 215) from QG (heap_alloc_new w0 _) (Below.refl _ _).drew hb); have hc3 := Qb HX3.out; have hf3 := Qe HX3.out; have hlt3 := lt_of_block HX3.out) | skip); have hk1 := YW hm k; rw [HKV.out, HKB.out] at hk1; have hk2 := fun o => YW (hm.below ((Below.refl _ _).alloc (Nat.le_refl _) o)) k; simp only [HKV.out, HKB.out] at hk2; have HM := Qa hm; clear hm; have HBW := Qa (HBB.out.trans ((Below.trans (show Below w0.heap.size w0 _ by first | exact (Below.refl _ _).drew | exact ((Below.refl _ _).alloc (Nat.le_refl _) _).drew) (hb.mono (by simp))).mono HBB.out.size)); clear hb hr))
 all_goals go_wp2
 all_goals go_ret
 all_goals refine ⟨Qf HF.out.symm, ?_⟩
 all_goals first | exact HBW.out.alloc HBW.out.size _ | exact (HBW.out.setCell (p := ⟨w0.heap.size, 0, none⟩) HBB.out.size _).setCell (p := ⟨w0.heap.size, 1, none⟩) HBB.out.size _
theorem Jw (t k s st h : Int) : Zs ⟨t, k, s, st, h⟩ = (inB t 0 1000000000 && inB s 1 1000000 && (if k == 1 then inB st 1 1000000 && h == 0 else if k == 2 then st == 0 && h == 0 else if k == 3 then st == 0 && inB h 0 99 else false)) := rfl
theorem YB (t k s st h : Int) (w : World) :
  Calls Tryz.prog 77 #[.agg #[.int .i64 t, .int .i64 k, .int .i64 s, .int .i64 st, .int .i64 h]] w fun e w' => e = .returned (.bool (Zs ⟨t, k, s, st, h⟩)) ∧ Below w.heap.size w w' := by
 rcases kindsM_get k with ⟨e, rfl⟩ | ⟨e, rfl⟩ | ⟨e, rfl⟩ | ⟨e, h1, h2, h3⟩
 ·exact JK t 1 s st h w 153 false _ (enters_of Tryz.func153 (by kernel_rfl) rfl) (fun W => kind1_any t 1 s st h W) (Jw t 1 s st h) (by unfold Yt; rw [e]; rfl) (by unfold J9; rw [e]; rfl)
 ·exact JK t 2 s st h w 154 true _ (enters_of Tryz.func154 (by kernel_rfl) rfl) (fun W => kind2_any t 2 s st h W) (Jw t 2 s st h) (by unfold Yt; rw [e]; rfl) (by unfold J9; rw [e]; rfl)
 ·exact JK t 3 s st h w 155 false _ (enters_of Tryz.func155 (by kernel_rfl) rfl) (fun W => kind3_any t 3 s st h W) (Jw t 3 s st h) (by unfold Yt; rw [e]; rfl) (by unfold J9; rw [e]; rfl)
 ·refine formed_bad t k s st h w ?_ (by unfold Yt; rw [e]; rfl) (by unfold J9; rw [e]; rfl)
  rw [Jw]
  have e1 : (k == 1) = false := by simpa using h1
  have e2 : (k == 2) = false := by simpa using h2
  have e3 : (k == 3) = false := by simpa using h3
  rw [e1, e2, e3]; simp
structure But2 (a b : Nat) (w w' : World) : Prop where
 os : w'.os = w.os
 tape : w'.tape = w.tape
 output : w'.output = w.output
 size : w.heap.size ≤ w'.heap.size
 block : ∀ k, k < w.heap.size → k ≠ a → k ≠ b → w'.heap[k]? = w.heap[k]?
theorem But2.trans {a b : Nat} {w w1 w2 : World} (h : But2 a b w w1) (k : But2 a b w1 w2) : But2 a b w w2 :=
 ⟨k.os.trans h.os, k.tape.trans h.tape, k.output.trans h.output, Nat.le_trans h.size k.size, fun i hi ha hb => (k.block i (Nat.lt_of_lt_of_le hi h.size) ha hb).trans (h.block i hi ha hb)⟩
theorem But2.of_below {a b : Nat} {w w' : World} (h : Below w.heap.size w w') : But2 a b w w' := ⟨h.os, h.tape, h.output, h.size, fun k hk _ _ => h.block k hk⟩
theorem But2.of_grown1 {a b : Nat} {w w' : World} (h : w.grownBy w' (some a)) : But2 a b w w' := ⟨h.os, h.tape, h.output, h.size, fun k hk ha _ => h.block k hk (fun e => ha (by cases e; rfl))⟩
theorem But2.of_grown2 {a b : Nat} {w w' : World} (h : w.grownBy w' (some b)) : But2 a b w w' := ⟨h.os, h.tape, h.output, h.size, fun k hk _ hb => h.block k hk (fun e => hb (by cases e; rfl))⟩
structure Sh where
 hm : List (Int × Value)
 gm : List (Int × Value)
def shOut (s : Sh) (x : Lo) : Bool := (mget s.hm x.s).isSome
def Yo (s : Sh) (x : Lo) : Bool := shOut s x == (x.k == 2)
def Yg (s : Sh) (x : Lo) : Sh :=
 if x.k = 1 then { s with hm := mput s.hm x.s (.int .i64 x.st) } else if x.k = 2 then { s with hm := mdel s.hm x.s } else if x.k = 3 then { s with gm := mput s.gm x.s (.int .i64 x.h) } else s
def ShAt (w : World) (a b : Nat) (s : Sh) : Prop := MapAt w encI a s.hm ∧ MapAt w encI b s.gm ∧ a ≠ b
theorem ShAt.below {w w' : World} {a b : Nat} {s : Sh} (h : ShAt w a b s) (hb : Below w.heap.size w w') : ShAt w' a b s := ⟨h.1.below hb, h.2.1.below hb, h.2.2⟩
theorem kind_field (f : Value) (b : Bool) (w : World) : (Instr.field 215 (.agg #[f, .bool b]) 1).run Tryz.prog w = .ok (.bool b) w := by kernel_rfl
theorem zeroInt (w : World) : (zeroValue 3).run Tryz.prog w = .ok (.int .i64 0) w := by kernel_rfl
theorem kindV_b (k : Int) : ∃ f, Yt k = .agg #[f, .bool (k == 2)] := by
 rcases kindsM_get k with ⟨e, rfl⟩ | ⟨e, rfl⟩ | ⟨e, rfl⟩ | ⟨e, h1, h2, h3⟩
 ·exact ⟨_, by unfold Yt; rw [e]; rfl⟩
 ·exact ⟨_, by unfold Yt; rw [e]; rfl⟩
 ·exact ⟨_, by unfold Yt; rw [e]; rfl⟩
 ·have e2 : (k == 2) = false := by simpa using h2
  exact ⟨_, by unfold Yt; rw [e, e2]; rfl⟩
def Us (a b : Nat) (z : Sh) (x : Lo) (w : World) (e : Ending) (w' : World) : Prop :=
 e = .returned (.bool (Yo z x)) ∧ ShAt w' a b (if Yo z x then Yg z x else z) ∧ But2 a b w w'
theorem add_no {a b : Nat} {z : Sh} {x : Lo} {w w' : World} (hc : Yo z x = false) (hz : ShAt w' a b z) (hb : But2 a b w w') : Us a b z x w (.returned (.bool false)) w' := ⟨by rw [hc], by rw [hc]; exact hz, hb⟩
theorem add_yes {a b : Nat} {z : Sh} {x : Lo} {w w' : World} (hc : Yo z x = true) (hz : ShAt w' a b (Yg z x)) (hb : But2 a b w w') : Us a b z x w (.returned (.bool true)) w' := ⟨by rw [hc], by rw [hc]; exact hz, hb⟩
theorem Ur (a b : Nat) (z : Sh) (t k s st q : Int) (w : World) (hz : ShAt w a b z) :
  Calls Tryz.prog 78 #[.agg #[.map (some a), .map (some b)], .agg #[.int .i64 t, .int .i64 k, .int .i64 s, .int .i64 st, .int .i64 q]] w (Us a b z ⟨t, k, s, st, q⟩ w) := by
 obtain ⟨w0, hw0⟩ : ∃ w0, w0 = (w.alloc (.cells #[.map (some a), .map (some b)] 95)).alloc (.cells #[.int .i64 t, .int .i64 k, .int .i64 s, .int .i64 st, .int .i64 q] 137) := ⟨_, rfl⟩
 have hB0 : Below w.heap.size w w0 := by rw [hw0]; exact ((Below.refl _ _).alloc (Nat.le_refl _) _).alloc (by simp) _
 have hX0 : w0.heap[w.heap.size]? = some (.cells #[.map (some a), .map (some b)] 95) := by rw [hw0]; exact Qc (heap_alloc_new w _) ((Below.refl _ _).alloc (Nat.le_refl _) _)
 have hY0 : w0.heap[w.heap.size + 1]? = some (.cells #[.int .i64 t, .int .i64 k, .int .i64 s, .int .i64 st, .int .i64 q] 137) := by rw [hw0]; have := heap_alloc_new (w.alloc (.cells #[.map (some a), .map (some b)] 95)) (.cells #[.int .i64 t, .int .i64 k, .int .i64 s, .int .i64 st, .int .i64 q] 137); simpa using this
 have HZ := Qa (hz.below hB0); clear hz
 have HBB := Qa hB0; clear hB0
 obtain ⟨f, hf⟩ := kindV_b k
 have HF := Qa hf; clear hf
 have HX0 := Qa hX0; clear hX0
 have HY0 := Qa hY0; clear hY0
 subst hw0
 go_enter Tryz.func78, Tryz.ntmps78
 go_wp2_with (at_lookup; refine wpList_lookup_at rfl (.tmp 9) (.tmp 11) _ true rfl Tryz.underlying93 keyI zeroInt a z.hm rfl HZ.out.1 s rfl ?_; simp only [if_true])
 generalize hgw : (w.alloc _).alloc _ = w0 at *
 clear hgw
 have hfld := kind_field f (k == 2)
 have hc := Qb HX0.out
 have hd := Qb HY0.out
 go_region_held3 (fun w' => w'.cell? ⟨w.heap.size + 1, 1, none⟩ = some (.int .i64 k)) (first | (simp [hd]; done) | (simp [hd2]; done)) (first | (go_at_call 119; refine (JI _).mono ?_; rintro e w2 ⟨r, rfl, hm, hb, hr⟩; have HX2 := Qa (QG HX0.out (Below.refl _ _).drew hb); have HY2 := Qa (QG HY0.out (Below.refl _ _).drew hb); have hc2 := Qb HX2.out; have hd2 := Qb HY2.out; have hk1 := kind_look1 hm k; rw [HF.out] at hk1; have HB2 := Qa (HBB.out.trans ((Below.trans (show Below w0.heap.size w0 _ from (Below.refl _ _).drew) (hb.mono (by simp))).mono HBB.out.size)); have HZ2 := Qa ((HZ.out.below (Below.refl _ _).drew).below hb); clear hb hr hm))
 go_wp2_with (first | (at_mapUpdate; refine Qm rfl (.tmp 27) (.tmp 29) (.tmp 31) _ (.inl rfl) Tryz.underlying93 keyI a z.hm rfl HZ2.out.1 s rfl (.int .i64 st) rfl ?_; intro w3 hm3 hg3; have HM3 := Qa hm3; have HG3 := Qa hg3; clear hm3 hg3) | (at_mapUpdate; refine Qm rfl (.tmp 41) (.tmp 43) (.tmp 45) _ (.inl rfl) Tryz.underlying93 keyI b z.gm rfl HZ2.out.2.1 s rfl (.int .i64 q) rfl ?_; intro w4 hm4 hg4; have HM4 := Qa hm4; have HG4 := Qa hg4; clear hm4 hg4) | (at_delete; refine wpList_delete_at rfl (.tmp 35) (.tmp 37) _ rfl Tryz.underlying93 keyI a z.hm rfl HZ2.out.1 s rfl ?_; intro w5 hm5 hg5; have HM5 := Qa hm5; have HG5 := Qa hg5; clear hm5 hg5))
 ·go_ret
  have ht : (!((mget z.hm s).isSome == (k == 2))) = true := by assumption
  exact add_no (Ut ht) HZ2.out (But2.of_below HB2.out)
 all_goals
  go_ret
  have ht : (!((mget z.hm s).isSome == (k == 2))) = false := by assumption
  refine add_yes (Uu ht) ?_ ?_
 ·have h1 : (k == 1) = true := by assumption
  unfold Yg; rw [if_pos (by simpa using h1)]
  exact ⟨HM3.out, HZ2.out.2.1.kept HG3.out (fun e => HZ2.out.2.2 (by cases e; rfl)), HZ2.out.2.2⟩
 ·exact (But2.of_below HB2.out).trans (But2.of_grown1 HG3.out)
 ·have h1 : (k == 1) = false := by assumption
  have h2 : (k == 2) = true := by assumption
  unfold Yg; rw [if_neg (by simpa using h1), if_pos (by simpa using h2)]
  exact ⟨HM5.out, HZ2.out.2.1.kept HG5.out (fun e => HZ2.out.2.2 (by cases e; rfl)), HZ2.out.2.2⟩
 ·exact (But2.of_below HB2.out).trans (But2.of_grown1 HG5.out)
 ·have h1 : (k == 1) = false := by assumption
  have h2 : (k == 2) = false := by assumption
  have h3 : (k == 3) = true := by assumption
  unfold Yg; rw [if_neg (by simpa using h1), if_neg (by simpa using h2), if_pos (by simpa using h3)]
  exact ⟨HZ2.out.1.kept HG4.out (fun e => HZ2.out.2.2 (by cases e; rfl)), HM4.out, HZ2.out.2.2⟩
 ·exact (But2.of_below HB2.out).trans (But2.of_grown2 HG4.out)
 ·have h1 : (k == 1) = false := by assumption
  have h2 : (k == 2) = false := by assumption
  have h3 : (k == 3) = false := by assumption
  unfold Yg; rw [if_neg (by simpa using h1), if_neg (by simpa using h2), if_neg (by simpa using h3)]
  exact HZ2.out
 ·exact But2.of_below HB2.out
open Go.RowKit Go.Sort Go.Shelf
attribute [local go_sem] Oper.semAt_some
structure Kept2 (n0 a b : Nat) (W W' : World) : Prop where
 size : W.heap.size ≤ W'.heap.size
 block : ∀ k, k < n0 → k ≠ a → k ≠ b → W'.heap[k]? = W.heap[k]?
theorem Kept2.refl (n0 a b : Nat) (W : World) : Kept2 n0 a b W W := ⟨Nat.le_refl _, fun _ _ _ _ => rfl⟩
theorem Kept2.trans {n0 a b : Nat} {X Y Z : World} (h : Kept2 n0 a b X Y) (k : Kept2 n0 a b Y Z) : Kept2 n0 a b X Z := ⟨Nat.le_trans h.size k.size, fun i hi ha hb => (k.block i hi ha hb).trans (h.block i hi ha hb)⟩
theorem Kept2.alloc {n0 a b : Nat} {X Y : World} (h : Kept2 n0 a b X Y) (hn : n0 ≤ Y.heap.size) (o : Obj) : Kept2 n0 a b X (Y.alloc o) := h.trans ⟨by simp, fun k hk _ _ => Below.heap_alloc _ _ _ (by omega)⟩
structure FarAt (W : World) (n0 a b : Nat) (p : Option Addr) (sz : Nat) (rows : List (List Value)) : Prop where
 at_ : SlAt W p sz rows
 far : ∀ q, p = some q → rows ≠ [] → q.block < n0 ∧ q.block ≠ a ∧ q.block ≠ b
theorem FarAt.kept {W W' : World} {n0 a b : Nat} {p : Option Addr} {sz : Nat} {rows : List (List Value)} (h : FarAt W n0 a b p sz rows) (hk : Kept2 n0 a b W W') : FarAt W' n0 a b p sz rows :=
 ⟨fun i r hr => by
  obtain ⟨bk, off, e, hlt, hl, hc⟩ := h.at_ i r hr
  obtain ⟨h1, h2, h3⟩ := h.far _ e (fun e' => by subst e'; simp at hr)
  exact ⟨bk, off, e, Nat.lt_of_lt_of_le hlt hk.size, hl, fun j v hv => (World.cell?_of_block (w := W) (hk.block bk h1 h2 h3)).trans (hc j v hv)⟩, h.far⟩
theorem until_any (a : Option Addr) (n cap : Nat) (time : Int) (w : World) :
  Calls Tryz.prog 80 #[.slice a n cap, .int .i64 time] w fun e w' =>
   e = .returned (.func (.func 120) #[] #[.pointer (some ⟨w.heap.size, 0, none⟩), .pointer (some ⟨w.heap.size + 1, 0, none⟩)]) ∧
   w' = (w.alloc (.cells #[.slice a n cap] 25)).alloc (.cells #[.int .i64 time] 3) := by
 go_enter Tryz.func80, Tryz.ntmps80
 go_wp2
 go_ret
 exact ⟨rfl, rfl⟩
abbrev UH (x : Lo) : Array Value := #[.agg #[.int .i64 x.t, .int .i64 x.k, .int .i64 x.s, .int .i64 x.st, .int .i64 x.h]]
theorem until1_in (F : Fence) (n : Nat) (hF : F.fn 120) (hro : F.round = none) (hn : 1 ≤ n) (lo bl bt n0 a b : Nat) (p : Option Addr) (cap : Nat) (l : List Lo) (time : Int) (J Jx : List Lo → World → Prop) (W : World)
  (hl : l.length ≤ 1000000) (hn0 : n0 ≤ W.heap.size) (hbl : W.heap[bl]? = some (.cells #[.slice p l.length cap] 25)) (hbt : W.heap[bt]? = some (.cells #[.int .i64 time] 3)) (hfl : bl < n0 ∧ bl ≠ a ∧ bl ≠ b) (hft : bt < n0 ∧ bt ≠ a ∧ bt ≠ b)
  (hr : FarAt W n0 a b p 5 (l.map Lo.cells)) (hJ : AbidesFrom W.heap.size J)
  (hY : ∀ pre x W1, J pre W1 → pre.length < l.length → YieldAt F (n - 1) Tryz.prog lo (UH x) W1 fun e W' =>
   (e = .returned (.bool true) ∧ J (pre ++ [x]) W' ∧ Kept2 n0 a b W1 W') ∨ (e = .returned (.bool false) ∧ Jx (pre ++ [x]) W')) (h0 : J [] W) :
  CallsIn F n Tryz.prog 120 (#[.func (.yield lo) #[] #[]] ++ #[.pointer (some ⟨bl, 0, none⟩), .pointer (some ⟨bt, 0, none⟩)]) W fun e W' => (∃ v, e = .returned v) ∧ ((∃ xs, xs = upTo l time ∧ J xs W') ∨ (∃ pre, True ∧ Jx pre W')) := by
 have hc1 := Qb hbl
 have hc2 := Qb hbt
 have HR := Qa hr; clear hr
 have HBT := Qa hbt; clear hbt
 have HBL := Qa hbl; clear hbl
 have HN0 := Qa hn0; clear hn0
 refine callsIn_of_wp Tryz.func120 rfl hF ?_ hro
 simp only [Tryz.ntmps120, List.size_toArray, List.length_cons, List.length_nil, Nat.reduceAdd, Nat.reduceSub, Array.replicate_succ, Array.replicate_zero, List.push_toArray, List.append_toArray, List.nil_append, List.cons_append]
 gi_wp2
 gi_loopw [8] (fun i wr => ∃ k : Nat, ∃ hk : k ≤ l.length, i = .int .i64 k ∧ (∀ j (hj : j < k), l[j].t ≤ time) ∧ J (l.take k) wr ∧ Kept2 n0 a b W wr) (fun i _ => l.length - (intOf i).toNat)
 case atStart => exact ⟨0, Nat.zero_le _, rfl, fun j hj => by omega, h0, Kept2.refl _ _ _ _⟩
 case round =>
  obtain ⟨k, hk, rfl, hall, hJk, hK⟩ := hrel
  have H := Qa hall; clear hall
  have HK := Qa hK; clear hK
  by_cases hlt : k < l.length
  ·have HR1 := HR.out.kept HK.out
   obtain ⟨b1, o1, rfl, c0, c1, c2, c3, c4⟩ := LoAt.get HR1.at_ k hlt
   have hbt1 := (HK.out.block bt hft.1 hft.2.1 hft.2.2).trans HBT.out
   have hct := Qb hbt1
   have hbtlt := lt_of_block hbt1
   have HBT1 := Qa hbt1; clear hbt1
   have HFL := Qa hfl; clear hfl
   have HFT := Qa hft; clear hft
   have hblt : b1 < wr.heap.size := World.block_lt_of_cell? _ _ c0
   clear hc1 hc2
   by_cases ht : time < l[k].t
   ·gi_wp2
    refine ⟨fun _ h => (by cases h), ?_⟩
    gi_wp2
    refine bodyPost_ret (results_none rfl _ _ _) rfl ?_
    exact ⟨⟨_, rfl⟩, .inl ⟨l.take k, (upTo_stop l time k hk H.out (fun _ => ht)).symm, hJ _ _ _ none hJk (World.grownBy_alloc _ _ _) (fun r e => by cases e)⟩⟩
   ·obtain ⟨fn, tmps, assign, body, hy, hRd⟩ := hY (l.take k) l[k] (wr.alloc (.cells #[.int .i64 l[k].t, .int .i64 l[k].k, .int .i64 l[k].s, .int .i64 l[k].st, .int .i64 l[k].h] 137)) (hJ _ _ _ none hJk (World.grownBy_alloc _ _ _) (fun r e => by cases e)) (by simp; omega)
    dsimp only [UH] at hy
    have HN := Qa (HN0.out : n0 ≤ W.heap.size)
    gi_wp2
    refine hRd.mono ?_
    rintro e W3 (⟨rfl, hJ3, hk3⟩ | ⟨rfl, hJx3⟩)
    ·gi_wp2
     go_roundw
     case rel =>
      refine ⟨k + 1, by omega, by go_num, fun j hj => ?_, ?_, (HK.out.alloc (Nat.le_trans HN0.out HK.out.size) _).trans hk3⟩
      ·by_cases e : j = k
       ·subst e; omega
       ·exact H.out j (by omega)
      ·rw [List.take_succ_eq_append_getElem hlt]; exact hJ3
     case measure => simp [intOf]; omega
    ·gi_wp2
     refine bodyPost_ret (results_none rfl _ _ _) rfl ?_
     exact ⟨⟨_, rfl⟩, .inr ⟨_, trivial, hJx3⟩⟩
  ·obtain rfl : k = l.length := by omega
   gi_wp2
   go_end0
   refine ⟨⟨_, rfl⟩, .inl ⟨l.take l.length, ?_, hJk⟩⟩
   exact (upTo_stop l time l.length (Nat.le_refl _) H.out (fun h => absurd h (Nat.lt_irrefl _))).symm
theorem MapAt.sameL {κ : Type} {enc : κ → Value} {w w' : World} {r : Nat} {m : List (κ × Value)} (h : MapAt w enc r m) (e : w'.heap[r]? = w.heap[r]?) : MapAt w' enc r m := by
 obtain ⟨⟨es, c, h1, h2⟩, h3⟩ := h; exact ⟨⟨es, c, e.trans h1, h2⟩, h3⟩
def Ux (s : Sh) (x : Lo) : Sh := if Yo s x then Yg s x else s
def shOf (l : List Lo) : Sh := l.foldl Ux ⟨[], []⟩
theorem YT (l : List Lo) (x : Lo) : shOf (l ++ [x]) = Ux (shOf l) x := by simp [shOf, List.foldl_append]
def AtPost (l : List Lo) (time : Int) (w : World) (e : Ending) (w' : World) : Prop :=
 ∃ a b, e = .returned (.agg #[.map (some a), .map (some b)]) ∧ ShAt w' a b (shOf (upTo l time)) ∧ Below w.heap.size w w' ∧ w.heap.size ≤ a ∧ w.heap.size ≤ b
theorem at_any (p : Option Addr) (n cap : Nat) (l : List Lo) (time : Int) (w : World) (hn : n = l.length) (hl : n ≤ 1000000) (hr : LoAt w p l) :
  Calls Tryz.prog 48 #[.slice p n cap, .int .i64 time] w (AtPost l time w) := by
 subst hn
 refine (callsIn_wide (n := 6)).1 ?_
 have hmm := @run_makeMap Tryz.prog
 have hfU : Fence.wide.fn 80 := trivial
 have hfA : Fence.wide.fn 78 := trivial
 refine callsIn_of_wp_marks Tryz.func48 rfl trivial ?_ rfl
 simp only [Tryz.ntmps48, List.size_toArray, List.length_cons, List.length_nil, Nat.reduceAdd, Nat.reduceSub, Array.replicate_succ, Array.replicate_zero, List.push_toArray, List.append_toArray, List.nil_append, List.cons_append]
 gi_wp2_with (gi_at_call 80; refine (callsIn_wide.2 (until_any _ _ _ _ _)).mono ?_; rintro e w' ⟨rfl, rfl⟩)
 obtain ⟨w5, hw5⟩ : ∃ w5, w5 = (((((w.alloc (.cells #[.map none, .map none] 95)).alloc (.map #[] 0)).alloc (.map #[] 0)).alloc (.cells #[.map (some (w.heap.size + 1)), .map (some (w.heap.size + 1 + 1))] 95)).alloc (.cells #[.slice p l.length cap] 25)).alloc (.cells #[.int .i64 time] 3) := ⟨_, rfl⟩
 rw [← hw5]
 have hsz : w5.heap.size = w.heap.size + 6 := by rw [hw5]; simp
 have hb5 : Below w.heap.size w w5 := by
  rw [hw5]
  exact ((((((Below.refl _ w).alloc (Nat.le_refl _) _).alloc (by simp) _).alloc (by simp; omega) _).alloc (by simp; omega) _).alloc (by simp; omega) _).alloc (by simp; omega) _
 have k0 : w5.heap[w.heap.size]? = some (.cells #[.map none, .map none] 95) := by rw [hw5]; exact (Qj (Qj (Qj (Qj (Qj (heap_alloc_new w _) _) _) _) _) _)
 have k1 : w5.heap[w.heap.size + 1]? = some (.map #[] 0) := by rw [hw5]; exact (Qj (Qj (Qj (Qj (QJ _ _ (by simp)) _) _) _) _)
 have k2 : w5.heap[w.heap.size + 1 + 1]? = some (.map #[] 0) := by rw [hw5]; exact (Qj (Qj (Qj (QJ _ _ (by simp)) _) _) _)
 have k3 : w5.heap[w.heap.size + 1 + 1 + 1]? = some (.cells #[.map (some (w.heap.size + 1)), .map (some (w.heap.size + 1 + 1))] 95) := by rw [hw5]; exact (Qj (Qj (QJ _ _ (by simp)) _) _)
 have k4 : w5.heap[w.heap.size + 1 + 1 + 1 + 1]? = some (.cells #[.slice p l.length cap] 25) := by rw [hw5]; exact (Qj (QJ _ _ (by simp)) _)
 have k5 : w5.heap[w.heap.size + 1 + 1 + 1 + 1 + 1]? = some (.cells #[.int .i64 time] 3) := by rw [hw5]; exact (QJ _ _ (by simp))
 clear hw5 hfU
 have hz5 : ShAt w5 (w.heap.size + 1) (w.heap.size + 1 + 1) ⟨[], []⟩ := ⟨⟨⟨_, _, k1, rfl, by simp, by simp⟩, by simp⟩, ⟨⟨_, _, k2, rfl, by simp, by simp⟩, by simp⟩, by omega⟩
 refine wpIn_rangeFunc_ownH (α := Lo) rfl (by omega) (gf := 120) (lb := #[.pointer (some ⟨w.heap.size + 1 + 1 + 1 + 1, 0, none⟩), .pointer (some ⟨w.heap.size + 1 + 1 + 1 + 1 + 1, 0, none⟩)]) rfl trivial (enters_of Tryz.func120 (by kernel_rfl) rfl)
  (encs := UH) (Kp := Kept2 w5.heap.size (w.heap.size + 1) (w.heap.size + 1 + 1)) (S := fun xs => xs = upTo l time) (Sp := fun _ => True) (N := l.length) (w0 := w5) ?hseq Kept2.trans ?hKb (Below.refl _ _) (fun _ => rfl)
  (fun pre W => ShAt W (w.heap.size + 1) (w.heap.size + 1 + 1) (shOf pre) ∧ W.heap[w.heap.size]? = some (.cells #[.map none, .map none] 95) ∧ W.heap[w.heap.size + 1 + 1 + 1]? = some (.cells #[.map (some (w.heap.size + 1)), .map (some (w.heap.size + 1 + 1))] 95) ∧ Below w.heap.size w W ∧ w5.heap.size ≤ W.heap.size)
  (fun _ _ _ => False) ?hI (fun _ _ _ _ _ hs _ _ => hs) ⟨hz5, k0, k3, hb5, Nat.le_refl _⟩
  (fun x a' W => ∃ Bx, w5.heap.size ≤ Bx ∧ W.heap[Bx]? = some (.cells #[.int .i64 x.t, .int .i64 x.k, .int .i64 x.s, .int .i64 x.st, .int .i64 x.h] 137) ∧ a' = { tmps := #[.slice p l.length cap, .int .i64 time, undef, undef, .pointer (some ⟨w.heap.size, 0, none⟩), .pointer (some ⟨w.heap.size + 1 + 1 + 1, 0, none⟩), .pointer (some ⟨Bx, 0, none⟩), .map (some (w.heap.size + 1)), .map (some (w.heap.size + 1 + 1)), .agg #[.map (some (w.heap.size + 1)), .map (some (w.heap.size + 1 + 1))], .slice p l.length cap, .int .i64 time, .func (.func 120) #[] #[.pointer (some ⟨w.heap.size + 1 + 1 + 1 + 1, 0, none⟩), .pointer (some ⟨w.heap.size + 1 + 1 + 1 + 1 + 1, 0, none⟩)], .agg #[.int .i64 x.t, .int .i64 x.k, .int .i64 x.s, .int .i64 x.st, .int .i64 x.h], undef, undef, undef, undef], defers := [] })
  ?hAx ?hassign ?hbody ?hdone ?hstop
 case hseq =>
  intro l0 J Jx W hW hJ _ hY h0
  have hfar : FarAt W w5.heap.size (w.heap.size + 1) (w.heap.size + 1 + 1) p 5 (l.map Lo.cells) := by
   refine ⟨(hr.below hb5).below hW, fun q hq hne => ?_⟩
   obtain ⟨r0, rs, e⟩ := List.exists_cons_of_ne_nil hne
   obtain ⟨b0, o0, e0, h0, _⟩ := hr 0 r0 (by rw [e]; rfl)
   rw [hq] at e0; cases e0
   exact ⟨by show b0 < _; omega, by show b0 ≠ _; omega, by show b0 ≠ _; omega⟩
  exact until1_in Fence.wide 5 trivial rfl (by omega) l0 _ _ w5.heap.size (w.heap.size + 1) (w.heap.size + 1 + 1) p cap l time J Jx W hl hW.size (Qc k4 hW) (Qc k5 hW) ⟨by omega, by omega, by omega⟩ ⟨by omega, by omega, by omega⟩ hfar hJ hY h0
 case hKb =>
  intro W l0 o o' hl0 hW _ _
  exact (Kept2.refl _ _ _ _).trans ⟨by simp, fun k hk _ _ => World.putObj_heap_other (by omega)⟩
 case hI =>
  rintro s W W' row ⟨i1, i2, i3, i4, i5⟩ hg hrow
  have hne : ∀ k, k < w5.heap.size → row ≠ some k := fun k hk e => by have := (hrow k e).1; omega
  exact ⟨⟨i1.1.kept hg (hne _ (by omega)), i1.2.1.kept hg (hne _ (by omega)), i1.2.2⟩, (hg.block _ (lt_of_block i2) (fun e => hne _ (by omega) e.symm)).trans i2, (hg.block _ (lt_of_block i3) (fun e => hne _ (by omega) e.symm)).trans i3,
   i4.grown hg i4.size (fun k e => by have := (hrow k e).1; omega), Nat.le_trans i5 hg.size⟩
 case hAx =>
  rintro x a' s W W' row ⟨Bx, h1, h2, h3⟩ hg hrow
  refine ⟨Bx, h1, (hg.block _ (lt_of_block h2) (fun e => ?_)).trans h2, h3⟩
  obtain ⟨_, o, ho, hc⟩ := hrow Bx e.symm
  rw [h2] at ho; cases ho; cases hc
 case hassign =>
  rintro l0 pre x W K ⟨i1, i2, i3, i4, i5⟩ hK
  gi_wp2
  exact hK _ _ ((KeepsOthers.alloc _ _).from _) ((Kept2.refl _ _ _ _).alloc i5 _) ⟨i1.below ((Below.refl _ _).alloc (Nat.le_refl _) _), Qj i2 _, Qj i3 _, i4.alloc i4.size _, by simp; omega⟩ ⟨W.heap.size, i5, heap_alloc_new _ _, rfl⟩
 case hbody =>
  rintro l0 pre x a' W hl0 ⟨r, hr0⟩ ⟨i1, i2, i3, i4, i5⟩ ⟨Bx, hBx, hbx, rfl⟩ hlt
  have c3 := Qb i3
  have cx := Qb hbx
  have I1 := Qa i1
  gi_wp2_with (gi_at_call 78; refine (CallsIn.inRound l0 (callsIn_wide.2 (Ur _ _ (shOf pre) _ _ _ _ _ _ I1.out))).mono ?_; rintro e W2 ⟨rfl, hz2, hb2⟩)
  refine ⟨⟨hb2.size, fun k o hk h0 ho => (hb2.block k (lt_of_block h0) (by omega) (by omega)).trans h0⟩, ⟨hb2.size, fun k hk ha hb => hb2.block k (by omega) ha hb⟩, ?_, (hb2.block _ (lt_of_block i2) (by omega) (by omega)).trans i2, (hb2.block _ (lt_of_block i3) (by omega) (by omega)).trans i3,
   i4.trans ⟨hb2.os, hb2.tape, hb2.output, hb2.size, fun k hk => hb2.block k (by have := i4.size; omega) (by omega) (by omega)⟩, Nat.le_trans i5 hb2.size⟩
  rw [YT]
  exact hz2
 case hdone =>
  rintro D xs W hD rfl ⟨i1, i2, i3, i4, i5⟩ hK
  have c3 := Qb i3
  have c0 := Qb i2
  have f0 := Qe i2
  gi_wp2
  have hK2 := (KeepsOthers.setCell (W.setCell ⟨w.heap.size, 0, none⟩ (.map (some (w.heap.size + 1)))) ⟨w.heap.size, 1, none⟩ (.map (some (w.heap.size + 1 + 1)))).same D _ ((KeepsOthers.setCell W ⟨w.heap.size, 0, none⟩ (.map (some (w.heap.size + 1)))).same D _ hK rfl) rfl
  refine ⟨by simp, .inl ⟨_, _, rfl, run_takeDeferred hK2, ?_⟩⟩
  have q1 := heap_setCell_same W w.heap.size 0 _ _ (.map (some (w.heap.size + 1))) i2
  have q2 := heap_setCell_same _ w.heap.size 1 _ _ (.map (some (w.heap.size + 1 + 1))) q1
  have q3 := (World.putObj_heap_other (w := (W.setCell ⟨w.heap.size, 0, none⟩ (.map (some (w.heap.size + 1)))).setCell ⟨w.heap.size, 1, none⟩ (.map (some (w.heap.size + 1 + 1)))) (r := D) (o := .deferred none) (k := w.heap.size) (by omega)).trans q2
  refine ⟨_, results_cell_row rfl _ _ w.heap.size _ #[.map (some (w.heap.size + 1)), .map (some (w.heap.size + 1 + 1))] (0, 0) _ rfl q3 Tryz.underlying95 rfl (by kernel_rfl), ?_⟩
  have hset : Below w.heap.size w (((W.setCell ⟨w.heap.size, 0, none⟩ (.map (some (w.heap.size + 1)))).setCell ⟨w.heap.size, 1, none⟩ (.map (some (w.heap.size + 1 + 1)))).putObj D (.deferred none)) :=
   ((i4.setCell (p := ⟨w.heap.size, 0, none⟩) (Nat.le_refl _) _).setCell (p := ⟨w.heap.size, 1, none⟩) (Nat.le_refl _) _).grown (grownBy_putObj' _ D _) (by have := ((i4.setCell (p := ⟨w.heap.size, 0, none⟩) (Nat.le_refl _) (.map (some (w.heap.size + 1)))).setCell (p := ⟨w.heap.size, 1, none⟩) (Nat.le_refl _) (.map (some (w.heap.size + 1 + 1)))).size; omega) (fun k e => by cases e; omega)
  have hsame : ∀ k, k ≠ w.heap.size → k ≠ D → (((W.setCell ⟨w.heap.size, 0, none⟩ (.map (some (w.heap.size + 1)))).setCell ⟨w.heap.size, 1, none⟩ (.map (some (w.heap.size + 1 + 1)))).putObj D (.deferred none)).heap[k]? = W.heap[k]? := fun k h1 h2 =>
   ((World.putObj_heap_other h2).trans (Below.heap_setCell _ _ _ k h1)).trans (Below.heap_setCell _ _ _ k h1)
  exact ⟨_, _, rfl, ⟨i1.1.sameL (hsame _ (by omega) (by omega)), i1.2.1.sameL (hsame _ (by omega) (by omega)), i1.2.2⟩, hset, by omega, by omega⟩
 case hstop =>
  rintro D c pre W _ _ h _
  exact h.elim
theorem newState_any (wa : Option Addr) (wc : Nat) (l : List (Wk × Wp)) (w : World) (hl : 0 < l.length) (hfew : ∀ y ∈ l, FoFew y.1.f) (hw : WsAt w wa l) :
  Calls Tryz.prog 125 #[.slice wa l.length wc] w fun e w' => ∃ q, e = .returned (.pointer (some ⟨w.heap.size, 0, none⟩)) ∧ StAt w' w.heap.size (Qx (Qk l)) q none 0 (.slice wa l.length wc) ∧ Below w.heap.size w w' := by
 have hx := heap_alloc_new w (.cells #[.int .i64 0, .int .i64 0, .slice none 0 0, .slice none 0 0, .int .i64 0, .int .i64 0, .int .i64 0, .slice none 0 0, .slice none 0 0, .slice wa l.length wc] 179)
 have hb := Qg (w := w) (.cells #[.int .i64 0, .int .i64 0, .slice none 0 0, .slice none 0 0, .int .i64 0, .int .i64 0, .int .i64 0, .slice none 0 0, .slice none 0 0, .slice wa l.length wc] 179)
 obtain ⟨y, ys, e⟩ := List.exists_cons_of_length_pos hl
 have hm : y ∈ l := by rw [e]; exact List.mem_cons_self
 have h0 : l[0] = y := by simp [e]
 have hf : Qx (Qk l) = ⟨y.1.ver, y.1.f, []⟩ := by rw [e]; rfl
 rw [hf]
 have hi0 : (0 : Int) < (l.length : Int) := by omega
 have hws := hw.below hb
 obtain ⟨b, off, ea, _, d0, d1, d2, d3, d4, d5, d6, d7, d8, d9, d10, d11⟩ := WlAt.get hws.rows 0 hl
 rw [h0] at d0 d1 d2 d3 d4 d5 d6 d7 d8 d9 d10 d11
 simp only [Nat.zero_mul, Nat.add_zero] at d0 d1 d2 d3 d4 d5 d6 d7 d8 d9 d10 d11
 have HT := Qa (take_any w.heap.size y.1 y.2 _ _ _ _ _ _ _ _ _ (.slice wa l.length wc) _ (hfew y hm) (hws.forms y hm) hx)
 have HB := Qa hb
 subst ea
 clear hb hx hw hws hf h0 e hm
 go_enter Tryz.func125, Tryz.ntmps125
 go_wp2_with (go_at_call 158; refine HT.out.mono ?_; rintro e w6 ⟨⟨v6, rfl⟩, q6, h6, hk6⟩)
 go_ret
 refine ⟨q6, rfl, h6, HB.out.trans ⟨hk6.os, hk6.tape, hk6.output, hk6.size, fun k hk => hk6.block k (by have := HB.out.size; omega) (by simp; omega)⟩⟩
theorem dUntil_any (a : Option Addr) (n cap : Nat) (known time : Int) (w : World) :
  Calls Tryz.prog 126 #[.slice a n cap, .int .i64 known, .int .i64 time] w fun e w' =>
   e = .returned (.func (.func 159) #[] #[.pointer (some ⟨w.heap.size, 0, none⟩), .pointer (some ⟨w.heap.size + 1, 0, none⟩), .pointer (some ⟨w.heap.size + 1 + 1, 0, none⟩)]) ∧
   w' = ((w.alloc (.cells #[.slice a n cap] 28)).alloc (.cells #[.int .i64 known] 3)).alloc (.cells #[.int .i64 time] 3) := by
 go_enter Tryz.func126, Tryz.ntmps126
 go_wp2
 go_ret
 exact ⟨rfl, rfl⟩
theorem DeAt.get {w : World} {a : Option Addr} {l : List De} (h : DeAt w a l) (i : Nat) (hi : i < l.length) : ∃ b off, a = some ⟨b, off, none⟩ ∧ w.cell? ⟨b, off + i * 6, none⟩ = some (.int .i64 l[i].num) ∧ w.cell? ⟨b, off + i * 6 + 1, none⟩ = some (.int .i64 l[i].time) ∧ w.cell? ⟨b, off + i * 6 + 2, none⟩ = some (.int .i64 l[i].kind) ∧ w.cell? ⟨b, off + i * 6 + 3, none⟩ = some (.int .i64 l[i].a) ∧ w.cell? ⟨b, off + i * 6 + 4, none⟩ = some (.int .i64 l[i].b) ∧ w.cell? ⟨b, off + i * 6 + 5, none⟩ = some (.int .i64 l[i].c) := by
 obtain ⟨b, off, e, _, _, hc⟩ := h i (Ul l[i]) (by simp [hi])
 exact ⟨b, off, e, hc 0 _ rfl, hc 1 _ rfl, hc 2 _ rfl, hc 3 _ rfl, hc 4 _ rfl, hc 5 _ rfl⟩
abbrev UI (x : De) : Array Value := #[.agg #[.int .i64 x.num, .int .i64 x.time, .int .i64 x.kind, .int .i64 x.a, .int .i64 x.b, .int .i64 x.c]]
theorem Jo (known time : Int) (l : List De) (k : Nat) (hk : k ≤ l.length) (hall : ∀ j (hj : j < k), l[j].num ≤ known ∧ l[j].time ≤ time) (hs : (h : k < l.length) → known < l[k].num ∨ time < l[k].time) : upD known time l = l.take k := by
 unfold upD
 induction l generalizing k with
 | nil => simp
 | cons y l ih =>
  cases k with
  | zero =>
   have := hs (by simp)
   simp only [List.getElem_cons_zero] at this
   rw [List.takeWhile_cons_of_neg (by simp; omega)]; rfl
  | succ k =>
   have h0 := hall 0 (by omega)
   simp only [List.getElem_cons_zero] at h0
   rw [List.takeWhile_cons_of_pos (by simp; omega), List.take_succ_cons, ih k (by simpa using hk) (fun j hj => by simpa using hall (j + 1) (by omega)) (fun h => hs (by simp only [List.length_cons]; omega))]
theorem upD_pref (known time : Int) (l : List De) (k : Nat) (hk : k ≤ l.length) (hall : ∀ j (hj : j < k), l[j].num ≤ known ∧ l[j].time ≤ time) : l.take k <+: upD known time l := by
 unfold upD
 induction l generalizing k with
 | nil => simp
 | cons y l ih =>
  cases k with
  | zero => exact List.nil_prefix
  | succ k =>
   have h0 := hall 0 (by omega)
   simp only [List.getElem_cons_zero] at h0
   rw [List.takeWhile_cons_of_pos (by simp; omega), List.take_succ_cons]
   exact List.cons_prefix_cons.2 ⟨rfl, ih k (by simpa using hk) (fun j hj => by simpa using hall (j + 1) (by omega))⟩
theorem dUntil1_in (F : Fence) (n : Nat) (hF : F.fn 159) (hro : F.round = none) (hn : 1 ≤ n) (lo bl bk bt n0 a b : Nat) (p : Option Addr) (cap : Nat) (l : List De) (known time : Int) (J Jx : List De → World → Prop) (W : World)
  (hl : l.length ≤ 1000000) (hn0 : n0 ≤ W.heap.size) (hbl : W.heap[bl]? = some (.cells #[.slice p l.length cap] 28)) (hbk : W.heap[bk]? = some (.cells #[.int .i64 known] 3)) (hbt : W.heap[bt]? = some (.cells #[.int .i64 time] 3)) (hfk : bk < n0 ∧ bk ≠ a ∧ bk ≠ b) (hft : bt < n0 ∧ bt ≠ a ∧ bt ≠ b)
  (hr : FarAt W n0 a b p 6 (l.map Ul)) (hJ : AbidesFrom W.heap.size J)
  (hY : ∀ pre x W1, J pre W1 → pre.length < l.length → YieldAt F (n - 1) Tryz.prog lo (UI x) W1 fun e W' =>
   (e = .returned (.bool true) ∧ J (pre ++ [x]) W' ∧ Kept2 n0 a b W1 W') ∨ (e = .returned (.bool false) ∧ Jx (pre ++ [x]) W')) (h0 : J [] W) :
  CallsIn F n Tryz.prog 159 (#[.func (.yield lo) #[] #[]] ++ #[.pointer (some ⟨bl, 0, none⟩), .pointer (some ⟨bk, 0, none⟩), .pointer (some ⟨bt, 0, none⟩)]) W fun e W' => (∃ v, e = .returned v) ∧ ((∃ xs, xs = upD known time l ∧ J xs W') ∨ (∃ pre, pre <+: upD known time l ∧ Jx pre W')) := by
 have hc1 := Qb hbl
 have HR := Qa hr; clear hr
 have HBT := Qa hbt; clear hbt
 have HBK := Qa hbk; clear hbk
 have HN0 := Qa hn0; clear hn0
 clear hbl
 refine callsIn_of_wp Tryz.func159 rfl hF ?_ hro
 simp only [Tryz.ntmps159, List.size_toArray, List.length_cons, List.length_nil, Nat.reduceAdd, Nat.reduceSub, Array.replicate_succ, Array.replicate_zero, List.push_toArray, List.append_toArray, List.nil_append, List.cons_append]
 gi_wp2
 gi_loopw [9] (fun i wr => ∃ k : Nat, ∃ hk : k ≤ l.length, i = .int .i64 k ∧ (∀ j (hj : j < k), l[j].num ≤ known ∧ l[j].time ≤ time) ∧ J (l.take k) wr ∧ Kept2 n0 a b W wr) (fun i _ => l.length - (intOf i).toNat)
 case atStart => exact ⟨0, Nat.zero_le _, rfl, fun j hj => by omega, h0, Kept2.refl _ _ _ _⟩
 case round =>
  obtain ⟨k, hk, rfl, hall, hJk, hK⟩ := hrel
  have H := Qa hall; clear hall
  have HK := Qa hK; clear hK
  by_cases hlt : k < l.length
  ·have HR1 := HR.out.kept HK.out
   obtain ⟨b1, o1, rfl, c0, c1, c2, c3, c4, c5⟩ := DeAt.get HR1.at_ k hlt
   have hbt1 := (HK.out.block bt hft.1 hft.2.1 hft.2.2).trans HBT.out
   have hbk1 := (HK.out.block bk hfk.1 hfk.2.1 hfk.2.2).trans HBK.out
   have hct := Qb hbt1
   have hck := Qb hbk1
   have hbtlt := lt_of_block hbt1
   have hbklt := lt_of_block hbk1
   have HBT1 := Qa hbt1; clear hbt1
   have HBK1 := Qa hbk1; clear hbk1
   have HFT := Qa hft; clear hft
   have HFK := Qa hfk; clear hfk
   have hblt : b1 < wr.heap.size := World.block_lt_of_cell? _ _ c0
   clear hc1
   by_cases hkn : known < l[k].num
   ·gi_wp2
    refine ⟨fun _ h => (by cases h), ?_⟩
    gi_wp2
    refine bodyPost_ret (results_none rfl _ _ _) rfl ?_
    exact ⟨⟨_, rfl⟩, .inl ⟨l.take k, (Jo known time l k hk H.out (fun _ => .inl hkn)).symm, hJ _ _ _ none hJk (World.grownBy_alloc _ _ _) (fun r e => by cases e)⟩⟩
   by_cases ht : time < l[k].time
   ·gi_wp2
    refine ⟨fun _ h => (by cases h), ?_⟩
    gi_wp2
    refine bodyPost_ret (results_none rfl _ _ _) rfl ?_
    exact ⟨⟨_, rfl⟩, .inl ⟨l.take k, (Jo known time l k hk H.out (fun _ => .inr ht)).symm, hJ _ _ _ none hJk (World.grownBy_alloc _ _ _) (fun r e => by cases e)⟩⟩
   ·obtain ⟨fn, tmps, assign, body, hy, hRd⟩ := hY (l.take k) l[k] (wr.alloc (.cells #[.int .i64 (l[k]).num, .int .i64 (l[k]).time, .int .i64 (l[k]).kind, .int .i64 (l[k]).a, .int .i64 (l[k]).b, .int .i64 (l[k]).c] 207)) (hJ _ _ _ none hJk (World.grownBy_alloc _ _ _) (fun r e => by cases e)) (by simp; omega)
    dsimp only [UI] at hy
    gi_wp2
    refine hRd.mono ?_
    rintro e W3 (⟨rfl, hJ3, hk3⟩ | ⟨rfl, hJx3⟩)
    ·gi_wp2
     go_roundw
     case rel =>
      refine ⟨k + 1, by omega, by go_num, fun j hj => ?_, ?_, (HK.out.alloc (Nat.le_trans HN0.out HK.out.size) _).trans hk3⟩
      ·by_cases e : j = k
       ·subst e; omega
       ·exact H.out j (by omega)
      ·rw [List.take_succ_eq_append_getElem hlt]; exact hJ3
     case measure => simp [intOf]; omega
    ·gi_wp2
     refine bodyPost_ret (results_none rfl _ _ _) rfl ?_
     refine ⟨⟨_, rfl⟩, .inr ⟨_, ?_, hJx3⟩⟩
     rw [← List.take_succ_eq_append_getElem hlt]
     exact upD_pref known time l (k + 1) (by omega) (fun j hj => by
      by_cases e : j = k
      ·subst e; omega
      ·exact H.out j (by omega))
  ·obtain rfl : k = l.length := by omega
   gi_wp2
   go_end0
   refine ⟨⟨_, rfl⟩, .inl ?_⟩
   first
   | exact ⟨l.take l.length, (Jo known time l l.length (Nat.le_refl _) H.out (fun h => absurd h (Nat.lt_irrefl _))).symm, hJk⟩
   | (rw [Jo known time l l.length (Nat.le_refl _) H.out (fun h => absurd h (Nat.lt_irrefl _))]; exact hJk)
end Go.Proofs.YtajijcfikihhjaaGreatDoor
