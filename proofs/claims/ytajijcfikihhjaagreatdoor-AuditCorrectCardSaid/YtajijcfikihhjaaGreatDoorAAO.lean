import Derived.Test.YtajijcfikihhjaaGreatDoorAAN
set_option linter.unusedSimpArgs false
set_option linter.unusedVariables false
set_option maxRecDepth 100000
set_option maxHeartbeats 16000000
namespace Go.Proofs.YtajijcfikihhjaaGreatDoor
open Go.RowKit Go.Sort Go.Shelf
def lm0 : Lm := ⟨0, 0, 0, 0, 0, 0, false⟩
theorem zeroLim (w : World) : (zeroValue 158).run Tryz.prog w = .ok (lmV lm0) w := by kernel_rfl
def limV (k : Int) : Value := (mget limM k).getD (lmV lm0)
def limK (k : Int) : Bool := (mget limM k).isSome
theorem Jy {W : World} {r : Nat} (hm : MapAt W encI r limM) (k : Int) : (Instr.lookup 160 (.map (some r)) (.int .i64 k) true).run Tryz.prog W = .ok (.tuple #[limV k, .bool (limK k)]) W := QF Tryz.underlying160 keyI zeroLim hm k true
theorem limM_get (k : Int) : (∃ x : Lm, limV k = lmV x ∧ limK k = true ∧ ∀ e : En, e.kind = k → Qt e = limB x e) ∨ (limV k = lmV lm0 ∧ limK k = false ∧ ∀ e : En, e.kind = k → Qt e = false) := by
 unfold limV limK limM Qt
 simp only [QE, Q2]
 by_cases h1 : 1 = k
 ·subst h1; exact .inl ⟨lm1, rfl, rfl, fun e he => by rw [he]; rfl⟩
 by_cases h2 : 2 = k
 ·subst h2; exact .inl ⟨lm2, rfl, rfl, fun e he => by rw [he]; rfl⟩
 by_cases h3 : 3 = k
 ·subst h3; exact .inl ⟨lm3, rfl, rfl, fun e he => by rw [he]; rfl⟩
 by_cases h4 : 4 = k
 ·subst h4; exact .inl ⟨lm4, rfl, rfl, fun e he => by rw [he]; rfl⟩
 by_cases h5 : 5 = k
 ·subst h5; exact .inl ⟨lm5, rfl, rfl, fun e he => by rw [he]; rfl⟩
 refine .inr ⟨by rw [if_neg h1, if_neg h2, if_neg h3, if_neg h4, if_neg h5]; rfl, by rw [if_neg h1, if_neg h2, if_neg h3, if_neg h4, if_neg h5]; rfl, fun e he => ?_⟩
 rw [he, if_neg (by simpa using Ne.symm h1), if_neg (by simpa using Ne.symm h2), if_neg (by simpa using Ne.symm h3), if_neg (by simpa using Ne.symm h4), if_neg (by simpa using Ne.symm h5)]
theorem ix3_0 (a b c : Int) (w : World) : (Instr.index 162 (.agg #[.int .i64 a, .int .i64 b, .int .i64 c]) (.int .i64 0)).run Tryz.prog w = .ok (.int .i64 a) w := by kernel_rfl
theorem ix3_1 (a b c : Int) (w : World) : (Instr.index 162 (.agg #[.int .i64 a, .int .i64 b, .int .i64 c]) (.int .i64 1)).run Tryz.prog w = .ok (.int .i64 b) w := by kernel_rfl
theorem ix3_2 (a b c : Int) (w : World) : (Instr.index 162 (.agg #[.int .i64 a, .int .i64 b, .int .i64 c]) (.int .i64 2)).run Tryz.prog w = .ok (.int .i64 c) w := by kernel_rfl
theorem eformed_ok (e : En) (x : Lm) (w : World) (hkv : limV e.kind = lmV x) (hkb : limK e.kind = true) :
  Calls Tryz.prog 42 #[.agg #[.int .i64 e.time, .int .i64 e.kind, .int .i64 e.a, .int .i64 e.b, .int .i64 e.c, .int .u64 e.dg]] w fun v w' => v = .returned (.bool (limB x e)) ∧ Below w.heap.size w w' := by
 obtain ⟨w0, hw0⟩ : ∃ w0, w0 = w.alloc (.cells #[.int .i64 e.time, .int .i64 e.kind, .int .i64 e.a, .int .i64 e.b, .int .i64 e.c, .int .u64 e.dg] 50) := ⟨_, rfl⟩
 have hB0 : Below w.heap.size w w0 := by rw [hw0]; exact Qg _
 have hX0 : w0.heap[w.heap.size]? = some (.cells #[.int .i64 e.time, .int .i64 e.kind, .int .i64 e.a, .int .i64 e.b, .int .i64 e.c, .int .u64 e.dg] 50) := by rw [hw0]; exact heap_alloc_new _ _
 have HKV := Qa (show limV e.kind = .agg #[.int .i64 x.l0, .int .i64 x.h0, .int .i64 x.l1, .int .i64 x.h1, .int .i64 x.l2, .int .i64 x.h2, .bool x.d] from hkv); clear hkv
 have HKB := Qa hkb; clear hkb
 have HBB := Qa hB0; clear hB0
 go_enter Tryz.func42, Tryz.ntmps42
 go_wp2
 rw [← hw0]
 clear hw0
 have hc := Qb hX0
 have hlt0 := lt_of_block hX0
 have hne0 : ¬ w0.heap.size = w.heap.size := Nat.ne_of_gt hlt0
 have HX0 := Qa hX0; clear hX0
 go_region_held3 (fun w' => w'.cell? ⟨w.heap.size, 1, none⟩ = some (.int .i64 e.kind)) (first | (simp [hc]; done) | (simp [hc2]; done) | (simp [hc, World.cell?_alloc_some, World.cell?_setCell_far, hne0]; done) | (simp [hc2, World.cell?_alloc_some, World.cell?_setCell_far, hne0]; done)) (first | (go_at_call 75; refine (limits_any _).mono ?_; rintro e2 w2 ⟨r, rfl, hm, hb, hr⟩; have HX2 := Qa (QG HX0.out (by first | exact (Below.refl _ _).drew | exact ((Below.refl _ _).alloc (Nat.le_refl _) _).drew) hb); have hc2 := Qb HX2.out; have hlt2 := lt_of_block HX2.out; (first | (have HX3 := Qa (show w2.heap[w0.heap.size]? = some (.cells #[.int .i64 0, .int .i64 0, .int .i64 0, .int .i64 0, .int .i64 0, .int .i64 0, .bool false] 158) from QG (heap_alloc_new w0 _) (Below.refl _ _).drew hb); have hc3 := Qb HX3.out; have hf3 := Qe HX3.out; have hlt3 := lt_of_block HX3.out) | skip); have hk1 := Jy hm e.kind; rw [HKV.out, HKB.out] at hk1; have hk2 := fun o => Jy (hm.below ((Below.refl _ _).alloc (Nat.le_refl _) o)) e.kind; simp only [HKV.out, HKB.out] at hk2; have HM := Qa hm; clear hm; have HBW := Qa (HBB.out.trans ((Below.trans (show Below w0.heap.size w0 _ by first | exact (Below.refl _ _).drew | exact ((Below.refl _ _).alloc (Nat.le_refl _) _).drew) (hb.mono (by simp))).mono HBB.out.size)); clear hb hr))
 all_goals first
  | (have HL := Qa (show (((((((w2.setCell ⟨w0.heap.size, 0, none⟩ (.int .i64 x.l0)).setCell ⟨w0.heap.size, 1, none⟩ (.int .i64 x.h0)).setCell ⟨w0.heap.size, 2, none⟩ (.int .i64 x.l1)).setCell ⟨w0.heap.size, 3, none⟩ (.int .i64 x.h1)).setCell ⟨w0.heap.size, 4, none⟩ (.int .i64 x.l2)).setCell ⟨w0.heap.size, 5, none⟩ (.int .i64 x.h2)).setCell ⟨w0.heap.size, 6, none⟩ (.bool x.d)).heap[w0.heap.size]? = some (.cells #[.int .i64 x.l0, .int .i64 x.h0, .int .i64 x.l1, .int .i64 x.h1, .int .i64 x.l2, .int .i64 x.h2, .bool x.d] 158) from QB HX3.out _ _ _ _ _ _ _); have HE := Qa (show (((((((w2.setCell ⟨w0.heap.size, 0, none⟩ (.int .i64 x.l0)).setCell ⟨w0.heap.size, 1, none⟩ (.int .i64 x.h0)).setCell ⟨w0.heap.size, 2, none⟩ (.int .i64 x.l1)).setCell ⟨w0.heap.size, 3, none⟩ (.int .i64 x.h1)).setCell ⟨w0.heap.size, 4, none⟩ (.int .i64 x.l2)).setCell ⟨w0.heap.size, 5, none⟩ (.int .i64 x.h2)).setCell ⟨w0.heap.size, 6, none⟩ (.bool x.d)).heap[w.heap.size]? = some (.cells #[.int .i64 e.time, .int .i64 e.kind, .int .i64 e.a, .int .i64 e.b, .int .i64 e.c, .int .u64 e.dg] 50) from Yr HX2.out (by omega) _ _ _ _ _ _ _); have HBV := Qa (show Below w.heap.size w (((((((w2.setCell ⟨w0.heap.size, 0, none⟩ (.int .i64 x.l0)).setCell ⟨w0.heap.size, 1, none⟩ (.int .i64 x.h0)).setCell ⟨w0.heap.size, 2, none⟩ (.int .i64 x.l1)).setCell ⟨w0.heap.size, 3, none⟩ (.int .i64 x.h1)).setCell ⟨w0.heap.size, 4, none⟩ (.int .i64 x.l2)).setCell ⟨w0.heap.size, 5, none⟩ (.int .i64 x.h2)).setCell ⟨w0.heap.size, 6, none⟩ (.bool x.d)) from Qs HBW.out (by omega) _ _ _ _ _ _ _); generalize ((((((w2.setCell ⟨w0.heap.size, 0, none⟩ (.int .i64 x.l0)).setCell ⟨w0.heap.size, 1, none⟩ (.int .i64 x.h0)).setCell ⟨w0.heap.size, 2, none⟩ (.int .i64 x.l1)).setCell ⟨w0.heap.size, 3, none⟩ (.int .i64 x.h1)).setCell ⟨w0.heap.size, 4, none⟩ (.int .i64 x.l2)).setCell ⟨w0.heap.size, 5, none⟩ (.int .i64 x.h2)).setCell ⟨w0.heap.size, 6, none⟩ (.bool x.d) = V at *; generalize w0.heap.size = bk at *)
  | (have HL := Qa (heap_alloc_new w2 (.cells #[.int .i64 x.l0, .int .i64 x.h0, .int .i64 x.l1, .int .i64 x.h1, .int .i64 x.l2, .int .i64 x.h2, .bool x.d] 158)); have HE := Qa (Qj HX2.out (.cells #[.int .i64 x.l0, .int .i64 x.h0, .int .i64 x.l1, .int .i64 x.h1, .int .i64 x.l2, .int .i64 x.h2, .bool x.d] 158)); have HBV := Qa (HBW.out.alloc HBW.out.size (.cells #[.int .i64 x.l0, .int .i64 x.h0, .int .i64 x.l1, .int .i64 x.h1, .int .i64 x.l2, .int .i64 x.h2, .bool x.d] 158)); generalize w2.alloc (.cells #[.int .i64 x.l0, .int .i64 x.h0, .int .i64 x.l1, .int .i64 x.h1, .int .i64 x.l2, .int .i64 x.h2, .bool x.d] 158) = V at *; generalize w2.heap.size = bk at *)
 all_goals
  clear hc hc2 hk1 hk2 HKV HKB HBB
  have hcl := Qb HL.out; have hce := Qb HE.out
  obtain ⟨d, hd⟩ : ∃ d, x.d = d := ⟨_, rfl⟩
  have HD := Qa (show limB x e = (inB e.time 0 1000000000 && (d || e.dg == 0) && inB e.a x.l0 x.h0 && inB e.b x.l1 x.h1 && inB e.c x.l2 x.h2) by rw [← hd]; rfl)
  rw [hd] at hcl
  clear hd
  by_cases ht0 : e.time < 0
  ·have HF := Qa (show limB x e = false by rw [HD.out, (Zf _ _ _).2 (.inl ht0)]; rfl)
   clear HD
   go_wp2
   go_ret
   exact ⟨Qf HF.out.symm, HBV.out⟩
  by_cases ht1 : e.time > 1000000000
  ·have HF := Qa (show limB x e = false by rw [HD.out, (Zf _ _ _).2 (.inr ht1)]; rfl)
   clear HD
   go_wp2
   go_ret
   exact ⟨Qf HF.out.symm, HBV.out⟩
  rw [(Zg e.time 0 1000000000).2 (by omega)] at HD
  cases d
  ·cases hz : (e.dg == 0)
   ·have HF := Qa (show limB x e = false by rw [HD.out, hz]; rfl)
    clear HD
    go_wp2
    go_ret
    exact ⟨Qf HF.out.symm, HBV.out⟩
   ·rw [hz] at HD
    have i0 := ix3_0 e.a e.b e.c; have i1 := ix3_1 e.a e.b e.c; have i2 := ix3_2 e.a e.b e.c; go_wp2; go_loopw [5, 6, 43] (fun _ _ t43 wr => ∃ k : Nat, k ≤ 3 ∧ t43 = .int .i64 k ∧ wr = V ∧ (0 < k → inB e.a x.l0 x.h0 = true) ∧ (1 < k → inB e.b x.l1 x.h1 = true) ∧ (2 < k → inB e.c x.l2 x.h2 = true)) (fun _ _ t43 _ => 3 - (intOf t43).toNat); (case atStart => exact ⟨0, by omega, rfl, rfl, fun h => by omega, fun h => by omega, fun h => by omega⟩); (case round => (obtain ⟨k, hk, rfl, rfl, q0, q1, q2⟩ := hrel; (obtain rfl | rfl | rfl | rfl : k = 0 ∨ k = 1 ∨ k = 2 ∨ k = 3 := by omega); (· by_cases hA : e.a < x.l0; (· have HF := Qa (show limB x e = false by rw [HD.out, (Zf _ _ _).2 (.inl hA)]; simp); clear HD q0 q1 q2; go_wp2; go_ret; exact ⟨Qf HF.out.symm, HBV.out⟩); (· by_cases hB : x.h0 < e.a; (· have HF := Qa (show limB x e = false by rw [HD.out, (Zf e.a _ _).2 (.inr hB)]; simp); clear HD q0 q1 q2; go_wp2; go_ret; exact ⟨Qf HF.out.symm, HBV.out⟩); (· go_wp2; exact ⟨⟨1, by omega, by go_num, by first | rfl | trivial, (fun _ => (Zg _ _ _).2 ⟨Int.not_lt.1 hA, Int.not_lt.1 hB⟩), (fun h => by omega), (fun h => by omega)⟩, by simp [intOf]⟩))); (· by_cases hA : e.b < x.l1; (· have HF := Qa (show limB x e = false by rw [HD.out, (Zf _ _ _).2 (.inl hA)]; simp); clear HD q0 q1 q2; go_wp2; go_ret; exact ⟨Qf HF.out.symm, HBV.out⟩); (· by_cases hB : x.h1 < e.b; (· have HF := Qa (show limB x e = false by rw [HD.out, (Zf e.b _ _).2 (.inr hB)]; simp); clear HD q0 q1 q2; go_wp2; go_ret; exact ⟨Qf HF.out.symm, HBV.out⟩); (· go_wp2; exact ⟨⟨2, by omega, by go_num, by first | rfl | trivial, (fun _ => q0 (by omega)), (fun _ => (Zg _ _ _).2 ⟨Int.not_lt.1 hA, Int.not_lt.1 hB⟩), (fun h => by omega)⟩, by simp [intOf]⟩))); (· by_cases hA : e.c < x.l2; (· have HF := Qa (show limB x e = false by rw [HD.out, (Zf _ _ _).2 (.inl hA)]; simp); clear HD q0 q1 q2; go_wp2; go_ret; exact ⟨Qf HF.out.symm, HBV.out⟩); (· by_cases hB : x.h2 < e.c; (· have HF := Qa (show limB x e = false by rw [HD.out, (Zf e.c _ _).2 (.inr hB)]; simp); clear HD q0 q1 q2; go_wp2; go_ret; exact ⟨Qf HF.out.symm, HBV.out⟩); (· go_wp2; exact ⟨⟨3, by omega, by go_num, by first | rfl | trivial, (fun _ => q0 (by omega)), (fun _ => q1 (by omega)), (fun _ => (Zg _ _ _).2 ⟨Int.not_lt.1 hA, Int.not_lt.1 hB⟩)⟩, by simp [intOf]⟩))); (· have HF := Qa (show limB x e = true by rw [HD.out, q0 (by omega), q1 (by omega), q2 (by omega)]; rfl); clear HD q0 q1 q2; go_wp2; go_ret; exact ⟨Qf HF.out.symm, HBV.out⟩)))
  ·have i0 := ix3_0 e.a e.b e.c; have i1 := ix3_1 e.a e.b e.c; have i2 := ix3_2 e.a e.b e.c; go_wp2; go_loopw [5, 6, 43] (fun _ _ t43 wr => ∃ k : Nat, k ≤ 3 ∧ t43 = .int .i64 k ∧ wr = V ∧ (0 < k → inB e.a x.l0 x.h0 = true) ∧ (1 < k → inB e.b x.l1 x.h1 = true) ∧ (2 < k → inB e.c x.l2 x.h2 = true)) (fun _ _ t43 _ => 3 - (intOf t43).toNat); (case atStart => exact ⟨0, by omega, rfl, rfl, fun h => by omega, fun h => by omega, fun h => by omega⟩); (case round => (obtain ⟨k, hk, rfl, rfl, q0, q1, q2⟩ := hrel; (obtain rfl | rfl | rfl | rfl : k = 0 ∨ k = 1 ∨ k = 2 ∨ k = 3 := by omega); (· by_cases hA : e.a < x.l0; (· have HF := Qa (show limB x e = false by rw [HD.out, (Zf _ _ _).2 (.inl hA)]; simp); clear HD q0 q1 q2; go_wp2; go_ret; exact ⟨Qf HF.out.symm, HBV.out⟩); (· by_cases hB : x.h0 < e.a; (· have HF := Qa (show limB x e = false by rw [HD.out, (Zf e.a _ _).2 (.inr hB)]; simp); clear HD q0 q1 q2; go_wp2; go_ret; exact ⟨Qf HF.out.symm, HBV.out⟩); (· go_wp2; exact ⟨⟨1, by omega, by go_num, by first | rfl | trivial, (fun _ => (Zg _ _ _).2 ⟨Int.not_lt.1 hA, Int.not_lt.1 hB⟩), (fun h => by omega), (fun h => by omega)⟩, by simp [intOf]⟩))); (· by_cases hA : e.b < x.l1; (· have HF := Qa (show limB x e = false by rw [HD.out, (Zf _ _ _).2 (.inl hA)]; simp); clear HD q0 q1 q2; go_wp2; go_ret; exact ⟨Qf HF.out.symm, HBV.out⟩); (· by_cases hB : x.h1 < e.b; (· have HF := Qa (show limB x e = false by rw [HD.out, (Zf e.b _ _).2 (.inr hB)]; simp); clear HD q0 q1 q2; go_wp2; go_ret; exact ⟨Qf HF.out.symm, HBV.out⟩); (· go_wp2; exact ⟨⟨2, by omega, by go_num, by first | rfl | trivial, (fun _ => q0 (by omega)), (fun _ => (Zg _ _ _).2 ⟨Int.not_lt.1 hA, Int.not_lt.1 hB⟩), (fun h => by omega)⟩, by simp [intOf]⟩))); (· by_cases hA : e.c < x.l2; (· have HF := Qa (show limB x e = false by rw [HD.out, (Zf _ _ _).2 (.inl hA)]; simp); clear HD q0 q1 q2; go_wp2; go_ret; exact ⟨Qf HF.out.symm, HBV.out⟩); (· by_cases hB : x.h2 < e.c; (· have HF := Qa (show limB x e = false by rw [HD.out, (Zf e.c _ _).2 (.inr hB)]; simp); clear HD q0 q1 q2; go_wp2; go_ret; exact ⟨Qf HF.out.symm, HBV.out⟩); (· go_wp2; exact ⟨⟨3, by omega, by go_num, by first | rfl | trivial, (fun _ => q0 (by omega)), (fun _ => q1 (by omega)), (fun _ => (Zg _ _ _).2 ⟨Int.not_lt.1 hA, Int.not_lt.1 hB⟩)⟩, by simp [intOf]⟩))); (· have HF := Qa (show limB x e = true by rw [HD.out, q0 (by omega), q1 (by omega), q2 (by omega)]; rfl); clear HD q0 q1 q2; go_wp2; go_ret; exact ⟨Qf HF.out.symm, HBV.out⟩)))
theorem eformed_bad (e : En) (w : World) (hkv : limV e.kind = lmV lm0) (hkb : limK e.kind = false) :
  Calls Tryz.prog 42 #[.agg #[.int .i64 e.time, .int .i64 e.kind, .int .i64 e.a, .int .i64 e.b, .int .i64 e.c, .int .u64 e.dg]] w fun v w' => v = .returned (.bool false) ∧ Below w.heap.size w w' := by
 obtain ⟨w0, hw0⟩ : ∃ w0, w0 = w.alloc (.cells #[.int .i64 e.time, .int .i64 e.kind, .int .i64 e.a, .int .i64 e.b, .int .i64 e.c, .int .u64 e.dg] 50) := ⟨_, rfl⟩
 have hB0 : Below w.heap.size w w0 := by rw [hw0]; exact Qg _
 have hX0 : w0.heap[w.heap.size]? = some (.cells #[.int .i64 e.time, .int .i64 e.kind, .int .i64 e.a, .int .i64 e.b, .int .i64 e.c, .int .u64 e.dg] 50) := by rw [hw0]; exact heap_alloc_new _ _
 have HKV := Qa (show limV e.kind = .agg #[.int .i64 0, .int .i64 0, .int .i64 0, .int .i64 0, .int .i64 0, .int .i64 0, .bool false] from hkv); clear hkv
 have HKB := Qa hkb; clear hkb
 have HBB := Qa hB0; clear hB0
 go_enter Tryz.func42, Tryz.ntmps42
 go_wp2
 rw [← hw0]
 clear hw0
 have hc := Qb hX0
 have hlt0 := lt_of_block hX0
 have hne0 : ¬ w0.heap.size = w.heap.size := Nat.ne_of_gt hlt0
 have HX0 := Qa hX0; clear hX0
 go_region_held3 (fun w' => w'.cell? ⟨w.heap.size, 1, none⟩ = some (.int .i64 e.kind)) (first | (simp [hc]; done) | (simp [hc2]; done) | (simp [hc, World.cell?_alloc_some, World.cell?_setCell_far, hne0]; done) | (simp [hc2, World.cell?_alloc_some, World.cell?_setCell_far, hne0]; done)) (first | (go_at_call 75; refine (limits_any _).mono ?_; rintro e2 w2 ⟨r, rfl, hm, hb, hr⟩; have HX2 := Qa (QG HX0.out (by first | exact (Below.refl _ _).drew | exact ((Below.refl _ _).alloc (Nat.le_refl _) _).drew) hb); have hc2 := Qb HX2.out; have hlt2 := lt_of_block HX2.out; (first | (have HX3 := Qa (show w2.heap[w0.heap.size]? = some (.cells #[.int .i64 0, .int .i64 0, .int .i64 0, .int .i64 0, .int .i64 0, .int .i64 0, .bool false] 158) from QG (heap_alloc_new w0 _) (Below.refl _ _).drew hb); have hc3 := Qb HX3.out; have hf3 := Qe HX3.out; have hlt3 := lt_of_block HX3.out) | skip); have hk1 := Jy hm e.kind; rw [HKV.out, HKB.out] at hk1; have hk2 := fun o => Jy (hm.below ((Below.refl _ _).alloc (Nat.le_refl _) o)) e.kind; simp only [HKV.out, HKB.out] at hk2; have HM := Qa hm; clear hm; have HBW := Qa (HBB.out.trans ((Below.trans (show Below w0.heap.size w0 _ by first | exact (Below.refl _ _).drew | exact ((Below.refl _ _).alloc (Nat.le_refl _) _).drew) (hb.mono (by simp))).mono HBB.out.size)); clear hb hr))
 all_goals go_wp2
 all_goals go_ret
 all_goals refine ⟨rfl, ?_⟩
 all_goals first | (have hx3 := HX3.out; clear hx3; exact Qs HBW.out (by omega) (.int .i64 0) (.int .i64 0) (.int .i64 0) (.int .i64 0) (.int .i64 0) (.int .i64 0) (.bool false)) | exact HBW.out.alloc HBW.out.size (.cells #[.int .i64 0, .int .i64 0, .int .i64 0, .int .i64 0, .int .i64 0, .int .i64 0, .bool false] 158)
theorem eformed_any (e : En) (w : World) : Calls Tryz.prog 42 #[.agg #[.int .i64 e.time, .int .i64 e.kind, .int .i64 e.a, .int .i64 e.b, .int .i64 e.c, .int .u64 e.dg]] w fun v w' => v = .returned (.bool (Qt e)) ∧ Below w.heap.size w w' := by
 rcases limM_get e.kind with ⟨x, h1, h2, h3⟩ | ⟨h1, h2, h3⟩
 ·rw [h3 e rfl]; exact eformed_ok e x w h1 h2
 ·rw [h3 e rfl]; exact eformed_bad e w h1 h2
theorem eltLs : Elt Tryz.prog 163 37 1 24 liRow := ⟨Tryz.underlying163, ⟨.slice none 0 0, by kernel_rfl, rfl⟩, by decide, by decide, fun _ => rfl, fun x u hu => by simp [liRow] at hu; subst hu; rfl⟩
def BoxI (w : World) (x : Li) : Prop := ∃ g, x.a = some ⟨g, 0, none⟩ ∧ w.heap[g]? = some (.cells (x.l.map fun n => Value.int .i64 n).toArray 3 (0, 0))
theorem BoxI.at {w : World} {x : Li} (h : BoxI w x) : InAt w x.a x.l := by
 obtain ⟨g, e, hg⟩ := h
 rw [e]
 intro i r hr
 rw [List.getElem?_map] at hr
 cases hx : x.l[i]? with
 | none => rw [hx] at hr; cases hr
 | some n =>
  rw [hx] at hr
  cases hr
  refine ⟨g, 0, rfl, Qd hg, rfl, fun j v hv => ?_⟩
  cases j with
  | zero =>
   simp only [inRow, List.getElem?_cons_zero, Option.some.injEq] at hv
   subst hv
   rw [World.cell?, hg]
   simp [hx]
  | succ j => simp [inRow] at hv
theorem BoxI.below {w w' : World} {x : Li} (h : BoxI w x) (hb : Below w.heap.size w w') : BoxI w' x := by
 obtain ⟨g, e, hg⟩ := h; exact ⟨g, e, Qc hg hb⟩
theorem BoxI.grown {w w' : World} {x : Li} {B : Nat} {v : Value} {rows : List (List Value)} (h : BoxI w x) (ho : OwnR w B 37 1 v rows) (hg : w.grownBy w' v.ownBlock) : BoxI w' x := by
 obtain ⟨g, e, hx⟩ := h
 refine ⟨g, e, (hg.block g (Qd hx) fun e => ?_).trans hx⟩
 obtain ⟨cur, hc⟩ := ho.isCells e.symm
 rw [hx] at hc; cases hc
theorem chain_any (l : Lg) (a : Option Addr) (cap : Nat) (w : World) (hl : l.es.length ≤ 5000) (hst : 0 ≤ l.st ∧ l.st ≤ 1000000) (hok : ∀ e ∈ l.es, Qt e = true ∧ e.wide) (hE : EnvP w) (ha : EnAt w a l.es) :
  Calls Tryz.prog 44 #[.agg #[.int .i64 l.st, .slice a l.es.length cap, .int .u64 l.ch]] w fun e w' => e = .returned (.int .u64 (Qr l.st l.es)) ∧ Below w.heap.size w w' := by
 have HX := Qa (heap_alloc_new w (.cells #[.int .i64 l.st, .slice a l.es.length cap, .int .u64 l.ch] 89))
 have HB := Qa (Qg (w := w) (.cells #[.int .i64 l.st, .slice a l.es.length cap, .int .u64 l.ch] 89))
 have HA := Qa ha; have HE := Qa hE
 clear ha hE
 go_enter Tryz.func44, Tryz.ntmps44
 by_cases h0 : l.es = []
 ·have hz : ((l.es.length : Int) == 0) = true := by rw [h0]; rfl
  have HC := Qa (show Qr l.st l.es = 0 by unfold Qr; rw [if_pos h0])
  clear h0
  go_wp2
  go_ret
  exact ⟨by rw [HC.out]; rfl, HB.out⟩
 ·have hz : ((l.es.length : Int) == 0) = false := by rw [beq_eq_false_iff_ne]; have := List.length_pos_iff.2 h0; omega
  have HC := Qa (show Qr l.st l.es = ZD ([l.st] :: l.es.map QL) by unfold Qr; rw [if_neg h0])
  clear h0
  go_upto_region 3 with (fail)
  generalize w.alloc (.cells #[.int .i64 l.st, .slice a l.es.length cap, .int .u64 l.ch] 89) = W at *
  have hc := Qb HX.out
  go_upto_region 4 with (fail)
  clear hc
  have HX2 := Qa (Qj (Qj HX.out (.cells #[.int .i64 l.st] 3)) (.cells #[.slice (some ⟨W.heap.size, 0, none⟩) 1 1] 37))
  have HB2 := Qa ((HB.out.alloc HB.out.size (.cells #[.int .i64 l.st] 3)).alloc (by have := HB.out.size; simp; omega) (.cells #[.slice (some ⟨W.heap.size, 0, none⟩) 1 1] 37))
  have hg1 : ((W.alloc (.cells #[.int .i64 l.st] 3)).alloc (.cells #[.slice (some ⟨W.heap.size, 0, none⟩) 1 1] 37)).heap[W.heap.size]? = some (.cells #[.int .i64 l.st] 3) := Qj (heap_alloc_new _ _) _
  have hg2 : ((W.alloc (.cells #[.int .i64 l.st] 3)).alloc (.cells #[.slice (some ⟨W.heap.size, 0, none⟩) 1 1] 37)).heap[W.heap.size + 1]? = some (.cells #[.slice (some ⟨W.heap.size, 0, none⟩) 1 1] 37) := by
   have h := heap_alloc_new (W.alloc (.cells #[.int .i64 l.st] 3)) (.cells #[.slice (some ⟨W.heap.size, 0, none⟩) 1 1] 37)
   rwa [show (W.alloc (.cells #[.int .i64 l.st] 3)).heap.size = W.heap.size + 1 by simp] at h
  have hwl := Qd HX.out
  have hbs : W.heap.size ≤ ((W.alloc (.cells #[.int .i64 l.st] 3)).alloc (.cells #[.slice (some ⟨W.heap.size, 0, none⟩) 1 1] 37)).heap.size := by simp; omega
  generalize (W.alloc (.cells #[.int .i64 l.st] 3)).alloc (.cells #[.slice (some ⟨W.heap.size, 0, none⟩) 1 1] 37) = W2 at *
  have HO2 := Qa (show OwnR W2 W.heap.size 37 1 (.slice (some ⟨W.heap.size + 1, 0, none⟩) 1 1) ([(⟨[l.st], some ⟨W.heap.size, 0, none⟩, 1⟩ : Li)].map liRow) from ⟨fun r hr => by obtain ⟨y, _, rfl⟩ := List.mem_map.1 hr; rfl, rfl, .inr ⟨W.heap.size + 1, 1, #[.slice (some ⟨W.heap.size, 0, none⟩) 1 1], rfl, by omega, hg2, Nat.le_refl _, by unfold maxLen; omega, rfl, rfl⟩⟩)
  have HI2 := Qa (show ∀ x ∈ [(⟨[l.st], some ⟨W.heap.size, 0, none⟩, 1⟩ : Li)], BoxI W2 x from fun x hx => by rw [List.mem_singleton] at hx; subst hx; exact ⟨_, rfl, hg1⟩)
  clear hg1 hg2
  generalize W.heap.size = B0 at *
  clear HB HX
  have hc := Qb HX2.out
  go_wp2
  clear hc
  have hwl2 : w.heap.size < B0 := hwl
  go_loopw [3, 5, 20] (fun t3 _ t20 wr => ∃ (k : Nat) (ls : List Li), k ≤ l.es.length ∧ t20 = .int .i64 k ∧ Hid (ls.map Li.l = [l.st] :: (l.es.take k).map QL) ∧ OwnR wr B0 37 1 t3 (ls.map liRow) ∧ (∀ x ∈ ls, BoxI wr x) ∧ wr.heap[w.heap.size]? = some (.cells #[.int .i64 l.st, .slice a l.es.length cap, .int .u64 l.ch] 89) ∧ Below w.heap.size w wr ∧ B0 ≤ wr.heap.size) (fun _ _ t20 _ => l.es.length - (intOf t20).toNat)
  case atStart => exact ⟨0, _, Nat.zero_le _, rfl, Qa rfl, HO2.out, HI2.out, HX2.out, HB2.out, hbs⟩
  case round =>
   clear HO2 HI2 HX2 HB2
   obtain ⟨k, ls, hk, rfl, HL, ho, hi, hx, hb, hB⟩ := hrel
   have HO := Qa ho; have HI := Qa hi; have HX := Qa hx; have HB := Qa hb
   clear ho hi hx hb
   by_cases hlt : k < l.es.length
   ·obtain ⟨b, off, ea, d0, d1, d2, d3, d4, d5⟩ := (HA.out.below HB.out).get k hlt
    have hki : (k : Int) < (l.es.length : Int) := by omega
    have hwk : IntKind.i64.wrap ((k : Int) + 1) = (k : Int) + 1 := IntWalk.i64_in _ (by omega)
    obtain ⟨hok1, hok2⟩ := hok l.es[k] (List.getElem_mem hlt)
    have HL2 := Qa (show ls.map Li.l ++ [QL l.es[k]] = [l.st] :: (l.es.take (k + 1)).map QL by rw [HL.out, List.take_succ_eq_append_getElem hlt, List.map_append]; rfl)
    have hll : ls.length ≤ 5001 := by
     have h := congrArg List.length HL.out
     simp at h; omega
    subst ea
    clear HL
    generalize l.es[k] = e at *
    have hlo := low32 hok2.1 hok2.2
    have hd0 := hok2.1; have hd1 := hok2.2
    have hs1 : IntKind.i64.wrap (e.dg / 4294967296) = e.dg / 4294967296 := IntWalk.i64_in _ (by omega)
    have hs2 : IntKind.i64.wrap (e.dg % 4294967296) = e.dg % 4294967296 := IntWalk.i64_in _ (by omega)
    go_upto_region 7 with (fail)
    clear d0 d1 d2 d3 d4 d5
    have hx1 := heap_alloc_new wr (.cells #[.int .i64 e.time, .int .i64 e.kind, .int .i64 e.a, .int .i64 e.b, .int .i64 e.c, .int .u64 e.dg] 50)
    have hb1 := Qg (w := wr) (.cells #[.int .i64 e.time, .int .i64 e.kind, .int .i64 e.a, .int .i64 e.b, .int .i64 e.c, .int .u64 e.dg] 50)
    have HX1 := bk HX hb1; have HO1 := Qa (HO.out.below hb1); have HI1 := Qa (fun x hx => (HI.out x hx).below hb1 : ∀ x ∈ ls, BoxI _ x); have HB1 := Qa (HB.out.alloc HB.out.size (.cells #[.int .i64 e.time, .int .i64 e.kind, .int .i64 e.a, .int .i64 e.b, .int .i64 e.c, .int .u64 e.dg] 50))
    have hB1 := Nat.le_trans hB hb1.size
    clear hb1
    generalize wr.alloc (.cells #[.int .i64 e.time, .int .i64 e.kind, .int .i64 e.a, .int .i64 e.b, .int .i64 e.c, .int .u64 e.dg] 50) = w1 at *
    generalize wr.heap.size = eb at *
    have hc1 := Qb hx1
    have HX3 := Qa (Qj (Qj HX1.out (.cells #[.int .i64 e.time, .int .i64 e.kind, .int .i64 e.a, .int .i64 e.b, .int .i64 e.c, .int .i64 (e.dg / 4294967296), .int .i64 (e.dg % 4294967296)] 3)) (.cells #[.slice (some ⟨w1.heap.size, 0, none⟩) 7 7] 37))
    have hb3 : Below w1.heap.size w1 ((w1.alloc (.cells #[.int .i64 e.time, .int .i64 e.kind, .int .i64 e.a, .int .i64 e.b, .int .i64 e.c, .int .i64 (e.dg / 4294967296), .int .i64 (e.dg % 4294967296)] 3)).alloc (.cells #[.slice (some ⟨w1.heap.size, 0, none⟩) 7 7] 37)) := (Qg _).alloc (by simp) _
    have HO3 := Qa (HO1.out.below hb3)
    have HI3 := Qa (show ∀ x ∈ ls ++ [(⟨QL e, some ⟨w1.heap.size, 0, none⟩, 7⟩ : Li)], BoxI ((w1.alloc (.cells #[.int .i64 e.time, .int .i64 e.kind, .int .i64 e.a, .int .i64 e.b, .int .i64 e.c, .int .i64 (e.dg / 4294967296), .int .i64 (e.dg % 4294967296)] 3)).alloc (.cells #[.slice (some ⟨w1.heap.size, 0, none⟩) 7 7] 37)) x from fun x hx => by
     rcases List.mem_append.1 hx with hx | hx
     ·exact (HI1.out x hx).below hb3
     ·rw [List.mem_singleton] at hx; subst hx; exact ⟨_, rfl, Qj (heap_alloc_new _ _) _⟩)
    have HB3 := bu HB1 hb3
    have hB3 := Nat.le_trans hB1 hb3.size
    have hwb : w.heap.size < ((w1.alloc (.cells #[.int .i64 e.time, .int .i64 e.kind, .int .i64 e.a, .int .i64 e.b, .int .i64 e.c, .int .i64 (e.dg / 4294967296), .int .i64 (e.dg % 4294967296)] 3)).alloc (.cells #[.slice (some ⟨w1.heap.size, 0, none⟩) 7 7] 37)).heap.size := Nat.lt_of_lt_of_le hwl2 hB3
    have HSl := Qa (show SlAt ((w1.alloc (.cells #[.int .i64 e.time, .int .i64 e.kind, .int .i64 e.a, .int .i64 e.b, .int .i64 e.c, .int .i64 (e.dg / 4294967296), .int .i64 (e.dg % 4294967296)] 3)).alloc (.cells #[.slice (some ⟨w1.heap.size, 0, none⟩) 7 7] 37)) (some ⟨w1.heap.size + 1, 0, none⟩) 1 ([(⟨QL e, some ⟨w1.heap.size, 0, none⟩, 7⟩ : Li)].map liRow) from by
     have h := eltLs.new (w1.alloc (.cells #[.int .i64 e.time, .int .i64 e.kind, .int .i64 e.a, .int .i64 e.b, .int .i64 e.c, .int .i64 (e.dg / 4294967296), .int .i64 (e.dg % 4294967296)] 3)) (⟨QL e, some ⟨w1.heap.size, 0, none⟩, 7⟩ : Li) [.slice (some ⟨w1.heap.size, 0, none⟩) 7 7] 37 rfl
     rwa [show (w1.alloc (.cells #[.int .i64 e.time, .int .i64 e.kind, .int .i64 e.a, .int .i64 e.b, .int .i64 e.c, .int .i64 (e.dg / 4294967296), .int .i64 (e.dg % 4294967296)] 3)).heap.size = w1.heap.size + 1 by simp] at h)
    clear hb3
    go_wp2_with (at_builtin; refine appE eltLs rfl (.tmp 24) (.tmp 44) rfl B0 _ ls rfl HO3.out _ _ _ [(⟨QL e, some ⟨w1.heap.size, 0, none⟩, 7⟩ : Li)] rfl rfl (fun e => by cases e) HSl.out (by simp; omega) hB3 ?_; intro v5 w5 ho5 hg5; have HO5 := Qa ho5; have HI5 := Qa (fun x hx => (HI3.out x hx).grown HO3.out hg5 : ∀ x ∈ ls ++ [(⟨QL e, some ⟨w1.heap.size, 0, none⟩, 7⟩ : Li)], BoxI w5 x); have HX5 := Qa ((hg5.block _ (Qd HX3.out) (fun e => by have := (HO3.out.lt _ e.symm).1; omega)).trans HX3.out); have HB5 := Qa (HB3.out.grown hg5 HB3.out.size (fun k e => by have := (HO3.out.lt k e).1; omega)); have hB5 := Nat.le_trans hB3 hg5.size; clear ho5 hg5)
    exact ⟨⟨k + 1, _, by omega, by go_num, Qa (by rw [List.map_append]; exact HL2.out), HO5.out, HI5.out, HX5.out, HB5.out, hB5⟩, by simp [intOf]; omega⟩
   ·obtain rfl : k = l.es.length := by omega
    rw [List.take_length] at HL
    obtain ⟨a3, c3, e3, _, hs3⟩ := HO.out.slAt
    rw [List.length_map] at e3
    subst e3
    have hlsl : ls.length ≤ 5001 := by
     have h := congrArg List.length HL.out
     simp at h; omega
    have hall : ∀ x ∈ ls, x.l ≠ [] ∧ x.l.length ≤ 900 ∧ ∀ n ∈ x.l, 0 ≤ n ∧ n ≤ 9223372036854775807 := fun x hx => by
     have hm : x.l ∈ ls.map Li.l := List.mem_map.2 ⟨x, hx, rfl⟩
     rw [HL.out] at hm
     rcases List.mem_cons.1 hm with h | h
     ·rw [h]; exact ⟨by simp, by simp, fun n hn => by rw [List.mem_singleton] at hn; subst hn; omega⟩
     ·obtain ⟨e, he, h2⟩ := List.mem_map.1 h
      rw [← h2]; exact entInts_ok (hok e he).1 (hok e he).2
    have HCh := Qa (Chain_any a3 c3 ls wr (by omega) hall (HE.out.below HB.out) ⟨hs3, fun x hx => (HI.out x hx).at⟩)
    rw [HL.out, ← HC.out] at HCh
    clear hall hs3 HL
    go_wp2_with (go_at_call 76; refine HCh.out.mono ?_; rintro e w6 ⟨rfl, hb6⟩; have HB6 := bu HB hb6; clear hb6)
    go_ret
    exact ⟨rfl, HB6.out⟩
theorem right37_any (l : Lg) (a : Option Addr) (cap : Nat) (w : World) (hl : l.es.length ≤ 1000) (hok : ∀ e ∈ l.es, e.wide) (hE : EnvP w) (ha : EnAt w a l.es) :
  Calls Tryz.prog 41 #[.agg #[.int .i64 l.st, .slice a l.es.length cap, .int .u64 l.ch]] w fun e w' => e = .returned (.bool (Qw l)) ∧ Below w.heap.size w w' := by
 have HX := Qa (heap_alloc_new w (.cells #[.int .i64 l.st, .slice a l.es.length cap, .int .u64 l.ch] 89))
 have HB := Qa (Qg (w := w) (.cells #[.int .i64 l.st, .slice a l.es.length cap, .int .u64 l.ch] 89))
 have HA := Qa ha; have HE := Qa hE
 have HV := Qa (show Qw l = (inB l.st 1 1000000 && decide (l.es.length ≤ 5000) && QI none l.es && l.ch == Qr l.st l.es) from rfl)
 clear ha hE
 go_enter Tryz.func41, Tryz.ntmps41
 go_upto_region 1 with (fail)
 generalize w.alloc (.cells #[.int .i64 l.st, .slice a l.es.length cap, .int .u64 l.ch] 89) = W at *
 have hc := Qb HX.out
 have hlen : ¬ ((l.es.length : Int) > 5000) := by omega
 by_cases s0 : l.st < 1
 ·have HN := Qa (show Qw l = false by rw [HV.out, (Zf l.st _ _).2 (.inl s0)]; rfl)
  clear HV
  go_wp2
  go_ret
  exact ⟨Qf HN.out.symm, HB.out⟩
 by_cases s1 : l.st > 1000000
 ·have HN := Qa (show Qw l = false by rw [HV.out, (Zf l.st _ _).2 (.inr s1)]; rfl)
  clear HV
  go_wp2
  go_ret
  exact ⟨Qf HN.out.symm, HB.out⟩
 have HV2 := Qa (show Qw l = (QI none l.es && l.ch == Qr l.st l.es) by rw [HV.out, (Zg l.st _ _).2 (by omega), decide_eq_true (by omega)]; rfl)
 clear HV
 go_wp2
 clear hc
 go_loopw [3, 4, 26] (fun _ _ t26 wr => ∃ (k : Nat), k ≤ l.es.length ∧ t26 = .int .i64 k ∧ Hid (QI none l.es = QI (ZY l.es k) (l.es.drop k)) ∧ wr.heap[w.heap.size]? = some (.cells #[.int .i64 l.st, .slice a l.es.length cap, .int .u64 l.ch] 89) ∧ Below w.heap.size w wr) (fun _ _ t26 _ => l.es.length - (intOf t26).toNat)
 case atStart => exact ⟨0, Nat.zero_le _, rfl, Qa rfl, HX.out, HB.out⟩
 case round =>
  clear HX HB
  obtain ⟨k, hk, rfl, HK, hx, hb⟩ := hrel
  have HX := Qa hx; have HB := Qa hb
  clear hx hb
  have hc := Qb HX.out
  by_cases hlt : k < l.es.length
  ·have hAb := HA.out.below HB.out
   obtain ⟨b, off, ea, d0, d1, d2, d3, d4, d5⟩ := hAb.get k hlt
   have hki : (k : Int) < (l.es.length : Int) := by omega
   have hwk : IntKind.i64.wrap ((k : Int) + 1) = (k : Int) + 1 := IntWalk.i64_in _ (by omega)
   have HS := Qa (HK.out.trans (entsOk_step l.es k hlt))
   have HP := Qa (fun h0 : 0 < k => prevT_pos l.es k hlt h0)
   have hpd : ∀ h0 : 0 < k, wr.cell? ⟨b, off + (k - 1) * 6, none⟩ = some (.int .i64 (l.es[k - 1]'(by omega)).time) := fun h0 => by
    obtain ⟨b', off', ea', d0', _⟩ := hAb.get (k - 1) (by omega)
    rw [ea] at ea'; cases ea'
    exact d0'
   subst ea
   have HF := Qa (fun V => eformed_any l.es[k] V)
   generalize he : l.es[k] = e at *
   clear he HK
   go_upto_region 6 with (fail)
   clear hc d0 d1 d2 d3 d4 d5
   have hx1 := heap_alloc_new wr (.cells #[.int .i64 e.time, .int .i64 e.kind, .int .i64 e.a, .int .i64 e.b, .int .i64 e.c, .int .u64 e.dg] 50)
   have hb1 := Qg (w := wr) (.cells #[.int .i64 e.time, .int .i64 e.kind, .int .i64 e.a, .int .i64 e.b, .int .i64 e.c, .int .u64 e.dg] 50)
   have HX1 := bk HX hb1; have HB1 := Qa (HB.out.alloc HB.out.size (.cells #[.int .i64 e.time, .int .i64 e.kind, .int .i64 e.a, .int .i64 e.b, .int .i64 e.c, .int .u64 e.dg] 50))
   have hp1 : ∀ h0 : 0 < k, (wr.alloc (.cells #[.int .i64 e.time, .int .i64 e.kind, .int .i64 e.a, .int .i64 e.b, .int .i64 e.c, .int .u64 e.dg] 50)).cell? ⟨b, off + (k - 1) * 6, none⟩ = some (.int .i64 (l.es[k - 1]'(by omega)).time) := fun h0 => Qq (hpd h0) hb1
   clear hb1 hpd
   generalize wr.alloc (.cells #[.int .i64 e.time, .int .i64 e.kind, .int .i64 e.a, .int .i64 e.b, .int .i64 e.c, .int .u64 e.dg] 50) = w1 at *
   generalize wr.heap.size = eb at *
   have hc1 := Qb hx1; have hc0 := Qb HX1.out
   have g0 := cell_regrown (hc1 0); have g1 := cell_regrown (hc1 1); have g2 := cell_regrown (hc1 2); have g3 := cell_regrown (hc1 3); have g4 := cell_regrown (hc1 4); have g5 := cell_regrown (hc1 5); have g6 := cell_regrown (hc0 1)
   clear hc1 hc0
   cases hf : Qt e
   ·have HN := Qa (show Qw l = false by rw [HV2.out, HS.out, hf]; rfl)
    rw [hf] at HF
    clear hf HS HP hp1 HV2
    refine Qn (by kernel_rfl) (by kernel_rfl) ?_; (repeat (go_big_quiet_step ((go_at_call 42; refine Calls.regrown_of (HF.out _))))); refine wpQuiet_nil ?_; intro w10 hb
    clear g0 g1 g2 g3 g4 g5 g6
    go_wp2
    go_ret
    exact ⟨Qf HN.out.symm, HB1.out.trans (hb.mono HB1.out.size)⟩
   rw [hf] at HF
   rcases Nat.eq_zero_or_pos k with h0 | h0
   ·subst h0
    have HS2 := Qa (show QI none l.es = QI (ZY l.es (0 + 1)) (l.es.drop (0 + 1)) by rw [HS.out, hf]; rfl)
    clear hf HS HP hp1 HV2
    refine Qn (by kernel_rfl) (by kernel_rfl) ?_; (repeat (go_big_quiet_step ((go_at_call 42; refine Calls.regrown_of (HF.out _))))); refine wpQuiet_nil ?_; intro w10 hb
    clear g0 g1 g2 g3 g4 g5 g6
    go_wp2
    exact ⟨⟨1, by omega, rfl, HS2, Qc HX1.out hb, HB1.out.trans (hb.mono HB1.out.size)⟩, by simp [intOf]; omega⟩
   ·obtain ⟨j, rfl⟩ : ∃ j, k = j + 1 := ⟨k - 1, by omega⟩
    have hkm : IntKind.i64.wrap (((j + 1 : Nat) : Int) - 1) = (j : Int) := by rw [show ((j + 1 : Nat) : Int) - 1 = (j : Int) by omega]; exact IntWalk.i64_in _ (by omega)
    have hpos : decide ((0 : Int) < ((j + 1 : Nat) : Int)) = true := decide_eq_true (by omega)
    have hjl : (j : Int) < (l.es.length : Int) := by omega
    have hj0 : (0 : Int) ≤ (j : Int) := by omega
    have hp2 : w1.cell? ⟨b, off + j * 6, none⟩ = some (.int .i64 (l.es[j]'(by omega)).time) := hp1 h0
    have HP2 := Qa (show ZY l.es (j + 1) = some (l.es[j]'(by omega)).time from HP.out h0)
    clear HP hp1
    generalize (l.es[j]'(by omega)).time = pt at *
    have g7 := cell_regrown hp2
    have HS2 := Qa (show QI none l.es = (decide (pt ≤ e.time) && QI (ZY l.es (j + 1 + 1)) (l.es.drop (j + 1 + 1))) by rw [HS.out, hf, HP2.out]; rfl)
    clear HS HP2 hf hp2
    by_cases hlt2 : e.time < pt
    ·have HN := Qa (show Qw l = false by rw [HV2.out, HS2.out, decide_eq_false (by omega)]; rfl)
     have hdt : decide (e.time < pt) = true := decide_eq_true hlt2
     clear HV2 HS2
     refine Qn (by kernel_rfl) (by kernel_rfl) ?_; (repeat (go_big_quiet_step ((go_at_call 42; refine Calls.regrown_of (HF.out _))))); refine wpQuiet_nil ?_; intro w10 hb
     clear g0 g1 g2 g3 g4 g5 g6 g7
     go_wp2
     go_ret
     exact ⟨Qf HN.out.symm, HB1.out.trans (hb.mono HB1.out.size)⟩
    ·have HS3 := Qa (show QI none l.es = QI (ZY l.es (j + 1 + 1)) (l.es.drop (j + 1 + 1)) by rw [HS2.out, decide_eq_true (by omega)]; rfl)
     have hdt : decide (e.time < pt) = false := decide_eq_false hlt2
     clear HV2 HS2
     refine Qn (by kernel_rfl) (by kernel_rfl) ?_; (repeat (go_big_quiet_step ((go_at_call 42; refine Calls.regrown_of (HF.out _))))); refine wpQuiet_nil ?_; intro w10 hb
     clear g0 g1 g2 g3 g4 g5 g6 g7
     go_wp2
     exact ⟨⟨j + 1 + 1, by omega, by go_num, HS3, Qc HX1.out hb, HB1.out.trans (hb.mono HB1.out.size)⟩, by simp [intOf]; omega⟩
  ·obtain rfl : k = l.es.length := by omega
   have hes : QI none l.es = true := by rw [HK.out, List.drop_length]; rfl
   have HC := Qa (fun V (hV : Below w.heap.size w V) => chain_any l a cap V (by omega) (by omega) (fun e he => ⟨Yb _ _ hes e he, hok e he⟩) (HE.out.below hV) (HA.out.below hV))
   have HN := Qa (show Qw l = (l.ch == Qr l.st l.es) by rw [HV2.out, hes]; rfl)
   clear HV2 HK hes
   go_upto_region 9 with (fail)
   have g0 := cell_regrown (hc 0); have g1 := cell_regrown (hc 1); have g2 := cell_regrown (hc 2)
   clear hc
   refine Qn (by kernel_rfl) (by kernel_rfl) ?_
   (repeat (go_big_quiet_step ((go_at_call 44; refine Calls.regrown_of (HC.out _ (HB.out.trans (by first | exact (below_regrown _ _ _).mono HB.out.size | exact (Below.refl _ _))))))))
   refine wpQuiet_nil ?_
   intro w10 hb
   clear g0 g1 g2
   go_wp2
   go_ret
   exact ⟨Qf HN.out.symm, HB.out.trans (hb.mono HB.out.size)⟩
theorem Valid37_any (l : Lg) (a : Option Addr) (cap : Nat) (w : World) (hl : l.es.length ≤ 1000) (hok : ∀ e ∈ l.es, e.wide) (hE : EnvP w) (ha : EnAt w a l.es) :
  Calls Tryz.prog 59 #[.agg #[.int .i64 l.st, .slice a l.es.length cap, .int .u64 l.ch]] w fun e w' => e = .returned (.bool (Qw l)) ∧ Below w.heap.size w w' := by
 have HB := Qa (Qg (w := w) (.cells #[.int .i64 l.st, .slice a l.es.length cap, .int .u64 l.ch] 44))
 have HR := Qa (fun V (hV : Below w.heap.size w V) => right37_any l a cap V hl hok (hE.below hV) (ha.below hV))
 clear hE ha
 go_enter Tryz.func59, Tryz.ntmps59
 go_wp2_with (go_at_call 41; refine (HR.out _ HB.out).mono ?_; rintro e w6 ⟨rfl, hb6⟩; have HB6 := bu HB hb6; clear hb6)
 go_ret
 exact ⟨rfl, HB6.out⟩
theorem Un {P : Program} {w : World} {ops : Array Oper} {o : Oper} {a : Act} {K : Act → World → Prop} {Q : Exit → Act → World → Prop} {Z : Prop} {T E : TypeId} {sz bytes : Nat} {α : Type} {f : α → List Value} (he : Elt P T E sz bytes f)
  (hgd : o.guard = none) (s x : Operand) (ho : o.op = .call { callee := .builtin .append, args := #[s, x], argTypes := #[T, T] })
  (B : Nat) (v : Value) (l : List α) (hs : a.eval s = v) (hown : OwnR w B E sz v (l.map f))
  (b off m c : Nat) (news : List α) (hx : a.eval x = .slice (some ⟨b, off, none⟩) m c) (hm : m = news.length) (hnews : SlAt w (some ⟨b, off, none⟩) sz (news.map f))
  (hlen : l.length + news.length ≤ 1048576) (hbase : B ≤ w.heap.size)
  (h : ∀ v' w', OwnR w' B E sz v' ((l ++ news).map f) → w.grownBy w' v.ownBlock → K (a.put o.dst v') w') : if Region.wanted o (yielded ops a.tmps) = true then Oper.wp P o a w K Q else Z := by
 have hw : Region.wanted o (yielded ops a.tmps) = true := by simp [Region.wanted, hgd]
 rw [if_pos hw]
 obtain ⟨z, hinfo, hz⟩ := he.info
 obtain ⟨i, hi, hz0, hz1, hz2⟩ := info_parts hinfo
 subst hm
 have hwn : ∀ r ∈ news.map f, r.length = sz := fun r hr => by obtain ⟨y, _, rfl⟩ := List.mem_map.1 hr; exact he.len y
 have hww : ∀ r ∈ (l ++ news).map f, r.length = sz := fun r hr => by obtain ⟨y, _, rfl⟩ := List.mem_map.1 hr; exact he.len y
 have hown' := hown.own
 rw [List.length_map] at hown'
 refine wp_append_own w s x T ho B E i z sz bytes he.ty hi hz0 hz1 hz2 hz he.pos v l.length (l.map f).flatten hs hown' ⟨b, off, none⟩ news.length c (news.map f).flatten hx (by rw [JA _ sz hwn, List.length_map]) hnews.flat
  (Z1 fun r hr u hu => by obtain ⟨y, _, rfl⟩ := List.mem_map.1 hr; exact he.one y u hu) (by unfold maxLen; omega)
  (Nat.le_trans (Nat.mul_le_mul hlen he.small) (by decide)) hbase fun v' w' ho' hg _ => h v' w' ⟨hww, by rw [List.length_map, List.length_append, List.map_append, List.flatten_append]; exact ho'⟩ hg
theorem nil_someEy (ad : Addr) (n cap : Nat) (w : World) : (binOp BinOp.eql 41 (.slice (some ad) n cap) (.slice none 0 0)).run Tryz.prog w = .ok (.bool false) w := by kernel_rfl
theorem nil_noneEy (w : World) : (binOp BinOp.eql 41 (.slice none 0 0) (.slice none 0 0)).run Tryz.prog w = .ok (.bool true) w := by kernel_rfl
theorem CloneEy_any (a : Option Addr) (cap : Nat) (l : List En) (w : World) (hl : l.length ≤ 100000) (hk : SlOk a l.length cap) (hr : EnAt w a l) :
  Calls Tryz.prog 43 #[.slice a l.length cap] w fun e w' => ∃ v, e = .returned v ∧ OwnR w' w.heap.size 50 6 v (l.map enRow) ∧ RowKit.Below w.heap.size w w' := by
 cases a with
 | none =>
  obtain rfl : l = [] := by have := YS hr; simpa using this
  obtain rfl : cap = 0 := hk.none rfl
  have hq := nil_noneEy w
  go_enter Tryz.func43, Tryz.ntmps43
  go_wp2
  go_ret
  exact ⟨_, rfl, OwnR.nil _ _ _ _, RowKit.Below.refl _ _⟩
 | some ad =>
  have HR := Qa hr; clear hr hk
  have hq := nil_someEy ad l.length cap w
  go_enter Tryz.func43, Tryz.ntmps43
  go_wp2_with (at_builtin; refine appE eltEy rfl (.tmp 5) (.tmp 6) rfl w.heap.size _ [] rfl (ZE _ _ _ _ (Nat.le_refl _)) _ _ _ l rfl rfl (fun e => by cases e) (SlAt.alloc HR.out _) (by simp; omega) (by simp) ?_; intro v2 w2 ho2 hg2; have HO2 := Qa ho2; have HB2 := Qa (Zy ((RowKit.Below.refl w.heap.size w).alloc (Nat.le_refl _) _) (ZE _ w.heap.size 50 6 (Nat.le_refl _)) (by simp) hg2); clear ho2 hg2)
  go_ret
  exact ⟨_, rfl, HO2.out, HB2.out⟩
end Go.Proofs.YtajijcfikihhjaaGreatDoor
