import Derived.Test.YtajijcfikihhjaaGreatDoorAAP
import Derived.Shelf.SlSortCmp.WholeK
set_option linter.unusedSimpArgs false
set_option linter.unusedVariables false
set_option maxRecDepth 100000
set_option maxHeartbeats 16000000
namespace Go.Proofs.YtajijcfikihhjaaGreatDoor
open Go.RowKit Go.Sort
theorem But2.keep {a b : Nat} {w w' : World} (h : But2 a b w w') {k : Nat} {o : Obj} (hk : w.heap[k]? = some o) (ha : k ≠ a) (hb : k ≠ b) : w'.heap[k]? = some o := (h.block k (lt_of_block hk) ha hb).trans hk
theorem But2.below {a b : Nat} {w0 w w' : World} (h : But2 a b w w') (hb : Below w0.heap.size w0 w) (ha : w0.heap.size ≤ a) (hbb : w0.heap.size ≤ b) : Below w0.heap.size w0 w' :=
 hb.trans ⟨h.os, h.tape, h.output, h.size, fun k hk => h.block k (Nat.lt_of_lt_of_le hk hb.size) (by omega) (by omega)⟩
theorem loansOk_all {l : List Lo} (h : ∀ j, j < l.length → ZM l j = true) : QP l = decide (l.length ≤ 20000) := by
 unfold QP
 rw [List.all_eq_true.2 fun j hj => h j (List.mem_range.1 hj), Bool.and_true]
theorem Qas (a : Option Addr) (n cap : Nat) (l : List Lo) (w : World) (hn : n = l.length) (hl : n ≤ 1000000) (hr : LoAt w a l) :
  Calls Tryz.prog 45 #[.slice a n cap] w fun e w' => e = .returned (.bool (QP l)) ∧ Below w.heap.size w w' := by
 subst hn
 have hmm := @run_makeMap Tryz.prog
 go_enter Tryz.func45, Tryz.ntmps45
 go_wp2
 go_loopw [4, 5, 11] (fun _ _ i wr => ∃ k : Nat, k ≤ l.length ∧ i = .int .i64 k ∧ (∀ j, j < k → ZM l j = true) ∧ ShAt wr w.heap.size (w.heap.size + 1) (shOf (l.take k)) ∧ wr.heap[w.heap.size + 1 + 1]? = some (.cells #[.map (some w.heap.size), .map (some (w.heap.size + 1))] 95) ∧ Below w.heap.size w wr) (fun _ _ i _ => l.length - (intOf i).toNat)
 case atStart =>
  refine ⟨0, Nat.zero_le _, rfl, fun j hj => by omega, ⟨⟨⟨_, _, Qj (Qj (heap_alloc_new w _) _) _, rfl, by simp, by simp⟩, by simp [shOf]⟩, ⟨⟨_, _, Qj (QJ _ _ (by simp)) _, rfl, by simp, by simp⟩, by simp [shOf]⟩, by omega⟩, QJ _ _ (by simp), ((((Below.refl _ w).alloc (Nat.le_refl _) _).alloc (by simp) _).alloc (by simp; omega) _)⟩
 case round =>
  obtain ⟨k, hk, rfl, hall, hz, hs, hb⟩ := hrel
  have H := Qa hall; clear hall
  have HZ := Qa hz; clear hz
  have HB := Qa hb; clear hb
  have HS := Qa hs; clear hs
  by_cases hlt : k < l.length
  ·have hr1 : LoAt wr a l := hr.below HB.out
   obtain ⟨b, off, rfl, c0, c1, c2, c3, c4⟩ := hr1.get k hlt
   go_wp2
   obtain ⟨wr1, hw1⟩ : ∃ wr1, wr1 = wr.alloc (.cells #[.int .i64 l[k].t, .int .i64 l[k].k, .int .i64 l[k].s, .int .i64 l[k].st, .int .i64 l[k].h] 137) := ⟨_, rfl⟩
   rw [← hw1]
   have HX := Qa (show wr1.heap[wr.heap.size]? = some (.cells #[.int .i64 l[k].t, .int .i64 l[k].k, .int .i64 l[k].s, .int .i64 l[k].st, .int .i64 l[k].h] 137) by rw [hw1]; exact heap_alloc_new _ _)
   have HS1 := Qa (show wr1.heap[w.heap.size + 1 + 1]? = some (.cells #[.map (some w.heap.size), .map (some (w.heap.size + 1))] 95) by rw [hw1]; exact Qj HS.out _)
   have HZ1 := Qa (show ShAt wr1 w.heap.size (w.heap.size + 1) (shOf (l.take k)) by rw [hw1]; exact HZ.out.below ((Below.refl _ _).alloc (Nat.le_refl _) _))
   have HB1 := Qa (show Below w.heap.size w wr1 by rw [hw1]; exact HB.out.alloc HB.out.size _)
   have hrr : LoAt wr1 (some ⟨b, off, none⟩) l := hr.below HB1.out
   have hwlt : w.heap.size + 1 + 1 < wr.heap.size := lt_of_block HS.out
   have hblt : b < w.heap.size := by
    obtain ⟨b', o', e', h', _⟩ := hr k (l[k].cells) (by simp [List.getElem?_eq_getElem hlt])
    cases e'; exact h'
   clear hw1 c0 c1 c2 c3 c4 hr1
   have cx := Qb HX.out
   have cs := Qb HS1.out
   have hcl : Zs ⟨l[k].t, l[k].k, l[k].s, l[k].st, l[k].h⟩ = true → Yo (shOf (l.take k)) ⟨l[k].t, l[k].k, l[k].s, l[k].st, l[k].h⟩ = Zh (l.take k) ⟨l[k].t, l[k].k, l[k].s, l[k].st, l[k].h⟩ := fun _ => (shInv_take l k hk H.out).can _
   have HCL := Qa hcl; clear hcl
   cases hf : Zs ⟨l[k].t, l[k].k, l[k].s, l[k].st, l[k].h⟩
   ·refine Qn (by kernel_rfl) (by kernel_rfl) ?_
    have gx := fun (d : Nat) (os : Array Obj) => Qb (Qc HX.out (below_regrown wr1 d os))
    have gs := fun (d : Nat) (os : Array Obj) => Qb (Qc HS1.out (below_regrown wr1 d os))
    repeat (go_big_quiet_step (first | (go_at_call 77; refine Calls.regrown_of (YB _ _ _ _ _ _))))
    refine wpQuiet_nil ?_; intro w2 hb3; go_wp2
    go_ret
    exact ⟨Qf (Zm l k hlt (by simp only [ZM, YY l k hlt, hf, Bool.false_and])).symm, HB1.out.trans (hb3.mono HB1.out.size)⟩
   ·by_cases h0 : k = 0
    ·have hk0 : decide (0 < k) = false := by simp [h0]
     have H0 := Qa h0; clear h0
     refine wp_region_held_drew (S := fun w' => w'.heap[wr.heap.size]? = some (.cells #[.int .i64 l[k].t, .int .i64 l[k].k, .int .i64 l[k].s, .int .i64 l[k].st, .int .i64 l[k].h] 137) ∧ w'.heap[w.heap.size + 1 + 1]? = some (.cells #[.map (some w.heap.size), .map (some (w.heap.size + 1))] 95)) (by kernel_rfl) ⟨HX.out, HS1.out⟩ (fun hHeld => ?_)
     (refine tq 0 ?_ (y := fun _ hSw => by have hx := Qb hSw.1; have hy := Qb hSw.2; go_simp; try rfl))
     (refine tc 1 (fun K hK => ?_); go_simp)
     refine (YB _ _ _ _ _ _).mono ?_; rintro e w2 ⟨rfl, hb⟩
     have HX2 := Qa (QG HX.out (Below.refl _ _).drew hb); have HS2 := Qa (QG HS1.out (Below.refl _ _).drew hb); have HZ2 := Qa ((HZ1.out.below (Below.refl _ _).drew).below hb); have HB2 := Qa (HB1.out.trans ((Below.trans (show Below wr1.heap.size wr1 _ from (Below.refl _ _).drew) (hb.mono (by simp))).mono HB1.out.size))
     go_simp
     refine hK.out _ _ ⟨HX2.out, HS2.out⟩ (fun hHeld2 => ?_)
     clear hK K hHeld
     (refine tq 2 ?_ (y := fun _ hSw => by have hx := Qb hSw.1; have hy := Qb hSw.2; go_simp; try rfl))
     (refine tq 3 ?_ (y := fun _ hSw => by have hx := Qb hSw.1; have hy := Qb hSw.2; go_simp; try rfl))
     (refine tq 4 ?_ (y := fun _ hSw => by have hx := Qb hSw.1; have hy := Qb hSw.2; go_simp; try rfl))
     (refine tq 5 ?_ (y := fun _ hSw => by have hx := Qb hSw.1; have hy := Qb hSw.2; go_simp; try rfl))
     (refine tq 6 ?_ (y := fun _ hSw => by have hx := Qb hSw.1; have hy := Qb hSw.2; go_simp; try rfl))
     refine tk0 7 ?_
     refine tk0 8 ?_
     refine tk0 9 ?_
     refine tk0 10 ?_
     refine tk0 11 ?_
     refine tk0 12 ?_
     refine tk0 13 ?_
     refine tk0 14 ?_
     refine tk0 15 ?_
     (refine tq 16 ?_ (y := fun _ hSw => by have hx := Qb hSw.1; have hy := Qb hSw.2; go_simp; try rfl))
     (refine tq 17 ?_ (y := fun _ hSw => by have hx := Qb hSw.1; have hy := Qb hSw.2; go_simp; try rfl))
     (refine tq 18 ?_ (y := fun _ hSw => by have hx := Qb hSw.1; have hy := Qb hSw.2; go_simp; try rfl))
     (refine tq 19 ?_ (y := fun _ hSw => by have hx := Qb hSw.1; have hy := Qb hSw.2; go_simp; try rfl))
     (refine tq 20 ?_ (y := fun _ hSw => by have hx := Qb hSw.1; have hy := Qb hSw.2; go_simp; try rfl))
     (refine tc 21 (fun K hK => ?_); go_simp)
     refine (Ur _ _ (shOf (l.take k)) _ _ _ _ _ _ HZ2.out).mono ?_; rintro e w3 ⟨rfl, hz3, hb3⟩
     have HX3 := Qa (hb3.keep HX2.out (by have := HB.out.size; omega) (by have := HB.out.size; omega)); have HS3 := Qa (hb3.keep HS2.out (by omega) (by omega)); have HZ3 := Qa hz3; have HB3 := Qa (hb3.below HB2.out (by omega) (by omega))
     go_simp
     refine hK.out _ _ ⟨HX3.out, HS3.out⟩ (fun hHeld3 => ?_)
     clear hK K hHeld2 hz3 hb3
     (refine tq 22 ?_ (y := fun _ hSw => by have hx := Qb hSw.1; have hy := Qb hSw.2; go_simp; try rfl))
     (refine tq 23 ?_ (y := fun _ hSw => by have hx := Qb hSw.1; have hy := Qb hSw.2; go_simp; try rfl))
     refine wpAnyH_done (by kernel_rfl) ?_ _
     have hsk : ZM l k = Zh (l.take k) ⟨l[k].t, l[k].k, l[k].s, l[k].st, l[k].h⟩ := by
      rw [ZH l k hlt, hf, decide_eq_true H0.out]; rfl
     rw [← HCL.out hf] at hsk
     have HSK := Qa hsk; clear hsk
     go_wp2
     ·go_ret
      have hh : (!Yo (shOf (l.take k)) ⟨l[k].t, l[k].k, l[k].s, l[k].st, l[k].h⟩) = true := by assumption
      exact ⟨Qf (Zm l k hlt (HSK.out.trans (Ut hh))).symm, HB3.out⟩
     ·have hh : (!Yo (shOf (l.take k)) ⟨l[k].t, l[k].k, l[k].s, l[k].st, l[k].h⟩) = false := by assumption
      refine ⟨⟨k + 1, by omega, by go_num, ?_, ?_, HS3.out, HB3.out⟩, by simp [intOf]; omega⟩
      ·intro i hi
       by_cases hik : i = k
       ·subst hik; exact HSK.out.trans (Uu hh)
       ·exact H.out i (by omega)
      ·rw [List.take_succ_eq_append_getElem hlt, YT]
       exact HZ3.out
    ·obtain ⟨j, hkj⟩ : ∃ j, k = j + 1 := ⟨k - 1, by omega⟩
     have hk1 : (k : Int) - 1 = (j : Int) := by omega
     have hk0 : decide (0 < k) = true := by simp; omega
     have hj : j < l.length := by omega
     have hwj : IntKind.i64.wrap (j : Int) = (j : Int) := IntWalk.i64_in _ (by omega)
     have hj0 : (0 : Int) ≤ (j : Int) := by omega
     have hjl : (j : Int) < (l.length : Int) := by omega
     have HKJ := Qa hkj; clear hkj h0
     obtain ⟨_, _, e, dd, _⟩ := hrr.get j hj
     cases e
     cases hd : decide (l[k].t < l[j].t)
     ·refine wp_region_held_drew (S := fun w' => w'.heap[wr.heap.size]? = some (.cells #[.int .i64 l[k].t, .int .i64 l[k].k, .int .i64 l[k].s, .int .i64 l[k].st, .int .i64 l[k].h] 137) ∧ w'.heap[w.heap.size + 1 + 1]? = some (.cells #[.map (some w.heap.size), .map (some (w.heap.size + 1))] 95) ∧ w'.cell? ⟨b, off + j * 5, none⟩ = some (.int .i64 l[j].t)) (by kernel_rfl) ⟨HX.out, HS1.out, dd⟩ (fun hHeld => ?_)
      (refine tq 0 ?_ (y := fun _ hSw => by have hx := Qb hSw.1; have hy := Qb hSw.2.1; have hd2 := hSw.2.2; go_simp; try rfl))
      (refine tc 1 (fun K hK => ?_); go_simp)
      refine (YB _ _ _ _ _ _).mono ?_; rintro e w2 ⟨rfl, hb⟩
      have HX2 := Qa (QG HX.out (Below.refl _ _).drew hb); have HS2 := Qa (QG HS1.out (Below.refl _ _).drew hb); have HZ2 := Qa ((HZ1.out.below (Below.refl _ _).drew).below hb); have HB2 := Qa (HB1.out.trans ((Below.trans (show Below wr1.heap.size wr1 _ from (Below.refl _ _).drew) (hb.mono (by simp))).mono HB1.out.size))
      have dd2 := LoAt.get ((hrr.below (Below.refl _ _).drew).below hb) j hj; obtain ⟨_, _, e2, dd2, _⟩ := dd2; cases e2
      go_simp
      refine hK.out _ _ ⟨HX2.out, HS2.out, dd2⟩ (fun hHeld2 => ?_)
      clear hK K hHeld
      (refine tq 2 ?_ (y := fun _ hSw => by have hx := Qb hSw.1; have hy := Qb hSw.2.1; have hd2 := hSw.2.2; go_simp; try rfl))
      (refine tq 3 ?_ (y := fun _ hSw => by have hx := Qb hSw.1; have hy := Qb hSw.2.1; have hd2 := hSw.2.2; go_simp; try rfl))
      (refine tq 4 ?_ (y := fun _ hSw => by have hx := Qb hSw.1; have hy := Qb hSw.2.1; have hd2 := hSw.2.2; go_simp; try rfl))
      (refine tq 5 ?_ (y := fun _ hSw => by have hx := Qb hSw.1; have hy := Qb hSw.2.1; have hd2 := hSw.2.2; go_simp; try rfl))
      (refine tq 6 ?_ (y := fun _ hSw => by have hx := Qb hSw.1; have hy := Qb hSw.2.1; have hd2 := hSw.2.2; go_simp; try rfl))
      (refine tq 7 ?_ (y := fun _ hSw => by have hx := Qb hSw.1; have hy := Qb hSw.2.1; have hd2 := hSw.2.2; go_simp; try rfl))
      (refine tq 8 ?_ (y := fun _ hSw => by have hx := Qb hSw.1; have hy := Qb hSw.2.1; have hd2 := hSw.2.2; go_simp; try rfl))
      (refine tq 9 ?_ (y := fun _ hSw => by have hx := Qb hSw.1; have hy := Qb hSw.2.1; have hd2 := hSw.2.2; go_simp; try rfl))
      (refine tq 10 ?_ (y := fun _ hSw => by have hx := Qb hSw.1; have hy := Qb hSw.2.1; have hd2 := hSw.2.2; go_simp; try rfl))
      (refine tq 11 ?_ (y := fun _ hSw => by have hx := Qb hSw.1; have hy := Qb hSw.2.1; have hd2 := hSw.2.2; go_simp; try rfl))
      (refine tq 12 ?_ (y := fun _ hSw => by have hx := Qb hSw.1; have hy := Qb hSw.2.1; have hd2 := hSw.2.2; go_simp; try rfl))
      (refine tq 13 ?_ (y := fun _ hSw => by have hx := Qb hSw.1; have hy := Qb hSw.2.1; have hd2 := hSw.2.2; go_simp; try rfl))
      (refine tq 14 ?_ (y := fun _ hSw => by have hx := Qb hSw.1; have hy := Qb hSw.2.1; have hd2 := hSw.2.2; go_simp; try rfl))
      (refine tq 15 ?_ (y := fun _ hSw => by have hx := Qb hSw.1; have hy := Qb hSw.2.1; have hd2 := hSw.2.2; go_simp; try rfl))
      (refine tq 16 ?_ (y := fun _ hSw => by have hx := Qb hSw.1; have hy := Qb hSw.2.1; have hd2 := hSw.2.2; go_simp; try rfl))
      (refine tq 17 ?_ (y := fun _ hSw => by have hx := Qb hSw.1; have hy := Qb hSw.2.1; have hd2 := hSw.2.2; go_simp; try rfl))
      (refine tq 18 ?_ (y := fun _ hSw => by have hx := Qb hSw.1; have hy := Qb hSw.2.1; have hd2 := hSw.2.2; go_simp; try rfl))
      (refine tq 19 ?_ (y := fun _ hSw => by have hx := Qb hSw.1; have hy := Qb hSw.2.1; have hd2 := hSw.2.2; go_simp; try rfl))
      (refine tq 20 ?_ (y := fun _ hSw => by have hx := Qb hSw.1; have hy := Qb hSw.2.1; have hd2 := hSw.2.2; go_simp; try rfl))
      (refine tc 21 (fun K hK => ?_); go_simp)
      refine (Ur _ _ (shOf (l.take k)) _ _ _ _ _ _ HZ2.out).mono ?_; rintro e w3 ⟨rfl, hz3, hb3⟩
      have HX3 := Qa (hb3.keep HX2.out (by have := HB.out.size; omega) (by have := HB.out.size; omega)); have HS3 := Qa (hb3.keep HS2.out (by omega) (by omega)); have HZ3 := Qa hz3; have HB3 := Qa (hb3.below HB2.out (by omega) (by omega))
      have dd3 : w3.cell? ⟨b, off + j * 5, none⟩ = some (.int .i64 l[j].t) := (World.cell?_of_block (w := w2) (hb3.block b (World.block_lt_of_cell? _ _ dd2) (by omega) (by omega))).trans dd2
      go_simp
      refine hK.out _ _ ⟨HX3.out, HS3.out, dd3⟩ (fun hHeld3 => ?_)
      clear hK K hHeld2 hz3 hb3
      (refine tq 22 ?_ (y := fun _ hSw => by have hx := Qb hSw.1; have hy := Qb hSw.2.1; have hd2 := hSw.2.2; go_simp; try rfl))
      (refine tq 23 ?_ (y := fun _ hSw => by have hx := Qb hSw.1; have hy := Qb hSw.2.1; have hd2 := hSw.2.2; go_simp; try rfl))
      refine wpAnyH_done (by kernel_rfl) ?_ _
      have hsk : ZM l k = Zh (l.take k) ⟨l[k].t, l[k].k, l[k].s, l[k].st, l[k].h⟩ := by
       have e := HKJ.out
       have e1 : k - 1 = j := by omega
       have h3 := of_decide_eq_false hd
       have h2 : decide (l[k - 1].t ≤ l[k].t) = true := by simp only [e1]; exact decide_eq_true (by omega)
       rw [ZH l k hlt, hf, decide_eq_false (show ¬ k = 0 by omega), YY l (k - 1) (by omega), h2]; rfl
      rw [← HCL.out hf] at hsk
      have HSK := Qa hsk; clear hsk
      go_wp2
      ·go_ret
       have hh : (!Yo (shOf (l.take k)) ⟨l[k].t, l[k].k, l[k].s, l[k].st, l[k].h⟩) = true := by assumption
       exact ⟨Qf (Zm l k hlt (HSK.out.trans (Ut hh))).symm, HB3.out⟩
      ·have hh : (!Yo (shOf (l.take k)) ⟨l[k].t, l[k].k, l[k].s, l[k].st, l[k].h⟩) = false := by assumption
       refine ⟨⟨k + 1, by omega, by go_num, ?_, ?_, HS3.out, HB3.out⟩, by simp [intOf]; omega⟩
       ·intro i hi
        by_cases hik : i = k
        ·subst hik; exact HSK.out.trans (Uu hh)
        ·exact H.out i (by omega)
       ·rw [List.take_succ_eq_append_getElem hlt, YT]
        exact HZ3.out
     ·refine Qn (by kernel_rfl) (by kernel_rfl) ?_
      have gx := fun (d : Nat) (os : Array Obj) => Qb (Qc HX.out (below_regrown wr1 d os))
      have gs := fun (d : Nat) (os : Array Obj) => Qb (Qc HS1.out (below_regrown wr1 d os))
      have gd := cell_regrown dd
      repeat (go_big_quiet_step (first | (go_at_call 77; refine Calls.regrown_of (YB _ _ _ _ _ _))))
      refine wpQuiet_nil ?_; intro w2 hb3; go_wp2
      go_ret
      refine ⟨Qf (Zm l k hlt ?_).symm, HB1.out.trans (hb3.mono HB1.out.size)⟩
      have e := HKJ.out
      rw [ZH l k hlt, decide_eq_false (show ¬ k = 0 by omega), YY l (k - 1) (by omega)]
      have e1 : k - 1 = j := by omega
      have h2 : decide (l[k - 1].t ≤ l[k].t) = false := by
       have h3 := of_decide_eq_true hd
       simp only [e1]
       exact decide_eq_false (by omega)
      rw [h2, Bool.false_or, Bool.and_false, Bool.false_and]
  ·obtain rfl : k = l.length := by omega
   clear hr
   go_wp2
   all_goals go_ret
   all_goals refine ⟨Qf ?_, HB.out⟩
   all_goals rw [loansOk_all H.out, decide_eq_decide]
   all_goals omega
theorem Qan {l : List Lo} (h : QP l = true) : ∀ x ∈ l, Zs x = true := fun x hx => by
 obtain ⟨j, hj, rfl⟩ := List.getElem_of_mem hx
 have hs := loansOk_step h j hj
 rw [ZH l j hj] at hs
 simp only [Bool.and_eq_true] at hs
 exact hs.1.1
theorem Qay {l : List Lo} {time : Int} : ∀ x ∈ upTo l time, x ∈ l := fun x hx => (List.takeWhile_prefix _).subset hx
theorem look_hold {l : List Lo} (h : QP l = true) (time sheet : Int) :
  (mget (shOf (upTo l time)).hm sheet).getD (.int .i64 0) = .int .i64 (hold (upTo l time) sheet) ∧ (mget (shOf (upTo l time)).hm sheet).isSome = decide (0 < hold (upTo l time) sheet) := by
 rw [(Qap h time sheet).1]
 have hn := hold_nonneg (upTo l time) (fun x hx => (loanOk_st (Qan h x (Qay x hx))).1) sheet
 by_cases h0 : 0 < hold (upTo l time) sheet
 ·simp [h0]
 ·have e : hold (upTo l time) sheet = 0 := by omega
  simp [e]
theorem shelf_0 (x y : Value) (w : World) : (Instr.field 95 (.agg #[x, y]) 0).run Tryz.prog w = .ok x w := by kernel_rfl
theorem shelf_1 (x y : Value) (w : World) : (Instr.field 95 (.agg #[x, y]) 1).run Tryz.prog w = .ok y w := by kernel_rfl
theorem PHolder_any (a : Option Addr) (n cap : Nat) (l : List Lo) (sheet time : Int) (w : World) (hn : n = l.length) (hl : n ≤ 1000000) (hr : LoAt w a l) :
  Calls Tryz.prog 20 #[.slice a n cap, .int .i64 sheet, .int .i64 time] w fun e w' =>
   e = .returned (.tuple #[.int .i64 (Zo l sheet time).1, .bool (Zo l sheet time).2.1, .int .i64 (Zo l sheet time).2.2]) ∧ Below w.heap.size w w' := by
 have HN := Qa hn; clear hn
 have HL := Qa hl; clear hl
 have HR := Qa hr; clear hr
 go_enter Tryz.func20, Tryz.ntmps20
 go_wp2_with (first | (go_at_call 45; refine (Qas _ _ _ l _ HN.out HL.out HR.out).mono ?_; rintro e w1 ⟨rfl, hb⟩; have HB := Qa hb; clear hb) | (go_at_call 46; refine (Ua _ _).mono ?_; rintro e w' ⟨rfl, rfl⟩) | (go_at_call 47; refine (Qar _ _).mono ?_; rintro e w' ⟨rfl, rfl⟩) | (go_at_call 48; refine (at_any _ _ _ l _ _ HN.out HL.out (HR.out.below HB.out)).mono ?_; rintro e w2 ⟨ra, rb, rfl, hz, hb2, _, _⟩; have HZ := Qa hz; have HB2 := bu HB hb2; have hs0 := shelf_0 (.map (some ra)) (.map (some rb)) w2; have hs1 := shelf_1 (.map (some ra)) (.map (some rb)) w2; clear hz hb2) | (at_lookup; refine wpList_lookup_at rfl (.tmp 28) (.tmp 29) _ true rfl Tryz.underlying93 keyI zeroInt ra _ rfl HZ.out.1 sheet rfl ?_; simp only [if_true]))
 all_goals try
  (go_ret3
   go_tidy
   have e : Zo l sheet time = (0, false, 1) := by simp_all [Zo]
   exact ⟨ret_ibi (by rw [e]) (by rw [e]) (by rw [e]), HB.out⟩)
 go_ret3
 go_tidy
 have hv : QP l = true := by assumption
 have e : Zo l sheet time = (hold (upTo l time) sheet, decide (0 < hold (upTo l time) sheet), 0) := by simp_all [Zo]
 obtain ⟨e1, e2⟩ := look_hold hv time sheet
 refine ⟨?_, HB2.out⟩
 rw [e]
 simp [e1, e2]
open Go.RowKit Go.Sort Go.Shelf
structure Sx where
 id : Int
 pt : Int
 ed : Int
 ver : Int
 pg : Int
 dg : Int
deriving DecidableEq
def Uh (x : Sx) : List Value := [.int .i64 x.id, .int .i64 x.pt, .int .i64 x.ed, .int .i64 x.ver, .int .i64 x.pg, .int .u64 x.dg]
def sxV (x : Sx) : Value := .agg #[.int .i64 x.id, .int .i64 x.pt, .int .i64 x.ed, .int .i64 x.ver, .int .i64 x.pg, .int .u64 x.dg]
def SxAt (w : World) (a : Option Addr) (l : List Sx) : Prop := SlAt w a 6 (l.map Uh)
theorem SxAt.get {w : World} {a : Option Addr} {l : List Sx} (h : SxAt w a l) (i : Nat) (hi : i < l.length) : ∃ b off, a = some ⟨b, off, none⟩ ∧
  w.cell? ⟨b, off + i * 6, none⟩ = some (.int .i64 l[i].id) ∧ w.cell? ⟨b, off + i * 6 + 1, none⟩ = some (.int .i64 l[i].pt) ∧ w.cell? ⟨b, off + i * 6 + 2, none⟩ = some (.int .i64 l[i].ed) ∧
  w.cell? ⟨b, off + i * 6 + 3, none⟩ = some (.int .i64 l[i].ver) ∧ w.cell? ⟨b, off + i * 6 + 4, none⟩ = some (.int .i64 l[i].pg) ∧ w.cell? ⟨b, off + i * 6 + 5, none⟩ = some (.int .u64 l[i].dg) := by
 obtain ⟨b, off, e, _, _, hc⟩ := h i (Uh l[i]) (by simp [hi])
 exact ⟨b, off, e, hc 0 _ rfl, hc 1 _ rfl, hc 2 _ rfl, hc 3 _ rfl, hc 4 _ rfl, hc 5 _ rfl⟩
structure Ex where
 id : Int
 ver : Int
 ba : Option Addr
 bn : Nat
 bc : Nat
 la : Option Addr
 ln : Nat
 lc : Nat
def UE (x : Ex) : List Value := [.int .i64 x.id, .int .i64 x.ver, .slice x.ba x.bn x.bc, .slice x.la x.ln x.lc]
def ExAt (w : World) (a : Option Addr) (l : List Ex) : Prop := SlAt w a 4 (l.map UE)
theorem ExAt.get {w : World} {a : Option Addr} {l : List Ex} (h : ExAt w a l) (i : Nat) (hi : i < l.length) : ∃ b off, a = some ⟨b, off, none⟩ ∧
  w.cell? ⟨b, off + i * 4, none⟩ = some (.int .i64 l[i].id) ∧ w.cell? ⟨b, off + i * 4 + 1, none⟩ = some (.int .i64 l[i].ver) ∧ w.cell? ⟨b, off + i * 4 + 2, none⟩ = some (.slice l[i].ba l[i].bn l[i].bc) ∧
  w.cell? ⟨b, off + i * 4 + 3, none⟩ = some (.slice l[i].la l[i].ln l[i].lc) := by
 obtain ⟨b, off, e, _, _, hc⟩ := h i (UE l[i]) (by simp [hi])
 exact ⟨b, off, e, hc 0 _ rfl, hc 1 _ rfl, hc 2 _ rfl, hc 3 _ rfl⟩
structure Lb where
 ws : List (Wk × Wp)
 eds : List Ex
 shs : List Sx
 los : List Lo
structure Lbp where
 wa : Option Addr
 wc : Nat
 ea : Option Addr
 ec : Nat
 sa : Option Addr
 sc : Nat
 la : Option Addr
 lc : Nat
structure LbAt (w : World) (L : Lb) (P : Lbp) : Prop where
 ws : WsAt w P.wa L.ws
 eds : ExAt w P.ea L.eds
 shs : SxAt w P.sa L.shs
 los : LoAt w P.la L.los
 okw : SlOk P.wa L.ws.length P.wc
 oke : SlOk P.ea L.eds.length P.ec
 oks : SlOk P.sa L.shs.length P.sc
 okl : SlOk P.la L.los.length P.lc
theorem LbAt.below {w w' : World} {L : Lb} {P : Lbp} (h : LbAt w L P) (hb : Below w.heap.size w w') : LbAt w' L P := ⟨h.ws.below hb, SlAt.below h.eds hb, SlAt.below h.shs hb, SlAt.below h.los hb, h.okw, h.oke, h.oks, h.okl⟩
structure LbFew (L : Lb) : Prop where
 ws : L.ws.length ≤ 1000
 forms : ∀ y ∈ L.ws, FoFew y.1.f
 eds : L.eds.length ≤ 1000
 shs : L.shs.length ≤ 1000
 los : L.los.length ≤ 1000
def libB (L : Lb) (d : List De) : Bool := QH (Qk L.ws) d && QP L.los && decide (L.shs.length ≤ 5000) && decide ((L.shs.map Sx.id).Nodup)
def QU (l : List Lg) : Bool := l.all Qw && decide ((l.map Lg.st).Nodup)
def ZA (l : List Sx) (id : Int) : Option Sx := l.find? fun s => decide (s.id = id)
def JF (L : Lb) (e : En) : Bool := (Zk (Qk L.ws) e.a).isSome && L.eds.any fun x => decide (x.id = e.b)
def JR (bs : List Br) (id : Int) : Int := idxO (fun b => decide (b.id = id)) bs
def JD (L : Lb) (d : List De) (known : Int) (e : En) : Bool :=
 decide ((atR (Qk L.ws) d known e.time).1.ver = e.c) && match Zk (Qk L.ws) e.c with
  | none => false
  | some x => decide (0 ≤ JR x.bars e.a) && (Yi (atR (Qk L.ws) d known e.time).1.f (JR x.bars e.a, e.b)).1.2
def Ub (L : Lb) (st : Int) (e : En) : Bool := (Zo L.los e.a e.time).2.1 && decide ((Zo L.los e.a e.time).1 = st)
def Zb (L : Lb) (d : List De) (st known most : Int) (e : En) : List Int :=
 if e.kind = 1 then (if JF L e then [] else [1])
 else if e.kind = 2 then (match ZA L.shs e.a with
  | none => [2]
  | some s => (if s.dg = e.dg then [] else [2]) ++ (if Ub L st e then [] else [3]))
 else if e.kind = 3 then (if e.a < most ∨ (d.length : Int) < e.a then [4] else [])
 else if e.kind = 5 then (if JD L d (min known d.length) e then [] else [5])
 else []
structure Vd where
 st : Int
 rule : Int
 en : Int
deriving DecidableEq
def vdRow (v : Vd) : List Value := [.int .i64 v.st, .int .i64 v.rule, .int .i64 v.en]
def Zl (k : Int) (e : En) : Int := if e.kind = 3 then e.a else k
def Zu (m : Int) (e : En) : Int := if e.kind = 3 then max m e.a else m
def QA (L : Lb) (d : List De) (st : Int) : Int → Int → Nat → List En → List Vd
 | _, _, _, [] => []
 | k, m, i, e :: es => (Zb L d st k m e).map (fun r => ⟨st, r, i⟩) ++ QA L d st (Zl k e) (Zu m e) (i + 1) es
def YP (x : Lg) : List Lg → List Lg
 | [] => [x]
 | y :: l => if x.st ≤ y.st then x :: y :: l else y :: YP x l
def Za : List Lg → List Lg
 | [] => []
 | x :: l => YP x (Za l)
def Zc (L : Lb) (d : List De) (l : List Lg) : List Vd := (Za l).flatMap fun x => QA L d x.st 0 0 0 x.es
def QN (L : Lb) (d : List De) (l : List Lg) : List Vd × Int := if 200 < l.length then ([], 2) else if !libB L d || !QU l then ([], 1) else (Zc L d l, 0)
def shM (l : List Sx) : List (Int × Value) := l.foldl (fun m s => mput m s.id (sxV s)) []
def edM (l : List Ex) : List (Int × Value) := l.foldl (fun m x => mput m x.id (.bool true)) []
theorem YK (l : List Sx) (s : Sx) : shM (l ++ [s]) = mput (shM l) s.id (sxV s) := by simp [shM, List.foldl_append]
theorem edM_snoc (l : List Ex) (s : Ex) : edM (l ++ [s]) = mput (edM l) s.id (.bool true) := by simp [edM, List.foldl_append]
theorem YU {α : Type} {P : List α → Prop} (h0 : P []) (h1 : ∀ l x, P l → P (l ++ [x])) (l : List α) : P l := by
 have h : ∀ r : List α, P r.reverse := fun r => by
  induction r with
  | nil => exact h0
  | cons x r ih => rw [List.reverse_cons]; exact h1 _ _ ih
 have := h l.reverse
 rwa [List.reverse_reverse] at this
theorem shM_some (l : List Sx) (id : Int) : (mget (shM l) id).isSome = decide (id ∈ l.map Sx.id) := by
 induction l using YU with
 | h0 => simp [shM, Q2]
 | h1 l x ih =>
  rw [YK, ZB]
  split
  ·rename_i h; subst h; simp
  ·rename_i h; rw [ih]; simp [h]
theorem mput_length {κ : Type} [DecidableEq κ] (m : List (κ × Value)) (k : κ) (v : Value) : (mput m k v).length = if (mget m k).isSome then m.length else m.length + 1 := by
 unfold mput; split <;> simp
theorem shM_le (l : List Sx) : (shM l).length ≤ l.length := by
 induction l using YU with
 | h0 => simp [shM]
 | h1 l x ih => rw [YK]; have := mput_len (shM l) x.id (sxV x); simp; omega
theorem shM_len (l : List Sx) : (shM l).length = l.length ↔ (l.map Sx.id).Nodup := by
 induction l using YU with
 | h0 => simp [shM]
 | h1 l x ih =>
  have hle := shM_le l
  rw [YK, mput_length, shM_some, List.map_append, List.map_singleton, List.nodup_append]
  by_cases hm : x.id ∈ l.map Sx.id
  ·rw [if_pos (by simpa using hm)]
   constructor
   ·intro h; simp at h; omega
   ·intro h; exact absurd rfl (h.2.2 x.id hm x.id (by simp))
  ·rw [if_neg (by simpa using hm)]
   constructor
   ·intro h
    refine ⟨ih.1 (by simp at h; omega), by simp, fun a ha b hb => ?_⟩
    rw [List.mem_singleton] at hb
    subst hb
    exact fun e => hm (e ▸ ha)
   ·intro h
    have := ih.2 h.1
    simp; omega
theorem shM_get (l : List Sx) (hn : (l.map Sx.id).Nodup) (id : Int) : mget (shM l) id = (ZA l id).map sxV := by
 unfold ZA
 induction l using YU with
 | h0 => simp [shM, Q2]
 | h1 l x ih =>
  rw [List.map_append, List.map_singleton, List.nodup_append] at hn
  rw [YK, ZB, List.find?_append]
  split
  ·rename_i h
   subst h
   rw [show l.find? (fun s => decide (s.id = x.id)) = none from List.find?_eq_none.2 fun s hs => by
    rw [decide_eq_true_eq]
    exact hn.2.2 s.id (List.mem_map.2 ⟨s, hs, rfl⟩) x.id (by simp)]
   simp
  ·rename_i h
   rw [ih hn.1]
   have h' : ¬ x.id = id := fun e => h e.symm
   cases l.find? (fun s => decide (s.id = id)) <;> simp [h']
theorem edM_get (l : List Ex) (id : Int) : mget (edM l) id = if l.any (fun x => decide (x.id = id)) then some (.bool true) else none := by
 induction l using YU with
 | h0 => simp [edM, Q2]
 | h1 l x ih =>
  rw [edM_snoc, ZB, ih, List.any_append]
  by_cases h : id = x.id
  ·subst h; simp
  ·have h' : ¬ x.id = id := fun e => h e.symm
   simp [h, h']
structure Lq where
 a : Option Addr
 c : Nat
def lgRow (x : Lg × Lq) : List Value := [.int .i64 x.1.st, .slice x.2.a x.1.es.length x.2.c, .int .u64 x.1.ch]
structure LgsAt (w : World) (a : Option Addr) (l : List (Lg × Lq)) : Prop where
 rows : SlAt w a 3 (l.map lgRow)
 es : ∀ x ∈ l, EnAt w x.2.a x.1.es
theorem LgsAt.below {w w' : World} {a : Option Addr} {l : List (Lg × Lq)} (h : LgsAt w a l) (hb : Below w.heap.size w w') : LgsAt w' a l := ⟨h.rows.below hb, fun x hx => (h.es x hx).below hb⟩
theorem LgsAt.get {w : World} {a : Option Addr} {l : List (Lg × Lq)} (h : LgsAt w a l) (i : Nat) (hi : i < l.length) : ∃ b off, a = some ⟨b, off, none⟩ ∧ w.cell? ⟨b, off + i * 3, none⟩ = some (.int .i64 l[i].1.st) ∧
  w.cell? ⟨b, off + i * 3 + 1, none⟩ = some (.slice l[i].2.a l[i].1.es.length l[i].2.c) ∧ w.cell? ⟨b, off + i * 3 + 2, none⟩ = some (.int .u64 l[i].1.ch) := by
 obtain ⟨b, off, e, _, _, hc⟩ := h.rows i (lgRow l[i]) (by simp [hi])
 exact ⟨b, off, e, hc 0 _ rfl, hc 1 _ rfl, hc 2 _ rfl⟩
structure LgFew (l : List (Lg × Lq)) : Prop where
 len : l.length ≤ 200
 es : ∀ x ∈ l, x.1.es.length ≤ 800
 wide : ∀ x ∈ l, ∀ e ∈ x.1.es, e.wide
 ok : ∀ x ∈ l, SlOk x.2.a x.1.es.length x.2.c
def Qp (l : List (Lg × Lq)) : List Lg := l.map Prod.fst
theorem validLg_ok {x : Lg} (h : Qw x = true) : (1 ≤ x.st ∧ x.st ≤ 1000000) ∧ ∀ e ∈ x.es, Qt e = true := by
 unfold Qw at h
 simp only [Bool.and_eq_true, Zg] at h
 exact ⟨h.1.1.1, Yb _ _ h.1.2⟩
theorem logsB_ok {l : List Lg} (h : QU l = true) : (∀ x ∈ l, (1 ≤ x.st ∧ x.st ≤ 1000000) ∧ ∀ e ∈ x.es, Qt e = true) ∧ (l.map Lg.st).Nodup := by
 unfold QU at h
 simp only [Bool.and_eq_true, List.all_eq_true, decide_eq_true_eq] at h
 exact ⟨fun x hx => validLg_ok (h.1 x hx), h.2⟩
theorem UQ (L : Lb) (d : List De) (st : Int) (e : En) : ∀ (es : List En) (k m : Int) (i : Nat), QA L d st k m i (es ++ [e]) = QA L d st k m i es ++ (Zb L d st (es.foldl Zl k) (es.foldl Zu m) e).map (fun r => ⟨st, r, ((i + es.length : Nat) : Int)⟩)
 | [], k, m, i => by simp [QA]
 | x :: es, k, m, i => by
  rw [List.cons_append, QA, QA, UQ L d st e es, List.append_assoc, List.foldl_cons, List.foldl_cons, List.length_cons, show i + 1 + es.length = i + (es.length + 1) by omega]
theorem rulesR_len (L : Lb) (d : List De) (st k m : Int) (e : En) : (Zb L d st k m e).length ≤ 2 := by
 unfold Zb
 repeat' split
 all_goals simp
theorem ZT (L : Lb) (d : List De) (st : Int) : ∀ (es : List En) (k m : Int) (i : Nat), (QA L d st k m i es).length ≤ 2 * es.length
 | [], k, m, i => by simp [QA]
 | x :: es, k, m, i => by
  rw [QA, List.length_append, List.length_map, List.length_cons]
  have h1 := rulesR_len L d st k m x
  have h2 := ZT L d st es (Zl k x) (Zu m x) (i + 1)
  omega
theorem mem_insSt {x y : Lg} {l : List Lg} : y ∈ YP x l ↔ y = x ∨ y ∈ l := by
 induction l with
 | nil => simp [YP]
 | cons z l ih =>
  unfold YP
  split
  ·simp
  ·rw [List.mem_cons, ih, List.mem_cons]
   constructor
   ·rintro (h | h | h) <;> simp [h]
   ·rintro (h | h | h) <;> simp [h]
theorem insSt_perm (x : Lg) (l : List Lg) : (YP x l).Perm (x :: l) := by
 induction l with
 | nil => exact .refl _
 | cons y l ih =>
  unfold YP
  split
  ·exact .refl _
  ·exact (ih.cons y).trans (.swap x y l)
theorem Q8 (l : List Lg) : (Za l).Perm l := by
 induction l with
 | nil => exact .refl _
 | cons x l ih => exact (insSt_perm x _).trans (ih.cons x)
theorem insSt_sorted {x : Lg} {l : List Lg} (h : l.Pairwise fun a b => a.st ≤ b.st) : (YP x l).Pairwise fun a b => a.st ≤ b.st := by
 induction l with
 | nil => simp [YP]
 | cons y l ih =>
  unfold YP
  rw [List.pairwise_cons] at h
  split
  ·rename_i hx
   refine List.pairwise_cons.2 ⟨fun z hz => ?_, List.pairwise_cons.2 h⟩
   rcases List.mem_cons.1 hz with rfl | hz
   ·exact hx
   ·exact Int.le_trans hx (h.1 z hz)
  ·refine List.pairwise_cons.2 ⟨fun z hz => ?_, ih h.2⟩
   rcases mem_insSt.1 hz with rfl | hz
   ·omega
   ·exact h.1 z hz
theorem sortSt_sorted (l : List Lg) : (Za l).Pairwise fun a b => a.st ≤ b.st := by
 induction l with
 | nil => exact .nil
 | cons x l ih => exact insSt_sorted ih
theorem sortSt_lt {l : List Lg} (h : (l.map Lg.st).Nodup) : (Za l).Pairwise fun a b => a.st < b.st := by
 have h2 : ((Za l).map Lg.st).Nodup := ((Q8 l).map Lg.st).nodup_iff.2 h
 have h3 : (Za l).Pairwise fun a b => a.st ≠ b.st := List.pairwise_map.1 h2
 exact ((sortSt_sorted l).and h3).imp fun h => by omega
theorem lt_uniq : ∀ {a b : List Lg}, a.Pairwise (fun x y => x.st < y.st) → b.Pairwise (fun x y => x.st < y.st) → a.Perm b → a = b
 | [], b, _, _, h => (List.nil_perm.1 h).symm
 | x :: a, [], _, _, h => absurd h.length_eq (by simp)
 | x :: a, y :: b, ha, hb, h => by
  rw [List.pairwise_cons] at ha hb
  have hx : x ∈ y :: b := h.mem_iff.1 (by simp)
  have hy : y ∈ x :: a := h.mem_iff.2 (by simp)
  have e : x = y := by
   rcases List.mem_cons.1 hx with e | hx
   ·exact e
   ·rcases List.mem_cons.1 hy with e | hy
    ·exact e.symm
    ·have h1 := hb.1 x hx; have h2 := ha.1 y hy; omega
  subst e
  rw [lt_uniq ha.2 hb.2 ((List.perm_cons x).1 h)]
theorem sortSt_eq {l s : List Lg} (hn : (l.map Lg.st).Nodup) (h : s.Perm l) (hs : s.Pairwise fun a b => a.st ≤ b.st) : s = Za l := by
 refine lt_uniq ?_ (sortSt_lt hn) (h.trans (Q8 l).symm)
 have h2 : (s.map Lg.st).Nodup := (h.map Lg.st).nodup_iff.2 hn
 have h3 : s.Pairwise fun a b => a.st ≠ b.st := List.pairwise_map.1 h2
 exact (hs.and h3).imp fun h => by omega
def UD (l : List Lg) (st b : Int) : Prop := (b = -1 ∧ ∀ x ∈ l, ¬ st < x.st) ∨ ∃ j, ∃ hj : j < l.length, b = j ∧ st < l[j].st ∧ ∀ x ∈ l, st < x.st → l[j].st ≤ x.st
theorem flatV_len (L : Lb) (d : List De) (A : List Lg) (n : Nat) (h : ∀ x ∈ A, x.es.length ≤ n) : (A.flatMap fun x => QA L d x.st 0 0 0 x.es).length ≤ A.length * (2 * n) := by
 induction A with
 | nil => simp
 | cons x A ih =>
  rw [List.flatMap_cons, List.length_append, List.length_cons, Nat.succ_mul]
  have h1 := ZT L d x.st x.es 0 0 0
  have h2 := h x (by simp)
  have h3 := ih fun y hy => h y (by simp [hy])
  omega
open Go.Shelf
def Lay.sortL_ren : Go.Shelf.Ren := ⟨fun | 6 => 33 | 15 => 61 | 14 => 60 | 28 => 101 | 29 => 102 | 20 => 93 | 21 => 94 | 22 => 95 | 23 => 96 | 24 => 97 | 25 => 98 | 26 => 99 | 27 => 100 | 46 => 137 | 47 => 138 | 48 => 139 | 49 => 140 | 50 => 141 | 57 => 179 | n => n, fun | 22 => 29 | 24 => 44 | 25 => 77 | 3 => 3 | 39 => 146 | 0 => 0 | 53 => 197 | 55 => 42 | 4 => 4 | 46 => 191 | 45 => 190 | 50 => 92 | 5 => 5 | 9 => 9 | 66 => 228 | 70 => 231 | 76 => 260 | 77 => 261 | n => n, fun | n => n⟩
theorem Lay.sortL : Go.Proofs.SlLaysF0.n6 Tryz.prog Lay.sortL_ren := {
 mixed := by kernel_rfl
 f6 := ⟨Tryz.f33.name, by decide, Tryz.func33.trans (congrArg some (by kernel_rfl))⟩
 f14 := ⟨Tryz.f60.name, by decide, Tryz.func60.trans (congrArg some (by kernel_rfl))⟩
 f15 := Tryz.func61.trans (congrArg some (by kernel_rfl))
 f20 := ⟨Tryz.f93.name, by decide, Tryz.func93.trans (congrArg some (by kernel_rfl))⟩
 f21 := ⟨Tryz.f94.name, by decide, Tryz.func94.trans (congrArg some (by kernel_rfl))⟩
 f22 := ⟨Tryz.f95.name, by decide, Tryz.func95.trans (congrArg some (by kernel_rfl))⟩
 f23 := ⟨Tryz.f96.name, by decide, Tryz.func96.trans (congrArg some (by kernel_rfl))⟩
 f24 := ⟨Tryz.f97.name, by decide, Tryz.func97.trans (congrArg some (by kernel_rfl))⟩
 f25 := ⟨Tryz.f98.name, by decide, Tryz.func98.trans (congrArg some (by kernel_rfl))⟩
 f26 := ⟨Tryz.f99.name, by decide, Tryz.func99.trans (congrArg some (by kernel_rfl))⟩
 f27 := ⟨Tryz.f100.name, by decide, Tryz.func100.trans (congrArg some (by kernel_rfl))⟩
 f28 := Tryz.func101.trans (congrArg some (by kernel_rfl))
 f29 := Tryz.func102.trans (congrArg some (by kernel_rfl))
 f46 := ⟨Tryz.f137.name, by decide, Tryz.func137.trans (congrArg some (by kernel_rfl))⟩
 f47 := Tryz.func138.trans (congrArg some (by kernel_rfl))
 f48 := Tryz.func139.trans (congrArg some (by kernel_rfl))
 f49 := ⟨Tryz.f140.name, by decide, Tryz.func140.trans (congrArg some (by kernel_rfl))⟩
 f50 := ⟨Tryz.f141.name, by decide, Tryz.func141.trans (congrArg some (by kernel_rfl))⟩
 f57 := ⟨Tryz.f179.name, by decide, Tryz.func179.trans (congrArg some (by kernel_rfl))⟩
 t0 := Tryz.underlying0
 a0 := Tryz.isAgg0
 z0 := Tryz.sizeOf0
 v0 := Tryz.zeroValue0
 t3 := Tryz.underlying3
 a3 := Tryz.isAgg3
 z3 := Tryz.sizeOf3
 v3 := Tryz.zeroValue3
 t4 := Tryz.underlying4
 a4 := Tryz.isAgg4
 z4 := Tryz.sizeOf4
 v4 := Tryz.zeroValue4
 t5 := Tryz.underlying5
 a5 := Tryz.isAgg5
 z5 := Tryz.sizeOf5
 v5 := Tryz.zeroValue5
 t9 := Tryz.underlying9
 a9 := Tryz.isAgg9
 z9 := Tryz.sizeOf9
 v9 := Tryz.zeroValue9
 t22 := Tryz.underlying29
 a22 := Tryz.isAgg29
 z22 := Tryz.sizeOf29
 v22 := Tryz.zeroValue29
 t25 := Tryz.underlying77
 a25 := Tryz.isAgg77
 z25 := Tryz.sizeOf77
 v25 := Tryz.zeroValue77
 t39 := Tryz.underlying146
 a39 := Tryz.isAgg146
 z39 := Tryz.sizeOf146
 v39 := Tryz.zeroValue146
 t45 := Tryz.underlying190
 a45 := Tryz.isAgg190
 z45 := Tryz.sizeOf190
 v45 := Tryz.zeroValue190
 t46 := Tryz.underlying191
 a46 := Tryz.isAgg191
 z46 := Tryz.sizeOf191
 v46 := Tryz.zeroValue191
 t50 := Tryz.underlying92
 a50 := Tryz.isAgg92
 z50 := Tryz.sizeOf92
 v50 := Tryz.zeroValue92
 t53 := Tryz.underlying197
 a53 := Tryz.isAgg197
 z53 := Tryz.sizeOf197
 v53 := Tryz.zeroValue197
 t55 := Tryz.underlying42
 a55 := Tryz.isAgg42
 z55 := Tryz.sizeOf42
 v55 := Tryz.zeroValue42
 t66 := Tryz.underlying228
 a66 := Tryz.isAgg228
 z66 := Tryz.sizeOf228
 v66 := Tryz.zeroValue228
 t70 := Tryz.underlying231
 a70 := Tryz.isAgg231
 z70 := Tryz.sizeOf231
 v70 := Tryz.zeroValue231
 t76 := Tryz.underlying260
 a76 := Tryz.isAgg260
 z76 := Tryz.sizeOf260
 v76 := Tryz.zeroValue260
 t77 := Tryz.underlying261
 a77 := Tryz.isAgg261
 z77 := Tryz.sizeOf261
 v77 := Tryz.zeroValue261 }
variable {F : Fence} {n : Nat} {P : Program}
structure Calm (B : Nat) (S : List Nat) (X Y : World) : Prop where
 os : Y.os = X.os
 tape : Y.tape = X.tape
 output : Y.output = X.output
 size : X.heap.size ≤ Y.heap.size
 obj : ∀ k o, X.heap[k]? = some o → k ∉ S → (o.isCells = true ∨ k < B) → Y.heap[k]? = some o
 typ : ∀ (k : Nat) (cs : Array Value) (T : TypeId) (fr : Nat × Nat), X.heap[k]? = some (.cells cs T fr) → ∃ cs' : Array Value, Y.heap[k]? = some (.cells cs' T fr)
theorem Calm.refl (B : Nat) (S : List Nat) (X : World) : Calm B S X X := ⟨rfl, rfl, rfl, Nat.le_refl _, fun _ _ h _ _ => h, fun _ _ _ _ h => ⟨_, h⟩⟩
theorem Calm.trans {B : Nat} {S : List Nat} {X Y Z : World} (h : Calm B S X Y) (k : Calm B S Y Z) : Calm B S X Z := ⟨k.os.trans h.os, k.tape.trans h.tape, k.output.trans h.output, Nat.le_trans h.size k.size, fun i o hi hn hc => k.obj i o (h.obj i o hi hn hc) hn hc, fun i cs T fr hi => by obtain ⟨cs', h'⟩ := h.typ i cs T fr hi; exact k.typ i cs' T fr h'⟩
theorem Calm.mono {B B' : Nat} {S : List Nat} {X Y : World} (h : Calm B' S X Y) (hB : B ≤ B') : Calm B S X Y := ⟨h.os, h.tape, h.output, h.size, fun k o hk hn hc => h.obj k o hk hn (hc.imp id fun h => Nat.lt_of_lt_of_le h hB), h.typ⟩
theorem Calm.keep1 {B r : Nat} {X Y : World} {c1 c2 : Array Value} {T : TypeId} {fr : Nat × Nat} (h : KeepB X.heap.size [r] X Y) (h1 : X.heap[r]? = some (.cells c1 T fr)) (h2 : Y.heap[r]? = some (.cells c2 T fr)) : Calm B [r] X Y :=
 ⟨h.os, h.tape, h.output, h.size, fun k o hk hn _ => (h.block k (Qd hk) hn).trans hk, fun k cs U fs hk => by
  by_cases e : k = r
  ·subst e; rw [h1] at hk; cases hk; exact ⟨_, h2⟩
  ·exact ⟨_, (h.block k (Qd hk) (by rw [List.mem_singleton]; exact e)).trans hk⟩⟩
theorem Calm.below {B : Nat} {S : List Nat} {X Y : World} (h : Below X.heap.size X Y) : Calm B S X Y := ⟨h.os, h.tape, h.output, h.size, fun k o hk _ _ => Qc hk h, fun k cs T fr hk => ⟨_, Qc hk h⟩⟩
theorem Calm.put {B : Nat} {S : List Nat} {X : World} {l : Nat} {o o' : Obj} (hl : B ≤ l) (h : X.heap[l]? = some o) (hc : o.isCells = false) : Calm B S X (X.putObj l o') := by
 have hne : ∀ k u, X.heap[k]? = some u → u.isCells = true ∨ k < B → k ≠ l := fun k u hk hu e => by
  subst e
  rw [h] at hk; cases hk
  rcases hu with hu | hu
  ·rw [hc] at hu; cases hu
  ·omega
 exact ⟨rfl, rfl, rfl, by simp, fun k u hk _ hu => (World.putObj_heap_other (hne k u hk hu)).trans hk, fun k cs T fr hk => ⟨_, (World.putObj_heap_other (hne k _ hk (.inl rfl))).trans hk⟩⟩
theorem Calm.low {B N : Nat} {S : List Nat} {X Y : World} (h : Calm B S X Y) (hB : N ≤ B) (hX : N ≤ X.heap.size) (hS : ∀ s ∈ S, N ≤ s) : Below N X Y := ⟨h.os, h.tape, h.output, h.size, fun k hk => by
 have hl : k < X.heap.size := by omega
 rw [h.obj k X.heap[k] (Array.getElem?_eq_getElem hl) (fun hm => by have := hS k hm; omega) (.inr (by omega)), Array.getElem?_eq_getElem hl]⟩
def SeqX {α : Type} (F : Fence) (n : Nat) (P : Program) (g : Nat) (lb : Array Value) (encs : α → Array Value) (Kp : World → World → Prop) (S : List α → Prop) (N : Nat) (Rs : List Nat) (w : World) : Prop :=
 ∀ (l : Nat) (J Jx : List α → World → Prop) (W : World), Below w.heap.size w W → (∀ pre X Y, J pre X → Calm W.heap.size Rs X Y → J pre Y) → (∀ pre X Y, Jx pre X → Calm W.heap.size Rs X Y → Jx pre Y) →
  (∀ pre x W1, J pre W1 → pre.length < N → YieldAt F (n - 1) P l (encs x) W1 fun e W' => (e = .returned (.bool true) ∧ J (pre ++ [x]) W' ∧ Kp W1 W' ∧ KeepsFrom W.heap.size W1 W') ∨ (e = .returned (.bool false) ∧ Jx (pre ++ [x]) W' ∧ KeepsFrom W.heap.size W1 W')) →
  J [] W → CallsIn F n P g (#[.func (.yield l) #[] #[]] ++ lb) W fun e W' => (∃ v, e = .returned v) ∧ ((∃ xs, S xs ∧ J xs W') ∨ (∃ pre, Jx pre W'))
theorem rangeFunc_x {α : Type} {g : Operand} {ps : Array Tmp} {assign body : Code} {Q : Exit → Act → World → Prop} {a : Act} {w : World}
  (hro : F.round = none) (h1 : 1 ≤ n) {gf : Nat} {lb : Array Value} (hg : a.eval g = .func (.func gf) #[] lb) (hFg : F.fn gf) (eg : ∀ args w, (callFunc gf args).run P w = .ok (.enter gf args) w)
  {encs : α → Array Value} (hps : ∀ x, (encs x).size = ps.size) {Kp : World → World → Prop} {S : List α → Prop} {N : Nat} {Rs : List Nat} (hRs : ∀ k ∈ Rs, k < w.heap.size) (hseq : SeqX F (n - 1) P gf lb encs Kp S N Rs w)
  (hKt : ∀ {A B C : World}, Kp A B → Kp B C → Kp A C) (hKb : ∀ (W : World) (l : Nat) (o o' : Obj), w.heap.size ≤ l → W.heap[l]? = some o → o.isCells = false → Kp W (W.putObj l o'))
  (I : List α → World → Prop) (hI : ∀ pre X Y, I pre X → Calm w.heap.size Rs X Y → I pre Y) (Ix : List α → World → Prop) (hIx : ∀ pre X Y, Ix pre X → Calm w.heap.size Rs X Y → Ix pre Y) (h0 : I [] w)
  (Ax : α → Act → World → Prop) (hAx : ∀ x a', OwnFrom w.heap.size (fun (_ : Unit) W => Ax x a' W))
  (hassign : ∀ (l : Nat) (pre : List α) (x : α) (W : World) (K : Act → World → Prop), I pre W → (∀ a' W', KeepsFrom w.heap.size W W' → Kp W W' → I pre W' → Ax x a' W' → K a' W') →
   assign.wpIn (F.inRound l) (n - 1 - 1) P (Exit.then K (fun _ _ _ => False)) { tmps := (ps.zip (encs x)).foldl (fun t (p, v) => t.setIfInBounds p v) a.tmps, defers := [] } W)
  (hbody : ∀ (l : Nat) (pre : List α) (x : α) (a' : Act) (W : World), w.heap.size ≤ l → I pre W → Ax x a' W → pre.length < N → body.wpIn (F.inRound l) (n - 1 - 1) P (lowPost w.heap.size Kp (I (pre ++ [x])) (Ix (pre ++ [x])) W) a' W)
  (hdone : ∀ (D : Nat) (xs : List α) (W : World), D = w.heap.size → S xs → I xs W → W.heap[D]? = some (.deferred (some [])) → Q .normal { a with defers := { target := .collected D, args := #[] } :: a.defers } W)
  (hstop : ∀ (D : Nat) (pre : List α) (W : World), w.heap.size ≤ D → Ix pre W → W.heap[D]? = some (.deferred (some [])) → Code.ret.wpIn F n P Q { a with defers := { target := .collected D, args := #[] } :: a.defers } W) :
  (Code.rangeFunc g ps assign body).wpIn F n P Q a w := by
 refine wpIn_rangeFunc fun fn hfn => ?_
 rw [hro]
 obtain ⟨R, hR⟩ : ∃ R : LoopState → Option Code → Loop, R = fun st p => { state := st, pending := p, fn, tmps := a.tmps, params := ps, assign, body, defers := w.heap.size } := ⟨_, rfl⟩
 obtain ⟨W1, hW1⟩ : ∃ W1, (w.alloc (.deferred (some []))).alloc (.loop (R .ready none)) = W1 := ⟨_, rfl⟩
 have s1 : W1.heap.size = w.heap.size + 2 := by rw [← hW1]; simp
 have bw : Below w.heap.size w W1 := by rw [← hW1]; exact ((Below.refl _ w).alloc (Nat.le_refl _) _).alloc (by simp) _
 have kL : W1.heap[w.heap.size + 1]? = some (.loop (R .ready none)) := by
  rw [← hW1]; have := World.alloc_heap_new (w.alloc (.deferred (some []))) (.loop (R .ready none)); rwa [World.size_alloc] at this
 have kD : W1.heap[w.heap.size]? = some (.deferred (some [])) := by rw [← hW1]; exact Qj (heap_alloc_new w _) _
 have i1 : I [] W1 := hI _ _ _ h0 (Calm.below bw)
 refine ⟨w.heap.size + 1, [{ target := .collected w.heap.size, args := #[] }], W1, { target := .fn (.func gf) lb, args := #[.func (.yield (w.heap.size + 1)) #[] #[]] }, W1, gf, #[.func (.yield (w.heap.size + 1)) #[] #[]] ++ lb, W1, ?_, ?_, ?_, ?_, fun _ => h1, ?_⟩
 ·rw [← hW1, hR]; exact run_enterLoop_outer _ _ _ _ _
 ·simp only [resolve, hg]; simp [go_sem]
 ·intro f' hf'; simp [Target.leads] at hf'; subst hf'; exact hFg
 ·simp [invoke, go_sem, eg]
 have low : ∀ {X Y : World} {k : Nat} {o : Obj}, k < W1.heap.size → w.heap.size ≤ k → Calm W1.heap.size Rs X Y → X.heap[k]? = some o → Y.heap[k]? = some o := fun hk hw hb hx => hb.obj _ _ hx (fun hm => by have := hRs _ hm; omega) (.inr hk)
 refine (hseq (w.heap.size + 1) (fun pre W => I pre W ∧ W.heap[w.heap.size + 1]? = some (.loop (R .ready none)) ∧ W.heap[w.heap.size]? = some (.deferred (some [])))
  (fun pre W => Ix pre W ∧ W.heap[w.heap.size + 1]? = some (.loop (R .done (some .ret))) ∧ W.heap[w.heap.size]? = some (.deferred (some []))) W1 bw ?_ ?_ ?_ ⟨i1, kL, kD⟩).mono ?_
 ·rintro pre X Y ⟨x1, x2, x3⟩ hk
  exact ⟨hI _ _ _ x1 (hk.mono (by omega)), low (by omega) (by omega) hk x2, low (by omega) (Nat.le_refl _) hk x3⟩
 ·rintro pre X Y ⟨x1, x2, x3⟩ hk
  exact ⟨hIx _ _ _ x1 (hk.mono (by omega)), low (by omega) (by omega) hk x2, low (by omega) (Nat.le_refl _) hk x3⟩
 ·rintro pre x W ⟨x1, x2, x3⟩ hlen
  have hy := run_yield (P := P) (args := encs x) x2 (by rw [hR]; exact hps x)
  rw [hR] at hy
  refine ⟨fn, _, assign, body, hy, roundIn_of_wpIn hfn (hassign _ pre x W _ x1 fun a' V hf hp hi hax => ?_)⟩
  have v2 := hf.same _ _ (by omega) x2 rfl
  have v3 := hf.same _ _ (Nat.le_refl _) x3 rfl
  have hlt := Qd v2
  refine ⟨_, run_beginRound v2 (by rw [hR]), ?_⟩
  have u2 : (V.putObj (w.heap.size + 1) (.loop { R .ready none with state := .busy })).heap[w.heap.size + 1]? = some (.loop { R .ready none with state := .busy }) := World.putObj_heap_same hlt
  have u3 : (V.putObj (w.heap.size + 1) (.loop { R .ready none with state := .busy })).heap[w.heap.size]? = some (.deferred (some [])) := (World.putObj_heap_other (by omega)).trans v3
  have p2 : Kp V (V.putObj (w.heap.size + 1) (.loop { R .ready none with state := .busy })) := hKb _ _ _ _ (by omega) v2 rfl
  refine wpIn_mono (hbody _ pre x a' _ (by omega) (hI _ _ _ hi (Calm.put (by omega) v2 rfl)) ((hAx x a').putObj (s := ()) _ hax (by omega) v2 rfl) hlen) ?_
  rintro e a3 V3 hpo
  match e, hpo with
  | .normal, ⟨hf3, hp3, hi3⟩ =>
   have t2 := hf3.same _ _ (by omega) u2 rfl
   have t3 := hf3.same _ _ (Nat.le_refl _) u3 rfl
   have hend := run_endRound (P := P) none t2
   rw [hR] at hend
   refine ⟨_, _, hend, .inl ⟨rfl, ⟨hI _ _ _ hi3 (Calm.put (by omega) t2 rfl), ?_, (World.putObj_heap_other (by omega)).trans t3⟩, hKt hp (hKt (hKt p2 hp3) (hKb _ _ _ _ (by omega) t2 rfl)), (hf.up (by omega)).trans ((QZ (by omega)).trans ((hf3.up (by omega)).trans (QZ (by omega))))⟩⟩
   rw [hR]; exact World.putObj_heap_same (Qd t2)
  | .ret, ⟨hf3, hi3⟩ =>
   have t2 := hf3.same _ _ (by omega) u2 rfl
   have t3 := hf3.same _ _ (Nat.le_refl _) u3 rfl
   have hend := run_endRound (P := P) (some .ret) t2
   rw [hR] at hend
   refine ⟨_, _, hend, .inr ⟨rfl, ⟨hIx _ _ _ hi3 (Calm.put (by omega) t2 rfl), ?_, (World.putObj_heap_other (by omega)).trans t3⟩, (hf.up (by omega)).trans ((QZ (by omega)).trans ((hf3.up (by omega)).trans (QZ (by omega))))⟩⟩
   rw [hR]; exact World.putObj_heap_same (Qd t2)
 ·rintro e W2 ⟨⟨v, rfl⟩, ⟨xs, hS, x1, x2, x3⟩ | ⟨pre, x1, x2, x3⟩⟩
  ·exact ⟨none, _, by have := run_endLoop (P := P) x2 (by rw [hR]; simp); rw [hR] at this; exact this, hdone _ xs _ rfl hS (hI _ _ _ x1 (Calm.put (by omega) x2 rfl)) ((World.putObj_heap_other (by omega)).trans x3)⟩
  ·exact ⟨some .ret, _, by have := run_endLoop (P := P) x2 (by rw [hR]; simp); rw [hR] at this; exact this, hstop _ pre _ (Nat.le_refl _) (hIx _ _ _ x1 (Calm.put (by omega) x2 rfl)) ((World.putObj_heap_other (by omega)).trans x3)⟩
end Go.Proofs.YtajijcfikihhjaaGreatDoor
namespace Go.Proofs.YtajijcfikihhjaaGreatDoor
open Go.RowKit Go.Sort Go.Shelf
theorem stepM {κ : Type} [DecidableEq κ] {enc : κ → Value} {P : Program} {w : World} {ops : Array Oper} {o : Oper} {a : Act} {K : Act → World → Prop} {Q : Exit → Act → World → Prop} {Z : Prop} (hgd : o.guard = none) (mo x v : Operand) (t : TypeId) (hop : o.op = Op.mapUpdate t mo x v ∨ o.op = Op.insert t mo x v) {KT E : TypeId} (ht : P.underlying t = some (.map KT E)) (hk : KeyOk P KT enc)
  (r : Nat) (m : List (κ × Value)) (hm : a.eval mo = .map (some r)) (h : MapAt w enc r m) (k : κ) (hx : a.eval x = enc k) (val : Value) (hv : a.eval v = val)
  (hK : ∀ w', MapAt w' enc r (mput m k val) → w.grownBy w' (some r) → K (a.put o.dst undef) w') : if Region.wanted o (yielded ops a.tmps) = true then Oper.wp P o a w K Q else Z := by
 have hw : Region.wanted o (yielded ops a.tmps) = true := by simp [Region.wanted, hgd]
 rw [if_pos hw]
 obtain ⟨w', hrun, r1, r2⟩ := run_update_at ht hk h k val
 unfold Oper.wp
 rcases hop with hop | hop <;>
  (simp only [execOp, hop, hm, hx, hv]
   simp [hrun, Result.andThen]
   exact hK w' r1 r2)
theorem MapAt.len {κ : Type} [DecidableEq κ] {enc : κ → Value} {P : Program} {w : World} {r : Nat} {m : List (κ × Value)} (h : MapAt w enc r m) (t ty : TypeId) (ht : P.underlying t = some (.map (P.mapKeyOf t) (P.mapElemOf t))) : (Builtin.len_ #[t] ty #[.map (some r)]).run P w = .ok (.int .i64 m.length) w := by
 obtain ⟨⟨es, c, hb, he, _⟩, _⟩ := h
 rw [run_len_map w t ty r es c ht hb]
 have h1 := congrArg List.length he
 simp only [List.length_map, Array.length_toList] at h1
 rw [← h1]; rfl
structure AudAt (w : World) (g : Nat) (L : Lb) (P : Lbp) (d : List De) (da : Option Addr) (dc rs re : Nat) : Prop where
 box : w.heap[g]? = some (.cells #[.slice P.wa L.ws.length P.wc, .slice P.ea L.eds.length P.ec, .slice P.sa L.shs.length P.sc, .slice P.la L.los.length P.lc, .slice da d.length dc, .map (some rs), .map (some re)] 142)
 shs : MapAt w encI rs (shM L.shs)
 eds : MapAt w encI re (edM L.eds)
theorem newAuditor_any (L : Lb) (P : Lbp) (d : List De) (da : Option Addr) (dc : Nat) (w : World) (hf : LbFew L) (hdl : d.length ≤ 1000) (hL : LbAt w L P) (hd : DeAt w da d) :
  Calls Tryz.prog 30 #[.agg #[.slice P.wa L.ws.length P.wc, .slice P.ea L.eds.length P.ec, .slice P.sa L.shs.length P.sc, .slice P.la L.los.length P.lc], .slice da d.length dc] w fun e w' => ∃ g rs re, e = .returned (.tuple #[.pointer (some ⟨g, 0, none⟩), .bool (libB L d)]) ∧ AudAt w' g L P d da dc rs re ∧ Below w.heap.size w w' := by
 obtain ⟨wa, wc, ea, ec, sa, sc, la, lc⟩ := P
 have hmm := @run_makeMap Tryz.prog
 have HX := Qa (heap_alloc_new w (.cells #[.slice wa L.ws.length wc, .slice ea L.eds.length ec, .slice sa L.shs.length sc, .slice la L.los.length lc] 27))
 have HB := Qa (Qg (w := w) (.cells #[.slice wa L.ws.length wc, .slice ea L.eds.length ec, .slice sa L.shs.length sc, .slice la L.los.length lc] 27))
 have HLs := Qa (show SxAt w sa L.shs from hL.shs); have HLe := Qa (show ExAt w ea L.eds from hL.eds)
 have HV := Qa (fun V (hV : Below w.heap.size w V) => dValid_any wa wc L.ws da dc d V hf.ws hf.forms (hL.ws.below hV) (by omega) (hd.below hV))
 have HLo := Qa (fun V (hV : Below w.heap.size w V) => Qas la L.los.length lc L.los V rfl (by have := hf.los; omega) (LoAt.below hL.los hV))
 have HF := Qa hf
 clear hL hd hf
 dsimp only
 go_enter Tryz.func30, Tryz.ntmps30
 go_upto_region 1 with (fail)
 generalize w.alloc (.cells #[.slice wa L.ws.length wc, .slice ea L.eds.length ec, .slice sa L.shs.length sc, .slice la L.los.length lc] 27) = W at *
 have hc := Qb HX.out
 go_upto_region 2 with (fail)
 clear hc
 obtain ⟨x0, x1, x2, hb3⟩ := box3 (w := W) (A := .map #[] 0) (B := .map #[] 0) (C := .cells #[.slice wa L.ws.length wc, .slice ea L.eds.length ec, .slice sa L.shs.length sc, .slice la L.los.length lc, .slice da d.length dc, .map (some W.heap.size), .map (some (W.heap.size + 1))] 142) (Below.refl _ _)
 have HX3 := bk HX hb3
 have HB3 := bu HB hb3
 have HG := Qa (show _[W.heap.size + 1 + 1]? = _ from x2)
 have HMs := Qa (show MapAt (((W.alloc (.map #[] 0)).alloc (.map #[] 0)).alloc (.cells #[.slice wa L.ws.length wc, .slice ea L.eds.length ec, .slice sa L.shs.length sc, .slice la L.los.length lc, .slice da d.length dc, .map (some W.heap.size), .map (some (W.heap.size + 1))] 142)) encI W.heap.size (shM []) from ⟨⟨#[], 0, x0, rfl, by simp, by simp⟩, by simp [shM]⟩)
 have HMe := Qa (show MapAt (((W.alloc (.map #[] 0)).alloc (.map #[] 0)).alloc (.cells #[.slice wa L.ws.length wc, .slice ea L.eds.length ec, .slice sa L.shs.length sc, .slice la L.los.length lc, .slice da d.length dc, .map (some W.heap.size), .map (some (W.heap.size + 1))] 142)) encI (W.heap.size + 1) (edM []) from ⟨⟨#[], 0, x1, rfl, by simp, by simp⟩, by simp [edM]⟩)
 clear x0 x1 x2 hb3
 have hwl := Qd HX.out
 generalize ((W.alloc (.map #[] 0)).alloc (.map #[] 0)).alloc (.cells #[.slice wa L.ws.length wc, .slice ea L.eds.length ec, .slice sa L.shs.length sc, .slice la L.los.length lc, .slice da d.length dc, .map (some W.heap.size), .map (some (W.heap.size + 1))] 142) = W3 at *
 generalize hrs : W.heap.size = rs at *
 clear hrs HX HB
 have hc := Qb HX3.out
 go_wp2
 clear hc
 have hsl := HF.out.shs; have hel := HF.out.eds
 go_loopw [8, 21] (fun _ t21 wr => ∃ (k : Nat), k ≤ L.shs.length ∧ t21 = .int .i64 k ∧ MapAt wr encI rs (shM (L.shs.take k)) ∧ MapAt wr encI (rs + 1) (edM []) ∧ wr.heap[rs + 1 + 1]? = some (.cells #[.slice wa L.ws.length wc, .slice ea L.eds.length ec, .slice sa L.shs.length sc, .slice la L.los.length lc, .slice da d.length dc, .map (some rs), .map (some (rs + 1))] 142) ∧ wr.heap[w.heap.size]? = some (.cells #[.slice wa L.ws.length wc, .slice ea L.eds.length ec, .slice sa L.shs.length sc, .slice la L.los.length lc] 27) ∧ Below w.heap.size w wr) (fun _ t21 _ => L.shs.length - (intOf t21).toNat)
 case atStart => exact ⟨0, Nat.zero_le _, rfl, HMs.out, HMe.out, HG.out, HX3.out, HB3.out⟩
 case round =>
  clear HMs HMe HG HX3 HB3
  obtain ⟨k, hk, rfl, hms, hme, hg, hx, hb⟩ := hrel
  have HMs := Qa hms; have HMe := Qa hme; have HG := Qa hg; have HX := Qa hx; have HB := Qa hb
  clear hms hme hg hx hb
  have hrl := Qd HG.out
  by_cases hlt : k < L.shs.length
  ·obtain ⟨b, off, eq, d0, d1, d2, d3, d4, d5⟩ := SxAt.get (SlAt.below HLs.out HB.out) k hlt
   have hki : (k : Int) < (L.shs.length : Int) := by omega
   have hwk : IntKind.i64.wrap ((k : Int) + 1) = (k : Int) + 1 := IntWalk.i64_in _ (by omega)
   have HS := Qa (show shM (L.shs.take (k + 1)) = mput (shM (L.shs.take k)) (L.shs[k]'hlt).id (sxV (L.shs[k]'hlt)) by rw [List.take_succ_eq_append_getElem hlt, YK])
   generalize L.shs[k] = x at *
   subst eq
   go_upto_region 5 with (fail)
   clear d0 d1 d2 d3 d4 d5
   have hx1 := heap_alloc_new wr (.cells #[.int .i64 x.id, .int .i64 x.pt, .int .i64 x.ed, .int .i64 x.ver, .int .i64 x.pg, .int .u64 x.dg] 55)
   have hb1 := Qg (w := wr) (.cells #[.int .i64 x.id, .int .i64 x.pt, .int .i64 x.ed, .int .i64 x.ver, .int .i64 x.pg, .int .u64 x.dg] 55)
   have HX1 := bk HX hb1; have HG1 := bk HG hb1; have HMs1 := Qa (HMs.out.below hb1); have HMe1 := Qa (HMe.out.below hb1); have HB1 := Qa (HB.out.alloc HB.out.size (.cells #[.int .i64 x.id, .int .i64 x.pt, .int .i64 x.ed, .int .i64 x.ver, .int .i64 x.pg, .int .u64 x.dg] 55))
   have hwl2 := Qd HX.out
   clear hb1
   generalize wr.alloc (.cells #[.int .i64 x.id, .int .i64 x.pt, .int .i64 x.ed, .int .i64 x.ver, .int .i64 x.pg, .int .u64 x.dg] 55) = w1 at *
   generalize heb : wr.heap.size = eb at *
   refine wp_region_held_drew (S := fun w' => w'.heap[eb]? = some (.cells #[.int .i64 x.id, .int .i64 x.pt, .int .i64 x.ed, .int .i64 x.ver, .int .i64 x.pg, .int .u64 x.dg] 55) ∧ w'.heap[rs + 1 + 1]? = some (.cells #[.slice wa L.ws.length wc, .slice ea L.eds.length ec, .slice (some ⟨b, off, none⟩) L.shs.length sc, .slice la L.los.length lc, .slice da d.length dc, .map (some rs), .map (some (rs + 1))] 142)) (by kernel_rfl) ⟨hx1, HG1.out⟩ (fun hHeld => ?_)
   (refine tq 0 ?_ (y := fun _ hSw => by have hx := Qb hSw.1; have hy := Qb hSw.2; go_simp; try rfl))
   (refine tq 1 ?_ (y := fun _ hSw => by have hx := Qb hSw.1; have hy := Qb hSw.2; go_simp; try rfl))
   (refine tq 2 ?_ (y := fun _ hSw => by have hx := Qb hSw.1; have hy := Qb hSw.2; go_simp; try rfl))
   (refine tq 3 ?_ (y := fun _ hSw => by have hx := Qb hSw.1; have hy := Qb hSw.2; go_simp; try rfl))
   (refine tq 4 ?_ (y := fun _ hSw => by have hx := Qb hSw.1; have hy := Qb hSw.2; go_simp; try rfl))
   (refine tq 5 ?_ (y := fun _ hSw => by have hx := Qb hSw.1; have hy := Qb hSw.2; go_simp; try rfl))
   (refine tq 6 ?_ (y := fun _ hSw => by have hx := Qb hSw.1; have hy := Qb hSw.2; go_simp; try rfl))
   refine Zn (i := 7) (o := ?_) (by kernel_rfl) ?_ (fun K hK => ?_)
   rotate_left 1
   ·simp only [List.getElem?_toArray, List.getElem?_cons_succ, List.getElem?_cons_zero]; try rfl
   refine stepM rfl (.tmp 28) (.tmp 30) (.tmp 31) _ (.inl rfl) Tryz.underlying139 keyI rs _ rfl (HMs1.out.below (Below.refl _ _).drew) x.id rfl _ rfl ?_
   intro w6 hm6 hg6
   have HX6 := Qa ((hg6.block w.heap.size (by have := Qd HX1.out; simp; omega) (by simp; omega)).trans HX1.out)
   have HG6 := Qa ((hg6.block (rs + 1 + 1) (by have := Qd HG1.out; simp; omega) (by simp; omega)).trans HG1.out)
   have HE6 := Qa ((hg6.block eb (by have := Qd hx1; simp; omega) (by simp; omega)).trans hx1)
   have HMs6 := Qa (show MapAt w6 encI rs (mput (shM (L.shs.take k)) x.id (sxV x)) from hm6)
   rw [← HS.out] at HMs6
   have HMe6 := Qa ((HMe1.out.below (Below.refl _ _).drew).kept hg6 (by simp))
   have HB6 := Qa ((HB1.out.trans ((Below.refl _ _).drew.mono HB1.out.size)).grown hg6 (by have := HB1.out.size; simp; omega) (fun k e => by cases e; omega))
   clear hm6 hg6
   refine hK.out _ _ ⟨HE6.out, HG6.out⟩ (fun hHeld2 => ?_)
   clear hK K hHeld
   refine wpAnyH_done (by kernel_rfl) ?_ _
   go_wp2
   exact ⟨⟨k + 1, by omega, by go_num, HMs6.out, HMe6.out, HG6.out, HX6.out, HB6.out⟩, by simp [intOf]; omega⟩
  ·obtain rfl : k = L.shs.length := by omega
   rw [List.take_length] at HMs
   have hwl3 := Qd HX.out
   have hc := Qb HX.out
   go_wp2
   clear hc
   go_loopw [10, 36] (fun _ t36 wi => ∃ (k : Nat), k ≤ L.eds.length ∧ t36 = .int .i64 k ∧ MapAt wi encI rs (shM L.shs) ∧ MapAt wi encI (rs + 1) (edM (L.eds.take k)) ∧ wi.heap[rs + 1 + 1]? = some (.cells #[.slice wa L.ws.length wc, .slice ea L.eds.length ec, .slice sa L.shs.length sc, .slice la L.los.length lc, .slice da d.length dc, .map (some rs), .map (some (rs + 1))] 142) ∧ wi.heap[w.heap.size]? = some (.cells #[.slice wa L.ws.length wc, .slice ea L.eds.length ec, .slice sa L.shs.length sc, .slice la L.los.length lc] 27) ∧ Below w.heap.size w wi) (fun _ t36 _ => L.eds.length - (intOf t36).toNat)
   case atStart => exact ⟨0, Nat.zero_le _, rfl, HMs.out, HMe.out, HG.out, HX.out, HB.out⟩
   case round =>
    clear HMs HMe HG HX HB
    obtain ⟨k, hk, rfl, hms, hme, hg, hx, hb⟩ := hrel
    have HMs := Qa hms; have HMe := Qa hme; have HG := Qa hg; have HX := Qa hx; have HB := Qa hb
    clear hms hme hg hx hb
    have hrl := Qd HG.out
    by_cases hlt : k < L.eds.length
    ·obtain ⟨b, off, eq, d0, d1, d2, d3⟩ := ExAt.get (SlAt.below HLe.out HB.out) k hlt
     have hki : (k : Int) < (L.eds.length : Int) := by omega
     have hwk : IntKind.i64.wrap ((k : Int) + 1) = (k : Int) + 1 := IntWalk.i64_in _ (by omega)
     have HS := Qa (show edM (L.eds.take (k + 1)) = mput (edM (L.eds.take k)) (L.eds[k]'hlt).id (.bool true) by rw [List.take_succ_eq_append_getElem hlt, edM_snoc])
     generalize L.eds[k] = x at *
     subst eq
     go_upto_region 10 with (fail)
     clear d0 d1 d2 d3
     have hx1 := heap_alloc_new wr (.cells #[.int .i64 x.id, .int .i64 x.ver, .slice x.ba x.bn x.bc, .slice x.la x.ln x.lc] 119)
     have hb1 := Qg (w := wr) (.cells #[.int .i64 x.id, .int .i64 x.ver, .slice x.ba x.bn x.bc, .slice x.la x.ln x.lc] 119)
     have HX1 := bk HX hb1; have HG1 := bk HG hb1; have HMs1 := Qa (HMs.out.below hb1); have HMe1 := Qa (HMe.out.below hb1); have HB1 := Qa (HB.out.alloc HB.out.size (.cells #[.int .i64 x.id, .int .i64 x.ver, .slice x.ba x.bn x.bc, .slice x.la x.ln x.lc] 119))
     have hwl2 := Qd HX.out
     clear hb1
     generalize wr.alloc (.cells #[.int .i64 x.id, .int .i64 x.ver, .slice x.ba x.bn x.bc, .slice x.la x.ln x.lc] 119) = w1 at *
     generalize heb : wr.heap.size = eb at *
     refine wp_region_held_drew (S := fun w' => w'.heap[eb]? = some (.cells #[.int .i64 x.id, .int .i64 x.ver, .slice x.ba x.bn x.bc, .slice x.la x.ln x.lc] 119) ∧ w'.heap[rs + 1 + 1]? = some (.cells #[.slice wa L.ws.length wc, .slice (some ⟨b, off, none⟩) L.eds.length ec, .slice sa L.shs.length sc, .slice la L.los.length lc, .slice da d.length dc, .map (some rs), .map (some (rs + 1))] 142)) (by kernel_rfl) ⟨hx1, HG1.out⟩ (fun hHeld => ?_)
     (refine tq 0 ?_ (y := fun _ hSw => by have hx := Qb hSw.1; have hy := Qb hSw.2; go_simp; try rfl))
     (refine tq 1 ?_ (y := fun _ hSw => by have hx := Qb hSw.1; have hy := Qb hSw.2; go_simp; try rfl))
     (refine tq 2 ?_ (y := fun _ hSw => by have hx := Qb hSw.1; have hy := Qb hSw.2; go_simp; try rfl))
     (refine tq 3 ?_ (y := fun _ hSw => by have hx := Qb hSw.1; have hy := Qb hSw.2; go_simp; try rfl))
     (refine tq 4 ?_ (y := fun _ hSw => by have hx := Qb hSw.1; have hy := Qb hSw.2; go_simp; try rfl))
     (refine tq 5 ?_ (y := fun _ hSw => by have hx := Qb hSw.1; have hy := Qb hSw.2; go_simp; try rfl))
     refine Zn (i := 6) (o := ?_) (by kernel_rfl) ?_ (fun K hK => ?_)
     rotate_left 1
     ·simp only [List.getElem?_toArray, List.getElem?_cons_succ, List.getElem?_cons_zero]; try rfl
     refine stepM rfl (.tmp 43) (.tmp 45) _ _ (.inl rfl) Tryz.underlying140 keyI (rs + 1) _ rfl (HMe1.out.below (Below.refl _ _).drew) x.id rfl _ rfl ?_
     intro w6 hm6 hg6
     have HX6 := Qa ((hg6.block w.heap.size (by have := Qd HX1.out; simp; omega) (by first | (simp; done) | (simp; omega))).trans HX1.out)
     have HG6 := Qa ((hg6.block (rs + 1 + 1) (by have := Qd HG1.out; simp; omega) (by first | (simp; done) | (simp; omega))).trans HG1.out)
     have HE6 := Qa ((hg6.block eb (by have := Qd hx1; simp; omega) (by first | (simp; done) | (simp; omega))).trans hx1)
     have HMe6 := Qa (show MapAt w6 encI (rs + 1) (mput (edM (L.eds.take k)) x.id (.bool true)) from hm6)
     rw [← HS.out] at HMe6
     have HMs6 := Qa ((HMs1.out.below (Below.refl _ _).drew).kept hg6 (by simp))
     have HB6 := Qa ((HB1.out.trans ((Below.refl _ _).drew.mono HB1.out.size)).grown hg6 (by have := HB1.out.size; simp; omega) (fun k e => by cases e; omega))
     clear hm6 hg6
     refine hK.out _ _ ⟨HE6.out, HG6.out⟩ (fun hHeld2 => ?_)
     clear hK K hHeld
     refine wpAnyH_done (by kernel_rfl) ?_ _
     go_wp2
     exact ⟨⟨k + 1, by omega, by go_num, HMs6.out, HMe6.out, HG6.out, HX6.out, HB6.out⟩, by simp [intOf]; omega⟩
    ·obtain rfl : k = L.eds.length := by omega
     rw [List.take_length] at HMe
     have hc := Qb HX.out
     go_upto_region 12 with (fail)
     have g0 := cell_regrown (hc 0); have g2 := cell_regrown (hc 2); have g3 := cell_regrown (hc 3); have g5 := cell_regrown (Qb HG.out 5)
     clear hc
     have hml : ∀ ty (D : Nat) (os : Array Obj), (Builtin.len_ #[139] ty #[.map (some rs)]).run Tryz.prog (Sort.grow (redrawn wr D) os) = .ok (.int .i64 (shM L.shs).length) (Sort.grow (redrawn wr D) os) := fun ty D os => (HMs.out.below (below_regrown wr D os)).len _ _ (by kernel_rfl)
     have HLB := Qa (show libB L d = (QH (Qk L.ws) d && QP L.los && decide (L.shs.length ≤ 5000) && decide ((L.shs.map Sx.id).Nodup)) from rfl)
     have hle5 : decide ((L.shs.length : Int) ≤ 5000) = true := decide_eq_true (by omega)
     have hle5b : decide (L.shs.length ≤ 5000) = true := decide_eq_true (by omega)
     cases hv : QH (Qk L.ws) d
     ·have HN := Qa (show libB L d = false by rw [HLB.out, hv]; rfl)
      rw [hv] at HV
      clear hv HLB
      refine Qn (by kernel_rfl) (by kernel_rfl) ?_; (repeat (go_big_quiet_step (first | (go_at_call 58; refine Calls.regrown_of (HV.out _ (HB.out.trans (by first | exact (below_regrown _ _ _).mono HB.out.size | exact (Below.refl _ _)))))  | (go_at_call 45; refine Calls.regrown_of (HLo.out _ (HB.out.trans (by first | exact (below_regrown _ _ _).mono HB.out.size | exact (Below.refl _ _)))))))); refine wpQuiet_nil ?_; intro w10 hb; clear g0 g2 g3 g5 hml
      go_wp2
      refine bodyPost_ret (results_tmp2 rfl _ _ _) rfl ?_
      rw [HN.out]
      exact ⟨rs + 1 + 1, rs, rs + 1, rfl, ⟨Qc HG.out hb, HMs.out.below hb, HMe.out.below hb⟩, HB.out.trans (hb.mono HB.out.size)⟩
     rw [hv] at HV
     cases hlo : QP L.los
     ·have HN := Qa (show libB L d = false by rw [HLB.out, hv, hlo]; rfl)
      rw [hlo] at HLo
      clear hv HLB hlo
      refine Qn (by kernel_rfl) (by kernel_rfl) ?_; (repeat (go_big_quiet_step (first | (go_at_call 58; refine Calls.regrown_of (HV.out _ (HB.out.trans (by first | exact (below_regrown _ _ _).mono HB.out.size | exact (Below.refl _ _)))))  | (go_at_call 45; refine Calls.regrown_of (HLo.out _ (HB.out.trans (by first | exact (below_regrown _ _ _).mono HB.out.size | exact (Below.refl _ _)))))))); refine wpQuiet_nil ?_; intro w10 hb; clear g0 g2 g3 g5 hml
      go_wp2
      refine bodyPost_ret (results_tmp2 rfl _ _ _) rfl ?_
      rw [HN.out]
      exact ⟨rs + 1 + 1, rs, rs + 1, rfl, ⟨Qc HG.out hb, HMs.out.below hb, HMe.out.below hb⟩, HB.out.trans (hb.mono HB.out.size)⟩
     rw [hlo] at HLo
     by_cases hn : (L.shs.map Sx.id).Nodup
     ·have HN := Qa (show libB L d = true by rw [HLB.out, hv, hlo, hle5b, decide_eq_true hn]; rfl)
      have heq : (((shM L.shs).length : Int) == (L.shs.length : Int)) = true := by rw [(shM_len _).2 hn]; simp
      clear hv HLB hlo hn
      refine Qn (by kernel_rfl) (by kernel_rfl) ?_; (repeat (go_big_quiet_step (first | (go_at_call 58; refine Calls.regrown_of (HV.out _ (HB.out.trans (by first | exact (below_regrown _ _ _).mono HB.out.size | exact (Below.refl _ _)))))  | (go_at_call 45; refine Calls.regrown_of (HLo.out _ (HB.out.trans (by first | exact (below_regrown _ _ _).mono HB.out.size | exact (Below.refl _ _)))))))); refine wpQuiet_nil ?_; intro w10 hb; clear g0 g2 g3 g5 hml
      go_wp2
      refine bodyPost_ret (results_tmp2 rfl _ _ _) rfl ?_
      rw [HN.out]
      exact ⟨rs + 1 + 1, rs, rs + 1, rfl, ⟨Qc HG.out hb, HMs.out.below hb, HMe.out.below hb⟩, HB.out.trans (hb.mono HB.out.size)⟩
     ·have HN := Qa (show libB L d = false by rw [HLB.out, hv, hlo, hle5b, decide_eq_false hn]; rfl)
      have heq : (((shM L.shs).length : Int) == (L.shs.length : Int)) = false := by
       rw [beq_eq_false_iff_ne]; exact fun e => hn ((shM_len _).1 (by omega))
      clear hv HLB hlo hn
      refine Qn (by kernel_rfl) (by kernel_rfl) ?_; (repeat (go_big_quiet_step (first | (go_at_call 58; refine Calls.regrown_of (HV.out _ (HB.out.trans (by first | exact (below_regrown _ _ _).mono HB.out.size | exact (Below.refl _ _)))))  | (go_at_call 45; refine Calls.regrown_of (HLo.out _ (HB.out.trans (by first | exact (below_regrown _ _ _).mono HB.out.size | exact (Below.refl _ _)))))))); refine wpQuiet_nil ?_; intro w10 hb; clear g0 g2 g3 g5 hml
      go_wp2
      refine bodyPost_ret (results_tmp2 rfl _ _ _) rfl ?_
      rw [HN.out]
      exact ⟨rs + 1 + 1, rs, rs + 1, rfl, ⟨Qc HG.out hb, HMs.out.below hb, HMe.out.below hb⟩, HB.out.trans (hb.mono HB.out.size)⟩
end Go.Proofs.YtajijcfikihhjaaGreatDoor
