import Derived.Test.YtajijcfikihhjaaGreatDoorAAO
set_option linter.unusedSimpArgs false
set_option linter.unusedVariables false
set_option maxRecDepth 100000
set_option maxHeartbeats 16000000
namespace Go.Proofs.YtajijcfikihhjaaGreatDoor
open Go.RowKit Go.Sort Go.Shelf
def RetLg (r : Lg × Int) (w : World) (e : Ending) (w' : World) : Prop :=
 ∃ a cap, e = .returned (.tuple #[.agg #[.int .i64 (r.1).st, .slice a (r.1).es.length cap, .int .u64 (r.1).ch], .int .i64 r.2]) ∧ SlOk a r.1.es.length cap ∧ EnAt w' a r.1.es ∧ Below w.heap.size w w'
def EnTy (w : World) (a : Option Addr) : Prop := ∀ ad, a = some ad → ∃ cs, w.heap[ad.block]? = some (.cells cs 50 (0, 0))
theorem OwnR.enTy {w : World} {B sz n c : Nat} {a : Option Addr} {rows : List (List Value)} (o : OwnR w B 50 sz (.slice a n c) rows) : EnTy w a := fun ad e => by subst e; exact o.isCells rfl
def RetLgN (r : Lg × Int) (w : World) (e : Ending) (w' : World) : Prop :=
 ∃ a cap, e = .returned (.tuple #[.agg #[.int .i64 (r.1).st, .slice a (r.1).es.length cap, .int .u64 (r.1).ch], .int .i64 r.2]) ∧ SlOk a r.1.es.length cap ∧ EnAt w' a r.1.es ∧ Below w.heap.size w w' ∧ EnTy w' a
theorem RetLgN.none {err : Int} {w w' : World} (hb : Below w.heap.size w w') : RetLgN (⟨0, [], 0⟩, err) w (.returned (.tuple #[.agg #[.int .i64 0, .slice none 0 0, .int .u64 0], .int .i64 err])) w' := ⟨Option.none, 0, rfl, SlOk.nil, SlAt.nil _ _ _, hb, fun _ h => by cases h⟩
abbrev set3 (v : World) (b : Nat) (a0 a1 a2 : Value) : World := ((v.setCell ⟨b, 0, none⟩ a0).setCell ⟨b, 1, none⟩ a1).setCell ⟨b, 2, none⟩ a2
theorem Q9 {v : World} {b : Nat} {T : TypeId} {c0 c1 c2 : Value} (h : v.heap[b]? = some (.cells #[c0, c1, c2] T (0, 0))) (a0 a1 a2 : Value) : (set3 v b a0 a1 a2).heap[b]? = some (.cells #[a0, a1, a2] T (0, 0)) := by
 unfold set3
 exact heap_setCell_same _ b 2 _ _ _ (heap_setCell_same _ b 1 _ _ _ (heap_setCell_same _ b 0 _ _ _ h))
theorem QD {n : Nat} {w v : World} {b : Nat} (h : Below n w v) (hb : n ≤ b) (a0 a1 a2 : Value) : Below n w (set3 v b a0 a1 a2) := ((h.setCell (p := ⟨b, 0, none⟩) hb _).setCell (p := ⟨b, 1, none⟩) hb _).setCell (p := ⟨b, 2, none⟩) hb _
theorem Append37N_any (l : Lg) (a : Option Addr) (cap : Nat) (e : En) (w : World) (hl : l.es.length ≤ 900) (hs : SlOk a l.es.length cap) (hok : ∀ e ∈ l.es, e.wide) (hew : e.wide) (hE : EnvP w) (ha : EnAt w a l.es) :
  Calls Tryz.prog 19 #[.agg #[.int .i64 l.st, .slice a l.es.length cap, .int .u64 l.ch], .agg #[.int .i64 e.time, .int .i64 e.kind, .int .i64 e.a, .int .i64 e.b, .int .i64 e.c, .int .u64 e.dg]] w (RetLgN (QR l e) w) := by
 obtain ⟨x0, x1, x2, hb⟩ := box3 (w := w) (A := .cells #[.int .i64 l.st, .slice a l.es.length cap, .int .u64 l.ch] 44) (B := .cells #[.int .i64 e.time, .int .i64 e.kind, .int .i64 e.a, .int .i64 e.b, .int .i64 e.c, .int .u64 e.dg] 50) (C := .cells #[.int .i64 0, .slice none 0 0, .int .u64 0] 44) (Below.refl _ _)
 have HX0 := Qa x0; have HX1 := Qa x1; have HX2 := Qa (show _[w.heap.size + 1 + 1]? = _ from x2); have HB := Qa hb
 have HA := Qa ha; have HE := Qa hE; have HS := Qa hs
 have HR := Qa (fun V (hV : Below w.heap.size w V) => right37_any l a cap V (by omega) hok (hE.below hV) (ha.below hV))
 have HF := Qa (fun V => eformed_any e V)
 clear x0 x1 x2 hb ha hE hs
 go_enter Tryz.func19, Tryz.ntmps19
 go_upto_region 1 with (fail)
 generalize ((w.alloc (.cells #[.int .i64 l.st, .slice a l.es.length cap, .int .u64 l.ch] 44)).alloc (.cells #[.int .i64 e.time, .int .i64 e.kind, .int .i64 e.a, .int .i64 e.b, .int .i64 e.c, .int .u64 e.dg] 50)).alloc (.cells #[.int .i64 0, .slice none 0 0, .int .u64 0] 44) = W at *
 have hc0 := Qb HX0.out; have hc1 := Qb HX1.out
 have hWs := Qd HX2.out
 go_upto_region 2 with (fail)
 clear hc0 hc1
 have HX3 := Qa (heap_alloc_new W (.cells #[.int .i64 l.st, .slice a l.es.length cap, .int .u64 l.ch] 89))
 have hb := Qg (w := W) (.cells #[.int .i64 l.st, .slice a l.es.length cap, .int .u64 l.ch] 89)
 replace HX0 := bk HX0 hb; replace HX1 := bk HX1 hb; replace HX2 := bk HX2 hb; replace HB := bu HB hb; clear hb
 generalize W.alloc (.cells #[.int .i64 l.st, .slice a l.es.length cap, .int .u64 l.ch] 89) = W1 at *
 generalize W.heap.size = b3 at *
 have hc0 := Qb HX0.out; have hc1 := Qb HX1.out; have hc3 := Qb HX3.out
 cases hv : Qw l
 ·have HN := Qa (show QR l e = (⟨0, [], 0⟩, 1) by unfold QR; rw [hv]; rfl)
  rw [hv] at HR
  clear hv
  go_upto_region 4 with (first | (go_at_call 41; refine (HR.out _ HB.out).mono ?_; rintro e6 w6 ⟨rfl, hb⟩; clear hc0 hc1 hc3; replace HX0 := bk HX0 hb; replace HX1 := bk HX1 hb; replace HX2 := bk HX2 hb; replace HX3 := bk HX3 hb; replace HB := bu HB hb; clear hb; have hc0 := Qb HX0.out; have hc1 := Qb HX1.out; have hc3 := Qb HX3.out) | (go_at_call 42; refine (HF.out _).mono ?_; rintro e7 w7 ⟨rfl, hb⟩; clear hc0 hc1 hc3; replace HX0 := bk HX0 hb; replace HX1 := bk HX1 hb; replace HX2 := bk HX2 hb; replace HX3 := bk HX3 hb; replace HB := bu HB hb; clear hb; have hc0 := Qb HX0.out; have hc1 := Qb HX1.out; have hc3 := Qb HX3.out))
  have hf2 := Qe HX2.out; have hz2 := Qd HX2.out; have hc2 := Qb HX2.out; go_wp2; refine bodyPost_ret (Qi rfl _ _ (w.heap.size + 1 + 1) 44 _ (0, 0) _ rfl (Q9 HX2.out _ _ _) Tryz.underlying44 rfl (by kernel_rfl)) rfl ?_; rw [HN.out]; exact RetLgN.none (QD HB.out (by omega) _ _ _)
 rw [hv] at HR
 cases hf : Qt e
 ·have HN := Qa (show QR l e = (⟨0, [], 0⟩, 1) by unfold QR; rw [hv, hf]; rfl)
  rw [hf] at HF
  clear hv hf
  go_upto_region 4 with (first | (go_at_call 41; refine (HR.out _ HB.out).mono ?_; rintro e6 w6 ⟨rfl, hb⟩; clear hc0 hc1 hc3; replace HX0 := bk HX0 hb; replace HX1 := bk HX1 hb; replace HX2 := bk HX2 hb; replace HX3 := bk HX3 hb; replace HB := bu HB hb; clear hb; have hc0 := Qb HX0.out; have hc1 := Qb HX1.out; have hc3 := Qb HX3.out) | (go_at_call 42; refine (HF.out _).mono ?_; rintro e7 w7 ⟨rfl, hb⟩; clear hc0 hc1 hc3; replace HX0 := bk HX0 hb; replace HX1 := bk HX1 hb; replace HX2 := bk HX2 hb; replace HX3 := bk HX3 hb; replace HB := bu HB hb; clear hb; have hc0 := Qb HX0.out; have hc1 := Qb HX1.out; have hc3 := Qb HX3.out))
  have hf2 := Qe HX2.out; have hz2 := Qd HX2.out; have hc2 := Qb HX2.out; go_wp2; refine bodyPost_ret (Qi rfl _ _ (w.heap.size + 1 + 1) 44 _ (0, 0) _ rfl (Q9 HX2.out _ _ _) Tryz.underlying44 rfl (by kernel_rfl)) rfl ?_; rw [HN.out]; exact RetLgN.none (QD HB.out (by omega) _ _ _)
 rw [hf] at HF
 have hn5 : ((l.es.length : Int) == 5000) = false := by rw [beq_eq_false_iff_ne]; omega
 go_upto_region 7 with (first | (go_at_call 41; refine (HR.out _ HB.out).mono ?_; rintro e6 w6 ⟨rfl, hb⟩; clear hc0 hc1 hc3; replace HX0 := bk HX0 hb; replace HX1 := bk HX1 hb; replace HX2 := bk HX2 hb; replace HX3 := bk HX3 hb; replace HB := bu HB hb; clear hb; have hc0 := Qb HX0.out; have hc1 := Qb HX1.out; have hc3 := Qb HX3.out) | (go_at_call 42; refine (HF.out _).mono ?_; rintro e7 w7 ⟨rfl, hb⟩; clear hc0 hc1 hc3; replace HX0 := bk HX0 hb; replace HX1 := bk HX1 hb; replace HX2 := bk HX2 hb; replace HX3 := bk HX3 hb; replace HB := bu HB hb; clear hb; have hc0 := Qb HX0.out; have hc1 := Qb HX1.out; have hc3 := Qb HX3.out))
 have hall := Yb l.es none (by
  unfold Qw at hv; simp only [Bool.and_eq_true] at hv; exact hv.1.2)
 have hst : 0 ≤ l.st ∧ l.st ≤ 1000000 := by
  unfold Qw at hv; simp only [Bool.and_eq_true, Zg] at hv; omega
 have HCh := Qa (fun (a' : Option Addr) (c' : Nat) V (hV : Below w.heap.size w V) (h' : EnAt V a' (l.es ++ [e])) => chain_any ⟨l.st, l.es ++ [e], l.ch⟩ a' c' V (by simp; omega) hst (fun x hx => by
  rcases List.mem_append.1 hx with hx | hx
  ·exact ⟨hall x hx, hok x hx⟩
  ·rw [List.mem_singleton] at hx; subst hx; exact ⟨hf, hew⟩) (HE.out.below hV) h')
 have HCl := Qa (fun V (hV : Below w.heap.size w V) => CloneEy_any a cap l.es V (by omega) HS.out (HA.out.below hV))
 have hlast : l.es = [] ∨ ∃ j, ∃ hj : j + 1 = l.es.length, l.es.getLast? = some (l.es[j]'(by omega)) := by
  rcases List.eq_nil_or_concat l.es with h | ⟨r, x, h⟩
  ·exact .inl h
  ·refine .inr ⟨r.length, by rw [h]; simp, ?_⟩
   simp only [h]; simp
 have g0 := cell_regrown (hc0 0); have g1 := cell_regrown (hc0 1); have g2 := cell_regrown (hc1 0)
 rcases hlast with h0 | ⟨j, hj, hla⟩
 ·have HN := Qa (show QR l e = (⟨l.st, l.es ++ [e], Qr l.st (l.es ++ [e])⟩, 0) by unfold QR; rw [hv, hf, if_neg (by simp), if_neg (by omega), h0]; rfl)
  have hlz : decide ((0 : Int) < (l.es.length : Int)) = false := by rw [h0]; rfl
  have hlz2 : decide (0 < l.es.length) = false := by rw [h0]; rfl
  clear hv hf h0 HR HF
  clear hc0 hc1 hc3
  refine Qn (by kernel_rfl) (by kernel_rfl) ?_
  (repeat (go_big_quiet_step (fail)))
  refine wpQuiet_nil ?_
  intro w10 hb
  clear g0 g1 g2
  obtain ⟨E2, hE2⟩ : ∃ E2, E2 = l.es ++ [e] := ⟨_, rfl⟩
  rw [← hE2] at HCh HN
  have HE2 := Qa hE2
  clear hE2
  go_upto_region 9 with (fail)
  refine wp_region_held_drew (S := (fun w' => w'.heap[w.heap.size]? = some (.cells #[.int .i64 l.st, .slice a l.es.length cap, .int .u64 l.ch] 44) ∧ w'.heap[w.heap.size + 1]? = some (.cells #[.int .i64 e.time, .int .i64 e.kind, .int .i64 e.a, .int .i64 e.b, .int .i64 e.c, .int .u64 e.dg] 50))) (by kernel_rfl) ⟨Qc HX0.out hb.drew, Qc HX1.out hb.drew⟩ (fun hHeld => ?_)
  have HX2 := bk HX2 hb; have HX3 := bk HX3 hb; have HB := bu HB hb
  have hW3 := Qd HX3.out; have hW2 := Qd HX2.out
  clear hb
  (refine tq 0 ?_ (y := fun _ hSw => by have hx := Qb hSw.1; have hy := Qb hSw.2; go_simp; try rfl))
  (refine tq 1 ?_ (y := fun _ hSw => by have hx := Qb hSw.1; have hy := Qb hSw.2; go_simp; try rfl))
  (refine tq 3 ?_ (y := fun _ hSw => by have hx := Qb hSw.1; have hy := Qb hSw.2; go_simp; try rfl))
  refine tw 2 4 (fun K hK => ?_) (fun K hK => ?_)
  ·go_simp
   refine (HCl.out _ (HB.out.trans ((Below.refl _ _).drew.mono HB.out.size))).mono ?_; rintro e5 w5 ⟨v5, rfl, ho5, hb5⟩
   have HO5 := Qa (show OwnR w5 w10.heap.size 50 6 v5 (l.es.map enRow) from ho5); have HB5 := Qa (show Below w.heap.size w w5 from HB.out.trans (((Below.refl _ _).drew.trans hb5).mono HB.out.size))
   have HX2c := Qa (QG HX2.out (Below.refl _ _).drew hb5); have HX3c := Qa (QG HX3.out (Below.refl _ _).drew hb5)
   have hs5 : w10.heap.size ≤ w5.heap.size := hb5.size
   have HH := Qa (And.intro (Qc hHeld.1 hb5) (Qc hHeld.2 hb5))
   clear ho5 hb5
   go_simp
   refine hK.out _ _ HH.out (fun hHeld5 => ?_)
   clear hK K hHeld HH
   (refine tc 4 (fun K hK => ?_); go_simp)
   refine hK.out _ _ ⟨Qj hHeld5.1 _, Qj hHeld5.2 _⟩ (fun hHeld6 => ?_)
   clear hK K hHeld5
   have HX2d := Qa (Qj HX2c.out (.cells #[.int .i64 e.time, .int .i64 e.kind, .int .i64 e.a, .int .i64 e.b, .int .i64 e.c, .int .u64 e.dg] 50)); have HX3d := Qa (Qj HX3c.out (.cells #[.int .i64 e.time, .int .i64 e.kind, .int .i64 e.a, .int .i64 e.b, .int .i64 e.c, .int .u64 e.dg] 50))
   refine Zn (i := 5) (o := ?_) (by kernel_rfl) ?_ (fun K hK => ?_)
   rotate_left 1
   ·simp only [List.getElem?_toArray, List.getElem?_cons_succ, List.getElem?_cons_zero]; try rfl
   refine Un eltEy rfl (.tmp 45) (.tmp 47) rfl w10.heap.size v5 l.es rfl (HO5.out.below (Qg _)) _ _ _ _ [e] rfl rfl (eltEy.new _ _ _ _ rfl) (by simp; omega) (by simp; omega) ?_
   intro v6 w6 ho6 hg6
   rw [← HE2.out] at ho6
   have hne6 : ∀ k, k < w10.heap.size → v5.ownBlock ≠ some k := fun k hk e => by have := (HO5.out.lt k e).1; omega
   have HX0' := Qa ((hg6.block _ (by have := Qd hHeld6.1; omega) (fun e => hne6 w.heap.size (by omega) e.symm)).trans hHeld6.1)
   have HX1' := Qa ((hg6.block _ (by have := Qd hHeld6.2; omega) (fun e => hne6 (w.heap.size + 1) (by omega) e.symm)).trans hHeld6.2)
   have HX2' := Qa ((hg6.block _ (by have := Qd HX2d.out; omega) (fun e => hne6 (w.heap.size + 1 + 1) (by omega) e.symm)).trans HX2d.out)
   have HX3' := Qa ((hg6.block _ (by have := Qd HX3d.out; omega) (fun e => hne6 b3 (by omega) e.symm)).trans HX3d.out)
   have HB6 := Qa ((HB5.out.alloc HB5.out.size _).grown hg6 (by have := Qd hHeld6.1; omega) (fun k e => by have := (HO5.out.lt k e).1; omega))
   have HO6 := Qa ho6
   clear ho6 hg6 hne6
   refine hK.out _ _ ⟨HX0'.out, HX1'.out⟩ (fun hHeld7 => ?_)
   clear hK K hHeld6
   (refine tq 6 ?_ (y := fun _ hSw => by go_simp; try rfl))
   (refine tq 7 ?_ (y := fun _ hSw => by go_simp; try rfl))
   have hc3 := Qb HX3'.out; have hf3 := Qe HX3'.out; have hz3 := Qd HX3'.out
   obtain ⟨a6, c6, e6, hs6, _⟩ := HO6.out.slAt
   rw [List.length_map] at e6 hs6
   subst e6
   have HS6 := Qa hs6
   clear hs6
   have HQ8 := And.intro (show (w6.setCell ⟨b3, 1, none⟩ (.slice a6 E2.length c6)).heap[w.heap.size]? = _ from Qo HX0'.out (by omega) _) (show (w6.setCell ⟨b3, 1, none⟩ (.slice a6 E2.length c6)).heap[w.heap.size + 1]? = _ from Qo HX1'.out (by omega) _)
   (refine tc 8 (fun K hK => ?_); go_simp)
   refine hK.out _ _ HQ8 (fun hHeld8 => ?_)
   clear hK K hHeld7 HQ8
   refine wpAnyH_done (by kernel_rfl) ?_ _
   have ho8 := HO6.out.setAt (b := b3) (i := 1) (by omega) (.slice a6 E2.length c6)
   obtain ⟨a7, c7, e7, _, hr8⟩ := ho8.slAt
   rw [List.length_map] at e7
   cases e7
   have HL6 := Qa (show ∀ ad, a6 = some ad → b3 < ad.block from fun ad e => Nat.lt_of_lt_of_le hW3 (HO6.out.newB (Nat.le_refl _) ad e))
   have HO8 := Qa ho8
   have HR8 := Qa (show EnAt (w6.setCell ⟨b3, 1, none⟩ (.slice a6 E2.length c6)) a6 E2 from hr8)
   have HX2b := Qa (Qo HX2'.out (by omega) (.slice a6 E2.length c6) : (w6.setCell ⟨b3, 1, none⟩ (.slice a6 E2.length c6)).heap[w.heap.size + 1 + 1]? = some (.cells #[.int .i64 0, .slice none 0 0, .int .u64 0] 44))
   have HX3b := Qa (show (w6.setCell ⟨b3, 1, none⟩ (.slice a6 E2.length c6)).heap[b3]? = some (.cells #[.int .i64 l.st, .slice a6 E2.length c6, .int .u64 l.ch] 89) from heap_setCell_same _ b3 1 _ _ _ HX3'.out)
   have HB8 := Qa (show Below w.heap.size w (w6.setCell ⟨b3, 1, none⟩ (.slice a6 E2.length c6)) from HB6.out.setCell (p := ⟨b3, 1, none⟩) (by show w.heap.size ≤ b3; omega) _)
   clear hc3 hf3 ho8 hr8 hHeld8 HX0' HX1' HX2' HX3' HO6 HB6
   generalize w6.setCell ⟨b3, 1, none⟩ (.slice a6 E2.length c6) = W8 at *
   have hc3 := Qb HX3b.out
   go_upto_region 10 with (fail)
   go_upto_region 11 with (go_at_call 44; refine (HCh.out a6 c6 _ HB8.out HR8.out).mono ?_; rintro e9 w9 ⟨rfl, hb9⟩; have HX2d' := bk HX2b hb9; have HX3d' := bk HX3b hb9; have HB9 := bu HB8 hb9; have HR9 := Qa (HR8.out.below hb9); have HO9 := Qa (HO8.out.below hb9); have hz9 := Qd HX3d'.out; have hz29 := Qd HX2d'.out; have hwW8 := HB8.out.size; clear hb9 hc3; have hc3 := Qb HX3d'.out; have hf3 := Qe HX3d'.out)
   generalize Qr l.st E2 = CH at *
   have HX2e := Qa (show (w9.setCell ⟨b3, 2, none⟩ (.int .u64 CH)).heap[w.heap.size + 1 + 1]? = some (.cells #[.int .i64 0, .slice none 0 0, .int .u64 0] 44) from Qo HX2d'.out (by omega) _)
   have HX3e := Qa (show (w9.setCell ⟨b3, 2, none⟩ (.int .u64 CH)).heap[b3]? = some (.cells #[.int .i64 l.st, .slice a6 E2.length c6, .int .u64 CH] 89) from heap_setCell_same _ b3 2 _ _ _ HX3d'.out)
   have HB10 := Qa (show Below w.heap.size w (w9.setCell ⟨b3, 2, none⟩ (.int .u64 CH)) from HB9.out.setCell (p := ⟨b3, 2, none⟩) (by show w.heap.size ≤ b3; omega) _)
   have HO10 := Qa (HO9.out.setAt (b := b3) (i := 2) (by omega) (.int .u64 CH))
   have HR10 := Qa (show EnAt (w9.setCell ⟨b3, 2, none⟩ (.int .u64 CH)) a6 E2 from SlAt.keepB (S := [b3]) HR9.out (KeepB.set (KeepB.refl _ _ _) (p := ⟨b3, 2, none⟩) (.inl (List.mem_singleton.2 rfl)) _) (fun ad e => by rw [List.mem_singleton]; have := HL6.out ad e; omega))
   generalize w9.setCell ⟨b3, 2, none⟩ (.int .u64 CH) = W10 at *
   clear hc3 hf3
   have hc3 := Qb HX3e.out; have hc2 := Qb HX2e.out; have hf2 := Qe HX2e.out; have hz2 := Qd HX2e.out
   go_wp2
   refine bodyPost_ret (Qi rfl _ _ (w.heap.size + 1 + 1) 44 _ (0, 0) _ rfl (Q9 HX2e.out _ _ _) Tryz.underlying44 rfl (by kernel_rfl)) rfl ?_
   rw [HN.out]
   have hfin := QD HB10.out (show w.heap.size ≤ w.heap.size + 1 + 1 by omega) (.int .i64 l.st) (.slice a6 E2.length c6) (.int .u64 CH)
   exact ⟨a6, c6, rfl, HS6.out, SlAt.keepB (S := [w.heap.size + 1 + 1]) HR10.out ((((KeepB.refl _ _ _).set (p := ⟨w.heap.size + 1 + 1, 0, none⟩) (.inl (List.mem_singleton.2 rfl)) _).set (p := ⟨w.heap.size + 1 + 1, 1, none⟩) (.inl (List.mem_singleton.2 rfl)) _).set (p := ⟨w.heap.size + 1 + 1, 2, none⟩) (.inl (List.mem_singleton.2 rfl)) _) (fun ad e => by rw [List.mem_singleton]; have := HL6.out ad e; omega), hfin, (((HO10.out.setAt (b := w.heap.size + 1 + 1) (i := 0) (by omega) _).setAt (b := w.heap.size + 1 + 1) (i := 1) (by omega) _).setAt (b := w.heap.size + 1 + 1) (i := 2) (by omega) _).enTy⟩
  ·go_simp
   refine hK.out _ _ ⟨Qj hHeld.1 _, Qj hHeld.2 _⟩ (fun hHeld5 => ?_)
   clear hK K hHeld
   (refine tc 2 (fun K hK => ?_); go_simp)
   refine (HCl.out _ ((HB.out.trans ((Below.refl _ _).drew.mono HB.out.size)).alloc HB.out.size _)).mono ?_; rintro e5 w5 ⟨v5, rfl, ho5, hb5⟩
   have HO5 := Qa (ho5.low (show w10.heap.size ≤ _ by simp)); have HB5 := Qa (show Below w.heap.size w w5 from HB.out.trans (((((Below.refl _ _).drew).alloc (Nat.le_refl _) _).trans (hb5.mono (by simp))).mono HB.out.size))
   have HN5 := Qa (SlAt.below (eltEy.new w10.drew e _ _ rfl) hb5)
   have HX2c := Qa (Qc (Qj (show w10.drew.heap[w.heap.size + 1 + 1]? = _ from HX2.out) _) hb5); have HX3c := Qa (Qc (Qj (show w10.drew.heap[b3]? = _ from HX3.out) _) hb5)
   have hs5 : w10.heap.size ≤ w5.heap.size := Nat.le_trans (by simp) hb5.size
   have HH := Qa (And.intro (Qc hHeld5.1 hb5) (Qc hHeld5.2 hb5))
   clear ho5 hb5
   go_simp
   refine hK.out _ _ HH.out (fun hHeld6 => ?_)
   clear hK K hHeld5 HH
   refine Zn (i := 5) (o := ?_) (by kernel_rfl) ?_ (fun K hK => ?_)
   rotate_left 1
   ·simp only [List.getElem?_toArray, List.getElem?_cons_succ, List.getElem?_cons_zero]; try rfl
   refine Un eltEy rfl (.tmp 45) (.tmp 47) rfl w10.heap.size v5 l.es rfl HO5.out _ _ _ _ [e] rfl rfl HN5.out (by simp; omega) hs5 ?_
   intro v6 w6 ho6 hg6
   rw [← HE2.out] at ho6
   have hne6 : ∀ k, k < w10.heap.size → v5.ownBlock ≠ some k := fun k hk e => by have := (HO5.out.lt k e).1; omega
   have HX0' := Qa ((hg6.block _ (by have := Qd hHeld6.1; omega) (fun e => hne6 w.heap.size (by omega) e.symm)).trans hHeld6.1)
   have HX1' := Qa ((hg6.block _ (by have := Qd hHeld6.2; omega) (fun e => hne6 (w.heap.size + 1) (by omega) e.symm)).trans hHeld6.2)
   have HX2' := Qa ((hg6.block _ (by have := Qd HX2c.out; omega) (fun e => hne6 (w.heap.size + 1 + 1) (by omega) e.symm)).trans HX2c.out)
   have HX3' := Qa ((hg6.block _ (by have := Qd HX3c.out; omega) (fun e => hne6 b3 (by omega) e.symm)).trans HX3c.out)
   have HB6 := Qa ((HB5.out).grown hg6 (by have := Qd hHeld6.1; omega) (fun k e => by have := (HO5.out.lt k e).1; omega))
   have HO6 := Qa ho6
   clear ho6 hg6 hne6
   refine hK.out _ _ ⟨HX0'.out, HX1'.out⟩ (fun hHeld7 => ?_)
   clear hK K hHeld6
   (refine tq 6 ?_ (y := fun _ hSw => by go_simp; try rfl))
   (refine tq 7 ?_ (y := fun _ hSw => by go_simp; try rfl))
   have hc3 := Qb HX3'.out; have hf3 := Qe HX3'.out; have hz3 := Qd HX3'.out
   obtain ⟨a6, c6, e6, hs6, _⟩ := HO6.out.slAt
   rw [List.length_map] at e6 hs6
   subst e6
   have HS6 := Qa hs6
   clear hs6
   have HQ8 := And.intro (show (w6.setCell ⟨b3, 1, none⟩ (.slice a6 E2.length c6)).heap[w.heap.size]? = _ from Qo HX0'.out (by omega) _) (show (w6.setCell ⟨b3, 1, none⟩ (.slice a6 E2.length c6)).heap[w.heap.size + 1]? = _ from Qo HX1'.out (by omega) _)
   (refine tc 8 (fun K hK => ?_); go_simp)
   refine hK.out _ _ HQ8 (fun hHeld8 => ?_)
   clear hK K hHeld7 HQ8
   refine wpAnyH_done (by kernel_rfl) ?_ _
   have ho8 := HO6.out.setAt (b := b3) (i := 1) (by omega) (.slice a6 E2.length c6)
   obtain ⟨a7, c7, e7, _, hr8⟩ := ho8.slAt
   rw [List.length_map] at e7
   cases e7
   have HL6 := Qa (show ∀ ad, a6 = some ad → b3 < ad.block from fun ad e => Nat.lt_of_lt_of_le hW3 (HO6.out.newB (Nat.le_refl _) ad e))
   have HO8 := Qa ho8
   have HR8 := Qa (show EnAt (w6.setCell ⟨b3, 1, none⟩ (.slice a6 E2.length c6)) a6 E2 from hr8)
   have HX2b := Qa (Qo HX2'.out (by omega) (.slice a6 E2.length c6) : (w6.setCell ⟨b3, 1, none⟩ (.slice a6 E2.length c6)).heap[w.heap.size + 1 + 1]? = some (.cells #[.int .i64 0, .slice none 0 0, .int .u64 0] 44))
   have HX3b := Qa (show (w6.setCell ⟨b3, 1, none⟩ (.slice a6 E2.length c6)).heap[b3]? = some (.cells #[.int .i64 l.st, .slice a6 E2.length c6, .int .u64 l.ch] 89) from heap_setCell_same _ b3 1 _ _ _ HX3'.out)
   have HB8 := Qa (show Below w.heap.size w (w6.setCell ⟨b3, 1, none⟩ (.slice a6 E2.length c6)) from HB6.out.setCell (p := ⟨b3, 1, none⟩) (by show w.heap.size ≤ b3; omega) _)
   clear hc3 hf3 ho8 hr8 hHeld8 HX0' HX1' HX2' HX3' HO6 HB6
   generalize w6.setCell ⟨b3, 1, none⟩ (.slice a6 E2.length c6) = W8 at *
   have hc3 := Qb HX3b.out
   go_upto_region 10 with (fail)
   go_upto_region 11 with (go_at_call 44; refine (HCh.out a6 c6 _ HB8.out HR8.out).mono ?_; rintro e9 w9 ⟨rfl, hb9⟩; have HX2d' := bk HX2b hb9; have HX3d' := bk HX3b hb9; have HB9 := bu HB8 hb9; have HR9 := Qa (HR8.out.below hb9); have HO9 := Qa (HO8.out.below hb9); have hz9 := Qd HX3d'.out; have hz29 := Qd HX2d'.out; have hwW8 := HB8.out.size; clear hb9 hc3; have hc3 := Qb HX3d'.out; have hf3 := Qe HX3d'.out)
   generalize Qr l.st E2 = CH at *
   have HX2e := Qa (show (w9.setCell ⟨b3, 2, none⟩ (.int .u64 CH)).heap[w.heap.size + 1 + 1]? = some (.cells #[.int .i64 0, .slice none 0 0, .int .u64 0] 44) from Qo HX2d'.out (by omega) _)
   have HX3e := Qa (show (w9.setCell ⟨b3, 2, none⟩ (.int .u64 CH)).heap[b3]? = some (.cells #[.int .i64 l.st, .slice a6 E2.length c6, .int .u64 CH] 89) from heap_setCell_same _ b3 2 _ _ _ HX3d'.out)
   have HB10 := Qa (show Below w.heap.size w (w9.setCell ⟨b3, 2, none⟩ (.int .u64 CH)) from HB9.out.setCell (p := ⟨b3, 2, none⟩) (by show w.heap.size ≤ b3; omega) _)
   have HO10 := Qa (HO9.out.setAt (b := b3) (i := 2) (by omega) (.int .u64 CH))
   have HR10 := Qa (show EnAt (w9.setCell ⟨b3, 2, none⟩ (.int .u64 CH)) a6 E2 from SlAt.keepB (S := [b3]) HR9.out (KeepB.set (KeepB.refl _ _ _) (p := ⟨b3, 2, none⟩) (.inl (List.mem_singleton.2 rfl)) _) (fun ad e => by rw [List.mem_singleton]; have := HL6.out ad e; omega))
   generalize w9.setCell ⟨b3, 2, none⟩ (.int .u64 CH) = W10 at *
   clear hc3 hf3
   have hc3 := Qb HX3e.out; have hc2 := Qb HX2e.out; have hf2 := Qe HX2e.out; have hz2 := Qd HX2e.out
   go_wp2
   refine bodyPost_ret (Qi rfl _ _ (w.heap.size + 1 + 1) 44 _ (0, 0) _ rfl (Q9 HX2e.out _ _ _) Tryz.underlying44 rfl (by kernel_rfl)) rfl ?_
   rw [HN.out]
   have hfin := QD HB10.out (show w.heap.size ≤ w.heap.size + 1 + 1 by omega) (.int .i64 l.st) (.slice a6 E2.length c6) (.int .u64 CH)
   exact ⟨a6, c6, rfl, HS6.out, SlAt.keepB (S := [w.heap.size + 1 + 1]) HR10.out ((((KeepB.refl _ _ _).set (p := ⟨w.heap.size + 1 + 1, 0, none⟩) (.inl (List.mem_singleton.2 rfl)) _).set (p := ⟨w.heap.size + 1 + 1, 1, none⟩) (.inl (List.mem_singleton.2 rfl)) _).set (p := ⟨w.heap.size + 1 + 1, 2, none⟩) (.inl (List.mem_singleton.2 rfl)) _) (fun ad e => by rw [List.mem_singleton]; have := HL6.out ad e; omega), hfin, (((HO10.out.setAt (b := w.heap.size + 1 + 1) (i := 0) (by omega) _).setAt (b := w.heap.size + 1 + 1) (i := 1) (by omega) _).setAt (b := w.heap.size + 1 + 1) (i := 2) (by omega) _).enTy⟩
 ·have hlz : decide ((0 : Int) < (l.es.length : Int)) = true := by rw [decide_eq_true_eq]; omega
  have hlz2 : decide (0 < l.es.length) = true := by rw [decide_eq_true_eq]; omega
  have hjm : IntKind.i64.wrap ((l.es.length : Int) - 1) = (j : Int) := by rw [show (l.es.length : Int) - 1 = (j : Int) by omega]; exact IntWalk.i64_in _ (by omega)
  have hjm2 : (l.es.length : Int) - 1 = (j : Int) := by omega
  have hjl : (j : Int) < (l.es.length : Int) := by omega
  have hj0 : (0 : Int) ≤ (j : Int) := by omega
  obtain ⟨b, off, ea, d0, _, _, _, _, _⟩ := (HA.out.below HB.out).get j (by omega)
  subst ea
  have hEa : QR l e = if decide (e.time < (l.es[j]'(by omega)).time) then (⟨0, [], 0⟩, 6) else (⟨l.st, l.es ++ [e], Qr l.st (l.es ++ [e])⟩, 0) := by unfold QR; rw [hv, hf, if_neg (by simp), if_neg (by omega), hla]
  clear hla
  generalize (l.es[j]'(by omega)).time = pt at *
  have g3 := cell_regrown d0
  cases hd : decide (e.time < pt)
  ·have HN := Qa (show QR l e = (⟨l.st, l.es ++ [e], Qr l.st (l.es ++ [e])⟩, 0) by rw [hEa, hd]; rfl)
   clear hv hf HR HF hEa
   clear hc0 hc1 hc3 d0
   refine Qn (by kernel_rfl) (by kernel_rfl) ?_
   (repeat (go_big_quiet_step (fail)))
   refine wpQuiet_nil ?_
   intro w10 hb
   clear g0 g1 g2 g3
   obtain ⟨E2, hE2⟩ : ∃ E2, E2 = l.es ++ [e] := ⟨_, rfl⟩
   rw [← hE2] at HCh HN
   have HE2 := Qa hE2
   clear hE2
   go_upto_region 9 with (fail)
   refine wp_region_held_drew (S := (fun w' => w'.heap[w.heap.size]? = some (.cells #[.int .i64 l.st, .slice (some ⟨b, off, none⟩) l.es.length cap, .int .u64 l.ch] 44) ∧ w'.heap[w.heap.size + 1]? = some (.cells #[.int .i64 e.time, .int .i64 e.kind, .int .i64 e.a, .int .i64 e.b, .int .i64 e.c, .int .u64 e.dg] 50))) (by kernel_rfl) ⟨Qc HX0.out hb.drew, Qc HX1.out hb.drew⟩ (fun hHeld => ?_)
   have HX2 := bk HX2 hb; have HX3 := bk HX3 hb; have HB := bu HB hb
   have hW3 := Qd HX3.out; have hW2 := Qd HX2.out
   clear hb
   (refine tq 0 ?_ (y := fun _ hSw => by have hx := Qb hSw.1; have hy := Qb hSw.2; go_simp; try rfl))
   (refine tq 1 ?_ (y := fun _ hSw => by have hx := Qb hSw.1; have hy := Qb hSw.2; go_simp; try rfl))
   (refine tq 3 ?_ (y := fun _ hSw => by have hx := Qb hSw.1; have hy := Qb hSw.2; go_simp; try rfl))
   refine tw 2 4 (fun K hK => ?_) (fun K hK => ?_)
   ·go_simp
    refine (HCl.out _ (HB.out.trans ((Below.refl _ _).drew.mono HB.out.size))).mono ?_; rintro e5 w5 ⟨v5, rfl, ho5, hb5⟩
    have HO5 := Qa (show OwnR w5 w10.heap.size 50 6 v5 (l.es.map enRow) from ho5); have HB5 := Qa (show Below w.heap.size w w5 from HB.out.trans (((Below.refl _ _).drew.trans hb5).mono HB.out.size))
    have HX2c := Qa (QG HX2.out (Below.refl _ _).drew hb5); have HX3c := Qa (QG HX3.out (Below.refl _ _).drew hb5)
    have hs5 : w10.heap.size ≤ w5.heap.size := hb5.size
    have HH := Qa (And.intro (Qc hHeld.1 hb5) (Qc hHeld.2 hb5))
    clear ho5 hb5
    go_simp
    refine hK.out _ _ HH.out (fun hHeld5 => ?_)
    clear hK K hHeld HH
    (refine tc 4 (fun K hK => ?_); go_simp)
    refine hK.out _ _ ⟨Qj hHeld5.1 _, Qj hHeld5.2 _⟩ (fun hHeld6 => ?_)
    clear hK K hHeld5
    have HX2d := Qa (Qj HX2c.out (.cells #[.int .i64 e.time, .int .i64 e.kind, .int .i64 e.a, .int .i64 e.b, .int .i64 e.c, .int .u64 e.dg] 50)); have HX3d := Qa (Qj HX3c.out (.cells #[.int .i64 e.time, .int .i64 e.kind, .int .i64 e.a, .int .i64 e.b, .int .i64 e.c, .int .u64 e.dg] 50))
    refine Zn (i := 5) (o := ?_) (by kernel_rfl) ?_ (fun K hK => ?_)
    rotate_left 1
    ·simp only [List.getElem?_toArray, List.getElem?_cons_succ, List.getElem?_cons_zero]; try rfl
    refine Un eltEy rfl (.tmp 45) (.tmp 47) rfl w10.heap.size v5 l.es rfl (HO5.out.below (Qg _)) _ _ _ _ [e] rfl rfl (eltEy.new _ _ _ _ rfl) (by simp; omega) (by simp; omega) ?_
    intro v6 w6 ho6 hg6
    rw [← HE2.out] at ho6
    have hne6 : ∀ k, k < w10.heap.size → v5.ownBlock ≠ some k := fun k hk e => by have := (HO5.out.lt k e).1; omega
    have HX0' := Qa ((hg6.block _ (by have := Qd hHeld6.1; omega) (fun e => hne6 w.heap.size (by omega) e.symm)).trans hHeld6.1)
    have HX1' := Qa ((hg6.block _ (by have := Qd hHeld6.2; omega) (fun e => hne6 (w.heap.size + 1) (by omega) e.symm)).trans hHeld6.2)
    have HX2' := Qa ((hg6.block _ (by have := Qd HX2d.out; omega) (fun e => hne6 (w.heap.size + 1 + 1) (by omega) e.symm)).trans HX2d.out)
    have HX3' := Qa ((hg6.block _ (by have := Qd HX3d.out; omega) (fun e => hne6 b3 (by omega) e.symm)).trans HX3d.out)
    have HB6 := Qa ((HB5.out.alloc HB5.out.size _).grown hg6 (by have := Qd hHeld6.1; omega) (fun k e => by have := (HO5.out.lt k e).1; omega))
    have HO6 := Qa ho6
    clear ho6 hg6 hne6
    refine hK.out _ _ ⟨HX0'.out, HX1'.out⟩ (fun hHeld7 => ?_)
    clear hK K hHeld6
    (refine tq 6 ?_ (y := fun _ hSw => by go_simp; try rfl))
    (refine tq 7 ?_ (y := fun _ hSw => by go_simp; try rfl))
    have hc3 := Qb HX3'.out; have hf3 := Qe HX3'.out; have hz3 := Qd HX3'.out
    obtain ⟨a6, c6, e6, hs6, _⟩ := HO6.out.slAt
    rw [List.length_map] at e6 hs6
    subst e6
    have HS6 := Qa hs6
    clear hs6
    have HQ8 := And.intro (show (w6.setCell ⟨b3, 1, none⟩ (.slice a6 E2.length c6)).heap[w.heap.size]? = _ from Qo HX0'.out (by omega) _) (show (w6.setCell ⟨b3, 1, none⟩ (.slice a6 E2.length c6)).heap[w.heap.size + 1]? = _ from Qo HX1'.out (by omega) _)
    (refine tc 8 (fun K hK => ?_); go_simp)
    refine hK.out _ _ HQ8 (fun hHeld8 => ?_)
    clear hK K hHeld7 HQ8
    refine wpAnyH_done (by kernel_rfl) ?_ _
    have ho8 := HO6.out.setAt (b := b3) (i := 1) (by omega) (.slice a6 E2.length c6)
    obtain ⟨a7, c7, e7, _, hr8⟩ := ho8.slAt
    rw [List.length_map] at e7
    cases e7
    have HL6 := Qa (show ∀ ad, a6 = some ad → b3 < ad.block from fun ad e => Nat.lt_of_lt_of_le hW3 (HO6.out.newB (Nat.le_refl _) ad e))
    have HO8 := Qa ho8
    have HR8 := Qa (show EnAt (w6.setCell ⟨b3, 1, none⟩ (.slice a6 E2.length c6)) a6 E2 from hr8)
    have HX2b := Qa (Qo HX2'.out (by omega) (.slice a6 E2.length c6) : (w6.setCell ⟨b3, 1, none⟩ (.slice a6 E2.length c6)).heap[w.heap.size + 1 + 1]? = some (.cells #[.int .i64 0, .slice none 0 0, .int .u64 0] 44))
    have HX3b := Qa (show (w6.setCell ⟨b3, 1, none⟩ (.slice a6 E2.length c6)).heap[b3]? = some (.cells #[.int .i64 l.st, .slice a6 E2.length c6, .int .u64 l.ch] 89) from heap_setCell_same _ b3 1 _ _ _ HX3'.out)
    have HB8 := Qa (show Below w.heap.size w (w6.setCell ⟨b3, 1, none⟩ (.slice a6 E2.length c6)) from HB6.out.setCell (p := ⟨b3, 1, none⟩) (by show w.heap.size ≤ b3; omega) _)
    clear hc3 hf3 ho8 hr8 hHeld8 HX0' HX1' HX2' HX3' HO6 HB6
    generalize w6.setCell ⟨b3, 1, none⟩ (.slice a6 E2.length c6) = W8 at *
    have hc3 := Qb HX3b.out
    go_upto_region 10 with (fail)
    go_upto_region 11 with (go_at_call 44; refine (HCh.out a6 c6 _ HB8.out HR8.out).mono ?_; rintro e9 w9 ⟨rfl, hb9⟩; have HX2d' := bk HX2b hb9; have HX3d' := bk HX3b hb9; have HB9 := bu HB8 hb9; have HR9 := Qa (HR8.out.below hb9); have HO9 := Qa (HO8.out.below hb9); have hz9 := Qd HX3d'.out; have hz29 := Qd HX2d'.out; have hwW8 := HB8.out.size; clear hb9 hc3; have hc3 := Qb HX3d'.out; have hf3 := Qe HX3d'.out)
    generalize Qr l.st E2 = CH at *
    have HX2e := Qa (show (w9.setCell ⟨b3, 2, none⟩ (.int .u64 CH)).heap[w.heap.size + 1 + 1]? = some (.cells #[.int .i64 0, .slice none 0 0, .int .u64 0] 44) from Qo HX2d'.out (by omega) _)
    have HX3e := Qa (show (w9.setCell ⟨b3, 2, none⟩ (.int .u64 CH)).heap[b3]? = some (.cells #[.int .i64 l.st, .slice a6 E2.length c6, .int .u64 CH] 89) from heap_setCell_same _ b3 2 _ _ _ HX3d'.out)
    have HB10 := Qa (show Below w.heap.size w (w9.setCell ⟨b3, 2, none⟩ (.int .u64 CH)) from HB9.out.setCell (p := ⟨b3, 2, none⟩) (by show w.heap.size ≤ b3; omega) _)
    have HO10 := Qa (HO9.out.setAt (b := b3) (i := 2) (by omega) (.int .u64 CH))
    have HR10 := Qa (show EnAt (w9.setCell ⟨b3, 2, none⟩ (.int .u64 CH)) a6 E2 from SlAt.keepB (S := [b3]) HR9.out (KeepB.set (KeepB.refl _ _ _) (p := ⟨b3, 2, none⟩) (.inl (List.mem_singleton.2 rfl)) _) (fun ad e => by rw [List.mem_singleton]; have := HL6.out ad e; omega))
    generalize w9.setCell ⟨b3, 2, none⟩ (.int .u64 CH) = W10 at *
    clear hc3 hf3
    have hc3 := Qb HX3e.out; have hc2 := Qb HX2e.out; have hf2 := Qe HX2e.out; have hz2 := Qd HX2e.out
    go_wp2
    refine bodyPost_ret (Qi rfl _ _ (w.heap.size + 1 + 1) 44 _ (0, 0) _ rfl (Q9 HX2e.out _ _ _) Tryz.underlying44 rfl (by kernel_rfl)) rfl ?_
    rw [HN.out]
    have hfin := QD HB10.out (show w.heap.size ≤ w.heap.size + 1 + 1 by omega) (.int .i64 l.st) (.slice a6 E2.length c6) (.int .u64 CH)
    exact ⟨a6, c6, rfl, HS6.out, SlAt.keepB (S := [w.heap.size + 1 + 1]) HR10.out ((((KeepB.refl _ _ _).set (p := ⟨w.heap.size + 1 + 1, 0, none⟩) (.inl (List.mem_singleton.2 rfl)) _).set (p := ⟨w.heap.size + 1 + 1, 1, none⟩) (.inl (List.mem_singleton.2 rfl)) _).set (p := ⟨w.heap.size + 1 + 1, 2, none⟩) (.inl (List.mem_singleton.2 rfl)) _) (fun ad e => by rw [List.mem_singleton]; have := HL6.out ad e; omega), hfin, (((HO10.out.setAt (b := w.heap.size + 1 + 1) (i := 0) (by omega) _).setAt (b := w.heap.size + 1 + 1) (i := 1) (by omega) _).setAt (b := w.heap.size + 1 + 1) (i := 2) (by omega) _).enTy⟩
   ·go_simp
    refine hK.out _ _ ⟨Qj hHeld.1 _, Qj hHeld.2 _⟩ (fun hHeld5 => ?_)
    clear hK K hHeld
    (refine tc 2 (fun K hK => ?_); go_simp)
    refine (HCl.out _ ((HB.out.trans ((Below.refl _ _).drew.mono HB.out.size)).alloc HB.out.size _)).mono ?_; rintro e5 w5 ⟨v5, rfl, ho5, hb5⟩
    have HO5 := Qa (ho5.low (show w10.heap.size ≤ _ by simp)); have HB5 := Qa (show Below w.heap.size w w5 from HB.out.trans (((((Below.refl _ _).drew).alloc (Nat.le_refl _) _).trans (hb5.mono (by simp))).mono HB.out.size))
    have HN5 := Qa (SlAt.below (eltEy.new w10.drew e _ _ rfl) hb5)
    have HX2c := Qa (Qc (Qj (show w10.drew.heap[w.heap.size + 1 + 1]? = _ from HX2.out) _) hb5); have HX3c := Qa (Qc (Qj (show w10.drew.heap[b3]? = _ from HX3.out) _) hb5)
    have hs5 : w10.heap.size ≤ w5.heap.size := Nat.le_trans (by simp) hb5.size
    have HH := Qa (And.intro (Qc hHeld5.1 hb5) (Qc hHeld5.2 hb5))
    clear ho5 hb5
    go_simp
    refine hK.out _ _ HH.out (fun hHeld6 => ?_)
    clear hK K hHeld5 HH
    refine Zn (i := 5) (o := ?_) (by kernel_rfl) ?_ (fun K hK => ?_)
    rotate_left 1
    ·simp only [List.getElem?_toArray, List.getElem?_cons_succ, List.getElem?_cons_zero]; try rfl
    refine Un eltEy rfl (.tmp 45) (.tmp 47) rfl w10.heap.size v5 l.es rfl HO5.out _ _ _ _ [e] rfl rfl HN5.out (by simp; omega) hs5 ?_
    intro v6 w6 ho6 hg6
    rw [← HE2.out] at ho6
    have hne6 : ∀ k, k < w10.heap.size → v5.ownBlock ≠ some k := fun k hk e => by have := (HO5.out.lt k e).1; omega
    have HX0' := Qa ((hg6.block _ (by have := Qd hHeld6.1; omega) (fun e => hne6 w.heap.size (by omega) e.symm)).trans hHeld6.1)
    have HX1' := Qa ((hg6.block _ (by have := Qd hHeld6.2; omega) (fun e => hne6 (w.heap.size + 1) (by omega) e.symm)).trans hHeld6.2)
    have HX2' := Qa ((hg6.block _ (by have := Qd HX2c.out; omega) (fun e => hne6 (w.heap.size + 1 + 1) (by omega) e.symm)).trans HX2c.out)
    have HX3' := Qa ((hg6.block _ (by have := Qd HX3c.out; omega) (fun e => hne6 b3 (by omega) e.symm)).trans HX3c.out)
    have HB6 := Qa ((HB5.out).grown hg6 (by have := Qd hHeld6.1; omega) (fun k e => by have := (HO5.out.lt k e).1; omega))
    have HO6 := Qa ho6
    clear ho6 hg6 hne6
    refine hK.out _ _ ⟨HX0'.out, HX1'.out⟩ (fun hHeld7 => ?_)
    clear hK K hHeld6
    (refine tq 6 ?_ (y := fun _ hSw => by go_simp; try rfl))
    (refine tq 7 ?_ (y := fun _ hSw => by go_simp; try rfl))
    have hc3 := Qb HX3'.out; have hf3 := Qe HX3'.out; have hz3 := Qd HX3'.out
    obtain ⟨a6, c6, e6, hs6, _⟩ := HO6.out.slAt
    rw [List.length_map] at e6 hs6
    subst e6
    have HS6 := Qa hs6
    clear hs6
    have HQ8 := And.intro (show (w6.setCell ⟨b3, 1, none⟩ (.slice a6 E2.length c6)).heap[w.heap.size]? = _ from Qo HX0'.out (by omega) _) (show (w6.setCell ⟨b3, 1, none⟩ (.slice a6 E2.length c6)).heap[w.heap.size + 1]? = _ from Qo HX1'.out (by omega) _)
    (refine tc 8 (fun K hK => ?_); go_simp)
    refine hK.out _ _ HQ8 (fun hHeld8 => ?_)
    clear hK K hHeld7 HQ8
    refine wpAnyH_done (by kernel_rfl) ?_ _
    have ho8 := HO6.out.setAt (b := b3) (i := 1) (by omega) (.slice a6 E2.length c6)
    obtain ⟨a7, c7, e7, _, hr8⟩ := ho8.slAt
    rw [List.length_map] at e7
    cases e7
    have HL6 := Qa (show ∀ ad, a6 = some ad → b3 < ad.block from fun ad e => Nat.lt_of_lt_of_le hW3 (HO6.out.newB (Nat.le_refl _) ad e))
    have HO8 := Qa ho8
    have HR8 := Qa (show EnAt (w6.setCell ⟨b3, 1, none⟩ (.slice a6 E2.length c6)) a6 E2 from hr8)
    have HX2b := Qa (Qo HX2'.out (by omega) (.slice a6 E2.length c6) : (w6.setCell ⟨b3, 1, none⟩ (.slice a6 E2.length c6)).heap[w.heap.size + 1 + 1]? = some (.cells #[.int .i64 0, .slice none 0 0, .int .u64 0] 44))
    have HX3b := Qa (show (w6.setCell ⟨b3, 1, none⟩ (.slice a6 E2.length c6)).heap[b3]? = some (.cells #[.int .i64 l.st, .slice a6 E2.length c6, .int .u64 l.ch] 89) from heap_setCell_same _ b3 1 _ _ _ HX3'.out)
    have HB8 := Qa (show Below w.heap.size w (w6.setCell ⟨b3, 1, none⟩ (.slice a6 E2.length c6)) from HB6.out.setCell (p := ⟨b3, 1, none⟩) (by show w.heap.size ≤ b3; omega) _)
    clear hc3 hf3 ho8 hr8 hHeld8 HX0' HX1' HX2' HX3' HO6 HB6
    generalize w6.setCell ⟨b3, 1, none⟩ (.slice a6 E2.length c6) = W8 at *
    have hc3 := Qb HX3b.out
    go_upto_region 10 with (fail)
    go_upto_region 11 with (go_at_call 44; refine (HCh.out a6 c6 _ HB8.out HR8.out).mono ?_; rintro e9 w9 ⟨rfl, hb9⟩; have HX2d' := bk HX2b hb9; have HX3d' := bk HX3b hb9; have HB9 := bu HB8 hb9; have HR9 := Qa (HR8.out.below hb9); have HO9 := Qa (HO8.out.below hb9); have hz9 := Qd HX3d'.out; have hz29 := Qd HX2d'.out; have hwW8 := HB8.out.size; clear hb9 hc3; have hc3 := Qb HX3d'.out; have hf3 := Qe HX3d'.out)
    generalize Qr l.st E2 = CH at *
    have HX2e := Qa (show (w9.setCell ⟨b3, 2, none⟩ (.int .u64 CH)).heap[w.heap.size + 1 + 1]? = some (.cells #[.int .i64 0, .slice none 0 0, .int .u64 0] 44) from Qo HX2d'.out (by omega) _)
    have HX3e := Qa (show (w9.setCell ⟨b3, 2, none⟩ (.int .u64 CH)).heap[b3]? = some (.cells #[.int .i64 l.st, .slice a6 E2.length c6, .int .u64 CH] 89) from heap_setCell_same _ b3 2 _ _ _ HX3d'.out)
    have HB10 := Qa (show Below w.heap.size w (w9.setCell ⟨b3, 2, none⟩ (.int .u64 CH)) from HB9.out.setCell (p := ⟨b3, 2, none⟩) (by show w.heap.size ≤ b3; omega) _)
    have HO10 := Qa (HO9.out.setAt (b := b3) (i := 2) (by omega) (.int .u64 CH))
    have HR10 := Qa (show EnAt (w9.setCell ⟨b3, 2, none⟩ (.int .u64 CH)) a6 E2 from SlAt.keepB (S := [b3]) HR9.out (KeepB.set (KeepB.refl _ _ _) (p := ⟨b3, 2, none⟩) (.inl (List.mem_singleton.2 rfl)) _) (fun ad e => by rw [List.mem_singleton]; have := HL6.out ad e; omega))
    generalize w9.setCell ⟨b3, 2, none⟩ (.int .u64 CH) = W10 at *
    clear hc3 hf3
    have hc3 := Qb HX3e.out; have hc2 := Qb HX2e.out; have hf2 := Qe HX2e.out; have hz2 := Qd HX2e.out
    go_wp2
    refine bodyPost_ret (Qi rfl _ _ (w.heap.size + 1 + 1) 44 _ (0, 0) _ rfl (Q9 HX2e.out _ _ _) Tryz.underlying44 rfl (by kernel_rfl)) rfl ?_
    rw [HN.out]
    have hfin := QD HB10.out (show w.heap.size ≤ w.heap.size + 1 + 1 by omega) (.int .i64 l.st) (.slice a6 E2.length c6) (.int .u64 CH)
    exact ⟨a6, c6, rfl, HS6.out, SlAt.keepB (S := [w.heap.size + 1 + 1]) HR10.out ((((KeepB.refl _ _ _).set (p := ⟨w.heap.size + 1 + 1, 0, none⟩) (.inl (List.mem_singleton.2 rfl)) _).set (p := ⟨w.heap.size + 1 + 1, 1, none⟩) (.inl (List.mem_singleton.2 rfl)) _).set (p := ⟨w.heap.size + 1 + 1, 2, none⟩) (.inl (List.mem_singleton.2 rfl)) _) (fun ad e => by rw [List.mem_singleton]; have := HL6.out ad e; omega), hfin, (((HO10.out.setAt (b := w.heap.size + 1 + 1) (i := 0) (by omega) _).setAt (b := w.heap.size + 1 + 1) (i := 1) (by omega) _).setAt (b := w.heap.size + 1 + 1) (i := 2) (by omega) _).enTy⟩
  ·have HN := Qa (show QR l e = (⟨0, [], 0⟩, 6) by rw [hEa, hd]; rfl)
   clear hv hf HR HF hEa
   clear hc0 hc1 hc3 d0
   refine Qn (by kernel_rfl) (by kernel_rfl) ?_
   (repeat (go_big_quiet_step (fail)))
   refine wpQuiet_nil ?_
   intro w10 hb
   clear g0 g1 g2 g3
   replace HX2 := bk HX2 hb; replace HB := bu HB hb; clear hb
   have hf2 := Qe HX2.out; have hz2 := Qd HX2.out; have hc2 := Qb HX2.out; go_wp2; refine bodyPost_ret (Qi rfl _ _ (w.heap.size + 1 + 1) 44 _ (0, 0) _ rfl (Q9 HX2.out _ _ _) Tryz.underlying44 rfl (by kernel_rfl)) rfl ?_; rw [HN.out]; exact RetLgN.none (QD HB.out (by omega) _ _ _)
theorem Append37_any (l : Lg) (a : Option Addr) (cap : Nat) (e : En) (w : World) (hl : l.es.length ≤ 900) (hs : SlOk a l.es.length cap) (hok : ∀ e ∈ l.es, e.wide) (hew : e.wide) (hE : EnvP w) (ha : EnAt w a l.es) :
  Calls Tryz.prog 19 #[.agg #[.int .i64 l.st, .slice a l.es.length cap, .int .u64 l.ch], .agg #[.int .i64 e.time, .int .i64 e.kind, .int .i64 e.a, .int .i64 e.b, .int .i64 e.c, .int .u64 e.dg]] w (RetLg (QR l e) w) :=
 (Append37N_any l a cap e w hl hs hok hew hE ha).mono fun _ _ ⟨a, c, h1, h2, h3, h4, _⟩ => ⟨a, c, h1, h2, h3, h4⟩
theorem in19_any (n lo hi : Int) (w : World) : Calls Tryz.prog 81 #[.int .i64 n, .int .i64 lo, .int .i64 hi] w fun e w' => e = .returned (.bool (inB n lo hi)) ∧ w = w' := by
 go_enter Tryz.func81, Tryz.ntmps81
 go_wp2
 all_goals (go_ret; exact ⟨by simp [inB, *] <;> omega, rfl⟩)
theorem Yu (n lo hi : Int) (w : World) : Calls Tryz.prog 50 #[.int .i64 n, .int .i64 lo, .int .i64 hi] w fun e w' => e = .returned (.bool (inB n lo hi)) ∧ w = w' := by
 go_enter Tryz.func50, Tryz.ntmps50
 go_wp2
 all_goals (go_ret; exact ⟨by simp [inB, *] <;> omega, rfl⟩)
theorem Ye (n : Int) (w : World) : Calls Tryz.prog 51 #[.int .i64 n] w fun e w' => e = .returned (.bool (inB n 1 1000000)) ∧ w = w' := by
 go_enter Tryz.func51, Tryz.ntmps51
 go_wp2_with (go_at_call 81; refine (in19_any _ _ _ _).mono ?_; rintro e w' ⟨rfl, rfl⟩)
 go_ret
 exact ⟨rfl, rfl⟩
theorem JQ (c : Int) : inB c 0 0 = (c == 0) := by
 rw [Bool.eq_iff_iff, Zg, beq_iff_eq]; omega
theorem Qaa (t k a b c d : Int) (w : World) : Calls Tryz.prog 23 #[.agg #[.int .i64 ((⟨t, k, a, b, c, d⟩ : En)).time, .int .i64 ((⟨t, k, a, b, c, d⟩ : En)).kind, .int .i64 ((⟨t, k, a, b, c, d⟩ : En)).a, .int .i64 ((⟨t, k, a, b, c, d⟩ : En)).b, .int .i64 ((⟨t, k, a, b, c, d⟩ : En)).c, .int .u64 ((⟨t, k, a, b, c, d⟩ : En)).dg]] w fun v w' => v = .returned (.bool (Qt ⟨t, k, a, b, c, d⟩)) ∧ Below w.heap.size w w' := by
 have HX := Qa (heap_alloc_new w (.cells #[.int .i64 ((⟨t, k, a, b, c, d⟩ : En)).time, .int .i64 ((⟨t, k, a, b, c, d⟩ : En)).kind, .int .i64 ((⟨t, k, a, b, c, d⟩ : En)).a, .int .i64 ((⟨t, k, a, b, c, d⟩ : En)).b, .int .i64 ((⟨t, k, a, b, c, d⟩ : En)).c, .int .u64 ((⟨t, k, a, b, c, d⟩ : En)).dg] 50))
 have HB := Qa (Qg (w := w) (.cells #[.int .i64 ((⟨t, k, a, b, c, d⟩ : En)).time, .int .i64 ((⟨t, k, a, b, c, d⟩ : En)).kind, .int .i64 ((⟨t, k, a, b, c, d⟩ : En)).a, .int .i64 ((⟨t, k, a, b, c, d⟩ : En)).b, .int .i64 ((⟨t, k, a, b, c, d⟩ : En)).c, .int .u64 ((⟨t, k, a, b, c, d⟩ : En)).dg] 50))
 dsimp only at *
 go_enter Tryz.func23, Tryz.ntmps23
 go_upto_region 1 with (fail)
 generalize w.alloc (.cells #[.int .i64 t, .int .i64 k, .int .i64 a, .int .i64 b, .int .i64 c, .int .u64 d] 50) = W at *
 have hc := Qb HX.out
 cases k1 : (k == 1)
 ·cases k2 : (k == 2)
  ·cases k3 : (k == 3)
   ·cases k4 : (k == 4)
    ·cases k5 : (k == 5)
     ·have HK := Qa (show Qt ⟨t, k, a, b, c, d⟩ = false by unfold Qt; dsimp only; rw [k1, k2, k3, k4, k5]; rfl)
      go_wp2_with (first | (go_at_call 50; refine (Yu _ _ _ _).mono ?_; rintro e6 w6 ⟨rfl, rfl⟩) | (go_at_call 51; refine (Ye _ _).mono ?_; rintro e7 w7 ⟨rfl, rfl⟩)); all_goals go_ret; all_goals refine ⟨Qf ?_, HB.out⟩; all_goals first | (rw [HK.out]; done) | (rw [HK.out]; first | rfl | (simp [*]; done) | (simp_all; done))
     ·have HK := Qa (show Qt ⟨t, k, a, b, c, d⟩ = (inB t 0 1000000000 && (d == 0) && inB a 1 1000000 && inB b 1 20000 && inB c 1 1000000) by unfold Qt; dsimp only; rw [k1, k2, k3, k4, k5]; rfl)
      go_wp2_with (first | (go_at_call 50; refine (Yu _ _ _ _).mono ?_; rintro e6 w6 ⟨rfl, rfl⟩) | (go_at_call 51; refine (Ye _ _).mono ?_; rintro e7 w7 ⟨rfl, rfl⟩)); all_goals go_ret; all_goals refine ⟨Qf ?_, HB.out⟩; all_goals first | (rw [HK.out]; done) | (rw [HK.out]; first | rfl | (simp [*]; done) | (simp_all; done))
    ·have HK := Qa (show Qt ⟨t, k, a, b, c, d⟩ = (inB t 0 1000000000 && (a == 0) && (b == 0) && (c == 0)) by unfold Qt; dsimp only; rw [k1, k2, k3, k4, ← JQ a, ← JQ b, ← JQ c]; simp [limB, lm4])
     go_wp2_with (first | (go_at_call 50; refine (Yu _ _ _ _).mono ?_; rintro e6 w6 ⟨rfl, rfl⟩) | (go_at_call 51; refine (Ye _ _).mono ?_; rintro e7 w7 ⟨rfl, rfl⟩)); all_goals go_ret; all_goals refine ⟨Qf ?_, HB.out⟩; all_goals first | (rw [HK.out]; done) | (rw [HK.out]; first | rfl | (simp [*]; done) | (simp_all; done))
   ·have HK := Qa (show Qt ⟨t, k, a, b, c, d⟩ = (inB t 0 1000000000 && (d == 0) && inB a 0 1000 && (b == 0) && (c == 0)) by unfold Qt; dsimp only; rw [k1, k2, k3, ← JQ b, ← JQ c]; rfl)
    go_wp2_with (first | (go_at_call 50; refine (Yu _ _ _ _).mono ?_; rintro e6 w6 ⟨rfl, rfl⟩) | (go_at_call 51; refine (Ye _ _).mono ?_; rintro e7 w7 ⟨rfl, rfl⟩)); all_goals go_ret; all_goals refine ⟨Qf ?_, HB.out⟩; all_goals first | (rw [HK.out]; done) | (rw [HK.out]; first | rfl | (simp [*]; done) | (simp_all; done))
  ·have HK := Qa (show Qt ⟨t, k, a, b, c, d⟩ = (inB t 0 1000000000 && inB a 1 1000000 && (b == 0) && (c == 0)) by unfold Qt; dsimp only; rw [k1, k2, ← JQ b, ← JQ c]; simp [limB, lm2])
   go_wp2_with (first | (go_at_call 50; refine (Yu _ _ _ _).mono ?_; rintro e6 w6 ⟨rfl, rfl⟩) | (go_at_call 51; refine (Ye _ _).mono ?_; rintro e7 w7 ⟨rfl, rfl⟩)); all_goals go_ret; all_goals refine ⟨Qf ?_, HB.out⟩; all_goals first | (rw [HK.out]; done) | (rw [HK.out]; first | rfl | (simp [*]; done) | (simp_all; done))
 ·have HK := Qa (show Qt ⟨t, k, a, b, c, d⟩ = (inB t 0 1000000000 && (d == 0) && inB a 1 1000000 && inB b 1 1000000 && (c == 0)) by unfold Qt; dsimp only; rw [k1, ← JQ c]; rfl)
  go_wp2_with (first | (go_at_call 50; refine (Yu _ _ _ _).mono ?_; rintro e6 w6 ⟨rfl, rfl⟩) | (go_at_call 51; refine (Ye _ _).mono ?_; rintro e7 w7 ⟨rfl, rfl⟩)); all_goals go_ret; all_goals refine ⟨Qf ?_, HB.out⟩; all_goals first | (rw [HK.out]; done) | (rw [HK.out]; first | rfl | (simp [*]; done) | (simp_all; done))
theorem RInts_any (e : En) (w : World) (hok : Qt e = true) (hw : e.wide) : Calls Tryz.prog 148 #[.agg #[.int .i64 e.time, .int .i64 e.kind, .int .i64 e.a, .int .i64 e.b, .int .i64 e.c, .int .u64 e.dg]] w fun v w' => ∃ g, v = .returned (.slice (some ⟨g, 0, none⟩) 7 7) ∧ BoxI w' ⟨QL e, some ⟨g, 0, none⟩, 7⟩ ∧ Below w.heap.size w w' := by
 have HX := Qa (heap_alloc_new w (.cells #[.int .i64 e.time, .int .i64 e.kind, .int .i64 e.a, .int .i64 e.b, .int .i64 e.c, .int .u64 e.dg] 50))
 have HB := Qa (Qg (w := w) (.cells #[.int .i64 e.time, .int .i64 e.kind, .int .i64 e.a, .int .i64 e.b, .int .i64 e.c, .int .u64 e.dg] 50))
 obtain ⟨hd0, hd1⟩ := hw
 have hs1 : IntKind.i64.wrap (e.dg / 4294967296) = e.dg / 4294967296 := IntWalk.i64_in _ (by omega)
 have hs2 : IntKind.i64.wrap (e.dg % 4294967296) = e.dg % 4294967296 := IntWalk.i64_in _ (by omega)
 have ht1 : Int.tdiv e.dg 4294967296 = e.dg / 4294967296 := Int.tdiv_eq_ediv_of_nonneg hd0
 have ht2 : Int.tmod e.dg 4294967296 = e.dg % 4294967296 := Int.tmod_eq_emod_of_nonneg hd0
 go_enter Tryz.func148, Tryz.ntmps148
 go_upto_region 1 with (fail)
 generalize w.alloc (.cells #[.int .i64 e.time, .int .i64 e.kind, .int .i64 e.a, .int .i64 e.b, .int .i64 e.c, .int .u64 e.dg] 50) = W at *
 have hc := Qb HX.out
 go_wp2
 go_ret
 exact ⟨W.heap.size, rfl, ⟨_, rfl, heap_alloc_new _ _⟩, HB.out.alloc HB.out.size _⟩
theorem RChain37_any (st : Int) (es : List En) (a : Option Addr) (cap : Nat) (w : World) (hl : es.length ≤ 5000) (hst : 0 ≤ st ∧ st ≤ 1000000) (hok : ∀ e ∈ es, Qt e = true ∧ e.wide) (ha : EnAt w a es) :
  Calls Tryz.prog 112 #[.int .i64 st, .slice a es.length cap] w fun e w' => e = .returned (.int .u64 (Qr st es)) ∧ Below w.heap.size w w' := by
 have HA := Qa ha
 clear ha
 go_enter Tryz.func112, Tryz.ntmps112
 by_cases h0 : es = []
 ·have hz : ((es.length : Int) == 0) = true := by rw [h0]; rfl
  have HC := Qa (show Qr st es = 0 by unfold Qr; rw [if_pos h0])
  clear h0
  go_wp2
  go_ret
  exact ⟨by rw [HC.out]; rfl, Below.refl _ _⟩
 ·have hz : ((es.length : Int) == 0) = false := by rw [beq_eq_false_iff_ne]; have := List.length_pos_iff.2 h0; omega
  have HC := Qa (show Qr st es = ZD ([st] :: es.map QL) by unfold Qr; rw [if_neg h0])
  clear h0
  have hb2 : Below w.heap.size w ((w.alloc (.cells #[.int .i64 st] 3)).alloc (.cells #[.slice (some ⟨w.heap.size, 0, none⟩) 1 1] 37)) := (Qg _).alloc (by simp) _
  have HSl := Qa (show SlAt ((w.alloc (.cells #[.int .i64 st] 3)).alloc (.cells #[.slice (some ⟨w.heap.size, 0, none⟩) 1 1] 37)) (some ⟨w.heap.size + 1, 0, none⟩) 1 ([(⟨[st], some ⟨w.heap.size, 0, none⟩, 1⟩ : Li)].map liRow) from by
   have h := eltLs.new (w.alloc (.cells #[.int .i64 st] 3)) (⟨[st], some ⟨w.heap.size, 0, none⟩, 1⟩ : Li) [.slice (some ⟨w.heap.size, 0, none⟩) 1 1] 37 rfl
   rwa [show (w.alloc (.cells #[.int .i64 st] 3)).heap.size = w.heap.size + 1 by simp] at h)
  have HI0 := Qa (show BoxI ((w.alloc (.cells #[.int .i64 st] 3)).alloc (.cells #[.slice (some ⟨w.heap.size, 0, none⟩) 1 1] 37)) (⟨[st], some ⟨w.heap.size, 0, none⟩, 1⟩ : Li) from ⟨_, rfl, Qj (heap_alloc_new _ _) _⟩)
  have HB0 := Qa hb2
  clear hb2
  go_upto_region 5 with (at_builtin; refine appE eltLs rfl (.tmp 10) (.tmp 13) rfl w.heap.size _ [] rfl (OwnR.nil _ _ _ _) _ _ _ [(⟨[st], some ⟨w.heap.size, 0, none⟩, 1⟩ : Li)] rfl rfl (fun e => by cases e) HSl.out (by simp) HB0.out.size ?_; intro v5 w5 ho5 hg5; have HO5 := Qa ho5; have HB5 := Qa (HB0.out.grown hg5 HB0.out.size (fun k e => by cases e)); have HI5 := Qa (HI0.out.grown (OwnR.nil _ w.heap.size _ _) hg5); clear ho5 hg5)
  clear HSl HI0 HB0
  have HI := Qa (fun x hx => (by rw [List.mem_singleton] at hx; subst hx; exact HI5.out) : ∀ x ∈ [(⟨[st], some ⟨w.heap.size, 0, none⟩, 1⟩ : Li)], BoxI w5 x)
  have HO := Qa (show OwnR w5 w.heap.size 37 1 v5 ([(⟨[st], some ⟨w.heap.size, 0, none⟩, 1⟩ : Li)].map liRow) from HO5.out)
  clear HO5 HI5
  go_wp2
  go_loopw [5, 6] (fun t5 t6 wr => ∃ (k : Nat) (ls : List Li), k ≤ es.length ∧ t6 = .int .i64 k ∧ Hid (ls.map Li.l = [st] :: (es.take k).map QL) ∧ OwnR wr w.heap.size 37 1 t5 (ls.map liRow) ∧ (∀ x ∈ ls, BoxI wr x) ∧ Below w.heap.size w wr) (fun _ t6 _ => es.length - (intOf t6).toNat)
  case atStart => exact ⟨0, _, Nat.zero_le _, rfl, Qa rfl, HO.out, HI.out, HB5.out⟩
  case round =>
   clear HO HI HB5
   obtain ⟨k, ls, hk, rfl, HL, ho, hi, hb⟩ := hrel
   have HO := Qa ho; have HI := Qa hi; have HB := Qa hb
   clear ho hi hb
   by_cases hlt : k < es.length
   ·obtain ⟨b, off, ea, d0, d1, d2, d3, d4, d5⟩ := (HA.out.below HB.out).get k hlt
    have hki : (k : Int) < (es.length : Int) := by omega
    have hwk : IntKind.i64.wrap ((k : Int) + 1) = (k : Int) + 1 := IntWalk.i64_in _ (by omega)
    obtain ⟨hok1, hok2⟩ := hok es[k] (List.getElem_mem hlt)
    have HL2 := Qa (show ls.map Li.l ++ [QL es[k]] = [st] :: (es.take (k + 1)).map QL by rw [HL.out, List.take_succ_eq_append_getElem hlt, List.map_append]; rfl)
    have hll : ls.length ≤ 5001 := by
     have h := congrArg List.length HL.out
     simp at h; omega
    have HIn := Qa (fun V => RInts_any es[k] V hok1 hok2)
    subst ea
    clear HL hok1 hok2
    generalize es[k] = e at *
    go_wp2_with (first | (go_at_call 148; refine (HIn.out _).mono ?_; rintro e3 w3 ⟨g3, rfl, hi3, hb3⟩; have HO3 := Qa (HO.out.below hb3); have HB3 := bu HB hb3; have HI3 := Qa (show ∀ x ∈ ls ++ [(⟨QL e, some ⟨g3, 0, none⟩, 7⟩ : Li)], BoxI (w3.alloc (.cells #[.slice (some ⟨g3, 0, none⟩) 7 7] 37)) x from fun x hx => (by
     rcases List.mem_append.1 hx with hx | hx
     ·exact ((HI.out x hx).below hb3).below (Qg _)
     ·rw [List.mem_singleton] at hx; subst hx; exact hi3.below (Qg _))); have HSl := Qa (eltLs.new w3 (⟨QL e, some ⟨g3, 0, none⟩, 7⟩ : Li) [.slice (some ⟨g3, 0, none⟩) 7 7] 37 rfl); clear hb3 hi3) | (at_builtin; refine appE eltLs rfl (.tmp 21) (.tmp 27) rfl w.heap.size _ ls rfl (HO3.out.below (Qg _)) _ _ _ [(⟨QL e, some ⟨g3, 0, none⟩, 7⟩ : Li)] rfl rfl (fun e => by cases e) HSl.out (by simp; omega) (by have := HB3.out.size; simp; omega) ?_; intro v5 w5 ho5 hg5; have HO5 := Qa ho5; have HI5 := Qa (fun x hx => (HI3.out x hx).grown (HO3.out.below (Qg _)) hg5 : ∀ x ∈ ls ++ [(⟨QL e, some ⟨g3, 0, none⟩, 7⟩ : Li)], BoxI w5 x); have HB5 := Qa ((HB3.out.alloc HB3.out.size (.cells #[.slice (some ⟨g3, 0, none⟩) 7 7] 37)).grown hg5 (by have := HB3.out.size; simp; omega) (fun k e => by have := (HO3.out.lt k e).1; omega)); clear ho5 hg5))
    exact ⟨⟨k + 1, _, by omega, by go_num, Qa (by rw [List.map_append]; exact HL2.out), HO5.out, HI5.out, HB5.out⟩, by simp [intOf]; omega⟩
   ·obtain rfl : k = es.length := by omega
    rw [List.take_length] at HL
    obtain ⟨a3, c3, e3, _, hs3⟩ := HO.out.slAt
    rw [List.length_map] at e3
    subst e3
    have hlsl : ls.length ≤ 5001 := by
     have h := congrArg List.length HL.out
     simp at h; omega
    have hall : ∀ x ∈ ls, x.l ≠ [] ∧ x.l.length ≤ 900 ∧ ∀ n ∈ x.l, 0 ≤ n ∧ n ≤ 9223372036854775807 := fun x hx => by
     have hm : x.l ∈ ls.map Li.l := List.mem_map.2 ⟨x, hx, rfl⟩
     rw [HL.out] at hm
     rcases List.mem_cons.1 hm with h | h
     ·rw [h]; exact ⟨by simp, by simp, fun n hn => by rw [List.mem_singleton] at hn; subst hn; omega⟩
     ·obtain ⟨e, he, h2⟩ := List.mem_map.1 h
      rw [← h2]; exact entInts_ok (hok e he).1 (hok e he).2
    have HCh := Qa (RChain_any a3 c3 ls wr (by omega) hall ⟨hs3, fun x hx => (HI.out x hx).at⟩)
    rw [HL.out, ← HC.out] at HCh
    clear hall hs3 HL
    go_wp2_with (go_at_call 149; refine HCh.out.mono ?_; rintro e w6 ⟨rfl, hb6⟩; have HB6 := bu HB hb6; clear hb6)
    go_ret
    exact ⟨rfl, HB6.out⟩
theorem RValid37_any (l : Lg) (a : Option Addr) (cap : Nat) (w : World) (hl : l.es.length ≤ 1000) (hok : ∀ e ∈ l.es, e.wide) (ha : EnAt w a l.es) :
  Calls Tryz.prog 69 #[.agg #[.int .i64 l.st, .slice a l.es.length cap, .int .u64 l.ch]] w fun e w' => e = .returned (.bool (Qw l)) ∧ Below w.heap.size w w' := by
 have HX := Qa (heap_alloc_new w (.cells #[.int .i64 l.st, .slice a l.es.length cap, .int .u64 l.ch] 44))
 have HB := Qa (Qg (w := w) (.cells #[.int .i64 l.st, .slice a l.es.length cap, .int .u64 l.ch] 44))
 have HA := Qa ha
 have HV := Qa (show Qw l = (inB l.st 1 1000000 && decide (l.es.length ≤ 5000) && QI none l.es && l.ch == Qr l.st l.es) from rfl)
 clear ha
 go_enter Tryz.func69, Tryz.ntmps69
 go_upto_region 1 with (fail)
 generalize w.alloc (.cells #[.int .i64 l.st, .slice a l.es.length cap, .int .u64 l.ch] 44) = W at *
 have hc := Qb HX.out
 have hlen : ¬ ((l.es.length : Int) > 5000) := by omega
 have HId := Qa (fun V => Ye l.st V)
 cases hs : inB l.st 1 1000000
 ·have HN := Qa (show Qw l = false by rw [HV.out, hs]; rfl)
  rw [hs] at HId
  clear HV hs
  go_wp2_with (go_at_call 51; refine (HId.out _).mono ?_; rintro e5 w5 ⟨rfl, rfl⟩)
  go_ret
  exact ⟨Qf HN.out.symm, HB.out⟩
 have HV2 := Qa (show Qw l = (QI none l.es && l.ch == Qr l.st l.es) by rw [HV.out, hs, decide_eq_true (by omega)]; rfl)
 rw [hs] at HId
 rw [Zg] at hs
 clear HV
 go_upto_region 3 with (go_at_call 51; refine (HId.out _).mono ?_; rintro e5 w5 ⟨rfl, rfl⟩)
 go_wp2
 clear hc
 go_loopw [3, 4] (fun t3 _ wr => ∃ (k : Nat), k ≤ l.es.length ∧ t3 = .int .i64 k ∧ Hid (QI none l.es = QI (ZY l.es k) (l.es.drop k)) ∧ wr.heap[w.heap.size]? = some (.cells #[.int .i64 l.st, .slice a l.es.length cap, .int .u64 l.ch] 44) ∧ Below w.heap.size w wr) (fun t3 _ _ => l.es.length - (intOf t3).toNat)
 case atStart => exact ⟨0, Nat.zero_le _, rfl, Qa rfl, HX.out, HB.out⟩
 case round =>
  clear HX HB
  obtain ⟨k, hk, rfl, HK, hx, hb⟩ := hrel
  have HX := Qa hx; have HB := Qa hb
  clear hx hb
  have hc := Qb HX.out
  by_cases hlt : k < l.es.length
  ·have hAb := HA.out.below HB.out
   obtain ⟨b, off, ea, d0, d1, d2, d3, d4, d5⟩ := hAb.get k hlt
   have hki : (k : Int) < (l.es.length : Int) := by omega
   have hk0 : (0 : Int) ≤ (k : Int) := by omega
   have hwk : IntKind.i64.wrap ((k : Int) + 1) = (k : Int) + 1 := IntWalk.i64_in _ (by omega)
   have HS := Qa (HK.out.trans (entsOk_step l.es k hlt))
   have HP := Qa (fun h0 : 0 < k => prevT_pos l.es k hlt h0)
   have hpd : ∀ h0 : 0 < k, wr.cell? ⟨b, off + (k - 1) * 6, none⟩ = some (.int .i64 (l.es[k - 1]'(by omega)).time) := fun h0 => by
    obtain ⟨b', off', ea', d0', _⟩ := hAb.get (k - 1) (by omega)
    rw [ea] at ea'; cases ea'
    exact d0'
   subst ea
   have HF := Qa (fun V => Qaa l.es[k].time l.es[k].kind l.es[k].a l.es[k].b l.es[k].c l.es[k].dg V)
   generalize he : l.es[k] = e at *
   rw [show (⟨e.time, e.kind, e.a, e.b, e.c, e.dg⟩ : En) = e from rfl] at HF
   clear he HK hAb
   cases hf : Qt e
   ·have HN := Qa (show Qw l = false by rw [HV2.out, HS.out, hf]; rfl)
    rw [hf] at HF
    clear hf HS HP HV2
    go_upto_region 7 with ((go_at_call 23; refine (HF.out _).mono ?_; rintro e6 w6 ⟨rfl, hb6⟩; have HX1 := bk HX hb6; have HB1 := bu HB hb6; have d1 := Qq d0 hb6; have hp1 := fun h0 => Qq (hpd h0) hb6; clear hb6 hpd))
    clear hc d0 d1 d2 d3 d4 d5 hp1
    refine Qn (by kernel_rfl) (by kernel_rfl) ?_; (repeat (go_big_quiet_step (fail))); refine wpQuiet_nil ?_; intro w10 hb
    go_wp2
    go_ret
    exact ⟨Qf HN.out.symm, HB1.out.trans (hb.mono HB1.out.size)⟩
   rw [hf] at HF
   go_upto_region 7 with ((go_at_call 23; refine (HF.out _).mono ?_; rintro e6 w6 ⟨rfl, hb6⟩; have HX1 := bk HX hb6; have HB1 := bu HB hb6; have d1 := Qq d0 hb6; have hp1 := fun h0 => Qq (hpd h0) hb6; clear hb6 hpd))
   clear hc d0 d2 d3 d4 d5
   rcases Nat.eq_zero_or_pos k with h0 | h0
   ·subst h0
    have HS2 := Qa (show QI none l.es = QI (ZY l.es (0 + 1)) (l.es.drop (0 + 1)) by rw [HS.out, hf]; rfl)
    clear hf HS HP HV2 d1 hp1
    refine Qn (by kernel_rfl) (by kernel_rfl) ?_; (repeat (go_big_quiet_step (fail))); refine wpQuiet_nil ?_; intro w10 hb
    go_wp2
    exact ⟨⟨1, by omega, rfl, HS2, Qc HX1.out hb, HB1.out.trans (hb.mono HB1.out.size)⟩, by simp [intOf]; omega⟩
   ·obtain ⟨j, rfl⟩ : ∃ j, k = j + 1 := ⟨k - 1, by omega⟩
    have hkm : IntKind.i64.wrap (((j + 1 : Nat) : Int) - 1) = (j : Int) := by rw [show ((j + 1 : Nat) : Int) - 1 = (j : Int) by omega]; exact IntWalk.i64_in _ (by omega)
    have hpos : decide ((0 : Int) < ((j + 1 : Nat) : Int)) = true := decide_eq_true (by omega)
    have hjl : (j : Int) < (l.es.length : Int) := by omega
    have hj0 : (0 : Int) ≤ (j : Int) := by omega
    have hp2 : w6.cell? ⟨b, off + j * 6, none⟩ = some (.int .i64 (l.es[j]'(by omega)).time) := hp1 h0
    clear hp1
    have HP2 := Qa (show ZY l.es (j + 1) = some (l.es[j]'(by omega)).time from HP.out h0)
    clear HP
    generalize (l.es[j]'(by omega)).time = pt at *
    have HS2 := Qa (show QI none l.es = (decide (pt ≤ e.time) && QI (ZY l.es (j + 1 + 1)) (l.es.drop (j + 1 + 1))) by rw [HS.out, hf, HP2.out]; rfl)
    clear HS HP2 hf
    by_cases hlt2 : e.time < pt
    ·have HN := Qa (show Qw l = false by rw [HV2.out, HS2.out, decide_eq_false (by omega)]; rfl)
     have hdt : decide (e.time < pt) = true := decide_eq_true hlt2
     clear HV2 HS2
     have g0 := cell_regrown (Qb HX1.out 1); have g1 := cell_regrown d1; have g2 := cell_regrown hp2
     refine Qn (by kernel_rfl) (by kernel_rfl) ?_; (repeat (go_big_quiet_step (fail))); refine wpQuiet_nil ?_; intro w10 hb
     clear g0 g1 g2
     go_wp2
     go_ret
     exact ⟨Qf HN.out.symm, HB1.out.trans (hb.mono HB1.out.size)⟩
    ·have HS3 := Qa (show QI none l.es = QI (ZY l.es (j + 1 + 1)) (l.es.drop (j + 1 + 1)) by rw [HS2.out, decide_eq_true (by omega)]; rfl)
     have hdt : decide (e.time < pt) = false := decide_eq_false hlt2
     clear HV2 HS2
     have g0 := cell_regrown (Qb HX1.out 1); have g1 := cell_regrown d1; have g2 := cell_regrown hp2
     refine Qn (by kernel_rfl) (by kernel_rfl) ?_; (repeat (go_big_quiet_step (fail))); refine wpQuiet_nil ?_; intro w10 hb
     clear g0 g1 g2
     go_wp2
     exact ⟨⟨j + 1 + 1, by omega, by go_num, HS3, Qc HX1.out hb, HB1.out.trans (hb.mono HB1.out.size)⟩, by simp [intOf]; omega⟩
  ·obtain rfl : k = l.es.length := by omega
   have hes : QI none l.es = true := by rw [HK.out, List.drop_length]; rfl
   have HC := Qa (fun V (hV : Below w.heap.size w V) => RChain37_any l.st l.es a cap V (by omega) (by omega) (fun e he => ⟨Yb _ _ hes e he, hok e he⟩) (HA.out.below hV))
   have HN := Qa (show Qw l = (l.ch == Qr l.st l.es) by rw [HV2.out, hes]; rfl)
   clear HV2 HK hes
   go_upto_region 9 with (fail)
   have g0 := cell_regrown (hc 0); have g1 := cell_regrown (hc 1); have g2 := cell_regrown (hc 2)
   clear hc
   refine Qn (by kernel_rfl) (by kernel_rfl) ?_
   (repeat (go_big_quiet_step ((go_at_call 112; refine Calls.regrown_of (HC.out _ (HB.out.trans (by first | exact (below_regrown _ _ _).mono HB.out.size | exact (Below.refl _ _))))))))
   refine wpQuiet_nil ?_
   intro w10 hb
   clear g0 g1 g2
   go_wp2
   go_ret
   exact ⟨Qf HN.out.symm, HB.out.trans (hb.mono HB.out.size)⟩
open Go.RowKit Go.Sort
theorem hold_nonneg (l : List Lo) (h : ∀ x ∈ l, x.k = 1 → 1 ≤ x.st) (s : Int) : 0 ≤ hold l s := by
 have g : ∀ (l : List Lo) (z : Int), 0 ≤ z → (∀ x ∈ l, x.k = 1 → 1 ≤ x.st) → 0 ≤ l.foldl (fun acc x => if x.s = s then (if x.k = 1 then x.st else 0) else acc) z := by
  intro l
  induction l with
  | nil => intro z hz _; exact hz
  | cons x l ih =>
   intro z hz hx
   rw [List.foldl_cons]
   refine ih _ ?_ fun y hy => hx y (by simp [hy])
   split
   ·split
    ·have := hx x (by simp) ‹_›; omega
    ·omega
   ·exact hz
 exact g l 0 (Int.le_refl _) h
theorem shAdd_1 (s : Sh) (x : Lo) (h : x.k = 1) : Yg s x = ⟨mput s.hm x.s (.int .i64 x.st), s.gm⟩ := by unfold Yg; rw [if_pos h]
theorem shAdd_2 (s : Sh) (x : Lo) (h : x.k = 2) : Yg s x = ⟨mdel s.hm x.s, s.gm⟩ := by unfold Yg; rw [if_neg (by omega), if_pos h]
theorem shAdd_3 (s : Sh) (x : Lo) (h : x.k = 3) : Yg s x = ⟨s.hm, mput s.gm x.s (.int .i64 x.h)⟩ := by unfold Yg; rw [if_neg (by omega), if_neg (by omega), if_pos h]
theorem loanOk_st {x : Lo} (h : Zs x = true) : (x.k = 1 → 1 ≤ x.st) ∧ (x.k = 1 ∨ x.k = 2 ∨ x.k = 3) ∧ (x.k ≠ 1 → x.st = 0) ∧ (x.k ≠ 3 → x.h = 0) := by
 unfold Zs at h
 simp only [Bool.and_eq_true] at h
 obtain ⟨_, h⟩ := h
 by_cases h1 : x.k = 1
 ·simp [h1, inB] at h; refine ⟨fun _ => h.1.1, .inl h1, fun e => absurd h1 e, fun _ => h.2⟩
 ·by_cases h2 : x.k = 2
  ·simp [h2] at h; exact ⟨fun e => absurd e h1, .inr (.inl h2), fun _ => h.1, fun _ => h.2⟩
  ·by_cases h3 : x.k = 3
   ·simp [h3] at h; exact ⟨fun e => absurd e h1, .inr (.inr h3), fun _ => h.1, fun e => absurd h3 e⟩
   ·simp [h1, h2, h3] at h
def ShInv (l : List Lo) : Prop :=
 ∀ s, mget (shOf l).hm s = (if 0 < hold l s then some (Value.int .i64 (hold l s)) else none) ∧ (mget (shOf l).gm s).getD (.int .i64 0) = .int .i64 (Uv l s)
theorem ShInv.can {l : List Lo} (h : ShInv l) (x : Lo) : Yo (shOf l) x = Zh l x := by
 unfold Yo shOut Zh
 rw [(h x.s).1]
 by_cases h0 : 0 < hold l x.s <;> simp [h0]
theorem ShInv.step {l : List Lo} (h : ShInv l) (x : Lo) (hx : Zs x = true) (hh : Zh l x = true) : ShInv (l ++ [x]) := by
 obtain ⟨g1, g2, g3, g4⟩ := loanOk_st hx
 have hc : Yo (shOf l) x = true := by rw [h.can]; exact hh
 have hs : shOf (l ++ [x]) = Yg (shOf l) x := by rw [YT]; unfold Ux; rw [if_pos hc]
 have hf : ∀ s, Uv (l ++ [x]) s = if x.s = s ∧ x.k = 3 then x.h else Uv l s := fun s => by simp [Uv, List.foldl_append]
 intro s
 rw [hs, hold_snoc, hf]
 obtain ⟨i1, i2⟩ := h s
 rcases g2 with hk | hk | hk
 ·have := g1 hk
  rw [shAdd_1 _ _ hk, if_neg (show ¬ (x.s = s ∧ x.k = 3) from fun e => by omega)]
  refine ⟨?_, i2⟩
  rw [ZB]
  by_cases e : s = x.s
  ·subst e; simp [hk]; omega
  ·have e' : ¬ x.s = s := fun a => e a.symm
   rw [if_neg e, if_neg e', i1]
 ·rw [shAdd_2 _ _ hk, if_neg (show ¬ (x.s = s ∧ x.k = 3) from fun e => by omega)]
  refine ⟨?_, i2⟩
  rw [mget_mdel]
  by_cases e : s = x.s
  ·subst e; simp [hk]
  ·have e' : ¬ x.s = s := fun a => e a.symm
   rw [if_neg e, if_neg e', i1]
 ·have h0 : ¬ 0 < hold l x.s := by
   unfold Zh at hh
   simp [hk] at hh; omega
  rw [shAdd_3 _ _ hk]
  refine ⟨?_, ?_⟩
  ·show mget (shOf l).hm s = _
   rw [i1]
   by_cases e : x.s = s
   ·subst e; simp [h0, hk]
   ·simp [e]
  ·show (mget (mput (shOf l).gm x.s (.int .i64 x.h)) s).getD _ = _
   rw [ZB]
   by_cases e : s = x.s
   ·subst e; simp [hk]
   ·have e' : ¬ x.s = s := fun a => e a.symm
    rw [if_neg e, i2]; simp [e']
theorem shInv_nil : ShInv [] := fun s => by simp [shOf, Q2, hold, Uv]
theorem shInv_take (l : List Lo) (k : Nat) (hk : k ≤ l.length) (h : ∀ j, j < k → ZM l j = true) : ShInv (l.take k) := by
 induction k with
 | zero => rw [List.take_zero]; exact shInv_nil
 | succ k ih =>
  have hlt : k < l.length := by omega
  have hs := h k (by omega)
  rw [ZH l k hlt] at hs
  simp only [Bool.and_eq_true] at hs
  rw [List.take_succ_eq_append_getElem hlt]
  exact (ih (by omega) fun j hj => h j (by omega)).step l[k] hs.1.1 hs.2
theorem loansOk_step {l : List Lo} (h : QP l = true) : ∀ j, j < l.length → ZM l j = true := fun j hj => by
 simp only [QP, Bool.and_eq_true, List.all_eq_true, List.mem_range] at h
 exact h.2 j hj
theorem Qap {l : List Lo} (h : QP l = true) (time : Int) : ShInv (upTo l time) := by
 rw [upTo_take]
 exact shInv_take l _ (U1 l time) fun j hj => loansOk_step h j (Nat.lt_of_lt_of_le hj (U1 l time))
end Go.Proofs.YtajijcfikihhjaaGreatDoor
