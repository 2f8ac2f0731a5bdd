import Derived.Test.YtajijcfikihhjaaGreatDoorAAD
import Derived.Deep.Upon
set_option linter.unusedSimpArgs false
set_option linter.unusedVariables false
set_option maxRecDepth 100000
set_option maxHeartbeats 16000000
namespace Go.Proofs.YtajijcfikihhjaaGreatDoor
open Go.RowKit Go.Sort Go.Shelf
theorem Qi {P : Program} {fn : Func} {p u : Tmp} {ty : TypeId} (h : fn.results = #[.cell p ty, .tmp u]) (tmps : Array Value) (w : World) (g : Nat) (t : TypeId) (cs : Array Value) (fr : Nat × Nat) (d : TypeDesc)
  (hp : tmps.getD p undef = .pointer (some ⟨g, 0, none⟩)) (hg : w.heap[g]? = some (.cells cs t fr))
  (hu : P.underlying ty = some d) (hd : (match d with | .struct _ | .array _ _ => true | _ => false) = true) (hi : (P.info? ty).map (·.size) = some cs.size) :
  (results fn tmps).run P w = .ok (.tuple #[.agg cs, tmps.getD u undef]) w := by
 have hp' : tmps[p]?.getD undef = .pointer (some ⟨g, 0, none⟩) := by simpa using hp
 simp [results, h, hp', asAddr, run_loadVar_row w g t ty cs fr d hg hu hd hi]
theorem Uq (l : List R3) (c : R3) : (l.any fun x => decide (x = c)) = decide (c ∈ l) := by
 rw [Bool.eq_iff_iff, List.any_eq_true]
 simp
abbrev fo0 : Fo := ⟨0, [], [], ⟨0, 0, 0⟩, []⟩
abbrev fp0 : Fp := ⟨none, 0, none, 0, none, 0⟩
theorem Uj (w : World) : FoAt w fo0 fp0 := ⟨SlAt.nil _ _ _, SlAt.nil _ _ _, SlAt.nil _ _ _, SlOk.nil, SlOk.nil, SlOk.nil⟩
structure FpNew (q : Fp) (B : Nat) : Prop where
 ra : ∀ ad, q.ra = some ad → B ≤ ad.block
 ea : ∀ ad, q.ea = some ad → B ≤ ad.block
 ca : ∀ ad, q.ca = some ad → B ≤ ad.block
def RetFoN (f : Fo) (err : Int) (w : World) (e : Ending) (w' : World) : Prop :=
 ∃ q : Fp, e = .returned (.tuple #[.agg #[.int .i64 f.bars, .slice q.ra f.reps.length q.rc, .slice q.ea f.ends.length q.ec, .int .i64 f.jump.x, .int .i64 f.jump.y, .int .i64 f.jump.z, .slice q.ca f.cuts.length q.cc], .int .i64 err]) ∧ FoAt w' f q ∧ Below w.heap.size w w' ∧ FpNew q w.heap.size
theorem RetFoN.none {err : Int} {w w' : World} (hb : Below w.heap.size w w') : RetFoN fo0 err w (.returned (.tuple #[.agg #[.int .i64 0, .slice none 0 0, .slice none 0 0, .int .i64 0, .int .i64 0, .int .i64 0, .slice none 0 0], .int .i64 err])) w' := ⟨fp0, rfl, Uj _, hb, ⟨fun _ e => (by cases e), fun _ e => (by cases e), fun _ e => (by cases e)⟩⟩
theorem OwnR.newB {w : World} {B B' : Nat} {E : TypeId} {sz : Nat} {a : Option Addr} {n cap : Nat} {rows : List (List Value)} (h : OwnR w B E sz (.slice a n cap) rows) (hB : B' ≤ B) : ∀ ad, a = some ad → B' ≤ ad.block := fun ad e => by
 subst e
 obtain ⟨_, _, ⟨e, _⟩ | ⟨g, cap', cur, e, hg, _⟩⟩ := h
 ·cases e
 ·cases e; exact Nat.le_trans hB hg
theorem OwnR.r3 {w : World} {B : Nat} {E : TypeId} {a : Option Addr} {n cap : Nat} {l : List R3} (h : OwnR w B E 3 (.slice a n cap) (l.map R3.cells)) : SlOk a l.length cap ∧ R3At w a l := by
 obtain ⟨a', cap', e, h1, h2⟩ := h.slAt
 rw [List.length_map] at e h1
 cases e
 exact ⟨h1, h2⟩
theorem Yr {v : World} {b k : Nat} {o : Obj} (h : v.heap[k]? = some o) (hne : k ≠ b) (a0 a1 a2 a3 a4 a5 a6 : Value) : (set7 v b a0 a1 a2 a3 a4 a5 a6).heap[k]? = some o :=
 Qo (Qo (Qo (Qo (Qo (Qo (Qo h hne _) hne _) hne _) hne _) hne _) hne _) hne _
theorem rCut_any (f : Fo) (q : Fp) (c : R3) (w : World) (hf : FoFew f) (hq : FoAt w f q) :
  Calls Tryz.prog 164 #[.agg #[.int .i64 f.bars, .slice q.ra f.reps.length q.rc, .slice q.ea f.ends.length q.ec, .int .i64 f.jump.x, .int .i64 f.jump.y, .int .i64 f.jump.z, .slice q.ca f.cuts.length q.cc], .agg #[.int .i64 c.x, .int .i64 c.y, .int .i64 c.z]] w (RetFoN (cutR f c).1 (cutR f c).2 w) := by
 obtain ⟨x1, x2, x3, hb⟩ := box3 (w := w) (A := .cells #[.int .i64 f.bars, .slice q.ra f.reps.length q.rc, .slice q.ea f.ends.length q.ec, .int .i64 f.jump.x, .int .i64 f.jump.y, .int .i64 f.jump.z, .slice q.ca f.cuts.length q.cc] 109) (B := .cells #[.int .i64 c.x, .int .i64 c.y, .int .i64 c.z] 186) (C := .cells #[.int .i64 0, .slice none 0 0, .slice none 0 0, .int .i64 0, .int .i64 0, .int .i64 0, .slice none 0 0] 109) (Below.refl _ _)
 have HX1 := Qa x1; have HX2 := Qa x2; have HX3 := Qa x3; have HB := Qa hb
 have HV := Qa (fun V (hV : Below w.heap.size w V) => Z7 f q V hf (hq.below hV))
 have HI := Qa (fun V => risCut_any f q c V)
 have HN := Qa (fun V (hV : Below w.heap.size w V) => ContainsCu_eq c q.ca q.cc f.cuts V (by have := hf.cuts; omega) (hq.cuts.below hV))
 have HP := Qa (fun V (hV : Below w.heap.size w V) => Jj f q V hf (hq.below hV))
 have HCl := Qa hf.cuts
 unfold R3V at HI
 rw [Uq] at HN
 clear x1 x2 x3 hb hq hf
 go_enter Tryz.func164, Tryz.ntmps164
 go_upto_region 1 with (fail)
 generalize ((w.alloc (.cells #[.int .i64 f.bars, .slice q.ra f.reps.length q.rc, .slice q.ea f.ends.length q.ec, .int .i64 f.jump.x, .int .i64 f.jump.y, .int .i64 f.jump.z, .slice q.ca f.cuts.length q.cc] 109)).alloc (.cells #[.int .i64 c.x, .int .i64 c.y, .int .i64 c.z] 186)).alloc (.cells #[.int .i64 0, .slice none 0 0, .slice none 0 0, .int .i64 0, .int .i64 0, .int .i64 0, .slice none 0 0] 109) = W at *
 have hc1 := Qb HX1.out; have hc2 := Qb HX2.out; have hc3 := Qb HX3.out
 cases h1 : Qy f
 ·have HE := Qa (show cutR f c = (fo0, 1) by unfold cutR; rw [h1]; rfl)
  rw [h1] at HV
  clear h1
  go_upto_region 2 with ((go_at_call 89; refine (HV.out _ HB.out).mono ?_; rintro e w6 ⟨rfl, hb⟩; clear hc1 hc2 hc3; replace HX1 := bk HX1 hb; replace HX2 := bk HX2 hb; replace HX3 := bk HX3 hb; replace HB := bu HB hb; clear hb; have hc1 := Qb HX1.out; have hc2 := Qb HX2.out; have hc3 := Qb HX3.out))
  have hf3 := Qe HX3.out; have hz3 := Qd HX3.out; have hf1 := Qe HX1.out; have hz1 := Qd HX1.out
  go_wp2
  refine bodyPost_ret (Qi rfl _ _ (w.heap.size + 1 + 1) 109 _ (0, 0) _ rfl (QB HX3.out _ _ _ _ _ _ _) Tryz.underlying109 rfl (by kernel_rfl)) rfl ?_; rw [HE.out]; exact RetFoN.none (Qs HB.out (by omega) _ _ _ _ _ _ _)
 cases h2 : cutB f c
 ·have HE := Qa (show cutR f c = (fo0, 1) by unfold cutR; rw [h1, h2]; rfl)
  rw [h1] at HV; rw [h2] at HI
  clear h1 h2
  go_upto_region 2 with (first | (go_at_call 89; refine (HV.out _ HB.out).mono ?_; rintro e w6 ⟨rfl, hb⟩; clear hc1 hc2 hc3; replace HX1 := bk HX1 hb; replace HX2 := bk HX2 hb; replace HX3 := bk HX3 hb; replace HB := bu HB hb; clear hb; have hc1 := Qb HX1.out; have hc2 := Qb HX2.out; have hc3 := Qb HX3.out) | (go_at_call 174; refine (HI.out _).mono ?_; rintro e w7 ⟨rfl, hb⟩; clear hc1 hc2 hc3; replace HX1 := bk HX1 hb; replace HX2 := bk HX2 hb; replace HX3 := bk HX3 hb; replace HB := bu HB hb; clear hb; have hc1 := Qb HX1.out; have hc2 := Qb HX2.out; have hc3 := Qb HX3.out))
  have hf3 := Qe HX3.out; have hz3 := Qd HX3.out; have hf1 := Qe HX1.out; have hz1 := Qd HX1.out
  go_wp2
  refine bodyPost_ret (Qi rfl _ _ (w.heap.size + 1 + 1) 109 _ (0, 0) _ rfl (QB HX3.out _ _ _ _ _ _ _) Tryz.underlying109 rfl (by kernel_rfl)) rfl ?_; rw [HE.out]; exact RetFoN.none (Qs HB.out (by omega) _ _ _ _ _ _ _)
 by_cases h3 : c ∈ f.cuts
 ·have HE := Qa (show cutR f c = (fo0, 5) by unfold cutR; rw [h1, h2, if_pos h3]; rfl)
  rw [h1] at HV; rw [h2] at HI; rw [decide_eq_true h3] at HN
  clear h1 h2 h3
  go_upto_region 4 with (first | (go_at_call 89; refine (HV.out _ HB.out).mono ?_; rintro e w6 ⟨rfl, hb⟩; clear hc1 hc2 hc3; replace HX1 := bk HX1 hb; replace HX2 := bk HX2 hb; replace HX3 := bk HX3 hb; replace HB := bu HB hb; clear hb; have hc1 := Qb HX1.out; have hc2 := Qb HX2.out; have hc3 := Qb HX3.out) | (go_at_call 174; refine (HI.out _).mono ?_; rintro e w7 ⟨rfl, hb⟩; clear hc1 hc2 hc3; replace HX1 := bk HX1 hb; replace HX2 := bk HX2 hb; replace HX3 := bk HX3 hb; replace HB := bu HB hb; clear hb; have hc1 := Qb HX1.out; have hc2 := Qb HX2.out; have hc3 := Qb HX3.out) | (go_at_call 210; refine (HN.out _ HB.out).mono ?_; rintro e w8 ⟨rfl, hb⟩; clear hc1 hc2 hc3; replace HX1 := bk HX1 hb; replace HX2 := bk HX2 hb; replace HX3 := bk HX3 hb; replace HB := bu HB hb; clear hb; have hc1 := Qb HX1.out; have hc2 := Qb HX2.out; have hc3 := Qb HX3.out))
  have hf3 := Qe HX3.out; have hz3 := Qd HX3.out; have hf1 := Qe HX1.out; have hz1 := Qd HX1.out
  go_wp2
  refine bodyPost_ret (Qi rfl _ _ (w.heap.size + 1 + 1) 109 _ (0, 0) _ rfl (QB HX3.out _ _ _ _ _ _ _) Tryz.underlying109 rfl (by kernel_rfl)) rfl ?_; rw [HE.out]; exact RetFoN.none (Qs HB.out (by omega) _ _ _ _ _ _ _)
 by_cases h4 : f.cuts.length = 100
 ·have HE := Qa (show cutR f c = (fo0, 2) by unfold cutR; rw [h1, h2, if_neg h3, if_pos h4]; rfl)
  rw [h1] at HV; rw [h2] at HI; rw [decide_eq_false h3] at HN
  have h4' : ((f.cuts.length : Int) == 100) = true := by rw [h4]; rfl
  clear h1 h2 h3 h4
  go_upto_region 6 with (first | (go_at_call 89; refine (HV.out _ HB.out).mono ?_; rintro e w6 ⟨rfl, hb⟩; clear hc1 hc2 hc3; replace HX1 := bk HX1 hb; replace HX2 := bk HX2 hb; replace HX3 := bk HX3 hb; replace HB := bu HB hb; clear hb; have hc1 := Qb HX1.out; have hc2 := Qb HX2.out; have hc3 := Qb HX3.out) | (go_at_call 174; refine (HI.out _).mono ?_; rintro e w7 ⟨rfl, hb⟩; clear hc1 hc2 hc3; replace HX1 := bk HX1 hb; replace HX2 := bk HX2 hb; replace HX3 := bk HX3 hb; replace HB := bu HB hb; clear hb; have hc1 := Qb HX1.out; have hc2 := Qb HX2.out; have hc3 := Qb HX3.out) | (go_at_call 210; refine (HN.out _ HB.out).mono ?_; rintro e w8 ⟨rfl, hb⟩; clear hc1 hc2 hc3; replace HX1 := bk HX1 hb; replace HX2 := bk HX2 hb; replace HX3 := bk HX3 hb; replace HB := bu HB hb; clear hb; have hc1 := Qb HX1.out; have hc2 := Qb HX2.out; have hc3 := Qb HX3.out))
  have hf3 := Qe HX3.out; have hz3 := Qd HX3.out; have hf1 := Qe HX1.out; have hz1 := Qd HX1.out
  go_wp2
  refine bodyPost_ret (Qi rfl _ _ (w.heap.size + 1 + 1) 109 _ (0, 0) _ rfl (QB HX3.out _ _ _ _ _ _ _) Tryz.underlying109 rfl (by kernel_rfl)) rfl ?_; rw [HE.out]; exact RetFoN.none (Qs HB.out (by omega) _ _ _ _ _ _ _)
 have HE := Qa (show cutR f c = ({ f with cuts := f.cuts ++ [c] }, 0) by unfold cutR; rw [h1, h2, if_neg h3, if_neg h4]; rfl)
 rw [h1] at HV; rw [h2] at HI; rw [decide_eq_false h3] at HN
 have h4' : ((f.cuts.length : Int) == 100) = false := by rw [beq_eq_false_iff_ne]; omega
 clear h1 h2 h3 h4
 go_upto_region 7 with (first | (go_at_call 89; refine (HV.out _ HB.out).mono ?_; rintro e w6 ⟨rfl, hb⟩; clear hc1 hc2 hc3; replace HX1 := bk HX1 hb; replace HX2 := bk HX2 hb; replace HX3 := bk HX3 hb; replace HB := bu HB hb; clear hb; have hc1 := Qb HX1.out; have hc2 := Qb HX2.out; have hc3 := Qb HX3.out) | (go_at_call 174; refine (HI.out _).mono ?_; rintro e w7 ⟨rfl, hb⟩; clear hc1 hc2 hc3; replace HX1 := bk HX1 hb; replace HX2 := bk HX2 hb; replace HX3 := bk HX3 hb; replace HB := bu HB hb; clear hb; have hc1 := Qb HX1.out; have hc2 := Qb HX2.out; have hc3 := Qb HX3.out) | (go_at_call 210; refine (HN.out _ HB.out).mono ?_; rintro e w8 ⟨rfl, hb⟩; clear hc1 hc2 hc3; replace HX1 := bk HX1 hb; replace HX2 := bk HX2 hb; replace HX3 := bk HX3 hb; replace HB := bu HB hb; clear hb; have hc1 := Qb HX1.out; have hc2 := Qb HX2.out; have hc3 := Qb HX3.out))
 have hz8 := Qd HX3.out
 go_upto_region 8 with ((go_at_call 211; refine (HP.out _ HB.out).mono ?_; rintro e w9 ⟨q', rfl, ho1, ho2, ho3, hb⟩; have hs9 := hb.size; clear hc1 hc2 hc3; replace HX1 := bk HX1 hb; replace HX2 := bk HX2 hb; replace HX3 := bk HX3 hb; replace HB := bu HB hb; clear hb; have hc1 := Qb HX1.out; have hc2 := Qb HX2.out; have hc3 := Qb HX3.out); have hf3 := Qe HX3.out; have hz3 := Qd HX3.out; have hf1 := Qe HX1.out; have hz1 := Qd HX1.out)
 have k1 : (((((((w9.setCell ⟨w.heap.size, 0, none⟩ (.int .i64 f.bars)).setCell ⟨w.heap.size, 1, none⟩ (.slice q'.ra f.reps.length q'.rc)).setCell ⟨w.heap.size, 2, none⟩ (.slice q'.ea f.ends.length q'.ec)).setCell ⟨w.heap.size, 3, none⟩ (.int .i64 f.jump.x)).setCell ⟨w.heap.size, 4, none⟩ (.int .i64 f.jump.y)).setCell ⟨w.heap.size, 5, none⟩ (.int .i64 f.jump.z)).setCell ⟨w.heap.size, 6, none⟩ (.slice q'.ca f.cuts.length q'.cc)).heap[w.heap.size]? = some (.cells #[.int .i64 f.bars, .slice q'.ra f.reps.length q'.rc, .slice q'.ea f.ends.length q'.ec, .int .i64 f.jump.x, .int .i64 f.jump.y, .int .i64 f.jump.z, .slice q'.ca f.cuts.length q'.cc] 109) := QB HX1.out _ _ _ _ _ _ _
 have k2 : (((((((w9.setCell ⟨w.heap.size, 0, none⟩ (.int .i64 f.bars)).setCell ⟨w.heap.size, 1, none⟩ (.slice q'.ra f.reps.length q'.rc)).setCell ⟨w.heap.size, 2, none⟩ (.slice q'.ea f.ends.length q'.ec)).setCell ⟨w.heap.size, 3, none⟩ (.int .i64 f.jump.x)).setCell ⟨w.heap.size, 4, none⟩ (.int .i64 f.jump.y)).setCell ⟨w.heap.size, 5, none⟩ (.int .i64 f.jump.z)).setCell ⟨w.heap.size, 6, none⟩ (.slice q'.ca f.cuts.length q'.cc)).heap[w.heap.size + 1]? = some (.cells #[.int .i64 c.x, .int .i64 c.y, .int .i64 c.z] 186) := Yr HX2.out (by omega) _ _ _ _ _ _ _
 have k3 : (((((((w9.setCell ⟨w.heap.size, 0, none⟩ (.int .i64 f.bars)).setCell ⟨w.heap.size, 1, none⟩ (.slice q'.ra f.reps.length q'.rc)).setCell ⟨w.heap.size, 2, none⟩ (.slice q'.ea f.ends.length q'.ec)).setCell ⟨w.heap.size, 3, none⟩ (.int .i64 f.jump.x)).setCell ⟨w.heap.size, 4, none⟩ (.int .i64 f.jump.y)).setCell ⟨w.heap.size, 5, none⟩ (.int .i64 f.jump.z)).setCell ⟨w.heap.size, 6, none⟩ (.slice q'.ca f.cuts.length q'.cc)).heap[w.heap.size + 1 + 1]? = some (.cells #[.int .i64 0, .slice none 0 0, .slice none 0 0, .int .i64 0, .int .i64 0, .int .i64 0, .slice none 0 0] 109) := Yr HX3.out (by omega) _ _ _ _ _ _ _
 have o1 : OwnR (((((((w9.setCell ⟨w.heap.size, 0, none⟩ (.int .i64 f.bars)).setCell ⟨w.heap.size, 1, none⟩ (.slice q'.ra f.reps.length q'.rc)).setCell ⟨w.heap.size, 2, none⟩ (.slice q'.ea f.ends.length q'.ec)).setCell ⟨w.heap.size, 3, none⟩ (.int .i64 f.jump.x)).setCell ⟨w.heap.size, 4, none⟩ (.int .i64 f.jump.y)).setCell ⟨w.heap.size, 5, none⟩ (.int .i64 f.jump.z)).setCell ⟨w.heap.size, 6, none⟩ (.slice q'.ca f.cuts.length q'.cc)) w8.heap.size _ 3 _ _ := ho1.set7 (by omega) _ _ _ _ _ _ _
 have o2 : OwnR (((((((w9.setCell ⟨w.heap.size, 0, none⟩ (.int .i64 f.bars)).setCell ⟨w.heap.size, 1, none⟩ (.slice q'.ra f.reps.length q'.rc)).setCell ⟨w.heap.size, 2, none⟩ (.slice q'.ea f.ends.length q'.ec)).setCell ⟨w.heap.size, 3, none⟩ (.int .i64 f.jump.x)).setCell ⟨w.heap.size, 4, none⟩ (.int .i64 f.jump.y)).setCell ⟨w.heap.size, 5, none⟩ (.int .i64 f.jump.z)).setCell ⟨w.heap.size, 6, none⟩ (.slice q'.ca f.cuts.length q'.cc)) w8.heap.size _ 3 _ _ := ho2.set7 (by omega) _ _ _ _ _ _ _
 have o3 : OwnR (((((((w9.setCell ⟨w.heap.size, 0, none⟩ (.int .i64 f.bars)).setCell ⟨w.heap.size, 1, none⟩ (.slice q'.ra f.reps.length q'.rc)).setCell ⟨w.heap.size, 2, none⟩ (.slice q'.ea f.ends.length q'.ec)).setCell ⟨w.heap.size, 3, none⟩ (.int .i64 f.jump.x)).setCell ⟨w.heap.size, 4, none⟩ (.int .i64 f.jump.y)).setCell ⟨w.heap.size, 5, none⟩ (.int .i64 f.jump.z)).setCell ⟨w.heap.size, 6, none⟩ (.slice q'.ca f.cuts.length q'.cc)) w8.heap.size _ 3 _ _ := ho3.set7 (by omega) _ _ _ _ _ _ _
 have bb : Below w.heap.size w (((((((w9.setCell ⟨w.heap.size, 0, none⟩ (.int .i64 f.bars)).setCell ⟨w.heap.size, 1, none⟩ (.slice q'.ra f.reps.length q'.rc)).setCell ⟨w.heap.size, 2, none⟩ (.slice q'.ea f.ends.length q'.ec)).setCell ⟨w.heap.size, 3, none⟩ (.int .i64 f.jump.x)).setCell ⟨w.heap.size, 4, none⟩ (.int .i64 f.jump.y)).setCell ⟨w.heap.size, 5, none⟩ (.int .i64 f.jump.z)).setCell ⟨w.heap.size, 6, none⟩ (.slice q'.ca f.cuts.length q'.cc)) := Qs HB.out (Nat.le_refl _) _ _ _ _ _ _ _
 have hs9 : w8.heap.size ≤ (((((((w9.setCell ⟨w.heap.size, 0, none⟩ (.int .i64 f.bars)).setCell ⟨w.heap.size, 1, none⟩ (.slice q'.ra f.reps.length q'.rc)).setCell ⟨w.heap.size, 2, none⟩ (.slice q'.ea f.ends.length q'.ec)).setCell ⟨w.heap.size, 3, none⟩ (.int .i64 f.jump.x)).setCell ⟨w.heap.size, 4, none⟩ (.int .i64 f.jump.y)).setCell ⟨w.heap.size, 5, none⟩ (.int .i64 f.jump.z)).setCell ⟨w.heap.size, 6, none⟩ (.slice q'.ca f.cuts.length q'.cc)).heap.size := by simpa using hs9
 clear HX1 HX2 HX3 HB hc1 hc2 hc3 hf3 hz3 hf1 hz1 ho1 ho2 ho3
 generalize ((((((w9.setCell ⟨w.heap.size, 0, none⟩ (.int .i64 f.bars)).setCell ⟨w.heap.size, 1, none⟩ (.slice q'.ra f.reps.length q'.rc)).setCell ⟨w.heap.size, 2, none⟩ (.slice q'.ea f.ends.length q'.ec)).setCell ⟨w.heap.size, 3, none⟩ (.int .i64 f.jump.x)).setCell ⟨w.heap.size, 4, none⟩ (.int .i64 f.jump.y)).setCell ⟨w.heap.size, 5, none⟩ (.int .i64 f.jump.z)).setCell ⟨w.heap.size, 6, none⟩ (.slice q'.ca f.cuts.length q'.cc) = W5 at *
 have hc1 := Qb k1; have hc2 := Qb k2
 have hcl := HCl.out
 go_upto_region 9 with (at_builtin; refine appE eltCu rfl (.tmp 33) (.tmp 35) rfl w8.heap.size _ f.cuts rfl (o3.below (Qg _)) _ _ _ [c] rfl rfl (fun e => by cases e) (eltCu.new _ _ _ _ rfl) (by simp; omega) (by simp; omega) ?_; intro v5 w10 ho5 hg5; replace hg5 : (W5.alloc (.cells #[.int .i64 c.x, .int .i64 c.y, .int .i64 c.z] 186)).grownBy w10 (Value.slice q'.ca f.cuts.length q'.cc).ownBlock := hg5; obtain ⟨a9, c9, e9, _, _⟩ := ho5.slAt; rw [show ((f.cuts ++ [c]).map R3.cells).length = f.cuts.length + 1 by simp] at e9; subst e9; have kc := KeptC.grown (Fr := fun _ T => T ≠ 186) hg5 (fun k e cs T fr hk hne => by
   obtain ⟨cur, hc⟩ := (o3.below (Qg (.cells #[.int .i64 c.x, .int .i64 c.y, .int .i64 c.z] 186))).isCells e
   rw [hk] at hc; cases hc; exact hne rfl); replace k1 := (hg5.block _ (by simp; omega) (o3.neBlk (by omega))).trans (Qj k1 _); replace k3 := (hg5.block _ (by simp; omega) (o3.neBlk (by omega))).trans (Qj k3 _); replace o1 := (o1.below (Qg _)).keptC kc (fun _ _ => by decide); replace o2 := (o2.below (Qg _)).keptC kc (fun _ _ => by decide); replace bb := (bb.alloc bb.size _).grown hg5 (by have := bb.size; simp; omega) (fun k e => by have := (o3.lt k e).1; omega); clear hc1 hc2; have hc1 := Qb k1; have hf1 := Qe k1; have hz1 := Qd k1)
 have k1' := heap_setCell_same w10 _ 6 _ _ (.slice a9 (f.cuts.length + 1) c9) k1
 have k3' := Qo (c := w.heap.size) (i := 6) k3 (by omega) (.slice a9 (f.cuts.length + 1) c9)
 have o1' := o1.setAt (b := w.heap.size) (i := 6) (by omega) (.slice a9 (f.cuts.length + 1) c9)
 have o2' := o2.setAt (b := w.heap.size) (i := 6) (by omega) (.slice a9 (f.cuts.length + 1) c9)
 have o3' := ho5.setAt (b := w.heap.size) (i := 6) (by omega) (.slice a9 (f.cuts.length + 1) c9)
 have bb' := bb.setCell (p := ⟨w.heap.size, 6, none⟩) (Nat.le_refl _) (.slice a9 (f.cuts.length + 1) c9)
 clear k1 k3 o1 o2 o3 ho5 bb hc1 hf1 hz1 kc hg5
 generalize w10.setCell ⟨w.heap.size, 6, none⟩ (.slice a9 (f.cuts.length + 1) c9) = W6 at *
 have hc1 := Qb k1'; have hc3 := Qb k3'; have hf3 := Qe k3'; have hz3 := Qd k3'
 go_wp2
 refine bodyPost_ret (Qi rfl _ _ (w.heap.size + 1 + 1) 109 _ (0, 0) _ rfl (QB k3' _ _ _ _ _ _ _) Tryz.underlying109 rfl (by kernel_rfl)) rfl ?_
 rw [HE.out]
 have p1 := (o1'.set7 (b := w.heap.size + 1 + 1) (by omega) (.int .i64 f.bars) (.slice q'.ra f.reps.length q'.rc) (.slice q'.ea f.ends.length q'.ec) (.int .i64 f.jump.x) (.int .i64 f.jump.y) (.int .i64 f.jump.z) (.slice a9 (f.cuts.length + 1) c9)).r3
 have p2 := (o2'.set7 (b := w.heap.size + 1 + 1) (by omega) (.int .i64 f.bars) (.slice q'.ra f.reps.length q'.rc) (.slice q'.ea f.ends.length q'.ec) (.int .i64 f.jump.x) (.int .i64 f.jump.y) (.int .i64 f.jump.z) (.slice a9 (f.cuts.length + 1) c9)).r3
 have p3 := (o3'.set7 (b := w.heap.size + 1 + 1) (by omega) (.int .i64 f.bars) (.slice q'.ra f.reps.length q'.rc) (.slice q'.ea f.ends.length q'.ec) (.int .i64 f.jump.x) (.int .i64 f.jump.y) (.int .i64 f.jump.z) (.slice a9 (f.cuts.length + 1) c9)).r3
 exact ⟨⟨q'.ra, q'.rc, q'.ea, q'.ec, a9, c9⟩, by simp, ⟨p1.2, p2.2, p3.2, p1.1, p2.1, p3.1⟩, Qs bb' (by omega) _ _ _ _ _ _ _, ⟨o1'.newB (by omega), o2'.newB (by omega), o3'.newB (by omega)⟩⟩
open Go.RowKit Go.Sort
theorem ZG {P : Program} {md : Region.Mode} {ops : Array Oper} {Q : Exit → Act → World → Prop} (i : Nat) {oi : Oper} {v : Value} {fuel : Nat} {listed : Array Bool} {a : Act} {w : World} (hi : ops[i]? = some oi)
  (hs : Region.noSelect ops = true) (hf : Region.free md ops listed i = true) (hr : (Region.ready md ops listed).contains i = true)
  (hy : Region.wanted oi (yielded ops a.tmps) = true ∧ ∀ w, (execOp a.eval oi).run P w = .ok (.value v) w) (hQ : ∀ c a w, Q (.panic c) (Act.put a oi.dst v) w → Q (.panic c) a w) (h : wpAny P md ops Q fuel (listed.setIfInBounds i true) (a.put oi.dst v) w) : wpAny P md ops Q (fuel + 1) listed a w :=
 wpAny_take hi hs hf hr hQ (.inl hy) h
theorem run_clear_rows {P : Program} (w : World) (t e ty : TypeId) (z : Value) (k : Nat) (ht : P.underlying t = some (.slice e)) (hv : ∀ w, (zeroValue e).run P w = .ok z w) (hz : z.cells.size = k) (hk : 0 < k) (h1 : ∀ v ∈ z.cells, v.oneCell' = true) (b o n c : Nat) (hn : 0 < n)
  (hc : ∀ j, j < n * k → (w.cell? ⟨b, o + j, none⟩).isSome = true) (hf : ∀ j, j < n * k → w.frozen? ⟨b, o + j, none⟩ = false) :
  (Builtin.clear_ #[t] ty #[.slice (some ⟨b, o, none⟩) n c]).run P w = .ok (.tuple #[]) (w.setCells b o (Builtin.zeroCells z.cells n).toList) := by
 have hlen : (Builtin.zeroCells z.cells n).toList.length = n * k := by
  simp [Builtin.zeroCells, hz, Nat.mul_comm]
 have h2 : ∀ v ∈ (Builtin.zeroCells z.cells n).toList, v.oneCell' = true := fun v hv' => by
  simp [Builtin.zeroCells] at hv'
  obtain ⟨i, hi, rfl⟩ := hv'
  have hp : 0 < z.cells.size := by omega
  rw [getElem!_pos z.cells _ (Nat.mod_lt _ hp)]
  exact h1 _ (Array.getElem_mem _)
 have hst := run_storeCells_cells (P := P) b o (Builtin.zeroCells z.cells n).toList 0 w (by rw [hlen]; simpa using hc) (by rw [hlen]; simpa using hf) h2
 simp only [Nat.add_zero] at hst
 obtain ⟨m, rfl⟩ : ∃ m, n = m + 1 := ⟨n - 1, by omega⟩
 simp [Builtin.clear_, run_underlying ht, hv, hst]
theorem flat3_take (l : List R3) : ∀ i, (l.map R3.cells).flatten.take (i * 3) = ((l.take i).map R3.cells).flatten := by
 induction l with
 | nil => intro i; simp
 | cons x l ih =>
  intro i
  cases i with
  | zero => simp
  | succ i => simp [R3.cells, Nat.succ_mul, ih]
theorem flat3_drop (l : List R3) : ∀ i, (l.map R3.cells).flatten.drop (i * 3) = ((l.drop i).map R3.cells).flatten := by
 induction l with
 | nil => intro i; simp
 | cons x l ih =>
  intro i
  cases i with
  | zero => simp
  | succ i => simp [R3.cells, Nat.succ_mul, ih]
theorem JM (l : List R3) : (l.map R3.cells).flatten.length = l.length * 3 := by
 rw [JA _ 3 (fun r hr => by obtain ⟨y, _, rfl⟩ := List.mem_map.1 hr; rfl), List.length_map]
theorem slAt_of_row {w : World} {g sz : Nat} {cs : Array Value} {E : TypeId} {fr : Nat × Nat} {rows : List (List Value)} (hw : ∀ r ∈ rows, r.length = sz) (hc : w.heap[g]? = some (.cells cs E fr)) (htk : cs.toList.take (rows.length * sz) = rows.flatten) : SlAt w (some ⟨g, 0, none⟩) sz rows :=
 fun i r hr => ⟨g, 0, rfl, (Array.getElem?_eq_some_iff.1 hc).1, hw r (List.mem_of_getElem? hr), fun j u hu => by
  have hf := JB rows sz hw i j r u hr hu
  rw [← htk, List.getElem?_take] at hf
  split at hf
  ·rw [World.cell?, hc, Nat.zero_add]
   simpa using hf
  ·cases hf⟩
theorem QM (b : Nat) : ∀ (vs : List Value) (o : Nat) (w : World), (w.setCells b o vs).heap.size = w.heap.size
 | [], _, _ => rfl
 | v :: vs, o, w => by rw [World.setCells, QM b vs]; simp
theorem auTape_setCells (b : Nat) : ∀ (vs : List Value) (o : Nat) (w : World), (w.setCells b o vs).tape = w.tape
 | [], _, _ => rfl
 | v :: vs, o, w => by rw [World.setCells, auTape_setCells b vs]; simp
theorem slAt_setCells {w : World} {g sz o : Nat} {vs : List Value} {rows : List (List Value)} (h : SlAt w (some ⟨g, 0, none⟩) sz rows) (ho : rows.length * sz ≤ o) : SlAt (w.setCells g o vs) (some ⟨g, 0, none⟩) sz rows := fun i r hr => by
 obtain ⟨b, off, e, h1, h2, h3⟩ := h i r hr
 cases e
 have hi := (List.getElem?_eq_some_iff.1 hr).1
 refine ⟨g, 0, rfl, by rw [QM]; exact h1, h2, fun j u hu => ?_⟩
 have hj : j < sz := by rw [← h2]; exact (List.getElem?_eq_some_iff.1 hu).1
 rw [World.cell?_setCells_out]
 ·exact h3 j u hu
 ·intro _ _
  left
  have h4 : i * sz + sz ≤ rows.length * sz := by rw [← Nat.succ_mul]; exact Nat.mul_le_mul_right _ hi
  show 0 + i * sz + j < o
  omega
theorem step_append_run {P : Program} {w w' : World} {ops : Array Oper} {o : Oper} {a : Act} {K : Act → World → Prop} {Q : Exit → Act → World → Prop} {E : Prop} (hgd : o.guard = none) (s x : Operand) (t : TypeId)
  (ho : o.op = .call { callee := .builtin .append, args := #[s, x], argTypes := #[t, t] }) {v u r : Value} (hs : a.eval s = v) (hx : a.eval x = u) (hr : ∀ ty, (Builtin.append_ #[t, t] ty #[v, u]).run P w = .ok r w') (h : K (a.put o.dst r) w') :
  if Region.wanted o (yielded ops a.tmps) = true then Oper.wp P o a w K Q else E := by
 rw [if_pos (by simp [Region.wanted, hgd])]
 unfold Oper.wp execOp
 simp only [ho, resolve, invoke, builtin, Sem.run_bind, Sem.run_pure, Result.andThen_ok, List.map_toArray, List.map_cons, List.map_nil, hs, hx, hr]
 exact h
theorem zeroCuJ (w : World) : (zeroValue 186).run Tryz.prog w = .ok (.agg #[.int .i64 0, .int .i64 0, .int .i64 0]) w := by kernel_rfl
theorem del_rows (cur : List Value) (l : List R3) (n i : Nat) (hl : l.length = n) (hi : i < n) (htk : cur.take (n * 3) = (l.map R3.cells).flatten) :
  (cur.take (i * 3) ++ ((l.drop (i + 1)).map R3.cells).flatten ++ cur.drop (i * 3 + ((l.drop (i + 1)).map R3.cells).flatten.length)).take (((l.eraseIdx i).map R3.cells).length * 3) = ((l.eraseIdx i).map R3.cells).flatten := by
 have e1 : cur.take (i * 3) = ((l.take i).map R3.cells).flatten := by
  rw [← flat3_take, ← htk, List.take_take]
  congr 1
  omega
 have e2 : ((l.eraseIdx i).map R3.cells).flatten = ((l.take i).map R3.cells).flatten ++ ((l.drop (i + 1)).map R3.cells).flatten := by
  rw [List.eraseIdx_eq_take_drop_succ, List.map_append, List.flatten_append]
 have e3 : ((l.eraseIdx i).map R3.cells).length * 3 = (((l.take i).map R3.cells).flatten ++ ((l.drop (i + 1)).map R3.cells).flatten).length := by
  rw [← e2, JM, List.length_map]
 rw [e1, e3, e2]
 exact List.take_left
theorem DeleteCu_any (B g cap n i : Nat) (l : List R3) (w : World) (hi : i < n) (hn : n ≤ 1000) (hl : l.length = n) (ho : OwnR w B 186 3 (.slice (some ⟨g, 0, none⟩) n cap) (l.map R3.cells)) :
  Calls Tryz.prog 213 #[.slice (some ⟨g, 0, none⟩) n cap, .int .i64 (i : Int), .int .i64 ((i : Int) + 1)] w fun e w' => e = .returned (.slice (some ⟨g, 0, none⟩) (n - 1) cap) ∧ w.grownBy w' (some g) ∧ R3At w' (some ⟨g, 0, none⟩) (l.eraseIdx i) := by
 obtain ⟨hw, _, ⟨e, _⟩ | ⟨g', cap', cur, e, hBg, hc, hcap, _, hsz, htk⟩⟩ := ho
 ·cases e
 simp only [Value.slice.injEq, Option.some.injEq, Addr.mk.injEq, and_true, true_and] at e
 obtain ⟨rfl, hnn, rfl⟩ := e
 clear hnn
 rw [List.length_map, hl] at hcap htk
 have hi1 : (i : Int) + 1 ≤ (n : Int) := by omega
 have hi2 : (i : Int) ≤ (n : Int) := by omega
 have hi3 : ((i : Int) == (i : Int) + 1) = false := by rw [beq_eq_false_iff_ne]; omega
 have HW := Qa hw; have HT := Qa htk; have HC := Qa hc; have HS := Qa hsz; have HL := Qa hl
 clear hw hBg htk hc hsz hl
 have hi4 : i ≤ cap := by omega
 have hi5 : (0 : Int) ≤ (i : Int) + 1 := by omega
 go_enter Tryz.func213, Tryz.ntmps213
 go_upto_region 5 with (fail)
 refine wp_region_any (by kernel_rfl) ?_
 change wpAny _ _ _ _ _ _ _ (World.drew _)
 ((refine ZG 0 (oi := ?_) (v := ?_) ?_ (by kernel_rfl) (by kernel_rfl) (by kernel_rfl) ?_ ?_ ?_; rotate_left 2; (· simp only [List.getElem?_toArray, List.getElem?_cons_succ, List.getElem?_cons_zero]; try rfl); (· refine ⟨by kernel_rfl, ?_⟩; intro wq; go_simp; first | done | with_reducible rfl); (· exact fun _ _ _ h => h); try simp only [Act.put, List.setIfInBounds_toArray, List.set_cons_zero, List.set_cons_succ]); (refine ZG 1 (oi := ?_) (v := ?_) ?_ (by kernel_rfl) (by kernel_rfl) (by kernel_rfl) ?_ ?_ ?_; rotate_left 2; (· simp only [List.getElem?_toArray, List.getElem?_cons_succ, List.getElem?_cons_zero]; try rfl); (· refine ⟨by kernel_rfl, ?_⟩; intro wq; go_simp; first | done | with_reducible rfl); (· exact fun _ _ _ h => h); try simp only [Act.put, List.setIfInBounds_toArray, List.set_cons_zero, List.set_cons_succ]); (refine ZG 2 (oi := ?_) (v := ?_) ?_ (by kernel_rfl) (by kernel_rfl) (by kernel_rfl) ?_ ?_ ?_; rotate_left 2; (· simp only [List.getElem?_toArray, List.getElem?_cons_succ, List.getElem?_cons_zero]; try rfl); (· refine ⟨by kernel_rfl, ?_⟩; intro wq; go_simp; first | done | with_reducible rfl); (· exact fun _ _ _ h => h); try simp only [Act.put, List.setIfInBounds_toArray, List.set_cons_zero, List.set_cons_succ]); (refine ZG 3 (oi := ?_) (v := ?_) ?_ (by kernel_rfl) (by kernel_rfl) (by kernel_rfl) ?_ ?_ ?_; rotate_left 2; (· simp only [List.getElem?_toArray, List.getElem?_cons_succ, List.getElem?_cons_zero]; try rfl); (· refine ⟨by kernel_rfl, ?_⟩; intro wq; go_simp; first | done | with_reducible rfl); (· exact fun _ _ _ h => h); try simp only [Act.put, List.setIfInBounds_toArray, List.set_cons_zero, List.set_cons_succ]); (refine ZG 4 (oi := ?_) (v := ?_) ?_ (by kernel_rfl) (by kernel_rfl) (by kernel_rfl) ?_ ?_ ?_; rotate_left 2; (· simp only [List.getElem?_toArray, List.getElem?_cons_succ, List.getElem?_cons_zero]; try rfl); (· refine ⟨by kernel_rfl, ?_⟩; intro wq; go_simp; first | done | with_reducible rfl); (· exact fun _ _ _ h => h); try simp only [Act.put, List.setIfInBounds_toArray, List.set_cons_zero, List.set_cons_succ]); (refine ZG 5 (oi := ?_) (v := ?_) ?_ (by kernel_rfl) (by kernel_rfl) (by kernel_rfl) ?_ ?_ ?_; rotate_left 2; (· simp only [List.getElem?_toArray, List.getElem?_cons_succ, List.getElem?_cons_zero]; try rfl); (· refine ⟨by kernel_rfl, ?_⟩; intro wq; go_simp; first | done | with_reducible rfl); (· exact fun _ _ _ h => h); try simp only [Act.put, List.setIfInBounds_toArray, List.set_cons_zero, List.set_cons_succ]))
 (refine wpAny_ready (rs := [6]) (by kernel_rfl) (by simp) (AllReady.cons (o := ?_) ?_ (fun K hK => ?_) AllReady.nil); rotate_left 1; (· simp only [List.getElem?_toArray, List.getElem?_cons_succ, List.getElem?_cons_zero]; try rfl))
 have hns := JM (l.drop (i + 1))
 have hcr : ((w.drew).setRow g (cur.toList.take (i * 3) ++ ((l.drop (i + 1)).map R3.cells).flatten ++ cur.toList.drop (i * 3 + ((l.drop (i + 1)).map R3.cells).flatten.length)).toArray).heap[g]? = some (.cells (cur.toList.take (i * 3) ++ ((l.drop (i + 1)).map R3.cells).flatten ++ cur.toList.drop (i * 3 + ((l.drop (i + 1)).map R3.cells).flatten.length)).toArray 186 (0, 0)) := setRow_heap _ g cur _ _ _ HC.out
 have hgr : w.grownBy ((w.drew).setRow g (cur.toList.take (i * 3) ++ ((l.drop (i + 1)).map R3.cells).flatten ++ cur.toList.drop (i * 3 + ((l.drop (i + 1)).map R3.cells).flatten.length)).toArray) (some g) := ⟨rfl, rfl, rfl, by simp, fun k _ hk => setRow_other w.drew g k _ (fun e => hk (by rw [e]))⟩
 have hsl : R3At ((w.drew).setRow g (cur.toList.take (i * 3) ++ ((l.drop (i + 1)).map R3.cells).flatten ++ cur.toList.drop (i * 3 + ((l.drop (i + 1)).map R3.cells).flatten.length)).toArray) (some ⟨g, 0, none⟩) (l.eraseIdx i) :=
  slAt_of_row (fun r hr => by obtain ⟨y, _, rfl⟩ := List.mem_map.1 hr; rfl) hcr (del_rows cur.toList l n i HL.out hi HT.out)
 have hap : ∀ ty, (Builtin.append_ #[107, 107] ty #[.slice (some ⟨g, 0, none⟩) i cap, .slice (if cap = i + 1 then some ⟨g, 0, none⟩ else some ⟨g, (i + 1) * 3, none⟩) (n - (i + 1)) (cap - (i + 1))]).run Tryz.prog w.drew = .ok (.slice (some ⟨g, 0, none⟩) (i + (n - (i + 1))) cap) ((w.drew).setRow g (cur.toList.take (i * 3) ++ ((l.drop (i + 1)).map R3.cells).flatten ++ cur.toList.drop (i * 3 + ((l.drop (i + 1)).map R3.cells).flatten.length)).toArray) := by
  intro ty
  obtain ⟨z, hi9, _⟩ := eltCu.info
  obtain ⟨inf, hinf, _, hz1, _⟩ := info_parts hi9
  have key : ∀ ad : Addr, (n = i + 1 ∨ ad = ⟨g, (i + 1) * 3, none⟩) → (Builtin.append_ #[107, 107] ty #[.slice (some ⟨g, 0, none⟩) i cap, .slice (some ad) (n - (i + 1)) (cap - (i + 1))]).run Tryz.prog w.drew = _ := fun ad had =>
   run_append_room (P := Tryz.prog) w.drew 107 ty 186 inf Tryz.underlying107 hinf g i cap cur HC.out ad (n - (i + 1)) (cap - (i + 1)) ((l.drop (i + 1)).map R3.cells).flatten (by rw [hns, hz1, List.length_drop, HL.out]) (fun j u hu => by
    rcases had with h | h
    ·rw [List.drop_eq_nil_of_le (by have := HL.out; omega)] at hu; cases hu
    ·subst h
     rw [← flat3_drop, ← HT.out, List.getElem?_drop, List.getElem?_take] at hu
     have hadd : (⟨g, (i + 1) * 3, none⟩ : Addr).add j = ⟨g, (i + 1) * 3 + j, none⟩ := by unfold Addr.add; split <;> simp_all
     rw [hadd, World.cell?, show (w.drew).heap[g]? = w.heap[g]? from rfl, HC.out]
     split at hu
     ·simpa using hu
     ·cases hu) (Z1 fun r hr u hu => by obtain ⟨y, _, rfl⟩ := List.mem_map.1 hr; exact eltCu.one y u hu) (by omega) (by rw [hns, hz1, HS.out, List.length_drop, HL.out]; omega)
  rw [hz1] at key
  by_cases hci : cap = i + 1
  ·rw [if_pos hci]; exact key _ (.inl (by omega))
  ·rw [if_neg hci]; exact key _ (.inr rfl)
 refine step_append_run rfl (.tmp 22) (.tmp 25) 107 rfl rfl rfl hap ?_
 generalize (w.drew).setRow g (cur.toList.take (i * 3) ++ ((l.drop (i + 1)).map R3.cells).flatten ++ cur.toList.drop (i * 3 + ((l.drop (i + 1)).map R3.cells).flatten.length)).toArray = W2 at *
 obtain ⟨m, hm⟩ : ∃ m, i + (n - (i + 1)) = m := ⟨_, rfl⟩
 rw [hm]
 have hm1 : (m : Int) ≤ (n : Int) := by omega
 have hm2 : m ≤ n := by omega
 have hm3 : ¬ cap = m := by omega
 have hm4 : n - m = 1 := by omega
 have hm5 : n - 1 = m := by omega
 have hm6 : (0 : Int) ≤ (m : Int) := by omega
 have hle : ((l.eraseIdx i).map R3.cells).length = m := by
  rw [List.length_map, List.length_eraseIdx]
  have := HL.out
  split <;> omega
 have hcs : ∀ j, j < 1 * 3 → (W2.cell? ⟨g, m * 3 + j, none⟩).isSome = true := fun j hj => by
  have h0 := congrArg List.length HT.out
  have hL := HL.out
  have hS := HS.out
  rw [JM, hL, List.length_take, Array.length_toList] at h0
  rw [World.cell?, hcr]
  simp only [Option.bind_some]
  have : m * 3 + j < (cur.toList.take (i * 3) ++ ((l.drop (i + 1)).map R3.cells).flatten ++ cur.toList.drop (i * 3 + ((l.drop (i + 1)).map R3.cells).flatten.length)).length := by
   simp only [List.length_append, List.length_take, List.length_drop, Array.length_toList, hns, hL]
   omega
  simpa using this
 have hcl : ∀ ty c, (Builtin.clear_ #[107] ty #[.slice (some ⟨g, m * 3, none⟩) 1 c]).run Tryz.prog W2 = .ok (.tuple #[]) (W2.setCells g (m * 3) (Builtin.zeroCells (Value.agg #[.int .i64 0, .int .i64 0, .int .i64 0]).cells 1).toList) :=
  fun ty c => run_clear_rows W2 _ _ ty _ 3 Tryz.underlying107 zeroCuJ rfl (by decide) (fun v hv => by simp [Value.cells] at hv; rcases hv with rfl | rfl <;> rfl) g (m * 3) 1 c (by omega) hcs (fun j _ => Qe hcr _)
 have hsl2 := slAt_setCells (o := m * 3) (vs := (Builtin.zeroCells (Value.agg #[.int .i64 0, .int .i64 0, .int .i64 0]).cells 1).toList) hsl (by rw [hle]; exact Nat.le_refl _)
 have hgr2 : w.grownBy (W2.setCells g (m * 3) (Builtin.zeroCells (Value.agg #[.int .i64 0, .int .i64 0, .int .i64 0]).cells 1).toList) (some g) :=
  ⟨(World.os_setCells _ _ _ _).trans hgr.os, (auTape_setCells _ _ _ _).trans hgr.tape, (World.output_setCells _ _ _ _).trans hgr.output, (by rw [QM]; exact hgr.size), fun k hk hne => (World.heap_setCells_other _ _ _ _ (Nat.lt_of_lt_of_le hk hgr.size) (fun e => hne (by rw [e]))).trans (hgr.block k hk hne)⟩
 refine hK _ _ ?_
 clear hK hap hns hcr hcs hsl hgr HC HS HT HW
 try simp only [Act.put, List.setIfInBounds_toArray, List.set_cons_zero, List.set_cons_succ]
 (refine wpAny_ready (rs := [7]) (by kernel_rfl) (by simp) (AllReady.cons (o := ?_) ?_ (fun K hK => ?_) AllReady.nil); rotate_left 1; (· simp only [List.getElem?_toArray, List.getElem?_cons_succ, List.getElem?_cons_zero]; try rfl))
 go_simp
 refine hK _ _ ?_
 clear hK K
 try simp only [Act.put, List.setIfInBounds_toArray, List.set_cons_zero, List.set_cons_succ]
 refine wpAny_done (by kernel_rfl) ?_ _
 go_wp2
 all_goals
  go_ret
  exact ⟨(by first | rfl | (rw [hm5]; rfl)), hgr2, hsl2⟩
theorem UA (c : R3) : ∀ (l : List R3), c ∈ l → ∃ i, i < l.length ∧ l.findIdx? (fun x => decide (x = c)) = some i ∧ l.erase c = l.eraseIdx i
 | [], h => by cases h
 | x :: l, h => by
  by_cases hx : x = c
  ·exact ⟨0, by simp, by simp [List.findIdx?_cons, hx], by simp [List.erase_cons, hx]⟩
  ·obtain ⟨i, h1, h2, h3⟩ := UA c l ((List.mem_cons.1 h).resolve_left (Ne.symm hx))
   exact ⟨i + 1, by simp; omega, by simp [List.findIdx?_cons, hx, h2], by simp [List.erase_cons, hx, h3]⟩
theorem SlAt.setAt {W : World} {g : Nat} {sz : Nat} {rows : List (List Value)} {b k : Nat} (h : SlAt W (some ⟨g, 0, none⟩) sz rows) (hne : g ≠ b) (v : Value) : SlAt (W.setCell ⟨b, k, none⟩ v) (some ⟨g, 0, none⟩) sz rows :=
 SlAt.setOther h (fun ad e _ => by cases e; exact hne) v
theorem SlAt.set7 {W : World} {g : Nat} {sz : Nat} {rows : List (List Value)} {b : Nat} (h : SlAt W (some ⟨g, 0, none⟩) sz rows) (hne : g ≠ b) (a0 a1 a2 a3 a4 a5 a6 : Value) : SlAt (set7 W b a0 a1 a2 a3 a4 a5 a6) (some ⟨g, 0, none⟩) sz rows :=
 ((((((h.setAt hne a0).setAt hne a1).setAt hne a2).setAt hne a3).setAt hne a4).setAt hne a5).setAt hne a6
theorem rOpen_any (f : Fo) (q : Fp) (c : R3) (w : World) (hf : FoFew f) (hq : FoAt w f q) :
  Calls Tryz.prog 166 #[.agg #[.int .i64 f.bars, .slice q.ra f.reps.length q.rc, .slice q.ea f.ends.length q.ec, .int .i64 f.jump.x, .int .i64 f.jump.y, .int .i64 f.jump.z, .slice q.ca f.cuts.length q.cc], .agg #[.int .i64 c.x, .int .i64 c.y, .int .i64 c.z]] w (RetFoN (Zj f c).1 (Zj f c).2 w) := by
 obtain ⟨x1, x2, x3, hb⟩ := box3 (w := w) (A := .cells #[.int .i64 f.bars, .slice q.ra f.reps.length q.rc, .slice q.ea f.ends.length q.ec, .int .i64 f.jump.x, .int .i64 f.jump.y, .int .i64 f.jump.z, .slice q.ca f.cuts.length q.cc] 109) (B := .cells #[.int .i64 c.x, .int .i64 c.y, .int .i64 c.z] 186) (C := .cells #[.int .i64 0, .slice none 0 0, .slice none 0 0, .int .i64 0, .int .i64 0, .int .i64 0, .slice none 0 0] 109) (Below.refl _ _)
 have HX1 := Qa x1; have HX2 := Qa x2; have HX3 := Qa x3; have HB := Qa hb
 have HV := Qa (fun V (hV : Below w.heap.size w V) => Z7 f q V hf (hq.below hV))
 have HN := Qa (fun V (hV : Below w.heap.size w V) => IndexCu_eq c q.ca q.cc f.cuts V (by have := hf.cuts; omega) (hq.cuts.below hV))
 have HP := Qa (fun V (hV : Below w.heap.size w V) => Jj f q V hf (hq.below hV))
 have HCl := Qa hf.cuts
 clear x1 x2 x3 hb hq hf
 go_enter Tryz.func166, Tryz.ntmps166
 go_upto_region 1 with (fail)
 generalize ((w.alloc (.cells #[.int .i64 f.bars, .slice q.ra f.reps.length q.rc, .slice q.ea f.ends.length q.ec, .int .i64 f.jump.x, .int .i64 f.jump.y, .int .i64 f.jump.z, .slice q.ca f.cuts.length q.cc] 109)).alloc (.cells #[.int .i64 c.x, .int .i64 c.y, .int .i64 c.z] 186)).alloc (.cells #[.int .i64 0, .slice none 0 0, .slice none 0 0, .int .i64 0, .int .i64 0, .int .i64 0, .slice none 0 0] 109) = W at *
 have hc1 := Qb HX1.out; have hc2 := Qb HX2.out; have hc3 := Qb HX3.out
 cases h1 : Qy f
 ·have HE := Qa (show Zj f c = (fo0, 1) by unfold Zj; rw [h1]; rfl)
  rw [h1] at HV
  clear h1
  go_upto_region 2 with ((go_at_call 89; refine (HV.out _ HB.out).mono ?_; rintro e w6 ⟨rfl, hb⟩; clear hc1 hc2 hc3; replace HX1 := bk HX1 hb; replace HX2 := bk HX2 hb; replace HX3 := bk HX3 hb; replace HB := bu HB hb; clear hb; have hc1 := Qb HX1.out; have hc2 := Qb HX2.out; have hc3 := Qb HX3.out))
  have hf3 := Qe HX3.out; have hz3 := Qd HX3.out; have hf1 := Qe HX1.out; have hz1 := Qd HX1.out
  go_wp2
  refine bodyPost_ret (Qi rfl _ _ (w.heap.size + 1 + 1) 109 _ (0, 0) _ rfl (QB HX3.out _ _ _ _ _ _ _) Tryz.underlying109 rfl (by kernel_rfl)) rfl ?_; rw [HE.out]; exact RetFoN.none (Qs HB.out (by omega) _ _ _ _ _ _ _)
 by_cases h3 : c ∈ f.cuts
 case neg =>
  have HE := Qa (show Zj f c = (fo0, 4) by unfold Zj; rw [h1, if_neg h3]; rfl)
  have hix : idxO (fun x => decide (x = c)) f.cuts = -1 := Q0 (fun j hj => decide_eq_false (fun e => h3 (e ▸ List.getElem_mem hj)))
  rw [h1] at HV; rw [hix] at HN
  clear h1 h3 hix
  go_upto_region 5 with (first | (go_at_call 89; refine (HV.out _ HB.out).mono ?_; rintro e w6 ⟨rfl, hb⟩; clear hc1 hc2 hc3; replace HX1 := bk HX1 hb; replace HX2 := bk HX2 hb; replace HX3 := bk HX3 hb; replace HB := bu HB hb; clear hb; have hc1 := Qb HX1.out; have hc2 := Qb HX2.out; have hc3 := Qb HX3.out) | (go_at_call 212; refine (HN.out _ HB.out).mono ?_; rintro e w8 ⟨rfl, hb⟩; clear hc1 hc2 hc3; replace HX1 := bk HX1 hb; replace HX2 := bk HX2 hb; replace HX3 := bk HX3 hb; replace HB := bu HB hb; clear hb; have hc1 := Qb HX1.out; have hc2 := Qb HX2.out; have hc3 := Qb HX3.out))
  have hf3 := Qe HX3.out; have hz3 := Qd HX3.out; have hf1 := Qe HX1.out; have hz1 := Qd HX1.out
  go_wp2
  refine bodyPost_ret (Qi rfl _ _ (w.heap.size + 1 + 1) 109 _ (0, 0) _ rfl (QB HX3.out _ _ _ _ _ _ _) Tryz.underlying109 rfl (by kernel_rfl)) rfl ?_; rw [HE.out]; exact RetFoN.none (Qs HB.out (by omega) _ _ _ _ _ _ _)
 have HE := Qa (show Zj f c = ({ f with cuts := f.cuts.erase c }, 0) by unfold Zj; rw [h1, if_pos h3]; rfl)
 obtain ⟨i, hi, hfi, her⟩ := UA c f.cuts h3
 have hix : idxO (fun x => decide (x = c)) f.cuts = (i : Int) := by unfold idxO; rw [hfi]
 rw [h1] at HV; rw [hix] at HN; rw [her] at HE
 have hi0 : ¬ (i : Int) < 0 := by omega
 have hcl := HCl.out
 have hwi : IntKind.i64.wrap ((i : Int) + 1) = (i : Int) + 1 := IntWalk.i64_in _ (by omega)
 clear h1 h3 hix hfi her
 go_upto_region 6 with (first | (go_at_call 89; refine (HV.out _ HB.out).mono ?_; rintro e w6 ⟨rfl, hb⟩; clear hc1 hc2 hc3; replace HX1 := bk HX1 hb; replace HX2 := bk HX2 hb; replace HX3 := bk HX3 hb; replace HB := bu HB hb; clear hb; have hc1 := Qb HX1.out; have hc2 := Qb HX2.out; have hc3 := Qb HX3.out) | (go_at_call 212; refine (HN.out _ HB.out).mono ?_; rintro e w8 ⟨rfl, hb⟩; clear hc1 hc2 hc3; replace HX1 := bk HX1 hb; replace HX2 := bk HX2 hb; replace HX3 := bk HX3 hb; replace HB := bu HB hb; clear hb; have hc1 := Qb HX1.out; have hc2 := Qb HX2.out; have hc3 := Qb HX3.out))
 have hf3 := Qe HX3.out; have hz3 := Qd HX3.out; have hf1 := Qe HX1.out; have hz1 := Qd HX1.out
 have hz8 := Qd HX3.out
 go_upto_region 7 with ((go_at_call 211; refine (HP.out _ HB.out).mono ?_; rintro e w9 ⟨q', rfl, ho1, ho2, ho3, hb⟩; have hs9 := hb.size; clear hc1 hc2 hc3; replace HX1 := bk HX1 hb; replace HX2 := bk HX2 hb; replace HX3 := bk HX3 hb; replace HB := bu HB hb; clear hb; have hc1 := Qb HX1.out; have hc2 := Qb HX2.out; have hc3 := Qb HX3.out); have hf3 := Qe HX3.out; have hz3 := Qd HX3.out; have hf1 := Qe HX1.out; have hz1 := Qd HX1.out)
 obtain ⟨g, cap, e3, hg3, hgz⟩ : ∃ g cap, Value.slice q'.ca f.cuts.length q'.cc = .slice (some ⟨g, 0, none⟩) (f.cuts.map R3.cells).length cap ∧ w8.heap.size ≤ g ∧ g < w9.heap.size := by
  obtain ⟨_, ⟨_, h0⟩ | ⟨g, cap, cur, e3, hg3, hgz, _⟩⟩ := ho3.own
  ·rw [List.length_map] at h0; omega
  ·exact ⟨g, cap, e3, hg3, Qd hgz⟩
 rw [List.length_map] at e3
 have HD := Qa (fun V h => DeleteCu_any w8.heap.size g cap f.cuts.length i f.cuts V hi hcl rfl h)
 have k1 : (((((((w9.setCell ⟨w.heap.size, 0, none⟩ (.int .i64 f.bars)).setCell ⟨w.heap.size, 1, none⟩ (.slice q'.ra f.reps.length q'.rc)).setCell ⟨w.heap.size, 2, none⟩ (.slice q'.ea f.ends.length q'.ec)).setCell ⟨w.heap.size, 3, none⟩ (.int .i64 f.jump.x)).setCell ⟨w.heap.size, 4, none⟩ (.int .i64 f.jump.y)).setCell ⟨w.heap.size, 5, none⟩ (.int .i64 f.jump.z)).setCell ⟨w.heap.size, 6, none⟩ (.slice q'.ca f.cuts.length q'.cc)).heap[w.heap.size]? = some (.cells #[.int .i64 f.bars, .slice q'.ra f.reps.length q'.rc, .slice q'.ea f.ends.length q'.ec, .int .i64 f.jump.x, .int .i64 f.jump.y, .int .i64 f.jump.z, .slice q'.ca f.cuts.length q'.cc] 109) := QB HX1.out _ _ _ _ _ _ _
 have k3 : (((((((w9.setCell ⟨w.heap.size, 0, none⟩ (.int .i64 f.bars)).setCell ⟨w.heap.size, 1, none⟩ (.slice q'.ra f.reps.length q'.rc)).setCell ⟨w.heap.size, 2, none⟩ (.slice q'.ea f.ends.length q'.ec)).setCell ⟨w.heap.size, 3, none⟩ (.int .i64 f.jump.x)).setCell ⟨w.heap.size, 4, none⟩ (.int .i64 f.jump.y)).setCell ⟨w.heap.size, 5, none⟩ (.int .i64 f.jump.z)).setCell ⟨w.heap.size, 6, none⟩ (.slice q'.ca f.cuts.length q'.cc)).heap[w.heap.size + 1 + 1]? = some (.cells #[.int .i64 0, .slice none 0 0, .slice none 0 0, .int .i64 0, .int .i64 0, .int .i64 0, .slice none 0 0] 109) := Yr HX3.out (by omega) _ _ _ _ _ _ _
 have o1 : OwnR (((((((w9.setCell ⟨w.heap.size, 0, none⟩ (.int .i64 f.bars)).setCell ⟨w.heap.size, 1, none⟩ (.slice q'.ra f.reps.length q'.rc)).setCell ⟨w.heap.size, 2, none⟩ (.slice q'.ea f.ends.length q'.ec)).setCell ⟨w.heap.size, 3, none⟩ (.int .i64 f.jump.x)).setCell ⟨w.heap.size, 4, none⟩ (.int .i64 f.jump.y)).setCell ⟨w.heap.size, 5, none⟩ (.int .i64 f.jump.z)).setCell ⟨w.heap.size, 6, none⟩ (.slice q'.ca f.cuts.length q'.cc)) w8.heap.size _ 3 _ _ := ho1.set7 (by omega) _ _ _ _ _ _ _
 have o2 : OwnR (((((((w9.setCell ⟨w.heap.size, 0, none⟩ (.int .i64 f.bars)).setCell ⟨w.heap.size, 1, none⟩ (.slice q'.ra f.reps.length q'.rc)).setCell ⟨w.heap.size, 2, none⟩ (.slice q'.ea f.ends.length q'.ec)).setCell ⟨w.heap.size, 3, none⟩ (.int .i64 f.jump.x)).setCell ⟨w.heap.size, 4, none⟩ (.int .i64 f.jump.y)).setCell ⟨w.heap.size, 5, none⟩ (.int .i64 f.jump.z)).setCell ⟨w.heap.size, 6, none⟩ (.slice q'.ca f.cuts.length q'.cc)) w8.heap.size _ 3 _ _ := ho2.set7 (by omega) _ _ _ _ _ _ _
 have o3 : OwnR (((((((w9.setCell ⟨w.heap.size, 0, none⟩ (.int .i64 f.bars)).setCell ⟨w.heap.size, 1, none⟩ (.slice q'.ra f.reps.length q'.rc)).setCell ⟨w.heap.size, 2, none⟩ (.slice q'.ea f.ends.length q'.ec)).setCell ⟨w.heap.size, 3, none⟩ (.int .i64 f.jump.x)).setCell ⟨w.heap.size, 4, none⟩ (.int .i64 f.jump.y)).setCell ⟨w.heap.size, 5, none⟩ (.int .i64 f.jump.z)).setCell ⟨w.heap.size, 6, none⟩ (.slice q'.ca f.cuts.length q'.cc)) w8.heap.size _ 3 _ _ := ho3.set7 (by omega) _ _ _ _ _ _ _
 have bb : Below w.heap.size w (((((((w9.setCell ⟨w.heap.size, 0, none⟩ (.int .i64 f.bars)).setCell ⟨w.heap.size, 1, none⟩ (.slice q'.ra f.reps.length q'.rc)).setCell ⟨w.heap.size, 2, none⟩ (.slice q'.ea f.ends.length q'.ec)).setCell ⟨w.heap.size, 3, none⟩ (.int .i64 f.jump.x)).setCell ⟨w.heap.size, 4, none⟩ (.int .i64 f.jump.y)).setCell ⟨w.heap.size, 5, none⟩ (.int .i64 f.jump.z)).setCell ⟨w.heap.size, 6, none⟩ (.slice q'.ca f.cuts.length q'.cc)) := Qs HB.out (Nat.le_refl _) _ _ _ _ _ _ _
 have hs9 : w8.heap.size ≤ (((((((w9.setCell ⟨w.heap.size, 0, none⟩ (.int .i64 f.bars)).setCell ⟨w.heap.size, 1, none⟩ (.slice q'.ra f.reps.length q'.rc)).setCell ⟨w.heap.size, 2, none⟩ (.slice q'.ea f.ends.length q'.ec)).setCell ⟨w.heap.size, 3, none⟩ (.int .i64 f.jump.x)).setCell ⟨w.heap.size, 4, none⟩ (.int .i64 f.jump.y)).setCell ⟨w.heap.size, 5, none⟩ (.int .i64 f.jump.z)).setCell ⟨w.heap.size, 6, none⟩ (.slice q'.ca f.cuts.length q'.cc)).heap.size := by simpa using hs9
 clear HX1 HX2 HX3 HB hc1 hc2 hc3 hf3 hz3 hf1 hz1 ho1 ho2 ho3 hgz
 generalize ((((((w9.setCell ⟨w.heap.size, 0, none⟩ (.int .i64 f.bars)).setCell ⟨w.heap.size, 1, none⟩ (.slice q'.ra f.reps.length q'.rc)).setCell ⟨w.heap.size, 2, none⟩ (.slice q'.ea f.ends.length q'.ec)).setCell ⟨w.heap.size, 3, none⟩ (.int .i64 f.jump.x)).setCell ⟨w.heap.size, 4, none⟩ (.int .i64 f.jump.y)).setCell ⟨w.heap.size, 5, none⟩ (.int .i64 f.jump.z)).setCell ⟨w.heap.size, 6, none⟩ (.slice q'.ca f.cuts.length q'.cc) = W5 at *
 rw [e3] at k1 o3
 have hc1 := Qb k1
 go_upto_region 8 with (go_at_call 213; refine (HD.out _ o3).mono ?_; rintro e w10 ⟨rfl, hg5, hs5⟩; have kc := KeptC.grown (Fr := fun _ T => T ≠ 186) hg5 (fun k e cs T fr hk hne => by
   obtain ⟨cur, hc⟩ := o3.isCells e
   rw [hk] at hc; cases hc; exact hne rfl); replace k1 := (hg5.block _ (by omega) (o3.neBlk (by omega))).trans k1; replace k3 := (hg5.block _ (by omega) (o3.neBlk (by omega))).trans k3; replace o1 := o1.keptC kc (fun _ _ => by decide); replace o2 := o2.keptC kc (fun _ _ => by decide); replace bb := bb.grown hg5 bb.size (fun k e => by have := (o3.lt k e).1; omega); clear hc1; have hc1 := Qb k1; have hf1 := Qe k1; have hz1 := Qd k1)
 have hge : g ≠ w.heap.size ∧ g ≠ w.heap.size + 1 + 1 := by omega
 have k1' := heap_setCell_same w10 _ 6 _ _ (.slice (some ⟨g, 0, none⟩) (f.cuts.length - 1) cap) k1
 have k3' := Qo (c := w.heap.size) (i := 6) k3 (by omega) (.slice (some ⟨g, 0, none⟩) (f.cuts.length - 1) cap)
 have o1' := o1.setAt (b := w.heap.size) (i := 6) (by omega) (.slice (some ⟨g, 0, none⟩) (f.cuts.length - 1) cap)
 have o2' := o2.setAt (b := w.heap.size) (i := 6) (by omega) (.slice (some ⟨g, 0, none⟩) (f.cuts.length - 1) cap)
 have s3' := SlAt.setAt (k := 6) hs5 hge.1 (.slice (some ⟨g, 0, none⟩) (f.cuts.length - 1) cap)
 have bb' := bb.setCell (p := ⟨w.heap.size, 6, none⟩) (Nat.le_refl _) (.slice (some ⟨g, 0, none⟩) (f.cuts.length - 1) cap)
 have hcap : f.cuts.length ≤ cap := by
  obtain ⟨_, _, e, h1, _⟩ := o3.slAt
  rw [List.length_map] at e h1
  cases e
  exact h1.le
 clear k1 k3 o1 o2 o3 bb hc1 hf1 hz1 kc hg5 hs5
 generalize w10.setCell ⟨w.heap.size, 6, none⟩ (.slice (some ⟨g, 0, none⟩) (f.cuts.length - 1) cap) = W6 at *
 have hc1 := Qb k1'; have hc3 := Qb k3'; have hf3 := Qe k3'; have hz3 := Qd k3'
 go_wp2
 refine bodyPost_ret (Qi rfl _ _ (w.heap.size + 1 + 1) 109 _ (0, 0) _ rfl (QB k3' _ _ _ _ _ _ _) Tryz.underlying109 rfl (by kernel_rfl)) rfl ?_
 rw [HE.out]
 have p1 := (o1'.set7 (b := w.heap.size + 1 + 1) (by omega) (.int .i64 f.bars) (.slice q'.ra f.reps.length q'.rc) (.slice q'.ea f.ends.length q'.ec) (.int .i64 f.jump.x) (.int .i64 f.jump.y) (.int .i64 f.jump.z) (.slice (some ⟨g, 0, none⟩) (f.cuts.length - 1) cap)).r3
 have p2 := (o2'.set7 (b := w.heap.size + 1 + 1) (by omega) (.int .i64 f.bars) (.slice q'.ra f.reps.length q'.rc) (.slice q'.ea f.ends.length q'.ec) (.int .i64 f.jump.x) (.int .i64 f.jump.y) (.int .i64 f.jump.z) (.slice (some ⟨g, 0, none⟩) (f.cuts.length - 1) cap)).r3
 have p3 := s3'.set7 hge.2 (.int .i64 f.bars) (.slice q'.ra f.reps.length q'.rc) (.slice q'.ea f.ends.length q'.ec) (.int .i64 f.jump.x) (.int .i64 f.jump.y) (.int .i64 f.jump.z) (.slice (some ⟨g, 0, none⟩) (f.cuts.length - 1) cap)
 have hel : (f.cuts.eraseIdx i).length = f.cuts.length - 1 := by rw [List.length_eraseIdx, if_pos hi]
 exact ⟨⟨q'.ra, q'.rc, q'.ea, q'.ec, some ⟨g, 0, none⟩, cap⟩, by simp [hel], ⟨p1.2, p2.2, p3, p1.1, p2.1, ⟨by show (f.cuts.eraseIdx i).length ≤ cap; omega, fun e => (by cases e), fun ad e _ => by cases e; rfl⟩⟩, Qs bb' (by omega) _ _ _ _ _ _ _, ⟨o1'.newB (by omega), o2'.newB (by omega), fun ad e => (by cases e; show w.heap.size ≤ g; omega)⟩⟩
theorem mem_modify' {α : Type} (g : α → α) : ∀ (l : List α) (k : Nat) (r : α), r ∈ l.modify k g → r ∈ l ∨ ∃ s ∈ l, r = g s
 | [], k, r, h => by cases k <;> simp at h
 | x :: l, 0, r, h => by
  simp at h
  rcases h with rfl | h
  ·exact .inr ⟨x, by simp, rfl⟩
  ·exact .inl (by simp [h])
 | x :: l, k + 1, r, h => by
  simp at h
  rcases h with rfl | h
  ·exact .inl (by simp)
  ·rcases mem_modify' g l k r h with h | ⟨s, h1, h2⟩
   ·exact .inl (by simp [h])
   ·exact .inr ⟨s, by simp [h1], h2⟩
theorem any_modify {α : Type} (g : α → α) (p : α → Bool) (hp : ∀ x, p (g x) = p x) : ∀ (l : List α) (k : Nat), (l.modify k g).any p = l.any p
 | [], k => by cases k <;> simp
 | x :: l, 0 => by simp [hp]
 | x :: l, k + 1 => by simp [any_modify g p hp l k]
theorem timesF_ok {f : Fo} {k : Nat} {t : Int} (ht : 1 ≤ t ∧ t ≤ 9) (hr : ∀ r ∈ f.reps, 0 ≤ r.x ∧ r.x < r.y ∧ r.y ≤ f.bars ∧ 1 ≤ r.z ∧ r.z ≤ 9) (hj : Q5 f = true) :
  (∀ r ∈ (QC f k t).reps, 0 ≤ r.x ∧ r.x < r.y ∧ r.y ≤ (QC f k t).bars ∧ 1 ≤ r.z ∧ r.z ≤ 9) ∧ Q5 (QC f k t) = true := by
 constructor
 ·intro r h
  rcases mem_modify' _ _ _ _ h with h | ⟨s, h1, rfl⟩
  ·exact hr r h
  ·have := hr s h1
   exact ⟨this.1, this.2.1, this.2.2.1, ht.1, ht.2⟩
 ·have e : ∀ b, QO (QC f k t).reps b = QO f.reps b := fun b => any_modify (fun r : R3 => { r with z := t }) (fun r => decide (r.x < b) && decide (b < r.y)) (fun _ => rfl) _ _
  have h : Q5 (QC f k t) = Q5 f := by
   unfold Q5
   rw [e, e, e]
   rfl
  rw [h, hj]
theorem JN {f : Fo} (hf : FoFew f) (k : Nat) (t : Int) : FoFew (QC f k t) := ⟨hf.bars, by simp only [QC, List.length_modify]; exact hf.reps, hf.ends, hf.cuts⟩
theorem times_at {w : World} {g : Nat} {l : List R3} (h : R3At w (some ⟨g, 0, none⟩) l) (k : Nat) (hk : k < l.length) (t : Int) : R3At (w.setCell ⟨g, k * 3 + 2, none⟩ (.int .i64 t)) (some ⟨g, 0, none⟩) (l.modify k fun r => { r with z := t }) := fun i r hr => by
 rw [List.getElem?_map, List.getElem?_modify] at hr
 have hi : i < l.length := by
  rcases Nat.lt_or_ge i l.length with h | h
  ·exact h
  ·rw [List.getElem?_eq_none h] at hr; simp at hr
 rw [List.getElem?_eq_getElem hi] at hr
 obtain ⟨b, off, e, h1, h2, h3⟩ := h i (l[i].cells) (by rw [List.getElem?_map, List.getElem?_eq_getElem hi]; rfl)
 cases e
 refine ⟨g, 0, rfl, by simpa using h1, ?_, fun j u hu => ?_⟩
 ·by_cases e : k = i
  ·simp [e] at hr; subst hr; rfl
  ·simp [e] at hr; subst hr; rfl
 ·by_cases e : k = i
  ·subst e
   simp at hr
   subst hr
   by_cases hj : j = 2
   ·subst hj
    simp [R3.cells] at hu
    subst hu
    have hs := h3 2 _ rfl
    rw [show 0 + k * 3 + 2 = k * 3 + 2 by omega] at hs ⊢
    exact World.cell?_setCell_same _ _ _ hs
   ·rw [World.cell?_setCell_other _ _ _ _ (fun e => by injection e with _ e; omega)]
    refine h3 j u ?_
    have hj3 : j < 3 := (List.getElem?_eq_some_iff.1 hu).1
    rcases j with _ | _ | _ | j
    ·exact hu
    ·exact hu
    ·omega
    ·omega
  ·simp [e] at hr
   subst hr
   have hj3 : j < 3 := (List.getElem?_eq_some_iff.1 hu).1
   rw [World.cell?_setCell_other _ _ _ _ (fun e => by injection e with _ e; omega)]
   exact h3 j u hu
theorem Jq {f : Fo} {k t : Int} (h1 : Qy f = true) (h2 : ¬ (k < 0 ∨ (f.reps.length : Int) ≤ k)) (h3 : t < 1 ∨ 9 < t) : QW f k t = (fo0, 1) := by
 unfold QW; rw [h1, if_neg (show ¬ ((!true) = true) by decide), if_neg h2, if_pos h3]
theorem Jp {f : Fo} {k t : Int} (h1 : Qy f = true) (h2 : k < 0 ∨ (f.reps.length : Int) ≤ k) : QW f k t = (fo0, 4) := by
 unfold QW; rw [h1, if_neg (show ¬ ((!true) = true) by decide), if_pos h2]
theorem timesR_0 {f : Fo} {k : Nat} {t : Int} (h1 : Qy f = true) (h2 : ¬ ((k : Int) < 0 ∨ (f.reps.length : Int) ≤ (k : Int))) (h3 : ¬ (t < 1 ∨ 9 < t)) (hs : Z5 (QC f k t) = true) : QW f (k : Int) t = (QC f k t, 0) := by
 unfold QW; rw [h1, if_neg (show ¬ ((!true) = true) by decide), if_neg h2, if_neg h3, Int.toNat_natCast]
 exact if_pos hs
theorem timesF_short {f : Fo} (hf : FoFew f) {k : Nat} {t : Int} (hr : ∀ r ∈ (QC f k t).reps, 0 ≤ r.x ∧ r.x < r.y ∧ r.y ≤ (QC f k t).bars ∧ 1 ≤ r.z ∧ r.z ≤ 9) (hj : Q5 (QC f k t) = true) : Z5 (QC f k t) = true := by
 have h := Zz (f := QC f k t) hf.bars hr hj
 unfold Z5
 exact decide_eq_true h
theorem rShortT_any (f : Fo) (q' : Fp) (V : World) (kk : Nat) (t : Int) (hf : FoFew f) (hb0 : 0 ≤ f.bars) (hr : ∀ r ∈ (QC f kk t).reps, 0 ≤ r.x ∧ r.x < r.y ∧ r.y ≤ (QC f kk t).bars ∧ 1 ≤ r.z ∧ r.z ≤ 9) (hj : Q5 (QC f kk t) = true) (hm : R3At V q'.ra (QC f kk t).reps) (hm2 : R3At V q'.ea f.ends) :
  Calls Tryz.prog 132 #[.agg #[.int .i64 f.bars, .slice q'.ra f.reps.length q'.rc, .slice q'.ea f.ends.length q'.ec, .int .i64 f.jump.x, .int .i64 f.jump.y, .int .i64 f.jump.z, .slice q'.ca f.cuts.length q'.cc]] V fun e w' => e = .returned (.bool true) ∧ Below V.heap.size V w' := by
 have h := rShort_any (QC f kk t) q' V (JN hf _ _) hb0 hr hj hm hm2
 have hl : (QC f kk t).reps.length = f.reps.length := by unfold QC; exact List.length_modify _ _ _
 rw [hl] at h
 exact h
theorem rTimes_any (f : Fo) (q : Fp) (k t : Int) (w : World) (hf : FoFew f) (hq : FoAt w f q) :
  Calls Tryz.prog 168 #[.agg #[.int .i64 f.bars, .slice q.ra f.reps.length q.rc, .slice q.ea f.ends.length q.ec, .int .i64 f.jump.x, .int .i64 f.jump.y, .int .i64 f.jump.z, .slice q.ca f.cuts.length q.cc], .int .i64 k, .int .i64 t] w (RetFoN (QW f k t).1 (QW f k t).2 w) := by
 obtain ⟨x1, x3, hb⟩ := box2 (w := w) (A := .cells #[.int .i64 f.bars, .slice q.ra f.reps.length q.rc, .slice q.ea f.ends.length q.ec, .int .i64 f.jump.x, .int .i64 f.jump.y, .int .i64 f.jump.z, .slice q.ca f.cuts.length q.cc] 109) (B := .cells #[.int .i64 0, .slice none 0 0, .slice none 0 0, .int .i64 0, .int .i64 0, .int .i64 0, .slice none 0 0] 109) (Below.refl _ _)
 have HX1 := Qa x1; have HX3 := Qa x3; have HB := Qa hb
 have HV := Qa (fun V (hV : Below w.heap.size w V) => Z7 f q V hf (hq.below hV))
 have HP := Qa (fun V (hV : Below w.heap.size w V) => Jj f q V hf (hq.below hV))
 have HF := Qa hf
 clear x1 x3 hb hq hf
 go_enter Tryz.func168, Tryz.ntmps168
 go_upto_region 1 with (fail)
 generalize (w.alloc (.cells #[.int .i64 f.bars, .slice q.ra f.reps.length q.rc, .slice q.ea f.ends.length q.ec, .int .i64 f.jump.x, .int .i64 f.jump.y, .int .i64 f.jump.z, .slice q.ca f.cuts.length q.cc] 109)).alloc (.cells #[.int .i64 0, .slice none 0 0, .slice none 0 0, .int .i64 0, .int .i64 0, .int .i64 0, .slice none 0 0] 109) = W at *
 have hc1 := Qb HX1.out; have hc3 := Qb HX3.out
 cases h1 : Qy f
 ·have HE := Qa (show QW f k t = (fo0, 1) by unfold QW; rw [h1]; rfl)
  rw [h1] at HV
  clear h1
  go_upto_region 2 with ((go_at_call 89; refine (HV.out _ HB.out).mono ?_; rintro e w6 ⟨rfl, hb⟩; clear hc1 hc3; replace HX1 := bk HX1 hb; replace HX3 := bk HX3 hb; replace HB := bu HB hb; clear hb; have hc1 := Qb HX1.out; have hc3 := Qb HX3.out))
  have hf3 := Qe HX3.out; have hz3 := Qd HX3.out; have hf1 := Qe HX1.out; have hz1 := Qd HX1.out
  go_wp2
  refine bodyPost_ret (Qi rfl _ _ (w.heap.size + 1) 109 _ (0, 0) _ rfl (QB HX3.out _ _ _ _ _ _ _) Tryz.underlying109 rfl (by kernel_rfl)) rfl ?_; rw [HE.out]; exact RetFoN.none (Qs HB.out (by omega) _ _ _ _ _ _ _)
 by_cases h2 : k < 0
 ·have HE := Qa (Jp (t := t) h1 (.inl h2))
  rw [h1] at HV
  clear h1
  go_upto_region 4 with ((go_at_call 89; refine (HV.out _ HB.out).mono ?_; rintro e w6 ⟨rfl, hb⟩; clear hc1 hc3; replace HX1 := bk HX1 hb; replace HX3 := bk HX3 hb; replace HB := bu HB hb; clear hb; have hc1 := Qb HX1.out; have hc3 := Qb HX3.out))
  have hf3 := Qe HX3.out; have hz3 := Qd HX3.out; have hf1 := Qe HX1.out; have hz1 := Qd HX1.out
  go_wp2
  refine bodyPost_ret (Qi rfl _ _ (w.heap.size + 1) 109 _ (0, 0) _ rfl (QB HX3.out _ _ _ _ _ _ _) Tryz.underlying109 rfl (by kernel_rfl)) rfl ?_; rw [HE.out]; exact RetFoN.none (Qs HB.out (by omega) _ _ _ _ _ _ _)
 by_cases h3 : (f.reps.length : Int) ≤ k
 ·have HE := Qa (Jp (t := t) h1 (.inr h3))
  rw [h1] at HV
  clear h1
  go_upto_region 4 with ((go_at_call 89; refine (HV.out _ HB.out).mono ?_; rintro e w6 ⟨rfl, hb⟩; clear hc1 hc3; replace HX1 := bk HX1 hb; replace HX3 := bk HX3 hb; replace HB := bu HB hb; clear hb; have hc1 := Qb HX1.out; have hc3 := Qb HX3.out))
  have hf3 := Qe HX3.out; have hz3 := Qd HX3.out; have hf1 := Qe HX1.out; have hz1 := Qd HX1.out
  go_wp2
  refine bodyPost_ret (Qi rfl _ _ (w.heap.size + 1) 109 _ (0, 0) _ rfl (QB HX3.out _ _ _ _ _ _ _) Tryz.underlying109 rfl (by kernel_rfl)) rfl ?_; rw [HE.out]; exact RetFoN.none (Qs HB.out (by omega) _ _ _ _ _ _ _)
 by_cases h4 : t < 1
 ·have HE := Qa (Jq h1 (show ¬ (k < 0 ∨ (f.reps.length : Int) ≤ k) by omega) (.inl h4))
  rw [h1] at HV
  clear h1
  go_upto_region 6 with ((go_at_call 89; refine (HV.out _ HB.out).mono ?_; rintro e w6 ⟨rfl, hb⟩; clear hc1 hc3; replace HX1 := bk HX1 hb; replace HX3 := bk HX3 hb; replace HB := bu HB hb; clear hb; have hc1 := Qb HX1.out; have hc3 := Qb HX3.out))
  have hf3 := Qe HX3.out; have hz3 := Qd HX3.out; have hf1 := Qe HX1.out; have hz1 := Qd HX1.out
  go_wp2
  refine bodyPost_ret (Qi rfl _ _ (w.heap.size + 1) 109 _ (0, 0) _ rfl (QB HX3.out _ _ _ _ _ _ _) Tryz.underlying109 rfl (by kernel_rfl)) rfl ?_; rw [HE.out]; exact RetFoN.none (Qs HB.out (by omega) _ _ _ _ _ _ _)
 by_cases h5 : 9 < t
 ·have HE := Qa (Jq h1 (show ¬ (k < 0 ∨ (f.reps.length : Int) ≤ k) by omega) (.inr h5))
  rw [h1] at HV
  clear h1
  go_upto_region 6 with ((go_at_call 89; refine (HV.out _ HB.out).mono ?_; rintro e w6 ⟨rfl, hb⟩; clear hc1 hc3; replace HX1 := bk HX1 hb; replace HX3 := bk HX3 hb; replace HB := bu HB hb; clear hb; have hc1 := Qb HX1.out; have hc3 := Qb HX3.out))
  have hf3 := Qe HX3.out; have hz3 := Qd HX3.out; have hf1 := Qe HX1.out; have hz1 := Qd HX1.out
  go_wp2
  refine bodyPost_ret (Qi rfl _ _ (w.heap.size + 1) 109 _ (0, 0) _ rfl (QB HX3.out _ _ _ _ _ _ _) Tryz.underlying109 rfl (by kernel_rfl)) rfl ?_; rw [HE.out]; exact RetFoN.none (Qs HB.out (by omega) _ _ _ _ _ _ _)
 obtain ⟨kk, rfl⟩ : ∃ kk : Nat, k = kk := ⟨k.toNat, by omega⟩
 have hv' := h1
 unfold Qy at hv'
 simp only [Bool.and_eq_true, decide_eq_true_eq] at hv'
 obtain ⟨⟨⟨⟨⟨⟨hv1, hv2⟩, hv3⟩, hv4⟩, hv5⟩, hv6⟩, hv7⟩ := hv'
 obtain ⟨hr2, hj2⟩ := timesF_ok (k := kk) (t := t) ⟨by omega, by omega⟩ (ZN hv3) hv5
 have hsh := timesF_short HF.out hr2 hj2
 have HE := Qa (timesR_0 h1 (show ¬ ((kk : Int) < 0 ∨ (f.reps.length : Int) ≤ (kk : Int)) by omega) (show ¬ (t < 1 ∨ 9 < t) by omega) hsh)
 have hki : kk < f.reps.length := by omega
 have HSs := Qa (fun (q' : Fp) (V : World) => rShortT_any f q' V kk t HF.out (by omega) hr2 hj2)
 rw [h1] at HV
 clear h1 hv1 hv2 hv3 hv4 hv5 hv6 hv7 hr2 hj2 hsh
 go_upto_region 7 with ((go_at_call 89; refine (HV.out _ HB.out).mono ?_; rintro e w6 ⟨rfl, hb⟩; clear hc1 hc3; replace HX1 := bk HX1 hb; replace HX3 := bk HX3 hb; replace HB := bu HB hb; clear hb; have hc1 := Qb HX1.out; have hc3 := Qb HX3.out))
 have hf3 := Qe HX3.out; have hz3 := Qd HX3.out; have hf1 := Qe HX1.out; have hz1 := Qd HX1.out
 have hz8 := Qd HX3.out
 go_upto_region 8 with ((go_at_call 211; refine (HP.out _ HB.out).mono ?_; rintro e w9 ⟨q', rfl, ho1, ho2, ho3, hb⟩; have hs9 := hb.size; clear hc1 hc3; replace HX1 := bk HX1 hb; replace HX3 := bk HX3 hb; replace HB := bu HB hb; clear hb; have hc1 := Qb HX1.out; have hc3 := Qb HX3.out); have hf3 := Qe HX3.out; have hz3 := Qd HX3.out; have hf1 := Qe HX1.out; have hz1 := Qd HX1.out)
 obtain ⟨g, cap, cur, e3, hg3, hgz⟩ : ∃ g cap cur, Value.slice q'.ra f.reps.length q'.rc = .slice (some ⟨g, 0, none⟩) (f.reps.map R3.cells).length cap ∧ w6.heap.size ≤ g ∧ w9.heap[g]? = some (.cells cur 254 (0, 0)) := by
  obtain ⟨_, ⟨_, h0⟩ | ⟨g, cap, cur, e3, hg3, hgz, _⟩⟩ := ho1.own
  ·rw [List.length_map] at h0; omega
  ·exact ⟨g, cap, cur, e3, hg3, hgz⟩
 rw [List.length_map] at e3
 have k1 : (((((((w9.setCell ⟨w.heap.size, 0, none⟩ (.int .i64 f.bars)).setCell ⟨w.heap.size, 1, none⟩ (.slice q'.ra f.reps.length q'.rc)).setCell ⟨w.heap.size, 2, none⟩ (.slice q'.ea f.ends.length q'.ec)).setCell ⟨w.heap.size, 3, none⟩ (.int .i64 f.jump.x)).setCell ⟨w.heap.size, 4, none⟩ (.int .i64 f.jump.y)).setCell ⟨w.heap.size, 5, none⟩ (.int .i64 f.jump.z)).setCell ⟨w.heap.size, 6, none⟩ (.slice q'.ca f.cuts.length q'.cc)).heap[w.heap.size]? = some (.cells #[.int .i64 f.bars, .slice q'.ra f.reps.length q'.rc, .slice q'.ea f.ends.length q'.ec, .int .i64 f.jump.x, .int .i64 f.jump.y, .int .i64 f.jump.z, .slice q'.ca f.cuts.length q'.cc] 109) := QB HX1.out _ _ _ _ _ _ _
 have k3 : (((((((w9.setCell ⟨w.heap.size, 0, none⟩ (.int .i64 f.bars)).setCell ⟨w.heap.size, 1, none⟩ (.slice q'.ra f.reps.length q'.rc)).setCell ⟨w.heap.size, 2, none⟩ (.slice q'.ea f.ends.length q'.ec)).setCell ⟨w.heap.size, 3, none⟩ (.int .i64 f.jump.x)).setCell ⟨w.heap.size, 4, none⟩ (.int .i64 f.jump.y)).setCell ⟨w.heap.size, 5, none⟩ (.int .i64 f.jump.z)).setCell ⟨w.heap.size, 6, none⟩ (.slice q'.ca f.cuts.length q'.cc)).heap[w.heap.size + 1]? = some (.cells #[.int .i64 0, .slice none 0 0, .slice none 0 0, .int .i64 0, .int .i64 0, .int .i64 0, .slice none 0 0] 109) := Yr HX3.out (by omega) _ _ _ _ _ _ _
 have kg : (((((((w9.setCell ⟨w.heap.size, 0, none⟩ (.int .i64 f.bars)).setCell ⟨w.heap.size, 1, none⟩ (.slice q'.ra f.reps.length q'.rc)).setCell ⟨w.heap.size, 2, none⟩ (.slice q'.ea f.ends.length q'.ec)).setCell ⟨w.heap.size, 3, none⟩ (.int .i64 f.jump.x)).setCell ⟨w.heap.size, 4, none⟩ (.int .i64 f.jump.y)).setCell ⟨w.heap.size, 5, none⟩ (.int .i64 f.jump.z)).setCell ⟨w.heap.size, 6, none⟩ (.slice q'.ca f.cuts.length q'.cc)).heap[g]? = some (.cells cur 254 (0, 0)) := Yr hgz (by omega) _ _ _ _ _ _ _
 have o1 : OwnR (((((((w9.setCell ⟨w.heap.size, 0, none⟩ (.int .i64 f.bars)).setCell ⟨w.heap.size, 1, none⟩ (.slice q'.ra f.reps.length q'.rc)).setCell ⟨w.heap.size, 2, none⟩ (.slice q'.ea f.ends.length q'.ec)).setCell ⟨w.heap.size, 3, none⟩ (.int .i64 f.jump.x)).setCell ⟨w.heap.size, 4, none⟩ (.int .i64 f.jump.y)).setCell ⟨w.heap.size, 5, none⟩ (.int .i64 f.jump.z)).setCell ⟨w.heap.size, 6, none⟩ (.slice q'.ca f.cuts.length q'.cc)) w6.heap.size _ 3 _ _ := ho1.set7 (by omega) _ _ _ _ _ _ _
 have o2 : OwnR (((((((w9.setCell ⟨w.heap.size, 0, none⟩ (.int .i64 f.bars)).setCell ⟨w.heap.size, 1, none⟩ (.slice q'.ra f.reps.length q'.rc)).setCell ⟨w.heap.size, 2, none⟩ (.slice q'.ea f.ends.length q'.ec)).setCell ⟨w.heap.size, 3, none⟩ (.int .i64 f.jump.x)).setCell ⟨w.heap.size, 4, none⟩ (.int .i64 f.jump.y)).setCell ⟨w.heap.size, 5, none⟩ (.int .i64 f.jump.z)).setCell ⟨w.heap.size, 6, none⟩ (.slice q'.ca f.cuts.length q'.cc)) w6.heap.size _ 3 _ _ := ho2.set7 (by omega) _ _ _ _ _ _ _
 have o3 : OwnR (((((((w9.setCell ⟨w.heap.size, 0, none⟩ (.int .i64 f.bars)).setCell ⟨w.heap.size, 1, none⟩ (.slice q'.ra f.reps.length q'.rc)).setCell ⟨w.heap.size, 2, none⟩ (.slice q'.ea f.ends.length q'.ec)).setCell ⟨w.heap.size, 3, none⟩ (.int .i64 f.jump.x)).setCell ⟨w.heap.size, 4, none⟩ (.int .i64 f.jump.y)).setCell ⟨w.heap.size, 5, none⟩ (.int .i64 f.jump.z)).setCell ⟨w.heap.size, 6, none⟩ (.slice q'.ca f.cuts.length q'.cc)) w6.heap.size _ 3 _ _ := ho3.set7 (by omega) _ _ _ _ _ _ _
 have bb : Below w.heap.size w (((((((w9.setCell ⟨w.heap.size, 0, none⟩ (.int .i64 f.bars)).setCell ⟨w.heap.size, 1, none⟩ (.slice q'.ra f.reps.length q'.rc)).setCell ⟨w.heap.size, 2, none⟩ (.slice q'.ea f.ends.length q'.ec)).setCell ⟨w.heap.size, 3, none⟩ (.int .i64 f.jump.x)).setCell ⟨w.heap.size, 4, none⟩ (.int .i64 f.jump.y)).setCell ⟨w.heap.size, 5, none⟩ (.int .i64 f.jump.z)).setCell ⟨w.heap.size, 6, none⟩ (.slice q'.ca f.cuts.length q'.cc)) := Qs HB.out (Nat.le_refl _) _ _ _ _ _ _ _
 clear HX1 HX3 HB hc1 hc3 hf3 hz3 hf1 hz1 ho1 ho2 ho3 hgz
 generalize ((((((w9.setCell ⟨w.heap.size, 0, none⟩ (.int .i64 f.bars)).setCell ⟨w.heap.size, 1, none⟩ (.slice q'.ra f.reps.length q'.rc)).setCell ⟨w.heap.size, 2, none⟩ (.slice q'.ea f.ends.length q'.ec)).setCell ⟨w.heap.size, 3, none⟩ (.int .i64 f.jump.x)).setCell ⟨w.heap.size, 4, none⟩ (.int .i64 f.jump.y)).setCell ⟨w.heap.size, 5, none⟩ (.int .i64 f.jump.z)).setCell ⟨w.heap.size, 6, none⟩ (.slice q'.ca f.cuts.length q'.cc) = W5 at *
 rw [e3] at k1 o1
 have r1 := o1.r3
 obtain ⟨b0, off, e0, _, _, _, d2⟩ := r1.2.get kk hki
 cases e0
 rw [Nat.zero_add] at d2
 generalize f.reps[kk].z = zz at d2
 have R1 := Qa r1
 clear r1 h2 h3
 have hc1 := Qb k1; have hfg := Qe kg
 have hk0 : (0 : Int) ≤ (kk : Int) := by omega
 have hk1 : (kk : Int) < (f.reps.length : Int) := by omega
 go_upto_region 9 with (fail)
 have k1' := Qo (c := g) (i := kk * 3 + 2) k1 (by omega) (.int .i64 t)
 have k3' := Qo (c := g) (i := kk * 3 + 2) k3 (by omega) (.int .i64 t)
 have kc : KeptC (fun _ T => T ≠ 254) W5 (W5.setCell ⟨g, kk * 3 + 2, none⟩ (.int .i64 t)) := ⟨by simp, fun k cs T fr hT hk => Qo hk (by rintro rfl; rw [kg] at hk; cases hk; exact hT rfl) _⟩
 have o2' := o2.keptC kc (fun _ _ => by decide)
 have o3' := o3.keptC kc (fun _ _ => by decide)
 have r' : R3At (W5.setCell ⟨g, kk * 3 + 2, none⟩ (.int .i64 t)) (some ⟨g, 0, none⟩) (QC f kk t).reps := times_at R1.out.2 kk hki t
 have bb' := bb.setCell (p := ⟨g, kk * 3 + 2, none⟩) (show w.heap.size ≤ g by omega) (.int .i64 t)
 clear k1 k3 kg o1 o2 o3 bb hc1 hfg kc d2
 generalize W5.setCell ⟨g, kk * 3 + 2, none⟩ (.int .i64 t) = W6 at *
 have hc1 := Qb k1'
 have HSh := Qa (HSs.out ⟨some ⟨g, 0, none⟩, cap, q'.ea, q'.ec, q'.ca, q'.cc⟩ W6 r' o2'.r3.2)
 go_upto_region 11 with (go_at_call 132; refine HSh.out.mono ?_; rintro e w11 ⟨rfl, hb⟩; clear hc1; replace k1' := Qc k1' hb; replace k3' := Qc k3' hb; replace o2' := o2'.below hb; replace o3' := o3'.below hb; replace r' := r'.below hb; replace bb' := bb'.trans (hb.mono bb'.size); clear hb; have hc1 := Qb k1')
 have hc3 := Qb k3'; have hf3 := Qe k3'; have hz3 := Qd k3'
 go_wp2
 refine bodyPost_ret (Qi rfl _ _ (w.heap.size + 1) 109 _ (0, 0) _ rfl (QB k3' _ _ _ _ _ _ _) Tryz.underlying109 rfl (by kernel_rfl)) rfl ?_
 rw [HE.out]
 have p1 := SlAt.set7 (b := w.heap.size + 1) r' (by omega) (.int .i64 f.bars) (.slice (some ⟨g, 0, none⟩) f.reps.length cap) (.slice q'.ea f.ends.length q'.ec) (.int .i64 f.jump.x) (.int .i64 f.jump.y) (.int .i64 f.jump.z) (.slice q'.ca f.cuts.length q'.cc)
 have p2 := (o2'.set7 (b := w.heap.size + 1) (by omega) (.int .i64 f.bars) (.slice (some ⟨g, 0, none⟩) f.reps.length cap) (.slice q'.ea f.ends.length q'.ec) (.int .i64 f.jump.x) (.int .i64 f.jump.y) (.int .i64 f.jump.z) (.slice q'.ca f.cuts.length q'.cc)).r3
 have p3 := (o3'.set7 (b := w.heap.size + 1) (by omega) (.int .i64 f.bars) (.slice (some ⟨g, 0, none⟩) f.reps.length cap) (.slice q'.ea f.ends.length q'.ec) (.int .i64 f.jump.x) (.int .i64 f.jump.y) (.int .i64 f.jump.z) (.slice q'.ca f.cuts.length q'.cc)).r3
 have hl : (QC f kk t).reps.length = f.reps.length := by unfold QC; exact List.length_modify _ _ _
 exact ⟨⟨some ⟨g, 0, none⟩, cap, q'.ea, q'.ec, q'.ca, q'.cc⟩, by rw [hl]; rfl, ⟨p1, p2.2, p3.2, by rw [hl]; exact R1.out.1, p2.1, p3.1⟩, Qs bb' (by omega) _ _ _ _ _ _ _, ⟨fun ad e => (by cases e; show w.heap.size ≤ g; omega), o2'.newB (by omega), o3'.newB (by omega)⟩⟩
end Go.Proofs.YtajijcfikihhjaaGreatDoor
