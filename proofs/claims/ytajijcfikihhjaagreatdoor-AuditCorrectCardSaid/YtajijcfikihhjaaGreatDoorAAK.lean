import Derived.Test.YtajijcfikihhjaaGreatDoorAAJ
set_option linter.unusedSimpArgs false
set_option linter.unusedVariables false
set_option maxRecDepth 100000
set_option maxHeartbeats 16000000
namespace Go.Proofs.YtajijcfikihhjaaGreatDoor
open Go.RowKit Go.Sort Go.Shelf
theorem ROpen_any (f : Fo) (q : Fp) (c : R3) (w : World) (hf : FoFew f) (hq : FoAt w f q) :
  Calls Tryz.prog 187 #[.agg #[.int .i64 f.bars, .slice q.ra f.reps.length q.rc, .slice q.ea f.ends.length q.ec, .int .i64 f.jump.x, .int .i64 f.jump.y, .int .i64 f.jump.z, .slice q.ca f.cuts.length q.cc], .agg #[.int .i64 c.x, .int .i64 c.y, .int .i64 c.z]] w (RetFoF f q (Zj f c).1 (Zj f c).2 w) := by
 obtain ⟨x1, x2, x3, hb⟩ := box3 (w := w) (A := .cells #[.int .i64 f.bars, .slice q.ra f.reps.length q.rc, .slice q.ea f.ends.length q.ec, .int .i64 f.jump.x, .int .i64 f.jump.y, .int .i64 f.jump.z, .slice q.ca f.cuts.length q.cc] 109) (B := .cells #[.int .i64 c.x, .int .i64 c.y, .int .i64 c.z] 186) (C := .cells #[.int .i64 0, .slice none 0 0, .slice none 0 0, .int .i64 0, .int .i64 0, .int .i64 0, .slice none 0 0] 109) (Below.refl _ _)
 have HX1 := Qa x1; have HX2 := Qa x2; have HX3 := Qa x3; have HB := Qa hb
 have HV := Qa (fun V (hV : Below w.heap.size w V) => YC f q V hf (hq.below hV))
 have HN := Qa (fun V (hV : Below w.heap.size w V) => Ug c q.ca q.cc f.cuts V (by have := hf.cuts; omega) (hq.cuts.below hV))
 have HQ := Qa hq
 have HCl := Qa hf.cuts
 clear x1 x2 x3 hb hq hf
 go_enter Tryz.func187, Tryz.ntmps187
 go_upto_region 1 with (fail)
 generalize ((w.alloc (.cells #[.int .i64 f.bars, .slice q.ra f.reps.length q.rc, .slice q.ea f.ends.length q.ec, .int .i64 f.jump.x, .int .i64 f.jump.y, .int .i64 f.jump.z, .slice q.ca f.cuts.length q.cc] 109)).alloc (.cells #[.int .i64 c.x, .int .i64 c.y, .int .i64 c.z] 186)).alloc (.cells #[.int .i64 0, .slice none 0 0, .slice none 0 0, .int .i64 0, .int .i64 0, .int .i64 0, .slice none 0 0] 109) = W at *
 have hc1 := Qb HX1.out; have hc2 := Qb HX2.out; have hc3 := Qb HX3.out
 cases h1 : Qy f
 ·have HE := Qa (show Zj f c = (fo0, 1) by unfold Zj; rw [h1]; rfl)
  rw [h1] at HV
  clear h1
  go_upto_region 2 with ((go_at_call 145; refine (HV.out _ HB.out).mono ?_; rintro e w6 ⟨rfl, hb⟩; clear hc1 hc2 hc3; replace HX1 := bk HX1 hb; replace HX2 := bk HX2 hb; replace HX3 := bk HX3 hb; replace HB := bu HB hb; clear hb; have hc1 := Qb HX1.out; have hc2 := Qb HX2.out; have hc3 := Qb HX3.out))
  have hf3 := Qe HX3.out; have hz3 := Qd HX3.out; have hf1 := Qe HX1.out; have hz1 := Qd HX1.out
  go_wp2
  refine bodyPost_ret (Qi rfl _ _ (w.heap.size + 1 + 1) 109 _ (0, 0) _ rfl (QB HX3.out _ _ _ _ _ _ _) Tryz.underlying109 rfl (by kernel_rfl)) rfl ?_; rw [HE.out]; exact RetFoF.none (Qs HB.out (by omega) _ _ _ _ _ _ _)
 by_cases h3 : c ∈ f.cuts
 case neg =>
  have HE := Qa (show Zj f c = (fo0, 4) by unfold Zj; rw [h1, if_neg h3]; rfl)
  have hix : idxO (fun x => decide (x = c)) f.cuts = -1 := Q0 (fun j hj => decide_eq_false (fun e => h3 (e ▸ List.getElem_mem hj)))
  rw [h1] at HV; rw [hix] at HN
  clear h1 h3 hix
  go_upto_region 5 with (first | (go_at_call 145; refine (HV.out _ HB.out).mono ?_; rintro e w6 ⟨rfl, hb⟩; clear hc1 hc2 hc3; replace HX1 := bk HX1 hb; replace HX2 := bk HX2 hb; replace HX3 := bk HX3 hb; replace HB := bu HB hb; clear hb; have hc1 := Qb HX1.out; have hc2 := Qb HX2.out; have hc3 := Qb HX3.out) | (go_at_call 184; refine (HN.out _ HB.out).mono ?_; rintro e w8 ⟨rfl, hb⟩; clear hc1 hc2 hc3; replace HX1 := bk HX1 hb; replace HX2 := bk HX2 hb; replace HX3 := bk HX3 hb; replace HB := bu HB hb; clear hb; have hc1 := Qb HX1.out; have hc2 := Qb HX2.out; have hc3 := Qb HX3.out))
  have hf3 := Qe HX3.out; have hz3 := Qd HX3.out; have hf1 := Qe HX1.out; have hz1 := Qd HX1.out
  go_wp2
  refine bodyPost_ret (Qi rfl _ _ (w.heap.size + 1 + 1) 109 _ (0, 0) _ rfl (QB HX3.out _ _ _ _ _ _ _) Tryz.underlying109 rfl (by kernel_rfl)) rfl ?_; rw [HE.out]; exact RetFoF.none (Qs HB.out (by omega) _ _ _ _ _ _ _)
 have HE := Qa (show Zj f c = ({ f with cuts := f.cuts.erase c }, 0) by unfold Zj; rw [h1, if_pos h3]; rfl)
 obtain ⟨i, hi, hfi, her⟩ := UA c f.cuts h3
 have hix : idxO (fun x => decide (x = c)) f.cuts = (i : Int) := by unfold idxO; rw [hfi]
 rw [h1] at HV; rw [hix] at HN; rw [her] at HE
 have hi0 : ¬ (i : Int) < 0 := by omega
 have hcl := HCl.out
 have hwi : IntKind.i64.wrap ((i : Int) + 1) = (i : Int) + 1 := IntWalk.i64_in _ (by omega)
 clear h1 h3 hix hfi her
 go_upto_region 7 with (first | (go_at_call 145; refine (HV.out _ HB.out).mono ?_; rintro e w6 ⟨rfl, hb⟩; clear hc1 hc2 hc3; replace HX1 := bk HX1 hb; replace HX2 := bk HX2 hb; replace HX3 := bk HX3 hb; replace HB := bu HB hb; clear hb; have hc1 := Qb HX1.out; have hc2 := Qb HX2.out; have hc3 := Qb HX3.out) | (go_at_call 184; refine (HN.out _ HB.out).mono ?_; rintro e w8 ⟨rfl, hb⟩; clear hc1 hc2 hc3; replace HX1 := bk HX1 hb; replace HX2 := bk HX2 hb; replace HX3 := bk HX3 hb; replace HB := bu HB hb; clear hb; have hc1 := Qb HX1.out; have hc2 := Qb HX2.out; have hc3 := Qb HX3.out))
 have hz8 := Qd HX3.out
 have hlw := HB.out.size
 have hqc := HQ.out.below HB.out
 obtain ⟨b, off, hqa, _⟩ := hqc.cuts.get i hi
 have hk := hqc.okc.le
 have hcs := hqc.cuts
 rw [hqa] at hc1 hcs
 have HQa := Qa hqa
 clear hqa hqc
 have hi4 : i ≤ q.cc := by omega
 have hi5 : (0 : Int) ≤ (i : Int) := by omega
 have hi6 : (i : Int) + 1 ≤ (f.cuts.length : Int) := by omega
 have hi7 : (0 : Int) ≤ (i : Int) + 1 := by omega
 have hst := SlAt.take hcs i
 rw [← List.map_take] at hst
 go_upto_region 8 with (at_builtin; refine appE eltCu rfl (.tmp 19) (.tmp 23) rfl w8.heap.size _ [] rfl (OwnR.nil _ _ _ _) _ _ _ (f.cuts.take i) rfl (by rw [List.length_take]; omega) (fun e => by cases e) hst (by simp; omega) (Nat.le_refl _) ?_; intro v4 w9 ho4 hg4; rw [List.nil_append] at ho4)
 have hb9 : Below w8.heap.size w8 w9 := (Below.refl _ _).grown hg4 (Nat.le_refl _) (fun k e => by cases e)
 have k1 := Qc HX1.out hb9; have k3 := Qc HX3.out hb9
 have bb := HB.out.trans (hb9.mono HB.out.size)
 have hz9 := hb9.size
 have hsd := SlAt.drop (SlAt.below hcs hb9) (i + 1)
 rw [← List.map_drop] at hsd
 have hsd0 : SlAt w9 (if q.cc = i + 1 then some ⟨b, off, none⟩ else some ⟨b, off + (i + 1) * 3, none⟩) 3 ((f.cuts.drop (i + 1)).map R3.cells) := by
  split
  ·rw [List.drop_eq_nil_of_le (by omega)]; exact SlAt.nil _ _ _
  ·exact hsd
 have hnn : (if q.cc = i + 1 then some (⟨b, off, none⟩ : Addr) else some ⟨b, off + (i + 1) * 3, none⟩) = none → q.cc - (i + 1) = 0 := fun e => by split at e <;> cases e
 have HS0 := Qa hsd0; have HNn := Qa hnn
 have her : f.cuts.take i ++ f.cuts.drop (i + 1) = f.cuts.eraseIdx i := (List.eraseIdx_eq_take_drop_succ _ _).symm
 have hel : (f.cuts.eraseIdx i).length = f.cuts.length - 1 := by rw [List.length_eraseIdx, if_pos hi]
 clear hg4 hc1 hc2 hc3 hst hsd hsd0 hnn hcs
 have hc1 := Qb k1
 rw [HQa.out] at hc1
 go_upto_region 9 with (at_builtin; refine appE eltCu rfl (.tmp 25) (.tmp 30) rfl w8.heap.size _ (f.cuts.take i) rfl ho4 _ _ _ (f.cuts.drop (i + 1)) rfl (by rw [List.length_drop]) HNn.out HS0.out (by rw [List.length_take, List.length_drop]; omega) hz9 ?_; intro v5 w10 ho5 hg5; rw [her] at ho5; replace hg5 : w9.grownBy w10 v4.ownBlock := hg5; obtain ⟨a9, c9, e9, _, _⟩ := ho5.slAt; rw [List.length_map, hel] at e9; subst e9; replace k1 := (hg5.block _ (by omega) (ho4.neBlk (by omega))).trans k1; replace k3 := (hg5.block _ (by omega) (ho4.neBlk (by omega))).trans k3; replace bb := bb.grown hg5 bb.size (fun k e => by have := (ho4.lt k e).1; omega); clear hc1; have hc1 := Qb k1; have hf1 := Qe k1; have hz1 := Qd k1)
 have k1' := heap_setCell_same w10 _ 6 _ _ (.slice a9 (f.cuts.length - 1) c9) k1
 have k3' := Qo (c := w.heap.size) (i := 6) k3 (by omega) (.slice a9 (f.cuts.length - 1) c9)
 have o3' := ho5.setAt (b := w.heap.size) (i := 6) (by omega) (.slice a9 (f.cuts.length - 1) c9)
 have bb' := bb.setCell (p := ⟨w.heap.size, 6, none⟩) (Nat.le_refl _) (.slice a9 (f.cuts.length - 1) c9)
 clear k1 k3 ho5 bb hc1 hf1 hz1 hg5
 generalize w10.setCell ⟨w.heap.size, 6, none⟩ (.slice a9 (f.cuts.length - 1) c9) = W6 at *
 have hc1 := Qb k1'; have hc3 := Qb k3'; have hf3 := Qe k3'; have hz3 := Qd k3'
 go_wp2
 all_goals
  refine bodyPost_ret (Qi rfl _ _ (w.heap.size + 1 + 1) 109 _ (0, 0) _ rfl (QB k3' _ _ _ _ _ _ _) Tryz.underlying109 rfl (by kernel_rfl)) rfl ?_
  rw [HE.out]
  have p3 := (o3'.set7 (b := w.heap.size + 1 + 1) (by omega) (.int .i64 f.bars) (.slice q.ra f.reps.length q.rc) (.slice q.ea f.ends.length q.ec) (.int .i64 f.jump.x) (.int .i64 f.jump.y) (.int .i64 f.jump.z) (.slice a9 (f.cuts.length - 1) c9)).r3
  have bf := Qs bb' (b := w.heap.size + 1 + 1) (by omega) (.int .i64 f.bars) (.slice q.ra f.reps.length q.rc) (.slice q.ea f.ends.length q.ec) (.int .i64 f.jump.x) (.int .i64 f.jump.y) (.int .i64 f.jump.z) (.slice a9 (f.cuts.length - 1) c9)
  exact ⟨⟨q.ra, q.rc, q.ea, q.ec, a9, c9⟩, by simp [hel], ⟨HQ.out.reps.below bf, HQ.out.ends.below bf, p3.2, HQ.out.okr, HQ.out.oke, p3.1⟩, bf, ⟨.inl ⟨rfl, rfl⟩, .inl ⟨rfl, rfl⟩, .inr (o3'.newB (by omega))⟩⟩
theorem RWholeT_any (f : Fo) (q' : Fp) (V : World) (kk : Nat) (t : Int) (hf : FoFew f) (hb0 : 0 ≤ f.bars) (hr : ∀ r ∈ (QC f kk t).reps, 0 ≤ r.x ∧ r.x < r.y ∧ r.y ≤ (QC f kk t).bars ∧ 1 ≤ r.z ∧ r.z ≤ 9) (hj : Q5 (QC f kk t) = true) (hm : R3At V q'.ra (QC f kk t).reps) (hm2 : R3At V q'.ea f.ends) :
  Calls Tryz.prog 185 #[.agg #[.int .i64 f.bars, .slice q'.ra f.reps.length q'.rc, .slice q'.ea f.ends.length q'.ec, .int .i64 f.jump.x, .int .i64 f.jump.y, .int .i64 f.jump.z, .slice q'.ca f.cuts.length q'.cc]] V fun e w' => ∃ a n c, e = .returned (.slice a n c) ∧ n ≤ 20000 ∧ Below V.heap.size V w' := by
 have h := Rwhole_any (QC f kk t) q' V (JN hf _ _) hb0 hr hj hm hm2
 have hl : (QC f kk t).reps.length = f.reps.length := by unfold QC; exact List.length_modify _ _ _
 have hw := Zz (f := QC f kk t) hf.bars hr hj
 generalize Zi (QC f kk t) = L at *
 rw [hl] at h
 refine Calls.mono h ?_
 rintro e w' ⟨v, rfl, ho, hb⟩
 obtain ⟨a, c, e1, _, _⟩ := ho.slAt
 rw [List.length_map] at e1
 subst e1
 exact ⟨a, L.length, c, rfl, hw, hb⟩
theorem RTimes_any (f : Fo) (q : Fp) (k t : Int) (w : World) (hf : FoFew f) (hq : FoAt w f q) :
  Calls Tryz.prog 188 #[.agg #[.int .i64 f.bars, .slice q.ra f.reps.length q.rc, .slice q.ea f.ends.length q.ec, .int .i64 f.jump.x, .int .i64 f.jump.y, .int .i64 f.jump.z, .slice q.ca f.cuts.length q.cc], .int .i64 k, .int .i64 t] w (RetFoF f q (QW f k t).1 (QW f k t).2 w) := by
 obtain ⟨x1, x3, hb⟩ := box2 (w := w) (A := .cells #[.int .i64 f.bars, .slice q.ra f.reps.length q.rc, .slice q.ea f.ends.length q.ec, .int .i64 f.jump.x, .int .i64 f.jump.y, .int .i64 f.jump.z, .slice q.ca f.cuts.length q.cc] 109) (B := .cells #[.int .i64 0, .slice none 0 0, .slice none 0 0, .int .i64 0, .int .i64 0, .int .i64 0, .slice none 0 0] 109) (Below.refl _ _)
 have HX1 := Qa x1; have HX3 := Qa x3; have HB := Qa hb
 have HV := Qa (fun V (hV : Below w.heap.size w V) => YC f q V hf (hq.below hV))
 have HQ := Qa hq
 have HF := Qa hf
 clear x1 x3 hb hq hf
 go_enter Tryz.func188, Tryz.ntmps188
 go_upto_region 1 with (fail)
 generalize (w.alloc (.cells #[.int .i64 f.bars, .slice q.ra f.reps.length q.rc, .slice q.ea f.ends.length q.ec, .int .i64 f.jump.x, .int .i64 f.jump.y, .int .i64 f.jump.z, .slice q.ca f.cuts.length q.cc] 109)).alloc (.cells #[.int .i64 0, .slice none 0 0, .slice none 0 0, .int .i64 0, .int .i64 0, .int .i64 0, .slice none 0 0] 109) = W at *
 have hc1 := Qb HX1.out; have hc3 := Qb HX3.out
 cases h1 : Qy f
 ·have HE := Qa (show QW f k t = (fo0, 1) by unfold QW; rw [h1]; rfl)
  rw [h1] at HV
  clear h1
  go_upto_region 2 with ((go_at_call 145; refine (HV.out _ HB.out).mono ?_; rintro e w6 ⟨rfl, hb⟩; clear hc1 hc3; replace HX1 := bk HX1 hb; replace HX3 := bk HX3 hb; replace HB := bu HB hb; clear hb; have hc1 := Qb HX1.out; have hc3 := Qb HX3.out))
  have hf3 := Qe HX3.out; have hz3 := Qd HX3.out; have hf1 := Qe HX1.out; have hz1 := Qd HX1.out
  go_wp2
  refine bodyPost_ret (Qi rfl _ _ (w.heap.size + 1) 109 _ (0, 0) _ rfl (QB HX3.out _ _ _ _ _ _ _) Tryz.underlying109 rfl (by kernel_rfl)) rfl ?_; rw [HE.out]; exact RetFoF.none (Qs HB.out (by omega) _ _ _ _ _ _ _)
 by_cases h2 : k < 0
 ·have HE := Qa (Jp (t := t) h1 (.inl h2))
  rw [h1] at HV
  clear h1
  go_upto_region 4 with ((go_at_call 145; refine (HV.out _ HB.out).mono ?_; rintro e w6 ⟨rfl, hb⟩; clear hc1 hc3; replace HX1 := bk HX1 hb; replace HX3 := bk HX3 hb; replace HB := bu HB hb; clear hb; have hc1 := Qb HX1.out; have hc3 := Qb HX3.out))
  have hf3 := Qe HX3.out; have hz3 := Qd HX3.out; have hf1 := Qe HX1.out; have hz1 := Qd HX1.out
  go_wp2
  refine bodyPost_ret (Qi rfl _ _ (w.heap.size + 1) 109 _ (0, 0) _ rfl (QB HX3.out _ _ _ _ _ _ _) Tryz.underlying109 rfl (by kernel_rfl)) rfl ?_; rw [HE.out]; exact RetFoF.none (Qs HB.out (by omega) _ _ _ _ _ _ _)
 by_cases h3 : (f.reps.length : Int) ≤ k
 ·have HE := Qa (Jp (t := t) h1 (.inr h3))
  rw [h1] at HV
  clear h1
  go_upto_region 4 with ((go_at_call 145; refine (HV.out _ HB.out).mono ?_; rintro e w6 ⟨rfl, hb⟩; clear hc1 hc3; replace HX1 := bk HX1 hb; replace HX3 := bk HX3 hb; replace HB := bu HB hb; clear hb; have hc1 := Qb HX1.out; have hc3 := Qb HX3.out))
  have hf3 := Qe HX3.out; have hz3 := Qd HX3.out; have hf1 := Qe HX1.out; have hz1 := Qd HX1.out
  go_wp2
  refine bodyPost_ret (Qi rfl _ _ (w.heap.size + 1) 109 _ (0, 0) _ rfl (QB HX3.out _ _ _ _ _ _ _) Tryz.underlying109 rfl (by kernel_rfl)) rfl ?_; rw [HE.out]; exact RetFoF.none (Qs HB.out (by omega) _ _ _ _ _ _ _)
 by_cases h4 : t < 1
 ·have HE := Qa (Jq h1 (show ¬ (k < 0 ∨ (f.reps.length : Int) ≤ k) by omega) (.inl h4))
  rw [h1] at HV
  clear h1
  go_upto_region 6 with ((go_at_call 145; refine (HV.out _ HB.out).mono ?_; rintro e w6 ⟨rfl, hb⟩; clear hc1 hc3; replace HX1 := bk HX1 hb; replace HX3 := bk HX3 hb; replace HB := bu HB hb; clear hb; have hc1 := Qb HX1.out; have hc3 := Qb HX3.out))
  have hf3 := Qe HX3.out; have hz3 := Qd HX3.out; have hf1 := Qe HX1.out; have hz1 := Qd HX1.out
  go_wp2
  refine bodyPost_ret (Qi rfl _ _ (w.heap.size + 1) 109 _ (0, 0) _ rfl (QB HX3.out _ _ _ _ _ _ _) Tryz.underlying109 rfl (by kernel_rfl)) rfl ?_; rw [HE.out]; exact RetFoF.none (Qs HB.out (by omega) _ _ _ _ _ _ _)
 by_cases h5 : 9 < t
 ·have HE := Qa (Jq h1 (show ¬ (k < 0 ∨ (f.reps.length : Int) ≤ k) by omega) (.inr h5))
  rw [h1] at HV
  clear h1
  go_upto_region 6 with ((go_at_call 145; refine (HV.out _ HB.out).mono ?_; rintro e w6 ⟨rfl, hb⟩; clear hc1 hc3; replace HX1 := bk HX1 hb; replace HX3 := bk HX3 hb; replace HB := bu HB hb; clear hb; have hc1 := Qb HX1.out; have hc3 := Qb HX3.out))
  have hf3 := Qe HX3.out; have hz3 := Qd HX3.out; have hf1 := Qe HX1.out; have hz1 := Qd HX1.out
  go_wp2
  refine bodyPost_ret (Qi rfl _ _ (w.heap.size + 1) 109 _ (0, 0) _ rfl (QB HX3.out _ _ _ _ _ _ _) Tryz.underlying109 rfl (by kernel_rfl)) rfl ?_; rw [HE.out]; exact RetFoF.none (Qs HB.out (by omega) _ _ _ _ _ _ _)
 obtain ⟨kk, rfl⟩ : ∃ kk : Nat, k = kk := ⟨k.toNat, by omega⟩
 have hv' := h1
 unfold Qy at hv'
 simp only [Bool.and_eq_true, decide_eq_true_eq] at hv'
 obtain ⟨⟨⟨⟨⟨⟨hv1, hv2⟩, hv3⟩, hv4⟩, hv5⟩, hv6⟩, hv7⟩ := hv'
 obtain ⟨hr2, hj2⟩ := timesF_ok (k := kk) (t := t) ⟨by omega, by omega⟩ (ZN hv3) hv5
 have hsh := timesF_short HF.out hr2 hj2
 have HE := Qa (timesR_0 h1 (show ¬ ((kk : Int) < 0 ∨ (f.reps.length : Int) ≤ (kk : Int)) by omega) (show ¬ (t < 1 ∨ 9 < t) by omega) hsh)
 have hki : kk < f.reps.length := by omega
 have HSs := Qa (fun (q' : Fp) (V : World) => RWholeT_any f q' V kk t HF.out (by omega) hr2 hj2)
 rw [h1] at HV
 clear h1 hv1 hv2 hv3 hv4 hv5 hv6 hv7 hr2 hj2 hsh
 go_upto_region 8 with ((go_at_call 145; refine (HV.out _ HB.out).mono ?_; rintro e w6 ⟨rfl, hb⟩; clear hc1 hc3; replace HX1 := bk HX1 hb; replace HX3 := bk HX3 hb; replace HB := bu HB hb; clear hb; have hc1 := Qb HX1.out; have hc3 := Qb HX3.out))
 have hz8 := Qd HX3.out
 have hqc := HQ.out.below HB.out
 have hfr := HF.out.reps
 go_upto_region 9 with (at_builtin; refine appE eltRe rfl (.tmp 30) (.tmp 32) rfl w6.heap.size _ [] rfl (OwnR.nil _ _ _ _) _ _ _ f.reps rfl rfl hqc.okr.none hqc.reps (by simp; omega) (Nat.le_refl _) ?_; intro v4 w9 ho4 hg4; rw [List.nil_append] at ho4)
 have hb9 : Below w6.heap.size w6 w9 := (Below.refl _ _).grown hg4 (Nat.le_refl _) (fun k e => by cases e)
 have k1 := Qc HX1.out hb9; have k3 := Qc HX3.out hb9
 have bb := HB.out.trans (hb9.mono HB.out.size)
 obtain ⟨g, cap, cur, e3, hg3, kg⟩ : ∃ g cap cur, v4 = .slice (some ⟨g, 0, none⟩) (f.reps.map R3.cells).length cap ∧ w6.heap.size ≤ g ∧ w9.heap[g]? = some (.cells cur 254 (0, 0)) := by
  obtain ⟨_, ⟨_, h0⟩ | ⟨g, cap, cur, e3, hg3, hgz, _⟩⟩ := ho4.own
  ·rw [List.length_map] at h0; omega
  ·exact ⟨g, cap, cur, e3, hg3, hgz⟩
 rw [List.length_map] at e3
 subst e3
 have r1 := ho4.r3
 obtain ⟨b0, off, e0, _, _, _, d2⟩ := r1.2.get kk hki
 cases e0
 rw [Nat.zero_add] at d2
 generalize f.reps[kk].z = zz at d2
 have R1 := Qa r1
 clear r1 h2 h3 hc1 hc3 hqc hg4
 have hfg := Qe kg
 have hk0 : (0 : Int) ≤ (kk : Int) := by omega
 have hk1 : (kk : Int) < (f.reps.length : Int) := by omega
 go_upto_region 10 with (fail)
 have k1' := Qo (c := g) (i := kk * 3 + 2) k1 (by omega) (.int .i64 t)
 have k3' := Qo (c := g) (i := kk * 3 + 2) k3 (by omega) (.int .i64 t)
 have r' : R3At (w9.setCell ⟨g, kk * 3 + 2, none⟩ (.int .i64 t)) (some ⟨g, 0, none⟩) (QC f kk t).reps := times_at R1.out.2 kk hki t
 have bb' := bb.setCell (p := ⟨g, kk * 3 + 2, none⟩) (show w.heap.size ≤ g by omega) (.int .i64 t)
 clear k1 k3 kg bb hfg d2 ho4 hb9
 generalize w9.setCell ⟨g, kk * 3 + 2, none⟩ (.int .i64 t) = W6 at *
 have hc1 := Qb k1'; have hf1 := Qe k1'; have hz1 := Qd k1'
 go_upto_region 11 with (fail)
 have k1'' : (W6.setCell ⟨w.heap.size, 1, none⟩ (.slice (some ⟨g, 0, none⟩) f.reps.length cap)).heap[w.heap.size]? = some (.cells #[.int .i64 f.bars, .slice (some ⟨g, 0, none⟩) f.reps.length cap, .slice q.ea f.ends.length q.ec, .int .i64 f.jump.x, .int .i64 f.jump.y, .int .i64 f.jump.z, .slice q.ca f.cuts.length q.cc] 109) := heap_setCell_same W6 _ 1 _ _ (.slice (some ⟨g, 0, none⟩) f.reps.length cap) k1'
 have k3'' := Qo (c := w.heap.size) (i := 1) k3' (by omega) (.slice (some ⟨g, 0, none⟩) f.reps.length cap)
 have r'' : R3At (W6.setCell ⟨w.heap.size, 1, none⟩ (.slice (some ⟨g, 0, none⟩) f.reps.length cap)) (some ⟨g, 0, none⟩) (QC f kk t).reps := SlAt.setAt (k := 1) r' (by omega) _
 have bb'' := bb'.setCell (p := ⟨w.heap.size, 1, none⟩) (Nat.le_refl _) (.slice (some ⟨g, 0, none⟩) f.reps.length cap)
 clear k1' k3' r' bb' hc1 hf1 hz1
 generalize W6.setCell ⟨w.heap.size, 1, none⟩ (.slice (some ⟨g, 0, none⟩) f.reps.length cap) = W7 at *
 have hc1 := Qb k1''
 have HSh := Qa (HSs.out ⟨some ⟨g, 0, none⟩, cap, q.ea, q.ec, q.ca, q.cc⟩ W7 r'' (HQ.out.ends.below bb''))
 go_upto_region 13 with (go_at_call 185; refine HSh.out.mono ?_; rintro e w11 ⟨a11, n11, c11, rfl, hn11, hb⟩; have hn' : ¬ (20000 : Int) < (n11 : Int) := (by omega); clear hc1; replace k1'' := Qc k1'' hb; replace k3'' := Qc k3'' hb; replace r'' := r''.below hb; replace bb'' := bb''.trans (hb.mono bb''.size); clear hb; have hc1 := Qb k1'')
 have hc3 := Qb k3''; have hf3 := Qe k3''; have hz3 := Qd k3''
 go_wp2
 refine bodyPost_ret (Qi rfl _ _ (w.heap.size + 1) 109 _ (0, 0) _ rfl (QB k3'' _ _ _ _ _ _ _) Tryz.underlying109 rfl (by kernel_rfl)) rfl ?_
 rw [HE.out]
 have p1 := SlAt.set7 (b := w.heap.size + 1) r'' (by omega) (.int .i64 f.bars) (.slice (some ⟨g, 0, none⟩) f.reps.length cap) (.slice q.ea f.ends.length q.ec) (.int .i64 f.jump.x) (.int .i64 f.jump.y) (.int .i64 f.jump.z) (.slice q.ca f.cuts.length q.cc)
 have bf := Qs bb'' (b := w.heap.size + 1) (by omega) (.int .i64 f.bars) (.slice (some ⟨g, 0, none⟩) f.reps.length cap) (.slice q.ea f.ends.length q.ec) (.int .i64 f.jump.x) (.int .i64 f.jump.y) (.int .i64 f.jump.z) (.slice q.ca f.cuts.length q.cc)
 have hl : (QC f kk t).reps.length = f.reps.length := by unfold QC; exact List.length_modify _ _ _
 exact ⟨⟨some ⟨g, 0, none⟩, cap, q.ea, q.ec, q.ca, q.cc⟩, by rw [hl]; rfl, ⟨p1, HQ.out.ends.below bf, HQ.out.cuts.below bf, by rw [hl]; exact R1.out.1, HQ.out.oke, HQ.out.okc⟩, bf, ⟨.inr (fun ad e => (by cases e; show w.heap.size ≤ g; omega)), .inl ⟨rfl, rfl⟩, .inl ⟨rfl, rfl⟩⟩⟩
theorem rowI_mem {f : Fo} {pass i b : Int} {n : Nat} (h : b ∈ rowI f pass i n) : i ≤ b ∧ b < i + n := by
 unfold rowI at h
 exact upI_mem (List.mem_filter.1 h).1
theorem passI_mem {f : Fo} {r : R3} {b : Int} (hr : r.x < r.y) : ∀ (m : Nat) (pass : Int), b ∈ ZJ f r pass m → r.x ≤ b ∧ b < r.y
 | 0, _, h => by cases h
 | m + 1, pass, h => by
  rw [Jc, List.mem_append] at h
  rcases h with h | h
  ·have := rowI_mem h; omega
  ·exact passI_mem hr m _ h
theorem UP {f : Fo} {b : Int} (hr : ∀ r ∈ f.reps, 0 ≤ r.x ∧ r.x < r.y ∧ r.y ≤ f.bars ∧ 1 ≤ r.z ∧ r.z ≤ 9) (all : Bool) (u : Int) (hu : u ≤ f.bars) : ∀ (n : Nat) (bar : Int), 0 ≤ bar → b ∈ ZV f all u n bar → 0 ≤ b ∧ b < f.bars
 | 0, _, _, h => by cases h
 | n + 1, bar, h0, h => by
  rw [ZV] at h
  by_cases hb : bar < u
  ·rw [if_pos hb] at h
   cases e : Z4 f.reps bar with
   | none =>
    rw [e] at h
    rcases List.mem_cons.1 h with rfl | h
    ·omega
    ·exact UP hr all u hu n (bar + 1) (by omega) h
   | some r =>
    rw [e] at h
    obtain ⟨hm, hx⟩ := ZI e
    have hrr := hr r hm
    rcases List.mem_append.1 h with h | h
    ·unfold Ui at h
     have := passI_mem hrr.2.1 _ _ h
     omega
    ·exact UP hr all u hu n r.y (by omega) h
  ·rw [if_neg hb] at h; cases h
theorem whole_mem {f : Fo} (hb0 : 0 ≤ f.bars) (hr : ∀ r ∈ f.reps, 0 ≤ r.x ∧ r.x < r.y ∧ r.y ≤ f.bars ∧ 1 ≤ r.z ∧ r.z ≤ 9) (hj : Q5 f = true) : ∀ b ∈ Zi f, 0 ≤ b ∧ b < f.bars := by
 intro b hb
 rcases jumpB_cases hj with e | ⟨hn, h1, h2, h3, h4, h5⟩
 ·rw [whole_plain e] at hb
  exact UP hr _ _ (Int.le_refl _) _ _ (Int.le_refl _) hb
 ·rw [whole_jump hn, List.mem_append] at hb
  rcases hb with hb | hb
  ·exact UP hr _ _ h2 _ _ (Int.le_refl _) hb
  ·exact UP hr _ _ h5 _ _ h3 hb
open Go.RowKit Go.Sort
section
variable {P : Program} {ops : Array Oper} {md : Region.Mode} {C : World → Prop}
end
end Go.Proofs.YtajijcfikihhjaaGreatDoor
namespace Go.Proofs.YtajijcfikihhjaaGreatDoor
open Go.RowKit Go.Sort Go.Shelf
end Go.Proofs.YtajijcfikihhjaaGreatDoor
namespace Go.Proofs.YtajijcfikihhjaaGreatDoor
open Go.RowKit Go.Sort Go.Shelf
end Go.Proofs.YtajijcfikihhjaaGreatDoor
namespace Go.Proofs.YtajijcfikihhjaaGreatDoor
open Go.RowKit Go.Sort Go.Shelf
theorem RTime30_any (n : Int) (w : World) : Calls Tryz.prog 108 #[.int .i64 n] w fun e w' => e = .returned (.bool (decide (0 ≤ n) && decide (n ≤ 1000000000))) ∧ w' = w := by
 go_enter Tryz.func108, Tryz.ntmps108
 go_wp2
 all_goals (go_ret; exact ⟨by simp [*] <;> omega, rfl⟩)
theorem RFind30_any (wa : Option Addr) (wc : Nat) (l : List (Wk × Wp)) (v : Int) (w : World) (hl : l.length ≤ 1000) (hw : WlAt w wa l) :
  Calls Tryz.prog 22 #[.slice wa l.length wc, .int .i64 v] w fun e w' => e = .returned (.int .i64 (idxO (fun y : Wk × Wp => decide (y.1.ver = v)) l)) ∧ Below w.heap.size w w' := by
 have HW := Qa hw
 clear hw
 go_enter Tryz.func22, Tryz.ntmps22
 go_wp2
 go_loopw [5] (fun i wr => ∃ k : Nat, k ≤ l.length ∧ i = .int .i64 k ∧ (∀ j (hj : j < l.length), j < k → decide (l[j].1.ver = v) = false) ∧ Below w.heap.size w wr) (fun i _ => l.length - (intOf i).toNat)
 case atStart => exact ⟨0, Nat.zero_le _, rfl, fun j hj h => by omega, Below.refl _ _⟩
 case round =>
  obtain ⟨k, hk, rfl, hall, hb⟩ := hrel
  have HA := Qa hall; have HB := Qa hb
  clear hall hb
  by_cases hlt : k < l.length
  ·obtain ⟨b, off, rfl, _, d0, _⟩ := (HW.out.below HB.out).get k hlt
   have hli : (k : Int) < (l.length : Int) := by omega
   have hwk : IntKind.i64.wrap ((k : Int) + 1) = (k : Int) + 1 := IntWalk.i64_in _ (by omega)
   by_cases hv : l[k].1.ver = v
   ·have HT := Qa (Zv (p := fun y : Wk × Wp => decide (y.1.ver = v)) hlt (decide_eq_true hv) HA.out)
    generalize l[k] = x at *
    go_wp2
    go_ret
    exact ⟨QK HT.out.symm, HB.out⟩
   ·have HF := Qa (fun j (hj : j < l.length) (hjk : j < k + 1) => if e : j = k then by subst e; exact decide_eq_false hv else HA.out j hj (by omega) : ∀ j (hj : j < l.length), j < k + 1 → decide (l[j].1.ver = v) = false)
    generalize l[k] = x at *
    go_wp2
    go_roundw
    case rel => exact ⟨k + 1, by omega, by go_num, HF.out, HB.out⟩
    case measure => simp [intOf]; omega
  ·have HT := Qa (Q0 (p := fun y : Wk × Wp => decide (y.1.ver = v)) fun j hj => HA.out j hj (by omega))
   go_wp2
   go_ret
   exact ⟨QK HT.out.symm, HB.out⟩
def fewW (x : Wk) : Bool := fewF x.f && decide (x.bars.length ≤ 60)
def Yw (l : List Wk) (n : Nat) : Bool := (l.take 7).all fewW && (decide (l.length ≤ 6) && decide (n ≤ 30))
theorem fewDB_all {l : List Wk} {n : Nat} (h : Yw l n = true) : (∀ x ∈ l, fewW x = true) ∧ l.length ≤ 6 ∧ n ≤ 30 := by
 unfold Yw at h
 simp only [Bool.and_eq_true, decide_eq_true_eq, List.all_eq_true] at h
 obtain ⟨h1, h2, h3⟩ := h
 exact ⟨fun x hx => h1 x (by rw [List.take_of_length_le (by omega)]; exact hx), h2, h3⟩
theorem RFew30_any (wa : Option Addr) (wc : Nat) (l : List (Wk × Wp)) (da : Option Addr) (n dc : Nat) (w : World) (hl : l.length ≤ 9223372036854775807) (hn : n ≤ 9223372036854775807) (hw : WlAt w wa l) :
  Calls Tryz.prog 28 #[.slice wa l.length wc, .slice da n dc] w fun e w' => e = .returned (.bool (Yw (Qk l) n)) ∧ Below w.heap.size w w' := by
 have HW := Qa hw
 have hwl : (Qk l).length = l.length := by simp [Qk]
 clear hw
 go_enter Tryz.func28, Tryz.ntmps28
 go_wp2
 go_loopw [5] (fun i wr => ∃ k : Nat, k ≤ l.length ∧ k ≤ 7 ∧ i = .int .i64 k ∧ Hid (((Qk l).take k).all fewW = true) ∧ Below w.heap.size w wr) (fun i _ => 7 - (intOf i).toNat)
 case atStart => exact ⟨0, Nat.zero_le _, by omega, rfl, Qa rfl, Below.refl _ _⟩
 case round =>
  obtain ⟨k, hk, hk7, rfl, HA, hb⟩ := hrel
  have HB := Qa hb
  clear hb
  by_cases hlt : k < l.length
  ·by_cases h7 : k < 7
   ·obtain ⟨b, off, rfl, _, d0, d1, d2, d3, d4, d5, d6, d7, d8, d9, d10, d11⟩ := (HW.out.below HB.out).get k hlt
    have hli : (k : Int) < (l.length : Int) := by omega
    have hwk : IntKind.i64.wrap ((k : Int) + 1) = (k : Int) + 1 := IntWalk.i64_in _ (by omega)
    have HT := Qa (show ((Qk l).take (k + 1)).all fewW = (((Qk l).take k).all fewW && fewW l[k].1) by
     rw [List.take_succ_eq_append_getElem (by omega), List.all_append]; simp [Qk])
    rw [HA.out] at HT
    have HFw := Qa (fun V => RFew_any l[k].1.f l[k].2.q V)
    have HN := Qa (fun h : fewW l[k].1 = false => (show Yw (Qk l) n = false by
     unfold Yw
     have : ((Qk l).take 7).all fewW = false := by
      rw [List.all_eq_false]
      exact ⟨l[k].1, by rw [List.mem_take_iff_getElem]; exact ⟨k, by omega, by simp [Qk]⟩, by rw [h]; simp⟩
     rw [this]; rfl))
    have HE := Qa (show fewW l[k].1 = (fewF l[k].1.f && decide (l[k].1.bars.length ≤ 60)) from rfl)
    generalize l[k] = x at *
    obtain ⟨x, p⟩ := x
    dsimp only at *
    clear HA
    cases hf : fewF x.f
    ·rw [hf] at HFw HE
     have HN2 := Qa (HN.out (by rw [HE.out]; rfl))
     clear HN HT hf
     go_wp2_with (go_at_call 57; refine (HFw.out _).mono ?_; rintro e w6 ⟨rfl, hb6⟩; have HB6 := bu HB hb6; clear hb6)
     go_ret
     exact ⟨Qf HN2.out.symm, HB6.out⟩
    ·rw [hf] at HFw HE
     by_cases hbs : x.bars.length ≤ 60
     ·have HT2 := Qa (show ((Qk l).take (k + 1)).all fewW = true by rw [HT.out, HE.out, decide_eq_true hbs]; rfl)
      clear HN HT hf HE
      go_upto_region 6 with (go_at_call 57; refine (HFw.out _).mono ?_; rintro e w6 ⟨rfl, hb6⟩; have HB6 := bu HB hb6; have q1 := Qq d1 hb6; clear hb6 d0 d1 d2 d3 d4 d5 d6 d7 d8 d9 d10 d11)
      go_roundw
      case rel => exact ⟨k + 1, by omega, by omega, by go_num, HT2, HB6.out⟩
      case measure => simp [intOf]; omega
     ·have HN2 := Qa (HN.out (by rw [HE.out, decide_eq_false hbs]; rfl))
      clear HN HT hf HE
      go_wp2_with (go_at_call 57; refine (HFw.out _).mono ?_; rintro e w6 ⟨rfl, hb6⟩; have HB6 := bu HB hb6; have q1 := Qq d1 hb6; clear hb6 d0 d1 d2 d3 d4 d5 d6 d7 d8 d9 d10 d11)
      go_ret
      exact ⟨Qf HN2.out.symm, HB6.out⟩
   ·have hk8 : k = 7 := by omega
    subst hk8
    have HF := Qa (show Yw (Qk l) n = false by unfold Yw; rw [hwl, decide_eq_false (show ¬ l.length ≤ 6 by omega)]; simp)
    have hlx : ¬ l.length ≤ 6 := by omega
    go_wp2
    all_goals go_ret
    all_goals exact ⟨Qf (by first | exact HF.out.symm | (rw [HF.out])), HB.out⟩
  ·obtain rfl : k = l.length := by omega
   have HF := Qa (show Yw (Qk l) n = (decide (l.length ≤ 6) && decide (n ≤ 30)) by
    unfold Yw
    have : (Qk l).take 7 = (Qk l).take l.length := by rw [← hwl, List.take_length, List.take_of_length_le (by omega)]
    rw [this, HA.out, hwl]; rfl)
   clear HA
   go_wp2
   all_goals go_ret
   all_goals exact ⟨Qf (by rw [HF.out]; exact (by first | (simp [*]; done) | (simp [*]; omega) | (rw [Bool.eq_iff_iff]; simp [*]; done) | (rw [Bool.eq_iff_iff]; simp [*]; omega) | (rw [Bool.eq_iff_iff]; simp [*] <;> omega))), HB.out⟩
end Go.Proofs.YtajijcfikihhjaaGreatDoor
namespace Go.Proofs.YtajijcfikihhjaaGreatDoor
open Go.RowKit Go.Sort Go.Shelf
theorem RWorks30_any (wa : Option Addr) (wc : Nat) (l : List (Wk × Wp)) (w : World) (hl : l.length ≤ 1000) (hfew : ∀ y ∈ l, FoFew y.1.f) (hw : WsAt w wa l) :
  Calls Tryz.prog 107 #[.slice wa l.length wc] w fun e w' => e = .returned (.bool (Q6 (Qk l))) ∧ Below w.heap.size w w' := by
 have HW := Qa hw
 have hlen : (Qk l).length = l.length := by simp [Qk]
 have HWB := Qa (show Q6 (Qk l) = (Zr 0 (Qk l) && (decide (1 ≤ l.length) && decide (l.length ≤ 100))) by unfold Q6; rw [hlen])
 clear hw hlen
 go_enter Tryz.func107, Tryz.ntmps107
 by_cases h1 : l.length < 1
 ·have HF := Qa (show Q6 (Qk l) = false by rw [HWB.out, decide_eq_false (show ¬ 1 ≤ l.length by omega)]; simp)
  clear HWB
  go_wp2
  go_ret
  exact ⟨Qf (by first | exact HF.out.symm | (rw [HF.out])), Below.refl _ _⟩
 by_cases h2 : 100 < l.length
 ·have HF := Qa (show Q6 (Qk l) = false by rw [HWB.out, decide_eq_false (show ¬ l.length ≤ 100 by omega)]; simp)
  clear HWB
  go_wp2
  go_ret
  exact ⟨Qf (by first | exact HF.out.symm | (rw [HF.out])), Below.refl _ _⟩
 have HWC := Qa (show Q6 (Qk l) = Zr 0 (Qk l) by rw [HWB.out, decide_eq_true (show 1 ≤ l.length by omega), decide_eq_true (show l.length ≤ 100 by omega)]; simp)
 clear HWB
 go_wp2
 go_loopw [3, 4, 5] (fun t3 t4 _ wr => ∃ (k : Nat) (last : Int), k ≤ l.length ∧ t4 = .int .i64 k ∧ t3 = .int .i64 last ∧ Hid (Zr 0 (Qk l) = Zr last ((Qk l).drop k)) ∧ Below w.heap.size w wr) (fun _ t4 _ _ => l.length - (intOf t4).toNat)
 case atStart => exact ⟨0, 0, Nat.zero_le _, rfl, rfl, Qa rfl, Below.refl _ _⟩
 case round =>
  obtain ⟨k, last, hk, rfl, rfl, HC, hb⟩ := hrel
  have HB := Qa hb
  clear hb
  by_cases hlt : k < l.length
  ·have hws := HW.out.below HB.out
   obtain ⟨b, off, ea, _, d0, d1, d2, d3, d4, d5, d6, d7, d8, d9, d10, d11⟩ := WlAt.get hws.rows k hlt
   have hxm := List.getElem_mem hlt
   have HV := Qa (fun V (hV : Below wr.heap.size wr V) => YC l[k].1.f l[k].2.q V (hfew _ hxm) ((hws.forms _ hxm).below hV))
   have HC2 := Qa (HC.out.trans (worksC_drop hlt last))
   have hki : (k : Int) < (l.length : Int) := by omega
   have hk0 : ¬ (k : Int) < 0 := by omega
   have hwk : IntKind.i64.wrap ((k : Int) + 1) = (k : Int) + 1 := IntWalk.i64_in _ (by omega)
   subst ea
   clear hws HC hxm
   have hoks : Zr 0 (Qk l) = false → Q6 (Qk l) = false := fun h => by rw [HWC.out]; exact h
   generalize hx : l[k] = x at *
   obtain ⟨x, p⟩ := x
   dsimp only at *
   clear hx
   go_upto_region 8 with (fail)
   have g0 := cell_regrown d0; have g1 := cell_regrown d1; have g4 := cell_regrown d4; have g5 := cell_regrown d5; have g6 := cell_regrown d6; have g7 := cell_regrown d7; have g8 := cell_regrown d8; have g9 := cell_regrown d9; have g10 := cell_regrown d10
   by_cases c1 : x.ver ≤ last
   ·have HF := Qa (hoks (by rw [HC2.out]; unfold badW; rw [decide_eq_true c1]; rfl))
    refine Qn (by kernel_rfl) (by kernel_rfl) ?_; (repeat (go_big_quiet_step ((go_at_call 145; refine Calls.regrown_of (HV.out _ (below_regrown _ _ _)))))); refine wpQuiet_nil ?_; intro w6 hb6; have HB6 := bu HB hb6; (clear d0 d1 d2 d3 d4 d5 d6 d7 d8 d9 d10 d11 g0 g1 g4 g5 g6 g7 g8 g9 g10); go_wp2; go_ret; exact ⟨Qf (by first | exact HF.out.symm | (rw [HF.out])), HB6.out⟩
   by_cases c2 : 1000000 < x.ver
   ·have HF := Qa (hoks (by rw [HC2.out]; unfold badW; rw [decide_eq_true c2]; simp))
    refine Qn (by kernel_rfl) (by kernel_rfl) ?_; (repeat (go_big_quiet_step ((go_at_call 145; refine Calls.regrown_of (HV.out _ (below_regrown _ _ _)))))); refine wpQuiet_nil ?_; intro w6 hb6; have HB6 := bu HB hb6; (clear d0 d1 d2 d3 d4 d5 d6 d7 d8 d9 d10 d11 g0 g1 g4 g5 g6 g7 g8 g9 g10); go_wp2; go_ret; exact ⟨Qf (by first | exact HF.out.symm | (rw [HF.out])), HB6.out⟩
   cases hv : Qy x.f
   ·have HF := Qa (hoks (by rw [HC2.out]; unfold badW; rw [hv]; simp))
    rw [hv] at HV
    refine Qn (by kernel_rfl) (by kernel_rfl) ?_; (repeat (go_big_quiet_step ((go_at_call 145; refine Calls.regrown_of (HV.out _ (below_regrown _ _ _)))))); refine wpQuiet_nil ?_; intro w6 hb6; have HB6 := bu HB hb6; (clear d0 d1 d2 d3 d4 d5 d6 d7 d8 d9 d10 d11 g0 g1 g4 g5 g6 g7 g8 g9 g10); go_wp2; go_ret; exact ⟨Qf (by first | exact HF.out.symm | (rw [HF.out])), HB6.out⟩
   rw [hv] at HV
   by_cases c3 : ¬ x.f.bars = (x.bars.length : Int)
   ·have HF := Qa (hoks (by rw [HC2.out]; unfold badW; rw [decide_eq_true c3]; simp))
    have hne3 : (x.f.bars != (x.bars.length : Int)) = true := by simp [c3]
    clear c3
    refine Qn (by kernel_rfl) (by kernel_rfl) ?_; (repeat (go_big_quiet_step ((go_at_call 145; refine Calls.regrown_of (HV.out _ (below_regrown _ _ _)))))); refine wpQuiet_nil ?_; intro w6 hb6; have HB6 := bu HB hb6; (clear d0 d1 d2 d3 d4 d5 d6 d7 d8 d9 d10 d11 g0 g1 g4 g5 g6 g7 g8 g9 g10); go_wp2; go_ret; exact ⟨Qf (by first | exact HF.out.symm | (rw [HF.out])), HB6.out⟩
   have c3 : x.f.bars = (x.bars.length : Int) := by omega
   have hne3 : (x.f.bars != (x.bars.length : Int)) = false := by simp [c3]
   have HN3 := Qa (show decide (x.f.bars ≠ (x.bars.length : Int)) = false by simp [c3])
   clear c3
   have HC3 := Qa (show Zr 0 (Qk l) = Zr x.ver ((Qk l).drop (k + 1)) by rw [HC2.out]; unfold badW; rw [hv, decide_eq_false c1, decide_eq_false c2, HN3.out]; simp)
   clear HC2 hoks hv
   refine Qn (by kernel_rfl) (by kernel_rfl) ?_; (repeat (go_big_quiet_step ((go_at_call 145; refine Calls.regrown_of (HV.out _ (below_regrown _ _ _)))))); refine wpQuiet_nil ?_; intro w6 hb6; have HB6 := bu HB hb6; (clear d0 d1 d2 d3 d4 d5 d6 d7 d8 d9 d10 d11 g0 g1 g4 g5 g6 g7 g8 g9 g10)
   go_wp2
   go_roundw
   case rel => exact ⟨k + 1, x.ver, by omega, by go_num, rfl, HC3, HB6.out⟩
   case measure => simp [intOf]; omega
  ·obtain rfl : k = l.length := by omega
   have HF := Qa (show Q6 (Qk l) = true by rw [HWC.out, HC.out, List.drop_eq_nil_of_le (by simp [Qk])]; rfl)
   clear HC HWC
   go_wp2
   go_ret
   exact ⟨Qf (by first | exact HF.out.symm | (rw [HF.out])), HB.out⟩
end Go.Proofs.YtajijcfikihhjaaGreatDoor
