import Derived.Test.YtajijcfikihhjaaGreatDoorAAJ
set_option linter.unusedSimpArgs false
set_option linter.unusedVariables false
set_option maxRecDepth 100000
set_option maxHeartbeats 16000000
namespace Go.Proofs.YtajijcfikihhjaaGreatDoor
open Go.RowKit Go.Sort Go.Shelf
theorem ROpen_any (f : Fo) (q : Fp) (c : R3) (w : World) (hf : FoFew f) (hq : FoAt w f q) :
  Calls Tryz.prog 187 #[.agg #[.int .i64 (f).bars, .slice (q).ra (f).reps.length (q).rc, .slice (q).ea (f).ends.length (q).ec, .int .i64 (f).jump.x, .int .i64 (f).jump.y, .int .i64 (f).jump.z, .slice (q).ca (f).cuts.length (q).cc], .agg #[.int .i64 c.x, .int .i64 c.y, .int .i64 c.z]] w (RetFoF f q (Zj f c).1 (Zj f c).2 w) := by
 obtain ⟨x1, x2, x3, hb⟩ := box3 (w := w) (A := .cells #[.int .i64 (f).bars, .slice (q).ra (f).reps.length (q).rc, .slice (q).ea (f).ends.length (q).ec, .int .i64 (f).jump.x, .int .i64 (f).jump.y, .int .i64 (f).jump.z, .slice (q).ca (f).cuts.length (q).cc] 109 (0, 0)) (B := .cells #[.int .i64 c.x, .int .i64 c.y, .int .i64 c.z] 186 (0, 0)) (C := .cells #[.int .i64 0, .slice none 0 0, .slice none 0 0, .int .i64 0, .int .i64 0, .int .i64 0, .slice none 0 0] 109 (0, 0)) (Below.refl _ _)
 have HX1 := Qa x1; have HX2 := Qa x2; have HX3 := Qa x3; have HB := Qa hb
 have HV := Qa (fun V (hV : Below w.heap.size w V) => YC f q V hf (hq.below hV))
 have HN := Qa (fun V (hV : Below w.heap.size w V) => Ug c q.ca q.cc f.cuts V (by have := hf.cuts; omega) (hq.cuts.below hV))
 have HQ := Qa hq
 have HCl := Qa hf.cuts
 clear x1 x2 x3 hb hq hf
 go_enter Tryz.func187, Tryz.ntmps187
 go_upto_region 1 with (fail)
 generalize ((w.alloc (.cells #[.int .i64 (f).bars, .slice (q).ra (f).reps.length (q).rc, .slice (q).ea (f).ends.length (q).ec, .int .i64 (f).jump.x, .int .i64 (f).jump.y, .int .i64 (f).jump.z, .slice (q).ca (f).cuts.length (q).cc] 109 (0, 0))).alloc (.cells #[.int .i64 c.x, .int .i64 c.y, .int .i64 c.z] 186 (0, 0))).alloc (.cells #[.int .i64 0, .slice none 0 0, .slice none 0 0, .int .i64 0, .int .i64 0, .int .i64 0, .slice none 0 0] 109 (0, 0)) = W at *
 have hc1 := Qb HX1.out; have hc2 := Qb HX2.out; have hc3 := Qb HX3.out
 cases h1 : Qy f
 ·have HE := Qa (show Zj f c = (fo0, 1) by unfold Zj; rw [h1]; rfl)
  rw [h1] at HV
  clear h1
  go_upto_region 2 with ((go_at_call 145; refine (HV.out _ HB.out).mono ?_; rintro e w6 ⟨rfl, hb⟩; clear hc1 hc2 hc3; replace HX1 := bk HX1 hb; replace HX2 := bk HX2 hb; replace HX3 := bk HX3 hb; replace HB := bu HB hb; clear hb; have hc1 := Qb HX1.out; have hc2 := Qb HX2.out; have hc3 := Qb HX3.out))
  have hf3 := Qe HX3.out; have hz3 := Qd HX3.out; have hf1 := Qe HX1.out; have hz1 := Qd HX1.out
  go_wp2
  refine bodyPost_ret (Qi rfl _ _ (w.heap.size + 1 + 1) 109 _ (0, 0) _ rfl (QB HX3.out _ _ _ _ _ _ _) Tryz.underlying109 rfl (by kernel_rfl)) rfl ?_; rw [HE.out]; exact RetFoF.none (Qs HB.out (by omega) _ _ _ _ _ _ _)
 by_cases h3 : c ∈ f.cuts
 case neg =>
  have HE := Qa (show Zj f c = (fo0, 4) by unfold Zj; rw [h1, if_neg h3]; rfl)
  have hix : idxO (fun x => decide (x = c)) f.cuts = -1 := Q0 (fun j hj => decide_eq_false (fun e => h3 (e ▸ List.getElem_mem hj)))
  rw [h1] at HV; rw [hix] at HN
  clear h1 h3 hix
  go_upto_region 5 with (first | (go_at_call 145; refine (HV.out _ HB.out).mono ?_; rintro e w6 ⟨rfl, hb⟩; clear hc1 hc2 hc3; replace HX1 := bk HX1 hb; replace HX2 := bk HX2 hb; replace HX3 := bk HX3 hb; replace HB := bu HB hb; clear hb; have hc1 := Qb HX1.out; have hc2 := Qb HX2.out; have hc3 := Qb HX3.out) | (go_at_call 184; refine (HN.out _ HB.out).mono ?_; rintro e w8 ⟨rfl, hb⟩; clear hc1 hc2 hc3; replace HX1 := bk HX1 hb; replace HX2 := bk HX2 hb; replace HX3 := bk HX3 hb; replace HB := bu HB hb; clear hb; have hc1 := Qb HX1.out; have hc2 := Qb HX2.out; have hc3 := Qb HX3.out))
  have hf3 := Qe HX3.out; have hz3 := Qd HX3.out; have hf1 := Qe HX1.out; have hz1 := Qd HX1.out
  go_wp2
  refine bodyPost_ret (Qi rfl _ _ (w.heap.size + 1 + 1) 109 _ (0, 0) _ rfl (QB HX3.out _ _ _ _ _ _ _) Tryz.underlying109 rfl (by kernel_rfl)) rfl ?_; rw [HE.out]; exact RetFoF.none (Qs HB.out (by omega) _ _ _ _ _ _ _)
 have HE := Qa (show Zj f c = ({ f with cuts := f.cuts.erase c }, 0) by unfold Zj; rw [h1, if_pos h3]; rfl)
 obtain ⟨i, hi, hfi, her⟩ := UA c f.cuts h3
 have hix : idxO (fun x => decide (x = c)) f.cuts = (i : Int) := by unfold idxO; rw [hfi]
 rw [h1] at HV; rw [hix] at HN; rw [her] at HE
 have hi0 : ¬ (i : Int) < 0 := by omega
 have hcl := HCl.out
 have hwi : IntKind.i64.wrap ((i : Int) + 1) = (i : Int) + 1 := IntWalk.i64_in _ (by omega)
 clear h1 h3 hix hfi her
 go_upto_region 7 with (first | (go_at_call 145; refine (HV.out _ HB.out).mono ?_; rintro e w6 ⟨rfl, hb⟩; clear hc1 hc2 hc3; replace HX1 := bk HX1 hb; replace HX2 := bk HX2 hb; replace HX3 := bk HX3 hb; replace HB := bu HB hb; clear hb; have hc1 := Qb HX1.out; have hc2 := Qb HX2.out; have hc3 := Qb HX3.out) | (go_at_call 184; refine (HN.out _ HB.out).mono ?_; rintro e w8 ⟨rfl, hb⟩; clear hc1 hc2 hc3; replace HX1 := bk HX1 hb; replace HX2 := bk HX2 hb; replace HX3 := bk HX3 hb; replace HB := bu HB hb; clear hb; have hc1 := Qb HX1.out; have hc2 := Qb HX2.out; have hc3 := Qb HX3.out))
 have hz8 := Qd HX3.out
 have hlw := HB.out.size
 have hqc := HQ.out.below HB.out
 obtain ⟨b, off, hqa, _⟩ := hqc.cuts.get i hi
 have hk := hqc.okc.le
 have hcs := hqc.cuts
 rw [hqa] at hc1 hcs
 have HQa := Qa hqa
 clear hqa hqc
 have hi4 : i ≤ q.cc := by omega
 have hi5 : (0 : Int) ≤ (i : Int) := by omega
 have hi6 : (i : Int) + 1 ≤ (f.cuts.length : Int) := by omega
 have hi7 : (0 : Int) ≤ (i : Int) + 1 := by omega
 have hst := SlAt.take hcs i
 rw [← List.map_take] at hst
 go_upto_region 8 with (at_builtin; refine appE eltCu rfl (.tmp 19) (.tmp 23) rfl w8.heap.size _ [] rfl (OwnR.nil _ _ _ _) _ _ _ (f.cuts.take i) rfl (by rw [List.length_take]; omega) (fun e => by cases e) hst (by simp; omega) (Nat.le_refl _) ?_; intro v4 w9 ho4 hg4; rw [List.nil_append] at ho4)
 have hb9 : Below w8.heap.size w8 w9 := (Below.refl _ _).grown hg4 (Nat.le_refl _) (fun k e => by cases e)
 have k1 := Qc HX1.out hb9; have k3 := Qc HX3.out hb9
 have bb := HB.out.trans (hb9.mono HB.out.size)
 have hz9 := hb9.size
 have hsd := SlAt.drop (SlAt.below hcs hb9) (i + 1)
 rw [← List.map_drop] at hsd
 have hsd0 : SlAt w9 (if q.cc = i + 1 then some ⟨b, off, none⟩ else some ⟨b, off + (i + 1) * 3, none⟩) 3 ((f.cuts.drop (i + 1)).map R3.cells) := by
  split
  ·rw [List.drop_eq_nil_of_le (by omega)]; exact SlAt.nil _ _ _
  ·exact hsd
 have hnn : (if q.cc = i + 1 then some (⟨b, off, none⟩ : Addr) else some ⟨b, off + (i + 1) * 3, none⟩) = none → q.cc - (i + 1) = 0 := fun e => by split at e <;> cases e
 have HS0 := Qa hsd0; have HNn := Qa hnn
 have her : f.cuts.take i ++ f.cuts.drop (i + 1) = f.cuts.eraseIdx i := (List.eraseIdx_eq_take_drop_succ _ _).symm
 have hel : (f.cuts.eraseIdx i).length = f.cuts.length - 1 := by rw [List.length_eraseIdx, if_pos hi]
 clear hg4 hc1 hc2 hc3 hst hsd hsd0 hnn hcs
 have hc1 := Qb k1
 rw [HQa.out] at hc1
 go_upto_region 9 with (at_builtin; refine appE eltCu rfl (.tmp 25) (.tmp 30) rfl w8.heap.size _ (f.cuts.take i) rfl ho4 _ _ _ (f.cuts.drop (i + 1)) rfl (by rw [List.length_drop]) HNn.out HS0.out (by rw [List.length_take, List.length_drop]; omega) hz9 ?_; intro v5 w10 ho5 hg5; rw [her] at ho5; replace hg5 : w9.grownBy w10 v4.ownBlock := hg5; obtain ⟨a9, c9, e9, _, _⟩ := ho5.slAt; rw [List.length_map, hel] at e9; subst e9; replace k1 := (hg5.block _ (by omega) (ho4.neBlk (by omega))).trans k1; replace k3 := (hg5.block _ (by omega) (ho4.neBlk (by omega))).trans k3; replace bb := bb.grown hg5 bb.size (fun k e => by have := (ho4.lt k e).1; omega); clear hc1; have hc1 := Qb k1; have hf1 := Qe k1; have hz1 := Qd k1)
 have k1' := heap_setCell_same w10 _ 6 _ _ (.slice a9 (f.cuts.length - 1) c9) k1
 have k3' := Qo (c := w.heap.size) (i := 6) k3 (by omega) (.slice a9 (f.cuts.length - 1) c9)
 have o3' := ho5.setAt (b := w.heap.size) (i := 6) (by omega) (.slice a9 (f.cuts.length - 1) c9)
 have bb' := bb.setCell (p := ⟨w.heap.size, 6, none⟩) (Nat.le_refl _) (.slice a9 (f.cuts.length - 1) c9)
 clear k1 k3 ho5 bb hc1 hf1 hz1 hg5
 generalize w10.setCell ⟨w.heap.size, 6, none⟩ (.slice a9 (f.cuts.length - 1) c9) = W6 at *
 have hc1 := Qb k1'; have hc3 := Qb k3'; have hf3 := Qe k3'; have hz3 := Qd k3'
 go_wp2
 all_goals
  refine bodyPost_ret (Qi rfl _ _ (w.heap.size + 1 + 1) 109 _ (0, 0) _ rfl (QB k3' _ _ _ _ _ _ _) Tryz.underlying109 rfl (by kernel_rfl)) rfl ?_
  rw [HE.out]
  have p3 := (o3'.set7 (b := w.heap.size + 1 + 1) (by omega) (.int .i64 f.bars) (.slice q.ra f.reps.length q.rc) (.slice q.ea f.ends.length q.ec) (.int .i64 f.jump.x) (.int .i64 f.jump.y) (.int .i64 f.jump.z) (.slice a9 (f.cuts.length - 1) c9)).r3
  have bf := Qs bb' (b := w.heap.size + 1 + 1) (by omega) (.int .i64 f.bars) (.slice q.ra f.reps.length q.rc) (.slice q.ea f.ends.length q.ec) (.int .i64 f.jump.x) (.int .i64 f.jump.y) (.int .i64 f.jump.z) (.slice a9 (f.cuts.length - 1) c9)
  exact ⟨⟨q.ra, q.rc, q.ea, q.ec, a9, c9⟩, by simp [hel], ⟨HQ.out.reps.below bf, HQ.out.ends.below bf, p3.2, HQ.out.okr, HQ.out.oke, p3.1⟩, bf, ⟨.inl ⟨rfl, rfl⟩, .inl ⟨rfl, rfl⟩, .inr (o3'.newB (by omega))⟩⟩
theorem RWholeT_any (f : Fo) (q' : Fp) (V : World) (kk : Nat) (t : Int) (hf : FoFew f) (hb0 : 0 ≤ f.bars) (hr : ∀ r ∈ (QC f kk t).reps, 0 ≤ r.x ∧ r.x < r.y ∧ r.y ≤ (QC f kk t).bars ∧ 1 ≤ r.z ∧ r.z ≤ 9) (hj : Q5 (QC f kk t) = true) (hm : R3At V q'.ra (QC f kk t).reps) (hm2 : R3At V q'.ea f.ends) :
  Calls Tryz.prog 185 #[.agg #[.int .i64 (f).bars, .slice (q').ra (f).reps.length (q').rc, .slice (q').ea (f).ends.length (q').ec, .int .i64 (f).jump.x, .int .i64 (f).jump.y, .int .i64 (f).jump.z, .slice (q').ca (f).cuts.length (q').cc]] V fun e w' => ∃ a n c, e = .returned (.slice a n c) ∧ n ≤ 20000 ∧ Below V.heap.size V w' := by
 have h := UZ (QC f kk t) q' V (JN hf _ _) hb0 hr hj hm hm2
 have hl : (QC f kk t).reps.length = f.reps.length := by unfold QC; exact List.length_modify _ _ _
 have hw := Zz (f := QC f kk t) hf.bars hr hj
 generalize Zi (QC f kk t) = L at *
 rw [hl] at h
 refine Calls.mono h ?_
 rintro e w' ⟨v, rfl, ho, hb⟩
 obtain ⟨a, c, e1, _, _⟩ := ho.slAt
 rw [List.length_map] at e1
 subst e1
 exact ⟨a, L.length, c, rfl, hw, hb⟩
theorem RTimes_any (f : Fo) (q : Fp) (k t : Int) (w : World) (hf : FoFew f) (hq : FoAt w f q) :
  Calls Tryz.prog 188 #[.agg #[.int .i64 (f).bars, .slice (q).ra (f).reps.length (q).rc, .slice (q).ea (f).ends.length (q).ec, .int .i64 (f).jump.x, .int .i64 (f).jump.y, .int .i64 (f).jump.z, .slice (q).ca (f).cuts.length (q).cc], .int .i64 k, .int .i64 t] w (RetFoF f q (QW f k t).1 (QW f k t).2 w) := by
 obtain ⟨x1, x3, hb⟩ := box2 (w := w) (A := .cells #[.int .i64 (f).bars, .slice (q).ra (f).reps.length (q).rc, .slice (q).ea (f).ends.length (q).ec, .int .i64 (f).jump.x, .int .i64 (f).jump.y, .int .i64 (f).jump.z, .slice (q).ca (f).cuts.length (q).cc] 109 (0, 0)) (B := .cells #[.int .i64 0, .slice none 0 0, .slice none 0 0, .int .i64 0, .int .i64 0, .int .i64 0, .slice none 0 0] 109 (0, 0)) (Below.refl _ _)
 have HX1 := Qa x1; have HX3 := Qa x3; have HB := Qa hb
 have HV := Qa (fun V (hV : Below w.heap.size w V) => YC f q V hf (hq.below hV))
 have HQ := Qa hq
 have HF := Qa hf
 clear x1 x3 hb hq hf
 go_enter Tryz.func188, Tryz.ntmps188
 go_upto_region 1 with (fail)
 generalize (w.alloc (.cells #[.int .i64 (f).bars, .slice (q).ra (f).reps.length (q).rc, .slice (q).ea (f).ends.length (q).ec, .int .i64 (f).jump.x, .int .i64 (f).jump.y, .int .i64 (f).jump.z, .slice (q).ca (f).cuts.length (q).cc] 109 (0, 0))).alloc (.cells #[.int .i64 0, .slice none 0 0, .slice none 0 0, .int .i64 0, .int .i64 0, .int .i64 0, .slice none 0 0] 109 (0, 0)) = W at *
 have hc1 := Qb HX1.out; have hc3 := Qb HX3.out
 cases h1 : Qy f
 ·have HE := Qa (show QW f k t = (fo0, 1) by unfold QW; rw [h1]; rfl)
  rw [h1] at HV
  clear h1
  go_upto_region 2 with ((go_at_call 145; refine (HV.out _ HB.out).mono ?_; rintro e w6 ⟨rfl, hb⟩; clear hc1 hc3; replace HX1 := bk HX1 hb; replace HX3 := bk HX3 hb; replace HB := bu HB hb; clear hb; have hc1 := Qb HX1.out; have hc3 := Qb HX3.out))
  have hf3 := Qe HX3.out; have hz3 := Qd HX3.out; have hf1 := Qe HX1.out; have hz1 := Qd HX1.out
  go_wp2
  refine bodyPost_ret (Qi rfl _ _ (w.heap.size + 1) 109 _ (0, 0) _ rfl (QB HX3.out _ _ _ _ _ _ _) Tryz.underlying109 rfl (by kernel_rfl)) rfl ?_; rw [HE.out]; exact RetFoF.none (Qs HB.out (by omega) _ _ _ _ _ _ _)
 by_cases h2 : k < 0
 ·have HE := Qa (Jp (t := t) h1 (.inl h2))
  rw [h1] at HV
  clear h1
  go_upto_region 4 with ((go_at_call 145; refine (HV.out _ HB.out).mono ?_; rintro e w6 ⟨rfl, hb⟩; clear hc1 hc3; replace HX1 := bk HX1 hb; replace HX3 := bk HX3 hb; replace HB := bu HB hb; clear hb; have hc1 := Qb HX1.out; have hc3 := Qb HX3.out))
  have hf3 := Qe HX3.out; have hz3 := Qd HX3.out; have hf1 := Qe HX1.out; have hz1 := Qd HX1.out
  go_wp2
  refine bodyPost_ret (Qi rfl _ _ (w.heap.size + 1) 109 _ (0, 0) _ rfl (QB HX3.out _ _ _ _ _ _ _) Tryz.underlying109 rfl (by kernel_rfl)) rfl ?_; rw [HE.out]; exact RetFoF.none (Qs HB.out (by omega) _ _ _ _ _ _ _)
 by_cases h3 : (f.reps.length : Int) ≤ k
 ·have HE := Qa (Jp (t := t) h1 (.inr h3))
  rw [h1] at HV
  clear h1
  go_upto_region 4 with ((go_at_call 145; refine (HV.out _ HB.out).mono ?_; rintro e w6 ⟨rfl, hb⟩; clear hc1 hc3; replace HX1 := bk HX1 hb; replace HX3 := bk HX3 hb; replace HB := bu HB hb; clear hb; have hc1 := Qb HX1.out; have hc3 := Qb HX3.out))
  have hf3 := Qe HX3.out; have hz3 := Qd HX3.out; have hf1 := Qe HX1.out; have hz1 := Qd HX1.out
  go_wp2
  refine bodyPost_ret (Qi rfl _ _ (w.heap.size + 1) 109 _ (0, 0) _ rfl (QB HX3.out _ _ _ _ _ _ _) Tryz.underlying109 rfl (by kernel_rfl)) rfl ?_; rw [HE.out]; exact RetFoF.none (Qs HB.out (by omega) _ _ _ _ _ _ _)
 by_cases h4 : t < 1
 ·have HE := Qa (Jq h1 (show ¬ (k < 0 ∨ (f.reps.length : Int) ≤ k) by omega) (.inl h4))
  rw [h1] at HV
  clear h1
  go_upto_region 6 with ((go_at_call 145; refine (HV.out _ HB.out).mono ?_; rintro e w6 ⟨rfl, hb⟩; clear hc1 hc3; replace HX1 := bk HX1 hb; replace HX3 := bk HX3 hb; replace HB := bu HB hb; clear hb; have hc1 := Qb HX1.out; have hc3 := Qb HX3.out))
  have hf3 := Qe HX3.out; have hz3 := Qd HX3.out; have hf1 := Qe HX1.out; have hz1 := Qd HX1.out
  go_wp2
  refine bodyPost_ret (Qi rfl _ _ (w.heap.size + 1) 109 _ (0, 0) _ rfl (QB HX3.out _ _ _ _ _ _ _) Tryz.underlying109 rfl (by kernel_rfl)) rfl ?_; rw [HE.out]; exact RetFoF.none (Qs HB.out (by omega) _ _ _ _ _ _ _)
 by_cases h5 : 9 < t
 ·have HE := Qa (Jq h1 (show ¬ (k < 0 ∨ (f.reps.length : Int) ≤ k) by omega) (.inr h5))
  rw [h1] at HV
  clear h1
  go_upto_region 6 with ((go_at_call 145; refine (HV.out _ HB.out).mono ?_; rintro e w6 ⟨rfl, hb⟩; clear hc1 hc3; replace HX1 := bk HX1 hb; replace HX3 := bk HX3 hb; replace HB := bu HB hb; clear hb; have hc1 := Qb HX1.out; have hc3 := Qb HX3.out))
  have hf3 := Qe HX3.out; have hz3 := Qd HX3.out; have hf1 := Qe HX1.out; have hz1 := Qd HX1.out
  go_wp2
  refine bodyPost_ret (Qi rfl _ _ (w.heap.size + 1) 109 _ (0, 0) _ rfl (QB HX3.out _ _ _ _ _ _ _) Tryz.underlying109 rfl (by kernel_rfl)) rfl ?_; rw [HE.out]; exact RetFoF.none (Qs HB.out (by omega) _ _ _ _ _ _ _)
 obtain ⟨kk, rfl⟩ : ∃ kk : Nat, k = kk := ⟨k.toNat, by omega⟩
 have hv' := h1
 unfold Qy at hv'
 simp only [Bool.and_eq_true, decide_eq_true_eq] at hv'
 obtain ⟨⟨⟨⟨⟨⟨hv1, hv2⟩, hv3⟩, hv4⟩, hv5⟩, hv6⟩, hv7⟩ := hv'
 obtain ⟨hr2, hj2⟩ := timesF_ok (k := kk) (t := t) ⟨by omega, by omega⟩ (ZN hv3) hv5
 have hsh := timesF_short HF.out hr2 hj2
 have HE := Qa (timesR_0 h1 (show ¬ ((kk : Int) < 0 ∨ (f.reps.length : Int) ≤ (kk : Int)) by omega) (show ¬ (t < 1 ∨ 9 < t) by omega) hsh)
 have hki : kk < f.reps.length := by omega
 have HSs := Qa (fun (q' : Fp) (V : World) => RWholeT_any f q' V kk t HF.out (by omega) hr2 hj2)
 rw [h1] at HV
 clear h1 hv1 hv2 hv3 hv4 hv5 hv6 hv7 hr2 hj2 hsh
 go_upto_region 8 with ((go_at_call 145; refine (HV.out _ HB.out).mono ?_; rintro e w6 ⟨rfl, hb⟩; clear hc1 hc3; replace HX1 := bk HX1 hb; replace HX3 := bk HX3 hb; replace HB := bu HB hb; clear hb; have hc1 := Qb HX1.out; have hc3 := Qb HX3.out))
 have hz8 := Qd HX3.out
 have hqc := HQ.out.below HB.out
 have hfr := HF.out.reps
 go_upto_region 9 with (at_builtin; refine appE eltRe rfl (.tmp 30) (.tmp 32) rfl w6.heap.size _ [] rfl (OwnR.nil _ _ _ _) _ _ _ f.reps rfl rfl hqc.okr.none hqc.reps (by simp; omega) (Nat.le_refl _) ?_; intro v4 w9 ho4 hg4; rw [List.nil_append] at ho4)
 have hb9 : Below w6.heap.size w6 w9 := (Below.refl _ _).grown hg4 (Nat.le_refl _) (fun k e => by cases e)
 have k1 := Qc HX1.out hb9; have k3 := Qc HX3.out hb9
 have bb := HB.out.trans (hb9.mono HB.out.size)
 obtain ⟨g, cap, cur, e3, hg3, kg⟩ : ∃ g cap cur, v4 = .slice (some ⟨g, 0, none⟩) (f.reps.map R3.cells).length cap ∧ w6.heap.size ≤ g ∧ w9.heap[g]? = some (.cells cur 254 (0, 0)) := by
  obtain ⟨_, ⟨_, h0⟩ | ⟨g, cap, cur, e3, hg3, hgz, _⟩⟩ := ho4.own
  ·rw [List.length_map] at h0; omega
  ·exact ⟨g, cap, cur, e3, hg3, hgz⟩
 rw [List.length_map] at e3
 subst e3
 have r1 := ho4.r3
 obtain ⟨b0, off, e0, _, _, _, d2⟩ := r1.2.get kk hki
 cases e0
 rw [Nat.zero_add] at d2
 generalize f.reps[kk].z = zz at d2
 have R1 := Qa r1
 clear r1 h2 h3 hc1 hc3 hqc hg4
 have hfg := Qe kg
 have hk0 : (0 : Int) ≤ (kk : Int) := by omega
 have hk1 : (kk : Int) < (f.reps.length : Int) := by omega
 go_upto_region 10 with (fail)
 have k1' := Qo (c := g) (i := kk * 3 + 2) k1 (by omega) (.int .i64 t)
 have k3' := Qo (c := g) (i := kk * 3 + 2) k3 (by omega) (.int .i64 t)
 have r' : R3At (w9.setCell ⟨g, kk * 3 + 2, none⟩ (.int .i64 t)) (some ⟨g, 0, none⟩) (QC f kk t).reps := times_at R1.out.2 kk hki t
 have bb' := bb.setCell (p := ⟨g, kk * 3 + 2, none⟩) (show w.heap.size ≤ g by omega) (.int .i64 t)
 clear k1 k3 kg bb hfg d2 ho4 hb9
 generalize w9.setCell ⟨g, kk * 3 + 2, none⟩ (.int .i64 t) = W6 at *
 have hc1 := Qb k1'; have hf1 := Qe k1'; have hz1 := Qd k1'
 go_upto_region 11 with (fail)
 have k1'' : (W6.setCell ⟨w.heap.size, 1, none⟩ (.slice (some ⟨g, 0, none⟩) f.reps.length cap)).heap[w.heap.size]? = some (.cells #[.int .i64 f.bars, .slice (some ⟨g, 0, none⟩) f.reps.length cap, .slice q.ea f.ends.length q.ec, .int .i64 f.jump.x, .int .i64 f.jump.y, .int .i64 f.jump.z, .slice q.ca f.cuts.length q.cc] 109 (0, 0)) := heap_setCell_same W6 _ 1 _ _ (.slice (some ⟨g, 0, none⟩) f.reps.length cap) k1'
 have k3'' := Qo (c := w.heap.size) (i := 1) k3' (by omega) (.slice (some ⟨g, 0, none⟩) f.reps.length cap)
 have r'' : R3At (W6.setCell ⟨w.heap.size, 1, none⟩ (.slice (some ⟨g, 0, none⟩) f.reps.length cap)) (some ⟨g, 0, none⟩) (QC f kk t).reps := SlAt.setAt (k := 1) r' (by omega) _
 have bb'' := bb'.setCell (p := ⟨w.heap.size, 1, none⟩) (Nat.le_refl _) (.slice (some ⟨g, 0, none⟩) f.reps.length cap)
 clear k1' k3' r' bb' hc1 hf1 hz1
 generalize W6.setCell ⟨w.heap.size, 1, none⟩ (.slice (some ⟨g, 0, none⟩) f.reps.length cap) = W7 at *
 have hc1 := Qb k1''
 have HSh := Qa (HSs.out ⟨some ⟨g, 0, none⟩, cap, q.ea, q.ec, q.ca, q.cc⟩ W7 r'' (HQ.out.ends.below bb''))
 go_upto_region 13 with (go_at_call 185; refine HSh.out.mono ?_; rintro e w11 ⟨a11, n11, c11, rfl, hn11, hb⟩; have hn' : ¬ (20000 : Int) < (n11 : Int) := (by omega); clear hc1; replace k1'' := Qc k1'' hb; replace k3'' := Qc k3'' hb; replace r'' := r''.below hb; replace bb'' := bb''.trans (hb.mono bb''.size); clear hb; have hc1 := Qb k1'')
 have hc3 := Qb k3''; have hf3 := Qe k3''; have hz3 := Qd k3''
 go_wp2
 refine bodyPost_ret (Qi rfl _ _ (w.heap.size + 1) 109 _ (0, 0) _ rfl (QB k3'' _ _ _ _ _ _ _) Tryz.underlying109 rfl (by kernel_rfl)) rfl ?_
 rw [HE.out]
 have p1 := SlAt.set7 (b := w.heap.size + 1) r'' (by omega) (.int .i64 f.bars) (.slice (some ⟨g, 0, none⟩) f.reps.length cap) (.slice q.ea f.ends.length q.ec) (.int .i64 f.jump.x) (.int .i64 f.jump.y) (.int .i64 f.jump.z) (.slice q.ca f.cuts.length q.cc)
 have bf := Qs bb'' (b := w.heap.size + 1) (by omega) (.int .i64 f.bars) (.slice (some ⟨g, 0, none⟩) f.reps.length cap) (.slice q.ea f.ends.length q.ec) (.int .i64 f.jump.x) (.int .i64 f.jump.y) (.int .i64 f.jump.z) (.slice q.ca f.cuts.length q.cc)
 have hl : (QC f kk t).reps.length = f.reps.length := by unfold QC; exact List.length_modify _ _ _
 exact ⟨⟨some ⟨g, 0, none⟩, cap, q.ea, q.ec, q.ca, q.cc⟩, by rw [hl]; rfl, ⟨p1, HQ.out.ends.below bf, HQ.out.cuts.below bf, by rw [hl]; exact R1.out.1, HQ.out.oke, HQ.out.okc⟩, bf, ⟨.inr (fun ad e => (by cases e; show w.heap.size ≤ g; omega)), .inl ⟨rfl, rfl⟩, .inl ⟨rfl, rfl⟩⟩⟩
theorem rowI_mem {f : Fo} {pass i b : Int} {n : Nat} (h : b ∈ rowI f pass i n) : i ≤ b ∧ b < i + n := by
 unfold rowI at h
 exact upI_mem (List.mem_filter.1 h).1
theorem passI_mem {f : Fo} {r : R3} {b : Int} (hr : r.x < r.y) : ∀ (m : Nat) (pass : Int), b ∈ ZJ f r pass m → r.x ≤ b ∧ b < r.y
 | 0, _, h => by cases h
 | m + 1, pass, h => by
  rw [Jc, List.mem_append] at h
  rcases h with h | h
  ·have := rowI_mem h; omega
  ·exact passI_mem hr m _ h
theorem UP {f : Fo} {b : Int} (hr : ∀ r ∈ f.reps, 0 ≤ r.x ∧ r.x < r.y ∧ r.y ≤ f.bars ∧ 1 ≤ r.z ∧ r.z ≤ 9) (all : Bool) (u : Int) (hu : u ≤ f.bars) : ∀ (n : Nat) (bar : Int), 0 ≤ bar → b ∈ ZV f all u n bar → 0 ≤ b ∧ b < f.bars
 | 0, _, _, h => by cases h
 | n + 1, bar, h0, h => by
  rw [ZV] at h
  by_cases hb : bar < u
  ·rw [if_pos hb] at h
   cases e : Z4 f.reps bar with
   | none =>
    rw [e] at h
    rcases List.mem_cons.1 h with rfl | h
    ·omega
    ·exact UP hr all u hu n (bar + 1) (by omega) h
   | some r =>
    rw [e] at h
    obtain ⟨hm, hx⟩ := ZI e
    have hrr := hr r hm
    rcases List.mem_append.1 h with h | h
    ·unfold Ui at h
     have := passI_mem hrr.2.1 _ _ h
     omega
    ·exact UP hr all u hu n r.y (by omega) h
  ·rw [if_neg hb] at h; cases h
theorem whole_mem {f : Fo} (hb0 : 0 ≤ f.bars) (hr : ∀ r ∈ f.reps, 0 ≤ r.x ∧ r.x < r.y ∧ r.y ≤ f.bars ∧ 1 ≤ r.z ∧ r.z ≤ 9) (hj : Q5 f = true) : ∀ b ∈ Zi f, 0 ≤ b ∧ b < f.bars := by
 intro b hb
 rcases jumpB_cases hj with e | ⟨hn, h1, h2, h3, h4, h5⟩
 ·rw [whole_plain e] at hb
  exact UP hr _ _ (Int.le_refl _) _ _ (Int.le_refl _) hb
 ·rw [whole_jump hn, List.mem_append] at hb
  rcases hb with hb | hb
  ·exact UP hr _ _ h2 _ _ (Int.le_refl _) hb
  ·exact UP hr _ _ h5 _ _ h3 hb
def UU (f : Fo) (q : Fp) (V : World) : Prop := Calls Tryz.prog 192 #[.agg #[.int .i64 (f).bars, .slice (q).ra (f).reps.length (q).rc, .slice (q).ea (f).ends.length (q).ec, .int .i64 (f).jump.x, .int .i64 (f).jump.y, .int .i64 (f).jump.z, .slice (q).ca (f).cuts.length (q).cc]] V fun e w' => ∃ a c, e = .returned (.slice a (visL (Zi f)).length c) ∧ ViAt w' a (visL (Zi f)) ∧ Below V.heap.size V w'
theorem RUnfold_of (f : Fo) (q : Fp) (w : World) (hf : FoFew f) (hq : FoAt w f q) (hW : Qy f = true → ∀ V, Below w.heap.size w V → UU f q V) :
  Calls Tryz.prog 150 #[.agg #[.int .i64 (f).bars, .slice (q).ra (f).reps.length (q).rc, .slice (q).ea (f).ends.length (q).ec, .int .i64 (f).jump.x, .int .i64 (f).jump.y, .int .i64 (f).jump.z, .slice (q).ca (f).cuts.length (q).cc]] w (RetSlI 2 ((unfR f).1.map viRow) (unfR f).2 w) := by
 have hx := heap_alloc_new w (.cells #[.int .i64 (f).bars, .slice (q).ra (f).reps.length (q).rc, .slice (q).ea (f).ends.length (q).ec, .int .i64 (f).jump.x, .int .i64 (f).jump.y, .int .i64 (f).jump.z, .slice (q).ca (f).cuts.length (q).cc] 109 (0, 0))
 have hb := (RowKit.Below.refl w.heap.size w).alloc (Nat.le_refl _) (.cells #[.int .i64 (f).bars, .slice (q).ra (f).reps.length (q).rc, .slice (q).ea (f).ends.length (q).ec, .int .i64 (f).jump.x, .int .i64 (f).jump.y, .int .i64 (f).jump.z, .slice (q).ca (f).cuts.length (q).cc] 109 (0, 0))
 have HX := Qa hx; have HB := Qa hb
 have HV := Qa (fun V (hV : Below w.heap.size w V) => YC f q V hf (hq.below hV))
 have HQ := Qa hq; have HF := Qa hf; have HWh := Qa hW
 clear hx hb hq hf hW
 go_enter Tryz.func150, Tryz.ntmps150
 go_upto_region 1 with (fail)
 generalize w.alloc (.cells #[.int .i64 (f).bars, .slice (q).ra (f).reps.length (q).rc, .slice (q).ea (f).ends.length (q).ec, .int .i64 (f).jump.x, .int .i64 (f).jump.y, .int .i64 (f).jump.z, .slice (q).ca (f).cuts.length (q).cc] 109 (0, 0)) = W at *
 have hc := Qb HX.out
 cases hv : Qy f
 ·rw [hv] at HV
  have HU := Qa (show unfR f = ([], 1) by unfold unfR; rw [hv]; rfl)
  clear hv HWh
  go_wp2_with ((go_at_call 145; refine (HV.out _ HB.out).mono ?_; rintro e w6 ⟨rfl, hb⟩; clear hc; replace HX := bk HX hb; replace HB := bu HB hb; clear hb; have hc := Qb HX.out))
  refine bodyPost_ret (results_tmp2 rfl _ _ _) rfl ?_
  rw [HU.out]
  exact RetSlI.none HB.out
 have HWa := Qa (HWh.out hv)
 have hwl : (Zi f).length ≤ 20000 := by
  have hv' := hv
  unfold Qy at hv'
  simp only [Bool.and_eq_true, decide_eq_true_eq] at hv'
  obtain ⟨⟨⟨⟨⟨⟨hv1, hv2⟩, hv3⟩, hv4⟩, hv5⟩, hv6⟩, hv7⟩ := hv'
  exact Zz HF.out.bars (ZN hv3) hv5
 rw [hv] at HV
 have HU := Qa (show unfR f = ((visL (Zi f)).filter (fun v => !f.cuts.any (ZO v)), 0) by unfold unfR; rw [hv]; rfl)
 have hll := JX (Zi f)
 unfold UU at HWa
 clear hv HWh
 generalize visL (Zi f) = L at *
 rw [← hll] at hwl
 clear hll
 go_upto_region 4 with (first | (go_at_call 145; refine (HV.out _ HB.out).mono ?_; rintro e w6 ⟨rfl, hb⟩; clear hc; replace HX := bk HX hb; replace HB := bu HB hb; clear hb; have hc := Qb HX.out) | (go_at_call 192; refine (HWa.out _ HB.out).mono ?_; rintro e w7 ⟨a, cp, rfl, hL, hb⟩; clear hc; replace HX := bk HX hb; replace HB := bu HB hb; clear hb; have HL := Qa hL; clear hL))
 go_upto_region 5 with (fail)
 go_wp2
 go_loopw [5, 6] (fun s5 s6 wi => ∃ k : Nat, k ≤ L.length ∧ s6 = .int .i64 k ∧ OwnR wi w7.heap.size 130 2 s5 (((L.take k).filter (fun v => !f.cuts.any (ZO v))).map viRow) ∧ wi.heap[w.heap.size]? = some (.cells #[.int .i64 (f).bars, .slice (q).ra (f).reps.length (q).rc, .slice (q).ea (f).ends.length (q).ec, .int .i64 (f).jump.x, .int .i64 (f).jump.y, .int .i64 (f).jump.z, .slice (q).ca (f).cuts.length (q).cc] 109 (0, 0)) ∧ Below w7.heap.size w7 wi) (fun _ s6 _ => L.length - (intOf s6).toNat)
 case atStart => exact ⟨0, Nat.zero_le _, rfl, OwnR.nil _ _ _ _, HX.out, Below.refl _ _⟩
 case round =>
  obtain ⟨k, hk, rfl, ho, hx, hb⟩ := hrel
  have hlx := Qd HX.out
  clear HX
  have HO := Qa ho; have HX := Qa hx; have HK := Qa hb
  clear ho hx hb
  have hc := Qb HX.out
  by_cases hlt : k < L.length
  ·have hLr := ViAt.below HL.out HK.out
   obtain ⟨b, off, e, _, d0, d1⟩ := hLr.get k hlt
   have hli : (k : Int) < (L.length : Int) := by omega
   have HTk := Qa (show (L.take (k + 1)).filter (fun v => !f.cuts.any (ZO v)) = (L.take k).filter (fun v => !f.cuts.any (ZO v)) ++ (if !f.cuts.any (ZO L[k]) then [L[k]] else []) by
    rw [List.take_succ_eq_append_getElem hlt, List.filter_append]; simp [List.filter_cons])
   have hfl : ((L.take k).filter (fun v => !f.cuts.any (ZO v))).length ≤ k := Nat.le_trans (List.length_filter_le _ _) (by rw [List.length_take]; omega)
   subst e
   clear hLr
   have HTake := HTk
   generalize L[k] = v at *
   go_upto_region 9 with (fail)
   go_wp2
   clear hc
   go_loopw [7, 8] (fun s7 s8 wi => ∃ j : Nat, j ≤ f.cuts.length ∧ s8 = .int .i64 j ∧ s7 = .bool ((f.cuts.take j).any (ZO v)) ∧ Below wr.heap.size wr wi) (fun _ s8 _ => f.cuts.length - (intOf s8).toNat)
   case atStart => exact ⟨0, Nat.zero_le _, rfl, rfl, Below.refl _ _⟩
   case round =>
    obtain ⟨j, hj, rfl, rfl, hb⟩ := hrel
    have HI := Qa hb
    have HXi := bk HX hb
    have e0 := Qq d0 hb; have e1 := Qq d1 hb
    clear hb
    have hc := Qb HXi.out
    by_cases hltj : j < f.cuts.length
    ·have hbw := HB.out.trans ((HK.out.trans (HI.out.mono HK.out.size)).mono HB.out.size)
     obtain ⟨cb, co, ec, _, c0, c1, c2⟩ := (HQ.out.cuts.below hbw).get j hltj
     have hlj : (j : Int) < (f.cuts.length : Int) := by omega
     have hjb := HF.out.cuts
     have hwj : IntKind.i64.wrap ((j : Int) + 1) = (j : Int) + 1 := IntWalk.i64_in _ (by omega)
     have HS := Qa (show (f.cuts.take (j + 1)).any (ZO v) = ((f.cuts.take j).any (ZO v) || ZO v f.cuts[j]) by rw [List.take_succ_eq_append_getElem hltj, List.any_append]; simp)
     rw [ec] at hc
     clear ec hbw
     have HLv := Qa (fun V => RLeaves_any f.cuts[j] v V)
     generalize f.cuts[j] = d at *
     generalize (f.cuts.take j).any (ZO v) = A at *
     generalize ZO v d = Lv at *
     have g6 := cell_regrown (hc 6); have g0 := cell_regrown c0; have g1 := cell_regrown c1; have g2 := cell_regrown c2; have g3 := cell_regrown e0; have g4 := cell_regrown e1
     go_upto_region 12 with (fail)
     cases A
     all_goals
      refine Qn (by kernel_rfl) (by kernel_rfl) ?_
      (repeat (go_big_quiet_step ((go_at_call 193; refine Calls.regrown_of (HLv.out _)))))
      refine wpQuiet_nil ?_
      intro w10 hb
      clear g0 g1 g2 g3 g4 g6 c0 c1 c2 e0 e1 hc
      go_wp2
      go_roundw
      case rel => exact ⟨j + 1, by omega, by go_num, by rw [HS.out]; rfl, HI.out.trans (hb.mono HI.out.size)⟩
      case measure => simp [intOf]; omega
    ·obtain rfl : j = f.cuts.length := by omega
     have HO2 := Qa (HO.out.below HI.out)
     have HK2 := Qa (HK.out.trans (HI.out.mono HK.out.size))
     have hwk : IntKind.i64.wrap ((k : Int) + 1) = (k : Int) + 1 := IntWalk.i64_in _ (by omega)
     have hks := HK2.out.size
     have hTl : f.cuts.take f.cuts.length = f.cuts := List.take_length
     rw [hTl]
     clear hTl
     cases hA : f.cuts.any (ZO v)
     ·rw [hA] at HTk
      go_wp2_with (at_builtin; refine appE eltVi rfl (.tmp 42) (.tmp 47) rfl w7.heap.size _ ((L.take k).filter (fun v => !f.cuts.any (ZO v))) rfl (HO2.out.below (Qg _)) _ _ _ [v] rfl rfl (fun e => by cases e) (eltVi.new _ _ _ _ rfl) (by simp; omega) (by simp; omega) ?_; intro v5 w10 ho5 hg5; have HO5 := Qa ho5; have HX5 := Qa ((hg5.block _ (by have := Qd HXi.out; simp; omega) (HO2.out.neBlk hlx)).trans (Qj HXi.out _)); have HK5 := Qa ((HK2.out.alloc hks (.cells #[.int .i64 v.1, .int .i64 v.2] 130)).grown hg5 (by simp; omega) (fun k e => (HO2.out.lt k e).1)))
      exact ⟨⟨k + 1, by omega, by go_num, by rw [HTk.out]; exact HO5.out, HX5.out, HK5.out⟩, by simp [intOf]; omega⟩
     ·rw [hA] at HTk
      go_wp2
      exact ⟨⟨k + 1, by omega, by go_num, by rw [HTk.out]; simpa using HO2.out, HXi.out, HK2.out⟩, by simp [intOf]; omega⟩
  ·obtain rfl : k = L.length := by omega
   have ho := HO.out
   rw [List.take_length] at ho
   have HU2 := HU
   go_wp2
   refine bodyPost_ret (results_tmp2 rfl _ _ _) rfl ?_
   rw [HU.out]
   obtain ⟨a9, c9, rfl, h1, h2⟩ := ho.slAt
   exact ⟨a9, c9, rfl, h1, h2, HB.out.trans (HK.out.mono HB.out.size)⟩
theorem RFind_of (f : Fo) (q : Fp) (v : Int × Int) (w : World) (hf : FoFew f) (hq : FoAt w f q) (hW : Qy f = true → ∀ V, Below w.heap.size w V → UU f q V) :
  Calls Tryz.prog 117 #[.agg #[.int .i64 (f).bars, .slice (q).ra (f).reps.length (q).rc, .slice (q).ea (f).ends.length (q).ec, .int .i64 (f).jump.x, .int .i64 (f).jump.y, .int .i64 (f).jump.z, .slice (q).ca (f).cuts.length (q).cc], .agg #[.int .i64 v.1, .int .i64 v.2]] w fun e w' => e = .returned (.tuple #[.int .i64 (Yi f v).1.1, .bool (Yi f v).1.2, .int .i64 (Yi f v).2]) ∧ Below w.heap.size w w' := by
 obtain ⟨x1, x2, hb⟩ := box2 (w := w) (A := .cells #[.int .i64 (f).bars, .slice (q).ra (f).reps.length (q).rc, .slice (q).ea (f).ends.length (q).ec, .int .i64 (f).jump.x, .int .i64 (f).jump.y, .int .i64 (f).jump.z, .slice (q).ca (f).cuts.length (q).cc] 109 (0, 0)) (B := .cells #[.int .i64 v.1, .int .i64 v.2] 130 (0, 0)) (Below.refl _ _)
 have HU := Qa (RUnfold_of f q _ hf (hq.below hb) (fun h V hV => hW h V (hb.trans (hV.mono hb.size))))
 have HF := Qa (findR_eq f v)
 have hul : (unfL f).length ≤ 100000 ∨ Qy f = false := by
  cases hv : Qy f
  ·exact .inr rfl
  ·left
   unfold Qy at hv
   simp only [Bool.and_eq_true, decide_eq_true_eq] at hv
   obtain ⟨⟨⟨⟨⟨⟨hv1, hv2⟩, hv3⟩, hv4⟩, hv5⟩, hv6⟩, hv7⟩ := hv
   have h1 := Zz hf.bars (ZN hv3) hv5
   have h2 : (unfL f).length ≤ (visL (Zi f)).length := List.length_filter_le _ _
   rw [JX] at h2
   omega
 have HUf := Qa (show unfR f = if Qy f then (unfL f, 0) else ([], 1) from rfl)
 have HB := Qa hb
 clear hq hb hW
 go_enter Tryz.func117, Tryz.ntmps117
 go_upto_region 1 with (fail)
 generalize (w.alloc (.cells #[.int .i64 (f).bars, .slice (q).ra (f).reps.length (q).rc, .slice (q).ea (f).ends.length (q).ec, .int .i64 (f).jump.x, .int .i64 (f).jump.y, .int .i64 (f).jump.z, .slice (q).ca (f).cuts.length (q).cc] 109 (0, 0))).alloc (.cells #[.int .i64 v.1, .int .i64 v.2] 130 (0, 0)) = W at *
 have hc := Qb x1; have hd := Qb x2
 cases hv : Qy f
 ·rw [hv] at HF HUf
  rw [HUf.out] at HU
  have HF2 := Qa (show Yi f v = ((0, false), 1) from HF.out)
  clear hv HF HUf
  go_wp2_with (go_at_call 150; refine HU.out.mono ?_; rintro e w2 ⟨a, cap, rfl, hk, hs, hb⟩; have HB2 := bu HB hb; clear hs hk hb)
  refine bodyPost_ret (results_tmp3 rfl _ _ _) rfl ?_
  rw [HF2.out]
  exact ⟨rfl, HB2.out⟩
 rw [hv] at HF HUf hul
 rw [HUf.out] at HU
 have HF2 := Qa (show Yi f v = ((max (idxO (fun x => decide (x = v)) (unfL f)) 0, decide (0 ≤ idxO (fun x => decide (x = v)) (unfL f))), 0) from HF.out)
 have hll : (unfL f).length ≤ 100000 := hul.resolve_right (by decide)
 clear hv HF HUf hul
 go_upto_region 4 with (go_at_call 150; refine HU.out.mono ?_; rintro e w2 ⟨a, cap, rfl, hk, hs, hb⟩; have HB2 := bu HB hb; have HX2 := Qa (Qc x2 hb); have HM := Qa (show ViAt w2 a (unfL f) from hs); clear hs hk hb)
 clear hc hd HU x1 x2
 generalize unfL f = ds at *
 go_wp2
 go_loopw [9] (fun i wr => ∃ k : Nat, k ≤ ds.length ∧ i = .int .i64 k ∧ (∀ j (hj : j < ds.length), j < k → decide (ds[j] = v) = false) ∧ wr.heap[w.heap.size + 1]? = some (.cells #[.int .i64 v.1, .int .i64 v.2] 130 (0, 0)) ∧ Below w2.heap.size w2 wr) (fun i _ => ds.length - (intOf i).toNat)
 case atStart => exact ⟨0, Nat.zero_le _, rfl, fun j hj h => by omega, HX2.out, Below.refl _ _⟩
 case round =>
  obtain ⟨k, hk, rfl, hall, hxr, hb⟩ := hrel
  have HA := Qa hall; have HB3 := Qa hb; have HXr := Qa hxr
  clear hall hb hxr HX2
  by_cases hlt : k < ds.length
  ·obtain ⟨b, off, rfl, _, d0, d1⟩ := (HM.out.below HB3.out).get k hlt
   have hc := Qb HXr.out
   have hli : (k : Int) < (ds.length : Int) := by omega
   have HT := Qa (fun h : decide (ds[k] = v) = true => Zv (p := fun x => decide (x = v)) hlt h HA.out)
   have HFn := Qa (fun h : decide (ds[k] = v) = false => (fun j (hj : j < ds.length) (hjk : j < k + 1) => if e : j = k then by subst e; exact h else HA.out j hj (by omega) : ∀ j (hj : j < ds.length), j < k + 1 → decide (ds[j] = v) = false))
   generalize ds[k] = d at *
   have heq := fun W => eql_vi d v W
   rw [show decide (v = d) = decide (d = v) from decide_eq_decide.2 eq_comm] at heq
   cases hpd : decide (d = v)
   ·rw [hpd] at heq HFn
    have HF3 := Qa (HFn.out rfl)
    clear HT HFn hpd
    go_wp2
    go_quiet (fail)
    go_wp2
    go_roundw
    case rel => exact ⟨k + 1, by omega, by go_num, HF3.out, Qc HXr.out (below_drewN (Below.refl _ _) nq), HB3.out.trans ((below_drewN (Below.refl _ _) nq).mono HB3.out.size)⟩
    case measure => simp [intOf]; omega
   ·rw [hpd] at heq HT
    have HT2 := Qa (HT.out rfl)
    clear HT HFn hpd
    go_wp2
    go_quiet (fail)
    go_wp2
    refine bodyPost_ret (results_tmp3 rfl _ _ _) rfl ?_
    rw [HF2.out, HT2.out]
    exact ⟨by simp <;> omega, HB2.out.trans ((HB3.out.trans ((below_drewN (Below.refl _ _) nq).mono HB3.out.size)).mono HB2.out.size)⟩
  ·have HT2 := Qa (Q0 (p := fun x => decide (x = v)) fun j hj => HA.out j hj (by omega))
   go_wp2
   refine bodyPost_ret (results_tmp3 rfl _ _ _) rfl ?_
   rw [HF2.out, HT2.out]
   exact ⟨by simp <;> omega, HB2.out.trans (HB3.out.mono HB2.out.size)⟩
theorem make_ints (n : Nat) (hn : n ≤ 1000) (w : World) : (Instr.makeSlice 37 (.int .i64 (n : Int)) (.int .i64 (n : Int))).run Tryz.prog w = .ok (.slice (some ⟨w.heap.size, 0, none⟩) n n) (w.alloc (.cells (madeCells #[.int .i64 0] n) 3)) := by
 have hinfo : (Tryz.prog.info? 3).map (fun i => (i.zero, i.size, i.bytes)) = some (some (.int .i64 0), 1, 8) := by kernel_rfl
 obtain ⟨i, hi, hzz⟩ := Option.map_eq_some_iff.1 hinfo
 simp only [Prod.mk.injEq] at hzz
 obtain ⟨hz, hs, hb⟩ := hzz
 have hr := run_make (P := Tryz.prog) w 37 3 i _ Tryz.underlying37 hi hz .i64 .i64 n n (by omega) (Int.le_refl _) (by rw [hb]; omega) (by omega)
 simp only [Int.toNat_natCast, hs, Nat.mul_one] at hr
 exact hr
def cntC (n : Nat) (pre : List Int) : Array Value := (Array.range n).map fun (b : Nat) => .int .i64 (pre.count (b : Int) : Nat)
theorem cntC_get (n : Nat) (pre : List Int) (b : Nat) (h : b < n) : (cntC n pre)[b]? = some (.int .i64 (pre.count (b : Int) : Nat)) := by
 simp [cntC, h]
theorem cntC_new (n : Nat) : madeCells #[.int .i64 0] n = cntC n [] := by
 apply Array.ext
 ·simp [madeCells, cntC]
 ·intro k h1 h2
  simp [madeCells, cntC, Nat.mod_one]
theorem cntC_step (n : Nat) (pre : List Int) (b : Nat) (h : b < n) : (cntC n pre).setIfInBounds b (.int .i64 ((pre.count (b : Int) : Nat) + 1)) = cntC n (pre ++ [(b : Int)]) := by
 apply Array.ext
 ·simp [cntC]
 ·intro k h1 h2
  have hk : k < n := by simpa [cntC] using h2
  rw [Array.getElem_setIfInBounds (by simpa [cntC] using hk)]
  by_cases e : b = k
  ·subst e
   simp [cntC]
  ·have : ¬ (b : Int) = (k : Int) := by omega
   simp [cntC, e, List.count_cons, this]
open Go.RowKit Go.Sort
section
variable {P : Program} {ops : Array Oper} {md : Region.Mode} {C : World → Prop}
def U6 (md : Region.Mode) (ops : Array Oper) (n : Nat) : Bool :=
 (List.range n).all fun i => decide (i = 0) || (List.range (n + 1)).any fun j => decide (i < j) && Region.waitsFor md ops j i
theorem tail_waits1 {n : Nat} {listed : Array Bool} (hs : U6 md ops n = true) (hc : Region.chainB md ops n = true) (hn : n < ops.size) (inv : HeadInv md ops n listed) (h0 : listed.getD 0 false = true) :
  ∀ (d i : Nat), n - i = d → i < n → listed.getD i true = false → ∀ t, n ≤ t → t ∉ Region.ready md ops listed := by
 intro d
 induction d using Nat.strongRecOn with
 | _ d ih =>
  intro i hd hi hun t ht hr
  have hi0 : i ≠ 0 := by
   rintro rfl
   rw [getD_both hun] at h0; cases h0
  obtain ⟨_, ot, hot, hall⟩ := mem_ready.1 hr
  have htlt : t < ops.size := (Array.getElem?_eq_some_iff.1 hot).1
  by_cases htn : t = n
  ·subst htn
   have h1 := List.all_eq_true.1 hs i (List.mem_range.2 hi)
   simp only [Bool.or_eq_true, decide_eq_true_eq] at h1
   rcases h1 with h1 | h1
   ·exact absurd h1 hi0
   obtain ⟨j, hj, hj2⟩ := List.any_eq_true.1 h1
   simp only [Bool.and_eq_true, decide_eq_true_eq] at hj2
   obtain ⟨oj, hoj, e, he, hb, hon⟩ := Region.waitsFor_spec hj2.2
   have hjle : j ≤ t := by have := List.mem_range.1 hj; omega
   by_cases hjt : j = t
   ·subst hjt
    have : oj = ot := Option.some.inj (hoj.symm.trans hot)
    subst this
    have h2 := hall e he hb
    rw [hon, getD_both hun] at h2
    cases h2
   ·cases hl : listed.getD j false with
    | true =>
     have h2 := inv.closed j oj hoj hl e he hb
     rw [hon, getD_both hun] at h2
     cases h2
    | false =>
     have hjs : j < listed.size := by rw [inv.size]; omega
     exact ih (t - j) (by omega) j rfl (by omega) (getD_in hjs hl) t (Nat.le_refl _) hr
  ·have h1 := List.all_eq_true.1 hc t (List.mem_range.2 htlt)
   simp only [Bool.or_eq_true, decide_eq_true_eq] at h1
   rcases h1 with h1 | h1
   ·omega
   ·obtain ⟨o', ho', e, he, hb, hon⟩ := Region.waitsFor_spec h1
    have : o' = ot := Option.some.inj (ho'.symm.trans hot)
    subst this
    have h2 := hall e he hb
    rw [hon] at h2
    have h3 := inv.tail (t - 1) (by omega) (by omega)
    rw [getD_both h3] at h2
    cases h2
theorem wpAnyLQ1_first {n i : Nat} {oi : Oper} {v : Value} {L : Array Bool → Act → Prop} (hi : ops[i]? = some oi) (hsel : ∀ (j : Nat) (o : Oper) cs b, ops[j]? = some o → o.op ≠ .select cs b)
  (hs : U6 md ops n = true) (hc : Region.chainB md ops n = true) (hn : n < ops.size) (hin : i < n)
  (hdone : ∀ listed a, L listed a → ∀ j ∈ Region.ready md ops listed, n ≤ j) :
  ∀ (f : Nat) (listed : Array Bool) (a : Act), HeadInv md ops n listed → listed.getD 0 false = true →
   (∀ j oj, ops[j]? = some oj → j ≠ i → listed.getD j true = false → (∀ e ∈ oj.after, Region.binds md e = true → e.on ≠ i) → oi.apart ops oj = true) →
   i ∈ Region.ready md ops listed → YieldsIn P ops C oi v a →
   Jm P md ops C n L f (listed.setIfInBounds i true) (a.put oi.dst v) → Jm P md ops C n L (f + 1) listed a := by
 intro f
 induction f with
 | zero =>
  intro listed a inv h0 _ hr hy H
  have hun := (mem_ready.1 hr).1
  refine ⟨fun h => (by rw [h] at hr; cases hr), fun j hj => ?_⟩
  have hjn : j < n := by
   rcases Nat.lt_or_ge j n with h | h
   ·exact h
   ·exact absurd hj (tail_waits1 hs hc hn inv h0 _ i rfl hin hun j h)
  refine ⟨hjn, ?_⟩
  by_cases hji : j = i
  ·subst hji; exact hy.qOp hi H
  ·have := hdone _ _ H j (ready_mono hj hji)
   omega
 | succ f ih =>
  intro listed a inv h0 hfree hr hy H
  have hun := (mem_ready.1 hr).1
  refine ⟨fun h => (by rw [h] at hr; cases hr), fun j hj => ?_⟩
  have hjn : j < n := by
   rcases Nat.lt_or_ge j n with h | h
   ·exact h
   ·exact absurd hj (tail_waits1 hs hc hn inv h0 _ i rfl hin hun j h)
  refine ⟨hjn, ?_⟩
  by_cases hji : j = i
  ·subst hji; exact hy.qOp hi H
  ·have h1 := (H.2 j (ready_mono hj hji)).2
   obtain ⟨hjun, oj, hoj, hall⟩ := mem_ready.1 hj
   have hnot : ∀ e ∈ oj.after, Region.binds md e = true → e.on ≠ i := fun e he hb heq => by
    have h1 := hall e he hb
    rw [heq, getD_both hun] at h1
    cases h1
   have h2 := qOp_put hoj (hfree j oj hoj hji hjun hnot) (fun cs b => hsel i oi cs b hi) (fun cs b => hsel j oj cs b hoj) hy h1
   have hfree' : ∀ k ok, ops[k]? = some ok → k ≠ i → (listed.setIfInBounds j true).getD k true = false →
     (∀ e ∈ ok.after, Region.binds md e = true → e.on ≠ i) → oi.apart ops ok = true := fun k ok hk hki hun hno => by
    refine hfree k ok hk hki ?_ hno
    by_cases hjk : j = k
    ·subst hjk; exact hjun
    ·rw [getD_set_ne true hjk] at hun; exact hun
   refine qOp_mono (fun a' h3 => ih (listed.setIfInBounds j true) a' (inv.set hj hjn) (getD_set_true h0) hfree' (ready_mono hr (Ne.symm hji)) h3.1 ?_) h2
   rw [Array.setIfInBounds_comm _ _ hji]
   exact h3.2
theorem wpAnyLQ1_lex {n g : Nat} {Lq : Act → Prop} (hsel : Region.noSelect ops = true) (hs : U6 md ops n = true) (hc : Region.chainB md ops n = true) (hn : n < ops.size) :
  ∀ (l : List Oper) (k : Nat) (listed : Array Bool) (a : Act), (∀ j, j < l.length → l[j]? = ops[k + j]?) → k + l.length = n → HeadInv md ops n listed → listed.getD 0 false = true →
  Region.lexHead md ops g l.length k listed = true → wpQuiet P ops C Lq l a →
  Jm P md ops C n (fun listed' a' => Region.seqB md ops g n listed' = true ∧ Lq a') l.length listed a
 | [], k, listed, a, _, hk, _, _, hB, h => by
  have : k = n := by simpa using hk
  subst this
  exact ⟨by simpa [Region.lexHead] using hB, h⟩
 | o :: l, k, listed, a, hl, hk, inv, hz, hB, h => by
  have h0 : ops[k]? = some o := by simpa using (hl 0 (by simp)).symm
  simp only [List.length_cons, Region.lexHead, Bool.and_eq_true] at hB
  obtain ⟨⟨hr, hf⟩, hB'⟩ := hB
  have hkn : k < n := by simp only [List.length_cons] at hk; omega
  have hr' : k ∈ Region.ready md ops listed := by simpa using hr
  have hst : qOp P ops C k (wpQuiet P ops C Lq l) a := by unfold qOp; simp only [h0]; exact h
  obtain ⟨v, hy, hK⟩ := yieldsIn_of_qOp h0 hst
  exact wpAnyLQ1_first h0 (Region.noSelect_spec hsel) hs hc hn hkn (fun listed' a' hL => seqB_ready hL.1) l.length listed a inv hz (Region.free_spec h0 hf) hr' hy
   (wpAnyLQ1_lex hsel hs hc hn l (k + 1) _ _ (fun j hj => by have := hl (j + 1) (by simp; omega); simpa [Nat.add_assoc, Nat.add_comm 1 j] using this) (by simp only [List.length_cons] at hk; omega) (inv.set hr' hkn) (getD_set_true hz) hB' hK)
def lexTail1B (md : Region.Mode) (ops : Array Oper) (n : Nat) : Bool :=
 Region.noSelect ops && decide (n < ops.size) && U6 md ops n && Region.chainB md ops n && (Region.ready md ops (Array.replicate ops.size false)).contains 0 && Region.free md ops (Array.replicate ops.size false) 0 && Region.lexHead md ops (ops.size - n) (n - 1) 1 ((Array.replicate ops.size false).setIfInBounds 0 true)
theorem wp_tailB1 {id : Nat} {Q : Exit → Act → World → Prop} {a : Act} {w : World} {l : List Oper} (n : Nat) (o : Oper) (v : Value) (hn0 : 0 < n) (hm : P.follows .mixedOrders = true) (hB : lexTail1B .any l.toArray n = true) (h0 : l[0]? = some o)
  (hQ : ∀ c a w, Q (.panic c) (a.put o.dst v) w → Q (.panic c) a w) (hy : Yields P l.toArray o v a)
  (h : wpQuiet P l.toArray (fun w' => ∃ p : Regrown, w' = grow (redrawn w p.d) p.os) (fun a' => ∀ w', Below w.heap.size w w' → wpList P l.toArray Q (l.drop n) a' w') ((l.take n).drop 1) (a.put o.dst v)) : (Code.region id l.toArray true).wp P Q a w := by
 simp only [lexTail1B, Bool.and_eq_true, decide_eq_true_eq] at hB
 obtain ⟨⟨⟨⟨⟨⟨hsel, hn⟩, hs⟩, hc⟩, hr⟩, hf⟩, hlex⟩ := hB
 have hn' : n < l.length := by simpa using hn
 have htl : ((l.take n).drop 1).length = n - 1 := by simp; omega
 have hdl : (l.drop n).length = l.toArray.size - n := by simp
 have inv0 : HeadInv .any l.toArray n (Array.replicate l.toArray.size false) :=
  ⟨by simp, fun j oj _ hl => (by rw [getD_replicate_false] at hl; cases hl), fun t _ ht => getD_in (by simpa using ht) (getD_replicate_false _ _)⟩
 have hr0 : 0 ∈ Region.ready .any l.toArray (Array.replicate l.toArray.size false) := by simpa using hr
 have inv1 := inv0.set hr0 hn0
 have hz : ((Array.replicate l.toArray.size false).setIfInBounds 0 true).getD 0 false = true := by
  have : 0 < l.length := by omega
  simp [this]
 refine wp_region_any hm ?_
 have e1 : l.toArray.size = (l.toArray.size - 1) + 1 := by simp; omega
 rw [e1]
 refine wpAny_take (oi := o) (v := v) (i := 0) (by simpa using h0) hsel (by rw [← e1]; exact hf) (by rw [← e1]; exact hr) hQ hy ?_
 rw [← e1]
 have H := wpAnyLQ1_lex (md := .any) (g := l.toArray.size - n) (Lq := fun a' => ∀ w', (∃ p : Regrown, w' = grow (redrawn w p.d) p.os) → wpList P l.toArray Q (l.drop n) a' w') hsel hs hc hn ((l.take n).drop 1) 1 _ (a.put o.dst v) (fun j hj => by
  rw [htl] at hj
  rw [List.getElem?_drop, List.getElem?_take, if_pos (by omega)]
  simp) (by rw [htl]; omega) inv1 hz (by rw [htl]; exact hlex) (by
   have e : (fun a' => ∀ w', (∃ p : Regrown, w' = grow (redrawn w p.d) p.os) → wpList P l.toArray Q (l.drop n) a' w') = fun a' => ∀ w', Below w.heap.size w w' → wpList P l.toArray Q (l.drop n) a' w' := by
    funext a'
    refine propext ⟨fun h w' hb => h w' (regrown_of_below hb), fun h w' ⟨p, hp⟩ => h w' (hp ▸ below_regrown w p.d p.os)⟩
   rw [e]
   exact h)
 have := UN (Q' := Q) (g := l.toArray.size - n) (fun listed a' w' hw' hL => by
  have := wpAny_of_seq (md := .any) (Q' := Q) (l.drop n) n listed a' w' (fun j => by simp [List.getElem?_drop]) (by rw [hdl]; exact hL.1) (hL.2 w' hw')
  rwa [hdl] at this) _ _ _ { w with drawn := w.drawn + 1 } ⟨⟨w.drawn + 1, #[]⟩, by rw [grow_empty]; rfl⟩ H
 rw [htl, show n - 1 + (l.toArray.size - n) = l.toArray.size - 1 by simp; omega] at this
 exact this
end
end Go.Proofs.YtajijcfikihhjaaGreatDoor
namespace Go.Proofs.YtajijcfikihhjaaGreatDoor
open Go.RowKit Go.Sort Go.Shelf
theorem RWhole_any (f : Fo) (q : Fp) (w : World) (hf : FoFew f) (hb0 : 0 ≤ f.bars) (hr : ∀ r ∈ f.reps, 0 ≤ r.x ∧ r.x < r.y ∧ r.y ≤ f.bars ∧ 1 ≤ r.z ∧ r.z ≤ 9) (hj : Q5 f = true) (hq : FoAt w f q) : UU f q w := by
 have hx := heap_alloc_new w (.cells #[.int .i64 (f).bars, .slice (q).ra (f).reps.length (q).rc, .slice (q).ea (f).ends.length (q).ec, .int .i64 (f).jump.x, .int .i64 (f).jump.y, .int .i64 (f).jump.z, .slice (q).ca (f).cuts.length (q).cc] 109 (0, 0))
 have hb := (RowKit.Below.refl w.heap.size w).alloc (Nat.le_refl _) (.cells #[.int .i64 (f).bars, .slice (q).ra (f).reps.length (q).rc, .slice (q).ea (f).ends.length (q).ec, .int .i64 (f).jump.x, .int .i64 (f).jump.y, .int .i64 (f).jump.z, .slice (q).ca (f).cuts.length (q).cc] 109 (0, 0))
 have HX := Qa hx; have HB := Qa hb
 have HWh := Qa (fun V (hV : Below w.heap.size w V) => UZ f q V hf hb0 hr hj (hq.reps.below hV) (hq.ends.below hV))
 have HMem := Qa (whole_mem hb0 hr hj)
 have hwl := Zz hf.bars hr hj
 obtain ⟨n, hn⟩ : ∃ n : Nat, f.bars = (n : Int) := ⟨f.bars.toNat, by omega⟩
 have hn1 : n ≤ 1000 := by have := hf.bars; omega
 have hmk := make_ints n hn1
 rw [← hn] at hmk
 rw [cntC_new] at hmk
 have HN := Qa hn
 clear hx hb hq hf hr hj hn
 unfold UU
 generalize Zi f = L at *
 go_enter Tryz.func192, Tryz.ntmps192
 go_upto_region 1 with (fail)
 generalize w.alloc (.cells #[.int .i64 (f).bars, .slice (q).ra (f).reps.length (q).rc, .slice (q).ea (f).ends.length (q).ec, .int .i64 (f).jump.x, .int .i64 (f).jump.y, .int .i64 (f).jump.z, .slice (q).ca (f).cuts.length (q).cc] 109 (0, 0)) = W at *
 have hc := Qb HX.out
 go_upto_region 2 with (go_at_call 185; refine (HWh.out _ HB.out).mono ?_; rintro e w4 ⟨v4, rfl, ho4, hb4⟩; obtain ⟨a4, c4, e4, _, hs4⟩ := ho4.slAt; rw [List.length_map] at e4; subst e4; clear hc; replace HX := bk HX hb4; replace HB := bu HB hb4; have HL := Qa (show InAt w4 a4 L from hs4); clear ho4 hb4 hs4; have hc := Qb HX.out)
 go_upto_region 3 with (fail)
 have HC0 := Qa (heap_alloc_new w4 (.cells (cntC n []) 3))
 clear hmk hc
 go_wp2
 go_loopw [5, 6] (fun s5 s6 wi => ∃ k : Nat, k ≤ L.length ∧ s6 = .int .i64 k ∧ OwnR wi (w4.heap.size + 1) 130 2 s5 ((visL (L.take k)).map viRow) ∧ wi.heap[w4.heap.size]? = some (.cells (cntC n (L.take k)) 3) ∧ Below w4.heap.size w4 wi) (fun _ s6 _ => L.length - (intOf s6).toNat)
 case atStart => exact ⟨0, Nat.zero_le _, rfl, OwnR.nil _ _ _ _, HC0.out, Qg _⟩
 case round =>
  obtain ⟨k, hk, rfl, ho, hcn, hb⟩ := hrel
  have HO := Qa ho; have HC := Qa hcn; have HK := Qa hb
  clear HC0 ho hcn hb
  by_cases hlt : k < L.length
  ·have hLr := SlAt.below HL.out HK.out
   obtain ⟨b0, off, e, d0⟩ := InAt.get hLr k hlt
   have hm := HMem.out L[k] (List.getElem_mem hlt)
   have hli : (k : Int) < (L.length : Int) := by omega
   obtain ⟨b, hbn⟩ : ∃ b : Nat, L[k] = (b : Int) := ⟨L[k].toNat, by omega⟩
   have HT := Qa (show L.take (k + 1) = L.take k ++ [(b : Int)] by rw [List.take_succ_eq_append_getElem hlt, hbn])
   rw [hbn] at hm d0
   have hbf : (b : Int) < (n : Int) := by have := HN.out; omega
   have hbn2 : b < n := by omega
   subst e
   have HV := Qa (show visL (L.take (k + 1)) = visL (L.take k) ++ [((b : Int), ((L.take k).count (b : Int) : Int) + 1)] by rw [HT.out, UT])
   have hcl : (L.take k).count (b : Int) ≤ k := Nat.le_trans List.count_le_length (by rw [List.length_take]; omega)
   have hg := (Qb HC.out b).trans (cntC_get n (L.take k) b hbn2)
   have HS := Qa (cntC_step n (L.take k) b hbn2)
   have hf := Qe HC.out b
   have hvl := JX (L.take k)
   rw [List.length_take] at hvl
   have hbk := hbn
   clear hbn hLr hm
   generalize hct : (L.take k).count (b : Int) = ct at *
   have hw1 : IntKind.i64.wrap ((ct : Int) + 1) = (ct : Int) + 1 := IntWalk.i64_in _ (by omega)
   have hwk : IntKind.i64.wrap ((k : Int) + 1) = (k : Int) + 1 := IntWalk.i64_in _ (by omega)
   go_upto_region 8 with (fail)
   have k8 : (wr.setCell ⟨w4.heap.size, b, none⟩ (.int .i64 ((ct : Int) + 1))).heap[w4.heap.size]? = some (.cells (cntC n (L.take (k + 1))) 3) := by rw [HT.out, ← HS.out]; exact heap_setCell_same _ _ _ _ _ _ HC.out
   have o8 := HO.out.setAt (b := w4.heap.size) (i := b) (Nat.lt_succ_self _) (.int .i64 ((ct : Int) + 1))
   have b8 := HK.out.setCell (p := ⟨w4.heap.size, b, none⟩) (Nat.le_refl _) (.int .i64 ((ct : Int) + 1))
   have c8 : (L.take (k + 1)).count (b : Int) = ct + 1 := by rw [HT.out, List.count_append, hct]; simp
   clear hg hf d0 HC HO HK HS hct HT
   generalize wr.setCell ⟨w4.heap.size, b, none⟩ (.int .i64 ((ct : Int) + 1)) = w8 at *
   have e8 : w8.cell? ⟨w4.heap.size, b, none⟩ = some (.int .i64 ((ct : Int) + 1)) := by
    rw [Qb k8, cntC_get n _ b hbn2, c8]; rfl
   obtain ⟨_, _, e, d8⟩ := InAt.get (SlAt.below HL.out b8) k hlt
   cases e
   rw [hbk] at d8
   have g1 := cell_regrown d8; have g2 := cell_regrown e8
   have HC8 := Qa k8; have HO8 := Qa o8; have HK8 := Qa b8
   clear k8 o8 b8 d8 e8 c8
   refine wp_tailB1 13 _ u5 (by decide) (by kernel_rfl) (by kernel_rfl) rfl (fun _ _ _ h => h) (.inl ⟨by kernel_rfl, fun wq => by go_simp⟩) ?_
   simp only [Act.put, List.setIfInBounds_toArray, List.set_cons_zero, List.set_cons_succ, List.take_succ_cons, List.take_zero, List.drop_succ_cons, List.drop_zero]
   repeat (go_big_quiet_step (fail))
   refine wpQuiet_nil ?_
   intro w9 hb9
   replace HC8 := bk HC8 hb9; replace HO8 := Qa (HO8.out.below hb9); replace HK8 := bu HK8 hb9
   clear g1 g2 hb9
   have hs9 := HK8.out.size
   have hc9 := Qd HC8.out
   go_wp2_with (at_builtin; refine appE eltVi rfl (.tmp 27) (.tmp 40) rfl (w4.heap.size + 1) _ (visL (L.take k)) rfl (HO8.out.below (Qg _)) _ _ _ [((b : Int), (ct : Int) + 1)] rfl rfl (fun e => by cases e) (eltVi.new _ _ _ _ rfl) (by simp; omega) (by simp; omega) ?_; intro v5 w10 ho5 hg5; have HO5 := Qa ho5; have HC5 := Qa ((hg5.block _ (by simp; omega) (HO8.out.neBlk (Nat.lt_succ_self _))).trans (Qj HC8.out _)); have HK5 := Qa ((HK8.out.alloc hs9 (.cells #[.int .i64 (b : Int), .int .i64 ((ct : Int) + 1)] 130)).grown hg5 (by simp; omega) (fun k e => by have := (HO8.out.lt k e).1; omega)))
   exact ⟨⟨k + 1, by omega, by go_num, by rw [HV.out]; exact HO5.out, HC5.out, HK5.out⟩, by simp [intOf]; omega⟩
  ·obtain rfl : k = L.length := by omega
   have ho := HO.out
   rw [List.take_length] at ho
   go_wp2
   obtain ⟨a9, c9, e9, h1, h2⟩ := ho.slAt
   rw [List.length_map] at e9
   subst e9
   go_ret
   exact ⟨a9, c9, rfl, h2, HB.out.trans (HK.out.mono HB.out.size)⟩
end Go.Proofs.YtajijcfikihhjaaGreatDoor
namespace Go.Proofs.YtajijcfikihhjaaGreatDoor
open Go.RowKit Go.Sort Go.Shelf
theorem UR {f : Fo} (hv : Qy f = true) : 0 ≤ f.bars ∧ (∀ r ∈ f.reps, 0 ≤ r.x ∧ r.x < r.y ∧ r.y ≤ f.bars ∧ 1 ≤ r.z ∧ r.z ≤ 9) ∧ Q5 f = true := by
 unfold Qy at hv
 simp only [Bool.and_eq_true, decide_eq_true_eq] at hv
 obtain ⟨⟨⟨⟨⟨⟨hv1, hv2⟩, hv3⟩, hv4⟩, hv5⟩, hv6⟩, hv7⟩ := hv
 exact ⟨by omega, ZN hv3, hv5⟩
theorem RFind_any (f : Fo) (q : Fp) (v : Int × Int) (w : World) (hf : FoFew f) (hq : FoAt w f q) :
  Calls Tryz.prog 117 #[.agg #[.int .i64 (f).bars, .slice (q).ra (f).reps.length (q).rc, .slice (q).ea (f).ends.length (q).ec, .int .i64 (f).jump.x, .int .i64 (f).jump.y, .int .i64 (f).jump.z, .slice (q).ca (f).cuts.length (q).cc], .agg #[.int .i64 v.1, .int .i64 v.2]] w fun e w' => e = .returned (.tuple #[.int .i64 (Yi f v).1.1, .bool (Yi f v).1.2, .int .i64 (Yi f v).2]) ∧ Below w.heap.size w w' :=
 RFind_of f q v w hf hq fun hv V hV => RWhole_any f q V hf (UR hv).1 (UR hv).2.1 (UR hv).2.2 (hq.below hV)
end Go.Proofs.YtajijcfikihhjaaGreatDoor
namespace Go.Proofs.YtajijcfikihhjaaGreatDoor
open Go.RowKit Go.Sort Go.Shelf
theorem RTime30_any (n : Int) (w : World) : Calls Tryz.prog 108 #[.int .i64 n] w fun e w' => e = .returned (.bool (decide (0 ≤ n) && decide (n ≤ 1000000000))) ∧ w' = w := by
 go_enter Tryz.func108, Tryz.ntmps108
 go_wp2
 all_goals (go_ret; exact ⟨by simp [*] <;> omega, rfl⟩)
theorem UV (wa : Option Addr) (wc : Nat) (l : List (Wk × Wp)) (v : Int) (w : World) (hl : l.length ≤ 1000) (hw : WlAt w wa l) :
  Calls Tryz.prog 22 #[.slice wa l.length wc, .int .i64 v] w fun e w' => e = .returned (.int .i64 (idxO (fun y : Wk × Wp => decide (y.1.ver = v)) l)) ∧ Below w.heap.size w w' := by
 have HW := Qa hw
 clear hw
 go_enter Tryz.func22, Tryz.ntmps22
 go_wp2
 go_loopw [5] (fun i wr => ∃ k : Nat, k ≤ l.length ∧ i = .int .i64 k ∧ (∀ j (hj : j < l.length), j < k → decide (l[j].1.ver = v) = false) ∧ Below w.heap.size w wr) (fun i _ => l.length - (intOf i).toNat)
 case atStart => exact ⟨0, Nat.zero_le _, rfl, fun j hj h => by omega, Below.refl _ _⟩
 case round =>
  obtain ⟨k, hk, rfl, hall, hb⟩ := hrel
  have HA := Qa hall; have HB := Qa hb
  clear hall hb
  by_cases hlt : k < l.length
  ·obtain ⟨b, off, rfl, _, d0, _⟩ := (HW.out.below HB.out).get k hlt
   have hli : (k : Int) < (l.length : Int) := by omega
   have hwk : IntKind.i64.wrap ((k : Int) + 1) = (k : Int) + 1 := IntWalk.i64_in _ (by omega)
   by_cases hv : l[k].1.ver = v
   ·have HT := Qa (Zv (p := fun y : Wk × Wp => decide (y.1.ver = v)) hlt (decide_eq_true hv) HA.out)
    generalize l[k] = x at *
    go_wp2
    go_ret
    exact ⟨QK HT.out.symm, HB.out⟩
   ·have HF := Qa (fun j (hj : j < l.length) (hjk : j < k + 1) => if e : j = k then by subst e; exact decide_eq_false hv else HA.out j hj (by omega) : ∀ j (hj : j < l.length), j < k + 1 → decide (l[j].1.ver = v) = false)
    generalize l[k] = x at *
    go_wp2
    go_roundw
    case rel => exact ⟨k + 1, by omega, by go_num, HF.out, HB.out⟩
    case measure => simp [intOf]; omega
  ·have HT := Qa (Q0 (p := fun y : Wk × Wp => decide (y.1.ver = v)) fun j hj => HA.out j hj (by omega))
   go_wp2
   go_ret
   exact ⟨QK HT.out.symm, HB.out⟩
def fewW (x : Wk) : Bool := fewF x.f && decide (x.bars.length ≤ 60)
def Yw (l : List Wk) (n : Nat) : Bool := (l.take 7).all fewW && (decide (l.length ≤ 6) && decide (n ≤ 30))
theorem fewDB_all {l : List Wk} {n : Nat} (h : Yw l n = true) : (∀ x ∈ l, fewW x = true) ∧ l.length ≤ 6 ∧ n ≤ 30 := by
 unfold Yw at h
 simp only [Bool.and_eq_true, decide_eq_true_eq, List.all_eq_true] at h
 obtain ⟨h1, h2, h3⟩ := h
 exact ⟨fun x hx => h1 x (by rw [List.take_of_length_le (by omega)]; exact hx), h2, h3⟩
theorem RFew30_any (wa : Option Addr) (wc : Nat) (l : List (Wk × Wp)) (da : Option Addr) (n dc : Nat) (w : World) (hl : l.length ≤ 9223372036854775807) (hn : n ≤ 9223372036854775807) (hw : WlAt w wa l) :
  Calls Tryz.prog 28 #[.slice wa l.length wc, .slice da n dc] w fun e w' => e = .returned (.bool (Yw (Qk l) n)) ∧ Below w.heap.size w w' := by
 have HW := Qa hw
 have hwl : (Qk l).length = l.length := by simp [Qk]
 clear hw
 go_enter Tryz.func28, Tryz.ntmps28
 go_wp2
 go_loopw [5] (fun i wr => ∃ k : Nat, k ≤ l.length ∧ k ≤ 7 ∧ i = .int .i64 k ∧ Hid (((Qk l).take k).all fewW = true) ∧ Below w.heap.size w wr) (fun i _ => 7 - (intOf i).toNat)
 case atStart => exact ⟨0, Nat.zero_le _, by omega, rfl, Qa rfl, Below.refl _ _⟩
 case round =>
  obtain ⟨k, hk, hk7, rfl, HA, hb⟩ := hrel
  have HB := Qa hb
  clear hb
  by_cases hlt : k < l.length
  ·by_cases h7 : k < 7
   ·obtain ⟨b, off, rfl, _, d0, d1, d2, d3, d4, d5, d6, d7, d8, d9, d10, d11⟩ := (HW.out.below HB.out).get k hlt
    have hli : (k : Int) < (l.length : Int) := by omega
    have hwk : IntKind.i64.wrap ((k : Int) + 1) = (k : Int) + 1 := IntWalk.i64_in _ (by omega)
    have HT := Qa (show ((Qk l).take (k + 1)).all fewW = (((Qk l).take k).all fewW && fewW l[k].1) by
     rw [List.take_succ_eq_append_getElem (by omega), List.all_append]; simp [Qk])
    rw [HA.out] at HT
    have HFw := Qa (fun V => RFew_any l[k].1.f l[k].2.q V)
    have HN := Qa (fun h : fewW l[k].1 = false => (show Yw (Qk l) n = false by
     unfold Yw
     have : ((Qk l).take 7).all fewW = false := by
      rw [List.all_eq_false]
      exact ⟨l[k].1, by rw [List.mem_take_iff_getElem]; exact ⟨k, by omega, by simp [Qk]⟩, by rw [h]; simp⟩
     rw [this]; rfl))
    have HE := Qa (show fewW l[k].1 = (fewF l[k].1.f && decide (l[k].1.bars.length ≤ 60)) from rfl)
    generalize l[k] = x at *
    obtain ⟨x, p⟩ := x
    dsimp only at *
    clear HA
    cases hf : fewF x.f
    ·rw [hf] at HFw HE
     have HN2 := Qa (HN.out (by rw [HE.out]; rfl))
     clear HN HT hf
     go_wp2_with (go_at_call 57; refine (HFw.out _).mono ?_; rintro e w6 ⟨rfl, hb6⟩; have HB6 := bu HB hb6; clear hb6)
     go_ret
     exact ⟨Qf HN2.out.symm, HB6.out⟩
    ·rw [hf] at HFw HE
     by_cases hbs : x.bars.length ≤ 60
     ·have HT2 := Qa (show ((Qk l).take (k + 1)).all fewW = true by rw [HT.out, HE.out, decide_eq_true hbs]; rfl)
      clear HN HT hf HE
      go_upto_region 6 with (go_at_call 57; refine (HFw.out _).mono ?_; rintro e w6 ⟨rfl, hb6⟩; have HB6 := bu HB hb6; have q1 := Qq d1 hb6; clear hb6 d0 d1 d2 d3 d4 d5 d6 d7 d8 d9 d10 d11)
      go_roundw
      case rel => exact ⟨k + 1, by omega, by omega, by go_num, HT2, HB6.out⟩
      case measure => simp [intOf]; omega
     ·have HN2 := Qa (HN.out (by rw [HE.out, decide_eq_false hbs]; rfl))
      clear HN HT hf HE
      go_wp2_with (go_at_call 57; refine (HFw.out _).mono ?_; rintro e w6 ⟨rfl, hb6⟩; have HB6 := bu HB hb6; have q1 := Qq d1 hb6; clear hb6 d0 d1 d2 d3 d4 d5 d6 d7 d8 d9 d10 d11)
      go_ret
      exact ⟨Qf HN2.out.symm, HB6.out⟩
   ·have hk8 : k = 7 := by omega
    subst hk8
    have HF := Qa (show Yw (Qk l) n = false by unfold Yw; rw [hwl, decide_eq_false (show ¬ l.length ≤ 6 by omega)]; simp)
    have hlx : ¬ l.length ≤ 6 := by omega
    go_wp2
    all_goals go_ret
    all_goals exact ⟨Qf (by first | exact HF.out.symm | (rw [HF.out])), HB.out⟩
  ·obtain rfl : k = l.length := by omega
   have HF := Qa (show Yw (Qk l) n = (decide (l.length ≤ 6) && decide (n ≤ 30)) by
    unfold Yw
    have : (Qk l).take 7 = (Qk l).take l.length := by rw [← hwl, List.take_length, List.take_of_length_le (by omega)]
    rw [this, HA.out, hwl]; rfl)
   clear HA
   go_wp2
   all_goals go_ret
   all_goals exact ⟨Qf (by rw [HF.out]; exact (by first | (simp [*]; done) | (simp [*]; omega) | (rw [Bool.eq_iff_iff]; simp [*]; done) | (rw [Bool.eq_iff_iff]; simp [*]; omega) | (rw [Bool.eq_iff_iff]; simp [*] <;> omega))), HB.out⟩
end Go.Proofs.YtajijcfikihhjaaGreatDoor
namespace Go.Proofs.YtajijcfikihhjaaGreatDoor
open Go.RowKit Go.Sort Go.Shelf
theorem RWorks30_any (wa : Option Addr) (wc : Nat) (l : List (Wk × Wp)) (w : World) (hl : l.length ≤ 1000) (hfew : ∀ y ∈ l, FoFew y.1.f) (hw : WsAt w wa l) :
  Calls Tryz.prog 107 #[.slice wa l.length wc] w fun e w' => e = .returned (.bool (Q6 (Qk l))) ∧ Below w.heap.size w w' := by
 have HW := Qa hw
 have hlen : (Qk l).length = l.length := by simp [Qk]
 have HWB := Qa (show Q6 (Qk l) = (Zr 0 (Qk l) && (decide (1 ≤ l.length) && decide (l.length ≤ 100))) by unfold Q6; rw [hlen])
 clear hw hlen
 go_enter Tryz.func107, Tryz.ntmps107
 by_cases h1 : l.length < 1
 ·have HF := Qa (show Q6 (Qk l) = false by rw [HWB.out, decide_eq_false (show ¬ 1 ≤ l.length by omega)]; simp)
  clear HWB
  go_wp2
  go_ret
  exact ⟨Qf (by first | exact HF.out.symm | (rw [HF.out])), Below.refl _ _⟩
 by_cases h2 : 100 < l.length
 ·have HF := Qa (show Q6 (Qk l) = false by rw [HWB.out, decide_eq_false (show ¬ l.length ≤ 100 by omega)]; simp)
  clear HWB
  go_wp2
  go_ret
  exact ⟨Qf (by first | exact HF.out.symm | (rw [HF.out])), Below.refl _ _⟩
 have HWC := Qa (show Q6 (Qk l) = Zr 0 (Qk l) by rw [HWB.out, decide_eq_true (show 1 ≤ l.length by omega), decide_eq_true (show l.length ≤ 100 by omega)]; simp)
 clear HWB
 go_wp2
 go_loopw [3, 4, 5] (fun t3 t4 _ wr => ∃ (k : Nat) (last : Int), k ≤ l.length ∧ t4 = .int .i64 k ∧ t3 = .int .i64 last ∧ Hid (Zr 0 (Qk l) = Zr last ((Qk l).drop k)) ∧ Below w.heap.size w wr) (fun _ t4 _ _ => l.length - (intOf t4).toNat)
 case atStart => exact ⟨0, 0, Nat.zero_le _, rfl, rfl, Qa rfl, Below.refl _ _⟩
 case round =>
  obtain ⟨k, last, hk, rfl, rfl, HC, hb⟩ := hrel
  have HB := Qa hb
  clear hb
  by_cases hlt : k < l.length
  ·have hws := HW.out.below HB.out
   obtain ⟨b, off, ea, _, d0, d1, d2, d3, d4, d5, d6, d7, d8, d9, d10, d11⟩ := WlAt.get hws.rows k hlt
   have hxm := List.getElem_mem hlt
   have HV := Qa (fun V (hV : Below wr.heap.size wr V) => YC l[k].1.f l[k].2.q V (hfew _ hxm) ((hws.forms _ hxm).below hV))
   have HC2 := Qa (HC.out.trans (worksC_drop hlt last))
   have hki : (k : Int) < (l.length : Int) := by omega
   have hk0 : ¬ (k : Int) < 0 := by omega
   have hwk : IntKind.i64.wrap ((k : Int) + 1) = (k : Int) + 1 := IntWalk.i64_in _ (by omega)
   subst ea
   clear hws HC hxm
   have hoks : Zr 0 (Qk l) = false → Q6 (Qk l) = false := fun h => by rw [HWC.out]; exact h
   generalize hx : l[k] = x at *
   obtain ⟨x, p⟩ := x
   dsimp only at *
   clear hx
   go_upto_region 8 with (fail)
   have g0 := cell_regrown d0; have g1 := cell_regrown d1; have g4 := cell_regrown d4; have g5 := cell_regrown d5; have g6 := cell_regrown d6; have g7 := cell_regrown d7; have g8 := cell_regrown d8; have g9 := cell_regrown d9; have g10 := cell_regrown d10
   by_cases c1 : x.ver ≤ last
   ·have HF := Qa (hoks (by rw [HC2.out]; unfold badW; rw [decide_eq_true c1]; rfl))
    refine Qn (by kernel_rfl) (by kernel_rfl) ?_; (repeat (go_big_quiet_step ((go_at_call 145; refine Calls.regrown_of (HV.out _ (below_regrown _ _ _)))))); refine wpQuiet_nil ?_; intro w6 hb6; have HB6 := bu HB hb6; (clear d0 d1 d2 d3 d4 d5 d6 d7 d8 d9 d10 d11 g0 g1 g4 g5 g6 g7 g8 g9 g10); go_wp2; go_ret; exact ⟨Qf (by first | exact HF.out.symm | (rw [HF.out])), HB6.out⟩
   by_cases c2 : 1000000 < x.ver
   ·have HF := Qa (hoks (by rw [HC2.out]; unfold badW; rw [decide_eq_true c2]; simp))
    refine Qn (by kernel_rfl) (by kernel_rfl) ?_; (repeat (go_big_quiet_step ((go_at_call 145; refine Calls.regrown_of (HV.out _ (below_regrown _ _ _)))))); refine wpQuiet_nil ?_; intro w6 hb6; have HB6 := bu HB hb6; (clear d0 d1 d2 d3 d4 d5 d6 d7 d8 d9 d10 d11 g0 g1 g4 g5 g6 g7 g8 g9 g10); go_wp2; go_ret; exact ⟨Qf (by first | exact HF.out.symm | (rw [HF.out])), HB6.out⟩
   cases hv : Qy x.f
   ·have HF := Qa (hoks (by rw [HC2.out]; unfold badW; rw [hv]; simp))
    rw [hv] at HV
    refine Qn (by kernel_rfl) (by kernel_rfl) ?_; (repeat (go_big_quiet_step ((go_at_call 145; refine Calls.regrown_of (HV.out _ (below_regrown _ _ _)))))); refine wpQuiet_nil ?_; intro w6 hb6; have HB6 := bu HB hb6; (clear d0 d1 d2 d3 d4 d5 d6 d7 d8 d9 d10 d11 g0 g1 g4 g5 g6 g7 g8 g9 g10); go_wp2; go_ret; exact ⟨Qf (by first | exact HF.out.symm | (rw [HF.out])), HB6.out⟩
   rw [hv] at HV
   by_cases c3 : ¬ x.f.bars = (x.bars.length : Int)
   ·have HF := Qa (hoks (by rw [HC2.out]; unfold badW; rw [decide_eq_true c3]; simp))
    have hne3 : (x.f.bars != (x.bars.length : Int)) = true := by simp [c3]
    clear c3
    refine Qn (by kernel_rfl) (by kernel_rfl) ?_; (repeat (go_big_quiet_step ((go_at_call 145; refine Calls.regrown_of (HV.out _ (below_regrown _ _ _)))))); refine wpQuiet_nil ?_; intro w6 hb6; have HB6 := bu HB hb6; (clear d0 d1 d2 d3 d4 d5 d6 d7 d8 d9 d10 d11 g0 g1 g4 g5 g6 g7 g8 g9 g10); go_wp2; go_ret; exact ⟨Qf (by first | exact HF.out.symm | (rw [HF.out])), HB6.out⟩
   have c3 : x.f.bars = (x.bars.length : Int) := by omega
   have hne3 : (x.f.bars != (x.bars.length : Int)) = false := by simp [c3]
   have HN3 := Qa (show decide (x.f.bars ≠ (x.bars.length : Int)) = false by simp [c3])
   clear c3
   have HC3 := Qa (show Zr 0 (Qk l) = Zr x.ver ((Qk l).drop (k + 1)) by rw [HC2.out]; unfold badW; rw [hv, decide_eq_false c1, decide_eq_false c2, HN3.out]; simp)
   clear HC2 hoks hv
   refine Qn (by kernel_rfl) (by kernel_rfl) ?_; (repeat (go_big_quiet_step ((go_at_call 145; refine Calls.regrown_of (HV.out _ (below_regrown _ _ _)))))); refine wpQuiet_nil ?_; intro w6 hb6; have HB6 := bu HB hb6; (clear d0 d1 d2 d3 d4 d5 d6 d7 d8 d9 d10 d11 g0 g1 g4 g5 g6 g7 g8 g9 g10)
   go_wp2
   go_roundw
   case rel => exact ⟨k + 1, x.ver, by omega, by go_num, rfl, HC3, HB6.out⟩
   case measure => simp [intOf]; omega
  ·obtain rfl : k = l.length := by omega
   have HF := Qa (show Q6 (Qk l) = true by rw [HWC.out, HC.out, List.drop_eq_nil_of_le (by simp [Qk])]; rfl)
   clear HC HWC
   go_wp2
   go_ret
   exact ⟨Qf (by first | exact HF.out.symm | (rw [HF.out])), HB.out⟩
end Go.Proofs.YtajijcfikihhjaaGreatDoor
