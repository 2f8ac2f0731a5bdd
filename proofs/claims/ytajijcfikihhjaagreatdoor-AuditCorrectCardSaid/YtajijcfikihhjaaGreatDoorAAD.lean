import Derived.Test.YtajijcfikihhjaaGreatDoorAAC
set_option linter.unusedSimpArgs false
set_option linter.unusedVariables false
set_option maxRecDepth 100000
set_option maxHeartbeats 16000000
namespace Go.Proofs.YtajijcfikihhjaaGreatDoor
open Go.RowKit Go.Sort Go.Shelf
attribute [local go_sem] Oper.semAt_some
theorem enters_rleaf : ∀ args w, (callFunc 91 args).run Tryz.prog w = .ok (.enter 91 args) w := enters_of Tryz.func91 (by kernel_rfl) rfl
theorem rleafC_any (d : R3) (v : Int × Int) (c : Nat) (w : World) (h : w.heap[c]? = some (.cells #[.int .i64 v.1, .int .i64 v.2] 130)) :
  Calls Tryz.prog 91 #[R3V d, .pointer (some ⟨c, 0, none⟩)] w fun e w' => e = .returned (.bool (ZO v d)) ∧ Below w.heap.size w w' := by
 obtain ⟨x, y, z⟩ := d
 obtain ⟨b, p⟩ := v
 unfold R3V
 have HX := Qa (heap_alloc_new w (.cells #[.int .i64 x, .int .i64 y, .int .i64 z] 186))
 have hb := (Below.refl w.heap.size w).alloc (Nat.le_refl _) (.cells #[.int .i64 x, .int .i64 y, .int .i64 z] 186)
 replace h := Qc h hb
 go_enter Tryz.func91, Tryz.ntmps91
 go_upto_region 1 with (fail)
 generalize w.alloc (.cells #[.int .i64 x, .int .i64 y, .int .i64 z] 186) = W at *
 have hc := Qb HX.out; have hd := Qb h
 go_wp2
 all_goals (go_ret; exact ⟨Qf (by unfold ZO; exact (by first | (simp [*]; done) | (simp [*]; omega) | (rw [Bool.eq_iff_iff]; simp [*]; done) | (rw [Bool.eq_iff_iff]; simp [*]; omega) | (rw [Bool.eq_iff_iff]; simp [*] <;> omega))), hb⟩)
theorem rUnfold_any (f : Fo) (q : Fp) (w : World) (hf : FoFew f) (hq : FoAt w f q) :
  Calls Tryz.prog 55 #[.agg #[.int .i64 f.bars, .slice q.ra f.reps.length q.rc, .slice q.ea f.ends.length q.ec, .int .i64 f.jump.x, .int .i64 f.jump.y, .int .i64 f.jump.z, .slice q.ca f.cuts.length q.cc]] w (RetSlI 2 ((unfR f).1.map viRow) (unfR f).2 w) := by
 have HV := Qa (fun V (hV : Below w.heap.size w V) => Z7 f q V hf (hq.below hV))
 have HQ := Qa hq; have HF := Qa hf
 have hx := heap_alloc_new w (.cells #[.int .i64 f.bars, .slice q.ra f.reps.length q.rc, .slice q.ea f.ends.length q.ec, .int .i64 f.jump.x, .int .i64 f.jump.y, .int .i64 f.jump.z, .slice q.ca f.cuts.length q.cc] 109)
 have hb := (Below.refl w.heap.size w).alloc (Nat.le_refl _) (.cells #[.int .i64 f.bars, .slice q.ra f.reps.length q.rc, .slice q.ea f.ends.length q.ec, .int .i64 f.jump.x, .int .i64 f.jump.y, .int .i64 f.jump.z, .slice q.ca f.cuts.length q.cc] 109)
 have HX := Qa hx; have HB := Qa hb
 clear hx hb hf hq
 refine (callsIn_wide (n := 9)).1 ?_
 refine callsIn_of_wp_marks Tryz.func55 rfl trivial ?_ rfl
 simp only [Tryz.ntmps55, List.size_toArray, List.length_cons, List.length_nil, Nat.reduceAdd, Nat.reduceSub, Array.replicate_succ, Array.replicate_zero, List.push_toArray, List.append_toArray, List.nil_append, List.cons_append]
 refine wpIn_wide.2 ?_
 go_upto_region 1 with (fail)
 generalize w.alloc (.cells #[.int .i64 f.bars, .slice q.ra f.reps.length q.rc, .slice q.ea f.ends.length q.ec, .int .i64 f.jump.x, .int .i64 f.jump.y, .int .i64 f.jump.z, .slice q.ca f.cuts.length q.cc] 109) = W at *
 have hc := Qb HX.out
 cases hv : Qy f
 case false =>
  rw [hv] at HV
  have HU := Qa (show unfR f = ([], 1) by unfold unfR; rw [hv]; rfl)
  clear hv
  go_wp2_with (go_at_call 89; refine (HV.out _ HB.out).mono ?_; rintro e w6 ⟨rfl, hb⟩; clear hc; replace HX := bk HX hb; replace HB := bu HB hb; clear hb; have hc := Qb HX.out)
  refine ⟨_, results_tmp2 rfl _ _ _, ?_⟩
  rw [HU.out]
  exact RetSlI.none HB.out
 rw [hv] at HV
 have HU := Qa (show unfR f = (unfL f, 0) by unfold unfR; rw [hv]; rfl)
 have hv' := hv
 unfold Qy at hv'
 simp only [Bool.and_eq_true, decide_eq_true_eq] at hv'
 obtain ⟨⟨⟨⟨⟨⟨hv1, hv2⟩, hv3⟩, hv4⟩, hv5⟩, hv6⟩, hv7⟩ := hv'
 have hb0 : 0 ≤ f.bars := by omega
 have HRr := Qa (ZN hv3); have HJm := Qa hv5
 have HWl := Qa (Zz HF.out.bars HRr.out hv5)
 clear hv hv1 hv2 hv3 hv4 hv5 hv6 hv7
 go_upto_region 3 with (go_at_call 89; refine (HV.out _ HB.out).mono ?_; rintro e w6 ⟨rfl, hb⟩; clear hc; replace HX := bk HX hb; replace HB := bu HB hb; clear hb; have hc := Qb HX.out)
 go_upto_region 4 with (fail)
 have hlw := Qd HX.out
 have kO := heap_alloc_new w6 (.cells #[.slice none 0 0] 126)
 replace HX := Qa (Qj HX.out (.cells #[.slice none 0 0] 126)); replace HB := Qa (HB.out.alloc HB.out.size (.cells #[.slice none 0 0] 126))
 have hlo := Qd HX.out
 clear hc
 generalize w6.alloc (.cells #[.slice none 0 0] 126) = W7 at *
 have hc := Qb HX.out
 generalize w6.heap.size = ob at *
 go_wp2_with (go_at_call 90; refine (visits_any f q W7).mono ?_; rintro e w8 ⟨rfl, hw8⟩; have HW8 := Qa hw8; clear hw8)
 have hz7 : ob < W7.heap.size := Qd kO
 have hz8 : w8.heap.size = W7.heap.size + 1 := by rw [HW8.out]; simp
 have hb8 : Below W7.heap.size W7 w8 := by rw [HW8.out]; exact (Below.refl _ _).alloc (Nat.le_refl _) _
 have kX : w8.heap[W7.heap.size]? = some (.cells #[.int .i64 f.bars, .slice q.ra f.reps.length q.rc, .slice q.ea f.ends.length q.ec, .int .i64 f.jump.x, .int .i64 f.jump.y, .int .i64 f.jump.z, .slice q.ca f.cuts.length q.cc] 183) := by rw [HW8.out]; exact heap_alloc_new _ _
 have k1 := Qc HX.out hb8; have k2 := Qc kO hb8
 have HB8 := bu HB hb8
 have hb9 : ob < w8.heap.size ∧ W7.heap.size < w8.heap.size ∧ w.heap.size < w8.heap.size := by omega
 clear hc kO HX HB HW8 hz8
 refine (wpIn_wide (n := 9)).1 ?_
 refine ZS (α := Int × Int) rfl (by omega) (gf := 133) (lb := #[.pointer (some ⟨W7.heap.size, 0, none⟩)]) rfl trivial (enters_of Tryz.func133 (by kernel_rfl) rfl) (encs := fun v : Int × Int => #[.agg #[.int .i64 v.1, .int .i64 v.2]]) (fun _ => rfl)
  (Kp := KeptC (fun k T => k ≠ ob ∧ (k < w8.heap.size ∨ T ≠ 130))) (S := fun xs => xs = visL (Zi f)) (N := 20000) ?hseq KeptC.trans ?hKb
  (fun pre V => ∃ v, V.heap[ob]? = some (.cells #[v] 126) ∧ OwnR V w8.heap.size 130 2 v ((pre.filter fun x => !f.cuts.any (ZO x)).map viRow) ∧ V.heap[w.heap.size]? = some (.cells #[.int .i64 f.bars, .slice q.ra f.reps.length q.rc, .slice q.ea f.ends.length q.ec, .int .i64 f.jump.x, .int .i64 f.jump.y, .int .i64 f.jump.z, .slice q.ca f.cuts.length q.cc] 109) ∧ Below w.heap.size w V ∧ w8.heap.size ≤ V.heap.size) ?hI
  (fun _ _ => False) (fun _ _ _ h _ => h) ⟨_, k2, OwnR.nil _ _ _ _, k1, HB8.out, Nat.le_refl _⟩
  (fun x a' V => ∃ Bx, w8.heap.size ≤ Bx ∧ V.heap[Bx]? = some (.cells #[.int .i64 x.1, .int .i64 x.2] 130) ∧ a' = (?G : Int × Int → Nat → Act) x Bx) ?hAx ?hassign ?hbody ?hdone (fun _ _ _ _ h _ => h.elim)
 case hassign =>
  rintro l0 pre x V K ⟨v, i1, i2, i3, i4, i5⟩ hK
  obtain ⟨z, hz⟩ : ∃ z, V.heap.size = z := ⟨_, rfl⟩
  gi_wp2
  refine hK _ _ ((KeepsOthers.alloc _ _).from _) (KeptC.below ((RowKit.Below.refl _ _).alloc (Nat.le_refl _) _)) ⟨v, Qj i1 _, i2.below (Qg _), Qj i3 _, i4.alloc i4.size _, by simp; omega⟩ ⟨z, by omega, ?_, ?_⟩
  ·rw [← hz]; exact heap_alloc_new _ _
  ·rfl
 case hseq =>
  exact visits1_in 8 (by omega) _ f q W7.heap.size w8 HF.out hb0 HRr.out HJm.out 20000 HWl.out (by omega) kX ⟨by omega, .inl (by omega)⟩ (fun k T hk hT => ⟨by omega, .inr (by rintro rfl; revert hT; decide)⟩) (fun V hV => SlAt.low HQ.out.reps HB8.out hV (fun k T hk => ⟨by omega, .inl (by omega)⟩)) (fun V hV => SlAt.low HQ.out.ends HB8.out hV (fun k T hk => ⟨by omega, .inl (by omega)⟩))
 case hKb =>
  intro V l0 o o' _ hV hc
  exact KeptC.put hV hc
 case hI =>
  rintro pre X Y ⟨v, i1, i2, i3, i4, i5⟩ hb hst
  exact ⟨v, (hb.block _ (by omega)).trans i1, i2.keptC hst (fun _ _ => by decide), (hb.block _ (by omega)).trans i3, i4.trans (hb.mono (by omega)), Nat.le_trans i5 hb.size⟩
 case hAx =>
  rintro x a' u V V' row ⟨Bx, h1, h2, h3⟩ hg hrow
  refine ⟨Bx, h1, (hg.block _ (Qd h2) (fun e => ?_)).trans h2, h3⟩
  obtain ⟨_, o, ho, hc⟩ := hrow Bx e.symm
  rw [h2] at ho; cases ho; cases hc
 case hbody =>
  rintro l0 pre x a' V hl0 ⟨v, i1, i2, i3, i4, i5⟩ ⟨Bx, hBx, hbx, rfl⟩ hlt
  have HC := Qa (ContainsC_any 91 #[.pointer (some ⟨Bx, 0, none⟩)] enters_rleaf V.heap.size (ZO x) q.ca q.cc f.cuts V (by have := HF.out.cuts; omega) (fun d _ U hU => rleafC_any d x Bx U (Qc hbx hU)) (Nat.le_refl _) (HQ.out.cuts.below i4))
  have HJ2 := Qa i2; have HI1 := Qa i1; have HI3 := Qa i3; have HI4 := Qa i4; have HBX := Qa hbx
  have hc := Qb i3
  clear i1 i2 i3 i4 hbx
  have hfl : (pre ++ [x]).filter (fun x => !f.cuts.any (ZO x)) = pre.filter (fun x => !f.cuts.any (ZO x)) ++ (if !f.cuts.any (ZO x) then [x] else []) := by
   rw [List.filter_append]; simp [List.filter_cons]
  have hll : (pre.filter (fun x => !f.cuts.any (ZO x))).length ≤ pre.length := List.length_filter_le _ _
  rw [hfl]
  generalize pre.filter (fun x => !f.cuts.any (ZO x)) = L at *
  cases ha : f.cuts.any (ZO x)
  case true =>
   rw [ha] at HC
   clear ha hfl
   gi_wp2_with (refine ⟨trivial, ?_⟩; gi_at_call 92; refine (CallsIn.inRound l0 (callsIn_wide.2 HC.out)).mono ?_; rintro e W3 ⟨rfl, hb3⟩)
   have h := HJ2.out.below hb3
   exact ⟨⟨hb3.size, fun k o _ hk _ => Qc hk hb3⟩, KeptC.below hb3, v, Qc HI1.out hb3, by simpa using h, Qc HI3.out hb3, HI4.out.trans (hb3.mono (by have := HI4.out.size; omega)), Nat.le_trans i5 hb3.size⟩
  case false =>
   rw [ha] at HC
   clear ha hfl
   have hlen : L.length + 1 ≤ 1048576 := by omega
   gi_wp2_with (first | (refine ⟨trivial, ?_⟩; gi_at_call 92; refine (CallsIn.inRound l0 (callsIn_wide.2 HC.out)).mono ?_; rintro e W3 ⟨rfl, hb3⟩; clear hc; have k1 := Qc HI1.out hb3; have kx := Qc HBX.out hb3; have hc := Qb k1; have hd := Qb kx; have hsz5 : w8.heap.size ≤ (W3.alloc (.cells #[.int .i64 x.1, .int .i64 x.2] 130)).heap.size := Nat.le_trans i5 (Nat.le_trans hb3.size (by simp))) | (gi_at_builtin; go_must (refine appEIn eltVi rfl (.tmp 20) (.tmp 22) rfl w8.heap.size _ L rfl ((HJ2.out.below hb3).below (Qg _)) _ _ _ [x] rfl rfl (by simp) (eltVi.new _ _ _ _ rfl) hlen hsz5 ?_); intro v5 w5 ho5 hg5; have hko5 := (hg5.block _ (by simp; have := Qd k1; omega) (HJ2.out.neBlk hb9.1)).trans (Qj k1 _); have c5 := Qb hko5; have f5 := Qe hko5; obtain ⟨a9, c9, e9, _, _⟩ := ho5.slAt; rw [show ((L ++ [x]).map viRow).length = L.length + 1 by simp] at e9; subst e9))
   replace hg5 : (W3.alloc (.cells #[.int .i64 x.1, .int .i64 x.2] 130)).grownBy w5 v.ownBlock := hg5
   have hz3 := hb3.size
   have hz5 := hg5.size
   simp only [World.size_alloc] at hz5
   have hsame : ∀ k, k < V.heap.size → k ≠ ob → some k ≠ v.ownBlock → (w5.setCell ⟨ob, 0, none⟩ (.slice a9 (L.length + 1) c9)).heap[k]? = V.heap[k]? := fun k h1 h2 h3 =>
    (heap_setCell_other _ _ _ _ (show k ≠ ob from h2)).trans ((hg5.block k (by simp; omega) h3).trans ((Below.heap_alloc _ _ _ (by omega)).trans (hb3.block k h1)))
   refine ⟨⟨by simp; omega, fun k o hk h0 ho => (hsame k (Qd h0) (by omega) (fun e => by
     obtain ⟨cur, hc⟩ := HJ2.out.isCells e.symm
     rw [h0] at hc; cases hc; cases ho)).trans h0⟩, ⟨by simp; omega, fun k cs T fr hF h0 => (hsame k (Qd h0) hF.1 (fun e => by
     obtain ⟨cur, hc⟩ := HJ2.out.isCells e.symm
     have := (HJ2.out.lt k e.symm).1
     rw [h0] at hc; cases hc
     rcases hF.2 with h | h
     ·omega
     ·exact h rfl)).trans h0⟩, _, heap_setCell_same _ _ _ _ _ _ hko5, ?_, ?_, ?_, by simp; omega⟩
   ·simpa using ho5.setOther hb9.1 _
   ·refine (hsame _ (Qd HI3.out) (by omega) (HJ2.out.neBlk hb9.2.2)).trans HI3.out
   ·exact (((HI4.out.trans (hb3.mono (by have := HI4.out.size; omega))).alloc (by have := HI4.out.size; omega) _).grown hg5 (by have := HI4.out.size; simp; omega) (fun k e => by have := (HJ2.out.lt k e).1; omega)).setCell (p := ⟨ob, 0, none⟩) (by show w.heap.size ≤ ob; omega) _
 case hdone =>
  rintro D xs V hD rfl ⟨v, j1, j2, j3, j4, j5⟩ hK
  have co := Qb j1
  obtain ⟨a9, c9, rfl, hs9, hi9⟩ := j2.slAt
  gi_wp2
  go_wp2
  refine ⟨by simp, .inl ⟨_, _, rfl, run_takeDeferred hK, ?_⟩⟩
  have hD2 : D ≠ ob := by omega
  refine ⟨_, results_tmp2 rfl _ _ _, ?_⟩
  have hbf := j4.grown (grownBy_putObj' V D (.deferred none)) j4.size (fun k e => by cases e; omega)
  have hin := hi9.keptRow (grownBy_putObj' V D (.deferred none)) (fun r e => by cases e; exact ⟨_, hK, rfl⟩)
  rw [HU.out]
  exact ⟨a9, c9, by simp [unfL], hs9, hin, hbf⟩
theorem eql_vi (c d : Int × Int) (w : World) : (binOp .eql 130 (.agg #[.int .i64 c.1, .int .i64 c.2]) (.agg #[.int .i64 d.1, .int .i64 d.2])).run Tryz.prog w = .ok (.bool (decide (d = c))) w := by
 obtain ⟨x, y⟩ := c
 obtain ⟨x', y'⟩ := d
 rw [run_eql_struct]
 simp [go_sem]
 by_cases h0 : x = x'
 ·simp [h0]
  by_cases h1 : y = y'
  ·simp [h1]
  ·simp [h1, Ne.symm h1]
 ·simp [h0, Ne.symm h0]
theorem eql_cu2 (c d : R3) (w : World) : (binOp .eql 186 (.agg #[.int .i64 c.x, .int .i64 c.y, .int .i64 c.z]) (.agg #[.int .i64 d.x, .int .i64 d.y, .int .i64 d.z])).run Tryz.prog w = .ok (.bool (decide (d = c))) w := by
 rw [eql_cu, show (decide ((⟨c.x, c.y, c.z⟩ : R3) = ⟨d.x, d.y, d.z⟩)) = decide (d = c) from decide_eq_decide.2 (show (c = d) ↔ (d = c) from eq_comm)]
theorem ViAt.below {w w' : World} {a : Option Addr} {l : List (Int × Int)} (h : ViAt w a l) (hb : Below w.heap.size w w') : ViAt w' a l := SlAt.below h hb
theorem ViAt.get {w : World} {a : Option Addr} {l : List (Int × Int)} (h : ViAt w a l) (i : Nat) (hi : i < l.length) : ∃ b off, a = some ⟨b, off, none⟩ ∧ b < w.heap.size ∧ w.cell? ⟨b, off + i * 2, none⟩ = some (.int .i64 l[i].1) ∧ w.cell? ⟨b, off + i * 2 + 1, none⟩ = some (.int .i64 l[i].2) := by
 obtain ⟨b, off, e, hb, _, hc⟩ := h i (viRow l[i]) (by rw [List.getElem?_map, List.getElem?_eq_getElem hi]; rfl)
 exact ⟨b, off, e, hb, hc 0 _ rfl, hc 1 _ rfl⟩
theorem IndexVi_eq (c : (Int × Int)) (a : Option Addr) (cap : Nat) (ds : List (Int × Int)) (w : World) (hl : ds.length ≤ 100000) (hm : ViAt w a ds) :
  Calls Tryz.prog 144 #[.slice a ds.length cap, .agg #[.int .i64 c.1, .int .i64 c.2]] w fun e w' => e = .returned (.int .i64 (idxO (fun x => decide (x = c)) ds)) ∧ RowKit.Below w.heap.size w w' := by
 have HM := Qa hm
 clear hm
 have hx := heap_alloc_new w (.cells #[.int .i64 c.1, .int .i64 c.2] 130)
 have hb := (RowKit.Below.refl w.heap.size w).alloc (Nat.le_refl _) (.cells #[.int .i64 c.1, .int .i64 c.2] 130)
 go_enter Tryz.func144, Tryz.ntmps144
 go_upto_region 1 with (fail)
 have HX := Qa hx; have HB := Qa hb
 clear hx hb
 generalize w.alloc (.cells #[.int .i64 c.1, .int .i64 c.2] 130) = W at *
 go_wp2
 go_loopw [8] (fun i wr => ∃ k : Nat, k ≤ ds.length ∧ i = .int .i64 k ∧ (∀ j (hj : j < ds.length), j < k → decide (ds[j] = c) = false) ∧ wr.heap[w.heap.size]? = some (.cells #[.int .i64 c.1, .int .i64 c.2] 130) ∧ RowKit.Below w.heap.size w wr) (fun i _ => ds.length - (intOf i).toNat)
 case atStart => exact ⟨0, Nat.zero_le _, rfl, fun j hj h => by omega, HX.out, HB.out⟩
 case round =>
  obtain ⟨k, hk, rfl, hall, hxr, hb⟩ := hrel
  have HA := Qa hall; have HB2 := Qa hb; have HXr := Qa hxr
  clear hall hb hxr HX HB
  by_cases hlt : k < ds.length
  ·obtain ⟨b, off, rfl, _, d0, d1⟩ := (HM.out.below HB2.out).get k hlt
   have hc := Qb HXr.out
   have HT := Qa (fun h : decide (ds[k] = c) = true => Zv (p := fun x => decide (x = c)) hlt h HA.out)
   have HF := Qa (fun h : decide (ds[k] = c) = false => (fun j (hj : j < ds.length) (hjk : j < k + 1) => if e : j = k then by subst e; exact h else HA.out j hj (by omega) : ∀ j (hj : j < ds.length), j < k + 1 → decide (ds[j] = c) = false))
   generalize ds[k] = d at *
   have heq := fun W => eql_vi c d W
   cases hpd : decide (d = c)
   ·rw [hpd] at heq HF
    have HF2 := Qa (HF.out rfl)
    clear HT HF hpd
    go_wp2
    go_quiet (fail)
    go_wp2
    go_roundw
    case rel => exact ⟨k + 1, by omega, by go_num, HF2.out, Qc HXr.out (below_drewN (RowKit.Below.refl _ _) nq), HB2.out.trans ((below_drewN (RowKit.Below.refl _ _) nq).mono HB2.out.size)⟩
    case measure => simp [intOf]; omega
   ·rw [hpd] at heq HT
    have HT2 := Qa (HT.out rfl)
    clear HT HF hpd
    go_wp2
    go_quiet (fail)
    go_wp2
    go_ret
    exact ⟨QK HT2.out.symm, HB2.out.trans ((below_drewN (RowKit.Below.refl _ _) nq).mono HB2.out.size)⟩
  ·have HT2 := Qa (Q0 (p := fun x => decide (x = c)) fun j hj => HA.out j hj (by omega))
   go_wp2
   go_ret
   exact ⟨QK HT2.out.symm, HB2.out⟩
theorem IndexCu_eq (c : R3) (a : Option Addr) (cap : Nat) (ds : List R3) (w : World) (hl : ds.length ≤ 100000) (hm : R3At w a ds) :
  Calls Tryz.prog 212 #[.slice a ds.length cap, .agg #[.int .i64 c.x, .int .i64 c.y, .int .i64 c.z]] w fun e w' => e = .returned (.int .i64 (idxO (fun x => decide (x = c)) ds)) ∧ RowKit.Below w.heap.size w w' := by
 have HM := Qa hm
 clear hm
 have hx := heap_alloc_new w (.cells #[.int .i64 c.x, .int .i64 c.y, .int .i64 c.z] 186)
 have hb := (RowKit.Below.refl w.heap.size w).alloc (Nat.le_refl _) (.cells #[.int .i64 c.x, .int .i64 c.y, .int .i64 c.z] 186)
 go_enter Tryz.func212, Tryz.ntmps212
 go_upto_region 1 with (fail)
 have HX := Qa hx; have HB := Qa hb
 clear hx hb
 generalize w.alloc (.cells #[.int .i64 c.x, .int .i64 c.y, .int .i64 c.z] 186) = W at *
 go_wp2
 go_loopw [8] (fun i wr => ∃ k : Nat, k ≤ ds.length ∧ i = .int .i64 k ∧ (∀ j (hj : j < ds.length), j < k → decide (ds[j] = c) = false) ∧ wr.heap[w.heap.size]? = some (.cells #[.int .i64 c.x, .int .i64 c.y, .int .i64 c.z] 186) ∧ RowKit.Below w.heap.size w wr) (fun i _ => ds.length - (intOf i).toNat)
 case atStart => exact ⟨0, Nat.zero_le _, rfl, fun j hj h => by omega, HX.out, HB.out⟩
 case round =>
  obtain ⟨k, hk, rfl, hall, hxr, hb⟩ := hrel
  have HA := Qa hall; have HB2 := Qa hb; have HXr := Qa hxr
  clear hall hb hxr HX HB
  by_cases hlt : k < ds.length
  ·obtain ⟨b, off, rfl, _, d0, d1, d2⟩ := (HM.out.below HB2.out).get k hlt
   have hc := Qb HXr.out
   have HT := Qa (fun h : decide (ds[k] = c) = true => Zv (p := fun x => decide (x = c)) hlt h HA.out)
   have HF := Qa (fun h : decide (ds[k] = c) = false => (fun j (hj : j < ds.length) (hjk : j < k + 1) => if e : j = k then by subst e; exact h else HA.out j hj (by omega) : ∀ j (hj : j < ds.length), j < k + 1 → decide (ds[j] = c) = false))
   generalize ds[k] = d at *
   have heq := fun W => eql_cu2 c d W
   cases hpd : decide (d = c)
   ·rw [hpd] at heq HF
    have HF2 := Qa (HF.out rfl)
    clear HT HF hpd
    go_wp2
    go_quiet (fail)
    go_wp2
    go_roundw
    case rel => exact ⟨k + 1, by omega, by go_num, HF2.out, Qc HXr.out (below_drewN (RowKit.Below.refl _ _) nq), HB2.out.trans ((below_drewN (RowKit.Below.refl _ _) nq).mono HB2.out.size)⟩
    case measure => simp [intOf]; omega
   ·rw [hpd] at heq HT
    have HT2 := Qa (HT.out rfl)
    clear HT HF hpd
    go_wp2
    go_quiet (fail)
    go_wp2
    go_ret
    exact ⟨QK HT2.out.symm, HB2.out.trans ((below_drewN (RowKit.Below.refl _ _) nq).mono HB2.out.size)⟩
  ·have HT2 := Qa (Q0 (p := fun x => decide (x = c)) fun j hj => HA.out j hj (by omega))
   go_wp2
   go_ret
   exact ⟨QK HT2.out.symm, HB2.out⟩
theorem ContainsCu_eq (c : R3) (a : Option Addr) (cap : Nat) (ds : List R3) (w : World) (hl : ds.length ≤ 100000) (hm : R3At w a ds) :
  Calls Tryz.prog 210 #[.slice a ds.length cap, .agg #[.int .i64 c.x, .int .i64 c.y, .int .i64 c.z]] w fun e w' => e = .returned (.bool (ds.any fun x => decide (x = c))) ∧ Below w.heap.size w w' := by
 have hx := heap_alloc_new w (.cells #[.int .i64 c.x, .int .i64 c.y, .int .i64 c.z] 186)
 have hb := (RowKit.Below.refl w.heap.size w).alloc (Nat.le_refl _) (.cells #[.int .i64 c.x, .int .i64 c.y, .int .i64 c.z] 186)
 have HI := Qa (IndexCu_eq c a cap ds _ hl (hm.below hb))
 have HD := Qa (Yv (fun x => decide (x = c)) ds)
 have HB := Qa hb; have HX := Qa hx
 clear hx hb hm
 generalize idxO (fun x => decide (x = c)) ds = I at *
 go_enter Tryz.func210, Tryz.ntmps210
 go_upto_region 1 with (fail)
 generalize w.alloc (.cells #[.int .i64 c.x, .int .i64 c.y, .int .i64 c.z] 186) = W at *
 have hc := Qb HX.out
 go_wp2_with (go_at_call 212; refine HI.out.mono ?_; rintro e w2 ⟨rfl, hb⟩; have HB2 := bu HB hb)
 go_ret
 exact ⟨Qf HD.out, HB2.out⟩
theorem findR_eq (f : Fo) (v : Int × Int) : Yi f v = if Qy f then ((max (idxO (fun x => decide (x = v)) (unfL f)) 0, decide (0 ≤ idxO (fun x => decide (x = v)) (unfL f))), 0) else ((0, false), 1) := by
 have e : (fun x : Int × Int => x == v) = fun x => decide (x = v) := by funext x; rw [Bool.eq_iff_iff]; simp
 unfold Yi idxO
 rw [e]
 split
 ·cases (unfL f).findIdx? (fun x => decide (x = v)) with
  | none => rfl
  | some i => simp only; congr 2 <;> simp
 ·rfl
theorem rFind_any (f : Fo) (q : Fp) (v : Int × Int) (w : World) (hf : FoFew f) (hq : FoAt w f q) :
  Calls Tryz.prog 106 #[.agg #[.int .i64 f.bars, .slice q.ra f.reps.length q.rc, .slice q.ea f.ends.length q.ec, .int .i64 f.jump.x, .int .i64 f.jump.y, .int .i64 f.jump.z, .slice q.ca f.cuts.length q.cc], .agg #[.int .i64 v.1, .int .i64 v.2]] w fun e w' => e = .returned (.tuple #[.int .i64 (Yi f v).1.1, .bool (Yi f v).1.2, .int .i64 (Yi f v).2]) ∧ Below w.heap.size w w' := by
 obtain ⟨x1, x2, hb⟩ := box2 (w := w) (A := .cells #[.int .i64 f.bars, .slice q.ra f.reps.length q.rc, .slice q.ea f.ends.length q.ec, .int .i64 f.jump.x, .int .i64 f.jump.y, .int .i64 f.jump.z, .slice q.ca f.cuts.length q.cc] 109) (B := .cells #[.int .i64 v.1, .int .i64 v.2] 130) (Below.refl _ _)
 have HU := Qa (rUnfold_any f q _ hf (hq.below hb))
 have HF := Qa (findR_eq f v)
 have hul : (unfL f).length ≤ 100000 ∨ Qy f = false := by
  cases hv : Qy f
  ·exact .inr rfl
  ·left
   unfold Qy at hv
   simp only [Bool.and_eq_true, decide_eq_true_eq] at hv
   obtain ⟨⟨⟨⟨⟨⟨hv1, hv2⟩, hv3⟩, hv4⟩, hv5⟩, hv6⟩, hv7⟩ := hv
   have h1 := Zz hf.bars (ZN hv3) hv5
   have h2 : (unfL f).length ≤ (visL (Zi f)).length := List.length_filter_le _ _
   rw [JX] at h2
   omega
 have HUf := Qa (show unfR f = if Qy f then (unfL f, 0) else ([], 1) from rfl)
 have HB := Qa hb
 clear hq hb
 go_enter Tryz.func106, Tryz.ntmps106
 go_upto_region 1 with (fail)
 generalize (w.alloc (.cells #[.int .i64 f.bars, .slice q.ra f.reps.length q.rc, .slice q.ea f.ends.length q.ec, .int .i64 f.jump.x, .int .i64 f.jump.y, .int .i64 f.jump.z, .slice q.ca f.cuts.length q.cc] 109)).alloc (.cells #[.int .i64 v.1, .int .i64 v.2] 130) = W at *
 have hc := Qb x1; have hd := Qb x2
 cases hv : Qy f
 ·rw [hv] at HF HUf
  rw [HUf.out] at HU
  have HF2 := Qa (show Yi f v = ((0, false), 1) from HF.out)
  clear hv HF HUf
  go_wp2_with (go_at_call 55; refine HU.out.mono ?_; rintro e w2 ⟨a, cap, rfl, hk, hs, hb⟩; have HB2 := bu HB hb; clear hs hk hb)
  refine bodyPost_ret (results_tmp3 rfl _ _ _) rfl ?_
  rw [HF2.out]
  exact ⟨rfl, HB2.out⟩
 ·rw [hv] at HF HUf hul
  rw [HUf.out] at HU
  have HF2 := Qa (show Yi f v = ((max (idxO (fun x => decide (x = v)) (unfL f)) 0, decide (0 ≤ idxO (fun x => decide (x = v)) (unfL f))), 0) from HF.out)
  have hll : (unfL f).length ≤ 100000 := hul.resolve_right (by decide)
  clear hv HF HUf hul
  go_upto_region 4 with (go_at_call 55; refine HU.out.mono ?_; rintro e w2 ⟨a, cap, rfl, hk, hs, hb⟩; have HB2 := bu HB hb; have HX2 := Qa (Qc x2 hb); have HI := Qa (IndexVi_eq v a cap (unfL f) w2 hll hs); clear hs hk hb)
  generalize idxO (fun x => decide (x = v)) (unfL f) = I at *
  clear hc hd
  have hd := Qb HX2.out
  go_wp2_with (go_at_call 144; refine HI.out.mono ?_; rintro e w3 ⟨rfl, hb⟩; have HB3 := bu HB2 hb)
  all_goals
   refine bodyPost_ret (results_tmp3 rfl _ _ _) rfl ?_
   rw [HF2.out]
   exact ⟨by simp <;> omega, HB3.out⟩
section
variable {P : Program} {ops : Array Oper} {Q : Exit → Act → World → Prop} {md : Region.Mode} {S : World → Prop} {J : (Nat → Bool) → Act → World → Prop}
def Uk (listed : Array Bool) : Nat → Bool := fun i => listed.getD i true
def dset (D : Nat → Bool) (i : Nat) : Nat → Bool := fun j => if j = i then true else D j
theorem dset_same (D : Nat → Bool) (i : Nat) : dset D i i = true := if_pos rfl
theorem JO (l : Array Bool) (i : Nat) : Uk (l.setIfInBounds i true) = dset (Uk l) i := by
 funext j
 unfold Uk dset
 by_cases h : j = i
 ·subst h
  rw [if_pos rfl]
  simp only [Array.getD_eq_getD_getElem?]
  by_cases hs : j < l.size
  ·simp [hs]
  ·rw [Array.getElem?_eq_none (by simpa using hs)]; rfl
 ·rw [if_neg h, getD_set_ne true (Ne.symm h)]
def StepAll (P : Program) (md : Region.Mode) (ops : Array Oper) (Q : Exit → Act → World → Prop) (J : (Nat → Bool) → Act → World → Prop) (D : Nat → Bool) (b : Act) (v : World) (rs : List Nat) : Prop :=
 ∀ i ∈ rs, D i = false → (∀ o, ops[i]? = some o → (o.after.all fun e => !Region.binds md e || D e.on) = true) → wpOp P ops Q i (fun b' v' => J (dset D i) b' v') b v
theorem StepAll.nil {D : Nat → Bool} {b : Act} {v : World} : StepAll P md ops Q J D b v [] := fun _ h => by cases h
theorem StepAll.cons {D : Nat → Bool} {b : Act} {v : World} {i : Nat} {o : Oper} {rs : List Nat} (ho : ops[i]? = some o)
  (h : D i = false → (∀ e ∈ o.after.toList, Region.binds md e = true → D e.on = true) → ∀ K' : Act → World → Prop, Shut (∀ a w, J (dset D i) a w → K' a w) → if Region.wanted o (yielded ops b.tmps) = true then Oper.wp P o b v K' Q else K' (b.put o.dst undef) v)
  (hs : StepAll P md ops Q J D b v rs) : StepAll P md ops Q J D b v (i :: rs) := fun j hj hd hdep => by
 rcases List.mem_cons.1 hj with rfl | hj
 ·exact wpOp_step ho (fun K' hK => h hd (fun e he hb => by
   have h1 := hdep o ho
   simp only [Array.all_eq_true', Bool.or_eq_true] at h1
   have h2 := h1 e (by simpa using he)
   rw [hb] at h2
   simpa using h2) K' (fun a w hW => hK a w hW))
 ·exact hs j hj hd hdep
theorem sc {D : Nat → Bool} {b : Act} {v : World} {i : Nat} {o : Oper} {rs : List Nat} (h : D i = false → (∀ e ∈ o.after.toList, Region.binds md e = true → D e.on = true) → ∀ K' : Act → World → Prop, Shut (∀ a w, J (dset D i) a w → K' a w) → if Region.wanted o (yielded ops b.tmps) = true then Oper.wp P o b v K' Q else K' (b.put o.dst undef) v) (hs : StepAll P md ops Q J D b v rs) (ho : ops[i]? = some o := by simp only [List.getElem?_toArray, List.getElem?_cons_succ, List.getElem?_cons_zero]; try rfl) : StepAll P md ops Q J D b v (i :: rs) := StepAll.cons ho h hs
def YH (ops : Array Oper) (l : Array Bool) : List Nat := (List.range ops.size).filter fun i => !l.getD i true
theorem Yx {l : Array Bool} {i : Nat} : i ∈ YH ops l ↔ i < ops.size ∧ l.getD i true = false := by
 unfold YH
 rw [List.mem_filter, List.mem_range]
 simp
theorem filter_set_length (l : Array Bool) {i : Nat} (n : Nat) (hi : i < n) (h : l.getD i true = false) :
  ((List.range n).filter fun j => !(l.setIfInBounds i true).getD j true).length + 1 = ((List.range n).filter fun j => !l.getD j true).length := by
 induction n with
 | zero => omega
 | succ n ih =>
  rw [List.range_succ, List.filter_append, List.filter_append, List.length_append, List.length_append]
  by_cases hin : i = n
  ·subst hin
   have e1 : ((List.range i).filter fun j => !(l.setIfInBounds i true).getD j true) = ((List.range i).filter fun j => !l.getD j true) := by
    apply List.filter_congr
    intro x hx
    rw [getD_set_ne true (by have := List.mem_range.1 hx; omega)]
   have e2 : (l.setIfInBounds i true).getD i true = true := by
    have := congrFun (JO l i) i
    rw [dset_same] at this
    exact this
   rw [e1]
   have h2 : [i].filter (fun j => !l.getD j true) = [i] := by rw [List.filter_cons_of_pos (by rw [h]; rfl)]; rfl
   have h3 : [i].filter (fun j => !(l.setIfInBounds i true).getD j true) = [] := by rw [List.filter_cons_of_neg (by rw [e2]; simp)]; rfl
   rw [h2, h3]; rfl
  ·have := ih (by omega)
   have e3 : [n].filter (fun j => !(l.setIfInBounds i true).getD j true) = [n].filter (fun j => !l.getD j true) := by
    apply List.filter_congr
    intro x hx
    rw [List.mem_singleton.1 hx, getD_set_ne true (by omega)]
   rw [e3]; omega
def ordered (md : Region.Mode) (ops : Array Oper) : Bool := (List.range ops.size).all fun i => ((ops[i]?).map (·.after.all fun e => !Region.binds md e || decide (e.on < i))).getD true
theorem ready_some (ho : ordered md ops = true) {l : Array Bool} (hl : l.size = ops.size) : ∀ n i, i < n → i < ops.size → l.getD i true = false → Region.ready md ops l ≠ [] := by
 intro n
 induction n with
 | zero => intro i h; omega
 | succ n ih =>
  intro i hin hi h
  by_cases hp : ∃ j, j < i ∧ l.getD j true = false
  ·obtain ⟨j, hj, hd⟩ := hp
   exact ih j (by omega) (by omega) hd
  ·have hall : ∀ j, j < i → l.getD j true = true := fun j hj => by
    cases hv : l.getD j true
    ·exact absurd ⟨j, hj, hv⟩ hp
    ·rfl
   intro hr
   have hm : i ∈ Region.ready md ops l := by
    rw [mem_ready]
    have hsome : ∃ o, ops[i]? = some o := ⟨ops[i], Array.getElem?_eq_getElem hi⟩
    obtain ⟨o, hoo⟩ := hsome
    refine ⟨h, o, hoo, fun e he hb => ?_⟩
    have h1 := List.all_eq_true.1 ho i (List.mem_range.2 hi)
    rw [hoo] at h1
    simp only [Option.map_some, Option.getD_some] at h1
    have h2 : e.on < i := by
     simp only [List.all_eq_true, Array.all_eq_true', Bool.or_eq_true, decide_eq_true_eq] at h1
     have h3 := h1 e he
     rw [hb] at h3
     simpa using h3
    have h4 := hall _ h2
    have h5 : e.on < l.size := by omega
    simp only [Array.getD_eq_getD_getElem?, Array.getElem?_eq_getElem h5, Option.getD_some] at h4 ⊢
    exact h4
   rw [hr] at hm
   cases hm
theorem Yn {n : Nat} {listed : Array Bool} {a : Act} {w : World} (todo : List Nat) (J : Act → (Nat → Bool) → Act → World → Prop)
  (ht : YH ops listed = todo) (hn : n = todo.length) (hl : listed.size = ops.size) (ho : ordered md ops = true)
  (h0 : J a (Uk listed) a w) (hS : ∀ D b v, J a D b v → S v) (step : ∀ D b v, J a D b v → StepAll P md ops Q (J a) D b v todo)
  (done : ∀ D b v, (∀ i ∈ todo, D i = true) → J a D b v → Q .normal b v) : wpAnyH P md ops Q S n listed a w := by
 have key : ∀ k l b v, l.size = ops.size → (∀ i, listed.getD i true = true → l.getD i true = true) → (YH ops l).length = k → J a (Uk l) b v → wpAnyH P md ops Q S k l b v := by
  intro k
  induction k with
  | zero =>
   intro l b v hls hk hu hj
   have hnil : YH ops l = [] := List.eq_nil_of_length_eq_zero hu
   have hall : ∀ i, i < ops.size → l.getD i true = true := fun i hi => by
    cases hv : l.getD i true
    ·have := Yx.2 ⟨hi, hv⟩
     rw [hnil] at this; cases this
    ·rfl
   refine ⟨?_, done _ _ _ (fun i hi => ?_) hj⟩
   ·rw [List.eq_nil_iff_forall_not_mem]
    intro i hi
    obtain ⟨h1, o, h2, _⟩ := mem_ready.1 hi
    have h3 : i < ops.size := (Array.getElem?_eq_some_iff.1 h2).1
    rw [hall i h3] at h1; cases h1
   ·rw [← ht] at hi
    exact hall i (Yx.1 hi).1
  | succ k ih =>
   intro l b v hls hk hu hj
   constructor
   ·intro hr
    exfalso
    obtain ⟨i, hi⟩ : ∃ i, i ∈ YH ops l := by
     cases hx : YH ops l with
     | nil => rw [hx] at hu; simp at hu
     | cons x xs => exact ⟨x, by simp⟩
    obtain ⟨h1, h2⟩ := Yx.1 hi
    exact ready_some ho hls (i + 1) i (by omega) h1 h2 hr
   ·intro i hi
    obtain ⟨h1, o, h2, h3⟩ := mem_ready.1 hi
    have hlt : i < ops.size := (Array.getElem?_eq_some_iff.1 h2).1
    have him : i ∈ todo := by
     rw [← ht]
     refine Yx.2 ⟨hlt, ?_⟩
     cases hv : listed.getD i true
     ·rfl
     ·rw [hk i hv] at h1; cases h1
    have hst := step _ _ _ hj i him h1 (fun o' ho' => by
     rw [h2] at ho'
     obtain rfl := Option.some.inj ho'
     simp only [List.all_eq_true, Array.all_eq_true', Bool.or_eq_true]
     intro e he
     cases hb : Region.binds md e
     ·exact .inl rfl
     ·refine .inr ?_
      have h4 := h3 e he hb
      unfold Uk
      simp only [Array.getD_eq_getD_getElem?] at h4 ⊢
      cases hx : l[e.on]? with
      | none => rfl
      | some u => rw [hx] at h4; exact h4)
    refine wpOp_mono (fun b' v' hj' => ⟨hS _ _ _ hj', ih _ _ _ ?_ ?_ ?_ ?_⟩) hst
    ·rw [Array.size_setIfInBounds]; exact hls
    ·intro j hv
     by_cases hji : i = j
     ·subst hji
      have := congrFun (JO l i) i
      rw [dset_same] at this
      exact this
     ·rw [getD_set_ne true hji]; exact hk j hv
    ·have := filter_set_length l ops.size hlt h1
     unfold YH at hu ⊢
     omega
    ·rw [JO]; exact hj'
 exact hn ▸ ht ▸ key _ _ _ _ hl (fun _ h => h) rfl h0
end
end Go.Proofs.YtajijcfikihhjaaGreatDoor
namespace Go.Proofs.YtajijcfikihhjaaGreatDoor
open Go.RowKit Go.Sort Go.Shelf
theorem eltRe : Elt Tryz.prog 103 254 3 24 R3.cells := UJ _ _ Tryz.underlying103 ⟨.agg #[.int .i64 0, .int .i64 0, .int .i64 0], by kernel_rfl, rfl⟩
theorem eltEn : Elt Tryz.prog 104 255 3 24 R3.cells := UJ _ _ Tryz.underlying104 ⟨.agg #[.int .i64 0, .int .i64 0, .int .i64 0], by kernel_rfl, rfl⟩
theorem eltCu : Elt Tryz.prog 107 186 3 24 R3.cells := UJ _ _ Tryz.underlying107 ⟨.agg #[.int .i64 0, .int .i64 0, .int .i64 0], by kernel_rfl, rfl⟩
theorem ZE (w : World) (B : Nat) (E : TypeId) (sz : Nat) (hb : B ≤ w.heap.size) : OwnR (w.alloc (.cells #[] E)) B E sz (.slice (some ⟨w.heap.size, 0, none⟩) 0 0) [] :=
 ⟨by simp, World.ownsRow_made w #[] 0 hb (Nat.zero_le _) (by simp)⟩
theorem YS {w : World} {sz : Nat} {rows : List (List Value)} (h : SlAt w none sz rows) : rows = [] := by
 cases rows with
 | nil => rfl
 | cons r rows => obtain ⟨_, _, e, _⟩ := h 0 r rfl; cases e
theorem nil_someRe (ad : Addr) (n cap : Nat) (w : World) : (binOp BinOp.eql 103 (.slice (some ad) n cap) (.slice none 0 0)).run Tryz.prog w = .ok (.bool false) w := by kernel_rfl
theorem nil_noneRe (w : World) : (binOp BinOp.eql 103 (.slice none 0 0) (.slice none 0 0)).run Tryz.prog w = .ok (.bool true) w := by kernel_rfl
theorem CloneRe_any (a : Option Addr) (cap : Nat) (l : List R3) (w : World) (hl : l.length ≤ 100000) (hk : SlOk a l.length cap) (hr : R3At w a l) :
  Calls Tryz.prog 206 #[.slice a l.length cap] w fun e w' => ∃ v, e = .returned v ∧ OwnR w' w.heap.size 254 3 v (l.map R3.cells) ∧ RowKit.Below w.heap.size w w' := by
 cases a with
 | none =>
  obtain rfl : l = [] := by have := YS hr; simpa using this
  obtain rfl : cap = 0 := hk.none rfl
  have hq := nil_noneRe w
  go_enter Tryz.func206, Tryz.ntmps206
  go_wp2
  go_ret
  exact ⟨_, rfl, OwnR.nil _ _ _ _, RowKit.Below.refl _ _⟩
 | some ad =>
  have HR := Qa hr; clear hr hk
  have hq := nil_someRe ad l.length cap w
  go_enter Tryz.func206, Tryz.ntmps206
  go_wp2_with (at_builtin; refine appE eltRe rfl (.tmp 5) (.tmp 6) rfl w.heap.size _ [] rfl (ZE _ _ _ _ (Nat.le_refl _)) _ _ _ l rfl rfl (fun e => by cases e) (SlAt.alloc HR.out _) (by simp; omega) (by simp) ?_; intro v2 w2 ho2 hg2; have HO2 := Qa ho2; have HB2 := Qa (Zy ((RowKit.Below.refl w.heap.size w).alloc (Nat.le_refl _) _) (ZE _ w.heap.size 254 3 (Nat.le_refl _)) (by simp) hg2); clear ho2 hg2)
  go_ret
  exact ⟨_, rfl, HO2.out, HB2.out⟩
theorem nil_someEn (ad : Addr) (n cap : Nat) (w : World) : (binOp BinOp.eql 104 (.slice (some ad) n cap) (.slice none 0 0)).run Tryz.prog w = .ok (.bool false) w := by kernel_rfl
theorem nil_noneEn (w : World) : (binOp BinOp.eql 104 (.slice none 0 0) (.slice none 0 0)).run Tryz.prog w = .ok (.bool true) w := by kernel_rfl
theorem CloneEn_any (a : Option Addr) (cap : Nat) (l : List R3) (w : World) (hl : l.length ≤ 100000) (hk : SlOk a l.length cap) (hr : R3At w a l) :
  Calls Tryz.prog 207 #[.slice a l.length cap] w fun e w' => ∃ v, e = .returned v ∧ OwnR w' w.heap.size 255 3 v (l.map R3.cells) ∧ RowKit.Below w.heap.size w w' := by
 cases a with
 | none =>
  obtain rfl : l = [] := by have := YS hr; simpa using this
  obtain rfl : cap = 0 := hk.none rfl
  have hq := nil_noneEn w
  go_enter Tryz.func207, Tryz.ntmps207
  go_wp2
  go_ret
  exact ⟨_, rfl, OwnR.nil _ _ _ _, RowKit.Below.refl _ _⟩
 | some ad =>
  have HR := Qa hr; clear hr hk
  have hq := nil_someEn ad l.length cap w
  go_enter Tryz.func207, Tryz.ntmps207
  go_wp2_with (at_builtin; refine appE eltEn rfl (.tmp 5) (.tmp 6) rfl w.heap.size _ [] rfl (ZE _ _ _ _ (Nat.le_refl _)) _ _ _ l rfl rfl (fun e => by cases e) (SlAt.alloc HR.out _) (by simp; omega) (by simp) ?_; intro v2 w2 ho2 hg2; have HO2 := Qa ho2; have HB2 := Qa (Zy ((RowKit.Below.refl w.heap.size w).alloc (Nat.le_refl _) _) (ZE _ w.heap.size 255 3 (Nat.le_refl _)) (by simp) hg2); clear ho2 hg2)
  go_ret
  exact ⟨_, rfl, HO2.out, HB2.out⟩
theorem nil_someCu (ad : Addr) (n cap : Nat) (w : World) : (binOp BinOp.eql 107 (.slice (some ad) n cap) (.slice none 0 0)).run Tryz.prog w = .ok (.bool false) w := by kernel_rfl
theorem nil_noneCu (w : World) : (binOp BinOp.eql 107 (.slice none 0 0) (.slice none 0 0)).run Tryz.prog w = .ok (.bool true) w := by kernel_rfl
theorem CloneCu_any (a : Option Addr) (cap : Nat) (l : List R3) (w : World) (hl : l.length ≤ 100000) (hk : SlOk a l.length cap) (hr : R3At w a l) :
  Calls Tryz.prog 208 #[.slice a l.length cap] w fun e w' => ∃ v, e = .returned v ∧ OwnR w' w.heap.size 186 3 v (l.map R3.cells) ∧ RowKit.Below w.heap.size w w' := by
 cases a with
 | none =>
  obtain rfl : l = [] := by have := YS hr; simpa using this
  obtain rfl : cap = 0 := hk.none rfl
  have hq := nil_noneCu w
  go_enter Tryz.func208, Tryz.ntmps208
  go_wp2
  go_ret
  exact ⟨_, rfl, OwnR.nil _ _ _ _, RowKit.Below.refl _ _⟩
 | some ad =>
  have HR := Qa hr; clear hr hk
  have hq := nil_someCu ad l.length cap w
  go_enter Tryz.func208, Tryz.ntmps208
  go_wp2_with (at_builtin; refine appE eltCu rfl (.tmp 5) (.tmp 6) rfl w.heap.size _ [] rfl (ZE _ _ _ _ (Nat.le_refl _)) _ _ _ l rfl rfl (fun e => by cases e) (SlAt.alloc HR.out _) (by simp; omega) (by simp) ?_; intro v2 w2 ho2 hg2; have HO2 := Qa ho2; have HB2 := Qa (Zy ((RowKit.Below.refl w.heap.size w).alloc (Nat.le_refl _) _) (ZE _ w.heap.size 186 3 (Nat.le_refl _)) (by simp) hg2); clear ho2 hg2)
  go_ret
  exact ⟨_, rfl, HO2.out, HB2.out⟩
theorem OwnR.low {w : World} {B B' : Nat} {E : TypeId} {sz : Nat} {v : Value} {rows : List (List Value)} (h : OwnR w B' E sz v rows) (hB : B ≤ B') : OwnR w B E sz v rows := by
 obtain ⟨h0, h1, h2⟩ := h
 refine ⟨h0, h1, ?_⟩
 rcases h2 with h2 | ⟨g, cap, cur, e, hg, h3⟩
 ·exact .inl h2
 ·exact .inr ⟨g, cap, cur, e, Nat.le_trans hB hg, h3⟩
theorem OwnR.setAt {w : World} {B b i : Nat} {E : TypeId} {sz : Nat} {v : Value} {rows : List (List Value)} (o : OwnR w B E sz v rows) (h : b < B) (x : Value) : OwnR (w.setCell ⟨b, i, none⟩ x) B E sz v rows := by
 refine o.kept (row := some b) ⟨rfl, rfl, rfl, by simp, fun k hk hne => heap_setCell_other _ _ _ _ (fun e => hne (by cases e; rfl))⟩ ?_
 cases hv : v.ownBlock with
 | none => exact .inl rfl
 | some j => exact .inr (fun e => by have := (o.lt j hv).1; cases e; omega)
abbrev set7 (v : World) (b : Nat) (a0 a1 a2 a3 a4 a5 a6 : Value) : World := ((((((v.setCell ⟨b, 0, none⟩ a0).setCell ⟨b, 1, none⟩ a1).setCell ⟨b, 2, none⟩ a2).setCell ⟨b, 3, none⟩ a3).setCell ⟨b, 4, none⟩ a4).setCell ⟨b, 5, none⟩ a5).setCell ⟨b, 6, none⟩ a6
theorem QB {v : World} {b : Nat} {T : TypeId} {c0 c1 c2 c3 c4 c5 c6 : Value} (h : v.heap[b]? = some (.cells #[c0, c1, c2, c3, c4, c5, c6] T (0, 0))) (a0 a1 a2 a3 a4 a5 a6 : Value) : (set7 v b a0 a1 a2 a3 a4 a5 a6).heap[b]? = some (.cells #[a0, a1, a2, a3, a4, a5, a6] T (0, 0)) := by
 unfold set7
 replace h : (v.setCell ⟨b, 0, none⟩ a0).heap[b]? = some (.cells #[a0, c1, c2, c3, c4, c5, c6] T (0, 0)) := heap_setCell_same v b 0 _ _ a0 h
 generalize v.setCell ⟨b, 0, none⟩ a0 = v at *
 replace h : (v.setCell ⟨b, 1, none⟩ a1).heap[b]? = some (.cells #[a0, a1, c2, c3, c4, c5, c6] T (0, 0)) := heap_setCell_same v b 1 _ _ a1 h
 generalize v.setCell ⟨b, 1, none⟩ a1 = v at *
 replace h : (v.setCell ⟨b, 2, none⟩ a2).heap[b]? = some (.cells #[a0, a1, a2, c3, c4, c5, c6] T (0, 0)) := heap_setCell_same v b 2 _ _ a2 h
 generalize v.setCell ⟨b, 2, none⟩ a2 = v at *
 replace h : (v.setCell ⟨b, 3, none⟩ a3).heap[b]? = some (.cells #[a0, a1, a2, a3, c4, c5, c6] T (0, 0)) := heap_setCell_same v b 3 _ _ a3 h
 generalize v.setCell ⟨b, 3, none⟩ a3 = v at *
 replace h : (v.setCell ⟨b, 4, none⟩ a4).heap[b]? = some (.cells #[a0, a1, a2, a3, a4, c5, c6] T (0, 0)) := heap_setCell_same v b 4 _ _ a4 h
 generalize v.setCell ⟨b, 4, none⟩ a4 = v at *
 replace h : (v.setCell ⟨b, 5, none⟩ a5).heap[b]? = some (.cells #[a0, a1, a2, a3, a4, a5, c6] T (0, 0)) := heap_setCell_same v b 5 _ _ a5 h
 generalize v.setCell ⟨b, 5, none⟩ a5 = v at *
 replace h : (v.setCell ⟨b, 6, none⟩ a6).heap[b]? = some (.cells #[a0, a1, a2, a3, a4, a5, a6] T (0, 0)) := heap_setCell_same v b 6 _ _ a6 h
 generalize v.setCell ⟨b, 6, none⟩ a6 = v at *
 exact h
theorem OwnR.set7 {w : World} {B b : Nat} {E : TypeId} {sz : Nat} {v : Value} {rows : List (List Value)} (o : OwnR w B E sz v rows) (h : b < B) (a0 a1 a2 a3 a4 a5 a6 : Value) : OwnR (set7 w b a0 a1 a2 a3 a4 a5 a6) B E sz v rows :=
 ((((((o.setAt h a0).setAt h a1).setAt h a2).setAt h a3).setAt h a4).setAt h a5).setAt h a6
theorem Qs {n : Nat} {w v : World} {b : Nat} (h : Below n w v) (hb : n ≤ b) (a0 a1 a2 a3 a4 a5 a6 : Value) : Below n w (set7 v b a0 a1 a2 a3 a4 a5 a6) :=
 ((((((h.setCell (p := ⟨b, 0, none⟩) hb a0).setCell (p := ⟨b, 1, none⟩) hb a1).setCell (p := ⟨b, 2, none⟩) hb a2).setCell (p := ⟨b, 3, none⟩) hb a3).setCell (p := ⟨b, 4, none⟩) hb a4).setCell (p := ⟨b, 5, none⟩) hb a5).setCell (p := ⟨b, 6, none⟩) hb a6
structure CpJ (f : Fo) (q : Fp) (w : World) (B bx : Nat) (D : Nat → Bool) (x4 x5 x7 x8 x10 x11 x12 x13 x14 : Value) (v : World) : Prop where
 l1 : D 1 = true → x4 = (.slice q.ra f.reps.length q.rc)
 l4 : D 4 = true → x7 = (.slice q.ea f.ends.length q.ec)
 l7 : D 7 = true → x10 = (.slice q.ca f.cuts.length q.cc)
 p9 : D 9 = true → x12 = .pointer (some ⟨bx, 1, none⟩)
 p11 : D 11 = true → x13 = .pointer (some ⟨bx, 2, none⟩)
 p13 : D 13 = true → x14 = .pointer (some ⟨bx, 6, none⟩)
 c2 : D 2 = true → OwnR v B 254 3 x5 (f.reps.map R3.cells)
 c5 : D 5 = true → OwnR v B 255 3 x8 (f.ends.map R3.cells)
 c8 : D 8 = true → OwnR v B 186 3 x11 (f.cuts.map R3.cells)
 g5 : D 5 = true → D 2 = true
 g8 : D 8 = true → D 5 = true
 s10 : D 10 = true → D 8 = true ∧ D 1 = true ∧ D 4 = true ∧ D 7 = true
 s12 : D 12 = true → D 10 = true
 s14 : D 14 = true → D 12 = true
 box : v.heap[bx]? = some (.cells #[.int .i64 f.bars, cond (D 10) x5 (.slice q.ra f.reps.length q.rc), cond (D 12) x8 (.slice q.ea f.ends.length q.ec), .int .i64 f.jump.x, .int .i64 f.jump.y, .int .i64 f.jump.z, cond (D 14) x11 (.slice q.ca f.cuts.length q.cc)] 109)
 out : v.heap[bx + 1]? = some (.cells #[.int .i64 0, .slice none 0 0, .slice none 0 0, .int .i64 0, .int .i64 0, .int .i64 0, .slice none 0 0] 109)
 below : Below bx w v
 size : B ≤ v.heap.size
theorem Qh {D : Nat → Bool} {i k : Nat} (h : D k = true) : dset D i k = true := by
 unfold dset; split
 ·rfl
 ·exact h
theorem Qv {a b : Bool} (h : a = true → b = true) (hb : b = false) : a = false := by
 cases a
 ·rfl
 ·rw [h rfl] at hb; cases hb
section
variable {f : Fo} {q : Fp} {w : World} {B bx : Nat} {D : Nat → Bool} {x4 x5 x7 x8 x10 x11 x12 x13 x14 : Value} {v : World}
theorem CpJ.fresh (j : CpJ f q w B bx D x4 x5 x7 x8 x10 x11 x12 x13 x14 v) (h : D 10 = false) : v.heap[bx]? = some (.cells #[.int .i64 f.bars, (.slice q.ra f.reps.length q.rc), (.slice q.ea f.ends.length q.ec), .int .i64 f.jump.x, .int .i64 f.jump.y, .int .i64 f.jump.z, (.slice q.ca f.cuts.length q.cc)] 109) := by
 have h12 := Qv j.s12 h; have h14 := Qv j.s14 h12
 have := j.box
 rw [h, h12, h14] at this; exact this
theorem CpJ.t1 (j : CpJ f q w B bx D x4 x5 x7 x8 x10 x11 x12 x13 x14 v) : CpJ f q w B bx (dset D 1) ((.slice q.ra f.reps.length q.rc)) x5 x7 x8 x10 x11 x12 x13 x14 v := ⟨(fun _ => rfl), j.l4, j.l7, j.p9, j.p11, j.p13, j.c2, j.c5, j.c8, (fun h => Qh (j.g5 h)), (fun h => Qh (j.g8 h)), (fun h => ⟨Qh (j.s10 h).1, Qh (j.s10 h).2.1, Qh (j.s10 h).2.2.1, Qh (j.s10 h).2.2.2⟩), (fun h => Qh (j.s12 h)), (fun h => Qh (j.s14 h)), j.box, j.out, j.below, j.size⟩
theorem CpJ.t4 (j : CpJ f q w B bx D x4 x5 x7 x8 x10 x11 x12 x13 x14 v) : CpJ f q w B bx (dset D 4) x4 x5 ((.slice q.ea f.ends.length q.ec)) x8 x10 x11 x12 x13 x14 v := ⟨j.l1, (fun _ => rfl), j.l7, j.p9, j.p11, j.p13, j.c2, j.c5, j.c8, (fun h => Qh (j.g5 h)), (fun h => Qh (j.g8 h)), (fun h => ⟨Qh (j.s10 h).1, Qh (j.s10 h).2.1, Qh (j.s10 h).2.2.1, Qh (j.s10 h).2.2.2⟩), (fun h => Qh (j.s12 h)), (fun h => Qh (j.s14 h)), j.box, j.out, j.below, j.size⟩
theorem CpJ.t7 (j : CpJ f q w B bx D x4 x5 x7 x8 x10 x11 x12 x13 x14 v) : CpJ f q w B bx (dset D 7) x4 x5 x7 x8 ((.slice q.ca f.cuts.length q.cc)) x11 x12 x13 x14 v := ⟨j.l1, j.l4, (fun _ => rfl), j.p9, j.p11, j.p13, j.c2, j.c5, j.c8, (fun h => Qh (j.g5 h)), (fun h => Qh (j.g8 h)), (fun h => ⟨Qh (j.s10 h).1, Qh (j.s10 h).2.1, Qh (j.s10 h).2.2.1, Qh (j.s10 h).2.2.2⟩), (fun h => Qh (j.s12 h)), (fun h => Qh (j.s14 h)), j.box, j.out, j.below, j.size⟩
theorem CpJ.t9 (j : CpJ f q w B bx D x4 x5 x7 x8 x10 x11 x12 x13 x14 v) : CpJ f q w B bx (dset D 9) x4 x5 x7 x8 x10 x11 (.pointer (some ⟨bx, 1, none⟩)) x13 x14 v := ⟨j.l1, j.l4, j.l7, (fun _ => rfl), j.p11, j.p13, j.c2, j.c5, j.c8, (fun h => Qh (j.g5 h)), (fun h => Qh (j.g8 h)), (fun h => ⟨Qh (j.s10 h).1, Qh (j.s10 h).2.1, Qh (j.s10 h).2.2.1, Qh (j.s10 h).2.2.2⟩), (fun h => Qh (j.s12 h)), (fun h => Qh (j.s14 h)), j.box, j.out, j.below, j.size⟩
theorem CpJ.t11 (j : CpJ f q w B bx D x4 x5 x7 x8 x10 x11 x12 x13 x14 v) : CpJ f q w B bx (dset D 11) x4 x5 x7 x8 x10 x11 x12 (.pointer (some ⟨bx, 2, none⟩)) x14 v := ⟨j.l1, j.l4, j.l7, j.p9, (fun _ => rfl), j.p13, j.c2, j.c5, j.c8, (fun h => Qh (j.g5 h)), (fun h => Qh (j.g8 h)), (fun h => ⟨Qh (j.s10 h).1, Qh (j.s10 h).2.1, Qh (j.s10 h).2.2.1, Qh (j.s10 h).2.2.2⟩), (fun h => Qh (j.s12 h)), (fun h => Qh (j.s14 h)), j.box, j.out, j.below, j.size⟩
theorem CpJ.t13 (j : CpJ f q w B bx D x4 x5 x7 x8 x10 x11 x12 x13 x14 v) : CpJ f q w B bx (dset D 13) x4 x5 x7 x8 x10 x11 x12 x13 (.pointer (some ⟨bx, 6, none⟩)) v := ⟨j.l1, j.l4, j.l7, j.p9, j.p11, (fun _ => rfl), j.c2, j.c5, j.c8, (fun h => Qh (j.g5 h)), (fun h => Qh (j.g8 h)), (fun h => ⟨Qh (j.s10 h).1, Qh (j.s10 h).2.1, Qh (j.s10 h).2.2.1, Qh (j.s10 h).2.2.2⟩), (fun h => Qh (j.s12 h)), (fun h => Qh (j.s14 h)), j.box, j.out, j.below, j.size⟩
theorem CpJ.t2 (j : CpJ f q w B bx D x4 x5 x7 x8 x10 x11 x12 x13 x14 v) {u : Value} {v' : World} (hB : bx + 1 < B) (hd : D 2 = false) (ho : OwnR v' v.heap.size 254 3 u (f.reps.map R3.cells)) (hb : Below v.heap.size v v') : CpJ f q w B bx (dset D 2) x4 u x7 x8 x10 x11 x12 x13 x14 v' := ⟨j.l1, j.l4, j.l7, j.p9, j.p11, j.p13, (fun _ => ho.low j.size), (fun h => (j.c5 h).below hb), (fun h => (j.c8 h).below hb), (fun h => Qh (j.g5 h)), (fun h => Qh (j.g8 h)), (fun h => ⟨Qh (j.s10 h).1, Qh (j.s10 h).2.1, Qh (j.s10 h).2.2.1, Qh (j.s10 h).2.2.2⟩), (fun h => Qh (j.s12 h)), (fun h => Qh (j.s14 h)), (by
  have h10 : D 10 = false := Qv (fun h => j.g5 (j.g8 (j.s10 h).1)) hd
  have h12 := Qv j.s12 h10; have h14 := Qv j.s14 h12
  have h := (hb.block _ (by have := j.size; omega)).trans (j.fresh h10)
  simpa [dset, h10, h12, h14] using h), ((hb.block _ (by have := j.size; omega)).trans j.out), (j.below.trans (hb.mono (by have := j.size; omega))), (Nat.le_trans j.size hb.size)⟩
theorem CpJ.t5 (j : CpJ f q w B bx D x4 x5 x7 x8 x10 x11 x12 x13 x14 v) {u : Value} {v' : World} (hB : bx + 1 < B) (hd : D 5 = false) (hg : D 2 = true) (ho : OwnR v' v.heap.size 255 3 u (f.ends.map R3.cells)) (hb : Below v.heap.size v v') : CpJ f q w B bx (dset D 5) x4 x5 x7 u x10 x11 x12 x13 x14 v' := ⟨j.l1, j.l4, j.l7, j.p9, j.p11, j.p13, (fun h => (j.c2 h).below hb), (fun _ => ho.low j.size), (fun h => (j.c8 h).below hb), (fun _ => Qh hg), (fun h => Qh (j.g8 h)), (fun h => ⟨Qh (j.s10 h).1, Qh (j.s10 h).2.1, Qh (j.s10 h).2.2.1, Qh (j.s10 h).2.2.2⟩), (fun h => Qh (j.s12 h)), (fun h => Qh (j.s14 h)), (by
  have h10 : D 10 = false := Qv (fun h => j.g8 (j.s10 h).1) hd
  have h12 := Qv j.s12 h10; have h14 := Qv j.s14 h12
  have h := (hb.block _ (by have := j.size; omega)).trans (j.fresh h10)
  simpa [dset, h10, h12, h14] using h), ((hb.block _ (by have := j.size; omega)).trans j.out), (j.below.trans (hb.mono (by have := j.size; omega))), (Nat.le_trans j.size hb.size)⟩
theorem CpJ.t8 (j : CpJ f q w B bx D x4 x5 x7 x8 x10 x11 x12 x13 x14 v) {u : Value} {v' : World} (hB : bx + 1 < B) (hd : D 8 = false) (hg : D 5 = true) (ho : OwnR v' v.heap.size 186 3 u (f.cuts.map R3.cells)) (hb : Below v.heap.size v v') : CpJ f q w B bx (dset D 8) x4 x5 x7 x8 x10 u x12 x13 x14 v' := ⟨j.l1, j.l4, j.l7, j.p9, j.p11, j.p13, (fun h => (j.c2 h).below hb), (fun h => (j.c5 h).below hb), (fun _ => ho.low j.size), (fun h => Qh (j.g5 h)), (fun _ => Qh hg), (fun h => ⟨Qh (j.s10 h).1, Qh (j.s10 h).2.1, Qh (j.s10 h).2.2.1, Qh (j.s10 h).2.2.2⟩), (fun h => Qh (j.s12 h)), (fun h => Qh (j.s14 h)), (by
  have h10 : D 10 = false := Qv (fun h => (j.s10 h).1) hd
  have h12 := Qv j.s12 h10; have h14 := Qv j.s14 h12
  have h := (hb.block _ (by have := j.size; omega)).trans (j.fresh h10)
  simpa [dset, h10, h12, h14] using h), ((hb.block _ (by have := j.size; omega)).trans j.out), (j.below.trans (hb.mono (by have := j.size; omega))), (Nat.le_trans j.size hb.size)⟩
theorem CpJ.t10 (j : CpJ f q w B bx D x4 x5 x7 x8 x10 x11 x12 x13 x14 v) (hB : bx + 1 < B) (hd : D 10 = false) (h8 : D 8 = true ∧ D 1 = true ∧ D 4 = true ∧ D 7 = true) : CpJ f q w B bx (dset D 10) x4 x5 x7 x8 x10 x11 x12 x13 x14 (v.setCell ⟨bx, 1, none⟩ x5) :=
 ⟨j.l1, j.l4, j.l7, j.p9, j.p11, j.p13, (fun h => (j.c2 h).setAt (by omega) _), (fun h => (j.c5 h).setAt (by omega) _), (fun h => (j.c8 h).setAt (by omega) _), (fun h => Qh (j.g5 h)), (fun h => Qh (j.g8 h)), (fun _ => ⟨Qh h8.1, Qh h8.2.1, Qh h8.2.2.1, Qh h8.2.2.2⟩), (fun h => Qh (j.s12 h)), (fun h => Qh (j.s14 h)), (by
  have h12 := Qv j.s12 hd; have h14 := Qv j.s14 h12
  have h := heap_setCell_same _ bx 1 _ _ x5 j.box
  simpa [dset, h12, h14, hd] using h), ((heap_setCell_other _ _ _ _ (show bx + 1 ≠ bx by omega)).trans j.out), (j.below.setCell (p := ⟨bx, 1, none⟩) (Nat.le_refl _) _), (by simpa using j.size)⟩
theorem CpJ.t12 (j : CpJ f q w B bx D x4 x5 x7 x8 x10 x11 x12 x13 x14 v) (hB : bx + 1 < B) (hd : D 12 = false) (h8 : D 10 = true) : CpJ f q w B bx (dset D 12) x4 x5 x7 x8 x10 x11 x12 x13 x14 (v.setCell ⟨bx, 2, none⟩ x8) :=
 ⟨j.l1, j.l4, j.l7, j.p9, j.p11, j.p13, (fun h => (j.c2 h).setAt (by omega) _), (fun h => (j.c5 h).setAt (by omega) _), (fun h => (j.c8 h).setAt (by omega) _), (fun h => Qh (j.g5 h)), (fun h => Qh (j.g8 h)), (fun h => ⟨Qh (j.s10 h).1, Qh (j.s10 h).2.1, Qh (j.s10 h).2.2.1, Qh (j.s10 h).2.2.2⟩), (fun _ => Qh h8), (fun h => Qh (j.s14 h)), (by
  have h12 := h8; have h14 := Qv j.s14 hd
  have h := heap_setCell_same _ bx 2 _ _ x8 j.box
  simpa [dset, h12, h14, hd] using h), ((heap_setCell_other _ _ _ _ (show bx + 1 ≠ bx by omega)).trans j.out), (j.below.setCell (p := ⟨bx, 2, none⟩) (Nat.le_refl _) _), (by simpa using j.size)⟩
theorem CpJ.t14 (j : CpJ f q w B bx D x4 x5 x7 x8 x10 x11 x12 x13 x14 v) (hB : bx + 1 < B) (hd : D 14 = false) (h8 : D 12 = true) : CpJ f q w B bx (dset D 14) x4 x5 x7 x8 x10 x11 x12 x13 x14 (v.setCell ⟨bx, 6, none⟩ x11) :=
 ⟨j.l1, j.l4, j.l7, j.p9, j.p11, j.p13, (fun h => (j.c2 h).setAt (by omega) _), (fun h => (j.c5 h).setAt (by omega) _), (fun h => (j.c8 h).setAt (by omega) _), (fun h => Qh (j.g5 h)), (fun h => Qh (j.g8 h)), (fun h => ⟨Qh (j.s10 h).1, Qh (j.s10 h).2.1, Qh (j.s10 h).2.2.1, Qh (j.s10 h).2.2.2⟩), (fun h => Qh (j.s12 h)), (fun _ => Qh h8), (by
  have h12 := h8; have h14 := j.s12 h8
  have h := heap_setCell_same _ bx 6 _ _ x11 j.box
  simpa [dset, h12, h14, hd] using h), ((heap_setCell_other _ _ _ _ (show bx + 1 ≠ bx by omega)).trans j.out), (j.below.setCell (p := ⟨bx, 6, none⟩) (Nat.le_refl _) _), (by simpa using j.size)⟩
end
theorem Jj (f : Fo) (q : Fp) (w : World) (hf : FoFew f) (hq : FoAt w f q) :
  Calls Tryz.prog 211 #[.agg #[.int .i64 f.bars, .slice q.ra f.reps.length q.rc, .slice q.ea f.ends.length q.ec, .int .i64 f.jump.x, .int .i64 f.jump.y, .int .i64 f.jump.z, .slice q.ca f.cuts.length q.cc]] w fun e w' => ∃ q' : Fp, e = .returned (.agg #[.int .i64 f.bars, .slice q'.ra f.reps.length q'.rc, .slice q'.ea f.ends.length q'.ec, .int .i64 f.jump.x, .int .i64 f.jump.y, .int .i64 f.jump.z, .slice q'.ca f.cuts.length q'.cc]) ∧ OwnR w' w.heap.size 254 3 (.slice q'.ra f.reps.length q'.rc) (f.reps.map R3.cells) ∧ OwnR w' w.heap.size 255 3 (.slice q'.ea f.ends.length q'.ec) (f.ends.map R3.cells) ∧ OwnR w' w.heap.size 186 3 (.slice q'.ca f.cuts.length q'.cc) (f.cuts.map R3.cells) ∧ Below w.heap.size w w' := by
 obtain ⟨x1, x2, hb⟩ := box2 (w := w) (A := .cells #[.int .i64 f.bars, .slice q.ra f.reps.length q.rc, .slice q.ea f.ends.length q.ec, .int .i64 f.jump.x, .int .i64 f.jump.y, .int .i64 f.jump.z, .slice q.ca f.cuts.length q.cc] 109) (B := .cells #[.int .i64 0, .slice none 0 0, .slice none 0 0, .int .i64 0, .int .i64 0, .int .i64 0, .slice none 0 0] 109) (Below.refl _ _)
 have HR := Qa (fun V (hV : Below w.heap.size w V) => CloneRe_any q.ra q.rc f.reps V (by have := hf.reps; omega) hq.okr (hq.reps.below hV))
 have HE := Qa (fun V (hV : Below w.heap.size w V) => CloneEn_any q.ea q.ec f.ends V (by have := hf.ends; omega) hq.oke (hq.ends.below hV))
 have HC := Qa (fun V (hV : Below w.heap.size w V) => CloneCu_any q.ca q.cc f.cuts V (by have := hf.cuts; omega) hq.okc (hq.cuts.below hV))
 clear hf hq
 go_enter Tryz.func211, Tryz.ntmps211
 go_upto_region 1 with (fail)
 generalize (w.alloc (.cells #[.int .i64 f.bars, .slice q.ra f.reps.length q.rc, .slice q.ea f.ends.length q.ec, .int .i64 f.jump.x, .int .i64 f.jump.y, .int .i64 f.jump.z, .slice q.ca f.cuts.length q.cc] 109)).alloc (.cells #[.int .i64 0, .slice none 0 0, .slice none 0 0, .int .i64 0, .int .i64 0, .int .i64 0, .slice none 0 0] 109) = W at *
 refine wp_region_noPanic ?_
 refine wp_region_held_drew (S := fun _ => True) (by kernel_rfl) trivial (fun hHeld => ?_)
 (refine tq 0 ?_ (y := fun _ hSw => by go_simp; try rfl))
 (refine tq 3 ?_ (y := fun _ hSw => by go_simp; try rfl))
 (refine tq 6 ?_ (y := fun _ hSw => by go_simp; try rfl))
 have hWs : w.heap.size < W.heap.size := Qd x1
 refine Yn [1, 2, 4, 5, 7, 8, 9, 10, 11, 12, 13, 14] (fun _ D a v => ∃ x4 x5 x7 x8 x10 x11 x12 x13 x14, a = { tmps := #[.agg #[.int .i64 f.bars, .slice q.ra f.reps.length q.rc, .slice q.ea f.ends.length q.ec, .int .i64 f.jump.x, .int .i64 f.jump.y, .int .i64 f.jump.z, .slice q.ca f.cuts.length q.cc], .pointer (some ⟨w.heap.size, 0, none⟩), .pointer (some ⟨w.heap.size + 1, 0, none⟩), .pointer (some ⟨w.heap.size, 1, none⟩), x4, x5, .pointer (some ⟨w.heap.size, 2, none⟩), x7, x8, .pointer (some ⟨w.heap.size, 6, none⟩), x10, x11, x12, x13, x14, undef], defers := [] } ∧ CpJ f q w W.heap.size w.heap.size D x4 x5 x7 x8 x10 x11 x12 x13 x14 v) (by kernel_rfl) rfl rfl (by kernel_rfl) ?_ ?_ ?_ ?_
 ·refine ⟨_, _, _, _, _, _, _, _, _, rfl, ?_⟩
  exact ⟨fun h => absurd h (by decide), fun h => absurd h (by decide), fun h => absurd h (by decide), fun h => absurd h (by decide), fun h => absurd h (by decide), fun h => absurd h (by decide), fun h => absurd h (by decide), fun h => absurd h (by decide), fun h => absurd h (by decide), fun h => absurd h (by decide), fun h => absurd h (by decide), fun h => absurd h (by decide), fun h => absurd h (by decide), fun h => absurd h (by decide), x1, x2, hb.drew, Nat.le_refl _⟩
 ·intro D b1 v _
  trivial
 ·rintro D b1 v ⟨x4, x5, x7, x8, x10, x11, x12, x13, x14, rfl, j⟩
  have hB1 : w.heap.size + 1 < W.heap.size := Qd x2
  refine sc (fun hd hdep => ?_) ?_
  ·have hbx := j.fresh (Qv (fun h => (j.s10 h).2.1) hd)
   have hc := Qb hbx
   clear hdep
   intro K hK
   (try simp only [Act.put, List.setIfInBounds_toArray, List.set_cons_zero, List.set_cons_succ])
   go_simp
   exact hK.out _ _ ⟨_, x5, x7, x8, x10, x11, x12, x13, x14, rfl, j.t1⟩
  refine sc (fun hd hdep => ?_) ?_
  ·obtain rfl := j.l1 (hdep ⟨1, .data⟩ (by simp) rfl)
   clear hdep
   intro K hK
   (try simp only [Act.put, List.setIfInBounds_toArray, List.set_cons_zero, List.set_cons_succ])
   go_simp
   refine (HR.out _ j.below).mono ?_
   rintro e w8 ⟨u, rfl, ho, hbb⟩
   go_simp
   exact hK.out _ _ ⟨_, _, x7, x8, x10, x11, x12, x13, x14, rfl, j.t2 hB1 hd ho hbb⟩
  refine sc (fun hd hdep => ?_) ?_
  ·have hbx := j.fresh (Qv (fun h => (j.s10 h).2.2.1) hd)
   have hc := Qb hbx
   clear hdep
   intro K hK
   (try simp only [Act.put, List.setIfInBounds_toArray, List.set_cons_zero, List.set_cons_succ])
   go_simp
   exact hK.out _ _ ⟨x4, x5, _, x8, x10, x11, x12, x13, x14, rfl, j.t4⟩
  refine sc (fun hd hdep => ?_) ?_
  ·obtain rfl := j.l4 (hdep ⟨4, .data⟩ (by simp) rfl)
   have hg := hdep ⟨2, .chain⟩ (by simp) rfl
   clear hdep
   intro K hK
   (try simp only [Act.put, List.setIfInBounds_toArray, List.set_cons_zero, List.set_cons_succ])
   go_simp
   refine (HE.out _ j.below).mono ?_
   rintro e w8 ⟨u, rfl, ho, hbb⟩
   go_simp
   exact hK.out _ _ ⟨x4, x5, _, _, x10, x11, x12, x13, x14, rfl, j.t5 hB1 hd hg ho hbb⟩
  refine sc (fun hd hdep => ?_) ?_
  ·have hbx := j.fresh (Qv (fun h => (j.s10 h).2.2.2) hd)
   have hc := Qb hbx
   clear hdep
   intro K hK
   (try simp only [Act.put, List.setIfInBounds_toArray, List.set_cons_zero, List.set_cons_succ])
   go_simp
   exact hK.out _ _ ⟨x4, x5, x7, x8, _, x11, x12, x13, x14, rfl, j.t7⟩
  refine sc (fun hd hdep => ?_) ?_
  ·obtain rfl := j.l7 (hdep ⟨7, .data⟩ (by simp) rfl)
   have hg := hdep ⟨5, .chain⟩ (by simp) rfl
   clear hdep
   intro K hK
   (try simp only [Act.put, List.setIfInBounds_toArray, List.set_cons_zero, List.set_cons_succ])
   go_simp
   refine (HC.out _ j.below).mono ?_
   rintro e w8 ⟨u, rfl, ho, hbb⟩
   go_simp
   exact hK.out _ _ ⟨x4, x5, x7, x8, _, _, x12, x13, x14, rfl, j.t8 hB1 hd hg ho hbb⟩
  refine sc (fun hd hdep => ?_) ?_
  ·clear hdep
   intro K hK
   (try simp only [Act.put, List.setIfInBounds_toArray, List.set_cons_zero, List.set_cons_succ])
   go_simp
   exact hK.out _ _ ⟨x4, x5, x7, x8, x10, x11, _, x13, x14, rfl, j.t9⟩
  refine sc (fun hd hdep => ?_) ?_
  ·obtain rfl := j.p9 (hdep ⟨9, .data⟩ (by simp) rfl)
   obtain ⟨a9, c9, e9, _, _⟩ := (j.c2 (hdep ⟨2, .data⟩ (by simp) rfl)).slAt
   have h8 := (⟨hdep ⟨8, .chain⟩ (by simp) rfl, hdep ⟨1, .phase⟩ (by simp) rfl, hdep ⟨4, .phase⟩ (by simp) rfl, hdep ⟨7, .phase⟩ (by simp) rfl⟩ : D 8 = true ∧ D 1 = true ∧ D 4 = true ∧ D 7 = true)
   rw [List.length_map] at e9
   subst e9
   have hc := Qb j.box; have hf := Qe j.box; have hz := Qd j.box
   clear hdep
   intro K hK
   (try simp only [Act.put, List.setIfInBounds_toArray, List.set_cons_zero, List.set_cons_succ])
   go_simp
   exact hK.out _ _ ⟨x4, _, x7, x8, x10, x11, _, x13, x14, rfl, j.t10 hB1 hd h8⟩
  refine sc (fun hd hdep => ?_) ?_
  ·clear hdep
   intro K hK
   (try simp only [Act.put, List.setIfInBounds_toArray, List.set_cons_zero, List.set_cons_succ])
   go_simp
   exact hK.out _ _ ⟨x4, x5, x7, x8, x10, x11, x12, _, x14, rfl, j.t11⟩
  refine sc (fun hd hdep => ?_) ?_
  ·obtain rfl := j.p11 (hdep ⟨11, .data⟩ (by simp) rfl)
   obtain ⟨a9, c9, e9, _, _⟩ := (j.c5 (hdep ⟨5, .data⟩ (by simp) rfl)).slAt
   have h8 := hdep ⟨10, .chain⟩ (by simp) rfl
   rw [List.length_map] at e9
   subst e9
   have hc := Qb j.box; have hf := Qe j.box; have hz := Qd j.box
   clear hdep
   intro K hK
   (try simp only [Act.put, List.setIfInBounds_toArray, List.set_cons_zero, List.set_cons_succ])
   go_simp
   exact hK.out _ _ ⟨x4, x5, x7, _, x10, x11, x12, _, x14, rfl, j.t12 hB1 hd h8⟩
  refine sc (fun hd hdep => ?_) ?_
  ·clear hdep
   intro K hK
   (try simp only [Act.put, List.setIfInBounds_toArray, List.set_cons_zero, List.set_cons_succ])
   go_simp
   exact hK.out _ _ ⟨x4, x5, x7, x8, x10, x11, x12, x13, _, rfl, j.t13⟩
  refine sc (fun hd hdep => ?_) ?_
  ·obtain rfl := j.p13 (hdep ⟨13, .data⟩ (by simp) rfl)
   obtain ⟨a9, c9, e9, _, _⟩ := (j.c8 (hdep ⟨8, .data⟩ (by simp) rfl)).slAt
   have h8 := hdep ⟨12, .chain⟩ (by simp) rfl
   rw [List.length_map] at e9
   subst e9
   have hc := Qb j.box; have hf := Qe j.box; have hz := Qd j.box
   clear hdep
   intro K hK
   (try simp only [Act.put, List.setIfInBounds_toArray, List.set_cons_zero, List.set_cons_succ])
   go_simp
   exact hK.out _ _ ⟨x4, x5, x7, x8, x10, _, x12, x13, _, rfl, j.t14 hB1 hd h8⟩
  exact StepAll.nil
 ·rintro D b1 v hall ⟨x4, x5, x7, x8, x10, x11, x12, x13, x14, rfl, j⟩
  have hB1 : w.heap.size + 1 < W.heap.size := Qd x2
  have h5 := j.c2 (hall 2 (by simp)); have h8 := j.c5 (hall 5 (by simp)); have h11 := j.c8 (hall 8 (by simp))
  have hbx := j.box
  rw [hall 10 (by simp), hall 12 (by simp), hall 14 (by simp)] at hbx
  replace hbx : v.heap[w.heap.size]? = some (.cells #[.int .i64 f.bars, x5, x8, .int .i64 f.jump.x, .int .i64 f.jump.y, .int .i64 f.jump.z, x11] 109) := hbx
  have hout := j.out; have hsz := j.size; have hbl := j.below
  obtain ⟨a5, c5, e5, _, _⟩ := h5.slAt
  rw [List.length_map] at e5
  subst e5
  obtain ⟨a8, c8, e8, _, _⟩ := h8.slAt
  rw [List.length_map] at e8
  subst e8
  obtain ⟨a11, c11, e11, _, _⟩ := h11.slAt
  rw [List.length_map] at e11
  subst e11
  (try simp only [Act.put, List.setIfInBounds_toArray, List.set_cons_zero, List.set_cons_succ])
  refine NoPanic.normal ?_
  have hc := Qb hbx; have hd := Qb hout; have hfd := Qe hout; have hzd := Qd hout
  clear x1 x2 hHeld j hall
  go_wp2
  refine bodyPost_ret (results_cell_row rfl _ _ (w.heap.size + 1) 109 _ (0, 0) _ rfl (QB hout _ _ _ _ _ _ _) Tryz.underlying109 rfl (by kernel_rfl)) rfl ?_
  have hlw : w.heap.size ≤ W.heap.size := by omega
  exact ⟨⟨a5, c5, a8, c8, a11, c11⟩, rfl, (h5.set7 hB1 _ _ _ _ _ _ _).low hlw, (h8.set7 hB1 _ _ _ _ _ _ _).low hlw, (h11.set7 hB1 _ _ _ _ _ _ _).low hlw, Qs hbl (by omega) _ _ _ _ _ _ _⟩
end Go.Proofs.YtajijcfikihhjaaGreatDoor
