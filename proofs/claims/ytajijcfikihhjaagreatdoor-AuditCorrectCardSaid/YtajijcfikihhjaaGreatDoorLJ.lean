import Derived.Test.YtajijcfikihhjaaGreatDoorLG
import Derived.Deep.CutBlock
set_option linter.unusedSimpArgs false
set_option linter.unusedVariables false
set_option maxRecDepth 100000
set_option maxHeartbeats 16000000
namespace Go.Proofs.YtajijcfikihhjaaGreatDoor
open Go.RowKit Go.Sort Go.Shelf
attribute [local go_sem] Oper.semAt_some
theorem corArm4 : Qbg 4 := by
 unfold Qbg
 iterate 237 intro _
 intro L P d da dc st es a c known T x w w2 W4 db eb hst hd HA HSw HL HFw HOk hkk hTT HKp HE HB4 hm5 Q hc hn
 have HN := Qa hn; have HC := Qa hc
 clear hn hc
 have hc1 := Qb (HKp.out _ HB4.out).1; have hc2 := Qb (HKp.out _ HB4.out).2.2.2.1
 conv => arg 2; whnf
 have hwh := HOk.out.wh
 have hww : IntKind.i64.wrap (x.wh : Int) = (x.wh : Int) := IntWalk.i64_in _ (by omega)
 have hvd := (Qaq HL.out).1
 have hkk : 0 ≤ known ∧ known ≤ d.length := hkk
 have htt : 0 ≤ T ∧ T ≤ 1000000000 := ⟨hTT.1, hTT.2⟩
 have hav := (at_valid hvd hkk htt).2
 have hau := at_find hvd hkk htt
 have hat1 := (Qaw hvd hkk htt).1
 have hat2 := (Qaw hvd hkk htt).2
 have hfw := atR_few (wks_few HFw.out) d known T
 have HOf := Qa (fun w' (h : Zk (Qk L.ws) (atR (Qk L.ws) d known T).1.ver = some w') => at_of hvd hkk htt h)
 have HCl := Qa (fun (w' : Wk) (v : Int × Int) (i : Nat) (h1 : Zk (Qk L.ws) (atR (Qk L.ws) d known T).1.ver = some w') (h2 : v ∈ unfL (atR (Qk L.ws) d known T).1.f) (h3 : v.1 = i) (h4 : i < w'.bars.length) (h5 : Qai w'.bars i = true) => cor_call (L := L) (d := d) (st := st) (k := known) (m := known) (t := T) hkk hav h1 h2 h3 h4 h5)
 have HUm := Qa (fun v (h : v ∈ unfL (atR (Qk L.ws) d known T).1.f) => unf_mem hav h)
 have HAt := Qa (fun V (hV : Below w.heap.size w V) => dAt_any P.wa P.wc L.ws da dc d known T V HFw.out.ws HFw.out.forms (HA.out V hV).1.ws (by omega) (HA.out V hV).2.1)
 obtain ⟨rm, hrm⟩ : ∃ rm, atR (Qk L.ws) d known T = (rm, 0) := ⟨(atR (Qk L.ws) d known T).1, Prod.ext rfl hat2⟩
 rw [hrm] at HOf HCl HUm HAt hau hfw hat1
 dsimp only at HOf HCl HUm HAt hau hfw hat1
 clear hrm hat2 hav hkk htt
 have HWv := Qa (fun y (hy : y ∈ L.ws) => And.intro (HFw.out.forms y hy) hy)
 have HUn := Qa (fun q V (hq : FoAt V rm.f q) => by
  have h := rUnfold_any rm.f q V hfw hq
  rw [hau] at h
  exact h)
 dsimp only at HUn
 obtain ⟨Vs, hVs⟩ : ∃ Vs, Vs = unfL rm.f := ⟨_, rfl⟩
 rw [← hVs] at HUn HCl HUm
 clear hau hVs hvd
 rcases (YZ L.ws rm.ver).symm with ⟨_, e2⟩ | ⟨n, hn9, e1, e2⟩
 ·rw [e2] at hat1; cases hat1
 have HFd := Qa (fun V (hV : Below w.heap.size w V) => by
  have h := RFind30_any P.wa P.wc L.ws rm.ver V HFw.out.ws (HA.out V hV).1.ws.rows
  rw [e1] at h
  exact h)
 have hbl := HOf.out _ e2
 have hb9 := hfw.bars
 have HBa := Qa (fun V (hV : Below w.heap.size w V) => And.intro ((HA.out V hV).1.ws.bars _ (List.getElem_mem hn9)) ((HA.out V hV).1.ws.okb _ (List.getElem_mem hn9)))
 have HC2 := Qa (fun v i h2 h3 h4 h5 => HCl.out _ v i e2 h2 h3 h4 h5)
 obtain ⟨bw, ow, ew, _, k0, k1, k2⟩ := WlAt.get (HA.out _ (Below.refl w.heap.size w)).1.ws.rows n hn9
 clear k0 k2
 have HEw := Qa ew; have HK1 := Qa k1; have HBl := Qa hbl
 clear ew k1 hbl
 have hn3 : (n : Int) < (L.ws.length : Int) := by omega
 have hn0 : (0 : Int) ≤ (n : Int) := by omega
 have hn4 : decide ((n : Int) < 0) = false := decide_eq_false (by omega)
 clear hat1 e1 e2 HOf HCl HWv hfw
 obtain ⟨wk, hwk⟩ : ∃ wk, wk = L.ws[n] := ⟨_, rfl⟩
 rw [← hwk] at HBa HC2 HK1 HBl
 clear hwk
 have hzE := Qd HE.out
 go_upto_region 26 with (go_at_call 54; refine (HAt.out _ (HKp.out _ HB4.out).2.2.2.2.2).mono ?_; rintro e5 w5 ⟨q, oa, oc, rfl, hr5, hb5⟩; have HE5 := bk HE hb5; have HB5 := Qa (HB4.out.trans (hb5.mono (Nat.le_of_lt hzE))); have HR5 := Qa hr5; clear hr5 hb5 hc1 hc2)
 have hz5 : eb < w5.heap.size := Qd HE5.out
 have HM := Qa (heap_alloc_new w5 (.cells #[.int .i64 rm.ver, .int .i64 rm.f.bars, .slice q.ra rm.f.reps.length q.rc, .slice q.ea rm.f.ends.length q.ec, .int .i64 rm.f.jump.x, .int .i64 rm.f.jump.y, .int .i64 rm.f.jump.z, .slice q.ca rm.f.cuts.length q.cc, .slice oa rm.oss.length oc] 123))
 have hb := Qg (w := w5) (.cells #[.int .i64 rm.ver, .int .i64 rm.f.bars, .slice q.ra rm.f.reps.length q.rc, .slice q.ea rm.f.ends.length q.ec, .int .i64 rm.f.jump.x, .int .i64 rm.f.jump.y, .int .i64 rm.f.jump.z, .slice q.ca rm.f.cuts.length q.cc, .slice oa rm.oss.length oc] 123)
 replace HB5 := Qa (HB5.out.trans (hb.mono (Nat.le_of_lt (Qd HE5.out)))); replace HE5 := bk HE5 hb; replace HR5 := Qa (HR5.out.below hb)
 clear hb HAt
 have hnm : w5.heap.size ≠ eb := by omega
 generalize w5.alloc (.cells #[.int .i64 rm.ver, .int .i64 rm.f.bars, .slice q.ra rm.f.reps.length q.rc, .slice q.ea rm.f.ends.length q.ec, .int .i64 rm.f.jump.x, .int .i64 rm.f.jump.y, .int .i64 rm.f.jump.z, .slice q.ca rm.f.cuts.length q.cc, .slice oa rm.oss.length oc] 123) = w6 at *
 generalize w5.heap.size = mb at *
 have hcm := Qb HM.out
 go_upto_region 27 with (go_at_call 55; refine (HUn.out q _ HR5.out.form).mono ?_; rintro e7 w7 ⟨a21, c21, rfl, _, hs21, hb⟩; rw [List.length_map]; replace HB5 := Qa (HB5.out.trans (hb.mono (Nat.le_of_lt (Qd HE5.out)))); replace HE5 := bk HE5 hb; replace HM := bk HM hb; have HVi := Qa (show ViAt w7 a21 Vs from hs21); clear hs21 hb hcm)
 clear HUn HR5
 have hcm := Qb HM.out; have hcl := Qb (HKp.out _ HB5.out).1
 go_upto_region 30 with (go_at_call 22; refine (HFd.out _ (HKp.out _ HB5.out).2.2.2.2.2).mono ?_; rintro e8 w8 ⟨rfl, hb⟩; replace HB5 := Qa (HB5.out.trans (hb.mono (Nat.le_of_lt (Qd HE5.out)))); replace HE5 := bk HE5 hb; replace HM := bk HM hb; replace HVi := Qa (HVi.out.below hb); clear hb hcm hcl)
 clear HFd
 by_cases hV0 : Vs.length = 0
 ·have hV1 : ((Vs.length : Int) == 0) = true := by simp [hV0]
  clear hV0
  go_wp2
  exact HC.out _ (HB5.out)
 have hV1 : ((Vs.length : Int) == 0) = false := by rw [beq_eq_false_iff_ne]; omega
 have hV2 : ¬ Vs = [] := fun e => hV0 (by rw [e]; rfl)
 obtain ⟨j, hj⟩ : ∃ j, j = x.wh % Vs.length := ⟨_, rfl⟩
 have hjl : j < Vs.length := by rw [hj]; exact Nat.mod_lt _ (by omega)
 have hj1 : (x.wh : Int) % (Vs.length : Int) = (j : Int) := by rw [hj]; exact (Int.natCast_emod _ _).symm
 have hj2 : (x.wh : Int).tmod (Vs.length : Int) = (j : Int) := by rw [Int.tmod_eq_emod_of_nonneg (by omega)]; exact hj1
 have hj3 : (j : Int) < (Vs.length : Int) := by omega
 have hj0 : (0 : Int) ≤ (j : Int) := by omega
 obtain ⟨b7, o7, e7, _, i0, i1⟩ := HVi.out.get j hjl
 have HMy := Qa (List.getElem_mem hjl)
 subst e7
 clear hj hV0 HVi
 generalize Vs[j] = v at *
 obtain ⟨v1, v2⟩ := v
 try dsimp only at i0 i1
 have hvr := HUm.out _ HMy.out
 obtain ⟨i, hi⟩ : ∃ i : Nat, v1 = (i : Int) := ⟨v1.toNat, by have := hvr.1; dsimp only at this; omega⟩
 subst hi
 have hil : i < wk.1.bars.length := by have h1 := hvr.2; dsimp only at h1; rw [HBl.out] at h1; omega
 have hbl9 : wk.1.bars.length ≤ 1000 := by have h1 := hb9; rw [HBl.out] at h1; omega
 have hba := HBa.out _ (Below.refl w.heap.size w)
 obtain ⟨bb, bo, eab, g0, _, _, _⟩ := Qbc hba.1 i hil
 have hi3 : (i : Int) < (wk.1.bars.length : Int) := by omega
 have hi0 : (0 : Int) ≤ (i : Int) := by omega
 have HFi := Qa (fun V (hV : Below w.heap.size w V) => by
  have h := first_any wk.2.ab wk.2.cb wk.1.bars i V hil hbl9 hba.2 (HBa.out V hV).1
  rw [eab] at h
  exact h)
 have HCv := Qa (fun h5 => HC2.out _ i HMy.out rfl hil h5)
 have k1 := HK1.out
 rw [eab] at k1
 have HK2 := Qa k1; have HG0 := Qa g0
 clear hba HC2 HBa hvr HUm HBl hb9 HMy hbl9 eab k1 g0 HK1
 obtain ⟨fb, hfb⟩ : ∃ fb, fb = Qai wk.1.bars i := ⟨_, rfl⟩
 rw [← hfb] at HFi HCv
 clear hfb
 generalize wk.1.bars[i].id = bid at *
 dsimp only at HCv
 have hcd := Qb (HKp.out _ HB5.out).2.2.2.1
 go_upto_region 32 with (fail)
 clear hj1 hj2 hj3 hj0 hV1 hV2 hww
 have HV := Qa (heap_alloc_new w8 (.cells #[.int .i64 (i : Int), .int .i64 v2] 130))
 have hb := Qg (w := w8) (.cells #[.int .i64 (i : Int), .int .i64 v2] 130)
 have hnv : w8.heap.size ≠ eb := by have := Qd HE5.out; omega
 replace HB5 := Qa (HB5.out.trans (hb.mono (Nat.le_of_lt (Qd HE5.out)))); replace HE5 := bk HE5 hb
 replace HM := bk HM hb
 clear hb i0 i1 hcd
 generalize w8.alloc (.cells #[.int .i64 (i : Int), .int .i64 v2] 130) = w9 at *
 generalize w8.heap.size = vb at *
 have SK := Qa (fun V (hV : Below eb w2 V) => And.intro (show V.heap[w.heap.size]? = some (.cells #[.slice (some ⟨bw, ow, none⟩) L.ws.length P.wc, .slice P.ea L.eds.length P.ec, .slice P.sa L.shs.length P.sc, .slice P.la L.los.length P.lc] 27) by have h := (HKp.out V hV).1; rw [HEw.out] at h; exact h) (And.intro (Qq HK2.out (HKp.out V hV).2.2.2.2.2) (Qq HG0.out (HKp.out V hV).2.2.2.2.2)))
 have hz9 : eb ≤ w9.heap.size := Nat.le_of_lt (Qd HE5.out)
 have SK3 := Qa (fun V (hV : Below w9.heap.size w9 V) => And.intro (Qc HM.out hV) (And.intro (Qc HV.out hV) (SK.out _ (HB5.out.trans (hV.mono hz9)))))
 clear HEw HK2 HG0
 refine wp_region_noPanic ?_
 refine wp_region_held_drew (S := fun V => V.heap[mb]? = some (.cells #[.int .i64 rm.ver, .int .i64 rm.f.bars, .slice q.ra rm.f.reps.length q.rc, .slice q.ea rm.f.ends.length q.ec, .int .i64 rm.f.jump.x, .int .i64 rm.f.jump.y, .int .i64 rm.f.jump.z, .slice q.ca rm.f.cuts.length q.cc, .slice oa rm.oss.length oc] 123) ∧ V.heap[vb]? = some (.cells #[.int .i64 (i : Int), .int .i64 v2] 130) ∧ V.heap[w.heap.size]? = some (.cells #[.slice (some ⟨bw, ow, none⟩) L.ws.length P.wc, .slice P.ea L.eds.length P.ec, .slice P.sa L.shs.length P.sc, .slice P.la L.los.length P.lc] 27) ∧ V.cell? ⟨bw, ow + n * 12 + 1, none⟩ = some (.slice (some ⟨bb, bo, none⟩) wk.1.bars.length wk.2.cb) ∧ V.cell? ⟨bb, bo + i * 4, none⟩ = some (.int .i64 bid)) (by kernel_rfl) (SK3.out _ (Below.refl _ _).drew) (fun hHeld => ?_)
 (refine tq 0 ?_ (y := fun _ hSw => by obtain ⟨_, hSv, hSl, y1, _⟩ := hSw; have hx := Qb hSl; have hxv := Qb hSv; go_simp; try rfl))
 (refine tq 1 ?_ (y := fun _ hSw => by obtain ⟨_, hSv, hSl, y1, _⟩ := hSw; have hx := Qb hSl; have hxv := Qb hSv; go_simp; try rfl))
 (refine tq 2 ?_ (y := fun _ hSw => by obtain ⟨_, hSv, hSl, y1, _⟩ := hSw; have hx := Qb hSl; have hxv := Qb hSv; go_simp; try rfl))
 (refine tq 3 ?_ (y := fun _ hSw => by obtain ⟨_, hSv, hSl, y1, _⟩ := hSw; have hx := Qb hSl; have hxv := Qb hSv; go_simp; try rfl))
 (refine tq 4 ?_ (y := fun _ hSw => by obtain ⟨_, hSv, hSl, y1, _⟩ := hSw; have hx := Qb hSl; have hxv := Qb hSv; go_simp; try rfl))
 (refine tq 5 ?_ (y := fun _ hSw => by obtain ⟨_, hSv, hSl, y1, _⟩ := hSw; have hx := Qb hSl; have hxv := Qb hSv; go_simp; try rfl))
 (refine tq 6 ?_ (y := fun _ hSw => by obtain ⟨_, hSv, hSl, y1, _⟩ := hSw; have hx := Qb hSl; have hxv := Qb hSv; go_simp; try rfl))
 (refine tq 7 ?_ (y := fun _ hSw => by obtain ⟨_, hSv, hSl, y1, _⟩ := hSw; have hx := Qb hSl; have hxv := Qb hSv; go_simp; try rfl))
 (refine tq 8 ?_ (y := fun _ hSw => by obtain ⟨_, hSv, hSl, y1, _⟩ := hSw; have hx := Qb hSl; have hxv := Qb hSv; go_simp; try rfl))
 (refine tc 9 (fun K hK => ?_); go_simp)
 refine (HFi.out _ (HKp.out _ HB5.out).2.2.2.2.2.drew).mono ?_
 rintro e10 w10 ⟨rfl, hb⟩
 go_simp
 replace hb : Below w9.heap.size w9 w10 := (Below.refl w9.heap.size w9).drew.trans hb
 refine hK.out _ _ (SK3.out _ hb) (fun hHeld2 => ?_)
 clear hK K hHeld HFi
 replace HB5 := Qa (HB5.out.trans (hb.mono (Nat.le_of_lt (Qd HE5.out)))); replace HE5 := bk HE5 hb
 replace HM := bk HM hb; replace HV := bk HV hb
 clear hb SK3 hz9
 cases fb
 ·(refine tq 10 ?_ (y := fun _ hSw => by go_simp; try rfl))
  refine wpAnyH_done (by kernel_rfl) ?_ _
  refine NoPanic.normal ?_
  go_wp2
  exact HC.out _ (HB5.out)
 (refine tq 10 ?_ (y := fun _ hSw => by go_simp; try rfl))
 refine wpAnyH_done (by kernel_rfl) ?_ _
 refine NoPanic.normal ?_
 clear hHeld2
 go_upto_region 33 with (fail)
 have hbu := HB5.out; have hE := HE5.out; have hm := HM.out; have hv := HV.out
 refine wp_region_noPanic ?_
 refine wp_region_held_drew (S := fun V => V.heap[mb]? = some (.cells #[.int .i64 rm.ver, .int .i64 rm.f.bars, .slice q.ra rm.f.reps.length q.rc, .slice q.ea rm.f.ends.length q.ec, .int .i64 rm.f.jump.x, .int .i64 rm.f.jump.y, .int .i64 rm.f.jump.z, .slice q.ca rm.f.cuts.length q.cc, .slice oa rm.oss.length oc] 123) ∧ V.heap[vb]? = some (.cells #[.int .i64 (i : Int), .int .i64 v2] 130) ∧ V.heap[w.heap.size]? = some (.cells #[.slice (some ⟨bw, ow, none⟩) L.ws.length P.wc, .slice P.ea L.eds.length P.ec, .slice P.sa L.shs.length P.sc, .slice P.la L.los.length P.lc] 27) ∧ V.cell? ⟨bw, ow + n * 12 + 1, none⟩ = some (.slice (some ⟨bb, bo, none⟩) wk.1.bars.length wk.2.cb) ∧ V.cell? ⟨bb, bo + i * 4, none⟩ = some (.int .i64 bid)) (by kernel_rfl) ⟨hm, hv, SK.out _ hbu.drew⟩ (fun hHeld => ?_)
 (refine tq 0 ?_ (y := fun _ hSw => by obtain ⟨hSm, hSv, hSl, y1, y2⟩ := hSw; have hx := Qb hSl; have hxv := Qb hSv; have hxm := Qb hSm; go_simp; try rfl))
 (refine tq 1 ?_ (y := fun _ hSw => by obtain ⟨hSm, hSv, hSl, y1, y2⟩ := hSw; have hx := Qb hSl; have hxv := Qb hSv; have hxm := Qb hSm; go_simp; try rfl))
 (refine tq 2 ?_ (y := fun _ hSw => by obtain ⟨hSm, hSv, hSl, y1, y2⟩ := hSw; have hx := Qb hSl; have hxv := Qb hSv; have hxm := Qb hSm; go_simp; try rfl))
 (refine tq 3 ?_ (y := fun _ hSw => by obtain ⟨hSm, hSv, hSl, y1, y2⟩ := hSw; have hx := Qb hSl; have hxv := Qb hSv; have hxm := Qb hSm; go_simp; try rfl))
 (refine tq 4 ?_ (y := fun _ hSw => by obtain ⟨hSm, hSv, hSl, y1, y2⟩ := hSw; have hx := Qb hSl; have hxv := Qb hSv; have hxm := Qb hSm; go_simp; try rfl))
 (refine tq 5 ?_ (y := fun _ hSw => by obtain ⟨hSm, hSv, hSl, y1, y2⟩ := hSw; have hx := Qb hSl; have hxv := Qb hSv; have hxm := Qb hSm; go_simp; try rfl))
 (refine tq 6 ?_ (y := fun _ hSw => by obtain ⟨hSm, hSv, hSl, y1, y2⟩ := hSw; have hx := Qb hSl; have hxv := Qb hSv; have hxm := Qb hSm; go_simp; try rfl))
 (refine tq 7 ?_ (y := fun _ hSw => by obtain ⟨hSm, hSv, hSl, y1, y2⟩ := hSw; have hx := Qb hSl; have hxv := Qb hSv; have hxm := Qb hSm; go_simp; try rfl))
 (refine tq 8 ?_ (y := fun _ hSw => by obtain ⟨hSm, hSv, hSl, y1, y2⟩ := hSw; have hx := Qb hSl; have hxv := Qb hSv; have hxm := Qb hSm; go_simp; try rfl))
 (refine tq 9 ?_ (y := fun _ hSw => by obtain ⟨hSm, hSv, hSl, y1, y2⟩ := hSw; have hx := Qb hSl; have hxv := Qb hSv; have hxm := Qb hSm; go_simp; try rfl))
 (refine tq 10 ?_ (y := fun _ hSw => by obtain ⟨hSm, hSv, hSl, y1, y2⟩ := hSw; have hx := Qb hSl; have hxv := Qb hSv; have hxm := Qb hSm; go_simp; try rfl))
 (refine tq 11 ?_ (y := fun _ hSw => by obtain ⟨hSm, hSv, hSl, y1, y2⟩ := hSw; have hx := Qb hSl; have hxv := Qb hSv; have hxm := Qb hSm; go_simp; try rfl))
 (refine tq 12 ?_ (y := fun _ hSw => by obtain ⟨hSm, hSv, hSl, y1, y2⟩ := hSw; have hx := Qb hSl; have hxv := Qb hSv; have hxm := Qb hSm; go_simp; try rfl))
 (refine tq 13 ?_ (y := fun _ hSw => by obtain ⟨hSm, hSv, hSl, y1, y2⟩ := hSw; have hx := Qb hSl; have hxv := Qb hSv; have hxm := Qb hSm; go_simp; try rfl))
 (refine tq 14 ?_ (y := fun _ hSw => by obtain ⟨hSm, hSv, hSl, y1, y2⟩ := hSw; have hx := Qb hSl; have hxv := Qb hSv; have hxm := Qb hSm; go_simp; try rfl))
 (refine tq 15 ?_ (y := fun _ hSw => by obtain ⟨hSm, hSv, hSl, y1, y2⟩ := hSw; have hx := Qb hSl; have hxv := Qb hSv; have hxm := Qb hSm; go_simp; try rfl))
 (refine tq 16 ?_ (y := fun _ hSw => by obtain ⟨hSm, hSv, hSl, y1, y2⟩ := hSw; have hx := Qb hSl; have hxv := Qb hSv; have hxm := Qb hSm; go_simp; try rfl))
 have hEd := Qaf hE; have hcc := Qb hEd; have hff := Qe hEd; have hlz := Qd hEd; (refine tc 17 (fun K hK => ?_); go_simp); clear hEd hcc hff hlz; have hbu := hbu.setCell (p := ⟨eb, 1, none⟩) (Nat.le_refl _) (.int .i64 5); have hE : (World.setCell _ ⟨eb, 1, none⟩ (.int .i64 5)).heap[eb]? = some (.cells #[.int .i64 T, .int .i64 5, .int .i64 0, .int .i64 0, .int .i64 0, .int .u64 0] 50) := heap_setCell_same _ eb 1 _ _ (.int .i64 5) hE; have hm := Qo (c := eb) (i := 1) hm hnm (.int .i64 5); have hv := Qo (c := eb) (i := 1) hv hnv (.int .i64 5); refine hK.out _ _ ⟨Qaf hm, Qaf hv, SK.out _ hbu.drew⟩ (fun hHeld9 => ?_); clear hK K
 (refine tq 18 ?_ (y := fun _ hSw => by obtain ⟨hSm, hSv, hSl, y1, y2⟩ := hSw; have hx := Qb hSl; have hxv := Qb hSv; have hxm := Qb hSm; go_simp; try rfl))
 have hEd := Qaf hE; have hcc := Qb hEd; have hff := Qe hEd; have hlz := Qd hEd; (refine tc 19 (fun K hK => ?_); go_simp); clear hEd hcc hff hlz; have hbu := hbu.setCell (p := ⟨eb, 2, none⟩) (Nat.le_refl _) (.int .i64 bid); have hE : (World.setCell _ ⟨eb, 2, none⟩ (.int .i64 bid)).heap[eb]? = some (.cells #[.int .i64 T, .int .i64 5, .int .i64 bid, .int .i64 0, .int .i64 0, .int .u64 0] 50) := heap_setCell_same _ eb 2 _ _ (.int .i64 bid) hE; have hm := Qo (c := eb) (i := 2) hm hnm (.int .i64 bid); have hv := Qo (c := eb) (i := 2) hv hnv (.int .i64 bid); refine hK.out _ _ ⟨Qaf hm, Qaf hv, SK.out _ hbu.drew⟩ (fun hHeld9 => ?_); clear hK K
 (refine tq 20 ?_ (y := fun _ hSw => by obtain ⟨hSm, hSv, hSl, y1, y2⟩ := hSw; have hx := Qb hSl; have hxv := Qb hSv; have hxm := Qb hSm; go_simp; try rfl))
 have hEd := Qaf hE; have hcc := Qb hEd; have hff := Qe hEd; have hlz := Qd hEd; (refine tc 21 (fun K hK => ?_); go_simp); clear hEd hcc hff hlz; have hbu := hbu.setCell (p := ⟨eb, 3, none⟩) (Nat.le_refl _) (.int .i64 v2); have hE : (World.setCell _ ⟨eb, 3, none⟩ (.int .i64 v2)).heap[eb]? = some (.cells #[.int .i64 T, .int .i64 5, .int .i64 bid, .int .i64 v2, .int .i64 0, .int .u64 0] 50) := heap_setCell_same _ eb 3 _ _ (.int .i64 v2) hE; have hm := Qo (c := eb) (i := 3) hm hnm (.int .i64 v2); have hv := Qo (c := eb) (i := 3) hv hnv (.int .i64 v2); refine hK.out _ _ ⟨Qaf hm, Qaf hv, SK.out _ hbu.drew⟩ (fun hHeld9 => ?_); clear hK K
 (refine tq 22 ?_ (y := fun _ hSw => by obtain ⟨hSm, hSv, hSl, y1, y2⟩ := hSw; have hx := Qb hSl; have hxv := Qb hSv; have hxm := Qb hSm; go_simp; try rfl))
 have hEd := Qaf hE; have hcc := Qb hEd; have hff := Qe hEd; have hlz := Qd hEd; (refine tc 23 (fun K hK => ?_); go_simp); clear hEd hcc hff hlz; have hbu := hbu.setCell (p := ⟨eb, 4, none⟩) (Nat.le_refl _) (.int .i64 rm.ver); have hE : (World.setCell _ ⟨eb, 4, none⟩ (.int .i64 rm.ver)).heap[eb]? = some (.cells #[.int .i64 T, .int .i64 5, .int .i64 bid, .int .i64 v2, .int .i64 rm.ver, .int .u64 0] 50) := heap_setCell_same _ eb 4 _ _ (.int .i64 rm.ver) hE; have hm := Qo (c := eb) (i := 4) hm hnm (.int .i64 rm.ver); have hv := Qo (c := eb) (i := 4) hv hnv (.int .i64 rm.ver); refine hK.out _ _ ⟨Qaf hm, Qaf hv, SK.out _ hbu.drew⟩ (fun hHeld9 => ?_); clear hK K
 refine wpAnyH_done (by kernel_rfl) ?_ _
 refine NoPanic.normal ?_
 go_wp2
 exact HN.out _ ⟨T, 5, bid, v2, rm.ver, 0⟩ hbu.drew hE rfl ⟨by show (0 : Int) ≤ 0; decide, by show (0 : Int) < 18446744073709551616; decide⟩ (fun he => (HCv.out (by trivial))) rfl rfl
end Go.Proofs.YtajijcfikihhjaaGreatDoor
