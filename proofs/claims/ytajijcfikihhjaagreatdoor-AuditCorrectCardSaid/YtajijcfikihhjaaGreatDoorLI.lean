import Derived.Test.YtajijcfikihhjaaGreatDoorLG
import Derived.Deep.CutBlock
set_option linter.unusedSimpArgs false
set_option linter.unusedVariables false
set_option maxRecDepth 100000
set_option maxHeartbeats 16000000
namespace Go.Proofs.YtajijcfikihhjaaGreatDoor
open Go.RowKit Go.Sort Go.Shelf
attribute [local go_sem] Oper.semAt_some
theorem corArm0 : Qbg 0 := by
 unfold Qbg
 iterate 237 intro _
 intro L P d da dc st es a c known T x w w2 W4 db eb hst hd HA HSw HL HFw HOk hkk hTT HKp HE HB4 hm5 Q hc hn
 have HN := Qa hn; have HC := Qa hc
 clear hn hc
 have hc1 := Qb (HKp.out _ HB4.out).1; have hc2 := Qb (HKp.out _ HB4.out).2.2.2.1
 conv => arg 2; whnf
 by_cases hs0 : L.eds.length = 0
 ·have hs1 : ((L.eds.length : Int) == 0) = true := by simp [hs0]
  clear hs0
  go_wp2
  exact HC.out _ (HB4.out)
 have hs1 : ((L.eds.length : Int) == 0) = false := by rw [beq_eq_false_iff_ne]; omega
 have hwh := HOk.out.wh; have hot := HOk.out.ot
 have hww : IntKind.i64.wrap (x.wh : Int) = (x.wh : Int) := IntWalk.i64_in _ (by omega)
 have hwo : IntKind.i64.wrap (x.ot : Int) = (x.ot : Int) := IntWalk.i64_in _ (by omega)
 have hwl : L.ws.length ≠ 0 := by
  have h := (Qaq HL.out).1
  unfold QH Q6 at h
  simp only [Bool.and_eq_true, decide_eq_true_eq] at h
  have := h.1.1.1.2.1
  unfold Qk at this
  simp at this; omega
 have hwl2 : ¬ ((L.ws.length : Int) = 0) := by omega
 have hel2 : ¬ L.eds = [] := fun e => hs0 (by rw [e]; rfl)
 have hwl3 : ¬ L.ws = [] := fun e => hwl (by rw [e]; rfl)
 obtain ⟨i, hi⟩ : ∃ i, i = x.wh % L.ws.length := ⟨_, rfl⟩
 have hil : i < L.ws.length := by rw [hi]; exact Nat.mod_lt _ (by omega)
 have hi1 : (x.wh : Int) % (L.ws.length : Int) = (i : Int) := by rw [hi]; exact (Int.natCast_emod _ _).symm
 have hi2 : (x.wh : Int).tmod (L.ws.length : Int) = (i : Int) := by rw [Int.tmod_eq_emod_of_nonneg (by omega)]; exact hi1
 have hi3 : (i : Int) < (L.ws.length : Int) := by omega
 obtain ⟨j, hj⟩ : ∃ j, j = x.ot % L.eds.length := ⟨_, rfl⟩
 have hjl : j < L.eds.length := by rw [hj]; exact Nat.mod_lt _ (by omega)
 have hj1 : (x.ot : Int) % (L.eds.length : Int) = (j : Int) := by rw [hj]; exact (Int.natCast_emod _ _).symm
 have hj2 : (x.ot : Int).tmod (L.eds.length : Int) = (j : Int) := by rw [Int.tmod_eq_emod_of_nonneg (by omega)]; exact hj1
 have hj3 : (j : Int) < (L.eds.length : Int) := by omega
 have hj0 : (0 : Int) ≤ (j : Int) := by omega
 have hi0 : (0 : Int) ≤ (i : Int) := by omega
 obtain ⟨bw, ow, ew, _, k0, _⟩ := WlAt.get (HA.out _ (Below.refl w.heap.size w)).1.ws.rows i hil
 obtain ⟨be, oe, ee, l0, _⟩ := ExAt.get (HA.out _ (Below.refl w.heap.size w)).1.eds j hjl
 have HSh := Qa (fun k m => cor_show (L := L) (d := d) (st := st) (k := k) (m := m) (t := T) (List.mem_map.2 ⟨_, List.getElem_mem hil, rfl⟩ : L.ws[i].1 ∈ Qk L.ws) (List.getElem_mem hjl))
 have SK := Qa (fun V (hV : Below eb w2 V) => And.intro (show V.heap[w.heap.size]? = some (.cells #[.slice (some ⟨bw, ow, none⟩) L.ws.length P.wc, .slice (some ⟨be, oe, none⟩) L.eds.length P.ec, .slice P.sa L.shs.length P.sc, .slice P.la L.los.length P.lc] 27) by have h := (HKp.out V hV).1; rw [ew, ee] at h; exact h) (And.intro (HKp.out V hV).2.2.2.1 (And.intro (Qq k0 (HKp.out V hV).2.2.2.2.2) (Qq l0 (HKp.out V hV).2.2.2.2.2))))
 clear hi hj ew ee k0 l0 hs0
 generalize L.ws[i].1.ver = vw at *
 generalize L.eds[j].id = ve at *
 go_upto_region 11 with (fail)
 clear hc1 hc2
 have hbu := HB4.out
 have hE := HE.out
 refine wp_region_noPanic ?_
 refine wp_region_held_drew (S := fun V => V.heap[w.heap.size]? = some (.cells #[.slice (some ⟨bw, ow, none⟩) L.ws.length P.wc, .slice (some ⟨be, oe, none⟩) L.eds.length P.ec, .slice P.sa L.shs.length P.sc, .slice P.la L.los.length P.lc] 27) ∧ V.heap[db]? = some (.cells #[.int .u8 (x.dw : Nat), .int .u8 (x.wh : Nat), .int .u8 (x.ot : Nat), .int .u16 (x.la : Nat), .int .u64 x.se] 115) ∧ V.cell? ⟨bw, ow + i * 12, none⟩ = some (.int .i64 vw) ∧ V.cell? ⟨be, oe + j * 4, none⟩ = some (.int .i64 ve)) (by kernel_rfl) (SK.out _ hbu.drew) (fun hHeld => ?_)
 (refine tq 0 ?_ (y := fun _ hSw => by obtain ⟨hSl, hSd, y0, y1⟩ := hSw; have hx := Qb hSl; have hxd := Qb hSd; go_simp; try rfl))
 (refine tq 1 ?_ (y := fun _ hSw => by obtain ⟨hSl, hSd, y0, y1⟩ := hSw; have hx := Qb hSl; have hxd := Qb hSd; go_simp; try rfl))
 (refine tq 2 ?_ (y := fun _ hSw => by obtain ⟨hSl, hSd, y0, y1⟩ := hSw; have hx := Qb hSl; have hxd := Qb hSd; go_simp; try rfl))
 (refine tq 3 ?_ (y := fun _ hSw => by obtain ⟨hSl, hSd, y0, y1⟩ := hSw; have hx := Qb hSl; have hxd := Qb hSd; go_simp; try rfl))
 (refine tq 4 ?_ (y := fun _ hSw => by obtain ⟨hSl, hSd, y0, y1⟩ := hSw; have hx := Qb hSl; have hxd := Qb hSd; go_simp; try rfl))
 (refine tq 5 ?_ (y := fun _ hSw => by obtain ⟨hSl, hSd, y0, y1⟩ := hSw; have hx := Qb hSl; have hxd := Qb hSd; go_simp; try rfl))
 (refine tq 6 ?_ (y := fun _ hSw => by obtain ⟨hSl, hSd, y0, y1⟩ := hSw; have hx := Qb hSl; have hxd := Qb hSd; go_simp; try rfl))
 (refine tq 7 ?_ (y := fun _ hSw => by obtain ⟨hSl, hSd, y0, y1⟩ := hSw; have hx := Qb hSl; have hxd := Qb hSd; go_simp; try rfl))
 (refine tq 8 ?_ (y := fun _ hSw => by obtain ⟨hSl, hSd, y0, y1⟩ := hSw; have hx := Qb hSl; have hxd := Qb hSd; go_simp; try rfl))
 (refine tq 9 ?_ (y := fun _ hSw => by obtain ⟨hSl, hSd, y0, y1⟩ := hSw; have hx := Qb hSl; have hxd := Qb hSd; go_simp; try rfl))
 (refine tq 10 ?_ (y := fun _ hSw => by obtain ⟨hSl, hSd, y0, y1⟩ := hSw; have hx := Qb hSl; have hxd := Qb hSd; go_simp; try rfl))
 (refine tq 11 ?_ (y := fun _ hSw => by obtain ⟨hSl, hSd, y0, y1⟩ := hSw; have hx := Qb hSl; have hxd := Qb hSd; go_simp; try rfl))
 (refine tq 12 ?_ (y := fun _ hSw => by obtain ⟨hSl, hSd, y0, y1⟩ := hSw; have hx := Qb hSl; have hxd := Qb hSd; go_simp; try rfl))
 (refine tq 13 ?_ (y := fun _ hSw => by obtain ⟨hSl, hSd, y0, y1⟩ := hSw; have hx := Qb hSl; have hxd := Qb hSd; go_simp; try rfl))
 (refine tq 14 ?_ (y := fun _ hSw => by obtain ⟨hSl, hSd, y0, y1⟩ := hSw; have hx := Qb hSl; have hxd := Qb hSd; go_simp; try rfl))
 (refine tq 15 ?_ (y := fun _ hSw => by obtain ⟨hSl, hSd, y0, y1⟩ := hSw; have hx := Qb hSl; have hxd := Qb hSd; go_simp; try rfl))
 (refine tq 16 ?_ (y := fun _ hSw => by obtain ⟨hSl, hSd, y0, y1⟩ := hSw; have hx := Qb hSl; have hxd := Qb hSd; go_simp; try rfl))
 (refine tq 17 ?_ (y := fun _ hSw => by obtain ⟨hSl, hSd, y0, y1⟩ := hSw; have hx := Qb hSl; have hxd := Qb hSd; go_simp; try rfl))
 (refine tq 18 ?_ (y := fun _ hSw => by obtain ⟨hSl, hSd, y0, y1⟩ := hSw; have hx := Qb hSl; have hxd := Qb hSd; go_simp; try rfl))
 (refine tq 19 ?_ (y := fun _ hSw => by obtain ⟨hSl, hSd, y0, y1⟩ := hSw; have hx := Qb hSl; have hxd := Qb hSd; go_simp; try rfl))
 (refine tq 20 ?_ (y := fun _ hSw => by obtain ⟨hSl, hSd, y0, y1⟩ := hSw; have hx := Qb hSl; have hxd := Qb hSd; go_simp; try rfl))
 (refine tq 21 ?_ (y := fun _ hSw => by obtain ⟨hSl, hSd, y0, y1⟩ := hSw; have hx := Qb hSl; have hxd := Qb hSd; go_simp; try rfl))
 (refine tq 22 ?_ (y := fun _ hSw => by obtain ⟨hSl, hSd, y0, y1⟩ := hSw; have hx := Qb hSl; have hxd := Qb hSd; go_simp; try rfl))
 (refine tq 23 ?_ (y := fun _ hSw => by obtain ⟨hSl, hSd, y0, y1⟩ := hSw; have hx := Qb hSl; have hxd := Qb hSd; go_simp; try rfl))
 (refine tq 24 ?_ (y := fun _ hSw => by obtain ⟨hSl, hSd, y0, y1⟩ := hSw; have hx := Qb hSl; have hxd := Qb hSd; go_simp; try rfl))
 (refine tq 25 ?_ (y := fun _ hSw => by obtain ⟨hSl, hSd, y0, y1⟩ := hSw; have hx := Qb hSl; have hxd := Qb hSd; go_simp; try rfl))
 have hEd := Qaf hE; have hcc := Qb hEd; have hff := Qe hEd; have hlz := Qd hEd; (refine tc 26 (fun K hK => ?_); go_simp); clear hEd hcc hff hlz; have hbu := hbu.setCell (p := ⟨eb, 1, none⟩) (Nat.le_refl _) (.int .i64 1); have hE : (World.setCell _ ⟨eb, 1, none⟩ (.int .i64 1)).heap[eb]? = some (.cells #[.int .i64 T, .int .i64 1, .int .i64 0, .int .i64 0, .int .i64 0, .int .u64 0] 50) := heap_setCell_same _ eb 1 _ _ (.int .i64 1) hE; refine hK.out _ _ (SK.out _ hbu.drew) (fun hHeld9 => ?_); clear hK K
 (refine tq 27 ?_ (y := fun _ hSw => by obtain ⟨hSl, hSd, y0, y1⟩ := hSw; have hx := Qb hSl; have hxd := Qb hSd; go_simp; try rfl))
 have hEd := Qaf hE; have hcc := Qb hEd; have hff := Qe hEd; have hlz := Qd hEd; (refine tc 28 (fun K hK => ?_); go_simp); clear hEd hcc hff hlz; have hbu := hbu.setCell (p := ⟨eb, 2, none⟩) (Nat.le_refl _) (.int .i64 vw); have hE : (World.setCell _ ⟨eb, 2, none⟩ (.int .i64 vw)).heap[eb]? = some (.cells #[.int .i64 T, .int .i64 1, .int .i64 vw, .int .i64 0, .int .i64 0, .int .u64 0] 50) := heap_setCell_same _ eb 2 _ _ (.int .i64 vw) hE; refine hK.out _ _ (SK.out _ hbu.drew) (fun hHeld9 => ?_); clear hK K
 (refine tq 29 ?_ (y := fun _ hSw => by obtain ⟨hSl, hSd, y0, y1⟩ := hSw; have hx := Qb hSl; have hxd := Qb hSd; go_simp; try rfl))
 have hEd := Qaf hE; have hcc := Qb hEd; have hff := Qe hEd; have hlz := Qd hEd; (refine tc 30 (fun K hK => ?_); go_simp); clear hEd hcc hff hlz; have hbu := hbu.setCell (p := ⟨eb, 3, none⟩) (Nat.le_refl _) (.int .i64 ve); have hE : (World.setCell _ ⟨eb, 3, none⟩ (.int .i64 ve)).heap[eb]? = some (.cells #[.int .i64 T, .int .i64 1, .int .i64 vw, .int .i64 ve, .int .i64 0, .int .u64 0] 50) := heap_setCell_same _ eb 3 _ _ (.int .i64 ve) hE; refine hK.out _ _ (SK.out _ hbu.drew) (fun hHeld9 => ?_); clear hK K
 refine wpAnyH_done (by kernel_rfl) ?_ _
 refine NoPanic.normal ?_
 go_wp2
 exact HN.out _ ⟨T, 1, vw, ve, 0, 0⟩ hbu.drew hE rfl ⟨by show (0 : Int) ≤ 0; decide, by show (0 : Int) < 18446744073709551616; decide⟩ (fun he => (HSh.out _ _)) rfl rfl
theorem corArm1 : Qbg 1 := by
 unfold Qbg
 iterate 237 intro _
 intro L P d da dc st es a c known T x w w2 W4 db eb hst hd HA HSw HL HFw HOk hkk hTT HKp HE HB4 hm5 Q hc hn
 have HN := Qa hn; have HC := Qa hc
 clear hn hc
 have hc1 := Qb (HKp.out _ HB4.out).1; have hc2 := Qb (HKp.out _ HB4.out).2.2.2.1
 conv => arg 2; whnf
 have hwh := HOk.out.wh
 have hww : IntKind.i64.wrap (x.wh : Int) = (x.wh : Int) := IntWalk.i64_in _ (by omega)
 have hst2 : inB st 1 1000000 = true := by rw [Zg]; omega
 have hT2 : inB T 0 1000000000 = true := by rw [Zg]; exact ⟨hTT.1, hTT.2⟩
 have hlo : QP L.los = true := by
  have := HL.out; unfold libB at this; simp only [Bool.and_eq_true] at this; exact this.1.1.2
 have he2 : (Qaj L.los st T).2 = 0 := by unfold Qaj; rw [hlo, hst2, hT2]; rfl
 have hfl := HFw.out.los; have hfs := HFw.out.shs
 have HCs := Qa (fun k m (y : Int) (s : Sx) (h1 : ZA L.shs y = some s) (h2 : inB s.id 1 1000000 = true) (h3 : y ∈ (Qaj L.los st T).1) => cor_sheet (d := d) (k := k) (m := m) hlo hst2 hT2 h1 h2 h3)
 obtain ⟨Hl, hHl⟩ : ∃ Hl, Hl = (Qaj L.los st T).1 := ⟨_, rfl⟩
 have HHe := Qa (fun V (hV : Below w.heap.size w V) => by
  have h := PHeld_any P.la L.los.length P.lc L.los st T V rfl (by omega) (HA.out V hV).1.los
  rw [he2, ← hHl] at h
  exact h)
 rw [← hHl] at HCs
 have hHln : Hl.length ≤ 1000 := by
  rw [hHl]; unfold Qaj; rw [hlo, hst2, hT2]
  exact Nat.le_trans (heldF_len _ _ _ (Nat.le_refl _)) (Nat.le_trans (U1 _ _) hfl)
 clear he2 hlo hst2 hT2 hHl
 have hzE := Qd HE.out
 go_upto_region 14 with (go_at_call 52; refine (HHe.out _ (HKp.out _ HB4.out).2.2.2.2.2).mono ?_; rintro e5 w5 ⟨a16, c16, rfl, _, hs16, hb5⟩; rw [List.length_map]; have HIn := Qa (show InAt w5 a16 Hl from hs16); have HE5 := bk HE hb5; have HB5 := Qa (HB4.out.trans (hb5.mono (Nat.le_of_lt hzE))); clear hs16 hb5 hc1 hc2)
 clear HHe
 go_upto_region 16 with (fail)
 by_cases hH0 : Hl.length = 0
 ·have hH1 : ((Hl.length : Int) == 0) = true := by simp [hH0]
  clear hH0
  refine wp_region_noPanic ?_
  refine wp_region_held_drew (S := fun _ => True) (by kernel_rfl) trivial (fun hHeld => ?_)
  (refine tq 0 ?_ (y := fun _ hSw => by go_simp; try rfl))
  (refine tq 1 ?_ (y := fun _ hSw => by go_simp; try rfl))
  (refine tq 2 ?_ (y := fun _ hSw => by go_simp; try rfl))
  (refine tq 3 ?_ (y := fun _ hSw => by go_simp; try rfl))
  refine tk0 4 ?_
  refine tk0 5 ?_
  refine tk0 6 ?_
  refine tk0 7 ?_
  refine tk0 8 ?_
  refine tk0 9 ?_
  refine tk0 10 ?_
  refine tk0 11 ?_
  refine tk0 12 ?_
  refine tk0 13 ?_
  refine tk0 14 ?_
  refine tk0 15 ?_
  refine tk0 16 ?_
  (refine tq 17 ?_ (y := fun _ hSw => by go_simp; try rfl))
  refine wpAnyH_done (by kernel_rfl) ?_ _
  refine NoPanic.normal ?_
  go_wp2
  exact HC.out _ (HB5.out.drew)
 have hH1 : ((Hl.length : Int) == 0) = false := by rw [beq_eq_false_iff_ne]; omega
 have hH2 : ¬ Hl = [] := fun e => hH0 (by rw [e]; rfl)
 obtain ⟨j, hj⟩ : ∃ j, j = x.wh % Hl.length := ⟨_, rfl⟩
 have hjl : j < Hl.length := by rw [hj]; exact Nat.mod_lt _ (by omega)
 have hj1 : (x.wh : Int) % (Hl.length : Int) = (j : Int) := by rw [hj]; exact (Int.natCast_emod _ _).symm
 have hj2 : (x.wh : Int).tmod (Hl.length : Int) = (j : Int) := by rw [Int.tmod_eq_emod_of_nonneg (by omega)]; exact hj1
 have hj3 : (j : Int) < (Hl.length : Int) := by omega
 have hj0 : (0 : Int) ≤ (j : Int) := by omega
 obtain ⟨b7, o7, e7, i0⟩ := HIn.out.get j hjl
 have HMy := Qa (List.getElem_mem hjl)
 have SK := Qa (fun V (hV : Below w5.heap.size w5 V) => And.intro (Qc (HKp.out _ HB5.out).1 hV) (And.intro (Qc (HKp.out _ HB5.out).2.2.2.1 hV) (Qq i0 hV)))
 have HSh := Qa (fun y V (hV : Below w.heap.size w V) => RSheet_any P.sa P.sc L.shs y V (by omega) (HA.out V hV).1.shs)
 subst e7
 clear hj hH0 i0
 generalize Hl[j] = y at *
 have hIx : (∃ m, ∃ hm : m < L.shs.length, JU L.shs y = (m : Nat) ∧ ZA L.shs y = some L.shs[m]) ∨ (JU L.shs y = -1 ∧ ZA L.shs y = none) := idx_find (fun s : Sx => decide (s.id = y)) L.shs
 refine wp_region_noPanic ?_
 refine wp_region_held_drew (S := fun V => V.heap[w.heap.size]? = some (.cells #[.slice P.wa L.ws.length P.wc, .slice P.ea L.eds.length P.ec, .slice P.sa L.shs.length P.sc, .slice P.la L.los.length P.lc] 27) ∧ V.heap[db]? = some (.cells #[.int .u8 (x.dw : Nat), .int .u8 (x.wh : Nat), .int .u8 (x.ot : Nat), .int .u16 (x.la : Nat), .int .u64 x.se] 115) ∧ V.cell? ⟨b7, o7 + j, none⟩ = some (.int .i64 y)) (by kernel_rfl) (SK.out _ (Below.refl _ _).drew) (fun hHeld => ?_)
 (refine tq 0 ?_ (y := fun _ hSw => by obtain ⟨hSl, hSd, y0⟩ := hSw; have hx := Qb hSl; have hxd := Qb hSd; go_simp; try rfl))
 (refine tq 1 ?_ (y := fun _ hSw => by obtain ⟨hSl, hSd, y0⟩ := hSw; have hx := Qb hSl; have hxd := Qb hSd; go_simp; try rfl))
 (refine tq 2 ?_ (y := fun _ hSw => by obtain ⟨hSl, hSd, y0⟩ := hSw; have hx := Qb hSl; have hxd := Qb hSd; go_simp; try rfl))
 (refine tq 3 ?_ (y := fun _ hSw => by obtain ⟨hSl, hSd, y0⟩ := hSw; have hx := Qb hSl; have hxd := Qb hSd; go_simp; try rfl))
 (refine tq 4 ?_ (y := fun _ hSw => by obtain ⟨hSl, hSd, y0⟩ := hSw; have hx := Qb hSl; have hxd := Qb hSd; go_simp; try rfl))
 (refine tq 5 ?_ (y := fun _ hSw => by obtain ⟨hSl, hSd, y0⟩ := hSw; have hx := Qb hSl; have hxd := Qb hSd; go_simp; try rfl))
 (refine tq 6 ?_ (y := fun _ hSw => by obtain ⟨hSl, hSd, y0⟩ := hSw; have hx := Qb hSl; have hxd := Qb hSd; go_simp; try rfl))
 (refine tq 7 ?_ (y := fun _ hSw => by obtain ⟨hSl, hSd, y0⟩ := hSw; have hx := Qb hSl; have hxd := Qb hSd; go_simp; try rfl))
 (refine tq 8 ?_ (y := fun _ hSw => by obtain ⟨hSl, hSd, y0⟩ := hSw; have hx := Qb hSl; have hxd := Qb hSd; go_simp; try rfl))
 (refine tq 9 ?_ (y := fun _ hSw => by obtain ⟨hSl, hSd, y0⟩ := hSw; have hx := Qb hSl; have hxd := Qb hSd; go_simp; try rfl))
 (refine tq 10 ?_ (y := fun _ hSw => by obtain ⟨hSl, hSd, y0⟩ := hSw; have hx := Qb hSl; have hxd := Qb hSd; go_simp; try rfl))
 (refine tq 11 ?_ (y := fun _ hSw => by obtain ⟨hSl, hSd, y0⟩ := hSw; have hx := Qb hSl; have hxd := Qb hSd; go_simp; try rfl))
 (refine tq 12 ?_ (y := fun _ hSw => by obtain ⟨hSl, hSd, y0⟩ := hSw; have hx := Qb hSl; have hxd := Qb hSd; go_simp; try rfl))
 (refine tq 13 ?_ (y := fun _ hSw => by obtain ⟨hSl, hSd, y0⟩ := hSw; have hx := Qb hSl; have hxd := Qb hSd; go_simp; try rfl))
 (refine tq 14 ?_ (y := fun _ hSw => by obtain ⟨hSl, hSd, y0⟩ := hSw; have hx := Qb hSl; have hxd := Qb hSd; go_simp; try rfl))
 have HSh1 := Qa (HSh.out y w5.drew ((HKp.out _ HB5.out).2.2.2.2.2.drew))
 (refine tc 15 (fun K hK => ?_); go_simp)
 refine HSh1.out.mono ?_
 rintro e8 w8 ⟨rfl, hb8⟩
 go_simp
 have hb58 : Below w5.heap.size w5 w8 := (Below.refl w5.heap.size w5).drew.trans hb8
 refine hK.out _ _ (SK.out _ hb58) (fun hHeld2 => ?_)
 clear hK K hHeld HSh1 hb8
 have hz5 : eb ≤ w5.heap.size := Nat.le_of_lt (Qd HE5.out)
 have HB8 := Qa (HB5.out.trans (hb58.mono hz5))
 have HE8 := bk HE5 hb58
 rcases hIx.symm with ⟨e1, _⟩ | ⟨m, hm, e1, e2⟩
 ·rw [e1]
  (refine tq 16 ?_ (y := fun _ hSw => by go_simp; try rfl))
  (refine tq 17 ?_ (y := fun _ hSw => by go_simp; try rfl))
  refine wpAnyH_done (by kernel_rfl) ?_ _
  refine NoPanic.normal ?_
  go_wp2
  exact HC.out _ (HB8.out)
 rw [e1]
 (refine tq 16 ?_ (y := fun _ hSw => by go_simp; try rfl))
 (refine tq 17 ?_ (y := fun _ hSw => by go_simp; try rfl))
 refine wpAnyH_done (by kernel_rfl) ?_ _
 refine NoPanic.normal ?_
 obtain ⟨bs, os, es6, k0, k1, k2, k3, k4, k5⟩ := SxAt.get (HA.out _ (Below.refl w.heap.size w)).1.shs m hm
 have HSm := Qa (And.intro e2 (HSw.out _ (List.getElem_mem hm)))
 have hm3 : (m : Int) < (L.shs.length : Int) := by omega
 have hm0 : (0 : Int) ≤ (m : Int) := by omega
 have SK2 := Qa (fun V (hV : Below w8.heap.size w8 V) => And.intro (show V.heap[w.heap.size]? = some (.cells #[.slice P.wa L.ws.length P.wc, .slice P.ea L.eds.length P.ec, .slice (some ⟨bs, os, none⟩) L.shs.length P.sc, .slice P.la L.los.length P.lc] 27) by have h := Qc (HKp.out _ HB8.out).1 hV; rw [es6] at h; exact h) (And.intro (Qc (HKp.out _ HB8.out).2.2.2.1 hV) (And.intro (Qq (SK.out _ hb58).2.2 hV) (by
  have hW := (HKp.out _ HB8.out).2.2.2.2.2
  have hU := hW.trans (hV.mono hW.size)
  exact And.intro (Qq k0 hU) (And.intro (Qq k1 hU) (And.intro (Qq k2 hU) (And.intro (Qq k3 hU) (And.intro (Qq k4 hU) (Qq k5 hU)))))))))
 have HSh2 := Qa (fun V (hV : Below w.heap.size w V) => by
  have h := HSh.out y V hV
  rw [e1, es6] at h
  exact h)
 clear hHeld2 e1 e2 es6 k0 k1 k2 k3 k4 k5 HSh hb58 SK HIn
 generalize L.shs[m] = s at *
 go_upto_region 17 with (fail)
 go_cut [18] from 112 to 127 (fun s18 V => ∃ cs, s18 = .pointer (some ⟨cs, 0, none⟩) ∧ w8.heap.size ≤ cs ∧ V.heap[cs]? = some (.cells #[.int .i64 s.id, .int .i64 s.pt, .int .i64 s.ed, .int .i64 s.ver, .int .i64 s.pg, .int .u64 s.dg] 55) ∧ Below w8.heap.size w8 V)
 case first =>
  as_aux_lemma =>
   refine wp_region_noPanic ?_
   refine wp_region_held_drew (S := fun V => V.heap[w.heap.size]? = some (.cells #[.slice P.wa L.ws.length P.wc, .slice P.ea L.eds.length P.ec, .slice (some ⟨bs, os, none⟩) L.shs.length P.sc, .slice P.la L.los.length P.lc] 27) ∧ V.heap[db]? = some (.cells #[.int .u8 (x.dw : Nat), .int .u8 (x.wh : Nat), .int .u8 (x.ot : Nat), .int .u16 (x.la : Nat), .int .u64 x.se] 115) ∧ V.cell? ⟨b7, o7 + j, none⟩ = some (.int .i64 y) ∧ V.cell? ⟨bs, os + m * 6, none⟩ = some (.int .i64 s.id) ∧ V.cell? ⟨bs, os + m * 6 + 1, none⟩ = some (.int .i64 s.pt) ∧ V.cell? ⟨bs, os + m * 6 + 2, none⟩ = some (.int .i64 s.ed) ∧ V.cell? ⟨bs, os + m * 6 + 3, none⟩ = some (.int .i64 s.ver) ∧ V.cell? ⟨bs, os + m * 6 + 4, none⟩ = some (.int .i64 s.pg) ∧ V.cell? ⟨bs, os + m * 6 + 5, none⟩ = some (.int .u64 s.dg)) (by kernel_rfl) (SK2.out _ (Below.refl _ _).drew) (fun hHeld => ?_)
   (refine tq 0 ?_ (y := fun _ hSw => by obtain ⟨hSl, hSd, y0, _⟩ := hSw; have hx := Qb hSl; have hxd := Qb hSd; go_simp; try rfl))
   (refine tq 1 ?_ (y := fun _ hSw => by obtain ⟨hSl, hSd, y0, _⟩ := hSw; have hx := Qb hSl; have hxd := Qb hSd; go_simp; try rfl))
   (refine tq 2 ?_ (y := fun _ hSw => by obtain ⟨hSl, hSd, y0, _⟩ := hSw; have hx := Qb hSl; have hxd := Qb hSd; go_simp; try rfl))
   (refine tq 3 ?_ (y := fun _ hSw => by obtain ⟨hSl, hSd, y0, _⟩ := hSw; have hx := Qb hSl; have hxd := Qb hSd; go_simp; try rfl))
   (refine tq 4 ?_ (y := fun _ hSw => by obtain ⟨hSl, hSd, y0, _⟩ := hSw; have hx := Qb hSl; have hxd := Qb hSd; go_simp; try rfl))
   (refine tq 5 ?_ (y := fun _ hSw => by obtain ⟨hSl, hSd, y0, _⟩ := hSw; have hx := Qb hSl; have hxd := Qb hSd; go_simp; try rfl))
   (refine tq 6 ?_ (y := fun _ hSw => by obtain ⟨hSl, hSd, y0, _⟩ := hSw; have hx := Qb hSl; have hxd := Qb hSd; go_simp; try rfl))
   (refine tq 7 ?_ (y := fun _ hSw => by obtain ⟨hSl, hSd, y0, _⟩ := hSw; have hx := Qb hSl; have hxd := Qb hSd; go_simp; try rfl))
   (refine tq 8 ?_ (y := fun _ hSw => by obtain ⟨hSl, hSd, y0, _⟩ := hSw; have hx := Qb hSl; have hxd := Qb hSd; go_simp; try rfl))
   (refine tq 9 ?_ (y := fun _ hSw => by obtain ⟨hSl, hSd, y0, _⟩ := hSw; have hx := Qb hSl; have hxd := Qb hSd; go_simp; try rfl))
   (refine tq 10 ?_ (y := fun _ hSw => by obtain ⟨hSl, hSd, y0, _⟩ := hSw; have hx := Qb hSl; have hxd := Qb hSd; go_simp; try rfl))
   (refine tq 11 ?_ (y := fun _ hSw => by obtain ⟨hSl, hSd, y0, _⟩ := hSw; have hx := Qb hSl; have hxd := Qb hSd; go_simp; try rfl))
   (refine tq 12 ?_ (y := fun _ hSw => by obtain ⟨hSl, hSd, y0, _⟩ := hSw; have hx := Qb hSl; have hxd := Qb hSd; go_simp; try rfl))
   refine tw 13 16 (fun K hK => ?_) (fun K hK => ?_)
   ·go_simp
    have HSh1 := Qa (HSh2.out w8.drew ((HKp.out _ HB8.out).2.2.2.2.2.drew))
    refine HSh1.out.mono ?_
    rintro e9 w9 ⟨rfl, hb9⟩
    go_simp
    have hb89 : Below w8.heap.size w8 w9 := (Below.refl w8.heap.size w8).drew.trans hb9
    refine hK.out _ _ (SK2.out _ hb89) (fun hHeld2 => ?_)
    clear hK K hHeld HSh1 HSh2 hb9
    (refine tq 14 ?_ (y := fun _ hSw => by obtain ⟨hSl, hSd, y0, y1, y2, y3, y4, y5, y6⟩ := hSw; go_simp; try rfl))
    (refine tq 15 ?_ (y := fun _ hSw => by obtain ⟨hSl, hSd, y0, y1, y2, y3, y4, y5, y6⟩ := hSw; go_simp; try rfl))
    (refine tc 16 (fun K hK => ?_); go_simp)
    refine hK.out _ _ (SK2.out _ (hb89.alloc hb89.size _)) (fun hHeld3 => ?_)
    clear hK K hHeld2
    have hn := heap_alloc_new w9 (.cells #[.int .i64 0, .int .i64 0, .int .i64 0, .int .i64 0, .int .i64 0, .int .u64 0] 55)
    have hcs := Qb hn; have hfs := Qe hn; have hzs := Qd hn
    (refine tc 17 (fun K hK => ?_); go_simp)
    refine hK.out _ _ (SK2.out _ (hb89.alloc hb89.size (.cells #[.int .i64 s.id, .int .i64 s.pt, .int .i64 s.ed, .int .i64 s.ver, .int .i64 s.pg, .int .u64 s.dg] 55))) (fun hHeld4 => ?_)
    clear hK K
    refine wpAnyH_done (by kernel_rfl) ?_ _
    refine NoPanic.normal ?_
    go_wp2
    go_meet
    case rel => exact ⟨_, rfl, hb89.size, heap_alloc_new w9 (.cells #[.int .i64 s.id, .int .i64 s.pt, .int .i64 s.ed, .int .i64 s.ver, .int .i64 s.pg, .int .u64 s.dg] 55), hb89.alloc hb89.size _⟩
   ·go_simp
    refine hK.out _ _ (SK2.out _ ((Below.refl _ _).drew.alloc (Nat.le_refl _) _)) (fun hHeld2 => ?_)
    clear hK K hHeld
    obtain ⟨W1, hW1, hn1⟩ : ∃ W1, (w8.alloc (.cells #[.int .i64 0, .int .i64 0, .int .i64 0, .int .i64 0, .int .i64 0, .int .u64 0] 55)).drew = W1 ∧ W1.heap[w8.heap.size]? = some (.cells #[.int .i64 0, .int .i64 0, .int .i64 0, .int .i64 0, .int .i64 0, .int .u64 0] 55) := ⟨_, rfl, heap_alloc_new w8 _⟩
    have hb1 : Below w8.heap.size w8 W1 := by rw [← hW1]; exact ((Below.refl _ _).alloc (Nat.le_refl _) _).drew
    rw [hW1] at hHeld2 ⊢
    clear hW1
    have HSh1 := Qa (HSh2.out W1 ((HKp.out _ HB8.out).2.2.2.2.2.trans (hb1.mono (HKp.out _ HB8.out).2.2.2.2.2.size)))
    (refine tc 13 (fun K hK => ?_); go_simp)
    refine HSh1.out.mono ?_
    rintro e9 w9 ⟨rfl, hb9⟩
    go_simp
    have hn := Qc hn1 hb9
    have hwl := Qd hn1
    have hb89 := hb1.trans (hb9.mono hb1.size)
    refine hK.out _ _ (SK2.out _ hb89) (fun hHeld3 => ?_)
    clear hK K hHeld2 hn1 HSh1 HSh2 hb9
    (refine tq 14 ?_ (y := fun _ hSw => by obtain ⟨hSl, hSd, y0, y1, y2, y3, y4, y5, y6⟩ := hSw; go_simp; try rfl))
    (refine tq 15 ?_ (y := fun _ hSw => by obtain ⟨hSl, hSd, y0, y1, y2, y3, y4, y5, y6⟩ := hSw; go_simp; try rfl))
    have hcs := Qb hn; have hfs := Qe hn; have hzs := Qd hn
    (refine tc 17 (fun K hK => ?_); go_simp)
    have h9 : ((((((w9.setCell ⟨w8.heap.size, 0, none⟩ (.int .i64 s.id)).setCell ⟨w8.heap.size, 1, none⟩ (.int .i64 s.pt)).setCell ⟨w8.heap.size, 2, none⟩ (.int .i64 s.ed)).setCell ⟨w8.heap.size, 3, none⟩ (.int .i64 s.ver)).setCell ⟨w8.heap.size, 4, none⟩ (.int .i64 s.pg)).setCell ⟨w8.heap.size, 5, none⟩ (.int .u64 s.dg)).heap[w8.heap.size]? = some (.cells #[.int .i64 s.id, .int .i64 s.pt, .int .i64 s.ed, .int .i64 s.ver, .int .i64 s.pg, .int .u64 s.dg] 55) := Qac hn _ _ _ _ _ _
    have hl9 : Below w8.heap.size w8 ((((((w9.setCell ⟨w8.heap.size, 0, none⟩ (.int .i64 s.id)).setCell ⟨w8.heap.size, 1, none⟩ (.int .i64 s.pt)).setCell ⟨w8.heap.size, 2, none⟩ (.int .i64 s.ed)).setCell ⟨w8.heap.size, 3, none⟩ (.int .i64 s.ver)).setCell ⟨w8.heap.size, 4, none⟩ (.int .i64 s.pg)).setCell ⟨w8.heap.size, 5, none⟩ (.int .u64 s.dg)) := U9 hb89 (Nat.le_refl _) _ _ _ _ _ _
    refine hK.out _ _ (SK2.out _ hl9) (fun hHeld4 => ?_)
    clear hK K
    refine wpAnyH_done (by kernel_rfl) ?_ _
    refine NoPanic.normal ?_
    go_wp2
    go_meet
    case rel => exact ⟨_, rfl, Nat.le_refl _, h9, hl9⟩
 case rest =>
 obtain ⟨cs, rfl, hcs, hss, hb9⟩ := hcut
 have hbu := HB8.out.trans (hb9.mono (Nat.le_of_lt (Qd HE8.out)))
 have hE := Qc HE8.out hb9
 have hne : cs ≠ eb := by have := Qd HE8.out; omega
 have hS := hss
 clear hcs hss hb9 HE8 HSh2 SK2
 generalize wc = w9 at *
 as_aux_lemma =>
  go_upto_region 18 with (fail)
  refine wp_region_noPanic ?_
  refine wp_region_held_drew (S := fun V => V.heap[cs]? = some (.cells #[.int .i64 s.id, .int .i64 s.pt, .int .i64 s.ed, .int .i64 s.ver, .int .i64 s.pg, .int .u64 s.dg] 55)) (by kernel_rfl) hS (fun hHeld => ?_)
  (refine tq 0 ?_ (y := fun _ hSw => by have hxs := Qb hSw; go_simp; try rfl))
  (refine tq 1 ?_ (y := fun _ hSw => by have hxs := Qb hSw; go_simp; try rfl))
  (refine tq 2 ?_ (y := fun _ hSw => by have hxs := Qb hSw; go_simp; try rfl))
  (refine tq 3 ?_ (y := fun _ hSw => by have hxs := Qb hSw; go_simp; try rfl))
  (refine tq 4 ?_ (y := fun _ hSw => by have hxs := Qb hSw; go_simp; try rfl))
  have hEd := Qaf hE; have hcc := Qb hEd; have hff := Qe hEd; have hlz := Qd hEd; (refine tc 5 (fun K hK => ?_); go_simp); clear hEd hcc hff hlz; have hbu := hbu.setCell (p := ⟨eb, 1, none⟩) (Nat.le_refl _) (.int .i64 2); have hE : (World.setCell _ ⟨eb, 1, none⟩ (.int .i64 2)).heap[eb]? = some (.cells #[.int .i64 T, .int .i64 2, .int .i64 0, .int .i64 0, .int .i64 0, .int .u64 0] 50) := heap_setCell_same _ eb 1 _ _ (.int .i64 2) hE; have hS := Qo (c := eb) (i := 1) hS hne (.int .i64 2); refine hK.out _ _ (Qaf hS) (fun hHeld9 => ?_); clear hK K
  (refine tq 6 ?_ (y := fun _ hSw => by have hxs := Qb hSw; go_simp; try rfl))
  have hEd := Qaf hE; have hcc := Qb hEd; have hff := Qe hEd; have hlz := Qd hEd; (refine tc 7 (fun K hK => ?_); go_simp); clear hEd hcc hff hlz; have hbu := hbu.setCell (p := ⟨eb, 2, none⟩) (Nat.le_refl _) (.int .i64 s.id); have hE : (World.setCell _ ⟨eb, 2, none⟩ (.int .i64 s.id)).heap[eb]? = some (.cells #[.int .i64 T, .int .i64 2, .int .i64 s.id, .int .i64 0, .int .i64 0, .int .u64 0] 50) := heap_setCell_same _ eb 2 _ _ (.int .i64 s.id) hE; have hS := Qo (c := eb) (i := 2) hS hne (.int .i64 s.id); refine hK.out _ _ (Qaf hS) (fun hHeld9 => ?_); clear hK K
  (refine tq 8 ?_ (y := fun _ hSw => by have hxs := Qb hSw; go_simp; try rfl))
  have hEd := Qaf hE; have hcc := Qb hEd; have hff := Qe hEd; have hlz := Qd hEd; (refine tc 9 (fun K hK => ?_); go_simp); clear hEd hcc hff hlz; have hbu := hbu.setCell (p := ⟨eb, 5, none⟩) (Nat.le_refl _) (.int .u64 s.dg); have hE : (World.setCell _ ⟨eb, 5, none⟩ (.int .u64 s.dg)).heap[eb]? = some (.cells #[.int .i64 T, .int .i64 2, .int .i64 s.id, .int .i64 0, .int .i64 0, .int .u64 s.dg] 50) := heap_setCell_same _ eb 5 _ _ (.int .u64 s.dg) hE; have hS := Qo (c := eb) (i := 5) hS hne (.int .u64 s.dg); refine hK.out _ _ (Qaf hS) (fun hHeld9 => ?_); clear hK K
  refine wpAnyH_done (by kernel_rfl) ?_ _
  refine NoPanic.normal ?_
  go_wp2
  exact HN.out _ ⟨T, 2, s.id, 0, 0, s.dg⟩ hbu.drew hE rfl (HSm.out.2) (fun he => (HCs.out _ _ _ _ HSm.out.1 (sheet_inB he) HMy.out)) rfl rfl
theorem corArm3 : Qbg 3 := by
 unfold Qbg
 iterate 237 intro _
 intro L P d da dc st es a c known T x w w2 W4 db eb hst hd HA HSw HL HFw HOk hkk hTT HKp HE HB4 hm5 Q hc hn
 have HN := Qa hn; have HC := Qa hc
 clear hn hc
 have hc1 := Qb (HKp.out _ HB4.out).1; have hc2 := Qb (HKp.out _ HB4.out).2.2.2.1
 conv => arg 2; whnf
 have SK := Qa (fun V (hV : Below eb w2 V) => (HKp.out V hV).2.2.2.1)
 go_upto_region 23 with (fail)
 clear hc1 hc2
 have hbu := HB4.out
 have hE := HE.out
 refine wp_region_noPanic ?_
 refine wp_region_held_drew (S := fun V => V.heap[db]? = some (.cells #[.int .u8 (x.dw : Nat), .int .u8 (x.wh : Nat), .int .u8 (x.ot : Nat), .int .u16 (x.la : Nat), .int .u64 x.se] 115)) (by kernel_rfl) (SK.out _ hbu.drew) (fun hHeld => ?_)
 (refine tq 0 ?_ (y := fun _ hSw => by have hxd := Qb hSw; go_simp; try rfl))
 (refine tq 1 ?_ (y := fun _ hSw => by have hxd := Qb hSw; go_simp; try rfl))
 (refine tq 2 ?_ (y := fun _ hSw => by have hxd := Qb hSw; go_simp; try rfl))
 have hEd := Qaf hE; have hcc := Qb hEd; have hff := Qe hEd; have hlz := Qd hEd; (refine tc 3 (fun K hK => ?_); go_simp); clear hEd hcc hff hlz; have hbu := hbu.setCell (p := ⟨eb, 1, none⟩) (Nat.le_refl _) (.int .i64 4); have hE : (World.setCell _ ⟨eb, 1, none⟩ (.int .i64 4)).heap[eb]? = some (.cells #[.int .i64 T, .int .i64 4, .int .i64 0, .int .i64 0, .int .i64 0, .int .u64 0] 50) := heap_setCell_same _ eb 1 _ _ (.int .i64 4) hE; refine hK.out _ _ (SK.out _ hbu.drew) (fun hHeld9 => ?_); clear hK K
 (refine tq 4 ?_ (y := fun _ hSw => by have hxd := Qb hSw; go_simp; try rfl))
 have hEd := Qaf hE; have hcc := Qb hEd; have hff := Qe hEd; have hlz := Qd hEd; (refine tc 5 (fun K hK => ?_); go_simp); clear hEd hcc hff hlz; have hbu := hbu.setCell (p := ⟨eb, 5, none⟩) (Nat.le_refl _) (.int .u64 x.se); have hE : (World.setCell _ ⟨eb, 5, none⟩ (.int .u64 x.se)).heap[eb]? = some (.cells #[.int .i64 T, .int .i64 4, .int .i64 0, .int .i64 0, .int .i64 0, .int .u64 x.se] 50) := heap_setCell_same _ eb 5 _ _ (.int .u64 x.se) hE; refine hK.out _ _ (SK.out _ hbu.drew) (fun hHeld9 => ?_); clear hK K
 refine wpAnyH_done (by kernel_rfl) ?_ _
 refine NoPanic.normal ?_
 go_wp2
 exact HN.out _ ⟨T, 4, 0, 0, 0, x.se⟩ hbu.drew hE rfl (HOk.out.se) (fun he => (rules_mark rfl)) rfl rfl
end Go.Proofs.YtajijcfikihhjaaGreatDoor
