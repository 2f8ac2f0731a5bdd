import Derived.Test.YtajijcfikihhjaaGreatDoorLI
import Derived.Test.YtajijcfikihhjaaGreatDoorLJ
set_option linter.unusedSimpArgs false
set_option linter.unusedVariables false
set_option maxRecDepth 100000
set_option maxHeartbeats 16000000
namespace Go.Proofs.YtajijcfikihhjaaGreatDoor
open Go.RowKit Go.Sort Go.Shelf
attribute [local go_sem] Oper.semAt_some
theorem correct_any (L : Lb) (P : Lbp) (d : List De) (da : Option Addr) (dc : Nat) (st : Int) (ds : List Dd) (ta : Option Addr) (tcp : Nat) (w : World) (hst : 1 ≤ st ∧ st ≤ 9) (hn : ds.length ≤ 20) (hdd : ∀ x ∈ ds, DdOk x) (hds : SlAt w ta 5 (ds.map Qaz)) (hl : libB L d = true) (hf : LbFew L) (hd : d.length ≤ 30) (hsw : ∀ s ∈ L.shs, 0 ≤ s.dg ∧ s.dg < 18446744073709551616) (hLb : LbAt w L P) (hDe : DeAt w da d) (hdk : SlOk da d.length dc) (hE : EnvP w) :
  Calls Tryz.prog 24 #[.agg #[.slice P.wa L.ws.length P.wc, .slice P.ea L.eds.length P.ec, .slice P.sa L.shs.length P.sc, .slice P.la L.los.length P.lc], .slice da d.length dc, .int .i64 st, .slice ta ds.length tcp] w (RetCor L d st w) := by
 obtain ⟨x1, x2, x3, hb⟩ := box3 (w := w) (A := .cells #[.slice P.wa L.ws.length P.wc, .slice P.ea L.eds.length P.ec, .slice P.sa L.shs.length P.sc, .slice P.la L.los.length P.lc] 27) (B := .cells #[.int .i64 0, .slice none 0 0, .int .u64 0] 44) (C := .cells #[.int .i64 st, .slice none 0 0, .int .u64 0] 44) (Below.refl _ _)
 have HX1 := Qa x1; have HX2 := Qa x2; have HX3 := Qa x3; have HB := Qa hb
 have HDs := Qa hds; have HDd := Qa hdd; have HSw := Qa hsw; have HL := Qa hl; have HFw := Qa hf
 have HA := Qa (fun V (hV : Below w.heap.size w V) => And.intro (hLb.below hV) (And.intro (show DeAt V da d from SlAt.below hDe hV) (hE.below hV)))
 clear x1 x2 x3 hb hds hdd hsw hl hLb hDe hE hf
 go_enter Tryz.func24, Tryz.ntmps24
 go_upto_region 2 with (fail)
 generalize hW : ((w.alloc (.cells #[.slice P.wa L.ws.length P.wc, .slice P.ea L.eds.length P.ec, .slice P.sa L.shs.length P.sc, .slice P.la L.los.length P.lc] 27)).alloc (.cells #[.int .i64 0, .slice none 0 0, .int .u64 0] 44)).alloc (.cells #[.int .i64 st, .slice none 0 0, .int .u64 0] 44) = W at *
 clear hW
 have hWs := Qd HX3.out
 go_wp2
 go_loopw [11, 12, 31] (fun t11 t12 t31 wr => ∃ (k : Nat) (es : List En) (a : Option Addr) (c : Nat) (known time : Int), k ≤ ds.length ∧ t11 = .int .i64 known ∧ t12 = .int .i64 time ∧ t31 = .int .i64 k ∧ CorI L d st es known time k ∧ wr.heap[w.heap.size]? = some (.cells #[.slice P.wa L.ws.length P.wc, .slice P.ea L.eds.length P.ec, .slice P.sa L.shs.length P.sc, .slice P.la L.los.length P.lc] 27) ∧ wr.heap[w.heap.size + 1]? = some (.cells #[.int .i64 0, .slice none 0 0, .int .u64 0] 44) ∧ wr.heap[w.heap.size + 1 + 1]? = some (.cells #[.int .i64 ((mkLg st es)).st, .slice a ((mkLg st es)).es.length c, .int .u64 ((mkLg st es)).ch] 44) ∧ SlOk a (mkLg st es).es.length c ∧ EnAt wr a (mkLg st es).es ∧ Below w.heap.size w wr) (fun _ _ t31 _ => ds.length - (intOf t31).toNat)
 case atStart => exact ⟨0, [], none, 0, 0, 0, Nat.zero_le _, rfl, rfl, rfl, CorI.start L d st, HX1.out, HX2.out, by have := HX3.out; exact this, SlOk.nil, SlAt.nil _ _ _, HB.out⟩
 case round =>
  clear HX1 HX2 HX3 HB
  obtain ⟨k, es, a, c, known, time, hk, rfl, rfl, rfl, hI, z1, z2, z3, ka, ea, hb⟩ := hrel
  have HI := Qa hI; have HZ1 := Qa z1; have HZ2 := Qa z2; have HZ3 := Qa z3; have HK := Qa ka; have HEa := Qa ea; have HBr := Qa hb
  clear hI z1 z2 z3 ka ea hb
  by_cases hlt : k < ds.length
  ·obtain ⟨bd, od, ed, d0, d1, d2, d3, d4⟩ := dds_get (SlAt.below HDs.out HBr.out) k hlt
   have hki : (k : Int) < (ds.length : Int) := by omega
   have hwk : IntKind.i64.wrap ((k : Int) + 1) = (k : Int) + 1 := IntWalk.i64_in _ (by omega)
   have HOk := Qa (HDd.out _ (List.getElem_mem hlt))
   have hla : ds[k].la ≤ 65535 := HOk.out.la
   generalize ds[k] = x at *
   rw [ed]
   clear ed
   go_upto_region 6 with (fail)
   have HN := Qa (heap_alloc_new wr (.cells #[.int .u8 (x.dw : Nat), .int .u8 (x.wh : Nat), .int .u8 (x.ot : Nat), .int .u16 (x.la : Nat), .int .u64 x.se] 115))
   have hb1 := Qg (w := wr) (.cells #[.int .u8 (x.dw : Nat), .int .u8 (x.wh : Nat), .int .u8 (x.ot : Nat), .int .u16 (x.la : Nat), .int .u64 x.se] 115)
   replace HZ1 := bk HZ1 hb1; replace HZ2 := bk HZ2 hb1; replace HZ3 := bk HZ3 hb1; replace HEa := Qa (HEa.out.below hb1); replace HBr := bu HBr hb1
   clear d0 d1 d2 d3 d4 hb1
   generalize wr.alloc (.cells #[.int .u8 (x.dw : Nat), .int .u8 (x.wh : Nat), .int .u8 (x.ot : Nat), .int .u16 (x.la : Nat), .int .u64 x.se] 115) = w2 at *
   generalize wr.heap.size = db at *
   have hc := Qb HN.out
   have ht0 := HI.out.t0; have ht1 := HI.out.t1
   have hwl : IntKind.i64.wrap (x.la : Int) = (x.la : Int) := IntWalk.i64_in _ (by omega)
   obtain ⟨q, hq⟩ : ∃ q, q = x.la % 30 := ⟨_, rfl⟩
   have hq1 : (x.la : Int) % 30 = (q : Int) := by omega
   have hq2 : (x.la : Int).tmod 30 = (q : Int) := by rw [Int.tmod_eq_emod_of_nonneg (by omega)]; exact hq1
   have hq3 : q < 30 := by omega
   have hwt : IntKind.i64.wrap (time + (q : Int)) = time + (q : Int) := IntWalk.i64_in _ (by omega)
   clear hq
   obtain ⟨T, hT⟩ : ∃ T, T = min 1000000000 (time + (q : Int)) := ⟨_, rfl⟩
   have hT0 : time ≤ T := by omega
   have hT1 : T ≤ 1000000000 := by omega
   go_upto_region 8 with (fail)
   rw [← hT]
   clear hT hwt hq1 hq2 hq3 hwl hc
   have hzeb := Qd HZ3.out
   have HKp := Qa (fun V (hV : Below w2.heap.size w2 V) => show V.heap[w.heap.size]? = some (.cells #[.slice P.wa L.ws.length P.wc, .slice P.ea L.eds.length P.ec, .slice P.sa L.shs.length P.sc, .slice P.la L.los.length P.lc] 27) ∧ V.heap[w.heap.size + 1]? = some (.cells #[.int .i64 0, .slice none 0 0, .int .u64 0] 44) ∧ V.heap[w.heap.size + 1 + 1]? = some (.cells #[.int .i64 ((mkLg st es)).st, .slice a ((mkLg st es)).es.length c, .int .u64 ((mkLg st es)).ch] 44) ∧ V.heap[db]? = some (.cells #[.int .u8 (x.dw : Nat), .int .u8 (x.wh : Nat), .int .u8 (x.ot : Nat), .int .u16 (x.la : Nat), .int .u64 x.se] 115) ∧ EnAt V a (mkLg st es).es ∧ Below w.heap.size w V from ⟨Qc HZ1.out hV, Qc HZ2.out hV, Qc HZ3.out hV, Qc HN.out hV, HEa.out.below hV, HBr.out.trans (hV.mono HBr.out.size)⟩)
   have HE := Qa (heap_alloc_new w2 (.cells #[.int .i64 T, .int .i64 0, .int .i64 0, .int .i64 0, .int .i64 0, .int .u64 0] 50))
   have hb1 := Qg (w := w2) (.cells #[.int .i64 T, .int .i64 0, .int .i64 0, .int .i64 0, .int .i64 0, .int .u64 0] 50)
   have HB4 := Qa hb1
   clear hb1 HN HZ1 HZ2 HZ3 HEa HBr
   generalize w2.alloc (.cells #[.int .i64 T, .int .i64 0, .int .i64 0, .int .i64 0, .int .i64 0, .int .u64 0] 50) = W4 at *
   generalize w2.heap.size = eb at *
   have hc1 := Qb (HKp.out _ HB4.out).1; have hc2 := Qb (HKp.out _ HB4.out).2.2.2.1
   have hx5 : x.dw % 5 = 0 ∨ x.dw % 5 = 1 ∨ x.dw % 5 = 2 ∨ x.dw % 5 = 3 ∨ x.dw % 5 = 4 := by omega
   go_upto_block 2 with (fail)
   go_cut [11, 16, 17, 18, 19, 20, 21, 22, 23, 24, 46, 47, 81, 135, 149, 155] (fun s11 s16 s17 s18 s19 s20 s21 s22 s23 s24 s46 s47 s81 s135 s149 s155 V => ∃ (e : En) (kn : Int), s11 = .int .i64 kn ∧ V.heap[eb]? = some (.cells #[.int .i64 e.time, .int .i64 e.kind, .int .i64 e.a, .int .i64 e.b, .int .i64 e.c, .int .u64 e.dg] 50) ∧ e.time = T ∧ e.wide ∧ (Qt e = true → CorI L d st (es ++ [e]) kn T (k + 1)) ∧ (Qt e = false → CorI L d st es kn T (k + 1)) ∧ V.heap[w.heap.size]? = some (.cells #[.slice P.wa L.ws.length P.wc, .slice P.ea L.eds.length P.ec, .slice P.sa L.shs.length P.sc, .slice P.la L.los.length P.lc] 27) ∧ V.heap[w.heap.size + 1]? = some (.cells #[.int .i64 0, .slice none 0 0, .int .u64 0] 44) ∧ V.heap[w.heap.size + 1 + 1]? = some (.cells #[.int .i64 ((mkLg st es)).st, .slice a ((mkLg st es)).es.length c, .int .u64 ((mkLg st es)).ch] 44) ∧ V.heap[db]? = some (.cells #[.int .u8 (x.dw : Nat), .int .u8 (x.wh : Nat), .int .u8 (x.ot : Nat), .int .u16 (x.la : Nat), .int .u64 x.se] 115) ∧ EnAt V a (mkLg st es).es ∧ Below w.heap.size w V)
   case first =>
    rcases hx5 with h5 | h5 | h5 | h5 | h5
    ·have hm5 : (x.dw : Int) % 5 = 0 := by omega
     clear h5 hc1 hc2
     rw [hm5]
     refine corArm0 hst hd HA HSw HL HFw HOk ⟨HI.out.k0, HI.out.k1⟩ ⟨Int.le_trans HI.out.t0 hT0, hT1⟩ HKp HE HB4 hm5 _ ?_ ?_
     ·iterate 193 intro _
      intro V hV
      go_wp2
      exact ⟨⟨k + 1, es, a, c, known, T, by omega, rfl, rfl, by go_num, HI.out.skip hT0 hT1, (HKp.out _ hV).1, (HKp.out _ hV).2.1, (HKp.out _ hV).2.2.1, HK.out, (HKp.out _ hV).2.2.2.2.1, (HKp.out _ hV).2.2.2.2.2⟩, by simp [intOf]; omega⟩
     ·iterate 193 intro _
      intro V e hV he ht hwi hru hk1 hk2
      go_wp2
      go_meet
      case rel => exact ⟨e, known, rfl, he, ht, hwi, fun h => by have := HI.out.step (e := e) (by rw [ht]; exact hT0) h hwi (hru h) hk1 hk2 HI.out.k0 HI.out.k1; rw [ht] at this; exact this, fun _ => HI.out.skip hT0 hT1, HKp.out _ hV⟩
    ·have hm5 : (x.dw : Int) % 5 = 1 := by omega
     clear h5 hc1 hc2
     rw [hm5]
     refine corArm1 hst hd HA HSw HL HFw HOk ⟨HI.out.k0, HI.out.k1⟩ ⟨Int.le_trans HI.out.t0 hT0, hT1⟩ HKp HE HB4 hm5 _ ?_ ?_
     ·iterate 193 intro _
      intro V hV
      go_wp2
      exact ⟨⟨k + 1, es, a, c, known, T, by omega, rfl, rfl, by go_num, HI.out.skip hT0 hT1, (HKp.out _ hV).1, (HKp.out _ hV).2.1, (HKp.out _ hV).2.2.1, HK.out, (HKp.out _ hV).2.2.2.2.1, (HKp.out _ hV).2.2.2.2.2⟩, by simp [intOf]; omega⟩
     ·iterate 193 intro _
      intro V e hV he ht hwi hru hk1 hk2
      go_wp2
      go_meet
      case rel => exact ⟨e, known, rfl, he, ht, hwi, fun h => by have := HI.out.step (e := e) (by rw [ht]; exact hT0) h hwi (hru h) hk1 hk2 HI.out.k0 HI.out.k1; rw [ht] at this; exact this, fun _ => HI.out.skip hT0 hT1, HKp.out _ hV⟩
    ·as_aux_lemma =>
     have hm5 : (x.dw : Int) % 5 = 2 := by omega
     clear h5
     have hwh := HOk.out.wh
     have hww : IntKind.i64.wrap (x.wh : Int) = (x.wh : Int) := IntWalk.i64_in _ (by omega)
     have hwd : IntKind.i64.wrap ((d.length : Int) + 1) = (d.length : Int) + 1 := IntWalk.i64_in _ (by omega)
     obtain ⟨j, hj⟩ : ∃ j, j = x.wh % (d.length + 1) := ⟨_, rfl⟩
     have hjl : j ≤ d.length := by have := Nat.mod_lt x.wh (show 0 < d.length + 1 by omega); omega
     have hj1 : (x.wh : Int) % ((d.length : Int) + 1) = (j : Int) := by rw [hj, show ((d.length : Int) + 1) = ((d.length + 1 : Nat) : Int) by omega, Int.natCast_emod]
     have hj2 : (x.wh : Int).tmod ((d.length : Int) + 1) = (j : Int) := by rw [Int.tmod_eq_emod_of_nonneg (by omega)]; exact hj1
     have hd1 : ¬ ((d.length : Int) + 1 = 0) := by omega
     have hk0 := HI.out.k0; have hk1 := HI.out.k1
     clear hj
     have hce := Qb HE.out; have hfe := Qe HE.out; have hze := Qd HE.out
     go_upto_region 21 with (fail)
     obtain ⟨K1, hK1⟩ : ∃ K1, K1 = max known (j : Int) := ⟨_, rfl⟩
     have hK2 : known ≤ K1 ∧ 0 ≤ K1 ∧ K1 ≤ d.length := by omega
     rw [← hK1]
     clear hK1
     go_wp2
     have hV := (HB4.out.setCell (p := ⟨eb, 1, none⟩) (Nat.le_refl _) (.int .i64 3)).setCell (p := ⟨eb, 2, none⟩) (Nat.le_refl _) (.int .i64 K1)
     go_meet
     case rel => exact ⟨⟨T, 3, K1, 0, 0, 0⟩, K1, rfl, heap_setCell_same _ eb 2 _ _ _ (heap_setCell_same _ eb 1 _ _ _ HE.out), rfl, ⟨by show (0 : Int) ≤ 0; decide, by show (0 : Int) < 18446744073709551616; decide⟩, fun he => HI.out.step (e := ⟨T, 3, K1, 0, 0, 0⟩) hT0 he ⟨by show (0 : Int) ≤ 0; decide, by show (0 : Int) < 18446744073709551616; decide⟩ (cor_know hK2.1 hK2.2.2) rfl (by show max known K1 = K1; omega) hK2.2.1 hK2.2.2, (fun he => by rw [know_ok ⟨Int.le_trans HI.out.t0 hT0, hT1⟩ hK2.2.1 (by omega)] at he; cases he), HKp.out _ hV⟩
    ·have hm5 : (x.dw : Int) % 5 = 3 := by omega
     clear h5 hc1 hc2
     rw [hm5]
     refine corArm3 hst hd HA HSw HL HFw HOk ⟨HI.out.k0, HI.out.k1⟩ ⟨Int.le_trans HI.out.t0 hT0, hT1⟩ HKp HE HB4 hm5 _ ?_ ?_
     ·iterate 193 intro _
      intro V hV
      go_wp2
      exact ⟨⟨k + 1, es, a, c, known, T, by omega, rfl, rfl, by go_num, HI.out.skip hT0 hT1, (HKp.out _ hV).1, (HKp.out _ hV).2.1, (HKp.out _ hV).2.2.1, HK.out, (HKp.out _ hV).2.2.2.2.1, (HKp.out _ hV).2.2.2.2.2⟩, by simp [intOf]; omega⟩
     ·iterate 193 intro _
      intro V e hV he ht hwi hru hk1 hk2
      go_wp2
      go_meet
      case rel => exact ⟨e, known, rfl, he, ht, hwi, fun h => by have := HI.out.step (e := e) (by rw [ht]; exact hT0) h hwi (hru h) hk1 hk2 HI.out.k0 HI.out.k1; rw [ht] at this; exact this, fun _ => HI.out.skip hT0 hT1, HKp.out _ hV⟩
    ·have hm5 : (x.dw : Int) % 5 = 4 := by omega
     clear h5 hc1 hc2
     rw [hm5]
     refine corArm4 hst hd HA HSw HL HFw HOk ⟨HI.out.k0, HI.out.k1⟩ ⟨Int.le_trans HI.out.t0 hT0, hT1⟩ HKp HE HB4 hm5 _ ?_ ?_
     ·iterate 193 intro _
      intro V hV
      go_wp2
      exact ⟨⟨k + 1, es, a, c, known, T, by omega, rfl, rfl, by go_num, HI.out.skip hT0 hT1, (HKp.out _ hV).1, (HKp.out _ hV).2.1, (HKp.out _ hV).2.2.1, HK.out, (HKp.out _ hV).2.2.2.2.1, (HKp.out _ hV).2.2.2.2.2⟩, by simp [intOf]; omega⟩
     ·iterate 193 intro _
      intro V e hV he ht hwi hru hk1 hk2
      go_wp2
      go_meet
      case rel => exact ⟨e, known, rfl, he, ht, hwi, fun h => by have := HI.out.step (e := e) (by rw [ht]; exact hT0) h hwi (hru h) hk1 hk2 HI.out.k0 HI.out.k1; rw [ht] at this; exact this, fun _ => HI.out.skip hT0 hT1, HKp.out _ hV⟩
   case rest =>
   as_aux_lemma =>
    obtain ⟨e, kn, rfl, hE, ht, hwi, hY, hNo, z1, z2, z3, zd, ea, hb⟩ := hcut
    have HE5 := Qa hE; have HY := Qa hY; have HNo := Qa hNo; have HZ1 := Qa z1; have HZ2 := Qa z2; have HZ3 := Qa z3; have HEa := Qa ea; have HBr := Qa hb; have HEw := Qa (show e.time = T ∧ e.wide from ⟨ht, hwi⟩)
    clear hE ht hwi hY hNo z1 z2 z3 zd ea hb HKp HE HB4 hc1 hc2 hx5 HOk
    generalize wc = W5 at *
    have hce := Qb HE5.out
    obtain ⟨et, ek, e1, e2, e3, e4⟩ := e
    try dsimp only at hce
    cases hok : Qt (⟨et, ek, e1, e2, e3, e4⟩ : En)
    ·have HI2 := Qa (HNo.out hok)
     clear HY HNo
     go_wp2_with (go_at_call 23; refine (Qaa et ek e1 e2 e3 e4 _).mono ?_; rintro e8 w8 ⟨rfl, hb⟩; rw [hok]; replace HE5 := bk HE5 hb; replace HZ1 := bk HZ1 hb; replace HZ2 := bk HZ2 hb; replace HZ3 := bk HZ3 hb; replace HEa := Qa (HEa.out.below hb); replace HBr := bu HBr hb; clear hb)
     exact ⟨⟨k + 1, es, a, c, kn, T, by omega, rfl, rfl, by go_num, HI2.out, HZ1.out, HZ2.out, HZ3.out, HK.out, HEa.out, HBr.out⟩, by simp [intOf]; omega⟩
    ·have HI2 := Qa (HY.out hok)
     clear HNo HY
     have hln := HI.out.len
     obtain ⟨M, hM⟩ : ∃ M, M = mkLg st (es ++ [(⟨et, ek, e1, e2, e3, e4⟩ : En)]) := ⟨_, rfl⟩
     have HAp := Qa (fun V (hV : Below w.heap.size w V) (hk : SlOk a (mkLg st es).es.length c) (he : EnAt V a (mkLg st es).es) => by
      have h := Append37N_any (mkLg st es) a c (⟨et, ek, e1, e2, e3, e4⟩ : En) V (by show es.length ≤ 900; omega) hk HI.out.wide HEw.out.2 (HA.out V hV).2.2 he
      rw [append_mk (by omega) (by omega) HI.out.ok hok (fun y hy => by rw [HEw.out.1]; exact Int.le_trans (HI.out.early y hy) hT0), ← hM] at h
      exact h)
     have HM := Qa hM
     clear hM
     go_upto_region 35 with (go_at_call 23; refine (Qaa et ek e1 e2 e3 e4 _).mono ?_; rintro e8 w8 ⟨rfl, hb⟩; rw [hok]; replace HE5 := bk HE5 hb; replace HZ1 := bk HZ1 hb; replace HZ2 := bk HZ2 hb; replace HZ3 := bk HZ3 hb; replace HEa := Qa (HEa.out.below hb); replace HBr := bu HBr hb; clear hb)
     clear hce
     have hce := Qb HE5.out; have hcl := Qb HZ3.out
     try dsimp only at hce
     go_upto_region 36 with (go_at_call 19; refine (HAp.out _ HBr.out HK.out HEa.out).mono ?_; rintro e9 w9 ⟨a9, c9, rfl, hk9, he9, hb, _⟩; have HK9 := Qa hk9; have HE9 := Qa he9; replace HE5 := bk HE5 hb; replace HZ1 := bk HZ1 hb; replace HZ2 := bk HZ2 hb; replace HZ3 := bk HZ3 hb; replace HEa := Qa (HEa.out.below hb); replace HBr := bu HBr hb; clear hb; clear hk9 he9 hce hcl HAp)
     have HN9 := Qa (heap_alloc_new w9 (.cells #[.int .i64 M.st, .slice a9 M.es.length c9, .int .u64 M.ch] 44))
     have hb := Qg (w := w9) (.cells #[.int .i64 M.st, .slice a9 M.es.length c9, .int .u64 M.ch] 44)
     replace HE9 := Qa (HE9.out.below hb)
     replace HE5 := bk HE5 hb; replace HZ1 := bk HZ1 hb; replace HZ2 := bk HZ2 hb; replace HZ3 := bk HZ3 hb; replace HEa := Qa (HEa.out.below hb); replace HBr := bu HBr hb; clear hb
     generalize w9.alloc (.cells #[.int .i64 M.st, .slice a9 M.es.length c9, .int .u64 M.ch] 44) = W10 at *
     generalize w9.heap.size = nb at *
     have hcn := Qb HN9.out; have hc3 := Qb HZ3.out; have hf3 := Qe HZ3.out; have hz3 := Qd HZ3.out
     go_wp2
     have h0 := HM.out
     have z3 := HZ3.out
     subst h0
     exact ⟨⟨k + 1, es ++ [(⟨et, ek, e1, e2, e3, e4⟩ : En)], a9, c9, kn, T, by omega, rfl, rfl, by go_num, HI2.out, set3_far HZ1.out (by omega) _ _ _, set3_far HZ2.out (by omega) _ _ _, Q9 z3 _ _ _, HK9.out, EnAt.set3 HE9.out z3 _ _ _, QD HBr.out (by omega) _ _ _⟩, by simp [intOf]; omega⟩
  ·obtain rfl : k = ds.length := by omega
   have hc3 := Qb HZ3.out; have hc2 := Qb HZ2.out; have hf2 := Qe HZ2.out; have hz2 := Qd HZ2.out
   go_wp2
   refine bodyPost_ret (Qi rfl _ _ (w.heap.size + 1) 44 _ (0, 0) _ rfl (Q9 HZ2.out _ _ _) Tryz.underlying44 rfl (by kernel_rfl)) rfl ?_
   have z2 := HZ2.out
   exact ⟨es, a, c, known, time, rfl, HK.out, EnAt.set3 HEa.out z2 _ _ _, HI.out.le hn, QD HBr.out (by omega) _ _ _⟩
end Go.Proofs.YtajijcfikihhjaaGreatDoor
