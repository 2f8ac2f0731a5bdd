import Derived.Test.YtajijcfikihhjaaGreatDoorAAB
set_option linter.unusedSimpArgs false
set_option linter.unusedVariables false
set_option maxRecDepth 100000
set_option maxHeartbeats 16000000
namespace Go.Proofs.YtajijcfikihhjaaGreatDoor
open Go.RowKit Go.Sort Go.Shelf
attribute [local go_sem] Oper.semAt_some
theorem SlAt.low {w W V : World} {Fr : Nat → TypeId → Prop} {a : Option Addr} {sz : Nat} {rows : List (List Value)} (h : SlAt w a sz rows) (hb : Below w.heap.size w W) (k : KeptC Fr W V) (hS : ∀ k T, k < w.heap.size → Fr k T) : SlAt V a sz rows := by
 refine SlAt.keptC (h.below hb) k fun ad e hne T => ?_
 obtain ⟨r0, rs, er⟩ := List.exists_cons_of_ne_nil hne
 obtain ⟨b0, o0, e0, h0, _⟩ := h 0 r0 (by rw [er]; rfl)
 rw [e] at e0; cases e0
 exact hS _ T h0
theorem bars_any (f : Fo) (q : Fp) (fr u : Int) (all : Bool) (w : World) :
  Calls Tryz.prog 135 #[.agg #[.int .i64 f.bars, .slice q.ra f.reps.length q.rc, .slice q.ea f.ends.length q.ec, .int .i64 f.jump.x, .int .i64 f.jump.y, .int .i64 f.jump.z, .slice q.ca f.cuts.length q.cc], .int .i64 fr, .int .i64 u, .bool all] w fun e w' => e = .returned (.func (.func 175) #[] #[.pointer (some ⟨w.heap.size + 1, 0, none⟩), .pointer (some ⟨w.heap.size + 2, 0, none⟩), .pointer (some ⟨w.heap.size, 0, none⟩), .pointer (some ⟨w.heap.size + 3, 0, none⟩)]) ∧ w' = (((w.alloc (.cells #[.int .i64 f.bars, .slice q.ra f.reps.length q.rc, .slice q.ea f.ends.length q.ec, .int .i64 f.jump.x, .int .i64 f.jump.y, .int .i64 f.jump.z, .slice q.ca f.cuts.length q.cc] 183)).alloc (.cells #[.int .i64 fr] 3)).alloc (.cells #[.int .i64 u] 3)).alloc (.cells #[.bool all] 4) := by
 go_enter Tryz.func135, Tryz.ntmps135
 go_wp2
 go_ret
 refine ⟨?_, ?_⟩
 ·first | rfl | simp
 ·first | rfl | simp
structure BoxB (f : Fo) (q : Fp) (fr u : Int) (all : Bool) (bf bu bo ba : Nat) (W : World) : Prop where
 o : W.heap[bo]? = some (.cells #[.int .i64 f.bars, .slice q.ra f.reps.length q.rc, .slice q.ea f.ends.length q.ec, .int .i64 f.jump.x, .int .i64 f.jump.y, .int .i64 f.jump.z, .slice q.ca f.cuts.length q.cc] 183)
 fr : W.heap[bf]? = some (.cells #[.int .i64 fr] 3)
 u : W.heap[bu]? = some (.cells #[.int .i64 u] 3)
 all : W.heap[ba]? = some (.cells #[.bool all] 4)
theorem startI_idx (l : List R3) (bar : Int) : (Z4 l bar = none ∧ idxO (fun r => r.x == bar) l = -1) ∨ ∃ (k : Nat) (h : k < l.length), Z4 l bar = some l[k] ∧ idxO (fun r => r.x == bar) l = (k : Int) := by
 unfold Z4 idxO
 cases h : l.findIdx? (fun r => r.x == bar) with
 | none =>
  left
  rw [List.findIdx?_eq_none_iff] at h
  refine ⟨?_, rfl⟩
  rw [List.find?_eq_none]
  intro x hx
  simpa using h x hx
 | some i =>
  right
  obtain ⟨hi, h1, h2⟩ := List.findIdx?_eq_some_iff_getElem.1 h
  refine ⟨i, hi, ?_, rfl⟩
  rw [List.find?_eq_some_iff_getElem]
  exact ⟨h1, i, hi, rfl, fun j hj => by simpa using h2 j hj⟩
theorem bars1_in (n : Nat) (hn : 1 ≤ n) (Fr : Nat → TypeId → Prop) (f : Fo) (q : Fp) (fr u : Int) (all : Bool) (bf bu bo ba : Nat) (w : World) (hf : FoFew f) (hr : ∀ r ∈ f.reps, 0 ≤ r.x ∧ r.x < r.y ∧ r.y ≤ f.bars ∧ 1 ≤ r.z ∧ r.z ≤ 9) (hfr : 0 ≤ fr) (hfr2 : fr ≤ f.bars) (hu : u ≤ f.bars) (N : Nat) (hN : (Qu f all fr u).length ≤ N)
  (hX : BoxB f q fr u all bf bu bo ba w) (hS : Fr bf 3 ∧ Fr bu 3 ∧ Fr bo 183 ∧ Fr ba 4) (hSl : ∀ k T, w.heap.size ≤ k → T ∈ itT → Fr k T) (hm : ∀ V, KeptC Fr w V → R3At V q.ra f.reps) (hm2 : ∀ V, KeptC Fr w V → R3At V q.ea f.ends) :
  UC Fence.wide n Tryz.prog 175 #[.pointer (some ⟨bf, 0, none⟩), .pointer (some ⟨bu, 0, none⟩), .pointer (some ⟨bo, 0, none⟩), .pointer (some ⟨ba, 0, none⟩)] (fun x : Int => #[.int .i64 x]) (KeptC Fr) (fun xs => xs = Qu f all fr u) N w := by
 intro lo J Jx W hW hJ hJx hY h0
 have hfb := hf.bars
 have HBv := Qa (show ∀ V, KeptC Fr W V → BoxB f q fr u all bf bu bo ba V from fun V hV => ⟨hV.cells _ _ _ _ hS.2.2.1 (Qc hX.o hW), hV.cells _ _ _ _ hS.1 (Qc hX.fr hW), hV.cells _ _ _ _ hS.2.1 (Qc hX.u hW), hV.cells _ _ _ _ hS.2.2.2 (Qc hX.all hW)⟩)
 have HR := Qa (show ∀ V, KeptC Fr W V → R3At V q.ra f.reps from fun V hV => hm V ((KeptC.below hW).trans hV))
 have HR2 := Qa (show ∀ V, KeptC Fr W V → R3At V q.ea f.ends from fun V hV => hm2 V ((KeptC.below hW).trans hV))
 have HNs := Qa (show ∀ k T, W.heap.size ≤ k → T ∈ itT → Fr k T from fun k T hk hT => hSl k T (Nat.le_trans hW.size hk) hT)
 have HJ := Qa hJ; have HJx := Qa hJx; have HY := Qa hY; have H0 := Qa h0; have HF := Qa hf; have HRr := Qa hr
 have HIx := Qa (fun bar c V (hV : KeptC Fr W V) (hc : V.heap[c]? = some (.cells #[.int .i64 bar] 3)) => IndexR_any 177 #[.pointer (some ⟨c, 0, none⟩)] enters_rst _ (fun r => r.x == bar) q.ra q.rc f.reps V (by have := hf.reps; omega) (fun d _ W' hW' => rstC_any d c bar W' (Qb (Qc hc hW') 0)) (Nat.le_refl _) (HR.out V hV))
 have HEn := Qa (fun bar pass V (hV : KeptC Fr W V) => rEnding_any f q bar pass V hf (HR2.out V hV))
 clear hJ hJx hY h0 hX hS hSl hm hm2 hW hf hr
 refine callsIn_of_wp Tryz.func175 rfl trivial ?_ rfl
 simp only [Tryz.ntmps175, List.size_toArray, List.length_cons, List.length_nil, Nat.reduceAdd, Nat.reduceSub, Array.replicate_succ, Array.replicate_zero, List.push_toArray, List.append_toArray, List.nil_append, List.cons_append]
 refine wpIn_wide.2 ?_
 have hbx := HBv.out W (KeptC.refl _ _)
 have hcf := Qb hbx.fr
 go_wp2
 have HX6 := Qa (heap_alloc_new W (.cells #[.int .i64 fr] 3))
 have HJ6 := Qa (HJ.out _ _ _ H0.out ((RowKit.Below.refl W.heap.size W).alloc (Nat.le_refl _) (.cells #[.int .i64 fr] 3)) (KeptC.below ((RowKit.Below.refl W.heap.size W).alloc (Nat.le_refl _) (.cells #[.int .i64 fr] 3))))
 have HK6 := Qa ((KeptC.refl Fr W).own ((RowKit.Below.refl W.heap.size W).alloc (Nat.le_refl _) (.cells #[.int .i64 fr] 3)))
 clear hcf hbx
 have HZ := Qa (Nat.le_refl W.heap.size)
 generalize hW6 : W.alloc (.cells #[.int .i64 fr] 3) = W6 at *
 clear hW6
 go_loopg [6] (u - fr).toNat (fun g s6 wr => ∃ (b : Nat) (bar : Int) (xs : List Int), g = (u - bar).toNat ∧ fr ≤ bar ∧ bar ≤ f.bars ∧ s6 = .pointer (some ⟨b, 0, none⟩) ∧ W.heap.size ≤ b ∧ wr.heap[b]? = some (.cells #[.int .i64 bar] 3) ∧ Hid (xs ++ Qu f all bar u = Qu f all fr u) ∧ J xs wr ∧ KeptC Fr W wr)
 case atStart => exact ⟨W.heap.size, fr, [], rfl, Int.le_refl _, hfr2, rfl, Nat.le_refl _, HX6.out, Qa rfl, HJ6.out, HK6.out⟩
 case round =>
  obtain ⟨b, bar, xs, hg, hb1, hb2, rfl, hbW, hxb, HP, hj, hkc⟩ := hrel
  have HXb := Qa hxb; have HJ1 := Qa hj; have HK1 := Qa hkc; have HG := Qa hg
  clear hxb hj hkc hg
  have hbx := HBv.out wr HK1.out
  have hcb := Qb HXb.out; have hcu := Qb hbx.u; have hco := Qb hbx.o
  by_cases hlt : bar < u
  ·have hcall := HIx.out bar b wr HK1.out HXb.out
   have hwrW := HK1.out.size
   rcases startI_idx f.reps bar with ⟨e1, e2⟩ | ⟨k, hk, e1, e2⟩
   ·rw [e2] at hcall
    have HP2 := Qa (show xs ++ bar :: Qu f all (bar + 1) u = Qu f all fr u by rw [← partL_none hlt e1]; exact HP.out)
    have hxl : xs.length < N := by
     have h1 := congrArg List.length HP2.out
     rw [List.length_append, List.length_cons] at h1
     omega
    have HCl := Qa hcall
    clear hcall HP e1 e2
    go_upto_region 5 with (go_at_call 176; refine HCl.out.mono ?_; rintro e w3 ⟨rfl, hb⟩; clear hcb hcu hco hbx; replace HXb := bk HXb hb; replace HJ1 := Qa (HJ.out _ _ _ HJ1.out (hb.mono hwrW) (KeptC.below hb)); replace HK1 := Qa (HK1.out.own (hb.mono hwrW)); clear hb; have hcb := Qb HXb.out)
    obtain ⟨fn, tmps, assign, body, hy, hRd⟩ := HY.out xs bar w3 HJ1.out hxl
    refine (wpIn_wide (n := n)).1 ?_
    gi_wp2
    refine hRd.mono ?_
    rintro e W3 (⟨rfl, hJ3, hk3, _⟩ | ⟨rfl, hJx3, _⟩)
    ·have HJ3 := Qa hJ3; have HK3 := Qa (HK1.out.trans hk3); have HX3 := Qa (hk3.cells _ _ _ _ (HNs.out b _ hbW (by decide)) HXb.out)
     clear hJ3 hk3 hcb
     have hcb := Qb HX3.out
     gi_wp2
     go_upto_region 2 with (fail)
     have hw1 : IntKind.i64.wrap (bar + 1) = bar + 1 := IntWalk.i64_in _ (by omega)
     (have HXn := Qa (heap_alloc_new W3 (.cells #[.int .i64 bar] 3)); have HJn := Qa (HJ.out _ _ _ HJ3.out ((RowKit.Below.refl W.heap.size W3).alloc HK3.out.size (.cells #[.int .i64 bar] 3)) (KeptC.below ((RowKit.Below.refl _ W3).alloc (Nat.le_refl _) (.cells #[.int .i64 bar] 3)))); have HKn := Qa (HK3.out.own ((RowKit.Below.refl W.heap.size W3).alloc HK3.out.size (.cells #[.int .i64 bar] 3))); have hbn := HK3.out.size; clear hcb; generalize W3.alloc (.cells #[.int .i64 bar] 3) = W9 at *; generalize W3.heap.size = b9 at *; have hc9 := Qb HXn.out; have hf9 := Qe HXn.out; have hz9 := Qd HXn.out; go_wp2)
     go_roundg (u - (bar + 1)).toNat
     case measure => have := HG.out; omega
     case rel => exact ⟨b9, bar + 1, xs ++ [bar], rfl, by omega, by omega, rfl, hbn, heap_setCell_same _ _ _ _ _ _ HXn.out, Qa (by rw [List.append_assoc]; exact HP2.out), HJ.out _ _ _ HJn.out ((RowKit.Below.refl W.heap.size W9).setCell (p := ⟨b9, 0, none⟩) hbn _) (J1 HXn.out (by decide) _ _), HKn.out.own ((RowKit.Below.refl W.heap.size W9).setCell (p := ⟨b9, 0, none⟩) hbn _)⟩
    ·gi_wp2
     go_wp2
     refine bodyPost_ret (results_none rfl _ _ _) rfl ?_
     exact ⟨⟨_, rfl⟩, .inr ⟨_, hJx3⟩⟩
   ·rw [e2] at hcall
    have hrk := HRr.out f.reps[k] (List.getElem_mem hk)
    have hst := (ZI e1).2
    have HP2 := Qa (show xs ++ (Ui f all f.reps[k] ++ Qu f all f.reps[k].y u) = Qu f all fr u by rw [← partL_some (fun r hm => (HRr.out r hm).2.1) hlt e1]; exact HP.out)
    obtain ⟨rb0, ro, hqa, _, d0, d1, d2⟩ := (HR.out wr HK1.out).get k hk
    have HCl := Qa hcall
    have hkl : k < 1000 := by have := HF.out.reps; omega
    clear hcall HP e1 e2
    rw [hqa] at HCl
    rw [hqa] at hco
    generalize f.reps[k] = r at *
    obtain ⟨rx, ry, rz⟩ := r
    dsimp only at *
    have HQa := Qa hqa
    clear hqa
    replace hst := hst.symm
    subst hst
    go_upto_region 6 with (go_at_call 176; refine HCl.out.mono ?_; rintro e w3 ⟨rfl, hb⟩; clear hcb hcu hco; replace HXb := bk HXb hb; replace HJ1 := Qa (HJ.out _ _ _ HJ1.out (hb.mono hwrW) (KeptC.below hb)); replace HK1 := Qa (HK1.out.own (hb.mono hwrW)); replace d0 := Qq d0 hb; replace d1 := Qq d1 hb; replace d2 := Qq d2 hb; replace hbx := HBv.out w3 HK1.out; clear hb; have hcb := Qb HXb.out; have hco := Qb hbx.o; rw [HQa.out] at hco)
    go_upto_region 7 with (fail)
    have HXr := Qa (heap_alloc_new w3 (.cells #[.int .i64 bar, .int .i64 ry, .int .i64 rz] 254))
    have hb := (RowKit.Below.refl w3.heap.size w3).alloc (Nat.le_refl _) (.cells #[.int .i64 bar, .int .i64 ry, .int .i64 rz] 254)
    have hw3W := HK1.out.size
    clear hcb hco d0 d1 d2
    replace HXb := bk HXb hb; replace HJ1 := Qa (HJ.out _ _ _ HJ1.out (hb.mono hw3W) (KeptC.below hb)); replace HK1 := Qa (HK1.out.own (hb.mono hw3W)); replace hbx := HBv.out _ HK1.out
    have HRs := Qa (HNs.out w3.heap.size 254 hw3W (by decide))
    clear hb
    generalize w3.alloc (.cells #[.int .i64 bar, .int .i64 ry, .int .i64 rz] 254) = W7 at *
    generalize w3.heap.size = rb at *
    have hcr := Qb HXr.out; have hca := Qb hbx.all
    have HFp := Qa (show Zw all ⟨bar, ry, rz⟩ = if all then 1 else rz from rfl)
    go_upto_if 37 with (fail)
    go_cut [9] from 13 to 67 (fun s9 V => s9 = .int .i64 (Zw all ⟨bar, ry, rz⟩) ∧ V = W7)
    case first =>
     cases all
     all_goals
      go_wp2
      go_meet
      case rel => exact ⟨by rw [HFp.out]; rfl, rfl⟩
    case rest =>
    obtain ⟨rfl, rfl⟩ := hcut
    have hfp : 1 ≤ Zw all ⟨bar, ry, rz⟩ ∧ Zw all ⟨bar, ry, rz⟩ ≤ rz := by rw [HFp.out]; split <;> omega
    have HP3 := Qa (show xs ++ (ZJ f ⟨bar, ry, rz⟩ (Zw all ⟨bar, ry, rz⟩) (rz - Zw all ⟨bar, ry, rz⟩ + 1).toNat ++ Qu f all ry u) = Qu f all fr u from HP2.out)
    clear HFp HP2
    generalize Zw all ⟨bar, ry, rz⟩ = p0 at *
    clear hcr hca
    go_wp2
    go_loopw [10] (fun s10 wi => ∃ (p : Int) (ys : List Int), s10 = .int .i64 p ∧ 1 ≤ p ∧ p ≤ rz + 1 ∧ Hid (ys ++ (ZJ f ⟨bar, ry, rz⟩ p (rz - p + 1).toNat ++ Qu f all ry u) = Qu f all fr u) ∧ wi.heap[rb]? = some (.cells #[.int .i64 bar, .int .i64 ry, .int .i64 rz] 254) ∧ wi.heap[b]? = some (.cells #[.int .i64 bar] 3) ∧ J ys wi ∧ KeptC Fr W wi) (fun s10 _ => (rz + 1 - intOf s10).toNat)
    case atStart => exact ⟨p0, xs, rfl, by omega, by omega, HP3, HXr.out, HXb.out, HJ1.out, HK1.out⟩
    case round =>
     clear HXb HJ1 HK1 HXr HP3 hbx
     obtain ⟨p, ys, rfl, hp1, hp2, HPp, hxr, hxb, hj, hkc⟩ := hrel
     have HXr := Qa hxr; have HXb := Qa hxb; have HJ1 := Qa hj; have HK1 := Qa hkc
     clear hxr hxb hj hkc
     have hcr := Qb HXr.out
     by_cases hltp : p ≤ rz
     ·have HP4 := Qa (show ys ++ (rowI f p bar (ry - bar).toNat ++ (ZJ f ⟨bar, ry, rz⟩ (p + 1) (rz - p).toNat ++ Qu f all ry u)) = Qu f all fr u from by
       have h := HPp.out
       rw [show (rz - p + 1).toNat = (rz - p).toNat + 1 by omega, Jc, List.append_assoc] at h
       exact h)
      clear HPp
      go_wp2
      clear hcr
      go_loopw [11] (fun s11 wi => ∃ (i : Int) (zs : List Int), s11 = .int .i64 i ∧ bar ≤ i ∧ i ≤ ry ∧ Hid (zs ++ (rowI f p i (ry - i).toNat ++ (ZJ f ⟨bar, ry, rz⟩ (p + 1) (rz - p).toNat ++ Qu f all ry u)) = Qu f all fr u) ∧ wi.heap[rb]? = some (.cells #[.int .i64 bar, .int .i64 ry, .int .i64 rz] 254) ∧ wi.heap[b]? = some (.cells #[.int .i64 bar] 3) ∧ J zs wi ∧ KeptC Fr W wi) (fun s11 _ => (ry - intOf s11).toNat)
      case atStart => exact ⟨bar, ys, rfl, Int.le_refl _, by omega, HP4, HXr.out, HXb.out, HJ1.out, HK1.out⟩
      case round =>
       clear HXb HJ1 HK1 HXr HP4
       obtain ⟨i, zs, rfl, hi1, hi2, HPi, hxr, hxb, hj, hkc⟩ := hrel
       have HXr := Qa hxr; have HXb := Qa hxb; have HJ1 := Qa hj; have HK1 := Qa hkc
       clear hxr hxb hj hkc
       have hcr := Qb HXr.out
       have hwi1 : IntKind.i64.wrap (i + 1) = i + 1 := IntWalk.i64_in _ (by omega)
       by_cases hlti : i < ry
       ·have HRw := Qa (show rowI f p i (ry - i).toNat = if endB f.ends i p then rowI f p (i + 1) (ry - (i + 1)).toNat else i :: rowI f p (i + 1) (ry - (i + 1)).toNat by rw [show (ry - i).toNat = (ry - (i + 1)).toNat + 1 by omega, rowI_succ])
        have HE := Qa (HEn.out i p _ HK1.out)
        have hwrW2 := HK1.out.size
        go_upto_region 16 with (fail)
        have hbx := HBv.out _ HK1.out
        have hco := Qb hbx.o
        refine (wpIn_wide (n := n)).1 ?_
        cases hen : endB f.ends i p
        ·rw [hen] at HE HRw
         have HP5 := Qa (show zs ++ i :: (rowI f p (i + 1) (ry - (i + 1)).toNat ++ (ZJ f ⟨bar, ry, rz⟩ (p + 1) (rz - p).toNat ++ Qu f all ry u)) = Qu f all fr u from by have h := HPi.out; rw [HRw.out] at h; exact h)
         have hzl : zs.length < N := by
          have h1 := congrArg List.length HP5.out
          rw [List.length_append, List.length_cons] at h1
          omega
         clear hen HPi HRw
         gi_wp2_with (refine ⟨trivial, ?_⟩; gi_at_call 178; refine (callsIn_wide.2 HE.out).mono ?_; rintro e w5 ⟨rfl, hb⟩; clear hcr hco hbx; replace HXr := bk HXr hb; replace HXb := bk HXb hb; replace HJ1 := Qa (HJ.out _ _ _ HJ1.out (hb.mono hwrW2) (KeptC.below hb)); replace HK1 := Qa (HK1.out.own (hb.mono hwrW2)); clear hb)
         obtain ⟨fn, tmps, assign, body, hy, hRd⟩ := HY.out zs i w5 HJ1.out hzl
         rw [hy]
         gi_wp2
         refine hRd.mono ?_
         rintro e W3 (⟨rfl, hJ3, hk3, _⟩ | ⟨rfl, hJx3, _⟩)
         ·have HJ3 := Qa hJ3; have HK3 := Qa (HK1.out.trans hk3); have HX3 := Qa (hk3.cells _ _ _ _ (HNs.out b _ hbW (by decide)) HXb.out); have HR3 := Qa (hk3.cells _ _ _ _ HRs.out HXr.out)
          clear hJ3 hk3
          gi_wp2
          go_wp2
          exact ⟨⟨i + 1, zs ++ [i], rfl, by omega, by omega, Qa (by rw [List.append_assoc]; exact HP5.out), HR3.out, HX3.out, HJ3.out, HK3.out⟩, by simp [intOf]; omega⟩
         ·gi_wp2
          go_wp2
          refine bodyPost_ret (results_none rfl _ _ _) rfl ?_
          exact ⟨⟨_, rfl⟩, .inr ⟨_, hJx3⟩⟩
        ·rw [hen] at HE HRw
         have HP5 := Qa (show zs ++ (rowI f p (i + 1) (ry - (i + 1)).toNat ++ (ZJ f ⟨bar, ry, rz⟩ (p + 1) (rz - p).toNat ++ Qu f all ry u)) = Qu f all fr u from by have h := HPi.out; rw [HRw.out] at h; exact h)
         clear hen HPi HRw
         gi_wp2_with (refine ⟨trivial, ?_⟩; gi_at_call 178; refine (callsIn_wide.2 HE.out).mono ?_; rintro e w5 ⟨rfl, hb⟩; clear hcr hco hbx; replace HXr := bk HXr hb; replace HXb := bk HXb hb; replace HJ1 := Qa (HJ.out _ _ _ HJ1.out (hb.mono hwrW2) (KeptC.below hb)); replace HK1 := Qa (HK1.out.own (hb.mono hwrW2)); clear hb)
         refine ⟨fun _ h => (by cases h), ?_⟩
         gi_wp2
         go_wp2
         exact ⟨⟨i + 1, zs, rfl, by omega, by omega, HP5, HXr.out, HXb.out, HJ1.out, HK1.out⟩, by simp [intOf]; omega⟩
       ·obtain rfl : i = ry := by omega
        have HP6 := Qa (show zs ++ (ZJ f ⟨bar, i, rz⟩ (p + 1) (rz - (p + 1) + 1).toNat ++ Qu f all i u) = Qu f all fr u from by
         have h := HPi.out
         rw [show (i - i).toNat = 0 by omega, show rowI f p i 0 = [] from rfl, List.nil_append] at h
         rw [show rz - (p + 1) + 1 = rz - p by omega]; exact h)
        have hwp1 : IntKind.i64.wrap (p + 1) = p + 1 := IntWalk.i64_in _ (by omega)
        go_wp2
        exact ⟨⟨p + 1, zs, rfl, by omega, by omega, HP6, HXr.out, HXb.out, HJ1.out, HK1.out⟩, by simp [intOf]; omega⟩
     ·obtain rfl : p = rz + 1 := by omega
      have HP7 := Qa (show ys ++ Qu f all ry u = Qu f all fr u from by
       have h := HPp.out
       rw [show (rz - (rz + 1) + 1).toNat = 0 by omega] at h
       exact h)
      have hwr1 : IntKind.i64.wrap (ry - 1) = ry - 1 := IntWalk.i64_in _ (by omega)
      have hwr2 : IntKind.i64.wrap (ry - 1 + 1) = ry := by rw [IntWalk.i64_in _ (by omega)]; omega
      have hcb := Qb HXb.out; have hfb := Qe HXb.out; have hzb := Qd HXb.out
      have hszW := HK1.out.size
      go_upto_region 18 with (fail)
      have HXs := heap_setCell_same _ b 0 _ _ (.int .i64 (ry - 1)) HXb.out
      have HJs := HJ.out _ _ _ HJ1.out ((RowKit.Below.refl W.heap.size wr).setCell (p := ⟨b, 0, none⟩) hbW (.int .i64 (ry - 1))) (J1 HXb.out (by decide) _ _)
      have HKs := HK1.out.own ((RowKit.Below.refl W.heap.size wr).setCell (p := ⟨b, 0, none⟩) hbW (.int .i64 (ry - 1)))
      clear hcr hcb hfb hzb
      generalize wr.setCell ⟨b, 0, none⟩ (.int .i64 (ry - 1)) = W3 at *
      have HJ3 := Qa HJs; have HK3 := Qa HKs
      have hcb := Qb HXs
      clear HJs HKs
      go_upto_region 2 with (fail)
      (have HXn := Qa (heap_alloc_new W3 (.cells #[.int .i64 (ry - 1)] 3)); have HJn := Qa (HJ.out _ _ _ HJ3.out ((RowKit.Below.refl W.heap.size W3).alloc HK3.out.size (.cells #[.int .i64 (ry - 1)] 3)) (KeptC.below ((RowKit.Below.refl _ W3).alloc (Nat.le_refl _) (.cells #[.int .i64 (ry - 1)] 3)))); have HKn := Qa (HK3.out.own ((RowKit.Below.refl W.heap.size W3).alloc HK3.out.size (.cells #[.int .i64 (ry - 1)] 3))); have hbn := HK3.out.size; clear hcb; generalize W3.alloc (.cells #[.int .i64 (ry - 1)] 3) = W9 at *; generalize W3.heap.size = b9 at *; have hc9 := Qb HXn.out; have hf9 := Qe HXn.out; have hz9 := Qd HXn.out; go_wp2)
      go_roundg (u - ry).toNat
      case measure => have := HG.out; omega
      case rel => exact ⟨b9, ry, ys, rfl, by omega, by omega, rfl, hbn, heap_setCell_same _ _ _ _ _ _ HXn.out, HP7, HJ.out _ _ _ HJn.out ((RowKit.Below.refl W.heap.size W9).setCell (p := ⟨b9, 0, none⟩) hbn _) (J1 HXn.out (by decide) _ _), HKn.out.own ((RowKit.Below.refl W.heap.size W9).setCell (p := ⟨b9, 0, none⟩) hbn _)⟩
  ·have HF := Qa (show xs = Qu f all fr u by have := HP.out; rwa [Yy hlt, List.append_nil] at this)
   go_wp2
   go_end0
   rw [← HF.out]
   exact ⟨⟨_, rfl⟩, .inl HJ1.out⟩
abbrev encJ (n : Int) : Value := .int .i64 n
theorem keyJ : KeyOk Tryz.prog 3 encJ := Uy Tryz.underlying3
theorem zeroIntJ (w : World) : (zeroValue 3).run Tryz.prog w = .ok (.int .i64 0) w := by kernel_rfl
theorem visit1_any (n lo c y r : Nat) (hn : 1 ≤ n) (b k : Int) (m : List (Int × Value)) (A B : World → Prop) (W : World) (hc : W.heap[c]? = some (.cells #[.map (some r)] 93)) (hy : W.heap[y]? = some (.cells #[.func (.yield lo) #[] #[]] 225)) (hm : MapAt W encJ r m)
  (hk : (mget m b).getD (.int .i64 0) = .int .i64 k) (hk2 : 0 ≤ k ∧ k ≤ 1000000) (hcr : c ≠ r ∧ y ≠ r)
  (hY : ∀ W', MapAt W' encJ r (mput m b (.int .i64 (k + 1))) → W.grownBy W' (some r) → YieldAt Fence.wide (n - 1) Tryz.prog lo #[.agg #[.int .i64 b, .int .i64 (k + 1)]] W' fun e V => (e = .returned (.bool true) ∧ A V) ∨ (e = .returned (.bool false) ∧ B V)) :
  Calls Tryz.prog 134 #[.int .i64 b, .pointer (some ⟨c, 0, none⟩), .pointer (some ⟨y, 0, none⟩)] W fun e V => (e = .returned (.bool true) ∧ A V) ∨ (e = .returned (.bool false) ∧ B V) := by
 have hw : IntKind.i64.wrap (k + 1) = k + 1 := IntWalk.i64_in _ (by omega)
 have hl : (Instr.lookup 93 (.map (some r)) (.int .i64 b) false).run Tryz.prog W = .ok (.int .i64 k) W := by
  have h := QF Tryz.underlying93 keyJ zeroIntJ hm b false
  rw [if_neg (by decide), hk] at h
  exact h
 have hcc := Qb hc; have hcy := Qb hy
 have HC := Qa hc; have HY := Qa hy; have HM := Qa hm
 clear hk hc hy hm
 go_enter Tryz.func134, Tryz.ntmps134
 go_upto_region 2 with (refine Qm rfl (.tmp 5) (.tmp 6) (.tmp 8) _ (.inl rfl) Tryz.underlying93 keyJ r m rfl HM.out b rfl _ rfl ?_; intro w2 hm2 hg2)
 clear hl hcc hcy
 have hc2 := (hg2.block c (Qd HC.out) (fun e => hcr.1 (Option.some.inj e))).trans HC.out
 have hy2 := (hg2.block y (Qd HY.out) (fun e => hcr.2 (Option.some.inj e))).trans HY.out
 have hcc := Qb hc2; have hcy := Qb hy2
 have hl : (Instr.lookup 93 (.map (some r)) (.int .i64 b) false).run Tryz.prog w2 = .ok (.int .i64 (k + 1)) w2 := by
  have h := QF Tryz.underlying93 keyJ zeroIntJ hm2 b false
  rw [if_neg (by decide), ZB, if_pos rfl] at h
  exact h
 obtain ⟨fn, tmps, assign, body, hy, hRd⟩ := hY w2 hm2 hg2
 clear hc2 hy2 hm2 hg2
 refine (wpIn_wide (n := n)).1 ?_
 gi_wp2
 refine hRd.mono ?_
 rintro e W3 (⟨rfl, hA⟩ | ⟨rfl, hB⟩)
 ·gi_wp2
  go_wp2
  go_ret
  exact .inl ⟨rfl, hA⟩
 ·gi_wp2
  go_wp2
  go_ret
  exact .inr ⟨rfl, hB⟩
theorem MapAt.same {κ : Type} {enc : κ → Value} {w w' : World} {r : Nat} {m : List (κ × Value)} (h : MapAt w enc r m) (e : w'.heap[r]? = w.heap[r]?) : MapAt w' enc r m := by
 obtain ⟨⟨es, c, h1, h2⟩, h3⟩ := h; exact ⟨⟨es, c, e.trans h1, h2⟩, h3⟩
theorem MapAt.keptF {κ : Type} {enc : κ → Value} {w w' : World} {B r : Nat} {m : List (κ × Value)} (h : MapAt w enc r m) (k : KeepsFrom B w w') (hB : B ≤ r) : MapAt w' enc r m := by
 obtain ⟨⟨es, c, h1, h2⟩, h3⟩ := h; exact ⟨⟨es, c, k.same r _ hB h1 rfl, h2⟩, h3⟩
theorem YX {κ : Type} {enc : κ → Value} {S : Nat → TypeId → Prop} {w w' : World} {r : Nat} {m : List (κ × Value)} (h : MapAt w enc r m) (hg : w.grownBy w' (some r)) : KeptC S w w' :=
 ⟨hg.size, fun k cs T fr _ hk => (hg.block k (Qd hk) (fun e => by
  obtain ⟨⟨es, c, h1, _⟩, _⟩ := h
  have e2 : k = r := Option.some.inj e
  subst e2
  rw [h1] at hk; cases hk)).trans hk⟩
def CntAt (V : World) (r : Nat) (pre : List Int) : Prop := ∃ m, MapAt V encJ r m ∧ ∀ b, (mget m b).getD (.int .i64 0) = .int .i64 (pre.count b : Int)
theorem cnt_put {m : List (Int × Value)} {pre : List Int} (h : ∀ b, (mget m b).getD (.int .i64 0) = .int .i64 (pre.count b : Int)) (x b : Int) : (mget (mput m x (.int .i64 ((pre.count x : Int) + 1))) b).getD (.int .i64 0) = .int .i64 ((pre ++ [x]).count b : Int) := by
 rw [ZB]
 by_cases e : b = x
 ·subst e; simp
 ·rw [if_neg e, h b]
  have : [x].count b = 0 := by simp [Ne.symm e]
  rw [List.count_append, this]; rfl
theorem visits_any (f : Fo) (q : Fp) (w : World) :
  Calls Tryz.prog 90 #[.agg #[.int .i64 f.bars, .slice q.ra f.reps.length q.rc, .slice q.ea f.ends.length q.ec, .int .i64 f.jump.x, .int .i64 f.jump.y, .int .i64 f.jump.z, .slice q.ca f.cuts.length q.cc]] w fun e w' => e = .returned (.func (.func 133) #[] #[.pointer (some ⟨w.heap.size, 0, none⟩)]) ∧ w' = w.alloc (.cells #[.int .i64 f.bars, .slice q.ra f.reps.length q.rc, .slice q.ea f.ends.length q.ec, .int .i64 f.jump.x, .int .i64 f.jump.y, .int .i64 f.jump.z, .slice q.ca f.cuts.length q.cc] 183) := by
 go_enter Tryz.func90, Tryz.ntmps90
 go_wp2
 go_ret
 refine ⟨?_, ?_⟩
 ·first | rfl | simp
 ·first | rfl | simp
structure VisI (J : List (Int × Int) → World → Prop) (S : Nat → TypeId → Prop) (W : World) (lo jb : Nat) (jump : R3) (B : Nat) (pre : List Int) (V : World) : Prop where
 j : J (visL pre) V
 k : KeptC S W V
 m : CntAt V (W.heap.size + 1) pre
 y : V.heap[W.heap.size]? = some (.cells #[.func (.yield lo) #[] #[]] 225)
 c : V.heap[W.heap.size + 1 + 1]? = some (.cells #[.map (some (W.heap.size + 1))] 93)
 f : V.heap[W.heap.size + 1 + 1 + 1]? = some (.cells #[.func (.func 134) #[] #[.pointer (some ⟨W.heap.size + 1 + 1, 0, none⟩), .pointer (some ⟨W.heap.size, 0, none⟩)]] 58)
 jb : V.heap[jb]? = some (.cells #[.int .i64 jump.x, .int .i64 jump.y, .int .i64 jump.z] 106)
 z : B ≤ V.heap.size
theorem VisI.below {J : List (Int × Int) → World → Prop} {S : Nat → TypeId → Prop} {W X Y : World} {lo jb : Nat} {jump : R3} {B : Nat} {pre : List Int} (hJ : ∀ pre X Y, J pre X → Below W.heap.size X Y → Stay X Y → J pre Y) (hl : W.heap.size + 1 + 1 + 1 < B ∧ jb < B) (h : VisI J S W lo jb jump B pre X) (hb : Below B X Y) (hst : Stay X Y) : VisI J S W lo jb jump B pre Y := by
 obtain ⟨m, m1, m2⟩ := h.m
 exact ⟨hJ _ _ _ h.j (hb.mono (by omega)) hst, h.k.own (hb.mono (by omega)), ⟨m, m1.same (hb.block _ (by omega)), m2⟩, (hb.block _ (by omega)).trans h.y, (hb.block _ (by omega)).trans h.c, (hb.block _ (by omega)).trans h.f, (hb.block _ (by omega)).trans h.jb, Nat.le_trans h.z hb.size⟩
theorem visits1_in (n : Nat) (hn : 1 ≤ n) (S : Nat → TypeId → Prop) (f : Fo) (q : Fp) (bo : Nat) (w : World) (hf : FoFew f) (hb0 : 0 ≤ f.bars) (hr : ∀ r ∈ f.reps, 0 ≤ r.x ∧ r.x < r.y ∧ r.y ≤ f.bars ∧ 1 ≤ r.z ∧ r.z ≤ 9) (hj : Q5 f = true) (N : Nat) (hN : (Zi f).length ≤ N) (hN2 : N ≤ 1000000)
  (hX : w.heap[bo]? = some (.cells #[.int .i64 f.bars, .slice q.ra f.reps.length q.rc, .slice q.ea f.ends.length q.ec, .int .i64 f.jump.x, .int .i64 f.jump.y, .int .i64 f.jump.z, .slice q.ca f.cuts.length q.cc] 183)) (hS : S bo 183) (hSl : ∀ k T, w.heap.size ≤ k → T ∈ itT → S k T) (hm : ∀ V, KeptC S w V → R3At V q.ra f.reps) (hm2 : ∀ V, KeptC S w V → R3At V q.ea f.ends) :
  UC Fence.wide n Tryz.prog 133 #[.pointer (some ⟨bo, 0, none⟩)] (fun v : Int × Int => #[.agg #[.int .i64 v.1, .int .i64 v.2]]) (KeptC S) (fun xs => xs = visL (Zi f)) N w := by
 intro lo J Jx W hW hJ hJx hY h0
 have HBo := Qa (show ∀ V, KeptC S W V → V.heap[bo]? = some (.cells #[.int .i64 f.bars, .slice q.ra f.reps.length q.rc, .slice q.ea f.ends.length q.ec, .int .i64 f.jump.x, .int .i64 f.jump.y, .int .i64 f.jump.z, .slice q.ca f.cuts.length q.cc] 183) from fun V hV => hV.cells _ _ _ _ hS (Qc hX hW))
 have HNs := Qa (show ∀ k T, W.heap.size ≤ k → T ∈ itT → S k T from fun k T hk hT => hSl k T (Nat.le_trans hW.size hk) hT)
 have HJ := Qa hJ; have HJx := Qa hJx; have HY := Qa hY; have H0 := Qa h0
 have HSl := Qa hSl; have HM := Qa (show ∀ V, KeptC S W V → R3At V q.ra f.reps from fun V hV => hm V ((KeptC.below hW).trans hV)); have HM2 := Qa (show ∀ V, KeptC S W V → R3At V q.ea f.ends from fun V hV => hm2 V ((KeptC.below hW).trans hV)); have HW := Qa hW; have HF := Qa hf; have HRr := Qa hr; have HJm := Qa hj; have HS := Qa hS
 clear hJ hJx hY h0 hX hS hSl hm hm2 hW hf hr hj
 refine callsIn_of_wp_marks Tryz.func133 rfl trivial ?_ rfl
 simp only [Tryz.ntmps133, List.size_toArray, List.length_cons, List.length_nil, Nat.reduceAdd, Nat.reduceSub, Array.replicate_succ, Array.replicate_zero, List.push_toArray, List.append_toArray, List.nil_append, List.cons_append]
 refine wpIn_wide.2 ?_
 have hbo := HBo.out W (KeptC.refl _ _)
 have hbl := Qd hbo
 have hco := Qb hbo
 have hmm := @run_makeMap Tryz.prog
 go_upto_region 3 with (fail)
 have kY := Qj (Qj (Qj (heap_alloc_new W (.cells #[.func (.yield lo) #[] #[]] 225)) (.map #[] 0)) (.cells #[.map (some (W.heap.size + 1))] 93)) (.cells #[.func (.func 134) #[] #[.pointer (some ⟨W.heap.size + 1 + 1, 0, none⟩), .pointer (some ⟨W.heap.size, 0, none⟩)]] 58)
 have kC : ((((W.alloc (.cells #[.func (.yield lo) #[] #[]] 225)).alloc (.map #[] 0)).alloc (.cells #[.map (some (W.heap.size + 1))] 93)).alloc (.cells #[.func (.func 134) #[] #[.pointer (some ⟨W.heap.size + 1 + 1, 0, none⟩), .pointer (some ⟨W.heap.size, 0, none⟩)]] 58)).heap[W.heap.size + 1 + 1]? = some (.cells #[.map (some (W.heap.size + 1))] 93) := Qj (QJ _ _ (by simp)) _
 have kF : ((((W.alloc (.cells #[.func (.yield lo) #[] #[]] 225)).alloc (.map #[] 0)).alloc (.cells #[.map (some (W.heap.size + 1))] 93)).alloc (.cells #[.func (.func 134) #[] #[.pointer (some ⟨W.heap.size + 1 + 1, 0, none⟩), .pointer (some ⟨W.heap.size, 0, none⟩)]] 58)).heap[W.heap.size + 1 + 1 + 1]? = some (.cells #[.func (.func 134) #[] #[.pointer (some ⟨W.heap.size + 1 + 1, 0, none⟩), .pointer (some ⟨W.heap.size, 0, none⟩)]] 58) := QJ _ _ (by simp)
 have kM : MapAt ((((W.alloc (.cells #[.func (.yield lo) #[] #[]] 225)).alloc (.map #[] 0)).alloc (.cells #[.map (some (W.heap.size + 1))] 93)).alloc (.cells #[.func (.func 134) #[] #[.pointer (some ⟨W.heap.size + 1 + 1, 0, none⟩), .pointer (some ⟨W.heap.size, 0, none⟩)]] 58)) encJ (W.heap.size + 1) [] := by
  have h := MapAt.new (W.alloc (.cells #[.func (.yield lo) #[] #[]] 225)) encJ
  rw [show (W.alloc (.cells #[.func (.yield lo) #[] #[]] 225)).heap.size = W.heap.size + 1 by simp] at h
  exact (h.below ((Below.refl _ _).alloc (Nat.le_refl _) _)).below ((Below.refl _ _).alloc (Nat.le_refl _) _)
 have hb4 : Below W.heap.size W ((((W.alloc (.cells #[.func (.yield lo) #[] #[]] 225)).alloc (.map #[] 0)).alloc (.cells #[.map (some (W.heap.size + 1))] 93)).alloc (.cells #[.func (.func 134) #[] #[.pointer (some ⟨W.heap.size + 1 + 1, 0, none⟩), .pointer (some ⟨W.heap.size, 0, none⟩)]] 58)) := ((((Below.refl _ _).alloc (Nat.le_refl _) _).alloc (by simp) _).alloc (by simp; omega) _).alloc (by simp; omega) _
 clear hco hbo
 generalize ((((W.alloc (.cells #[.func (.yield lo) #[] #[]] 225)).alloc (.map #[] 0)).alloc (.cells #[.map (some (W.heap.size + 1))] 93)).alloc (.cells #[.func (.func 134) #[] #[.pointer (some ⟨W.heap.size + 1 + 1, 0, none⟩), .pointer (some ⟨W.heap.size, 0, none⟩)]] 58)) = W4 at *
 have hbo := HBo.out W4 ((KeptC.refl S W).own hb4)
 have hco := Qb hbo
 go_upto_region 5 with (fail)
 have kJ := heap_alloc_new W4 (.cells #[.int .i64 f.jump.x, .int .i64 f.jump.y, .int .i64 f.jump.z] 106)
 have hb5 := hb4.alloc hb4.size (.cells #[.int .i64 f.jump.x, .int .i64 f.jump.y, .int .i64 f.jump.z] 106)
 have hjl := Qd kF
 replace kY := Qj kY (.cells #[.int .i64 f.jump.x, .int .i64 f.jump.y, .int .i64 f.jump.z] 106); replace kC := Qj kC (.cells #[.int .i64 f.jump.x, .int .i64 f.jump.y, .int .i64 f.jump.z] 106); replace kF := Qj kF (.cells #[.int .i64 f.jump.x, .int .i64 f.jump.y, .int .i64 f.jump.z] 106); replace kM := kM.below ((Below.refl W4.heap.size W4).alloc (Nat.le_refl _) (.cells #[.int .i64 f.jump.x, .int .i64 f.jump.y, .int .i64 f.jump.z] 106))
 have hl4 := Qd kF
 clear hb4 hco hbo
 generalize W4.alloc (.cells #[.int .i64 f.jump.x, .int .i64 f.jump.y, .int .i64 f.jump.z] 106) = W5 at *
 generalize W4.heap.size = jb at *
 have hbo := HBo.out W5 ((KeptC.refl S W).own hb5)
 have hco := Qb hbo
 have HUn := Qa (show QS f = if f.jump.x = 0 then f.bars else f.jump.x from rfl)
 go_upto_if 17 with (fail)
 go_cut [6] from 17 (fun s6 V => s6 = .int .i64 (QS f) ∧ V = W5)
 case first =>
  by_cases hj0 : f.jump.x = 0
  ·have hd : (f.jump.x == 0) = true := by simpa using hj0
   have HU2 := Qa (show QS f = f.bars by rw [HUn.out, if_pos hj0])
   clear hj0
   go_wp2
   go_meet
   case rel => exact ⟨by rw [HU2.out], rfl⟩
  ·have hd : (f.jump.x == 0) = false := by simpa using hj0
   have HU2 := Qa (show QS f = f.jump.x by rw [HUn.out, if_neg hj0])
   clear hj0
   go_wp2
   go_meet
   case rel => exact ⟨by rw [HU2.out], rfl⟩
 case rest =>
 obtain ⟨rfl, hwc⟩ := hcut
 have hwc2 := hwc.symm
 clear hwc
 subst hwc2
 clear HUn
 have hUb : QS f ≤ f.bars ∧ 0 ≤ f.jump.y ∧ f.jump.y ≤ f.bars ∧ f.jump.z ≤ f.bars := by
  have h := HJm.out
  unfold Q5 at h
  rw [Bool.or_eq_true] at h
  rcases h with h | h
  ·have e := of_decide_eq_true h
   have e1 : f.jump.x = 0 := by rw [e]
   have e2 : f.jump.y = 0 := by rw [e]
   have e3 : f.jump.z = 0 := by rw [e]
   unfold QS
   rw [if_pos e1, e2, e3]; omega
  ·simp only [badJ, Bool.and_eq_true, Bool.not_eq_true', Bool.or_eq_false_iff, decide_eq_false_iff_not] at h
   unfold QS
   split <;> omega
 obtain ⟨P1, hP1⟩ : ∃ P1, Qu f true 0 (QS f) = P1 := ⟨_, rfl⟩
 obtain ⟨P2, hP2⟩ : ∃ P2, Qu f false f.jump.y f.jump.z = P2 := ⟨_, rfl⟩
 have HT := Qa (show Zi f = P1 ++ P2 by unfold Zi; rw [hP1, hP2])
 have hNl : P1.length + P2.length ≤ N := by rw [HT.out, List.length_append] at hN; exact hN
 go_upto_region 8 with (go_at_call 135; refine (bars_any f q 0 (QS f) true _).mono ?_; rintro e w7 ⟨rfl, hw7⟩; have HW7 := Qa hw7; clear hw7)
 have hz5 : jb < W5.heap.size := Qd kJ
 have hbx : BoxB f q 0 (QS f) true (W5.heap.size + 1) (W5.heap.size + 2) W5.heap.size (W5.heap.size + 3) w7 := by
  rw [HW7.out]
  exact ⟨Qj (Qj (Qj (heap_alloc_new _ _) _) _) _, Qj (Qj (QJ _ _ (by simp)) _) _, Qj (QJ _ _ (by simp)) _, QJ _ _ (by simp)⟩
 have hb75 : Below W5.heap.size W5 w7 := by
  rw [HW7.out]
  exact ((((Below.refl _ _).alloc (Nat.le_refl _) _).alloc (by simp) _).alloc (by simp; omega) _).alloc (by simp; omega) _
 have hz7 : w7.heap.size = W5.heap.size + 4 := by rw [HW7.out]; simp
 have hb7 : Below W.heap.size W w7 := hb5.trans (hb75.mono hb5.size)
 have hsz5 := hb5.size
 have HV0 := Qa (show VisI J S W lo jb f.jump w7.heap.size [] w7 from ⟨HJ.out _ _ _ H0.out hb7 (KeptC.below hb7), (KeptC.refl S W).own hb7, ⟨[], kM.below hb75, fun b => by simp [Q2]⟩, Qc kY hb75, Qc kC hb75, Qc kF hb75, Qc kJ hb75, Nat.le_refl _⟩)
 clear kY kC kF kM kJ hco hbo HW7
 have hll : W.heap.size + 1 + 1 + 1 < w7.heap.size ∧ jb < w7.heap.size := by omega
 have hfT : Fence.wide.fn 134 := trivial
 refine (wpIn_wide (n := 6)).1 ?_
 refine ZS (α := Int) rfl (by omega) (gf := 175) (lb := #[.pointer (some ⟨W5.heap.size + 1, 0, none⟩), .pointer (some ⟨W5.heap.size + 2, 0, none⟩), .pointer (some ⟨W5.heap.size, 0, none⟩), .pointer (some ⟨W5.heap.size + 3, 0, none⟩)]) rfl trivial (enters_of Tryz.func175 (by kernel_rfl) rfl) (encs := fun x : Int => #[.int .i64 x]) (fun _ => rfl)
  (Kp := KeptC S) (S := fun xs => xs = P1) (N := P1.length) ?hseq KeptC.trans ?hKb
  (fun pre V => VisI J S W lo jb f.jump w7.heap.size pre V) ?hI
  (fun _ V => ∃ pre, Jx pre V) ?hIx HV0.out
  (fun x a' V => a' = (?G : Int → Act) x) ?hAx ?hassign ?hbody ?hdone ?hstop
 case hassign =>
  rintro l0 pre x V K hi hK
  gi_wp2
  refine hK _ _ (KeepsFrom.refl _ _) (KeptC.refl _ _) hi ?_
  rfl
 case hseq =>
  rw [← hP1]
  exact bars1_in 5 (by omega) S f q 0 (QS f) true _ _ _ _ w7 HF.out HRr.out (Int.le_refl _) hb0 hUb.1 _ (Nat.le_refl _) hbx ⟨HNs.out _ _ (by omega) (by decide), HNs.out _ _ (by omega) (by decide), HNs.out _ _ (by omega) (by decide), HNs.out _ _ (by omega) (by decide)⟩ (fun k T hk hT => HNs.out k T (by omega) hT) (fun V hV => HM.out V (((KeptC.refl S W).own hb7).trans hV)) (fun V hV => HM2.out V (((KeptC.refl S W).own hb7).trans hV))
 case hKb =>
  intro V l0 o o' _ hV hc
  exact KeptC.put hV hc
 case hI =>
  intro pre X Y h hb hst
  exact h.below HJ.out hll hb hst
 case hIx =>
  rintro pre X Y ⟨pre', h⟩ hb
  exact ⟨pre', HJx.out _ _ _ h (hb.mono (by omega))⟩
 case hAx =>
  rintro x a' u V V' row h hg hrow
  exact h
 case hbody =>
  rintro l0 pre x a' V hl0 hi rfl hlt
  obtain ⟨m, m1, m2⟩ := hi.m
  have hVz := hi.z
  have hcnt : pre.count x ≤ pre.length := List.count_le_length
  have hgB : ∀ W', V.grownBy W' (some (W.heap.size + 1)) → Below W.heap.size V W' := fun W' hg' => (Below.refl W.heap.size V).grown hg' (by omega) (fun k e => by have := Option.some.inj e; omega)
  have HVs := Qa (visit1_any n lo (W.heap.size + 1 + 1) W.heap.size (W.heap.size + 1) hn x (pre.count x : Int) m
   (fun U => ∃ W', V.grownBy W' (some (W.heap.size + 1)) ∧ MapAt W' encJ (W.heap.size + 1) (mput m x (.int .i64 ((pre.count x : Int) + 1))) ∧ J (visL (pre ++ [x])) U ∧ KeptC S W' U ∧ KeepsFrom W.heap.size W' U)
   (fun U => Jx (visL (pre ++ [x])) U ∧ ∃ W', V.grownBy W' (some (W.heap.size + 1)) ∧ KeepsFrom W.heap.size W' U) V hi.c hi.y m1 (m2 x) ⟨by omega, by omega⟩ ⟨by omega, by omega⟩
   (fun W' hm' hg' => by
    have h := HY.out (visL pre) (x, (pre.count x : Int) + 1) W' (HJ.out _ _ _ hi.j (hgB W' hg') (YX m1 hg')) (by rw [JX]; omega)
    rw [← visL_append] at h
    refine h.mono ?_
    rintro e U (⟨e1, j, k, kf⟩ | ⟨e1, j, kf⟩)
    ·exact .inl ⟨e1, W', hg', hm', j, k, kf⟩
    ·exact .inr ⟨e1, j, W', hg', kf⟩))
  have hcf := Qb hi.f
  have HI := Qa hi; have HM1 := Qa m1; have HM2 := Qa m2
  clear hi m1 m2 hgB
  gi_wp2_with (gi_at_call 134; refine (CallsIn.inRound l0 (callsIn_wide.2 HVs.out)).mono ?_; rintro e W3 (⟨rfl, W', hg', hm', j3, k3, kf⟩ | ⟨rfl, j3, W', hg', kf⟩))
  ·have hKf : KeepsFrom w7.heap.size V W3 := (KeepsFrom.of_grownBy hg' (fun k e => by have := Option.some.inj e; omega)).trans (kf.up (by omega))
   have hKc : KeptC S V W3 := (YX HM1.out hg').trans k3
   exact ⟨hKf, hKc, ⟨j3, HI.out.k.trans hKc, ⟨_, hm'.keptF kf (by omega), cnt_put HM2.out x⟩, hKc.cells _ _ _ _ (HNs.out _ _ (by omega) (by decide)) HI.out.y, hKc.cells _ _ _ _ (HNs.out _ _ (by omega) (by decide)) HI.out.c, hKc.cells _ _ _ _ (HNs.out _ _ (by omega) (by decide)) HI.out.f, hKc.cells _ _ _ _ (HNs.out _ _ (by omega) (by decide)) HI.out.jb, Nat.le_trans hVz hKc.size⟩⟩
  ·have hKf : KeepsFrom w7.heap.size V W3 := (KeepsFrom.of_grownBy hg' (fun k e => by have := Option.some.inj e; omega)).trans (kf.up (by omega))
   exact ⟨hKf, ⟨_, j3⟩⟩
 case hdone =>
  rintro D xs V hD hS1 hi hK
  obtain rfl : xs = P1 := hS1
  have hbo := HBo.out V hi.k
  have hco := Qb hbo; have hcj := Qb hi.jb
  have hVz := hi.z
  have HI := Qa hi; have HK := Qa hK
  clear hi hK HV0
  go_wp2_with (go_at_call 135; refine (bars_any f q f.jump.y f.jump.z false V).mono ?_; rintro e w9 ⟨rfl, hw9⟩; have HW9 := Qa hw9; clear hw9)
  have hbx2 : BoxB f q f.jump.y f.jump.z false (V.heap.size + 1) (V.heap.size + 2) V.heap.size (V.heap.size + 3) w9 := by
   rw [HW9.out]
   exact ⟨Qj (Qj (Qj (heap_alloc_new _ _) _) _) _, Qj (Qj (QJ _ _ (by simp)) _) _, Qj (QJ _ _ (by simp)) _, QJ _ _ (by simp)⟩
  have hb97 : Below V.heap.size V w9 := by
   rw [HW9.out]
   exact ((((Below.refl _ _).alloc (Nat.le_refl _) _).alloc (by simp) _).alloc (by simp; omega) _).alloc (by simp; omega) _
  have hz9 : w9.heap.size = V.heap.size + 4 := by rw [HW9.out]; simp
  have hDl := Qd HK.out
  have HV9 := Qa (show VisI J S W lo jb f.jump w9.heap.size xs w9 from by
   have h := HI.out.below HJ.out hll (hb97.mono hVz) (KeptC.below hb97)
   exact ⟨h.j, h.k, h.m, h.y, h.c, h.f, h.jb, Nat.le_refl _⟩)
  have HK9 := bk HK hb97
  have hll2 : W.heap.size + 1 + 1 + 1 < w9.heap.size ∧ jb < w9.heap.size := by omega
  clear hco hcj hbo HW9
  refine (wpIn_wide (n := 6)).1 ?_
  refine ZS (α := Int) rfl (by omega) (gf := 175) (lb := #[.pointer (some ⟨V.heap.size + 1, 0, none⟩), .pointer (some ⟨V.heap.size + 2, 0, none⟩), .pointer (some ⟨V.heap.size, 0, none⟩), .pointer (some ⟨V.heap.size + 3, 0, none⟩)]) rfl trivial (enters_of Tryz.func175 (by kernel_rfl) rfl) (encs := fun x : Int => #[.int .i64 x]) (fun _ => rfl)
   (Kp := KeptC S) (S := fun ys => ys = P2) (N := P2.length) ?hseq2 KeptC.trans ?hKb2
   (fun pre X => VisI J S W lo jb f.jump w9.heap.size (xs ++ pre) X ∧ X.heap[D]? = some (.deferred (some []))) ?hI2
   (fun _ X => (∃ pre, Jx pre X) ∧ X.heap[D]? = some (.deferred (some []))) ?hIx2 ⟨by rw [List.append_nil]; exact HV9.out, HK9.out⟩
   (fun x a' X => a' = (?G2 : Int → Act) x) ?hAx2 ?hassign2 ?hbody2 ?hdone2 ?hstop2
  case hassign2 =>
   rintro l0 pre x X K hi hK
   gi_wp2
   refine hK _ _ (KeepsFrom.refl _ _) (KeptC.refl _ _) hi ?_
   rfl
  case hseq2 =>
   rw [← hP2]
   exact bars1_in 5 (by omega) S f q f.jump.y f.jump.z false _ _ _ _ w9 HF.out HRr.out hUb.2.1 hUb.2.2.1 hUb.2.2.2 _ (Nat.le_refl _) hbx2 ⟨HNs.out _ _ (by omega) (by decide), HNs.out _ _ (by omega) (by decide), HNs.out _ _ (by omega) (by decide), HNs.out _ _ (by omega) (by decide)⟩ (fun k T hk hT => HNs.out k T (by omega) hT) (fun V hV => HM.out V (HV9.out.k.trans hV)) (fun V hV => HM2.out V (HV9.out.k.trans hV))
  case hKb2 =>
   intro V l0 o o' _ hV hc
   exact KeptC.put hV hc
  case hI2 =>
   rintro pre X Y ⟨h, hd⟩ hb hst
   exact ⟨h.below HJ.out hll2 hb hst, (hb.block _ (by omega)).trans hd⟩
  case hIx2 =>
   rintro pre X Y ⟨⟨pre', h⟩, hd⟩ hb
   exact ⟨⟨pre', HJx.out _ _ _ h (hb.mono (by omega))⟩, (hb.block _ (by omega)).trans hd⟩
  case hAx2 =>
   rintro x a' u V V' row h hg hrow
   exact h
  case hbody2 =>
   rintro l0 pre2 x a' X hl0 ⟨hi, hKX⟩ rfl hlt
   obtain ⟨pre, hpre⟩ : ∃ pre, xs ++ pre2 = pre := ⟨_, rfl⟩
   have hpl : pre.length < xs.length + P2.length := by rw [← hpre, List.length_append]; omega
   rw [hpre] at hi
   rw [← List.append_assoc, hpre]
   obtain ⟨m, m1, m2⟩ := hi.m
   have hVz := hi.z
   have hcnt : pre.count x ≤ pre.length := List.count_le_length
   have hgB : ∀ W', X.grownBy W' (some (W.heap.size + 1)) → Below W.heap.size X W' := fun W' hg' => (Below.refl W.heap.size X).grown hg' (by omega) (fun k e => by have := Option.some.inj e; omega)
   have HVs := Qa (visit1_any n lo (W.heap.size + 1 + 1) W.heap.size (W.heap.size + 1) hn x (pre.count x : Int) m
    (fun U => ∃ W', X.grownBy W' (some (W.heap.size + 1)) ∧ MapAt W' encJ (W.heap.size + 1) (mput m x (.int .i64 ((pre.count x : Int) + 1))) ∧ J (visL (pre ++ [x])) U ∧ KeptC S W' U ∧ KeepsFrom W.heap.size W' U)
    (fun U => Jx (visL (pre ++ [x])) U ∧ ∃ W', X.grownBy W' (some (W.heap.size + 1)) ∧ KeepsFrom W.heap.size W' U) X hi.c hi.y m1 (m2 x) ⟨by omega, by omega⟩ ⟨by omega, by omega⟩
    (fun W' hm' hg' => by
     have h := HY.out (visL pre) (x, (pre.count x : Int) + 1) W' (HJ.out _ _ _ hi.j (hgB W' hg') (YX m1 hg')) (by rw [JX]; omega)
     rw [← visL_append] at h
     refine h.mono ?_
     rintro e U (⟨e1, j, k, kf⟩ | ⟨e1, j, kf⟩)
     ·exact .inl ⟨e1, W', hg', hm', j, k, kf⟩
     ·exact .inr ⟨e1, j, W', hg', kf⟩))
   have hcf := Qb hi.f
   have HI := Qa hi; have HM1 := Qa m1; have HM2 := Qa m2
   clear hi m1 m2 hgB
   gi_wp2_with (gi_at_call 134; refine (CallsIn.inRound l0 (callsIn_wide.2 HVs.out)).mono ?_; rintro e W3 (⟨rfl, W', hg', hm', j3, k3, kf⟩ | ⟨rfl, j3, W', hg', kf⟩))
   ·have hKD : KeepsFrom (W.heap.size + 2) X W3 := (KeepsFrom.of_grownBy hg' (fun k e => by have := Option.some.inj e; omega)).trans (kf.up (by omega))
    have hKf : KeepsFrom w9.heap.size X W3 := (KeepsFrom.of_grownBy hg' (fun k e => by have := Option.some.inj e; omega)).trans (kf.up (by omega))
    have hKc : KeptC S X W3 := (YX HM1.out hg').trans k3
    exact ⟨hKf, hKc, ⟨⟨j3, HI.out.k.trans hKc, ⟨_, hm'.keptF kf (by omega), cnt_put HM2.out x⟩, hKc.cells _ _ _ _ (HNs.out _ _ (by omega) (by decide)) HI.out.y, hKc.cells _ _ _ _ (HNs.out _ _ (by omega) (by decide)) HI.out.c, hKc.cells _ _ _ _ (HNs.out _ _ (by omega) (by decide)) HI.out.f, hKc.cells _ _ _ _ (HNs.out _ _ (by omega) (by decide)) HI.out.jb, Nat.le_trans hVz hKc.size⟩, hKD.same _ _ (by omega) hKX rfl⟩⟩
   ·have hKD : KeepsFrom (W.heap.size + 2) X W3 := (KeepsFrom.of_grownBy hg' (fun k e => by have := Option.some.inj e; omega)).trans (kf.up (by omega))
    have hKf : KeepsFrom w9.heap.size X W3 := (KeepsFrom.of_grownBy hg' (fun k e => by have := Option.some.inj e; omega)).trans (kf.up (by omega))
    exact ⟨hKf, ⟨⟨_, j3⟩, hKD.same _ _ (by omega) hKX rfl⟩⟩
  case hdone2 =>
   rintro D2 ys X hD2 hS2 ⟨hi, hKX⟩ hK2
   obtain rfl : ys = P2 := hS2
   have hfin : J (visL (Zi f)) X := by rw [HT.out]; exact hi.j
   have HFi := Qa hfin; have HKX := Qa hKX
   clear hi hfin
   go_wp2
   have rD' : (X.putObj D2 (.deferred none)).heap[D]? = some (.deferred (some [])) := (World.putObj_heap_other (by omega)).trans HKX.out
   refine ⟨by simp, .inl ⟨_, _, rfl, run_takeDeferred hK2, by simp, .inl ⟨_, _, rfl, run_takeDeferred rD', ?_⟩⟩⟩
   exact ⟨_, results_none rfl _ _ _, ⟨_, rfl⟩, .inl ⟨_, rfl, HJ.out _ _ _ (HJ.out _ _ _ HFi.out (Q7 (by omega)) (KeptC.put hK2 rfl)) (Q7 (by omega)) (KeptC.put rD' rfl)⟩⟩
  case hstop2 =>
   rintro D2 pre X hD2 ⟨⟨pre', hjx⟩, hKX⟩ hK2
   gi_wp2
   have rD' : (X.putObj D2 (.deferred none)).heap[D]? = some (.deferred (some [])) := (World.putObj_heap_other (by omega)).trans hKX
   refine ⟨by simp, .inl ⟨_, _, rfl, run_takeDeferred hK2, by simp, .inl ⟨_, _, rfl, run_takeDeferred rD', ?_⟩⟩⟩
   exact ⟨_, results_none rfl _ _ _, ⟨_, rfl⟩, .inr ⟨pre', HJx.out _ _ _ (HJx.out _ _ _ hjx (Q7 (by omega))) (Q7 (by omega))⟩⟩
 case hstop =>
  rintro D pre V hD ⟨pre', hjx⟩ hK
  gi_wp2
  refine ⟨by simp, .inl ⟨_, _, rfl, run_takeDeferred hK, ?_⟩⟩
  exact ⟨_, results_none rfl _ _ _, ⟨_, rfl⟩, .inr ⟨pre', HJx.out _ _ _ hjx (Q7 (by omega))⟩⟩
theorem rShort_any (f : Fo) (q : Fp) (w : World) (hf : FoFew f) (hb0 : 0 ≤ f.bars) (hr : ∀ r ∈ f.reps, 0 ≤ r.x ∧ r.x < r.y ∧ r.y ≤ f.bars ∧ 1 ≤ r.z ∧ r.z ≤ 9) (hj : Q5 f = true) (hm : R3At w q.ra f.reps) (hm2 : R3At w q.ea f.ends) :
  Calls Tryz.prog 132 #[.agg #[.int .i64 f.bars, .slice q.ra f.reps.length q.rc, .slice q.ea f.ends.length q.ec, .int .i64 f.jump.x, .int .i64 f.jump.y, .int .i64 f.jump.z, .slice q.ca f.cuts.length q.cc]] w fun e w' => e = .returned (.bool true) ∧ Below w.heap.size w w' := by
 have hwl := Zz hf.bars hr hj
 refine (callsIn_wide (n := 9)).1 ?_
 refine callsIn_of_wp_marks Tryz.func132 rfl trivial ?_ rfl
 simp only [Tryz.ntmps132, List.size_toArray, List.length_cons, List.length_nil, Nat.reduceAdd, Nat.reduceSub, Array.replicate_succ, Array.replicate_zero, List.push_toArray, List.append_toArray, List.nil_append, List.cons_append]
 refine wpIn_wide.2 ?_
 obtain ⟨x1, x2, x3, hb⟩ := box3 (w := w) (A := .cells #[.int .i64 f.bars, .slice q.ra f.reps.length q.rc, .slice q.ea f.ends.length q.ec, .int .i64 f.jump.x, .int .i64 f.jump.y, .int .i64 f.jump.z, .slice q.ca f.cuts.length q.cc] 183) (B := .cells #[.bool false] 4) (C := .cells #[.int .i64 0] 3) (Below.refl _ _)
 go_upto_region 2 with (fail)
 generalize ((w.alloc (.cells #[.int .i64 f.bars, .slice q.ra f.reps.length q.rc, .slice q.ea f.ends.length q.ec, .int .i64 f.jump.x, .int .i64 f.jump.y, .int .i64 f.jump.z, .slice q.ca f.cuts.length q.cc] 183)).alloc (.cells #[.bool false] 4)).alloc (.cells #[.int .i64 0] 3) = W at *
 have hc1 := Qb x1
 go_wp2_with (go_at_call 90; refine (visits_any f q W).mono ?_; rintro e w5 ⟨rfl, hw5⟩; have HW5 := Qa hw5; clear hw5)
 have hz3 : w.heap.size + 1 + 1 < W.heap.size := Qd x3
 have hz5 : w5.heap.size = W.heap.size + 1 := by rw [HW5.out]; simp
 have hb5 : Below W.heap.size W w5 := by rw [HW5.out]; exact (Below.refl _ _).alloc (Nat.le_refl _) _
 have kX : w5.heap[W.heap.size]? = some (.cells #[.int .i64 f.bars, .slice q.ra f.reps.length q.rc, .slice q.ea f.ends.length q.ec, .int .i64 f.jump.x, .int .i64 f.jump.y, .int .i64 f.jump.z, .slice q.ca f.cuts.length q.cc] 183) := by rw [HW5.out]; exact heap_alloc_new _ _
 have k2 := Qc x2 hb5; have k3 := Qc x3 hb5
 have hb7 : Below w.heap.size w w5 := hb.trans (hb5.mono hb.size)
 have HM := Qa hm; have HM2 := Qa hm2; have HF := Qa hf; have HRr := Qa hr; have HJm := Qa hj
 clear hm hm2 hf hr hj hc1 x1 x2 x3 HW5
 refine (wpIn_wide (n := 9)).1 ?_
 refine ZS (α := Int × Int) rfl (by omega) (gf := 133) (lb := #[.pointer (some ⟨W.heap.size, 0, none⟩)]) rfl trivial (enters_of Tryz.func133 (by kernel_rfl) rfl) (encs := fun v : Int × Int => #[.agg #[.int .i64 v.1, .int .i64 v.2]]) (fun _ => rfl)
  (Kp := KeptC (fun k _ => k ≠ w.heap.size + 1 + 1)) (S := fun xs => xs = visL (Zi f)) (N := 20000) ?hseq KeptC.trans ?hKb
  (fun pre V => V.heap[w.heap.size + 1]? = some (.cells #[.bool false] 4) ∧ V.heap[w.heap.size + 1 + 1]? = some (.cells #[.int .i64 (pre.length : Int)] 3) ∧ Below w.heap.size w V ∧ w5.heap.size ≤ V.heap.size) ?hI
  (fun _ _ => False) (fun _ _ _ h _ => h) ⟨k2, k3, hb7, Nat.le_refl _⟩
  (fun x a' V => a' = (?G : Int × Int → Act) x) ?hAx ?hassign ?hbody ?hdone (fun _ _ _ _ h _ => h.elim)
 case hassign =>
  rintro l0 pre x V K hi hK
  gi_wp2
  refine hK _ _ (KeepsFrom.refl _ _) (KeptC.refl _ _) hi ?_
  rfl
 case hseq =>
  exact visits1_in 8 (by omega) (fun k _ => k ≠ w.heap.size + 1 + 1) f q _ w5 HF.out hb0 HRr.out HJm.out 20000 hwl (by omega) kX (by omega) (fun k T hk _ => by omega) (fun V hV => SlAt.low HM.out hb7 hV (fun k T hk => by omega)) (fun V hV => SlAt.low HM2.out hb7 hV (fun k T hk => by omega))
 case hKb =>
  intro V l0 o o' _ hV hc
  exact KeptC.put hV hc
 case hI =>
  rintro pre X Y ⟨i1, i2, i3, i4⟩ hb _
  exact ⟨(hb.block _ (by omega)).trans i1, (hb.block _ (by omega)).trans i2, i3.trans (hb.mono (by omega)), Nat.le_trans i4 hb.size⟩
 case hAx =>
  rintro x a' u V V' row h hg hrow
  exact h
 case hbody =>
  rintro l0 pre x a' V hl0 ⟨i1, i2, i3, i4⟩ rfl hlt
  have hc := Qb i2; have hf := Qe i2; have hz := Qd i2
  have hw1 : IntKind.i64.wrap ((pre.length : Int) + 1) = (pre.length : Int) + 1 := IntWalk.i64_in _ (by omega)
  have hq : decide ((20000 : Int) < (pre.length : Int) + 1) = false := decide_eq_false (by omega)
  gi_wp2
  have KB := (KeepB.refl V.heap.size [w.heap.size + 1 + 1] V).set (p := ⟨w.heap.size + 1 + 1, 0, none⟩) (.inl (by simp)) (.int .i64 ((pre.length : Int) + 1))
  refine ⟨keepsFrom_keepB KB (by simp; omega), KeptC.keepB KB (fun k T h => by simpa using h), ?_, ?_, ?_, ?_⟩
  ·exact KB.block _ (by omega) (by simp) |>.trans i1
  ·have h := heap_setCell_same _ (w.heap.size + 1 + 1) 0 _ _ (.int .i64 ((pre.length : Int) + 1)) i2
   simpa using h
  ·exact i3.setCell (p := ⟨w.heap.size + 1 + 1, 0, none⟩) (by simp; omega) _
  ·simpa using i4
 case hdone =>
  rintro D xs V hD hS1 ⟨i1, i2, i3, i4⟩ hK
  have hc := Qb i1; have hf := Qe i1
  go_wp2
  have hK2 : (V.setCell ⟨w.heap.size + 1, 0, none⟩ (.bool true)).heap[D]? = some (.deferred (some [])) := Qo hK (by omega) _
  have i1' : (V.setCell ⟨w.heap.size + 1, 0, none⟩ (.bool true)).heap[w.heap.size + 1]? = some (.cells #[.bool true] 4) := heap_setCell_same _ _ _ _ _ _ i1
  have hb9 : Below w.heap.size w (V.setCell ⟨w.heap.size + 1, 0, none⟩ (.bool true)) := i3.setCell (p := ⟨w.heap.size + 1, 0, none⟩) (by simp) _
  clear hc hf i1 hK i3
  generalize V.setCell ⟨w.heap.size + 1, 0, none⟩ (.bool true) = V2 at *
  refine ⟨by simp, .inl ⟨_, _, rfl, run_takeDeferred hK2, ?_⟩⟩
  have i1'' : (V2.putObj D (.deferred none)).heap[w.heap.size + 1]? = some (.cells #[.bool true] 4) := (World.putObj_heap_other (by omega)).trans i1'
  have hb10 : Below w.heap.size w (V2.putObj D (.deferred none)) := hb9.trans (Q7 (by omega))
  generalize V2.putObj D (.deferred none) = V3 at *
  have hc := Qb i1''
  exact ⟨_, by simp [results, Tryz.results132, go_sem, hc], rfl, hb10⟩
theorem Z7 (f : Fo) (q : Fp) (w : World) (hf : FoFew f) (hq : FoAt w f q) :
  Calls Tryz.prog 89 #[.agg #[.int .i64 f.bars, .slice q.ra f.reps.length q.rc, .slice q.ea f.ends.length q.ec, .int .i64 f.jump.x, .int .i64 f.jump.y, .int .i64 f.jump.z, .slice q.ca f.cuts.length q.cc]] w fun e w' => e = .returned (.bool (Qy f)) ∧ Below w.heap.size w w' := by
 have HQ := Qa hq; have HF := Qa hf
 have hx := heap_alloc_new w (.cells #[.int .i64 f.bars, .slice q.ra f.reps.length q.rc, .slice q.ea f.ends.length q.ec, .int .i64 f.jump.x, .int .i64 f.jump.y, .int .i64 f.jump.z, .slice q.ca f.cuts.length q.cc] 109)
 have hb := (Below.refl w.heap.size w).alloc (Nat.le_refl _) (.cells #[.int .i64 f.bars, .slice q.ra f.reps.length q.rc, .slice q.ea f.ends.length q.ec, .int .i64 f.jump.x, .int .i64 f.jump.y, .int .i64 f.jump.z, .slice q.ca f.cuts.length q.cc] 109)
 have HX := Qa hx; have HB := Qa hb
 have HR := Qa (fun V (hV : Below w.heap.size w V) => rRepeats_any f q V hf (hq.reps.below hV))
 have HE := Qa (fun V (hV : Below w.heap.size w V) => rEndings_any f q V hf (hq.reps.below hV) (hq.ends.below hV))
 have HJ := Qa (fun V (hV : Below w.heap.size w V) => rJump_any f q V hf (hq.reps.below hV))
 have HC := Qa (fun V (hV : Below w.heap.size w V) => rCuts_any f q V hf (hq.cuts.below hV))
 have HS := Qa (fun (h0 : 0 ≤ f.bars) (h1 : Ys f = true) (h2 : Q5 f = true) V (hV : Below w.heap.size w V) => rShort_any f q V hf h0 (ZN h1) h2 (hq.reps.below hV) (hq.ends.below hV))
 have HV := Qa (show Qy f = (decide (1 ≤ f.bars) && decide (f.bars ≤ 4000) && Ys f && JC f && Q5 f && ZZ f && Z5 f) from rfl)
 have HSh := Qa (fun (h1 : Ys f = true) (h2 : Q5 f = true) => show Z5 f = true from decide_eq_true (Zz hf.bars (ZN h1) h2))
 clear hx hb hf hq
 go_enter Tryz.func89, Tryz.ntmps89
 go_upto_region 1 with (fail)
 generalize w.alloc (.cells #[.int .i64 f.bars, .slice q.ra f.reps.length q.rc, .slice q.ea f.ends.length q.ec, .int .i64 f.jump.x, .int .i64 f.jump.y, .int .i64 f.jump.z, .slice q.ca f.cuts.length q.cc] 109) = W at *
 have hc := Qb HX.out
 go_upto_region 2 with (fail)
 have hx3 := heap_alloc_new W (.cells #[.int .i64 f.bars, .slice q.ra f.reps.length q.rc, .slice q.ea f.ends.length q.ec, .int .i64 f.jump.x, .int .i64 f.jump.y, .int .i64 f.jump.z, .slice q.ca f.cuts.length q.cc] 183)
 have hb3 := (Below.refl W.heap.size W).alloc (Nat.le_refl _) (.cells #[.int .i64 f.bars, .slice q.ra f.reps.length q.rc, .slice q.ea f.ends.length q.ec, .int .i64 f.jump.x, .int .i64 f.jump.y, .int .i64 f.jump.z, .slice q.ca f.cuts.length q.cc] 183)
 replace HX := bk HX hb3; replace HB := bu HB hb3; have HX3 := Qa hx3
 clear hb3 hc hx3
 generalize W.alloc (.cells #[.int .i64 f.bars, .slice q.ra f.reps.length q.rc, .slice q.ea f.ends.length q.ec, .int .i64 f.jump.x, .int .i64 f.jump.y, .int .i64 f.jump.z, .slice q.ca f.cuts.length q.cc] 183) = W3 at *
 generalize W.heap.size = ob at *
 have hc := Qb HX.out; have hd := Qb HX3.out
 by_cases hb1 : 1 ≤ f.bars
 case neg =>
  have hF := Qa (show Qy f = false by rw [HV.out, decide_eq_false hb1]; rfl)
  have hd1 : decide (1 ≤ f.bars) = false := decide_eq_false hb1
  clear hb1
  go_wp2
  go_ret
  exact ⟨Qf hF.out.symm, HB.out⟩
 by_cases hb2 : f.bars ≤ 4000
 case neg =>
  have hF := Qa (show Qy f = false by rw [HV.out, decide_eq_false hb2]; simp)
  go_wp2
  go_ret
  exact ⟨Qf hF.out.symm, HB.out⟩
 have hv1 : Qy f = (Ys f && JC f && Q5 f && ZZ f && Z5 f) := by rw [HV.out, decide_eq_true hb1, decide_eq_true hb2]; rfl
 have HV1 := Qa hv1
 have hb0 : 0 ≤ f.bars := by omega
 have HS1 := Qa (HS.out hb0)
 clear HS HV hv1
 generalize f.bars = n at *
 cases h1 : Ys f
 ·rw [h1] at HR HV1
  clear h1 HSh HS1
  go_wp2_with ((go_at_call 128; refine (HR.out _ HB.out).mono ?_; rintro e w6 ⟨rfl, hb⟩; clear hc hd; replace HX := bk HX hb; replace HX3 := bk HX3 hb; replace HB := bu HB hb; clear hb; have hc := Qb HX.out; have hd := Qb HX3.out))
  go_ret
  exact ⟨Qf (by rw [HV1.out]; rfl), HB.out⟩
 rw [h1] at HR HV1
 cases h2 : JC f
 ·rw [h2] at HE HV1
  clear h1 h2 HSh HS1
  go_wp2_with (first | (go_at_call 128; refine (HR.out _ HB.out).mono ?_; rintro e w6 ⟨rfl, hb⟩; clear hc hd; replace HX := bk HX hb; replace HX3 := bk HX3 hb; replace HB := bu HB hb; clear hb; have hc := Qb HX.out; have hd := Qb HX3.out) | (go_at_call 129; refine (HE.out _ HB.out).mono ?_; rintro e w6 ⟨rfl, hb⟩; clear hc hd; replace HX := bk HX hb; replace HX3 := bk HX3 hb; replace HB := bu HB hb; clear hb; have hc := Qb HX.out; have hd := Qb HX3.out))
  go_ret
  exact ⟨Qf (by rw [HV1.out]; rfl), HB.out⟩
 rw [h2] at HE HV1
 cases h3 : Q5 f
 ·rw [h3] at HJ HV1
  clear h1 h2 h3 HSh HS1
  go_wp2_with (first | (go_at_call 128; refine (HR.out _ HB.out).mono ?_; rintro e w6 ⟨rfl, hb⟩; clear hc hd; replace HX := bk HX hb; replace HX3 := bk HX3 hb; replace HB := bu HB hb; clear hb; have hc := Qb HX.out; have hd := Qb HX3.out) | (go_at_call 129; refine (HE.out _ HB.out).mono ?_; rintro e w6 ⟨rfl, hb⟩; clear hc hd; replace HX := bk HX hb; replace HX3 := bk HX3 hb; replace HB := bu HB hb; clear hb; have hc := Qb HX.out; have hd := Qb HX3.out) | (go_at_call 130; refine (HJ.out _ HB.out).mono ?_; rintro e w6 ⟨rfl, hb⟩; clear hc hd; replace HX := bk HX hb; replace HX3 := bk HX3 hb; replace HB := bu HB hb; clear hb; have hc := Qb HX.out; have hd := Qb HX3.out))
  go_ret
  exact ⟨Qf (by rw [HV1.out]; rfl), HB.out⟩
 rw [h3] at HJ HV1
 have HSs := Qa (HS1.out h1 h3)
 have hsh := HSh.out h1 h3
 rw [hsh] at HV1
 cases h4 : ZZ f
 ·rw [h4] at HC HV1
  clear h1 h2 h3 h4 HSh HS1 hsh
  go_wp2_with (first | (go_at_call 128; refine (HR.out _ HB.out).mono ?_; rintro e w6 ⟨rfl, hb⟩; clear hc hd; replace HX := bk HX hb; replace HX3 := bk HX3 hb; replace HB := bu HB hb; clear hb; have hc := Qb HX.out; have hd := Qb HX3.out) | (go_at_call 129; refine (HE.out _ HB.out).mono ?_; rintro e w6 ⟨rfl, hb⟩; clear hc hd; replace HX := bk HX hb; replace HX3 := bk HX3 hb; replace HB := bu HB hb; clear hb; have hc := Qb HX.out; have hd := Qb HX3.out) | (go_at_call 130; refine (HJ.out _ HB.out).mono ?_; rintro e w6 ⟨rfl, hb⟩; clear hc hd; replace HX := bk HX hb; replace HX3 := bk HX3 hb; replace HB := bu HB hb; clear hb; have hc := Qb HX.out; have hd := Qb HX3.out) | (go_at_call 131; refine (HC.out _ HB.out).mono ?_; rintro e w6 ⟨rfl, hb⟩; clear hc hd; replace HX := bk HX hb; replace HX3 := bk HX3 hb; replace HB := bu HB hb; clear hb; have hc := Qb HX.out; have hd := Qb HX3.out))
  go_ret
  exact ⟨Qf (by rw [HV1.out]; rfl), HB.out⟩
 rw [h4] at HC HV1
 clear h1 h2 h3 h4 HSh HS1 hsh
 go_wp2_with (first | (go_at_call 128; refine (HR.out _ HB.out).mono ?_; rintro e w6 ⟨rfl, hb⟩; clear hc hd; replace HX := bk HX hb; replace HX3 := bk HX3 hb; replace HB := bu HB hb; clear hb; have hc := Qb HX.out; have hd := Qb HX3.out) | (go_at_call 129; refine (HE.out _ HB.out).mono ?_; rintro e w6 ⟨rfl, hb⟩; clear hc hd; replace HX := bk HX hb; replace HX3 := bk HX3 hb; replace HB := bu HB hb; clear hb; have hc := Qb HX.out; have hd := Qb HX3.out) | (go_at_call 130; refine (HJ.out _ HB.out).mono ?_; rintro e w6 ⟨rfl, hb⟩; clear hc hd; replace HX := bk HX hb; replace HX3 := bk HX3 hb; replace HB := bu HB hb; clear hb; have hc := Qb HX.out; have hd := Qb HX3.out) | (go_at_call 131; refine (HC.out _ HB.out).mono ?_; rintro e w6 ⟨rfl, hb⟩; clear hc hd; replace HX := bk HX hb; replace HX3 := bk HX3 hb; replace HB := bu HB hb; clear hb; have hc := Qb HX.out; have hd := Qb HX3.out) | (go_at_call 132; refine (HSs.out _ HB.out).mono ?_; rintro e w6 ⟨rfl, hb⟩; clear hc hd; replace HX := bk HX hb; replace HX3 := bk HX3 hb; replace HB := bu HB hb; clear hb; have hc := Qb HX.out; have hd := Qb HX3.out))
 go_ret
 exact ⟨Qf (by rw [HV1.out]; rfl), HB.out⟩
theorem appEIn {F : Fence} {nF : Nat} {P : Program} {w : World} {ops : Array Oper} {rest : List Oper} {o : Oper} {a : Act} {Q : Exit → Act → World → Prop} {T E : TypeId} {sz bytes : Nat} {α : Type} {f : α → List Value} (he : Elt P T E sz bytes f)
  (hgd : o.guard = none) (s x : Operand) (ho : o.op = .call { callee := .builtin .append, args := #[s, x], argTypes := #[T, T] })
  (B : Nat) (v : Value) (l : List α) (hs : a.eval s = v) (hown : OwnR w B E sz v (l.map f))
  (ad : Addr) (m c : Nat) (news : List α) (hx : a.eval x = .slice (some ad) m c) (hm : m = news.length) (hn : news ≠ []) (hnews : SlAt w (some ad) sz (news.map f))
  (hlen : l.length + news.length ≤ 1048576) (hbase : B ≤ w.heap.size)
  (h : ∀ v' w', OwnR w' B E sz v' ((l ++ news).map f) → w.grownBy w' v.ownBlock → wpListIn F nF P ops Q rest (a.put o.dst v') w') : wpListIn F nF P ops Q (o :: rest) a w := by
 obtain ⟨z, hi, hz⟩ := he.info
 obtain ⟨i, hi, hz0, hz1, hz2⟩ := info_parts hi
 subst hm
 have hwn : ∀ r ∈ news.map f, r.length = sz := fun r hr => by obtain ⟨y, _, rfl⟩ := List.mem_map.1 hr; exact he.len y
 have hww : ∀ r ∈ (l ++ news).map f, r.length = sz := fun r hr => by obtain ⟨y, _, rfl⟩ := List.mem_map.1 hr; exact he.len y
 have hcell : ∀ j u, (news.map f).flatten[j]? = some u → w.cell? (ad.add j) = some u := by
  obtain ⟨y, l', rfl⟩ := List.exists_cons_of_ne_nil hn
  obtain ⟨b, off, e, _⟩ := hnews 0 (f y) rfl
  cases e
  exact hnews.flat
 have hown' := hown.own
 rw [List.length_map] at hown'
 exact wpListIn_append_own w hgd s x T ho B E i z sz bytes he.ty hi hz0 hz1 hz2 hz he.pos v l.length (l.map f).flatten hs hown' ad news.length c (news.map f).flatten hx (by rw [JA _ sz hwn, List.length_map]) hcell
  (Z1 fun r hr u hu => by obtain ⟨y, _, rfl⟩ := List.mem_map.1 hr; exact he.one y u hu) (by unfold maxLen; omega) (Nat.le_trans (Nat.mul_le_mul hlen he.small) (by decide)) hbase
  fun v' w' ho' hg _ => h v' w' ⟨hww, by rw [List.length_map, List.length_append, List.map_append, List.flatten_append]; exact ho'⟩ hg
theorem SlAt.keptRow {A B : World} {row : Option Nat} {a : Option Addr} {sz : Nat} {rows : List (List Value)} (h : SlAt A a sz rows) (hg : A.grownBy B row) (hr : ∀ r, row = some r → ∃ o : Obj, A.heap[r]? = some o ∧ o.isCells = false) : SlAt B a sz rows := fun i r hi => by
 obtain ⟨b, off, e, h1, h2, h3⟩ := h i r hi
 exact ⟨b, off, e, Nat.lt_of_lt_of_le h1 hg.size, h2, fun j u hu => cell_kept (h3 j u hu) hg hr⟩
theorem ZW {A B : World} {row : Option Nat} {b n0 : Nat} {o : Obj} (h : A.heap[b]? = some o) (hg : A.grownBy B row) (hr : ∀ r, row = some r → n0 ≤ r ∧ ∃ o : Obj, A.heap[r]? = some o ∧ o.isCells = false) (hb : b < n0) : B.heap[b]? = some o :=
 (hg.block b (Qd h) (fun e => by have := (hr b e.symm).1; omega)).trans h
theorem SlAt.setOther {W : World} {a : Option Addr} {sz : Nat} {rows : List (List Value)} {b k : Nat} (h : SlAt W a sz rows) (hne : ∀ ad, a = some ad → rows ≠ [] → ad.block ≠ b) (v : Value) : SlAt (W.setCell ⟨b, k, none⟩ v) a sz rows := fun i r hi => by
 obtain ⟨b1, off, e, h1, h2, h3⟩ := h i r hi
 have hn := hne _ e (fun e' => by subst e'; simp at hi)
 exact ⟨b1, off, e, by simpa using h1, h2, fun j u hu => (World.cell?_setCell_other _ _ _ _ (fun e => hn (by cases e; rfl))).trans (h3 j u hu)⟩
theorem OwnR.neBlk {w : World} {B k : Nat} {E : TypeId} {sz : Nat} {v : Value} {rows : List (List Value)} (o : OwnR w B E sz v rows) (h : k < B) : some k ≠ v.ownBlock := fun e => by have := (o.lt k e.symm).1; omega
theorem OwnR.isCells {w : World} {B k : Nat} {E : TypeId} {sz : Nat} {v : Value} {rows : List (List Value)} (o : OwnR w B E sz v rows) (h : v.ownBlock = some k) : ∃ cur, w.heap[k]? = some (.cells cur E (0, 0)) := by
 obtain ⟨_, _, ⟨rfl, _⟩ | ⟨g, cap, cur, rfl, _, hc, _⟩⟩ := o
 ·cases h
 ·cases h; exact ⟨cur, hc⟩
theorem OwnR.setOther {w : World} {B b : Nat} {E : TypeId} {sz : Nat} {v : Value} {rows : List (List Value)} (o : OwnR w B E sz v rows) (h : b < B) (x : Value) : OwnR (w.setCell ⟨b, 0, none⟩ x) B E sz v rows := by
 refine o.kept (grownBy_setCell' _ _ _) ?_
 cases hv : v.ownBlock with
 | none => exact .inl rfl
 | some j => exact .inr (fun e => by have := (o.lt j hv).1; cases e; omega)
theorem Qg {w : World} (o : Obj) : Below w.heap.size w (w.alloc o) := (Below.refl _ _).alloc (Nat.le_refl _) o
theorem OwnR.keptC {X Y : World} {Fr : Nat → TypeId → Prop} {B : Nat} {E : TypeId} {sz : Nat} {v : Value} {rows : List (List Value)} (h : OwnR X B E sz v rows) (k : KeptC Fr X Y) (hF : ∀ b, B ≤ b → Fr b E) : OwnR Y B E sz v rows := by
 obtain ⟨h0, h1, h2⟩ := h
 refine ⟨h0, h1, ?_⟩
 rcases h2 with h2 | ⟨g, cap, cur, e, hg, hc, h3⟩
 ·exact .inl h2
 ·exact .inr ⟨g, cap, cur, e, hg, k.cells g cur E _ (hF g hg) hc, h3⟩
def viRow (v : Int × Int) : List Value := [.int .i64 v.1, .int .i64 v.2]
def ViAt (w : World) (a : Option Addr) (l : List (Int × Int)) : Prop := SlAt w a 2 (l.map viRow)
theorem eltVi : Elt Tryz.prog 126 130 2 16 viRow := ⟨Tryz.underlying126, ⟨.agg #[.int .i64 0, .int .i64 0], by kernel_rfl, rfl⟩, by decide, by decide, fun _ => rfl, fun x u hu => by simp [viRow] at hu; rcases hu with rfl | rfl <;> rfl⟩
theorem UJ (T E : TypeId) (hT : Tryz.prog.underlying T = some (.slice E)) (hi : ∃ z, (Tryz.prog.info? E).map (fun i => (i.zero, i.size, i.bytes)) = some (some z, 3, 24) ∧ z.cells.size = 3) : Elt Tryz.prog T E 3 24 R3.cells := ⟨hT, hi, by decide, by decide, fun _ => rfl, fun x u hu => by simp [R3.cells] at hu; rcases hu with rfl | rfl | rfl <;> rfl⟩
end Go.Proofs.YtajijcfikihhjaaGreatDoor
