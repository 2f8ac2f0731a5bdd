import Derived.Test.YtajijcfikihhjaaGreatDoorAAV
import Derived.ProofKit
import Derived.Deep.Fields
set_option linter.unusedSimpArgs false
set_option linter.unusedVariables false
set_option maxRecDepth 100000
set_option maxHeartbeats 16000000
namespace Go.Proofs.YtajijcfikihhjaaGreatDoor
open Go.RowKit Go.Sort Go.Shelf
attribute [local go_sem] Oper.semAt_some
theorem Up (l : List (Lg × Lq)) (h1 : l.length ≤ 200) (h2 : ∀ x ∈ l, x.1.es.length ≤ 1 ∧ (∀ e ∈ x.1.es, e.wide) ∧ SlOk x.2.a x.1.es.length x.2.c) : LgFew l := ⟨h1, fun x hx => by have := (h2 x hx).1; omega, fun x hx => (h2 x hx).2.1, fun x hx => (h2 x hx).2.2⟩
theorem ex_few (b : Nat) : LbFew (exL b) := ⟨by show 1 ≤ 1000; omega, fun y hy => by rw [show y = (exW, exWp b) by simpa [exL] using hy]; exact ⟨by show (1 : Int) ≤ 1000; omega, by show 0 ≤ 1000; omega, by show 0 ≤ 1000; omega, by show 0 ≤ 1000; omega⟩, by show 0 ≤ 1000; omega, by show 1 ≤ 1000; omega, by show 1 ≤ 1000; omega⟩
theorem UK (b : Nat) (P : Lbp) (l : List (Lg × Lq)) (a : Option Addr) (w : World) (vs : List Vd) (er : Int) (n : Nat) (hr : QN (exL b) [] (Qp l) = (vs, er)) (hn : l.length = n) (hE : EnvP w) (hL : LbAt w (exL b) P) (hlf : LgFew l) (hk : SlOk a n n) (hs : SlAt w a 3 (l.map lgRow)) (he : ∀ x ∈ l, EnAt w x.2.a x.1.es) :
  Calls Tryz.prog 11 #[.agg #[.slice P.wa 1 P.wc, .slice P.ea 0 P.ec, .slice P.sa 1 P.sc, .slice P.la 1 P.lc], .slice none 0 0, .slice a n n] w (RetSlI 3 (vs.map vdRow) er w) := by
 subst hn
 have h := QY (exL b) P [] none 0 l a l.length w (ex_few b) (fun x hx => by rw [show x = (exW, exWp b) by simpa [exL] using hx]; show 1 ≤ 1000; omega) (by simp) hlf hE hL (SlAt.nil _ _ _) hk ⟨hs, he⟩
 rw [hr] at h
 exact h
theorem staEx (b : Nat) (P : Lbp) (l : List (Lg × Lq)) (a : Option Addr) (w : World) (vs : List Vd) (er : Int) (n : Nat) (hr : QN (exL b) [] (Qp l) = (vs, er)) (hn : l.length = n) (hE : EnvP w) (hL : LbAt w (exL b) P) (hlf : LgFew l) (hk : SlOk a n n) (hs : SlAt w a 3 (l.map lgRow)) (he : ∀ x ∈ l, EnAt w x.2.a x.1.es) :
  Calls Tryz.prog 14 #[.agg #[.slice P.wa 1 P.wc, .slice P.ea 0 P.ec, .slice P.sa 1 P.sc, .slice P.la 1 P.lc], .slice none 0 0, .slice a n n] w (RetSlI 1 ((Lib.compact (vs.map Vd.st)).map inRow) er w) := by
 subst hn
 have h := PStands39_any (exL b) P [] none 0 l a l.length w (ex_few b) (fun x hx => by rw [show x = (exW, exWp b) by simpa [exL] using hx]; show 1 ≤ 1000; omega) (by simp) hlf hE hL (SlAt.nil _ _ _) hk ⟨hs, he⟩
 unfold JT at h
 rw [hr] at h
 exact h
attribute [local irreducible] Qr
theorem Jf (b n : Nat) : 0 < n → SlOk (some ⟨b, 0, none⟩) n n := fun _ => ⟨Nat.le_refl _, (fun e => by cases e), (fun ad e _ => by cases e; rfl)⟩
theorem aud1 (b : Nat) (P : Lbp) {st : Int} {e : En} {a1 : Option Addr} {c1 : Nat} {V : World} {vs : List Vd} {er : Int} (hr : QN (exL b) [] [mkLg st [e]] = (vs, er)) (hE : EnvP (V.alloc (.cells #[.int .i64 st, .slice a1 1 c1, .int .u64 (Qr st [e])] 44))) (hL : LbAt (V.alloc (.cells #[.int .i64 st, .slice a1 1 c1, .int .u64 (Qr st [e])] 44)) (exL b) P) (w1 : e.wide) (k1 : SlOk a1 1 c1) (e1 : EnAt V a1 [e]) :
  Calls Tryz.prog 11 #[.agg #[.slice P.wa 1 P.wc, .slice P.ea 0 P.ec, .slice P.sa 1 P.sc, .slice P.la 1 P.lc], .slice none 0 0, .slice (some ⟨V.heap.size, 0, none⟩) 1 1] (V.alloc (.cells #[.int .i64 st, .slice a1 1 c1, .int .u64 (Qr st [e])] 44)) (RetSlI 3 (vs.map vdRow) er (V.alloc (.cells #[.int .i64 st, .slice a1 1 c1, .int .u64 (Qr st [e])] 44))) :=
 UK b P [(mkLg st [e], ⟨a1, c1⟩)] _ _ vs er 1 hr rfl hE hL (Up _ (by simp) (by simpa [mkLg] using ⟨w1, k1⟩)) (Jf _ _ (by omega)) (SlAt.new V _ 44 3 _ (by simp [lgRow]) (by simp [lgRow, mkLg])) (by simpa [mkLg] using e1.below (Qg _))
theorem aud2 (b : Nat) (P : Lbp) {st st2 : Int} {e g : En} {a1 a2 : Option Addr} {c1 c2 : Nat} {V : World} {vs : List Vd} {er : Int} (hr : QN (exL b) [] [mkLg st [e], mkLg st2 [g]] = (vs, er)) (hE : EnvP (V.alloc (.cells #[.int .i64 st, .slice a1 1 c1, .int .u64 (Qr st [e]), .int .i64 st2, .slice a2 1 c2, .int .u64 (Qr st2 [g])] 44))) (hL : LbAt (V.alloc (.cells #[.int .i64 st, .slice a1 1 c1, .int .u64 (Qr st [e]), .int .i64 st2, .slice a2 1 c2, .int .u64 (Qr st2 [g])] 44)) (exL b) P) (w1 : e.wide) (w2 : g.wide) (k1 : SlOk a1 1 c1) (k2 : SlOk a2 1 c2) (e1 : EnAt V a1 [e]) (e2 : EnAt V a2 [g]) :
  Calls Tryz.prog 11 #[.agg #[.slice P.wa 1 P.wc, .slice P.ea 0 P.ec, .slice P.sa 1 P.sc, .slice P.la 1 P.lc], .slice none 0 0, .slice (some ⟨V.heap.size, 0, none⟩) 2 2] (V.alloc (.cells #[.int .i64 st, .slice a1 1 c1, .int .u64 (Qr st [e]), .int .i64 st2, .slice a2 1 c2, .int .u64 (Qr st2 [g])] 44)) (RetSlI 3 (vs.map vdRow) er (V.alloc (.cells #[.int .i64 st, .slice a1 1 c1, .int .u64 (Qr st [e]), .int .i64 st2, .slice a2 1 c2, .int .u64 (Qr st2 [g])] 44))) :=
 UK b P [(mkLg st [e], ⟨a1, c1⟩), (mkLg st2 [g], ⟨a2, c2⟩)] _ _ vs er 2 hr rfl hE hL (Up _ (by simp) (by simpa [mkLg] using ⟨⟨w1, k1⟩, w2, k2⟩)) (Jf _ _ (by omega)) (SlAt.new V _ 44 3 _ (by simp [lgRow]) (by simp [lgRow, mkLg])) (by simpa [mkLg] using ⟨e1.below (Qg _), e2.below (Qg _)⟩)
theorem sta2 (b : Nat) (P : Lbp) {st st2 : Int} {e g : En} {a1 a2 : Option Addr} {c1 c2 : Nat} {V : World} {vs : List Vd} {er : Int} (hr : QN (exL b) [] [mkLg st [e], mkLg st2 [g]] = (vs, er)) (hE : EnvP (V.alloc (.cells #[.int .i64 st, .slice a1 1 c1, .int .u64 (Qr st [e]), .int .i64 st2, .slice a2 1 c2, .int .u64 (Qr st2 [g])] 44))) (hL : LbAt (V.alloc (.cells #[.int .i64 st, .slice a1 1 c1, .int .u64 (Qr st [e]), .int .i64 st2, .slice a2 1 c2, .int .u64 (Qr st2 [g])] 44)) (exL b) P) (w1 : e.wide) (w2 : g.wide) (k1 : SlOk a1 1 c1) (k2 : SlOk a2 1 c2) (e1 : EnAt V a1 [e]) (e2 : EnAt V a2 [g]) :
  Calls Tryz.prog 14 #[.agg #[.slice P.wa 1 P.wc, .slice P.ea 0 P.ec, .slice P.sa 1 P.sc, .slice P.la 1 P.lc], .slice none 0 0, .slice (some ⟨V.heap.size, 0, none⟩) 2 2] (V.alloc (.cells #[.int .i64 st, .slice a1 1 c1, .int .u64 (Qr st [e]), .int .i64 st2, .slice a2 1 c2, .int .u64 (Qr st2 [g])] 44)) (RetSlI 1 ((Lib.compact (vs.map Vd.st)).map inRow) er (V.alloc (.cells #[.int .i64 st, .slice a1 1 c1, .int .u64 (Qr st [e]), .int .i64 st2, .slice a2 1 c2, .int .u64 (Qr st2 [g])] 44))) :=
 staEx b P [(mkLg st [e], ⟨a1, c1⟩), (mkLg st2 [g], ⟨a2, c2⟩)] _ _ vs er 2 hr rfl hE hL (Up _ (by simp) (by simpa [mkLg] using ⟨⟨w1, k1⟩, w2, k2⟩)) (Jf _ _ (by omega)) (SlAt.new V _ 44 3 _ (by simp [lgRow]) (by simp [lgRow, mkLg])) (by simpa [mkLg] using ⟨e1.below (Qg _), e2.below (Qg _)⟩)
theorem aud3 (b : Nat) (P : Lbp) {st st2 st3 : Int} {e g h : En} {a1 a2 a3 : Option Addr} {c1 c2 c3 : Nat} {V : World} {vs : List Vd} {er : Int} (hr : QN (exL b) [] [mkLg st [e], mkLg st2 [g], mkLg st3 [h]] = (vs, er)) (hE : EnvP (V.alloc (.cells #[.int .i64 st, .slice a1 1 c1, .int .u64 (Qr st [e]), .int .i64 st2, .slice a2 1 c2, .int .u64 (Qr st2 [g]), .int .i64 st3, .slice a3 1 c3, .int .u64 (Qr st3 [h])] 44))) (hL : LbAt (V.alloc (.cells #[.int .i64 st, .slice a1 1 c1, .int .u64 (Qr st [e]), .int .i64 st2, .slice a2 1 c2, .int .u64 (Qr st2 [g]), .int .i64 st3, .slice a3 1 c3, .int .u64 (Qr st3 [h])] 44)) (exL b) P) (w1 : e.wide) (w2 : g.wide) (w3 : h.wide) (k1 : SlOk a1 1 c1) (k2 : SlOk a2 1 c2) (k3 : SlOk a3 1 c3) (e1 : EnAt V a1 [e]) (e2 : EnAt V a2 [g]) (e3 : EnAt V a3 [h]) :
  Calls Tryz.prog 11 #[.agg #[.slice P.wa 1 P.wc, .slice P.ea 0 P.ec, .slice P.sa 1 P.sc, .slice P.la 1 P.lc], .slice none 0 0, .slice (some ⟨V.heap.size, 0, none⟩) 3 3] (V.alloc (.cells #[.int .i64 st, .slice a1 1 c1, .int .u64 (Qr st [e]), .int .i64 st2, .slice a2 1 c2, .int .u64 (Qr st2 [g]), .int .i64 st3, .slice a3 1 c3, .int .u64 (Qr st3 [h])] 44)) (RetSlI 3 (vs.map vdRow) er (V.alloc (.cells #[.int .i64 st, .slice a1 1 c1, .int .u64 (Qr st [e]), .int .i64 st2, .slice a2 1 c2, .int .u64 (Qr st2 [g]), .int .i64 st3, .slice a3 1 c3, .int .u64 (Qr st3 [h])] 44))) :=
 UK b P [(mkLg st [e], ⟨a1, c1⟩), (mkLg st2 [g], ⟨a2, c2⟩), (mkLg st3 [h], ⟨a3, c3⟩)] _ _ vs er 3 hr rfl hE hL (Up _ (by simp) (by simpa [mkLg] using ⟨⟨w1, k1⟩, ⟨w2, k2⟩, w3, k3⟩)) (Jf _ _ (by omega)) (SlAt.new V _ 44 3 _ (by simp [lgRow]) (by simp [lgRow, mkLg])) (by simpa [mkLg] using ⟨e1.below (Qg _), e2.below (Qg _), e3.below (Qg _)⟩)
theorem J2 (vs : List Vd) (a : Option Addr) (n c : Nat) (V : World) (cs : List Value) (hn : vs.length = n) (hm : n ≤ 1000) (hcs : (vs.map vdRow).flatten = cs) (h : VdAt V a vs) :
  Calls Tryz.prog 13 #[.slice a n c, .slice (some ⟨V.heap.size, 0, none⟩) n n] (V.alloc (.cells cs.toArray 46)) fun e w' => e = .returned (.bool true) ∧ Below V.heap.size V w' := by
 subst hn
 refine (Same39_any a (some ⟨V.heap.size, 0, none⟩) vs.length vs.length c vs.length vs vs _ rfl rfl (by omega) (by omega) (h.below (Qg _)) (SlAt.new V cs 46 3 _ (by simp [vdRow]) hcs)).mono ?_
 rintro e w' ⟨rfl, hb⟩
 exact ⟨by simp, ZX hb⟩
theorem same_newI (l : List Int) (a : Option Addr) (n c : Nat) (V : World) (cs : List Value) (hn : l.length = n) (hm : n ≤ 1000) (hcs : (l.map inRow).flatten = cs) (h : InAt V a l) :
  Calls Tryz.prog 16 #[.slice a n c, .slice (some ⟨V.heap.size, 0, none⟩) n n] (V.alloc (.cells cs.toArray 3)) fun e w' => e = .returned (.bool true) ∧ Below V.heap.size V w' := by
 subst hn
 refine (SameInts39_any a (some ⟨V.heap.size, 0, none⟩) l.length l.length c l.length l l _ rfl rfl (by omega) (by omega) (SlAt.below h (Qg _)) (SlAt.new V cs 3 1 _ (by simp [inRow]) hcs)).mono ?_
 rintro e w' ⟨rfl, hb⟩
 exact ⟨by simp, ZX hb⟩
theorem head39_any (w : World) (hE : EnvP w) : Calls Tryz.prog 9 #[] w fun e w' => e = .returned (.bool true) ∧ Below w.heap.size w w' := by
 have HE := Qa hE
 clear hE
 go_enter Tryz.func9, Tryz.ntmps9
 go_upto_region 2 with (go_at_call 25; refine (ex39_any _).mono ?_; rintro e w1 ⟨b, P, rfl, hL, hb⟩; have HL1 := Qa hL; have HBw := Qa hb; clear hL hb)
 have HX := Qa (heap_alloc_new w1 (.cells #[.slice P.wa 1 P.wc, .slice P.ea 0 P.ec, .slice P.sa 1 P.sc, .slice P.la 1 P.lc] 27))
 have hb1 := Qg (w := w1) (.cells #[.slice P.wa 1 P.wc, .slice P.ea 0 P.ec, .slice P.sa 1 P.sc, .slice P.la 1 P.lc] 27)
 have HE1 := Qa (HE.out.below (HBw.out.trans (hb1.mono HBw.out.size)))
 have HB1 := Qa hb1
 have HL := Qa (HL1.out.below hb1)
 clear hb1 HE HL1
 show Code.wp _ _ _ _ (w1.alloc (.cells #[.slice P.wa 1 P.wc, .slice P.ea 0 P.ec, .slice P.sa 1 P.sc, .slice P.la 1 P.lc] 27))
 generalize w1.alloc (.cells #[.slice P.wa 1 P.wc, .slice P.ea 0 P.ec, .slice P.sa 1 P.sc, .slice P.la 1 P.lc] 27) = W1 at *
 have hc : ∀ j, W1.cell? ⟨w1.heap.size, j, none⟩ = (#[.slice P.wa 1 P.wc, .slice P.ea 0 P.ec, .slice P.sa 1 P.sc, .slice P.la 1 P.lc] : Array Value)[j]? := Qb HX.out
 have HSh := Qa (fun dg V => sheet39_any dg V)
 have L25 := Qa (fun V (hV : Below W1.heap.size W1 V) => show Calls Tryz.prog 26 #[.int .i64 2, .agg #[.int .i64 ((shE 5)).time, .int .i64 ((shE 5)).kind, .int .i64 ((shE 5)).a, .int .i64 ((shE 5)).b, .int .i64 ((shE 5)).c, .int .u64 ((shE 5)).dg]] V (JE (mkLg 2 [shE 5]) V) from ZR 2 (shE 5) V (HE1.out.below hV) (by decide) (by decide) ⟨by decide, by decide⟩)
 have L26 := Qa (fun V (hV : Below W1.heap.size W1 V) => show Calls Tryz.prog 26 #[.int .i64 2, .agg #[.int .i64 ((shE 6)).time, .int .i64 ((shE 6)).kind, .int .i64 ((shE 6)).a, .int .i64 ((shE 6)).b, .int .i64 ((shE 6)).c, .int .u64 ((shE 6)).dg]] V (JE (mkLg 2 [shE 6]) V) from ZR 2 (shE 6) V (HE1.out.below hV) (by decide) (by decide) ⟨by decide, by decide⟩)
 have L35 := Qa (fun V (hV : Below W1.heap.size W1 V) => show Calls Tryz.prog 26 #[.int .i64 3, .agg #[.int .i64 ((shE 5)).time, .int .i64 ((shE 5)).kind, .int .i64 ((shE 5)).a, .int .i64 ((shE 5)).b, .int .i64 ((shE 5)).c, .int .u64 ((shE 5)).dg]] V (JE (mkLg 3 [shE 5]) V) from ZR 3 (shE 5) V (HE1.out.below hV) (by decide) (by decide) ⟨by decide, by decide⟩)
 have L1S := Qa (fun V (hV : Below W1.heap.size W1 V) => show Calls Tryz.prog 26 #[.int .i64 1, .agg #[.int .i64 1, .int .i64 1, .int .i64 1, .int .i64 1, .int .i64 0, .int .u64 0]] V (JE (mkLg 1 [shoE]) V) from ZR 1 (shoE) V (HE1.out.below hV) (by decide) (by decide) ⟨by decide, by decide⟩)
 have L2C := Qa (fun V (hV : Below W1.heap.size W1 V) => show Calls Tryz.prog 26 #[.int .i64 2, .agg #[.int .i64 1, .int .i64 5, .int .i64 4, .int .i64 1, .int .i64 1, .int .u64 0]] V (JE (mkLg 2 [caE 1]) V) from ZR 2 (caE 1) V (HE1.out.below hV) (by decide) (by decide) ⟨by decide, by decide⟩)
 have L3C := Qa (fun V (hV : Below W1.heap.size W1 V) => show Calls Tryz.prog 26 #[.int .i64 3, .agg #[.int .i64 1, .int .i64 5, .int .i64 4, .int .i64 2, .int .i64 1, .int .u64 0]] V (JE (mkLg 3 [caE 2]) V) from ZR 3 (caE 2) V (HE1.out.below hV) (by decide) (by decide) ⟨by decide, by decide⟩)
 have L4K := Qa (fun V (hV : Below W1.heap.size W1 V) => show Calls Tryz.prog 26 #[.int .i64 4, .agg #[.int .i64 1, .int .i64 3, .int .i64 1, .int .i64 0, .int .i64 0, .int .u64 0]] V (JE (mkLg 4 [knE]) V) from ZR 4 (knE) V (HE1.out.below hV) (by decide) (by decide) ⟨by decide, by decide⟩)
 have HLV := Qa (fun V (hV : Below W1.heap.size W1 V) => And.intro (HE1.out.below hV) (HL.out.below hV))
 have KS := Qa (fun W (hb : RowKit.Below W1.heap.size W1 W) => show W.cell? ⟨w1.heap.size, 0, none⟩ = some (.slice P.wa 1 P.wc) ∧ W.cell? ⟨w1.heap.size, 1, none⟩ = some (.slice P.ea 0 P.ec) ∧ W.cell? ⟨w1.heap.size, 2, none⟩ = some (.slice P.sa 1 P.sc) ∧ W.cell? ⟨w1.heap.size, 3, none⟩ = some (.slice P.la 1 P.lc) from ⟨Qq (v := .slice P.wa 1 P.wc) (hc 0) hb, Qq (v := .slice P.ea 0 P.ec) (hc 1) hb, Qq (v := .slice P.sa 1 P.sc) (hc 2) hb, Qq (v := .slice P.la 1 P.lc) (hc 3) hb⟩)
 have HB2 := Qa (RowKit.Below.refl W1.heap.size W1)
 clear hc
 go_cut [2, 3] (fun s2 s3 V => ∃ a c, s2 = .slice a 0 c ∧ s3 = .int .i64 0 ∧ Below W1.heap.size W1 V)
 case first =>
  have HBr := HB2; have HBs := Qa (RowKit.Below.refl W1.heap.size W1)
  go_region_held3 (fun W => W.cell? ⟨w1.heap.size, 0, none⟩ = some (.slice P.wa 1 P.wc) ∧ W.cell? ⟨w1.heap.size, 1, none⟩ = some (.slice P.ea 0 P.ec) ∧ W.cell? ⟨w1.heap.size, 2, none⟩ = some (.slice P.sa 1 P.sc) ∧ W.cell? ⟨w1.heap.size, 3, none⟩ = some (.slice P.la 1 P.lc))
   ((refine KS.out _ ?_; (repeat (first | exact HBr.out | with_reducible exact RowKit.Below.refl _ _ | with_reducible refine RowKit.Below.drew ?_ | with_reducible refine RowKit.Below.alloc ?_ (by first | (simp <;> omega) | (have := HBr.out.size; simp <;> omega)) _ | with_reducible refine RowKit.Below.setCell ?_ (by first | (simp <;> omega) | (have := HBr.out.size; simp <;> omega)) _))))
   (first | (go_at_call 27; refine (HSh.out _ _).mono ?_; rintro e w5 ⟨rfl, hb⟩; (try replace hb := Q3 hb); replace HBr := bu HBr hb; replace HBs := bu HBs hb; (try replace HN1 := Qa (EnAt.below HN1.out hb)); (try replace HN2 := Qa (EnAt.below HN2.out hb)); (try replace HN3 := Qa (EnAt.below HN3.out hb)); clear hb) | (go_at_call 26; (with_reducible refine (L25.out _ (by (repeat (first | exact HBr.out | with_reducible exact RowKit.Below.refl _ _ | with_reducible refine RowKit.Below.drew ?_ | with_reducible refine RowKit.Below.alloc ?_ (by first | (simp <;> omega) | (have := HBr.out.size; simp <;> omega)) _ | with_reducible refine RowKit.Below.setCell ?_ (by first | (simp <;> omega) | (have := HBr.out.size; simp <;> omega)) _)))).mono ?_); rintro e w5 ⟨a1, c1, rfl, hk, he, hb⟩; (try replace hb := Q3 hb); replace HBr := bu HBr hb; replace HBs := bu HBs hb; (try replace HN1 := Qa (EnAt.below HN1.out hb)); (try replace HN2 := Qa (EnAt.below HN2.out hb)); (try replace HN3 := Qa (EnAt.below HN3.out hb)); clear hb; have HK1 := Qa hk; have HN1 := Qa he; clear hk he) | (go_at_call 11; go_must (refine (aud1 b P (ex_a b) (HLV.out _ (by (repeat (first | exact HBr.out | with_reducible exact RowKit.Below.refl _ _ | with_reducible refine RowKit.Below.drew ?_ | with_reducible refine RowKit.Below.alloc ?_ (by first | (simp <;> omega) | (have := HBr.out.size; simp <;> omega)) _ | with_reducible refine RowKit.Below.setCell ?_ (by first | (simp <;> omega) | (have := HBr.out.size; simp <;> omega)) _)))).1 (HLV.out _ (by (repeat (first | exact HBr.out | with_reducible exact RowKit.Below.refl _ _ | with_reducible refine RowKit.Below.drew ?_ | with_reducible refine RowKit.Below.alloc ?_ (by first | (simp <;> omega) | (have := HBr.out.size; simp <;> omega)) _ | with_reducible refine RowKit.Below.setCell ?_ (by first | (simp <;> omega) | (have := HBr.out.size; simp <;> omega)) _)))).2 ⟨by decide, by decide⟩ HK1.out HN1.out).mono ?_); rintro e w6 ⟨a6, c6, rfl, hk, hs, hb⟩; (try replace hb := Q3 hb); replace hb := ZX hb; (try replace hb := Q3 hb); replace HBr := bu HBr hb; replace HBs := bu HBs hb; have HS6 := Qa hs; clear hb hk hs))
  all_goals (go_wp2; go_meet; case rel => exact ⟨_, _, rfl, rfl, HBr.out⟩)
 case rest =>
 obtain ⟨ra, ca, rfl, rfl, hb⟩ := hcut
 have HB3 := Qa hb
 clear hb HB2
 generalize wc = W2 at *
 go_upto_region 3 with (fail)
 go_cut [4, 5] (fun s2 s3 V => ∃ a c, s2 = .slice a 1 c ∧ s3 = .int .i64 0 ∧ VdAt V a [⟨2, 2, 0⟩] ∧ Below W1.heap.size W1 V)
 case first =>
  have HBr := HB3; have HBs := Qa (RowKit.Below.refl W2.heap.size W2)
  go_region_held3 (fun W => W.cell? ⟨w1.heap.size, 0, none⟩ = some (.slice P.wa 1 P.wc) ∧ W.cell? ⟨w1.heap.size, 1, none⟩ = some (.slice P.ea 0 P.ec) ∧ W.cell? ⟨w1.heap.size, 2, none⟩ = some (.slice P.sa 1 P.sc) ∧ W.cell? ⟨w1.heap.size, 3, none⟩ = some (.slice P.la 1 P.lc))
   ((refine KS.out _ ?_; (repeat (first | exact HBr.out | with_reducible exact RowKit.Below.refl _ _ | with_reducible refine RowKit.Below.drew ?_ | with_reducible refine RowKit.Below.alloc ?_ (by first | (simp <;> omega) | (have := HBr.out.size; simp <;> omega)) _ | with_reducible refine RowKit.Below.setCell ?_ (by first | (simp <;> omega) | (have := HBr.out.size; simp <;> omega)) _))))
   (first | (go_at_call 27; refine (HSh.out _ _).mono ?_; rintro e w5 ⟨rfl, hb⟩; (try replace hb := Q3 hb); replace HBr := bu HBr hb; replace HBs := bu HBs hb; (try replace HN1 := Qa (EnAt.below HN1.out hb)); (try replace HN2 := Qa (EnAt.below HN2.out hb)); (try replace HN3 := Qa (EnAt.below HN3.out hb)); clear hb) | (go_at_call 26; (with_reducible refine (L26.out _ (by (repeat (first | exact HBr.out | with_reducible exact RowKit.Below.refl _ _ | with_reducible refine RowKit.Below.drew ?_ | with_reducible refine RowKit.Below.alloc ?_ (by first | (simp <;> omega) | (have := HBr.out.size; simp <;> omega)) _ | with_reducible refine RowKit.Below.setCell ?_ (by first | (simp <;> omega) | (have := HBr.out.size; simp <;> omega)) _)))).mono ?_); rintro e w5 ⟨a1, c1, rfl, hk, he, hb⟩; (try replace hb := Q3 hb); replace HBr := bu HBr hb; replace HBs := bu HBs hb; (try replace HN1 := Qa (EnAt.below HN1.out hb)); (try replace HN2 := Qa (EnAt.below HN2.out hb)); (try replace HN3 := Qa (EnAt.below HN3.out hb)); clear hb; have HK1 := Qa hk; have HN1 := Qa he; clear hk he) | (go_at_call 11; go_must (refine (aud1 b P (ex_b b) (HLV.out _ (by (repeat (first | exact HBr.out | with_reducible exact RowKit.Below.refl _ _ | with_reducible refine RowKit.Below.drew ?_ | with_reducible refine RowKit.Below.alloc ?_ (by first | (simp <;> omega) | (have := HBr.out.size; simp <;> omega)) _ | with_reducible refine RowKit.Below.setCell ?_ (by first | (simp <;> omega) | (have := HBr.out.size; simp <;> omega)) _)))).1 (HLV.out _ (by (repeat (first | exact HBr.out | with_reducible exact RowKit.Below.refl _ _ | with_reducible refine RowKit.Below.drew ?_ | with_reducible refine RowKit.Below.alloc ?_ (by first | (simp <;> omega) | (have := HBr.out.size; simp <;> omega)) _ | with_reducible refine RowKit.Below.setCell ?_ (by first | (simp <;> omega) | (have := HBr.out.size; simp <;> omega)) _)))).2 ⟨by decide, by decide⟩ HK1.out HN1.out).mono ?_); rintro e w6 ⟨a6, c6, rfl, hk, hs, hb⟩; (try replace hb := Q3 hb); replace hb := ZX hb; (try replace hb := Q3 hb); replace HBr := bu HBr hb; replace HBs := bu HBs hb; have HS6 := Qa hs; clear hb hk hs))
  all_goals (go_wp2; go_meet; case rel => exact ⟨_, _, rfl, rfl, HS6.out, HBr.out⟩)
 case rest =>
 obtain ⟨rb, cb, rfl, rfl, hs, hb⟩ := hcut
 have HB4 := Qa hb; have HSb := Qa hs
 clear hb hs HB3
 generalize wc = W3 at *
 go_upto_region 4 with (fail)
 go_cut [6, 7] (fun s2 s3 V => ∃ a c, s2 = .slice a 2 c ∧ s3 = .int .i64 0 ∧ VdAt V a [⟨1, 1, 0⟩, ⟨3, 3, 0⟩] ∧ Below W1.heap.size W1 V ∧ Below W3.heap.size W3 V)
 case first =>
  have HBr := HB4; have HBs := Qa (RowKit.Below.refl W3.heap.size W3)
  go_region_held3 (fun W => W.cell? ⟨w1.heap.size, 0, none⟩ = some (.slice P.wa 1 P.wc) ∧ W.cell? ⟨w1.heap.size, 1, none⟩ = some (.slice P.ea 0 P.ec) ∧ W.cell? ⟨w1.heap.size, 2, none⟩ = some (.slice P.sa 1 P.sc) ∧ W.cell? ⟨w1.heap.size, 3, none⟩ = some (.slice P.la 1 P.lc))
   ((refine KS.out _ ?_; (repeat (first | exact HBr.out | with_reducible exact RowKit.Below.refl _ _ | with_reducible refine RowKit.Below.drew ?_ | with_reducible refine RowKit.Below.alloc ?_ (by first | (simp <;> omega) | (have := HBr.out.size; simp <;> omega)) _ | with_reducible refine RowKit.Below.setCell ?_ (by first | (simp <;> omega) | (have := HBr.out.size; simp <;> omega)) _))))
   (first | (go_at_call 27; refine (HSh.out _ _).mono ?_; rintro e w5 ⟨rfl, hb⟩; (try replace hb := Q3 hb); replace HBr := bu HBr hb; replace HBs := bu HBs hb; (try replace HN1 := Qa (EnAt.below HN1.out hb)); (try replace HN2 := Qa (EnAt.below HN2.out hb)); (try replace HN3 := Qa (EnAt.below HN3.out hb)); clear hb) | (go_at_call 26; (with_reducible refine (L35.out _ (by (repeat (first | exact HBr.out | with_reducible exact RowKit.Below.refl _ _ | with_reducible refine RowKit.Below.drew ?_ | with_reducible refine RowKit.Below.alloc ?_ (by first | (simp <;> omega) | (have := HBr.out.size; simp <;> omega)) _ | with_reducible refine RowKit.Below.setCell ?_ (by first | (simp <;> omega) | (have := HBr.out.size; simp <;> omega)) _)))).mono ?_); rintro e w5 ⟨a1, c1, rfl, hk, he, hb⟩; (try replace hb := Q3 hb); replace HBr := bu HBr hb; replace HBs := bu HBs hb; (try replace HN1 := Qa (EnAt.below HN1.out hb)); (try replace HN2 := Qa (EnAt.below HN2.out hb)); (try replace HN3 := Qa (EnAt.below HN3.out hb)); clear hb; have HK1 := Qa hk; have HN1 := Qa he; clear hk he) | (go_at_call 26; (with_reducible refine (L1S.out _ (by (repeat (first | exact HBr.out | with_reducible exact RowKit.Below.refl _ _ | with_reducible refine RowKit.Below.drew ?_ | with_reducible refine RowKit.Below.alloc ?_ (by first | (simp <;> omega) | (have := HBr.out.size; simp <;> omega)) _ | with_reducible refine RowKit.Below.setCell ?_ (by first | (simp <;> omega) | (have := HBr.out.size; simp <;> omega)) _)))).mono ?_); rintro e w5 ⟨a2, c2, rfl, hk, he, hb⟩; (try replace hb := Q3 hb); replace HBr := bu HBr hb; replace HBs := bu HBs hb; (try replace HN1 := Qa (EnAt.below HN1.out hb)); (try replace HN2 := Qa (EnAt.below HN2.out hb)); (try replace HN3 := Qa (EnAt.below HN3.out hb)); clear hb; have HK2 := Qa hk; have HN2 := Qa he; clear hk he) | (go_at_call 11; go_must (refine (aud2 b P (ex_c b) (HLV.out _ (by (repeat (first | exact HBr.out | with_reducible exact RowKit.Below.refl _ _ | with_reducible refine RowKit.Below.drew ?_ | with_reducible refine RowKit.Below.alloc ?_ (by first | (simp <;> omega) | (have := HBr.out.size; simp <;> omega)) _ | with_reducible refine RowKit.Below.setCell ?_ (by first | (simp <;> omega) | (have := HBr.out.size; simp <;> omega)) _)))).1 (HLV.out _ (by (repeat (first | exact HBr.out | with_reducible exact RowKit.Below.refl _ _ | with_reducible refine RowKit.Below.drew ?_ | with_reducible refine RowKit.Below.alloc ?_ (by first | (simp <;> omega) | (have := HBr.out.size; simp <;> omega)) _ | with_reducible refine RowKit.Below.setCell ?_ (by first | (simp <;> omega) | (have := HBr.out.size; simp <;> omega)) _)))).2 ⟨by decide, by decide⟩ ⟨by decide, by decide⟩ HK1.out HK2.out HN1.out HN2.out).mono ?_); rintro e w6 ⟨a6, c6, rfl, hk, hs, hb⟩; (try replace hb := Q3 hb); replace hb := ZX hb; (try replace hb := Q3 hb); replace HBr := bu HBr hb; replace HBs := bu HBs hb; have HS6 := Qa hs; clear hb hk hs))
  all_goals (go_wp2; go_meet; case rel => exact ⟨_, _, rfl, rfl, HS6.out, HBr.out, HBs.out⟩)
 case rest =>
 obtain ⟨rc, cc, rfl, rfl, hs, hb, hb2⟩ := hcut
 have HB5 := Qa hb; have HSc := Qa hs
 replace HSb := Qa (HSb.out.below hb2)
 clear hb hs hb2 HB4
 generalize wc = W4 at *
 go_upto_region 5 with (fail)
 go_cut [8, 9] (fun s2 s3 V => ∃ a c, s2 = .slice a 1 c ∧ s3 = .int .i64 0 ∧ InAt V a [3] ∧ Below W1.heap.size W1 V ∧ Below W4.heap.size W4 V)
 case first =>
  have HBr := HB5; have HBs := Qa (RowKit.Below.refl W4.heap.size W4)
  go_region_held3 (fun W => W.cell? ⟨w1.heap.size, 0, none⟩ = some (.slice P.wa 1 P.wc) ∧ W.cell? ⟨w1.heap.size, 1, none⟩ = some (.slice P.ea 0 P.ec) ∧ W.cell? ⟨w1.heap.size, 2, none⟩ = some (.slice P.sa 1 P.sc) ∧ W.cell? ⟨w1.heap.size, 3, none⟩ = some (.slice P.la 1 P.lc))
   ((refine KS.out _ ?_; (repeat (first | exact HBr.out | with_reducible exact RowKit.Below.refl _ _ | with_reducible refine RowKit.Below.drew ?_ | with_reducible refine RowKit.Below.alloc ?_ (by first | (simp <;> omega) | (have := HBr.out.size; simp <;> omega)) _ | with_reducible refine RowKit.Below.setCell ?_ (by first | (simp <;> omega) | (have := HBr.out.size; simp <;> omega)) _))))
   (first | (go_at_call 27; refine (HSh.out _ _).mono ?_; rintro e w5 ⟨rfl, hb⟩; (try replace hb := Q3 hb); replace HBr := bu HBr hb; replace HBs := bu HBs hb; (try replace HN1 := Qa (EnAt.below HN1.out hb)); (try replace HN2 := Qa (EnAt.below HN2.out hb)); (try replace HN3 := Qa (EnAt.below HN3.out hb)); clear hb) | (go_at_call 26; (with_reducible refine (L35.out _ (by (repeat (first | exact HBr.out | with_reducible exact RowKit.Below.refl _ _ | with_reducible refine RowKit.Below.drew ?_ | with_reducible refine RowKit.Below.alloc ?_ (by first | (simp <;> omega) | (have := HBr.out.size; simp <;> omega)) _ | with_reducible refine RowKit.Below.setCell ?_ (by first | (simp <;> omega) | (have := HBr.out.size; simp <;> omega)) _)))).mono ?_); rintro e w5 ⟨a1, c1, rfl, hk, he, hb⟩; (try replace hb := Q3 hb); replace HBr := bu HBr hb; replace HBs := bu HBs hb; (try replace HN1 := Qa (EnAt.below HN1.out hb)); (try replace HN2 := Qa (EnAt.below HN2.out hb)); (try replace HN3 := Qa (EnAt.below HN3.out hb)); clear hb; have HK1 := Qa hk; have HN1 := Qa he; clear hk he) | (go_at_call 26; (with_reducible refine (L25.out _ (by (repeat (first | exact HBr.out | with_reducible exact RowKit.Below.refl _ _ | with_reducible refine RowKit.Below.drew ?_ | with_reducible refine RowKit.Below.alloc ?_ (by first | (simp <;> omega) | (have := HBr.out.size; simp <;> omega)) _ | with_reducible refine RowKit.Below.setCell ?_ (by first | (simp <;> omega) | (have := HBr.out.size; simp <;> omega)) _)))).mono ?_); rintro e w5 ⟨a2, c2, rfl, hk, he, hb⟩; (try replace hb := Q3 hb); replace HBr := bu HBr hb; replace HBs := bu HBs hb; (try replace HN1 := Qa (EnAt.below HN1.out hb)); (try replace HN2 := Qa (EnAt.below HN2.out hb)); (try replace HN3 := Qa (EnAt.below HN3.out hb)); clear hb; have HK2 := Qa hk; have HN2 := Qa he; clear hk he) | (go_at_call 14; go_must (refine (sta2 b P (ex_s b) (HLV.out _ (by (repeat (first | exact HBr.out | with_reducible exact RowKit.Below.refl _ _ | with_reducible refine RowKit.Below.drew ?_ | with_reducible refine RowKit.Below.alloc ?_ (by first | (simp <;> omega) | (have := HBr.out.size; simp <;> omega)) _ | with_reducible refine RowKit.Below.setCell ?_ (by first | (simp <;> omega) | (have := HBr.out.size; simp <;> omega)) _)))).1 (HLV.out _ (by (repeat (first | exact HBr.out | with_reducible exact RowKit.Below.refl _ _ | with_reducible refine RowKit.Below.drew ?_ | with_reducible refine RowKit.Below.alloc ?_ (by first | (simp <;> omega) | (have := HBr.out.size; simp <;> omega)) _ | with_reducible refine RowKit.Below.setCell ?_ (by first | (simp <;> omega) | (have := HBr.out.size; simp <;> omega)) _)))).2 ⟨by decide, by decide⟩ ⟨by decide, by decide⟩ HK1.out HK2.out HN1.out HN2.out).mono ?_); rintro e w6 ⟨a6, c6, rfl, hk, hs, hb⟩; (try replace hb := Q3 hb); replace hb := ZX hb; (try replace hb := Q3 hb); replace HBr := bu HBr hb; replace HBs := bu HBs hb; have HS6 := Qa hs; clear hb hk hs))
  all_goals (go_wp2; go_meet; case rel => exact ⟨_, _, rfl, rfl, HS6.out, HBr.out, HBs.out⟩)
 case rest =>
 obtain ⟨rs, cs, rfl, rfl, hs, hb, hb2⟩ := hcut
 have HB6 := Qa hb; have HSs := Qa hs
 replace HSb := Qa (HSb.out.below hb2); replace HSc := Qa (HSc.out.below hb2)
 clear hb hs hb2 HB5
 generalize wc = W5 at *
 go_upto_region 6 with (fail)
 go_cut [10, 11] (fun s2 s3 V => ∃ a c, s2 = .slice a 2 c ∧ s3 = .int .i64 0 ∧ VdAt V a [⟨3, 5, 0⟩, ⟨4, 4, 0⟩] ∧ Below W1.heap.size W1 V ∧ Below W5.heap.size W5 V)
 case first =>
  have HBr := HB6; have HBs := Qa (RowKit.Below.refl W5.heap.size W5)
  go_region_held3 (fun W => W.cell? ⟨w1.heap.size, 0, none⟩ = some (.slice P.wa 1 P.wc) ∧ W.cell? ⟨w1.heap.size, 1, none⟩ = some (.slice P.ea 0 P.ec) ∧ W.cell? ⟨w1.heap.size, 2, none⟩ = some (.slice P.sa 1 P.sc) ∧ W.cell? ⟨w1.heap.size, 3, none⟩ = some (.slice P.la 1 P.lc))
   ((refine KS.out _ ?_; (repeat (first | exact HBr.out | with_reducible exact RowKit.Below.refl _ _ | with_reducible refine RowKit.Below.drew ?_ | with_reducible refine RowKit.Below.alloc ?_ (by first | (simp <;> omega) | (have := HBr.out.size; simp <;> omega)) _ | with_reducible refine RowKit.Below.setCell ?_ (by first | (simp <;> omega) | (have := HBr.out.size; simp <;> omega)) _))))
   (first | (go_at_call 27; refine (HSh.out _ _).mono ?_; rintro e w5 ⟨rfl, hb⟩; (try replace hb := Q3 hb); replace HBr := bu HBr hb; replace HBs := bu HBs hb; (try replace HN1 := Qa (EnAt.below HN1.out hb)); (try replace HN2 := Qa (EnAt.below HN2.out hb)); (try replace HN3 := Qa (EnAt.below HN3.out hb)); clear hb) | (go_at_call 26; (with_reducible refine (L2C.out _ (by (repeat (first | exact HBr.out | with_reducible exact RowKit.Below.refl _ _ | with_reducible refine RowKit.Below.drew ?_ | with_reducible refine RowKit.Below.alloc ?_ (by first | (simp <;> omega) | (have := HBr.out.size; simp <;> omega)) _ | with_reducible refine RowKit.Below.setCell ?_ (by first | (simp <;> omega) | (have := HBr.out.size; simp <;> omega)) _)))).mono ?_); rintro e w5 ⟨a1, c1, rfl, hk, he, hb⟩; (try replace hb := Q3 hb); replace HBr := bu HBr hb; replace HBs := bu HBs hb; (try replace HN1 := Qa (EnAt.below HN1.out hb)); (try replace HN2 := Qa (EnAt.below HN2.out hb)); (try replace HN3 := Qa (EnAt.below HN3.out hb)); clear hb; have HK1 := Qa hk; have HN1 := Qa he; clear hk he) | (go_at_call 26; (with_reducible refine (L3C.out _ (by (repeat (first | exact HBr.out | with_reducible exact RowKit.Below.refl _ _ | with_reducible refine RowKit.Below.drew ?_ | with_reducible refine RowKit.Below.alloc ?_ (by first | (simp <;> omega) | (have := HBr.out.size; simp <;> omega)) _ | with_reducible refine RowKit.Below.setCell ?_ (by first | (simp <;> omega) | (have := HBr.out.size; simp <;> omega)) _)))).mono ?_); rintro e w5 ⟨a2, c2, rfl, hk, he, hb⟩; (try replace hb := Q3 hb); replace HBr := bu HBr hb; replace HBs := bu HBs hb; (try replace HN1 := Qa (EnAt.below HN1.out hb)); (try replace HN2 := Qa (EnAt.below HN2.out hb)); (try replace HN3 := Qa (EnAt.below HN3.out hb)); clear hb; have HK2 := Qa hk; have HN2 := Qa he; clear hk he) | (go_at_call 26; (with_reducible refine (L4K.out _ (by (repeat (first | exact HBr.out | with_reducible exact RowKit.Below.refl _ _ | with_reducible refine RowKit.Below.drew ?_ | with_reducible refine RowKit.Below.alloc ?_ (by first | (simp <;> omega) | (have := HBr.out.size; simp <;> omega)) _ | with_reducible refine RowKit.Below.setCell ?_ (by first | (simp <;> omega) | (have := HBr.out.size; simp <;> omega)) _)))).mono ?_); rintro e w5 ⟨a3, c3, rfl, hk, he, hb⟩; (try replace hb := Q3 hb); replace HBr := bu HBr hb; replace HBs := bu HBs hb; (try replace HN1 := Qa (EnAt.below HN1.out hb)); (try replace HN2 := Qa (EnAt.below HN2.out hb)); (try replace HN3 := Qa (EnAt.below HN3.out hb)); clear hb; have HK3 := Qa hk; have HN3 := Qa he; clear hk he) | (go_at_call 11; go_must (refine (aud3 b P (ex_d b) (HLV.out _ (by (repeat (first | exact HBr.out | with_reducible exact RowKit.Below.refl _ _ | with_reducible refine RowKit.Below.drew ?_ | with_reducible refine RowKit.Below.alloc ?_ (by first | (simp <;> omega) | (have := HBr.out.size; simp <;> omega)) _ | with_reducible refine RowKit.Below.setCell ?_ (by first | (simp <;> omega) | (have := HBr.out.size; simp <;> omega)) _)))).1 (HLV.out _ (by (repeat (first | exact HBr.out | with_reducible exact RowKit.Below.refl _ _ | with_reducible refine RowKit.Below.drew ?_ | with_reducible refine RowKit.Below.alloc ?_ (by first | (simp <;> omega) | (have := HBr.out.size; simp <;> omega)) _ | with_reducible refine RowKit.Below.setCell ?_ (by first | (simp <;> omega) | (have := HBr.out.size; simp <;> omega)) _)))).2 ⟨by decide, by decide⟩ ⟨by decide, by decide⟩ ⟨by decide, by decide⟩ HK1.out HK2.out HK3.out HN1.out HN2.out HN3.out).mono ?_); rintro e w6 ⟨a6, c6, rfl, hk, hs, hb⟩; (try replace hb := Q3 hb); replace hb := ZX hb; (try replace hb := Q3 hb); replace HBr := bu HBr hb; replace HBs := bu HBs hb; have HS6 := Qa hs; clear hb hk hs))
  all_goals (go_wp2; go_meet; case rel => exact ⟨_, _, rfl, rfl, HS6.out, HBr.out, HBs.out⟩)
 case rest =>
 obtain ⟨rd, cd, rfl, rfl, hs, hb, hb2⟩ := hcut
 have HB7 := Qa hb; have HSd := Qa hs
 replace HSb := Qa (HSb.out.below hb2); replace HSc := Qa (HSc.out.below hb2); replace HSs := Qa (SlAt.below HSs.out hb2)
 clear hb hs hb2 HB6
 generalize wc = W6 at *
 go_upto_region 7 with (fail)
 go_cut [12, 13] (fun s2 s3 V => ∃ a c, s2 = .slice a 0 c ∧ s3 = .int .i64 1 ∧ Below W1.heap.size W1 V ∧ Below W6.heap.size W6 V)
 case first =>
  have HBr := HB7; have HBs := Qa (RowKit.Below.refl W6.heap.size W6)
  go_region_held3 (fun W => W.cell? ⟨w1.heap.size, 0, none⟩ = some (.slice P.wa 1 P.wc) ∧ W.cell? ⟨w1.heap.size, 1, none⟩ = some (.slice P.ea 0 P.ec) ∧ W.cell? ⟨w1.heap.size, 2, none⟩ = some (.slice P.sa 1 P.sc) ∧ W.cell? ⟨w1.heap.size, 3, none⟩ = some (.slice P.la 1 P.lc))
   ((refine KS.out _ ?_; (repeat (first | exact HBr.out | with_reducible exact RowKit.Below.refl _ _ | with_reducible refine RowKit.Below.drew ?_ | with_reducible refine RowKit.Below.alloc ?_ (by first | (simp <;> omega) | (have := HBr.out.size; simp <;> omega)) _ | with_reducible refine RowKit.Below.setCell ?_ (by first | (simp <;> omega) | (have := HBr.out.size; simp <;> omega)) _))))
   (first | (go_at_call 27; refine (HSh.out _ _).mono ?_; rintro e w5 ⟨rfl, hb⟩; (try replace hb := Q3 hb); replace HBr := bu HBr hb; replace HBs := bu HBs hb; (try replace HN1 := Qa (EnAt.below HN1.out hb)); (try replace HN2 := Qa (EnAt.below HN2.out hb)); (try replace HN3 := Qa (EnAt.below HN3.out hb)); clear hb) | (have := HK1; clear this; (go_at_call 26; (with_reducible refine (L25.out _ (by (repeat (first | exact HBr.out | with_reducible exact RowKit.Below.refl _ _ | with_reducible refine RowKit.Below.drew ?_ | with_reducible refine RowKit.Below.alloc ?_ (by first | (simp <;> omega) | (have := HBr.out.size; simp <;> omega)) _ | with_reducible refine RowKit.Below.setCell ?_ (by first | (simp <;> omega) | (have := HBr.out.size; simp <;> omega)) _)))).mono ?_); rintro e w5 ⟨a2, c2, rfl, hk, he, hb⟩; (try replace hb := Q3 hb); replace HBr := bu HBr hb; replace HBs := bu HBs hb; (try replace HN1 := Qa (EnAt.below HN1.out hb)); (try replace HN2 := Qa (EnAt.below HN2.out hb)); (try replace HN3 := Qa (EnAt.below HN3.out hb)); clear hb; have HK2 := Qa hk; have HN2 := Qa he; clear hk he)) | (go_at_call 26; (with_reducible refine (L25.out _ (by (repeat (first | exact HBr.out | with_reducible exact RowKit.Below.refl _ _ | with_reducible refine RowKit.Below.drew ?_ | with_reducible refine RowKit.Below.alloc ?_ (by first | (simp <;> omega) | (have := HBr.out.size; simp <;> omega)) _ | with_reducible refine RowKit.Below.setCell ?_ (by first | (simp <;> omega) | (have := HBr.out.size; simp <;> omega)) _)))).mono ?_); rintro e w5 ⟨a1, c1, rfl, hk, he, hb⟩; (try replace hb := Q3 hb); replace HBr := bu HBr hb; replace HBs := bu HBs hb; (try replace HN1 := Qa (EnAt.below HN1.out hb)); (try replace HN2 := Qa (EnAt.below HN2.out hb)); (try replace HN3 := Qa (EnAt.below HN3.out hb)); clear hb; have HK1 := Qa hk; have HN1 := Qa he; clear hk he) | (go_at_call 11; go_must (refine (aud2 b P (ex_j b) (HLV.out _ (by (repeat (first | exact HBr.out | with_reducible exact RowKit.Below.refl _ _ | with_reducible refine RowKit.Below.drew ?_ | with_reducible refine RowKit.Below.alloc ?_ (by first | (simp <;> omega) | (have := HBr.out.size; simp <;> omega)) _ | with_reducible refine RowKit.Below.setCell ?_ (by first | (simp <;> omega) | (have := HBr.out.size; simp <;> omega)) _)))).1 (HLV.out _ (by (repeat (first | exact HBr.out | with_reducible exact RowKit.Below.refl _ _ | with_reducible refine RowKit.Below.drew ?_ | with_reducible refine RowKit.Below.alloc ?_ (by first | (simp <;> omega) | (have := HBr.out.size; simp <;> omega)) _ | with_reducible refine RowKit.Below.setCell ?_ (by first | (simp <;> omega) | (have := HBr.out.size; simp <;> omega)) _)))).2 ⟨by decide, by decide⟩ ⟨by decide, by decide⟩ HK1.out HK2.out HN1.out HN2.out).mono ?_); rintro e w6 ⟨a6, c6, rfl, hk, hs, hb⟩; (try replace hb := Q3 hb); replace hb := ZX hb; (try replace hb := Q3 hb); replace HBr := bu HBr hb; replace HBs := bu HBs hb; have HS6 := Qa hs; clear hb hk hs) | (go_at_call 11; go_must (refine (aud2 b P (ex_j b) (HLV.out _ (by (repeat (first | exact HBr.out | with_reducible exact RowKit.Below.refl _ _ | with_reducible refine RowKit.Below.drew ?_ | with_reducible refine RowKit.Below.alloc ?_ (by first | (simp <;> omega) | (have := HBr.out.size; simp <;> omega)) _ | with_reducible refine RowKit.Below.setCell ?_ (by first | (simp <;> omega) | (have := HBr.out.size; simp <;> omega)) _)))).1 (HLV.out _ (by (repeat (first | exact HBr.out | with_reducible exact RowKit.Below.refl _ _ | with_reducible refine RowKit.Below.drew ?_ | with_reducible refine RowKit.Below.alloc ?_ (by first | (simp <;> omega) | (have := HBr.out.size; simp <;> omega)) _ | with_reducible refine RowKit.Below.setCell ?_ (by first | (simp <;> omega) | (have := HBr.out.size; simp <;> omega)) _)))).2 ⟨by decide, by decide⟩ ⟨by decide, by decide⟩ HK2.out HK1.out HN2.out HN1.out).mono ?_); rintro e w6 ⟨a6, c6, rfl, hk, hs, hb⟩; (try replace hb := Q3 hb); replace hb := ZX hb; (try replace hb := Q3 hb); replace HBr := bu HBr hb; replace HBs := bu HBs hb; have HS6 := Qa hs; clear hb hk hs))
  all_goals (go_wp2; go_meet; case rel => exact ⟨_, _, rfl, rfl, HBr.out, HBs.out⟩)
 case rest =>
 obtain ⟨rj, cj, rfl, rfl, hb, hb2⟩ := hcut
 have HB8 := Qa hb
 replace HSb := Qa (HSb.out.below hb2); replace HSc := Qa (HSc.out.below hb2); replace HSs := Qa (SlAt.below HSs.out hb2); replace HSd := Qa (HSd.out.below hb2)
 clear hb hb2 HB7 KS HLV HSh L25 L26 L35 L1S L2C L3C L4K
 generalize wc = W7 at *
 have HQs := Qa (fun V (h : InAt V rs [3]) => same_newI [3] rs 1 cs V [.int .i64 3] rfl (by decide) (by simp [inRow]) h)
 have HQb := Qa (fun V (h : VdAt V rb [⟨2, 2, 0⟩]) => J2 [⟨2, 2, 0⟩] rb 1 cb V [.int .i64 2, .int .i64 2, .int .i64 0] rfl (by decide) (by simp [vdRow]) h)
 have HQc := Qa (fun V (h : VdAt V rc [⟨1, 1, 0⟩, ⟨3, 3, 0⟩]) => J2 [⟨1, 1, 0⟩, ⟨3, 3, 0⟩] rc 2 cc V [.int .i64 1, .int .i64 1, .int .i64 0, .int .i64 3, .int .i64 3, .int .i64 0] rfl (by decide) (by simp [vdRow]) h)
 have HQd := Qa (fun V (h : VdAt V rd [⟨3, 5, 0⟩, ⟨4, 4, 0⟩]) => J2 [⟨3, 5, 0⟩, ⟨4, 4, 0⟩] rd 2 cd V [.int .i64 3, .int .i64 5, .int .i64 0, .int .i64 4, .int .i64 4, .int .i64 0] rfl (by decide) (by simp [vdRow]) h)
 go_wp2_with (first | (go_at_call 16; refine (HQs.out _ HSs.out).mono ?_; rintro e w9 ⟨rfl, hb⟩; replace HSb := Qa (HSb.out.below hb); replace HSc := Qa (HSc.out.below hb); replace HSd := Qa (HSd.out.below hb); replace HB8 := bu HB8 hb; clear hb) | (go_at_call 13; ((with_reducible refine (HQb.out _ HSb.out).mono ?_); rintro e w10 ⟨rfl, hb⟩; replace HSc := Qa (HSc.out.below hb); replace HSd := Qa (HSd.out.below hb); replace HB8 := bu HB8 hb; clear hb)) | (go_at_call 13; ((with_reducible refine (HQc.out _ HSc.out).mono ?_); rintro e w11 ⟨rfl, hb⟩; replace HSd := Qa (HSd.out.below hb); replace HB8 := bu HB8 hb; clear hb)) | (go_at_call 13; ((with_reducible refine (HQd.out _ HSd.out).mono ?_); rintro e w12 ⟨rfl, hb⟩; replace HB8 := bu HB8 hb; clear hb)))
 go_ret
 exact ⟨rfl, HBw.out.trans ((HB1.out.trans (HB8.out.mono HB1.out.size)).mono HBw.out.size)⟩
abbrev big : Nat := 9223372036854775807
structure ArgA (w : World) (L : Lb) (P : Lbp) (d : List De) (da : Option Addr) (dc : Nat) (l : List (Lg × Lq)) (a : Option Addr) (cap : Nat) : Prop where
 lib : LbAt w L P
 dec : DeAt w da d
 dk : SlOk da d.length dc
 lgs : LgsAt w a l
 lk : SlOk a l.length cap
 lo : ∀ x ∈ l, SlOk x.2.a x.1.es.length x.2.c
 wide : ∀ x ∈ l, ∀ e ∈ x.1.es, e.wide
 nw : L.ws.length ≤ big
 nd : d.length ≤ big
 nl : l.length ≤ big
 nlo : L.los.length ≤ big
 nsh : L.shs.length ≤ big
 ned : L.eds.length ≤ big
 nes : ∀ x ∈ l, x.1.es.length ≤ big
 env : EnvP w
theorem ArgA.below {w w' : World} {L : Lb} {P : Lbp} {d : List De} {da : Option Addr} {dc : Nat} {l : List (Lg × Lq)} {a : Option Addr} {cap : Nat} (h : ArgA w L P d da dc l a cap) (hb : Below w.heap.size w w') : ArgA w' L P d da dc l a cap :=
 ⟨h.lib.below hb, SlAt.below h.dec hb, h.dk, h.lgs.below hb, h.lk, h.lo, h.wide, h.nw, h.nd, h.nl, h.nlo, h.nsh, h.ned, h.nes, h.env.below hb⟩
structure FewA (L : Lb) (d : List De) (l : List (Lg × Lq)) : Prop where
 lib : LbFew L
 bars : ∀ x ∈ L.ws, x.1.bars.length ≤ 1000
 dec : d.length ≤ 1000
 lgs : LgFew l
 len : l.length ≤ 6
 es : ∀ x ∈ l, x.1.es.length ≤ 20
theorem ArgA.few {w : World} {L : Lb} {P : Lbp} {d : List De} {da : Option Addr} {dc : Nat} {l : List (Lg × Lq)} {a : Option Addr} {cap : Nat} (h : ArgA w L P d da dc l a cap) (hf : Ya L d.length (Qp l) = true) : FewA L d l := by
 obtain ⟨h1, h2, h3, h4, h5, h6⟩ := fewAB_all hf
 obtain ⟨h7, h8, h9⟩ := fewDB_all h3
 have hln : l.length ≤ 6 := by simpa [Qp] using h2
 have hes : ∀ x ∈ l, x.1.es.length ≤ 20 := fun x hx => h1 x.1 (List.mem_map.2 ⟨x, hx, rfl⟩)
 have hw : ∀ x ∈ L.ws, fewW x.1 = true := fun x hx => h7 x.1 (List.mem_map.2 ⟨x, hx, rfl⟩)
 have hwf : ∀ x ∈ L.ws, fewF x.1.f = true ∧ x.1.bars.length ≤ 60 := fun x hx => by
  have := hw x hx
  unfold fewW at this
  simpa only [Bool.and_eq_true, decide_eq_true_eq] using this
 have hwl : L.ws.length ≤ 6 := by simpa [Qk] using h8
 exact ⟨⟨by omega, fun x hx => fewF_few (hwf x hx).1, by omega, by omega, by omega⟩, fun x hx => by have := (hwf x hx).2; omega, by omega, ⟨by omega, fun x hx => by have := hes x hx; omega, h.wide, h.lo⟩, hln, hes⟩
open Go.ChangeShapes Go.WideShapes Go.ChangeAt Go.RowKit Go.Deep Go.Sort
variable {H : Type} {enc : TypeId × Value → H} {w : World} {base : Nat} {spare : Nat → Bool} {held : Bool}
theorem add_none (b off j : Nat) : (⟨b, off, none⟩ : Addr).add j = ⟨b, off + j, none⟩ := by
 unfold Addr.add
 split
 ·rename_i h; subst h; rfl
 ·rfl
theorem fsub {t : TypeId} {fs : Array Field} {n : Nat} {cs : List Value} {x : DataW H × List MemPlace} (ht : Tryz.prog.underlying t = some (.struct fs)) (h : DataW.trod enc Tryz.prog w 0 (fun _ => true) held n t cs = some x) (i : Nat) {f : Field} (hf : fs[i]? = some f) {k : Nat} (hk : Tryz.prog.cellsOf f.type = k) : ∃ n' y, DataW.trod enc Tryz.prog w 0 (fun _ => true) held n' f.type ((cs.drop f.offset).take k) = some y := by
 obtain ⟨xs, n', _, _, _, hxl, hg⟩ := DataW.trod_struct ht h
 have g := hg i f hf
 rw [List.getElem?_eq_getElem (by rw [hxl]; exact (Array.getElem?_eq_some_iff.1 hf).1), hk] at g
 exact ⟨n', _, g⟩
theorem fany {t : TypeId} {fs : Array Field} {n : Nat} {cs : List Value} {x : DataW H × List MemPlace} (ht : Tryz.prog.underlying t = some (.struct fs)) (h : DataW.trod enc Tryz.prog w 0 (fun _ => true) held n t cs = some x) (i : Nat) {f : Field} (hf : fs[i]? = some f) {c : Value} (hc : cs[f.offset]? = some c) (hk : Tryz.prog.cellsOf f.type = 1) : ∃ n' y, DataW.trod enc Tryz.prog w 0 (fun _ => true) held n' f.type [c] = some y := by
 obtain ⟨n', y, g⟩ := fsub ht h i hf hk
 obtain ⟨h1, h2⟩ := List.getElem?_eq_some_iff.1 hc
 rw [List.drop_eq_getElem_cons h1, h2] at g
 exact ⟨n', y, g⟩
theorem fint {t : TypeId} {fs : Array Field} {n : Nat} {cs : List Value} {x : DataW H × List MemPlace} (ht : Tryz.prog.underlying t = some (.struct fs)) (h : DataW.trod enc Tryz.prog w 0 (fun _ => true) held n t cs = some x) (i : Nat) {f : Field} (hf : fs[i]? = some f) {c : Value} (hc : cs[f.offset]? = some c) {k : IntKind} (hk : Tryz.prog.underlying f.type = some (.int k)) (h1 : Tryz.prog.cellsOf f.type = 1) : ∃ m, c = .int k m ∧ (Lit.int k m).wf = true := by
 obtain ⟨n', y, g⟩ := fany ht h i hf hc h1
 obtain ⟨m, e, _, hw⟩ := DataW.trod_int hk g
 exact ⟨m, by simpa using e, hw⟩
theorem sany {t e : TypeId} {n : Nat} {c : Value} {x : DataW H × List MemPlace} (ht : Tryz.prog.underlying t = some (.slice e)) (h : DataW.trod enc Tryz.prog w 0 (fun _ => true) held n t [c] = some x) : ∃ a m k, c = .slice a m k := by
 rcases open_slice ht h with ⟨hcs, _⟩ | ⟨a, len, cap, m, n', D, Pl, hcs, _⟩
 ·exact ⟨none, 0, 0, by simpa using hcs⟩
 ·exact ⟨some a, len, cap, by simpa using hcs⟩
theorem YJ {α : Type} [Inhabited α] {cells : α → List Value} {k : Nat} {Q : α → Prop} {t e : TypeId} {n : Nat} {c : Value} {x : DataW H × List MemPlace} (ht : Tryz.prog.underlying t = some (.slice e)) (hC : Tryz.prog.cellsOf e = k) (hk : ∀ x, (cells x).length = k) (h0 : 0 < k) (h : DataW.trod enc Tryz.prog w 0 (fun _ => true) held n t [c] = some x)
  (hx : ∀ n cs y, DataW.trod enc Tryz.prog w 0 (fun _ => true) held n e cs = some y → ∃ x : α, cs = cells x ∧ Q x) : ∃ (a : Option Addr) (cap : Nat) (l : List α), c = .slice a l.length cap ∧ l.length ≤ 9223372036854775807 ∧ SlOk a l.length cap ∧ SlAt w a k (l.map cells) ∧ ∀ x ∈ l, Q x := by
 rcases open_slice ht h with ⟨hcs, _⟩ | ⟨a, len, cap, m, n', D, Pl, hcs, _, hl, hmx, hm, _, hi⟩
 ·exact ⟨none, 0, [], by simpa using hcs, by simp, SlOk.nil, SlAt.nil _ _ _, fun x hx => by cases hx⟩
 ·rw [if_pos rfl] at hm
  have hx2 : ∀ i, i < cap → ∃ x : α, w.cells? 0 (a.add (i * k)) k = some (cells x) ∧ Q x := fun i hlt => by
   obtain ⟨cs', h1, h2⟩ := hi i (by omega)
   obtain ⟨x, rfl, q⟩ := hx _ _ _ h2
   exact ⟨x, by rw [hC] at h1; exact h1, q⟩
  obtain ⟨f, hf2⟩ := choose_lt (α := α) hx2
  have hsp : cap ≠ 0 → a.spot = none := fun hc0 => by
   obtain ⟨_, _, hc⟩ := World.cells?_some (hf2 0 (by omega)).1
   have h1 : 0 < (cells (f 0)).length := by rw [hk]; exact h0
   have := (hc 0 h0).trans (List.getElem?_eq_getElem h1)
   simpa [Addr.add] using World.cell?_spot this
  have hll : ((List.range len).map f).length = len := by simp
  refine ⟨some a, cap, (List.range len).map f, by rw [hll]; simpa using hcs, by rw [hll]; unfold maxLen at hmx; omega, by rw [hll]; exact ⟨hl, (fun e => by cases e), fun ad e h => by cases e; exact hsp h⟩, ?_, fun x hx => ?_⟩
  ·intro i r hr
   simp only [List.map_map, List.getElem?_map, Option.map_eq_some_iff] at hr
   obtain ⟨j, hj, rfl⟩ := hr
   obtain ⟨hj1, hj2⟩ := List.getElem?_eq_some_iff.1 hj
   simp at hj2
   subst hj2
   have hlt : i < len := by simpa using hj1
   obtain ⟨b, off, sp⟩ := a
   obtain rfl : sp = none := hsp (by omega)
   obtain ⟨_, _, hc⟩ := World.cells?_some (hf2 i (by omega)).1
   have hcell : ∀ j u, (cells (f i))[j]? = some u → w.cell? ⟨b, off + i * k + j, none⟩ = some u := by
    intro j u hu
    have hj5 : j < k := by rw [← hk (f i)]; exact (List.getElem?_eq_some_iff.1 hu).1
    have := (hc j hj5).trans hu
    rw [Go.Deep.add_add, add_none] at this
    rw [show off + i * k + j = off + (i * k + j) by omega]; exact this
   have h1 : 0 < (cells (f i)).length := by rw [hk]; exact h0
   exact ⟨b, off, rfl, World.block_lt_of_cell? _ _ (hcell 0 _ (List.getElem?_eq_getElem h1)), hk _, hcell⟩
  ·obtain ⟨i, hi, rfl⟩ := List.mem_map.1 hx
   exact (hf2 i (by have := List.mem_range.1 hi; omega)).2
instance : Inhabited R3 := ⟨⟨0, 0, 0⟩⟩
theorem rep_trod {n : Nat} {cs : List Value} {y : DataW H × List MemPlace} (h : DataW.trod enc Tryz.prog w 0 (fun _ => true) held n 254 cs = some y) : ∃ x : R3, cs = x.cells ∧ True := by
 have h5 := (DataW.trod_struct Tryz.underlying254 h).choose_spec.choose_spec.2.2.1.trans (show Tryz.prog.cellsOf 254 = 3 by kernel_rfl)
 match cs, h5 with
 | [c0, c1, c2], _ =>
  obtain ⟨m0, rfl, w0⟩ := fint Tryz.underlying254 h 0 rfl rfl (k := .i64) Tryz.underlying3 (by kernel_rfl)
  obtain ⟨m1, rfl, w1⟩ := fint Tryz.underlying254 h 1 rfl rfl (k := .i64) Tryz.underlying3 (by kernel_rfl)
  obtain ⟨m2, rfl, w2⟩ := fint Tryz.underlying254 h 2 rfl rfl (k := .i64) Tryz.underlying3 (by kernel_rfl)
  exact ⟨⟨m0, m1, m2⟩, rfl, trivial⟩
theorem end_trod {n : Nat} {cs : List Value} {y : DataW H × List MemPlace} (h : DataW.trod enc Tryz.prog w 0 (fun _ => true) held n 255 cs = some y) : ∃ x : R3, cs = x.cells ∧ True := by
 have h5 := (DataW.trod_struct Tryz.underlying255 h).choose_spec.choose_spec.2.2.1.trans (show Tryz.prog.cellsOf 255 = 3 by kernel_rfl)
 match cs, h5 with
 | [c0, c1, c2], _ =>
  obtain ⟨m0, rfl, w0⟩ := fint Tryz.underlying255 h 0 rfl rfl (k := .i64) Tryz.underlying3 (by kernel_rfl)
  obtain ⟨m1, rfl, w1⟩ := fint Tryz.underlying255 h 1 rfl rfl (k := .i64) Tryz.underlying3 (by kernel_rfl)
  obtain ⟨m2, rfl, w2⟩ := fint Tryz.underlying255 h 2 rfl rfl (k := .i64) Tryz.underlying3 (by kernel_rfl)
  exact ⟨⟨m0, m1, m2⟩, rfl, trivial⟩
theorem cut_trod {n : Nat} {cs : List Value} {y : DataW H × List MemPlace} (h : DataW.trod enc Tryz.prog w 0 (fun _ => true) held n 186 cs = some y) : ∃ x : R3, cs = x.cells ∧ True := by
 have h5 := (DataW.trod_struct Tryz.underlying186 h).choose_spec.choose_spec.2.2.1.trans (show Tryz.prog.cellsOf 186 = 3 by kernel_rfl)
 match cs, h5 with
 | [c0, c1, c2], _ =>
  obtain ⟨m0, rfl, w0⟩ := fint Tryz.underlying186 h 0 rfl rfl (k := .i64) Tryz.underlying3 (by kernel_rfl)
  obtain ⟨m1, rfl, w1⟩ := fint Tryz.underlying186 h 1 rfl rfl (k := .i64) Tryz.underlying3 (by kernel_rfl)
  obtain ⟨m2, rfl, w2⟩ := fint Tryz.underlying186 h 2 rfl rfl (k := .i64) Tryz.underlying3 (by kernel_rfl)
  exact ⟨⟨m0, m1, m2⟩, rfl, trivial⟩
theorem jump_trod {n : Nat} {cs : List Value} {y : DataW H × List MemPlace} (h : DataW.trod enc Tryz.prog w 0 (fun _ => true) held n 106 cs = some y) : ∃ x : R3, cs = x.cells ∧ True := by
 have h5 := (DataW.trod_struct Tryz.underlying106 h).choose_spec.choose_spec.2.2.1.trans (show Tryz.prog.cellsOf 106 = 3 by kernel_rfl)
 match cs, h5 with
 | [c0, c1, c2], _ =>
  obtain ⟨m0, rfl, w0⟩ := fint Tryz.underlying106 h 0 rfl rfl (k := .i64) Tryz.underlying3 (by kernel_rfl)
  obtain ⟨m1, rfl, w1⟩ := fint Tryz.underlying106 h 1 rfl rfl (k := .i64) Tryz.underlying3 (by kernel_rfl)
  obtain ⟨m2, rfl, w2⟩ := fint Tryz.underlying106 h 2 rfl rfl (k := .i64) Tryz.underlying3 (by kernel_rfl)
  exact ⟨⟨m0, m1, m2⟩, rfl, trivial⟩
theorem rat_trod {n : Nat} {cs : List Value} {y : DataW H × List MemPlace} (h : DataW.trod enc Tryz.prog w 0 (fun _ => true) held n 133 cs = some y) : ∃ a b : Int, cs = [.int .i64 a, .int .i64 b] := by
 have h5 := (DataW.trod_struct Tryz.underlying133 h).choose_spec.choose_spec.2.2.1.trans (show Tryz.prog.cellsOf 133 = 2 by kernel_rfl)
 match cs, h5 with
 | [c0, c1], _ =>
  obtain ⟨m0, rfl, w0⟩ := fint Tryz.underlying133 h 0 rfl rfl (k := .i64) Tryz.underlying3 (by kernel_rfl)
  obtain ⟨m1, rfl, w1⟩ := fint Tryz.underlying133 h 1 rfl rfl (k := .i64) Tryz.underlying3 (by kernel_rfl)
  exact ⟨m0, m1, rfl⟩
theorem bar_trod {n : Nat} {cs : List Value} {y : DataW H × List MemPlace} (h : DataW.trod enc Tryz.prog w 0 (fun _ => true) held n 135 cs = some y) : ∃ x : Br, cs = Y4 x ∧ True := by
 have h5 := (DataW.trod_struct Tryz.underlying135 h).choose_spec.choose_spec.2.2.1.trans (show Tryz.prog.cellsOf 135 = 4 by kernel_rfl)
 match cs, h5 with
 | [c0, c1, c2, c3], _ =>
  obtain ⟨m0, rfl, w0⟩ := fint Tryz.underlying135 h 0 rfl rfl (k := .i64) Tryz.underlying3 (by kernel_rfl)
  obtain ⟨m2, rfl, w2⟩ := fint Tryz.underlying135 h 2 rfl rfl (k := .i64) Tryz.underlying3 (by kernel_rfl)
  obtain ⟨_, _, g⟩ := fsub Tryz.underlying135 h 1 rfl (k := 2) (by kernel_rfl)
  obtain ⟨p, q, e⟩ := rat_trod g
  cases e
  exact ⟨⟨m0, p, q, m2⟩, rfl, trivial⟩
instance : Inhabited Lo := ⟨⟨0, 0, 0, 0, 0⟩⟩
theorem loan_trod {n : Nat} {cs : List Value} {y : DataW H × List MemPlace} (h : DataW.trod enc Tryz.prog w 0 (fun _ => true) held n 137 cs = some y) : ∃ x : Lo, cs = x.cells ∧ True := by
 have h5 := (DataW.trod_struct Tryz.underlying137 h).choose_spec.choose_spec.2.2.1.trans (show Tryz.prog.cellsOf 137 = 5 by kernel_rfl)
 match cs, h5 with
 | [c0, c1, c2, c3, c4], _ =>
  obtain ⟨m0, rfl, w0⟩ := fint Tryz.underlying137 h 0 rfl rfl (k := .i64) Tryz.underlying3 (by kernel_rfl)
  obtain ⟨m1, rfl, w1⟩ := fint Tryz.underlying137 h 1 rfl rfl (k := .i64) Tryz.underlying3 (by kernel_rfl)
  obtain ⟨m2, rfl, w2⟩ := fint Tryz.underlying137 h 2 rfl rfl (k := .i64) Tryz.underlying3 (by kernel_rfl)
  obtain ⟨m3, rfl, w3⟩ := fint Tryz.underlying137 h 3 rfl rfl (k := .i64) Tryz.underlying3 (by kernel_rfl)
  obtain ⟨m4, rfl, w4⟩ := fint Tryz.underlying137 h 4 rfl rfl (k := .i64) Tryz.underlying3 (by kernel_rfl)
  exact ⟨⟨m0, m1, m2, m3, m4⟩, rfl, trivial⟩
theorem dec_trod {n : Nat} {cs : List Value} {y : DataW H × List MemPlace} (h : DataW.trod enc Tryz.prog w 0 (fun _ => true) held n 207 cs = some y) : ∃ x : De, cs = Ul x ∧ True := by
 have h5 := (DataW.trod_struct Tryz.underlying207 h).choose_spec.choose_spec.2.2.1.trans (show Tryz.prog.cellsOf 207 = 6 by kernel_rfl)
 match cs, h5 with
 | [c0, c1, c2, c3, c4, c5], _ =>
  obtain ⟨m0, rfl, w0⟩ := fint Tryz.underlying207 h 0 rfl rfl (k := .i64) Tryz.underlying3 (by kernel_rfl)
  obtain ⟨m1, rfl, w1⟩ := fint Tryz.underlying207 h 1 rfl rfl (k := .i64) Tryz.underlying3 (by kernel_rfl)
  obtain ⟨m2, rfl, w2⟩ := fint Tryz.underlying207 h 2 rfl rfl (k := .i64) Tryz.underlying3 (by kernel_rfl)
  obtain ⟨m3, rfl, w3⟩ := fint Tryz.underlying207 h 3 rfl rfl (k := .i64) Tryz.underlying3 (by kernel_rfl)
  obtain ⟨m4, rfl, w4⟩ := fint Tryz.underlying207 h 4 rfl rfl (k := .i64) Tryz.underlying3 (by kernel_rfl)
  obtain ⟨m5, rfl, w5⟩ := fint Tryz.underlying207 h 5 rfl rfl (k := .i64) Tryz.underlying3 (by kernel_rfl)
  exact ⟨⟨m0, m1, m2, m3, m4, m5⟩, rfl, trivial⟩
instance : Inhabited Sx := ⟨⟨0, 0, 0, 0, 0, 0⟩⟩
theorem wf_u64' {n : Int} (h : (Lit.int .u64 n).wf = true) : 0 ≤ n ∧ n < 18446744073709551616 := by
 simp [Lit.wf] at h
 have h1 : IntKind.u64.min = 0 := by decide
 have h2 : IntKind.u64.max = 18446744073709551615 := by decide
 rw [h1, h2] at h; omega
theorem sheet_trod {n : Nat} {cs : List Value} {y : DataW H × List MemPlace} (h : DataW.trod enc Tryz.prog w 0 (fun _ => true) held n 55 cs = some y) : ∃ x : Sx, cs = Uh x ∧ (0 ≤ x.dg ∧ x.dg < 18446744073709551616) := by
 have h5 := (DataW.trod_struct Tryz.underlying55 h).choose_spec.choose_spec.2.2.1.trans (show Tryz.prog.cellsOf 55 = 6 by kernel_rfl)
 match cs, h5 with
 | [c0, c1, c2, c3, c4, c5], _ =>
  obtain ⟨m0, rfl, w0⟩ := fint Tryz.underlying55 h 0 rfl rfl (k := .i64) Tryz.underlying3 (by kernel_rfl)
  obtain ⟨m1, rfl, w1⟩ := fint Tryz.underlying55 h 1 rfl rfl (k := .i64) Tryz.underlying3 (by kernel_rfl)
  obtain ⟨m2, rfl, w2⟩ := fint Tryz.underlying55 h 2 rfl rfl (k := .i64) Tryz.underlying3 (by kernel_rfl)
  obtain ⟨m3, rfl, w3⟩ := fint Tryz.underlying55 h 3 rfl rfl (k := .i64) Tryz.underlying3 (by kernel_rfl)
  obtain ⟨m4, rfl, w4⟩ := fint Tryz.underlying55 h 4 rfl rfl (k := .i64) Tryz.underlying3 (by kernel_rfl)
  obtain ⟨m5, rfl, w5⟩ := fint Tryz.underlying55 h 5 rfl rfl (k := .u64) Tryz.underlying42 (by kernel_rfl)
  exact ⟨⟨m0, m1, m2, m3, m4, m5⟩, rfl, wf_u64' w5⟩
instance : Inhabited En := ⟨⟨0, 0, 0, 0, 0, 0⟩⟩
instance : Inhabited Ex := ⟨⟨0, 0, none, 0, 0, none, 0, 0⟩⟩
theorem edition_trod {n : Nat} {cs : List Value} {y : DataW H × List MemPlace} (h : DataW.trod enc Tryz.prog w 0 (fun _ => true) held n 119 cs = some y) : ∃ x : Ex, cs = UE x ∧ True := by
 have h5 := (DataW.trod_struct Tryz.underlying119 h).choose_spec.choose_spec.2.2.1.trans (show Tryz.prog.cellsOf 119 = 4 by kernel_rfl)
 match cs, h5 with
 | [c0, c1, c2, c3], _ =>
  obtain ⟨m0, rfl, w0⟩ := fint Tryz.underlying119 h 0 rfl rfl (k := .i64) Tryz.underlying3 (by kernel_rfl)
  obtain ⟨m1, rfl, w1⟩ := fint Tryz.underlying119 h 1 rfl rfl (k := .i64) Tryz.underlying3 (by kernel_rfl)
  obtain ⟨_, _, g2⟩ := fany Tryz.underlying119 h 2 rfl rfl (by kernel_rfl)
  obtain ⟨a2, n2, k2, rfl⟩ := sany Tryz.underlying116 g2
  obtain ⟨_, _, g3⟩ := fany Tryz.underlying119 h 3 rfl rfl (by kernel_rfl)
  obtain ⟨a3, n3, k3, rfl⟩ := sany Tryz.underlying117 g3
  exact ⟨⟨m0, m1, a2, n2, k2, a3, n3, k3⟩, rfl, trivial⟩
instance : Inhabited Lg := ⟨⟨0, [], 0⟩⟩
instance : Inhabited Lq := ⟨⟨none, 0⟩⟩
instance : Inhabited Wk := ⟨⟨0, [], ⟨0, [], [], ⟨0, 0, 0⟩, []⟩⟩⟩
instance : Inhabited Wp := ⟨⟨none, 0, none, 0, 0, none, 0, 0, ⟨none, 0, none, 0, none, 0⟩, none, 0, 0⟩⟩
theorem form_trod {n : Nat} {cs : List Value} {y : DataW H × List MemPlace} (h : DataW.trod enc Tryz.prog w 0 (fun _ => true) held n 109 cs = some y) : ∃ (f : Fo) (q : Fp), cs = [.int .i64 f.bars, .slice q.ra f.reps.length q.rc, .slice q.ea f.ends.length q.ec, .int .i64 f.jump.x, .int .i64 f.jump.y, .int .i64 f.jump.z, .slice q.ca f.cuts.length q.cc] ∧ FoAt w f q := by
 have h5 := (DataW.trod_struct Tryz.underlying109 h).choose_spec.choose_spec.2.2.1.trans (show Tryz.prog.cellsOf 109 = 7 by kernel_rfl)
 match cs, h5 with
 | [c0, c1, c2, c3, c4, c5, c6], _ =>
  obtain ⟨m0, rfl, w0⟩ := fint Tryz.underlying109 h 0 rfl rfl (k := .i64) Tryz.underlying3 (by kernel_rfl)
  obtain ⟨_, _, g1⟩ := fany Tryz.underlying109 h 1 rfl rfl (by kernel_rfl)
  obtain ⟨_, _, g2⟩ := fany Tryz.underlying109 h 2 rfl rfl (by kernel_rfl)
  obtain ⟨_, _, g4⟩ := fany Tryz.underlying109 h 4 rfl rfl (by kernel_rfl)
  obtain ⟨_, _, g3⟩ := fsub Tryz.underlying109 h 3 rfl (k := 3) (by kernel_rfl)
  obtain ⟨j, e, _⟩ := jump_trod g3
  obtain ⟨a1, k1, l1, rfl, _, o1, s1, _⟩ := YJ (cells := R3.cells) Tryz.underlying103 (k := 3) (by kernel_rfl) (fun _ => rfl) (by decide) g1 (fun _ _ _ h => rep_trod h)
  obtain ⟨a2, k2, l2, rfl, _, o2, s2, _⟩ := YJ (cells := R3.cells) Tryz.underlying104 (k := 3) (by kernel_rfl) (fun _ => rfl) (by decide) g2 (fun _ _ _ h => end_trod h)
  obtain ⟨a4, k4, l4, rfl, _, o4, s4, _⟩ := YJ (cells := R3.cells) Tryz.underlying107 (k := 3) (by kernel_rfl) (fun _ => rfl) (by decide) g4 (fun _ _ _ h => cut_trod h)
  cases e
  exact ⟨⟨m0, l1, l2, j, l4⟩, ⟨a1, k1, a2, k2, a4, k4⟩, rfl, ⟨s1, s2, s4, o1, o2, o4⟩⟩
theorem score_trod {n : Nat} {cs : List Value} {y : DataW H × List MemPlace} (h : DataW.trod enc Tryz.prog w 0 (fun _ => true) held n 102 cs = some y) : ∃ (v : Int) (l : List Br) (ab : Option Addr) (cb : Nat) (ap : Option Addr) (np cp : Nat) (an : Option Addr) (nn cn : Nat), cs = [.int .i64 v, .slice ab l.length cb, .slice ap np cp, .slice an nn cn] ∧ SlAt w ab 4 (l.map Y4) ∧ SlOk ab l.length cb := by
 have h5 := (DataW.trod_struct Tryz.underlying102 h).choose_spec.choose_spec.2.2.1.trans (show Tryz.prog.cellsOf 102 = 4 by kernel_rfl)
 match cs, h5 with
 | [c0, c1, c2, c3], _ =>
  obtain ⟨m0, rfl, w0⟩ := fint Tryz.underlying102 h 0 rfl rfl (k := .i64) Tryz.underlying3 (by kernel_rfl)
  obtain ⟨_, _, g1⟩ := fany Tryz.underlying102 h 1 rfl rfl (by kernel_rfl)
  obtain ⟨_, _, g2⟩ := fany Tryz.underlying102 h 2 rfl rfl (by kernel_rfl)
  obtain ⟨a2, n2, k2, rfl⟩ := sany Tryz.underlying99 g2
  obtain ⟨_, _, g3⟩ := fany Tryz.underlying102 h 3 rfl rfl (by kernel_rfl)
  obtain ⟨a3, n3, k3, rfl⟩ := sany Tryz.underlying100 g3
  obtain ⟨a1, k1, l1, rfl, _, o1, s1, _⟩ := YJ (cells := Y4) Tryz.underlying98 (k := 4) (by kernel_rfl) (fun _ => rfl) (by decide) g1 (fun _ _ _ h => bar_trod h)
  exact ⟨m0, l1, a1, k1, a2, n2, k2, a3, n3, k3, rfl, s1, o1⟩
theorem work_trod {n : Nat} {cs : List Value} {y : DataW H × List MemPlace} (h : DataW.trod enc Tryz.prog w 0 (fun _ => true) held n 112 cs = some y) : ∃ x : Wk × Wp, cs = JW x ∧ (FoAt w x.1.f x.2.q ∧ SlAt w x.2.ab 4 (x.1.bars.map Y4) ∧ SlOk x.2.ab x.1.bars.length x.2.cb) := by
 have h5 := (DataW.trod_struct Tryz.underlying112 h).choose_spec.choose_spec.2.2.1.trans (show Tryz.prog.cellsOf 112 = 12 by kernel_rfl)
 match cs, h5 with
 | [c0, c1, c2, c3, c4, c5, c6, c7, c8, c9, c10, c11], _ =>
  obtain ⟨_, _, g2⟩ := fany Tryz.underlying112 h 2 rfl rfl (by kernel_rfl)
  obtain ⟨a2, n2, k2, rfl⟩ := sany Tryz.underlying110 g2
  obtain ⟨_, _, g0⟩ := fsub Tryz.underlying112 h 0 rfl (k := 4) (by kernel_rfl)
  obtain ⟨_, _, g1⟩ := fsub Tryz.underlying112 h 1 rfl (k := 7) (by kernel_rfl)
  obtain ⟨v, l, ab, cb, ap, np, cp, an, nn, cn, e0, s, o⟩ := score_trod g0
  obtain ⟨f, q, e1, hf⟩ := form_trod g1
  cases e0
  cases e1
  exact ⟨(⟨v, l, f⟩, ⟨ab, cb, ap, np, cp, an, nn, cn, q, a2, n2, k2⟩), rfl, hf, s, o⟩
theorem lib_of {v : Value} {d : DataW H} {p : List MemPlace} (hv : Value.okWide Tryz.prog w .any base 27 v) (h : DataW.Trod enc Tryz.prog w 0 (fun _ => true) held 27 v d p) :
  ∃ (L : Lb) (P : Lbp), v = .agg #[.slice P.wa L.ws.length P.wc, .slice P.ea L.eds.length P.ec, .slice P.sa L.shs.length P.sc, .slice P.la L.los.length P.lc] ∧ LbAt w L P ∧ L.ws.length ≤ 9223372036854775807 ∧ L.los.length ≤ 9223372036854775807 ∧ L.shs.length ≤ 9223372036854775807 ∧ L.eds.length ≤ 9223372036854775807 ∧ ∀ s ∈ L.shs, 0 ≤ s.dg ∧ s.dg < 18446744073709551616 := by
 obtain ⟨⟨cs⟩, rfl, hsz⟩ := okWide_struct Tryz.underlying27 hv
 obtain ⟨fuel, h⟩ := h
 replace h : DataW.trod enc Tryz.prog w 0 (fun _ => true) held fuel 27 cs = some (d, p) := h
 have h5 := (DataW.trod_struct Tryz.underlying27 h).choose_spec.choose_spec.2.2.1.trans (show Tryz.prog.cellsOf 27 = 4 by kernel_rfl)
 match cs, h5 with
 | [c0, c1, c2, c3], _ =>
  obtain ⟨_, _, g0⟩ := fany Tryz.underlying27 h 0 rfl rfl (by kernel_rfl)
  obtain ⟨_, _, g1⟩ := fany Tryz.underlying27 h 1 rfl rfl (by kernel_rfl)
  obtain ⟨_, _, g2⟩ := fany Tryz.underlying27 h 2 rfl rfl (by kernel_rfl)
  obtain ⟨_, _, g3⟩ := fany Tryz.underlying27 h 3 rfl rfl (by kernel_rfl)
  obtain ⟨a0, k0, l0, rfl, b0, o0, s0, q0⟩ := YJ (cells := JW) Tryz.underlying22 (k := 12) (by kernel_rfl) (fun _ => rfl) (by decide) g0 (fun _ _ _ h => work_trod h)
  obtain ⟨a1, k1, l1, rfl, b1, o1, s1, _⟩ := YJ (cells := UE) Tryz.underlying23 (k := 4) (by kernel_rfl) (fun _ => rfl) (by decide) g1 (fun _ _ _ h => edition_trod h)
  obtain ⟨a2, k2, l2, rfl, b2, o2, s2, q2⟩ := YJ (cells := Uh) (Q := fun x : Sx => 0 ≤ x.dg ∧ x.dg < 18446744073709551616) Tryz.underlying24 (k := 6) (by kernel_rfl) (fun _ => rfl) (by decide) g2 (fun _ _ _ h => sheet_trod h)
  obtain ⟨a3, k3, l3, rfl, b3, o3, s3, _⟩ := YJ (cells := Lo.cells) Tryz.underlying25 (k := 5) (by kernel_rfl) (fun _ => rfl) (by decide) g3 (fun _ _ _ h => loan_trod h)
  exact ⟨⟨l0, l1, l2, l3⟩, ⟨a0, k0, a1, k1, a2, k2, a3, k3⟩, rfl, ⟨⟨s0, fun x hx => (q0 x hx).1, fun x hx => (q0 x hx).2.1, fun x hx => (q0 x hx).2.2⟩, s1, s2, s3, o0, o1, o2, o3⟩, b0, b3, b2, b1, q2⟩
theorem des_of {v : Value} {d : DataW H} {p : List MemPlace} (hv : Value.okWide Tryz.prog w .any base 28 v) (h : DataW.Trod enc Tryz.prog w 0 (fun _ => true) held 28 v d p) :
  ∃ (a : Option Addr) (cap : Nat) (l : List De), v = .slice a l.length cap ∧ l.length ≤ 9223372036854775807 ∧ SlOk a l.length cap ∧ DeAt w a l := by
 obtain ⟨a0, len0, cap0, rfl⟩ := okWide_slice Tryz.underlying28 hv
 obtain ⟨fuel, h⟩ := h
 obtain ⟨a, k, l, e, b, o, s, _⟩ := YJ (cells := Ul) Tryz.underlying28 (k := 6) (by kernel_rfl) (fun _ => rfl) (by decide) h (fun _ _ _ h => dec_trod h)
 exact ⟨a, k, l, e, b, o, s⟩
end Go.Proofs.YtajijcfikihhjaaGreatDoor
namespace Go.Proofs.YtajijcfikihhjaaGreatDoor
open Go.ChangeShapes Go.WideShapes Go.ChangeAt Go.RowKit Go.Deep Go.Sort
theorem ownT : ownKnob Tryz.prog.godebug = none := by kernel_rfl
theorem laidOutT : laidOutB Tryz.prog = true := by kernel_rfl
section
variable {H : Type} {enc : TypeId × Value → H} {P : Program} {w : World} {base : Nat} {spare : Nat → Bool} {held : Bool}
theorem args_3 {t0 t1 t2 : TypeId} {args : Array Value} {ds : List (DataW H)} {ps : List MemPlace} (h : DataW.TrodAll enc P w base spare held [t0, t1, t2] args.toList ds ps) :
  ∃ v0 v1 v2 d0 d1 d2 p0 p1 p2, args = #[v0, v1, v2] ∧ ds = [d0, d1, d2] ∧ DataW.Trod enc P w base spare held t0 v0 d0 p0 ∧ DataW.Trod enc P w base spare held t1 v1 d1 p1 ∧ DataW.Trod enc P w base spare held t2 v2 d2 p2 := by
 obtain ⟨v0, vs, d0, ds, p0, q0, e, rfl, rfl, h0, r0⟩ := trodAll_cons h
 obtain ⟨v1, vs, d1, ds, p1, q1, rfl, rfl, rfl, h1, r1⟩ := trodAll_cons r0
 obtain ⟨v2, vs, d2, ds, p2, q2, rfl, rfl, rfl, h2, r2⟩ := trodAll_cons r1
 obtain ⟨rfl, rfl, rfl⟩ := trodAll_nil r2
 exact ⟨v0, v1, v2, d0, d1, d2, p0, p1, p2, by cases args; simp_all, rfl, h0, h1, h2⟩
theorem args_4 {t0 t1 t2 t3 : TypeId} {args : Array Value} {ds : List (DataW H)} {ps : List MemPlace} (h : DataW.TrodAll enc P w base spare held [t0, t1, t2, t3] args.toList ds ps) :
  ∃ v0 v1 v2 v3 d0 d1 d2 d3 p0 p1 p2 p3, args = #[v0, v1, v2, v3] ∧ ds = [d0, d1, d2, d3] ∧ DataW.Trod enc P w base spare held t0 v0 d0 p0 ∧ DataW.Trod enc P w base spare held t1 v1 d1 p1 ∧ DataW.Trod enc P w base spare held t2 v2 d2 p2 ∧ DataW.Trod enc P w base spare held t3 v3 d3 p3 := by
 obtain ⟨v0, vs, d0, ds, p0, q0, e, rfl, rfl, h0, r0⟩ := trodAll_cons h
 obtain ⟨v1, v2, v3, d1, d2, d3, p1, p2, p3, e2, rfl, h1, h2, h3⟩ := args_3 (args := vs.toArray) (by simpa using r0)
 obtain rfl : vs = [v1, v2, v3] := by simpa using congrArg Array.toList e2
 exact ⟨v0, v1, v2, v3, d0, d1, d2, d3, p0, p1, p2, p3, by cases args; simp_all, rfl, h0, h1, h2, h3⟩
theorem trodAll_below {ts : List TypeId} {vs : List Value} {ds : List (DataW H)} {ps : List MemPlace} {W W' : World} (hl : laidOutB P = true) (hr : ∀ t ∈ ts, P.readableRec t = true ∧ t < P.types.size)
  (h : DataW.TrodAll enc P W 0 (fun _ => true) true ts vs ds ps) (hb : Below W.heap.size W W') (hlt : ∀ x ∈ ps, x.block < W.heap.size) : DataW.TrodAll enc P W' 0 (fun b => decide (b < W.heap.size)) true ts vs ds ps := by
 induction ts generalizing vs ds ps with
 | nil =>
  obtain ⟨rfl, rfl, rfl⟩ := trodAll_nil h
  rfl
 | cons t ts ih =>
  obtain ⟨v, vs, d, ds, p, q, rfl, rfl, rfl, h0, r⟩ := trodAll_cons h
  exact ⟨p, q, Below.trod hl (hr t (by simp)).1 (hr t (by simp)).2 h0 hb fun y hy => hlt y (List.mem_append_left _ hy), ih (fun t ht => hr t (by simp [ht])) r fun y hy => hlt y (List.mem_append_right _ hy), rfl⟩
end
theorem Qbe {n : Int} (h : (Lit.int .u8 n).wf = true) : 0 ≤ n ∧ n ≤ 255 := by
 simp [Lit.wf] at h
 have h1 : IntKind.u8.min = 0 := by decide
 have h2 : IntKind.u8.max = 255 := by decide
 rw [h1, h2] at h; exact h
end Go.Proofs.YtajijcfikihhjaaGreatDoor
