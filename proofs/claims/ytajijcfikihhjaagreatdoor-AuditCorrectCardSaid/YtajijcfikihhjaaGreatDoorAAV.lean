import Derived.Shelf.SlSortCmp.NoneTotal
import Derived.Test.YtajijcfikihhjaaGreatDoorAAU
set_option linter.unusedSimpArgs false
set_option linter.unusedVariables false
set_option maxRecDepth 100000
set_option maxHeartbeats 16000000
namespace Go.Proofs.YtajijcfikihhjaaGreatDoor
open Go.RowKit Go.Sort Go.Shelf
attribute [local go_sem] Oper.semAt_some
def marksOf (Ds : List Nat) : List Deferred := Ds.map fun D => { target := .collected D, args := #[] }
theorem leaves_marks {F : Fence} {n N0 : Nat} {P : Program} {fn : Func} {tmps : Array Value} {R : Ending → World → Prop} {u : FrameMode} (hu : u ≠ .run) : ∀ (Ds : List Nat) (w : World), Ds.Nodup → (∀ D ∈ Ds, N0 ≤ D ∧ w.heap[D]? = some (.deferred (some []))) →
  (∀ w', Calm N0 [] w w' → LeavesIn F n P fn tmps R [] u w') → LeavesInM F n P fn tmps R (marksOf Ds) u w
 | [], w, _, _, h => h w (Calm.refl _ _ _)
 | D :: Ds, w, hn, hD, h => by
  rw [List.nodup_cons] at hn
  have h0 := hD D (by simp)
  refine ⟨hu, .inl ⟨_, _, rfl, run_takeDeferred h0.2, ?_⟩⟩
  refine leaves_marks hu Ds _ hn.2 (fun D' hD' => ⟨(hD D' (by simp [hD'])).1, ?_⟩) (fun w' hw' => h w' ((Calm.put h0.1 h0.2 rfl).trans hw'))
  refine (World.putObj_heap_other ?_).trans (hD D' (by simp [hD'])).2
  rintro rfl
  exact hn.1 hD'
theorem eltLg : Elt Tryz.prog 29 44 3 40 lgRow := ⟨Tryz.underlying29, ⟨.agg #[.int .i64 0, .slice none 0 0, .int .u64 0], by kernel_rfl, rfl⟩, by decide, by decide, fun _ => rfl, fun x u hu => by simp [lgRow] at hu; rcases hu with rfl | rfl | rfl <;> rfl⟩
theorem nil_someLg (ad : Addr) (n cap : Nat) (w : World) : (binOp BinOp.eql 29 (.slice (some ad) n cap) (.slice none 0 0)).run Tryz.prog w = .ok (.bool false) w := by kernel_rfl
theorem nil_noneLg (w : World) : (binOp BinOp.eql 29 (.slice none 0 0) (.slice none 0 0)).run Tryz.prog w = .ok (.bool true) w := by kernel_rfl
theorem CloneLg_any (a : Option Addr) (cap : Nat) (l : List (Lg × Lq)) (w : World) (hl : l.length ≤ 100000) (hk : SlOk a l.length cap) (hr : SlAt w a 3 (l.map lgRow)) :
  Calls Tryz.prog 32 #[.slice a l.length cap] w fun e w' => ∃ v, e = .returned v ∧ OwnR w' w.heap.size 44 3 v (l.map lgRow) ∧ RowKit.Below w.heap.size w w' := by
 cases a with
 | none =>
  obtain rfl : l = [] := by have := YS hr; simpa using this
  obtain rfl : cap = 0 := hk.none rfl
  have hq := nil_noneLg w
  go_enter Tryz.func32, Tryz.ntmps32
  go_wp2
  go_ret
  exact ⟨_, rfl, OwnR.nil _ _ _ _, RowKit.Below.refl _ _⟩
 | some ad =>
  have HR := Qa hr; clear hr hk
  have hq := nil_someLg ad l.length cap w
  go_enter Tryz.func32, Tryz.ntmps32
  go_wp2_with (at_builtin; refine appE eltLg rfl (.tmp 5) (.tmp 6) rfl w.heap.size _ [] rfl (ZE _ _ _ _ (Nat.le_refl _)) _ _ _ l rfl rfl (fun e => by cases e) (SlAt.alloc HR.out _) (by simp; omega) (by simp) ?_; intro v2 w2 ho2 hg2; have HO2 := Qa ho2; have HB2 := Qa (Zy ((RowKit.Below.refl w.heap.size w).alloc (Nat.le_refl _) _) (ZE _ w.heap.size 44 3 (Nat.le_refl _)) (by simp) hg2); clear ho2 hg2)
  go_ret
  exact ⟨_, rfl, HO2.out, HB2.out⟩
def SortedLogs (l s : List (Lg × Lq)) (v : Value) (B : Nat) (w' : World) : Prop :=
 s.Perm l ∧ (s.Pairwise fun a b => a.1.st ≤ b.1.st) ∧ ∃ a cap, v = .slice a s.length cap ∧ SlAt w' a 3 (s.map lgRow) ∧ (∀ ad, a = some ad → B ≤ ad.block ∧ ∃ cs, w'.heap[ad.block]? = some (.cells cs 44 (0, 0)))
theorem sortAll_any (B : Nat) (v : Value) (l : List (Lg × Lq)) (w : World) (hl : l.length ≤ 100000) (hid : ∀ x ∈ l, 1 ≤ x.1.st ∧ x.1.st ≤ 1000000) (o : OwnR w B 44 3 v (l.map lgRow)) (hB : B ≤ w.heap.size) :
  Calls Tryz.prog 33 #[v, .func (.func 34) #[] #[]] w fun e w' => e = .returned (.tuple #[]) ∧ RowKit.Below B w w' ∧ ∃ s, SortedLogs l s v B w' := by
 by_cases h0 : l = []
 ·subst h0
  obtain ⟨a, cap0, ev, hok, hs⟩ := o.slAt
  simp only [List.map_nil, List.length_nil] at ev
  have hcells : ∀ ad, a = some ad → B ≤ ad.block ∧ ∃ cs, w.heap[ad.block]? = some (.cells cs 44 (0, 0)) := fun ad e => by
   subst e
   have ho : v.ownBlock = some ad.block := by rw [ev]; rfl
   exact ⟨(o.lt _ ho).1, o.isCells ho⟩
  subst ev
  refine (AnyF.slices_SortFunc_none (P := Tryz.prog) Lay.sortL a cap0 _ w).mono ?_
  rintro e w' ⟨rfl, rfl⟩
  exact ⟨rfl, RowKit.Below.refl _ _, [], .refl _, .nil, a, cap0, rfl, hs, hcells⟩
 ·refine (sortL_any B v l w h0 hl hid o hB).mono ?_
  rintro e w' ⟨s, g, cap, rfl, hp, hs, rfl, hsl, hb, hg, hc⟩
  exact ⟨rfl, hb, s, hp, hs, _, _, rfl, hsl, fun ad e => by cases e; exact ⟨hg, hc⟩⟩
theorem lgRows_get {w : World} {a : Option Addr} {l : List (Lg × Lq)} (h : SlAt w a 3 (l.map lgRow)) (i : Nat) (hi : i < l.length) : ∃ b off, a = some ⟨b, off, none⟩ ∧ w.cell? ⟨b, off + i * 3, none⟩ = some (.int .i64 l[i].1.st) ∧
  w.cell? ⟨b, off + i * 3 + 1, none⟩ = some (.slice l[i].2.a l[i].1.es.length l[i].2.c) ∧ w.cell? ⟨b, off + i * 3 + 2, none⟩ = some (.int .u64 l[i].1.ch) := by
 obtain ⟨b, off, e, _, _, hc⟩ := h i (lgRow l[i]) (by simp [hi])
 exact ⟨b, off, e, hc 0 _ rfl, hc 1 _ rfl, hc 2 _ rfl⟩
structure AuJ (L : Lb) (P : Lbp) (d : List De) (da : Option Addr) (dc : Nat) (g rs re ob Bo : Nat) (a8 : Option Addr) (s : List (Lg × Lq)) (w : World) (Ds : List Nat) (out : List Vd) (V : World) : Prop where
 aud : AudAt V g L P d da dc rs re
 low : Below w.heap.size w V
 srt : SlAt V a8 3 (s.map lgRow)
 typ : ∀ ad, a8 = some ad → ∃ cs, V.heap[ad.block]? = some (.cells cs 44 (0, 0))
 out : ∃ v, V.heap[ob]? = some (.cells #[v] 32) ∧ OwnR V Bo 46 3 v (out.map vdRow)
 nod : Ds.Nodup
 mks : ∀ D ∈ Ds, Bo ≤ D ∧ V.heap[D]? = some (.deferred (some []))
 size : Bo ≤ V.heap.size
theorem AuJ.below {L : Lb} {P : Lbp} {d : List De} {da : Option Addr} {dc g rs re ob Bo : Nat} {a8 : Option Addr} {s : List (Lg × Lq)} {w V V' : World} {Ds : List Nat} {out : List Vd} (h : AuJ L P d da dc g rs re ob Bo a8 s w Ds out V) (hb : Below V.heap.size V V') : AuJ L P d da dc g rs re ob Bo a8 s w Ds out V' := by
 obtain ⟨v, h1, h2⟩ := h.out
 exact ⟨h.aud.below hb, h.low.trans (hb.mono h.low.size), h.srt.below hb, fun ad e => by obtain ⟨cs, hc⟩ := h.typ ad e; exact ⟨cs, Qc hc hb⟩, ⟨v, Qc h1 hb, h2.below hb⟩, h.nod, fun D hD => ⟨(h.mks D hD).1, Qc (h.mks D hD).2 hb⟩, Nat.le_trans h.size hb.size⟩
theorem MapAt.calm {κ : Type} {enc : κ → Value} {B r k : Nat} {X Y : World} {m : List (κ × Value)} (hm : MapAt X enc k m) (h : Calm B [r] X Y) (hr : k ≠ r) (hB : k < B) : MapAt Y enc k m := by
 obtain ⟨⟨es, c, h1, h2⟩, h3⟩ := hm
 exact ⟨⟨es, c, h.obj k _ h1 (by rw [List.mem_singleton]; exact hr) (.inr hB), h2⟩, h3⟩
theorem SlAt.block {X Y : World} {a : Option Addr} {sz : Nat} {rows : List (List Value)} (h : SlAt X a sz rows) (hs : X.heap.size ≤ Y.heap.size) (hb : ∀ ad, a = some ad → Y.heap[ad.block]? = X.heap[ad.block]?) : SlAt Y a sz rows := fun i r hr => by
 obtain ⟨b, off, e, h1, h2, h3⟩ := h i r hr
 refine ⟨b, off, e, Nat.lt_of_lt_of_le h1 hs, h2, fun j v hv => ?_⟩
 have := hb _ e
 rw [← h3 j v hv]
 unfold World.cell?
 rw [this]
theorem AuJ.calm {L : Lb} {P : Lbp} {d : List De} {da : Option Addr} {dc g rs re ob Bo B r : Nat} {a8 : Option Addr} {s : List (Lg × Lq)} {w V V' : World} {Ds : List Nat} {out : List Vd} {cs : Array Value} (h : AuJ L P d da dc g rs re ob Bo a8 s w Ds out V) (hc : Calm B [r] V V') (hr : V.heap[r]? = some (.cells cs 80 (0, 0))) (hrB : Bo ≤ r) (hrw : w.heap.size ≤ r) (hm : rs < Bo ∧ re < Bo) (hB : Bo ≤ B) (hwB : w.heap.size ≤ Bo) (hD : ∀ D ∈ Ds, D < B) : AuJ L P d da dc g rs re ob Bo a8 s w Ds out V' := by
 obtain ⟨v, h1, h2⟩ := h.out
 have ne : ∀ k cs' T fr, V.heap[k]? = some (.cells cs' T fr) → T ≠ 80 → k ∉ [r] := fun k cs' T fr hk hT e => by
  rw [List.mem_singleton] at e
  subst e
  rw [hr] at hk; cases hk; exact hT rfl
 have kc : ∀ {k : Nat} {cs' : Array Value} {T : TypeId} {fr : Nat × Nat}, V.heap[k]? = some (.cells cs' T fr) → T ≠ 80 → V'.heap[k]? = some (.cells cs' T fr) := fun hk hT => hc.obj _ _ hk (ne _ _ _ _ hk hT) (.inl rfl)
 refine ⟨⟨kc h.aud.box (by decide), h.aud.shs.calm hc (by omega) (by omega), h.aud.eds.calm hc (by omega) (by omega)⟩, h.low.trans (hc.low (by omega) (by have := h.size; omega) (fun k hk => by rw [List.mem_singleton] at hk; omega)), h.srt.block hc.size (fun ad e => ?_), fun ad e => ?_, ⟨v, kc h1 (by decide), ?_⟩, h.nod, fun D hD' => ⟨(h.mks D hD').1, hc.obj D _ (h.mks D hD').2 ?_ (.inr (hD D hD'))⟩, Nat.le_trans h.size hc.size⟩
 ·obtain ⟨cs', hk⟩ := h.typ ad e
  rw [kc hk (by decide), hk]
 ·obtain ⟨cs', hk⟩ := h.typ ad e
  exact ⟨cs', kc hk (by decide)⟩
 ·obtain ⟨o1, o2, o3⟩ := h2
  refine ⟨o1, o2, ?_⟩
  rcases o3 with o3 | ⟨gg, cap, cur, e, hg, hk, o4⟩
  ·exact .inl o3
  ·exact .inr ⟨gg, cap, cur, e, hg, kc hk (by decide), o4⟩
 ·rw [List.mem_singleton]
  rintro rfl
  rw [(h.mks _ hD').2] at hr; cases hr
theorem AuJ.keepV {L : Lb} {P : Lbp} {d : List De} {da : Option Addr} {dc g rs re ob Bo B : Nat} {a8 : Option Addr} {s : List (Lg × Lq)} {w V V' : World} {Ds : List Nat} {out out' : List Vd} (h : AuJ L P d da dc g rs re ob Bo a8 s w Ds out V) (hk : KeepV B w.heap.size ob V V') (hsz : V.heap.size ≤ V'.heap.size) (hne : g ≠ ob ∧ rs ≠ ob ∧ re ≠ ob) (hB : rs < B ∧ re < B) (hD : ∀ D ∈ Ds, D < B) (hob : ob < Bo)
  (ho : ∃ v, V'.heap[ob]? = some (.cells #[v] 32) ∧ OwnR V' Bo 46 3 v (out'.map vdRow)) : AuJ L P d da dc g rs re ob Bo a8 s w Ds out' V' := by
 obtain ⟨v0, h1, _⟩ := h.out
 have ht : ∀ ad, a8 = some ad → ∃ cs, V.heap[ad.block]? = some (.cells cs 44 (0, 0)) ∧ V'.heap[ad.block]? = some (.cells cs 44 (0, 0)) := fun ad e => by
  obtain ⟨cs, hc⟩ := h.typ ad e
  exact ⟨cs, hc, hk.cells hc (fun e => by rw [e, h1] at hc; cases hc) (by decide)⟩
 refine ⟨⟨hk.cells h.aud.box hne.1 (by decide), hk.map h.aud.shs hne.2.1 hB.1, hk.map h.aud.eds hne.2.2 hB.2⟩, h.low.trans hk.low, h.srt.block hsz (fun ad e => ?_), fun ad e => ?_, ho, h.nod, fun D hd => ⟨(h.mks D hd).1, hk.obj D _ (h.mks D hd).2 (by have := (h.mks D hd).1; omega) (fun _ _ e => by cases e) (.inr (hD D hd))⟩, Nat.le_trans h.size hsz⟩
 ·obtain ⟨cs, hc, hc'⟩ := ht ad e
  rw [hc, hc']
 ·obtain ⟨cs, hc, hc'⟩ := ht ad e
  exact ⟨cs, hc'⟩
def fixV (st : Int) (v : Vd) : Vd := ⟨st, v.rule, v.en⟩
theorem fix_V0 (L : Lb) (d : List De) (x : Lg) : (V0 L d x).map (fixV x.st) = V0 L d x := by
 conv => rhs; rw [← List.map_id (V0 L d x)]
 refine List.map_congr_left fun v hv => ?_
 have := (verdsOf_en L d x.st x.es 0 0 0 v hv).1
 cases v; subst this; rfl
theorem QY (L : Lb) (P : Lbp) (d : List De) (da : Option Addr) (dc : Nat) (l : List (Lg × Lq)) (a : Option Addr) (cap : Nat) (w : World) (hf : LbFew L) (hbl : ∀ x ∈ L.ws, x.1.bars.length ≤ 1000) (hdl : d.length ≤ 1000) (hlf : LgFew l) (hE : EnvP w) (hL : LbAt w L P) (hd : DeAt w da d) (hak : SlOk a l.length cap) (ha : LgsAt w a l) :
  Calls Tryz.prog 11 #[.agg #[.slice P.wa L.ws.length P.wc, .slice P.ea L.eds.length P.ec, .slice P.sa L.shs.length P.sc, .slice P.la L.los.length P.lc], .slice da d.length dc, .slice a l.length cap] w (RetSlI 3 ((QN L d (Qp l)).1.map vdRow) (QN L d (Qp l)).2 w) := by
 have HX := Qa (heap_alloc_new w (.cells #[.slice P.wa L.ws.length P.wc, .slice P.ea L.eds.length P.ec, .slice P.sa L.shs.length P.sc, .slice P.la L.los.length P.lc] 27))
 have HB := Qa (Qg (w := w) (.cells #[.slice P.wa L.ws.length P.wc, .slice P.ea L.eds.length P.ec, .slice P.sa L.shs.length P.sc, .slice P.la L.los.length P.lc] 27))
 have hln : (Qp l).length ≤ 200 := by have := hlf.len; simpa [Qp] using this
 have HNa := Qa (fun V (hV : Below w.heap.size w V) => newAuditor_any L P d da dc V hf hdl (hL.below hV) (SlAt.below hd hV))
 have HLo := Qa (fun V (hV : Below w.heap.size w V) => areLogs_any a cap l V hlf (hE.below hV) (ha.below hV))
 have HCl := Qa (fun V (hV : Below w.heap.size w V) => CloneLg_any a cap l V (by have := hlf.len; omega) hak (ha.rows.below hV))
 have hlf200 := hlf.len
 have h200 : decide ((l.length : Int) > 200) = false := decide_eq_false (by omega)
 generalize hR : QN L d (Qp l) = R
 have HR := Qa hR.symm
 clear hR
 obtain ⟨RV, RE⟩ := R
 dsimp only
 refine (callsIn_wide (n := 9)).1 ?_
 refine callsIn_of_wp_marks Tryz.func11 rfl trivial ?_ rfl
 simp only [Tryz.ntmps11, List.size_toArray, List.length_cons, List.length_nil, Nat.reduceAdd, Nat.reduceSub, Array.replicate_succ, Array.replicate_zero, List.push_toArray, List.append_toArray, List.nil_append, List.cons_append]
 refine wpIn_wide.2 ?_
 cases h1 : libB L d
 ·have HE := Qa (HR.out.trans (Jl hln (.inl h1)))
  rw [h1] at HNa
  clear h1 HR
  go_upto_region 1 with (fail)
  generalize w.alloc _ = W at *
  have hc := Qb HX.out
  go_wp2_with (go_at_call 30; refine (HNa.out _ HB.out).mono ?_; rintro e5 w5 ⟨g, rs, re, rfl, _, hb5⟩)
  refine ⟨_, results_tmp2 rfl _ _ _, ?_⟩
  cases HE.out
  exact RetSlI.none (HB.out.trans (hb5.mono HB.out.size))
 cases h2 : QU (Qp l)
 ·have HE := Qa (HR.out.trans (Jl hln (.inr h2)))
  rw [h1] at HNa
  rw [h2] at HLo
  clear h1 h2 HR
  go_upto_region 1 with (fail)
  generalize w.alloc _ = W at *
  have hc := Qb HX.out
  go_wp2_with (first | (go_at_call 30; refine (HNa.out _ HB.out).mono ?_; rintro e5 w5 ⟨g, rs, re, rfl, _, hb5⟩; clear hc; replace HB := bu HB hb5; clear hb5) | (go_at_call 31; refine (HLo.out _ HB.out).mono ?_; rintro e5 w5 ⟨rfl, hb5⟩))
  refine ⟨_, results_tmp2 rfl _ _ _, ?_⟩
  cases HE.out
  exact RetSlI.none (HB.out.trans (hb5.mono HB.out.size))
 have HE := Qa (HR.out.trans (ZL hln h1 h2))
 have hlo := logsB_ok h2
 have HNd := Qa hlo.2
 have HSt := Qa (show ∀ y ∈ l, (1 ≤ y.1.st ∧ y.1.st ≤ 1000000) ∧ ∀ e ∈ y.1.es, Qt e = true from fun y hy => hlo.1 y.1 (List.mem_map.2 ⟨_, hy, rfl⟩))
 have HVd := Qa (Qaq h1)
 rw [h1] at HNa
 rw [h2] at HLo
 clear h1 h2 HR hlo
 go_upto_region 1 with (fail)
 generalize w.alloc _ = W at *
 have hc := Qb HX.out
 go_upto_region 6 with (first | (go_at_call 30; refine (HNa.out _ HB.out).mono ?_; rintro e5 w5 ⟨g, rs, re, rfl, hau, hb5⟩; clear hc HX; replace HB := bu HB hb5; have HA := Qa hau; clear hau hb5) | (go_at_call 31; refine (HLo.out _ HB.out).mono ?_; rintro e6 w6 ⟨rfl, hb6⟩; replace HA := Qa (HA.out.below hb6); replace HB := bu HB hb6; clear hb6))
 clear HNa HLo
 go_wp2_with (first | (go_at_call 32; refine (HCl.out _ HB.out).mono ?_; rintro e7 w7 ⟨v7, rfl, ho7, hb7⟩; have HA7 := Qa (HA.out.below hb7); have HB7 := bu HB hb7; have HO7 := Qa ho7; have HZ7 := Qa hb7.size; have HB67 := Qa hb7; clear hb7 ho7) | (go_at_call 33; refine (sortAll_any w6.heap.size _ l w7 (by omega) (fun x hx => (HSt.out x hx).1) HO7.out HZ7.out).mono ?_; rintro e8 w8 ⟨rfl, hb8, s, hp8, hs8, a8, c8, rfl, hsl8, hcs8⟩))
 have HA8 := Qa (HA.out.below (HB67.out.trans hb8))
 have hg8 : g < w8.heap.size ∧ rs < w8.heap.size ∧ re < w8.heap.size := by
  have lt : ∀ {κ : Type} {enc : κ → Value} {j : Nat} {m : List (κ × Value)}, MapAt w8 enc j m → j < w8.heap.size := fun hm => by
   obtain ⟨⟨es, c, h1, _⟩, _⟩ := hm; exact Qd h1
  exact ⟨Qd HA8.out.box, lt HA8.out.shs, lt HA8.out.eds⟩
 have HB8 := Qa (HB7.out.trans (hb8.mono HB.out.size))
 have HJ := Qa (show AuJ L P d da dc g rs re w8.heap.size (w8.heap.size + 1) a8 s w [] [] (w8.alloc (.cells #[.slice none 0 0] 32)) from
  ⟨HA8.out.below (Qg _), HB8.out.alloc HB8.out.size _, hsl8.below (Qg _), fun ad e => by obtain ⟨cs, hc⟩ := (hcs8 ad e).2; exact ⟨cs, Qc hc (Qg _)⟩, ⟨_, heap_alloc_new w8 _, OwnR.nil _ _ _ _⟩, by simp, fun D hD => (by cases hD), by simp⟩)
 have hwo := HB8.out.size
 have HSr := Qa (show Zc L d (Qp l) = s.flatMap fun y => V0 L d y.1 by
  have h := sortSt_eq (s := Qp s) HNd.out (hp8.map Prod.fst) (List.pairwise_map.2 hs8)
  rw [Zc, ← h]; unfold Qp; rw [List.flatMap_map])
 have HMs := Qa (show ∀ y ∈ s, y ∈ l from fun y hy => hp8.mem_iff.1 hy)
 have hsl : s.length = l.length := hp8.length_eq
 have hs200 : s.length ≤ 200 := by omega
 have HVl := Qa (show ∀ k, ((s.take k).flatMap fun y => V0 L d y.1).length ≤ 320000 from fun k => by
  have h3 := flatV_len L d (Qp (s.take k)) 800 (fun x hx => by
   obtain ⟨y, hy, rfl⟩ := List.mem_map.1 hx
   exact hlf.es y (HMs.out y (List.mem_of_mem_take hy)))
  unfold Qp at h3
  rw [List.flatMap_map, List.length_map, List.length_take] at h3
  refine Nat.le_trans h3 (Nat.le_trans (Nat.mul_le_mul_right _ (show min k s.length ≤ 200 by omega)) (by decide)))
 clear hb8 hp8 hs8 hsl8 hcs8 HA HA7 HA8 HB67 HB7 HB8 HO7 HZ7 HB HCl HNd hsl hlf200 h200 hln
 generalize w8.alloc (.cells #[.slice none 0 0] 32) = W9 at *
 generalize w8.heap.size = ob at *
 refine (wpIn_wide (n := 9)).1 ?_
 refine wpIn_loop (fun A V => ∃ (k : Nat) (u13 u14 u40 u41 u42 u43 u44 u45 u46 u47 u48 u49 u50 u61 : Value) (Ds : List Nat), A = { tmps := #[.agg #[.slice P.wa L.ws.length P.wc, .slice P.ea L.eds.length P.ec, .slice P.sa L.shs.length P.sc, .slice P.la L.los.length P.lc], .slice da d.length dc, .slice a l.length cap, .pointer (some ⟨w.heap.size, 0, none⟩), undef, undef, .slice none 0 0, .int .i64 0, .pointer (some ⟨g, 0, none⟩), .bool true, .slice a8 s.length c8, .pointer (some ⟨ob, 0, none⟩), undef, u13, u14, undef, undef, .slice a l.length cap, .int .i64 l.length, .bool false, .tuple #[.pointer (some ⟨g, 0, none⟩), .bool true], .agg #[.slice P.wa L.ws.length P.wc, .slice P.ea L.eds.length P.ec, .slice P.sa L.shs.length P.sc, .slice P.la L.los.length P.lc], .slice da d.length dc, .tuple #[.pointer (some ⟨g, 0, none⟩), .bool true], .pointer (some ⟨g, 0, none⟩), .bool true, .bool true, .bool false, .bool false, .slice a l.length cap, .bool true, .bool false, .bool false, .slice a l.length cap, .slice a8 s.length c8, .slice a8 s.length c8, .tuple #[], .slice a8 s.length c8, .int .i64 s.length, .int .i64 ((k : Nat) : Int), u40, u41, u42, u43, u44, u45, u46, u47, u48, u49, u50, undef, undef, undef, undef, undef, undef, undef, undef, undef, undef, u61, undef], defers := marksOf (Ds) } ∧ k ≤ s.length ∧ AuJ L P d da dc g rs re ob (ob + 1) a8 s w Ds ((s.take k).flatMap fun y => V0 L d y.1) V) (fun A _ => s.length - (intOf (A.tmps.getD 39 undef)).toNat) ?_ ?_
 ·exact ⟨0, undef, undef, undef, undef, undef, undef, undef, undef, undef, undef, undef, undef, undef, undef, [], rfl, Nat.zero_le _, HJ.out⟩
 rintro _ V ⟨k, u13, u14, u40, u41, u42, u43, u44, u45, u46, u47, u48, u49, u50, u61, Ds, rfl, hk, hj⟩
 have HJ1 := Qa hj
 clear hj HJ
 by_cases hlt : k < s.length
 ·obtain ⟨b, off, ea, d0, d1, d2⟩ := lgRows_get HJ1.out.srt k hlt
  have hki : (k : Int) < (s.length : Int) := by omega
  have hwk : IntKind.i64.wrap ((k : Int) + 1) = (k : Int) + 1 := IntWalk.i64_in _ (by omega)
  have HSk := Qa (show (s.take (k + 1)).flatMap (fun y => V0 L d y.1) = (s.take k).flatMap (fun y => V0 L d y.1) ++ V0 L d s[k].1 by rw [List.take_succ_eq_append_getElem hlt, List.flatMap_append]; simp)
  have hvl := HVl.out k
  have hml := HMs.out _ (List.getElem_mem hlt)
  have hes := hlf.es _ hml
  have hok := (HSt.out _ hml).2
  have hea := ha.es _ hml
  generalize (s.take k).flatMap (fun y => V0 L d y.1) = base at *
  generalize s[k] = y at *
  obtain ⟨x, p⟩ := y
  dsimp only at *
  subst ea
  refine wpIn_wide.2 ?_
  go_upto_region 13 with (fail)
  obtain ⟨x1, x2, hb2⟩ := box2 (w := V) (A := .cells #[.int .i64 x.st, .slice p.a x.es.length p.c, .int .u64 x.ch] 44) (B := .cells #[.pointer (some ⟨g, 0, none⟩), .int .i64 (x.st), .int .i64 (0), .int .i64 (0)] 80) (Below.refl _ _)
  have HJ2 := Qa (HJ1.out.below hb2)
  have hVs := HJ1.out.size
  have hmD := fun D hD => Qd (HJ1.out.mks D hD).2
  have h2s : V.heap.size + 1 < ((V.alloc (.cells #[.int .i64 x.st, .slice p.a x.es.length p.c, .int .u64 x.ch] 44)).alloc (.cells #[.pointer (some ⟨g, 0, none⟩), .int .i64 (x.st), .int .i64 (0), .int .i64 (0)] 80)).heap.size := Qd x2
  clear d0 d1 d2 hb2 HJ1
  generalize (V.alloc (.cells #[.int .i64 x.st, .slice p.a x.es.length p.c, .int .u64 x.ch] 44)).alloc (.cells #[.pointer (some ⟨g, 0, none⟩), .int .i64 (x.st), .int .i64 (0), .int .i64 (0)] 80) = V2 at *
  generalize V.heap.size = xb at *
  have hcx := Qb x1
  go_wp2_with (go_at_call 35; refine (all_it_any x p.a p.c (xb + 1) V2).mono ?_; rintro e vr ⟨lb, km, kb, rfl, h1, h2, h3, l1, l2, l3, hb3⟩)
  have HJ3 := Qa (HJ2.out.below hb3)
  have hx1 := Qc x1 hb3; have hx2 := Qc x2 hb3
  have hv3 := hb3.size
  have hkm : km < vr.heap.size := by obtain ⟨⟨es, c, h, _⟩, _⟩ := h3; exact Qd h
  have HS := Qa (show ItS L P d da dc x p g rs re (xb + 1) lb km kb w vr 0 0 from ⟨HJ3.out.low, HJ3.out.aud, hx2, h1, h2, h3⟩)
  clear hcx x1 x2 hb3 HJ2 h1 h2 h3
  refine (wpIn_wide (n := 9)).1 ?_
  refine rangeFunc_x (α := Vd) rfl (by omega) (gf := 66) (lb := #[.pointer (some ⟨lb, 0, none⟩), .pointer (some ⟨kb, 0, none⟩)]) rfl trivial (enters_of Tryz.func66 (by kernel_rfl) rfl) (encs := fun v : Vd => #[.int .i64 v.en, .int .i64 v.rule]) (fun _ => rfl)
   (Kp := KeepV vr.heap.size w.heap.size ob) (S := fun xs => xs = V0 L d x) (N := 1600) (Rs := [xb + 1]) ?hRs ?hseq KeepV.trans ?hKb
   (fun pre V' => AuJ L P d da dc g rs re ob (ob + 1) (some ⟨b, off, none⟩) s w Ds (base ++ pre.map (fixV x.st)) V' ∧ V'.heap[xb]? = some (.cells #[.int .i64 x.st, .slice p.a x.es.length p.c, .int .u64 x.ch] 44) ∧ (∃ cs, V'.heap[xb + 1]? = some (.cells cs 80 (0, 0))) ∧ vr.heap.size ≤ V'.heap.size) ?hI
   (fun _ _ => False) (fun _ _ _ h _ => h) ⟨by rw [List.map_nil, List.append_nil]; exact HJ3.out, hx1, ⟨_, hx2⟩, Nat.le_refl _⟩
   (fun v a' _ => a' = (?G : Vd → Act) v) ?hAx ?hassign ?hbody ?hdone (fun _ _ _ _ h _ => h.elim)
  case hassign =>
   rintro l0 pre v V' K hI hK
   gi_wp2
   refine hK _ _ ⟨Nat.le_refl _, fun _ _ _ h _ => h⟩ ⟨RowKit.Below.refl _ _, fun _ _ h _ _ _ => h⟩ hI ?_
   rfl
  case hRs => intro j hj; rw [List.mem_singleton] at hj; omega
  case hseq =>
   exact it_any 8 (by omega) L P d da dc x p g rs re (xb + 1) lb km kb ob 1600 w vr hf hbl hdl hL hd HVd.out.1 HVd.out.2 hes hok hea HS.out (by omega) ⟨by omega, by omega, by omega, by omega, by omega, by omega, by omega⟩ (by omega) (by omega)
  case hKb =>
   intro W' l0 o o' hl0 hW' hc'
   exact KeepV.put (by have := HJ3.out.low.size; omega) hl0 hW' hc'
  case hI =>
   rintro pre X Y ⟨i1, i2, ⟨cs, i3⟩, i4⟩ hc'
   refine ⟨i1.calm hc' i3 (by omega) (by omega) (by omega) (by omega) (by omega) (fun D hD => ?_), hc'.obj _ _ i2 (by rw [List.mem_singleton]; omega) (.inl rfl), hc'.typ _ _ _ _ i3, Nat.le_trans i4 hc'.size⟩
   have := hmD D hD; omega
  case hAx => rintro v a' u V' V'' row h _ _; exact h
  case hbody =>
   rintro l0 pre v a' V' hl0 ⟨i1, i2, ⟨cs, i3⟩, i4⟩ rfl hlt'
   obtain ⟨vv, o1, o2⟩ := i1.out
   have HI := Qa i1; have HV := Qa i2; have HR := Qa i3; have HO := Qa o2
   have hc := Qb o1; have hd := Qb i2
   have hob := Qd o1
   have hpl : (base ++ pre.map (fixV x.st) ++ [fixV x.st v]).length ≤ 1048576 := by simp; omega
   have hisz := i1.size
   rw [List.map_append, ← List.append_assoc, List.map_singleton]
   clear i1 i2 i3 o2
   generalize base ++ pre.map (fixV x.st) = LST at *
   gi_wp2_with (gi_at_builtin; go_must (refine appEIn eltVd rfl (.tmp 53) (.tmp 59) rfl (ob + 1) _ LST rfl (HO.out.below (Qg _)) _ _ _ [fixV x.st v] rfl rfl (by simp) (eltVd.new _ _ _ _ rfl) (by simpa using hpl) (by simp; omega) ?_); intro v5 w5 ho5 hg5; have hko5 := (hg5.block _ (by simp; omega) (HO.out.neBlk (by omega))).trans (Qj o1 _); have c5 := Qb hko5; have f5 := Qe hko5; obtain ⟨a9, c9, e9, _, _⟩ := ho5.slAt; rw [show ((LST ++ [fixV x.st v]).map vdRow).length = LST.length + 1 by simp] at e9; subst e9)
   obtain ⟨Wa, hWa⟩ : ∃ Wa, Wa = V'.alloc (.cells ((List.map vdRow [fixV x.st v]).flatten.toArray) 46 (0, 0)) := ⟨_, rfl⟩
   replace hg5 : Wa.grownBy w5 vv.ownBlock := by rw [hWa]; exact hg5
   have hza : Wa.heap.size = V'.heap.size + 1 := by rw [hWa]; simp
   have hbo : ∀ k o, V'.heap[k]? = some o → Wa.heap[k]? = some o := fun k o h => by rw [hWa]; exact Qj h _
   have hbw : Below w.heap.size V' Wa := by rw [hWa]; exact (Below.refl _ _).alloc (by omega) _
   have hz5 := hg5.size
   have hsame : ∀ k o, V'.heap[k]? = some o → k ≠ ob → some k ≠ vv.ownBlock → (w5.setCell ⟨ob, 0, none⟩ (.slice a9 (LST.length + 1) c9)).heap[k]? = some o := fun k o h1 h2 h3 =>
    (heap_setCell_other _ _ _ _ (show k ≠ ob from h2)).trans ((hg5.block k (by have := Qd h1; omega) h3).trans (hbo k o h1))
   have hown : ∀ k, some k = vv.ownBlock → ob + 1 ≤ k ∧ ∃ cs, V'.heap[k]? = some (.cells cs 46 (0, 0)) := fun k e => ⟨(HO.out.lt k e.symm).1, HO.out.isCells e.symm⟩
   have hkv : KeepV vr.heap.size w.heap.size ob V' (w5.setCell ⟨ob, 0, none⟩ (.slice a9 (LST.length + 1) c9)) := ⟨(hbw.grown hg5 (by omega) (fun k e => by have := (hown k e.symm).1; omega)).setCell (p := ⟨ob, 0, none⟩) (by show w.heap.size ≤ ob; omega) _, fun k o h1 h2 h3 _ => hsame k o h1 h2 (fun e => by
    obtain ⟨cs', hk⟩ := (hown k e).2
    rw [h1] at hk; cases hk; exact h3 _ _ rfl)⟩
   have hsz6 : V'.heap.size ≤ (w5.setCell ⟨ob, 0, none⟩ (.slice a9 (LST.length + 1) c9)).heap.size := by simp; omega
   refine ⟨⟨hsz6, fun k o hk h0 ho => hsame k o h0 (by omega) (fun e => by
     obtain ⟨cs', hc'⟩ := (hown k e).2
     rw [h0] at hc'; cases hc'; cases ho)⟩, hkv, HI.out.keepV hkv hsz6 ⟨by omega, by omega, by omega⟩ ⟨by omega, by omega⟩ (fun D hD => by have := hmD D hD; omega) (by omega) ⟨_, heap_setCell_same _ _ _ _ _ _ hko5, by simpa using ho5.setOther (show ob < ob + 1 by omega) _⟩, hkv.cells HV.out (by omega) (by decide), ?_, Nat.le_trans i4 hsz6⟩
   exact ⟨_, hkv.cells HR.out (by omega) (by decide)⟩
  case hdone =>
   rintro D xs V' rfl rfl ⟨i1, i2, i3, i4⟩ hK
   rw [fix_V0, ← HSk.out] at i1
   gi_wp2
   go_wp2
   refine ⟨⟨k + 1, _, _, _, _, _, _, _, _, _, _, _, _, _, _, vr.heap.size :: Ds, rfl, by omega, ?_⟩, by simp [intOf]; omega⟩
   refine ⟨i1.aud, i1.low, i1.srt, i1.typ, i1.out, List.nodup_cons.2 ⟨fun h => ?_, i1.nod⟩, fun D hD => ?_, i1.size⟩
   ·have := hmD _ h; omega
   ·rcases List.mem_cons.1 hD with rfl | h
    ·exact ⟨by omega, hK⟩
    ·exact i1.mks D h
 ·obtain rfl : k = s.length := by omega
  rw [List.take_length, ← HSr.out] at HJ1
  obtain ⟨v, hv1, hv2⟩ := HJ1.out.out
  obtain ⟨a9, c9, rfl, hs9, hi9⟩ := hv2.slAt
  have hob := Qd hv1
  have hc := Qb hv1
  gi_wp2
  go_wp2
  refine leaves_marks (by simp) Ds _ HJ1.out.nod (fun D hD => HJ1.out.mks D hD) (N0 := ob + 1) (fun w' hq => ⟨_, results_tmp2 rfl _ _ _, ?_⟩)
  have HL := HJ1.out.low.trans (hq.low (by omega) (by have := HJ1.out.size; omega) (fun _ h => by cases h))
  cases HE.out
  refine ⟨a9, c9, by simp, by simpa using hs9, ?_, HL⟩
  refine hi9.block hq.size (fun ad e => ?_)
  subst e
  obtain ⟨cs', hk⟩ := hv2.isCells (k := ad.block) rfl
  rw [hk]
  exact hq.obj _ _ hk (by simp) (.inl rfl)
open Go.Shelf
def Lay.compactI_ren : Go.Shelf.Ren := ⟨fun | 20 => 40 | n => n, fun | 22 => 37 | 3 => 3 | 4 => 4 | 0 => 0 | n => n, fun | n => n⟩
theorem Lay.compactI : Go.Proofs.Lays2.n20 Tryz.prog Lay.compactI_ren := {
 mixed := by kernel_rfl
 f20 := Tryz.func40.trans (congrArg some (by kernel_rfl))
 t0 := Tryz.underlying0
 a0 := Tryz.isAgg0
 z0 := Tryz.sizeOf0
 v0 := Tryz.zeroValue0
 t3 := Tryz.underlying3
 a3 := Tryz.isAgg3
 z3 := Tryz.sizeOf3
 v3 := Tryz.zeroValue3
 t4 := Tryz.underlying4
 a4 := Tryz.isAgg4
 z4 := Tryz.sizeOf4
 v4 := Tryz.zeroValue4
 t22 := Tryz.underlying37
 a22 := Tryz.isAgg37
 z22 := Tryz.sizeOf37
 v22 := Tryz.zeroValue37
 i3 := by kernel_rfl }
def JT (L : Lb) (d : List De) (l : List Lg) : List Int × Int := (Lib.compact ((QN L d l).1.map Vd.st), (QN L d l).2)
theorem compactUpTo_le {α : Type} [DecidableEq α] [Inhabited α] (d : Array α) : ∀ m, (Lib.compactUpTo d m).length ≤ m
 | 0 => by simp [Lib.compactUpTo]
 | m + 1 => by
  rw [Lib.compactUpTo_succ, List.length_append]
  have := compactUpTo_le d m
  split <;> simp <;> omega
theorem CompactIn_any (B : Nat) (v : Value) (l : List Int) (w : World) (hl : l.length ≤ 1000000) (ho : OwnR w B 3 1 v (l.map inRow)) :
  Calls Tryz.prog 40 #[v] w fun e w' => ∃ a c, e = .returned (.slice a (Lib.compact l).length c) ∧ SlOk a (Lib.compact l).length c ∧ InAt w' a (Lib.compact l) ∧ Below B w w' := by
 obtain ⟨_, _, ⟨rfl, hn0⟩ | ⟨g, cap, cur, rfl, hg, hc, hcap, hmax, hsz, htk⟩⟩ := ho
 ·simp at hn0; subst hn0
  refine (Any.slices_Compact_int_empty Lay.compactI none 0 w).mono ?_
  rintro e w' ⟨rfl, rfl⟩
  exact ⟨none, 0, rfl, SlOk.nil, SlAt.nil _ _ _, Below.refl _ _⟩
 rw [List.length_map] at hcap htk
 rw [JJ, Nat.mul_one] at htk
 rw [List.length_map]
 have hH : Holds (Value.int .i64) w g 0 l.toArray := fun j hj => by
  have hj' : j < l.length := by simpa using hj
  rw [Nat.zero_add]
  refine ⟨?_, Qe hc _⟩
  rw [Qb hc, ← Array.getElem?_toList]
  have h1 : (cur.toList.take l.length)[j]? = some (.int .i64 l[j]) := by rw [htk]; simp [hj']
  rw [List.getElem?_take] at h1
  simpa [hj'] using h1
 have hle : (Lib.compact l).length ≤ l.length := compactUpTo_le _ _
 refine (Any.slices_Compact_int Lay.compactI g 0 cap l w hH (by omega) hcap).mono ?_
 rintro e w' ⟨rfl, q, rfl⟩
 have h2 := holds_putRow (Value.int .i64) (Sort.ahead w q) g 0 l.toArray (Lib.compact l ++ List.replicate (l.length - (Lib.compact l).length) 0).toArray (holds_ahead _ w q g 0 _ hH) (by simp; omega)
 refine ⟨_, _, rfl, ZQ (by omega), YA (by have := Qd hc; simpa [putRow, mapBlock, Sort.ahead] using this) (fun j hj => ?_), Lib.below_putRow (Below.refl B w) hg⟩
 have := (h2 j (by simp; omega)).1
 rw [Nat.zero_add] at this
 rw [this, getElem!_pos _ j (by simp; omega)]
 simp [hj]
theorem PStands39_any (L : Lb) (P : Lbp) (d : List De) (da : Option Addr) (dc : Nat) (l : List (Lg × Lq)) (a : Option Addr) (cap : Nat) (w : World) (hf : LbFew L) (hbl : ∀ x ∈ L.ws, x.1.bars.length ≤ 1000) (hdl : d.length ≤ 1000) (hlf : LgFew l) (hE : EnvP w) (hL : LbAt w L P) (hd : DeAt w da d) (hak : SlOk a l.length cap) (ha : LgsAt w a l) :
  Calls Tryz.prog 14 #[.agg #[.slice P.wa L.ws.length P.wc, .slice P.ea L.eds.length P.ec, .slice P.sa L.shs.length P.sc, .slice P.la L.los.length P.lc], .slice da d.length dc, .slice a l.length cap] w (RetSlI 1 ((JT L d (Qp l)).1.map inRow) (JT L d (Qp l)).2 w) := by
 have HX := Qa (heap_alloc_new w (.cells #[.slice P.wa L.ws.length P.wc, .slice P.ea L.eds.length P.ec, .slice P.sa L.shs.length P.sc, .slice P.la L.los.length P.lc] 27))
 have HB := Qa (Qg (w := w) (.cells #[.slice P.wa L.ws.length P.wc, .slice P.ea L.eds.length P.ec, .slice P.sa L.shs.length P.sc, .slice P.la L.los.length P.lc] 27))
 have HAu := Qa (fun V (hV : Below w.heap.size w V) => QY L P d da dc l a cap V hf hbl hdl hlf (hE.below hV) (hL.below hV) (SlAt.below hd hV) hak (ha.below hV))
 have hvl : (QN L d (Qp l)).1.length ≤ 320000 := by
  unfold QN
  split
  ·simp
  split
  ·simp
  ·have h3 := flatV_len L d (Za (Qp l)) 800 (fun x hx => by
    obtain ⟨y, hy, rfl⟩ := List.mem_map.1 ((Q8 (Qp l)).mem_iff.1 hx)
    exact hlf.es y hy)
   have h4 : (Za (Qp l)).length = l.length := by rw [(Q8 (Qp l)).length_eq]; unfold Qp; simp
   rw [h4] at h3
   have := hlf.len
   unfold Zc
   refine Nat.le_trans h3 (Nat.le_trans (Nat.mul_le_mul_right _ this) (by decide))
 clear hf hbl hdl hlf hE hL hd hak ha
 unfold JT
 generalize QN L d (Qp l) = R at *
 obtain ⟨vs, er⟩ := R
 dsimp only at *
 go_enter Tryz.func14, Tryz.ntmps14
 go_upto_region 1 with (fail)
 generalize w.alloc _ = W at *
 have hc := Qb HX.out
 go_upto_region 3 with (go_at_call 11; refine (HAu.out _ HB.out).mono ?_; rintro e5 w5 ⟨a5, c5, rfl, hk5, hs5, hb5⟩; rw [List.length_map])
 have HB5 := bu HB hb5; have HS5 := Qa hs5
 have hwz := HB5.out.size
 clear hc HX HB HAu hb5 hs5 hk5
 obtain ⟨B, hB⟩ : ∃ B, B = w5.heap.size := ⟨_, rfl⟩
 go_wp2
 go_loopw [10, 22] (fun t10 t22 wr => ∃ k : Nat, k ≤ vs.length ∧ t22 = .int .i64 k ∧ OwnR wr B 3 1 t10 (((vs.take k).map Vd.st).map inRow) ∧ Below B w5 wr) (fun _ t22 _ => vs.length - (intOf t22).toNat)
 case atStart => exact ⟨0, Nat.zero_le _, rfl, OwnR.nil _ _ _ _, Below.refl _ _⟩
 case round =>
  obtain ⟨k, hk, rfl, ho, hb⟩ := hrel
  have hz := hb.size
  have HO := Qa ho; have HB := Qa hb; have HS := Qa (SlAt.below HS5.out (hB ▸ hb)); have HZ := Qa (show B ≤ wr.heap.size by omega)
  clear ho hb hz
  by_cases hlt : k < vs.length
  ·obtain ⟨b, off, ea, _, _, hcl⟩ := HS.out k (vdRow vs[k]) (by simp [hlt])
   have d0 := hcl 0 _ rfl; have d1 := hcl 1 _ rfl; have d2 := hcl 2 _ rfl
   have hki : (k : Int) < (vs.length : Int) := by omega
   have hwk : IntKind.i64.wrap ((k : Int) + 1) = (k : Int) + 1 := IntWalk.i64_in _ (by omega)
   have HT := Qa (show (vs.take (k + 1)).map Vd.st = (vs.take k).map Vd.st ++ [vs[k].st] by rw [List.take_succ_eq_append_getElem hlt, List.map_append]; rfl)
   have hll : ((vs.take k).map Vd.st).length ≤ k := by simp; omega
   clear hcl HS
   generalize (vs.take k).map Vd.st = LST at *
   generalize vs[k] = v at *
   rw [ea]
   rw [Nat.add_zero] at d0
   go_upto_region 6 with (fail)
   have HE := heap_alloc_new wr (.cells #[.int .i64 v.st, .int .i64 v.rule, .int .i64 v.en] 46)
   have hb1 := Qg (w := wr) (.cells #[.int .i64 v.st, .int .i64 v.rule, .int .i64 v.en] 46)
   have HO2 := Qa (HO.out.below hb1); have HB2 := Qa (HB.out.trans (hb1.mono HZ.out)); have HZ2 := Qa (Nat.le_trans HZ.out hb1.size)
   clear d0 d1 d2 hb1 HO HB HZ
   generalize wr.alloc (.cells #[.int .i64 v.st, .int .i64 v.rule, .int .i64 v.en] 46) = w2 at *
   generalize wr.heap.size = eb at *
   have hc := Qb HE
   go_wp2_with (at_builtin; go_must (refine appE eltInt rfl (.tmp 26) (.tmp 29) rfl B _ LST rfl (HO2.out.below (Qg _)) _ _ _ [v.st] rfl rfl (fun e => by cases e) (eltInt.new _ _ _ _ rfl) (by simp; omega) (by have := HZ2.out; simp; omega) ?_); intro v5 w8 ho5 hg5; have HO5 := Qa ho5; have HB5 := Qa ((HB2.out.alloc HZ2.out (.cells #[.int .i64 v.st] 3)).grown hg5 (by have := HZ2.out; simp; omega) (fun k e => (HO2.out.lt k e).1)); clear ho5 hg5)
   exact ⟨⟨k + 1, by omega, by go_num, by rw [HT.out]; exact HO5.out, HB5.out⟩, by simp [intOf]; omega⟩
  ·obtain rfl : k = vs.length := by omega
   rw [List.take_length] at HO
   go_wp2_with (go_at_call 40; refine (CompactIn_any B _ (vs.map Vd.st) _ (by simp; omega) HO.out).mono ?_; rintro e9 w9 ⟨a9, c9, rfl, hk9, hi9, hb9⟩)
   refine bodyPost_ret (results_tmp2 rfl _ _ _) rfl ?_
   exact ⟨a9, c9, by simp, by simpa using hk9, hi9, HB5.out.trans ((HB.out.trans hb9).mono (by omega))⟩
def VdAt (w : World) (a : Option Addr) (l : List Vd) : Prop := SlAt w a 3 (l.map vdRow)
theorem VdAt.below {w w' : World} {a : Option Addr} {l : List Vd} (h : VdAt w a l) (hb : Below w.heap.size w w') : VdAt w' a l := SlAt.below h hb
theorem VdAt.get {w : World} {a : Option Addr} {l : List Vd} (h : VdAt w a l) (i : Nat) (hi : i < l.length) : ∃ b off, a = some ⟨b, off, none⟩ ∧ w.cell? ⟨b, off + i * 3, none⟩ = some (.int .i64 l[i].st) ∧ w.cell? ⟨b, off + i * 3 + 1, none⟩ = some (.int .i64 l[i].rule) ∧ w.cell? ⟨b, off + i * 3 + 2, none⟩ = some (.int .i64 l[i].en) := by
 obtain ⟨b, off, e, _, _, hc⟩ := h i (vdRow l[i]) (by simp [hi])
 exact ⟨b, off, e, hc 0 _ rfl, hc 1 _ rfl, hc 2 _ rfl⟩
theorem neq_vd (x y : Vd) (w : World) :
  (binOp .neq 46 (.agg #[.int .i64 x.st, .int .i64 x.rule, .int .i64 x.en]) (.agg #[.int .i64 y.st, .int .i64 y.rule, .int .i64 y.en])).run Tryz.prog w = .ok (.bool (!decide (x = y))) w := by
 have e : decide (x = y) = (x.st == y.st && (x.rule == y.rule && x.en == y.en)) := by
  rw [Bool.eq_iff_iff]; obtain ⟨⟩ := x; obtain ⟨⟩ := y; simp
 rw [e]
 rw [run_neq_struct]
 simp [go_sem]
 cases h1 : x.st == y.st <;> cases h2 : x.rule == y.rule <;> cases h3 : x.en == y.en <;> simp_all [go_sem]
theorem Same39_any (a b : Option Addr) (n m cap cap' : Nat) (l r : List Vd) (w : World) (hn : n = l.length) (hm : m = r.length) (hl : n ≤ 1000000) (hl' : m ≤ 1000000) (ha : VdAt w a l) (hb : VdAt w b r) :
  Calls Tryz.prog 13 #[.slice a n cap, .slice b m cap'] w fun e w' => e = .returned (.bool (decide (l = r))) ∧ Below w.heap.size w w' := by
 subst hn hm
 by_cases hne : l.length = r.length
 case neg =>
  have h1 : ((l.length : Int) != (r.length : Int)) = true := by simp; omega
  go_enter Tryz.func13, Tryz.ntmps13
  go_wp2
  go_ret
  exact ⟨Qf (by simp; intro h; exact hne (by rw [h])), Below.refl _ _⟩
 have h1 : ((l.length : Int) != (r.length : Int)) = false := by simp [hne]
 have HNE := Qa hne; clear hne
 go_enter Tryz.func13, Tryz.ntmps13
 go_wp2
 go_loopw [5] (fun i wr => ∃ k : Nat, k ≤ l.length ∧ i = .int .i64 k ∧ l.take k = r.take k ∧ Below w.heap.size w wr) (fun i _ => l.length - (intOf i).toNat)
 case atStart => exact ⟨0, Nat.zero_le _, rfl, rfl, Below.refl _ _⟩
 case round =>
  obtain ⟨k, hk, rfl, hall, hbw⟩ := hrel
  have H := Qa hall; clear hall
  by_cases hlt : k < l.length
  ·have hlt' : k < r.length := by have := HNE.out; omega
   obtain ⟨b1, o1, rfl, c0, c1, c2⟩ := (ha.below hbw).get k hlt
   obtain ⟨b2, o2, rfl, d0, d1, d2⟩ := (hb.below hbw).get k hlt'
   have HB := Qa hbw; clear hbw
   have HA := Qa ha; clear ha
   have HB2 := Qa hb; clear hb
   have hneq := neq_vd l[k] r[k]
   go_wp2
   go_quiet (fail)
   go_wp2
   ·go_ret
    have hd : (!decide (l[k] = r[k])) = true := by assumption
    exact ⟨Qf (decide_eq_false (ne_at l r k hlt hlt' (by simpa using hd))).symm, below_drewN HB.out _⟩
   ·have hd : (!decide (l[k] = r[k])) = false := by assumption
    exact ⟨⟨k + 1, by omega, by go_num, take_eq_succ l r k hlt hlt' H.out (by simpa using hd), below_drewN HB.out _⟩, by simp [intOf]; omega⟩
  ·have HB := Qa hbw; clear hbw
   go_wp2
   go_ret
   refine ⟨Qf ?_, HB.out⟩
   have h3 := H.out
   have h4 := HNE.out
   rw [List.take_of_length_le (by omega), List.take_of_length_le (by omega)] at h3
   simp [h3]
theorem SameInts39_any (a b : Option Addr) (n m cap cap' : Nat) (l r : List Int) (w : World) (hn : n = l.length) (hm : m = r.length) (hl : n ≤ 1000000) (hl' : m ≤ 1000000) (ha : InAt w a l) (hb : InAt w b r) :
  Calls Tryz.prog 16 #[.slice a n cap, .slice b m cap'] w fun e w' => e = .returned (.bool (decide (l = r))) ∧ Below w.heap.size w w' := by
 subst hn hm
 by_cases hne : l.length = r.length
 case neg =>
  have h1 : ((l.length : Int) != (r.length : Int)) = true := by simp; omega
  go_enter Tryz.func16, Tryz.ntmps16
  go_wp2
  go_ret
  exact ⟨Qf (by simp; intro h; exact hne (by rw [h])), Below.refl _ _⟩
 have h1 : ((l.length : Int) != (r.length : Int)) = false := by simp [hne]
 have HNE := Qa hne; clear hne
 go_enter Tryz.func16, Tryz.ntmps16
 go_wp2
 go_loopw [5] (fun i wr => ∃ k : Nat, k ≤ l.length ∧ i = .int .i64 k ∧ l.take k = r.take k ∧ Below w.heap.size w wr) (fun i _ => l.length - (intOf i).toNat)
 case atStart => exact ⟨0, Nat.zero_le _, rfl, rfl, Below.refl _ _⟩
 case round =>
  obtain ⟨k, hk, rfl, hall, hbw⟩ := hrel
  have H := Qa hall; clear hall
  by_cases hlt : k < l.length
  ·have hlt' : k < r.length := by have := HNE.out; omega
   obtain ⟨b1, o1, rfl, c0⟩ := (ha.below hbw).get k hlt
   obtain ⟨b2, o2, rfl, d0⟩ := (hb.below hbw).get k hlt'
   have HB := Qa hbw; clear hbw
   have HA := Qa ha; clear ha
   have HB2 := Qa hb; clear hb
   go_wp2
   go_quiet (fail)
   go_wp2
   ·go_ret
    have hd : (l[k] != r[k]) = true := by assumption
    exact ⟨Qf (decide_eq_false (ne_at l r k hlt hlt' (by simpa using hd))).symm, below_drewN HB.out _⟩
   ·have hd : (l[k] != r[k]) = false := by assumption
    exact ⟨⟨k + 1, by omega, by go_num, take_eq_succ l r k hlt hlt' H.out (by simpa using hd), below_drewN HB.out _⟩, by simp [intOf]; omega⟩
  ·have HB := Qa hbw; clear hbw
   go_wp2
   go_ret
   refine ⟨Qf ?_, HB.out⟩
   have h3 := H.out
   have h4 := HNE.out
   rw [List.take_of_length_le (by omega), List.take_of_length_le (by omega)] at h3
   simp [h3]
def Ya (L : Lb) (n : Nat) (l : List Lg) : Bool := ((l.take 7).all fun x => decide (x.es.length ≤ 20)) && (decide (l.length ≤ 6) && (Yw (Qk L.ws) n && (decide (L.los.length ≤ 60) && (decide (L.shs.length ≤ 30) && decide (L.eds.length ≤ 20)))))
theorem fewAB_all {L : Lb} {n : Nat} {l : List Lg} (h : Ya L n l = true) : (∀ x ∈ l, x.es.length ≤ 20) ∧ l.length ≤ 6 ∧ Yw (Qk L.ws) n = true ∧ L.los.length ≤ 60 ∧ L.shs.length ≤ 30 ∧ L.eds.length ≤ 20 := by
 unfold Ya at h
 simp only [Bool.and_eq_true, decide_eq_true_eq, List.all_eq_true] at h
 obtain ⟨h1, h2, h3, h4, h5, h6⟩ := h
 exact ⟨fun x hx => h1 x (by rw [List.take_of_length_le (by omega)]; exact hx), h2, h3, h4, h5, h6⟩
theorem RFew39_any (L : Lb) (P : Lbp) (d : List De) (da : Option Addr) (dc : Nat) (l : List (Lg × Lq)) (a : Option Addr) (cap : Nat) (w : World) (hw : L.ws.length ≤ 9223372036854775807) (hd : d.length ≤ 9223372036854775807) (hl : l.length ≤ 9223372036854775807) (hlo : L.los.length ≤ 9223372036854775807) (hsh : L.shs.length ≤ 9223372036854775807) (hed : L.eds.length ≤ 9223372036854775807) (hes : ∀ x ∈ l, x.1.es.length ≤ 9223372036854775807) (hL : LbAt w L P) (ha : LgsAt w a l) :
  Calls Tryz.prog 10 #[.agg #[.slice P.wa L.ws.length P.wc, .slice P.ea L.eds.length P.ec, .slice P.sa L.shs.length P.sc, .slice P.la L.los.length P.lc], .slice da d.length dc, .slice a l.length cap] w fun e w' => e = .returned (.bool (Ya L d.length (Qp l))) ∧ Below w.heap.size w w' := by
 have HX := Qa (heap_alloc_new w (.cells #[.slice P.wa L.ws.length P.wc, .slice P.ea L.eds.length P.ec, .slice P.sa L.shs.length P.sc, .slice P.la L.los.length P.lc] 27))
 have HB := Qa (Qg (w := w) (.cells #[.slice P.wa L.ws.length P.wc, .slice P.ea L.eds.length P.ec, .slice P.sa L.shs.length P.sc, .slice P.la L.los.length P.lc] 27))
 have HFw := Qa (fun V (hV : Below w.heap.size w V) => RFew30_any P.wa P.wc L.ws da d.length dc V hw hd (hL.below hV).ws.rows)
 have HFo := Qa (fun V => Few_any P.la L.los.length P.lc V hlo)
 have HG := Qa (fun V (hV : Below w.heap.size w V) => (ha.below hV).get)
 have hgl : (Qp l).length = l.length := by simp [Qp]
 generalize hR : Ya L d.length (Qp l) = R
 have HR := Qa hR.symm
 clear hL ha hw hd hR
 go_enter Tryz.func10, Tryz.ntmps10
 go_upto_region 1 with (fail)
 generalize w.alloc _ = W at *
 go_wp2
 go_loopw [7] (fun i wr => ∃ k : Nat, k ≤ l.length ∧ k ≤ 7 ∧ i = .int .i64 k ∧ Hid (((Qp l).take k).all (fun x => decide (x.es.length ≤ 20)) = true) ∧ wr = W) (fun i _ => 7 - (intOf i).toNat)
 case atStart => exact ⟨0, Nat.zero_le _, by omega, rfl, Qa rfl, rfl⟩
 case round =>
  obtain ⟨k, hk, hk7, rfl, HA, rfl⟩ := hrel
  by_cases hlt : k < l.length
  ·by_cases h7 : k < 7
   ·obtain ⟨b, off, ea, d0, d1, d2⟩ := HG.out _ HB.out k hlt
    have hli : (k : Int) < (l.length : Int) := by omega
    have hk6 : (k : Int) ≤ 6 := by omega
    have hwk : IntKind.i64.wrap ((k : Int) + 1) = (k : Int) + 1 := IntWalk.i64_in _ (by omega)
    have HT := Qa (show ((Qp l).take (k + 1)).all (fun x => decide (x.es.length ≤ 20)) = (((Qp l).take k).all (fun x => decide (x.es.length ≤ 20)) && decide (l[k].1.es.length ≤ 20)) by
     rw [List.take_succ_eq_append_getElem (by omega), List.all_append]; simp [Qp])
    rw [HA.out] at HT
    have hel := hes _ (List.getElem_mem hlt)
    have HN := Qa (fun h : ¬ l[k].1.es.length ≤ 20 => (show Ya L d.length (Qp l) = false by
     unfold Ya
     have : ((Qp l).take 7).all (fun x => decide (x.es.length ≤ 20)) = false := by
      rw [List.all_eq_false]
      exact ⟨l[k].1, by rw [List.mem_take_iff_getElem]; exact ⟨k, by omega, by simp [Qp]⟩, by simpa using h⟩
     rw [this]; rfl))
    generalize l[k] = y at *
    obtain ⟨x, p⟩ := y
    dsimp only at *
    rw [ea]
    clear HA hes
    by_cases he : x.es.length ≤ 20
    ·have HT2 := Qa (show ((Qp l).take (k + 1)).all (fun x => decide (x.es.length ≤ 20)) = true by rw [HT.out, decide_eq_true he]; rfl)
     have h2 : decide ((20 : Int) < (x.es.length : Int)) = false := by simp; omega
     clear HN HT
     go_wp2
     exact ⟨⟨k + 1, by omega, by omega, by go_num, HT2, trivial⟩, by simp [intOf]; omega⟩
    ·have HN2 := Qa (HR.out.trans (HN.out he))
     have h2 : decide ((20 : Int) < (x.es.length : Int)) = true := by simp; omega
     clear HN HT
     go_wp2
     go_ret
     exact ⟨Qf HN2.out.symm, HB.out⟩
   ·have hk8 : k = 7 := by omega
    subst hk8
    have HN := Qa (HR.out.trans (show Ya L d.length (Qp l) = false by unfold Ya; rw [decide_eq_false (by omega : ¬ (Qp l).length ≤ 6)]; simp))
    have h2 : decide ((l.length : Int) ≤ 6) = false := by simp; omega
    go_wp2
    go_ret
    exact ⟨Qf HN.out.symm, HB.out⟩
  ·obtain rfl : k = l.length := by omega
   have HV := Qa (HR.out.trans (show Ya L d.length (Qp l) = (decide (l.length ≤ 6) && (Yw (Qk L.ws) d.length && (decide (L.los.length ≤ 60) && (decide (L.shs.length ≤ 30) && decide (L.eds.length ≤ 20))))) by
    unfold Ya
    have : (Qp l).take 7 = (Qp l).take l.length := by rw [← hgl, List.take_length, List.take_of_length_le (by omega)]
    rw [this, HA.out, hgl, Bool.true_and]))
   clear HA HG HR hes
   have hc := Qb HX.out
   by_cases c1 : l.length ≤ 6
   case neg =>
    have h2 : decide ((l.length : Int) ≤ 6) = false := by simp; omega
    rw [decide_eq_false c1, Bool.false_and] at HV
    go_wp2
    go_ret
    exact ⟨Qf HV.out.symm, HB.out⟩
   have h1 : decide ((l.length : Int) ≤ 6) = true := by simp; omega
   rw [decide_eq_true c1, Bool.true_and] at HV
   generalize Yw (Qk L.ws) d.length = F at *
   cases F
   ·rw [Bool.false_and] at HV
    go_wp2_with (go_at_call 28; refine (HFw.out _ HB.out).mono ?_; rintro e w6 ⟨rfl, hb6⟩; replace HB := bu HB hb6; clear hc hb6)
    go_ret
    exact ⟨Qf HV.out.symm, HB.out⟩
   rw [Bool.true_and] at HV
   by_cases c3 : L.los.length ≤ 60
   case neg =>
    rw [decide_eq_false c3] at HFo
    rw [decide_eq_false c3, Bool.false_and] at HV
    go_wp2_with (first | (go_at_call 28; refine (HFw.out _ HB.out).mono ?_; rintro e w6 ⟨rfl, hb6⟩; replace HB := bu HB hb6; replace HX := bk HX hb6; clear hc hb6; have hc := Qb HX.out) | (go_at_call 29; refine (HFo.out _).mono ?_; rintro e w7 ⟨rfl, rfl⟩))
    go_ret
    exact ⟨Qf HV.out.symm, HB.out⟩
   rw [decide_eq_true c3] at HFo
   rw [decide_eq_true c3, Bool.true_and] at HV
   by_cases c4 : L.shs.length ≤ 30
   case neg =>
    have h2 : decide ((L.shs.length : Int) ≤ 30) = false := by simp; omega
    rw [decide_eq_false c4, Bool.false_and] at HV
    go_wp2_with (first | (go_at_call 28; refine (HFw.out _ HB.out).mono ?_; rintro e w6 ⟨rfl, hb6⟩; replace HB := bu HB hb6; replace HX := bk HX hb6; clear hc hb6; have hc := Qb HX.out) | (go_at_call 29; refine (HFo.out _).mono ?_; rintro e w7 ⟨rfl, rfl⟩))
    go_ret
    exact ⟨Qf HV.out.symm, HB.out⟩
   have h4 : decide ((L.shs.length : Int) ≤ 30) = true := by simp; omega
   rw [decide_eq_true c4, Bool.true_and, show decide (L.eds.length ≤ 20) = decide ((L.eds.length : Int) ≤ 20) by rw [decide_eq_decide]; omega] at HV
   go_wp2_with (first | (go_at_call 28; refine (HFw.out _ HB.out).mono ?_; rintro e w6 ⟨rfl, hb6⟩; replace HB := bu HB hb6; replace HX := bk HX hb6; clear hc hb6; have hc := Qb HX.out) | (go_at_call 29; refine (HFo.out _).mono ?_; rintro e w7 ⟨rfl, rfl⟩))
   go_ret
   exact ⟨Qf HV.out.symm, HB.out⟩
def exW : Wk := ⟨1, [⟨4, 4, 1, 0⟩], ⟨1, [], [], ⟨0, 0, 0⟩, []⟩⟩
def exWp (b : Nat) : Wp := ⟨some ⟨b, 0, none⟩, 1, none, 0, 0, none, 0, 0, ⟨none, 0, none, 0, none, 0⟩, none, 0, 0⟩
def exL (b : Nat) : Lb := ⟨[(exW, exWp b)], [], [⟨7, 0, 0, 0, 0, 5⟩], [⟨10, 1, 7, 2, 0⟩]⟩
def shE (dg : Int) : En := ⟨12, 2, 7, 0, 0, dg⟩
def shoE : En := ⟨1, 1, 1, 1, 0, 0⟩
def caE (p : Int) : En := ⟨1, 5, 4, p, 1, 0⟩
def knE : En := ⟨1, 3, 1, 0, 0, 0⟩
theorem ex_lib (b : Nat) : libB (exL b) [] = true := by kernel_rfl
theorem J5 {st : Int} {e : En} (h1 : 1 ≤ st ∧ st ≤ 1000000) (he : Qt e = true) : Qw (mkLg st [e]) = true :=
 Jn h1 (by simp) ⟨fun x hx => by rw [List.mem_singleton.1 hx]; exact he, by simp⟩
theorem ex_app {st : Int} {e : En} (h1 : 1 ≤ st ∧ st ≤ 1000000) (he : Qt e = true) : QR ⟨st, [], 0⟩ e = (mkLg st [e], 0) :=
 append_mk (es := []) h1 (by simp) ⟨fun x hx => by simp at hx, by simp⟩ he (fun x hx => by simp at hx)
theorem Ue (b : Nat) {l : List Lg} {V : List Vd} (hn : l.length ≤ 200) (h1 : ∀ x ∈ l, Qw x = true) (h2 : (l.map Lg.st).Nodup) (hV : Zc (exL b) [] l = V) : QN (exL b) [] l = (V, 0) := by
 rw [ZL hn (ex_lib b), hV]
 unfold QU
 simp only [Bool.and_eq_true, List.all_eq_true, decide_eq_true_eq]
 exact ⟨h1, h2⟩
theorem ex_a (b : Nat) : QN (exL b) [] [mkLg 2 [shE 5]] = ([], 0) := Ue b (by decide) (fun x hx => by rw [List.mem_singleton.1 hx]; exact J5 (by decide) (by decide)) (by decide) (by kernel_rfl)
theorem ex_b (b : Nat) : QN (exL b) [] [mkLg 2 [shE 6]] = ([⟨2, 2, 0⟩], 0) := Ue b (by decide) (fun x hx => by rw [List.mem_singleton.1 hx]; exact J5 (by decide) (by decide)) (by decide) (by kernel_rfl)
theorem ex_c (b : Nat) : QN (exL b) [] [mkLg 3 [shE 5], mkLg 1 [shoE]] = ([⟨1, 1, 0⟩, ⟨3, 3, 0⟩], 0) := Ue b (by decide) (fun x hx => by simp only [List.mem_cons, List.not_mem_nil, or_false] at hx; rcases hx with rfl | rfl <;> exact J5 (by decide) (by decide)) (by decide) (by kernel_rfl)
theorem ex_s (b : Nat) : QN (exL b) [] [mkLg 3 [shE 5], mkLg 2 [shE 5]] = ([⟨3, 3, 0⟩], 0) := Ue b (by decide) (fun x hx => by simp only [List.mem_cons, List.not_mem_nil, or_false] at hx; rcases hx with rfl | rfl <;> exact J5 (by decide) (by decide)) (by decide) (by kernel_rfl)
theorem ex_d (b : Nat) : QN (exL b) [] [mkLg 2 [caE 1], mkLg 3 [caE 2], mkLg 4 [knE]] = ([⟨3, 5, 0⟩, ⟨4, 4, 0⟩], 0) := Ue b (by decide) (fun x hx => by simp only [List.mem_cons, List.not_mem_nil, or_false] at hx; rcases hx with rfl | rfl | rfl <;> exact J5 (by decide) (by decide)) (by decide) (by kernel_rfl)
theorem ex_j (b : Nat) : QN (exL b) [] [mkLg 2 [shE 5], mkLg 2 [shE 5]] = ([], 1) := Jl (by decide) (.inr (by
 unfold QU
 rw [Bool.and_eq_false_iff]
 exact .inr (by decide)))
theorem Jr {w : World} {b sz : Nat} {rows : List (List Value)} {cs : Array Value} {T : TypeId} {fr : Nat × Nat} (h : w.heap[b]? = some (.cells cs T fr)) (hw : ∀ r ∈ rows, r.length = sz) (hf : rows.flatten = cs.toList) : SlAt w (some ⟨b, 0, none⟩) sz rows := fun i r hr =>
 ⟨b, 0, rfl, Qd h, hw r (List.mem_of_getElem? hr), fun j v hv => by
  rw [Qb h]
  have := JB rows sz hw i j r v hr hv
  rw [hf] at this
  simpa using this⟩
abbrev set4 (v : World) (b : Nat) (a0 a1 a2 a3 : Value) : World := (((v.setCell ⟨b, 0, none⟩ a0).setCell ⟨b, 1, none⟩ a1).setCell ⟨b, 2, none⟩ a2).setCell ⟨b, 3, none⟩ a3
theorem set4_at {v : World} {b : Nat} {T : TypeId} {c0 c1 c2 c3 a0 a1 a2 a3 : Value} (h : v.heap[b]? = some (.cells #[c0, c1, c2, c3] T (0, 0))) : (set4 v b a0 a1 a2 a3).heap[b]? = some (.cells #[a0, a1, a2, a3] T (0, 0)) :=
 heap_setCell_same _ b 3 _ _ _ (heap_setCell_same _ b 2 _ _ _ (heap_setCell_same _ b 1 _ _ _ (heap_setCell_same _ b 0 _ _ _ h)))
theorem set4_far {v : World} {b k : Nat} {o : Obj} {a0 a1 a2 a3 : Value} (h : v.heap[k]? = some o) (hk : k ≠ b) : (set4 v b a0 a1 a2 a3).heap[k]? = some o :=
 (heap_setCell_other _ _ _ _ (show k ≠ b from hk)).trans ((heap_setCell_other _ _ _ _ (show k ≠ b from hk)).trans ((heap_setCell_other _ _ _ _ (show k ≠ b from hk)).trans ((heap_setCell_other _ _ _ _ (show k ≠ b from hk)).trans h)))
theorem set4_below {n : Nat} {w v : World} {b : Nat} (h : Below n w v) (hb : n ≤ b) (a0 a1 a2 a3 : Value) : Below n w (set4 v b a0 a1 a2 a3) := (((h.setCell (p := ⟨b, 0, none⟩) hb _).setCell (p := ⟨b, 1, none⟩) hb _).setCell (p := ⟨b, 2, none⟩) hb _).setCell (p := ⟨b, 3, none⟩) hb _
theorem Z0 {P : Program} {fn : Func} {p : Tmp} {ty : TypeId} (h : fn.results = #[.cell p ty]) (tmps : Array Value) (w : World) (g : Nat) (t : TypeId) (cs : Array Value) (fr : Nat × Nat) (d : TypeDesc)
  (hp : tmps.getD p undef = .pointer (some ⟨g, 0, none⟩)) (hg : w.heap[g]? = some (.cells cs t fr))
  (hu : P.underlying ty = some d) (hd : (match d with | .struct _ | .array _ _ => true | _ => false) = true) (hi : (P.info? ty).map (·.size) = some cs.size) :
  (results fn tmps).run P w = .ok (.agg cs) w := by
 have hp' : tmps[p]?.getD undef = .pointer (some ⟨g, 0, none⟩) := by simpa using hp
 simp [results, h, hp', asAddr, run_loadVar_row w g t ty cs fr d hg hu hd hi]
theorem SlAt.far {w : World} {a : Option Addr} {sz : Nat} {r : List Value} {rows : List (List Value)} (h : SlAt w a sz (r :: rows)) {b : Nat} {cs : Array Value} {T : TypeId} {fr : Nat × Nat} (hb : w.heap[b]? = some (.cells cs T fr)) (hs : cs.size < sz) : ∀ ad, a = some ad → ad.block ≠ b := fun ad e hb2 => by
 obtain ⟨b', off, e', _, hl, hc⟩ := h 0 r rfl
 rw [e] at e'; cases e'
 have h1 := hc (sz - 1) r[sz - 1] (by rw [List.getElem?_eq_getElem (by omega)])
 dsimp only at hb2
 subst hb2
 rw [Nat.zero_mul, Nat.add_zero, Qb hb] at h1
 obtain ⟨h2, _⟩ := Array.getElem?_eq_some_iff.1 h1
 omega
theorem sheet39_any (dg : Int) (w : World) : Calls Tryz.prog 27 #[.int .u64 dg] w fun e w' => e = .returned (.agg #[.int .i64 (shE dg).time, .int .i64 (shE dg).kind, .int .i64 (shE dg).a, .int .i64 (shE dg).b, .int .i64 (shE dg).c, .int .u64 (shE dg).dg]) ∧ Below w.heap.size w w' := by
 have HX := Qa (heap_alloc_new w (.cells #[.int .i64 0, .int .i64 0, .int .i64 0, .int .i64 0, .int .i64 0, .int .u64 0] 50))
 have HB := Qa (Qg (w := w) (.cells #[.int .i64 0, .int .i64 0, .int .i64 0, .int .i64 0, .int .i64 0, .int .u64 0] 50))
 go_enter Tryz.func27, Tryz.ntmps27
 go_upto_region 1 with (fail)
 generalize w.alloc (.cells #[.int .i64 0, .int .i64 0, .int .i64 0, .int .i64 0, .int .i64 0, .int .u64 0] 50) = W at *
 have hf := Qe HX.out; have hc := Qb HX.out; have hz := Qd HX.out
 go_wp2
 refine bodyPost_ret (Z0 rfl _ _ w.heap.size 50 _ (0, 0) _ rfl (Qac HX.out _ _ _ _ _ _) Tryz.underlying50 rfl (by kernel_rfl)) rfl ?_
 exact ⟨rfl, U9 HB.out (Nat.le_refl _) _ _ _ _ _ _⟩
def JE (x : Lg) (w : World) (e : Ending) (w' : World) : Prop := ∃ a c, e = .returned (.agg #[.int .i64 x.st, .slice a x.es.length c, .int .u64 x.ch]) ∧ SlOk a x.es.length c ∧ EnAt w' a x.es ∧ Below w.heap.size w w'
theorem ZR (st : Int) (e : En) (w : World) (hE : EnvP w) (h1 : 1 ≤ st ∧ st ≤ 1000000) (he : Qt e = true) (hw : e.wide) : Calls Tryz.prog 26 #[.int .i64 st, .agg #[.int .i64 e.time, .int .i64 e.kind, .int .i64 e.a, .int .i64 e.b, .int .i64 e.c, .int .u64 e.dg]] w (JE (mkLg st [e]) w) := by
 obtain ⟨x1, x2, hb⟩ := box2 (w := w) (A := .cells #[.int .i64 e.time, .int .i64 e.kind, .int .i64 e.a, .int .i64 e.b, .int .i64 e.c, .int .u64 e.dg] 50) (B := .cells #[.int .i64 0, .slice none 0 0, .int .u64 0] 44) (Below.refl _ _)
 have HX1 := Qa x1; have HX2 := Qa x2; have HB := Qa hb
 obtain ⟨L, hL⟩ : ∃ L, L = mkLg st [e] := ⟨_, rfl⟩
 rw [← hL]
 have HAp := Qa (fun V (hV : Below w.heap.size w V) => show Calls Tryz.prog 19 #[.agg #[.int .i64 st, .slice none 0 0, .int .u64 0], .agg #[.int .i64 e.time, .int .i64 e.kind, .int .i64 e.a, .int .i64 e.b, .int .i64 e.c, .int .u64 e.dg]] V (RetLg (L, 0) V) from by
  have h := Append37_any ⟨st, [], 0⟩ none 0 e V (by simp) SlOk.nil (fun _ h => by cases h) hw (hE.below hV) (SlAt.nil _ _ _)
  rw [ex_app h1 he, ← hL] at h
  exact h)
 have HLe := Qa (show L.es = [e] by rw [hL]; rfl)
 clear x1 x2 hb hE h1 he hw hL
 go_enter Tryz.func26, Tryz.ntmps26
 go_upto_region 1 with (fail)
 generalize (w.alloc (.cells #[.int .i64 e.time, .int .i64 e.kind, .int .i64 e.a, .int .i64 e.b, .int .i64 e.c, .int .u64 e.dg] 50)).alloc (.cells #[.int .i64 0, .slice none 0 0, .int .u64 0] 44) = W at *
 have hc := Qb HX1.out
 go_upto_region 2 with (go_at_call 19; refine (HAp.out _ HB.out).mono ?_; rintro e5 w5 ⟨a, c, rfl, hk, hen, hb5⟩; dsimp only at hen hk; have HS := Qa hk; have HEn := Qa hen; replace HX2 := bk HX2 hb5; replace HB := bu HB hb5; clear hb5 hk hen hc)
 have HX3 := Qa (heap_alloc_new w5 (.cells #[.int .i64 L.st, .slice a L.es.length c, .int .u64 L.ch] 44))
 have hb1 := Qg (w := w5) (.cells #[.int .i64 L.st, .slice a L.es.length c, .int .u64 L.ch] 44)
 replace HX2 := bk HX2 hb1; replace HB := bu HB hb1; replace HEn := Qa (HEn.out.below hb1)
 have HNa := Qa (show ∀ V, EnAt V a L.es → SlAt V a 6 [enRow e] from fun V h => by rw [HLe.out] at h; exact h)
 have HNe := Qa (show ∀ ad, a = some ad → ad.block ≠ w.heap.size + 1 from SlAt.far (sz := 6) (rows := []) (r := enRow e) (HNa.out _ HEn.out) HX2.out (by decide))
 clear hb1 HX1 HAp
 generalize w5.alloc (.cells #[.int .i64 L.st, .slice a L.es.length c, .int .u64 L.ch] 44) = W5 at *
 generalize w5.heap.size = b5 at *
 have hc := Qb HX3.out; have hf := Qe HX2.out; have hc2 := Qb HX2.out; have hz := Qd HX2.out
 go_wp2
 refine bodyPost_ret (Z0 rfl _ _ (w.heap.size + 1) 44 _ (0, 0) _ rfl (Q9 HX2.out _ _ _) Tryz.underlying44 rfl (by kernel_rfl)) rfl ?_
 refine ⟨a, c, rfl, HS.out, ?_, QD HB.out (by omega) _ _ _⟩
 have hne := HNe.out
 refine SlAt.keepB (HEn.out : SlAt _ _ _ _) (((KeepB.refl W5.heap.size [w.heap.size + 1] W5).set (.inl (by simp)) _).set (.inl (by simp)) _ |>.set (.inl (by simp)) _) (fun ad e => by rw [List.mem_singleton]; exact hne ad e)
theorem ex39_any (w : World) : Calls Tryz.prog 25 #[] w fun e w' => ∃ (b : Nat) (P : Lbp), e = .returned (.agg #[.slice P.wa ((exL b)).ws.length P.wc, .slice P.ea ((exL b)).eds.length P.ec, .slice P.sa ((exL b)).shs.length P.sc, .slice P.la ((exL b)).los.length P.lc]) ∧ LbAt w' (exL b) P ∧ Below w.heap.size w w' := by
 have HX := Qa (heap_alloc_new w (.cells #[.slice none 0 0, .slice none 0 0, .slice none 0 0, .slice none 0 0] 27))
 have HB := Qa (Qg (w := w) (.cells #[.slice none 0 0, .slice none 0 0, .slice none 0 0, .slice none 0 0] 27))
 go_enter Tryz.func25, Tryz.ntmps25
 go_upto_region 1 with (fail)
 generalize w.alloc (.cells #[.slice none 0 0, .slice none 0 0, .slice none 0 0, .slice none 0 0] 27) = W at *
 go_upto_region 2 with (fail)
 obtain ⟨x1, x2, hb⟩ := box2 (w := W) (A := .cells #[.int .i64 4, .int .i64 4, .int .i64 1, .int .i64 0] 135) (B := .cells #[.int .i64 1, .slice (some ⟨W.heap.size, 0, none⟩) 1 1, .slice none 0 0, .slice none 0 0, .int .i64 1, .slice none 0 0, .slice none 0 0, .int .i64 0, .int .i64 0, .int .i64 0, .slice none 0 0, .slice none 0 0] 112) (Below.refl _ _)
 have HX1 := Qa x1; have HX2 := Qa x2
 have HX0 := bk HX hb; replace HB := bu HB hb
 have HWz := Qd HX.out
 clear x1 x2 hb HX
 generalize (W.alloc (.cells #[.int .i64 4, .int .i64 4, .int .i64 1, .int .i64 0] 135)).alloc (.cells #[.int .i64 1, .slice (some ⟨W.heap.size, 0, none⟩) 1 1, .slice none 0 0, .slice none 0 0, .int .i64 1, .slice none 0 0, .slice none 0 0, .int .i64 0, .int .i64 0, .int .i64 0, .slice none 0 0, .slice none 0 0] 112) = W2 at *
 have HWb := Qa (show w.heap.size < W.heap.size from HWz)
 generalize W.heap.size = b at *
 have hc := Qb HX2.out
 obtain ⟨y1, y2, y3, hb⟩ := box3 (w := W2) (A := .cells #[.int .i64 1, .slice (some ⟨b, 0, none⟩) 1 1, .slice none 0 0, .slice none 0 0, .int .i64 1, .slice none 0 0, .slice none 0 0, .int .i64 0, .int .i64 0, .int .i64 0, .slice none 0 0, .slice none 0 0] 112) (B := .cells #[.int .i64 7, .int .i64 0, .int .i64 0, .int .i64 0, .int .i64 0, .int .u64 5] 55) (C := .cells #[.int .i64 10, .int .i64 1, .int .i64 7, .int .i64 2, .int .i64 0] 137) (Below.refl _ _)
 have HX0' := bk HX0 hb; have HB' := bu HB hb; have HX1' := bk HX1 hb; have hz0 := Qd HX0'.out; have hz2 := Qd HX0.out
 clear hb
 have hc0 := Qb HX0'.out; have hf0 := Qe HX0'.out
 have HF := Qa (show ∀ V, V = set4 (((W2.alloc (.cells #[.int .i64 1, .slice (some ⟨b, 0, none⟩) 1 1, .slice none 0 0, .slice none 0 0, .int .i64 1, .slice none 0 0, .slice none 0 0, .int .i64 0, .int .i64 0, .int .i64 0, .slice none 0 0, .slice none 0 0] 112)).alloc (.cells #[.int .i64 7, .int .i64 0, .int .i64 0, .int .i64 0, .int .i64 0, .int .u64 5] 55)).alloc (.cells #[.int .i64 10, .int .i64 1, .int .i64 7, .int .i64 2, .int .i64 0] 137)) w.heap.size (.slice (some ⟨W2.heap.size, 0, none⟩) 1 1) (.slice none 0 0) (.slice (some ⟨W2.heap.size + 1, 0, none⟩) 1 1) (.slice (some ⟨W2.heap.size + 1 + 1, 0, none⟩) 1 1) → V.heap[w.heap.size]? = some (.cells #[.slice (some ⟨W2.heap.size, 0, none⟩) 1 1, .slice none 0 0, .slice (some ⟨W2.heap.size + 1, 0, none⟩) 1 1, .slice (some ⟨W2.heap.size + 1 + 1, 0, none⟩) 1 1] 27) ∧ LbAt V (exL b) ⟨some ⟨W2.heap.size, 0, none⟩, 1, none, 0, some ⟨W2.heap.size + 1, 0, none⟩, 1, some ⟨W2.heap.size + 1 + 1, 0, none⟩, 1⟩ ∧ Below w.heap.size w V from fun V hV => by
  subst hV
  have hb1 := Qd HX1.out
  have hwb : w.heap.size < b := HWb.out
  have far : ∀ {k : Nat} {o : Obj}, (((W2.alloc (.cells #[.int .i64 1, .slice (some ⟨b, 0, none⟩) 1 1, .slice none 0 0, .slice none 0 0, .int .i64 1, .slice none 0 0, .slice none 0 0, .int .i64 0, .int .i64 0, .int .i64 0, .slice none 0 0, .slice none 0 0] 112)).alloc (.cells #[.int .i64 7, .int .i64 0, .int .i64 0, .int .i64 0, .int .i64 0, .int .u64 5] 55)).alloc (.cells #[.int .i64 10, .int .i64 1, .int .i64 7, .int .i64 2, .int .i64 0] 137)).heap[k]? = some o → k ≠ w.heap.size → (set4 (((W2.alloc (.cells #[.int .i64 1, .slice (some ⟨b, 0, none⟩) 1 1, .slice none 0 0, .slice none 0 0, .int .i64 1, .slice none 0 0, .slice none 0 0, .int .i64 0, .int .i64 0, .int .i64 0, .slice none 0 0, .slice none 0 0] 112)).alloc (.cells #[.int .i64 7, .int .i64 0, .int .i64 0, .int .i64 0, .int .i64 0, .int .u64 5] 55)).alloc (.cells #[.int .i64 10, .int .i64 1, .int .i64 7, .int .i64 2, .int .i64 0] 137)) w.heap.size (.slice (some ⟨W2.heap.size, 0, none⟩) 1 1) (.slice none 0 0) (.slice (some ⟨W2.heap.size + 1, 0, none⟩) 1 1) (.slice (some ⟨W2.heap.size + 1 + 1, 0, none⟩) 1 1)).heap[k]? = some o := fun h hk => set4_far h hk
  have ok1 : ∀ b, SlOk (some ⟨b, 0, none⟩) 1 1 := fun b => ⟨Nat.le_refl _, (fun e => by cases e), (fun ad e _ => by cases e; rfl)⟩
  refine ⟨set4_at HX0'.out, ⟨⟨Jr (far y1 (by omega)) (by simp [exL, JW]) (by simp [exL, JW, exW, exWp]), fun x hx => ?_, fun x hx => ?_, fun x hx => ?_⟩, SlAt.nil _ _ _, Jr (far y2 (by omega)) (by simp [exL, Uh]) (by simp [exL, Uh]), Jr (far y3 (by omega)) (by simp [exL, Lo.cells]) (by simp [exL, Lo.cells]), ok1 _, SlOk.nil, ok1 _, ok1 _⟩, set4_below HB'.out (Nat.le_refl _) _ _ _ _⟩
  ·rw [show x = (exW, exWp b) by simpa [exL] using hx]
   exact ⟨SlAt.nil _ _ _, SlAt.nil _ _ _, SlAt.nil _ _ _, SlOk.nil, SlOk.nil, SlOk.nil⟩
  ·rw [show x = (exW, exWp b) by simpa [exL] using hx]
   exact Jr (far HX1'.out (by omega)) (by simp [exW, Y4]) (by simp [exW, Y4])
  ·rw [show x = (exW, exWp b) by simpa [exL] using hx]
   exact ok1 _)
 clear HX0 HX1 HX1' HX2 HB HB' HX0' y1 y2 y3
 go_wp2
 obtain ⟨h1, h2, h3⟩ := HF.out _ rfl
 refine bodyPost_ret (Z0 rfl _ _ w.heap.size 27 _ (0, 0) _ rfl h1 Tryz.underlying27 rfl (by kernel_rfl)) rfl ?_
 exact ⟨b, _, rfl, h2, h3⟩
end Go.Proofs.YtajijcfikihhjaaGreatDoor
