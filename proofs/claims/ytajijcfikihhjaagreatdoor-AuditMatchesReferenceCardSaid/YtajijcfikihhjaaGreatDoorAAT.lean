import Derived.Test.YtajijcfikihhjaaGreatDoorAAS
import Derived.Lib.OwnBridge
set_option linter.unusedSimpArgs false
set_option linter.unusedVariables false
set_option maxRecDepth 100000
set_option maxHeartbeats 16000000
namespace Go.Proofs.YtajijcfikihhjaaGreatDoor
open Go.RowKit Go.Sort Go.Shelf
abbrev V0 (L : Lb) (d : List De) (x : Lg) : List Vd := QA L d x.st 0 0 0 x.es
theorem verdsOf_en (L : Lb) (d : List De) (st : Int) : ∀ (es : List En) (k m : Int) (i : Nat), ∀ v ∈ QA L d st k m i es, v.st = st ∧ (i : Int) ≤ v.en ∧ v.en < ((i + es.length : Nat) : Int)
 | [], k, m, i, v, h => by simp [QA] at h
 | x :: es, k, m, i, v, h => by
  rw [QA] at h
  rcases List.mem_append.1 h with h | h
  ·obtain ⟨r, _, rfl⟩ := List.mem_map.1 h
   exact ⟨rfl, Int.le_refl _, by simp; omega⟩
  ·obtain ⟨h1, h2, h3⟩ := verdsOf_en L d st es _ _ _ v h
   refine ⟨h1, ?_, ?_⟩
   ·omega
   ·simp only [List.length_cons]; omega
def U4 (es : List En) : Prop := (∀ e ∈ es, Qt e = true) ∧ es.Pairwise fun a b => a.time ≤ b.time
theorem entsOk_iff : ∀ (es : List En) (p : Option Int), QI p es = true ↔ U4 es ∧ ∀ t, p = some t → ∀ e ∈ es, t ≤ e.time
 | [], p => by simp [QI, U4]
 | x :: es, p => by
  rw [QI, Bool.and_eq_true, Bool.and_eq_true, entsOk_iff es]
  unfold U4
  rw [List.pairwise_cons]
  constructor
  ·rintro ⟨⟨h1, h2⟩, ⟨h3, h4⟩, h5⟩
   have h5' := h5 x.time rfl
   refine ⟨⟨fun e he => ?_, h5', h4⟩, fun t ht e he => ?_⟩
   ·rcases List.mem_cons.1 he with rfl | he
    ·exact h1
    ·exact h3 e he
   ·subst ht
    have h6 : t ≤ x.time := by simpa [Ju] using h2
    rcases List.mem_cons.1 he with rfl | he
    ·exact h6
    ·exact Int.le_trans h6 (h5' e he)
  ·rintro ⟨⟨h1, h2, h3⟩, h4⟩
   refine ⟨⟨h1 x (by simp), ?_⟩, ⟨fun e he => h1 e (by simp [he]), h3⟩, fun t ht e he => ?_⟩
   ·cases p with
    | none => rfl
    | some t => simpa [Ju] using h4 t rfl x (by simp)
   ·cases ht; exact h2 e he
def mkLg (st : Int) (es : List En) : Lg := ⟨st, es, Qr st es⟩
theorem valid_mk {st : Int} {es : List En} (h1 : 1 ≤ st ∧ st ≤ 1000000) (h2 : es.length ≤ 5000) (h3 : U4 es) : Qw (mkLg st es) = true := by
 unfold Qw mkLg
 simp only [Bool.and_eq_true, Zg, decide_eq_true_eq, beq_self_eq_true, and_true]
 exact ⟨⟨h1, h2⟩, (entsOk_iff es none).2 ⟨h3, fun t ht => by cases ht⟩⟩
theorem append_mk {st : Int} {es : List En} {e : En} (h1 : 1 ≤ st ∧ st ≤ 1000000) (h2 : es.length < 5000) (h3 : U4 es) (he : Qt e = true) (ht : ∀ x ∈ es, x.time ≤ e.time) : QR (mkLg st es) e = (mkLg st (es ++ [e]), 0) := by
 unfold QR
 rw [valid_mk h1 (by omega) h3, he, if_neg (by simp), if_neg (by show ¬ es.length = 5000; omega), if_neg]
 ·rfl
 ·show ¬ (match es.getLast? with | none => false | some x => decide (e.time < x.time)) = true
  cases hl : es.getLast? with
  | none => simp
  | some x =>
   have := ht x (List.mem_of_getLast? hl)
   simp; omega
theorem idx_find {α : Type} (p : α → Bool) (l : List α) : (∃ k, ∃ hk : k < l.length, idxO p l = k ∧ l.find? p = some l[k]) ∨ (idxO p l = -1 ∧ l.find? p = none) := by
 cases h : l.findIdx? p with
 | none =>
  right
  have h' := h
  rw [List.findIdx?_eq_none_iff] at h
  exact ⟨by simp [idxO, h'], List.find?_eq_none.2 fun x hx => by simpa using h x hx⟩
 | some k =>
  left
  obtain ⟨hk, h1, h2⟩ := List.findIdx?_eq_some_iff_getElem.1 h
  refine ⟨k, hk, by simp [idxO, h], List.find?_eq_some_iff_getElem.2 ⟨h1, k, hk, rfl, fun j hj => by simpa using h2 j hj⟩⟩
theorem mostL_lt (a : Int) : ∀ (es : List En) (m : Int), a < J6 m es ↔ a < m ∨ ∃ x ∈ es, x.kind = 3 ∧ a < x.a
 | [], m => by simp [J6]
 | x :: es, m => by
  rw [show J6 m (x :: es) = J6 (Zu m x) es from rfl, mostL_lt a es]
  unfold Zu
  simp only [List.mem_cons, exists_eq_or_imp]
  split
  ·rename_i h
   constructor
   ·rintro (h1 | h1)
    ·by_cases h2 : a < m
     ·exact .inl h2
     ·exact .inr (.inl ⟨h, by omega⟩)
    ·exact .inr (.inr h1)
   ·rintro (h1 | h1 | h1)
    ·exact .inl (by omega)
    ·exact .inl (by omega)
    ·exact .inr h1
  ·rename_i h
   constructor
   ·rintro (h1 | h1)
    ·exact .inl h1
    ·exact .inr (.inr h1)
   ·rintro (h1 | h1 | h1)
    ·exact .inl h1
    ·exact absurd h1.1 h
    ·exact .inr h1
theorem forgB_iff (es : List En) (a : Int) (h : 0 ≤ a) : UX es a = true ↔ a < J6 0 es := by
 rw [mostL_lt]
 unfold UX
 rw [List.any_eq_true]
 simp only [Bool.and_eq_true, decide_eq_true_eq]
 constructor
 ·rintro ⟨x, h1, h2, h3⟩; exact .inr ⟨x, h1, h2, h3⟩
 ·rintro (h1 | ⟨x, h1, h2, h3⟩)
  ·omega
  ·exact ⟨x, h1, h2, h3⟩
theorem U3 : ∀ (es : List En) (k : Int), 0 ≤ k → (∀ e ∈ es, Qt e = true) → 0 ≤ Y3 k es
 | [], k, h, _ => h
 | x :: es, k, h, he => by
  refine U3 es (Zl k x) ?_ (fun e hm => he e (by simp [hm]))
  have := (YR (he x (by simp))).2.2.1
  unfold Zl; split <;> omega
theorem rules2_none {L : Lb} {d : List De} {st k m : Int} {e : En} (h2 : e.kind = 2) (h : ZA L.shs e.a = none) : Zb L d st k m e = [2] := by
 unfold Zb; rw [if_neg (by omega), if_pos h2, h]
theorem rules2_some {L : Lb} {d : List De} {st k m : Int} {e : En} {s : Sx} (h2 : e.kind = 2) (h : ZA L.shs e.a = some s) : Zb L d st k m e = (if s.dg = e.dg then [] else [2]) ++ (if Ub L st e then [] else [3]) := by
 unfold Zb; rw [if_neg (by omega), if_pos h2, h]
def RetOwn (rows : List (List Value)) (w : World) (e : Ending) (w' : World) : Prop := ∃ v, e = .returned v ∧ OwnR w' w.heap.size 3 1 v rows ∧ Below w.heap.size w w'
theorem UL {rs : List Int} {W w w' : World} {v : Value} (ho : OwnR w' W.heap.size 3 1 v (rs.map inRow)) (hk : Below w.heap.size w w') (hB : w.heap.size ≤ W.heap.size) : RetOwn (rs.map inRow) w (.returned v) w' := ⟨v, rfl, ho.low hB, hk⟩
theorem Rrules_any (L : Lb) (P : Lbp) (d : List De) (da : Option Addr) (dc : Nat) (l : Lg) (a : Option Addr) (cap n : Nat) (w : World) (hf : LbFew L) (hbl : ∀ x ∈ L.ws, x.1.bars.length ≤ 1000) (hdl : d.length ≤ 1000) (hL : LbAt w L P) (hdk : SlOk da d.length dc) (hd : DeAt w da d) (hv : QH (Qk L.ws) d = true)
  (hn : n < l.es.length) (hl : l.es.length ≤ 1000) (hok : ∀ e ∈ l.es, Qt e = true) (ha : EnAt w a l.es) :
  Calls Tryz.prog 39 #[.agg #[.slice (P).wa (L).ws.length (P).wc, .slice (P).ea (L).eds.length (P).ec, .slice (P).sa (L).shs.length (P).sc, .slice (P).la (L).los.length (P).lc], .slice da d.length dc, .agg #[.int .i64 (l).st, .slice a (l).es.length cap, .int .u64 (l).ch], .int .i64 n] w (RetOwn ((Zb L d l.st (Y3 0 (l.es.take n)) (J6 0 (l.es.take n)) l.es[n]).map inRow) w) := by
 obtain ⟨x1, x2, x3, hb⟩ := box3 (w := w) (A := .cells #[.slice (P).wa (L).ws.length (P).wc, .slice (P).ea (L).eds.length (P).ec, .slice (P).sa (L).shs.length (P).sc, .slice (P).la (L).los.length (P).lc] 27 (0, 0)) (B := .cells #[.int .i64 (l).st, .slice a (l).es.length cap, .int .u64 (l).ch] 44 (0, 0)) (C := .cells #[.int .i64 (l.es[n]).time, .int .i64 (l.es[n]).kind, .int .i64 (l.es[n]).a, .int .i64 (l.es[n]).b, .int .i64 (l.es[n]).c, .int .u64 (l.es[n]).dg] 50 (0, 0)) (Below.refl _ _)
 have hb2 : Below w.heap.size w ((w.alloc (.cells #[.slice (P).wa (L).ws.length (P).wc, .slice (P).ea (L).eds.length (P).ec, .slice (P).sa (L).shs.length (P).sc, .slice (P).la (L).los.length (P).lc] 27 (0, 0))).alloc (.cells #[.int .i64 (l).st, .slice a (l).es.length cap, .int .u64 (l).ch] 44 (0, 0))) := ((Below.refl _ _).alloc (Nat.le_refl _) _).alloc (by simp) _
 have hen := YR (hok l.es[n] (List.getElem_mem hn))
 have htake : ∀ e ∈ l.es.take n, Qt e = true := fun e he => hok e (List.mem_of_mem_take he)
 have hkg := U3 (l.es.take n) 0 (Int.le_refl _) htake
 have hfi := forgB_iff (l.es.take n) l.es[n].a hen.2.2.1.1
 obtain ⟨b, off, eq, d0, d1, d2, d3, d4, d5⟩ := EnAt.get (EnAt.below ha hb2) n hn
 have hni : (n : Int) < (l.es.length : Int) := by omega
 have HSh := Qa (fun V (hV : Below w.heap.size w V) => Rshows_any L P l.es[n] V hf (hL.below hV))
 have HSt := Qa (fun V (hV : Below w.heap.size w V) => RSheet_any P.sa P.sc L.shs l.es[n].a V (by have := hf.shs; omega) (SlAt.below hL.shs hV))
 have HHo := Qa (fun V (hV : Below w.heap.size w V) => Holder_any P.la L.los.length P.lc L.los l.es[n].a l.es[n].time V rfl (by have := hf.los; omega) hL.okl (LoAt.below hL.los hV))
 have HFo := Qa (fun V (hV : Below w.heap.size w V) => Rforgets_any l a cap n V hn (by omega) (EnAt.below ha hV))
 have HKn := Qa (fun V (hV : Below w.heap.size w V) => RKnows_any da d.length dc l a cap n V (by omega) (by omega) (by omega) (EnAt.below ha hV))
 have HCa := Qa (fun V (hV : Below w.heap.size w V) => RCalled_any L P d da dc (min (Y3 0 (l.es.take n)) d.length) l.es[n] V hf hbl hdl (hL.below hV) hdk (SlAt.below hd hV) hv (by omega) hen.1)
 have HSx := Qa (show SxAt _ P.sa L.shs from SlAt.below hL.shs hb)
 have hsl := hf.shs
 generalize hRL : Zb L d l.st (Y3 0 (l.es.take n)) (J6 0 (l.es.take n)) l.es[n] = RL
 have HR := Qa hRL.symm
 clear hRL
 have hix := idx_find (fun s : Sx => decide (s.id = l.es[n].a)) L.shs
 clear hL hd hok htake ha hbl hf hv hdk
 generalize l.es.take n = pre at *
 generalize l.es[n] = e at *
 generalize Y3 0 pre = kn at *
 generalize J6 0 pre = mo at *
 obtain ⟨st, es, ch⟩ := l
 obtain ⟨wa, wc, ea, ec, sa, sc, la, lc⟩ := P
 dsimp only at *
 subst eq
 have HX1 := Qa x1; have HX2 := Qa x2; have HX3 := Qa (show (((w.alloc _).alloc _).alloc (.cells #[.int .i64 (e).time, .int .i64 (e).kind, .int .i64 (e).a, .int .i64 (e).b, .int .i64 (e).c, .int .u64 (e).dg] 50 (0, 0))).heap[w.heap.size + 1 + 1]? = _ from x3); have HB := Qa hb
 clear x1 x2 x3 hb2
 go_enter Tryz.func39, Tryz.ntmps39
 go_upto_region 3 with (fail)
 clear hb
 generalize ((w.alloc _).alloc _).alloc (.cells #[.int .i64 (e).time, .int .i64 (e).kind, .int .i64 (e).a, .int .i64 (e).b, .int .i64 (e).c, .int .u64 (e).dg] 50 (0, 0)) = W at *
 have HK := Qa (show Below w.heap.size w W ∧ W.heap.size ≤ W.heap.size from ⟨HB.out, Nat.le_refl _⟩)
 have HO := Qa (OwnR.nil W W.heap.size 3 1)
 have hc1 := Qb HX1.out; have hc2 := Qb HX2.out; have hc3 := Qb HX3.out
 have hlw1 := Qd HX1.out; have hlw2 := Qd HX2.out; have hlw3 := Qd HX3.out
 have HKind : ∀ z : Int, (e.kind == z) = decide (e.kind = z) := fun z => by by_cases h : e.kind = z <;> simp [h]
 by_cases hk1 : e.kind = 1
 ·have HE := Qa (show RL = if JF L e then [] else [1] by rw [HR.out]; unfold Zb; rw [if_pos hk1])
  have t1 : (e.kind == 1) = true := by simp [hk1]
  clear HR hk1 HKind hix hfi
  cases hs : JF L e
  ·rw [hs] at HE HSh
   clear hs
   go_wp2_with (first | (go_at_call 70; refine (HSh.out _ HK.out.1).mono ?_; rintro e5 w5 ⟨rfl, hb5⟩; replace HX1 := bk HX1 hb5; replace HX2 := bk HX2 hb5; replace HX3 := bk HX3 hb5; replace HO := Qa (HO.out.below hb5); replace HK := Qa (⟨HK.out.1.trans (hb5.mono HK.out.1.size), Nat.le_trans HK.out.2 hb5.size⟩ : Below w.heap.size w w5 ∧ W.heap.size ≤ w5.heap.size); clear hc1 hc2 hc3 hb5; have hc1 := Qb HX1.out; have hc2 := Qb HX2.out; have hc3 := Qb HX3.out) | (at_builtin; refine appE eltInD rfl (.tmp 28) (.tmp 29) rfl W.heap.size _ [] rfl (HO.out.below (Qg _)) _ _ _ [1] rfl rfl (fun e => by cases e) (eltInD.new _ _ _ _ rfl) (by simp) (by have := HK.out.2; simp <;> omega) ?_; intro v5 w5 ho5 hg5; have HO5 := Qa ho5; have HK5 := Qa (⟨(HK.out.1.alloc HK.out.1.size (.cells #[.int .i64 1] 3)).grown hg5 (by have := HK.out.1.size; simp; omega) (fun k e => by have := (HO.out.lt k e).1; omega), by have := HK.out.2; have := hg5.size; simp at this; omega⟩ : Below w.heap.size w w5 ∧ W.heap.size ≤ w5.heap.size)))
   go_ret
   rw [HE.out]
   exact UL HO5.out HK5.out.1 HB.out.size
  ·rw [hs] at HE HSh
   clear hs
   go_wp2_with (go_at_call 70; refine (HSh.out _ HK.out.1).mono ?_; rintro e5 w5 ⟨rfl, hb5⟩; replace HX1 := bk HX1 hb5; replace HX2 := bk HX2 hb5; replace HX3 := bk HX3 hb5; replace HO := Qa (HO.out.below hb5); replace HK := Qa (⟨HK.out.1.trans (hb5.mono HK.out.1.size), Nat.le_trans HK.out.2 hb5.size⟩ : Below w.heap.size w w5 ∧ W.heap.size ≤ w5.heap.size); clear hc1 hc2 hc3 hb5; have hc1 := Qb HX1.out; have hc2 := Qb HX2.out; have hc3 := Qb HX3.out)
   go_ret
   rw [HE.out]
   exact UL HO.out HK.out.1 HB.out.size
 have t1 : (e.kind == 1) = false := by simp [hk1]
 by_cases hk2 : e.kind = 2
 ·have HE1 := Qa (fun h => HR.out.trans (rules2_none (L := L) (d := d) (st := st) (k := kn) (m := mo) hk2 h))
  have HE2 := Qa (fun s h => HR.out.trans (rules2_some (L := L) (d := d) (st := st) (k := kn) (m := mo) (s := s) hk2 h))
  have hhb : Ub L st e = ((Zo L.los e.a e.time).2.1 && decide ((Zo L.los e.a e.time).1 = st)) := rfl
  rw [show ZA L.shs e.a = L.shs.find? (fun s => decide (s.id = e.a)) from rfl] at HE1
  rw [hhb] at HE2
  have t2 : (e.kind == 2) = true := by simp [hk2]
  clear HR hk1 hk2 HKind hfi HSh HFo HKn HCa hhb
  rw [show JU L.shs e.a = idxO (fun s : Sx => decide (s.id = e.a)) L.shs from rfl] at HSt
  generalize Zo L.los e.a e.time = R at *
  obtain ⟨hs, hh, he⟩ := R
  dsimp only at *
  rcases hix with ⟨j, hj, e1, e2⟩ | ⟨e1, e2⟩
  ·have HE := Qa (HE2.out L.shs[j] e2)
   rw [e1] at HSt
   clear HE1 HE2 e1 e2
   have hj0 : (0 : Int) ≤ (j : Int) := by omega
   have hj1 : (j : Int) < (L.shs.length : Int) := by omega
   have hjb : decide ((j : Int) < 0) = false := decide_eq_false (by omega)
   have hjc : decide ((j : Int) ≥ 0) = true := decide_eq_true (by omega)
   go_upto_region 9 with (go_at_call 53; refine (HSt.out _ HK.out.1).mono ?_; rintro e5 w5 ⟨rfl, hb5⟩; have HSx5 := Qa (show SxAt w5 sa L.shs from SlAt.below HSx.out hb5); replace HX1 := bk HX1 hb5; replace HX2 := bk HX2 hb5; replace HX3 := bk HX3 hb5; replace HO := Qa (HO.out.below hb5); replace HK := Qa (⟨HK.out.1.trans (hb5.mono HK.out.1.size), Nat.le_trans HK.out.2 hb5.size⟩ : Below w.heap.size w w5 ∧ W.heap.size ≤ w5.heap.size); clear hc1 hc2 hc3 hb5; have hc1 := Qb HX1.out; have hc2 := Qb HX2.out; have hc3 := Qb HX3.out)
   obtain ⟨sb, so, se, _, _, _, _, _, s5⟩ := SxAt.get HSx5.out j hj
   clear HSx HSx5 HSt
   generalize L.shs[j] = s at *
   subst se
   have HHo5 := Qa (fun n => HHo.out (w5.drewN n) (below_drewN HK.out.1 n))
   by_cases hdg : s.dg = e.dg
   ·rw [if_pos hdg, List.nil_append] at HE
    have hdb : (s.dg != e.dg) = false := by simp [hdg]
    clear hdg
    go_quiet (fail)
    have HX1n := Qa (show (w5.drewN nq).heap[w.heap.size]? = _ from HX1.out); have HX2n := Qa (show (w5.drewN nq).heap[w.heap.size + 1]? = _ from HX2.out); have HX3n := Qa (show (w5.drewN nq).heap[w.heap.size + 1 + 1]? = _ from HX3.out); have HOn := Qa (HO.out.below (below_drewN (Below.refl _ w5) nq)); have HKn9 := Qa (⟨below_drewN HK.out.1 nq, HK.out.2⟩ : Below w.heap.size w (w5.drewN nq) ∧ W.heap.size ≤ (w5.drewN nq).heap.size); clear HX1 HX2 HX3 HO HK hc1 hc2 hc3 s5; have HX1 := HX1n; have HX2 := HX2n; have HX3 := HX3n; have HO := HOn; have HK := HKn9; clear HX1n HX2n HX3n HOn HKn9; generalize w5.drewN nq = w6 at *; have hc1 := Qb HX1.out; have hc2 := Qb HX2.out; have hc3 := Qb HX3.out
    go_upto_region 12 with (go_at_call 71; refine (HHo.out _ HK.out.1).mono ?_; rintro e5 w5 ⟨rfl, hb5⟩; replace HX1 := bk HX1 hb5; replace HX2 := bk HX2 hb5; replace HX3 := bk HX3 hb5; replace HO := Qa (HO.out.below hb5); replace HK := Qa (⟨HK.out.1.trans (hb5.mono HK.out.1.size), Nat.le_trans HK.out.2 hb5.size⟩ : Below w.heap.size w w5 ∧ W.heap.size ≤ w5.heap.size); clear hc1 hc2 hc3 hb5; have hc1 := Qb HX1.out; have hc2 := Qb HX2.out; have hc3 := Qb HX3.out)
    go_cut [76] (fun s V => s = .bool (!(hh && decide (hs = st))) ∧ V = w5)
    case first =>
     cases hh
     ·go_wp2
      go_meet
      case rel => exact ⟨rfl, rfl⟩
     ·have h3 : (hs != st) = !decide (hs = st) := by (by_cases h : hs = st) <;> simp [h]
      cases hq : decide (hs = st) <;> rw [hq] at h3 <;> (go_wp2; go_meet) <;> exact ⟨by rw [hq]; rfl, rfl⟩
    obtain ⟨rfl, hwc⟩ := hcut
    have hw2 := hwc.symm
    subst hw2
    rcases Bool.eq_false_or_eq_true (hh && decide (hs = st)) with hq | hq
    ·rw [hq, if_pos rfl] at HE
     rw [hq]
     clear hq
     go_wp2
     go_ret
     rw [HE.out]
     exact UL HO.out HK.out.1 HB.out.size
    ·rw [hq, if_neg (by decide)] at HE
     rw [hq]
     clear hq
     go_wp2_with ((at_builtin; refine appE eltInD rfl (.tmp 77) (.tmp 78) rfl W.heap.size _ [] rfl (HO.out.below (Qg _)) _ _ _ [3] rfl rfl (fun e => by cases e) (eltInD.new _ _ _ _ rfl) (by simp) (by have := HK.out.2; simp <;> omega) ?_; intro v5 w5 ho5 hg5; have HO5 := Qa ho5; have HK5 := Qa (⟨(HK.out.1.alloc HK.out.1.size (.cells #[.int .i64 3] 3)).grown hg5 (by have := HK.out.1.size; simp; omega) (fun k e => by have := (HO.out.lt k e).1; omega), by have := HK.out.2; have := hg5.size; simp at this; omega⟩ : Below w.heap.size w w5 ∧ W.heap.size ≤ w5.heap.size)))
     go_ret
     rw [HE.out]
     exact UL HO5.out HK5.out.1 HB.out.size
   ·rw [if_neg hdg] at HE
    have hdb : (s.dg != e.dg) = true := by simp [hdg]
    clear hdg
    go_quiet (fail)
    have HX1n := Qa (show (w5.drewN nq).heap[w.heap.size]? = _ from HX1.out); have HX2n := Qa (show (w5.drewN nq).heap[w.heap.size + 1]? = _ from HX2.out); have HX3n := Qa (show (w5.drewN nq).heap[w.heap.size + 1 + 1]? = _ from HX3.out); have HOn := Qa (HO.out.below (below_drewN (Below.refl _ w5) nq)); have HKn9 := Qa (⟨below_drewN HK.out.1 nq, HK.out.2⟩ : Below w.heap.size w (w5.drewN nq) ∧ W.heap.size ≤ (w5.drewN nq).heap.size); clear HX1 HX2 HX3 HO HK hc1 hc2 hc3 s5; have HX1 := HX1n; have HX2 := HX2n; have HX3 := HX3n; have HO := HOn; have HK := HKn9; clear HX1n HX2n HX3n HOn HKn9; generalize w5.drewN nq = w6 at *; have hc1 := Qb HX1.out; have hc2 := Qb HX2.out; have hc3 := Qb HX3.out
    go_upto_region 12 with (first | (go_at_call 71; refine (HHo.out _ HK.out.1).mono ?_; rintro e5 w5 ⟨rfl, hb5⟩; replace HX1 := bk HX1 hb5; replace HX2 := bk HX2 hb5; replace HX3 := bk HX3 hb5; replace HO := Qa (HO.out.below hb5); replace HK := Qa (⟨HK.out.1.trans (hb5.mono HK.out.1.size), Nat.le_trans HK.out.2 hb5.size⟩ : Below w.heap.size w w5 ∧ W.heap.size ≤ w5.heap.size); clear hc1 hc2 hc3 hb5; have hc1 := Qb HX1.out; have hc2 := Qb HX2.out; have hc3 := Qb HX3.out) | ((at_builtin; refine appE eltInD rfl (.tmp 51) (.tmp 52) rfl W.heap.size _ [] rfl (HO.out.below (Qg _)) _ _ _ [2] rfl rfl (fun e => by cases e) (eltInD.new _ _ _ _ rfl) (by simp) (by have := HK.out.2; simp <;> omega) ?_; intro v5 w5 ho5 hg5; have HO5 := Qa ho5; have HK5 := Qa (⟨(HK.out.1.alloc HK.out.1.size (.cells #[.int .i64 2] 3)).grown hg5 (by have := HK.out.1.size; simp; omega) (fun k e => by have := (HO.out.lt k e).1; omega), by have := HK.out.2; have := hg5.size; simp at this; omega⟩ : Below w.heap.size w w5 ∧ W.heap.size ≤ w5.heap.size); have HX1a := Qa ((hg5.block w.heap.size (by have := Qd HX1.out; simp; omega) (HO.out.neBlk hlw1)).trans (Qj HX1.out _)); have HX2a := Qa ((hg5.block (w.heap.size + 1) (by have := Qd HX2.out; simp; omega) (HO.out.neBlk hlw2)).trans (Qj HX2.out _)); have HX3a := Qa ((hg5.block (w.heap.size + 1 + 1) (by have := Qd HX3.out; simp; omega) (HO.out.neBlk hlw3)).trans (Qj HX3.out _)); clear HX1 HX2 HX3 HO HK hc1 hc2 hc3 ho5 hg5; have HX1 := HX1a; have HX2 := HX2a; have HX3 := HX3a; have HO := HO5; have HK := HK5; clear HX1a HX2a HX3a HO5 HK5; have hc1 := Qb HX1.out; have hc2 := Qb HX2.out; have hc3 := Qb HX3.out)))
    go_cut [76] (fun s V => s = .bool (!(hh && decide (hs = st))) ∧ V = w5)
    case first =>
     cases hh
     ·go_wp2
      go_meet
      case rel => exact ⟨rfl, rfl⟩
     ·have h3 : (hs != st) = !decide (hs = st) := by (by_cases h : hs = st) <;> simp [h]
      cases hq : decide (hs = st) <;> rw [hq] at h3 <;> (go_wp2; go_meet) <;> exact ⟨by rw [hq]; rfl, rfl⟩
    obtain ⟨rfl, hwc⟩ := hcut
    have hw2 := hwc.symm
    subst hw2
    rcases Bool.eq_false_or_eq_true (hh && decide (hs = st)) with hq | hq
    ·rw [hq, if_pos rfl] at HE
     rw [hq]
     clear hq
     go_wp2
     go_ret
     rw [HE.out]
     exact UL HO.out HK.out.1 HB.out.size
    ·rw [hq, if_neg (by decide)] at HE
     rw [hq]
     clear hq
     go_wp2_with ((at_builtin; refine appE eltInD rfl (.tmp 77) (.tmp 78) rfl W.heap.size _ ([] ++ [2]) rfl (HO.out.below (Qg _)) _ _ _ [3] rfl rfl (fun e => by cases e) (eltInD.new _ _ _ _ rfl) (by simp) (by have := HK.out.2; simp <;> omega) ?_; intro v5 w5 ho5 hg5; have HO5 := Qa ho5; have HK5 := Qa (⟨(HK.out.1.alloc HK.out.1.size (.cells #[.int .i64 3] 3)).grown hg5 (by have := HK.out.1.size; simp; omega) (fun k e => by have := (HO.out.lt k e).1; omega), by have := HK.out.2; have := hg5.size; simp at this; omega⟩ : Below w.heap.size w w5 ∧ W.heap.size ≤ w5.heap.size)))
     go_ret
     rw [HE.out]
     exact UL HO5.out HK5.out.1 HB.out.size
  ·have HE := Qa (HE1.out e2)
   rw [e1] at HSt
   clear HE1 HE2 e1 e2
   go_upto_region 9 with (go_at_call 53; refine (HSt.out _ HK.out.1).mono ?_; rintro e5 w5 ⟨rfl, hb5⟩; replace HX1 := bk HX1 hb5; replace HX2 := bk HX2 hb5; replace HX3 := bk HX3 hb5; replace HO := Qa (HO.out.below hb5); replace HK := Qa (⟨HK.out.1.trans (hb5.mono HK.out.1.size), Nat.le_trans HK.out.2 hb5.size⟩ : Below w.heap.size w w5 ∧ W.heap.size ≤ w5.heap.size); clear hc1 hc2 hc3 hb5; have hc1 := Qb HX1.out; have hc2 := Qb HX2.out; have hc3 := Qb HX3.out)
   go_quiet (fail)
   have s5 := trivial
   have HX1n := Qa (show (w5.drewN nq).heap[w.heap.size]? = _ from HX1.out); have HX2n := Qa (show (w5.drewN nq).heap[w.heap.size + 1]? = _ from HX2.out); have HX3n := Qa (show (w5.drewN nq).heap[w.heap.size + 1 + 1]? = _ from HX3.out); have HOn := Qa (HO.out.below (below_drewN (Below.refl _ w5) nq)); have HKn9 := Qa (⟨below_drewN HK.out.1 nq, HK.out.2⟩ : Below w.heap.size w (w5.drewN nq) ∧ W.heap.size ≤ (w5.drewN nq).heap.size); clear HX1 HX2 HX3 HO HK hc1 hc2 hc3 s5; have HX1 := HX1n; have HX2 := HX2n; have HX3 := HX3n; have HO := HOn; have HK := HKn9; clear HX1n HX2n HX3n HOn HKn9; generalize w5.drewN nq = w6 at *; have hc1 := Qb HX1.out; have hc2 := Qb HX2.out; have hc3 := Qb HX3.out
   go_wp2_with (first | (go_at_call 71; refine (HHo.out _ HK.out.1).mono ?_; rintro e5 w5 ⟨rfl, hb5⟩; replace HX1 := bk HX1 hb5; replace HX2 := bk HX2 hb5; replace HX3 := bk HX3 hb5; replace HO := Qa (HO.out.below hb5); replace HK := Qa (⟨HK.out.1.trans (hb5.mono HK.out.1.size), Nat.le_trans HK.out.2 hb5.size⟩ : Below w.heap.size w w5 ∧ W.heap.size ≤ w5.heap.size); clear hc1 hc2 hc3 hb5; have hc1 := Qb HX1.out; have hc2 := Qb HX2.out; have hc3 := Qb HX3.out) | ((at_builtin; refine appE eltInD rfl (.tmp 51) (.tmp 52) rfl W.heap.size _ [] rfl (HO.out.below (Qg _)) _ _ _ [2] rfl rfl (fun e => by cases e) (eltInD.new _ _ _ _ rfl) (by simp) (by have := HK.out.2; simp <;> omega) ?_; intro v5 w5 ho5 hg5; have HO5 := Qa ho5; have HK5 := Qa (⟨(HK.out.1.alloc HK.out.1.size (.cells #[.int .i64 2] 3)).grown hg5 (by have := HK.out.1.size; simp; omega) (fun k e => by have := (HO.out.lt k e).1; omega), by have := HK.out.2; have := hg5.size; simp at this; omega⟩ : Below w.heap.size w w5 ∧ W.heap.size ≤ w5.heap.size); have HX1a := Qa ((hg5.block w.heap.size (by have := Qd HX1.out; simp; omega) (HO.out.neBlk hlw1)).trans (Qj HX1.out _)); have HX2a := Qa ((hg5.block (w.heap.size + 1) (by have := Qd HX2.out; simp; omega) (HO.out.neBlk hlw2)).trans (Qj HX2.out _)); have HX3a := Qa ((hg5.block (w.heap.size + 1 + 1) (by have := Qd HX3.out; simp; omega) (HO.out.neBlk hlw3)).trans (Qj HX3.out _)); clear HX1 HX2 HX3 HO HK hc1 hc2 hc3 ho5 hg5; have HX1 := HX1a; have HX2 := HX2a; have HX3 := HX3a; have HO := HO5; have HK := HK5; clear HX1a HX2a HX3a HO5 HK5; have hc1 := Qb HX1.out; have hc2 := Qb HX2.out; have hc3 := Qb HX3.out)))
   go_ret
   rw [HE.out]
   exact UL HO.out HK.out.1 HB.out.size
 have t2 : (e.kind == 2) = false := by simp [hk2]
 by_cases hk3 : e.kind = 3
 ·have HE := Qa (show RL = if e.a < mo ∨ (d.length : Int) < e.a then [4] else [] by rw [HR.out]; unfold Zb; rw [if_neg hk1, if_neg hk2, if_pos hk3])
  have t3 : (e.kind == 3) = true := by simp [hk3]
  clear HR hk1 hk2 hk3 HKind hix HSh HSt HHo HKn HCa HSx
  by_cases hd1 : (d.length : Int) < e.a
  ·have hdb : decide (e.a > (d.length : Int)) = true := decide_eq_true hd1
   rw [if_pos (.inr hd1)] at HE
   clear hd1 hfi
   go_wp2_with ((at_builtin; refine appE eltInD rfl (.tmp 92) (.tmp 93) rfl W.heap.size _ [] rfl (HO.out.below (Qg _)) _ _ _ [4] rfl rfl (fun e => by cases e) (eltInD.new _ _ _ _ rfl) (by simp) (by have := HK.out.2; simp <;> omega) ?_; intro v5 w5 ho5 hg5; have HO5 := Qa ho5; have HK5 := Qa (⟨(HK.out.1.alloc HK.out.1.size (.cells #[.int .i64 4] 3)).grown hg5 (by have := HK.out.1.size; simp; omega) (fun k e => by have := (HO.out.lt k e).1; omega), by have := HK.out.2; have := hg5.size; simp at this; omega⟩ : Below w.heap.size w w5 ∧ W.heap.size ≤ w5.heap.size)))
   go_ret
   rw [HE.out]
   exact UL HO5.out HK5.out.1 HB.out.size
  ·have hdb : decide (e.a > (d.length : Int)) = false := decide_eq_false hd1
   cases hf : UX pre e.a
   ·rw [if_neg (fun h => h.elim (fun h => by rw [hfi.2 h] at hf; cases hf) hd1)] at HE
    rw [hf] at HFo
    clear hd1 hfi hf
    go_wp2_with (go_at_call 72; refine (HFo.out _ HK.out.1).mono ?_; rintro e5 w5 ⟨rfl, hb5⟩; replace HX1 := bk HX1 hb5; replace HX2 := bk HX2 hb5; replace HX3 := bk HX3 hb5; replace HO := Qa (HO.out.below hb5); replace HK := Qa (⟨HK.out.1.trans (hb5.mono HK.out.1.size), Nat.le_trans HK.out.2 hb5.size⟩ : Below w.heap.size w w5 ∧ W.heap.size ≤ w5.heap.size); clear hc1 hc2 hc3 hb5; have hc1 := Qb HX1.out; have hc2 := Qb HX2.out; have hc3 := Qb HX3.out)
    go_ret
    rw [HE.out]
    exact UL HO.out HK.out.1 HB.out.size
   ·rw [if_pos (.inl (hfi.1 hf))] at HE
    rw [hf] at HFo
    clear hd1 hfi hf
    go_wp2_with (first | (go_at_call 72; refine (HFo.out _ HK.out.1).mono ?_; rintro e5 w5 ⟨rfl, hb5⟩; replace HX1 := bk HX1 hb5; replace HX2 := bk HX2 hb5; replace HX3 := bk HX3 hb5; replace HO := Qa (HO.out.below hb5); replace HK := Qa (⟨HK.out.1.trans (hb5.mono HK.out.1.size), Nat.le_trans HK.out.2 hb5.size⟩ : Below w.heap.size w w5 ∧ W.heap.size ≤ w5.heap.size); clear hc1 hc2 hc3 hb5; have hc1 := Qb HX1.out; have hc2 := Qb HX2.out; have hc3 := Qb HX3.out) | (at_builtin; refine appE eltInD rfl (.tmp 92) (.tmp 93) rfl W.heap.size _ [] rfl (HO.out.below (Qg _)) _ _ _ [4] rfl rfl (fun e => by cases e) (eltInD.new _ _ _ _ rfl) (by simp) (by have := HK.out.2; simp <;> omega) ?_; intro v5 w5 ho5 hg5; have HO5 := Qa ho5; have HK5 := Qa (⟨(HK.out.1.alloc HK.out.1.size (.cells #[.int .i64 4] 3)).grown hg5 (by have := HK.out.1.size; simp; omega) (fun k e => by have := (HO.out.lt k e).1; omega), by have := HK.out.2; have := hg5.size; simp at this; omega⟩ : Below w.heap.size w w5 ∧ W.heap.size ≤ w5.heap.size)))
    go_ret
    rw [HE.out]
    exact UL HO5.out HK5.out.1 HB.out.size
 have t3 : (e.kind == 3) = false := by simp [hk3]
 by_cases hk5 : e.kind = 5
 ·have HE := Qa (show RL = if JD L d (min kn d.length) e then [] else [5] by rw [HR.out]; unfold Zb; rw [if_neg hk1, if_neg hk2, if_neg hk3, if_pos hk5])
  have t5 : (e.kind == 5) = true := by simp [hk5]
  clear HR hk1 hk2 hk3 hk5 HKind hix HSh HSt HHo HFo hfi HSx
  go_upto_region 18 with (fail)
  have g0 := cell_regrown (hc1 0); have g1 := cell_regrown (hc1 1); have g2 := cell_regrown (hc1 2); have g3 := cell_regrown (hc1 3); have g4 := cell_regrown (hc2 0); have g5 := cell_regrown (hc2 1); have g6 := cell_regrown (hc2 2); have f0 := cell_regrown (hc3 0); have f1 := cell_regrown (hc3 1); have f2 := cell_regrown (hc3 2); have f3 := cell_regrown (hc3 3); have f4 := cell_regrown (hc3 4); have f5 := cell_regrown (hc3 5)
  cases hcb : JD L d (min kn d.length) e
  ·rw [hcb] at HE HCa
   clear hcb
   refine Qn (by kernel_rfl) (by kernel_rfl) ?_; (repeat (go_big_quiet_step (first | (go_at_call 74; refine Calls.regrown_of (HKn.out _ (HK.out.1.trans (by first | exact (below_regrown _ _ _).mono HK.out.1.size | exact (Below.refl _ _))))) | (go_at_call 73; refine Calls.regrown_of (HCa.out _ (HK.out.1.trans (by first | exact (below_regrown _ _ _).mono HK.out.1.size | exact (Below.refl _ _)))))))); refine wpQuiet_nil ?_; intro w5 hb5; clear g0 g1 g2 g3 g4 g5 g6 f0 f1 f2 f3 f4 f5; replace HX1 := bk HX1 hb5; replace HX2 := bk HX2 hb5; replace HX3 := bk HX3 hb5; replace HO := Qa (HO.out.below hb5); replace HK := Qa (⟨HK.out.1.trans (hb5.mono HK.out.1.size), Nat.le_trans HK.out.2 hb5.size⟩ : Below w.heap.size w w5 ∧ W.heap.size ≤ w5.heap.size); clear hc1 hc2 hc3 hb5; have hc1 := Qb HX1.out; have hc2 := Qb HX2.out; have hc3 := Qb HX3.out
   go_wp2_with ((at_builtin; refine appE eltInD rfl (.tmp 106) (.tmp 107) rfl W.heap.size _ [] rfl (HO.out.below (Qg _)) _ _ _ [5] rfl rfl (fun e => by cases e) (eltInD.new _ _ _ _ rfl) (by simp) (by have := HK.out.2; simp <;> omega) ?_; intro v5 w5 ho5 hg5; have HO5 := Qa ho5; have HK5 := Qa (⟨(HK.out.1.alloc HK.out.1.size (.cells #[.int .i64 5] 3)).grown hg5 (by have := HK.out.1.size; simp; omega) (fun k e => by have := (HO.out.lt k e).1; omega), by have := HK.out.2; have := hg5.size; simp at this; omega⟩ : Below w.heap.size w w5 ∧ W.heap.size ≤ w5.heap.size)))
   go_ret
   rw [HE.out]
   exact UL HO5.out HK5.out.1 HB.out.size
  ·rw [hcb] at HE HCa
   clear hcb
   refine Qn (by kernel_rfl) (by kernel_rfl) ?_; (repeat (go_big_quiet_step (first | (go_at_call 74; refine Calls.regrown_of (HKn.out _ (HK.out.1.trans (by first | exact (below_regrown _ _ _).mono HK.out.1.size | exact (Below.refl _ _))))) | (go_at_call 73; refine Calls.regrown_of (HCa.out _ (HK.out.1.trans (by first | exact (below_regrown _ _ _).mono HK.out.1.size | exact (Below.refl _ _)))))))); refine wpQuiet_nil ?_; intro w5 hb5; clear g0 g1 g2 g3 g4 g5 g6 f0 f1 f2 f3 f4 f5; replace HX1 := bk HX1 hb5; replace HX2 := bk HX2 hb5; replace HX3 := bk HX3 hb5; replace HO := Qa (HO.out.below hb5); replace HK := Qa (⟨HK.out.1.trans (hb5.mono HK.out.1.size), Nat.le_trans HK.out.2 hb5.size⟩ : Below w.heap.size w w5 ∧ W.heap.size ≤ w5.heap.size); clear hc1 hc2 hc3 hb5; have hc1 := Qb HX1.out; have hc2 := Qb HX2.out; have hc3 := Qb HX3.out
   go_wp2
   go_ret
   rw [HE.out]
   exact UL HO.out HK.out.1 HB.out.size
 have t5 : (e.kind == 5) = false := by simp [hk5]
 have HE := Qa (show RL = [] by rw [HR.out]; unfold Zb; rw [if_neg hk1, if_neg hk2, if_neg hk3, if_neg hk5])
 clear HR hk1 hk2 hk3 hk5 HKind hix HSh HSt HHo HFo hfi HKn HCa HSx
 go_wp2
 go_ret
 rw [HE.out]
 exact UL HO.out HK.out.1 HB.out.size
attribute [local go_sem] Oper.semAt_some
theorem kmLook {V : World} {km r : Nat} (hm : MapAt V encI km (ZC r)) (k : Int) : (Instr.lookup 148 (.map (some km)) (.int .i64 k) true).run Tryz.prog V = .ok (.tuple #[(mget (ZC r) k).getD .nilFunc, .bool (mget (ZC r) k).isSome]) V := by
 have h := QF (P := Tryz.prog) (z := .nilFunc) Tryz.underlying148 keyI (fun w => by kernel_rfl) hm k true
 refine h.trans ?_
 cases mget (ZC r) k <;> rfl
def YF (L : Lb) (d : List De) (x : Lg) (k : Nat) : List Vd := QA L d x.st 0 0 0 (x.es.take k)
theorem verdL_step (L : Lb) (d : List De) (x : Lg) (k : Nat) (hk : k < x.es.length) : YF L d x (k + 1) = YF L d x k ++ (Zb L d x.st (Y3 0 (x.es.take k)) (J6 0 (x.es.take k)) x.es[k]).map (fun r => ⟨x.st, r, (k : Int)⟩) := by
 unfold YF
 rw [List.take_succ_eq_append_getElem hk, UQ, List.length_take, show min k x.es.length = k by omega, Nat.zero_add]
 rfl
theorem verdL_len (L : Lb) (d : List De) (x : Lg) (k : Nat) (hk : k ≤ x.es.length) : (YF L d x k).length ≤ 2 * k := by
 have := ZT L d x.st (x.es.take k) 0 0 0
 rw [List.length_take] at this
 unfold YF; omega
theorem it_any (n : Nat) (hn : 1 ≤ n) (L : Lb) (P : Lbp) (d : List De) (da : Option Addr) (dc : Nat) (x : Lg) (p : Lq) (g rs re r lb km kb ob N : Nat) (w0 w : World) (hf : LbFew L) (hbl : ∀ x ∈ L.ws, x.1.bars.length ≤ 1000) (hdl : d.length ≤ 1000) (hL : LbAt w0 L P) (hd : DeAt w0 da d) (hv : QH (Qk L.ws) d = true) (hnd : (L.shs.map Sx.id).Nodup)
  (hxl : x.es.length ≤ 800) (hok : ∀ e ∈ x.es, Qt e = true) (hea : EnAt w0 p.a x.es) (hS : ItS L P d da dc x p g rs re r lb km kb w0 w 0 0) (hr0 : w0.heap.size ≤ r) (hne : g ≠ ob ∧ r ≠ ob ∧ lb ≠ ob ∧ kb ≠ ob ∧ rs ≠ ob ∧ re ≠ ob ∧ km ≠ ob) (hob : ob < w.heap.size) (hN : 2 * x.es.length ≤ N) :
  SeqX Fence.wide n Tryz.prog 66 #[.pointer (some ⟨lb, 0, none⟩), .pointer (some ⟨kb, 0, none⟩)] (fun v : Vd => #[.int .i64 v.en, .int .i64 v.rule]) (KeepV w.heap.size w0.heap.size ob) (fun xs => xs = V0 L d x) N [r] w := by
 intro lo J Jx W hW hJ hJx hY h0
 have hBm : rs < w.heap.size ∧ re < w.heap.size ∧ km < w.heap.size := by
  have lt : ∀ {κ : Type} {enc : κ → Value} {j : Nat} {l : List (κ × Value)}, MapAt w enc j l → j < w.heap.size := fun hm => by
   obtain ⟨⟨es, c, h1, _⟩, _⟩ := hm; exact Qd h1
  exact ⟨lt hS.aud.shs, lt hS.aud.eds, lt hS.bm⟩
 have HS0 := Qa (hS.below hW hr0)
 have HJ := Qa hJ; have HJx := Qa hJx; have HY := Qa hY; have H0 := Qa h0
 have hWs := hW.size
 have HKF := Qa (fun e V k m (h : ItS L P d da dc x p g rs re r lb km kb w0 V k m) (hk : 0 ≤ k) (he : Qt e = true) => kind_fn (r := r) (e := e) hf hbl hdl hL hd hv hnd h hk he)
 have HEa := Qa (fun V (h : Below w0.heap.size w0 V) => EnAt.below hea h)
 have HOk := Qa hok
 clear hJ hJx hY h0 hf hbl hdl hL hd hv hnd hea hok hW hS
 refine callsIn_of_wp Tryz.func66 rfl trivial ?_ rfl
 simp only [Tryz.ntmps66, List.size_toArray, List.length_cons, List.length_nil, Nat.reduceAdd, Nat.reduceSub, Array.replicate_succ, Array.replicate_zero, List.push_toArray, List.append_toArray, List.nil_append, List.cons_append]
 refine wpIn_wide.2 ?_
 have hc := Qb HS0.out.bl
 go_wp2
 clear hc
 go_loopw [13] (fun t wr => ∃ k : Nat, k ≤ x.es.length ∧ t = .int .i64 k ∧ J (YF L d x k) wr ∧ ItS L P d da dc x p g rs re r lb km kb w0 wr (Y3 0 (x.es.take k)) (J6 0 (x.es.take k)) ∧ W.heap.size ≤ wr.heap.size) (fun t _ => x.es.length - (intOf t).toNat)
 case atStart => exact ⟨0, Nat.zero_le _, rfl, H0.out, HS0.out, Nat.le_refl _⟩
 case round =>
  clear H0 HS0
  obtain ⟨k, hk, rfl, hj, hs, hz⟩ := hrel
  have HJ1 := Qa hj; have HS1 := Qa hs; have HZ := Qa hz
  clear hj hs hz
  by_cases hlt : k < x.es.length
  ·obtain ⟨b, off, ea, d0, d1, d2, d3, d4, d5⟩ := EnAt.get (HEa.out wr HS1.out.low) k hlt
   have hki : (k : Int) < (x.es.length : Int) := by omega
   have hwk : IntKind.i64.wrap ((k : Int) + 1) = (k : Int) + 1 := IntWalk.i64_in _ (by omega)
   have HV := Qa (verdL_step L d x k hlt)
   have hvl := verdL_len L d x k hk
   have hr2 := UY L d x.st (Y3 0 (x.es.take k)) (J6 0 (x.es.take k)) x.es[k]
   have HNk := Qa (show Y3 0 (x.es.take (k + 1)) = Zl (Y3 0 (x.es.take k)) x.es[k] ∧ J6 0 (x.es.take (k + 1)) = Zu (J6 0 (x.es.take k)) x.es[k] by
    rw [List.take_succ_eq_append_getElem hlt, knowL_snoc]; exact ⟨rfl, by unfold J6; rw [List.foldl_append]; rfl⟩)
   have HKn := Qa (U3 (x.es.take k) 0 (Int.le_refl _) (fun e he => HOk.out e (List.mem_of_mem_take he)))
   have HOe := Qa (HOk.out _ (List.getElem_mem hlt))
   generalize x.es[k] = e at *
   generalize Y3 0 (x.es.take k) = kn at *
   generalize J6 0 (x.es.take k) = mo at *
   rw [ea]
   clear ea
   have hcl := Qb HS1.out.bl
   go_upto_region 3 with (fail)
   have HE := Qa (heap_alloc_new wr (.cells #[.int .i64 (e).time, .int .i64 (e).kind, .int .i64 (e).a, .int .i64 (e).b, .int .i64 (e).c, .int .u64 (e).dg] 50 (0, 0)))
   have hb1 := Qg (w := wr) (.cells #[.int .i64 (e).time, .int .i64 (e).kind, .int .i64 (e).a, .int .i64 (e).b, .int .i64 (e).c, .int .u64 (e).dg] 50 (0, 0))
   have HS2 := Qa (HS1.out.below hb1 hr0); have HJ2 := Qa (HJ.out _ _ _ HJ1.out (Calm.below hb1)); have HZ2 := Qa (Nat.le_trans HZ.out hb1.size)
   clear hcl d0 d1 d2 d3 d4 d5 hb1 HS1 HJ1 HZ
   generalize wr.alloc (.cells #[.int .i64 (e).time, .int .i64 (e).kind, .int .i64 (e).a, .int .i64 (e).b, .int .i64 (e).c, .int .u64 (e).dg] 50 (0, 0)) = w2 at *
   generalize wr.heap.size = eb at *
   have hc := Qb HE.out; have hd := Qb HS2.out.bk
   have hl := kmLook HS2.out.bm e.kind
   rcases HKF.out e w2 kn mo HS2.out HKn.out HOe.out with ⟨hm, hru, hnk, hnm⟩ | ⟨f, hm, hent, hcall⟩
   ·rw [hm] at hl
    simp only [Option.getD_none, Option.isSome_none] at hl
    rw [hru, List.map_nil, List.append_nil] at HV
    rw [hnk, hnm] at HNk
    clear hm hru hnk hnm hr2
    go_wp2
    go_roundw
    case rel => exact ⟨k + 1, by omega, by go_num, by rw [HV.out]; exact HJ2.out, by rw [HNk.out.1, HNk.out.2]; exact HS2.out, HZ2.out⟩
    case measure => simp [intOf]; omega
   ·rw [hm] at hl
    simp only [Option.getD_some, Option.isSome_some] at hl
    generalize Zb L d x.st kn mo e = rl at *
    have HCl := Qa hcall
    clear hm hcall
    have HZw := Qa (Nat.lt_of_lt_of_le hob (Nat.le_trans hWs HZ2.out))
    go_wp2_with (go_at_fn f; refine (HCl.out _ (Below.refl _ _)).mono ?_; rintro e5 w5 ⟨v5, rfl, ho5, hr5, hk5⟩; obtain ⟨a9, c9, e9, _, _⟩ := ho5.slAt; rw [List.length_map] at e9; subst e9)
    have HS5 := Qa (HS2.out.keepB hk5 hr5 hr0); have HJ5 := Qa (HJ.out _ _ _ HJ2.out (Calm.keep1 hk5 HS2.out.br hr5)); have HZ5 := Qa (Nat.le_trans HZ2.out hk5.size); have HO5 := Qa ho5
    have hobw := HZw.out
    clear hk5 hr5 ho5 hc hd hl HE HS2 HJ2 HZ2
    generalize w2.heap.size = B2 at *
    go_loopw [31] (fun t wi => ∃ i : Nat, i ≤ rl.length ∧ t = .int .i64 i ∧ J (YF L d x k ++ (rl.take i).map (fun q => (⟨x.st, q, (k : Int)⟩ : Vd))) wi ∧ ItS L P d da dc x p g rs re r lb km kb w0 wi (Zl kn e) (Zu mo e) ∧ OwnR wi B2 3 1 (.slice a9 rl.length c9) (rl.map inRow) ∧ W.heap.size ≤ wi.heap.size) (fun t _ => rl.length - (intOf t).toNat)
    case atStart => exact ⟨0, Nat.zero_le _, rfl, by rw [List.take_zero, List.map_nil, List.append_nil]; exact HJ5.out, HS5.out, HO5.out, HZ5.out⟩
    case round =>
     clear HJ5 HS5 HO5 HZ5
     obtain ⟨i, hi, rfl, hj, hs, ho, hz⟩ := hrel
     have HJ1 := Qa hj; have HS1 := Qa hs; have HO1 := Qa ho; have HZ1 := Qa hz
     clear hj hs ho hz
     by_cases hit : i < rl.length
     ·obtain ⟨a8, c8, e8, _, hi8⟩ := HO1.out.slAt
      rw [List.length_map] at e8
      cases e8
      obtain ⟨b8, off8, ea8, d0⟩ := InAt.get hi8 i hit
      have hii : (i : Int) < (rl.length : Int) := by omega
      have hwi : IntKind.i64.wrap ((i : Int) + 1) = (i : Int) + 1 := IntWalk.i64_in _ (by omega)
      have HT := Qa (show YF L d x k ++ (rl.take (i + 1)).map (fun q => (⟨x.st, q, (k : Int)⟩ : Vd)) = YF L d x k ++ (rl.take i).map (fun q => (⟨x.st, q, (k : Int)⟩ : Vd)) ++ [⟨x.st, rl[i], (k : Int)⟩] by
       rw [List.take_succ_eq_append_getElem hit, List.map_append, List.append_assoc]; rfl)
      have hpl : (YF L d x k ++ (rl.take i).map (fun q => (⟨x.st, q, (k : Int)⟩ : Vd))).length < N := by
       rw [List.length_append, List.length_map, List.length_take]; omega
      rw [ea8]
      rw [ea8] at HO1
      clear ea8 hi8
      generalize rl[i] = q at *
      generalize YF L d x k ++ (rl.take i).map (fun q => (⟨x.st, q, (k : Int)⟩ : Vd)) = pre at *
      go_upto_region 8 with (fail)
      obtain ⟨fn, tmps, assign, body, hy, hRd⟩ := HY.out pre ⟨x.st, q, (k : Int)⟩ wr HJ1.out hpl
      refine (wpIn_wide (n := n)).1 ?_
      gi_wp2
      refine hRd.mono ?_
      rintro e9 W3 (⟨rfl, hJ3, hk3, _⟩ | ⟨rfl, hJx3, _⟩)
      ·have HJ3 := Qa hJ3; have HS3 := Qa (HS1.out.keepV hk3 hne hBm); have HO3 := Qa (hk3.own HO1.out (by decide) hobw); have HZ3 := Qa (Nat.le_trans HZ1.out hk3.low.size)
       clear hJ3 hk3 d0 HJ1 HS1 HO1 HZ1
       gi_wp2
       go_wp2
       exact ⟨⟨i + 1, by omega, by go_num, by rw [HT.out]; exact HJ3.out, HS3.out, HO3.out, HZ3.out⟩, by simp [intOf]; omega⟩
      ·gi_wp2
       go_wp2
       refine bodyPost_ret (results_none rfl _ _ _) rfl ?_
       exact ⟨⟨_, rfl⟩, .inr ⟨_, hJx3⟩⟩
     ·obtain rfl : i = rl.length := by omega
      rw [List.take_length] at HJ1
      rw [← HV.out] at HJ1
      go_wp2
      exact ⟨⟨k + 1, by omega, by go_num, HJ1.out, by rw [HNk.out.1, HNk.out.2]; exact HS1.out, HZ1.out⟩, by simp [intOf]; omega⟩
  ·obtain rfl : k = x.es.length := by omega
   have HF := Qa (show J (V0 L d x) wr by have := HJ1.out; unfold YF at this; rwa [List.take_length] at this)
   go_wp2
   go_end0
   exact ⟨⟨_, rfl⟩, .inl ⟨_, rfl, HF.out⟩⟩
section
variable {α : Type} [Inhabited α] {enc : α → List Value} {sz : Nat}
theorem holds_ofK (hsz : 0 < sz) {w : World} {g : Nat} {cur : Array Value} {E : TypeId} {L : List α} (hc : w.heap[g]? = some (.cells cur E (0, 0))) (hs : SlAt w (some ⟨g, 0, none⟩) sz (L.map enc)) : HoldsK enc sz w g 0 L.toArray := by
 intro t ht
 rw [size_flatK] at ht
 have ht2 : t / sz < L.length := by simp at ht; exact (Nat.div_lt_iff_lt_mul hsz).2 ht
 refine ⟨?_, by simp [World.frozen?, hc]⟩
 rw [get_flatK _ _ _ _ ht]
 obtain ⟨b, off, e, _, hl, hcl⟩ := hs (t / sz) (enc L[t / sz]) (by simp [ht2])
 cases e
 have hm : t % sz < (enc L[t / sz]).length := by rw [hl]; exact Nat.mod_lt _ hsz
 have := hcl (t % sz) (enc L[t / sz])[t % sz] (by simp [hm])
 rw [show 0 + t / sz * sz + t % sz = 0 + t by rw [Nat.zero_add, Nat.zero_add, Nat.mul_comm]; exact Nat.div_add_mod _ _] at this
 rw [this]
 have e1 : (L.toArray)[t / sz]! = L[t / sz] := by simp [getElem!_pos, ht2]
 rw [e1, getElem!_pos (enc L[t / sz]) (t % sz) hm]; rfl
theorem slat_ofK (hlen : ∀ x, (enc x).length = sz) {w : World} {g : Nat} {L : List α} (hg : g < w.heap.size) (hh : HoldsK enc sz w g 0 L.toArray) : SlAt w (some ⟨g, 0, none⟩) sz (L.map enc) := fun i r hr => by
 have hi : i < L.length := by have := (List.getElem?_eq_some_iff.1 hr).1; simpa using this
 have he : r = enc L[i] := by have := (List.getElem?_eq_some_iff.1 hr).2; simp at this; exact this.symm
 subst he
 refine ⟨g, 0, rfl, hg, hlen _, fun j u hu => ?_⟩
 have hj : j < sz := by have := (List.getElem?_eq_some_iff.1 hu).1; rwa [hlen] at this
 have := (hh.cell (i := i) (c := j) (by simpa using hi) hj).1
 rw [this]
 have e1 : (L.toArray)[i]! = L[i] := by simp [getElem!_pos, hi]
 rw [e1, getElem!_pos (enc L[i]) j (by rw [hlen]; exact hj)]
 exact congrArg some (List.getElem?_eq_some_iff.1 hu).2
theorem size_sortedK (w : World) (g n : Nat) (d : Array α) (os : Array Obj) : w.heap.size ≤ (sortWorldK enc sz w g 0 n d os).heap.size := by
 simp [sortWorldK, putRowK, grow, putRow, mapBlock, Sort.ahead]
theorem below_sortedK {B : Nat} {w : World} {g n : Nat} {d : Array α} {os : Array Obj} (hB : B ≤ w.heap.size) (hg : B ≤ g) : RowKit.Below B w (sortWorldK enc sz w g 0 n d os) := by
 have h1 := Lib.below_putRow (enc := id) (q := n) (d := flatK enc sz d) (RowKit.Below.refl B w) hg
 exact ⟨rfl, rfl, rfl, size_sortedK _ _ _ _ _, fun k hk => by
  have := h1.size
  rw [← h1.block k hk]
  unfold sortWorldK putRowK grow
  exact Array.getElem?_append_left (by omega)⟩
end
abbrev LgR := { x : Lg × Lq // 1 ≤ x.1.st ∧ x.1.st ≤ 1000000 }
instance : Inhabited LgR := ⟨⟨(⟨1, [], 0⟩, ⟨none, 0⟩), by decide⟩⟩
def encL (x : LgR) : List Value := lgRow x.1
def cfL (x y : LgR) : Int := x.1.1.st - y.1.1.st
theorem Uo (x y : LgR) : ltOf cfL x y = decide (x.1.1.st < y.1.1.st) := by
 unfold ltOf cfL
 by_cases h : x.1.1.st < y.1.1.st
 ·rw [decide_eq_true h]; exact decide_eq_true (by omega)
 ·rw [decide_eq_false h]; exact decide_eq_false (by omega)
theorem swoL : SWO (ltOf cfL) where
 irrefl x := by rw [Uo]; simp
 trans x y z h1 h2 := by rw [Uo] at *; simp at *; omega
 ntrans x y z h1 h2 := by rw [Uo] at *; simp at *; omega
theorem audit1_any (x y : Lg × Lq) (hx : 1 ≤ x.1.st ∧ x.1.st ≤ 1000000) (hy : 1 ≤ y.1.st ∧ y.1.st ≤ 1000000) (w : World) :
  Calls Tryz.prog 34 #[.agg #[.int .i64 (x.1).st, .slice (x.2).a (x.1).es.length (x.2).c, .int .u64 (x.1).ch], .agg #[.int .i64 (y.1).st, .slice (y.2).a (y.1).es.length (y.2).c, .int .u64 (y.1).ch]] w fun e w' => e = .returned (.int .i64 (x.1.st - y.1.st)) ∧ w' = (w.alloc (.cells #[.int .i64 (x.1).st, .slice (x.2).a (x.1).es.length (x.2).c, .int .u64 (x.1).ch] 44 (0, 0))).alloc (.cells #[.int .i64 (y.1).st, .slice (y.2).a (y.1).es.length (y.2).c, .int .u64 (y.1).ch] 44 (0, 0)) := by
 obtain ⟨x1, x2, hb⟩ := box2 (w := w) (A := .cells #[.int .i64 (x.1).st, .slice (x.2).a (x.1).es.length (x.2).c, .int .u64 (x.1).ch] 44 (0, 0)) (B := .cells #[.int .i64 (y.1).st, .slice (y.2).a (y.1).es.length (y.2).c, .int .u64 (y.1).ch] 44 (0, 0)) (Below.refl _ _)
 have hws : IntKind.i64.wrap (x.1.st - y.1.st) = x.1.st - y.1.st := IntWalk.i64_in _ (by omega)
 go_enter Tryz.func34, Tryz.ntmps34
 go_upto_region 1 with (fail)
 have hc := Qb x1; have hd := Qb x2
 generalize hW : (w.alloc (.cells #[.int .i64 (x.1).st, .slice (x.2).a (x.1).es.length (x.2).c, .int .u64 (x.1).ch] 44 (0, 0))).alloc (.cells #[.int .i64 (y.1).st, .slice (y.2).a (y.1).es.length (y.2).c, .int .u64 (y.1).ch] 44 (0, 0)) = W at *
 have HW := Qa hW.symm
 clear hW
 go_wp2
 go_ret
 exact ⟨QK rfl, HW.out⟩
theorem cmpL (g size : Nat) (w : World) (hg : g ≤ w.heap.size) : CmpLays Tryz.prog 34 #[] encL 3 cfL g 0 size w := by
 intro m os dk _ x y
 obtain ⟨x, hx⟩ := x
 obtain ⟨y, hy⟩ := y
 generalize sortWorldK encL 3 w g 0 m dk os = W at *
 exact (audit1_any x y hx hy W).mono fun e w' ⟨he, hw⟩ => ⟨he, 0, #[.cells #[.int .i64 (x.1).st, .slice (x.2).a (x.1).es.length (x.2).c, .int .u64 (x.1).ch] 44 (0, 0), .cells #[.int .i64 (y.1).st, .slice (y.2).a (y.1).es.length (y.2).c, .int .u64 (y.1).ch] 44 (0, 0)], by rw [hw, alloc_eq_grow, alloc_eq_grow, grow_grow]; rfl⟩
theorem lift_lg {l : List (Lg × Lq)} (h : ∀ x ∈ l, 1 ≤ x.1.st ∧ x.1.st ≤ 1000000) : ∃ L : List LgR, L.map Subtype.val = l := by
 induction l with
 | nil => exact ⟨[], rfl⟩
 | cons d l ih =>
  obtain ⟨L, e⟩ := ih fun x hx => h x (by simp [hx])
  exact ⟨⟨d, h d (by simp)⟩ :: L, by simp [e]⟩
theorem encL_map (L : List LgR) : L.map encL = (L.map Subtype.val).map lgRow := by simp [encL, Function.comp_def]
def SortLPost (B : Nat) (v : Value) (l : List (Lg × Lq)) (w : World) (e : Ending) (w' : World) : Prop :=
 ∃ (s : List (Lg × Lq)) (g cap : Nat), e = .returned (.tuple #[]) ∧ s.Perm l ∧ (s.Pairwise fun a b => a.1.st ≤ b.1.st) ∧ v = .slice (some ⟨g, 0, none⟩) s.length cap ∧ SlAt w' (some ⟨g, 0, none⟩) 3 (s.map lgRow) ∧ RowKit.Below B w w' ∧ B ≤ g ∧ ∃ cs, w'.heap[g]? = some (.cells cs 44 (0, 0))
theorem sortL_any (B : Nat) (v : Value) (l : List (Lg × Lq)) (w : World) (h0 : l ≠ []) (hl : l.length ≤ 100000) (hid : ∀ x ∈ l, 1 ≤ x.1.st ∧ x.1.st ≤ 1000000) (o : OwnR w B 44 3 v (l.map lgRow)) (hB : B ≤ w.heap.size) :
  Calls Tryz.prog 33 #[v, .func (.func 34) #[] #[]] w (SortLPost B v l w) := by
 obtain ⟨L, rfl⟩ := lift_lg hid
 obtain ⟨a, cap0, ev, hok, hs⟩ := o.slAt
 obtain ⟨_, h1, h2⟩ := o
 rcases h2 with ⟨_, h2⟩ | ⟨g, cap, cur, rfl, hg, hc, h3', h4, h5, h6⟩
 ·exact absurd (List.length_eq_zero_iff.1 (by simpa using h2)) h0
 cases ev
 rw [← encL_map] at hs
 have hlt : g < w.heap.size := Qd hc
 have eg : ∀ args w, (callFunc 34 args).run Tryz.prog w = .ok (.enter 34 args) w := enters_of Tryz.func34 (by kernel_rfl) rfl
 have hcon := AnyQ.slices_SortFunc (P := Tryz.prog) Lay.sortL 3 (fun w => by kernel_rfl) (fun w => by kernel_rfl) encL (fun _ => rfl) (fun x v hv => by simp [encL, lgRow] at hv; rcases hv with rfl | rfl | rfl <;> rfl) cfL swoL 34 #[] g 0 cap0 L.toArray w eg (cmpL g _ w (by omega)) (holds_ofK (by decide) hc hs) hlt (by simp at hl ⊢; omega)
 simp only [List.length_map, List.size_toArray] at hcon ⊢
 refine Calls.mono hcon ?_
 rintro e w' ⟨rfl, d', n, os, hp, hso, rfl⟩
 obtain ⟨hsz, _, hp⟩ := hp
 have hh := holdsK_sortWorldK_c encL 3 w g 0 L.toArray d' n os (holds_ofK (by decide) hc hs) hlt hsz
 refine ⟨d'.toList.map Subtype.val, g, cap0, rfl, ?_, ?_, ?_, ?_, below_sortedK hB hg, hg, ?_⟩
 ·have e1 : d'.extract 0 L.length = d' := by simp at hsz; rw [← hsz]; simp
  have e2 : L.toArray.extract 0 L.length = L.toArray := by simp
  rw [e1, e2] at hp
  exact hp.map Subtype.val
 ·rw [List.pairwise_map, List.pairwise_iff_getElem]
  intro i j hi hj hij
  have h7 := hso i j (Nat.zero_le _) hij (by simp at hsz hj ⊢; omega)
  rw [Uo] at h7
  simp only [Array.length_toList] at hi hj
  rw [getElem!_pos d' i hi, getElem!_pos d' j hj] at h7
  simpa using h7
 ·simp [hsz]
 ·rw [← encL_map]
  exact slat_ofK (enc := encL) (sz := 3) (fun _ => rfl) (Nat.lt_of_lt_of_le hlt (size_sortedK _ _ _ _ _)) (by simpa using hh)
 ·unfold sortWorldK putRowK grow putRow mapBlock Sort.ahead
  simp only
  rw [Array.getElem?_append_left (by simpa using hlt), Array.getElem?_modify, if_pos rfl, hc]
  exact ⟨_, rfl⟩
end Go.Proofs.YtajijcfikihhjaaGreatDoor
