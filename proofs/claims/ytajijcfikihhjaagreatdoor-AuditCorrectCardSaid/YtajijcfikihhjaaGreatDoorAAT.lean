import Derived.Test.YtajijcfikihhjaaGreatDoorAAS
import Derived.Lib.OwnBridge
set_option linter.unusedSimpArgs false
set_option linter.unusedVariables false
set_option maxRecDepth 100000
set_option maxHeartbeats 16000000
namespace Go.Proofs.YtajijcfikihhjaaGreatDoor
open Go.RowKit Go.Sort Go.Shelf
abbrev V0 (L : Lb) (d : List De) (x : Lg) : List Vd := QA L d x.st 0 0 0 x.es
theorem auditV_one (L : Lb) (d : List De) (x : Lg) : Zc L d [x] = V0 L d x := by simp [Zc, Za, YP, V0]
theorem verdsOf_en (L : Lb) (d : List De) (st : Int) : ∀ (es : List En) (k m : Int) (i : Nat), ∀ v ∈ QA L d st k m i es, v.st = st ∧ (i : Int) ≤ v.en ∧ v.en < ((i + es.length : Nat) : Int)
 | [], k, m, i, v, h => by simp [QA] at h
 | x :: es, k, m, i, v, h => by
  rw [QA] at h
  rcases List.mem_append.1 h with h | h
  ·obtain ⟨r, _, rfl⟩ := List.mem_map.1 h
   exact ⟨rfl, Int.le_refl _, by simp; omega⟩
  ·obtain ⟨h1, h2, h3⟩ := verdsOf_en L d st es _ _ _ v h
   refine ⟨h1, ?_, ?_⟩
   ·omega
   ·simp only [List.length_cons]; omega
def EntsOk (es : List En) : Prop := (∀ e ∈ es, Qt e = true) ∧ es.Pairwise fun a b => a.time ≤ b.time
theorem entsOk_iff : ∀ (es : List En) (p : Option Int), QI p es = true ↔ EntsOk es ∧ ∀ t, p = some t → ∀ e ∈ es, t ≤ e.time
 | [], p => by simp [QI, EntsOk]
 | x :: es, p => by
  rw [QI, Bool.and_eq_true, Bool.and_eq_true, entsOk_iff es]
  unfold EntsOk
  rw [List.pairwise_cons]
  constructor
  ·rintro ⟨⟨h1, h2⟩, ⟨h3, h4⟩, h5⟩
   have h5' := h5 x.time rfl
   refine ⟨⟨fun e he => ?_, h5', h4⟩, fun t ht e he => ?_⟩
   ·rcases List.mem_cons.1 he with rfl | he
    ·exact h1
    ·exact h3 e he
   ·subst ht
    have h6 : t ≤ x.time := by simpa [Ju] using h2
    rcases List.mem_cons.1 he with rfl | he
    ·exact h6
    ·exact Int.le_trans h6 (h5' e he)
  ·rintro ⟨⟨h1, h2, h3⟩, h4⟩
   refine ⟨⟨h1 x (by simp), ?_⟩, ⟨fun e he => h1 e (by simp [he]), h3⟩, fun t ht e he => ?_⟩
   ·cases p with
    | none => rfl
    | some t => simpa [Ju] using h4 t rfl x (by simp)
   ·cases ht; exact h2 e he
def mkLg (st : Int) (es : List En) : Lg := ⟨st, es, Qr st es⟩
theorem Jn {st : Int} {es : List En} (h1 : 1 ≤ st ∧ st ≤ 1000000) (h2 : es.length ≤ 5000) (h3 : EntsOk es) : Qw (mkLg st es) = true := by
 unfold Qw mkLg
 simp only [Bool.and_eq_true, Zg, decide_eq_true_eq, beq_self_eq_true, and_true]
 exact ⟨⟨h1, h2⟩, (entsOk_iff es none).2 ⟨h3, fun t ht => by cases ht⟩⟩
theorem append_mk {st : Int} {es : List En} {e : En} (h1 : 1 ≤ st ∧ st ≤ 1000000) (h2 : es.length < 5000) (h3 : EntsOk es) (he : Qt e = true) (ht : ∀ x ∈ es, x.time ≤ e.time) : QR (mkLg st es) e = (mkLg st (es ++ [e]), 0) := by
 unfold QR
 rw [Jn h1 (by omega) h3, he, if_neg (by simp), if_neg (by show ¬ es.length = 5000; omega), if_neg]
 ·rfl
 ·show ¬ (match es.getLast? with | none => false | some x => decide (e.time < x.time)) = true
  cases hl : es.getLast? with
  | none => simp
  | some x =>
   have := ht x (List.mem_of_getLast? hl)
   simp; omega
theorem EntsOk.snoc {es : List En} {e : En} (h : EntsOk es) (he : Qt e = true) (ht : ∀ x ∈ es, x.time ≤ e.time) : EntsOk (es ++ [e]) := by
 refine ⟨fun x hx => ?_, List.pairwise_append.2 ⟨h.2, by simp, fun a ha b hb => ?_⟩⟩
 ·rcases List.mem_append.1 hx with hx | hx
  ·exact h.1 x hx
  ·rw [List.mem_singleton.1 hx]; exact he
 ·rw [List.mem_singleton.1 hb]; exact ht a ha
theorem rules_mark {L : Lb} {d : List De} {st k m : Int} {e : En} (h : e.kind = 4) : Zb L d st k m e = [] := by
 unfold Zb
 rw [h]
 simp
theorem verds_nil {L : Lb} {d : List De} {st : Int} {es : List En} {e : En} (h : QA L d st 0 0 0 es = []) (he : Zb L d st (es.foldl Zl 0) (es.foldl Zu 0) e = []) : QA L d st 0 0 0 (es ++ [e]) = [] := by
 rw [UQ, h, he]; rfl
theorem idx_find {α : Type} (p : α → Bool) (l : List α) : (∃ k, ∃ hk : k < l.length, idxO p l = k ∧ l.find? p = some l[k]) ∨ (idxO p l = -1 ∧ l.find? p = none) := by
 cases h : l.findIdx? p with
 | none =>
  right
  have h' := h
  rw [List.findIdx?_eq_none_iff] at h
  exact ⟨by simp [idxO, h'], List.find?_eq_none.2 fun x hx => by simpa using h x hx⟩
 | some k =>
  left
  obtain ⟨hk, h1, h2⟩ := List.findIdx?_eq_some_iff_getElem.1 h
  refine ⟨k, hk, by simp [idxO, h], List.find?_eq_some_iff_getElem.2 ⟨h1, k, hk, rfl, fun j hj => by simpa using h2 j hj⟩⟩
theorem knowL_ge : ∀ (es : List En) (k : Int), 0 ≤ k → (∀ e ∈ es, Qt e = true) → 0 ≤ Y3 k es
 | [], k, h, _ => h
 | x :: es, k, h, he => by
  refine knowL_ge es (Zl k x) ?_ (fun e hm => he e (by simp [hm]))
  have := (YR (he x (by simp))).2.2.1
  unfold Zl; split <;> omega
theorem rules2_none {L : Lb} {d : List De} {st k m : Int} {e : En} (h2 : e.kind = 2) (h : ZA L.shs e.a = none) : Zb L d st k m e = [2] := by
 unfold Zb; rw [if_neg (by omega), if_pos h2, h]
theorem rules2_some {L : Lb} {d : List De} {st k m : Int} {e : En} {s : Sx} (h2 : e.kind = 2) (h : ZA L.shs e.a = some s) : Zb L d st k m e = (if s.dg = e.dg then [] else [2]) ++ (if Ub L st e then [] else [3]) := by
 unfold Zb; rw [if_neg (by omega), if_pos h2, h]
attribute [local go_sem] Oper.semAt_some
theorem kmLook {V : World} {km r : Nat} (hm : MapAt V encI km (ZC r)) (k : Int) : (Instr.lookup 148 (.map (some km)) (.int .i64 k) true).run Tryz.prog V = .ok (.tuple #[(mget (ZC r) k).getD .nilFunc, .bool (mget (ZC r) k).isSome]) V := by
 have h := QF (P := Tryz.prog) (z := .nilFunc) Tryz.underlying148 keyI (fun w => by kernel_rfl) hm k true
 refine h.trans ?_
 cases mget (ZC r) k <;> rfl
def YF (L : Lb) (d : List De) (x : Lg) (k : Nat) : List Vd := QA L d x.st 0 0 0 (x.es.take k)
theorem verdL_step (L : Lb) (d : List De) (x : Lg) (k : Nat) (hk : k < x.es.length) : YF L d x (k + 1) = YF L d x k ++ (Zb L d x.st (Y3 0 (x.es.take k)) (J6 0 (x.es.take k)) x.es[k]).map (fun r => ⟨x.st, r, (k : Int)⟩) := by
 unfold YF
 rw [List.take_succ_eq_append_getElem hk, UQ, List.length_take, show min k x.es.length = k by omega, Nat.zero_add]
 rfl
theorem verdL_len (L : Lb) (d : List De) (x : Lg) (k : Nat) (hk : k ≤ x.es.length) : (YF L d x k).length ≤ 2 * k := by
 have := ZT L d x.st (x.es.take k) 0 0 0
 rw [List.length_take] at this
 unfold YF; omega
theorem it_any (n : Nat) (hn : 1 ≤ n) (L : Lb) (P : Lbp) (d : List De) (da : Option Addr) (dc : Nat) (x : Lg) (p : Lq) (g rs re r lb km kb ob N : Nat) (w0 w : World) (hf : LbFew L) (hbl : ∀ x ∈ L.ws, x.1.bars.length ≤ 1000) (hdl : d.length ≤ 1000) (hL : LbAt w0 L P) (hd : DeAt w0 da d) (hv : QH (Qk L.ws) d = true) (hnd : (L.shs.map Sx.id).Nodup)
  (hxl : x.es.length ≤ 800) (hok : ∀ e ∈ x.es, Qt e = true) (hea : EnAt w0 p.a x.es) (hS : ItS L P d da dc x p g rs re r lb km kb w0 w 0 0) (hr0 : w0.heap.size ≤ r) (hne : g ≠ ob ∧ r ≠ ob ∧ lb ≠ ob ∧ kb ≠ ob ∧ rs ≠ ob ∧ re ≠ ob ∧ km ≠ ob) (hob : ob < w.heap.size) (hN : 2 * x.es.length ≤ N) :
  SeqX Fence.wide n Tryz.prog 66 #[.pointer (some ⟨lb, 0, none⟩), .pointer (some ⟨kb, 0, none⟩)] (fun v : Vd => #[.int .i64 v.en, .int .i64 v.rule]) (KeepV w.heap.size w0.heap.size ob) (fun xs => xs = V0 L d x) N [r] w := by
 intro lo J Jx W hW hJ hJx hY h0
 have hBm : rs < w.heap.size ∧ re < w.heap.size ∧ km < w.heap.size := by
  have lt : ∀ {κ : Type} {enc : κ → Value} {j : Nat} {l : List (κ × Value)}, MapAt w enc j l → j < w.heap.size := fun hm => by
   obtain ⟨⟨es, c, h1, _⟩, _⟩ := hm; exact Qd h1
  exact ⟨lt hS.aud.shs, lt hS.aud.eds, lt hS.bm⟩
 have HS0 := Qa (hS.below hW hr0)
 have HJ := Qa hJ; have HJx := Qa hJx; have HY := Qa hY; have H0 := Qa h0
 have hWs := hW.size
 have HKF := Qa (fun e V k m (h : ItS L P d da dc x p g rs re r lb km kb w0 V k m) (hk : 0 ≤ k) (he : Qt e = true) => kind_fn (r := r) (e := e) hf hbl hdl hL hd hv hnd h hk he)
 have HEa := Qa (fun V (h : Below w0.heap.size w0 V) => EnAt.below hea h)
 have HOk := Qa hok
 clear hJ hJx hY h0 hf hbl hdl hL hd hv hnd hea hok hW hS
 refine callsIn_of_wp Tryz.func66 rfl trivial ?_ rfl
 simp only [Tryz.ntmps66, List.size_toArray, List.length_cons, List.length_nil, Nat.reduceAdd, Nat.reduceSub, Array.replicate_succ, Array.replicate_zero, List.push_toArray, List.append_toArray, List.nil_append, List.cons_append]
 refine wpIn_wide.2 ?_
 have hc := Qb HS0.out.bl
 go_wp2
 clear hc
 go_loopw [13] (fun t wr => ∃ k : Nat, k ≤ x.es.length ∧ t = .int .i64 k ∧ J (YF L d x k) wr ∧ ItS L P d da dc x p g rs re r lb km kb w0 wr (Y3 0 (x.es.take k)) (J6 0 (x.es.take k)) ∧ W.heap.size ≤ wr.heap.size) (fun t _ => x.es.length - (intOf t).toNat)
 case atStart => exact ⟨0, Nat.zero_le _, rfl, H0.out, HS0.out, Nat.le_refl _⟩
 case round =>
  clear H0 HS0
  obtain ⟨k, hk, rfl, hj, hs, hz⟩ := hrel
  have HJ1 := Qa hj; have HS1 := Qa hs; have HZ := Qa hz
  clear hj hs hz
  by_cases hlt : k < x.es.length
  ·obtain ⟨b, off, ea, d0, d1, d2, d3, d4, d5⟩ := EnAt.get (HEa.out wr HS1.out.low) k hlt
   have hki : (k : Int) < (x.es.length : Int) := by omega
   have hwk : IntKind.i64.wrap ((k : Int) + 1) = (k : Int) + 1 := IntWalk.i64_in _ (by omega)
   have HV := Qa (verdL_step L d x k hlt)
   have hvl := verdL_len L d x k hk
   have hr2 := rulesR_len L d x.st (Y3 0 (x.es.take k)) (J6 0 (x.es.take k)) x.es[k]
   have HNk := Qa (show Y3 0 (x.es.take (k + 1)) = Zl (Y3 0 (x.es.take k)) x.es[k] ∧ J6 0 (x.es.take (k + 1)) = Zu (J6 0 (x.es.take k)) x.es[k] by
    rw [List.take_succ_eq_append_getElem hlt, knowL_snoc]; exact ⟨rfl, by unfold J6; rw [List.foldl_append]; rfl⟩)
   have HKn := Qa (knowL_ge (x.es.take k) 0 (Int.le_refl _) (fun e he => HOk.out e (List.mem_of_mem_take he)))
   have HOe := Qa (HOk.out _ (List.getElem_mem hlt))
   generalize x.es[k] = e at *
   generalize Y3 0 (x.es.take k) = kn at *
   generalize J6 0 (x.es.take k) = mo at *
   rw [ea]
   clear ea
   have hcl := Qb HS1.out.bl
   go_upto_region 3 with (fail)
   have HE := Qa (heap_alloc_new wr (.cells #[.int .i64 e.time, .int .i64 e.kind, .int .i64 e.a, .int .i64 e.b, .int .i64 e.c, .int .u64 e.dg] 50))
   have hb1 := Qg (w := wr) (.cells #[.int .i64 e.time, .int .i64 e.kind, .int .i64 e.a, .int .i64 e.b, .int .i64 e.c, .int .u64 e.dg] 50)
   have HS2 := Qa (HS1.out.below hb1 hr0); have HJ2 := Qa (HJ.out _ _ _ HJ1.out (Calm.below hb1)); have HZ2 := Qa (Nat.le_trans HZ.out hb1.size)
   clear hcl d0 d1 d2 d3 d4 d5 hb1 HS1 HJ1 HZ
   generalize wr.alloc (.cells #[.int .i64 e.time, .int .i64 e.kind, .int .i64 e.a, .int .i64 e.b, .int .i64 e.c, .int .u64 e.dg] 50) = w2 at *
   generalize wr.heap.size = eb at *
   have hc := Qb HE.out; have hd := Qb HS2.out.bk
   have hl := kmLook HS2.out.bm e.kind
   rcases HKF.out e w2 kn mo HS2.out HKn.out HOe.out with ⟨hm, hru, hnk, hnm⟩ | ⟨f, hm, hent, hcall⟩
   ·rw [hm] at hl
    simp only [Option.getD_none, Option.isSome_none] at hl
    rw [hru, List.map_nil, List.append_nil] at HV
    rw [hnk, hnm] at HNk
    clear hm hru hnk hnm hr2
    go_wp2
    go_roundw
    case rel => exact ⟨k + 1, by omega, by go_num, by rw [HV.out]; exact HJ2.out, by rw [HNk.out.1, HNk.out.2]; exact HS2.out, HZ2.out⟩
    case measure => simp [intOf]; omega
   ·rw [hm] at hl
    simp only [Option.getD_some, Option.isSome_some] at hl
    generalize Zb L d x.st kn mo e = rl at *
    have HCl := Qa hcall
    clear hm hcall
    have HZw := Qa (Nat.lt_of_lt_of_le hob (Nat.le_trans hWs HZ2.out))
    go_wp2_with (go_at_fn f; refine (HCl.out _ (Below.refl _ _)).mono ?_; rintro e5 w5 ⟨v5, rfl, ho5, hr5, hk5⟩; obtain ⟨a9, c9, e9, _, _⟩ := ho5.slAt; rw [List.length_map] at e9; subst e9)
    have HS5 := Qa (HS2.out.keepB hk5 hr5 hr0); have HJ5 := Qa (HJ.out _ _ _ HJ2.out (Calm.keep1 hk5 HS2.out.br hr5)); have HZ5 := Qa (Nat.le_trans HZ2.out hk5.size); have HO5 := Qa ho5
    have hobw := HZw.out
    clear hk5 hr5 ho5 hc hd hl HE HS2 HJ2 HZ2
    generalize w2.heap.size = B2 at *
    go_loopw [31] (fun t wi => ∃ i : Nat, i ≤ rl.length ∧ t = .int .i64 i ∧ J (YF L d x k ++ (rl.take i).map (fun q => (⟨x.st, q, (k : Int)⟩ : Vd))) wi ∧ ItS L P d da dc x p g rs re r lb km kb w0 wi (Zl kn e) (Zu mo e) ∧ OwnR wi B2 3 1 (.slice a9 rl.length c9) (rl.map inRow) ∧ W.heap.size ≤ wi.heap.size) (fun t _ => rl.length - (intOf t).toNat)
    case atStart => exact ⟨0, Nat.zero_le _, rfl, by rw [List.take_zero, List.map_nil, List.append_nil]; exact HJ5.out, HS5.out, HO5.out, HZ5.out⟩
    case round =>
     clear HJ5 HS5 HO5 HZ5
     obtain ⟨i, hi, rfl, hj, hs, ho, hz⟩ := hrel
     have HJ1 := Qa hj; have HS1 := Qa hs; have HO1 := Qa ho; have HZ1 := Qa hz
     clear hj hs ho hz
     by_cases hit : i < rl.length
     ·obtain ⟨a8, c8, e8, _, hi8⟩ := HO1.out.slAt
      rw [List.length_map] at e8
      cases e8
      obtain ⟨b8, off8, ea8, d0⟩ := InAt.get hi8 i hit
      have hii : (i : Int) < (rl.length : Int) := by omega
      have hwi : IntKind.i64.wrap ((i : Int) + 1) = (i : Int) + 1 := IntWalk.i64_in _ (by omega)
      have HT := Qa (show YF L d x k ++ (rl.take (i + 1)).map (fun q => (⟨x.st, q, (k : Int)⟩ : Vd)) = YF L d x k ++ (rl.take i).map (fun q => (⟨x.st, q, (k : Int)⟩ : Vd)) ++ [⟨x.st, rl[i], (k : Int)⟩] by
       rw [List.take_succ_eq_append_getElem hit, List.map_append, List.append_assoc]; rfl)
      have hpl : (YF L d x k ++ (rl.take i).map (fun q => (⟨x.st, q, (k : Int)⟩ : Vd))).length < N := by
       rw [List.length_append, List.length_map, List.length_take]; omega
      rw [ea8]
      rw [ea8] at HO1
      clear ea8 hi8
      generalize rl[i] = q at *
      generalize YF L d x k ++ (rl.take i).map (fun q => (⟨x.st, q, (k : Int)⟩ : Vd)) = pre at *
      go_upto_region 8 with (fail)
      obtain ⟨fn, tmps, assign, body, hy, hRd⟩ := HY.out pre ⟨x.st, q, (k : Int)⟩ wr HJ1.out hpl
      refine (wpIn_wide (n := n)).1 ?_
      gi_wp2
      refine hRd.mono ?_
      rintro e9 W3 (⟨rfl, hJ3, hk3, _⟩ | ⟨rfl, hJx3, _⟩)
      ·have HJ3 := Qa hJ3; have HS3 := Qa (HS1.out.keepV hk3 hne hBm); have HO3 := Qa (hk3.own HO1.out (by decide) hobw); have HZ3 := Qa (Nat.le_trans HZ1.out hk3.low.size)
       clear hJ3 hk3 d0 HJ1 HS1 HO1 HZ1
       gi_wp2
       go_wp2
       exact ⟨⟨i + 1, by omega, by go_num, by rw [HT.out]; exact HJ3.out, HS3.out, HO3.out, HZ3.out⟩, by simp [intOf]; omega⟩
      ·gi_wp2
       go_wp2
       refine bodyPost_ret (results_none rfl _ _ _) rfl ?_
       exact ⟨⟨_, rfl⟩, .inr ⟨_, hJx3⟩⟩
     ·obtain rfl : i = rl.length := by omega
      rw [List.take_length] at HJ1
      rw [← HV.out] at HJ1
      go_wp2
      exact ⟨⟨k + 1, by omega, by go_num, HJ1.out, by rw [HNk.out.1, HNk.out.2]; exact HS1.out, HZ1.out⟩, by simp [intOf]; omega⟩
  ·obtain rfl : k = x.es.length := by omega
   have HF := Qa (show J (V0 L d x) wr by have := HJ1.out; unfold YF at this; rwa [List.take_length] at this)
   go_wp2
   go_end0
   exact ⟨⟨_, rfl⟩, .inl ⟨_, rfl, HF.out⟩⟩
section
variable {α : Type} [Inhabited α] {enc : α → List Value} {sz : Nat}
theorem holds_ofK (hsz : 0 < sz) {w : World} {g : Nat} {cur : Array Value} {E : TypeId} {L : List α} (hc : w.heap[g]? = some (.cells cur E (0, 0))) (hs : SlAt w (some ⟨g, 0, none⟩) sz (L.map enc)) : HoldsK enc sz w g 0 L.toArray := by
 intro t ht
 rw [size_flatK] at ht
 have ht2 : t / sz < L.length := by simp at ht; exact (Nat.div_lt_iff_lt_mul hsz).2 ht
 refine ⟨?_, by simp [World.frozen?, hc]⟩
 rw [get_flatK _ _ _ _ ht]
 obtain ⟨b, off, e, _, hl, hcl⟩ := hs (t / sz) (enc L[t / sz]) (by simp [ht2])
 cases e
 have hm : t % sz < (enc L[t / sz]).length := by rw [hl]; exact Nat.mod_lt _ hsz
 have := hcl (t % sz) (enc L[t / sz])[t % sz] (by simp [hm])
 rw [show 0 + t / sz * sz + t % sz = 0 + t by rw [Nat.zero_add, Nat.zero_add, Nat.mul_comm]; exact Nat.div_add_mod _ _] at this
 rw [this]
 have e1 : (L.toArray)[t / sz]! = L[t / sz] := by simp [getElem!_pos, ht2]
 rw [e1, getElem!_pos (enc L[t / sz]) (t % sz) hm]; rfl
theorem slat_ofK (hlen : ∀ x, (enc x).length = sz) {w : World} {g : Nat} {L : List α} (hg : g < w.heap.size) (hh : HoldsK enc sz w g 0 L.toArray) : SlAt w (some ⟨g, 0, none⟩) sz (L.map enc) := fun i r hr => by
 have hi : i < L.length := by have := (List.getElem?_eq_some_iff.1 hr).1; simpa using this
 have he : r = enc L[i] := by have := (List.getElem?_eq_some_iff.1 hr).2; simp at this; exact this.symm
 subst he
 refine ⟨g, 0, rfl, hg, hlen _, fun j u hu => ?_⟩
 have hj : j < sz := by have := (List.getElem?_eq_some_iff.1 hu).1; rwa [hlen] at this
 have := (hh.cell (i := i) (c := j) (by simpa using hi) hj).1
 rw [this]
 have e1 : (L.toArray)[i]! = L[i] := by simp [getElem!_pos, hi]
 rw [e1, getElem!_pos (enc L[i]) j (by rw [hlen]; exact hj)]
 exact congrArg some (List.getElem?_eq_some_iff.1 hu).2
theorem size_sortedK (w : World) (g n : Nat) (d : Array α) (os : Array Obj) : w.heap.size ≤ (sortWorldK enc sz w g 0 n d os).heap.size := by
 simp [sortWorldK, putRowK, grow, putRow, mapBlock, Sort.ahead]
theorem below_sortedK {B : Nat} {w : World} {g n : Nat} {d : Array α} {os : Array Obj} (hB : B ≤ w.heap.size) (hg : B ≤ g) : RowKit.Below B w (sortWorldK enc sz w g 0 n d os) := by
 have h1 := Lib.below_putRow (enc := id) (q := n) (d := flatK enc sz d) (RowKit.Below.refl B w) hg
 exact ⟨rfl, rfl, rfl, size_sortedK _ _ _ _ _, fun k hk => by
  have := h1.size
  rw [← h1.block k hk]
  unfold sortWorldK putRowK grow
  exact Array.getElem?_append_left (by omega)⟩
end
abbrev LgR := { x : Lg × Lq // 1 ≤ x.1.st ∧ x.1.st ≤ 1000000 }
instance : Inhabited LgR := ⟨⟨(⟨1, [], 0⟩, ⟨none, 0⟩), by decide⟩⟩
def encL (x : LgR) : List Value := lgRow x.1
def cfL (x y : LgR) : Int := x.1.1.st - y.1.1.st
theorem Uo (x y : LgR) : ltOf cfL x y = decide (x.1.1.st < y.1.1.st) := by
 unfold ltOf cfL
 by_cases h : x.1.1.st < y.1.1.st
 ·rw [decide_eq_true h]; exact decide_eq_true (by omega)
 ·rw [decide_eq_false h]; exact decide_eq_false (by omega)
theorem swoL : SWO (ltOf cfL) where
 irrefl x := by rw [Uo]; simp
 trans x y z h1 h2 := by rw [Uo] at *; simp at *; omega
 ntrans x y z h1 h2 := by rw [Uo] at *; simp at *; omega
theorem audit1_any (x y : Lg × Lq) (hx : 1 ≤ x.1.st ∧ x.1.st ≤ 1000000) (hy : 1 ≤ y.1.st ∧ y.1.st ≤ 1000000) (w : World) :
  Calls Tryz.prog 34 #[.agg #[.int .i64 (x.1).st, .slice (x.2).a (x.1).es.length (x.2).c, .int .u64 (x.1).ch], .agg #[.int .i64 (y.1).st, .slice (y.2).a (y.1).es.length (y.2).c, .int .u64 (y.1).ch]] w fun e w' => e = .returned (.int .i64 (x.1.st - y.1.st)) ∧ w' = (w.alloc (.cells #[.int .i64 (x.1).st, .slice (x.2).a (x.1).es.length (x.2).c, .int .u64 (x.1).ch] 44)).alloc (.cells #[.int .i64 (y.1).st, .slice (y.2).a (y.1).es.length (y.2).c, .int .u64 (y.1).ch] 44) := by
 obtain ⟨x1, x2, hb⟩ := box2 (w := w) (A := .cells #[.int .i64 (x.1).st, .slice (x.2).a (x.1).es.length (x.2).c, .int .u64 (x.1).ch] 44) (B := .cells #[.int .i64 (y.1).st, .slice (y.2).a (y.1).es.length (y.2).c, .int .u64 (y.1).ch] 44) (Below.refl _ _)
 have hws : IntKind.i64.wrap (x.1.st - y.1.st) = x.1.st - y.1.st := IntWalk.i64_in _ (by omega)
 go_enter Tryz.func34, Tryz.ntmps34
 go_upto_region 1 with (fail)
 have hc := Qb x1; have hd := Qb x2
 generalize hW : (w.alloc (.cells #[.int .i64 (x.1).st, .slice (x.2).a (x.1).es.length (x.2).c, .int .u64 (x.1).ch] 44)).alloc (.cells #[.int .i64 (y.1).st, .slice (y.2).a (y.1).es.length (y.2).c, .int .u64 (y.1).ch] 44) = W at *
 have HW := Qa hW.symm
 clear hW
 go_wp2
 go_ret
 exact ⟨QK rfl, HW.out⟩
theorem cmpL (g size : Nat) (w : World) (hg : g ≤ w.heap.size) : CmpLays Tryz.prog 34 #[] encL 3 cfL g 0 size w := by
 intro m os dk _ x y
 obtain ⟨x, hx⟩ := x
 obtain ⟨y, hy⟩ := y
 generalize sortWorldK encL 3 w g 0 m dk os = W at *
 exact (audit1_any x y hx hy W).mono fun e w' ⟨he, hw⟩ => ⟨he, 0, #[.cells #[.int .i64 (x.1).st, .slice (x.2).a (x.1).es.length (x.2).c, .int .u64 (x.1).ch] 44, .cells #[.int .i64 (y.1).st, .slice (y.2).a (y.1).es.length (y.2).c, .int .u64 (y.1).ch] 44], by rw [hw, alloc_eq_grow, alloc_eq_grow, grow_grow]; rfl⟩
theorem lift_lg {l : List (Lg × Lq)} (h : ∀ x ∈ l, 1 ≤ x.1.st ∧ x.1.st ≤ 1000000) : ∃ L : List LgR, L.map Subtype.val = l := by
 induction l with
 | nil => exact ⟨[], rfl⟩
 | cons d l ih =>
  obtain ⟨L, e⟩ := ih fun x hx => h x (by simp [hx])
  exact ⟨⟨d, h d (by simp)⟩ :: L, by simp [e]⟩
theorem encL_map (L : List LgR) : L.map encL = (L.map Subtype.val).map lgRow := by simp [encL, Function.comp_def]
def SortLPost (B : Nat) (v : Value) (l : List (Lg × Lq)) (w : World) (e : Ending) (w' : World) : Prop :=
 ∃ (s : List (Lg × Lq)) (g cap : Nat), e = .returned (.tuple #[]) ∧ s.Perm l ∧ (s.Pairwise fun a b => a.1.st ≤ b.1.st) ∧ v = .slice (some ⟨g, 0, none⟩) s.length cap ∧ SlAt w' (some ⟨g, 0, none⟩) 3 (s.map lgRow) ∧ RowKit.Below B w w' ∧ B ≤ g ∧ ∃ cs, w'.heap[g]? = some (.cells cs 44 (0, 0))
theorem sortL_any (B : Nat) (v : Value) (l : List (Lg × Lq)) (w : World) (h0 : l ≠ []) (hl : l.length ≤ 100000) (hid : ∀ x ∈ l, 1 ≤ x.1.st ∧ x.1.st ≤ 1000000) (o : OwnR w B 44 3 v (l.map lgRow)) (hB : B ≤ w.heap.size) :
  Calls Tryz.prog 33 #[v, .func (.func 34) #[] #[]] w (SortLPost B v l w) := by
 obtain ⟨L, rfl⟩ := lift_lg hid
 obtain ⟨a, cap0, ev, hok, hs⟩ := o.slAt
 obtain ⟨_, h1, h2⟩ := o
 rcases h2 with ⟨_, h2⟩ | ⟨g, cap, cur, rfl, hg, hc, h3', h4, h5, h6⟩
 ·exact absurd (List.length_eq_zero_iff.1 (by simpa using h2)) h0
 cases ev
 rw [← encL_map] at hs
 have hlt : g < w.heap.size := Qd hc
 have eg : ∀ args w, (callFunc 34 args).run Tryz.prog w = .ok (.enter 34 args) w := enters_of Tryz.func34 (by kernel_rfl) rfl
 have hcon := AnyQ.slices_SortFunc (P := Tryz.prog) Lay.sortL 3 (fun w => by kernel_rfl) (fun w => by kernel_rfl) encL (fun _ => rfl) (fun x v hv => by simp [encL, lgRow] at hv; rcases hv with rfl | rfl | rfl <;> rfl) cfL swoL 34 #[] g 0 cap0 L.toArray w eg (cmpL g _ w (by omega)) (holds_ofK (by decide) hc hs) hlt (by simp at hl ⊢; omega)
 simp only [List.length_map, List.size_toArray] at hcon ⊢
 refine Calls.mono hcon ?_
 rintro e w' ⟨rfl, d', n, os, hp, hso, rfl⟩
 obtain ⟨hsz, _, hp⟩ := hp
 have hh := holdsK_sortWorldK_c encL 3 w g 0 L.toArray d' n os (holds_ofK (by decide) hc hs) hlt hsz
 refine ⟨d'.toList.map Subtype.val, g, cap0, rfl, ?_, ?_, ?_, ?_, below_sortedK hB hg, hg, ?_⟩
 ·have e1 : d'.extract 0 L.length = d' := by simp at hsz; rw [← hsz]; simp
  have e2 : L.toArray.extract 0 L.length = L.toArray := by simp
  rw [e1, e2] at hp
  exact hp.map Subtype.val
 ·rw [List.pairwise_map, List.pairwise_iff_getElem]
  intro i j hi hj hij
  have h7 := hso i j (Nat.zero_le _) hij (by simp at hsz hj ⊢; omega)
  rw [Uo] at h7
  simp only [Array.length_toList] at hi hj
  rw [getElem!_pos d' i hi, getElem!_pos d' j hj] at h7
  simpa using h7
 ·simp [hsz]
 ·rw [← encL_map]
  exact slat_ofK (enc := encL) (sz := 3) (fun _ => rfl) (Nat.lt_of_lt_of_le hlt (size_sortedK _ _ _ _ _)) (by simpa using hh)
 ·unfold sortWorldK putRowK grow putRow mapBlock Sort.ahead
  simp only
  rw [Array.getElem?_append_left (by simpa using hlt), Array.getElem?_modify, if_pos rfl, hc]
  exact ⟨_, rfl⟩
end Go.Proofs.YtajijcfikihhjaaGreatDoor
