import Derived.Test.YtajijcfikihhjaaGreatDoorAAR
set_option linter.unusedSimpArgs false
set_option linter.unusedVariables false
set_option maxRecDepth 100000
set_option maxHeartbeats 16000000
namespace Go.Proofs.YtajijcfikihhjaaGreatDoor
open Go.RowKit Go.Sort Go.Shelf
theorem findW_ver {l : List Wk} {v : Int} {x : Wk} (h : Zk l v = some x) : x.ver = v ∧ x ∈ l := by
 unfold Zk at h
 exact ⟨by have := List.find?_some h; simpa using this, List.mem_of_find?_eq_some h⟩
theorem findW_mem {l : List Wk} {x : Wk} (h : x ∈ l) : (Zk l x.ver).isSome = true := by
 unfold Zk
 rw [List.find?_isSome]
 exact ⟨x, h, by simp⟩
theorem doR_found (l : List Wk) (r : Rm) (x : De) (h : (Zk l r.ver).isSome = true) : (Zk l (doR l r x).1.ver).isSome = true := by
 have hre : ∀ p : Fo × Int, (reform r p).1.ver = r.ver := fun p => by unfold reform; split <;> rfl
 unfold doR
 split
 ·unfold verR
  split
  ·exact h
  ·cases e : Zk l x.a with
   | none => exact h
   | some y => exact findW_mem (findW_ver e).2
 ·split
  ·rw [hre]; exact h
  ·split
   ·rw [hre]; exact h
   ·split
    ·split
     ·exact h
     ·rw [hre]; exact h
    ·split
     ·unfold ossR
      split
      ·exact h
      ·split <;> exact h
     ·exact h
theorem runR_found (l : List Wk) : ∀ (d : List De) (r : Rm), (Zk l r.ver).isSome = true → (Zk l (runR l r d).1.ver).isSome = true
 | [], r, h => h
 | x :: d, r, h => by
  rw [runR]
  split
  ·exact runR_found l d _ (doR_found l r x h)
  ·exact h
theorem Qaw {l : List Wk} {d : List De} {known time : Int} (hv : QH l d = true) (hk : 0 ≤ known ∧ known ≤ d.length) (ht : 0 ≤ time ∧ time ≤ 1000000000) : (Zk l (atR l d known time).1.ver).isSome = true ∧ (atR l d known time).2 = 0 := by
 unfold atR
 rw [if_neg (by rw [hv]; simp; omega)]
 refine ⟨runR_found l _ _ ?_, rfl⟩
 unfold QH Q6 at hv
 simp only [Bool.and_eq_true, decide_eq_true_eq] at hv
 obtain ⟨⟨⟨⟨_, h1, _⟩, _⟩, _⟩, _⟩ := hv
 cases l with
 | nil => simp at h1
 | cons x l => exact findW_mem (by simp)
theorem atR_few {l : List Wk} (hl : ∀ x ∈ l, FoFew x.f) (d : List De) (known time : Int) : FoFew (atR l d known time).1.f := by
 unfold atR
 split
 ·exact ⟨by decide, by decide, by decide, by decide⟩
 ·exact (RmOk.run hl _ (RmOk.first hl)).few
theorem wks_few {L : Lb} (hf : LbFew L) : ∀ x ∈ Qk L.ws, FoFew x.f := fun x hx => by
 obtain ⟨y, hy, rfl⟩ := List.mem_map.1 hx
 exact hf.forms y hy
def BsAt (w : World) (a : Option Addr) (l : List Br) : Prop := SlAt w a 4 (l.map Y4)
def RetRmN (r : Rm) (err : Int) (w : World) (e : Ending) (w' : World) : Prop :=
 ∃ q oa oc, e = .returned (.tuple #[.agg #[.int .i64 r.ver, .int .i64 r.f.bars, .slice q.ra r.f.reps.length q.rc, .slice q.ea r.f.ends.length q.ec, .int .i64 r.f.jump.x, .int .i64 r.f.jump.y, .int .i64 r.f.jump.z, .slice q.ca r.f.cuts.length q.cc, .slice oa r.oss.length oc], .int .i64 err]) ∧ RmAt w' r q oa oc ∧ Below w.heap.size w w' ∧ FpNew q w.heap.size ∧ ∀ ad, oa = some ad → w.heap.size ≤ ad.block
theorem dAtN_any (wa : Option Addr) (wc : Nat) (l : List (Wk × Wp)) (da : Option Addr) (dc : Nat) (d : List De) (known time : Int) (w : World) (hl : l.length ≤ 1000) (hfew : ∀ y ∈ l, FoFew y.1.f) (hw : WsAt w wa l) (hdl : d.length ≤ 1000000) (hd : DeAt w da d) :
  Calls Tryz.prog 54 #[.slice wa l.length wc, .slice da d.length dc, .int .i64 known, .int .i64 time] w (RetRmN (atR (Qk l) d known time).1 (atR (Qk l) d known time).2 w) := by
 have hb := Qg (w := w) (.cells #[.int .i64 0, .int .i64 0, .slice none 0 0, .slice none 0 0, .int .i64 0, .int .i64 0, .int .i64 0, .slice none 0 0, .slice none 0 0] 123)
 have HX := Qa (heap_alloc_new w (.cells #[.int .i64 0, .int .i64 0, .slice none 0 0, .slice none 0 0, .int .i64 0, .int .i64 0, .int .i64 0, .slice none 0 0, .slice none 0 0] 123))
 have HA := Qa (Qbd wa wc l da dc d _ hl hfew (hw.below hb) hdl (hd.below hb))
 have HW := Qa (hw.below hb); have HD := Qa (hd.below hb)
 have HB := Qa hb
 have HT := Qa (show atR (Qk l) d known time = if !QH (Qk l) d || decide (known < 0) || decide ((d.length : Int) < known) || !(decide (0 ≤ time) && decide (time ≤ 1000000000)) then (rm0, 1) else ((runR (Qk l) (Qx (Qk l)) (upD known time d)).1, 0) from rfl)
 clear hw hd hb
 go_enter Tryz.func54, Tryz.ntmps54
 go_upto_region 1 with (fail)
 generalize w.alloc (.cells #[.int .i64 0, .int .i64 0, .slice none 0 0, .slice none 0 0, .int .i64 0, .int .i64 0, .int .i64 0, .slice none 0 0, .slice none 0 0] 123) = W at *
 cases hv : QH (Qk l) d
 ·have HF := Qa (show atR (Qk l) d known time = (rm0, 1) by rw [HT.out, hv]; rfl)
  rw [hv] at HA
  clear HT
  go_upto_region 3 with ((go_at_call 86; refine HA.out.mono ?_; rintro e w2 ⟨⟨p2, rfl⟩, hb2⟩; have HB2 := bu HB hb2; have HW2 := Qa (HW.out.below hb2); have HD2 := Qa (SlAt.below HD.out hb2); have HX2 := bk HX hb2; clear hb2))
  have hc := Qb HX2.out; have hf := Qe HX2.out; have hz := Qd HX2.out; go_wp2; refine bodyPost_ret (Qi rfl _ _ w.heap.size 123 _ (0, 0) _ rfl (Qz HX2.out _ _ _ _ _ _ _ _ _) Tryz.underlying123 rfl (by kernel_rfl)) rfl ?_; rw [HF.out]; exact ⟨fp0, none, 0, rfl, ⟨Uj _, SlAt.nil _ _ _, SlOk.nil⟩, Ql HB2.out (Nat.le_refl _) _ _ _ _ _ _ _ _ _, ⟨fun _ h => (by cases h), fun _ h => (by cases h), fun _ h => (by cases h)⟩, fun _ h => (by cases h)⟩
 have hlp : 0 < l.length := by
  have h2 := hv
  unfold QH Q6 at h2
  simp only [Bool.and_eq_true, decide_eq_true_eq, Qk, List.length_map] at h2
  omega
 rw [hv] at HA
 by_cases c1 : known < 0
 ·have HF := Qa (show atR (Qk l) d known time = (rm0, 1) by rw [HT.out, decide_eq_true c1]; simp)
  clear HT hv
  go_upto_region 3 with ((go_at_call 86; refine HA.out.mono ?_; rintro e w2 ⟨⟨p2, rfl⟩, hb2⟩; have HB2 := bu HB hb2; have HW2 := Qa (HW.out.below hb2); have HD2 := Qa (SlAt.below HD.out hb2); have HX2 := bk HX hb2; clear hb2))
  have hc := Qb HX2.out; have hf := Qe HX2.out; have hz := Qd HX2.out; go_wp2; refine bodyPost_ret (Qi rfl _ _ w.heap.size 123 _ (0, 0) _ rfl (Qz HX2.out _ _ _ _ _ _ _ _ _) Tryz.underlying123 rfl (by kernel_rfl)) rfl ?_; rw [HF.out]; exact ⟨fp0, none, 0, rfl, ⟨Uj _, SlAt.nil _ _ _, SlOk.nil⟩, Ql HB2.out (Nat.le_refl _) _ _ _ _ _ _ _ _ _, ⟨fun _ h => (by cases h), fun _ h => (by cases h), fun _ h => (by cases h)⟩, fun _ h => (by cases h)⟩
 by_cases c2 : (d.length : Int) < known
 ·have HF := Qa (show atR (Qk l) d known time = (rm0, 1) by rw [HT.out, decide_eq_true c2]; simp)
  clear HT hv
  go_upto_region 3 with ((go_at_call 86; refine HA.out.mono ?_; rintro e w2 ⟨⟨p2, rfl⟩, hb2⟩; have HB2 := bu HB hb2; have HW2 := Qa (HW.out.below hb2); have HD2 := Qa (SlAt.below HD.out hb2); have HX2 := bk HX hb2; clear hb2))
  have hc := Qb HX2.out; have hf := Qe HX2.out; have hz := Qd HX2.out; go_wp2; refine bodyPost_ret (Qi rfl _ _ w.heap.size 123 _ (0, 0) _ rfl (Qz HX2.out _ _ _ _ _ _ _ _ _) Tryz.underlying123 rfl (by kernel_rfl)) rfl ?_; rw [HF.out]; exact ⟨fp0, none, 0, rfl, ⟨Uj _, SlAt.nil _ _ _, SlOk.nil⟩, Ql HB2.out (Nat.le_refl _) _ _ _ _ _ _ _ _ _, ⟨fun _ h => (by cases h), fun _ h => (by cases h), fun _ h => (by cases h)⟩, fun _ h => (by cases h)⟩
 have hTm := fun V => Qav time V
 cases ht : (decide (0 ≤ time) && decide (time ≤ 1000000000))
 ·have HF := Qa (show atR (Qk l) d known time = (rm0, 1) by rw [HT.out, ht]; simp)
  rw [ht] at hTm
  clear HT hv ht
  go_upto_region 3 with (first | (go_at_call 86; refine HA.out.mono ?_; rintro e w2 ⟨⟨p2, rfl⟩, hb2⟩; have HB2 := bu HB hb2; have HW2 := Qa (HW.out.below hb2); have HD2 := Qa (SlAt.below HD.out hb2); have HX2 := bk HX hb2; clear hb2) | (go_at_call 87; refine (hTm _).mono ?_; rintro e w6 ⟨rfl, rfl⟩))
  have hc := Qb HX2.out; have hf := Qe HX2.out; have hz := Qd HX2.out; go_wp2; refine bodyPost_ret (Qi rfl _ _ w.heap.size 123 _ (0, 0) _ rfl (Qz HX2.out _ _ _ _ _ _ _ _ _) Tryz.underlying123 rfl (by kernel_rfl)) rfl ?_; rw [HF.out]; exact ⟨fp0, none, 0, rfl, ⟨Uj _, SlAt.nil _ _ _, SlOk.nil⟩, Ql HB2.out (Nat.le_refl _) _ _ _ _ _ _ _ _ _, ⟨fun _ h => (by cases h), fun _ h => (by cases h), fun _ h => (by cases h)⟩, fun _ h => (by cases h)⟩
 ·have hdl4 : d.length ≤ 1000 := by
   have h2 := hv
   unfold QH at h2
   simp only [Bool.and_eq_true, decide_eq_true_eq] at h2
   omega
  have HF := Qa (show atR (Qk l) d known time = ((runR (Qk l) (Qx (Qk l)) (upD known time d)).1, 0) by rw [HT.out, hv, ht, decide_eq_false c1, decide_eq_false c2]; rfl)
  rw [ht] at hTm
  clear HT hv ht
  go_upto_region 4 with (first | (go_at_call 86; refine HA.out.mono ?_; rintro e w2 ⟨⟨p2, rfl⟩, hb2⟩; have HB2 := bu HB hb2; have HW2 := Qa (HW.out.below hb2); have HD2 := Qa (SlAt.below HD.out hb2); have HX2 := bk HX hb2; clear hb2) | (go_at_call 87; refine (hTm _).mono ?_; rintro e w6 ⟨rfl, rfl⟩))
  have HRn := Qa (Qba wa wc l da dc d known time w6 hlp hl hfew HW2.out hdl4 HD2.out)
  generalize runR (Qk l) (Qx (Qk l)) (upD known time d) = R at *
  obtain ⟨R, re⟩ := R
  dsimp only at *
  go_upto_region 5 with (go_at_call 88; refine HRn.out.mono ?_; rintro e w7 ⟨s7, q7, oa7, oc7, rfl, hs7, hb7, hn7⟩; have HS7 := Qa hs7; have HX7 := bk HX2 hb7; have hlx := Qd HX2.out; have HB7 := bu HB2 hb7; clear hs7 hb7)
  have hc := Qb HX7.out; have hf := Qe HX7.out; have hz := Qd HX7.out
  have hcs := Qb HS7.out.box
  go_wp2
  refine bodyPost_ret (Qi rfl _ _ w.heap.size 123 _ (0, 0) _ rfl (Qz HX7.out _ _ _ _ _ _ _ _ _) Tryz.underlying123 rfl (by kernel_rfl)) rfl ?_
  rw [HF.out]
  refine ⟨q7, oa7, oc7, rfl, ⟨?_, ?_, HS7.out.oko⟩, Ql HB7.out (Nat.le_refl _) _ _ _ _ _ _ _ _ _, HS7.out.nef.low (by have := HB2.out.size; omega), fun ad e => by have := HS7.out.neo ad e; have := HB2.out.size; omega⟩
  ·exact FoAt.keepB HS7.out.form (Yq (KeepB.refl _ _ _) _ _ _ _ _ _ _ _ _) (HS7.out.nef.ne (by omega))
  ·exact SlAt.keepB HS7.out.oss (Yq (KeepB.refl w7.heap.size [w.heap.size] w7) _ _ _ _ _ _ _ _ _) (fun ad e => by rw [List.mem_singleton]; have := HS7.out.neo ad e; omega)
def brV (b : Br) : Value := .agg #[.int .i64 b.id, .int .i64 b.n, .int .i64 b.d, .int .i64 b.key]
def BlAt (w : World) (a : Option Addr) (l : List Br) : Prop := SlAt w a 4 (l.map Y4)
theorem BlAt.get {w : World} {a : Option Addr} {l : List Br} (h : BlAt w a l) (i : Nat) (hi : i < l.length) : ∃ b off, a = some ⟨b, off, none⟩ ∧ b < w.heap.size ∧ w.cell? ⟨b, off + i * 4, none⟩ = some (.int .i64 l[i].id) ∧ w.cell? ⟨b, off + i * 4 + 1, none⟩ = some (.int .i64 l[i].n) ∧ w.cell? ⟨b, off + i * 4 + 2, none⟩ = some (.int .i64 l[i].d) ∧ w.cell? ⟨b, off + i * 4 + 3, none⟩ = some (.int .i64 l[i].key) := by
 obtain ⟨b, off, e, hb, _, hc⟩ := h i (Y4 l[i]) (by simp [hi])
 exact ⟨b, off, e, hb, hc 0 _ rfl, hc 1 _ rfl, hc 2 _ rfl, hc 3 _ rfl⟩
theorem IndexB_any (g : Nat) (caps : Array Value) (eg : ∀ args w, (callFunc g args).run Tryz.prog w = .ok (.enter g args) w) (B : Nat) (p : Br → Bool) (a : Option Addr) (cap : Nat) (ds : List Br) (w : World) (hl : ds.length ≤ 100000) (hp : JS brV g caps p ds B w) (hB : B ≤ w.heap.size) (hm : BlAt w a ds) :
  Calls Tryz.prog 104 #[.slice a ds.length cap, .func (.func g) #[] caps] w fun e w' => e = .returned (.int .i64 (idxO p ds)) ∧ RowKit.Below w.heap.size w w' := by
 have HM := Qa hm; have HP := Qa hp
 clear hm hp
 go_enter Tryz.func104, Tryz.ntmps104
 go_wp2
 go_loopw [8] (fun i wr => ∃ k : Nat, k ≤ ds.length ∧ i = .int .i64 k ∧ (∀ j (hj : j < ds.length), j < k → p ds[j] = false) ∧ RowKit.Below w.heap.size w wr) (fun i _ => ds.length - (intOf i).toNat)
 case atStart => exact ⟨0, Nat.zero_le _, rfl, fun j hj h => by omega, RowKit.Below.refl _ _⟩
 case round =>
  obtain ⟨k, hk, rfl, hall, hb⟩ := hrel
  have HA := Qa hall; have HB := Qa hb
  clear hall hb
  by_cases hlt : k < ds.length
  ·obtain ⟨b, off, rfl, _, e0, e1, e2, e3⟩ := HM.out.get k hlt
   have g0 := Qq e0 HB.out; have g1 := Qq e1 HB.out; have g2 := Qq e2 HB.out; have g3 := Qq e3 HB.out
   clear e0 e1 e2 e3
   have HPk := Qa (HP.out ds[k] (List.getElem_mem _) wr (HB.out.mono hB))
   have HT := Qa (fun h : p ds[k] = true => Zv hlt h HA.out)
   have HF := Qa (fun h : p ds[k] = false => (fun j (hj : j < ds.length) (hjk : j < k + 1) => if e : j = k then by subst e; exact h else HA.out j hj (by omega) : ∀ j (hj : j < ds.length), j < k + 1 → p ds[j] = false))
   generalize ds[k] = d at *
   have hcall := HPk.out
   unfold brV at hcall
   cases hpd : p d
   ·rw [hpd] at hcall
    go_wp2_with (go_at_fn g; refine hcall.mono ?_; rintro e w' ⟨rfl, hb'⟩; replace HB := Qa (HB.out.trans (hb'.mono HB.out.size)))
    go_roundw
    case rel => exact ⟨k + 1, by omega, by go_num, HF.out hpd, HB.out⟩
    case measure => simp [intOf]; omega
   ·rw [hpd] at hcall
    have HT2 := Qa (HT.out hpd)
    go_wp2_with (go_at_fn g; refine hcall.mono ?_; rintro e w' ⟨rfl, hb'⟩; replace HB := Qa (HB.out.trans (hb'.mono HB.out.size)))
    go_ret
    exact ⟨QK HT2.out.symm, HB.out⟩
  ·have HT2 := Qa (Q0 fun j hj => HA.out j hj (by omega))
   go_wp2
   go_ret
   exact ⟨QK HT2.out.symm, HB.out⟩
theorem calls1_any (x : Br) (e : En) (b : Nat) (w : World) (h : w.heap[b]? = some (.cells #[.int .i64 e.time, .int .i64 e.kind, .int .i64 e.a, .int .i64 e.b, .int .i64 e.c, .int .u64 e.dg] 50)) :
  Calls Tryz.prog 105 (#[brV x] ++ #[.pointer (some ⟨b, 0, none⟩)]) w fun v w' => v = .returned (.bool (decide (x.id = e.a))) ∧ Below w.heap.size w w' := by
 unfold brV
 have HX := Qa (Qj h (.cells #[.int .i64 x.id, .int .i64 x.n, .int .i64 x.d, .int .i64 x.key] 135))
 have HB := Qa (Qg (w := w) (.cells #[.int .i64 x.id, .int .i64 x.n, .int .i64 x.d, .int .i64 x.key] 135))
 have HN := Qa (heap_alloc_new w (.cells #[.int .i64 x.id, .int .i64 x.n, .int .i64 x.d, .int .i64 x.key] 135))
 clear h
 go_enter Tryz.func105, Tryz.ntmps105
 go_upto_region 1 with (fail)
 have hc := Qb HX.out; have hd := Qb HN.out
 generalize w.alloc (.cells #[.int .i64 x.id, .int .i64 x.n, .int .i64 x.d, .int .i64 x.key] 135) = W at *
 go_wp2
 go_ret
 exact ⟨Qf rfl, HB.out⟩
theorem findR_err (f : Fo) (v : Int × Int) (h : (Yi f v).2 ≠ 0) : (Yi f v).1.2 = false := by
 unfold Yi at *
 split at h
 ·split at h <;> exact absurd rfl h
 ·rename_i hv; rw [if_neg hv]
theorem calls_any (L : Lb) (P : Lbp) (d : List De) (da : Option Addr) (dc rs re g r : Nat) (st k m : Int) (e : En) (w : World) (hf : LbFew L) (hbl : ∀ x ∈ L.ws, x.1.bars.length ≤ 1000) (hdl : d.length ≤ 1000) (hL : WsAt w P.wa L.ws) (hda : DeAt w da d) (hv : QH (Qk L.ws) d = true) (hk : 0 ≤ k) (ht : 0 ≤ e.time ∧ e.time ≤ 1000000000) (h : AudAt w g L P d da dc rs re) (hr : w.heap[r]? = some (.cells #[.pointer (some ⟨g, 0, none⟩), .int .i64 (st), .int .i64 (k), .int .i64 (m)] 80)) :
  Calls Tryz.prog 65 #[.pointer (some ⟨r, 0, none⟩), .agg #[.int .i64 e.time, .int .i64 e.kind, .int .i64 e.a, .int .i64 e.b, .int .i64 e.c, .int .u64 e.dg]] w (RulePost (if JD L d (min k d.length) e then [] else [5]) k m r g st w) := by
 have HX := Qa (heap_alloc_new w (.cells #[.int .i64 e.time, .int .i64 e.kind, .int .i64 e.a, .int .i64 e.b, .int .i64 e.c, .int .u64 e.dg] 50))
 have HB := Qa (Qg (w := w) (.cells #[.int .i64 e.time, .int .i64 e.kind, .int .i64 e.a, .int .i64 e.b, .int .i64 e.c, .int .u64 e.dg] 50))
 have HR := Qa (Qj hr (.cells #[.int .i64 e.time, .int .i64 e.kind, .int .i64 e.a, .int .i64 e.b, .int .i64 e.c, .int .u64 e.dg] 50))
 have HG := Qa (Qj h.box (.cells #[.int .i64 e.time, .int .i64 e.kind, .int .i64 e.a, .int .i64 e.b, .int .i64 e.c, .int .u64 e.dg] 50))
 have hrl := Qd hr
 have hat := Qaw (known := min k d.length) hv (by omega) ht
 have hfew := atR_few (wks_few hf) d (min k d.length) e.time
 obtain ⟨wx, wp, hfw, hw⟩ := work_is L P d da dc rs re g e.c w hf.ws hL h
 have HW := Qa hw
 have HAt := Qa (fun V (hV : Below w.heap.size w V) => dAtN_any P.wa P.wc L.ws da dc d (min k d.length) e.time V hf.ws hf.forms (hL.below hV) (by omega) (SlAt.below hda hV))
 have HC := Qa (show JD L d (min k d.length) e = (decide ((atR (Qk L.ws) d (min k d.length) e.time).1.ver = e.c) && match Zk (Qk L.ws) e.c with | none => false | some x => decide (0 ≤ JR x.bars e.a) && (Yi (atR (Qk L.ws) d (min k d.length) e.time).1.f (JR x.bars e.a, e.b)).1.2) from rfl)
 have HBs := Qa (fun x (hx : x ∈ L.ws) V (hV : Below w.heap.size w V) => (show BsAt V x.2.ab x.1.bars from SlAt.below (hL.bars x hx) hV))
 have HBl := Qa hbl; have HFw := Qa hfw
 obtain ⟨wa, wcp, ea, ec, sa, sc, la, lc⟩ := P
 dsimp only at *
 clear hL hfw hw h hr hbl hda hv hf ht
 obtain ⟨hat1, hat2⟩ := hat
 generalize atR (Qk L.ws) d (min k d.length) e.time = R at *
 obtain ⟨rm, err⟩ := R
 dsimp only at *
 subst hat2
 generalize JD L d (min k d.length) e = cb at *
 generalize hfo : Zk (Qk L.ws) e.c = fo at *
 generalize hmk : min k (d.length : Int) = mk at *
 go_enter Tryz.func65, Tryz.ntmps65
 go_upto_region 1 with (fail)
 generalize w.alloc (.cells #[.int .i64 e.time, .int .i64 e.kind, .int .i64 e.a, .int .i64 e.b, .int .i64 e.c, .int .u64 e.dg] 50) = W at *
 go_cut [5, 6] (fun s5 s6 V => ∃ c q oa oc, s5 = .pointer (some ⟨c, 0, none⟩) ∧ s6 = .int .i64 0 ∧ W.heap.size ≤ c ∧ V.heap[c]? = some (.cells #[.int .i64 rm.ver, .int .i64 rm.f.bars, .slice q.ra rm.f.reps.length q.rc, .slice q.ea rm.f.ends.length q.ec, .int .i64 rm.f.jump.x, .int .i64 rm.f.jump.y, .int .i64 rm.f.jump.z, .slice q.ca rm.f.cuts.length q.cc, .slice oa rm.oss.length oc] 123) ∧ RmAt V rm q oa oc ∧ Below W.heap.size W V)
 case first =>
  clear HW HC HBs HBl HFw
  have KS := Qa (fun V (hV : Below W.heap.size W V) => show V.heap[r]? = some (.cells #[.pointer (some ⟨g, 0, none⟩), .int .i64 (st), .int .i64 (k), .int .i64 (m)] 80) ∧ V.heap[w.heap.size]? = some (.cells #[.int .i64 e.time, .int .i64 e.kind, .int .i64 e.a, .int .i64 e.b, .int .i64 e.c, .int .u64 e.dg] 50) ∧ V.heap[g]? = some (.cells #[.slice wa L.ws.length wcp, .slice ea L.eds.length ec, .slice sa L.shs.length sc, .slice la L.los.length lc, .slice da d.length dc, .map (some rs), .map (some re)] 142) from ⟨Qc HR.out hV, Qc HX.out hV, Qc HG.out hV⟩)
  refine wp_region_held_drew (S := fun V => V.heap[r]? = some (.cells #[.pointer (some ⟨g, 0, none⟩), .int .i64 (st), .int .i64 (k), .int .i64 (m)] 80) ∧ V.heap[w.heap.size]? = some (.cells #[.int .i64 e.time, .int .i64 e.kind, .int .i64 e.a, .int .i64 e.b, .int .i64 e.c, .int .u64 e.dg] 50) ∧ V.heap[g]? = some (.cells #[.slice wa L.ws.length wcp, .slice ea L.eds.length ec, .slice sa L.shs.length sc, .slice la L.los.length lc, .slice da d.length dc, .map (some rs), .map (some re)] 142)) (by kernel_rfl) ⟨HR.out, HX.out, HG.out⟩ (fun hHeld => ?_)
  (refine tq 0 ?_ (y := fun _ hSw => by have hx := Qb hSw.1; have hy := Qb hSw.2.1; have hz := Qb hSw.2.2; go_simp; try rfl))
  (refine tq 1 ?_ (y := fun _ hSw => by have hx := Qb hSw.1; have hy := Qb hSw.2.1; have hz := Qb hSw.2.2; go_simp; try rfl))
  (refine tq 2 ?_ (y := fun _ hSw => by have hx := Qb hSw.1; have hy := Qb hSw.2.1; have hz := Qb hSw.2.2; go_simp; try rfl))
  (refine tq 3 ?_ (y := fun _ hSw => by have hx := Qb hSw.1; have hy := Qb hSw.2.1; have hz := Qb hSw.2.2; go_simp; try rfl))
  (refine tq 4 ?_ (y := fun _ hSw => by have hx := Qb hSw.1; have hy := Qb hSw.2.1; have hz := Qb hSw.2.2; go_simp; try rfl))
  (refine tq 5 ?_ (y := fun _ hSw => by have hx := Qb hSw.1; have hy := Qb hSw.2.1; have hz := Qb hSw.2.2; go_simp; try rfl))
  (refine tq 6 ?_ (y := fun _ hSw => by have hx := Qb hSw.1; have hy := Qb hSw.2.1; have hz := Qb hSw.2.2; go_simp; try rfl))
  (refine tq 7 ?_ (y := fun _ hSw => by have hx := Qb hSw.1; have hy := Qb hSw.2.1; have hz := Qb hSw.2.2; go_simp; try rfl))
  (refine tq 8 ?_ (y := fun _ hSw => by have hx := Qb hSw.1; have hy := Qb hSw.2.1; have hz := Qb hSw.2.2; go_simp; try rfl))
  (refine tq 9 ?_ (y := fun _ hSw => by have hx := Qb hSw.1; have hy := Qb hSw.2.1; have hz := Qb hSw.2.2; go_simp; try rfl))
  (refine tq 10 ?_ (y := fun _ hSw => by have hx := Qb hSw.1; have hy := Qb hSw.2.1; have hz := Qb hSw.2.2; go_simp; try rfl))
  (refine tq 11 ?_ (y := fun _ hSw => by have hx := Qb hSw.1; have hy := Qb hSw.2.1; have hz := Qb hSw.2.2; go_simp; try rfl))
  (refine tq 12 ?_ (y := fun _ hSw => by have hx := Qb hSw.1; have hy := Qb hSw.2.1; have hz := Qb hSw.2.2; go_simp; try rfl))
  (refine tq 13 ?_ (y := fun _ hSw => by have hx := Qb hSw.1; have hy := Qb hSw.2.1; have hz := Qb hSw.2.2; go_simp; try rfl))
  (refine tq 14 ?_ (y := fun _ hSw => by have hx := Qb hSw.1; have hy := Qb hSw.2.1; have hz := Qb hSw.2.2; go_simp; try rfl))
  (refine tq 15 ?_ (y := fun _ hSw => by have hx := Qb hSw.1; have hy := Qb hSw.2.1; have hz := Qb hSw.2.2; go_simp; try rfl))
  (refine tq 16 ?_ (y := fun _ hSw => by have hx := Qb hSw.1; have hy := Qb hSw.2.1; have hz := Qb hSw.2.2; go_simp; try rfl))
  (refine tq 17 ?_ (y := fun _ hSw => by have hx := Qb hSw.1; have hy := Qb hSw.2.1; have hz := Qb hSw.2.2; go_simp; try rfl))
  (refine tq 18 ?_ (y := fun _ hSw => by have hx := Qb hSw.1; have hy := Qb hSw.2.1; have hz := Qb hSw.2.2; go_simp; try rfl))
  (refine tq 19 ?_ (y := fun _ hSw => by have hx := Qb hSw.1; have hy := Qb hSw.2.1; have hz := Qb hSw.2.2; go_simp; try rfl))
  (refine tq 20 ?_ (y := fun _ hSw => by have hx := Qb hSw.1; have hy := Qb hSw.2.1; have hz := Qb hSw.2.2; go_simp; try rfl))
  (refine tq 21 ?_ (y := fun _ hSw => by have hx := Qb hSw.1; have hy := Qb hSw.2.1; have hz := Qb hSw.2.2; go_simp; try rfl))
  (refine tq 22 ?_ (y := fun _ hSw => by have hx := Qb hSw.1; have hy := Qb hSw.2.1; have hz := Qb hSw.2.2; go_simp; try rfl))
  (refine tq 23 ?_ (y := fun _ hSw => by have hx := Qb hSw.1; have hy := Qb hSw.2.1; have hz := Qb hSw.2.2; go_simp; try rfl))
  (refine tq 24 ?_ (y := fun _ hSw => by have hx := Qb hSw.1; have hy := Qb hSw.2.1; have hz := Qb hSw.2.2; go_simp; try rfl))
  (refine tq 25 ?_ (y := fun _ hSw => by have hx := Qb hSw.1; have hy := Qb hSw.2.1; have hz := Qb hSw.2.2; go_simp; try rfl))
  (refine tq 26 ?_ (y := fun _ hSw => by have hx := Qb hSw.1; have hy := Qb hSw.2.1; have hz := Qb hSw.2.2; go_simp; try rfl))
  (refine tq 27 ?_ (y := fun _ hSw => by have hx := Qb hSw.1; have hy := Qb hSw.2.1; have hz := Qb hSw.2.2; go_simp; try rfl))
  (refine tq 28 ?_ (y := fun _ hSw => by have hx := Qb hSw.1; have hy := Qb hSw.2.1; have hz := Qb hSw.2.2; go_simp; try rfl))
  (refine tq 29 ?_ (y := fun _ hSw => by have hx := Qb hSw.1; have hy := Qb hSw.2.1; have hz := Qb hSw.2.2; go_simp; try rfl))
  have hbd := (Below.refl W.heap.size W).drew
  refine tw 30 34 (fun K hK => ?_) (fun K hK => ?_)
  ·go_simp
   refine (HAt.out _ (HB.out.trans (hbd.mono HB.out.size))).mono ?_
   rintro e5 w5 ⟨q, oa, oc, rfl, hr5, hb5, _, _⟩
   replace hb5 := hbd.trans hb5
   go_simp
   refine hK.out _ _ (KS.out _ hb5) (fun hHeld => ?_)
   clear hK K
   (refine tq 31 ?_ (y := fun _ hSw => by go_simp; try rfl))
   (refine tq 32 ?_ (y := fun _ hSw => by go_simp; try rfl))
   (refine tq 33 ?_ (y := fun _ hSw => by go_simp; try rfl))
   (refine tc 34 (fun K hK => ?_); go_simp)
   refine hK.out _ _ (KS.out _ (hb5.alloc hb5.size _)) (fun hHeld => ?_)
   clear hK K
   have hn := heap_alloc_new w5 (.cells #[.int .i64 0, .int .i64 0, .slice none 0 0, .slice none 0 0, .int .i64 0, .int .i64 0, .int .i64 0, .slice none 0 0, .slice none 0 0] 123)
   have hcc := Qb hn; have hff := Qe hn; have hzz := Qd hn
   (refine tc 35 (fun K hK => ?_); go_simp)
   refine hK.out _ _ (KS.out _ (hb5.alloc hb5.size (.cells #[.int .i64 rm.ver, .int .i64 rm.f.bars, .slice q.ra rm.f.reps.length q.rc, .slice q.ea rm.f.ends.length q.ec, .int .i64 rm.f.jump.x, .int .i64 rm.f.jump.y, .int .i64 rm.f.jump.z, .slice q.ca rm.f.cuts.length q.cc, .slice oa rm.oss.length oc] 123))) (fun hHeld => ?_)
   clear hK K
   (refine tq 36 ?_ (y := fun _ hSw => by go_simp; try rfl))
   refine wpAnyH_done (by kernel_rfl) ?_ _
   go_wp2
   go_meet
   case rel => exact ⟨_, q, oa, oc, rfl, rfl, hb5.size, heap_alloc_new w5 (.cells #[.int .i64 rm.ver, .int .i64 rm.f.bars, .slice q.ra rm.f.reps.length q.rc, .slice q.ea rm.f.ends.length q.ec, .int .i64 rm.f.jump.x, .int .i64 rm.f.jump.y, .int .i64 rm.f.jump.z, .slice q.ca rm.f.cuts.length q.cc, .slice oa rm.oss.length oc] 123), hr5.below (Qg _), hb5.alloc hb5.size _⟩
  ·go_simp
   refine hK.out _ _ (KS.out _ ((Below.refl _ _).drew.alloc (Nat.le_refl _) _)) (fun hHeld2 => ?_)
   clear hK K
   obtain ⟨W1, hW1, hn1⟩ : ∃ W1, (W.alloc (.cells #[.int .i64 0, .int .i64 0, .slice none 0 0, .slice none 0 0, .int .i64 0, .int .i64 0, .int .i64 0, .slice none 0 0, .slice none 0 0] 123)).drew = W1 ∧ W1.heap[W.heap.size]? = some (.cells #[.int .i64 0, .int .i64 0, .slice none 0 0, .slice none 0 0, .int .i64 0, .int .i64 0, .int .i64 0, .slice none 0 0, .slice none 0 0] 123) := ⟨_, rfl, heap_alloc_new W _⟩
   have hb1 : Below W.heap.size W W1 := by rw [← hW1]; exact ((Below.refl _ _).alloc (Nat.le_refl _) _).drew
   rw [hW1] at hHeld2 ⊢
   clear hW1
   (refine tc 30 (fun K hK => ?_); go_simp)
   refine (HAt.out _ (HB.out.trans (hb1.mono HB.out.size))).mono ?_
   rintro e5 w5 ⟨q, oa, oc, rfl, hr5, hb5, hfn, hon⟩
   have hn := Qc hn1 hb5
   have hwl := Qd hn1
   replace hb5 := hb1.trans (hb5.mono hb1.size)
   go_simp
   refine hK.out _ _ (KS.out _ hb5) (fun hHeld => ?_)
   clear hK K hHeld2 hn1
   (refine tq 31 ?_ (y := fun _ hSw => by go_simp; try rfl))
   (refine tq 32 ?_ (y := fun _ hSw => by go_simp; try rfl))
   (refine tq 33 ?_ (y := fun _ hSw => by go_simp; try rfl))
   have hcc := Qb hn; have hff := Qe hn; have hzz := Qd hn
   (refine tc 35 (fun K hK => ?_); go_simp)
   have hn9 : (((((((((w5.setCell ⟨W.heap.size, 0, none⟩ (.int .i64 rm.ver)).setCell ⟨W.heap.size, 1, none⟩ (.int .i64 rm.f.bars)).setCell ⟨W.heap.size, 2, none⟩ (.slice q.ra rm.f.reps.length q.rc)).setCell ⟨W.heap.size, 3, none⟩ (.slice q.ea rm.f.ends.length q.ec)).setCell ⟨W.heap.size, 4, none⟩ (.int .i64 rm.f.jump.x)).setCell ⟨W.heap.size, 5, none⟩ (.int .i64 rm.f.jump.y)).setCell ⟨W.heap.size, 6, none⟩ (.int .i64 rm.f.jump.z)).setCell ⟨W.heap.size, 7, none⟩ (.slice q.ca rm.f.cuts.length q.cc)).setCell ⟨W.heap.size, 8, none⟩ (.slice oa rm.oss.length oc)).heap[W.heap.size]? = some (.cells #[.int .i64 rm.ver, .int .i64 rm.f.bars, .slice q.ra rm.f.reps.length q.rc, .slice q.ea rm.f.ends.length q.ec, .int .i64 rm.f.jump.x, .int .i64 rm.f.jump.y, .int .i64 rm.f.jump.z, .slice q.ca rm.f.cuts.length q.cc, .slice oa rm.oss.length oc] 123) := Qz hn _ _ _ _ _ _ _ _ _
   have hl9 : Below W.heap.size W (((((((((w5.setCell ⟨W.heap.size, 0, none⟩ (.int .i64 rm.ver)).setCell ⟨W.heap.size, 1, none⟩ (.int .i64 rm.f.bars)).setCell ⟨W.heap.size, 2, none⟩ (.slice q.ra rm.f.reps.length q.rc)).setCell ⟨W.heap.size, 3, none⟩ (.slice q.ea rm.f.ends.length q.ec)).setCell ⟨W.heap.size, 4, none⟩ (.int .i64 rm.f.jump.x)).setCell ⟨W.heap.size, 5, none⟩ (.int .i64 rm.f.jump.y)).setCell ⟨W.heap.size, 6, none⟩ (.int .i64 rm.f.jump.z)).setCell ⟨W.heap.size, 7, none⟩ (.slice q.ca rm.f.cuts.length q.cc)).setCell ⟨W.heap.size, 8, none⟩ (.slice oa rm.oss.length oc)) := Ql hb5 (Nat.le_refl _) _ _ _ _ _ _ _ _ _
   have hr9 : RmAt (((((((((w5.setCell ⟨W.heap.size, 0, none⟩ (.int .i64 rm.ver)).setCell ⟨W.heap.size, 1, none⟩ (.int .i64 rm.f.bars)).setCell ⟨W.heap.size, 2, none⟩ (.slice q.ra rm.f.reps.length q.rc)).setCell ⟨W.heap.size, 3, none⟩ (.slice q.ea rm.f.ends.length q.ec)).setCell ⟨W.heap.size, 4, none⟩ (.int .i64 rm.f.jump.x)).setCell ⟨W.heap.size, 5, none⟩ (.int .i64 rm.f.jump.y)).setCell ⟨W.heap.size, 6, none⟩ (.int .i64 rm.f.jump.z)).setCell ⟨W.heap.size, 7, none⟩ (.slice q.ca rm.f.cuts.length q.cc)).setCell ⟨W.heap.size, 8, none⟩ (.slice oa rm.oss.length oc)) rm q oa oc := ⟨FoAt.keepB hr5.form (Yq (KeepB.refl _ _ _) _ _ _ _ _ _ _ _ _) (hfn.ne hwl), SlAt.keepB hr5.oss (Yq (KeepB.refl w5.heap.size [W.heap.size] w5) _ _ _ _ _ _ _ _ _) (fun ad e => by rw [List.mem_singleton]; have := hon ad e; omega), hr5.oko⟩
   refine hK.out _ _ (KS.out _ hl9) (fun hHeld9 => ?_)
   clear hK K hHeld
   (refine tq 36 ?_ (y := fun _ hSw => by go_simp; try rfl))
   refine wpAnyH_done (by kernel_rfl) ?_ _
   go_wp2
   go_meet
   case rel => exact ⟨_, q, oa, oc, rfl, rfl, Nat.le_refl _, hn9, hr9, hl9⟩
 obtain ⟨cr, q, oa, oc, rfl, rfl, hcr, hbr, hrm, hb1⟩ := hcut
 have HKr := Qa hbr; have HRm := Qa hrm
 replace HX := bk HX hb1; replace HR := bk HR hb1; replace HG := bk HG hb1; replace HB := bu HB hb1
 clear hbr hrm hb1 HAt hcr
 have HWl := Qa (fun V (hV : Below w.heap.size w V) => HW.out V hV)
 generalize hW0 : (if cb then [] else [5] : List Int) = RL at *
 have HRL := Qa hW0.symm
 clear hW0
 go_upto_region 2 with (fail)
 go_cut [7, 8] (fun s7 s8 V => ∃ c, s7 = .pointer (some ⟨c, 0, none⟩) ∧ s8 = .bool fo.isSome ∧ V.heap[c]? = some (.cells #[.int .i64 wx.ver, .slice wp.ab wx.bars.length wp.cb, .slice wp.ap wp.np wp.cp, .slice wp.an wp.nn wp.cn, .int .i64 wx.f.bars, .slice wp.q.ra wx.f.reps.length wp.q.rc, .slice wp.q.ea wx.f.ends.length wp.q.ec, .int .i64 wx.f.jump.x, .int .i64 wx.f.jump.y, .int .i64 wx.f.jump.z, .slice wp.q.ca wx.f.cuts.length wp.q.cc, .slice wp.ta wp.tn wp.tc] 112) ∧ Below wc.heap.size wc V)
 case first =>
  clear HC HBs HBl HFw HRL
  have KS := Qa (fun V (hV : Below wc.heap.size wc V) => show V.heap[r]? = some (.cells #[.pointer (some ⟨g, 0, none⟩), .int .i64 (st), .int .i64 (k), .int .i64 (m)] 80) ∧ V.heap[w.heap.size]? = some (.cells #[.int .i64 e.time, .int .i64 e.kind, .int .i64 e.a, .int .i64 e.b, .int .i64 e.c, .int .u64 e.dg] 50) from ⟨Qc HR.out hV, Qc HX.out hV⟩)
  refine wp_region_held_drew (S := fun V => V.heap[r]? = some (.cells #[.pointer (some ⟨g, 0, none⟩), .int .i64 (st), .int .i64 (k), .int .i64 (m)] 80) ∧ V.heap[w.heap.size]? = some (.cells #[.int .i64 e.time, .int .i64 e.kind, .int .i64 e.a, .int .i64 e.b, .int .i64 e.c, .int .u64 e.dg] 50)) (by kernel_rfl) ⟨HR.out, HX.out⟩ (fun hHeld => ?_)
  (refine tq 0 ?_ (y := fun _ hSw => by have hx := Qb hSw.1; have hy := Qb hSw.2; go_simp; try rfl))
  (refine tq 1 ?_ (y := fun _ hSw => by have hx := Qb hSw.1; have hy := Qb hSw.2; go_simp; try rfl))
  (refine tq 2 ?_ (y := fun _ hSw => by have hx := Qb hSw.1; have hy := Qb hSw.2; go_simp; try rfl))
  (refine tq 3 ?_ (y := fun _ hSw => by have hx := Qb hSw.1; have hy := Qb hSw.2; go_simp; try rfl))
  (refine tq 4 ?_ (y := fun _ hSw => by have hx := Qb hSw.1; have hy := Qb hSw.2; go_simp; try rfl))
  (refine tq 5 ?_ (y := fun _ hSw => by have hx := Qb hSw.1; have hy := Qb hSw.2; go_simp; try rfl))
  have hbd := (Below.refl wc.heap.size wc).drew
  refine tw 6 10 (fun K hK => ?_) (fun K hK => ?_)
  ·go_simp
   refine (HWl.out _ (HB.out.trans (hbd.mono HB.out.size))).mono ?_
   rintro e5 w5 ⟨rfl, hb5⟩
   replace hb5 := hbd.trans hb5
   go_simp
   refine hK.out _ _ (KS.out _ hb5) (fun hHeld => ?_)
   clear hK K
   (refine tq 7 ?_ (y := fun _ hSw => by go_simp; try rfl))
   (refine tq 8 ?_ (y := fun _ hSw => by go_simp; try rfl))
   (refine tq 9 ?_ (y := fun _ hSw => by go_simp; try rfl))
   (refine tc 10 (fun K hK => ?_); go_simp)
   refine hK.out _ _ (KS.out _ (hb5.alloc hb5.size _)) (fun hHeld => ?_)
   clear hK K
   have hn := heap_alloc_new w5 (.cells #[.int .i64 0, .slice none 0 0, .slice none 0 0, .slice none 0 0, .int .i64 0, .slice none 0 0, .slice none 0 0, .int .i64 0, .int .i64 0, .int .i64 0, .slice none 0 0, .slice none 0 0] 112)
   have hcc := Qb hn; have hff := Qe hn; have hzz := Qd hn
   (refine tc 11 (fun K hK => ?_); go_simp)
   refine hK.out _ _ (KS.out _ (hb5.alloc hb5.size (.cells #[.int .i64 wx.ver, .slice wp.ab wx.bars.length wp.cb, .slice wp.ap wp.np wp.cp, .slice wp.an wp.nn wp.cn, .int .i64 wx.f.bars, .slice wp.q.ra wx.f.reps.length wp.q.rc, .slice wp.q.ea wx.f.ends.length wp.q.ec, .int .i64 wx.f.jump.x, .int .i64 wx.f.jump.y, .int .i64 wx.f.jump.z, .slice wp.q.ca wx.f.cuts.length wp.q.cc, .slice wp.ta wp.tn wp.tc] 112))) (fun hHeld => ?_)
   clear hK K
   (refine tq 12 ?_ (y := fun _ hSw => by go_simp; try rfl))
   refine wpAnyH_done (by kernel_rfl) ?_ _
   go_wp2
   go_meet
   case rel => exact ⟨_, rfl, rfl, heap_alloc_new w5 (.cells #[.int .i64 wx.ver, .slice wp.ab wx.bars.length wp.cb, .slice wp.ap wp.np wp.cp, .slice wp.an wp.nn wp.cn, .int .i64 wx.f.bars, .slice wp.q.ra wx.f.reps.length wp.q.rc, .slice wp.q.ea wx.f.ends.length wp.q.ec, .int .i64 wx.f.jump.x, .int .i64 wx.f.jump.y, .int .i64 wx.f.jump.z, .slice wp.q.ca wx.f.cuts.length wp.q.cc, .slice wp.ta wp.tn wp.tc] 112), hb5.alloc hb5.size _⟩
  ·go_simp
   refine hK.out _ _ (KS.out _ ((Below.refl _ _).drew.alloc (Nat.le_refl _) _)) (fun hHeld2 => ?_)
   clear hK K
   obtain ⟨W1, hW1, hn1⟩ : ∃ W1, (wc.alloc (.cells #[.int .i64 0, .slice none 0 0, .slice none 0 0, .slice none 0 0, .int .i64 0, .slice none 0 0, .slice none 0 0, .int .i64 0, .int .i64 0, .int .i64 0, .slice none 0 0, .slice none 0 0] 112)).drew = W1 ∧ W1.heap[wc.heap.size]? = some (.cells #[.int .i64 0, .slice none 0 0, .slice none 0 0, .slice none 0 0, .int .i64 0, .slice none 0 0, .slice none 0 0, .int .i64 0, .int .i64 0, .int .i64 0, .slice none 0 0, .slice none 0 0] 112) := ⟨_, rfl, heap_alloc_new wc _⟩
   have hb1 : Below wc.heap.size wc W1 := by rw [← hW1]; exact ((Below.refl _ _).alloc (Nat.le_refl _) _).drew
   rw [hW1] at hHeld2 ⊢
   clear hW1
   (refine tc 6 (fun K hK => ?_); go_simp)
   refine (HWl.out _ (HB.out.trans (hb1.mono HB.out.size))).mono ?_
   rintro e5 w5 ⟨rfl, hb5⟩
   have hn := Qc hn1 hb5
   replace hb5 := hb1.trans (hb5.mono hb1.size)
   go_simp
   refine hK.out _ _ (KS.out _ hb5) (fun hHeld => ?_)
   clear hK K hHeld2 hn1
   (refine tq 7 ?_ (y := fun _ hSw => by go_simp; try rfl))
   (refine tq 8 ?_ (y := fun _ hSw => by go_simp; try rfl))
   (refine tq 9 ?_ (y := fun _ hSw => by go_simp; try rfl))
   have hcc := Qb hn; have hff := Qe hn; have hzz := Qd hn
   (refine tc 11 (fun K hK => ?_); go_simp)
   have hn9 : ((((((((((((w5.setCell ⟨wc.heap.size, 0, none⟩ (.int .i64 wx.ver)).setCell ⟨wc.heap.size, 1, none⟩ (.slice wp.ab wx.bars.length wp.cb)).setCell ⟨wc.heap.size, 2, none⟩ (.slice wp.ap wp.np wp.cp)).setCell ⟨wc.heap.size, 3, none⟩ (.slice wp.an wp.nn wp.cn)).setCell ⟨wc.heap.size, 4, none⟩ (.int .i64 wx.f.bars)).setCell ⟨wc.heap.size, 5, none⟩ (.slice wp.q.ra wx.f.reps.length wp.q.rc)).setCell ⟨wc.heap.size, 6, none⟩ (.slice wp.q.ea wx.f.ends.length wp.q.ec)).setCell ⟨wc.heap.size, 7, none⟩ (.int .i64 wx.f.jump.x)).setCell ⟨wc.heap.size, 8, none⟩ (.int .i64 wx.f.jump.y)).setCell ⟨wc.heap.size, 9, none⟩ (.int .i64 wx.f.jump.z)).setCell ⟨wc.heap.size, 10, none⟩ (.slice wp.q.ca wx.f.cuts.length wp.q.cc)).setCell ⟨wc.heap.size, 11, none⟩ (.slice wp.ta wp.tn wp.tc)).heap[wc.heap.size]? = some (.cells #[.int .i64 wx.ver, .slice wp.ab wx.bars.length wp.cb, .slice wp.ap wp.np wp.cp, .slice wp.an wp.nn wp.cn, .int .i64 wx.f.bars, .slice wp.q.ra wx.f.reps.length wp.q.rc, .slice wp.q.ea wx.f.ends.length wp.q.ec, .int .i64 wx.f.jump.x, .int .i64 wx.f.jump.y, .int .i64 wx.f.jump.z, .slice wp.q.ca wx.f.cuts.length wp.q.cc, .slice wp.ta wp.tn wp.tc] 112) := Js hn _ _ _ _ _ _ _ _ _ _ _ _
   have hl9 : Below wc.heap.size wc ((((((((((((w5.setCell ⟨wc.heap.size, 0, none⟩ (.int .i64 wx.ver)).setCell ⟨wc.heap.size, 1, none⟩ (.slice wp.ab wx.bars.length wp.cb)).setCell ⟨wc.heap.size, 2, none⟩ (.slice wp.ap wp.np wp.cp)).setCell ⟨wc.heap.size, 3, none⟩ (.slice wp.an wp.nn wp.cn)).setCell ⟨wc.heap.size, 4, none⟩ (.int .i64 wx.f.bars)).setCell ⟨wc.heap.size, 5, none⟩ (.slice wp.q.ra wx.f.reps.length wp.q.rc)).setCell ⟨wc.heap.size, 6, none⟩ (.slice wp.q.ea wx.f.ends.length wp.q.ec)).setCell ⟨wc.heap.size, 7, none⟩ (.int .i64 wx.f.jump.x)).setCell ⟨wc.heap.size, 8, none⟩ (.int .i64 wx.f.jump.y)).setCell ⟨wc.heap.size, 9, none⟩ (.int .i64 wx.f.jump.z)).setCell ⟨wc.heap.size, 10, none⟩ (.slice wp.q.ca wx.f.cuts.length wp.q.cc)).setCell ⟨wc.heap.size, 11, none⟩ (.slice wp.ta wp.tn wp.tc)) := Yh hb5 (Nat.le_refl _) _ _ _ _ _ _ _ _ _ _ _ _
   refine hK.out _ _ (KS.out _ hl9) (fun hHeld9 => ?_)
   clear hK K hHeld
   (refine tq 12 ?_ (y := fun _ hSw => by go_simp; try rfl))
   refine wpAnyH_done (by kernel_rfl) ?_ _
   go_wp2
   go_meet
   case rel => exact ⟨_, rfl, rfl, hn9, hl9⟩
 obtain ⟨cw, rfl, rfl, hbw, hb2⟩ := hcut
 have HKw := Qa hbw
 replace HX := bk HX hb2; replace HR := bk HR hb2; replace HB := bu HB hb2; replace HKr := bk HKr hb2; replace HRm := Qa (HRm.out.below hb2)
 clear hbw hb2 HG HWl HW
 have hc := Qb HX.out; have hd := Qb HKr.out; have hf := Qb HKw.out
 have HK := Qa (KeepB.of_below' (S := [r]) HB.out)
 cases fo with
 | none =>
  have HE := Qa (show RL = [5] by rw [HRL.out, HC.out]; simp)
  clear HC HRL HFw
  go_wp2
  go_ret
  rw [HE.out]
  exact RulePost.one HR.out HK.out
 | some fx =>
  by_cases hve : rm.ver = e.c
  ·have hvb : (rm.ver != e.c) = false := by simp [hve]
   have HF2 := Qa (HFw.out.resolve_left (by simp))
   have hfx : wx = fx := (Option.some.inj HF2.out.2).symm
   subst hfx
   have HC2 := Qa (show cb = (decide (0 ≤ JR wx.bars e.a) && (Yi rm.f (JR wx.bars e.a, e.b)).1.2) by rw [HC.out, decide_eq_true hve]; rfl)
   have hbl := HBl.out _ HF2.out.1
   have HIx := Qa (fun V (hV : Below wc.heap.size wc V) => IndexB_any 105 #[.pointer (some ⟨w.heap.size, 0, none⟩)] (enters_of Tryz.func105 (by kernel_rfl) rfl) wc.heap.size (fun y => decide (y.id = e.a)) wp.ab wp.cb wx.bars V (by dsimp only at hbl; omega) (fun d _ V' hV' => calls1_any d e w.heap.size V' ((hV'.block _ (Qd HX.out)).trans ((hV.block _ (Qd HX.out)).trans HX.out))) hV.size (HBs.out _ HF2.out.1 V (HB.out.trans (hV.mono HB.out.size))))
   have HFn := Qa (fun v V (hV : Below wc.heap.size wc V) => rFind_any rm.f q v V hfew (HRm.out.form.below hV))
   clear HC HFw HF2 hve hfo hat1 HBs HBl hbl
   have hix : idxO (fun y : Br => decide (y.id = e.a)) wx.bars = JR wx.bars e.a := rfl
   rw [hix] at HIx
   clear hix
   generalize JR wx.bars e.a = ix at *
   go_upto_region 6 with (go_at_call 104; refine (HIx.out _ (Below.refl _ _)).mono ?_; rintro e5 w5 ⟨rfl, hb5⟩)
   have HX5 := bk HX hb5; have HR5 := bk HR hb5; have HB5 := bu HB hb5; have HKr5 := bk HKr hb5
   have HFn5 := Qa (HFn.out (ix, e.b) w5 hb5)
   have hfe := findR_err rm.f (ix, e.b)
   clear hc hd hf HIx HX HR HB HKr HKw HK HFn hb5 HRm
   generalize Yi rm.f (ix, e.b) = F at *
   obtain ⟨⟨fi, fb⟩, fe⟩ := F
   dsimp only at *
   have hc := Qb HX5.out; have hd := Qb HKr5.out
   go_upto_region 7 with (go_at_call 106; refine HFn5.out.mono ?_; rintro e6 w6 ⟨rfl, hb6⟩)
   have HR6 := bk HR5 hb6; have HK := Qa (KeepB.of_below' (S := [r]) (HB5.out.trans (hb6.mono HB5.out.size)))
   clear hc hd HX5 HR5 HB5 HKr5 HFn5 hb6
   go_cut [96] (fun s V => s = .bool (!(decide (0 ≤ ix) && fb)) ∧ V = w6)
   case first =>
    cases h0 : decide (ix < 0)
    ·have h9 : decide (0 ≤ ix) = true := by have := of_decide_eq_false h0; exact decide_eq_true (by omega)
     by_cases h1 : fe = 0
     ·have h2 : (fe != 0) = false := by simp [h1]
      clear h1
      cases fb <;> (go_wp2; go_meet) <;> exact ⟨by rw [h9]; rfl, rfl⟩
     ·have h2 : (fe != 0) = true := by simp [h1]
      have h4 := hfe h1
      clear h1
      subst h4
      go_wp2
      go_meet
      case rel => exact ⟨by rw [h9]; rfl, rfl⟩
    ·have h9 : decide (0 ≤ ix) = false := by have := of_decide_eq_true h0; exact decide_eq_false (by omega)
     go_wp2
     go_meet
     case rel => exact ⟨by rw [h9]; rfl, rfl⟩
   obtain ⟨rfl, hwc⟩ := hcut
   have hw2 := hwc.symm
   subst hw2
   clear hfe hwc
   rw [← HC2.out] at *
   cases cb
   ·have HE := Qa (show RL = [5] by rw [HRL.out]; rfl)
    clear HRL HC2
    go_wp2
    go_ret
    rw [HE.out]
    exact RulePost.one HR6.out HK.out
   ·have HE := Qa (show RL = [] by rw [HRL.out]; rfl)
    clear HRL HC2
    go_wp2
    go_ret
    rw [HE.out]
    exact RulePost.nil HR6.out HK.out
  ·have hvb : (rm.ver != e.c) = true := by simp [hve]
   have HE := Qa (show RL = [5] by rw [HRL.out, HC.out, decide_eq_false hve]; simp)
   clear HC HRL HFw hve
   go_wp2
   go_ret
   rw [HE.out]
   exact RulePost.one HR.out HK.out
attribute [local go_sem] Oper.semAt_some
def ZC (r : Nat) : List (Int × Value) := [(1, .func (.func 62) #[.pointer (some ⟨r, 0, none⟩)] #[]), (2, .func (.func 63) #[.pointer (some ⟨r, 0, none⟩)] #[]), (3, .func (.func 64) #[.pointer (some ⟨r, 0, none⟩)] #[]), (5, .func (.func 65) #[.pointer (some ⟨r, 0, none⟩)] #[])]
theorem all_it_any (x : Lg) (a : Option Addr) (c r : Nat) (w : World) :
  Calls Tryz.prog 35 #[.pointer (some ⟨r, 0, none⟩), .agg #[.int .i64 x.st, .slice a x.es.length c, .int .u64 x.ch]] w fun e w' => ∃ lb km kb, e = .returned (.func (.func 66) #[] #[.pointer (some ⟨lb, 0, none⟩), .pointer (some ⟨kb, 0, none⟩)]) ∧ w'.heap[lb]? = some (.cells #[.int .i64 x.st, .slice a x.es.length c, .int .u64 x.ch] 44) ∧ w'.heap[kb]? = some (.cells #[.map (some km)] 148) ∧ MapAt w' encI km (ZC r) ∧ w.heap.size ≤ lb ∧ w.heap.size ≤ km ∧ w.heap.size ≤ kb ∧ Below w.heap.size w w' := by
 have HX := Qa (heap_alloc_new w (.cells #[.int .i64 x.st, .slice a x.es.length c, .int .u64 x.ch] 44))
 have HB := Qa (Qg (w := w) (.cells #[.int .i64 x.st, .slice a x.es.length c, .int .u64 x.ch] 44))
 have hwl : w.heap.size < (w.alloc (.cells #[.int .i64 x.st, .slice a x.es.length c, .int .u64 x.ch] 44)).heap.size := by simp
 go_enter Tryz.func35, Tryz.ntmps35
 go_upto_region 1 with (fail)
 generalize w.alloc (.cells #[.int .i64 x.st, .slice a x.es.length c, .int .u64 x.ch] 44) = W at *
 have hmm := @run_makeMap Tryz.prog
 have HM0 := Qa (show MapAt (W.alloc (.map #[] 0)) encI W.heap.size ((ZC r).take 0) from MapAt.new W encI)
 have HX0 := Qa (Qj HX.out (.map #[] 0))
 have HB0 := Qa (HB.out.alloc HB.out.size (.map #[] 0))
 go_upto_region 2 with (first | (refine Qm rfl (.tmp 6) _ (.tmp 8) _ (.inr rfl) Tryz.underlying148 keyI _ ((ZC r).take 0) rfl HM0.out (((ZC r).getD 0 (0, undef)).1) rfl _ rfl ?_; intro w1 hm1 hg1; have HM1 := Qa (show MapAt w1 encI W.heap.size ((ZC r).take 1) from hm1); have HX1 := Qa ((hg1.block _ (Qd HX0.out) (by simp; omega)).trans HX0.out); have HB1 := Qa (HB0.out.grown hg1 (by have := HB0.out.size; omega) (fun k e => by cases e; omega)); clear hm1 hg1) | (refine Qm rfl (.tmp 6) _ (.tmp 10) _ (.inr rfl) Tryz.underlying148 keyI _ ((ZC r).take 1) rfl HM1.out (((ZC r).getD 1 (0, undef)).1) rfl _ rfl ?_; intro w2 hm2 hg2; have HM2 := Qa (show MapAt w2 encI W.heap.size ((ZC r).take 2) from hm2); have HX2 := Qa ((hg2.block _ (Qd HX1.out) (by simp; omega)).trans HX1.out); have HB2 := Qa (HB1.out.grown hg2 (by have := HB1.out.size; omega) (fun k e => by cases e; omega)); clear hm2 hg2) | (refine Qm rfl (.tmp 6) _ (.tmp 12) _ (.inr rfl) Tryz.underlying148 keyI _ ((ZC r).take 2) rfl HM2.out (((ZC r).getD 2 (0, undef)).1) rfl _ rfl ?_; intro w3 hm3 hg3; have HM3 := Qa (show MapAt w3 encI W.heap.size ((ZC r).take 3) from hm3); have HX3 := Qa ((hg3.block _ (Qd HX2.out) (by simp; omega)).trans HX2.out); have HB3 := Qa (HB2.out.grown hg3 (by have := HB2.out.size; omega) (fun k e => by cases e; omega)); clear hm3 hg3) | (refine Qm rfl (.tmp 6) _ (.tmp 14) _ (.inr rfl) Tryz.underlying148 keyI _ ((ZC r).take 3) rfl HM3.out (((ZC r).getD 3 (0, undef)).1) rfl _ rfl ?_; intro w4 hm4 hg4; have HM4 := Qa (show MapAt w4 encI W.heap.size ((ZC r).take 4) from hm4); have HX4 := Qa ((hg4.block _ (Qd HX3.out) (by simp; omega)).trans HX3.out); have HB4 := Qa (HB3.out.grown hg4 (by have := HB3.out.size; omega) (fun k e => by cases e; omega)); clear hm4 hg4))
 have hn := heap_alloc_new w4 (.cells #[.map (some W.heap.size)] 148)
 have hb := Qg (w := w4) (.cells #[.map (some W.heap.size)] 148)
 go_wp2
 go_ret
 exact ⟨_, _, _, rfl, Qc HX4.out hb, hn, HM4.out.below hb, Nat.le_refl _, HB.out.size, HB4.out.size, HB4.out.alloc HB4.out.size _⟩
structure KeepV (B N0 ob : Nat) (X Y : World) : Prop where
 low : Below N0 X Y
 obj : ∀ k o, X.heap[k]? = some o → k ≠ ob → (∀ cs fr, o ≠ .cells cs 46 fr) → (o.isCells = true ∨ k < B) → Y.heap[k]? = some o
theorem KeepV.trans {B N0 ob : Nat} {X Y Z : World} (h : KeepV B N0 ob X Y) (k : KeepV B N0 ob Y Z) : KeepV B N0 ob X Z := ⟨h.low.trans k.low, fun i o hi hn ht hc => k.obj i o (h.obj i o hi hn ht hc) hn ht hc⟩
theorem KeepV.put {B N0 ob : Nat} {X : World} {l : Nat} {o o' : Obj} (hN : N0 ≤ B) (hl : B ≤ l) (h : X.heap[l]? = some o) (hc : o.isCells = false) : KeepV B N0 ob X (X.putObj l o') :=
 ⟨Q7 (Nat.le_trans hN hl), fun k u hk _ _ hu => by
  refine (World.putObj_heap_other ?_).trans hk
  rintro rfl
  rw [h] at hk; cases hk
  rcases hu with hu | hu
  ·rw [hc] at hu; cases hu
  ·omega⟩
theorem KeepV.cells {B N0 ob : Nat} {X Y : World} (h : KeepV B N0 ob X Y) {k : Nat} {cs : Array Value} {T : TypeId} {fr : Nat × Nat} (hk : X.heap[k]? = some (.cells cs T fr)) (hn : k ≠ ob) (hT : T ≠ 46) : Y.heap[k]? = some (.cells cs T fr) :=
 h.obj k _ hk hn (fun _ _ e => hT (by cases e; rfl)) (.inl rfl)
theorem KeepV.map {κ : Type} {enc : κ → Value} {B N0 ob : Nat} {X Y : World} (h : KeepV B N0 ob X Y) {r : Nat} {m : List (κ × Value)} (hm : MapAt X enc r m) (hn : r ≠ ob) (hB : r < B) : MapAt Y enc r m := by
 obtain ⟨⟨es, c, h1, h2⟩, h3⟩ := hm
 exact ⟨⟨es, c, h.obj r _ h1 hn (fun _ _ e => by cases e) (.inr hB), h2⟩, h3⟩
theorem KeepV.own {B N0 ob Bo : Nat} {X Y : World} {E : TypeId} {sz : Nat} {v : Value} {rows : List (List Value)} (h : KeepV B N0 ob X Y) (o : OwnR X Bo E sz v rows) (hE : E ≠ 46) (hB : ob < Bo) : OwnR Y Bo E sz v rows := by
 obtain ⟨h0, h1, h2⟩ := o
 refine ⟨h0, h1, ?_⟩
 rcases h2 with h2 | ⟨g, cap, cur, e, hg, hc, h3⟩
 ·exact .inl h2
 ·exact .inr ⟨g, cap, cur, e, hg, h.cells hc (by omega) hE, h3⟩
theorem MapAt.keepBR {κ : Type} {enc : κ → Value} {X Y : World} {k r : Nat} {m : List (κ × Value)} (hm : MapAt X enc k m) (h : KeepB X.heap.size [r] X Y) (hr : k ≠ r) : MapAt Y enc k m := by
 obtain ⟨⟨es, c, h1, h2⟩, h3⟩ := hm
 exact ⟨⟨es, c, (h.block k (Qd h1) (by rw [List.mem_singleton]; exact hr)).trans h1, h2⟩, h3⟩
structure ItS (L : Lb) (P : Lbp) (d : List De) (da : Option Addr) (dc : Nat) (x : Lg) (p : Lq) (g rs re r lb km kb : Nat) (w0 V : World) (k m : Int) : Prop where
 low : Below w0.heap.size w0 V
 aud : AudAt V g L P d da dc rs re
 br : V.heap[r]? = some (.cells #[.pointer (some ⟨g, 0, none⟩), .int .i64 (x.st), .int .i64 (k), .int .i64 (m)] 80)
 bl : V.heap[lb]? = some (.cells #[.int .i64 x.st, .slice p.a x.es.length p.c, .int .u64 x.ch] 44)
 bk : V.heap[kb]? = some (.cells #[.map (some km)] 148)
 bm : MapAt V encI km (ZC r)
theorem ItS.keepB {L : Lb} {P : Lbp} {d : List De} {da : Option Addr} {dc : Nat} {x : Lg} {p : Lq} {g rs re r lb km kb : Nat} {w0 V V' : World} {k m k' m' : Int} (h : ItS L P d da dc x p g rs re r lb km kb w0 V k m) (hb : KeepB V.heap.size [r] V V') (hr : V'.heap[r]? = some (.cells #[.pointer (some ⟨g, 0, none⟩), .int .i64 (x.st), .int .i64 (k'), .int .i64 (m')] 80)) (h0 : w0.heap.size ≤ r) : ItS L P d da dc x p g rs re r lb km kb w0 V' k' m' := by
 have hmem : ∀ j, j ≠ r → j ∉ [r] := fun j hj => by rw [List.mem_singleton]; exact hj
 have n1 : g ≠ r := fun e => by have h1 := h.aud.box; rw [e, h.br] at h1; cases h1
 have n2 : lb ≠ r := fun e => by have h1 := h.bl; rw [e, h.br] at h1; cases h1
 have n3 : kb ≠ r := fun e => by have h1 := h.bk; rw [e, h.br] at h1; cases h1
 have nm : ∀ {κ : Type} {enc : κ → Value} {j : Nat} {l : List (κ × Value)}, MapAt V enc j l → j ≠ r := fun hm e => by
  obtain ⟨⟨es, c, h1, _⟩, _⟩ := hm
  rw [e, h.br] at h1; cases h1
 exact ⟨h.low.trans ⟨hb.os, hb.tape, hb.output, hb.size, fun j hj => hb.block j (Nat.lt_of_lt_of_le hj h.low.size) (hmem j (by omega))⟩, ⟨(hb.block _ (Qd h.aud.box) (hmem _ n1)).trans h.aud.box, h.aud.shs.keepBR hb (nm h.aud.shs), h.aud.eds.keepBR hb (nm h.aud.eds)⟩, hr,
  (hb.block _ (Qd h.bl) (hmem _ n2)).trans h.bl, (hb.block _ (Qd h.bk) (hmem _ n3)).trans h.bk, h.bm.keepBR hb (nm h.bm)⟩
theorem ItS.below {L : Lb} {P : Lbp} {d : List De} {da : Option Addr} {dc : Nat} {x : Lg} {p : Lq} {g rs re r lb km kb : Nat} {w0 V V' : World} {k m : Int} (h : ItS L P d da dc x p g rs re r lb km kb w0 V k m) (hb : Below V.heap.size V V') (h0 : w0.heap.size ≤ r) : ItS L P d da dc x p g rs re r lb km kb w0 V' k m := h.keepB (KeepB.of_below hb (Nat.le_refl _)) (Qc h.br hb) h0
theorem ItS.keepV {L : Lb} {P : Lbp} {d : List De} {da : Option Addr} {dc : Nat} {x : Lg} {p : Lq} {g rs re r lb km kb B ob : Nat} {w0 V V' : World} {k m : Int} (h : ItS L P d da dc x p g rs re r lb km kb w0 V k m) (hk : KeepV B w0.heap.size ob V V') (hn : g ≠ ob ∧ r ≠ ob ∧ lb ≠ ob ∧ kb ≠ ob ∧ rs ≠ ob ∧ re ≠ ob ∧ km ≠ ob) (hB : rs < B ∧ re < B ∧ km < B) : ItS L P d da dc x p g rs re r lb km kb w0 V' k m :=
 ⟨h.low.trans hk.low, ⟨hk.cells h.aud.box hn.1 (by decide), hk.map h.aud.shs hn.2.2.2.2.1 hB.1, hk.map h.aud.eds hn.2.2.2.2.2.1 hB.2.1⟩, hk.cells h.br hn.2.1 (by decide), hk.cells h.bl hn.2.2.1 (by decide), hk.cells h.bk hn.2.2.2.1 (by decide), hk.map h.bm hn.2.2.2.2.2.2 hB.2.2⟩
theorem Z3 : (∀ args w, (callFunc 62 args).run Tryz.prog w = .ok (.enter 62 args) w) ∧ (∀ args w, (callFunc 63 args).run Tryz.prog w = .ok (.enter 63 args) w) ∧ (∀ args w, (callFunc 64 args).run Tryz.prog w = .ok (.enter 64 args) w) ∧ (∀ args w, (callFunc 65 args).run Tryz.prog w = .ok (.enter 65 args) w) :=
 ⟨enters_of Tryz.func62 (by kernel_rfl) rfl, enters_of Tryz.func63 (by kernel_rfl) rfl, enters_of Tryz.func64 (by kernel_rfl) rfl, enters_of Tryz.func65 (by kernel_rfl) rfl⟩
theorem kind_fn {L : Lb} {P : Lbp} {d : List De} {da : Option Addr} {dc : Nat} {x : Lg} {p : Lq} {g rs re r lb km kb : Nat} {w0 V : World} {k m : Int} {e : En} (hf : LbFew L) (hbl : ∀ x ∈ L.ws, x.1.bars.length ≤ 1000) (hdl : d.length ≤ 1000) (hL : LbAt w0 L P) (hd : DeAt w0 da d) (hv : QH (Qk L.ws) d = true) (hnd : (L.shs.map Sx.id).Nodup) (h : ItS L P d da dc x p g rs re r lb km kb w0 V k m) (hk : 0 ≤ k) (he : Qt e = true) :
  (mget (ZC r) e.kind = none ∧ Zb L d x.st k m e = [] ∧ Zl k e = k ∧ Zu m e = m) ∨
  ∃ f, mget (ZC r) e.kind = some (.func (.func f) #[.pointer (some ⟨r, 0, none⟩)] #[]) ∧ (∀ args w, (callFunc f args).run Tryz.prog w = .ok (.enter f args) w) ∧ ∀ V', Below V.heap.size V V' → Calls Tryz.prog f #[.pointer (some ⟨r, 0, none⟩), .agg #[.int .i64 e.time, .int .i64 e.kind, .int .i64 e.a, .int .i64 e.b, .int .i64 e.c, .int .u64 e.dg]] V' (RulePost (Zb L d x.st k m e) (Zl k e) (Zu m e) r g x.st V') := by
 have hs := YR he
 have hlow : ∀ V', Below V.heap.size V V' → Below w0.heap.size w0 V' := fun V' hV => h.low.trans (hV.mono h.low.size)
 by_cases h1 : e.kind = 1
 ·refine .inr ⟨_, by rw [h1]; rfl, Z3.1, fun V' hV => ?_⟩
  have hc := shows_any L P d da dc rs re g r x.st k m e V' hf.ws (hL.ws.below (hlow V' hV)) (h.aud.below hV) (Qc h.br hV)
  have e1 : Zb L d x.st k m e = if JF L e then [] else [1] := by unfold Zb; rw [if_pos h1]
  rw [e1, show Zl k e = k by unfold Zl; rw [if_neg (by omega)], show Zu m e = m by unfold Zu; rw [if_neg (by omega)]]
  exact hc
 by_cases h2 : e.kind = 2
 ·refine .inr ⟨_, by rw [h2]; rfl, Z3.2.1, fun V' hV => ?_⟩
  have hc := lies_any L P d da dc rs re g r x.st k m e V' hf hnd (LoAt.below hL.los (hlow V' hV)) (h.aud.below hV) (Qc h.br hV)
  have e1 : Zb L d x.st k m e = (match ZA L.shs e.a with | none => [2] | some s => (if s.dg = e.dg then [] else [2]) ++ (if Ub L x.st e then [] else [3])) := by unfold Zb; rw [if_neg h1, if_pos h2]; cases ZA L.shs e.a <;> rfl
  rw [e1, show Zl k e = k by unfold Zl; rw [if_neg (by omega)], show Zu m e = m by unfold Zu; rw [if_neg (by omega)]]
  exact hc
 by_cases h3 : e.kind = 3
 ·refine .inr ⟨_, by rw [h3]; rfl, Z3.2.2.1, fun V' hV => ?_⟩
  have hc := knows_any L P d da dc rs re g r x.st k m e V' (h.aud.below hV) (Qc h.br hV)
  have e1 : Zb L d x.st k m e = if e.a < m ∨ (d.length : Int) < e.a then [4] else [] := by unfold Zb; rw [if_neg h1, if_neg h2, if_pos h3]
  rw [e1, show Zl k e = e.a by unfold Zl; rw [if_pos h3], show Zu m e = max m e.a by unfold Zu; rw [if_pos h3]]
  exact hc
 by_cases h5 : e.kind = 5
 ·refine .inr ⟨_, by rw [h5]; rfl, Z3.2.2.2, fun V' hV => ?_⟩
  have hc := calls_any L P d da dc rs re g r x.st k m e V' hf hbl hdl (hL.ws.below (hlow V' hV)) (SlAt.below hd (hlow V' hV)) hv hk hs.1 (h.aud.below hV) (Qc h.br hV)
  have e1 : Zb L d x.st k m e = if JD L d (min k d.length) e then [] else [5] := by unfold Zb; rw [if_neg h1, if_neg h2, if_neg h3, if_pos h5]
  rw [e1, show Zl k e = k by unfold Zl; rw [if_neg (by omega)], show Zu m e = m by unfold Zu; rw [if_neg (by omega)]]
  exact hc
 ·refine .inl ⟨?_, ?_, ?_, ?_⟩
  ·unfold ZC mget
   simp [h1, h2, h3, h5, Ne.symm h1, Ne.symm h2, Ne.symm h3, Ne.symm h5]
  ·unfold Zb; rw [if_neg h1, if_neg h2, if_neg h3, if_neg h5]
  ·unfold Zl; rw [if_neg h3]
  ·unfold Zu; rw [if_neg h3]
end Go.Proofs.YtajijcfikihhjaaGreatDoor
