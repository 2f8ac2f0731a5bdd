import Derived.Test.YtajijcfikihhjaaGreatDoorLE
import Derived.Test.YtajijcfikihhjaaGreatDoorAAZ
set_option linter.unusedSimpArgs false
set_option linter.unusedVariables false
set_option maxRecDepth 100000
set_option maxHeartbeats 16000000
namespace Go.Proofs.YtajijcfikihhjaaGreatDoor
open Go.RowKit Go.Sort Go.Shelf
theorem Qbf {p : R3 → Bool} {g : R3 → R3} (h : ∀ r, p (g r) = p r) : ∀ (l : List R3) (k : Nat), (l.modify k g).any p = l.any p
 | [], k => by simp
 | r :: l, 0 => by simp [h]
 | r :: l, k + 1 => by simp [Qbf h l k]
theorem repsC_z {bars t : Int} (h1 : 1 ≤ t) (h9 : t ≤ 9) : ∀ (l : List R3) (k : Nat) (last : Int), Zp bars last l = true → Zp bars last (l.modify k fun r => { r with z := t }) = true
 | [], k, last, h => by simpa using h
 | r :: l, 0, last, h => by
  simp only [List.modify_zero_cons, Zp, badR, Bool.and_eq_true, Bool.not_eq_true', Bool.or_eq_false_iff, decide_eq_false_iff_not] at h ⊢
  exact ⟨⟨⟨h.1.1.1, by omega⟩, by omega⟩, h.2⟩
 | r :: l, k + 1, last, h => by
  simp only [List.modify_succ_cons, Zp, Bool.and_eq_true] at h ⊢
  exact ⟨h.1, repsC_z h1 h9 l k _ h.2⟩
theorem endsC_z {g : R3 → R3} (hg : ∀ r, (g r).x = r.x ∧ (g r).y = r.y) (l : List R3) (k : Nat) : ∀ (es : List R3) (last : Int), Zx (l.modify k g) last es = Zx l last es
 | [], last => rfl
 | e :: es, last => by
  have hi : Ze (l.modify k g) e.x e.y = Ze l e.x e.y := Qbf (fun r => by rw [(hg r).1, (hg r).2]) l k
  rw [Zx, Zx, endsC_z hg l k es, badE, badE, hi]
theorem Qax {g : R3 → R3} (hg : ∀ r, (g r).x = r.x ∧ (g r).y = r.y) (l : List R3) (k : Nat) (b : Int) : QO (l.modify k g) b = QO l b := Qbf (fun r => by rw [(hg r).1, (hg r).2]) l k
theorem times_valid {f : Fo} (h : Qy f = true) {k t : Int} (hr : (QW f k t).2 = 0) : Qy (QW f k t).1 = true := by
 unfold QW at hr ⊢
 rw [h] at hr ⊢
 simp only [Bool.not_true, Bool.false_eq_true, if_false] at hr ⊢
 split at hr
 ·cases hr
 split at hr
 ·cases hr
 split at hr
 ·rename_i h1 h2 h3
  rw [if_neg h1, if_neg h2, if_pos h3]
  have hz : 1 ≤ t ∧ t ≤ 9 := by omega
  unfold Qy at h ⊢
  simp only [Bool.and_eq_true, decide_eq_true_eq] at h ⊢
  obtain ⟨⟨⟨⟨⟨⟨v1, v2⟩, v3⟩, v4⟩, v5⟩, v6⟩, v7⟩ := h
  have hg : ∀ r : R3, (({ r with z := t } : R3)).x = r.x ∧ (({ r with z := t } : R3)).y = r.y := fun r => ⟨rfl, rfl⟩
  refine ⟨⟨⟨⟨⟨⟨v1, v2⟩, ?_⟩, ?_⟩, ?_⟩, v6⟩, h3⟩
  ·unfold Ys at v3 ⊢
   simp only [Bool.and_eq_true, decide_eq_true_eq] at v3 ⊢
   exact ⟨repsC_z hz.1 hz.2 _ _ _ v3.1, by unfold QC; simp; exact v3.2⟩
  ·unfold JC at v4 ⊢
   simp only [Bool.and_eq_true, decide_eq_true_eq] at v4 ⊢
   exact ⟨by unfold QC; rw [endsC_z hg]; exact v4.1, v4.2⟩
  ·unfold Q5 badJ at v5 ⊢
   unfold QC
   dsimp only
   rw [Qax hg, Qax hg, Qax hg]
   exact v5
 ·cases hr
theorem passI_cuts (f : Fo) (c : List R3) (r : R3) : ∀ (m : Nat) (pass : Int), ZJ { f with cuts := c } r pass m = ZJ f r pass m
 | 0, _ => rfl
 | m + 1, pass => by rw [ZJ, ZJ, passI_cuts f c r m]; rfl
theorem Qam (f : Fo) (c : List R3) (all : Bool) (u : Int) : ∀ (n : Nat) (bar : Int), ZV { f with cuts := c } all u n bar = ZV f all u n bar
 | 0, _ => rfl
 | n + 1, bar => by
  rw [ZV, ZV]
  split
  ·dsimp only
   cases Z4 f.reps bar with
   | none => dsimp only; rw [Qam f c all u n]
   | some r =>
    dsimp only
    rw [Qam f c all u n]
    congr 1
    unfold Ui
    exact passI_cuts f c r _ _
  ·rfl
theorem short_cuts (f : Fo) (c : List R3) : Z5 { f with cuts := c } = Z5 f := by
 have h : Zi { f with cuts := c } = Zi f := by
  unfold Zi Qu
  rw [Qam f c true, Qam f c false]; rfl
 unfold Z5
 rw [h]
theorem cut_valid {f : Fo} (h : Qy f = true) {c : R3} (hr : (cutR f c).2 = 0) : Qy (cutR f c).1 = true := by
 unfold cutR at hr ⊢
 split at hr
 ·cases hr
 split at hr
 ·cases hr
 split at hr
 ·cases hr
 rename_i h1 h2 h3
 rw [if_neg h1, if_neg h2, if_neg h3]
 rw [h, Bool.true_and] at h1
 have hc : cutB f c = true := by simpa using h1
 unfold Qy at h ⊢
 simp only [Bool.and_eq_true, decide_eq_true_eq] at h ⊢
 obtain ⟨⟨⟨⟨⟨⟨v1, v2⟩, v3⟩, v4⟩, v5⟩, v6⟩, v7⟩ := h
 refine ⟨⟨⟨⟨⟨⟨v1, v2⟩, v3⟩, v4⟩, v5⟩, ?_⟩, (short_cuts f _).trans v7⟩
 unfold ZZ at v6 ⊢
 simp only [Bool.and_eq_true, decide_eq_true_eq, List.all_eq_true] at v6 ⊢
 refine ⟨⟨fun x hx => ?_, ?_⟩, by simp; omega⟩
 ·rcases List.mem_append.1 hx with hx | hx
  ·exact v6.1.1 x hx
  ·rw [List.mem_singleton.1 hx]; exact hc
 ·rw [List.nodup_append]
  exact ⟨v6.1.2, by simp, fun a ha b hb => by rw [List.mem_singleton.1 hb]; exact fun e => h2 (e ▸ ha)⟩
theorem open_valid {f : Fo} (h : Qy f = true) {c : R3} (hr : (Zj f c).2 = 0) : Qy (Zj f c).1 = true := by
 unfold Zj at hr ⊢
 rw [h] at hr ⊢
 simp only [Bool.not_true, Bool.false_eq_true, if_false] at hr ⊢
 split at hr
 ·rename_i h2
  rw [if_pos h2]
  unfold Qy at h ⊢
  simp only [Bool.and_eq_true, decide_eq_true_eq] at h ⊢
  obtain ⟨⟨⟨⟨⟨⟨v1, v2⟩, v3⟩, v4⟩, v5⟩, v6⟩, v7⟩ := h
  refine ⟨⟨⟨⟨⟨⟨v1, v2⟩, v3⟩, v4⟩, v5⟩, ?_⟩, (short_cuts f _).trans v7⟩
  unfold ZZ at v6 ⊢
  simp only [Bool.and_eq_true, decide_eq_true_eq, List.all_eq_true] at v6 ⊢
  exact ⟨⟨fun x hx => v6.1.1 x (List.mem_of_mem_erase hx), v6.1.2.erase _⟩, Nat.le_trans (List.length_erase_le) v6.2⟩
 ·cases hr
theorem works_valid : ∀ (l : List Wk) (last : Int), Zr last l = true → ∀ x ∈ l, Qy x.f = true
 | [], _, _, x, hx => by cases hx
 | y :: l, last, h, x, hx => by
  rw [Zr, Bool.and_eq_true] at h
  rcases List.mem_cons.1 hx with rfl | hx
  ·have := h.1
   unfold badW at this
   simp only [Bool.not_eq_true', Bool.or_eq_false_iff] at this
   simpa using this.2
  ·exact works_valid l _ h.2 x hx
theorem Qal {r : Rm} (h : Qy r.f = true) {p : Fo × Int} (hp : p.2 = 0 → Qy p.1 = true) : Qy (Go.Proofs.YtajijcfikihhjaaGreatDoor.reform r p).1.f = true := by
 unfold Go.Proofs.YtajijcfikihhjaaGreatDoor.reform
 split
 ·rename_i e; exact hp e
 ·exact h
theorem do_valid {l : List Wk} (hl : ∀ x ∈ l, Qy x.f = true) {r : Rm} (h : Qy r.f = true) (x : De) : Qy (doR l r x).1.f = true := by
 unfold doR
 split
 ·unfold verR
  split
  ·exact h
  ·split
   ·exact h
   ·rename_i y hy
    exact hl y (List.mem_of_find?_eq_some hy)
 split
 ·exact Qal h (cut_valid h)
 split
 ·exact Qal h (open_valid h)
 split
 ·split
  ·exact h
  ·exact Qal h (times_valid h)
 split
 ·unfold ossR
  split
  ·exact h
  ·split <;> exact h
 ·exact h
theorem run_valid {l : List Wk} (hl : ∀ x ∈ l, Qy x.f = true) : ∀ (d : List De) (r : Rm), Qy r.f = true → Qy (runR l r d).1.f = true
 | [], r, h => h
 | x :: d, r, h => by
  rw [runR]
  split
  ·exact run_valid hl d _ (do_valid hl h x)
  ·exact h
theorem at_valid {l : List Wk} {d : List De} (h : QH l d = true) {known time : Int} (hk : 0 ≤ known ∧ known ≤ d.length) (ht : 0 ≤ time ∧ time ≤ 1000000000) : (atR l d known time).2 = 0 ∧ Qy (atR l d known time).1.f = true := by
 have hw : Q6 l = true := by
  unfold QH at h; simp only [Bool.and_eq_true] at h; exact h.1.1.1
 unfold Q6 at hw
 simp only [Bool.and_eq_true, decide_eq_true_eq] at hw
 have hv := works_valid l 0 hw.1
 have hf : Qy (Qx l).f = true := by
  cases l with
  | nil => exact absurd hw.2.1 (by simp)
  | cons y l => exact hv y (by simp)
 unfold atR
 rw [h, if_neg (by simp; omega)]
 exact ⟨rfl, run_valid hv _ _ hf⟩
theorem cor_show {L : Lb} {d : List De} {st k m t : Int} {w : Wk} {x : Ex} (hw : w ∈ Qk L.ws) (hx : x ∈ L.eds) : Zb L d st k m ⟨t, 1, w.ver, x.id, 0, 0⟩ = [] := by
 have h : JF L ⟨t, 1, w.ver, x.id, 0, 0⟩ = true := by
  unfold JF Zk
  rw [Bool.and_eq_true]
  exact ⟨List.find?_isSome.2 ⟨w, hw, by simp⟩, List.any_eq_true.2 ⟨x, hx, by simp⟩⟩
 unfold Zb
 rw [if_pos rfl, if_pos h]
theorem sheetOf_self {l : List Sx} {id : Int} {s : Sx} (h : ZA l id = some s) : s.id = id := by
 have := List.find?_some h
 simpa using this
theorem cor_sheet {L : Lb} {d : List De} {st k m t x : Int} {s : Sx} (hl : QP L.los = true) (hst : inB st 1 1000000 = true) (ht : inB t 0 1000000000 = true) (hs : ZA L.shs x = some s) (hi : inB s.id 1 1000000 = true) (hx : x ∈ (Qaj L.los st t).1) : Zb L d st k m ⟨t, 2, s.id, 0, 0, s.dg⟩ = [] := by
 have hid := sheetOf_self hs
 rw [rules2_some (e := ⟨t, 2, s.id, 0, 0, s.dg⟩) rfl (by rw [hid]; exact hs), if_pos rfl]
 have h1 : 1 ≤ st := ((Zg _ _ _).1 hst).1
 have hh : hold (upTo L.los t) x = st := by
  unfold Qaj at hx
  rw [hl, hst, ht] at hx
  exact ((heldF_all (upTo L.los t) st h1).2 x).1 hx
 have hho : Ub L st ⟨t, 2, s.id, 0, 0, s.dg⟩ = true := by
  unfold Ub Zo
  dsimp only
  rw [hl, hi, ht, hid]
  simp only [Bool.and_self, if_true]
  rw [hh]
  simp; omega
 rw [hho]; rfl
theorem cor_know {L : Lb} {d : List De} {st k m t a : Int} (h1 : m ≤ a) (h2 : a ≤ d.length) : Zb L d st k m ⟨t, 3, a, 0, 0, 0⟩ = [] := by
 unfold Zb
 dsimp only
 rw [if_neg (by decide), if_neg (by decide), if_pos rfl, if_neg (by omega)]
def Qai (bs : List Br) (i : Nat) : Bool := (bs.take i).all fun b => decide (b.id ≠ (bs.getD i ⟨0, 0, 0, 0⟩).id)
theorem first_ix {bs : List Br} {i : Nat} (hi : i < bs.length) (h : Qai bs i = true) : JR bs bs[i].id = i := by
 unfold Qai at h
 rw [List.all_eq_true] at h
 refine Zv hi (by simp) (fun j hj hji => ?_)
 have := h bs[j] (by rw [List.mem_iff_getElem]; exact ⟨j, by simp; omega, by simp⟩)
 rw [show bs.getD i ⟨0, 0, 0, 0⟩ = bs[i] from by simp [List.getD_eq_getElem?_getD, List.getElem?_eq_getElem hi]] at this
 simpa using this
theorem cor_call {L : Lb} {d : List De} {st k m t : Int} {w : Wk} {v : Int × Int} {i : Nat} (hk : 0 ≤ k ∧ k ≤ d.length) (hv : Qy (atR (Qk L.ws) d k t).1.f = true) (hw : Zk (Qk L.ws) (atR (Qk L.ws) d k t).1.ver = some w) (hm : v ∈ unfL (atR (Qk L.ws) d k t).1.f) (hvi : v.1 = i) (hi : i < w.bars.length) (hf : Qai w.bars i = true) :
  Zb L d st k m ⟨t, 5, w.bars[i].id, v.2, (atR (Qk L.ws) d k t).1.ver, 0⟩ = [] := by
 have hc : JD L d (min k d.length) ⟨t, 5, w.bars[i].id, v.2, (atR (Qk L.ws) d k t).1.ver, 0⟩ = true := by
  unfold JD
  dsimp only
  rw [Int.min_eq_left hk.2, hw]
  dsimp only
  rw [first_ix hi hf, findR_eq, hv, if_pos rfl, Yv]
  simp only [decide_true, Bool.true_and, Bool.and_eq_true, decide_eq_true_eq]
  exact ⟨by omega, List.any_eq_true.2 ⟨v, hm, by simp [← hvi]⟩⟩
 unfold Zb
 dsimp only
 rw [if_neg (by decide), if_neg (by decide), if_neg (by decide), if_pos rfl, if_pos hc]
structure CorI (L : Lb) (d : List De) (st : Int) (es : List En) (known time : Int) (k : Nat) : Prop where
 ok : EntsOk es
 len : es.length ≤ k
 early : ∀ e ∈ es, e.time ≤ time
 t0 : 0 ≤ time
 t1 : time ≤ 1000000000
 wide : ∀ e ∈ es, e.wide
 none : QA L d st 0 0 0 es = []
 nk : es.foldl Zl 0 = known
 nm : es.foldl Zu 0 = known
 k0 : 0 ≤ known
 k1 : known ≤ d.length
theorem CorI.start (L : Lb) (d : List De) (st : Int) : CorI L d st [] 0 0 0 := ⟨⟨by simp, by simp⟩, by simp, by simp, by omega, by omega, by simp, rfl, rfl, rfl, by omega, by omega⟩
theorem CorI.skip {L : Lb} {d : List De} {st : Int} {es : List En} {known time t : Int} {k : Nat} (h : CorI L d st es known time k) (h0 : time ≤ t) (h1 : t ≤ 1000000000) : CorI L d st es known t (k + 1) :=
 ⟨h.ok, by have := h.len; omega, fun e he => Int.le_trans (h.early e he) h0, by have := h.t0; omega, h1, h.wide, h.none, h.nk, h.nm, h.k0, h.k1⟩
theorem CorI.step {L : Lb} {d : List De} {st : Int} {es : List En} {known known' time : Int} {k : Nat} {e : En} (h : CorI L d st es known time k) (h0 : time ≤ e.time) (he : Qt e = true) (hw : e.wide) (hr : Zb L d st known known e = []) (hk : Zl known e = known') (hm : Zu known e = known') (k0 : 0 ≤ known') (k1 : known' ≤ d.length) : CorI L d st (es ++ [e]) known' e.time (k + 1) := by
 have hs := YR he
 refine ⟨h.ok.snoc he (fun x hx => Int.le_trans (h.early x hx) h0), by have := h.len; simp; omega, fun x hx => ?_, hs.1.1, hs.1.2, fun x hx => ?_, ?_, ?_, ?_, k0, k1⟩
 ·rcases List.mem_append.1 hx with hx | hx
  ·exact Int.le_trans (h.early x hx) h0
  ·rw [List.mem_singleton.1 hx]; exact Int.le_refl _
 ·rcases List.mem_append.1 hx with hx | hx
  ·exact h.wide x hx
  ·rw [List.mem_singleton.1 hx]; exact hw
 ·exact verds_nil h.none (by rw [h.nk, h.nm]; exact hr)
 ·rw [List.foldl_append, h.nk]; exact hk
 ·rw [List.foldl_append, h.nm]; exact hm
theorem know_ok {t a : Int} (ht : 0 ≤ t ∧ t ≤ 1000000000) (h0 : 0 ≤ a) (h1 : a ≤ 1000) : Qt ⟨t, 3, a, 0, 0, 0⟩ = true := by
 unfold Qt limB lm3
 simp [inB]
 omega
theorem visP_fst : ∀ (l pre : List Int), (visP pre l).map Prod.fst = l
 | [], _ => rfl
 | b :: l, pre => by rw [visP, List.map_cons, visP_fst l]
theorem unf_mem {f : Fo} (h : Qy f = true) {v : Int × Int} (hv : v ∈ unfL f) : 0 ≤ v.1 ∧ v.1 < f.bars := by
 unfold Qy at h
 simp only [Bool.and_eq_true, decide_eq_true_eq] at h
 obtain ⟨⟨⟨⟨⟨⟨v1, v2⟩, v3⟩, v4⟩, v5⟩, v6⟩, v7⟩ := h
 refine whole_mem (by omega) (ZN v3) v5 v.1 ?_
 unfold unfL at hv
 have hm : v.1 ∈ (visL (Zi f)).map Prod.fst := List.mem_map.2 ⟨v, (List.mem_filter.1 hv).1, rfl⟩
 rw [show (visL (Zi f)).map Prod.fst = Zi f from visP_fst _ _] at hm
 exact hm
def OfW (l : List Wk) (r : Rm) : Prop := ∃ x ∈ l, r.ver = x.ver ∧ r.f.bars = x.bars.length
theorem Qak : ∀ (l : List Wk) (last : Int), Zr last l = true → ∀ x ∈ l, last < x.ver ∧ x.f.bars = x.bars.length
 | [], _, _, x, hx => by cases hx
 | y :: l, last, h, x, hx => by
  rw [Zr, Bool.and_eq_true] at h
  have h1 := h.1
  unfold badW at h1
  simp only [Bool.not_eq_true', Bool.or_eq_false_iff, decide_eq_false_iff_not] at h1
  rcases List.mem_cons.1 hx with rfl | hx
  ·exact ⟨by omega, by have := h1.1.2; omega⟩
  ·have := Qak l _ h.2 x hx
   exact ⟨by omega, this.2⟩
theorem works_one : ∀ (l : List Wk) (last : Int), Zr last l = true → ∀ x ∈ l, ∀ y ∈ l, x.ver = y.ver → x = y
 | [], _, _, x, hx, _, _, _ => by cases hx
 | z :: l, last, h, x, hx, y, hy, e => by
  rw [Zr, Bool.and_eq_true] at h
  rcases List.mem_cons.1 hx with e1 | h1 <;> rcases List.mem_cons.1 hy with e2 | h2
  ·rw [e1, e2]
  ·have := Qak l _ h.2 y h2; rw [e1] at e; omega
  ·have := Qak l _ h.2 x h1; rw [e2] at e; omega
  ·exact works_one l _ h.2 x h1 y h2 e
theorem Qat {l : List Wk} {r : Rm} (h : OfW l r) {p : Fo × Int} (hp : p.2 = 0 → p.1.bars = r.f.bars) : OfW l (Go.Proofs.YtajijcfikihhjaaGreatDoor.reform r p).1 := by
 obtain ⟨x, hx, h1, h2⟩ := h
 unfold Go.Proofs.YtajijcfikihhjaaGreatDoor.reform
 split
 ·rename_i e; exact ⟨x, hx, h1, by rw [← h2]; exact hp e⟩
 ·exact ⟨x, hx, h1, h2⟩
theorem do_of {l : List Wk} (hl : ∀ x ∈ l, x.f.bars = x.bars.length) {r : Rm} (h : OfW l r) (x : De) : OfW l (doR l r x).1 := by
 unfold doR
 split
 ·unfold verR
  split
  ·exact h
  ·split
   ·exact h
   ·rename_i y hy
    have hm := List.mem_of_find?_eq_some hy
    exact ⟨y, hm, rfl, hl y hm⟩
 split
 ·refine Qat h (fun e => ?_)
  unfold cutR at e ⊢
  split at e
  ·cases e
  split at e
  ·cases e
  split at e
  ·cases e
  rename_i h1 h2 h3
  rw [if_neg h1, if_neg h2, if_neg h3]
 split
 ·refine Qat h (fun e => ?_)
  unfold Zj at e ⊢
  split at e
  ·cases e
  split at e
  ·rename_i h1 h2
   rw [if_neg h1, if_pos h2]
  ·cases e
 split
 ·split
  ·exact h
  ·refine Qat h (fun e => ?_)
   unfold QW at e ⊢
   split at e
   ·cases e
   split at e
   ·cases e
   split at e
   ·cases e
   split at e
   ·rename_i h1 h2 h3 h4
    rw [if_neg h1, if_neg h2, if_neg h3, if_pos h4]; rfl
   ·cases e
 split
 ·unfold ossR
  split
  ·exact h
  ·split
   ·exact h
   ·exact h
 ·exact h
theorem run_of {l : List Wk} (hl : ∀ x ∈ l, x.f.bars = x.bars.length) : ∀ (d : List De) (r : Rm), OfW l r → OfW l (runR l r d).1
 | [], r, h => h
 | x :: d, r, h => by
  rw [runR]
  split
  ·exact run_of hl d _ (do_of hl h x)
  ·exact h
theorem at_of {l : List Wk} {d : List De} (h : QH l d = true) {known time : Int} (hk : 0 ≤ known ∧ known ≤ d.length) (ht : 0 ≤ time ∧ time ≤ 1000000000) {w : Wk} (hw : Zk l (atR l d known time).1.ver = some w) : (atR l d known time).1.f.bars = w.bars.length := by
 have hb : Q6 l = true := by
  unfold QH at h; simp only [Bool.and_eq_true] at h; exact h.1.1.1
 unfold Q6 at hb
 simp only [Bool.and_eq_true, decide_eq_true_eq] at hb
 have hl : ∀ x ∈ l, x.f.bars = x.bars.length := fun x hx => (Qak l 0 hb.1 x hx).2
 have hf : OfW l (Qx l) := by
  cases l with
  | nil => exact absurd hb.2.1 (by simp)
  | cons y l => exact ⟨y, by simp, rfl, hl y (by simp)⟩
 have ho : OfW l (atR l d known time).1 := by
  unfold atR
  rw [h, if_neg (by simp; omega)]
  exact run_of hl _ _ hf
 obtain ⟨x, hx, h1, h2⟩ := ho
 have hv := findW_ver hw
 have := works_one l 0 hb.1 x hx w hv.2 (by rw [hv.1, h1])
 rw [h2, this]
theorem at_find {l : List Wk} {d : List De} (h : QH l d = true) {known time : Int} (hk : 0 ≤ known ∧ known ≤ d.length) (ht : 0 ≤ time ∧ time ≤ 1000000000) : (unfR (atR l d known time).1.f) = (unfL (atR l d known time).1.f, 0) := by
 unfold unfR
 rw [(at_valid h hk ht).2]; rfl
attribute [local go_sem] Oper.semAt_some
theorem Qbc {w : World} {a : Option Addr} {bs : List Br} (h : SlAt w a 4 (bs.map Y4)) (i : Nat) (hi : i < bs.length) : ∃ b off, a = some ⟨b, off, none⟩ ∧ w.cell? ⟨b, off + i * 4, none⟩ = some (.int .i64 bs[i].id) ∧ w.cell? ⟨b, off + i * 4 + 1, none⟩ = some (.int .i64 bs[i].n) ∧ w.cell? ⟨b, off + i * 4 + 2, none⟩ = some (.int .i64 bs[i].d) ∧ w.cell? ⟨b, off + i * 4 + 3, none⟩ = some (.int .i64 bs[i].key) := by
 obtain ⟨b, off, e, _, _, hc⟩ := h i (Y4 bs[i]) (by simp [hi])
 exact ⟨b, off, e, hc 0 _ rfl, hc 1 _ rfl, hc 2 _ rfl, hc 3 _ rfl⟩
theorem firstB_no {bs : List Br} {n k : Nat} (hn : n < bs.length) (hk : k < n) (h : bs[k].id = bs[n].id) : Qai bs n = false := by
 unfold Qai
 rw [List.all_eq_false]
 refine ⟨bs[k], by rw [List.mem_iff_getElem]; exact ⟨k, by simp; omega, by simp⟩, ?_⟩
 rw [show bs.getD n ⟨0, 0, 0, 0⟩ = bs[n] from by simp [List.getD_eq_getElem?_getD, List.getElem?_eq_getElem hn]]
 simp [h]
theorem firstB_yes {bs : List Br} {n : Nat} (hn : n < bs.length) (h : ∀ j (hj : j < n), bs[j].id ≠ bs[n].id) : Qai bs n = true := by
 unfold Qai
 rw [List.all_eq_true]
 intro x hx
 obtain ⟨j, hj, rfl⟩ := List.mem_iff_getElem.1 hx
 rw [show bs.getD n ⟨0, 0, 0, 0⟩ = bs[n] from by simp [List.getD_eq_getElem?_getD, List.getElem?_eq_getElem hn], List.getElem_take]
 simpa using h j (by simp at hj; omega)
theorem first_any (a : Option Addr) (cap : Nat) (bs : List Br) (n : Nat) (w : World) (hn : n < bs.length) (hl : bs.length ≤ 1000) (hok : SlOk a bs.length cap) (ha : SlAt w a 4 (bs.map Y4)) :
  Calls Tryz.prog 56 #[.slice a bs.length cap, .int .i64 (n : Nat)] w fun e w' => e = .returned (.bool (Qai bs n)) ∧ Below w.heap.size w w' := by
 have HA := Qa ha
 have HB := Qa (Below.refl w.heap.size w)
 obtain ⟨b, off, rfl, f0, _, _, _⟩ := Qbc ha n hn
 have HF := Qa f0
 have hcap := hok.le
 have hn0 : (0 : Int) ≤ (n : Int) := by omega
 have hn1 : (n : Int) ≤ (cap : Int) := by omega
 have hn2 : (n : Int) < (bs.length : Int) := by omega
 clear ha hok f0
 go_enter Tryz.func56, Tryz.ntmps56
 go_wp2
 go_loopw [11] (fun t11 wr => ∃ k : Nat, k ≤ n ∧ t11 = .int .i64 k ∧ (∀ j (hj : j < k) (hk : k ≤ n), bs[j].id ≠ bs[n].id) ∧ Below w.heap.size w wr) (fun t11 _ => n - (intOf t11).toNat)
 case atStart => exact ⟨0, Nat.zero_le _, rfl, fun j hj => by omega, HB.out⟩
 case round =>
  obtain ⟨k, hk, rfl, hne, hb⟩ := hrel
  have HNe := Qa hne; have HBr := Qa hb
  clear hne hb
  by_cases hkn : k < n
  ·obtain ⟨b', off', e', d0, d1, d2, d3⟩ := Qbc (SlAt.below HA.out HBr.out) k (by omega)
   cases e'
   have g0 := Qq HF.out HBr.out
   have hki : (k : Int) < (n : Int) := by omega
   have hwk : IntKind.i64.wrap ((k : Int) + 1) = (k : Int) + 1 := IntWalk.i64_in _ (by omega)
   go_upto_region 4 with (fail)
   have HE := Qa (heap_alloc_new wr (.cells #[.int .i64 (bs[k]).id, .int .i64 (bs[k]).n, .int .i64 (bs[k]).d, .int .i64 (bs[k]).key] 135))
   have hb1 := Qg (w := wr) (.cells #[.int .i64 (bs[k]).id, .int .i64 (bs[k]).n, .int .i64 (bs[k]).d, .int .i64 (bs[k]).key] 135)
   have g1 := Qq g0 hb1
   have HBj := bu HBr hb1
   clear d0 d1 d2 d3 g0 hb1
   generalize wr.alloc (.cells #[.int .i64 (bs[k]).id, .int .i64 (bs[k]).n, .int .i64 (bs[k]).d, .int .i64 (bs[k]).key] 135) = wj at *
   generalize wr.heap.size = eb at *
   have hc := Qb HE.out
   by_cases heq : bs[k].id = bs[n].id
   ·have hq : (bs[k].id == bs[n].id) = true := by rw [heq]; simp
    have HR := Qa (firstB_no hn hkn heq)
    clear heq
    go_quiet (fail)
    go_wp2
    go_ret
    exact ⟨Qf HR.out.symm, below_drewN HBj.out _⟩
   ·have hq : (bs[k].id == bs[n].id) = false := by rw [beq_eq_false_iff_ne]; exact heq
    go_quiet (fail)
    go_wp2
    exact ⟨⟨k + 1, by omega, by go_num, fun j hj hjk => by
     rcases Nat.lt_or_eq_of_le (Nat.le_of_lt_succ hj) with h | rfl
     ·exact HNe.out j h (by omega)
     ·exact heq, below_drewN HBj.out _⟩, by simp [intOf]; omega⟩
  ·obtain rfl : k = n := by omega
   go_wp2
   go_ret
   exact ⟨Qf (firstB_yes hn (fun j hj => HNe.out j hj (Nat.le_refl _))).symm, HBr.out⟩
structure Dd where
 dw : Nat
 wh : Nat
 ot : Nat
 la : Nat
 se : Int
def Qaz (x : Dd) : List Value := [.int .u8 (x.dw : Nat), .int .u8 (x.wh : Nat), .int .u8 (x.ot : Nat), .int .u16 (x.la : Nat), .int .u64 x.se]
structure DdOk (x : Dd) : Prop where
 dw : x.dw ≤ 255
 wh : x.wh ≤ 255
 ot : x.ot ≤ 255
 la : x.la ≤ 65535
 se : 0 ≤ x.se ∧ x.se < 18446744073709551616
theorem Qaf {w : World} {g : Nat} {o : Option Obj} (h : w.heap[g]? = o) : w.drew.heap[g]? = o := h
theorem dds_get {w : World} {a : Option Addr} {ds : List Dd} (h : SlAt w a 5 (ds.map Qaz)) (i : Nat) (hi : i < ds.length) : ∃ b off, a = some ⟨b, off, none⟩ ∧ w.cell? ⟨b, off + i * 5, none⟩ = some (.int .u8 (ds[i].dw : Nat)) ∧ w.cell? ⟨b, off + i * 5 + 1, none⟩ = some (.int .u8 (ds[i].wh : Nat)) ∧ w.cell? ⟨b, off + i * 5 + 2, none⟩ = some (.int .u8 (ds[i].ot : Nat)) ∧ w.cell? ⟨b, off + i * 5 + 3, none⟩ = some (.int .u16 (ds[i].la : Nat)) ∧ w.cell? ⟨b, off + i * 5 + 4, none⟩ = some (.int .u64 ds[i].se) := by
 obtain ⟨b, off, e, _, _, hc⟩ := h i (Qaz ds[i]) (by simp [hi])
 exact ⟨b, off, e, hc 0 _ rfl, hc 1 _ rfl, hc 2 _ rfl, hc 3 _ rfl, hc 4 _ rfl⟩
theorem CorI.le {L : Lb} {d : List De} {st : Int} {es : List En} {known time : Int} {k m : Nat} (h : CorI L d st es known time k) (hm : k ≤ m) : CorI L d st es known time m := { h with len := Nat.le_trans h.len hm }
theorem sheet_inB {T a g : Int} (h : Qt ⟨T, 2, a, 0, 0, g⟩ = true) : inB a 1 1000000 = true := by
 have h2 : limB lm2 ⟨T, 2, a, 0, 0, g⟩ = true := h
 unfold limB lm2 at h2
 simp only [Bool.and_eq_true] at h2
 exact h2.1.1.2
def RetCor (L : Lb) (d : List De) (st : Int) (w : World) (e : Ending) (w' : World) : Prop :=
 ∃ es a c known time, e = .returned (.tuple #[.agg #[.int .i64 ((mkLg st es)).st, .slice a ((mkLg st es)).es.length c, .int .u64 ((mkLg st es)).ch], .bool true]) ∧ SlOk a es.length c ∧ EnAt w' a es ∧ CorI L d st es known time 20 ∧ Below w.heap.size w w'
def Qah (n : Nat) : Code → List Code
 | .loop c => Qah n c
 | .seq a b => Qah n a ++ Qah n b
 | .block m c => if m = n then [.block m c] else Qah n c
 | .scope c => Qah n c
 | .cond _ a b => Qah n a ++ Qah n b
 | _ => []
noncomputable def corBlk : Code := ((Tryz.f24.body.map (Qah 2)).getD []).getD 0 .skip
def Qbg (K : Int) : Prop := ∀ {s3 s5 s6 s7 s8 s9 s10 s13 s16 s17 s18 s19 s20 s21 s22 s23 s24 s25 s26 s27 s28 s29 s30 s31 s32 s33 s34 s35 s36 s37 s38 s39 s40 s41 s42 s43 s44 s45 s47 s48 s49 s50 s51 s52 s53 s54 s55 s56 s57 s58 s59 s60 s61 s62 s63 s64 s65 s66 s67 s68 s69 s70 s71 s72 s73 s74 s75 s76 s77 s78 s79 s80 s81 s82 s83 s84 s85 s86 s87 s88 s89 s90 s91 s92 s93 s94 s95 s96 s97 s98 s99 s100 s101 s102 s103 s104 s105 s106 s107 s108 s109 s110 s111 s112 s113 s114 s115 s116 s117 s118 s119 s120 s121 s122 s123 s124 s125 s126 s127 s128 s129 s130 s131 s132 s133 s134 s135 s136 s137 s138 s139 s140 s141 s142 s143 s144 s145 s146 s147 s148 s149 s150 s151 s152 s153 s154 s155 s156 s157 s158 s159 s160 s161 s162 s163 s164 s165 s166 s167 s168 s169 s170 s171 s172 s173 s174 s175 s176 s177 s178 s179 s180 s181 s182 s183 s184 s185 s186 s187 s188 s189 s190 s191 s192 s193 s194 s195 s196 s197 s198 s199 s200 s201 s202 s203 s204 s205 s206 s207 s208 s209 s210 s211 s212 s213 s214 s215 s216 s217 s218 s219 s220 s221 s222 s223 s224 s225 s226 s227 s228 s229 s230 s231 s232 s233 s234 s235 s236 s237 s238 s239 s240 s241 s242 s243 s244 s245 : Value} {L : Lb} {P : Lbp} {d : List De} {da : Option Addr} {dc : Nat} {st : Int} {es : List En} {a : Option Addr} {c : Nat} {known T : Int} {x : Dd} {w w2 W4 : World} {db eb : Nat}
  (_ : 1 ≤ st ∧ st ≤ 9) (_ : d.length ≤ 30) (_ : Hid (∀ V, Below w.heap.size w V → LbAt V L P ∧ DeAt V da d ∧ EnvP V)) (_ : Hid (∀ s ∈ L.shs, 0 ≤ s.dg ∧ s.dg < 18446744073709551616)) (_ : Hid (libB L d = true)) (_ : Hid (LbFew L)) (_ : Hid (DdOk x)) (_ : 0 ≤ known ∧ known ≤ d.length) (_ : 0 ≤ T ∧ T ≤ 1000000000)
  (_ : Hid (∀ V, Below eb w2 V → V.heap[w.heap.size]? = some (.cells #[.slice P.wa L.ws.length P.wc, .slice P.ea L.eds.length P.ec, .slice P.sa L.shs.length P.sc, .slice P.la L.los.length P.lc] 27) ∧ V.heap[w.heap.size + 1]? = some (.cells #[.int .i64 0, .slice none 0 0, .int .u64 0] 44) ∧ V.heap[w.heap.size + 1 + 1]? = some (.cells #[.int .i64 ((mkLg st es)).st, .slice a ((mkLg st es)).es.length c, .int .u64 ((mkLg st es)).ch] 44) ∧ V.heap[db]? = some (.cells #[.int .u8 (x.dw : Nat), .int .u8 (x.wh : Nat), .int .u8 (x.ot : Nat), .int .u16 (x.la : Nat), .int .u64 x.se] 115) ∧ EnAt V a (mkLg st es).es ∧ Below w.heap.size w V)) (_ : Hid (W4.heap[eb]? = some (.cells #[.int .i64 T, .int .i64 0, .int .i64 0, .int .i64 0, .int .i64 0, .int .u64 0] 50))) (_ : Hid (Below eb w2 W4)) (_ : (x.dw : Int) % 5 = K) (Q : Exit → Act → World → Prop)
  (_ : ∀ ⦃t16 t17 t18 t19 t20 t21 t22 t23 t24 t47 t48 t49 t50 t51 t52 t53 t54 t55 t56 t57 t58 t59 t60 t61 t62 t63 t64 t65 t66 t67 t68 t69 t70 t71 t72 t73 t74 t75 t76 t77 t78 t79 t80 t81 t82 t83 t84 t85 t86 t87 t88 t89 t90 t91 t92 t93 t94 t95 t96 t97 t98 t99 t100 t101 t102 t103 t104 t105 t106 t107 t108 t109 t110 t111 t112 t113 t114 t115 t116 t117 t118 t119 t120 t121 t122 t123 t124 t125 t126 t127 t128 t129 t130 t131 t132 t133 t134 t135 t136 t137 t138 t139 t140 t141 t142 t143 t144 t145 t146 t147 t148 t149 t150 t151 t152 t153 t154 t155 t156 t157 t158 t159 t160 t161 t162 t163 t164 t165 t166 t167 t168 t169 t170 t171 t172 t173 t174 t175 t176 t177 t178 t179 t180 t181 t182 t183 t184 t185 t186 t187 t188 t189 t190 t191 t192 t193 t194 t195 t196 t197 t198 t199 t200 t201 t202 t203 t204 t205 t206 t207 t208 t209 t210 t211 t212 t213 t214 t215 t216 t217 t218 t219 t220 t221 t222 t223 t224 t225 t226 t227 t228 t229 t230 : Value⦄ (V : World), Below eb w2 V → Q (.exit 1) ⟨(List.toArray (.agg #[.slice P.wa L.ws.length P.wc, .slice P.ea L.eds.length P.ec, .slice P.sa L.shs.length P.sc, .slice P.la L.los.length P.lc] :: .slice da d.length dc :: .int .i64 st :: s3 :: .pointer (some ⟨w.heap.size, 0, none⟩) :: s5 :: s6 :: s7 :: s8 :: s9 :: s10 :: .int .i64 known :: .int .i64 T :: s13 :: .pointer (some ⟨db, 0, none⟩) :: .pointer (some ⟨eb, 0, none⟩) :: t16 :: t17 :: t18 :: t19 :: t20 :: t21 :: t22 :: t23 :: t24 :: s25 :: s26 :: s27 :: s28 :: s29 :: s30 :: s31 :: s32 :: s33 :: s34 :: s35 :: s36 :: s37 :: s38 :: s39 :: s40 :: s41 :: s42 :: s43 :: s44 :: s45 :: .int .u8 K :: t47 :: t48 :: t49 :: t50 :: t51 :: t52 :: t53 :: t54 :: t55 :: t56 :: t57 :: t58 :: t59 :: t60 :: t61 :: t62 :: t63 :: t64 :: t65 :: t66 :: t67 :: t68 :: t69 :: t70 :: t71 :: t72 :: t73 :: t74 :: t75 :: t76 :: t77 :: t78 :: t79 :: t80 :: t81 :: t82 :: t83 :: t84 :: t85 :: t86 :: t87 :: t88 :: t89 :: t90 :: t91 :: t92 :: t93 :: t94 :: t95 :: t96 :: t97 :: t98 :: t99 :: t100 :: t101 :: t102 :: t103 :: t104 :: t105 :: t106 :: t107 :: t108 :: t109 :: t110 :: t111 :: t112 :: t113 :: t114 :: t115 :: t116 :: t117 :: t118 :: t119 :: t120 :: t121 :: t122 :: t123 :: t124 :: t125 :: t126 :: t127 :: t128 :: t129 :: t130 :: t131 :: t132 :: t133 :: t134 :: t135 :: t136 :: t137 :: t138 :: t139 :: t140 :: t141 :: t142 :: t143 :: t144 :: t145 :: t146 :: t147 :: t148 :: t149 :: t150 :: t151 :: t152 :: t153 :: t154 :: t155 :: t156 :: t157 :: t158 :: t159 :: t160 :: t161 :: t162 :: t163 :: t164 :: t165 :: t166 :: t167 :: t168 :: t169 :: t170 :: t171 :: t172 :: t173 :: t174 :: t175 :: t176 :: t177 :: t178 :: t179 :: t180 :: t181 :: t182 :: t183 :: t184 :: t185 :: t186 :: t187 :: t188 :: t189 :: t190 :: t191 :: t192 :: t193 :: t194 :: t195 :: t196 :: t197 :: t198 :: t199 :: t200 :: t201 :: t202 :: t203 :: t204 :: t205 :: t206 :: t207 :: t208 :: t209 :: t210 :: t211 :: t212 :: t213 :: t214 :: t215 :: t216 :: t217 :: t218 :: t219 :: t220 :: t221 :: t222 :: t223 :: t224 :: t225 :: t226 :: t227 :: t228 :: t229 :: t230 :: s231 :: s232 :: s233 :: s234 :: s235 :: s236 :: s237 :: s238 :: s239 :: s240 :: s241 :: s242 :: s243 :: s244 :: s245 :: List.nil)), []⟩ V)
  (_ : ∀ ⦃t16 t17 t18 t19 t20 t21 t22 t23 t24 t47 t48 t49 t50 t51 t52 t53 t54 t55 t56 t57 t58 t59 t60 t61 t62 t63 t64 t65 t66 t67 t68 t69 t70 t71 t72 t73 t74 t75 t76 t77 t78 t79 t80 t81 t82 t83 t84 t85 t86 t87 t88 t89 t90 t91 t92 t93 t94 t95 t96 t97 t98 t99 t100 t101 t102 t103 t104 t105 t106 t107 t108 t109 t110 t111 t112 t113 t114 t115 t116 t117 t118 t119 t120 t121 t122 t123 t124 t125 t126 t127 t128 t129 t130 t131 t132 t133 t134 t135 t136 t137 t138 t139 t140 t141 t142 t143 t144 t145 t146 t147 t148 t149 t150 t151 t152 t153 t154 t155 t156 t157 t158 t159 t160 t161 t162 t163 t164 t165 t166 t167 t168 t169 t170 t171 t172 t173 t174 t175 t176 t177 t178 t179 t180 t181 t182 t183 t184 t185 t186 t187 t188 t189 t190 t191 t192 t193 t194 t195 t196 t197 t198 t199 t200 t201 t202 t203 t204 t205 t206 t207 t208 t209 t210 t211 t212 t213 t214 t215 t216 t217 t218 t219 t220 t221 t222 t223 t224 t225 t226 t227 t228 t229 t230 : Value⦄ (V : World) (e : En), Below eb w2 V → V.heap[eb]? = some (.cells #[.int .i64 e.time, .int .i64 e.kind, .int .i64 e.a, .int .i64 e.b, .int .i64 e.c, .int .u64 e.dg] 50) → e.time = T → e.wide → (Qt e = true → Zb L d st known known e = []) → Zl known e = known → Zu known e = known → Q .normal ⟨(List.toArray (.agg #[.slice P.wa L.ws.length P.wc, .slice P.ea L.eds.length P.ec, .slice P.sa L.shs.length P.sc, .slice P.la L.los.length P.lc] :: .slice da d.length dc :: .int .i64 st :: s3 :: .pointer (some ⟨w.heap.size, 0, none⟩) :: s5 :: s6 :: s7 :: s8 :: s9 :: s10 :: .int .i64 known :: .int .i64 T :: s13 :: .pointer (some ⟨db, 0, none⟩) :: .pointer (some ⟨eb, 0, none⟩) :: t16 :: t17 :: t18 :: t19 :: t20 :: t21 :: t22 :: t23 :: t24 :: s25 :: s26 :: s27 :: s28 :: s29 :: s30 :: s31 :: s32 :: s33 :: s34 :: s35 :: s36 :: s37 :: s38 :: s39 :: s40 :: s41 :: s42 :: s43 :: s44 :: s45 :: .int .u8 K :: t47 :: t48 :: t49 :: t50 :: t51 :: t52 :: t53 :: t54 :: t55 :: t56 :: t57 :: t58 :: t59 :: t60 :: t61 :: t62 :: t63 :: t64 :: t65 :: t66 :: t67 :: t68 :: t69 :: t70 :: t71 :: t72 :: t73 :: t74 :: t75 :: t76 :: t77 :: t78 :: t79 :: t80 :: t81 :: t82 :: t83 :: t84 :: t85 :: t86 :: t87 :: t88 :: t89 :: t90 :: t91 :: t92 :: t93 :: t94 :: t95 :: t96 :: t97 :: t98 :: t99 :: t100 :: t101 :: t102 :: t103 :: t104 :: t105 :: t106 :: t107 :: t108 :: t109 :: t110 :: t111 :: t112 :: t113 :: t114 :: t115 :: t116 :: t117 :: t118 :: t119 :: t120 :: t121 :: t122 :: t123 :: t124 :: t125 :: t126 :: t127 :: t128 :: t129 :: t130 :: t131 :: t132 :: t133 :: t134 :: t135 :: t136 :: t137 :: t138 :: t139 :: t140 :: t141 :: t142 :: t143 :: t144 :: t145 :: t146 :: t147 :: t148 :: t149 :: t150 :: t151 :: t152 :: t153 :: t154 :: t155 :: t156 :: t157 :: t158 :: t159 :: t160 :: t161 :: t162 :: t163 :: t164 :: t165 :: t166 :: t167 :: t168 :: t169 :: t170 :: t171 :: t172 :: t173 :: t174 :: t175 :: t176 :: t177 :: t178 :: t179 :: t180 :: t181 :: t182 :: t183 :: t184 :: t185 :: t186 :: t187 :: t188 :: t189 :: t190 :: t191 :: t192 :: t193 :: t194 :: t195 :: t196 :: t197 :: t198 :: t199 :: t200 :: t201 :: t202 :: t203 :: t204 :: t205 :: t206 :: t207 :: t208 :: t209 :: t210 :: t211 :: t212 :: t213 :: t214 :: t215 :: t216 :: t217 :: t218 :: t219 :: t220 :: t221 :: t222 :: t223 :: t224 :: t225 :: t226 :: t227 :: t228 :: t229 :: t230 :: s231 :: s232 :: s233 :: s234 :: s235 :: s236 :: s237 :: s238 :: s239 :: s240 :: s241 :: s242 :: s243 :: s244 :: s245 :: List.nil)), []⟩ V),
  Code.wp Tryz.prog corBlk Q ⟨(List.toArray (.agg #[.slice P.wa L.ws.length P.wc, .slice P.ea L.eds.length P.ec, .slice P.sa L.shs.length P.sc, .slice P.la L.los.length P.lc] :: .slice da d.length dc :: .int .i64 st :: s3 :: .pointer (some ⟨w.heap.size, 0, none⟩) :: s5 :: s6 :: s7 :: s8 :: s9 :: s10 :: .int .i64 known :: .int .i64 T :: s13 :: .pointer (some ⟨db, 0, none⟩) :: .pointer (some ⟨eb, 0, none⟩) :: s16 :: s17 :: s18 :: s19 :: s20 :: s21 :: s22 :: s23 :: s24 :: s25 :: s26 :: s27 :: s28 :: s29 :: s30 :: s31 :: s32 :: s33 :: s34 :: s35 :: s36 :: s37 :: s38 :: s39 :: s40 :: s41 :: s42 :: s43 :: s44 :: s45 :: .int .u8 K :: s47 :: s48 :: s49 :: s50 :: s51 :: s52 :: s53 :: s54 :: s55 :: s56 :: s57 :: s58 :: s59 :: s60 :: s61 :: s62 :: s63 :: s64 :: s65 :: s66 :: s67 :: s68 :: s69 :: s70 :: s71 :: s72 :: s73 :: s74 :: s75 :: s76 :: s77 :: s78 :: s79 :: s80 :: s81 :: s82 :: s83 :: s84 :: s85 :: s86 :: s87 :: s88 :: s89 :: s90 :: s91 :: s92 :: s93 :: s94 :: s95 :: s96 :: s97 :: s98 :: s99 :: s100 :: s101 :: s102 :: s103 :: s104 :: s105 :: s106 :: s107 :: s108 :: s109 :: s110 :: s111 :: s112 :: s113 :: s114 :: s115 :: s116 :: s117 :: s118 :: s119 :: s120 :: s121 :: s122 :: s123 :: s124 :: s125 :: s126 :: s127 :: s128 :: s129 :: s130 :: s131 :: s132 :: s133 :: s134 :: s135 :: s136 :: s137 :: s138 :: s139 :: s140 :: s141 :: s142 :: s143 :: s144 :: s145 :: s146 :: s147 :: s148 :: s149 :: s150 :: s151 :: s152 :: s153 :: s154 :: s155 :: s156 :: s157 :: s158 :: s159 :: s160 :: s161 :: s162 :: s163 :: s164 :: s165 :: s166 :: s167 :: s168 :: s169 :: s170 :: s171 :: s172 :: s173 :: s174 :: s175 :: s176 :: s177 :: s178 :: s179 :: s180 :: s181 :: s182 :: s183 :: s184 :: s185 :: s186 :: s187 :: s188 :: s189 :: s190 :: s191 :: s192 :: s193 :: s194 :: s195 :: s196 :: s197 :: s198 :: s199 :: s200 :: s201 :: s202 :: s203 :: s204 :: s205 :: s206 :: s207 :: s208 :: s209 :: s210 :: s211 :: s212 :: s213 :: s214 :: s215 :: s216 :: s217 :: s218 :: s219 :: s220 :: s221 :: s222 :: s223 :: s224 :: s225 :: s226 :: s227 :: s228 :: s229 :: s230 :: s231 :: s232 :: s233 :: s234 :: s235 :: s236 :: s237 :: s238 :: s239 :: s240 :: s241 :: s242 :: s243 :: s244 :: s245 :: List.nil)), []⟩ W4
end Go.Proofs.YtajijcfikihhjaaGreatDoor
