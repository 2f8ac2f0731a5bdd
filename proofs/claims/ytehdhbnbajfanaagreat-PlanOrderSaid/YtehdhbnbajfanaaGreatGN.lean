/- Texts of this seat, laid together: PlanLaw0, PlanLaw0b, PlanSay, PlanEx. -/
import Derived.Test.YtehdhbnbajfanaaGreatGK
import Derived.Test.YtehdhbnbajfanaaGreatGL

/- Plain laws on plans: ways to meet demands, told by members alone, so that order plays no part; least costs; refusals. -/
namespace Go.Proofs.YtehdhbnbajfanaaGreat
set_option linter.unusedSimpArgs false
set_option linter.unusedVariables false
open Go.RowKit Go.Sort
open Classical

/-- g gives each demand a copy that it can have, and each another one. -/
structure Way (ds : List De) (cs : List Co) (hall : Int) (g : De → Co) : Prop where
  mem : ∀ d ∈ ds, g d ∈ cs
  can : ∀ d ∈ ds, 0 ≤ costI d (g d) hall
  inj : ∀ d ∈ ds, ∀ d' ∈ ds, g d = g d' → d = d'
def wayCost (ds : List De) (hall : Int) (g : De → Co) : Int := (ds.map fun d => costI d (g d) hall).sum
theorem nodup_idx {α : Type} {l : List α} (h : l.Nodup) {i j : Nat} (hi : i < l.length) (hj : j < l.length) (e : l[i] = l[j]) : i = j := by
  rcases Nat.lt_trichotomy i j with q | q | q
  · exact absurd e (List.pairwise_iff_getElem.1 h i j hi hj q)
  · exact q
  · exact absurd e.symm (List.pairwise_iff_getElem.1 h j i hj hi q)
theorem nodup_of_map {α β : Type} {f : α → β} {l : List α} (h : (l.map f).Nodup) : l.Nodup := by
  rw [List.Nodup, List.pairwise_map] at h
  exact h.imp fun h e => h (by rw [e])
theorem sum_range (F : Nat → Int) (n : Nat) : ((List.range n).map F).sum = sumN F n := by
  induction n with
  | zero => rfl
  | succ n ih => rw [List.range_succ, List.map_append, List.sum_append, ih]; simp [sumN]
/-- Columns for rows, as a way. -/
theorem way_of {ds : List De} {cs : List Co} {hall : Int} {f : Nat → Nat} (hn : ds.Nodup) (hc : cs.Nodup) (m : Mt (may (cc (costM ds cs hall))) (fun i => i < ds.length) cs.length f) : ∃ g, Way ds cs hall g ∧ wayCost ds hall g = costOf (cc (costM ds cs hall)) ds.length f := by
  have hg : ∀ i (hi : i < ds.length), cs.getD (f (ds.idxOf ds[i])) default = cs[f i]'(m.lt i hi) := fun i hi => by
    have : ds.idxOf ds[i] = i := by
      have h1 : ds.idxOf ds[i] < ds.length := List.idxOf_lt_length_of_mem (List.getElem_mem _)
      exact nodup_idx hn h1 hi (List.getElem_idxOf h1)
    rw [this]
    simp [List.getD, m.lt i hi]
  refine ⟨fun d => cs.getD (f (ds.idxOf d)) default, ⟨fun d hd => ?_, fun d hd => ?_, fun d hd d' hd' e => ?_⟩, ?_⟩
  · obtain ⟨i, hi, rfl⟩ := List.mem_iff_getElem.1 hd
    show cs.getD (f (ds.idxOf ds[i])) default ∈ cs
    rw [hg i hi]; exact List.getElem_mem _
  · obtain ⟨i, hi, rfl⟩ := List.mem_iff_getElem.1 hd
    show 0 ≤ costI ds[i] (cs.getD (f (ds.idxOf ds[i])) default) hall
    rw [hg i hi]
    have := (may_iff _ _ _).1 (m.can i hi)
    rw [costM_row hi (m.lt i hi)] at this
    exact this
  · obtain ⟨i, hi, rfl⟩ := List.mem_iff_getElem.1 hd
    obtain ⟨j, hj, rfl⟩ := List.mem_iff_getElem.1 hd'
    have e : cs.getD (f (ds.idxOf ds[i])) default = cs.getD (f (ds.idxOf ds[j])) default := e
    rw [hg i hi, hg j hj] at e
    have := m.inj i j hi hj (nodup_idx hc _ _ e)
    subst this; rfl
  · unfold wayCost costOf
    rw [← sum_range]
    congr 1
    refine List.ext_getElem (by simp) fun i h1 h2 => ?_
    have hi : i < ds.length := by simpa using h1
    simp only [List.getElem_map, List.getElem_range]
    rw [hg i hi, costM_row hi (m.lt i hi)]
/-- A way, as columns for rows. -/
theorem of_way {ds : List De} {cs : List Co} {hall : Int} {g : De → Co} (hn : ds.Nodup) (h : Way ds cs hall g) : ∃ f, Mt (may (cc (costM ds cs hall))) (fun i => i < ds.length) cs.length f ∧ costOf (cc (costM ds cs hall)) ds.length f = wayCost ds hall g := by
  have hf : ∀ i (hi : i < ds.length), ∃ hlt : cs.idxOf (g (ds.getD i default)) < cs.length, cs[cs.idxOf (g (ds.getD i default))] = g ds[i] := fun i hi => by
    have e : ds.getD i default = ds[i] := by simp [List.getD, hi]
    rw [e]
    have h1 := List.idxOf_lt_length_of_mem (h.mem _ (List.getElem_mem hi))
    exact ⟨h1, List.getElem_idxOf h1⟩
  have hco : ∀ i (hi : i < ds.length), cc (costM ds cs hall) i (cs.idxOf (g (ds.getD i default))) = costI ds[i] (g ds[i]) hall := fun i hi => by
    obtain ⟨hlt, e⟩ := hf i hi
    rw [costM_row hi hlt, e]
  refine ⟨fun i => cs.idxOf (g (ds.getD i default)), ⟨fun i hi => (hf i hi).1, fun i hi => ?_, fun i j hi hj e => ?_⟩, ?_⟩
  · rw [may_iff, hco i hi]
    exact h.can _ (List.getElem_mem _)
  · obtain ⟨h1, e1⟩ := hf i hi
    obtain ⟨h2, e2⟩ := hf j hj
    have e : cs.idxOf (g (ds.getD i default)) = cs.idxOf (g (ds.getD j default)) := e
    have : g ds[i] = g ds[j] := by rw [← e1, ← e2]; simp only [e]
    exact nodup_idx hn hi hj (h.inj _ (List.getElem_mem _) _ (List.getElem_mem _) this)
  · unfold wayCost costOf
    rw [← sum_range]
    congr 1
    refine List.ext_getElem (by simp) fun i h1 h2 => ?_
    have hi : i < ds.length := by simpa using h2
    simp only [List.getElem_map, List.getElem_range]
    exact hco i hi
theorem Way.sub {ds ds' : List De} {cs cs' : List Co} {hall : Int} {g : De → Co} (h : Way ds cs hall g) (h1 : ∀ d ∈ ds', d ∈ ds) (h2 : ∀ c ∈ cs, c ∈ cs') : Way ds' cs' hall g :=
  ⟨fun d hd => h2 _ (h.mem d (h1 d hd)), fun d hd => h.can d (h1 d hd), fun d hd d' hd' => h.inj d (h1 d hd) d' (h1 d' hd')⟩
theorem metB_way {ds : List De} {cs : List Co} (hall : Int) (hn : ds.Nodup) (hc : cs.Nodup) : metB cs ds = true ↔ ∃ g, Way ds cs hall g := by
  rw [metB_iff, met_hall hall]
  constructor
  · rintro ⟨f, hf⟩
    obtain ⟨g, hg, _⟩ := way_of hn hc hf
    exact ⟨g, hg⟩
  · rintro ⟨g, hg⟩
    obtain ⟨f, hf, _⟩ := of_way hn hg
    exact ⟨f, hf⟩
theorem Vd.nodup {ds : List De} {cs : List Co} (v : Vd ds cs) : ds.Nodup := nodup_of_map v.nd
theorem valid_nodup {ds : List De} {cs : List Co} (h : validB ds cs = true) : ds.Nodup ∧ cs.Nodup := by
  have v := vd_of h
  simp only [validB, Bool.and_eq_true, decide_eq_true_eq] at h
  exact ⟨v.nodup, nodup_of_map (f := Co.id) (by simpa [nodupB] using h.2)⟩
/-- Fewer demands, more copies: still met. -/
theorem metB_mono {ds ds' : List De} {cs cs' : List Co} (hn : ds.Nodup) (hc : cs.Nodup) (hn' : ds'.Nodup) (hc' : cs'.Nodup) (h1 : ∀ d ∈ ds', d ∈ ds) (h2 : ∀ c ∈ cs, c ∈ cs') (h : metB cs ds = true) : metB cs' ds' = true := by
  obtain ⟨g, hg⟩ := (metB_way 0 hn hc).1 h
  exact (metB_way 0 hn' hc').2 ⟨g, hg.sub h1 h2⟩
theorem metB_same {ds ds' : List De} {cs cs' : List Co} (hn : ds.Nodup) (hc : cs.Nodup) (hp : ds'.Perm ds) (hq : cs'.Perm cs) : metB cs' ds' = metB cs ds := by
  have hn' := hp.nodup_iff.2 hn; have hc' := hq.nodup_iff.2 hc
  rw [Bool.eq_iff_iff]
  exact ⟨metB_mono hn' hc' hn hc (fun d hd => hp.mem_iff.2 hd) (fun c hc => hq.mem_iff.1 hc), metB_mono hn hc hn' hc' (fun d hd => hp.mem_iff.1 hd) (fun c hc => hq.mem_iff.2 hc)⟩
/-- What a plan costs. -/
def totG (l : List Gv) : Int := (l.map fun g => g.2.2).sum
theorem plan_total {ds : List De} {cs : List Co} {hall : Int} {l : List Nat} (h : BTo (costM ds cs hall) l) : totG (planL ds cs hall l) = costOf (cc (costM ds cs hall)) ds.length (fun i => l.getD i 0) := by
  obtain ⟨h1, h2⟩ := h.mt
  rw [costM_len] at h1
  unfold totG planL costOf
  rw [List.map_map, ← sum_range]
  congr 1
  refine List.ext_getElem (by simp) fun i h3 h4 => ?_
  have hi : i < ds.length := by simpa using h4
  simp only [List.getElem_map, List.getElem_range, Function.comp]
  have hl := h2 i (by omega)
  rw [costM_wide (by omega)] at hl
  have e : l.getD i 0 = l[i] := by simp [List.getD, h1, hi]
  rw [e, costM_row hi hl, planF_at hi (by omega) hl]
/-- A plan is a way of least cost. -/
theorem plan_way {ds : List De} {cs : List Co} {hall : Int} {l : List Nat} (hn : ds.Nodup) (hc : cs.Nodup) (h : BTo (costM ds cs hall) l) : (∃ g, Way ds cs hall g ∧ wayCost ds hall g = totG (planL ds cs hall l)) ∧ ∀ g, Way ds cs hall g → totG (planL ds cs hall l) ≤ wayCost ds hall g := by
  have ht := plan_total h
  obtain ⟨t, h⟩ := h
  obtain ⟨u, v, _, b, _, _, e⟩ := best_has h rfl
  have hmt := b.tight.mt
  have hle := fun (f : Nat → Nat) (hf : Mt (may (cc (costM ds cs hall))) (fun i => i < (costM ds cs hall).length) (wideL (costM ds cs hall)) f) => b.least hf
  rw [totL_cost b.len] at hle
  rw [costM_len] at hmt hle
  by_cases h0 : 0 < ds.length
  · rw [costM_wide h0] at hmt hle
    constructor
    · obtain ⟨g, hg, hgc⟩ := way_of hn hc hmt
      exact ⟨g, hg, by rw [hgc, ht]⟩
    · intro g hg
      obtain ⟨f, hf, hfc⟩ := of_way hn hg
      rw [← hfc, ht]
      exact hle f hf
  · have : ds = [] := by cases ds with
      | nil => rfl
      | cons d ds => simp at h0
    subst this
    exact ⟨⟨fun _ => default, ⟨fun d hd => by simp at hd, fun d hd => by simp at hd, fun d hd => by simp at hd⟩, by simp [wayCost, totG, planL]⟩, fun g _ => by simp [wayCost, totG, planL]⟩
theorem perm_sum {l l' : List Int} (h : l.Perm l') : l.sum = l'.sum := by
  induction h with
  | nil => rfl
  | cons x _ ih => rw [List.sum_cons, List.sum_cons, ih]
  | swap x y l => simp only [List.sum_cons]; omega
  | trans _ _ h1 h2 => exact h1.trans h2
theorem wayCost_perm {ds ds' : List De} {hall : Int} (g : De → Co) (hp : ds'.Perm ds) : wayCost ds' hall g = wayCost ds hall g := by
  unfold wayCost
  exact perm_sum (hp.map _)
theorem wayCost_sub {ds ds' : List De} {hall : Int} {g : De → Co} (hs : ds'.Sublist ds) (h : ∀ d ∈ ds, 0 ≤ costI d (g d) hall) : wayCost ds' hall g ≤ wayCost ds hall g := by
  induction hs with
  | slnil => exact Int.le_refl _
  | cons a hs ih =>
    have h1 := ih fun d hd => h d (List.mem_cons_of_mem _ hd)
    have h2 := h a (by simp)
    simp only [wayCost, List.map_cons, List.sum_cons] at *
    omega
  | cons_cons a hs ih =>
    have h1 := ih fun d hd => h d (List.mem_cons_of_mem _ hd)
    simp only [wayCost, List.map_cons, List.sum_cons] at *
    omega
/-- In whatever order: the same cost. -/
theorem plan_same {ds ds' : List De} {cs cs' : List Co} {hall : Int} {l l' : List Nat} (hn : ds.Nodup) (hc : cs.Nodup) (hp : ds'.Perm ds) (hq : cs'.Perm cs) (h : BTo (costM ds cs hall) l) (h' : BTo (costM ds' cs' hall) l') : totG (planL ds cs hall l) = totG (planL ds' cs' hall l') := by
  obtain ⟨⟨g, hg, e⟩, hle⟩ := plan_way hn hc h
  obtain ⟨⟨g', hg', e'⟩, hle'⟩ := plan_way (hp.nodup_iff.2 hn) (hq.nodup_iff.2 hc) h'
  have h1 := hle g' (hg'.sub (fun d hd => hp.mem_iff.2 hd) (fun c hc => hq.mem_iff.1 hc))
  have h2 := hle' g (hg.sub (fun d hd => hp.mem_iff.1 hd) (fun c hc => hq.mem_iff.2 hc))
  rw [wayCost_perm g hp] at h2
  rw [← wayCost_perm g' hp] at h1
  omega
/-- Fewer demands, or more copies: no greater cost. -/
theorem plan_less {ds ds' : List De} {cs cs' : List Co} {hall : Int} {l l' : List Nat} (hn : ds.Nodup) (hc : cs.Nodup) (hc' : cs'.Nodup) (hp : ds'.Sublist ds) (hq : ∀ c ∈ cs, c ∈ cs') (h : BTo (costM ds cs hall) l) (h' : BTo (costM ds' cs' hall) l') : totG (planL ds' cs' hall l') ≤ totG (planL ds cs hall l) := by
  obtain ⟨⟨g, hg, e⟩, hle⟩ := plan_way hn hc h
  obtain ⟨_, hle'⟩ := plan_way (hp.nodup hn) hc' h'
  have h2 := hle' g (hg.sub (fun d hd => hp.subset hd) hq)
  have h3 := wayCost_sub hp hg.can
  omega
end Go.Proofs.YtehdhbnbajfanaaGreat


/- Plain laws on refusals: what is left cannot be met, but without any one of it it can; order plays no part. -/
namespace Go.Proofs.YtehdhbnbajfanaaGreat
set_option linter.unusedSimpArgs false
set_option linter.unusedVariables false
open Go.RowKit Go.Sort

theorem less_mem {l : List De} {id : Int} {d : De} : d ∈ lessL l id ↔ d ∈ l ∧ d.id ≠ id := by simp [lessL]
theorem less_ids {l : List De} {id : Int} : id ∉ (lessL l id).map De.id := by
  simp only [List.mem_map, not_exists, not_and]
  intro d hd e
  exact (less_mem.1 hd).2 e
theorem refu_min {cs : List Co} (hc : cs.Nodup) {ids : List Int} {l : List De} (hn : l.Nodup) : ∀ id ∈ ids, id ∈ (refuL cs ids l).map De.id → metB cs (lessL (refuL cs ids l) id) = true := by
  induction ids generalizing l with
  | nil => intro id h; cases h
  | cons i ids ih =>
    intro id hid hm
    have e : refuL cs (i :: ids) l = refuL cs ids (refu1 cs l i) := rfl
    rw [e] at hm ⊢
    have hn1 : (refu1 cs l i).Nodup := (refu1_subl cs l i).nodup hn
    rcases List.mem_cons.1 hid with rfl | hid
    · have hs := refu_subl cs ids (refu1 cs l id)
      have hin : id ∈ (refu1 cs l id).map De.id := (hs.map De.id).subset hm
      cases hq : metB cs (lessL l id)
      · rw [refu1, hq] at hin
        exact absurd hin less_ids
      · have hs2 : (refuL cs ids (refu1 cs l id)).Sublist l := hs.trans (refu1_subl _ _ _)
        refine metB_mono ((less_subl l id).nodup hn) hc ((less_subl _ id).nodup (hs2.nodup hn)) hc (fun d hd => ?_) (fun _ h => h) hq
        obtain ⟨h1, h2⟩ := less_mem.1 hd
        exact less_mem.2 ⟨hs2.subset h1, h2⟩
    · exact ih hn1 id hid hm
theorem left_min {cs : List Co} {ds : List De} (hn : ds.Nodup) (hc : cs.Nodup) : ∀ d ∈ leftL cs ds, metB cs (lessL (leftL cs ds) d.id) = true := fun d hd =>
  refu_min hc hn d.id (down_mem.2 (List.mem_map_of_mem ((left_subl cs ds).subset hd))) (List.mem_map_of_mem hd)
theorem metL_nil (cs : List Co) : metB cs [] = true := metB_iff.2 ⟨fun _ => 0, fun i hi => absurd hi (Nat.not_lt_zero _), fun i hi => absurd hi (Nat.not_lt_zero _), fun i j hi => absurd hi (Nat.not_lt_zero _)⟩
theorem noL_ne {cs : List Co} {l : List De} (h : metB cs l = false) : l ≠ [] := fun e => by subst e; rw [metL_nil] at h; cases h
theorem refuL_no {cs : List Co} {ids : List Int} {l : List De} (h : metB cs l = false) : metB cs (refuL cs ids l) = false := by
  induction ids generalizing l with
  | nil => exact h
  | cons i ids ih =>
    refine ih ?_
    cases hq : metB cs (lessL l i)
    · rw [refu1, hq]; exact hq
    · rw [refu1, hq]; exact h
theorem less_perm {l l' : List De} (h : l'.Perm l) (id : Int) : (lessL l' id).Perm (lessL l id) := h.filter _
theorem refu_perm {cs cs' : List Co} (hc : cs.Nodup) (hq : cs'.Perm cs) (ids : List Int) {l l' : List De} (hn : l.Nodup) (hp : l'.Perm l) : (refuL cs' ids l').Perm (refuL cs ids l) := by
  induction ids generalizing l l' with
  | nil => exact hp
  | cons i ids ih =>
    refine ih ((refu1_subl cs l i).nodup hn) ?_
    unfold refu1
    rw [metB_same ((less_subl l i).nodup hn) hc (less_perm hp i) hq]
    split
    · exact hp
    · exact less_perm hp i
theorem down_perm_eq {l l' : List Int} (hn : l.Nodup) (hp : l'.Perm l) : downL l' = downL l :=
  down_eq hn ((down_perm l').trans hp) (down_ge l')
theorem left_perm {cs cs' : List Co} {ds ds' : List De} (hc : cs.Nodup) (hq : cs'.Perm cs) (hn : (ds.map De.id).Nodup) (hp : ds'.Perm ds) : (leftL cs' ds').Perm (leftL cs ds) := by
  unfold leftL
  rw [down_perm_eq hn (hp.map _)]
  exact refu_perm hc hq _ (nodup_of_map hn) hp
theorem answer_same {cs cs' : List Co} {ds ds' : List De} (hc : cs.Nodup) (hq : cs'.Perm cs) (hn : (ds.map De.id).Nodup) (hp : ds'.Perm ds) : answerL cs' ds' = answerL cs ds := by
  unfold answerL
  rw [down_perm_eq (((left_subl cs ds).map De.id).nodup hn) ((left_perm hc hq hn hp).map _)]
theorem answer_mem {cs : List Co} {ds : List De} {x : Int} : x ∈ answerL cs ds ↔ x ∈ (leftL cs ds).map De.id := by
  unfold answerL; rw [List.mem_reverse, down_mem]
theorem answer_up {cs : List Co} {ds : List De} (hn : (ds.map De.id).Nodup) : (answerL cs ds).Pairwise (· < ·) := by
  unfold answerL
  rw [List.pairwise_reverse]
  exact down_gt (((left_subl cs ds).map De.id).nodup hn)
theorem answer_len (cs : List Co) (ds : List De) : (answerL cs ds).length = (leftL cs ds).length := by
  unfold answerL; rw [List.length_reverse, down_len, List.length_map]
theorem with_one {ds : List De} (hn : (ds.map De.id).Nodup) {d : De} (hd : d ∈ ds) : withL ds d.id = [d] := by
  induction ds with
  | nil => cases hd
  | cons a ds ih =>
    rw [List.map_cons, List.nodup_cons] at hn
    rcases List.mem_cons.1 hd with rfl | hd
    · have : withL ds d.id = [] := by
        rw [withL, List.filter_eq_nil_iff]
        intro d' hd' h
        have h : d'.id = d.id := by simpa using h
        exact hn.1 (by rw [← h]; exact List.mem_map_of_mem hd')
      rw [withL] at *
      simp [List.filter_cons, this]
    · have : a.id ≠ d.id := fun e => hn.1 (by rw [e]; exact List.mem_map_of_mem hd)
      have h2 := ih hn.2 hd
      rw [withL] at *
      simp [List.filter_cons, this, h2]
theorem pick_ids {ds : List De} (hn : (ds.map De.id).Nodup) {ids : List Int} (h : ∀ x ∈ ids, x ∈ ds.map De.id) : (pickD ds ids).map De.id = ids := by
  induction ids with
  | nil => rfl
  | cons x ids ih =>
    obtain ⟨d, hd, rfl⟩ := List.mem_map.1 (h x (by simp))
    have := ih fun x hx => h x (List.mem_cons_of_mem _ hx)
    unfold pickD at *
    rw [List.flatMap_cons, with_one hn hd, List.map_append, this]; rfl
theorem pick_mem {ds : List De} {ids : List Int} {d : De} : d ∈ pickD ds ids ↔ d ∈ ds ∧ d.id ∈ ids := by
  unfold pickD withL
  rw [List.mem_flatMap]
  constructor
  · rintro ⟨x, hx, hd⟩
    rw [List.mem_filter] at hd
    have : d.id = x := by simpa using hd.2
    exact ⟨hd.1, this ▸ hx⟩
  · rintro ⟨h1, h2⟩
    exact ⟨d.id, h2, by rw [List.mem_filter]; exact ⟨h1, by simp⟩⟩
theorem id_inj {ds : List De} (hn : (ds.map De.id).Nodup) {d d' : De} (h : d ∈ ds) (h' : d' ∈ ds) (e : d.id = d'.id) : d = d' := by
  have h1 := with_one hn h
  have h2 := with_one hn h'
  rw [e, h2] at h1
  simpa using h1.symm
/-- The demands that a refusal names are those that are left. -/
theorem named_perm {cs : List Co} {ds : List De} (hn : (ds.map De.id).Nodup) : (pickD ds (answerL cs ds)).Perm (leftL cs ds) := by
  have hs := left_subl cs ds
  have h1 : ∀ x ∈ answerL cs ds, x ∈ ds.map De.id := fun x hx => (hs.map De.id).subset (answer_mem.1 hx)
  have h2 : (pickD ds (answerL cs ds)).Nodup := nodup_of_map (f := De.id) (by rw [pick_ids hn h1]; exact (answer_up hn).imp fun h => by omega)
  refine (List.perm_ext_iff_of_nodup h2 (hs.nodup (nodup_of_map hn))).2 fun d => ?_
  rw [pick_mem, answer_mem]
  constructor
  · rintro ⟨hd, hi⟩
    obtain ⟨d', hd', e⟩ := List.mem_map.1 hi
    rw [id_inj hn hd (hs.subset hd') e.symm]; exact hd'
  · exact fun hd => ⟨hs.subset hd, List.mem_map_of_mem hd⟩
theorem named_some {cs : List Co} {ds : List De} (hn : (ds.map De.id).Nodup) : SomeTo ds (answerL cs ds) (answerL cs ds).length := fun j hj _ => by
  refine ⟨?_, fun h0 => List.pairwise_iff_getElem.1 (answer_up hn) (j - 1) j (by omega) hj (by omega)⟩
  obtain ⟨d, hd, e⟩ := List.mem_map.1 (((left_subl cs ds).map De.id).subset (answer_mem.1 (List.getElem_mem hj)))
  rw [← e, with_one hn hd]; rfl
/-- The demands that a refusal names. -/
noncomputable def namedL (cs : List Co) (ds : List De) : List De := pickD ds (answerL cs ds)
theorem named_no {cs : List Co} {ds : List De} (hn : (ds.map De.id).Nodup) (hc : cs.Nodup) (hno : metB cs ds = false) : metB cs (namedL cs ds) = false := by
  have hs := left_subl cs ds
  rw [namedL, metB_same (hs.nodup (nodup_of_map hn)) hc (named_perm hn) (List.Perm.refl _)]
  exact refuL_no hno
theorem named_min {cs : List Co} {ds : List De} (hn : (ds.map De.id).Nodup) (hc : cs.Nodup) : ∀ x ∈ answerL cs ds, metB cs (lessL (namedL cs ds) x) = true := fun x hx => by
  obtain ⟨d, hd, e⟩ := List.mem_map.1 (answer_mem.1 hx)
  have hs := left_subl cs ds
  have hnl := hs.nodup (nodup_of_map hn)
  rw [namedL, metB_same ((less_subl _ x).nodup hnl) hc (less_perm (named_perm hn) x) (List.Perm.refl _), ← e]
  exact left_min (nodup_of_map hn) hc d hd
theorem named_refu {cs : List Co} {ds : List De} (hn : (ds.map De.id).Nodup) (hc : cs.Nodup) (hno : metB cs ds = false) : RefuP ds cs (answerL cs ds) :=
  ⟨named_some hn, named_no hn hc hno, fun d hd => named_min hn hc d.id (pick_mem.1 hd).2⟩
theorem named_ids {cs : List Co} {ds : List De} (hn : (ds.map De.id).Nodup) : (namedL cs ds).map De.id = answerL cs ds :=
  pick_ids hn fun x hx => ((left_subl cs ds).map De.id).subset (answer_mem.1 hx)
theorem refu_keep {cs : List Co} {ids : List Int} {l : List De} (h : ∀ x ∈ ids, metB cs (lessL l x) = true) : refuL cs ids l = l := by
  induction ids with
  | nil => rfl
  | cons i ids ih =>
    have e : refuL cs (i :: ids) l = refuL cs ids (refu1 cs l i) := rfl
    rw [e, show refu1 cs l i = l by rw [refu1, h i (by simp)]; rfl]
    exact ih fun x hx => h x (List.mem_cons_of_mem _ hx)
/-- The named demands alone are refused by the same refusal. -/
theorem named_again {cs : List Co} {ds : List De} (hn : (ds.map De.id).Nodup) (hc : cs.Nodup) : answerL cs (namedL cs ds) = answerL cs ds := by
  have hl : leftL cs (namedL cs ds) = namedL cs ds := by
    unfold leftL
    exact refu_keep fun x hx => named_min hn hc x (by rw [← named_ids hn]; exact down_mem.1 hx)
  have hu := answer_up (cs := cs) hn
  unfold answerL at hu ⊢
  rw [hl, named_ids hn]
  rw [show downL (answerL cs ds) = downL ((leftL cs ds).map De.id) from down_perm_eq (((left_subl cs ds).map De.id).nodup hn) (by unfold answerL; exact (List.reverse_perm _).trans (down_perm _))]
theorem valid_mem {ds l : List De} {cs : List Co} (h : validB ds cs = true) (h1 : l.length ≤ 200) (h2 : ∀ d ∈ l, d ∈ ds) (h3 : (l.map De.id).Nodup) : validB l cs = true := by
  simp only [validB, Bool.and_eq_true, decide_eq_true_eq] at *
  obtain ⟨⟨⟨⟨⟨_, q2⟩, q3⟩, q4⟩, q5⟩, q6⟩ := h
  exact ⟨⟨⟨⟨⟨h1, q2⟩, List.all_eq_true.2 fun d hd => List.all_eq_true.1 q3 d (h2 d hd)⟩, q4⟩, by simp [nodupB, h3]⟩, q6⟩
theorem valid_perm {ds ds' : List De} {cs cs' : List Co} (h : validB ds cs = true) (hp : ds'.Perm ds) (hq : cs'.Perm cs) : validB ds' cs' = true := by
  simp only [validB, Bool.and_eq_true, decide_eq_true_eq] at *
  obtain ⟨⟨⟨⟨⟨q1, q2⟩, q3⟩, q4⟩, q5⟩, q6⟩ := h
  refine ⟨⟨⟨⟨⟨by rw [hp.length_eq]; exact q1, by rw [hq.length_eq]; exact q2⟩, List.all_eq_true.2 fun d hd => List.all_eq_true.1 q3 d (hp.mem_iff.1 hd)⟩, List.all_eq_true.2 fun d hd => List.all_eq_true.1 q4 d (hq.mem_iff.1 hd)⟩, ?_⟩, ?_⟩
  · simp [nodupB] at *; exact ((hp.map De.id).nodup_iff).2 q5
  · simp [nodupB] at *; exact ((hq.map Co.id).nodup_iff).2 q6
theorem named_len {cs : List Co} {ds : List De} (hn : (ds.map De.id).Nodup) : (namedL cs ds).length = (answerL cs ds).length := by
  rw [← named_ids (cs := cs) hn, List.length_map]
theorem answer_le {cs : List Co} {ds : List De} : (answerL cs ds).length ≤ ds.length := by
  rw [answer_len]; exact (left_subl cs ds).length_le
theorem answer_pos {cs : List Co} {ds : List De} (hno : metB cs ds = false) : 0 < (answerL cs ds).length := by
  rw [answer_len]
  have h1 : metB cs (leftL cs ds) = false := refuL_no hno
  have := noL_ne h1
  exact List.length_pos_iff.2 this
theorem named_valid {cs : List Co} {ds : List De} (h : validB ds cs = true) : validB (namedL cs ds) cs = true := by
  have v := vd_of h
  refine valid_mem h (by rw [named_len v.nd]; have := v.n1; have := answer_le (cs := cs) (ds := ds); omega) (fun d hd => (pick_mem.1 hd).1) ?_
  rw [named_ids v.nd]
  exact (answer_up v.nd).imp fun h => by omega
end Go.Proofs.YtehdhbnbajfanaaGreat


/- What Plan says in one shape for program and reference; plan.Refuses as a hypothesis; usable, total, demand of the laws: walked. -/
namespace Go.Proofs.YtehdhbnbajfanaaGreat
set_option linter.unusedSimpArgs false
set_option linter.unusedVariables false
open Go.RowKit Go.Sort Go.Shelf

/-- Plan's answer. -/
def Says (P : List (List Int) → List Nat → Prop) (ds : List De) (cs : List Co) (hall : Int) (gl : List Gv) (rl : List Int) (ok : Bool) (err : Int) : Prop :=
  ((validB ds cs && inR 0 99 hall) = false ∧ gl = [] ∧ rl = [] ∧ ok = false ∧ err = 1) ∨
  ((validB ds cs && inR 0 99 hall) = true ∧ metB cs ds = false ∧ gl = [] ∧ rl = answerL cs ds ∧ ok = false ∧ err = 0) ∨
  ((validB ds cs && inR 0 99 hall) = true ∧ metB cs ds = true ∧ rl = [] ∧ ok = true ∧ err = 0 ∧ ∃ l, gl = planL ds cs hall l ∧ P (costM ds cs hall) l)
def PlanRes (P : List (List Int) → List Nat → Prop) (ds : List De) (cs : List Co) (hall : Int) (w : World) (e : Ending) (w' : World) : Prop :=
  ∃ (a a2 : Option Addr) (cap cap2 : Nat) (gl : List Gv) (rl : List Int) (ok : Bool) (err : Int), e = .returned (.tuple #[.slice a gl.length cap, .slice a2 rl.length cap2, .bool ok, .int .i64 err]) ∧ Says P ds cs hall gl rl ok err ∧ SlOk a gl.length cap ∧ GvAt w' a gl ∧ SlOk a2 rl.length cap2 ∧ InAt w' a2 rl ∧ RowKit.Below w.heap.size w w'
theorem PlanPost.res {P : List (List Int) → List Nat → Prop} {ds : List De} {cs : List Co} {hall : Int} {w : World} {e : Ending} {w' : World} (h : PlanPost P ds cs hall w e w') : PlanRes P ds cs hall w e w' := by
  obtain ⟨hb, ⟨h1, rfl⟩ | ⟨h1, h2, a, cap, rfl, h3, h4⟩ | ⟨h1, h2, l, a, cap, rfl, h3, h4, h5⟩⟩ := h
  · exact ⟨none, none, 0, 0, [], [], false, 1, rfl, .inl ⟨h1, rfl, rfl, rfl, rfl⟩, SlOk.nil, SlAt.nil _ _ _, SlOk.nil, SlAt.nil _ _ _, hb⟩
  · exact ⟨none, a, 0, cap, [], answerL cs ds, false, 0, rfl, .inr (.inl ⟨h1, h2, rfl, rfl, rfl, rfl⟩), SlOk.nil, SlAt.nil _ _ _, h3, h4, hb⟩
  · exact ⟨a, none, cap, 0, planL ds cs hall l, [], true, 0, by rw [planL_len]; rfl, .inr (.inr ⟨h1, h2, rfl, rfl, rfl, l, rfl, h5⟩), by rw [planL_len]; exact h3, h4, SlOk.nil, SlAt.nil _ _ _, hb⟩
theorem says_same {ds : List De} {cs : List Co} {hall : Int} {gl gl' : List Gv} {rl rl' : List Int} {ok ok' : Bool} {err err' : Int} (h : Says BTo ds cs hall gl rl ok err) (h' : Says RTo ds cs hall gl' rl' ok' err') : gl = gl' ∧ rl = rl' ∧ ok = ok' ∧ err = err' := by
  rcases h with ⟨h1, rfl, rfl, rfl, rfl⟩ | ⟨h1, h2, rfl, rfl, rfl, rfl⟩ | ⟨h1, h2, rfl, rfl, rfl, l, rfl, hl⟩ <;> rcases h' with ⟨g1, rfl, rfl, rfl, rfl⟩ | ⟨g1, g2, rfl, rfl, rfl, rfl⟩ | ⟨g1, g2, rfl, rfl, rfl, l', rfl, hl'⟩
  · exact ⟨rfl, rfl, rfl, rfl⟩
  · rw [h1] at g1; cases g1
  · rw [h1] at g1; cases g1
  · rw [h1] at g1; cases g1
  · exact ⟨rfl, rfl, rfl, rfl⟩
  · rw [h2] at g2; cases g2
  · rw [h1] at g1; cases g1
  · rw [h2] at g2; cases g2
  · rw [to_same hl hl']; exact ⟨rfl, rfl, rfl, rfl⟩
/-- What is said of usable demands. -/
def Said (ds : List De) (cs : List Co) (hall : Int) (gl : List Gv) (rl : List Int) (ok : Bool) : Prop :=
  (metB cs ds = false ∧ gl = [] ∧ rl = answerL cs ds ∧ ok = false) ∨ (metB cs ds = true ∧ rl = [] ∧ ok = true ∧ ∃ l, gl = planL ds cs hall l ∧ BTo (costM ds cs hall) l)
theorem says_said {ds : List De} {cs : List Co} {hall : Int} {gl : List Gv} {rl : List Int} {ok : Bool} {err : Int} (h : Says BTo ds cs hall gl rl ok err) (hv : (validB ds cs && inR 0 99 hall) = true) : err = 0 ∧ Said ds cs hall gl rl ok := by
  rcases h with ⟨h1, rfl, rfl, rfl, rfl⟩ | ⟨h1, h2, rfl, rfl, rfl, rfl⟩ | ⟨h1, h2, rfl, rfl, rfl, h3⟩
  · rw [h1] at hv; cases hv
  · exact ⟨rfl, .inl ⟨h2, rfl, rfl, rfl⟩⟩
  · exact ⟨rfl, .inr ⟨h2, rfl, rfl, h3⟩⟩
/-- Refuses' answer. -/
def RefSays (ds : List De) (cs : List Co) (ids : List Int) (b : Bool) (err : Int) : Prop := (validB ds cs = false ∧ b = false ∧ err = 1) ∨ (validB ds cs = true ∧ err = 0 ∧ (b = true ↔ RefuP ds cs ids))
def RefRes (ds : List De) (cs : List Co) (ids : List Int) (w : World) (e : Ending) (w' : World) : Prop := ∃ (b : Bool) (err : Int), e = .returned (.tuple #[.bool b, .int .i64 err]) ∧ RefSays ds cs ids b err ∧ RowKit.Below w.heap.size w w'
theorem RefuPost.res {ds : List De} {cs : List Co} {ids : List Int} {w : World} {e : Ending} {w' : World} (h : RefuPost ds cs ids w e w') : RefRes ds cs ids w e w' := by
  obtain ⟨hb, ⟨h1, rfl⟩ | ⟨h1, b, rfl, h2⟩⟩ := h
  · exact ⟨false, 1, rfl, .inl ⟨h1, rfl, rfl⟩, hb⟩
  · exact ⟨b, 0, rfl, .inr ⟨h1, rfl, h2⟩, hb⟩
theorem ref_same {ds : List De} {cs : List Co} {ids : List Int} {b b' : Bool} {err err' : Int} (h : RefSays ds cs ids b err) (h' : RefSays ds cs ids b' err') : b = b' ∧ err = err' := by
  rcases h with ⟨h1, rfl, rfl⟩ | ⟨h1, rfl, h2⟩ <;> rcases h' with ⟨g1, rfl, rfl⟩ | ⟨g1, rfl, g2⟩
  · exact ⟨rfl, rfl⟩
  · rw [h1] at g1; cases g1
  · rw [h1] at g1; cases g1
  · exact ⟨by rw [Bool.eq_iff_iff, h2, g2], rfl⟩
theorem fewP_iff {ds : List De} {cs : List Co} (h : fewP ds cs = true) : ds.length ≤ 7 ∧ cs.length ≤ 8 ∧ ∀ d ∈ ds, d.eds.length ≤ 20 := by
  simp only [fewP, fewH, Bool.and_eq_true, decide_eq_true_eq] at h
  obtain ⟨⟨⟨⟨h1, h2⟩, h3⟩, h4⟩, h5⟩ := h
  refine ⟨h4, h5, fun d hd => ?_⟩
  rw [List.take_of_length_le (by omega)] at h1
  simpa using List.all_eq_true.1 h1 d hd
/-- Usable demands, copies, hall. -/
def usableB (ds : List De) (cs : List Co) (hall : Int) : Bool := fewP ds cs && (validB ds cs && inR 0 99 hall)
set_option maxRecDepth 100000 in
set_option maxHeartbeats 4000000 in
theorem usable_any (a a2 : Option Addr) (cap cap2 : Nat) (ds : List De) (cs : List Co) (hall : Int) (w : World) (hl : ds.length ≤ 9223372036854775807) (hl2 : cs.length ≤ 9223372036854775807) (he : ∀ d ∈ ds, d.eds.length ≤ 9223372036854775807) (hm : DeAt w a ds) (hc : CoAt w a2 cs) :
    Calls Tryz.prog 18 #[.slice a ds.length cap, .slice a2 cs.length cap2, .int .i64 hall] w fun e w' => e = .returned (.bool (usableB ds cs hall)) ∧ RowKit.Below w.heap.size w w' := by
  have HM := Lib.hid hm; have HC := Lib.hid hc; have HE := Lib.hid he
  clear hm hc he
  go_enter Tryz.func18, Tryz.ntmps18
  go_wp2_with (fail)
  refine (RFewP_any a a2 cap cap2 ds cs w hl hl2 HM.out HE.out).mono ?_
  rintro e w1 ⟨rfl, rfl⟩
  generalize hF : fewP ds cs = F at *
  have HF := Lib.hid hF
  cases F
  · clear hF
    go_wp2
    go_ret
    exact ⟨by rw [usableB, HF.out]; rfl, RowKit.Below.refl _ _⟩
  obtain ⟨f1, f2, f3⟩ := fewP_iff hF
  have HE3 := Lib.hid f3
  clear hF f3
  go_wp2_with (fail)
  refine (RValidH_any a a2 cap cap2 ds cs w (by omega) (by omega) (fun d hd => by have := HE3.out d hd; omega) HM.out HC.out).mono ?_
  rintro e w1 ⟨rfl, hb⟩
  have HB := Lib.hid hb; clear hb
  generalize hV : validB ds cs = V at *
  have HV := Lib.hid hV; clear hV
  cases V
  · go_wp2
    go_ret
    exact ⟨by rw [usableB, HF.out, HV.out]; rfl, HB.out⟩
  by_cases h0 : 0 ≤ hall
  · by_cases h9 : hall ≤ 99
    · have hb1 : inR 0 99 hall = true := by simp [inR, h0, h9]
      have HI := Lib.hid hb1; clear hb1
      go_wp2
      go_ret
      exact ⟨by rw [usableB, HF.out, HV.out, HI.out]; simp <;> omega, HB.out⟩
    · have hb1 : inR 0 99 hall = false := by simp [inR, h0, h9]
      have HI := Lib.hid hb1; clear hb1
      go_wp2
      go_ret
      exact ⟨by rw [usableB, HF.out, HV.out, HI.out]; simp <;> omega, HB.out⟩
  · have hb1 : inR 0 99 hall = false := by simp [inR, h0]
    have HI := Lib.hid hb1; clear hb1
    go_wp2
    go_ret
    exact ⟨by rw [usableB, HF.out, HV.out, HI.out]; simp <;> omega, HB.out⟩
theorem says_len {P : List (List Int) → List Nat → Prop} {ds : List De} {cs : List Co} {hall : Int} {gl : List Gv} {rl : List Int} {ok : Bool} {err : Int} (h : Says P ds cs hall gl rl ok err) : gl.length ≤ ds.length ∧ rl.length ≤ ds.length := by
  rcases h with ⟨_, rfl, rfl, _⟩ | ⟨_, _, rfl, rfl, _⟩ | ⟨_, _, rfl, _, _, l, rfl, _⟩
  · simp
  · exact ⟨by simp, answer_le⟩
  · rw [planL_len]; simp
theorem usable_iff {ds : List De} {cs : List Co} {hall : Int} (h : usableB ds cs hall = true) : ds.length ≤ 7 ∧ cs.length ≤ 8 ∧ (∀ d ∈ ds, d.eds.length ≤ 1000) ∧ validB ds cs = true ∧ (validB ds cs && inR 0 99 hall) = true := by
  rw [usableB, Bool.and_eq_true] at h
  obtain ⟨h1, h2⟩ := h
  obtain ⟨f1, f2, f3⟩ := fewP_iff h1
  refine ⟨f1, f2, fun d hd => by have := f3 d hd; omega, ?_, h2⟩
  rw [Bool.and_eq_true] at h2; exact h2.1
theorem ref_said {ds : List De} {cs : List Co} {ids : List Int} {b : Bool} {err : Int} (h : RefSays ds cs ids b err) (hv : validB ds cs = true) : err = 0 ∧ (b = true ↔ RefuP ds cs ids) := by
  rcases h with ⟨h1, _⟩ | ⟨_, h1, h2⟩
  · rw [h1] at hv; cases hv
  · exact ⟨h1, h2⟩
theorem said_ok {ds : List De} {cs : List Co} {hall : Int} {gl : List Gv} {rl : List Int} {ok : Bool} (h : Said ds cs hall gl rl ok) (hok : ok = true) : metB cs ds = true := by
  rcases h with ⟨_, _, _, h⟩ | ⟨h, _⟩
  · rw [h] at hok; cases hok
  · exact h
theorem some_nodup {ds : List De} {ids : List Int} (hn : (ds.map De.id).Nodup) (h : SomeTo ds ids ids.length) : (pickD ds ids).Nodup := by
  have hin : ∀ x ∈ ids, x ∈ ds.map De.id := fun x hx => by
    obtain ⟨j, hj, rfl⟩ := List.mem_iff_getElem.1 hx
    have h1 := (h j hj hj).1
    cases hw : withL ds ids[j] with
    | nil => rw [hw] at h1; simp at h1
    | cons d l =>
      have : d ∈ withL ds ids[j] := by rw [hw]; simp
      rw [withL, List.mem_filter] at this
      exact List.mem_map.2 ⟨d, this.1, by simpa using this.2⟩
  have hup : ∀ (j i : Nat) (hj : j < ids.length) (hij : i < j), ids[i]'(by omega) < ids[j] := by
    intro j
    induction j with
    | zero => intro i _ hi; omega
    | succ j ih =>
      intro i hj hi
      have h1 := (h (j + 1) hj hj).2 (by omega)
      simp only [Nat.add_sub_cancel] at h1
      by_cases e : i = j
      · subst e; exact h1
      · have := ih i (by omega) (by omega); omega
  refine nodup_of_map (f := De.id) ?_
  rw [pick_ids hn hin, List.Nodup, List.pairwise_iff_getElem]
  intro i j hi hj hij e
  have := hup j i hj hij
  omega
/-- A right refusal: there is no plan. -/
theorem refu_not {ds : List De} {cs : List Co} {ids : List Int} (h : RefuP ds cs ids) (hv : validB ds cs = true) : metB cs ds = false := by
  have v := vd_of hv
  obtain ⟨h1, h2⟩ := valid_nodup hv
  cases hq : metB cs ds
  · rfl
  · have := metB_mono h1 h2 (some_nodup v.nd h.1) h2 (fun d hd => pick_sub hd) (fun _ h => h) hq
    rw [h.2.1] at this; cases this
theorem named_vv {ds : List De} {cs : List Co} {hall : Int} (hv : validB ds cs = true) (hvv : (validB ds cs && inR 0 99 hall) = true) : (validB (namedL cs ds) cs && inR 0 99 hall) = true := by
  rw [Bool.and_eq_true] at *
  exact ⟨named_valid hv, hvv.2⟩
/-- The contract of plan.Refuses. -/
def RefusesC : Prop := ∀ (a a2 a3 : Option Addr) (cap cap2 cap3 : Nat) (ds : List De) (cs : List Co) (ids : List Int) (w : World), ds.length ≤ 1000 → cs.length ≤ 1000 → ids.length ≤ 200 → (∀ d ∈ ds, d.eds.length ≤ 1000) → DeAt w a ds → CoAt w a2 cs → InAt w a3 ids →
  Calls Tryz.prog 16 #[.slice a ds.length cap, .slice a2 cs.length cap2, .slice a3 ids.length cap3] w (RefRes ds cs ids w)
theorem sum_take_next {l : List Gv} {k : Nat} (h : k < l.length) : totG (l.take (k + 1)) = totG (l.take k) + l[k].2.2 := by
  unfold totG
  rw [List.take_succ_eq_append_getElem h, List.map_append, List.sum_append]; simp
set_option maxRecDepth 100000 in
set_option maxHeartbeats 4000000 in
theorem total_any (a : Option Addr) (n cap : Nat) (l : List Gv) (w : World) (hn : n = l.length) (hl : n ≤ 1000) (hb : ∀ g ∈ l, 0 ≤ g.2.2 ∧ g.2.2 ≤ 1000000) (hg : GvAt w a l) :
    Calls Tryz.prog 21 #[.slice a n cap] w fun e w' => e = .returned (.int .i64 (totG l)) ∧ RowKit.Below w.heap.size w w' := by
  subst hn
  have HG := Lib.hid hg; have HD := Lib.hid hb
  clear hg hb
  go_enter Tryz.func21, Tryz.ntmps21
  go_wp2
  go_loopw [3, 8] (fun s i wr => ∃ k : Nat, k ≤ l.length ∧ i = .int .i64 k ∧ s = .int .i64 (totG (l.take k)) ∧ 0 ≤ totG (l.take k) ∧ totG (l.take k) ≤ 1000000 * k ∧ RowKit.Below w.heap.size w wr) (fun _ i _ => l.length - (intOf i).toNat)
  case atStart => exact ⟨0, Nat.zero_le _, rfl, rfl, by simp [totG], by simp [totG], RowKit.Below.refl _ _⟩
  case round =>
    obtain ⟨k, hk, rfl, rfl, h0, h1, hb⟩ := hrel
    have HB := Lib.hid hb; clear hb
    by_cases hlt : k < l.length
    · obtain ⟨b, off, rfl, d0, d1, d2⟩ := HG.out.get k hlt
      have g0 := keepE d0 HB.out; have g1 := keepE d1 HB.out; have g2 := keepE d2 HB.out
      have hd := HD.out l[k] (List.getElem_mem _)
      have HN := Lib.hid (sum_take_next hlt)
      generalize l[k] = g at *
      generalize totG (l.take k) = T at *
      obtain ⟨x, y, z⟩ := g
      simp only at hd g0 g1 g2 HN
      have HB2 := Lib.hid (HB.out.trans ((below_box (w := wr) (.cells #[.int .i64 x, .int .i64 y, .int .i64 z] 42)).mono HB.out.size))
      clear d0 d1 d2
      go_wp2
      go_roundw
      case rel => exact ⟨k + 1, by omega, by go_num, by rw [HN.out], by rw [HN.out]; omega, by rw [HN.out]; omega, HB2.out⟩
      case measure => simp [intOf]; omega
    · have hke : k = l.length := by omega
      have HK := Lib.hid hke; clear hke
      have HT := Lib.hid (show totG (l.take k) = totG l by rw [HK.out, List.take_length])
      generalize totG (l.take k) = T at *
      go_wp2
      go_ret
      exact ⟨ret_int HT.out, HB.out⟩
/-- A demand of the examples. -/
def dem (w : World) (id part : Int) : De := ⟨id, part, 1, some ⟨w.heap.size + 1, 0, none⟩, 1, [3]⟩
theorem dem_ok {id part : Int} {a : Option Addr} {w : World} (h : InAt w a [3]) : (⟨id, part, 1, a, 1, [3]⟩ : De).Ok w := ⟨⟨Nat.le_refl _, fun e => by subst e; obtain ⟨_, _, e, _⟩ := h 0 [.int .i64 3] rfl; cases e⟩, h⟩
set_option maxRecDepth 100000 in
set_option maxHeartbeats 4000000 in
theorem demand_any (id part : Int) (w : World) : Calls Tryz.prog 24 #[.int .i64 id, .int .i64 part] w fun e w' => ∃ a, e = .returned (.agg #[.int .i64 id, .int .i64 part, .int .i64 1, .slice a 1 1]) ∧ (⟨id, part, 1, a, 1, [3]⟩ : De).Ok w' ∧ RowKit.Below w.heap.size w w' := by
  go_enter Tryz.func24, Tryz.ntmps24
  go_wp2
  have hx : ((w.alloc (.cells #[.int .i64 id, .int .i64 part, .int .i64 1, .slice (some ⟨w.heap.size + 1, 0, none⟩) 1 1] 46)).alloc (.cells #[.int .i64 3] 3)).heap[w.heap.size]? = some (.cells #[.int .i64 id, .int .i64 part, .int .i64 1, .slice (some ⟨w.heap.size + 1, 0, none⟩) 1 1] 46) := up_alloc (heap_alloc_new _ _) _
  have hcR := box_cells hx
  have hi : InAt ((w.alloc (.cells #[.int .i64 id, .int .i64 part, .int .i64 1, .slice (some ⟨w.heap.size + 1, 0, none⟩) 1 1] 46)).alloc (.cells #[.int .i64 3] 3)) (some ⟨w.heap.size + 1, 0, none⟩) [3] := inAt_new _ [3] _ (by simp)
  refine bodyPost_ret (v := .agg #[.int .i64 id, .int .i64 part, .int .i64 1, .slice (some ⟨w.heap.size + 1, 0, none⟩) 1 1]) (by simp [results, Tryz.results24, go_sem, hcR]) rfl ?_
  exact ⟨_, rfl, dem_ok hi, ((RowKit.Below.refl _ _).alloc (Nat.le_refl _) _).alloc (by simp) _⟩
end Go.Proofs.YtehdhbnbajfanaaGreat


/- The examples at the head of the laws on plans, by themselves. -/
namespace Go.Proofs.YtehdhbnbajfanaaGreat
set_option linter.unusedSimpArgs false
set_option linter.unusedVariables false
open Go.RowKit Go.Sort
open Classical

/-- Can demands be met? Reckoned. -/
def metC : List De → List Co → Bool
  | [], _ => true
  | d :: ds, cs => (List.range cs.length).any fun k => decide (0 ≤ costI d (cs.getD k ⟨0, 0, 0, 0⟩) 0) && metC ds (cs.eraseIdx k)
theorem metC_iff {ds : List De} {cs : List Co} (hn : ds.Nodup) (hc : cs.Nodup) : metC ds cs = true ↔ ∃ g, Way ds cs 0 g := by
  induction ds generalizing cs with
  | nil => exact ⟨fun _ => ⟨fun _ => ⟨0, 0, 0, 0⟩, ⟨(fun d h => by cases h), (fun d h => by cases h), (fun d h => by cases h)⟩⟩, fun _ => rfl⟩
  | cons d ds ih =>
    rw [List.nodup_cons] at hn
    have hce : ∀ k, (cs.eraseIdx k).Nodup := fun k => (List.eraseIdx_sublist cs k).nodup hc
    rw [metC, List.any_eq_true]
    constructor
    · rintro ⟨k, hk, h⟩
      rw [Bool.and_eq_true, decide_eq_true_eq] at h
      have hk : k < cs.length := List.mem_range.1 hk
      obtain ⟨h1, h2⟩ := h
      have e : cs.getD k ⟨0, 0, 0, 0⟩ = cs[k] := by simp [List.getD, hk]
      rw [e] at h1
      obtain ⟨g, hg⟩ := (ih hn.2 (hce k)).1 h2
      have hne : ∀ x ∈ ds, x ≠ d := fun x hx e => hn.1 (e ▸ hx)
      have hgm : ∀ x ∈ ds, g x ∈ cs ∧ g x ≠ cs[k] := fun x hx => by
        obtain ⟨i, hi, hik, e⟩ := List.mem_eraseIdx_iff_getElem.1 (hg.mem x hx)
        exact ⟨e ▸ List.getElem_mem _, fun e2 => hik (nodup_idx hc hi hk (e.trans e2))⟩
      refine ⟨fun x => if x = d then cs[k] else g x, ⟨fun x hx => ?_, fun x hx => ?_, fun x hx y hy e => ?_⟩⟩
      · rcases List.mem_cons.1 hx with rfl | hx
        · simp
        · simp only [if_neg (hne x hx)]; exact (hgm x hx).1
      · rcases List.mem_cons.1 hx with rfl | hx
        · simpa using h1
        · simp only [if_neg (hne x hx)]; exact hg.can x hx
      · by_cases h3 : x = d <;> by_cases h4 : y = d
        · rw [h3, h4]
        · have hy2 := (List.mem_cons.1 hy).resolve_left h4
          simp only [if_pos h3, if_neg h4] at e
          exact absurd e.symm (hgm y hy2).2
        · have hx2 := (List.mem_cons.1 hx).resolve_left h3
          simp only [if_neg h3, if_pos h4] at e
          exact absurd e (hgm x hx2).2
        · have hx2 := (List.mem_cons.1 hx).resolve_left h3
          have hy2 := (List.mem_cons.1 hy).resolve_left h4
          simp only [if_neg h3, if_neg h4] at e
          exact hg.inj x hx2 y hy2 e
    · rintro ⟨g, hg⟩
      obtain ⟨k, hk, e⟩ := List.mem_iff_getElem.1 (hg.mem d (by simp))
      refine ⟨k, List.mem_range.2 hk, ?_⟩
      rw [Bool.and_eq_true, decide_eq_true_eq]
      have e2 : cs.getD k ⟨0, 0, 0, 0⟩ = cs[k] := by simp [List.getD, hk]
      refine ⟨by rw [e2, e]; exact hg.can d (by simp), (ih hn.2 (hce k)).2 ⟨g, ⟨fun x hx => ?_, fun x hx => hg.can x (List.mem_cons_of_mem _ hx), fun x hx y hy => hg.inj x (List.mem_cons_of_mem _ hx) y (List.mem_cons_of_mem _ hy)⟩⟩⟩
      obtain ⟨i, hi, e3⟩ := List.mem_iff_getElem.1 (hg.mem x (List.mem_cons_of_mem _ hx))
      refine List.mem_eraseIdx_iff_getElem.2 ⟨i, hi, fun e4 => ?_, e3⟩
      subst e4
      exact hn.1 (hg.inj x (List.mem_cons_of_mem _ hx) d (by simp) (e3.symm.trans e) ▸ hx)
theorem metB_C {ds : List De} {cs : List Co} (hn : ds.Nodup) (hc : cs.Nodup) : metB cs ds = metC ds cs := by
  rw [Bool.eq_iff_iff, metB_way 0 hn hc, metC_iff hn hc]
def cs0 : List Co := [⟨5, 7, 3, 4⟩, ⟨6, 7, 3, 2⟩]
def dd (id part : Int) (a : Option Addr) : De := ⟨id, part, 1, a, 1, [3]⟩
theorem cs0_nd : cs0.Nodup := nodup_of_map (f := Co.id) (by decide)
theorem met_ex {ds : List De} {b : Bool} (hn : (ds.map De.id).Nodup) (h : metC ds cs0 = b) : metB cs0 ds = b := (metB_C (nodup_of_map hn) cs0_nd).trans h
variable (a1 a2 a4 : Option Addr)
theorem ex1 : metB cs0 [dd 1 7 a1, dd 2 7 a2] = true := met_ex (show [(1 : Int), 2].Nodup by decide) rfl
theorem ex2 : metB cs0 [dd 1 7 a1, dd 2 7 a2, dd 4 7 a4] = false := met_ex (show [(1 : Int), 2, 4].Nodup by decide) rfl
theorem ex3 : metB cs0 [dd 1 7 a1, dd 2 7 a2, dd 4 8 a4] = false := met_ex (show [(1 : Int), 2, 4].Nodup by decide) rfl
theorem down_124 : downL [1, 2, 4] = [4, 2, 1] := (down_eq (l := [1, 2, 4]) (s := [4, 2, 1]) (by decide) (by decide) (by decide)).symm
theorem left2 : leftL cs0 [dd 1 7 a1, dd 2 7 a2, dd 4 7 a4] = [dd 1 7 a1, dd 2 7 a2, dd 4 7 a4] := by
  show refuL cs0 (downL [1, 2, 4]) _ = _
  rw [down_124]
  refine refu_keep fun x hx => ?_
  simp only [List.mem_cons, List.not_mem_nil, or_false] at hx
  rcases hx with rfl | rfl | rfl
  · exact met_ex (show [(1 : Int), 2].Nodup by decide) rfl
  · exact met_ex (show [(1 : Int), 4].Nodup by decide) rfl
  · exact met_ex (show [(2 : Int), 4].Nodup by decide) rfl
theorem answer2 : answerL cs0 [dd 1 7 a1, dd 2 7 a2, dd 4 7 a4] = [1, 2, 4] := by
  rw [answerL, left2]
  show (downL [1, 2, 4]).reverse = _
  rw [down_124]; rfl
theorem left3 : leftL cs0 [dd 1 7 a1, dd 2 7 a2, dd 4 8 a4] = [dd 4 8 a4] := by
  show refuL cs0 (downL [1, 2, 4]) _ = _
  rw [down_124]
  have h1 : refu1 cs0 [dd 1 7 a1, dd 2 7 a2, dd 4 8 a4] 4 = [dd 1 7 a1, dd 2 7 a2, dd 4 8 a4] := by
    rw [refu1, show lessL [dd 1 7 a1, dd 2 7 a2, dd 4 8 a4] 4 = [dd 1 7 a1, dd 2 7 a2] from rfl, ex1]; rfl
  have h2 : refu1 cs0 [dd 1 7 a1, dd 2 7 a2, dd 4 8 a4] 2 = [dd 1 7 a1, dd 4 8 a4] := by
    rw [refu1, show lessL [dd 1 7 a1, dd 2 7 a2, dd 4 8 a4] 2 = [dd 1 7 a1, dd 4 8 a4] from rfl, met_ex (ds := [dd 1 7 a1, dd 4 8 a4]) (b := false) (show [(1 : Int), 4].Nodup by decide) rfl]; rfl
  have h3 : refu1 cs0 [dd 1 7 a1, dd 4 8 a4] 1 = [dd 4 8 a4] := by
    rw [refu1, show lessL [dd 1 7 a1, dd 4 8 a4] 1 = [dd 4 8 a4] from rfl, met_ex (ds := [dd 4 8 a4]) (b := false) (show [(4 : Int)].Nodup by decide) rfl]; rfl
  simp only [refuL, List.foldl_cons, List.foldl_nil]
  rw [h1, h2, h3]
theorem answer3 : answerL cs0 [dd 1 7 a1, dd 2 7 a2, dd 4 8 a4] = [4] := by
  rw [answerL, left3]
  show (downL [4]).reverse = _
  rw [show downL [4] = [4] from (down_eq (l := [4]) (s := [4]) (by decide) (List.Perm.refl _) (by decide)).symm]; rfl
theorem valid1 : validB [dd 1 7 a1, dd 2 7 a2] cs0 = true := rfl
theorem valid2 : validB [dd 1 7 a1, dd 2 7 a2, dd 4 7 a4] cs0 = true := rfl
theorem valid3 : validB [dd 1 7 a1, dd 2 7 a2, dd 4 8 a4] cs0 = true := rfl
theorem refu2 : RefuP [dd 1 7 a1, dd 2 7 a2, dd 4 7 a4] cs0 [1, 2, 4] := by
  have := named_refu (cs := cs0) (ds := [dd 1 7 a1, dd 2 7 a2, dd 4 7 a4]) (show [(1 : Int), 2, 4].Nodup by decide) cs0_nd (ex2 a1 a2 a4)
  rwa [answer2] at this
theorem refu3 : ¬ RefuP [dd 1 7 a1, dd 2 7 a2, dd 4 7 a4] cs0 [1, 2] := fun h => by
  have h2 := h.2.1
  rw [show pickD [dd 1 7 a1, dd 2 7 a2, dd 4 7 a4] [1, 2] = [dd 1 7 a1, dd 2 7 a2] from rfl, ex1] at h2
  cases h2
theorem cost1 : costM [dd 1 7 a1, dd 2 7 a2] cs0 4 = [[0, 5], [0, 5]] := rfl
theorem list_two {l : List Nat} (h : l.length = 2) : l = [l.getD 0 0, l.getD 1 0] := by
  match l, h with
  | [a, b], _ => rfl
theorem plan1 {l : List Nat} (h : BTo (costM [dd 1 7 a1, dd 2 7 a2] cs0 4) l) : planL [dd 1 7 a1, dd 2 7 a2] cs0 4 l = [(1, 5, 0), (2, 6, 5)] := by
  rw [cost1] at h
  obtain ⟨t, h⟩ := h
  obtain ⟨u, v, _, b, _⟩ := best_has h rfl
  have hlen : l.length = 2 := b.len
  have hm := b.tight.mt
  have h0 := hm.lt 0 (by decide); have h1 := hm.lt 1 (by decide)
  have hne : l.getD 0 0 ≠ l.getD 1 0 := fun e => by have := hm.inj 0 1 (by decide) (by decide) e; cases this
  have hg : Mt (may (cc [[0, 5], [0, 5]])) (fun i => i < 2) (wideL [[0, 5], [0, 5]]) (fun i => i) :=
    ⟨fun i hi => hi, fun i hi => by
      match i, hi with
      | 0, _ => rfl
      | 1, _ => rfl, fun i j _ _ e => e⟩
  have hcost : costOf (cc [[0, 5], [0, 5]]) 2 (fun i => i) ≤ totL [[0, 5], [0, 5]] l := by
    rw [totL_cost b.len]
    show (0 : Int) + 0 + 5 ≤ 0 + cc [[0, 5], [0, 5]] 0 (l.getD 0 0) + cc [[0, 5], [0, 5]] 1 (l.getD 1 0)
    generalize l.getD 0 0 = x at *
    generalize l.getD 1 0 = y at *
    have hx : x < 2 := h0
    have hy : y < 2 := h1
    have e00 : cc [[0, 5], [0, 5]] 0 0 = 0 := rfl
    have e01 : cc [[0, 5], [0, 5]] 0 1 = 5 := rfl
    have e10 : cc [[0, 5], [0, 5]] 1 0 = 0 := rfl
    have e11 : cc [[0, 5], [0, 5]] 1 1 = 5 := rfl
    have hc : (x = 0 ∧ y = 1) ∨ (x = 1 ∧ y = 0) := by omega
    rcases hc with ⟨rfl, rfl⟩ | ⟨rfl, rfl⟩
    · rw [e00, e11]; decide
    · rw [e01, e10]; decide
  have hmin := b.min _ (b.tightOf hg hcost) 0 (by decide) fun j hj => by omega
  have hx : l.getD 0 0 = 0 := by simpa using hmin
  have hy : l.getD 1 0 = 1 := by
    have h1 : l.getD 1 0 < 2 := h1
    omega
  rw [list_two hlen, hx, hy]; rfl
end Go.Proofs.YtehdhbnbajfanaaGreat
