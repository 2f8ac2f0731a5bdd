/- The contract of loan.Held. -/
import Derived.Test.YtokhligpjbdhcaaLoanLay
import Derived.OwnWalkIn
import Derived.TacticsInMore
import Derived.Maps.RangeWalk
namespace Go.Proofs.Ytokhligpjbdhcaa
set_option linter.unusedSimpArgs false
set_option linter.unusedVariables false
open Go.RowKit Go.Sort Go.Maps Go.Shelf Go.WideElems

/-- An entry as the kit's words read it. -/
def litE (p : Int × Value) : Lit × DataW Unit := (.int .i64 p.1, match p.2 with | .int _ v => .lit (.int .i64 v) | _ => .nil)
def wfE (p : Int × Value) : Prop := (Lit.int .i64 p.1).wf = true ∧ ∃ c, p.2 = .int .i64 c ∧ (Lit.int .i64 c).wf = true
theorem rd_litE {P : Program} {k e : TypeId} (hk : P.underlying k = some (.int .i64)) (he : P.underlying e = some (.int .i64)) (p : Int × Value) (hp : wfE p) (x : MapEntry) (h1 : x.key = encI p.1) (h2 : x.val = p.2) :
    rd (H := Unit) P k (plainElem P e) x = some (litE p) := by
  obtain ⟨a, c, hc, hw⟩ := hp
  unfold WideElems.rd
  have e1 : keyOf P k x.key = some (.int .i64 p.1) := by rw [h1]; simp [keyOf, hk, mapKey, encI, a]
  have e2 : plainElem (H := Unit) P e x.val = some (.lit (.int .i64 c), []) := by rw [h2, hc]; exact plainElem_int he hw
  rw [e1, e2]
  unfold litE
  rw [hc]
  rfl
theorem rg_litE {P : Program} {k e : TypeId} (hk : P.underlying k = some (.int .i64)) (he : P.underlying e = some (.int .i64)) (E : List MapEntry) (m : List (Int × Value)) (hm : E.map (fun e => (e.key, e.val)) = m.map (fun p => (encI p.1, p.2))) (hw : ∀ p ∈ m, wfE p) :
    E.map (rg (H := Unit) P k (plainElem P e)) = m.map litE ∧ (∀ x ∈ E, ∃ y, rd (H := Unit) P k (plainElem P e) x = some y) ∧ E.map (·.key) = m.map (fun p => encI p.1) := by
  induction E generalizing m with
  | nil =>
    cases m with
    | nil => simp
    | cons p m => simp at hm
  | cons x E ih =>
    cases m with
    | nil => simp at hm
    | cons p m =>
      simp only [List.map_cons, List.cons.injEq, Prod.mk.injEq] at hm
      obtain ⟨⟨h1, h2⟩, h3⟩ := hm
      obtain ⟨i1, i2, i3⟩ := ih m h3 fun q hq => hw q (by simp [hq])
      have hr := rd_litE hk he p (hw p (by simp)) x h1 h2
      refine ⟨by rw [List.map_cons, List.map_cons, i1, rg_of hr], ?_, by rw [List.map_cons, List.map_cons, i3, h1]⟩
      intro y hy
      rcases List.mem_cons.1 hy with rfl | hy
      · exact ⟨_, hr⟩
      · exact i2 y hy
theorem mapOwn {P : Program} {k e : TypeId} (hk : P.underlying k = some (.int .i64)) (he : P.underlying e = some (.int .i64)) {w : World} {r : Nat} {m : List (Int × Value)} (h : MapAt w encI r m) (hw : ∀ p ∈ m, wfE p) (hlen : m.length ≤ maxLen) :
    ∃ ds : List (Lit × DataW Unit), w.ownsMap P k (plainElem P e) r m.length (.map ds) ∧ ds.Perm (m.map litE) := by
  obtain ⟨es, clock, hb, hm, hbn, hnd⟩ := h.ex
  obtain ⟨i1, i2, i3⟩ := rg_litE hk he es.toList m hm hw
  have hsz : es.size = m.length := by
    have := congrArg List.length hm
    simpa using this
  refine ⟨_, ⟨es, clock, hb, ⟨by omega, ⟨hbn, hnd, ?_⟩, i2⟩, by omega, rfl⟩, ?_⟩
  · rw [i3]
    have := h.nodup
    unfold List.Nodup at *
    rw [List.pairwise_map] at *
    exact this.imp fun hab e => hab (by simpa [encI] using e)
  · rw [i1]
    exact WideShapes.sorted_perm _

theorem mget_mem {κ : Type} [DecidableEq κ] {m : List (κ × Value)} (hn : (m.map Prod.fst).Nodup) (k : κ) (v : Value) : mget m k = some v ↔ (k, v) ∈ m := by
  induction m with
  | nil => simp [mget_nil]
  | cons p m ih =>
    simp only [List.map_cons, List.nodup_cons] at hn
    rw [mget_cons]
    by_cases e : p.1 = k
    · subst e
      rw [if_pos rfl]
      constructor
      · intro h; cases h; simp
      · intro h
        rcases List.mem_cons.1 h with h | h
        · rw [← h]
        · exact absurd (List.mem_map.2 ⟨_, h, rfl⟩) hn.1
    · rw [if_neg e, ih hn.2]
      constructor
      · intro h; exact List.mem_cons_of_mem _ h
      · intro h
        rcases List.mem_cons.1 h with h | h
        · rw [← h] at e; exact absurd rfl e
        · exact h

theorem shOf_len (l : List Lo) : (shOf l).hm.length ≤ l.length := by
  have g : ∀ (l : List Lo) (z : Sh), (l.foldl shStep z).hm.length ≤ z.hm.length + l.length := by
    intro l
    induction l with
    | nil => intro z; simp
    | cons x l ih =>
      intro z
      rw [List.foldl_cons, List.length_cons]
      refine Nat.le_trans (ih _) ?_
      have : (shStep z x).hm.length ≤ z.hm.length + 1 := by
        unfold shStep shAdd
        split
        · split
          · simp only [mput]; split <;> simp
          · split
            · simp only [mdel]; exact Nat.le_succ_of_le (List.length_filter_le _ _)
            · split <;> simp
        · simp
      omega
  have := g l ⟨[], []⟩
  simpa [shOf] using this

theorem hold_le (l : List Lo) (h : ∀ x ∈ l, x.k = 1 → x.st ≤ 1000000) (s : Int) : hold l s ≤ 1000000 := by
  have g : ∀ (l : List Lo) (z : Int), z ≤ 1000000 → (∀ x ∈ l, x.k = 1 → x.st ≤ 1000000) → l.foldl (fun acc x => if x.s = s then (if x.k = 1 then x.st else 0) else acc) z ≤ 1000000 := by
    intro l
    induction l with
    | nil => intro z hz _; exact hz
    | cons x l ih =>
      intro z hz hx
      rw [List.foldl_cons]
      refine ih _ ?_ fun y hy => hx y (by simp [hy])
      split
      · split
        · exact hx x (by simp) ‹_›
        · omega
      · exact hz
  exact g l 0 (by omega) h
theorem loanOk_top {x : Lo} (h : loanOk x = true) : (1 ≤ x.s ∧ x.s ≤ 1000000) ∧ (x.k = 1 → x.st ≤ 1000000) := by
  unfold loanOk at h
  simp only [Bool.and_eq_true] at h
  obtain ⟨⟨_, h1⟩, h2⟩ := h
  refine ⟨by simpa [inB] using h1, fun hk => ?_⟩
  simp [hk, inB] at h2
  exact h2.1.2
theorem wf_small {n : Int} (h : 0 ≤ n ∧ n ≤ 1000000000) : (Lit.int .i64 n).wf = true := by
  simp [Lit.wf, IntKind.min, IntKind.max, IntKind.bits, IntKind.signed]; omega
theorem hm_wf {l : List Lo} (hv : loansOk l = true) (time : Int) (hn : ((shOf (upTo l time)).hm.map Prod.fst).Nodup) : ∀ p ∈ (shOf (upTo l time)).hm, wfE p := by
  rintro ⟨x, v⟩ hp
  have hg := (mget_mem hn x v).2 hp
  rw [(shInv_upTo hv time x).1] at hg
  split at hg
  · rename_i h0
    obtain rfl : Value.int .i64 (hold (upTo l time) x) = v := by simpa using hg
    have hx : 1 ≤ x ∧ x ≤ 1000000 := by
      refine Classical.byContradiction fun hne => ?_
      have := hold_none (upTo l time) x (fun y hy e => hne (by rw [← e]; exact (loanOk_top (loansOk_mem hv y (upTo_mem y hy))).1))
      omega
    have hh := hold_le (upTo l time) (fun y hy => (loanOk_top (loansOk_mem hv y (upTo_mem y hy))).2) x
    exact ⟨wf_small (by omega), _, rfl, wf_small (by omega)⟩
  · cases hg

/-- What is struck: whoever is no stand's. -/
def notStand (stand : Int) (_ : Lit) : DataW Unit → Bool
  | .lit (.int _ v) => decide (v ≠ stand)
  | _ => true
theorem kept_keys {m : List (Int × Value)} (hn : (m.map Prod.fst).Nodup) (hw : ∀ p ∈ m, wfE p) (stand : Int) {ds : List (Lit × DataW Unit)} (hp : ds.Perm (m.map litE)) {ks : List Int} (hk : ks.Perm (intKeys (Lib.deleteFuncD (notStand stand) (.map ds)))) :
    ks.Nodup ∧ ∀ x, x ∈ ks ↔ mget m x = some (.int .i64 stand) := by
  have e1 : intKeys (Lib.deleteFuncD (notStand stand) (.map ds)) = (ds.filter fun p => !notStand stand p.1 p.2).map fun p => Go.intOf p.1 := rfl
  rw [e1] at hk
  have hp2 : ks.Perm (((m.map litE).filter fun p => !notStand stand p.1 p.2).map fun p => Go.intOf p.1) := hk.trans ((hp.filter _).map _)
  rw [List.filter_map, List.map_map] at hp2
  have e2 : (m.filter ((fun p => !notStand stand p.1 p.2) ∘ litE)).map ((fun p => Go.intOf p.1) ∘ litE) = (m.filter ((fun p => !notStand stand p.1 p.2) ∘ litE)).map Prod.fst := by
    refine List.map_congr_left fun p _ => ?_
    rfl
  rw [e2] at hp2
  constructor
  · rw [hp2.nodup_iff]
    exact hn.sublist (List.filter_sublist.map _)
  · intro x
    rw [hp2.mem_iff, mget_mem hn, List.mem_map]
    constructor
    · rintro ⟨⟨a, v⟩, hq, rfl⟩
      obtain ⟨hq1, hq2⟩ := List.mem_filter.1 hq
      obtain ⟨_, c, hc, _⟩ := hw _ hq1
      simp only at hc
      subst hc
      have : c = stand := by simpa [litE, notStand] using hq2
      subst this
      exact hq1
    · intro hq
      exact ⟨_, List.mem_filter.2 ⟨hq, by simp [litE, notStand]⟩, rfl⟩

end Go.Proofs.Ytokhligpjbdhcaa
