/- Maps that a call makes for itself, told as lists of pairs: making, looking up, storing, deleting; keys of one plain type; no other condition. -/
import Derived.Test.YtkpgphadgomifaaOwn
import Derived.MapKept
import Derived.RangeFuncRecord
import Derived.Maps.OwnSet
namespace Go.Proofs.Ytkpgphadgomifaa
set_option linter.unusedSimpArgs false
set_option linter.unusedVariables false
open Go.RowKit Go.Sort

/-- What the model wants to know of a plain key. -/
structure KeyOk (P : Program) (K : TypeId) {κ : Type} [DecidableEq κ] (enc : κ → Value) : Prop where
  kind : ∃ d, P.underlying K = some d ∧ (∀ a b, Instr.sameNow d (enc a) (enc b) = some (decide (a = b)))
  bits : ∀ a, Instr.sameBits 10000 (enc a) (enc a) = true
  check : ∀ (a : κ) (b : Bool) (w : World), (Instr.checkKey b 10000 K (enc a)).run P w = .ok () w

section
variable {κ : Type} [DecidableEq κ] {enc : κ → Value} {P : Program} {w : World}

/-- Block r is a map of these entries, in the order in which they came. -/
structure MapAt (w : World) (enc : κ → Value) (r : Nat) (m : List (κ × Value)) : Prop where
  ex : ∃ es clock, w.heap[r]? = some (.map es clock) ∧ es.toList.map (fun e => (e.key, e.val)) = m.map (fun p => (enc p.1, p.2)) ∧ (∀ e ∈ es.toList, e.born < clock) ∧ (es.toList.map (·.born)).Nodup
  nodup : (m.map Prod.fst).Nodup

def mget (m : List (κ × Value)) (k : κ) : Option Value := (m.find? fun p => decide (p.1 = k)).map Prod.snd
def mput (m : List (κ × Value)) (k : κ) (v : Value) : List (κ × Value) := if (mget m k).isSome then m.map (fun p => if p.1 = k then (k, v) else p) else m ++ [(k, v)]
def mdel (m : List (κ × Value)) (k : κ) : List (κ × Value) := m.filter fun p => decide (p.1 ≠ k)

theorem mget_nil (k : κ) : mget [] k = none := rfl
theorem mget_cons (p : κ × Value) (m : List (κ × Value)) (k : κ) : mget (p :: m) k = if p.1 = k then some p.2 else mget m k := by
  unfold mget; rw [List.find?_cons]; by_cases h : p.1 = k <;> simp [h]
theorem mget_append (m r : List (κ × Value)) (k : κ) : mget (m ++ r) k = (mget m k).or (mget r k) := by
  induction m with
  | nil => simp [mget_nil]
  | cons p m ih => rw [List.cons_append, mget_cons, mget_cons, ih]; split <;> simp
theorem mget_map (m : List (κ × Value)) (k k' : κ) (v : Value) : mget (m.map fun p => if p.1 = k then (k, v) else p) k' = if k' = k then (mget m k).map (fun _ => v) else mget m k' := by
  induction m with
  | nil => simp [mget_nil]
  | cons p m ih =>
    rw [List.map_cons, mget_cons, mget_cons, mget_cons, ih]
    by_cases h : p.1 = k
    · by_cases h' : k' = k
      · simp [h, h']
      · have h'' : ¬ k = k' := fun e => h' e.symm
        simp [h, h', h'']
    · by_cases h' : k' = k
      · subst h'; simp [h]
      · simp [h, h']
theorem mget_mput (m : List (κ × Value)) (k k' : κ) (v : Value) : mget (mput m k v) k' = if k' = k then some v else mget m k' := by
  unfold mput
  split
  · rename_i h
    rw [mget_map]
    obtain ⟨x, hx⟩ := Option.isSome_iff_exists.1 h
    rw [hx]; rfl
  · rename_i h
    have h0 : mget m k = none := by simpa using h
    rw [mget_append, mget_cons, mget_nil]
    by_cases e : k' = k
    · subst e; simp [h0]
    · have e' : ¬ k = k' := fun x => e x.symm
      simp [e, e']
theorem mget_mdel (m : List (κ × Value)) (k k' : κ) : mget (mdel m k) k' = if k' = k then none else mget m k' := by
  unfold mdel
  induction m with
  | nil => simp [mget_nil]
  | cons p m ih =>
    rw [List.filter_cons]
    by_cases h : p.1 = k
    · rw [if_neg (by simp [h]), ih, mget_cons]
      by_cases e : k' = k
      · simp [e]
      · have e' : ¬ p.1 = k' := fun x => e (x.symm.trans h)
        simp [e, e']
    · rw [if_pos (by simp [h]), mget_cons, mget_cons, ih]
      by_cases e : k' = k
      · subst e; simp [h]
      · simp [e]
theorem mget_isSome (m : List (κ × Value)) (k : κ) : (mget m k).isSome = true ↔ k ∈ m.map Prod.fst := by
  induction m with
  | nil => simp [mget_nil]
  | cons p m ih =>
    rw [mget_cons]
    by_cases h : p.1 = k
    · simp [h]
    · have : ¬ k = p.1 := fun e => h e.symm
      rw [if_neg h, ih]; simp [this]
theorem mput_len (m : List (κ × Value)) (k : κ) (v : Value) : (mput m k v).length ≤ m.length + 1 := by
  unfold mput; split <;> simp
theorem mdel_len (m : List (κ × Value)) (k : κ) : (mdel m k).length ≤ m.length := List.length_filter_le _ _

omit [DecidableEq κ] in
theorem MapAt.lt {r : Nat} {m : List (κ × Value)} (h : MapAt w enc r m) : r < w.heap.size := by
  obtain ⟨es, c, hb, _⟩ := h.ex; exact (Array.getElem?_eq_some_iff.1 hb).1
omit [DecidableEq κ] in
theorem MapAt.below {w' : World} {r : Nat} {m : List (κ × Value)} (h : MapAt w enc r m) (hb : Below w.heap.size w w') : MapAt w' enc r m := by
  obtain ⟨⟨es, c, h1, h2⟩, h3⟩ := h; exact ⟨⟨es, c, blk_keep h1 hb, h2⟩, h3⟩
omit [DecidableEq κ] in
theorem MapAt.kept {w' : World} {r : Nat} {m : List (κ × Value)} {row : Option Nat} (h : MapAt w enc r m) (hg : w.grownBy w' row) (hne : row ≠ some r) : MapAt w' enc r m := by
  have hlt := h.lt
  obtain ⟨⟨es, c, h1, h2⟩, h3⟩ := h; exact ⟨⟨es, c, (hg.block r hlt (fun e => hne e.symm)).trans h1, h2⟩, h3⟩
omit [DecidableEq κ] in
theorem MapAt.new (w : World) (enc : κ → Value) : MapAt (w.alloc (.map #[] 0)) enc w.heap.size [] := ⟨⟨#[], 0, heap_alloc_new _ _, rfl, by simp, by simp⟩, by simp⟩

theorem map_eraseIdx {α β : Type} (f : α → β) (l : List α) (i : Nat) : (l.eraseIdx i).map f = (l.map f).eraseIdx i := by
  induction l generalizing i with
  | nil => rfl
  | cons x l ih => cases i with
    | zero => rfl
    | succ i => simp [ih]
/-- Where a key is. -/
def whereIs : List (κ × Value) → κ → Nat → Option (Nat × Value)
  | [], _, _ => none
  | p :: m, k, i => if k = p.1 then some (i, p.2) else whereIs m k (i + 1)
theorem whereIs_snd (m : List (κ × Value)) (k : κ) (i : Nat) : (whereIs m k i).map Prod.snd = mget m k := by
  induction m generalizing i with
  | nil => rfl
  | cons p m ih =>
    rw [mget_cons, whereIs]
    by_cases h : k = p.1
    · rw [if_pos h, if_pos h.symm]; rfl
    · rw [if_neg h, if_neg (fun e => h e.symm), ih]
theorem whereIs_get (m : List (κ × Value)) (k : κ) (i j : Nat) (v : Value) (h : whereIs m k i = some (j, v)) : ∃ t, j = i + t ∧ m[t]? = some (k, v) ∧ ∀ s, s < t → ∀ p, m[s]? = some p → p.1 ≠ k := by
  induction m generalizing i with
  | nil => cases h
  | cons p m ih =>
    rw [whereIs] at h
    by_cases e : k = p.1
    · rw [if_pos e] at h
      cases h
      exact ⟨0, rfl, by simp [e], fun s hs => by omega⟩
    · rw [if_neg e] at h
      obtain ⟨t, h1, h2, h3⟩ := ih _ h
      refine ⟨t + 1, by omega, by simpa using h2, fun s hs q hq => ?_⟩
      cases s with
      | zero => simp at hq; subst hq; exact fun x => e x.symm
      | succ s => exact h3 s (by omega) q (by simpa using hq)
theorem findNow_eq {d : TypeDesc} (hnow : ∀ a b, Instr.sameNow d (enc a) (enc b) = some (decide (a = b))) (k : κ) (es : List MapEntry) (m : List (κ × Value)) (h : es.map (fun e => (e.key, e.val)) = m.map (fun p => (enc p.1, p.2))) (i : Nat) :
    Instr.findNow d (enc k) es i = some (whereIs m k i) := by
  induction es generalizing m i with
  | nil => cases m with
    | nil => rfl
    | cons p m => simp at h
  | cons e es ih =>
    cases m with
    | nil => simp at h
    | cons p m =>
      simp only [List.map_cons, List.cons.injEq, Prod.mk.injEq] at h
      obtain ⟨⟨h1, h2⟩, h3⟩ := h
      rw [Instr.findNow, h1, hnow, whereIs]
      by_cases e' : k = p.1
      · simp [e', h2]
      · simp [e', ih m h3 (i + 1)]
theorem run_findKey {K : TypeId} (hk : KeyOk P K enc) (k : κ) (es : List MapEntry) (m : List (κ × Value)) (h : es.map (fun e => (e.key, e.val)) = m.map (fun p => (enc p.1, p.2))) (w : World) :
    (Instr.findKey K (enc k) es).run P w = .ok (whereIs m k 0) w := by
  obtain ⟨d, hd, hnow⟩ := hk.kind
  unfold Instr.findKey
  simp [run_underlying hd, findNow_eq hnow k es m h 0, Result.andThen]

/-- 'm[k]'. -/
theorem run_lookup_at {t K E : TypeId} (ht : P.underlying t = some (.map K E)) (hk : KeyOk P K enc) {z : Value} (hz : ∀ w, (zeroValue E).run P w = .ok z w) {r : Nat} {m : List (κ × Value)} (h : MapAt w enc r m) (k : κ) (ok : Bool) :
    (Instr.lookup t (.map (some r)) (enc k) ok).run P w = .ok (if ok then .tuple #[(mget m k).getD z, .bool (mget m k).isSome] else (mget m k).getD z) w := by
  obtain ⟨es, c, hb, he, _, _⟩ := h.ex
  have hf := run_findKey hk k es.toList m he w
  have hs := whereIs_snd m k 0
  cases hw : whereIs m k 0 with
  | none =>
    rw [hw] at hf hs
    have hs' : mget m k = none := hs.symm
    cases ok <;> simp [Instr.lookup, run_underlying ht, MapKept.run_getObj_map hb, hk.check, hf, hs', hz, Result.andThen]
  | some x =>
    obtain ⟨i, v⟩ := x
    rw [hw] at hf hs
    have hs' : mget m k = some v := hs.symm
    cases ok <;> simp [Instr.lookup, run_underlying ht, MapKept.run_getObj_map hb, hk.check, hf, hs', Result.andThen]
theorem run_lookup_nil {t K E : TypeId} (ht : P.underlying t = some (.map K E)) (hk : KeyOk P K enc) {z : Value} (hz : ∀ w, (zeroValue E).run P w = .ok z w) (k : κ) (ok : Bool) :
    (Instr.lookup t (.map none) (enc k) ok).run P w = .ok (if ok then .tuple #[z, .bool false] else z) w := by
  have hf := run_findKey hk k [] [] rfl w
  cases ok <;> simp [Instr.lookup, run_underlying ht, hk.check, hf, whereIs, hz, Result.andThen]

theorem grownBy_putObj (w : World) (r : Nat) (o : Obj) : w.grownBy { w with heap := w.heap.setIfInBounds r o } (some r) :=
  ⟨rfl, rfl, rfl, by simp, fun k _ hne => by simp only; rw [Array.getElem?_setIfInBounds_ne (fun e => hne (by rw [e]))]⟩

theorem map_set_entry (m : List (κ × Value)) (k : κ) (v v0 : Value) (i : Nat) (hi : m[i]? = some (k, v0)) (hn : (m.map Prod.fst).Nodup) : m.set i (k, v) = m.map (fun p => if p.1 = k then (k, v) else p) := by
  induction m generalizing i with
  | nil => simp at hi
  | cons p m ih =>
    simp only [List.map_cons, List.nodup_cons] at hn
    cases i with
    | zero =>
      simp at hi; subst hi
      simp only [List.set_cons_zero, List.map_cons, if_true]
      congr 1
      symm
      conv => rhs; rw [← List.map_id m]
      refine List.map_congr_left fun q hq => ?_
      rw [if_neg]; rfl
      exact fun e => hn.1 (by rw [← e]; exact List.mem_map.2 ⟨q, hq, rfl⟩)
    | succ i =>
      have hi' : m[i]? = some (k, v0) := by simpa using hi
      rw [List.set_cons_succ, List.map_cons, if_neg, ih i hi' hn.2]
      intro e
      exact hn.1 (by rw [e]; exact List.mem_map.2 ⟨(k, v0), List.mem_of_getElem? hi', rfl⟩)

/-- 'm[k] = v'. -/
theorem run_update_at {t K E : TypeId} (ht : P.underlying t = some (.map K E)) (hk : KeyOk P K enc) {r : Nat} {m : List (κ × Value)} (h : MapAt w enc r m) (k : κ) (v : Value) :
    ∃ w', (Instr.mapUpdate t (.map (some r)) (enc k) v).run P w = .ok () w' ∧ MapAt w' enc r (mput m k v) ∧ w.grownBy w' (some r) := by
  have hlt := h.lt
  obtain ⟨⟨es, c, hb, he, hbn, hnd⟩, hn⟩ := h
  have hf := run_findKey hk k es.toList m he w
  have hs := whereIs_snd m k 0
  cases hw : whereIs m k 0 with
  | none =>
    rw [hw] at hf hs
    have hs' : mget m k = none := hs.symm
    refine ⟨_, by simp [Instr.mapUpdate, run_underlying ht, MapKept.run_getObj_map hb, hk.check, hf, MapKept.run_setObj_map _ hb, Result.andThen]; rfl, ?_, grownBy_putObj w r _⟩
    refine ⟨⟨es.push { key := enc k, val := v, born := c }, c + 1, by simp [hlt], ?_, ?_, ?_⟩, ?_⟩
    · unfold mput; simp [hs', he]
    · intro e hme
      simp only [Array.toList_push, List.mem_append, List.mem_singleton] at hme
      rcases hme with hme | rfl
      · have := hbn e hme; omega
      · simp
    · simp only [Array.toList_push, List.map_append, List.map_cons, List.map_nil]
      refine List.nodup_append.2 ⟨hnd, by simp, fun x hx y hy e => ?_⟩
      obtain ⟨e', he', rfl⟩ := List.mem_map.1 hx
      simp at hy; subst hy
      have := hbn e' he'; omega
    · unfold mput; simp only [hs', Option.isSome_none, Bool.false_eq_true, if_false, List.map_append, List.map_cons, List.map_nil]
      refine List.nodup_append.2 ⟨hn, by simp, fun x hx y hy e => ?_⟩
      simp at hy; subst hy; subst e
      have := (mget_isSome m x).2 hx
      rw [hs'] at this; cases this
  | some x =>
    obtain ⟨i, v0⟩ := x
    rw [hw] at hf hs
    have hs' : mget m k = some v0 := hs.symm
    obtain ⟨t', e1, hget, _⟩ := whereIs_get m k 0 i v0 hw
    obtain rfl : i = t' := by omega
    have hi : i < es.size := by
      have h1 := congrArg List.length he
      simp only [List.length_map, Array.length_toList] at h1
      rw [h1]; exact (List.getElem?_eq_some_iff.1 hget).1
    have hkey : es[i].key = enc k := by
      have h1 := congrArg (fun l => l[i]?) he
      simp only [List.getElem?_map, hget, Array.getElem?_toList, Array.getElem?_eq_getElem hi, Option.map_some, Option.some.injEq, Prod.mk.injEq] at h1
      exact h1.1
    have hkey' : (Option.map (fun e => e.key) es[i]?).getD (enc k) = enc k := by
      rw [Array.getElem?_eq_getElem hi]; exact hkey
    refine ⟨_, by simp [Instr.mapUpdate, run_underlying ht, MapKept.run_getObj_map hb, hk.check, hf, Instr.keyThatStays, hkey', hk.bits, MapKept.run_setObj_map _ hb, Result.andThen]; rfl, ?_, grownBy_putObj w r _⟩
    have hmod : (es.modify i fun e => { e with key := enc k, val := v }).toList = es.toList.set i ⟨enc k, v, es[i].born⟩ := by
      apply List.ext_getElem?
      intro j
      rw [Array.getElem?_toList, Array.getElem?_modify, List.getElem?_set, Array.getElem?_toList]
      by_cases e : i = j
      · subst e; simp [hi]
      · simp [e]
    refine ⟨⟨_, c, by simp [hlt]; rfl, ?_, ?_, ?_⟩, ?_⟩
    · rw [hmod, List.map_set, he]
      unfold mput
      rw [hs', ← map_set_entry m k v v0 i hget hn, if_pos (show (some v0).isSome = true from rfl), List.map_set]
    · intro e hme
      rw [hmod] at hme
      rcases List.mem_or_eq_of_mem_set hme with hme | rfl
      · exact hbn e hme
      · exact hbn es[i] (by simp)
    · rw [hmod, List.map_set]
      have : (es.toList.map (·.born)).set i es[i].born = es.toList.map (·.born) := by
        apply List.ext_getElem?
        intro j
        rw [List.getElem?_set]
        split
        · rename_i e; subst e; simp [hi]
        · rfl
      rw [this]; exact hnd
    · unfold mput; rw [hs']; simp only [Option.isSome_some, if_true, List.map_map]
      have : (Prod.fst ∘ fun p : κ × Value => if p.1 = k then (k, v) else p) = Prod.fst := by
        funext p; simp only [Function.comp]; split
        · rename_i e; exact e.symm
        · rfl
      rw [this]; exact hn

theorem erase_entry (m : List (κ × Value)) (k : κ) (v0 : Value) (i : Nat) (hi : m[i]? = some (k, v0)) (hn : (m.map Prod.fst).Nodup) : m.eraseIdx i = mdel m k := by
  unfold mdel
  induction m generalizing i with
  | nil => simp at hi
  | cons p m ih =>
    simp only [List.map_cons, List.nodup_cons] at hn
    cases i with
    | zero =>
      simp at hi; subst hi
      rw [List.eraseIdx_cons_zero, List.filter_cons, if_neg (by simp)]
      symm
      refine List.filter_eq_self.2 fun q hq => ?_
      simp only [ne_eq, decide_not, Bool.not_eq_eq_eq_not, Bool.not_true, decide_eq_false_iff_not]
      exact fun e => hn.1 (by rw [← e]; exact List.mem_map.2 ⟨q, hq, rfl⟩)
    | succ i =>
      have hi' : m[i]? = some (k, v0) := by simpa using hi
      rw [List.eraseIdx_cons_succ, List.filter_cons, if_pos, ih i hi' hn.2]
      simp only [ne_eq, decide_not, Bool.not_eq_eq_eq_not, Bool.not_true, decide_eq_false_iff_not]
      intro e
      exact hn.1 (by rw [e]; exact List.mem_map.2 ⟨(k, v0), List.mem_of_getElem? hi', rfl⟩)

/-- 'delete(m, k)'. -/
theorem run_delete_at {t K E : TypeId} (ht : P.underlying t = some (.map K E)) (hk : KeyOk P K enc) {r : Nat} {m : List (κ × Value)} (h : MapAt w enc r m) (k : κ) (ty : TypeId) :
    ∃ w', (Builtin.delete_ #[t, K] ty #[.map (some r), enc k]).run P w = .ok (.tuple #[]) w' ∧ MapAt w' enc r (mdel m k) ∧ w.grownBy w' (some r) := by
  have hlt := h.lt
  obtain ⟨⟨es, c, hb, he, hbn, hnd⟩, hn⟩ := h
  have hf := run_findKey hk k es.toList m he w
  have hs := whereIs_snd m k 0
  cases hw : whereIs m k 0 with
  | none =>
    rw [hw] at hf hs
    have hs' : mget m k = none := hs.symm
    have hsame : mdel m k = m := by
      unfold mdel
      refine List.filter_eq_self.2 fun q hq => ?_
      simp only [ne_eq, decide_not, Bool.not_eq_eq_eq_not, Bool.not_true, decide_eq_false_iff_not]
      intro e
      have := (mget_isSome m k).2 (by rw [← e]; exact List.mem_map.2 ⟨q, hq, rfl⟩)
      rw [hs'] at this; cases this
    refine ⟨_, by simp [Builtin.delete_, run_underlying ht, MapKept.run_getObj_map hb, hk.check, hf, MapKept.run_setObj_map _ hb, Result.andThen]; rfl, ?_, grownBy_putObj w r _⟩
    rw [hsame]
    exact ⟨⟨es, c, by simp [hlt], he, hbn, hnd⟩, hn⟩
  | some x =>
    obtain ⟨i, v0⟩ := x
    rw [hw] at hf
    obtain ⟨t', e1, hget, _⟩ := whereIs_get m k 0 i v0 hw
    obtain rfl : i = t' := by omega
    have hi : i < es.size := by
      have h1 := congrArg List.length he
      simp only [List.length_map, Array.length_toList] at h1
      rw [h1]; exact (List.getElem?_eq_some_iff.1 hget).1
    refine ⟨_, by simp [Builtin.delete_, run_underlying ht, MapKept.run_getObj_map hb, hk.check, hf, MapKept.run_setObj_map _ hb, Result.andThen]; rfl, ?_, grownBy_putObj w r _⟩
    have hmod : (es.eraseIdxIfInBounds i).toList = es.toList.eraseIdx i := by simp [Array.eraseIdxIfInBounds, hi]
    refine ⟨⟨_, c, by simp [hlt]; rfl, ?_, ?_, ?_⟩, ?_⟩
    · rw [hmod, map_eraseIdx, he, ← map_eraseIdx, erase_entry m k v0 i hget hn]
    · intro e hme
      rw [hmod] at hme
      exact hbn e (List.mem_of_mem_eraseIdx hme)
    · rw [hmod]
      exact hnd.sublist (List.Sublist.map _ (List.eraseIdx_sublist _ _))
    · exact hn.sublist (List.Sublist.map _ (List.filter_sublist))

section
variable {ops : Array Oper} {rest : List Oper} {o : Oper} {a : Act} {Q : Exit → Act → World → Prop}
theorem wpList_lookup_at (hg : o.guard = none) (mo x : Operand) (t : TypeId) (ok : Bool) (hop : o.op = Op.lookup t mo x ok) {K E : TypeId} (ht : P.underlying t = some (.map K E)) (hk : KeyOk P K enc) {z : Value} (hz : ∀ w, (zeroValue E).run P w = .ok z w)
    (r : Nat) (m : List (κ × Value)) (hm : a.eval mo = .map (some r)) (h : MapAt w enc r m) (k : κ) (hx : a.eval x = enc k)
    (hK : wpList P ops Q rest (a.put o.dst (if ok then .tuple #[(mget m k).getD z, .bool (mget m k).isSome] else (mget m k).getD z)) w) : wpList P ops Q (o :: rest) a w := by
  refine wpList_plain hg fun K' hK' => ?_
  have hrun := run_lookup_at ht hk hz h k ok
  unfold Oper.wp
  simp only [execOp, hop, hm, hx]
  simp [hrun, Result.andThen]
  exact hK' _ _ hK
theorem wpList_mapUpdate_at (hg : o.guard = none) (mo x v : Operand) (t : TypeId) (hop : o.op = Op.mapUpdate t mo x v ∨ o.op = Op.insert t mo x v) {K E : TypeId} (ht : P.underlying t = some (.map K E)) (hk : KeyOk P K enc)
    (r : Nat) (m : List (κ × Value)) (hm : a.eval mo = .map (some r)) (h : MapAt w enc r m) (k : κ) (hx : a.eval x = enc k) (val : Value) (hv : a.eval v = val)
    (hK : ∀ w', MapAt w' enc r (mput m k val) → w.grownBy w' (some r) → wpList P ops Q rest (a.put o.dst undef) w') : wpList P ops Q (o :: rest) a w := by
  refine wpList_plain hg fun K' hK' => ?_
  obtain ⟨w', hrun, r1, r2⟩ := run_update_at ht hk h k val
  unfold Oper.wp
  rcases hop with hop | hop <;>
    (simp only [execOp, hop, hm, hx, hv]
     simp [hrun, Result.andThen]
     exact hK' _ _ (hK w' r1 r2))
theorem wpList_delete_at (hg : o.guard = none) (mo x : Operand) (t : TypeId) {K : TypeId} (hop : o.op = Op.call { callee := Callee.builtin Builtin.delete, args := #[mo, x], argTypes := #[t, K] }) {E : TypeId} (ht : P.underlying t = some (.map K E)) (hk : KeyOk P K enc)
    (r : Nat) (m : List (κ × Value)) (hm : a.eval mo = .map (some r)) (h : MapAt w enc r m) (k : κ) (hx : a.eval x = enc k)
    (hK : ∀ w', MapAt w' enc r (mdel m k) → w.grownBy w' (some r) → wpList P ops Q rest (a.put o.dst (.tuple #[])) w') : wpList P ops Q (o :: rest) a w := by
  refine wpList_plain hg fun K' hK' => ?_
  obtain ⟨w', hrun, r1, r2⟩ := run_delete_at ht hk h k o.type
  unfold Oper.wp
  simp [execOp, hop, resolve, invoke, builtin, hm, hx, hrun, Result.andThen]
  exact hK' _ _ (hK w' r1 r2)
end
end

theorem checkKey_int {P : Program} {K : TypeId} (hK : P.underlying K = some (.int .i64)) (n : Nat) (a : Int) (b : Bool) (w : World) : (Instr.checkKey b (n + 1) K (.int .i64 a)).run P w = .ok () w := by
  simp [Instr.checkKey, run_underlying hK]
theorem keyInt {P : Program} {K : TypeId} (hK : P.underlying K = some (.int .i64)) : KeyOk P K (fun n : Int => Value.int .i64 n) :=
  ⟨⟨_, hK, fun a b => by simp [Instr.sameNow]; by_cases h : a = b <;> simp [h]⟩, fun a => by simp [Instr.sameBits], fun a b w => checkKey_int hK 9999 a b w⟩

end Go.Proofs.Ytkpgphadgomifaa
