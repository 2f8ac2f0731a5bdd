/- Texts of this seat, laid together: PlanPure, Maps, PlanHold, PlanDiff, PlanValid. -/
import Derived.Test.YtehdhbnbajfanaaGreatGA
import Derived.MapKept
import Derived.RangeFuncRecord
import Derived.Maps.OwnSet

/- Demands and copies: in memory and by themselves; plain laws; no condition. -/
namespace Go.Proofs.YtehdhbnbajfanaaGreat
set_option linter.unusedSimpArgs false
set_option linter.unusedVariables false
open Go.RowKit Go.Sort

/-- A demand: its numbers, its slice of editions, and what lies there. -/
structure De where
  id : Int
  part : Int
  stand : Int
  ea : Option Addr
  ecap : Nat
  eds : List Int
instance : Inhabited De := ⟨⟨0, 0, 0, none, 0, []⟩⟩
def De.cells (d : De) : List Value := [.int .i64 d.id, .int .i64 d.part, .int .i64 d.stand, .slice d.ea d.eds.length d.ecap]
structure De.Ok (w : World) (d : De) : Prop where
  sl : SlOk0 d.ea d.eds.length d.ecap
  ints : InAt w d.ea d.eds
theorem De.Ok.below {w w' : World} {d : De} (h : d.Ok w) (hb : Below w.heap.size w w') : d.Ok w' := ⟨h.sl, h.ints.below hb⟩
/-- A slice of demands in memory. -/
structure DeAt (w : World) (a : Option Addr) (ds : List De) : Prop where
  rows : SlAt w a 4 (ds.map De.cells)
  ok : ∀ d ∈ ds, d.Ok w
theorem DeAt.below {w w' : World} {a : Option Addr} {ds : List De} (h : DeAt w a ds) (hb : Below w.heap.size w w') : DeAt w' a ds := ⟨h.rows.below hb, fun d hd => (h.ok d hd).below hb⟩
/-- A copy. -/
structure Co where
  id : Int
  part : Int
  ed : Int
  hall : Int
def Co.cells (c : Co) : List Value := [.int .i64 c.id, .int .i64 c.part, .int .i64 c.ed, .int .i64 c.hall]
def CoAt (w : World) (a : Option Addr) (cs : List Co) : Prop := SlAt w a 4 (cs.map Co.cells)
theorem CoAt.below {w w' : World} {a : Option Addr} {cs : List Co} (h : CoAt w a cs) (hb : Below w.heap.size w w') : CoAt w' a cs := SlAt.below h hb
theorem DeAt.get {w : World} {a : Option Addr} {ds : List De} (h : DeAt w a ds) (i : Nat) (hi : i < ds.length) : ∃ b off, a = some ⟨b, off, none⟩ ∧ w.cell? ⟨b, off + i * 4, none⟩ = some (.int .i64 ds[i].id) ∧ w.cell? ⟨b, off + i * 4 + 1, none⟩ = some (.int .i64 ds[i].part) ∧ w.cell? ⟨b, off + i * 4 + 2, none⟩ = some (.int .i64 ds[i].stand) ∧
    w.cell? ⟨b, off + i * 4 + 3, none⟩ = some (.slice ds[i].ea ds[i].eds.length ds[i].ecap) := by
  obtain ⟨b, off, e, _, _, hc⟩ := h.rows i ds[i].cells (by simp [hi])
  exact ⟨b, off, e, hc 0 _ rfl, hc 1 _ rfl, hc 2 _ rfl, hc 3 _ rfl⟩
theorem CoAt.get {w : World} {a : Option Addr} {cs : List Co} (h : CoAt w a cs) (i : Nat) (hi : i < cs.length) : ∃ b off, a = some ⟨b, off, none⟩ ∧ w.cell? ⟨b, off + i * 4, none⟩ = some (.int .i64 cs[i].id) ∧ w.cell? ⟨b, off + i * 4 + 1, none⟩ = some (.int .i64 cs[i].part) ∧ w.cell? ⟨b, off + i * 4 + 2, none⟩ = some (.int .i64 cs[i].ed) ∧
    w.cell? ⟨b, off + i * 4 + 3, none⟩ = some (.int .i64 cs[i].hall) := by
  obtain ⟨b, off, e, _, _, hc⟩ := h i cs[i].cells (by simp [hi])
  exact ⟨b, off, e, hc 0 _ rfl, hc 1 _ rfl, hc 2 _ rfl, hc 3 _ rfl⟩
def inR (lo hi n : Int) : Bool := decide (lo ≤ n) && decide (n ≤ hi)
def isId (n : Int) : Bool := inR 1 1000000 n
def nodupB (l : List Int) : Bool := decide l.Nodup
def deOk (d : De) : Bool := isId d.id && isId d.part && isId d.stand && inR 1 12 d.eds.length && d.eds.all isId && nodupB d.eds
def coOk (c : Co) : Bool := isId c.id && isId c.part && isId c.ed && inR 0 99 c.hall
def validB (ds : List De) (cs : List Co) : Bool := decide (ds.length ≤ 200) && decide (cs.length ≤ 200) && ds.all deOk && cs.all coOk && nodupB (ds.map De.id) && nodupB (cs.map Co.id)
/-- The index of an integer in a list, or -1. -/
def idxL : List Int → Int → Int
  | [], _ => -1
  | x :: l, n => if x = n then 0 else if idxL l n < 0 then -1 else idxL l n + 1
theorem idxL_ge (l : List Int) (n : Int) : -1 ≤ idxL l n := by
  induction l with
  | nil => simp [idxL]
  | cons x l ih => unfold idxL; split <;> (try split) <;> omega
theorem idxL_lt (l : List Int) (n : Int) : idxL l n < l.length ∨ l = [] := by
  induction l with
  | nil => exact .inr rfl
  | cons x l ih =>
    left
    unfold idxL
    rcases ih with ih | rfl
    · split <;> (try split) <;> simp <;> omega
    · split <;> simp [idxL]
/-- No element ahead is it; this one is. -/
theorem idxL_at {l : List Int} {n : Int} {i : Nat} (hi : i < l.length) (h1 : ∀ j (hj : j < l.length), j < i → l[j] ≠ n) (h2 : l[i] = n) : idxL l n = i := by
  induction l generalizing i with
  | nil => simp at hi
  | cons x l ih =>
    unfold idxL
    cases i with
    | zero => simp at h2; simp [h2]
    | succ i =>
      have hx : x ≠ n := h1 0 (by simp) (by omega)
      have := ih (i := i) (by simpa using hi) (fun j hj hji => h1 (j + 1) (by simpa using hj) (by omega)) (by simpa using h2)
      rw [if_neg hx, this, if_neg (by omega)]; simp
theorem idxL_no {l : List Int} {n : Int} (h : ∀ j (hj : j < l.length), l[j] ≠ n) : idxL l n = -1 := by
  induction l with
  | nil => rfl
  | cons x l ih =>
    unfold idxL
    rw [if_neg (show x ≠ n from h 0 (by simp)), ih fun j hj => h (j + 1) (by simpa using hj)]; simp
theorem idxL_mem {l : List Int} {n : Int} : 0 ≤ idxL l n ↔ n ∈ l := by
  induction l with
  | nil => simp [idxL]
  | cons x l ih =>
    unfold idxL
    by_cases h : x = n
    · simp [h]
    · rw [if_neg h]
      split
      · rename_i h2
        have : ¬ n ∈ l := fun e => by have := ih.2 e; omega
        simp [this, Ne.symm h]
      · rename_i h2
        have : n ∈ l := ih.1 (by omega)
        simp [this]; omega
/-- What it costs to meet a demand by a copy, or -1. -/
def costI (d : De) (c : Co) (hall : Int) : Int := if d.part ≠ c.part ∨ idxL d.eds c.ed < 0 then -1 else if c.hall = hall then 10 * idxL d.eds c.ed else 10 * idxL d.eds c.ed + 5
def costM (ds : List De) (cs : List Co) (hall : Int) : List (List Int) := ds.map fun d => cs.map fun c => costI d c hall
theorem costM_len (ds : List De) (cs : List Co) (hall : Int) : (costM ds cs hall).length = ds.length := by simp [costM]
theorem costI_bd {d : De} {c : Co} {hall : Int} (h : d.eds.length ≤ 100) : -1 ≤ costI d c hall ∧ costI d c hall ≤ 1005 := by
  have h1 := idxL_ge d.eds c.ed
  have h2 := idxL_lt d.eds c.ed
  unfold costI
  split
  · omega
  · rename_i h3
    rcases h2 with h2 | h2
    · split <;> omega
    · rw [h2] at h3; simp [idxL] at h3
theorem costI_may (d : De) (c : Co) (hall : Int) : 0 ≤ costI d c hall ↔ d.part = c.part ∧ c.ed ∈ d.eds := by
  have h1 := idxL_ge d.eds c.ed
  rw [← idxL_mem]
  unfold costI
  split
  · rename_i h; constructor
    · intro h2; omega
    · rintro ⟨h2, h3⟩; rcases h with h | h <;> omega
  · rename_i h
    have h2 : d.part = c.part ∧ 0 ≤ idxL d.eds c.ed := ⟨Classical.byContradiction fun q => h (.inl q), Classical.byContradiction fun q => h (.inr (by omega))⟩
    constructor
    · exact fun _ => h2
    · intro _; split <;> omega
end Go.Proofs.YtehdhbnbajfanaaGreat


/- Maps that a call makes for itself, told as lists of pairs: making, looking up, storing, deleting; keys of one plain type; no other condition. -/
namespace Go.Proofs.YtehdhbnbajfanaaGreat
set_option linter.unusedSimpArgs false
set_option linter.unusedVariables false
open Go.RowKit Go.Sort

/-- What the model wants to know of a plain key. -/
structure KeyOk (P : Program) (K : TypeId) {κ : Type} [DecidableEq κ] (enc : κ → Value) : Prop where
  kind : ∃ d, P.underlying K = some d ∧ (∀ a b, Instr.sameNow d (enc a) (enc b) = some (decide (a = b)))
  bits : ∀ a, Instr.sameBits 10000 (enc a) (enc a) = true
  check : ∀ (a : κ) (b : Bool) (w : World), (Instr.checkKey b 10000 K (enc a)).run P w = .ok () w

section
variable {κ : Type} [DecidableEq κ] {enc : κ → Value} {P : Program} {w : World}

/-- Block r is a map of these entries, in the order in which they came. -/
structure MapAt (w : World) (enc : κ → Value) (r : Nat) (m : List (κ × Value)) : Prop where
  ex : ∃ es clock, w.heap[r]? = some (.map es clock) ∧ es.toList.map (fun e => (e.key, e.val)) = m.map (fun p => (enc p.1, p.2)) ∧ (∀ e ∈ es.toList, e.born < clock) ∧ (es.toList.map (·.born)).Nodup
  nodup : (m.map Prod.fst).Nodup

def mget (m : List (κ × Value)) (k : κ) : Option Value := (m.find? fun p => decide (p.1 = k)).map Prod.snd
def mput (m : List (κ × Value)) (k : κ) (v : Value) : List (κ × Value) := if (mget m k).isSome then m.map (fun p => if p.1 = k then (k, v) else p) else m ++ [(k, v)]
def mdel (m : List (κ × Value)) (k : κ) : List (κ × Value) := m.filter fun p => decide (p.1 ≠ k)

theorem mget_nil (k : κ) : mget [] k = none := rfl
theorem mget_cons (p : κ × Value) (m : List (κ × Value)) (k : κ) : mget (p :: m) k = if p.1 = k then some p.2 else mget m k := by
  unfold mget; rw [List.find?_cons]; by_cases h : p.1 = k <;> simp [h]
theorem mget_append (m r : List (κ × Value)) (k : κ) : mget (m ++ r) k = (mget m k).or (mget r k) := by
  induction m with
  | nil => simp [mget_nil]
  | cons p m ih => rw [List.cons_append, mget_cons, mget_cons, ih]; split <;> simp
theorem mget_map (m : List (κ × Value)) (k k' : κ) (v : Value) : mget (m.map fun p => if p.1 = k then (k, v) else p) k' = if k' = k then (mget m k).map (fun _ => v) else mget m k' := by
  induction m with
  | nil => simp [mget_nil]
  | cons p m ih =>
    rw [List.map_cons, mget_cons, mget_cons, mget_cons, ih]
    by_cases h : p.1 = k
    · by_cases h' : k' = k
      · simp [h, h']
      · have h'' : ¬ k = k' := fun e => h' e.symm
        simp [h, h', h'']
    · by_cases h' : k' = k
      · subst h'; simp [h]
      · simp [h, h']
theorem mget_mput (m : List (κ × Value)) (k k' : κ) (v : Value) : mget (mput m k v) k' = if k' = k then some v else mget m k' := by
  unfold mput
  split
  · rename_i h
    rw [mget_map]
    obtain ⟨x, hx⟩ := Option.isSome_iff_exists.1 h
    rw [hx]; rfl
  · rename_i h
    have h0 : mget m k = none := by simpa using h
    rw [mget_append, mget_cons, mget_nil]
    by_cases e : k' = k
    · subst e; simp [h0]
    · have e' : ¬ k = k' := fun x => e x.symm
      simp [e, e']
theorem mget_mdel (m : List (κ × Value)) (k k' : κ) : mget (mdel m k) k' = if k' = k then none else mget m k' := by
  unfold mdel
  induction m with
  | nil => simp [mget_nil]
  | cons p m ih =>
    rw [List.filter_cons]
    by_cases h : p.1 = k
    · rw [if_neg (by simp [h]), ih, mget_cons]
      by_cases e : k' = k
      · simp [e]
      · have e' : ¬ p.1 = k' := fun x => e (x.symm.trans h)
        simp [e, e']
    · rw [if_pos (by simp [h]), mget_cons, mget_cons, ih]
      by_cases e : k' = k
      · subst e; simp [h]
      · simp [e]
theorem mget_isSome (m : List (κ × Value)) (k : κ) : (mget m k).isSome = true ↔ k ∈ m.map Prod.fst := by
  induction m with
  | nil => simp [mget_nil]
  | cons p m ih =>
    rw [mget_cons]
    by_cases h : p.1 = k
    · simp [h]
    · have : ¬ k = p.1 := fun e => h e.symm
      rw [if_neg h, ih]; simp [this]
theorem mput_len (m : List (κ × Value)) (k : κ) (v : Value) : (mput m k v).length ≤ m.length + 1 := by
  unfold mput; split <;> simp
theorem mdel_len (m : List (κ × Value)) (k : κ) : (mdel m k).length ≤ m.length := List.length_filter_le _ _

omit [DecidableEq κ] in
theorem MapAt.lt {r : Nat} {m : List (κ × Value)} (h : MapAt w enc r m) : r < w.heap.size := by
  obtain ⟨es, c, hb, _⟩ := h.ex; exact (Array.getElem?_eq_some_iff.1 hb).1
omit [DecidableEq κ] in
theorem MapAt.below {w' : World} {r : Nat} {m : List (κ × Value)} (h : MapAt w enc r m) (hb : Below w.heap.size w w') : MapAt w' enc r m := by
  obtain ⟨⟨es, c, h1, h2⟩, h3⟩ := h; exact ⟨⟨es, c, blk_keep h1 hb, h2⟩, h3⟩
omit [DecidableEq κ] in
theorem MapAt.kept {w' : World} {r : Nat} {m : List (κ × Value)} {row : Option Nat} (h : MapAt w enc r m) (hg : w.grownBy w' row) (hne : row ≠ some r) : MapAt w' enc r m := by
  have hlt := h.lt
  obtain ⟨⟨es, c, h1, h2⟩, h3⟩ := h; exact ⟨⟨es, c, (hg.block r hlt (fun e => hne e.symm)).trans h1, h2⟩, h3⟩
omit [DecidableEq κ] in
theorem MapAt.new (w : World) (enc : κ → Value) : MapAt (w.alloc (.map #[] 0)) enc w.heap.size [] := ⟨⟨#[], 0, heap_alloc_new _ _, rfl, by simp, by simp⟩, by simp⟩

theorem map_eraseIdx {α β : Type} (f : α → β) (l : List α) (i : Nat) : (l.eraseIdx i).map f = (l.map f).eraseIdx i := by
  induction l generalizing i with
  | nil => rfl
  | cons x l ih => cases i with
    | zero => rfl
    | succ i => simp [ih]
/-- Where a key is. -/
def whereIs : List (κ × Value) → κ → Nat → Option (Nat × Value)
  | [], _, _ => none
  | p :: m, k, i => if k = p.1 then some (i, p.2) else whereIs m k (i + 1)
theorem whereIs_snd (m : List (κ × Value)) (k : κ) (i : Nat) : (whereIs m k i).map Prod.snd = mget m k := by
  induction m generalizing i with
  | nil => rfl
  | cons p m ih =>
    rw [mget_cons, whereIs]
    by_cases h : k = p.1
    · rw [if_pos h, if_pos h.symm]; rfl
    · rw [if_neg h, if_neg (fun e => h e.symm), ih]
theorem whereIs_get (m : List (κ × Value)) (k : κ) (i j : Nat) (v : Value) (h : whereIs m k i = some (j, v)) : ∃ t, j = i + t ∧ m[t]? = some (k, v) ∧ ∀ s, s < t → ∀ p, m[s]? = some p → p.1 ≠ k := by
  induction m generalizing i with
  | nil => cases h
  | cons p m ih =>
    rw [whereIs] at h
    by_cases e : k = p.1
    · rw [if_pos e] at h
      cases h
      exact ⟨0, rfl, by simp [e], fun s hs => by omega⟩
    · rw [if_neg e] at h
      obtain ⟨t, h1, h2, h3⟩ := ih _ h
      refine ⟨t + 1, by omega, by simpa using h2, fun s hs q hq => ?_⟩
      cases s with
      | zero => simp at hq; subst hq; exact fun x => e x.symm
      | succ s => exact h3 s (by omega) q (by simpa using hq)
theorem findNow_eq {d : TypeDesc} (hnow : ∀ a b, Instr.sameNow d (enc a) (enc b) = some (decide (a = b))) (k : κ) (es : List MapEntry) (m : List (κ × Value)) (h : es.map (fun e => (e.key, e.val)) = m.map (fun p => (enc p.1, p.2))) (i : Nat) :
    Instr.findNow d (enc k) es i = some (whereIs m k i) := by
  induction es generalizing m i with
  | nil => cases m with
    | nil => rfl
    | cons p m => simp at h
  | cons e es ih =>
    cases m with
    | nil => simp at h
    | cons p m =>
      simp only [List.map_cons, List.cons.injEq, Prod.mk.injEq] at h
      obtain ⟨⟨h1, h2⟩, h3⟩ := h
      rw [Instr.findNow, h1, hnow, whereIs]
      by_cases e' : k = p.1
      · simp [e', h2]
      · simp [e', ih m h3 (i + 1)]
theorem run_findKey {K : TypeId} (hk : KeyOk P K enc) (k : κ) (es : List MapEntry) (m : List (κ × Value)) (h : es.map (fun e => (e.key, e.val)) = m.map (fun p => (enc p.1, p.2))) (w : World) :
    (Instr.findKey K (enc k) es).run P w = .ok (whereIs m k 0) w := by
  obtain ⟨d, hd, hnow⟩ := hk.kind
  unfold Instr.findKey
  simp [run_underlying hd, findNow_eq hnow k es m h 0, Result.andThen]

/-- 'm[k]'. -/
theorem run_lookup_at {t K E : TypeId} (ht : P.underlying t = some (.map K E)) (hk : KeyOk P K enc) {z : Value} (hz : ∀ w, (zeroValue E).run P w = .ok z w) {r : Nat} {m : List (κ × Value)} (h : MapAt w enc r m) (k : κ) (ok : Bool) :
    (Instr.lookup t (.map (some r)) (enc k) ok).run P w = .ok (if ok then .tuple #[(mget m k).getD z, .bool (mget m k).isSome] else (mget m k).getD z) w := by
  obtain ⟨es, c, hb, he, _, _⟩ := h.ex
  have hf := run_findKey hk k es.toList m he w
  have hs := whereIs_snd m k 0
  cases hw : whereIs m k 0 with
  | none =>
    rw [hw] at hf hs
    have hs' : mget m k = none := hs.symm
    cases ok <;> simp [Instr.lookup, run_underlying ht, MapKept.run_getObj_map hb, hk.check, hf, hs', hz, Result.andThen]
  | some x =>
    obtain ⟨i, v⟩ := x
    rw [hw] at hf hs
    have hs' : mget m k = some v := hs.symm
    cases ok <;> simp [Instr.lookup, run_underlying ht, MapKept.run_getObj_map hb, hk.check, hf, hs', Result.andThen]
theorem run_lookup_nil {t K E : TypeId} (ht : P.underlying t = some (.map K E)) (hk : KeyOk P K enc) {z : Value} (hz : ∀ w, (zeroValue E).run P w = .ok z w) (k : κ) (ok : Bool) :
    (Instr.lookup t (.map none) (enc k) ok).run P w = .ok (if ok then .tuple #[z, .bool false] else z) w := by
  have hf := run_findKey hk k [] [] rfl w
  cases ok <;> simp [Instr.lookup, run_underlying ht, hk.check, hf, whereIs, hz, Result.andThen]

theorem grownBy_putObj (w : World) (r : Nat) (o : Obj) : w.grownBy { w with heap := w.heap.setIfInBounds r o } (some r) :=
  ⟨rfl, rfl, rfl, by simp, fun k _ hne => by simp only; rw [Array.getElem?_setIfInBounds_ne (fun e => hne (by rw [e]))]⟩

theorem map_set_entry (m : List (κ × Value)) (k : κ) (v v0 : Value) (i : Nat) (hi : m[i]? = some (k, v0)) (hn : (m.map Prod.fst).Nodup) : m.set i (k, v) = m.map (fun p => if p.1 = k then (k, v) else p) := by
  induction m generalizing i with
  | nil => simp at hi
  | cons p m ih =>
    simp only [List.map_cons, List.nodup_cons] at hn
    cases i with
    | zero =>
      simp at hi; subst hi
      simp only [List.set_cons_zero, List.map_cons, if_true]
      congr 1
      symm
      conv => rhs; rw [← List.map_id m]
      refine List.map_congr_left fun q hq => ?_
      rw [if_neg]; rfl
      exact fun e => hn.1 (by rw [← e]; exact List.mem_map.2 ⟨q, hq, rfl⟩)
    | succ i =>
      have hi' : m[i]? = some (k, v0) := by simpa using hi
      rw [List.set_cons_succ, List.map_cons, if_neg, ih i hi' hn.2]
      intro e
      exact hn.1 (by rw [e]; exact List.mem_map.2 ⟨(k, v0), List.mem_of_getElem? hi', rfl⟩)

/-- 'm[k] = v'. -/
theorem run_update_at {t K E : TypeId} (ht : P.underlying t = some (.map K E)) (hk : KeyOk P K enc) {r : Nat} {m : List (κ × Value)} (h : MapAt w enc r m) (k : κ) (v : Value) :
    ∃ w', (Instr.mapUpdate t (.map (some r)) (enc k) v).run P w = .ok () w' ∧ MapAt w' enc r (mput m k v) ∧ w.grownBy w' (some r) := by
  have hlt := h.lt
  obtain ⟨⟨es, c, hb, he, hbn, hnd⟩, hn⟩ := h
  have hf := run_findKey hk k es.toList m he w
  have hs := whereIs_snd m k 0
  cases hw : whereIs m k 0 with
  | none =>
    rw [hw] at hf hs
    have hs' : mget m k = none := hs.symm
    refine ⟨_, by simp [Instr.mapUpdate, run_underlying ht, MapKept.run_getObj_map hb, hk.check, hf, MapKept.run_setObj_map _ hb, Result.andThen]; rfl, ?_, grownBy_putObj w r _⟩
    refine ⟨⟨es.push { key := enc k, val := v, born := c }, c + 1, by simp [hlt], ?_, ?_, ?_⟩, ?_⟩
    · unfold mput; simp [hs', he]
    · intro e hme
      simp only [Array.toList_push, List.mem_append, List.mem_singleton] at hme
      rcases hme with hme | rfl
      · have := hbn e hme; omega
      · simp
    · simp only [Array.toList_push, List.map_append, List.map_cons, List.map_nil]
      refine List.nodup_append.2 ⟨hnd, by simp, fun x hx y hy e => ?_⟩
      obtain ⟨e', he', rfl⟩ := List.mem_map.1 hx
      simp at hy; subst hy
      have := hbn e' he'; omega
    · unfold mput; simp only [hs', Option.isSome_none, Bool.false_eq_true, if_false, List.map_append, List.map_cons, List.map_nil]
      refine List.nodup_append.2 ⟨hn, by simp, fun x hx y hy e => ?_⟩
      simp at hy; subst hy; subst e
      have := (mget_isSome m x).2 hx
      rw [hs'] at this; cases this
  | some x =>
    obtain ⟨i, v0⟩ := x
    rw [hw] at hf hs
    have hs' : mget m k = some v0 := hs.symm
    obtain ⟨t', e1, hget, _⟩ := whereIs_get m k 0 i v0 hw
    obtain rfl : i = t' := by omega
    have hi : i < es.size := by
      have h1 := congrArg List.length he
      simp only [List.length_map, Array.length_toList] at h1
      rw [h1]; exact (List.getElem?_eq_some_iff.1 hget).1
    have hkey : es[i].key = enc k := by
      have h1 := congrArg (fun l => l[i]?) he
      simp only [List.getElem?_map, hget, Array.getElem?_toList, Array.getElem?_eq_getElem hi, Option.map_some, Option.some.injEq, Prod.mk.injEq] at h1
      exact h1.1
    have hkey' : (Option.map (fun e => e.key) es[i]?).getD (enc k) = enc k := by
      rw [Array.getElem?_eq_getElem hi]; exact hkey
    refine ⟨_, by simp [Instr.mapUpdate, run_underlying ht, MapKept.run_getObj_map hb, hk.check, hf, Instr.keyThatStays, hkey', hk.bits, MapKept.run_setObj_map _ hb, Result.andThen]; rfl, ?_, grownBy_putObj w r _⟩
    have hmod : (es.modify i fun e => { e with key := enc k, val := v }).toList = es.toList.set i ⟨enc k, v, es[i].born⟩ := by
      apply List.ext_getElem?
      intro j
      rw [Array.getElem?_toList, Array.getElem?_modify, List.getElem?_set, Array.getElem?_toList]
      by_cases e : i = j
      · subst e; simp [hi]
      · simp [e]
    refine ⟨⟨_, c, by simp [hlt]; rfl, ?_, ?_, ?_⟩, ?_⟩
    · rw [hmod, List.map_set, he]
      unfold mput
      rw [hs', ← map_set_entry m k v v0 i hget hn, if_pos (show (some v0).isSome = true from rfl), List.map_set]
    · intro e hme
      rw [hmod] at hme
      rcases List.mem_or_eq_of_mem_set hme with hme | rfl
      · exact hbn e hme
      · exact hbn es[i] (by simp)
    · rw [hmod, List.map_set]
      have : (es.toList.map (·.born)).set i es[i].born = es.toList.map (·.born) := by
        apply List.ext_getElem?
        intro j
        rw [List.getElem?_set]
        split
        · rename_i e; subst e; simp [hi]
        · rfl
      rw [this]; exact hnd
    · unfold mput; rw [hs']; simp only [Option.isSome_some, if_true, List.map_map]
      have : (Prod.fst ∘ fun p : κ × Value => if p.1 = k then (k, v) else p) = Prod.fst := by
        funext p; simp only [Function.comp]; split
        · rename_i e; exact e.symm
        · rfl
      rw [this]; exact hn

theorem erase_entry (m : List (κ × Value)) (k : κ) (v0 : Value) (i : Nat) (hi : m[i]? = some (k, v0)) (hn : (m.map Prod.fst).Nodup) : m.eraseIdx i = mdel m k := by
  unfold mdel
  induction m generalizing i with
  | nil => simp at hi
  | cons p m ih =>
    simp only [List.map_cons, List.nodup_cons] at hn
    cases i with
    | zero =>
      simp at hi; subst hi
      rw [List.eraseIdx_cons_zero, List.filter_cons, if_neg (by simp)]
      symm
      refine List.filter_eq_self.2 fun q hq => ?_
      simp only [ne_eq, decide_not, Bool.not_eq_eq_eq_not, Bool.not_true, decide_eq_false_iff_not]
      exact fun e => hn.1 (by rw [← e]; exact List.mem_map.2 ⟨q, hq, rfl⟩)
    | succ i =>
      have hi' : m[i]? = some (k, v0) := by simpa using hi
      rw [List.eraseIdx_cons_succ, List.filter_cons, if_pos, ih i hi' hn.2]
      simp only [ne_eq, decide_not, Bool.not_eq_eq_eq_not, Bool.not_true, decide_eq_false_iff_not]
      intro e
      exact hn.1 (by rw [e]; exact List.mem_map.2 ⟨(k, v0), List.mem_of_getElem? hi', rfl⟩)

/-- 'delete(m, k)'. -/
theorem run_delete_at {t K E : TypeId} (ht : P.underlying t = some (.map K E)) (hk : KeyOk P K enc) {r : Nat} {m : List (κ × Value)} (h : MapAt w enc r m) (k : κ) (ty : TypeId) :
    ∃ w', (Builtin.delete_ #[t, K] ty #[.map (some r), enc k]).run P w = .ok (.tuple #[]) w' ∧ MapAt w' enc r (mdel m k) ∧ w.grownBy w' (some r) := by
  have hlt := h.lt
  obtain ⟨⟨es, c, hb, he, hbn, hnd⟩, hn⟩ := h
  have hf := run_findKey hk k es.toList m he w
  have hs := whereIs_snd m k 0
  cases hw : whereIs m k 0 with
  | none =>
    rw [hw] at hf hs
    have hs' : mget m k = none := hs.symm
    have hsame : mdel m k = m := by
      unfold mdel
      refine List.filter_eq_self.2 fun q hq => ?_
      simp only [ne_eq, decide_not, Bool.not_eq_eq_eq_not, Bool.not_true, decide_eq_false_iff_not]
      intro e
      have := (mget_isSome m k).2 (by rw [← e]; exact List.mem_map.2 ⟨q, hq, rfl⟩)
      rw [hs'] at this; cases this
    refine ⟨_, by simp [Builtin.delete_, run_underlying ht, MapKept.run_getObj_map hb, hk.check, hf, MapKept.run_setObj_map _ hb, Result.andThen]; rfl, ?_, grownBy_putObj w r _⟩
    rw [hsame]
    exact ⟨⟨es, c, by simp [hlt], he, hbn, hnd⟩, hn⟩
  | some x =>
    obtain ⟨i, v0⟩ := x
    rw [hw] at hf
    obtain ⟨t', e1, hget, _⟩ := whereIs_get m k 0 i v0 hw
    obtain rfl : i = t' := by omega
    have hi : i < es.size := by
      have h1 := congrArg List.length he
      simp only [List.length_map, Array.length_toList] at h1
      rw [h1]; exact (List.getElem?_eq_some_iff.1 hget).1
    refine ⟨_, by simp [Builtin.delete_, run_underlying ht, MapKept.run_getObj_map hb, hk.check, hf, MapKept.run_setObj_map _ hb, Result.andThen]; rfl, ?_, grownBy_putObj w r _⟩
    have hmod : (es.eraseIdxIfInBounds i).toList = es.toList.eraseIdx i := by simp [Array.eraseIdxIfInBounds, hi]
    refine ⟨⟨_, c, by simp [hlt]; rfl, ?_, ?_, ?_⟩, ?_⟩
    · rw [hmod, map_eraseIdx, he, ← map_eraseIdx, erase_entry m k v0 i hget hn]
    · intro e hme
      rw [hmod] at hme
      exact hbn e (List.mem_of_mem_eraseIdx hme)
    · rw [hmod]
      exact hnd.sublist (List.Sublist.map _ (List.eraseIdx_sublist _ _))
    · exact hn.sublist (List.Sublist.map _ (List.filter_sublist))

section
variable {ops : Array Oper} {rest : List Oper} {o : Oper} {a : Act} {Q : Exit → Act → World → Prop}
theorem wpList_lookup_at (hg : o.guard = none) (mo x : Operand) (t : TypeId) (ok : Bool) (hop : o.op = Op.lookup t mo x ok) {K E : TypeId} (ht : P.underlying t = some (.map K E)) (hk : KeyOk P K enc) {z : Value} (hz : ∀ w, (zeroValue E).run P w = .ok z w)
    (r : Nat) (m : List (κ × Value)) (hm : a.eval mo = .map (some r)) (h : MapAt w enc r m) (k : κ) (hx : a.eval x = enc k)
    (hK : wpList P ops Q rest (a.put o.dst (if ok then .tuple #[(mget m k).getD z, .bool (mget m k).isSome] else (mget m k).getD z)) w) : wpList P ops Q (o :: rest) a w := by
  refine wpList_plain hg fun K' hK' => ?_
  have hrun := run_lookup_at ht hk hz h k ok
  unfold Oper.wp
  simp only [execOp, hop, hm, hx]
  simp [hrun, Result.andThen]
  exact hK' _ _ hK
theorem wpList_mapUpdate_at (hg : o.guard = none) (mo x v : Operand) (t : TypeId) (hop : o.op = Op.mapUpdate t mo x v ∨ o.op = Op.insert t mo x v) {K E : TypeId} (ht : P.underlying t = some (.map K E)) (hk : KeyOk P K enc)
    (r : Nat) (m : List (κ × Value)) (hm : a.eval mo = .map (some r)) (h : MapAt w enc r m) (k : κ) (hx : a.eval x = enc k) (val : Value) (hv : a.eval v = val)
    (hK : ∀ w', MapAt w' enc r (mput m k val) → w.grownBy w' (some r) → wpList P ops Q rest (a.put o.dst undef) w') : wpList P ops Q (o :: rest) a w := by
  refine wpList_plain hg fun K' hK' => ?_
  obtain ⟨w', hrun, r1, r2⟩ := run_update_at ht hk h k val
  unfold Oper.wp
  rcases hop with hop | hop <;>
    (simp only [execOp, hop, hm, hx, hv]
     simp [hrun, Result.andThen]
     exact hK' _ _ (hK w' r1 r2))
theorem wpList_delete_at (hg : o.guard = none) (mo x : Operand) (t : TypeId) {K : TypeId} (hop : o.op = Op.call { callee := Callee.builtin Builtin.delete, args := #[mo, x], argTypes := #[t, K] }) {E : TypeId} (ht : P.underlying t = some (.map K E)) (hk : KeyOk P K enc)
    (r : Nat) (m : List (κ × Value)) (hm : a.eval mo = .map (some r)) (h : MapAt w enc r m) (k : κ) (hx : a.eval x = enc k)
    (hK : ∀ w', MapAt w' enc r (mdel m k) → w.grownBy w' (some r) → wpList P ops Q rest (a.put o.dst (.tuple #[])) w') : wpList P ops Q (o :: rest) a w := by
  refine wpList_plain hg fun K' hK' => ?_
  obtain ⟨w', hrun, r1, r2⟩ := run_delete_at ht hk h k o.type
  unfold Oper.wp
  simp [execOp, hop, resolve, invoke, builtin, hm, hx, hrun, Result.andThen]
  exact hK' _ _ (hK w' r1 r2)
end
end

theorem checkKey_int {P : Program} {K : TypeId} (hK : P.underlying K = some (.int .i64)) (n : Nat) (a : Int) (b : Bool) (w : World) : (Instr.checkKey b (n + 1) K (.int .i64 a)).run P w = .ok () w := by
  simp [Instr.checkKey, run_underlying hK]
theorem keyInt {P : Program} {K : TypeId} (hK : P.underlying K = some (.int .i64)) : KeyOk P K (fun n : Int => Value.int .i64 n) :=
  ⟨⟨_, hK, fun a b => by simp [Instr.sameNow]; by_cases h : a = b <;> simp [h]⟩, fun a => by simp [Instr.sameBits], fun a b w => checkKey_int hK 9999 a b w⟩

end Go.Proofs.YtehdhbnbajfanaaGreat


/- holdings.within, slices.Index, holdings.cost, holdings.different: walked. -/
namespace Go.Proofs.YtehdhbnbajfanaaGreat
set_option linter.unusedSimpArgs false
set_option linter.unusedVariables false
open Go.RowKit Go.Sort

theorem keepE {w w' : World} {p : Addr} {v : Value} (h : w.cell? p = some v) (hb : Below w.heap.size w w') : w'.cell? p = some v := by
  have hp : p.block < w.heap.size := by
    unfold World.cell? at h
    rcases Nat.lt_or_ge p.block w.heap.size with h1 | h1
    · exact h1
    · rw [Array.getElem?_eq_none h1] at h; cases h
  rw [hb.cell hp]; exact h
theorem withinF_any (lo hi n : Int) (b1 b2 : Nat) (w : World) (h1 : w.heap[b1]? = some (.cells #[.int .i64 lo] 3 (0, 0))) (h2 : w.heap[b2]? = some (.cells #[.int .i64 hi] 3 (0, 0))) :
    Calls Tryz.prog 64 #[.int .i64 n, .pointer (some ⟨b1, 0, none⟩), .pointer (some ⟨b2, 0, none⟩)] w fun e w' => e = .returned (.bool (!inR lo hi n)) ∧ w = w' := by
  have c1 := box_cells h1; have c2 := box_cells h2
  clear h1 h2
  go_enter Tryz.func64, Tryz.ntmps64
  by_cases h : n < lo
  · have HR := Lib.hid (show inR lo hi n = false by simp [inR]; omega)
    go_wp2
    go_ret
    exact ⟨by rw [HR.out]; rfl, rfl⟩
  · by_cases h2 : hi < n
    · have HR := Lib.hid (show inR lo hi n = false by simp [inR]; omega)
      go_wp2
      go_ret
      exact ⟨by rw [HR.out]; simp [h2], rfl⟩
    · have HR := Lib.hid (show inR lo hi n = true by simp [inR]; omega)
      go_wp2
      go_ret
      exact ⟨by rw [HR.out]; simp [h2], rfl⟩
def WIdxPost (lo hi : Int) (l : List Int) (w : World) (e : Ending) (w' : World) : Prop := ∃ i : Int, e = .returned (.int .i64 i) ∧ ((i = -1 ∧ l.all (inR lo hi) = true) ∨ (0 ≤ i ∧ l.all (inR lo hi) = false)) ∧ w = w'
set_option maxHeartbeats 2000000 in
theorem withinI_any (lo hi : Int) (b1 b2 : Nat) (a : Option Addr) (cap : Nat) (l : List Int) (w : World) (hl : l.length ≤ 1000) (hm : InAt w a l) (h1 : w.heap[b1]? = some (.cells #[.int .i64 lo] 3 (0, 0))) (h2 : w.heap[b2]? = some (.cells #[.int .i64 hi] 3 (0, 0))) :
    Calls Tryz.prog 78 #[.slice a l.length cap, .func (Fn.func 64) #[] #[.pointer (some ⟨b1, 0, none⟩), .pointer (some ⟨b2, 0, none⟩)]] w (WIdxPost lo hi l w) := by
  have HM := Lib.hid hm; have H1 := Lib.hid h1; have H2 := Lib.hid h2; clear hm h1 h2
  go_enter Tryz.func78, Tryz.ntmps78
  go_wp2
  go_loop [8] (fun i => ∃ k : Nat, k ≤ l.length ∧ i = .int .i64 k ∧ ∀ j (hj : j < l.length), j < k → inR lo hi l[j] = true) (fun i => l.length - (intOf i).toNat)
  case atStart => exact ⟨0, Nat.zero_le _, rfl, fun j hj hk => by omega⟩
  case round =>
    obtain ⟨k, hk, rfl, hall⟩ := hrel
    have HA := Lib.hid hall; clear hall
    by_cases hlt : k < l.length
    · obtain ⟨b, off, rfl, c0⟩ := HM.out.get k hlt
      cases hd : inR lo hi l[k]
      · have HDD := Lib.hid hd
        go_wp2_with (fail)
        refine (withinF_any lo hi _ b1 b2 w H1.out H2.out).mono ?_; rintro e w' ⟨rfl, rfl⟩
        rw [HDD.out]
        go_wp2
        go_ret
        exact ⟨k, rfl, .inr ⟨by omega, by rw [List.all_eq_false]; exact ⟨l[k], List.getElem_mem _, by rw [HDD.out]; decide⟩⟩, rfl⟩
      · have HDD := Lib.hid hd
        go_wp2_with (fail)
        refine (withinF_any lo hi _ b1 b2 w H1.out H2.out).mono ?_; rintro e w' ⟨rfl, rfl⟩
        rw [HDD.out]
        go_wp2
        go_round
        case rel => exact ⟨k + 1, by omega, by go_num, fun j hj hjk => by
          by_cases e : j = k
          · subst e; exact HDD.out
          · exact HA.out j hj (by omega)⟩
        case measure => simp [intOf]; omega
    · go_wp2
      go_ret
      exact ⟨-1, rfl, .inl ⟨rfl, List.all_eq_true.2 fun x hx => by
        obtain ⟨j, hj, rfl⟩ := List.mem_iff_getElem.1 hx
        exact HA.out j hj (by omega)⟩, rfl⟩
theorem withinC_any (lo hi : Int) (b1 b2 : Nat) (a : Option Addr) (cap : Nat) (l : List Int) (w : World) (hl : l.length ≤ 1000) (hm : InAt w a l) (h1 : w.heap[b1]? = some (.cells #[.int .i64 lo] 3 (0, 0))) (h2 : w.heap[b2]? = some (.cells #[.int .i64 hi] 3 (0, 0))) :
    Calls Tryz.prog 63 #[.slice a l.length cap, .func (Fn.func 64) #[] #[.pointer (some ⟨b1, 0, none⟩), .pointer (some ⟨b2, 0, none⟩)]] w fun e w' => e = .returned (.bool (!l.all (inR lo hi))) ∧ w = w' := by
  have HM := Lib.hid hm; have H1 := Lib.hid h1; have H2 := Lib.hid h2; clear hm h1 h2
  go_enter Tryz.func63, Tryz.ntmps63
  go_wp2_with (fail)
  refine (withinI_any lo hi b1 b2 a cap l w hl HM.out H1.out H2.out).mono ?_; rintro e w' ⟨i, rfl, hi, rfl⟩
  rcases hi with ⟨rfl, h⟩ | ⟨hi, h⟩
  · have HL := Lib.hid h; clear h
    go_wp2
    go_ret
    exact ⟨by rw [HL.out]; rfl, rfl⟩
  · have HL := Lib.hid h; clear h
    go_wp2
    go_ret
    exact ⟨by rw [HL.out]; simp [hi], rfl⟩
set_option maxHeartbeats 1000000 in
theorem within_any (lo hi : Int) (a : Option Addr) (cap : Nat) (l : List Int) (w : World) (hl : l.length ≤ 1000) (hm : InAt w a l) :
    Calls Tryz.prog 39 #[.int .i64 lo, .int .i64 hi, .slice a l.length cap] w fun e w' => e = .returned (.bool (l.all (inR lo hi))) ∧ Below w.heap.size w w' := by
  have HM := Lib.hid hm; clear hm
  have k1 := fun o => up_alloc (heap_alloc_new w (.cells #[.int .i64 lo] 3)) o
  have k2 := at_alloc (w.alloc (.cells #[.int .i64 lo] 3)) (.cells #[.int .i64 hi] 3) (k := w.heap.size + 1) (by simp)
  have K1 := Lib.hid (k1 (.cells #[.int .i64 hi] 3)); have K2 := Lib.hid k2
  have HB := Lib.hid (((Below.refl w.heap.size w).alloc (Nat.le_refl _) (.cells #[.int .i64 lo] 3)).alloc (by simp) (.cells #[.int .i64 hi] 3))
  clear k1 k2
  go_enter Tryz.func39, Tryz.ntmps39
  go_wp2_with (fail)
  refine (withinC_any lo hi w.heap.size (w.heap.size + 1) a cap l _ hl (SlAt.below HM.out HB.out) K1.out K2.out).mono ?_
  rintro e w' ⟨rfl, rfl⟩
  go_wp2
  go_ret
  exact ⟨by simp, HB.out⟩
set_option maxHeartbeats 1000000 in
theorem Index_any (a : Option Addr) (cap : Nat) (l : List Int) (n : Int) (w : World) (hl : l.length ≤ 1000) (hm : InAt w a l) :
    Calls Tryz.prog 65 #[.slice a l.length cap, .int .i64 n] w fun e w' => e = .returned (.int .i64 (idxL l n)) ∧ w = w' := by
  have HM := Lib.hid hm; clear hm
  go_enter Tryz.func65, Tryz.ntmps65
  go_wp2
  go_loop [8] (fun i => ∃ k : Nat, k ≤ l.length ∧ i = .int .i64 k ∧ ∀ j (hj : j < l.length), j < k → l[j] ≠ n) (fun i => l.length - (intOf i).toNat)
  case atStart => exact ⟨0, Nat.zero_le _, rfl, fun j hj hk => by omega⟩
  case round =>
    obtain ⟨k, hk, rfl, hall⟩ := hrel
    have HA := Lib.hid hall; clear hall
    by_cases hlt : k < l.length
    · obtain ⟨b, off, rfl, c0⟩ := HM.out.get k hlt
      have HX0 := Lib.hid (idxL_at hlt (HA.out))
      have HNX := Lib.hid (fun (hne : l[k] ≠ n) j (hj : j < l.length) (hjk : j < k + 1) => (show l[j] ≠ n from if e : j = k then by subst e; exact hne else HA.out j hj (by omega)))
      generalize l[k] = X at *
      by_cases he : X = n
      · have e1 : (n == X) = true := by simp [he]
        have HR := Lib.hid (HX0.out he)
        clear he
        go_wp2
        go_ret
        exact ⟨by rw [HR.out]; rfl, rfl⟩
      · have e1 : (n == X) = false := beq_eq_false_iff_ne.2 (Ne.symm he)
        have HR := Lib.hid (HNX.out he)
        clear he
        go_wp2
        go_round
        case rel => exact ⟨k + 1, by omega, by go_num, HR.out⟩
        case measure => simp [intOf]; omega
    · have HR := Lib.hid (idxL_no (l := l) (n := n) fun j hj => HA.out j hj (by omega))
      go_wp2
      go_ret
      exact ⟨by rw [HR.out]; rfl, rfl⟩
end Go.Proofs.YtehdhbnbajfanaaGreat


/- holdings.different at integers, demands, copies: walked. -/
namespace Go.Proofs.YtehdhbnbajfanaaGreat
set_option linter.unusedSimpArgs false
set_option linter.unusedVariables false
open Go.RowKit Go.Sort

abbrev encJ (n : Int) : Value := .int .i64 n
theorem keyJ : KeyOk Tryz.prog 3 encJ := keyInt Tryz.underlying3
theorem zeroBoolJ (w : World) : (zeroValue 4).run Tryz.prog w = .ok (.bool false) w := by kernel_rfl
/-- Block r is a map of the first k keys. -/
def SeenAt (W : World) (r : Nat) (l : List Int) (k : Nat) : Prop := ∃ m, MapAt W encJ r m ∧ ∀ x, (mget m x).getD (.bool false) = .bool ((l.take k).contains x)
theorem SeenAt.below {W W' : World} {r : Nat} {l : List Int} {k : Nat} (h : SeenAt W r l k) (hb : Below W.heap.size W W') : SeenAt W' r l k := by
  obtain ⟨m, h1, h2⟩ := h
  exact ⟨m, h1.below hb, h2⟩
theorem SeenAt.look {W : World} {r : Nat} {l : List Int} {k : Nat} (h : SeenAt W r l k) (x : Int) : (Instr.lookup 40 (.map (some r)) (.int .i64 x) false).run Tryz.prog W = .ok (.bool ((l.take k).contains x)) W := by
  obtain ⟨m, h1, h2⟩ := h
  rw [← h2 x]
  exact run_lookup_at Tryz.underlying40 keyJ zeroBoolJ h1 x false
theorem seen_put {m : List (Int × Value)} {l : List Int} {k : Nat} (h : ∀ x, (mget m x).getD (.bool false) = .bool ((l.take k).contains x)) (hk : k < l.length) (x : Int) : (mget (mput m l[k] (.bool true)) x).getD (.bool false) = .bool ((l.take (k + 1)).contains x) := by
  rw [mget_mput, List.take_succ_eq_append_getElem hk]
  generalize l.take k = t at *
  generalize l[k] = y at *
  by_cases e : x = y
  · rw [if_pos e, e]; simp
  · rw [if_neg e, h x]; simp [e]
theorem nodup_take {l : List Int} {k : Nat} (hk : k < l.length) (h : (l.take k).Nodup) (hc : (l.take k).contains l[k] = false) : (l.take (k + 1)).Nodup := by
  rw [List.take_succ_eq_append_getElem hk, List.nodup_append]
  refine ⟨h, by simp, fun a ha b hb e => ?_⟩
  simp only [List.mem_singleton] at hb
  subst hb; subst e
  have : (l.take k).contains l[k] = true := by simpa using ha
  rw [hc] at this; cases this
theorem dup_take {l : List Int} {k : Nat} (hk : k < l.length) (hc : (l.take k).contains l[k] = true) : nodupB l = false := by
  unfold nodupB
  rw [decide_eq_false_iff_not]
  intro hn
  have h1 : (l.take (k + 1)).Nodup := hn.sublist (List.take_sublist _ _)
  rw [List.take_succ_eq_append_getElem hk, List.nodup_append] at h1
  exact h1.2.2 l[k] (by simpa using hc) l[k] (by simp) rfl
theorem keyI_any (n : Int) (w : World) : Calls Tryz.prog 76 #[.int .i64 n] w fun e w' => e = .returned (.int .i64 n) ∧ w = w' := by
  go_enter Tryz.func76, Tryz.ntmps76
  go_wp2
  go_ret
  exact ⟨rfl, rfl⟩
theorem keyD_any (d : De) (w : World) : Calls Tryz.prog 54 #[.agg #[.int .i64 d.id, .int .i64 d.part, .int .i64 d.stand, .slice d.ea d.eds.length d.ecap]] w fun e w' => e = .returned (.int .i64 d.id) ∧ Below w.heap.size w w' := by
  go_enter Tryz.func54, Tryz.ntmps54
  go_wp2
  go_ret
  exact ⟨rfl, (Below.refl _ _).alloc (Nat.le_refl _) _⟩
theorem keyC_any (c : Co) (w : World) : Calls Tryz.prog 56 #[.agg #[.int .i64 c.id, .int .i64 c.part, .int .i64 c.ed, .int .i64 c.hall]] w fun e w' => e = .returned (.int .i64 c.id) ∧ Below w.heap.size w w' := by
  go_enter Tryz.func56, Tryz.ntmps56
  go_wp2
  go_ret
  exact ⟨rfl, (Below.refl _ _).alloc (Nat.le_refl _) _⟩
set_option maxHeartbeats 2000000 in
theorem diffI_any (a : Option Addr) (cap : Nat) (l : List Int) (w : World) (hl : l.length ≤ 1000) (hm : InAt w a l) :
    Calls Tryz.prog 75 #[.slice a l.length cap, .func (Fn.func 76) #[] #[]] w fun e w' => e = .returned (.bool (nodupB l)) ∧ Below w.heap.size w w' := by
  have hmm := @run_makeMap Tryz.prog
  have HM := Lib.hid hm; clear hm
  go_enter Tryz.func75, Tryz.ntmps75
  go_wp2
  have hb0 := (Below.refl w.heap.size w).alloc (Nat.le_refl _) (.map #[] 0); have hu0 : SeenAt (w.alloc (.map #[] 0)) w.heap.size l 0 := ⟨[], MapAt.new w encJ, fun x => by simp [mget_nil]⟩; have HB := Lib.hid hb0; have HU := Lib.hid hu0; clear hb0 hu0; generalize w.alloc (.map #[] 0) = w1 at *; obtain ⟨r, hr⟩ : ∃ r, r = w.heap.size := ⟨_, rfl⟩; rw [← hr]; rw [← hr] at HU; have HR := Lib.hid (show w.heap.size ≤ r by omega); clear hr
  go_loopw [11] (fun i wr => ∃ k : Nat, k ≤ l.length ∧ i = .int .i64 k ∧ SeenAt wr r l k ∧ (l.take k).Nodup ∧ Below w.heap.size w wr) (fun i _ => l.length - (intOf i).toNat)
  case atStart => exact ⟨0, Nat.zero_le _, rfl, HU.out, by simp, HB.out⟩
  case round =>
    clear HB HU
    obtain ⟨k, hk, rfl, hu, hnd, hb⟩ := hrel
    have HU := Lib.hid hu; have HND := Lib.hid hnd; have HB := Lib.hid hb
    clear hu hnd hb
    by_cases hlt : k < l.length
    · obtain ⟨b, off, rfl, c0⟩ := HM.out.get k hlt
      have g0 := keepE c0 HB.out
      have hlook := HU.out.look l[k]
      have HN1 := Lib.hid (nodup_take hlt HND.out); have HD1 := Lib.hid (dup_take hlt)
      obtain ⟨m, hmap, hspec⟩ := HU.out
      have HMap := Lib.hid hmap; have HSpec := Lib.hid (seen_put hspec hlt)
      clear hmap hspec HU
      generalize l[k] = X at *
      generalize (l.take k).contains X = U at *
      cases U
      · have HN2 := Lib.hid (HN1.out (by first | rfl | trivial))
        clear HN1 HD1
        go_wp2_with (first | (go_at_call 76; refine (keyI_any _ _).mono ?_; rintro e w' ⟨rfl, rfl⟩) | (refine wpList_mapUpdate_at rfl (.tmp 20) (.tmp 23) _ 40 (.inl rfl) Tryz.underlying40 keyJ r m rfl HMap.out X rfl (.bool true) rfl ?_; intro w5 hm5 hg5; have HM5 := Lib.hid hm5; have HB5 := Lib.hid (KeepB.below ((KeepB.of_below' (S := []) HB.out).grown hg5 HB.out.size (fun k e => by cases e; exact HR.out))); clear hm5 hg5))
        go_roundw
        case rel => exact ⟨k + 1, by omega, by go_num, ⟨_, HM5.out, HSpec.out⟩, HN2.out, HB5.out⟩
        case measure => simp [intOf]; omega
      · have HD2 := Lib.hid (HD1.out (by first | rfl | trivial))
        clear HN1 HD1
        go_wp2_with (go_at_call 76; refine (keyI_any _ _).mono ?_; rintro e w' ⟨rfl, rfl⟩)
        go_ret
        exact ⟨by rw [HD2.out]; rfl, HB.out⟩
    · have HR2 := Lib.hid (show nodupB l = true by
        unfold nodupB
        rw [decide_eq_true_iff]
        have := HND.out
        rwa [List.take_of_length_le (by omega)] at this)
      go_wp2
      go_ret
      exact ⟨by rw [HR2.out]; rfl, HB.out⟩
set_option maxHeartbeats 2000000 in
theorem diffD_any (a : Option Addr) (cap : Nat) (l : List De) (w : World) (hl : l.length ≤ 1000) (hm : DeAt w a l) :
    Calls Tryz.prog 53 #[.slice a l.length cap, .func (Fn.func 54) #[] #[]] w fun e w' => e = .returned (.bool (nodupB (l.map De.id))) ∧ Below w.heap.size w w' := by
  have hmm := @run_makeMap Tryz.prog
  have HM := Lib.hid hm; clear hm
  go_enter Tryz.func53, Tryz.ntmps53
  go_wp2
  have hb0 := (Below.refl w.heap.size w).alloc (Nat.le_refl _) (.map #[] 0); have hu0 : SeenAt (w.alloc (.map #[] 0)) w.heap.size (l.map De.id) 0 := ⟨[], MapAt.new w encJ, fun x => by simp [mget_nil]⟩; have HB := Lib.hid hb0; have HU := Lib.hid hu0; clear hb0 hu0; generalize w.alloc (.map #[] 0) = w1 at *; obtain ⟨r, hr⟩ : ∃ r, r = w.heap.size := ⟨_, rfl⟩; rw [← hr]; rw [← hr] at HU; have HR := Lib.hid (show w.heap.size ≤ r by omega); clear hr
  go_loopw [11] (fun i wr => ∃ k : Nat, k ≤ l.length ∧ i = .int .i64 k ∧ SeenAt wr r (l.map De.id) k ∧ ((l.map De.id).take k).Nodup ∧ Below w.heap.size w wr) (fun i _ => l.length - (intOf i).toNat)
  case atStart => exact ⟨0, Nat.zero_le _, rfl, HU.out, by simp, HB.out⟩
  case round =>
    clear HB HU
    obtain ⟨k, hk, rfl, hu, hnd, hb⟩ := hrel
    have HU := Lib.hid hu; have HND := Lib.hid hnd; have HB := Lib.hid hb
    clear hu hnd hb
    by_cases hlt : k < l.length
    · obtain ⟨b, off, rfl, c0, c1, c2, c3⟩ := HM.out.get k hlt
      have g0 := keepE c0 HB.out; have g1 := keepE c1 HB.out; have g2 := keepE c2 HB.out; have g3 := keepE c3 HB.out
      have hlt' : k < (l.map De.id).length := by simpa using hlt
      have hid : (l.map De.id)[k]'hlt' = l[k].id := by simp
      have hn1 := nodup_take hlt' HND.out
      have hd1 := dup_take hlt'
      have hp1 := fun (m : List (Int × Value)) hspec => seen_put (m := m) hspec hlt'
      rw [hid] at hn1 hd1
      simp only [hid] at hp1
      have HN1 := Lib.hid hn1; have HD1 := Lib.hid hd1; have HP1 := Lib.hid hp1
      have HL1 := Lib.hid (fun w' hb => SeenAt.look (HU.out.below (W' := w') hb) l[k].id)
      clear hn1 hd1 hp1 hid
      generalize l[k] = d at *
      generalize ((l.map De.id).take k).contains d.id = U at *
      go_wp2_with (fail)
      refine (keyD_any d _).mono ?_
      rintro e w2 ⟨rfl, hb⟩
      have HX := Lib.hid (box_below hb)
      have hb2 := allocB hb
      have HB2 := Lib.hid (HB.out.trans (hb2.mono HB.out.size))
      have HU2 := Lib.hid (HU.out.below hb2)
      have hlook := HL1.out w2 hb2
      clear hb hb2 g0 g1 g2 g3 HU HL1
      cases U
      · have HN2 := Lib.hid (HN1.out (by first | rfl | trivial))
        clear HN1 HD1
        have cx := box_cells HX.out
        go_wp2_with (fail)
        refine (keyD_any d _).mono ?_
        rintro e w3 ⟨rfl, hb⟩
        have HB3 := Lib.hid (HB2.out.trans (hb.mono HB2.out.size))
        obtain ⟨m, hmap, hspec⟩ := HU2.out.below hb
        have HMap := Lib.hid hmap; have HSpec := Lib.hid (HP1.out m hspec)
        clear hb hmap hspec HU2 hlook cx HX HP1
        go_wp2_with (refine wpList_mapUpdate_at rfl (.tmp 20) (.tmp 23) _ 40 (.inl rfl) Tryz.underlying40 keyJ r m rfl HMap.out d.id rfl (.bool true) rfl ?_; intro w5 hm5 hg5; have HM5 := Lib.hid hm5; have HB5 := Lib.hid (KeepB.below ((KeepB.of_below' (S := []) HB3.out).grown hg5 HB3.out.size (fun k e => by cases e; exact HR.out))); clear hm5 hg5)
        go_roundw
        case rel => exact ⟨k + 1, by omega, by go_num, ⟨_, HM5.out, HSpec.out⟩, HN2.out, HB5.out⟩
        case measure => simp [intOf]; omega
      · have HD2 := Lib.hid (HD1.out (by first | rfl | trivial))
        clear HN1 HD1
        go_wp2
        go_ret
        exact ⟨by rw [HD2.out]; rfl, HB2.out⟩
    · have HR2 := Lib.hid (show nodupB (l.map De.id) = true by
        unfold nodupB
        rw [decide_eq_true_iff]
        have := HND.out
        rwa [List.take_of_length_le (by simp; omega)] at this)
      go_wp2
      go_ret
      exact ⟨by rw [HR2.out]; rfl, HB.out⟩
set_option maxHeartbeats 2000000 in
theorem diffC_any (a : Option Addr) (cap : Nat) (l : List Co) (w : World) (hl : l.length ≤ 1000) (hm : CoAt w a l) :
    Calls Tryz.prog 55 #[.slice a l.length cap, .func (Fn.func 56) #[] #[]] w fun e w' => e = .returned (.bool (nodupB (l.map Co.id))) ∧ Below w.heap.size w w' := by
  have hmm := @run_makeMap Tryz.prog
  have HM := Lib.hid hm; clear hm
  go_enter Tryz.func55, Tryz.ntmps55
  go_wp2
  have hb0 := (Below.refl w.heap.size w).alloc (Nat.le_refl _) (.map #[] 0); have hu0 : SeenAt (w.alloc (.map #[] 0)) w.heap.size (l.map Co.id) 0 := ⟨[], MapAt.new w encJ, fun x => by simp [mget_nil]⟩; have HB := Lib.hid hb0; have HU := Lib.hid hu0; clear hb0 hu0; generalize w.alloc (.map #[] 0) = w1 at *; obtain ⟨r, hr⟩ : ∃ r, r = w.heap.size := ⟨_, rfl⟩; rw [← hr]; rw [← hr] at HU; have HR := Lib.hid (show w.heap.size ≤ r by omega); clear hr
  go_loopw [11] (fun i wr => ∃ k : Nat, k ≤ l.length ∧ i = .int .i64 k ∧ SeenAt wr r (l.map Co.id) k ∧ ((l.map Co.id).take k).Nodup ∧ Below w.heap.size w wr) (fun i _ => l.length - (intOf i).toNat)
  case atStart => exact ⟨0, Nat.zero_le _, rfl, HU.out, by simp, HB.out⟩
  case round =>
    clear HB HU
    obtain ⟨k, hk, rfl, hu, hnd, hb⟩ := hrel
    have HU := Lib.hid hu; have HND := Lib.hid hnd; have HB := Lib.hid hb
    clear hu hnd hb
    by_cases hlt : k < l.length
    · obtain ⟨b, off, rfl, c0, c1, c2, c3⟩ := HM.out.get k hlt
      have g0 := keepE c0 HB.out; have g1 := keepE c1 HB.out; have g2 := keepE c2 HB.out; have g3 := keepE c3 HB.out
      have hlt' : k < (l.map Co.id).length := by simpa using hlt
      have hid : (l.map Co.id)[k]'hlt' = l[k].id := by simp
      have hn1 := nodup_take hlt' HND.out
      have hd1 := dup_take hlt'
      have hp1 := fun (m : List (Int × Value)) hspec => seen_put (m := m) hspec hlt'
      rw [hid] at hn1 hd1
      simp only [hid] at hp1
      have HN1 := Lib.hid hn1; have HD1 := Lib.hid hd1; have HP1 := Lib.hid hp1
      have HL1 := Lib.hid (fun w' hb => SeenAt.look (HU.out.below (W' := w') hb) l[k].id)
      clear hn1 hd1 hp1 hid
      generalize l[k] = d at *
      generalize ((l.map Co.id).take k).contains d.id = U at *
      go_wp2_with (fail)
      refine (keyC_any d _).mono ?_
      rintro e w2 ⟨rfl, hb⟩
      have HX := Lib.hid (box_below hb)
      have hb2 := allocB hb
      have HB2 := Lib.hid (HB.out.trans (hb2.mono HB.out.size))
      have HU2 := Lib.hid (HU.out.below hb2)
      have hlook := HL1.out w2 hb2
      clear hb hb2 g0 g1 g2 g3 HU HL1
      cases U
      · have HN2 := Lib.hid (HN1.out (by first | rfl | trivial))
        clear HN1 HD1
        have cx := box_cells HX.out
        go_wp2_with (fail)
        refine (keyC_any d _).mono ?_
        rintro e w3 ⟨rfl, hb⟩
        have HB3 := Lib.hid (HB2.out.trans (hb.mono HB2.out.size))
        obtain ⟨m, hmap, hspec⟩ := HU2.out.below hb
        have HMap := Lib.hid hmap; have HSpec := Lib.hid (HP1.out m hspec)
        clear hb hmap hspec HU2 hlook cx HX HP1
        go_wp2_with (refine wpList_mapUpdate_at rfl (.tmp 20) (.tmp 23) _ 40 (.inl rfl) Tryz.underlying40 keyJ r m rfl HMap.out d.id rfl (.bool true) rfl ?_; intro w5 hm5 hg5; have HM5 := Lib.hid hm5; have HB5 := Lib.hid (KeepB.below ((KeepB.of_below' (S := []) HB3.out).grown hg5 HB3.out.size (fun k e => by cases e; exact HR.out))); clear hm5 hg5)
        go_roundw
        case rel => exact ⟨k + 1, by omega, by go_num, ⟨_, HM5.out, HSpec.out⟩, HN2.out, HB5.out⟩
        case measure => simp [intOf]; omega
      · have HD2 := Lib.hid (HD1.out (by first | rfl | trivial))
        clear HN1 HD1
        go_wp2
        go_ret
        exact ⟨by rw [HD2.out]; rfl, HB2.out⟩
    · have HR2 := Lib.hid (show nodupB (l.map Co.id) = true by
        unfold nodupB
        rw [decide_eq_true_iff]
        have := HND.out
        rwa [List.take_of_length_le (by simp; omega)] at this)
      go_wp2
      go_ret
      exact ⟨by rw [HR2.out]; rfl, HB.out⟩
end Go.Proofs.YtehdhbnbajfanaaGreat


/- holdings.isDemand, isCopy, Valid, cost, Costs: walked; for not too many demands, editions, copies. -/
namespace Go.Proofs.YtehdhbnbajfanaaGreat
set_option linter.unusedSimpArgs false
set_option linter.unusedVariables false
open Go.RowKit Go.Sort

theorem inAt_new (w : World) (l : List Int) (E : TypeId) {k : Nat} (hk : k = w.heap.size) : InAt (w.alloc (.cells (l.map (Value.int .i64)).toArray E)) (some ⟨k, 0, none⟩) l := by
  subst hk
  intro i r hr
  rw [List.getElem?_map, Option.map_eq_some_iff] at hr
  obtain ⟨x, hx, rfl⟩ := hr
  refine ⟨w.heap.size, 0, rfl, by simp, rfl, fun j v hv => ?_⟩
  have hj : j = 0 := by
    have := (List.getElem?_eq_some_iff.1 hv).1
    simp [inRow] at this; omega
  subst hj
  simp [inRow] at hv
  subst hv
  have := box_cells (heap_alloc_new w (.cells (l.map (Value.int .i64)).toArray E)) i
  rw [Nat.zero_add, Nat.mul_one, Nat.add_zero, this]
  simp [hx]
set_option maxHeartbeats 2000000 in
theorem isDemand_any (d : De) (w : World) (hl : d.eds.length ≤ 1000) (hd : d.Ok w) :
    Calls Tryz.prog 51 #[.agg #[.int .i64 d.id, .int .i64 d.part, .int .i64 d.stand, .slice d.ea d.eds.length d.ecap]] w fun e w' => e = .returned (.bool (deOk d)) ∧ Below w.heap.size w w' := by
  have HD := Lib.hid hd; clear hd
  have HB := Lib.hid ((Below.refl w.heap.size w).alloc (Nat.le_refl _) (.cells #[.int .i64 d.id, .int .i64 d.part, .int .i64 d.stand, .slice d.ea d.eds.length d.ecap] 46))
  have HX := Lib.hid (heap_alloc_new w (.cells #[.int .i64 d.id, .int .i64 d.part, .int .i64 d.stand, .slice d.ea d.eds.length d.ecap] 46))
  have HS := Lib.hid (show w.heap.size + 1 = (w.alloc (.cells #[.int .i64 d.id, .int .i64 d.part, .int .i64 d.stand, .slice d.ea d.eds.length d.ecap] 46)).heap.size by simp)
  go_enter Tryz.func51, Tryz.ntmps51
  go_wp2_with (fail)
  generalize w.alloc (.cells #[.int .i64 d.id, .int .i64 d.part, .int .i64 d.stand, .slice d.ea d.eds.length d.ecap] 46) = w1 at *
  refine (within_any 1 1000000 _ _ [d.id, d.part, d.stand] _ (by simp) (inAt_new w1 [d.id, d.part, d.stand] _ HS.out)).mono ?_
  rintro e w2 ⟨rfl, hb⟩
  replace HX := Lib.hid (blk_keep (up_alloc HX.out _) hb)
  replace HB := Lib.hid (HB.out.trans ((allocB hb).mono HB.out.size))
  clear hb HS
  have HDK := Lib.hid (show deOk d = ([d.id, d.part, d.stand].all (inR 1 1000000) && [(d.eds.length : Int)].all (inR 1 12) && d.eds.all (inR 1 1000000) && nodupB d.eds) by
    have e : (fun n => isId n) = inR 1 1000000 := rfl
    simp only [deOk, isId, List.all_cons, List.all_nil, Bool.and_true, Bool.and_assoc]
    rfl)
  generalize hP1 : [d.id, d.part, d.stand].all (inR 1 1000000) = P1 at *
  cases P1
  · go_wp2
    go_ret
    exact ⟨by rw [HDK.out]; rfl, HB.out⟩
  clear hP1
  have cx := box_cells HX.out
  go_wp2_with (fail)
  refine (within_any 1 12 _ _ [(d.eds.length : Int)] _ (by simp) (inAt_new w2 [(d.eds.length : Int)] _ rfl)).mono ?_
  rintro e w3 ⟨rfl, hb⟩
  replace HX := Lib.hid (blk_keep (up_alloc HX.out _) hb)
  replace HB := Lib.hid (HB.out.trans ((allocB hb).mono HB.out.size))
  clear hb cx
  generalize hP2 : [(d.eds.length : Int)].all (inR 1 12) = P2 at *
  cases P2
  · go_wp2
    go_ret
    exact ⟨by rw [HDK.out]; rfl, HB.out⟩
  clear hP2
  have cx := box_cells HX.out
  go_wp2_with (fail)
  refine (within_any 1 1000000 _ _ d.eds _ hl (HD.out.ints.below HB.out)).mono ?_
  rintro e w4 ⟨rfl, hb⟩
  replace HX := Lib.hid (blk_keep HX.out hb)
  replace HB := Lib.hid (HB.out.trans (hb.mono HB.out.size))
  clear hb cx
  generalize hP3 : d.eds.all (inR 1 1000000) = P3 at *
  cases P3
  · go_wp2
    go_ret
    exact ⟨by rw [HDK.out]; rfl, HB.out⟩
  clear hP3
  have cx := box_cells HX.out
  go_wp2_with (fail)
  refine (diffI_any _ _ d.eds _ hl (HD.out.ints.below HB.out)).mono ?_
  rintro e w5 ⟨rfl, hb⟩
  replace HB := Lib.hid (HB.out.trans (hb.mono HB.out.size))
  clear hb cx
  go_wp2
  go_ret
  exact ⟨by rw [HDK.out]; rfl, HB.out⟩
set_option maxHeartbeats 2000000 in
theorem isCopy_any (c : Co) (w : World) :
    Calls Tryz.prog 52 #[.agg #[.int .i64 c.id, .int .i64 c.part, .int .i64 c.ed, .int .i64 c.hall]] w fun e w' => e = .returned (.bool (coOk c)) ∧ Below w.heap.size w w' := by
  have HB := Lib.hid ((Below.refl w.heap.size w).alloc (Nat.le_refl _) (.cells #[.int .i64 c.id, .int .i64 c.part, .int .i64 c.ed, .int .i64 c.hall] 44))
  have HX := Lib.hid (heap_alloc_new w (.cells #[.int .i64 c.id, .int .i64 c.part, .int .i64 c.ed, .int .i64 c.hall] 44))
  have HS := Lib.hid (show w.heap.size + 1 = (w.alloc (.cells #[.int .i64 c.id, .int .i64 c.part, .int .i64 c.ed, .int .i64 c.hall] 44)).heap.size by simp)
  go_enter Tryz.func52, Tryz.ntmps52
  go_wp2_with (fail)
  generalize w.alloc (.cells #[.int .i64 c.id, .int .i64 c.part, .int .i64 c.ed, .int .i64 c.hall] 44) = w1 at *
  refine (within_any 1 1000000 _ _ [c.id, c.part, c.ed] _ (by simp) (inAt_new w1 [c.id, c.part, c.ed] _ HS.out)).mono ?_
  rintro e w2 ⟨rfl, hb⟩
  replace HX := Lib.hid (blk_keep (up_alloc HX.out _) hb)
  replace HB := Lib.hid (HB.out.trans ((allocB hb).mono HB.out.size))
  clear hb HS
  have HDK := Lib.hid (show coOk c = ([c.id, c.part, c.ed].all (inR 1 1000000) && [c.hall].all (inR 0 99)) by
    simp only [coOk, isId, List.all_cons, List.all_nil, Bool.and_true, Bool.and_assoc])
  generalize hP1 : [c.id, c.part, c.ed].all (inR 1 1000000) = P1 at *
  cases P1
  · go_wp2
    go_ret
    exact ⟨by rw [HDK.out]; rfl, HB.out⟩
  clear hP1
  have cx := box_cells HX.out
  go_wp2_with (fail)
  refine (within_any 0 99 _ _ [c.hall] _ (by simp) (inAt_new w2 [c.hall] _ rfl)).mono ?_
  rintro e w3 ⟨rfl, hb⟩
  replace HB := Lib.hid (HB.out.trans ((allocB hb).mono HB.out.size))
  clear hb cx
  go_wp2
  go_ret
  exact ⟨by rw [HDK.out]; simp, HB.out⟩
set_option maxHeartbeats 2000000 in
theorem hcost_any (d : De) (c : Co) (hall : Int) (w : World) (hl : d.eds.length ≤ 1000) (hd : d.Ok w) :
    Calls Tryz.prog 40 #[.agg #[.int .i64 d.id, .int .i64 d.part, .int .i64 d.stand, .slice d.ea d.eds.length d.ecap], .agg #[.int .i64 c.id, .int .i64 c.part, .int .i64 c.ed, .int .i64 c.hall], .int .i64 hall] w fun e w' => e = .returned (.int .i64 (costI d c hall)) ∧ Below w.heap.size w w' := by
  have HD := Lib.hid hd; clear hd
  have HB := Lib.hid (((Below.refl w.heap.size w).alloc (Nat.le_refl _) (.cells #[.int .i64 d.id, .int .i64 d.part, .int .i64 d.stand, .slice d.ea d.eds.length d.ecap] 46)).alloc (by simp) (.cells #[.int .i64 c.id, .int .i64 c.part, .int .i64 c.ed, .int .i64 c.hall] 44))
  have hge := idxL_ge d.eds c.ed
  have hle : idxL d.eds c.ed ≤ 1000 := by
    rcases idxL_lt d.eds c.ed with h | h
    · omega
    · rw [h]; simp [idxL]
  have HC := Lib.hid (show ∀ i, idxL d.eds c.ed = i → costI d c hall = if d.part ≠ c.part ∨ i < 0 then -1 else if c.hall = hall then 10 * i else 10 * i + 5 from fun i e => by subst e; rfl)
  have HIX := Lib.hid (Index_any d.ea d.ecap d.eds c.ed _ hl (HD.out.ints.below HB.out))
  generalize hi : idxL d.eds c.ed = i at *
  replace HC := Lib.hid (HC.out i rfl)
  generalize costI d c hall = R at *
  clear hi
  go_enter Tryz.func40, Tryz.ntmps40
  go_wp2_with (fail)
  refine HIX.out.mono ?_
  rintro e w2 ⟨rfl, rfl⟩
  clear HIX
  by_cases hp : d.part = c.part
  · have e1 : (d.part != c.part) = false := by simp [hp]
    by_cases hn : i < 0
    · have HR := Lib.hid (show R = -1 by rw [HC.out, if_pos (.inr hn)])
      clear hp
      go_wp2
      go_ret
      exact ⟨by rw [HR.out]; rfl, HB.out⟩
    · by_cases hh : c.hall = hall
      · have e2 : (c.hall == hall) = true := by simp [hh]
        have HR := Lib.hid (show R = 10 * i by rw [HC.out, if_neg (by omega), if_pos hh])
        clear hp hh
        go_wp2
        go_ret
        exact ⟨by rw [HR.out]; rfl, HB.out⟩
      · have e2 : (c.hall == hall) = false := by simpa using hh
        have HR := Lib.hid (show R = 10 * i + 5 by rw [HC.out, if_neg (by omega), if_neg hh])
        clear hp hh
        go_wp2
        go_ret
        exact ⟨by rw [HR.out]; rfl, HB.out⟩
  · have e1 : (d.part != c.part) = true := by simpa using hp
    have HR := Lib.hid (show R = -1 by rw [HC.out, if_pos (.inl hp)])
    clear hp
    go_wp2
    go_ret
    exact ⟨by rw [HR.out]; rfl, HB.out⟩
theorem all_take_next {α : Type} {l : List α} {p : α → Bool} {k : Nat} (hk : k < l.length) (h : ∀ j (hj : j < l.length), j < k → p l[j] = true) (hp : p l[k] = true) : ∀ j (hj : j < l.length), j < k + 1 → p l[j] = true := fun j hj hjk => by
  by_cases e : j = k
  · subst e; exact hp
  · exact h j hj (by omega)
theorem all_of {α : Type} {l : List α} {p : α → Bool} (h : ∀ j (hj : j < l.length), p l[j] = true) : l.all p = true := List.all_eq_true.2 fun x hx => by
  obtain ⟨j, hj, rfl⟩ := List.mem_iff_getElem.1 hx
  exact h j hj
theorem not_all {α : Type} {l : List α} {p : α → Bool} {k : Nat} (hk : k < l.length) (h : p l[k] = false) : l.all p = false := by
  rw [List.all_eq_false]
  exact ⟨l[k], List.getElem_mem _, by rw [h]; decide⟩
set_option maxHeartbeats 2000000 in
theorem Valid_any (a a2 : Option Addr) (cap cap2 : Nat) (ds : List De) (cs : List Co) (w : World) (hl : ds.length ≤ 1000) (hl2 : cs.length ≤ 1000) (he : ∀ d ∈ ds, d.eds.length ≤ 1000) (hm : DeAt w a ds) (hc : CoAt w a2 cs) :
    Calls Tryz.prog 32 #[.slice a ds.length cap, .slice a2 cs.length cap2] w fun e w' => e = .returned (.bool (validB ds cs)) ∧ Below w.heap.size w w' := by
  have HM := Lib.hid hm; have HC := Lib.hid hc; have HE := Lib.hid he
  clear hm hc he
  by_cases h1 : ds.length ≤ 200
  case neg =>
    have HR := Lib.hid (show validB ds cs = false by simp [validB, h1])
    go_enter Tryz.func32, Tryz.ntmps32
    go_wp2
    go_ret
    exact ⟨by rw [HR.out]; rfl, Below.refl _ _⟩
  by_cases h2 : cs.length ≤ 200
  case neg =>
    have HR := Lib.hid (show validB ds cs = false by simp [validB, h2])
    go_enter Tryz.func32, Tryz.ntmps32
    go_wp2
    go_ret
    exact ⟨by rw [HR.out]; rfl, Below.refl _ _⟩
  have HV := Lib.hid (show validB ds cs = (ds.all deOk && cs.all coOk && nodupB (ds.map De.id) && nodupB (cs.map Co.id)) by simp [validB, h1, h2])
  go_enter Tryz.func32, Tryz.ntmps32
  go_wp2
  go_loopw [19] (fun i wr => ∃ k : Nat, k ≤ ds.length ∧ i = .int .i64 k ∧ (∀ j (hj : j < ds.length), j < k → deOk ds[j] = true) ∧ Below w.heap.size w wr) (fun i _ => ds.length - (intOf i).toNat)
  case atStart => exact ⟨0, Nat.zero_le _, rfl, fun j hj hk => by omega, Below.refl _ _⟩
  case round =>
    obtain ⟨k, hk, rfl, hall, hb⟩ := hrel
    have HA := Lib.hid hall; have HB := Lib.hid hb
    clear hall hb
    by_cases hlt : k < ds.length
    · obtain ⟨b, off, rfl, c0, c1, c2, c3⟩ := HM.out.get k hlt
      have g0 := keepE c0 HB.out; have g1 := keepE c1 HB.out; have g2 := keepE c2 HB.out; have g3 := keepE c3 HB.out
      have HD := Lib.hid (HM.out.ok ds[k] (List.getElem_mem _))
      have hed := HE.out ds[k] (List.getElem_mem _)
      have HN := Lib.hid (all_take_next (p := deOk) hlt HA.out); have HNA := Lib.hid (not_all (p := deOk) hlt)
      generalize ds[k] = d at *
      go_wp2_with (fail)
      refine (isDemand_any d _ hed (HD.out.below (HB.out.alloc HB.out.size _))).mono ?_
      rintro e w2 ⟨rfl, hb⟩
      have HB2 := Lib.hid (HB.out.trans ((allocB hb).mono HB.out.size))
      clear hb g0 g1 g2 g3
      generalize deOk d = R at *
      cases R
      · have HNB := Lib.hid (HNA.out (by first | rfl | trivial))
        go_wp2
        go_ret
        exact ⟨by rw [HV.out, HNB.out]; rfl, HB2.out⟩
      · have HN2 := Lib.hid (HN.out (by first | rfl | trivial))
        clear HN HNA
        go_wp2
        go_roundw
        case rel => exact ⟨k + 1, by omega, by go_num, HN2.out, HB2.out⟩
        case measure => simp [intOf]; omega
    · have HAll := Lib.hid (all_of (p := deOk) fun j hj => HA.out j hj (by omega))
      clear HA
      go_wp2
      go_loopw [29] (fun i wr => ∃ k : Nat, k ≤ cs.length ∧ i = .int .i64 k ∧ (∀ j (hj : j < cs.length), j < k → coOk cs[j] = true) ∧ Below w.heap.size w wr) (fun i _ => cs.length - (intOf i).toNat)
      case atStart => exact ⟨0, Nat.zero_le _, rfl, fun j hj hk => by omega, HB.out⟩
      case round =>
        clear HB
        obtain ⟨m, hmk, rfl, hall, hb⟩ := hrel
        have HA := Lib.hid hall; have HB := Lib.hid hb
        clear hall hb
        by_cases hlm : m < cs.length
        · obtain ⟨b, off, rfl, c0, c1, c2, c3⟩ := HC.out.get m hlm
          have g0 := keepE c0 HB.out; have g1 := keepE c1 HB.out; have g2 := keepE c2 HB.out; have g3 := keepE c3 HB.out
          have HN := Lib.hid (all_take_next (p := coOk) hlm HA.out); have HNA := Lib.hid (not_all (p := coOk) hlm)
          generalize cs[m] = c at *
          go_wp2_with (fail)
          refine (isCopy_any c _).mono ?_
          rintro e w2 ⟨rfl, hb⟩
          have HB2 := Lib.hid (HB.out.trans ((allocB hb).mono HB.out.size))
          clear hb g0 g1 g2 g3
          generalize coOk c = R at *
          cases R
          · have HNB := Lib.hid (HNA.out (by first | rfl | trivial))
            go_wp2
            go_ret
            exact ⟨by rw [HV.out, HAll.out, HNB.out]; rfl, HB2.out⟩
          · have HN2 := Lib.hid (HN.out (by first | rfl | trivial))
            clear HN HNA
            go_wp2
            go_roundw
            case rel => exact ⟨m + 1, by omega, by go_num, HN2.out, HB2.out⟩
            case measure => simp [intOf]; omega
        · have HAll2 := Lib.hid (all_of (p := coOk) fun j hj => HA.out j hj (by omega))
          clear HA
          go_wp2_with (fail)
          refine (diffD_any _ _ ds _ hl (HM.out.below HB.out)).mono ?_
          rintro e w2 ⟨rfl, hb⟩
          have HB2 := Lib.hid (HB.out.trans (hb.mono HB.out.size))
          clear hb
          generalize hU : nodupB (ds.map De.id) = U at *
          cases U
          · go_wp2
            go_ret
            exact ⟨by rw [HV.out, HAll.out, HAll2.out]; rfl, HB2.out⟩
          · clear hU
            go_wp2_with (fail)
            refine (diffC_any _ _ cs _ hl2 (HC.out.below HB2.out)).mono ?_
            rintro e w3 ⟨rfl, hb⟩
            have HB3 := Lib.hid (HB2.out.trans (hb.mono HB2.out.size))
            clear hb
            go_wp2
            go_ret
            exact ⟨by rw [HV.out, HAll.out, HAll2.out]; simp, HB3.out⟩
end Go.Proofs.YtehdhbnbajfanaaGreat
