/- Rows that a law has made, and two lists of them. -/
import Derived.Test.YtkpgphadgomifaaMatchMore0
namespace Go.Proofs.Ytkpgphadgomifaa
set_option linter.unusedSimpArgs false
set_option linter.unusedVariables false
open Go.RowKit Go.Sort Go.Shelf

/-- Block g holds the integers of a row, from its first cell on. -/
def RowG (W : World) (g : Nat) (row : List Int) : Prop := ∃ arr : Array Value, W.heap[g]? = some (.cells arr 3 (0, 0)) ∧ row.length ≤ arr.size ∧ ∀ j (hj : j < row.length), arr[j]? = some (.int .i64 row[j])
theorem RowG.lt {W : World} {g : Nat} {row : List Int} (h : RowG W g row) : g < W.heap.size := by obtain ⟨arr, e, _⟩ := h; exact lt_blk e
theorem RowG.of_eq {W W' : World} {g : Nat} {row : List Int} (h : RowG W g row) (e : W'.heap[g]? = W.heap[g]?) : RowG W' g row := by
  obtain ⟨arr, h1, h2⟩ := h
  exact ⟨arr, e.trans h1, h2⟩
theorem RowG.below {W W' : World} {g : Nat} {row : List Int} (h : RowG W g row) (hb : Below W.heap.size W W') : RowG W' g row := h.of_eq (hb.block g h.lt)
theorem RowG.cell {W : World} {g : Nat} {row : List Int} (h : RowG W g row) {j : Nat} (hj : j < row.length) : W.cell? ⟨g, j, none⟩ = some (.int .i64 row[j]) := by
  obtain ⟨arr, h1, h2, h3⟩ := h
  simp [World.cell?, h1, h3 j hj]
theorem RowG.free {W : World} {g : Nat} {row : List Int} (h : RowG W g row) (j : Nat) : W.frozen? ⟨g, j, none⟩ = false := by
  obtain ⟨arr, h1, _⟩ := h
  simp [World.frozen?, h1]
theorem RowG.inAt {W : World} {g : Nat} {row : List Int} (h : RowG W g row) : InAt W (some ⟨g, 0, none⟩) row := fun i r hr => by
  rw [List.getElem?_map] at hr
  obtain ⟨x, hx, rfl⟩ := Option.map_eq_some_iff.1 hr
  obtain ⟨hi, rfl⟩ := List.getElem?_eq_some_iff.1 hx
  refine ⟨g, 0, rfl, h.lt, rfl, fun j v hj => ?_⟩
  have : j = 0 := by
    have := (List.getElem?_eq_some_iff.1 hj).1
    simp [inRow] at this; omega
  subst this
  simp [inRow] at hj
  subst hj
  simpa using h.cell hi
theorem RowG.set {W : World} {g k : Nat} {row : List Int} (h : RowG W g row) (hk : k < row.length) (x : Int) : RowG (W.setCell ⟨g, k, none⟩ (.int .i64 x)) g (row.set k x) := by
  obtain ⟨arr, h1, h2, h3⟩ := h
  refine ⟨arr.setIfInBounds k (.int .i64 x), heap_setCell_same _ _ _ _ _ _ h1, by simp [h2], fun j hj => ?_⟩
  rw [List.length_set] at hj
  rw [Array.getElem?_setIfInBounds, List.getElem_set]
  split
  · rename_i e; rw [if_pos (by omega)]
  · rw [h3 j hj]
theorem RowG.of_own {W : World} {B : Nat} {v : Value} {row : List Int} (o : OwnR W B 3 1 v (row.map inRow)) (hne : row ≠ []) : ∃ g cap, v = .slice (some ⟨g, 0, none⟩) row.length cap ∧ B ≤ g ∧ row.length ≤ cap ∧ RowG W g row := by
  obtain ⟨_, h⟩ := o.own
  rw [List.length_map] at h
  rcases h with ⟨_, h⟩ | ⟨g, cap, cur, rfl, hB, hc, hn, _, hsz, ht⟩
  · exact absurd (List.length_eq_zero_iff.1 h) hne
  · refine ⟨g, cap, rfl, hB, hn, cur, hc, by omega, fun j hj => ?_⟩
    rw [flat_in] at ht
    have h1 : (cur.toList.take (row.length * 1))[j]? = some (.int .i64 row[j]) := by rw [ht]; simp [hj]
    rw [List.getElem?_take, if_pos (by omega)] at h1
    simpa using h1
theorem own_block {W : World} {B sz : Nat} {E : TypeId} {v : Value} {rows : List (List Value)} (o : OwnR W B E sz v rows) (hne : rows ≠ []) : ∃ g cap cur, v = .slice (some ⟨g, 0, none⟩) rows.length cap ∧ W.heap[g]? = some (.cells cur E (0, 0)) ∧ cur.toList.take (rows.length * sz) = rows.flatten := by
  obtain ⟨_, h⟩ := o.own
  rcases h with ⟨_, h⟩ | ⟨g, cap, cur, rfl, hB, hc, hn, _, hsz, ht⟩
  · exact absurd (List.length_eq_zero_iff.1 h) hne
  · exact ⟨g, cap, cur, rfl, hc, ht⟩
/-- Rows that hold different things do not share a block. -/
theorem own_differ {W : World} {B B' : Nat} {E : TypeId} {v v' : Value} {x y : Value} {r r' : List (List Value)} (o : OwnR W B E 1 v ([x] :: r)) (o' : OwnR W B' E 1 v' ([y] :: r')) (h : x ≠ y) : v.ownBlock ≠ v'.ownBlock := fun e => by
  obtain ⟨g, cap, cur, rfl, h1, h2⟩ := own_block o (by simp)
  obtain ⟨g', cap', cur', rfl, h3, h4⟩ := own_block o' (by simp)
  simp [Value.ownBlock] at e
  subst e
  rw [h1] at h3
  simp only [Option.some.injEq, Obj.cells.injEq, and_true] at h3
  subst h3
  have e1 : (cur.toList)[0]? = some x := by
    have : (cur.toList.take (([x] :: r).length * 1))[0]? = some x := by rw [h2]; rfl
    rw [List.getElem?_take, if_pos (by simp)] at this
    exact this
  have e2 : (cur.toList)[0]? = some y := by
    have : (cur.toList.take (([y] :: r').length * 1))[0]? = some y := by rw [h4]; rfl
    rw [List.getElem?_take, if_pos (by simp)] at this
    exact this
  rw [e1] at e2
  exact h (Option.some.inj e2)
theorem rowG_ne {W : World} {g B sz : Nat} {row : List Int} {v : Value} {rows : List (List Value)} (r : RowG W g row) (o : OwnR W B 23 sz v rows) : v.ownBlock ≠ some g := fun e => by
  obtain ⟨arr, h1, _⟩ := r
  obtain ⟨_, h⟩ := o.own
  rcases h with ⟨rfl, _⟩ | ⟨g', cap, cur, rfl, _, hc, _⟩
  · simp [Value.ownBlock] at e
  · simp [Value.ownBlock] at e
    subst e
    rw [h1] at hc
    simp only [Option.some.injEq, Obj.cells.injEq] at hc
    exact absurd hc.2.1 (by decide)
def wH (gw cw : Nat → Nat) (n i : Nat) : Hd := (some ⟨gw i, 0, none⟩, n, cw i)
/-- Two lists of rows that the law has made: mw wider rows, ml lesser ones. -/
structure MoreI (W : World) (B : Nat) (c : List (List Int)) (col : List Int) (mw ml : Nat) (sw sl : Value) (gw cw gl cl : Nat → Nat) : Prop where
  ow : OwnR W B 23 1 sw (((List.range mw).map (wH gw cw (wideL c + 1))).map hdr)
  ol : OwnR W B 23 1 sl (((List.range ml).map (wH gl cl (wideL c))).map hdr)
  zw : mw = 0 → sw.ownBlock = none
  zl : ml = 0 → sl.ownBlock = none
  rw : ∀ i, i < mw → RowG W (gw i) (c.getD i [] ++ [ext col i]) ∧ wideL c + 1 ≤ cw i ∧ B ≤ gw i
  rl : ∀ i, i < ml → RowG W (gl i) (c.getD i []) ∧ wideL c ≤ cl i ∧ B ≤ gl i
  wl : ∀ i j, i < mw → j < ml → gw i ≠ gl j
  ll : ∀ i j, i < ml → j < ml → i ≠ j → gl i ≠ gl j
theorem MoreI.below {W W' : World} {B mw ml : Nat} {c : List (List Int)} {col : List Int} {sw sl : Value} {gw cw gl cl : Nat → Nat} (h : MoreI W B c col mw ml sw sl gw cw gl cl) (hb : Below W.heap.size W W') : MoreI W' B c col mw ml sw sl gw cw gl cl :=
  ⟨h.ow.below hb, h.ol.below hb, h.zw, h.zl, fun i hi => ⟨(h.rw i hi).1.below hb, (h.rw i hi).2⟩, fun i hi => ⟨(h.rl i hi).1.below hb, (h.rl i hi).2⟩, h.wl, h.ll⟩
theorem range_hd (g c : Nat → Nat) (n m a b : Nat) : (List.range m).map (wH (upd g m a) (upd c m b) n) = (List.range m).map (wH g c n) :=
  List.map_congr_left fun i hi => by
    have : i < m := List.mem_range.1 hi
    simp [wH, upd_ne _ _ (show i ≠ m by omega)]
theorem hds_cons (g c : Nat → Nat) (n m : Nat) : ∃ r, ((List.range (m + 1)).map (wH g c n)).map hdr = [.slice (some ⟨g 0, 0, none⟩) n (c 0)] :: r := by
  rw [List.range_succ_eq_map, List.map_cons, List.map_cons]
  exact ⟨_, rfl⟩
theorem MoreI.ne {W : World} {B mw ml : Nat} {c : List (List Int)} {col : List Int} {sw sl : Value} {gw cw gl cl : Nat → Nat} (h : MoreI W B c col (mw + 1) (ml + 1) sw sl gw cw gl cl) : sw.ownBlock ≠ sl.ownBlock := by
  obtain ⟨r, e⟩ := hds_cons gw cw (wideL c + 1) mw
  obtain ⟨r', e'⟩ := hds_cons gl cl (wideL c) ml
  have o := h.ow; have o' := h.ol
  rw [e] at o; rw [e'] at o'
  exact own_differ o o' (by intro h; injection h with _ h; omega)
theorem MoreI.wide {W W1 W3 : World} {B m g cap : Nat} {c : List (List Int)} {col : List Int} {sw sl sw' : Value} {gw cw gl cl : Nat → Nat} {E : TypeId} (h : MoreI W B c col m m sw sl gw cw gl cl) (hb : Below W.heap.size W W1) (r : RowG W1 g (c.getD m [] ++ [ext col m])) (hg : W.heap.size ≤ g) (hc : wideL c + 1 ≤ cap) (hB : B ≤ W.heap.size)
    (o : OwnR W3 B 23 1 sw' (((List.range m).map (wH gw cw (wideL c + 1)) ++ [((some ⟨g, 0, none⟩, wideL c + 1, cap) : Hd)]).map hdr)) (hg3 : (W1.alloc (.cells #[.slice (some ⟨g, 0, none⟩) (wideL c + 1) cap] E)).grownBy W3 sw.ownBlock) :
    MoreI W3 B c col (m + 1) m sw' sl (upd gw m g) (upd cw m cap) gl cl := by
  have hb2 : Below W.heap.size W (W1.alloc (.cells #[.slice (some ⟨g, 0, none⟩) (wideL c + 1) cap] E)) := hb.alloc hb.size _
  have h2 := h.below hb2
  have r2 := r.below ((Below.refl W1.heap.size W1).alloc (Nat.le_refl _) (.cells #[.slice (some ⟨g, 0, none⟩) (wideL c + 1) cap] E))
  generalize W1.alloc (.cells #[.slice (some ⟨g, 0, none⟩) (wideL c + 1) cap] E) = W2 at *
  have keep : ∀ {k : Nat} {row : List Int}, RowG W2 k row → RowG W3 k row := fun r => r.of_eq (hg3.block _ r.lt (Ne.symm (rowG_ne r h2.ow)))
  have lg : ∀ j, j < m → gl j < W.heap.size := fun j hj => (h.rl j hj).1.lt
  refine ⟨?_, h2.ol.kept hg3 ?_, fun e => by omega, h.zl, fun i hi => ?_, fun i hi => ⟨keep (h2.rl i hi).1, (h2.rl i hi).2⟩, fun i j hi hj => ?_, h.ll⟩
  · rw [List.range_succ, List.map_append, range_hd]
    simpa [wH, upd_same] using o
  · match m, h with
    | 0, h => exact .inl (h.zl rfl)
    | m + 1, h => exact .inr (Ne.symm h.ne)
  · by_cases e : i = m
    · subst e
      rw [upd_same, upd_same]
      exact ⟨keep r2, hc, by omega⟩
    · rw [upd_ne _ _ e, upd_ne _ _ e]
      exact ⟨keep (h2.rw i (by omega)).1, (h2.rw i (by omega)).2⟩
  · by_cases e : i = m
    · subst e
      rw [upd_same]
      have := lg j hj
      omega
    · rw [upd_ne _ _ e]
      exact h.wl i j (by omega) hj
theorem MoreI.less {W W1 W3 : World} {B m g cap : Nat} {c : List (List Int)} {col : List Int} {sw sl sl' : Value} {gw cw gl cl : Nat → Nat} {E : TypeId} (h : MoreI W B c col (m + 1) m sw sl gw cw gl cl) (hb : Below W.heap.size W W1) (r : RowG W1 g (c.getD m [])) (hg : W.heap.size ≤ g) (hc : wideL c ≤ cap) (hB : B ≤ W.heap.size)
    (o : OwnR W3 B 23 1 sl' (((List.range m).map (wH gl cl (wideL c)) ++ [((some ⟨g, 0, none⟩, wideL c, cap) : Hd)]).map hdr)) (hg3 : (W1.alloc (.cells #[.slice (some ⟨g, 0, none⟩) (wideL c) cap] E)).grownBy W3 sl.ownBlock) :
    MoreI W3 B c col (m + 1) (m + 1) sw sl' gw cw (upd gl m g) (upd cl m cap) := by
  have hb2 : Below W.heap.size W (W1.alloc (.cells #[.slice (some ⟨g, 0, none⟩) (wideL c) cap] E)) := hb.alloc hb.size _
  have h2 := h.below hb2
  have r2 := r.below ((Below.refl W1.heap.size W1).alloc (Nat.le_refl _) (.cells #[.slice (some ⟨g, 0, none⟩) (wideL c) cap] E))
  generalize W1.alloc (.cells #[.slice (some ⟨g, 0, none⟩) (wideL c) cap] E) = W2 at *
  have keep : ∀ {k : Nat} {row : List Int}, RowG W2 k row → RowG W3 k row := fun r => r.of_eq (hg3.block _ r.lt (Ne.symm (rowG_ne r h2.ol)))
  have lg : ∀ j, j < m → gl j < W.heap.size := fun j hj => (h.rl j hj).1.lt
  have lw : ∀ j, j < m + 1 → gw j < W.heap.size := fun j hj => (h.rw j hj).1.lt
  refine ⟨h2.ow.kept hg3 ?_, ?_, fun e => by omega, fun e => by omega, fun i hi => ⟨keep (h2.rw i hi).1, (h2.rw i hi).2⟩, fun i hi => ?_, fun i j hi hj => ?_, fun i j hi hj hij => ?_⟩
  · right
    match m, h with
    | 0, h =>
      rw [h.zl rfl]
      obtain ⟨g0, cap0, cur, e, _⟩ := own_block h.ow (by simp)
      rw [e]; simp [Value.ownBlock]
    | m + 1, h => exact h.ne
  · rw [List.range_succ, List.map_append, range_hd]
    simpa [wH, upd_same] using o
  · by_cases e : i = m
    · subst e
      rw [upd_same, upd_same]
      exact ⟨keep r2, hc, by omega⟩
    · rw [upd_ne _ _ e, upd_ne _ _ e]
      exact ⟨keep (h2.rl i (by omega)).1, (h2.rl i (by omega)).2⟩
  · by_cases e : j = m
    · subst e
      rw [upd_same]
      have := lw i hi
      omega
    · rw [upd_ne _ _ e]
      exact h.wl i j hi (by omega)
  · by_cases e : i = m
    · by_cases e2 : j = m
      · omega
      · subst e
        rw [upd_same, upd_ne _ _ e2]
        have := lg j (by omega)
        omega
    · by_cases e2 : j = m
      · subst e2
        rw [upd_same, upd_ne _ _ e]
        have := lg i (by omega)
        omega
      · rw [upd_ne _ _ e, upd_ne _ _ e2]
        exact h.ll i j (by omega) (by omega) hij
end Go.Proofs.Ytkpgphadgomifaa
