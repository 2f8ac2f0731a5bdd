/- Two rows of a slice of loans exchanged in memory. -/
import Derived.Test.YtokhligpjbdhcaaLoanLaw4
import Derived.Deep.MidRow
import Derived.RegionTactic
namespace Go.Proofs.Ytokhligpjbdhcaa
set_option linter.unusedSimpArgs false
set_option linter.unusedVariables false
open Go.RowKit Go.Sort

theorem wpAny_take1 {P : Program} {md : Region.Mode} {ops : Array Oper} {Q : Exit → Act → World → Prop} (i : Nat) {oi : Oper} {v : Value} {fuel : Nat} {listed : Array Bool} {a : Act} {w : World} (hi : ops[i]? = some oi)
    (hs : Region.noSelect ops = true) (hf : Region.free md ops listed i = true) (hr : (Region.ready md ops listed).contains i = true)
    (hy : Region.wanted oi (yielded ops a.tmps) = true ∧ ∀ w, (execOp a.eval oi).run P w = .ok (.value v) w) (hQ : ∀ c a w, Q (.panic c) (Act.put a oi.dst v) w → Q (.panic c) a w) (h : wpAny P md ops Q fuel (listed.setIfInBounds i true) (a.put oi.dst v) w) : wpAny P md ops Q (fuel + 1) listed a w :=
  wpAny_take hi hs hf hr hQ (.inl hy) h
/-- A struct stored into the middle of a block, as one step of a region that draws. -/
theorem step_store {P : Program} {ops : Array Oper} {o : Oper} {a : Act} {w : World} {K : Act → World → Prop} {Q : Exit → Act → World → Prop} {E : Prop}
    (hg : o.guard = none) (ty : TypeId) (x y : Operand) (ho : o.op = .store ty x y) (b off : Nat) (cells : Array Value) (hx : a.eval x = .pointer (some ⟨b, off, none⟩)) (hy : a.eval y = .agg cells)
    (ht : w.there b off cells.size) (hi : (P.info? ty).map (·.size) = some cells.size) (h1 : cells.all (·.oneCell') = true) (hK : K (a.put o.dst undef) (w.setCells b off cells.toList)) :
    if Region.wanted o (yielded ops a.tmps) = true then Oper.wp P o a w K Q else E := by
  have hw : Region.wanted o (yielded ops a.tmps) = true := by simp [Region.wanted, hg]
  rw [if_pos hw]
  exact wp_store_mid ty x y ho b off cells hx hy ht hi h1 hK
/-- A struct read out of the middle of a block, as one step of a region that draws. -/
theorem step_load {P : Program} {ops : Array Oper} {o : Oper} {a : Act} {w : World} {K : Act → World → Prop} {Q : Exit → Act → World → Prop} {E : Prop}
    (hg : o.guard = none) (ty : TypeId) (x : Operand) (ho : o.op = .load ty x) (b off : Nat) (hx : a.eval x = .pointer (some ⟨b, off, none⟩)) (cs : List Value) (d : TypeDesc) (hc : w.rangeAt b off cs)
    (hu : P.underlying ty = some d) (hd : d.isRow = true) (hi : (P.info? ty).map (·.size) = some cs.length) (hK : K (a.put o.dst (.agg cs.toArray)) w) :
    if Region.wanted o (yielded ops a.tmps) = true then Oper.wp P o a w K Q else E := by
  have hw : Region.wanted o (yielded ops a.tmps) = true := by simp [Region.wanted, hg]
  rw [if_pos hw]
  exact wp_load_mid ty x ho b off hx cs d hc hu hd hi hK
theorem below_cells {B : Nat} {a : World} (b : Nat) (hb : B ≤ b) : ∀ (vs : List Value) (o : Nat) {w : World}, Below B a w → Below B a (w.setCells b o vs)
  | [], _, _, h => h
  | v :: vs, o, _, h => below_cells b hb vs (o + 1) (h.setCell hb v)
theorem LoAt.range {w : World} {g : Nat} {l : List Lo} (h : LoAt w (some ⟨g, 0, none⟩) l) (i : Nat) (hi : i < l.length) : w.rangeAt g (i * 5) l[i].cells := fun j v hv => by
  obtain ⟨b, off, e, _, _, hc⟩ := h i l[i].cells (by simp [List.getElem?_eq_getElem hi])
  cases e
  have := hc j v hv
  rwa [Nat.zero_add] at this
theorem rangeAt.there {w : World} {g o : Nat} {x : Lo} (h : w.rangeAt g o x.cells) (hf : ∀ j, w.frozen? ⟨g, j, none⟩ = false) : w.there g o 5 := fun j hj => by
  have hl : j < x.cells.length := hj
  exact ⟨by rw [h j x.cells[j] (List.getElem?_eq_getElem hl)]; rfl, hf _⟩
theorem cells_one (x : Lo) : x.cells.toArray.all (·.oneCell') = true := by simp [Lo.cells]; exact ⟨rfl, rfl, rfl, rfl, rfl⟩
/-- Two rows exchanged in memory. -/
theorem LoAt.swap {w : World} {g : Nat} {l : List Lo} (kk : Nat) (hk : kk + 1 < l.length) (h : LoAt w (some ⟨g, 0, none⟩) l) (hf : ∀ j, w.frozen? ⟨g, j, none⟩ = false) :
    LoAt ((w.setCells g (kk * 5) (l[kk + 1]'hk).cells).setCells g ((kk + 1) * 5) (l[kk]'(by omega)).cells) (some ⟨g, 0, none⟩) ((l.set kk (l[kk + 1]'hk)).set (kk + 1) (l[kk]'(by omega))) := by
  have r0 := h.range kk (by omega)
  have r1 := h.range (kk + 1) hk
  have t0 := rangeAt.there r0 hf
  have t1 := rangeAt.there r1 hf
  have hf1 : ∀ j, (w.setCells g (kk * 5) (l[kk + 1]'hk).cells).frozen? ⟨g, j, none⟩ = false := fun j => by rw [World.frozen?_setCells]; exact hf j
  have t1' : (w.setCells g (kk * 5) (l[kk + 1]'hk).cells).there g ((kk + 1) * 5) 5 := World.there_setCells t1 _ _ _
  intro i r hr
  rw [List.getElem?_map, Option.map_eq_some_iff] at hr
  obtain ⟨x, hx, rfl⟩ := hr
  have hil : i < l.length := by have := (List.getElem?_eq_some_iff.1 hx).1; simpa using this
  have hlt : g < w.heap.size := by obtain ⟨b, off, e, h1, _⟩ := h i l[i].cells (by simp [List.getElem?_eq_getElem hil]); cases e; exact h1
  have hsz : g < ((w.setCells g (kk * 5) (l[kk + 1]'hk).cells).setCells g ((kk + 1) * 5) (l[kk]'(by omega)).cells).heap.size := Nat.lt_of_lt_of_le hlt (below_cells g (Nat.zero_le _) _ _ (below_cells g (Nat.zero_le _) _ _ (Below.refl 0 w))).size
  have hfin : ((w.setCells g (kk * 5) (l[kk + 1]'hk).cells).setCells g ((kk + 1) * 5) (l[kk]'(by omega)).cells).rangeAt g (i * 5) x.cells := by
    by_cases e1 : i = kk + 1
    · subst e1
      rw [List.getElem?_set_self (by simpa using hk)] at hx
      cases hx
      exact World.rangeAt_setCells_same _ _ _ _ t1'
    · rw [List.getElem?_set_ne (fun e => e1 e.symm)] at hx
      by_cases e0 : i = kk
      · subst e0
        rw [List.getElem?_set_self hil] at hx
        cases hx
        exact World.rangeAt_setCells_apart (World.rangeAt_setCells_same _ _ _ _ t0) _ _ _ (.inr (.inl (by show i * 5 + 5 ≤ _; omega)))
      · rw [List.getElem?_set_ne (fun e => e0 e.symm), List.getElem?_eq_getElem hil] at hx
        cases hx
        refine World.rangeAt_setCells_apart (World.rangeAt_setCells_apart (h.range i hil) _ _ _ (.inr ?_)) _ _ _ (.inr ?_)
        · show i * 5 + 5 ≤ kk * 5 ∨ kk * 5 + 5 ≤ i * 5; omega
        · show i * 5 + 5 ≤ (kk + 1) * 5 ∨ (kk + 1) * 5 + 5 ≤ i * 5; omega
  refine ⟨g, 0, rfl, hsz, rfl, fun j v hv => ?_⟩
  rw [Nat.zero_add]
  exact hfin j v hv
theorem swap_split (l : List Lo) (kk : Nat) (hk : kk + 1 < l.length) : ∃ p r, l = p ++ (l[kk]'(by omega)) :: (l[kk + 1]'hk) :: r ∧ (l.set kk (l[kk + 1]'hk)).set (kk + 1) (l[kk]'(by omega)) = p ++ (l[kk + 1]'hk) :: (l[kk]'(by omega)) :: r := by
  have e1 : l = l.take kk ++ (l[kk]'(by omega)) :: (l[kk + 1]'hk) :: l.drop (kk + 2) := by
    conv => lhs; rw [← List.take_append_drop kk l, List.drop_eq_getElem_cons (show kk < l.length by omega), List.drop_eq_getElem_cons hk]
  refine ⟨l.take kk, l.drop (kk + 2), e1, ?_⟩
  generalize l[kk]'(by omega) = x at *
  generalize l[kk + 1]'hk = y at *
  have hpl : (l.take kk).length = kk := by rw [List.length_take]; omega
  generalize l.take kk = p at *
  generalize l.drop (kk + 2) = r at *
  rw [e1]
  subst hpl
  rw [List.set_append_right _ _ (Nat.le_refl _), Nat.sub_self, List.set_cons_zero, List.set_append_right _ _ (Nat.le_succ _), show p.length + 1 - p.length = 1 by omega]
  rfl

end Go.Proofs.Ytokhligpjbdhcaa
