/- The contract of the search that match.finder makes: by induction over the columns that are not seen. -/
import Derived.Test.YtkpgphadgomifaaMatchPure
import Derived.Test.YtkpgphadgomifaaRows
import Derived.WalkMore
namespace Go.Proofs.Ytkpgphadgomifaa
set_option linter.unusedSimpArgs false
set_option linter.unusedVariables false
open Go.RowKit Go.Sort

theorem eltInt : Elt Try.prog 23 3 1 8 inRow := ⟨Try.underlying23, ⟨.int .i64 0, by kernel_rfl, rfl⟩, by decide, by decide, fun _ => rfl, fun x u hu => by simp [inRow] at hu; subst hu; rfl⟩
/-- How many of the first n are not seen. -/
def cnt (seen : Nat → Bool) : Nat → Nat
  | 0 => 0
  | n + 1 => cnt seen n + (if seen n then 0 else 1)
theorem cnt_le (seen : Nat → Bool) (n : Nat) : cnt seen n ≤ n := by
  induction n with
  | zero => exact Nat.le_refl _
  | succ n ih => unfold cnt; split <;> omega
theorem cnt_ge (seen : Nat → Bool) (k n : Nat) (h : n ≤ k) : cnt (upd seen k true) n = cnt seen n := by
  induction n with
  | zero => rfl
  | succ n ih => unfold cnt; rw [ih (by omega), upd_ne _ _ (by omega)]
theorem cnt_upd (seen : Nat → Bool) (k n : Nat) (hk : k < n) (hs : seen k = false) : cnt (upd seen k true) n + 1 = cnt seen n := by
  induction n with
  | zero => omega
  | succ n ih =>
    unfold cnt
    by_cases e : k = n
    · subst e; rw [cnt_ge seen k k (Nat.le_refl _), upd_same, hs]; simp
    · have := ih (by omega)
      rw [upd_ne _ _ (by omega)]; omega
/-- Where the search's variables lie, and what is asked of the function that says who can have what. -/
structure Fi where
  n : Nat
  m : Nat
  B : Nat
  bM : Nat
  bO : Nat
  bS : Nat
  bC : Nat
  bF : Nat
  bow : Nat
  bsn : Nat
  cf : Nat
  caps : Array Value
  can : Nat → Nat → Bool
  S : World → Prop
def Fi.own (d : Fi) : List Nat := [d.bM, d.bow, d.bsn]
structure FiOk (d : Fi) : Prop where
  small : d.n ≤ 100000 ∧ d.m ≤ 100000
  lt : (d.bM < d.B ∧ d.bO < d.B ∧ d.bS < d.B ∧ d.bC < d.B ∧ d.bF < d.B) ∧ d.bow < d.B ∧ d.bsn < d.B
  neM : d.bO ≠ d.bM ∧ d.bS ≠ d.bM ∧ d.bC ≠ d.bM ∧ d.bF ≠ d.bM ∧ d.bow ≠ d.bM ∧ d.bsn ≠ d.bM
  neW : d.bO ≠ d.bow ∧ d.bS ≠ d.bow ∧ d.bC ≠ d.bow ∧ d.bF ≠ d.bow ∧ d.bsn ≠ d.bow
  neS : d.bO ≠ d.bsn ∧ d.bS ≠ d.bsn ∧ d.bC ≠ d.bsn ∧ d.bF ≠ d.bsn
  keep : ∀ w w', d.S w → KeepB d.B d.own w w' → d.S w'
  enter : ∀ args w, (callFunc d.cf args).run Try.prog w = .ok (.enter d.cf args) w
  can : ∀ w (i k : Nat), d.S w → i < d.m → k < d.n → Calls Try.prog d.cf (#[.int .i64 i, .int .i64 k] ++ d.caps) w fun e w' => e = .returned (.bool (d.can i k)) ∧ Below w.heap.size w w'
def metRow (i : Nat) : List Value := inRow (i : Int)
def findV (d : Fi) : Value := .func (Fn.func 47) #[] #[.pointer (some ⟨d.bM, 0, none⟩), .pointer (some ⟨d.bO, 0, none⟩), .pointer (some ⟨d.bS, 0, none⟩), .pointer (some ⟨d.bC, 0, none⟩), .pointer (some ⟨d.bF, 0, none⟩)]
/-- The search's variables in memory. -/
structure FSt (d : Fi) (w : World) (ow : Nat → Int) (seen : Nat → Bool) (met : List Nat) : Prop where
  big : d.B ≤ w.heap.size
  xM : ∃ mv, w.heap[d.bM]? = some (.cells #[mv] 23 (0, 0)) ∧ OwnR w d.B 3 1 mv (met.map metRow)
  xO : w.heap[d.bO]? = some (.cells #[.slice (some ⟨d.bow, 0, none⟩) d.n d.n] 23 (0, 0))
  xS : w.heap[d.bS]? = some (.cells #[.slice (some ⟨d.bsn, 0, none⟩) d.n d.n] 49 (0, 0))
  xC : w.heap[d.bC]? = some (.cells #[.func (Fn.func d.cf) #[] d.caps] 58 (0, 0))
  xF : w.heap[d.bF]? = some (.cells #[findV d] 70 (0, 0))
  ro : RowAt w d.bow d.n 3 (fun k => .int .i64 (ow k))
  rs : RowAt w d.bsn d.n 4 (fun k => .bool (seen k))
  sw : d.S w
theorem FSt.keep {d : Fi} {w w' : World} {ow : Nat → Int} {seen : Nat → Bool} {met met' : List Nat} (ok : FiOk d) (f : FSt d w ow seen met) (k : KeepB d.B [d.bM] w w')
    (xM : ∃ mv, w'.heap[d.bM]? = some (.cells #[mv] 23 (0, 0)) ∧ OwnR w' d.B 3 1 mv (met'.map metRow)) : FSt d w' ow seen met' := by
  obtain ⟨⟨l1, l2, l3, l4, l5⟩, l6, l7⟩ := ok.lt
  obtain ⟨n1, n2, n3, n4, n5, n6⟩ := ok.neM
  refine ⟨Nat.le_trans f.big k.size, xM, (k.block _ l2 (by simpa using n1)).trans f.xO, (k.block _ l3 (by simpa using n2)).trans f.xS, (k.block _ l4 (by simpa using n3)).trans f.xC, (k.block _ l5 (by simpa using n4)).trans f.xF, f.ro.of_eq (k.block _ l6 (by simpa using n5)), f.rs.of_eq (k.block _ l7 (by simpa using n6)), ok.keep _ _ f.sw (k.weaken (Nat.le_refl _) fun b hb _ => by simp only [List.mem_singleton] at hb; subst hb; simp [Fi.own])⟩
theorem FSt.below {d : Fi} {w w' : World} {ow : Nat → Int} {seen : Nat → Bool} {met : List Nat} (ok : FiOk d) (f : FSt d w ow seen met) (hb : Below w.heap.size w w') : FSt d w' ow seen met := by
  obtain ⟨mv, h1, h2⟩ := f.xM
  exact f.keep ok (KeepB.of_below hb f.big) ⟨mv, blk_keep h1 hb, h2.below hb⟩
theorem FSt.seen {d : Fi} {w : World} {ow : Nat → Int} {seen : Nat → Bool} {met : List Nat} (ok : FiOk d) (f : FSt d w ow seen met) {k : Nat} (hk : k < d.n) : FSt d (w.setCell ⟨d.bsn, k, none⟩ (.bool true)) ow (upd seen k true) met := by
  obtain ⟨⟨l1, l2, l3, l4, l5⟩, l6, l7⟩ := ok.lt
  obtain ⟨n1, n2, n3, n4, n5, n6⟩ := ok.neM
  obtain ⟨m1, m2, m3, m4, m5⟩ := ok.neW
  obtain ⟨s1, s2, s3, s4⟩ := ok.neS
  have oth : ∀ b, b ≠ d.bsn → (w.setCell ⟨d.bsn, k, none⟩ (.bool true)).heap[b]? = w.heap[b]? := fun b hb => heap_setCell_other _ _ _ _ (show _ ≠ _ by simpa using hb)
  obtain ⟨mv, h1, h2⟩ := f.xM
  refine ⟨by simpa [World.setCell] using f.big, ⟨mv, (oth _ (Ne.symm n6)).trans h1, h2.wide, ?_⟩, (oth _ s1).trans f.xO, (oth _ s2).trans f.xS, (oth _ s3).trans f.xC, (oth _ s4).trans f.xF, f.ro.other (Ne.symm m5) _, (f.rs.set hk (.bool true)).congr fun j hj => ?_, ok.keep _ _ f.sw ((KeepB.refl _ _ _).set (.inl (by simp [Fi.own])) _)⟩
  · have hl := h2.lt
    obtain ⟨a1, a2⟩ := h2.own
    refine ⟨a1, ?_⟩
    rcases a2 with a2 | ⟨g, cap, cur, e, hg, hc, h3⟩
    · exact .inl a2
    · exact .inr ⟨g, cap, cur, e, hg, (oth g (by omega)).trans hc, h3⟩
  · by_cases e : j = k
    · subst e; simp [upd_same]
    · simp [upd_ne _ _ e]
theorem FSt.give {d : Fi} {w : World} {ow : Nat → Int} {seen : Nat → Bool} {met : List Nat} (ok : FiOk d) (f : FSt d w ow seen met) {k : Nat} (hk : k < d.n) (r : Int) : FSt d (w.setCell ⟨d.bow, k, none⟩ (.int .i64 r)) (upd ow k r) seen met := by
  obtain ⟨⟨l1, l2, l3, l4, l5⟩, l6, l7⟩ := ok.lt
  obtain ⟨n1, n2, n3, n4, n5, n6⟩ := ok.neM
  obtain ⟨m1, m2, m3, m4, m5⟩ := ok.neW
  have oth : ∀ b, b ≠ d.bow → (w.setCell ⟨d.bow, k, none⟩ (.int .i64 r)).heap[b]? = w.heap[b]? := fun b hb => heap_setCell_other _ _ _ _ (show _ ≠ _ by simpa using hb)
  obtain ⟨mv, h1, h2⟩ := f.xM
  refine ⟨by simpa [World.setCell] using f.big, ⟨mv, (oth _ (Ne.symm n5)).trans h1, h2.wide, ?_⟩, (oth _ m1).trans f.xO, (oth _ m2).trans f.xS, (oth _ m3).trans f.xC, (oth _ m4).trans f.xF, (f.ro.set hk (.int .i64 r)).congr fun j hj => ?_, f.rs.other m5 _, ok.keep _ _ f.sw ((KeepB.refl _ _ _).set (.inl (by simp [Fi.own])) _)⟩
  · obtain ⟨a1, a2⟩ := h2.own
    refine ⟨a1, ?_⟩
    rcases a2 with a2 | ⟨g, cap, cur, e, hg, hc, h3⟩
    · exact .inl a2
    · exact .inr ⟨g, cap, cur, e, hg, (oth g (by omega)).trans hc, h3⟩
  · by_cases e : j = k
    · subst e; simp [upd_same]
    · simp [upd_ne _ _ e]
/-- Who is named as an owner is a row. -/
def OwV (d : Fi) (ow : Nat → Int) : Prop := ∀ k, k < d.n → ow k = -1 ∨ ∃ i : Nat, ow k = i ∧ i < d.m
theorem OwV.put {d : Fi} {ow : Nat → Int} (v : OwV d ow) {k r : Nat} (hr : r < d.m) : OwV d (upd ow k (r : Int)) := fun j hj => by
  by_cases e : j = k
  · subst e; exact .inr ⟨r, upd_same _ _ _, hr⟩
  · rw [upd_ne _ _ e]; exact v j hj
/-- What a search from r has done. -/
def FindPost (d : Fi) (r : Nat) (ow : Nat → Int) (seen : Nat → Bool) (met : List Nat) (w : World) (e : Ending) (w' : World) : Prop :=
  ∃ (ok : Bool) (ow' : Nat → Int) (seen' : Nat → Bool) (ms : List Nat), e = .returned (.bool ok) ∧ FSt d w' ow' seen' (met ++ ms) ∧ KeepB d.B d.own w w' ∧ OwV d ow' ∧ ms.length + cnt seen' d.n ≤ cnt seen d.n + 1 ∧ (∀ x ∈ ms, x < d.m) ∧
    ((ok = true ∧ Yes d.can d.n seen r ow ow') ∨ (ok = false ∧ ow' = ow ∧ ∃ ks, ms = r :: rows ow ks ∧ No d.can d.n ow seen seen' r d.n ks))
/-- What the loop over the columns knows. -/
def FindInv (d : Fi) (r : Nat) (ow : Nat → Int) (seen : Nat → Bool) (met : List Nat) (w0 : World) (j : Nat) (w : World) : Prop :=
  ∃ (seen' : Nat → Bool) (ks : List Nat), FSt d w ow seen' (met ++ r :: rows ow ks) ∧ KeepB d.B d.own w0 w ∧ (rows ow ks).length + cnt seen' d.n ≤ cnt seen d.n ∧ No d.can d.n ow seen seen' r j ks
end Go.Proofs.Ytkpgphadgomifaa
