/- Contracts of slices.Sort at what a call owns, of match.finder, of match.Short. -/
import Derived.Test.YtkpgphadgomifaaMatchLay
import Derived.Sort.OwnSortedInts
namespace Go.Proofs.Ytkpgphadgomifaa
set_option linter.unusedSimpArgs false
set_option linter.unusedVariables false
open Go.RowKit Go.Sort Go.Shelf

def isort (l : List Int) : List Int := l.mergeSort fun x y => decide (x ≤ y)
theorem flat_in (l : List Int) : (l.map inRow).flatten = l.map (Value.int .i64) := by
  induction l with
  | nil => rfl
  | cons x l ih => simp [inRow, ih]
theorem met_in (l : List Nat) : l.map metRow = (l.map fun i : Nat => (i : Int)).map inRow := by simp [metRow]
/-- What slices.Sort does to a slice of the call's own. -/
def SortPost (B : Nat) (v : Value) (l : List Int) (w : World) (e : Ending) (w' : World) : Prop := e = .returned (.tuple #[]) ∧ OwnR w' B 3 1 v ((isort l).map inRow) ∧ w.grownBy w' v.ownBlock
theorem sort_any (B : Nat) (v : Value) (l : List Int) (w : World) (hne : l ≠ []) (hl : l.length ≤ 1000000) (o : OwnR w B 3 1 v (l.map inRow)) : Calls Try.prog 33 #[v] w (SortPost B v l w) := by
  obtain ⟨_, h1, h2⟩ := o
  rcases h2 with ⟨_, h2⟩ | ⟨g, cap, cur, rfl, hg, hc, h3, h4, h5, h6⟩
  · exact absurd (List.length_eq_zero_iff.1 (by simpa using h2)) hne
  · rw [List.length_map] at h3 h6 ⊢
    rw [Nat.mul_one, flat_in] at h6
    have hlt : g < w.heap.size := lt_blk hc
    have := AnyM.slices_Sort_int (P := Try.prog) Lay.sortA g 0 cap l w (holds_of_blockI hc h6) hlt (by omega)
    refine Calls.mono this ?_
    rintro e w' ⟨rfl, n, os, rfl⟩
    have hlen : (isort l).length = l.length := by simp [isort, List.length_mergeSort]
    refine ⟨rfl, ⟨by simp [inRow], ?_⟩, grownBy_sortedI _⟩
    have := ownsRow_sortedI (w := w) (n := n) (os := os) (ss := l) (ts := isort l) hlen hg hc h3 h4 h5
    rw [flat_in, List.length_map, hlen]
    exact this
/-- match.finder: its variables lie in three new cells. -/
def FinPost (m : Int) (v f : Value) (w : World) (e : Ending) (w' : World) : Prop :=
  ∃ s : Nat, s = w.heap.size ∧ e = .returned (.func (Fn.func 46) #[] #[.pointer (some ⟨s + 1, 0, none⟩), .pointer (some ⟨s + 1 + 1, 0, none⟩), .pointer (some ⟨s, 0, none⟩)]) ∧
    w'.heap[s]? = some (.cells #[.int .i64 m] 3 (0, 0)) ∧ w'.heap[s + 1]? = some (.cells #[v] 23 (0, 0)) ∧ w'.heap[s + 1 + 1]? = some (.cells #[f] 58 (0, 0)) ∧ Below w.heap.size w w'
theorem finder_any (m : Int) (a : Option Addr) (n cap cf : Nat) (caps : Array Value) (w : World) : Calls Try.prog 30 #[.int .i64 m, .slice a n cap, .func (Fn.func cf) #[] caps] w (FinPost m (.slice a n cap) (.func (Fn.func cf) #[] caps) w) := by
  go_enter Try.func30, Try.ntmps30
  go_wp2
  go_ret
  obtain ⟨x1, x2, x3, x4⟩ := box3 (Below.refl (((w.alloc (.cells #[.int .i64 m] 3)).alloc (.cells #[.slice a n cap] 23)).alloc (.cells #[.func (Fn.func cf) #[] caps] 58)).heap.size _)
  exact ⟨w.heap.size, rfl, rfl, x1, x2, x3, x4⟩
/-- Can row i have column k? -/
def canC (c : List (List Int)) (i k : Nat) : Bool := decide (0 ≤ (c.getD i []).getD k (-1))
theorem short1_any (b : Nat) (a : Option Addr) (cap : Nat) (c : List (List Int)) (i k : Nat) (w : World) (hl : c.length ≤ 200) (hwd : ∀ l ∈ c, l.length = wideL c) (hn : wideL c ≤ 200) (hi : i < c.length) (hk : k < wideL c)
    (hx : w.heap[b]? = some (.cells #[.slice a c.length cap] 22 (0, 0))) (hm : MatAt w a c) :
    Calls Try.prog 32 #[.int .i64 i, .int .i64 k, .pointer (some ⟨b, 0, none⟩)] w fun e w' => e = .returned (.bool (canC c i k)) ∧ Below w.heap.size w w' := by
  obtain ⟨b1, off, ai, ci, rfl, c0, hsk, hik⟩ := hm.get i hi
  have hlen := hwd c[i] (List.getElem_mem _)
  obtain ⟨b2, off2, rfl, d0⟩ := hik.get k (by omega)
  have hC := Lib.hid (show canC c i k = decide (0 ≤ (c[i])[k]'(by omega)) by simp [canC, List.getD, hi, hlen, hk])
  have hcx := box_cells hx
  rw [hlen] at c0
  clear hx hm hik hsk
  generalize (c[i])[k]'(by omega) = N at *
  clear hlen hwd
  go_enter Try.func32, Try.ntmps32
  go_wp2
  go_ret
  exact ⟨by rw [hC.out]; rfl, Below.refl _ _⟩
end Go.Proofs.Ytkpgphadgomifaa
