
/- Small words on worlds and on slices that lie in memory, used by the walks of this seat; no condition. -/
import Derived.WalkKit
import Derived.WalkSpells
import Derived.WalkLawsBesides
import Derived.Lib.Hide
import Derived.BigQuiet
import Derived.Lib.QuietBelow
import Derived.Deep.RegionHeld3
import Derived.Deep.LoopGhost
import Derived.Deep.DeepCutAuto
namespace Go.Proofs.YtfppijjjaleiaaaDoor
set_option linter.unusedSimpArgs false
set_option linter.unusedVariables false
open Go.RowKit Go.Sort

/-- Is n from lo to hi? -/
def inB (n lo hi : Int) : Bool := decide (lo ≤ n) && decide (n ≤ hi)
theorem ret_int {k : IntKind} {a b : Int} (h : a = b) : Ending.returned (.int k a) = .returned (.int k b) := by rw [h]
theorem ret_ibi {j k : IntKind} {a a' c c' : Int} {b b' : Bool} (h1 : a = a') (h2 : b = b') (h3 : c = c') : Ending.returned (.tuple #[.int j a, .bool b, .int k c]) = .returned (.tuple #[.int j a', .bool b', .int k c']) := by rw [h1, h2, h3]
theorem ret_ii {j k : IntKind} {a a' c c' : Int} (h1 : a = a') (h3 : c = c') : Ending.returned (.tuple #[.int j a, .int k c]) = .returned (.tuple #[.int j a', .int k c']) := by rw [h1, h3]
theorem ret_si {k : IntKind} {a : Option Addr} {n n' cap : Nat} {c c' : Int} (h1 : n = n') (h3 : c = c') : Ending.returned (.tuple #[.slice a n cap, .int k c]) = .returned (.tuple #[.slice a n' cap, .int k c']) := by rw [h1, h3]
theorem ret_sl {a : Option Addr} {n n' cap : Nat} (h : n = n') : Ending.returned (.slice a n cap) = .returned (.slice a n' cap) := by rw [h]
theorem ret_bool {a b : Bool} (h : a = b) : Ending.returned (.bool a) = .returned (.bool b) := by rw [h]
theorem len_take {α : Type} (l : List α) (k : Nat) (h : k ≤ l.length) : k = (l.take k).length := by simp; omega
theorem take_eq_succ {α : Type} (l r : List α) (k : Nat) (h : k < l.length) (h' : k < r.length) (hp : l.take k = r.take k) (he : l[k] = r[k]) : l.take (k + 1) = r.take (k + 1) := by
  rw [List.take_succ_eq_append_getElem h, List.take_succ_eq_append_getElem h', hp, he]
theorem ne_at {α : Type} (l r : List α) (k : Nat) (h : k < l.length) (h' : k < r.length) (he : l[k] ≠ r[k]) : l ≠ r := fun e => by subst e; exact he rfl
theorem not_t {b : Bool} (h : (!b) = true) : b = false := by simpa using h
theorem not_f {b : Bool} (h : (!b) = false) : b = true := by simpa using h
theorem inB_iff (n lo hi : Int) : inB n lo hi = true ↔ lo ≤ n ∧ n ≤ hi := by simp [inB]
theorem inB_not (n lo hi : Int) : inB n lo hi = false ↔ n < lo ∨ hi < n := by
  rw [← Bool.not_eq_true, inB_iff]; omega

/-- The elements of a slice over a: element i is the row rows[i] of sz cells. -/
def SlAt (w : World) (a : Option Addr) (sz : Nat) (rows : List (List Value)) : Prop :=
  ∀ i r, rows[i]? = some r → ∃ b off, a = some ⟨b, off, none⟩ ∧ b < w.heap.size ∧ r.length = sz ∧ ∀ j v, r[j]? = some v → w.cell? ⟨b, off + i * sz + j, none⟩ = some v

/-- A slice as it is in every run: its length within its capacity, a plain address if it has one. -/
structure SlOk (a : Option Addr) (n cap : Nat) : Prop where
  le : n ≤ cap
  none : a = none → cap = 0
  spot : ∀ ad, a = some ad → ad.spot = Option.none
theorem SlOk.nil : SlOk .none 0 0 := ⟨Nat.le_refl _, fun _ => rfl, fun _ h => by cases h⟩
theorem SlOk.shorter {a : Option Addr} {n cap : Nat} (h : SlOk a n cap) {m : Nat} (hm : m ≤ n) : SlOk a m cap := ⟨Nat.le_trans hm h.le, h.none, h.spot⟩
theorem SlOk.cases {a : Option Addr} {n cap : Nat} (h : SlOk a n cap) : (a = .none ∧ n = 0 ∧ cap = 0) ∨ ∃ b off, a = some ⟨b, off, .none⟩ := by
  rcases a with _ | ⟨b, off, sp⟩
  · have := h.none rfl; have := h.le; exact .inl ⟨rfl, by omega, by omega⟩
  · have := h.spot _ rfl; simp at this; subst this; exact .inr ⟨b, off, rfl⟩

theorem SlAt.nil (w : World) (a : Option Addr) (sz : Nat) : SlAt w a sz [] := fun i r h => by simp at h

theorem SlAt.below {w w' : World} {a : Option Addr} {sz : Nat} {rows : List (List Value)} (h : SlAt w a sz rows) (hb : Below w.heap.size w w') : SlAt w' a sz rows := fun i r hr => by
  obtain ⟨b, off, e, hlt, hl, hc⟩ := h i r hr
  exact ⟨b, off, e, Nat.lt_of_lt_of_le hlt hb.size, hl, fun j v hv => (hb.cell (p := ⟨b, _, none⟩) hlt).trans (hc j v hv)⟩

theorem SlAt.take {w : World} {a : Option Addr} {sz : Nat} {rows : List (List Value)} (h : SlAt w a sz rows) (k : Nat) : SlAt w a sz (rows.take k) := fun i r hr => by
  rw [List.getElem?_take] at hr
  split at hr
  · exact h i r hr
  · cases hr

theorem SlAt.alloc {w : World} {a : Option Addr} {sz : Nat} {rows : List (List Value)} (h : SlAt w a sz rows) (o : Obj) : SlAt (w.alloc o) a sz rows := h.below ((Below.refl _ _).alloc (Nat.le_refl _) _)
theorem SlAt.drew {w : World} {a : Option Addr} {sz : Nat} {rows : List (List Value)} (h : SlAt w a sz rows) : SlAt w.drew a sz rows := h.below ((Below.refl _ _).drew)

/-- A drawn region whose operations only read and whose callees may lay new memory, walked once in the order of the text. -/
theorem wp_quietB {P : Program} {id : Nat} {Q : Exit → Act → World → Prop} {a : Act} {w : World} {l : List Oper} (hm : P.follows .mixedOrders = true) (hB : Region.lexB .any l.toArray = true)
    (h : wpQuiet P l.toArray (fun w' => ∃ p : Regrown, w' = grow (redrawn w p.d) p.os) (fun a' => ∀ w', Below w.heap.size w w' → Q .normal a' w') l a) : (Code.region id l.toArray true).wp P Q a w := by
  refine wp_region_quiet_below hm hB ?_
  have e : (fun a' => ∀ w', (∃ p : Regrown, w' = grow (redrawn w p.d) p.os) → Q .normal a' w') = fun a' => ∀ w', Below w.heap.size w w' → Q .normal a' w' := by
    funext a'
    refine propext ⟨fun h w' hb => h w' (regrown_of_below hb), fun h w' ⟨p, hp⟩ => h w' (hp ▸ below_regrown w p.d p.os)⟩
  rw [e]
  exact h

theorem Calls.regrown {P : Program} {f : FuncId} {args : Array Value} {w : World} {d : Nat} {os : Array Obj} {v : Value}
    (h : Calls P f args (grow (redrawn w d) os) fun e w' => e = .returned v ∧ grow (redrawn w d) os = w') : Calls P f args (grow (redrawn w d) os) fun e w'' => e = .returned v ∧ ∃ p : Regrown, w'' = grow (redrawn w p.d) p.os :=
  h.mono fun _ _ ⟨he, hb⟩ => ⟨he, ⟨d, os⟩, hb.symm⟩

/-- A block of cells that the call has laid, in a later world. -/
theorem blk_keep {w w' : World} {b : Nat} {o : Obj} (h : w.heap[b]? = some o) (hb : Below w.heap.size w w') : w'.heap[b]? = some o := (hb.block b (Array.getElem?_eq_some_iff.1 h).1).trans h
theorem blk_keep2 {w w1 w2 : World} {b : Nat} {o : Obj} (h : w.heap[b]? = some o) (h1 : Below w.heap.size w w1) (hb : Below w1.heap.size w1 w2) : w2.heap[b]? = some o := blk_keep (blk_keep h h1) hb
theorem up_alloc {w : World} {b : Nat} {o : Obj} (h : w.heap[b]? = some o) (o' : Obj) : (w.alloc o').heap[b]? = some o := blk_keep h ((Below.refl _ _).alloc (Nat.le_refl _) _)
theorem at_alloc (w : World) (o : Obj) {k : Nat} (h : k = w.heap.size) : (w.alloc o).heap[k]? = some o := by subst h; exact heap_alloc_new w o
theorem box_below {w w' : World} {o : Obj} (hb : Below (w.alloc o).heap.size (w.alloc o) w') : w'.heap[w.heap.size]? = some o := blk_keep (heap_alloc_new w o) hb
theorem box_cells {w : World} {b : Nat} {cs : Array Value} {T : TypeId} {fr : Nat × Nat} (h : w.heap[b]? = some (.cells cs T fr)) : ∀ j, w.cell? ⟨b, j, none⟩ = cs[j]? := fun j => by simp [World.cell?, h]
theorem box_free {w : World} {b : Nat} {cs : Array Value} {T : TypeId} (h : w.heap[b]? = some (.cells cs T (0, 0))) : ∀ j, w.frozen? ⟨b, j, none⟩ = false := fun j => by simp [World.frozen?, h]

end Go.Proofs.YtfppijjjaleiaaaDoor
