
/- Small words shared by the walks: boxes laid by a call, a row of cells that it owns, what is left alone; no condition. -/
import Derived.Test.YtfppijjjaleiaaaDoorLib
import Derived.Test.YtfppijjjaleiaaaDoorOwn
import Derived.Test.YtfppijjjaleiaaaDoorQTail
import Derived.Deep.OwnRows
import Derived.IntWalk
namespace Go.Proofs.YtfppijjjaleiaaaDoor
set_option linter.unusedSimpArgs false
set_option linter.unusedVariables false
open Go.RowKit Go.Sort

theorem drewB {w w' : World} (hb : Below w.drew.heap.size w.drew w') : Below w.heap.size w w' := ((Below.refl w.heap.size w).drew).trans hb
theorem lt_blk {w : World} {b : Nat} {o : Obj} (hx : w.heap[b]? = some o) : b < w.heap.size := (Array.getElem?_eq_some_iff.1 hx).1
theorem allocB {w w' : World} {o : Obj} (hb : Below (w.alloc o).heap.size (w.alloc o) w') : Below w.heap.size w w' := ((Below.refl w.heap.size w).alloc (Nat.le_refl _) o).trans (hb.mono (by simp))
theorem box2 {w w' : World} {A B : Obj} (hb : Below ((w.alloc A).alloc B).heap.size ((w.alloc A).alloc B) w') : w'.heap[w.heap.size]? = some A ∧ w'.heap[w.heap.size + 1]? = some B ∧ Below w.heap.size w w' := by
  have e : (w.alloc A).heap.size = w.heap.size + 1 := by simp
  refine ⟨blk_keep (up_alloc (heap_alloc_new w A) B) hb, blk_keep (e ▸ heap_alloc_new (w.alloc A) B) hb, (((Below.refl _ _).alloc (Nat.le_refl _) _).alloc (by simp) _).trans (hb.mono (by simp; omega))⟩
theorem box3 {w w' : World} {A B C : Obj} (hb : Below (((w.alloc A).alloc B).alloc C).heap.size (((w.alloc A).alloc B).alloc C) w') : w'.heap[w.heap.size]? = some A ∧ w'.heap[w.heap.size + 1]? = some B ∧ w'.heap[w.heap.size + 2]? = some C ∧ Below w.heap.size w w' := by
  have e : (w.alloc A).heap.size = w.heap.size + 1 := by simp
  have e2 : ((w.alloc A).alloc B).heap.size = w.heap.size + 2 := by simp
  refine ⟨blk_keep (up_alloc (up_alloc (heap_alloc_new w A) B) C) hb, blk_keep (up_alloc (e ▸ heap_alloc_new (w.alloc A) B) C) hb, blk_keep (e2 ▸ heap_alloc_new ((w.alloc A).alloc B) C) hb, ((((Below.refl _ _).alloc (Nat.le_refl _) _).alloc (by simp) _).alloc (by simp; omega) _).trans (hb.mono (by simp; omega))⟩
def upd {α : Type} (f : Nat → α) (k : Nat) (v : α) : Nat → α := fun j => if j = k then v else f j
theorem upd_same {α : Type} (f : Nat → α) (k : Nat) (v : α) : upd f k v k = v := by simp [upd]
theorem upd_ne {α : Type} (f : Nat → α) {k j : Nat} (v : α) (hne : j ≠ k) : upd f k v j = f j := by simp [upd, hne]

/-- Block b is a row of n cells of the call's own; cell k holds f k. -/
structure RowAt (w : World) (b n : Nat) (T : TypeId) (f : Nat → Value) : Prop where
  at_ : ∃ arr : Array Value, w.heap[b]? = some (.cells arr T (0, 0)) ∧ arr.size = n ∧ ∀ k, k < n → arr[k]? = some (f k)
theorem RowAt.lt {w : World} {b n : Nat} {T : TypeId} {f : Nat → Value} (r : RowAt w b n T f) : b < w.heap.size := by obtain ⟨arr, e, _⟩ := r.at_; exact lt_blk e
theorem RowAt.cell {w : World} {b n : Nat} {T : TypeId} {f : Nat → Value} (r : RowAt w b n T f) {k : Nat} (hk : k < n) : w.cell? ⟨b, k, none⟩ = some (f k) := by
  obtain ⟨arr, e, _, g⟩ := r.at_
  simp [World.cell?, e, g k hk]
theorem RowAt.free {w : World} {b n : Nat} {T : TypeId} {f : Nat → Value} (r : RowAt w b n T f) (k : Nat) : w.frozen? ⟨b, k, none⟩ = false := by
  obtain ⟨arr, e, _, g⟩ := r.at_
  simp [World.frozen?, e]
theorem RowAt.of_eq {w w' : World} {b n : Nat} {T : TypeId} {f : Nat → Value} (r : RowAt w b n T f) (e : w'.heap[b]? = w.heap[b]?) : RowAt w' b n T f := by
  obtain ⟨arr, h1, h2⟩ := r.at_
  exact ⟨arr, e.trans h1, h2⟩
theorem RowAt.below {w w' : World} {b n : Nat} {T : TypeId} {f : Nat → Value} (r : RowAt w b n T f) (hb : Below w.heap.size w w') : RowAt w' b n T f := r.of_eq (hb.block b r.lt)
theorem RowAt.set {w : World} {b n : Nat} {T : TypeId} {f : Nat → Value} (r : RowAt w b n T f) {k : Nat} (hk : k < n) (v : Value) : RowAt (w.setCell ⟨b, k, none⟩ v) b n T (upd f k v) := by
  obtain ⟨arr, h1, h2, h3⟩ := r.at_
  refine ⟨arr.setIfInBounds k v, heap_setCell_same _ _ _ _ _ _ h1, by simp [h2], fun j hj => ?_⟩
  by_cases e : j = k
  · subst e; rw [upd_same]; simp [h2, hk]
  · rw [upd_ne _ _ e, ← h3 j hj]
    rw [Array.getElem?_setIfInBounds_ne (by omega)]
theorem RowAt.other {w : World} {b n c k : Nat} {T : TypeId} {f : Nat → Value} (r : RowAt w b n T f) (hne : b ≠ c) (v : Value) : RowAt (w.setCell ⟨c, k, none⟩ v) b n T f :=
  r.of_eq (heap_setCell_other _ _ _ _ (show _ ≠ _ by simpa using hne))
theorem RowAt.made (w : World) (n : Nat) (T : TypeId) (z : Value) : RowAt (w.alloc (.cells (madeCells #[z] n) T)) w.heap.size n T (fun _ => z) := by
  refine ⟨_, heap_alloc_new w _, size_madeCells _ _, fun k hk => ?_⟩
  simp [madeCells, hk, Nat.mod_one]
theorem RowAt.congr {w : World} {b n : Nat} {T : TypeId} {f g : Nat → Value} (r : RowAt w b n T f) (e : ∀ k, k < n → f k = g k) : RowAt w b n T g := by
  obtain ⟨arr, h1, h2, h3⟩ := r.at_
  exact ⟨arr, h1, h2, fun k hk => by rw [h3 k hk, e k hk]⟩
/-- What a row says as a slice. -/
theorem RowAt.slAt {w : World} {b n : Nat} {T : TypeId} {f : Nat → Value} (r : RowAt w b n T f) : SlAt w (some ⟨b, 0, none⟩) 1 ((List.range n).map fun k => [f k]) := fun i x hx => by
  rw [List.getElem?_map] at hx
  by_cases hi : i < n
  · rw [List.getElem?_range hi] at hx
    simp only [Option.map_some, Option.some.injEq] at hx
    subst hx
    refine ⟨b, 0, rfl, r.lt, rfl, fun j v hv => ?_⟩
    have hj : j = 0 := by
      have := (List.getElem?_eq_some_iff.1 hv).1
      simp at this; omega
    subst hj
    simp only [List.getElem?_cons_zero, Option.some.injEq] at hv
    subst hv
    have := r.cell hi
    simpa using this
  · rw [List.getElem?_eq_none (by simp; omega)] at hx
    cases hx
/-- Of the blocks below B nothing has turned but those of S. -/
structure KeepB (B : Nat) (S : List Nat) (w w' : World) : Prop where
  os : w'.os = w.os
  tape : w'.tape = w.tape
  output : w'.output = w.output
  size : w.heap.size ≤ w'.heap.size
  block : ∀ k, k < B → k ∉ S → w'.heap[k]? = w.heap[k]?
theorem KeepB.refl (B : Nat) (S : List Nat) (w : World) : KeepB B S w w := ⟨rfl, rfl, rfl, Nat.le_refl _, fun _ _ _ => rfl⟩
theorem KeepB.trans {B : Nat} {S : List Nat} {w w1 w2 : World} (a : KeepB B S w w1) (b : KeepB B S w1 w2) : KeepB B S w w2 :=
  ⟨b.os.trans a.os, b.tape.trans a.tape, b.output.trans a.output, Nat.le_trans a.size b.size, fun k hk hn => (b.block k hk hn).trans (a.block k hk hn)⟩
theorem KeepB.of_below {B : Nat} {S : List Nat} {w w' : World} (hb : Below w.heap.size w w') (hB : B ≤ w.heap.size) : KeepB B S w w' := ⟨hb.os, hb.tape, hb.output, hb.size, fun k hk _ => hb.block k (by omega)⟩
theorem KeepB.of_below' {B : Nat} {S : List Nat} {w w' : World} (hb : Below B w w') : KeepB B S w w' := ⟨hb.os, hb.tape, hb.output, hb.size, fun k hk _ => hb.block k hk⟩
theorem KeepB.below {B : Nat} {w w' : World} (k : KeepB B [] w w') : Below B w w' := ⟨k.os, k.tape, k.output, k.size, fun i hi => k.block i hi (by simp)⟩
theorem KeepB.set {B : Nat} {S : List Nat} {w w' : World} (a : KeepB B S w w') {p : Addr} (hp : p.block ∈ S ∨ B ≤ p.block) (v : Value) : KeepB B S w (w'.setCell p v) :=
  ⟨a.os, a.tape, a.output, by simpa [World.setCell] using a.size, fun k hk hn => (heap_setCell_other _ _ _ _ (show _ ≠ _ by rintro rfl; rcases hp with hp | hp; exact hn hp; omega)).trans (a.block k hk hn)⟩
theorem KeepB.grown {B : Nat} {S : List Nat} {w w' w2 : World} {row : Option Nat} (a : KeepB B S w w') (hg : w'.grownBy w2 row) (hB : B ≤ w'.heap.size) (hr : ∀ k, row = some k → B ≤ k) : KeepB B S w w2 :=
  ⟨hg.os.trans a.os, hg.tape.trans a.tape, hg.output.trans a.output, Nat.le_trans a.size hg.size, fun k hk hn => (hg.block k (by omega) (fun e => by have := hr k e.symm; omega)).trans (a.block k hk hn)⟩
theorem KeepB.weaken {B B' : Nat} {S S' : List Nat} {w w' : World} (a : KeepB B S w w') (hB : B' ≤ B) (hs : ∀ k ∈ S, k < B' → k ∈ S') : KeepB B' S' w w' :=
  ⟨a.os, a.tape, a.output, a.size, fun k hk hn => a.block k (by omega) (fun hm => hn (hs k hm hk))⟩
end Go.Proofs.YtfppijjjaleiaaaDoor
