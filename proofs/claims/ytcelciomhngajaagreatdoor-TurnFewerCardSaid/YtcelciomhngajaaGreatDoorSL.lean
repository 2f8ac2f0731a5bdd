/- Texts of this seat, laid together: ScR14v, ScR14e, ScR14f, ScPure11. -/
import Derived.Test.YtcelciomhngajaaGreatDoorSJ
import Derived.Test.YtcelciomhngajaaGreatDoorSF
import Derived.Test.YtcelciomhngajaaGreatDoorSB
/- The reference's View: its inner loop: walked. -/
namespace Go.Proofs.YtcelciomhngajaaGreatDoor
set_option linter.unusedSimpArgs false
set_option linter.unusedVariables false
open Go.RowKit Go.Sort

/-- The bodies of all loops, in the order of the text. -/
def loopsOf : Code → List Code
  | .loop c => c :: loopsOf c
  | .seq a b => loopsOf a ++ loopsOf b
  | .block _ c => loopsOf c
  | .scope c => loopsOf c
  | .cond _ a b => loopsOf a ++ loopsOf b
  | _ => []
open Go.RowKit Go.Sort

theorem MeAt.get {w : World} {a : Option Addr} {l : List Me} (h : MeAt w a l) (i : Nat) (hi : i < l.length) : ∃ b off, a = some ⟨b, off, none⟩ ∧ b < w.heap.size ∧ w.cell? ⟨b, off + i * 5, none⟩ = some (.int .i64 l[i].bar) ∧ w.cell? ⟨b, off + i * 5 + 1, none⟩ = some (.int .i64 l[i].key) ∧ w.cell? ⟨b, off + i * 5 + 2, none⟩ = some (.int .i64 l[i].len.n) ∧ w.cell? ⟨b, off + i * 5 + 3, none⟩ = some (.int .i64 l[i].len.d) ∧ w.cell? ⟨b, off + i * 5 + 4, none⟩ = some (.slice l[i].na l[i].notes.length l[i].ncap) := by
  obtain ⟨b, off, e, hb, _, hc⟩ := h.at_ i l[i].cells (by simp [hi])
  exact ⟨b, off, e, hb, hc 0 _ rfl, hc 1 _ rfl, hc 2 _ rfl, hc 3 _ rfl, hc 4 _ rfl⟩
/-- How many notes the first measures have. -/
def sumK (ms : List Me) (k : Nat) : Nat := ((ms.take k).map fun m => m.notes.length).sum
theorem sumK_succ {ms : List Me} {k : Nat} (h : k < ms.length) : sumK ms (k + 1) = sumK ms k + ms[k].notes.length := by
  unfold sumK
  rw [List.take_succ_eq_append_getElem h, List.map_append, List.sum_append]; simp
theorem sumK_le {ms : List Me} {B : Nat} (hn : ∀ m ∈ ms, m.notes.length ≤ B) (k : Nat) : sumK ms k ≤ k * B := by
  induction k with
  | zero => simp [sumK]
  | succ k ih =>
    rw [Nat.succ_mul]
    by_cases h : k < ms.length
    · rw [sumK_succ h]
      exact Nat.add_le_add ih (hn _ (List.getElem_mem h))
    · have : sumK ms (k + 1) = sumK ms k := by unfold sumK; rw [List.take_of_length_le (by omega), List.take_of_length_le (by omega)]
      rw [this]; exact Nat.le_trans ih (Nat.le_add_right _ _)
open Go.RowKit Go.Sort

/-- What a measure's notes are that Valid has gone through. -/
structure RVOk (M : Me) (A0 : List Wr) (k : Nat) : Prop where
  form : ∀ j (hj : j < M.notes.length), j < k → formW M.notes[j] M.len = true
  dup : ∀ j (hj : j < M.notes.length), j < k → ((A0 ++ M.notes.take j).map Wr.id).contains M.notes[j].id = false
  many : ∀ j, j < M.notes.length → j < k → A0.length + j < 20000
  ord : ∀ j (hj : j + 1 < M.notes.length), j + 1 < k → beforeW M.notes[j] M.notes[j + 1] = true
theorem RVOk.zero (M : Me) (A0 : List Wr) : RVOk M A0 0 := ⟨fun j hj h => by omega, fun j hj h => by omega, fun j hj h => by omega, fun j hj h => by omega⟩
theorem RVOk.succ {M : Me} {A0 : List Wr} {k : Nat} (h : RVOk M A0 k) (hk : k < M.notes.length) (h1 : formW M.notes[k] M.len = true) (h2 : ((A0 ++ M.notes.take k).map Wr.id).contains M.notes[k].id = false) (h3 : A0.length + k < 20000) (h4 : ∀ j (hj : j + 1 = k), beforeW (M.notes[j]'(by omega)) M.notes[k] = true) : RVOk M A0 (k + 1) :=
  ⟨fun j hj hjk => if e : j = k then by subst e; exact h1 else h.form j hj (by omega), fun j hj hjk => if e : j = k then by subst e; exact h2 else h.dup j hj (by omega), fun j hj hjk => if e : j = k then by subst e; exact h3 else h.many j hj (by omega),
    fun j hj hjk => if e : j + 1 = k then by subst e; exact h4 j rfl else h.ord j hj (by omega)⟩
open Go.RowKit Go.Sort

theorem allW_split {l : List MeP} {i : Nat} (hi : i < l.length) : allW l = allW (l.take i) ++ (l[i].notes ++ allW (l.drop (i + 1))) := by
  have e : l = l.take i ++ l[i] :: l.drop (i + 1) := by rw [← List.drop_eq_getElem_cons hi, List.take_append_drop]
  unfold allW
  calc (l.map MeP.notes).flatten = ((l.take i ++ l[i] :: l.drop (i + 1)).map MeP.notes).flatten := by rw [← e]
    _ = _ := by rw [List.map_append, List.map_cons, List.flatten_append, List.flatten_cons]
theorem allW_succ {l : List MeP} {i : Nat} (hi : i < l.length) : allW (l.take (i + 1)) = allW (l.take i) ++ l[i].notes := by
  unfold allW
  rw [List.take_succ_eq_append_getElem hi, List.map_append, List.flatten_append, List.map_singleton, List.flatten_singleton]
/-- What is asked of a view of a valid score, the part found. -/
theorem validV_eq {s : Sc} {part : Int} {p : Pa} {l : List MeP} (h : validS s = true) (hl : l.length = s.bars.length) (hp : partAt s.parts part = some p) :
    validV s part l = ((List.zipWith (fun b m => measureB p b m) s.bars l).all id && decide ((allW l).map Wr.id).Nodup && decide ((allW l).length ≤ 20000)) := by
  unfold validV; rw [h, hp]; simp [hl, Bool.and_assoc]
theorem validV_bad {s : Sc} {part : Int} {p : Pa} {l : List MeP} (h : validS s = true) (hl : l.length = s.bars.length) (hp : partAt s.parts part = some p) (i : Nat) (hi : i < l.length) (hb : measureB p (s.bars[i]'(by omega)) l[i] = false) : validV s part l = false := by
  rw [validV_eq h hl hp]
  have : (List.zipWith (fun b m => measureB p b m) s.bars l).all id = false := by
    rw [← Bool.not_eq_true]; intro ha
    have := List.all_eq_true.1 ha (measureB p (s.bars[i]'(by omega)) l[i]) (by
      rw [List.mem_iff_getElem]
      exact ⟨i, by simp; omega, by simp⟩)
    rw [hb] at this; cases this
  rw [this]; rfl
theorem validV_dup {s : Sc} {part : Int} {p : Pa} {l : List MeP} (h : validS s = true) (hl : l.length = s.bars.length) (hp : partAt s.parts part = some p) (hd : ¬ ((allW l).map Wr.id).Nodup) : validV s part l = false := by
  rw [validV_eq h hl hp, decide_eq_false hd]; simp
theorem validV_many {s : Sc} {part : Int} {p : Pa} {l : List MeP} (h : validS s = true) (hl : l.length = s.bars.length) (hp : partAt s.parts part = some p) (hd : 20000 < (allW l).length) : validV s part l = false := by
  rw [validV_eq h hl hp, decide_eq_false (by omega : ¬ (allW l).length ≤ 20000)]; simp
theorem validV_done {s : Sc} {part : Int} {p : Pa} {l : List MeP} (h : validS s = true) (hl : l.length = s.bars.length) (hp : partAt s.parts part = some p) (hm : ∀ i (hi : i < l.length), measureB p (s.bars[i]'(by omega)) l[i] = true) (hd : ((allW l).map Wr.id).Nodup) (hn : (allW l).length ≤ 20000) : validV s part l = true := by
  rw [validV_eq h hl hp, decide_eq_true hd, decide_eq_true hn]
  have : (List.zipWith (fun b m => measureB p b m) s.bars l).all id = true := by
    rw [List.all_eq_true]
    intro x hx
    obtain ⟨i, hi, rfl⟩ := List.getElem_of_mem hx
    simp only [List.length_zipWith] at hi
    simp only [List.getElem_zipWith, id]
    exact hm i (by omega)
  rw [this]; rfl
end Go.Proofs.YtcelciomhngajaaGreatDoor

