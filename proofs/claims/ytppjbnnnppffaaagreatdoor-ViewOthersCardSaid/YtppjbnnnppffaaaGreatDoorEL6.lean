/- Texts of this seat, laid together: ScPure15, ScL14m. -/
import Derived.Test.YtppjbnnnppffaaaGreatDoorSB
import Derived.Test.YtppjbnnnppffaaaGreatDoorSO

/- Two views of parts that play the same notes, as they lie in memory; no condition. -/
namespace Go.Proofs.YtppjbnnnppffaaaGreatDoor
set_option linter.unusedSimpArgs false
set_option linter.unusedVariables false
open Go.RowKit Go.Sort

theorem view_me {s : Sc} {p : Pa} {ms : List Me} (e : ms.map Me.says = viewL s p) : ms.length = s.bars.length ∧ ∀ k (h1 : k < ms.length) (h2 : k < s.bars.length), ms[k].notes = barW s p s.bars[k] ∧ ms[k].key = (keyR p s.bars[k].key).1 ∧ ms[k].bar = s.bars[k].id := by
  have hl := congrArg List.length e
  rw [List.length_map, view_len] at hl
  refine ⟨hl, fun k h1 h2 => ?_⟩
  have : (ms.map Me.says)[k]'(by simpa using h1) = (viewL s p)[k]'(by rw [view_len]; exact h2) := by simp only [e]
  rw [List.getElem_map] at this
  simp only [viewL_eq, List.getElem_map] at this
  exact ⟨congrArg MeP.notes this, congrArg MeP.key this, congrArg MeP.bar this⟩
/-- The measures of two parts that play the same notes with the same Shift. -/
theorem equal_me {s : Sc} (v : ScV s) {p q : Pa} (hp : p ∈ s.parts) (hq : q ∈ s.parts) (hso : sourceP p = sourceP q) (hs : p.shift = q.shift) {A B : List Me} (eA : A.map Me.says = viewL s p) (eB : B.map Me.says = viewL s q) :
    A.length = B.length ∧ ∀ k (h1 : k < A.length) (h2 : k < B.length), A[k].notes.length = B[k].notes.length ∧ A[k].key = B[k].key ∧ ∀ j (h3 : j < A[k].notes.length) (h4 : j < B[k].notes.length),
      soundI B[k].notes[j].pitch - soundI A[k].notes[j].pitch = 12 * (q.octave - p.octave) ∧ ({ B[k].notes[j] with pitch := A[k].notes[j].pitch } : Wr) = A[k].notes[j] ∧ vldP B[k].notes[j].pitch = true ∧ vldP A[k].notes[j].pitch = true := by
  obtain ⟨a1, a2⟩ := view_me eA
  obtain ⟨b1, b2⟩ := view_me eB
  refine ⟨by omega, fun k h1 h2 => ?_⟩
  obtain ⟨c1, c2, _⟩ := a2 k h1 (by omega)
  obtain ⟨d1, d2, _⟩ := b2 k h2 (by omega)
  obtain ⟨e1, e2⟩ := equal_bar v hp hq hso hs (List.getElem_mem (show k < s.bars.length by omega))
  refine ⟨by rw [c1, d1]; exact e1, by rw [c2, d2, equal_key v hp hq hs], ?_⟩
  simp only [c1, d1]
  exact e2
end Go.Proofs.YtppjbnnnppffaaaGreatDoor


/- A byte's remainder as an index; where notes lie; no condition. -/
namespace Go.Proofs.YtppjbnnnppffaaaGreatDoor
set_option linter.unusedSimpArgs false
set_option linter.unusedVariables false
open Go.RowKit Go.Sort

theorem mod_lt {n : Nat} (hn : 1 ≤ n) (i : Nat) : ∃ ip : Nat, ip < n ∧ (i : Int) % (n : Int) = (ip : Int) ∧ (i : Int).tmod (n : Int) = (ip : Int) ∧ i % n = ip :=
  ⟨i % n, Nat.mod_lt _ (by omega), by simp, by rw [Int.tmod_eq_emod_of_nonneg (Int.natCast_nonneg i)]; simp, rfl⟩
theorem no_addr {w : World} {a : Option Addr} {l : List No} (h : NoAt w a l) : ∃ b off, l ≠ [] → a = some ⟨b, off, none⟩ := by
  by_cases e : l = []
  · exact ⟨0, 0, fun h => absurd e h⟩
  · obtain ⟨b, off, e1, _⟩ := h.get 0 (List.length_pos_iff.2 e)
    exact ⟨b, off, fun _ => e1⟩
end Go.Proofs.YtppjbnnnppffaaaGreatDoor
