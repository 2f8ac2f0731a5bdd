import Derived.Test.YtppjbnnnppffaaaGreatDoorSN

/- Where in what sounds a note of a measure stands; no condition. -/
namespace Go.Proofs.YtppjbnnnppffaaaGreatDoor
set_option linter.unusedSimpArgs false
set_option linter.unusedVariables false
open Go.RowKit Go.Sort

theorem sounds_zero {s : Sc} {part : Int} {l : List MeP} (h : (soundsR s part l).2 = 0) : ∃ p, validV s part l = true ∧ partAt s.parts part = some p ∧ (soundsR s part l).1 = sndK p s.bars l l.length ∧ ∀ i (h1 : i < s.bars.length) (h2 : i < l.length) k (hk : k < l[i].notes.length), (soundR p s.bars[i].key l[i].notes[k].pitch).2 = 0 := by
  cases hv : validV s part l with
  | false => unfold soundsR at h; rw [hv] at h; cases h
  | true =>
    obtain ⟨_, _, p, hp, _⟩ := validV_some hv
    have hall : ∀ i (h1 : i < s.bars.length) (h2 : i < l.length) k (hk : k < l[i].notes.length), (soundR p s.bars[i].key l[i].notes[k].pitch).2 = 0 := fun i h1 h2 k hk => Decidable.byContradiction fun hn => by
      rw [sounds_bad hv hp i h1 h2 k hk hn] at h; cases h
    exact ⟨p, rfl, hp, by rw [sounds_done hv hp hall], hall⟩
theorem sounds_err {s : Sc} {part : Int} {l : List MeP} (h : (soundsR s part l).2 ≠ 0) : (soundsR s part l).1 = [] := by
  revert h
  unfold soundsR
  split
  · split
    · split
      · intro h; exact absurd rfl h
      · intro _; rfl
    · intro _; rfl
  · intro _; rfl
theorem sndK_split {p : Pa} {bars : List Ba} {l : List MeP} {k : Nat} (h1 : k < bars.length) (h2 : k < l.length) : ∃ r, sndK p bars l l.length = sndK p bars l k ++ (l[k].notes.map (soundN p bars[k]) ++ r) := by
  unfold sndK
  have hz : k < (List.zipWith (fun b m => m.notes.map (soundN p b)) bars l).length := by simp; omega
  rw [List.take_of_length_le (by rw [List.length_zipWith]; exact Nat.min_le_right _ _)]
  refine ⟨((List.zipWith (fun b m => m.notes.map (soundN p b)) bars l).drop (k + 1)).flatten, ?_⟩
  have e : List.zipWith (fun b m => m.notes.map (soundN p b)) bars l = (List.zipWith (fun b m => m.notes.map (soundN p b)) bars l).take k ++ (List.zipWith (fun b m => m.notes.map (soundN p b)) bars l)[k] :: (List.zipWith (fun b m => m.notes.map (soundN p b)) bars l).drop (k + 1) := by
    rw [← List.drop_eq_getElem_cons hz, List.take_append_drop]
  calc (List.zipWith (fun b m => m.notes.map (soundN p b)) bars l).flatten = ((List.zipWith (fun b m => m.notes.map (soundN p b)) bars l).take k ++ (List.zipWith (fun b m => m.notes.map (soundN p b)) bars l)[k] :: (List.zipWith (fun b m => m.notes.map (soundN p b)) bars l).drop (k + 1)).flatten := by rw [← e]
    _ = _ := by rw [List.flatten_append, List.flatten_cons, List.getElem_zipWith]
theorem sndM_len {p : Pa} {bars : List Ba} {ms : List Me} (h : ms.length = bars.length) : ∀ k, k ≤ ms.length → (sndK p bars (ms.map Me.says) k).length = sumK ms k
  | 0, _ => by simp [sndK, sumK]
  | k + 1, hk => by
    rw [sndM_succ (by omega) (by omega), sumK_succ (by omega), List.length_append, sndM_len h k (by omega), List.length_map]
theorem sndM_at {p : Pa} {bars : List Ba} {ms : List Me} {L : List No} (h : ms.length = bars.length) (hL : L = sndK p bars (ms.map Me.says) ms.length) {k : Nat} (h1 : k < bars.length) (h2 : k < ms.length) :
    sumK ms k + ms[k].notes.length ≤ L.length ∧ ∀ j (hj : j < ms[k].notes.length) (hjl : sumK ms k + j < L.length), L[sumK ms k + j] = soundN p bars[k] ms[k].notes[j] := by
  obtain ⟨r, hr⟩ := sndK_split (p := p) (bars := bars) (l := ms.map Me.says) (k := k) h1 (by simpa using h2)
  have e : (ms.map Me.says)[k]'(by simpa using h2) = ms[k].says := List.getElem_map ..
  simp only [e, List.length_map] at hr
  have hr2 : L = sndK p bars (ms.map Me.says) k ++ (ms[k].notes.map (soundN p bars[k]) ++ r) := hL.trans hr
  have hs := sndM_len (p := p) h k (by omega)
  constructor
  · rw [hr2, List.length_append, List.length_append, hs, List.length_map]; omega
  · intro j hj hjl
    have : L[sumK ms k + j]? = some (soundN p bars[k] ms[k].notes[j]) := by
      rw [hr2, List.getElem?_append_right (by omega), hs, Nat.add_sub_cancel_left, List.getElem?_append_left (by rw [List.length_map]; exact hj), List.getElem?_map, List.getElem?_eq_getElem hj]; rfl
    rw [List.getElem?_eq_getElem hjl] at this
    exact Option.some.inj this
end Go.Proofs.YtppjbnnnppffaaaGreatDoor
