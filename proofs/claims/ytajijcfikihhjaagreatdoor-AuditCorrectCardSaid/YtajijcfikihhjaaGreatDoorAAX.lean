import Derived.Test.YtajijcfikihhjaaGreatDoorAAQ
import Derived.Lib.SmallJoins
import Derived.Lib.SlKeysI
set_option linter.unusedSimpArgs false
set_option linter.unusedVariables false
set_option maxRecDepth 100000
set_option maxHeartbeats 16000000
namespace Go.Proofs.YtajijcfikihhjaaGreatDoor
open Go.RowKit Go.Sort
theorem cut_parts (l : List Int) (n : Int) : l.drop (Qao l n) = (l.reverse.takeWhile fun x => decide (n ≤ x)).reverse ∧ l.take (Qao l n) = (l.reverse.dropWhile fun x => decide (n ≤ x)).reverse := by
 have g : ∀ A B : List Int, l = A ++ B.reverse → l.drop (l.length - B.length) = B.reverse ∧ l.take (l.length - B.length) = A := by
  rintro A B rfl
  have e : (A ++ B.reverse).length - B.length = A.length := by simp
  rw [e]
  exact ⟨List.drop_left, List.take_left⟩
 exact g _ _ (by rw [← List.reverse_append, List.takeWhile_append_dropWhile, List.reverse_reverse])
theorem mem_takeWhile_p {α : Type} {p : α → Bool} {l : List α} {x : α} (h : x ∈ l.takeWhile p) : p x = true := by
 induction l with
 | nil => simp at h
 | cons y l ih =>
  rw [List.takeWhile_cons] at h
  split at h
  ·rcases List.mem_cons.1 h with rfl | h
   ·assumption
   ·exact ih h
  ·simp at h
theorem cut_above (l : List Int) (n : Int) : ∀ x ∈ l.drop (Qao l n), n ≤ x := fun x hx => by
 rw [(cut_parts l n).1, List.mem_reverse] at hx
 simpa using mem_takeWhile_p hx
theorem dropWhile_down {r : List Int} {n : Int} (hs : r.Pairwise (fun a b => b < a)) : ∀ x ∈ r.dropWhile (fun x => decide (n ≤ x)), x < n := by
 induction r with
 | nil => intro x hx; simp at hx
 | cons y r ih =>
  intro x hx
  rw [List.pairwise_cons] at hs
  rw [List.dropWhile_cons] at hx
  split at hx
  ·exact ih hs.2 x hx
  ·rename_i hc
   have hy : y < n := by simpa using hc
   rcases List.mem_cons.1 hx with rfl | hx
   ·exact hy
   ·have := hs.1 x hx; omega
theorem cut_below (l : List Int) (n : Int) (hs : l.Pairwise (· < ·)) : ∀ x ∈ l.take (Qao l n), x < n := fun x hx => by
 rw [(cut_parts l n).2, List.mem_reverse] at hx
 exact dropWhile_down (List.pairwise_reverse.2 hs) x hx
theorem putL_sorted (l : List Int) (n : Int) (hs : l.Pairwise (· < ·)) : (putL l n).Pairwise (· < ·) ∧ ∀ x, x ∈ putL l n ↔ x ∈ l ∨ x = n := by
 have hb := cut_below l n hs
 have ha := cut_above l n
 have e := List.take_append_drop (Qao l n) l
 unfold putL
 split
 ·rename_i hh
  refine ⟨hs, fun x => ⟨.inl, fun h => h.elim id ?_⟩⟩
  rintro rfl
  have : x ∈ l.drop (Qao l x) := List.mem_of_head? hh
  exact List.mem_of_mem_drop this
 ·rename_i hh
  generalize l.take (Qao l n) = A at *
  generalize l.drop (Qao l n) = B at *
  have hs' : (A ++ B).Pairwise (· < ·) := by rw [e]; exact hs
  obtain ⟨hA, hB, hAB⟩ := List.pairwise_append.1 hs'
  have hB' : ∀ x ∈ B, n < x := by
   intro x hx
   have h1 := ha x hx
   cases B with
   | nil => simp at hx
   | cons y B =>
    have h2 : y ≠ n := fun e => hh (by rw [e]; rfl)
    have h3 := ha y (by simp)
    rcases List.mem_cons.1 hx with rfl | hx
    ·omega
    ·have := (List.pairwise_cons.1 hB).1 x hx; omega
  constructor
  ·rw [List.append_assoc, List.pairwise_append]
   refine ⟨hA, List.pairwise_cons.2 ⟨hB', hB⟩, fun a hAa b hb' => ?_⟩
   rcases List.mem_cons.1 hb' with rfl | hb'
   ·exact hb a hAa
   ·exact hAB a hAa b hb'
  ·intro x
   rw [← e]
   simp only [List.mem_append, List.mem_singleton]
   constructor
   ·rintro ((h | h) | h)
    ·exact .inl (.inl h)
    ·exact .inr h
    ·exact .inl (.inr h)
   ·rintro ((h | h) | h)
    ·exact .inl (.inl h)
    ·exact .inr h
    ·exact .inl (.inr h)
theorem heldF_sorted (s : List Lo) (stand : Int) (k : Nat) (hk : k ≤ s.length) : (Qag s stand k).Pairwise (· < ·) ∧ ∀ x, x ∈ Qag s stand k ↔ hold s x = stand ∧ ∃ y ∈ s.take k, y.s = x := by
 induction k with
 | zero => simp [Qag]
 | succ k ih =>
  obtain ⟨h1, h2⟩ := ih (by omega)
  have hlt : k < s.length := by omega
  rw [heldF_succ s stand k hlt]
  have hmem : ∀ x, (∃ y ∈ s.take (k + 1), y.s = x) ↔ (∃ y ∈ s.take k, y.s = x) ∨ s[k].s = x := by
   intro x
   rw [List.take_succ_eq_append_getElem hlt]
   simp only [List.mem_append, List.mem_singleton]
   constructor
   ·rintro ⟨y, hy | rfl, e⟩
    ·exact .inl ⟨y, hy, e⟩
    ·exact .inr e
   ·rintro (⟨y, hy, e⟩ | e)
    ·exact ⟨y, .inl hy, e⟩
    ·exact ⟨_, .inr rfl, e⟩
  split
  ·rename_i hh
   obtain ⟨h3, h4⟩ := putL_sorted _ s[k].s h1
   refine ⟨h3, fun x => ?_⟩
   rw [h4, h2, hmem]
   constructor
   ·rintro (⟨a, b⟩ | rfl)
    ·exact ⟨a, .inl b⟩
    ·exact ⟨hh, .inr rfl⟩
   ·rintro ⟨a, b | b⟩
    ·exact .inl ⟨a, b⟩
    ·exact .inr b.symm
  ·rename_i hh
   refine ⟨h1, fun x => ?_⟩
   rw [h2, hmem]
   constructor
   ·rintro ⟨a, b⟩; exact ⟨a, .inl b⟩
   ·rintro ⟨a, b | rfl⟩
    ·exact ⟨a, b⟩
    ·exact absurd a hh
theorem hold_none (s : List Lo) (x : Int) (h : ∀ y ∈ s, y.s ≠ x) : hold s x = 0 := Qau s x h 0
theorem heldF_all (s : List Lo) (stand : Int) (hs : 1 ≤ stand) : (Qag s stand s.length).Pairwise (· < ·) ∧ ∀ x, x ∈ Qag s stand s.length ↔ hold s x = stand := by
 obtain ⟨h1, h2⟩ := heldF_sorted s stand s.length (Nat.le_refl _)
 refine ⟨h1, fun x => (h2 x).trans ⟨And.left, fun e => ⟨e, ?_⟩⟩⟩
 rw [List.take_length]
 refine Classical.byContradiction fun hne => ?_
 have := hold_none s x (fun y hy e => hne ⟨y, hy, e⟩)
 omega
theorem held_keys {l : List Lo} (hv : QP l = true) (stand time : Int) (hs : 1 ≤ stand) (ks : List Int) (hnd : ks.Nodup) (hm : ∀ x, x ∈ ks ↔ mget (shOf (upTo l time)).hm x = some (.int .i64 stand)) :
  ks.mergeSort leI = Qag (upTo l time) stand (upTo l time).length := by
 obtain ⟨h1, h2⟩ := heldF_all (upTo l time) stand hs
 have hp : ks.Perm (Qag (upTo l time) stand (upTo l time).length) := by
  refine (List.perm_ext_iff_of_nodup hnd (h1.imp fun hlt e => by omega)).2 fun x => ?_
  rw [hm, h2, (Qap hv time x).1]
  constructor
  ·intro e
   split at e
   ·simpa using e
   ·cases e
  ·intro e
   rw [if_pos (by omega), e]
 rw [mergeSort_of_perm_i hp]
 exact List.mergeSort_of_pairwise (h1.imp fun hlt => by simp [leI]; omega)
end Go.Proofs.YtajijcfikihhjaaGreatDoor
