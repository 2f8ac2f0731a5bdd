/- Plain laws on the texts of pitches, byte by byte; no condition beside those named. -/
import Derived.Test.YtogdhecmecpccaaDoorPitchText
import Derived.Laws.RangeAny
namespace Go.Proofs.YtogdhecmecpccaaDoor
set_option linter.unusedSimpArgs false
set_option linter.unusedVariables false
open Go.RowKit Go.Sort

def dd (k : Nat) : List UInt8 := if k < 10 then [UInt8.ofNat (48 + k)] else [UInt8.ofNat (48 + k / 10), UInt8.ofNat (48 + k % 10)]
theorem itoa_small (n : Int) (h0 : -99 ≤ n) (h1 : n ≤ 99) : Lib.itoa n = if n < 0 then 45 :: dd n.natAbs else dd n.toNat := by
  unfold Lib.itoa dd
  split
  · rw [decDigits_small _ (by omega)]
  · rw [decDigits_small _ (by omega)]
/-- Does it begin with an ASCII byte that is no sign? -/
def hdOk : List UInt8 → Bool
  | c :: _ => c.toNat != 35 && c.toNat != 98 && decide (c.toNat < 128)
  | [] => false
theorem itoa_ok (o : Int) (h0 : -8 ≤ o) (h1 : o ≤ 20) : Lib.atoiAll (Lib.itoa o) = .ok o ∧ hdOk (Lib.itoa o) = true := by
  have h : o = -8 ∨ o = -7 ∨ o = -6 ∨ o = -5 ∨ o = -4 ∨ o = -3 ∨ o = -2 ∨ o = -1 ∨ o = 0 ∨ o = 1 ∨ o = 2 ∨ o = 3 ∨ o = 4 ∨ o = 5 ∨ o = 6 ∨ o = 7 ∨ o = 8 ∨ o = 9 ∨ o = 10 ∨ o = 11 ∨ o = 12 ∨ o = 13 ∨ o = 14 ∨ o = 15 ∨ o = 16 ∨ o = 17 ∨ o = 18 ∨ o = 19 ∨ o = 20 := by omega
  rw [itoa_small o (by omega) (by omega)]
  rcases h with rfl | rfl | rfl | rfl | rfl | rfl | rfl | rfl | rfl | rfl | rfl | rfl | rfl | rfl | rfl | rfl | rfl | rfl | rfl | rfl | rfl | rfl | rfl | rfl | rfl | rfl | rfl | rfl | rfl
  all_goals exact ⟨by decide, by decide⟩

theorem get_list (s : ByteArray) (k : Nat) (h : k < s.size) : s.data.toList[k]? = some s[k] := List.getElem?_eq_getElem (show k < s.data.toList.length from h)
/-- The bytes of a text. -/
structure TextAt (s : ByteArray) (st al oc : Int) : Prop where
  size : s.size = 1 + al.natAbs + (Lib.itoa oc).length
  first : s.data.toList[0]? = letters[st.toNat]?
  sign : ∀ k, 1 ≤ k → k < 1 + al.natAbs → s.data.toList[k]? = some (if 0 ≤ al then 35 else 98)
  tail : s.data.toList.drop (1 + al.natAbs) = Lib.itoa oc
theorem textAt (st al oc : Int) (h0 : 0 ≤ st) (h1 : st ≤ 6) : TextAt (textS st al oc) st al oc := by
  have hs : (signs al).length = al.natAbs := by simp [signs] <;> omega
  have hg : ∀ k, k < al.natAbs → (signs al)[k]? = some (if 0 ≤ al then 35 else 98) := fun k hk => by
    unfold signs
    by_cases h : 0 ≤ al
    · rw [if_pos h, List.getElem?_append_left (by simp; omega), List.getElem?_replicate, if_pos (by omega)]
    · rw [if_neg h, show al.toNat = 0 by omega, List.replicate_zero, List.nil_append, List.getElem?_replicate, if_pos (by omega)]
  refine ⟨?_, ?_, fun k hk hk2 => ?_, ?_⟩
  · show (textL st al oc).length = _
    simp [textL, hs]; omega
  · show (textL st al oc)[0]? = _
    have : st.toNat < letters.length := by simp [letters]; omega
    simp [textL, List.getElem?_eq_getElem this, List.getD]
  · show (textL st al oc)[k]? = _
    obtain ⟨j, rfl⟩ : ∃ j, k = j + 1 := ⟨k - 1, by omega⟩
    rw [textL, List.getElem?_cons_succ, List.getElem?_append_left (by omega)]
    exact hg j (by omega)
  · show (textL st al oc).drop _ = _
    rw [textL, Nat.add_comm 1, List.drop_succ_cons, ← hs]
    simp
/-- What the loop of Parse knows at byte pos: whichever pitch s is the text of, so much of it has been read. -/
def PInv (s : ByteArray) (pos : Nat) (st al : Int) : Prop :=
  -(pos : Int) ≤ al ∧ al ≤ pos ∧ ∀ s' a' o', vldB s' a' o' = true → textS s' a' o' = s → (pos = 0 ∧ al = 0) ∨ (1 ≤ pos ∧ pos ≤ 1 + a'.natAbs ∧ st = s' ∧ (0 ≤ a' → al = pos - 1) ∧ (a' < 0 → al = -(pos - 1 : Int)))
/-- What it knows behind the loop. -/
def PFin (s : ByteArray) (rest : Nat) (st al : Int) : Prop := ∀ s' a' o', vldB s' a' o' = true → textS s' a' o' = s → rest = 1 + a'.natAbs ∧ st = s' ∧ al = a'
theorem pinv_start (s : ByteArray) : PInv s 0 0 0 := ⟨by omega, by omega, fun _ _ _ _ _ => .inl ⟨rfl, rfl⟩⟩
theorem dec_at (s : ByteArray) (pos : Nat) (h : pos < s.size) (c : UInt8) (hc : s.data.toList[pos]? = some c) (ha : c.toNat < 128) : Utf8.decode s pos = (c.toNat, 1) := by
  rw [get_list s pos h] at hc
  cases hc
  exact decode_ascii s pos h ha
theorem letter_lt : ∀ k : Nat, k < 7 → ∃ c : UInt8, letters[k]? = some c ∧ c.toNat < 128 ∧ Lib.indexByte letters c = k ∧ ((c.toNat : Int).toNat.toUInt8 = c) := by
  intro k hk
  have h : k = 0 ∨ k = 1 ∨ k = 2 ∨ k = 3 ∨ k = 4 ∨ k = 5 ∨ k = 6 := by omega
  rcases h with rfl | rfl | rfl | rfl | rfl | rfl | rfl
  · exact ⟨67, rfl, by decide, by decide, by decide⟩
  · exact ⟨68, rfl, by decide, by decide, by decide⟩
  · exact ⟨69, rfl, by decide, by decide, by decide⟩
  · exact ⟨70, rfl, by decide, by decide, by decide⟩
  · exact ⟨71, rfl, by decide, by decide, by decide⟩
  · exact ⟨65, rfl, by decide, by decide, by decide⟩
  · exact ⟨66, rfl, by decide, by decide, by decide⟩
theorem dec_pos (s : ByteArray) (pos : Nat) (h : pos < s.size) : 1 ≤ (Utf8.decode s pos).2 := by
  by_cases ha : (s[pos]'h).toNat < 128
  · rw [decode_ascii s pos h ha]; exact Nat.le_refl _
  · exact (decode_high s pos h (by omega)).2
theorem pinv_first (s : ByteArray) (st al n : Int) (h : 0 < s.size) (hi : PInv s 0 st al) (hn : 0 ≤ ((Utf8.decode s 0).1 : Int) → ((Utf8.decode s 0).1 : Int) < 128 → n = Lib.indexByte letters ((Utf8.decode s 0).1 : Int).toNat.toUInt8) : PInv s (0 + (Utf8.decode s 0).2) n al := by
  obtain ⟨h1, h2, h3⟩ := hi
  refine ⟨by omega, by omega, fun s' a' o' hv ht => .inr ?_⟩
  obtain ⟨⟨q1, q2⟩, _⟩ := (vld_iff s' a' o').1 hv
  have T := textAt s' a' o' q1 q2
  rw [ht] at T
  obtain ⟨c, hc, hc1, hc2, hc3⟩ := letter_lt s'.toNat (by omega)
  have hd := dec_at s 0 h c (T.first.trans hc) hc1
  rw [hd] at hn ⊢
  have hn' := hn (by omega) (by show (c.toNat : Int) < 128; omega)
  rw [hc3, hc2] at hn'
  have ha0 : al = 0 := by omega
  refine ⟨Nat.le_refl _, by show 0 + 1 ≤ _; omega, by omega, fun _ => by rw [ha0]; rfl, fun _ => by rw [ha0]; rfl⟩
theorem tail_at {s : ByteArray} {st al oc : Int} (T : TextAt s st al oc) (h0 : -8 ≤ oc) (h1 : oc ≤ 20) : ∃ c, s.data.toList[1 + al.natAbs]? = some c ∧ c.toNat ≠ 35 ∧ c.toNat ≠ 98 ∧ c.toNat < 128 := by
  have h := (itoa_ok oc h0 h1).2
  have ht := T.tail
  cases hi : Lib.itoa oc with
  | nil => rw [hi] at h; cases h
  | cons c r =>
    rw [hi] at h ht
    simp only [hdOk, Bool.and_eq_true, bne_iff_ne, decide_eq_true_eq] at h
    refine ⟨c, ?_, h.1.1, h.1.2, h.2⟩
    have : (s.data.toList.drop (1 + al.natAbs))[0]? = some c := by rw [ht]; rfl
    rwa [List.getElem?_drop] at this
theorem pinv_sign (s : ByteArray) (pos : Nat) (st al : Int) (hp : 1 ≤ pos) (h : pos < s.size) (hi : PInv s pos st al) :
    (((Utf8.decode s pos).1 : Int) = 35 → PInv s (pos + (Utf8.decode s pos).2) st (al + 1)) ∧ (((Utf8.decode s pos).1 : Int) = 98 → PInv s (pos + (Utf8.decode s pos).2) st (al + 1 - 2)) ∧
    (((Utf8.decode s pos).1 : Int) ≠ 35 → ((Utf8.decode s pos).1 : Int) ≠ 98 → PFin s pos st al) := by
  obtain ⟨h1, h2, h3⟩ := hi
  have hw := dec_pos s pos h
  have key : ∀ s' a' o', vldB s' a' o' = true → textS s' a' o' = s → (pos < 1 + a'.natAbs ∧ Utf8.decode s pos = ((if 0 ≤ a' then 35 else 98), 1) ∨ pos = 1 + a'.natAbs ∧ (Utf8.decode s pos).1 ≠ 35 ∧ (Utf8.decode s pos).1 ≠ 98) ∧ st = s' ∧ (0 ≤ a' → al = pos - 1) ∧ (a' < 0 → al = -(pos - 1 : Int)) := by
    intro s' a' o' hv ht
    obtain ⟨⟨q1, q2⟩, _, q5, q6⟩ := (vld_iff s' a' o').1 hv
    have T := textAt s' a' o' q1 q2
    rw [ht] at T
    rcases h3 s' a' o' hv ht with ⟨e, _⟩ | ⟨_, g2, g3, g4, g5⟩
    · omega
    · refine ⟨?_, g3, g4, g5⟩
      by_cases hlt : pos < 1 + a'.natAbs
      · left
        refine ⟨hlt, ?_⟩
        have hd := dec_at s pos h _ (T.sign pos hp hlt) (by split <;> decide)
        rw [hd]; split <;> rfl
      · right
        obtain rfl : pos = 1 + a'.natAbs := by omega
        obtain ⟨c, hc, hc1, hc2, hc3⟩ := tail_at T q5 q6
        rw [dec_at s _ h c hc hc3]
        exact ⟨rfl, hc1, hc2⟩
  refine ⟨fun hr => ⟨by omega, by omega, fun s' a' o' hv ht => ?_⟩, fun hr => ⟨by omega, by omega, fun s' a' o' hv ht => ?_⟩, fun hr hr' s' a' o' hv ht => ?_⟩
  · obtain ⟨k, k1, k2, k3⟩ := key s' a' o' hv ht
    rcases k with ⟨hlt, hd⟩ | ⟨_, hne, _⟩
    · rw [hd] at hr ⊢
      have ha : 0 ≤ a' := by
        by_cases ha : 0 ≤ a'
        · exact ha
        · rw [if_neg ha] at hr; simp at hr
      have := k2 ha
      exact .inr ⟨by omega, by show pos + 1 ≤ _; omega, k1, fun _ => by show al + 1 = ((pos + 1 : Nat) : Int) - 1; omega, fun hneg => by omega⟩
    · exact absurd (by omega) hne
  · obtain ⟨k, k1, k2, k3⟩ := key s' a' o' hv ht
    rcases k with ⟨hlt, hd⟩ | ⟨_, _, hne⟩
    · rw [hd] at hr ⊢
      have ha : a' < 0 := by
        by_cases ha : 0 ≤ a'
        · rw [if_pos ha] at hr; simp at hr
        · omega
      have := k3 ha
      exact .inr ⟨by omega, by show pos + 1 ≤ _; omega, k1, fun _ => by omega, fun _ => by show al + 1 - 2 = -(((pos + 1 : Nat) : Int) - 1); omega⟩
    · exact absurd (by omega) hne
  · obtain ⟨k, k1, k2, k3⟩ := key s' a' o' hv ht
    rcases k with ⟨hlt, hd⟩ | ⟨he, _, _⟩
    · rw [hd] at hr hr'
      exfalso
      by_cases ha : 0 ≤ a'
      · rw [if_pos ha] at hr; exact hr rfl
      · rw [if_neg ha] at hr'; exact hr' rfl
    · refine ⟨he, k1, ?_⟩
      by_cases ha : 0 ≤ a'
      · have := k2 ha; omega
      · have := k3 (by omega); omega
theorem pinv_end (s : ByteArray) (pos : Nat) (st al : Int) (h : ¬ pos < s.size) (hi : PInv s pos st al) : PFin s s.size st al := by
  intro s' a' o' hv ht
  exfalso
  obtain ⟨⟨q1, q2⟩, _, q5, q6⟩ := (vld_iff s' a' o').1 hv
  have T := textAt s' a' o' q1 q2
  rw [ht] at T
  have hsz := T.size
  have hpos : 0 < (Lib.itoa o').length := by
    have := (itoa_ok o' q5 q6).2
    cases hi : Lib.itoa o' with
    | nil => rw [hi] at this; cases this
    | cons c r => simp
  rcases hi.2.2 s' a' o' hv ht with ⟨e, _⟩ | ⟨_, g2, _⟩ <;> omega
/-- What stands behind the signs. -/
theorem pfin_tail {s : ByteArray} {rest : Nat} {st al : Int} (h : PFin s rest st al) {s' a' o' : Int} (hv : vldB s' a' o' = true) (ht : textS s' a' o' = s) : Lib.atoiAll (s.extract rest s.size).data.toList = .ok o' ∧ st = s' ∧ al = a' := by
  obtain ⟨e1, e2, e3⟩ := h s' a' o' hv ht
  obtain ⟨⟨q1, q2⟩, _, q5, q6⟩ := (vld_iff s' a' o').1 hv
  have T := textAt s' a' o' q1 q2
  rw [ht] at T
  refine ⟨?_, e2, e3⟩
  have : (s.extract rest s.size).data.toList = Lib.itoa o' := by
    rw [ByteArray.data_extract, Array.toList_extract, List.extract_eq_take_drop, e1]
    rw [List.take_of_length_le (by rw [List.length_drop]; show s.size - _ ≤ _; omega)]
    exact T.tail
  rw [this]
  exact (itoa_ok o' q5 q6).1
end Go.Proofs.YtogdhecmecpccaaDoor
