/- Plain laws on who holds what behind valid loans. -/
import Derived.Test.YtokhligpjbdhcaaLoanLaw1
namespace Go.Proofs.Ytokhligpjbdhcaa
set_option linter.unusedSimpArgs false
set_option linter.unusedVariables false
open Go.RowKit Go.Sort

theorem loanOk_parts {x : Lo} (h : loanOk x = true) : inB x.t 0 1000000000 = true ∧ inB x.s 1 1000000 = true ∧ (x.k = 1 → inB x.st 1 1000000 = true) := by
  unfold loanOk at h
  simp only [Bool.and_eq_true] at h
  refine ⟨h.1.1, h.1.2, fun e => ?_⟩
  have := h.2
  simp [e] at this
  exact this.1
theorem loansOk_each {l : List Lo} (h : loansOk l = true) : ∀ x ∈ l, loanOk x = true := fun x hx => by
  obtain ⟨j, hj, rfl⟩ := List.mem_iff_getElem.1 hx
  have := loansOk_step h j hj
  rw [stepOk_mk l j hj] at this
  simp only [Bool.and_eq_true] at this
  exact this.1.1
theorem upTo_sub {l : List Lo} {t : Int} {x : Lo} (h : x ∈ upTo l t) : x ∈ l := by
  rw [upTo_take] at h; exact List.mem_of_mem_take h
theorem hold_cases (l : List Lo) (s : Int) : hold l s = 0 ∨ ∃ x ∈ l, x.s = s ∧ x.k = 1 ∧ hold l s = x.st := by
  have g : ∀ (r : List Lo) (z : Int) (q : Prop), (z = 0 ∨ q) → r.foldl (fun acc x => if x.s = s then (if x.k = 1 then x.st else 0) else acc) z = 0 ∨ (q ∧ r.foldl (fun acc x => if x.s = s then (if x.k = 1 then x.st else 0) else acc) z = z) ∨ ∃ x ∈ r, x.s = s ∧ x.k = 1 ∧ r.foldl (fun acc x => if x.s = s then (if x.k = 1 then x.st else 0) else acc) z = x.st := by
    intro r
    induction r with
    | nil => intro z q h; rcases h with h | h; exact .inl h; exact .inr (.inl ⟨h, rfl⟩)
    | cons x r ih =>
      intro z q h
      rw [List.foldl_cons]
      by_cases e : x.s = s
      · by_cases e1 : x.k = 1
        · rw [if_pos e, if_pos e1]
          rcases ih x.st True (.inr trivial) with h | ⟨_, h⟩ | ⟨y, hy, h1, h2, h3⟩
          · exact .inl h
          · exact .inr (.inr ⟨x, by simp, e, e1, h⟩)
          · exact .inr (.inr ⟨y, by simp [hy], h1, h2, h3⟩)
        · rw [if_pos e, if_neg e1]
          rcases ih 0 False (.inl rfl) with h | ⟨h, _⟩ | ⟨y, hy, h1, h2, h3⟩
          · exact .inl h
          · exact h.elim
          · exact .inr (.inr ⟨y, by simp [hy], h1, h2, h3⟩)
      · rw [if_neg e]
        rcases ih z q h with h | h | ⟨y, hy, h1, h2, h3⟩
        · exact .inl h
        · exact .inr (.inl h)
        · exact .inr (.inr ⟨y, by simp [hy], h1, h2, h3⟩)
  rcases g l 0 False (.inl rfl) with h | ⟨h, _⟩ | h
  · exact .inl h
  · exact h.elim
  · exact .inr h
theorem hold_id {l : List Lo} (h : loansOk l = true) (t s : Int) : (hold (upTo l t) s = 0 ∨ inB (hold (upTo l t) s) 1 1000000 = true) ∧ (hold (upTo l t) s ≠ 0 → inB s 1 1000000 = true) := by
  rcases hold_cases (upTo l t) s with e | ⟨x, hx, hs, hk, e⟩
  · exact ⟨.inl e, fun h => absurd e h⟩
  · obtain ⟨_, h2, h3⟩ := loanOk_parts (loansOk_each h x (upTo_sub hx))
    exact ⟨.inr (by rw [e]; exact h3 hk), fun _ => hs ▸ h2⟩
theorem hold_nn {l : List Lo} (h : loansOk l = true) (t s : Int) : 0 ≤ hold (upTo l t) s := by
  rcases (hold_id h t s).1 with e | e
  · omega
  · rw [inB_iff] at e; omega
theorem holderR_ok {l : List Lo} (h : loansOk l = true) {s t : Int} (hs : inB s 1 1000000 = true) (ht : inB t 0 1000000000 = true) : holderR l s t = (hold (upTo l t) s, decide (0 < hold (upTo l t) s), 0) := by
  simp [holderR, h, hs, ht]
theorem hallR_ok {l : List Lo} (h : loansOk l = true) {s t : Int} (hs : inB s 1 1000000 = true) (ht : inB t 0 1000000000 = true) : hallR l s t = (hallF (upTo l t) s, 0) := by
  simp [hallR, h, hs, ht]
theorem heldR_ok {l : List Lo} (h : loansOk l = true) {s t : Int} (hs : inB s 1 1000000 = true) (ht : inB t 0 1000000000 = true) : heldR l s t = (heldF (upTo l t) s (upTo l t).length, 0) := by
  simp [heldR, h, hs, ht]
theorem heldL_mem {l : List Lo} {s t : Int} (hs : inB s 1 1000000 = true) : (heldF (upTo l t) s (upTo l t).length).Pairwise (· < ·) ∧ ∀ x, x ∈ heldF (upTo l t) s (upTo l t).length ↔ hold (upTo l t) x = s :=
  heldF_all _ s (by rw [inB_iff] at hs; exact hs.1)
theorem mem_step (H : List Int) (s : Int) (k : Nat) (h : k < H.length) : decide (s ∈ H.take (k + 1)) = (decide (s ∈ H.take k) || (H[k] == s)) := by
  rw [List.take_succ_eq_append_getElem h, Bool.eq_iff_iff]
  simp only [List.mem_append, List.mem_singleton, decide_eq_true_eq, Bool.or_eq_true, beq_iff_eq]
  constructor
  · rintro (h | rfl)
    · exact .inl h
    · exact .inr rfl
  · rintro (h | e)
    · exact .inl h
    · exact .inr e.symm
end Go.Proofs.Ytokhligpjbdhcaa
