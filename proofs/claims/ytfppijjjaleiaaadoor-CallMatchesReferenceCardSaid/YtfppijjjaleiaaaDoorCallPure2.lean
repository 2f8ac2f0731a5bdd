
/- Calls in plain Lean: what the reference reads; lengths; further blanks. -/
import Derived.Test.YtfppijjjaleiaaaDoorCallPure
namespace Go.Proofs.YtfppijjjaleiaaaDoor
set_option linter.unusedSimpArgs false
set_option linter.unusedVariables false
open Go.Lib

/-- The reference's number: at most 6 digits; -1: none. -/
def valR : Int → Bs → Int
  | acc, [] => acc
  | acc, c :: r => valR (10 * acc + ((c.toNat : Int) - 48)) r
def numR (s : Bs) : Int := if s = [] ∨ 6 < s.length then -1 else if s.all digB then valR 0 s else -1
theorem valR_snoc : ∀ (l : Bs) (acc : Int) (c : UInt8), valR acc (l ++ [c]) = 10 * valR acc l + ((c.toNat : Int) - 48)
  | [], acc, c => rfl
  | x :: l, acc, c => by rw [List.cons_append, valR, valR, valR_snoc l]
theorem valR_dec : ∀ u : Nat, valR 0 (decDigits u) = u := by
  intro u
  induction u using Nat.strongRecOn with
  | _ u ih =>
    rw [decDigits]
    split
    · rename_i h
      have := dig_val h
      simp only [valR, this]
      omega
    · rename_i h
      rw [valR_snoc, ih (u / 10) (by omega), dig_val (show u % 10 < 10 by omega)]
      omega
theorem dec_len (u k : Nat) (h1 : 1 ≤ k) (h : u < 10 ^ k) : (decDigits u).length ≤ k := by
  induction k generalizing u with
  | zero => omega
  | succ k ih =>
    rw [decDigits]
    split
    · simp
    · rename_i h2
      rw [List.length_append, List.length_singleton]
      rw [Nat.pow_succ] at h
      have hk : 1 ≤ k := by
        cases k with
        | zero => simp at h; omega
        | succ k => omega
      have := ih (u / 10) hk (by omega)
      omega
theorem itoa_len {n : Int} (k : Nat) (h0 : 0 ≤ n) (h1 : 1 ≤ k) (h : n < 10 ^ k) : (itoa n).length ≤ k := by
  rw [itoa_nat h0]
  refine dec_len _ k h1 ?_
  have : ((n.toNat : Int)) = n := Int.toNat_of_nonneg h0
  have h2 : (n.toNat : Int) < ((10 ^ k : Nat) : Int) := by rw [this]; push_cast; exact h
  omega
theorem numR_itoa {n : Int} (h0 : 0 ≤ n) (h1 : n < 1000000) : numR (itoa n) = n := by
  have hl := itoa_len 6 h0 (by omega) (show n < 10 ^ 6 by omega)
  obtain ⟨h2, h3⟩ := itoa_dig h0
  unfold numR
  rw [if_neg (by rintro (h | h); exact h2 h; omega), if_pos (List.all_eq_true.2 h3), itoa_nat h0, valR_dec]
  omega
theorem valR_bd : ∀ (l : Bs) (acc : Int) (k : Nat), l.all digB = true → 0 ≤ acc → acc < 10 ^ k → 0 ≤ valR acc l ∧ valR acc l < 10 ^ (k + l.length)
  | [], acc, k, _, h0, h1 => ⟨h0, by simpa [valR] using h1⟩
  | c :: l, acc, k, h, h0, h1 => by
    rw [List.all_cons, Bool.and_eq_true] at h
    have hc := h.1
    simp only [digB, Bool.and_eq_true, decide_eq_true_eq] at hc
    have := valR_bd l (10 * acc + ((c.toNat : Int) - 48)) (k + 1) h.2 (by omega) (by rw [Int.pow_succ]; omega)
    rw [valR, List.length_cons, show k + (l.length + 1) = k + 1 + l.length by omega]
    exact this
theorem numR_bd (s : Bs) : -1 ≤ numR s ∧ numR s < 1000000 := by
  unfold numR
  split
  · omega
  · rename_i h
    split
    · rename_i h2
      obtain ⟨a, b⟩ := valR_bd s 0 0 h2 (by omega) (by simp)
      have hl : s.length ≤ 6 := by omega
      have : (10 : Int) ^ (0 + s.length) ≤ 10 ^ 6 := by
        have h3 : (10 : Nat) ^ (0 + s.length) ≤ 10 ^ 6 := Nat.pow_le_pow_right (by omega) (by omega)
        have h4 : ((10 ^ (0 + s.length) : Nat) : Int) ≤ ((10 ^ 6 : Nat) : Int) := Int.ofNat_le.2 h3
        simpa using h4
      omega
    · omega
def beatR (s : Bs) : Int × Int := match (cutP s).2 with
  | none => (numR (cutP s).1, 1)
  | some b => (numR (cutP s).1, numR b)
/-- The part behind the place: three words each time. -/
def stepR (c : Cl) (y z : Bs) : Cl :=
  let c1 := if y = beatW then { c with n := (beatR z).1, d := (beatR z).2 } else c
  if y = timeW then { c1 with pass := numR z } else c1
def loopR : Cl → List Bs → Cl
  | c, x :: y :: z :: r => loopR (stepR c y z) r
  | c, _ => c
def barsR : List Bs → Int × List Bs
  | x :: y :: z :: r => if y = aftW then (numR x, z :: r) else if y = befW then (-numR x, z :: r) else (0, x :: y :: z :: r)
  | ws => (0, ws)
def placeR (c : Cl) : List Bs → Cl
  | [] => c
  | p :: _ => if nameB p then { c with letter := p } else { c with number := numR p }
def readR (ws : List Bs) : Cl := loopR (placeR ⟨[], 0, (barsR ws).1, 0, 1, 0⟩ (barsR ws).2) ((barsR ws).2.drop 1)
theorem beatR_frac {n d : Int} (hn : 0 ≤ n) (hn1 : n < 1000000) (hd : 1 ≤ d) (hd1 : d < 1000000) : beatR (fracT n d) = (n, d) := by
  have hs := fun c hc => dig_slash ((itoa_dig hn).2 c hc)
  unfold fracT
  split
  · rename_i h
    unfold beatR
    rw [cutP_hit _ _ hs]
    simp [numR_itoa hn hn1, numR_itoa (show 0 ≤ d by omega) hd1]
  · unfold beatR
    rw [cutP_miss _ hs]
    simp [numR_itoa hn hn1]
    omega
theorem loopR_back {c : Cl} (h : VC c) (l : Bs) (k b : Int) : loopR ⟨l, k, b, 0, 1, 0⟩ (beatsW c.n c.d ++ passW c.pass) = ⟨l, k, b, c.n, c.d, c.pass⟩ := by
  have hd := div_le h.d1 h.div
  have h0 := h.n0; have h1 := h.n1; have h2 := h.d1; have h3 := h.p0; have h4 := h.p1
  have e1 : timeW ≠ beatW := by decide
  have e2 : beatW ≠ timeW := by decide
  have hp : ∀ n d, loopR ⟨l, k, b, n, d, 0⟩ (passW c.pass) = ⟨l, k, b, n, d, c.pass⟩ := by
    intro n d
    unfold passW
    split
    · rename_i hp
      simp [loopR, stepR, e1, numR_itoa h3 (by omega)]
    · have : c.pass = 0 := by omega
      rw [this]
      rfl
  unfold beatsW
  split
  · rename_i hn
    simp only [List.cons_append, List.nil_append, loopR, stepR, if_true, if_neg e2]
    rw [beatR_frac h0 (by omega) h2 (by omega)]
    exact hp _ _
  · have hn : c.n = 0 := by omega
    have hg := h.gcd
    rw [hn] at hg
    have hd1 : c.d = 1 := by simp at hg; omega
    rw [hn, hd1, List.nil_append]
    exact hp _ _
theorem tail_ne (c : Cl) : beatsW c.n c.d ++ passW c.pass = [] ∨ ∃ r, beatsW c.n c.d ++ passW c.pass = [44] :: r := by
  unfold beatsW passW
  split
  · exact .inr ⟨_, rfl⟩
  · split
    · exact .inr ⟨_, rfl⟩
    · exact .inl rfl
theorem bars_backR {c : Cl} (h : VC c) : barsR (wordsC c) = (c.bars, placeT c :: (beatsW c.n c.d ++ passW c.pass)) := by
  have h0 := h.b0; have h1 := h.b1
  unfold wordsC barsW
  split
  · rename_i hb
    simp [barsR, numR_itoa (Int.le_of_lt hb) (by omega)]
  · split
    · rename_i hb
      have : befW ≠ aftW := by decide
      simp [barsR, numR_itoa (show 0 ≤ -c.bars by omega) (by omega), this]
    · have hb : c.bars = 0 := by omega
      rw [hb, List.nil_append]
      have e1 : ([44] : Bs) ≠ aftW := by decide
      have e2 : ([44] : Bs) ≠ befW := by decide
      rcases tail_ne c with e | ⟨r, e⟩
      · rw [e]; rfl
      · rw [e]
        cases r with
        | nil => rfl
        | cons y r => simp [barsR, e1, e2]
theorem readR_back {c : Cl} (h : VC c) : readR (wordsC c) = c := by
  unfold readR
  rw [bars_backR h]
  simp only [List.drop_succ_cons, List.drop_zero]
  have : placeR ⟨[], 0, c.bars, 0, 1, 0⟩ (placeT c :: (beatsW c.n c.d ++ passW c.pass)) = ⟨c.letter, c.number, c.bars, 0, 1, 0⟩ := by
    unfold placeT
    rcases h.place with ⟨h1, h2, h3⟩ | ⟨h1, h2⟩
    · rw [if_pos h1]
      simp [placeR, itoa_noname h2, numR_itoa h2 (by omega), h1]
    · rw [if_neg (name_plain h1).1]
      simp [placeR, h1, h2]
  rw [this, loopR_back h]

/-- What Parse says: the call, an error's number. -/
def parseC (s : Bs) : Cl × Int := if 200 < s.length then (⟨[], 0, 0, 0, 0, 0⟩, 2) else match readC (wordsL s) with
  | some c => (c, 0)
  | none => (⟨[], 0, 0, 0, 0, 0⟩, 8)
def parseR (s : Bs) : Cl × Int := if 200 < s.length then (⟨[], 0, 0, 0, 0, 0⟩, 2) else
  if validC (readR (wordsL s)) = true ∧ wordsL (textC (readR (wordsL s))) = wordsL s then (readR (wordsL s), 0) else (⟨[], 0, 0, 0, 0, 0⟩, 8)
theorem parse_same (s : Bs) : parseC s = parseR s := by
  unfold parseC parseR
  split
  · rfl
  · cases h : readC (wordsL s) with
    | some c =>
      obtain ⟨h1, h2⟩ := read_says h
      have e : readR (wordsL s) = c := by rw [← h2, readR_back h1]
      rw [e, if_pos ⟨(validC_iff c).2 h1, by rw [words_text h1, h2]⟩]
    | none =>
      rw [if_neg]
      rintro ⟨h1, h2⟩
      have hv := (validC_iff _).1 h1
      rw [words_text hv] at h2
      have := read_back hv
      rw [h2, h] at this
      cases this
def printC (c : Cl) : Bs × Int := if validC c = true then (textC c, 0) else ([], 1)

/-- A valid call's text is short. -/
theorem text_len {c : Cl} (h : VC c) : (textC c).length ≤ 100 := by
  have hd := div_le h.d1 h.div
  have h0 := h.n0; have h1 := h.n1; have h2 := h.d1; have h3 := h.p0; have h4 := h.p1; have h5 := h.b0; have h6 := h.b1
  have l1 : (barsT c.bars).length ≤ 20 := by
    unfold barsT
    split
    · have := itoa_len (n := c.bars) 6 (by omega) (by omega) (by omega)
      simp; omega
    · split
      · have := itoa_len (n := -c.bars) 6 (by omega) (by omega) (by omega)
        simp; omega
      · simp
  have l2 : (placeT c).length ≤ 12 := by
    unfold placeT
    rcases h.place with ⟨a1, a2, a3⟩ | ⟨a1, a2⟩
    · rw [if_pos a1]
      have := itoa_len (n := c.number) 6 a2 (by omega) (by omega)
      omega
    · rw [if_neg (name_plain a1).1]
      exact ((nameB_iff _).1 a1).2.1
  have l3 : (beatT c.n c.d).length ≤ 30 := by
    have a1 := itoa_len (n := c.n) 6 (by omega) (by omega) (by omega)
    have a2 := itoa_len (n := c.d) 6 (by omega) (by omega) (by omega)
    unfold beatT fracT
    split
    · split
      · simp; omega
      · simp; omega
    · simp
  have l4 : (passT c.pass).length ≤ 20 := by
    unfold passT
    split
    · have := itoa_len (n := c.pass) 6 (by omega) (by omega) (by omega)
      simp; omega
    · simp
  unfold textC
  simp only [List.length_append]
  omega
theorem parse_back {c : Cl} (h : VC c) : parseC (textC c) = (c, 0) := by
  have := text_len h
  unfold parseC
  rw [if_neg (by omega), words_text h, read_back h]
theorem text_inj {a b : Cl} (ha : VC a) (hb : VC b) (h : textC a = textC b) : a = b := by
  have h1 := parse_back ha
  rw [h, parse_back hb] at h1
  exact ((Prod.mk.inj h1).1).symm
theorem parse_says {s : Bs} {c : Cl} (h : parseC s = (c, 0)) : VC c ∧ wordsL (textC c) = wordsL s := by
  unfold parseC at h
  split at h
  · cases (Prod.mk.inj h).2
  · split at h
    · rename_i c' hr
      obtain ⟨rfl, _⟩ := Prod.mk.inj h
      obtain ⟨h1, h2⟩ := read_says hr
      exact ⟨h1, by rw [words_text h1, h2]⟩
    · cases (Prod.mk.inj h).2
theorem parse_words {s t : Bs} (hs : s.length ≤ 200) (ht : t.length ≤ 200) (h : wordsL t = wordsL s) : parseC t = parseC s := by
  unfold parseC
  rw [if_neg (by omega), if_neg (by omega), h]

/-- Blanks, some. -/
def wideL (f : Nat → Nat) : Nat → List Bs → Bs
  | _, [] => []
  | i, w :: r => List.replicate (f i) 32 ++ (32 :: w) ++ wideL f (i + 1) r
theorem words_rep (k : Nat) (r : Bs) : wordsL (List.replicate k 32 ++ r) = wordsL r := by
  induction k with
  | zero => simp
  | succ k ih => rw [List.replicate_succ, List.cons_append, words_blank, ih]
theorem wide_head (f : Nat → Nat) (i : Nat) (l : List Bs) : wideL f i l = [] ∨ ∃ r, wideL f i l = 32 :: r := by
  cases l with
  | nil => exact .inl rfl
  | cons w r =>
    refine .inr ?_
    rw [wideL]
    cases f i with
    | zero => exact ⟨_, rfl⟩
    | succ k => exact ⟨_, by rw [List.replicate_succ]; rfl⟩
theorem words_wide (f : Nat → Nat) : ∀ (l : List Bs) (i : Nat), (∀ w ∈ l, okW w) → wordsL (wideL f i l) = l
  | [], i, _ => rfl
  | w :: r, i, h => by
    have ih := words_wide f r (i + 1) fun x hx => h x (by simp [hx])
    have hw := h w (by simp)
    rw [wideL, List.append_assoc, words_rep, List.cons_append, words_blank]
    rcases hw with rfl | hw
    · rw [List.cons_append, List.nil_append, words_comma, ih]
    · rcases wide_head f (i + 1) r with e | ⟨q, e⟩
      · rw [e] at ih ⊢
        rw [List.append_nil, words_word hw, ← ih, words_nil]
      · rw [e] at ih ⊢
        rw [words_word_blank hw]
        rw [words_blank] at ih
        rw [ih]
/-- Without blanks next to commas: whether a word stands ahead that is no comma. -/
def tightL : Bool → List Bs → Bs
  | _, [] => []
  | b, w :: r => (if b = true ∧ w ≠ [44] then 32 :: w else w) ++ tightL (decide (w ≠ [44])) r
theorem words_tight : ∀ (l : List Bs) (b : Bool), (∀ w ∈ l, okW w) → wordsL (tightL b l) = l ∧ (b = true → tightL b l = [] ∨ (∃ q, tightL b l = 44 :: q) ∨ ∃ q, tightL b l = 32 :: q)
  | [], b, _ => ⟨rfl, fun _ => .inl rfl⟩
  | w :: r, b, h => by
    have ih := words_tight r (decide (w ≠ [44])) fun x hx => h x (by simp [hx])
    have hw := h w (by simp)
    rw [tightL]
    rcases hw with rfl | hw
    · rw [if_neg (by simp), List.cons_append, List.nil_append, words_comma, ih.1]
      exact ⟨rfl, fun _ => .inr (.inl ⟨_, rfl⟩)⟩
    · have hne : w ≠ [44] := by
        rintro rfl
        have := hw.2 44 (by simp)
        revert this; decide
      have hd : decide (w ≠ [44]) = true := by simpa using hne
      rw [hd] at ih ⊢
      have key : wordsL (w ++ tightL true r) = w :: r := by
        rcases ih.2 rfl with e | ⟨q, e⟩ | ⟨q, e⟩
        · have := ih.1
          rw [e] at this ⊢
          rw [List.append_nil, words_word hw, ← this, words_nil]
        · have := ih.1
          rw [e] at this ⊢
          rw [words_word_comma hw, ← this, words_comma]
        · have := ih.1
          rw [e] at this ⊢
          rw [words_word_blank hw, ← this, words_blank]
      cases b with
      | false =>
        rw [if_neg (by simp)]
        exact ⟨key, fun hb => by cases hb⟩
      | true =>
        rw [if_pos ⟨rfl, hne⟩, List.cons_append, words_blank]
        exact ⟨key, fun _ => .inr (.inr ⟨_, rfl⟩)⟩
theorem tight_len : ∀ (s cur : Bs) (b : Bool), (tightL b (wordsA cur s)).length ≤ (if b = true then 1 else 0) + cur.length + s.length
  | [], cur, b => by
    simp only [wordsA, flushW]
    split
    · simp [tightL]
    · simp only [tightL, List.append_nil]
      split
      · rename_i h
        simp [h.1]; omega
      · simp
  | c :: s, cur, b => by
    have one : ∀ (w : Bs) (W : List Bs) (k : Nat), (tightL (decide (w ≠ [44])) W).length ≤ k → (tightL b (w :: W)).length ≤ (if b = true then 1 else 0) + w.length + k := by
      intro w W k hk
      rw [tightL, List.length_append]
      split
      · rename_i h
        simp only [List.length_cons, h.1, if_true]; omega
      · omega
    have i1 : ∀ b', (tightL b' (wordsA [] s)).length ≤ 1 + s.length := by
      intro b'
      have := tight_len s [] b'
      simp only [List.length_nil] at this
      split at this <;> omega
    have i0 : (tightL false (wordsA [] s)).length ≤ s.length := by
      have := tight_len s [] false
      simpa using this
    rw [wordsA]
    split
    · unfold flushW
      split
      · rename_i e
        subst e
        have := tight_len s [] b
        simp only [List.nil_append, List.length_nil, List.length_cons] at this ⊢
        omega
      · have := one cur (wordsA [] s) (1 + s.length) (i1 _)
        simp only [List.cons_append, List.nil_append, List.length_cons]
        omega
    · split
      · have hc : (tightL (decide (cur ≠ [44])) ([44] :: wordsA [] s)).length ≤ 1 + s.length := by
          rw [tightL, List.length_append, if_neg (by simp)]
          simp only [ne_eq, not_true_eq_false, decide_false, List.length_singleton]
          omega
        unfold flushW
        split
        · rename_i e
          subst e
          rw [List.nil_append, tightL, List.length_append, if_neg (by simp)]
          simp only [ne_eq, not_true_eq_false, decide_false, List.length_singleton, List.length_nil, List.length_cons]
          omega
        · have := one cur ([44] :: wordsA [] s) (1 + s.length) hc
          simp only [List.cons_append, List.nil_append, List.length_cons]
          omega
      · have := tight_len s (cur ++ [c]) b
        simp only [List.length_append, List.length_singleton, List.length_cons, List.length_nil] at this ⊢
        omega
theorem tight_short (s : Bs) : (tightL false (wordsL s)).length ≤ s.length := by
  have := tight_len s [] false
  simpa [wordsL] using this
end Go.Proofs.YtfppijjjaleiaaaDoor
