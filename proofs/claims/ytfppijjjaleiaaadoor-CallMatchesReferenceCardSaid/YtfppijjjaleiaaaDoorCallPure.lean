
/- Calls in plain Lean: names, words, texts, what is read. -/
import Derived.Lib.AtoiAll
import Derived.Lib.ItoaNum
namespace Go.Proofs.YtfppijjjaleiaaaDoor
set_option linter.unusedSimpArgs false
set_option linter.unusedVariables false
open Go.Lib

abbrev Bs := List UInt8
/-- No word's byte: a blank, a comma. -/
def sepB (c : UInt8) : Bool := c == 32 || c == 44
def flushW (cur : Bs) : List Bs := if cur = [] then [] else [cur]
def wordsA : Bs → Bs → List Bs
  | cur, [] => flushW cur
  | cur, c :: r => if c = 32 then flushW cur ++ wordsA [] r else if c = 44 then flushW cur ++ [44] :: wordsA [] r else wordsA (cur ++ [c]) r
/-- The words of a source. -/
def wordsL (s : Bs) : List Bs := wordsA [] s
def plainW (w : Bs) : Prop := w ≠ [] ∧ ∀ c ∈ w, sepB c = false
def okW (w : Bs) : Prop := w = [44] ∨ plainW w
theorem sep_iff (c : UInt8) : sepB c = false ↔ c ≠ 32 ∧ c ≠ 44 := by simp [sepB]
theorem wordsA_app : ∀ (w cur r : Bs), (∀ c ∈ w, sepB c = false) → wordsA cur (w ++ r) = wordsA (cur ++ w) r
  | [], cur, r, _ => by simp
  | c :: w, cur, r, h => by
    have hc := (sep_iff c).1 (h c (by simp))
    rw [List.cons_append, wordsA, if_neg hc.1, if_neg hc.2, wordsA_app w _ r fun x hx => h x (by simp [hx])]
    simp
theorem words_blank (r : Bs) : wordsL (32 :: r) = wordsL r := by simp [wordsL, wordsA, flushW]
theorem words_comma (r : Bs) : wordsL (44 :: r) = [44] :: wordsL r := by simp [wordsL, wordsA, flushW]
theorem words_word_blank {w : Bs} (h : plainW w) (r : Bs) : wordsL (w ++ 32 :: r) = w :: wordsL r := by
  unfold wordsL
  rw [wordsA_app w [] _ h.2]
  simp [wordsA, flushW, h.1]
theorem words_word_comma {w : Bs} (h : plainW w) (r : Bs) : wordsL (w ++ 44 :: r) = w :: [44] :: wordsL r := by
  unfold wordsL
  rw [wordsA_app w [] _ h.2]
  simp [wordsA, flushW, h.1]
theorem words_word {w : Bs} (h : plainW w) : wordsL w = [w] := by
  have := wordsA_app w [] [] h.2
  unfold wordsL
  rw [List.append_nil] at this
  rw [this]
  simp [wordsA, flushW, h.1]
theorem words_nil : wordsL [] = [] := rfl
theorem wordsA_ok : ∀ (s cur : Bs), (∀ c ∈ cur, sepB c = false) → ∀ w ∈ wordsA cur s, okW w
  | [], cur, h => by
    intro w hw
    simp only [wordsA, flushW] at hw
    split at hw
    · cases hw
    · rename_i hne
      rw [List.mem_singleton] at hw
      subst hw
      exact .inr ⟨hne, h⟩
  | c :: s, cur, h => by
    intro w hw
    have hf : ∀ x ∈ flushW cur, okW x := by
      intro x hx
      simp only [flushW] at hx
      split at hx
      · cases hx
      · rename_i hne
        rw [List.mem_singleton] at hx
        subst hx
        exact .inr ⟨hne, h⟩
    rw [wordsA] at hw
    split at hw
    · rw [List.mem_append] at hw
      rcases hw with hw | hw
      · exact hf _ hw
      · exact wordsA_ok s [] (by simp) w hw
    · split at hw
      · rw [List.mem_append, List.mem_cons] at hw
        rcases hw with hw | rfl | hw
        · exact hf _ hw
        · exact .inl rfl
        · exact wordsA_ok s [] (by simp) w hw
      · rename_i h1 h2
        refine wordsA_ok s (cur ++ [c]) ?_ w hw
        intro x hx
        rw [List.mem_append, List.mem_singleton] at hx
        rcases hx with hx | rfl
        · exact h x hx
        · exact (sep_iff _).2 ⟨h1, h2⟩
theorem words_ok (s : Bs) : ∀ w ∈ wordsL s, okW w := wordsA_ok s [] (by simp)

/-- Names. -/
def upB (c : UInt8) : Bool := decide (65 ≤ c.toNat) && decide (c.toNat ≤ 90)
def digB (c : UInt8) : Bool := decide (48 ≤ c.toNat) && decide (c.toNat ≤ 57)
def headB (s : Bs) : Bool := match s with
  | [] => false
  | c :: _ => decide (65 ≤ c.toNat)
def nameB (s : Bs) : Bool := headB s && decide (s.length ≤ 12) && s.all fun c => upB c || digB c
theorem nameB_iff (s : Bs) : nameB s = true ↔ headB s = true ∧ s.length ≤ 12 ∧ ∀ c ∈ s, upB c = true ∨ digB c = true := by simp [nameB, and_assoc]
theorem up_sep {c : UInt8} (h : upB c = true ∨ digB c = true) : sepB c = false := by
  rw [sep_iff]
  simp only [upB, digB, Bool.and_eq_true, decide_eq_true_eq] at h
  constructor <;> (intro e; subst e; revert h; decide)
theorem name_plain {s : Bs} (h : nameB s = true) : plainW s := by
  obtain ⟨h1, _, h3⟩ := (nameB_iff s).1 h
  refine ⟨fun e => (by subst e; cases h1), fun c hc => up_sep (h3 c hc)⟩

/-- A call. -/
structure Cl where
  letter : Bs
  number : Int
  bars : Int
  n : Int
  d : Int
  pass : Int
  deriving DecidableEq
def ratB (n d : Int) : Bool := decide (1 ≤ d) && decide (d ≤ 1000000) && decide (-1000000000 ≤ n) && decide (n ≤ 1000000000) && decide (Nat.gcd n.natAbs d.natAbs = 1)
def placeB (c : Cl) : Bool := decide (c.letter = []) && inR c.number 0 100000 || nameB c.letter && decide (c.number = 0)
where inR (n lo hi : Int) : Bool := decide (lo ≤ n) && decide (n ≤ hi)
def beatB (c : Cl) : Bool := ratB c.n c.d && decide (0 ≤ c.n) && decide (1680 % c.d = 0) && decide (c.n < 24 * c.d)
def validC (c : Cl) : Bool := placeB c && beatB c && (decide (-1000 ≤ c.bars) && decide (c.bars ≤ 1000)) && (decide (0 ≤ c.pass) && decide (c.pass ≤ 20000))
structure VC (c : Cl) : Prop where
  place : c.letter = [] ∧ 0 ≤ c.number ∧ c.number ≤ 100000 ∨ nameB c.letter = true ∧ c.number = 0
  d1 : 1 ≤ c.d
  gcd : Nat.gcd c.n.natAbs c.d.natAbs = 1
  n0 : 0 ≤ c.n
  div : 1680 % c.d = 0
  n1 : c.n < 24 * c.d
  b0 : -1000 ≤ c.bars
  b1 : c.bars ≤ 1000
  p0 : 0 ≤ c.pass
  p1 : c.pass ≤ 20000
theorem div_le {d : Int} (h : 1 ≤ d) (h2 : 1680 % d = 0) : d ≤ 1680 := by
  have := Int.le_of_dvd (by omega) (Int.dvd_of_emod_eq_zero h2)
  omega
theorem validC_iff (c : Cl) : validC c = true ↔ VC c := by
  constructor
  · intro h
    simp only [validC, placeB, placeB.inR, beatB, ratB, Bool.and_eq_true, Bool.or_eq_true, decide_eq_true_eq] at h
    obtain ⟨⟨⟨h1, hb⟩, h7⟩, h8⟩ := h
    obtain ⟨⟨⟨hr, h4⟩, h5⟩, h6⟩ := hb
    obtain ⟨⟨⟨⟨h2, _⟩, _⟩, _⟩, h3⟩ := hr
    refine ⟨?_, h2, h3, h4, h5, h6, h7.1, h7.2, h8.1, h8.2⟩
    rcases h1 with ⟨a, b⟩ | h1
    · exact .inl ⟨a, b.1, b.2⟩
    · exact .inr h1
  · intro h
    have hd := div_le h.d1 h.div
    have := h.n0; have := h.n1
    simp only [validC, placeB, placeB.inR, beatB, ratB, Bool.and_eq_true, Bool.or_eq_true, decide_eq_true_eq]
    refine ⟨⟨⟨?_, ⟨⟨⟨⟨⟨⟨⟨h.d1, by omega⟩, by omega⟩, by omega⟩, h.gcd⟩, h.n0⟩, h.div⟩, h.n1⟩⟩, h.b0, h.b1⟩, h.p0, h.p1⟩
    rcases h.place with ⟨a, b, c⟩ | h1
    · exact .inl ⟨a, b, c⟩
    · exact .inr h1

/-- Texts. -/
def aftW : Bs := [97, 102, 116, 101, 114]
def befW : Bs := [98, 101, 102, 111, 114, 101]
def beatW : Bs := [98, 101, 97, 116]
def timeW : Bs := [116, 105, 109, 101]
def barsT (b : Int) : Bs := if 0 < b then itoa b ++ [32, 97, 102, 116, 101, 114, 32] else if b < 0 then itoa (-b) ++ [32, 98, 101, 102, 111, 114, 101, 32] else []
def placeT (c : Cl) : Bs := if c.letter = [] then itoa c.number else c.letter
def fracT (n d : Int) : Bs := if 1 < d then itoa n ++ 47 :: itoa d else itoa n
def beatT (n d : Int) : Bs := if 0 < n then [44, 32, 98, 101, 97, 116, 32] ++ fracT n d else []
def passT (p : Int) : Bs := if 0 < p then [44, 32, 116, 105, 109, 101, 32] ++ itoa p else []
def textC (c : Cl) : Bs := barsT c.bars ++ placeT c ++ beatT c.n c.d ++ passT c.pass

theorem dec_dig : ∀ (u : Nat), decDigits u ≠ [] ∧ ∀ c ∈ decDigits u, digB c = true := by
  intro u
  induction u using Nat.strongRecOn with
  | _ u ih =>
    have hd : ∀ k : Nat, k < 10 → digB (UInt8.ofNat (48 + k)) = true := by
      intro k hk
      simp only [digB, UInt8.toNat_ofNat', Bool.and_eq_true, decide_eq_true_eq]
      omega
    rw [decDigits]
    split
    · rename_i h
      refine ⟨by simp, fun c hc => ?_⟩
      rw [List.mem_singleton] at hc
      subst hc
      exact hd u h
    · rename_i h
      refine ⟨by simp, fun c hc => ?_⟩
      rw [List.mem_append, List.mem_singleton] at hc
      rcases hc with hc | rfl
      · exact (ih (u / 10) (by omega)).2 c hc
      · exact hd _ (by omega)
theorem itoa_nat {n : Int} (h : 0 ≤ n) : itoa n = decDigits n.toNat := by rw [itoa, if_neg (by omega)]
theorem itoa_dig {n : Int} (h : 0 ≤ n) : itoa n ≠ [] ∧ ∀ c ∈ itoa n, digB c = true := by rw [itoa_nat h]; exact dec_dig _
theorem itoa_plain {n : Int} (h : 0 ≤ n) : plainW (itoa n) := ⟨(itoa_dig h).1, fun c hc => up_sep (.inr ((itoa_dig h).2 c hc))⟩
theorem itoa_noname {n : Int} (h : 0 ≤ n) : nameB (itoa n) = false := by
  obtain ⟨h1, h2⟩ := itoa_dig h
  cases e : itoa n with
  | nil => exact absurd e h1
  | cons c r =>
    rw [e] at h2
    have := h2 c (by simp)
    simp only [digB, Bool.and_eq_true, decide_eq_true_eq] at this
    have : ¬ 65 ≤ c.toNat := by omega
    simp [nameB, headB, this]
theorem dig_val {k : Nat} (hk : k < 10) : (UInt8.ofNat (48 + k)).toNat = 48 + k := by rw [UInt8.toNat_ofNat']; omega
theorem parse_snoc : ∀ (l : Bs) (acc a k : Nat), k < 10 → parseUint10 acc l = .ok a → a < 1844674407370955161 → parseUint10 acc (l ++ [UInt8.ofNat (48 + k)]) = .ok (a * 10 + k)
  | [], acc, a, k, hk, h, ha => by
    simp only [parseUint10] at h
    injection h with h
    subst h
    have := dig_val hk
    simp only [List.nil_append, parseUint10, this]
    rw [if_pos (by omega), if_neg (by omega), if_neg (by omega)]
    congr 1
    omega
  | c :: l, acc, a, k, hk, h, ha => by
    simp only [parseUint10, List.cons_append] at h ⊢
    split at h
    · rename_i h1
      split at h
      · cases h
      · rename_i h2
        split at h
        · cases h
        · rename_i h3
          rw [if_pos h1, if_neg h2, if_neg h3]
          exact parse_snoc l _ a k hk h ha
    · cases h
theorem parse_dec : ∀ (u : Nat), u < 1844674407370955161 → parseUint10 0 (decDigits u) = .ok u := by
  intro u
  induction u using Nat.strongRecOn with
  | _ u ih =>
    intro hu
    rw [decDigits]
    split
    · rename_i h
      have := parse_snoc [] 0 0 u h rfl (by omega)
      simpa using this
    · rename_i h
      have := parse_snoc (decDigits (u / 10)) 0 (u / 10) (u % 10) (by omega) (ih (u / 10) (by omega) (by omega)) (by omega)
      rw [this]
      congr 1
      omega
theorem atoi_itoa {n : Int} (h : 0 ≤ n) (h2 : n < 1844674407370955161) : atoiAll (itoa n) = .ok n := by
  rw [itoa_nat h]
  obtain ⟨h1, h3⟩ := dec_dig n.toNat
  have hp := parse_dec n.toNat (by omega)
  cases e : decDigits n.toNat with
  | nil => exact absurd e h1
  | cons c r =>
    rw [e] at h3 hp
    have := h3 c (by simp)
    simp only [digB, Bool.and_eq_true, decide_eq_true_eq] at this
    simp only [atoiAll]
    rw [if_neg (by omega), parseMag, if_neg (by simp), hp]
    simp only []
    rw [if_neg (by omega), if_neg (by omega), if_neg (by omega)]
    congr 1
    omega

/-- What is read. -/
def numP (s : Bs) : Option Int := match atoiAll s with
  | .ok n => if itoa n = s ∧ 0 ≤ n then some n else none
  | _ => none
theorem numP_itoa {n : Int} (h : 0 ≤ n) (h2 : n < 1844674407370955161) : numP (itoa n) = some n := by
  rw [numP, atoi_itoa h h2]; simp [h]
theorem numP_some {s : Bs} {n : Int} (h : numP s = some n) : itoa n = s ∧ 0 ≤ n := by
  unfold numP at h
  split at h
  · split at h
    · rename_i hh
      injection h with h
      subst h
      exact hh
    · cases h
  · cases h
def cutP : Bs → Bs × Option Bs
  | [] => ([], none)
  | c :: r => if c = 47 then ([], some r) else (c :: (cutP r).1, (cutP r).2)
theorem cutP_hit : ∀ (w r : Bs), (∀ c ∈ w, c ≠ 47) → cutP (w ++ 47 :: r) = (w, some r)
  | [], r, _ => by simp [cutP]
  | c :: w, r, h => by
    rw [List.cons_append, cutP, if_neg (h c (by simp)), cutP_hit w r fun x hx => h x (by simp [hx])]
theorem cutP_miss : ∀ (w : Bs), (∀ c ∈ w, c ≠ 47) → cutP w = (w, none)
  | [], _ => rfl
  | c :: w, h => by rw [cutP, if_neg (h c (by simp)), cutP_miss w fun x hx => h x (by simp [hx])]
theorem cutP_some : ∀ (s a b : Bs), cutP s = (a, some b) → s = a ++ 47 :: b
  | [], a, b, h => by simp [cutP] at h
  | c :: r, a, b, h => by
    rw [cutP] at h
    split at h
    · rename_i e
      subst e
      obtain ⟨rfl, h5⟩ := Prod.mk.inj h
      injection h5 with h5
      subst h5
      rfl
    · obtain ⟨rfl, h5⟩ := Prod.mk.inj h
      have := cutP_some r (cutP r).1 b (Prod.ext rfl h5)
      rw [List.cons_append, ← this]
theorem cutP_none : ∀ (s a : Bs), cutP s = (a, none) → s = a
  | [], a, h => by simp [cutP] at h; exact h.symm
  | c :: r, a, h => by
    rw [cutP] at h
    split at h
    · cases (Prod.mk.inj h).2
    · obtain ⟨rfl, h5⟩ := Prod.mk.inj h
      have := cutP_none r (cutP r).1 (Prod.ext rfl h5)
      rw [← this]
theorem dig_slash {c : UInt8} (h : digB c = true) : c ≠ 47 := by
  intro e; subst e; revert h; decide
def posP (s : Bs) : Option Int := (numP s).bind fun k => if 0 < k then some k else none
theorem posP_some {s : Bs} {k : Int} (h : posP s = some k) : itoa k = s ∧ 0 < k := by
  unfold posP at h
  obtain ⟨a, h1, h2⟩ := Option.bind_eq_some_iff.1 h
  split at h2
  · rename_i hp
    injection h2 with h2
    subst h2
    exact ⟨(numP_some h1).1, hp⟩
  · cases h2
theorem posP_itoa {n : Int} (h : 0 < n) (h2 : n < 1844674407370955161) : posP (itoa n) = some n := by simp [posP, numP_itoa (Int.le_of_lt h) h2, h]
def barsP : List Bs → Option (Int × List Bs)
  | x :: y :: r => if y = aftW then (posP x).map fun k => (k, r) else if y = befW then (posP x).map fun k => (-k, r) else some (0, x :: y :: r)
  | ws => some (0, ws)
def placeP : List Bs → Option ((Bs × Int) × List Bs)
  | [] => none
  | p :: r => if nameB p then some ((p, 0), r) else (numP p).map fun k => (([], k), r)
def fracP (s : Bs) : Option (Int × Int) := match (cutP s).2 with
  | none => (posP (cutP s).1).map fun n => (n, 1)
  | some b => (posP (cutP s).1).bind fun n => (numP b).bind fun d => if 1 < d then some (n, d) else none
def beatP : List Bs → Option ((Int × Int) × List Bs)
  | x :: y :: r => if x = [44] ∧ y = beatW then (match r with | [] => none | z :: r' => (fracP z).map fun p => (p, r')) else some ((0, 1), x :: y :: r)
  | ws => some ((0, 1), ws)
def passP : List Bs → Option (Int × List Bs)
  | x :: y :: r => if x = [44] ∧ y = timeW then (match r with | [] => none | z :: r' => (posP z).map fun k => (k, r')) else some (0, x :: y :: r)
  | ws => some (0, ws)
def readC (ws : List Bs) : Option Cl :=
  (barsP ws).bind fun b => (placeP b.2).bind fun l => (beatP l.2).bind fun f => (passP f.2).bind fun p =>
    if p.2 = [] ∧ validC ⟨l.1.1, l.1.2, b.1, f.1.1, f.1.2, p.1⟩ = true then some ⟨l.1.1, l.1.2, b.1, f.1.1, f.1.2, p.1⟩ else none

/-- The words of a text. -/
def barsW (b : Int) : List Bs := if 0 < b then [itoa b, aftW] else if b < 0 then [itoa (-b), befW] else []
def beatsW (n d : Int) : List Bs := if 0 < n then [[44], beatW, fracT n d] else []
def passW (p : Int) : List Bs := if 0 < p then [[44], timeW, itoa p] else []
def wordsC (c : Cl) : List Bs := barsW c.bars ++ placeT c :: (beatsW c.n c.d ++ passW c.pass)
theorem frac_plain {n d : Int} (hn : 0 ≤ n) (hd : 0 ≤ d) : plainW (fracT n d) := by
  unfold fracT
  split
  · refine ⟨by simp, fun c hc => ?_⟩
    rw [List.mem_append, List.mem_cons] at hc
    rcases hc with hc | rfl | hc
    · exact (itoa_plain hn).2 c hc
    · decide
    · exact (itoa_plain hd).2 c hc
  · exact itoa_plain hn
theorem place_plain {c : Cl} (h : VC c) : plainW (placeT c) := by
  unfold placeT
  split
  · rename_i e
    rcases h.place with hp | hp
    · exact itoa_plain hp.2.1
    · rw [hp.2]; exact itoa_plain (Int.le_refl 0)
  · rename_i e
    rcases h.place with hp | hp
    · exact absurd hp.1 e
    · exact name_plain hp.1
theorem aft_plain : plainW aftW := ⟨by decide, by decide⟩
theorem bef_plain : plainW befW := ⟨by decide, by decide⟩
theorem beat_plain : plainW beatW := ⟨by decide, by decide⟩
theorem time_plain : plainW timeW := ⟨by decide, by decide⟩
theorem words_pass (p : Int) : wordsL (passT p) = passW p := by
  unfold passT passW
  split
  · rename_i h
    show wordsL (44 :: 32 :: (timeW ++ 32 :: itoa p)) = _
    rw [words_comma, words_blank, words_word_blank time_plain, words_word (itoa_plain (Int.le_of_lt h))]
  · rfl
theorem pass_head (p : Int) : passT p = [] ∨ ∃ r, passT p = 44 :: r := by
  unfold passT
  split
  · exact .inr ⟨_, rfl⟩
  · exact .inl rfl
theorem words_tail {w : Bs} (h : plainW w) {r : Bs} (hr : r = [] ∨ ∃ q, r = 44 :: q) : wordsL (w ++ r) = w :: wordsL r := by
  rcases hr with rfl | ⟨q, rfl⟩
  · rw [List.append_nil, words_word h, words_nil]
  · rw [words_word_comma h, words_comma]
theorem words_beat {n d : Int} (hd : 0 ≤ d) (p : Int) : wordsL (beatT n d ++ passT p) = beatsW n d ++ passW p := by
  unfold beatT beatsW
  split
  · rename_i h
    show wordsL (44 :: 32 :: (beatW ++ 32 :: (fracT n d ++ passT p))) = _
    rw [words_comma, words_blank, words_word_blank beat_plain, words_tail (frac_plain (Int.le_of_lt h) hd) (pass_head p), words_pass]
    rfl
  · exact words_pass p
theorem beat_head (n d p : Int) : beatT n d ++ passT p = [] ∨ ∃ r, beatT n d ++ passT p = 44 :: r := by
  unfold beatT
  split
  · exact .inr ⟨_, rfl⟩
  · exact pass_head p
theorem words_text {c : Cl} (h : VC c) : wordsL (textC c) = wordsC c := by
  have hd := h.d1
  have h1 : wordsL (placeT c ++ (beatT c.n c.d ++ passT c.pass)) = placeT c :: (beatsW c.n c.d ++ passW c.pass) := by
    rw [words_tail (place_plain h) (beat_head _ _ _), words_beat (by omega)]
  unfold textC wordsC barsT barsW
  simp only [List.append_assoc]
  split
  · rename_i hb
    rw [List.append_assoc]
    show wordsL (itoa c.bars ++ (32 :: (aftW ++ 32 :: (placeT c ++ (beatT c.n c.d ++ passT c.pass))))) = _
    rw [words_word_blank (itoa_plain (Int.le_of_lt hb)), words_word_blank aft_plain, h1]
    rfl
  · split
    · rename_i hb
      rw [List.append_assoc]
      show wordsL (itoa (-c.bars) ++ (32 :: (befW ++ 32 :: (placeT c ++ (beatT c.n c.d ++ passT c.pass))))) = _
      rw [words_word_blank (itoa_plain (by omega)), words_word_blank bef_plain, h1]
      rfl
    · exact h1

/-- What is read is valid, and has these words. -/
theorem pass_says {ws : List Bs} {p : Int} {r : List Bs} (h : passP ws = some (p, r)) : ws = passW p ++ r ∧ 0 ≤ p := by
  unfold passP at h
  split at h
  · rename_i x y q
    split at h
    · rename_i hxy
      obtain ⟨rfl, rfl⟩ := hxy
      split at h
      · cases h
      · rename_i z r'
        obtain ⟨k, h1, h2⟩ := Option.map_eq_some_iff.1 h
        obtain ⟨rfl, rfl⟩ := Prod.mk.inj h2
        obtain ⟨e, hk⟩ := posP_some h1
        subst e
        simp [passW, hk, Int.le_of_lt hk]
    · injection h with h
      obtain ⟨rfl, rfl⟩ := Prod.mk.inj h
      simp [passW]
  · injection h with h
    obtain ⟨rfl, rfl⟩ := Prod.mk.inj h
    simp [passW]
theorem frac_says {s : Bs} {n d : Int} (h : fracP s = some (n, d)) : s = fracT n d ∧ 0 < n ∧ 1 ≤ d := by
  unfold fracP at h
  split at h
  · rename_i e
    obtain ⟨k, h1, h2⟩ := Option.map_eq_some_iff.1 h
    obtain ⟨rfl, rfl⟩ := Prod.mk.inj h2
    obtain ⟨e1, hk⟩ := posP_some h1
    have := cutP_none s (cutP s).1 (Prod.ext rfl e)
    rw [← e1] at this
    exact ⟨by rw [this]; simp [fracT], hk, by omega⟩
  · rename_i b e
    obtain ⟨k, h1, h2⟩ := Option.bind_eq_some_iff.1 h
    obtain ⟨j, h3, h4⟩ := Option.bind_eq_some_iff.1 h2
    split at h4
    · rename_i hj
      injection h4 with h4
      obtain ⟨rfl, rfl⟩ := Prod.mk.inj h4
      obtain ⟨e1, hk⟩ := posP_some h1
      obtain ⟨e2, _⟩ := numP_some h3
      have := cutP_some s (cutP s).1 b (Prod.ext rfl e)
      rw [← e1, ← e2] at this
      exact ⟨by rw [this]; simp [fracT, hj], hk, by omega⟩
    · cases h4
theorem beat_says {ws : List Bs} {n d : Int} {r : List Bs} (h : beatP ws = some ((n, d), r)) : ws = beatsW n d ++ r := by
  unfold beatP at h
  split at h
  · rename_i x y q
    split at h
    · rename_i hxy
      obtain ⟨rfl, rfl⟩ := hxy
      split at h
      · cases h
      · rename_i z r'
        obtain ⟨k, h1, h2⟩ := Option.map_eq_some_iff.1 h
        obtain ⟨rfl, rfl⟩ := Prod.mk.inj h2
        obtain ⟨e, hk, _⟩ := frac_says h1
        subst e
        simp [beatsW, hk]
    · injection h with h
      obtain ⟨h5, rfl⟩ := Prod.mk.inj h
      obtain ⟨rfl, rfl⟩ := Prod.mk.inj h5
      simp [beatsW]
  · injection h with h
    obtain ⟨h5, rfl⟩ := Prod.mk.inj h
    obtain ⟨rfl, rfl⟩ := Prod.mk.inj h5
    simp [beatsW]
theorem place_says {ws : List Bs} {l : Bs} {k : Int} {r : List Bs} (h : placeP ws = some ((l, k), r)) : ws = (if l = [] then itoa k else l) :: r := by
  unfold placeP at h
  split at h
  · cases h
  · rename_i p q
    split at h
    · rename_i hn
      injection h with h
      obtain ⟨h5, rfl⟩ := Prod.mk.inj h
      obtain ⟨rfl, rfl⟩ := Prod.mk.inj h5
      rw [if_neg (name_plain hn).1]
    · obtain ⟨j, h1, h2⟩ := Option.map_eq_some_iff.1 h
      obtain ⟨h3, rfl⟩ := Prod.mk.inj h2
      obtain ⟨rfl, rfl⟩ := Prod.mk.inj h3
      simp [(numP_some h1).1]
theorem bars_says {ws : List Bs} {b : Int} {r : List Bs} (h : barsP ws = some (b, r)) : ws = barsW b ++ r := by
  unfold barsP at h
  split at h
  · rename_i x y q
    split at h
    · rename_i e
      subst e
      obtain ⟨k, h1, h2⟩ := Option.map_eq_some_iff.1 h
      obtain ⟨rfl, rfl⟩ := Prod.mk.inj h2
      obtain ⟨e, hk⟩ := posP_some h1
      subst e
      simp [barsW, hk]
    · split at h
      · rename_i e
        subst e
        obtain ⟨k, h1, h2⟩ := Option.map_eq_some_iff.1 h
        obtain ⟨rfl, rfl⟩ := Prod.mk.inj h2
        obtain ⟨e, hk⟩ := posP_some h1
        subst e
        simp [barsW, hk, show ¬ k < 0 by omega]
      · injection h with h
        obtain ⟨rfl, rfl⟩ := Prod.mk.inj h
        simp [barsW]
  · injection h with h
    obtain ⟨rfl, rfl⟩ := Prod.mk.inj h
    simp [barsW]
theorem read_says {ws : List Bs} {c : Cl} (h : readC ws = some c) : VC c ∧ wordsC c = ws := by
  unfold readC at h
  obtain ⟨⟨b, w1⟩, h1, h⟩ := Option.bind_eq_some_iff.1 h
  obtain ⟨⟨⟨l, k⟩, w2⟩, h2, h⟩ := Option.bind_eq_some_iff.1 h
  obtain ⟨⟨⟨n, d⟩, w3⟩, h3, h⟩ := Option.bind_eq_some_iff.1 h
  obtain ⟨⟨p, w4⟩, h4, h⟩ := Option.bind_eq_some_iff.1 h
  split at h
  · rename_i hv
    injection h with h
    subst h
    obtain ⟨rfl, hv⟩ := hv
    have e1 := bars_says h1
    have e2 := place_says h2
    have e3 := beat_says h3
    have e4 := (pass_says h4).1
    simp only at e1 e2 e3 e4
    refine ⟨(validC_iff _).1 hv, ?_⟩
    rw [e1, e2, e3, e4, List.append_nil]
    rfl
  · cases h

/-- The words of a valid call's text are read as this call. -/
theorem pass_back {p : Int} (h0 : 0 ≤ p) (h1 : p ≤ 20000) : passP (passW p) = some (p, []) := by
  unfold passW
  split
  · rename_i h
    simp [passP, posP_itoa h (by omega)]
  · have : p = 0 := by omega
    subst this
    rfl
theorem frac_back {n d : Int} (hn : 0 < n) (hn1 : n ≤ 100000) (hd : 1 ≤ d) (hd1 : d ≤ 100000) : fracP (fracT n d) = some (n, d) := by
  have hs := fun c hc => dig_slash ((itoa_dig (Int.le_of_lt hn)).2 c hc)
  unfold fracT
  split
  · rename_i h
    unfold fracP
    rw [cutP_hit _ _ hs]
    simp [posP_itoa hn (by omega), numP_itoa (show 0 ≤ d by omega) (by omega), h]
  · unfold fracP
    rw [cutP_miss _ hs]
    simp [posP_itoa hn (by omega)]
    omega
theorem beat_back {c : Cl} (h : VC c) : beatP (beatsW c.n c.d ++ passW c.pass) = some ((c.n, c.d), passW c.pass) := by
  have hd := div_le h.d1 h.div
  have h0 := h.n0; have h1 := h.n1; have h2 := h.d1
  unfold beatsW
  split
  · rename_i hn
    simp [beatP, frac_back hn (by omega) h2 (by omega)]
  · have hn : c.n = 0 := by omega
    have hg := h.gcd
    rw [hn] at hg
    have hd1 : c.d = 1 := by simp at hg; omega
    rw [hn, hd1, List.nil_append]
    unfold passW
    split
    · simp [beatP]; decide
    · rfl
theorem place_back {c : Cl} (h : VC c) (r : List Bs) : placeP (placeT c :: r) = some ((c.letter, c.number), r) := by
  unfold placeT
  rcases h.place with ⟨h1, h2, h3⟩ | ⟨h1, h2⟩
  · rw [if_pos h1]
    simp [placeP, itoa_noname h2, numP_itoa h2 (by omega), h1]
  · rw [if_neg (name_plain h1).1]
    simp [placeP, h1, h2]
theorem bars_back {c : Cl} (h : VC c) : barsP (wordsC c) = some (c.bars, placeT c :: (beatsW c.n c.d ++ passW c.pass)) := by
  have h0 := h.b0; have h1 := h.b1
  unfold wordsC barsW
  split
  · rename_i hb
    simp [barsP, posP_itoa hb (by omega)]
  · split
    · rename_i hb
      have : befW ≠ aftW := by decide
      simp [barsP, posP_itoa (show 0 < -c.bars by omega) (by omega), this]
    · have hb : c.bars = 0 := by omega
      rw [hb, List.nil_append]
      unfold beatsW passW
      have e1 : ([44] : Bs) ≠ aftW := by decide
      have e2 : ([44] : Bs) ≠ befW := by decide
      split
      · simp [barsP, e1, e2]
      · split
        · simp [barsP, e1, e2]
        · rfl
theorem read_back {c : Cl} (h : VC c) : readC (wordsC c) = some c := by
  unfold readC
  rw [bars_back h]
  simp only [Option.bind_some, place_back h, beat_back h, pass_back h.p0 h.p1]
  have := (validC_iff c).2 h
  simp [this]
end Go.Proofs.YtfppijjjaleiaaaDoor
