/- Texts of this seat, laid together: ScLay, ScMapP, ScAreP, ScFind, ScAreP2, ScWro. -/
import Derived.Shelf.SlSortCmp.WholeK
import Derived.Test.YtcelciomhngajaaGreatDoorSB
import Derived.Test.YtcelciomhngajaaGreatDoorSC
/- Library contracts laid at this program (written by the shelf's plain mode). -/
namespace Go.Proofs.YtcelciomhngajaaGreatDoor
set_option linter.unusedSimpArgs false
set_option linter.unusedVariables false
open Go.Shelf
def Lay.sortN_ren : Go.Shelf.Ren := ⟨fun | 6 => 147 | 15 => 172 | 14 => 171 | 28 => 195 | 29 => 196 | 20 => 187 | 21 => 188 | 22 => 189 | 23 => 190 | 24 => 191 | 25 => 192 | 26 => 193 | 27 => 194 | 46 => 208 | 47 => 209 | 48 => 210 | 49 => 211 | 50 => 212 | 57 => 219 | n => n, fun | 22 => 24 | 24 => 128 | 25 => 193 | 3 => 3 | 39 => 203 | 0 => 0 | 53 => 222 | 55 => 224 | 4 => 4 | 46 => 216 | 45 => 215 | 50 => 148 | 5 => 5 | 9 => 9 | 66 => 231 | 70 => 235 | 76 => 239 | 77 => 229 | n => n, fun | n => n⟩
theorem Lay.sortN : Go.Proofs.SlLaysF0.n6 Tryz.prog Lay.sortN_ren := {
  mixed := by kernel_rfl
  f6 := ⟨Tryz.f147.name, by decide, Tryz.func147.trans (congrArg some (by kernel_rfl))⟩
  f14 := ⟨Tryz.f171.name, by decide, Tryz.func171.trans (congrArg some (by kernel_rfl))⟩
  f15 := Tryz.func172.trans (congrArg some (by kernel_rfl))
  f20 := ⟨Tryz.f187.name, by decide, Tryz.func187.trans (congrArg some (by kernel_rfl))⟩
  f21 := ⟨Tryz.f188.name, by decide, Tryz.func188.trans (congrArg some (by kernel_rfl))⟩
  f22 := ⟨Tryz.f189.name, by decide, Tryz.func189.trans (congrArg some (by kernel_rfl))⟩
  f23 := ⟨Tryz.f190.name, by decide, Tryz.func190.trans (congrArg some (by kernel_rfl))⟩
  f24 := ⟨Tryz.f191.name, by decide, Tryz.func191.trans (congrArg some (by kernel_rfl))⟩
  f25 := ⟨Tryz.f192.name, by decide, Tryz.func192.trans (congrArg some (by kernel_rfl))⟩
  f26 := ⟨Tryz.f193.name, by decide, Tryz.func193.trans (congrArg some (by kernel_rfl))⟩
  f27 := ⟨Tryz.f194.name, by decide, Tryz.func194.trans (congrArg some (by kernel_rfl))⟩
  f28 := Tryz.func195.trans (congrArg some (by kernel_rfl))
  f29 := Tryz.func196.trans (congrArg some (by kernel_rfl))
  f46 := ⟨Tryz.f208.name, by decide, Tryz.func208.trans (congrArg some (by kernel_rfl))⟩
  f47 := Tryz.func209.trans (congrArg some (by kernel_rfl))
  f48 := Tryz.func210.trans (congrArg some (by kernel_rfl))
  f49 := ⟨Tryz.f211.name, by decide, Tryz.func211.trans (congrArg some (by kernel_rfl))⟩
  f50 := ⟨Tryz.f212.name, by decide, Tryz.func212.trans (congrArg some (by kernel_rfl))⟩
  f57 := ⟨Tryz.f219.name, by decide, Tryz.func219.trans (congrArg some (by kernel_rfl))⟩
  t0 := Tryz.underlying0
  a0 := Tryz.isAgg0
  z0 := Tryz.sizeOf0
  v0 := Tryz.zeroValue0
  t3 := Tryz.underlying3
  a3 := Tryz.isAgg3
  z3 := Tryz.sizeOf3
  v3 := Tryz.zeroValue3
  t4 := Tryz.underlying4
  a4 := Tryz.isAgg4
  z4 := Tryz.sizeOf4
  v4 := Tryz.zeroValue4
  t5 := Tryz.underlying5
  a5 := Tryz.isAgg5
  z5 := Tryz.sizeOf5
  v5 := Tryz.zeroValue5
  t9 := Tryz.underlying9
  a9 := Tryz.isAgg9
  z9 := Tryz.sizeOf9
  v9 := Tryz.zeroValue9
  t22 := Tryz.underlying24
  a22 := Tryz.isAgg24
  z22 := Tryz.sizeOf24
  v22 := Tryz.zeroValue24
  t25 := Tryz.underlying193
  a25 := Tryz.isAgg193
  z25 := Tryz.sizeOf193
  v25 := Tryz.zeroValue193
  t39 := Tryz.underlying203
  a39 := Tryz.isAgg203
  z39 := Tryz.sizeOf203
  v39 := Tryz.zeroValue203
  t45 := Tryz.underlying215
  a45 := Tryz.isAgg215
  z45 := Tryz.sizeOf215
  v45 := Tryz.zeroValue215
  t46 := Tryz.underlying216
  a46 := Tryz.isAgg216
  z46 := Tryz.sizeOf216
  v46 := Tryz.zeroValue216
  t50 := Tryz.underlying148
  a50 := Tryz.isAgg148
  z50 := Tryz.sizeOf148
  v50 := Tryz.zeroValue148
  t53 := Tryz.underlying222
  a53 := Tryz.isAgg222
  z53 := Tryz.sizeOf222
  v53 := Tryz.zeroValue222
  t55 := Tryz.underlying224
  a55 := Tryz.isAgg224
  z55 := Tryz.sizeOf224
  v55 := Tryz.zeroValue224
  t66 := Tryz.underlying231
  a66 := Tryz.isAgg231
  z66 := Tryz.sizeOf231
  v66 := Tryz.zeroValue231
  t70 := Tryz.underlying235
  a70 := Tryz.isAgg235
  z70 := Tryz.sizeOf235
  v70 := Tryz.zeroValue235
  t76 := Tryz.underlying239
  a76 := Tryz.isAgg239
  z76 := Tryz.sizeOf239
  v76 := Tryz.zeroValue239
  t77 := Tryz.underlying229
  a77 := Tryz.isAgg229
  z77 := Tryz.sizeOf229
  v77 := Tryz.zeroValue229 }
open Go.RowKit Go.Sort Go.Shelf

def PaV (p : Pa) : Value := .agg #[.int .i64 p.id, .int .i64 p.section_, .int .i64 p.of, .int .i64 p.octave, .int .i64 p.desks, .int .i64 p.shift.x, .int .i64 p.shift.y, .int .i64 p.low.s, .int .i64 p.low.a, .int .i64 p.low.o, .int .i64 p.high.s, .int .i64 p.high.a, .int .i64 p.high.o]
/-- The last part of an ID. -/
def lastP (l : List Pa) (x : Int) : Option Value := (l.reverse.find? fun p => p.id == x).map PaV
theorem lastP_nil (x : Int) : lastP [] x = none := rfl
theorem lastP_snoc (l : List Pa) (p : Pa) (x : Int) : lastP (l ++ [p]) x = if x = p.id then some (PaV p) else lastP l x := by
  unfold lastP
  rw [List.reverse_append, List.reverse_singleton, List.singleton_append, List.find?_cons]
  by_cases e : p.id = x
  · rw [if_pos e.symm]; simp [e]
  · rw [if_neg (fun h => e h.symm)]
    have : (p.id == x) = false := by simpa using e
    rw [this]
/-- Block r is a map of these parts by their IDs: n IDs. -/
def PmAt (W : World) (r : Nat) (l : List Pa) (n : Nat) : Prop := ∃ m, MapAt W encJ r m ∧ (∀ x, mget m x = lastP l x) ∧ m.length = n
theorem PmAt.below {W W' : World} {r n : Nat} {l : List Pa} (h : PmAt W r l n) (hb : Below W.heap.size W W') : PmAt W' r l n := by
  obtain ⟨m, h1, h2, h3⟩ := h
  exact ⟨m, h1.below hb, h2, h3⟩
theorem PmAt.lt {W : World} {r n : Nat} {l : List Pa} (h : PmAt W r l n) : r < W.heap.size := by obtain ⟨m, h1, _⟩ := h; exact h1.lt
theorem mput_len_eq (m : List (Int × Value)) (k : Int) (v : Value) : (mput m k v).length = if (mget m k).isSome then m.length else m.length + 1 := by
  unfold mput; split <;> simp
/-- How many IDs parts have. -/
def idsN : List Pa → Nat
  | [] => 0
  | p :: l => if l.any (fun q => q.id == p.id) then idsN l else idsN l + 1
theorem idsN_le (l : List Pa) : idsN l ≤ l.length := by
  induction l with
  | nil => exact Nat.le_refl _
  | cons p l ih => unfold idsN; split <;> simp <;> omega
theorem idsN_nodup (l : List Pa) : idsN l = l.length ↔ (l.map Pa.id).Nodup := by
  induction l with
  | nil => simp [idsN]
  | cons p l ih =>
    unfold idsN
    have := idsN_le l
    by_cases h : l.any (fun q => q.id == p.id) = true
    · rw [if_pos h]
      constructor
      · intro e; simp at e; omega
      · intro hn
        rw [List.map_cons, List.nodup_cons] at hn
        rw [List.any_eq_true] at h
        obtain ⟨q, hq, e⟩ := h
        exact absurd (by rw [← (by simpa using e : q.id = p.id)]; exact List.mem_map_of_mem hq) hn.1
    · rw [if_neg h, List.map_cons, List.nodup_cons, ← ih]
      constructor
      · intro e
        refine ⟨fun hm => h ?_, by simpa using e⟩
        obtain ⟨q, hq, e⟩ := List.mem_map.1 hm
        rw [List.any_eq_true]; exact ⟨q, hq, by simp [e]⟩
      · intro e; simp [e.2]
theorem lastP_some (l : List Pa) (x : Int) : (lastP l x).isSome = l.any fun q => q.id == x := by
  unfold lastP
  rw [Option.isSome_map, Bool.eq_iff_iff, List.find?_isSome, List.any_eq_true]
  simp
theorem idsN_snoc (l : List Pa) (p : Pa) : idsN (l ++ [p]) = if (lastP l p.id).isSome then idsN l else idsN l + 1 := by
  rw [lastP_some]
  induction l with
  | nil => simp [idsN]
  | cons q l ih =>
    rw [List.cons_append, idsN, idsN, ih]
    simp only [List.any_append, List.any_cons, List.any_nil, Bool.or_false]
    by_cases e : q.id = p.id
    · have e1 : (p.id == q.id) = true := by simp [e]
      have e2 : (q.id == p.id) = true := by simp [e]
      simp only [e, beq_self_eq_true, Bool.or_true, Bool.true_or, if_true]
    · have e1 : (p.id == q.id) = false := by simp; exact fun h => e h.symm
      have e2 : (q.id == p.id) = false := by simp [e]
      simp only [e1, e2, Bool.or_false, Bool.false_or]
      split <;> split <;> rfl
theorem pm_put {m : List (Int × Value)} {l : List Pa} {p : Pa} (h : ∀ x, mget m x = lastP l x) (hn : m.length = idsN l) : (∀ x, mget (mput m p.id (PaV p)) x = lastP (l ++ [p]) x) ∧ (mput m p.id (PaV p)).length = idsN (l ++ [p]) := by
  refine ⟨fun x => by rw [mget_mput, lastP_snoc, h], ?_⟩
  rw [mput_len_eq, idsN_snoc, h, hn]
theorem zeroPaJ (w : World) : (zeroValue 93).run Tryz.prog w = .ok (PaV default) w := by kernel_rfl
theorem PmAt.look {W : World} {r n : Nat} {l : List Pa} (h : PmAt W r l n) (x : Int) (ok : Bool) : (Instr.lookup 150 (.map (some r)) (.int .i64 x) ok).run Tryz.prog W = .ok (if ok then .tuple #[(lastP l x).getD (PaV default), .bool (lastP l x).isSome] else (lastP l x).getD (PaV default)) W := by
  obtain ⟨m, h1, h2, _⟩ := h
  rw [← h2 x]
  exact run_lookup_at Tryz.underlying150 keyJ zeroPaJ h1 x ok
open Go.RowKit Go.Sort Go.Shelf

theorem PmAt.len {W : World} {r n : Nat} {l : List Pa} (h : PmAt W r l n) (ty : TypeId) : (Builtin.len_ #[150] ty #[.map (some r)]).run Tryz.prog W = .ok (.int .i64 n) W := by
  obtain ⟨m, ⟨⟨es, c, hb, he, _⟩, _⟩, _, h3⟩ := h
  have hl : es.size = n := by
    rw [← h3]
    have := congrArg List.length he
    simpa using this
  rw [run_len_map W 150 ty r es c (by kernel_rfl) hb, hl]; rfl
/-- The part that lies in a map for an ID. -/
def lastQ (l : List Pa) (x : Int) : Option Pa := l.reverse.find? fun p => p.id == x
theorem lastP_eq (l : List Pa) (x : Int) : lastP l x = (lastQ l x).map PaV := rfl
/-- Does a part lack the part whose notes it plays? -/
def lostB (l : List Pa) (p : Pa) : Bool := decide (p.of ≠ 0) && (match lastQ l p.of with | none => true | some q => decide (q.of ≠ 0))
theorem lastQ_nodup {l : List Pa} (hn : (l.map Pa.id).Nodup) {x : Int} {q : Pa} : lastQ l x = some q ↔ q ∈ l ∧ q.id = x := by
  unfold lastQ
  constructor
  · intro h
    exact ⟨List.mem_reverse.1 (List.mem_of_find?_eq_some h), by simpa using List.find?_some h⟩
  · rintro ⟨hm, rfl⟩
    cases h : l.reverse.find? fun p => p.id == q.id with
    | none => exact absurd (by simp) (List.find?_eq_none.1 h q (List.mem_reverse.2 hm))
    | some q' =>
      have h1 := List.mem_reverse.1 (List.mem_of_find?_eq_some h)
      have h2 : q'.id = q.id := by simpa using List.find?_some h
      obtain ⟨i, hi, rfl⟩ := List.getElem_of_mem hm
      obtain ⟨j, hj, rfl⟩ := List.getElem_of_mem h1
      have h3 : (l.map Pa.id)[j]'(by simpa using hj) = (l.map Pa.id)[i]'(by simpa using hi) := by simp [h2]
      have := (List.getElem_inj hn).1 h3
      subst this; rfl
theorem lost_ok {l : List Pa} (hn : (l.map Pa.id).Nodup) (p : Pa) : (decide (p.of = 0) || l.any fun q => decide (q.id = p.of) && decide (q.of = 0)) = !lostB l p := by
  unfold lostB
  by_cases h0 : p.of = 0
  · simp [h0]
  · simp only [h0, decide_false, Bool.false_or, ne_eq, not_false_eq_true, decide_true, Bool.true_and]
    cases hq : lastQ l p.of with
    | none =>
      simp only [Bool.not_true]
      rw [List.any_eq_false]
      intro q hm
      have : ¬ q.id = p.of := fun e => by rw [(lastQ_nodup hn).2 ⟨hm, e⟩] at hq; cases hq
      simp [this]
    | some q =>
      obtain ⟨hm, he⟩ := (lastQ_nodup hn).1 hq
      rw [Bool.eq_iff_iff, List.any_eq_true]
      simp only [Bool.and_eq_true, decide_eq_true_eq, Bool.not_eq_true', decide_eq_false_iff_not, Decidable.not_not]
      constructor
      · rintro ⟨q', hm', e1, e2⟩
        have := (lastQ_nodup hn).2 ⟨hm', e1⟩
        rw [hq] at this; cases this; exact e2
      · intro e; exact ⟨q, hm, he, e⟩
theorem all_not {α : Type} (l : List α) (p : α → Bool) : (l.all fun x => !p x) = !l.any p := by
  induction l with
  | nil => rfl
  | cons x l ih => rw [List.all_cons, List.any_cons, ih, Bool.not_or]
theorem parts_done {l : List Pa} (h1 : 1 ≤ l.length) (h2 : l.length ≤ 60) (h : l.all partOk = true) : partsB l = (decide (idsN l = l.length) && !l.any (lostB l)) := by
  unfold partsB
  rw [h]
  by_cases hn : (l.map Pa.id).Nodup
  · have e : (l.all fun p => decide (p.of = 0) || l.any fun q => decide (q.id = p.of) && decide (q.of = 0)) = !l.any (lostB l) := by
      rw [← all_not]; congr 1; funext p; exact lost_ok hn p
    rw [e]
    simp [h1, h2, hn, (idsN_nodup l).2 hn]
  · have : ¬ idsN l = l.length := fun e => hn ((idsN_nodup l).1 e)
    simp [hn, this]
theorem parts_bad {l : List Pa} {k : Nat} (hk : k < l.length) (h : partOk l[k] = false) : partsB l = false := by
  have : l.all partOk = false := by
    rw [← Bool.not_eq_true]
    intro hh
    have := List.all_eq_true.1 hh l[k] (by simp)
    rw [h] at this; cases this
  simp [partsB, this]
set_option maxRecDepth 100000 in
set_option maxHeartbeats 4000000 in
theorem lost_any (l : List Pa) (p : Pa) (bt r n : Nat) (w : World) (h3 : w.heap[bt]? = some (.cells #[.map (some r)] 150 (0, 0))) (hI : PmAt w r l n) :
    Calls Tryz.prog 138 #[.agg #[.int .i64 p.id, .int .i64 p.section_, .int .i64 p.of, .int .i64 p.octave, .int .i64 p.desks, .int .i64 p.shift.x, .int .i64 p.shift.y, .int .i64 p.low.s, .int .i64 p.low.a, .int .i64 p.low.o, .int .i64 p.high.s, .int .i64 p.high.a, .int .i64 p.high.o], .pointer (some ⟨bt, 0, none⟩)] w fun e w' => e = .returned (.bool (lostB l p)) ∧ Below w.heap.size w w' := by
  have HL := Lib.hid (fun w' hb => by have := (hI.below (W' := w') hb).look p.of true; rwa [if_pos rfl] at this : ∀ w', Below w.heap.size w w' → (Instr.lookup 150 (.map (some r)) (.int .i64 p.of) true).run Tryz.prog w' = .ok (.tuple #[(lastP l p.of).getD (PaV default), .bool (lastP l p.of).isSome]) w')
  have HB := Lib.hid ((Below.refl w.heap.size w).alloc (Nat.le_refl _) (.cells #[.int .i64 p.id, .int .i64 p.section_, .int .i64 p.of, .int .i64 p.octave, .int .i64 p.desks, .int .i64 p.shift.x, .int .i64 p.shift.y, .int .i64 p.low.s, .int .i64 p.low.a, .int .i64 p.low.o, .int .i64 p.high.s, .int .i64 p.high.a, .int .i64 p.high.o] 93))
  have HX := Lib.hid (heap_alloc_new w (.cells #[.int .i64 p.id, .int .i64 p.section_, .int .i64 p.of, .int .i64 p.octave, .int .i64 p.desks, .int .i64 p.shift.x, .int .i64 p.shift.y, .int .i64 p.low.s, .int .i64 p.low.a, .int .i64 p.low.o, .int .i64 p.high.s, .int .i64 p.high.a, .int .i64 p.high.o] 93))
  have H3 := Lib.hid (up_alloc h3 (.cells #[.int .i64 p.id, .int .i64 p.section_, .int .i64 p.of, .int .i64 p.octave, .int .i64 p.desks, .int .i64 p.shift.x, .int .i64 p.shift.y, .int .i64 p.low.s, .int .i64 p.low.a, .int .i64 p.low.o, .int .i64 p.high.s, .int .i64 p.high.a, .int .i64 p.high.o] 93))
  clear h3 hI
  go_enter Tryz.func138, Tryz.ntmps138
  go_upto_region 1 with (fail)
  generalize w.alloc (.cells #[.int .i64 p.id, .int .i64 p.section_, .int .i64 p.of, .int .i64 p.octave, .int .i64 p.desks, .int .i64 p.shift.x, .int .i64 p.shift.y, .int .i64 p.low.s, .int .i64 p.low.a, .int .i64 p.low.o, .int .i64 p.high.s, .int .i64 p.high.a, .int .i64 p.high.o] 93) = W at *
  have hc := box_cells HX.out; have hc3 := box_cells H3.out
  have hl := HL.out _ HB.out
  rw [lastP_eq] at hl
  cases hq : lastQ l p.of with
  | none =>
    have HLo := Lib.hid (show lostB l p = decide (p.of ≠ 0) by simp [lostB, hq])
    rw [hq] at hl
    simp only [Option.map_none, Option.getD_none, Option.isSome_none] at hl
    have HD : PaV default = .agg #[.int .i64 0, .int .i64 0, .int .i64 0, .int .i64 0, .int .i64 0, .int .i64 0, .int .i64 0, .int .i64 0, .int .i64 0, .int .i64 0, .int .i64 0, .int .i64 0, .int .i64 0] := rfl
    rw [HD] at hl
    go_upto_region 2 with (fail)
    have HX2 := Lib.hid (heap_alloc_new W (.cells #[.int .i64 0, .int .i64 0, .int .i64 0, .int .i64 0, .int .i64 0, .int .i64 0, .int .i64 0, .int .i64 0, .int .i64 0, .int .i64 0, .int .i64 0, .int .i64 0, .int .i64 0] 93)); have HX1 := Lib.hid (up_alloc HX.out (.cells #[.int .i64 0, .int .i64 0, .int .i64 0, .int .i64 0, .int .i64 0, .int .i64 0, .int .i64 0, .int .i64 0, .int .i64 0, .int .i64 0, .int .i64 0, .int .i64 0, .int .i64 0] 93)); have HB2 := Lib.hid (HB.out.alloc HB.out.size (.cells #[.int .i64 0, .int .i64 0, .int .i64 0, .int .i64 0, .int .i64 0, .int .i64 0, .int .i64 0, .int .i64 0, .int .i64 0, .int .i64 0, .int .i64 0, .int .i64 0, .int .i64 0] 93))
    generalize W.alloc (.cells #[.int .i64 0, .int .i64 0, .int .i64 0, .int .i64 0, .int .i64 0, .int .i64 0, .int .i64 0, .int .i64 0, .int .i64 0, .int .i64 0, .int .i64 0, .int .i64 0, .int .i64 0] 93) = W2 at *
    have c1 := box_cells HX1.out; have c2 := box_cells HX2.out
    clear hc hc3 hl
    go_wp2_with (fail)
    all_goals (go_ret; refine ⟨ret_bool ?_, HB2.out⟩; rw [HLo.out]; simp_all)
  | some q =>
    have HLo := Lib.hid (show lostB l p = (decide (p.of ≠ 0) && decide (q.of ≠ 0)) by simp [lostB, hq])
    rw [hq] at hl
    simp only [Option.map_some, Option.getD_some, Option.isSome_some] at hl
    have HD : PaV q = .agg #[.int .i64 q.id, .int .i64 q.section_, .int .i64 q.of, .int .i64 q.octave, .int .i64 q.desks, .int .i64 q.shift.x, .int .i64 q.shift.y, .int .i64 q.low.s, .int .i64 q.low.a, .int .i64 q.low.o, .int .i64 q.high.s, .int .i64 q.high.a, .int .i64 q.high.o] := rfl
    rw [HD] at hl
    go_upto_region 2 with (fail)
    have HX2 := Lib.hid (heap_alloc_new W (.cells #[.int .i64 q.id, .int .i64 q.section_, .int .i64 q.of, .int .i64 q.octave, .int .i64 q.desks, .int .i64 q.shift.x, .int .i64 q.shift.y, .int .i64 q.low.s, .int .i64 q.low.a, .int .i64 q.low.o, .int .i64 q.high.s, .int .i64 q.high.a, .int .i64 q.high.o] 93)); have HX1 := Lib.hid (up_alloc HX.out (.cells #[.int .i64 q.id, .int .i64 q.section_, .int .i64 q.of, .int .i64 q.octave, .int .i64 q.desks, .int .i64 q.shift.x, .int .i64 q.shift.y, .int .i64 q.low.s, .int .i64 q.low.a, .int .i64 q.low.o, .int .i64 q.high.s, .int .i64 q.high.a, .int .i64 q.high.o] 93)); have HB2 := Lib.hid (HB.out.alloc HB.out.size (.cells #[.int .i64 q.id, .int .i64 q.section_, .int .i64 q.of, .int .i64 q.octave, .int .i64 q.desks, .int .i64 q.shift.x, .int .i64 q.shift.y, .int .i64 q.low.s, .int .i64 q.low.a, .int .i64 q.low.o, .int .i64 q.high.s, .int .i64 q.high.a, .int .i64 q.high.o] 93))
    generalize W.alloc (.cells #[.int .i64 q.id, .int .i64 q.section_, .int .i64 q.of, .int .i64 q.octave, .int .i64 q.desks, .int .i64 q.shift.x, .int .i64 q.shift.y, .int .i64 q.low.s, .int .i64 q.low.a, .int .i64 q.low.o, .int .i64 q.high.s, .int .i64 q.high.a, .int .i64 q.high.o] 93) = W2 at *
    have c1 := box_cells HX1.out; have c2 := box_cells HX2.out
    clear hc hc3 hl
    go_wp2_with (fail)
    all_goals (go_ret; refine ⟨ret_bool ?_, HB2.out⟩; rw [HLo.out]; first | (simp_all; done) | (by_cases h1 : q.of = 0 <;> simp_all))
open Go.RowKit Go.Sort Go.Shelf

/-- A function value says of these values what p says, from world w0 on; it lays memory at most. -/
def PredO {α : Type} (enc : α → Value) (g : Nat) (caps : Array Value) (p : α → Bool) (ds : List α) (B : Nat) (w0 : World) : Prop :=
  ∀ d ∈ ds, ∀ W, RowKit.Below B w0 W → Calls Tryz.prog g (#[enc d] ++ caps) W fun e W' => e = .returned (.bool (p d)) ∧ RowKit.Below W.heap.size W W'
/-- The index of the first one, or -1. -/
def idxO {α : Type} (p : α → Bool) (l : List α) : Int := match l.findIdx? p with | some i => i | none => -1
theorem idxO_hit {α : Type} {p : α → Bool} {l : List α} {k : Nat} (hk : k < l.length) (h : p l[k] = true) (hn : ∀ j (hj : j < l.length), j < k → p l[j] = false) : idxO p l = k := by
  have : l.findIdx? p = some k := List.findIdx?_eq_some_iff_getElem.2 ⟨hk, h, fun j hj => by simp [hn j (by omega) hj]⟩
  simp [idxO, this]
theorem idxO_miss {α : Type} {p : α → Bool} {l : List α} (hn : ∀ j (hj : j < l.length), p l[j] = false) : idxO p l = -1 := by
  have : l.findIdx? p = none := by
    rw [List.findIdx?_eq_none_iff]
    intro x hx
    obtain ⟨j, hj, rfl⟩ := List.getElem_of_mem hx
    exact hn j hj
  simp [idxO, this]
theorem idxO_any {α : Type} (p : α → Bool) (l : List α) : decide (0 ≤ idxO p l) = l.any p := by
  cases h : l.findIdx? p with
  | none =>
    have h' := h
    rw [List.findIdx?_eq_none_iff] at h
    have : l.any p = false := by rw [List.any_eq_false]; exact fun x hx => by simp [h x hx]
    simp [idxO, h', this]
  | some i =>
    obtain ⟨hi, h1, _⟩ := List.findIdx?_eq_some_iff_getElem.1 h
    have : l.any p = true := by rw [List.any_eq_true]; exact ⟨_, List.getElem_mem hi, h1⟩
    rw [this]
    have e : idxO p l = (i : Int) := by simp [idxO, h]
    rw [e, decide_eq_true_eq]; omega
def NoV (n : No) : Value := .agg #[.int .i64 n.id, .int .i64 n.part, .int .i64 n.bar, .int .i64 n.voice, .int .i64 n.ossia, .int .i64 n.start.n, .int .i64 n.start.d, .int .i64 n.len.n, .int .i64 n.len.d, .int .i64 n.pitch.s, .int .i64 n.pitch.a, .int .i64 n.pitch.o]
set_option maxRecDepth 100000 in
set_option maxHeartbeats 4000000 in
theorem IndexP_any (g : Nat) (caps : Array Value) (eg : ∀ args w, (callFunc g args).run Tryz.prog w = .ok (.enter g args) w) (B : Nat) (p : Pa → Bool) (a : Option Addr) (cap : Nat) (ds : List Pa) (w : World) (hl : ds.length ≤ 100000) (hp : PredO PaV g caps p ds B w) (hB : B ≤ w.heap.size) (hm : PaAt w a ds) :
    Calls Tryz.prog 104 #[.slice a ds.length cap, .func (.func g) #[] caps] w fun e w' => e = .returned (.int .i64 (idxO p ds)) ∧ RowKit.Below w.heap.size w w' := by
  have HM := Lib.hid hm; have HP := Lib.hid hp
  clear hm hp
  go_enter Tryz.func104, Tryz.ntmps104
  go_wp2
  go_loopw [8] (fun i wr => ∃ k : Nat, k ≤ ds.length ∧ i = .int .i64 k ∧ (∀ j (hj : j < ds.length), j < k → p ds[j] = false) ∧ RowKit.Below w.heap.size w wr) (fun i _ => ds.length - (intOf i).toNat)
  case atStart => exact ⟨0, Nat.zero_le _, rfl, fun j hj h => by omega, RowKit.Below.refl _ _⟩
  case round =>
    obtain ⟨k, hk, rfl, hall, hb⟩ := hrel
    have HA := Lib.hid hall; have HB := Lib.hid hb
    clear hall hb
    by_cases hlt : k < ds.length
    · obtain ⟨b, off, rfl, _, e0, e1, e2, e3, e4, e5, e6, e7, e8, e9, e10, e11, e12⟩ := HM.out.get k hlt
      have g0 := keepE e0 HB.out; have g1 := keepE e1 HB.out; have g2 := keepE e2 HB.out; have g3 := keepE e3 HB.out; have g4 := keepE e4 HB.out; have g5 := keepE e5 HB.out; have g6 := keepE e6 HB.out; have g7 := keepE e7 HB.out; have g8 := keepE e8 HB.out; have g9 := keepE e9 HB.out; have g10 := keepE e10 HB.out; have g11 := keepE e11 HB.out; have g12 := keepE e12 HB.out
      clear e0 e1 e2 e3 e4 e5 e6 e7 e8 e9 e10 e11 e12
      have HPk := Lib.hid (HP.out ds[k] (List.getElem_mem _) wr (HB.out.mono hB))
      have HT := Lib.hid (fun h : p ds[k] = true => idxO_hit hlt h HA.out)
      have HF := Lib.hid (fun h : p ds[k] = false => (fun j (hj : j < ds.length) (hjk : j < k + 1) => if e : j = k then by subst e; exact h else HA.out j hj (by omega) : ∀ j (hj : j < ds.length), j < k + 1 → p ds[j] = false))
      generalize ds[k] = d at *
      have hcall := HPk.out
      unfold PaV at hcall
      cases hpd : p d
      · rw [hpd] at hcall
        go_wp2_with (go_at_fn g; refine hcall.mono ?_; rintro e w' ⟨rfl, hb'⟩; replace HB := Lib.hid (HB.out.trans (hb'.mono HB.out.size)))
        go_roundw
        case rel => exact ⟨k + 1, by omega, by go_num, HF.out hpd, HB.out⟩
        case measure => simp [intOf]; omega
      · rw [hpd] at hcall
        have HT2 := Lib.hid (HT.out hpd)
        go_wp2_with (go_at_fn g; refine hcall.mono ?_; rintro e w' ⟨rfl, hb'⟩; replace HB := Lib.hid (HB.out.trans (hb'.mono HB.out.size)))
        go_ret
        exact ⟨ret_int HT2.out.symm, HB.out⟩
    · have HT2 := Lib.hid (idxO_miss fun j hj => HA.out j hj (by omega))
      go_wp2
      go_ret
      exact ⟨ret_int HT2.out.symm, HB.out⟩
set_option maxHeartbeats 1000000 in
theorem ContainsP_any (g : Nat) (caps : Array Value) (eg : ∀ args w, (callFunc g args).run Tryz.prog w = .ok (.enter g args) w) (B : Nat) (p : Pa → Bool) (a : Option Addr) (cap : Nat) (ds : List Pa) (w : World) (hl : ds.length ≤ 100000) (hp : PredO PaV g caps p ds B w) (hB : B ≤ w.heap.size) (hm : PaAt w a ds) :
    Calls Tryz.prog 139 #[.slice a ds.length cap, .func (.func g) #[] caps] w fun e w' => e = .returned (.bool (ds.any p)) ∧ RowKit.Below w.heap.size w w' := by
  have HI := Lib.hid (IndexP_any g caps eg B p a cap ds w hl hp hB hm)
  have HD := Lib.hid (idxO_any p ds)
  clear hm hp
  generalize idxO p ds = I at *
  go_enter Tryz.func139, Tryz.ntmps139
  go_wp2_with (fail)
  refine HI.out.mono ?_
  rintro e w2 ⟨rfl, hb⟩
  have HB := Lib.hid hb
  go_wp2
  go_ret
  exact ⟨ret_bool HD.out, HB.out⟩
set_option maxRecDepth 100000 in
set_option maxHeartbeats 4000000 in
theorem IndexN_any (g : Nat) (caps : Array Value) (eg : ∀ args w, (callFunc g args).run Tryz.prog w = .ok (.enter g args) w) (B : Nat) (p : No → Bool) (a : Option Addr) (cap : Nat) (ds : List No) (w : World) (hl : ds.length ≤ 100000) (hp : PredO NoV g caps p ds B w) (hB : B ≤ w.heap.size) (hm : NoAt w a ds) :
    Calls Tryz.prog 145 #[.slice a ds.length cap, .func (.func g) #[] caps] w fun e w' => e = .returned (.int .i64 (idxO p ds)) ∧ RowKit.Below w.heap.size w w' := by
  have HM := Lib.hid hm; have HP := Lib.hid hp
  clear hm hp
  go_enter Tryz.func145, Tryz.ntmps145
  go_wp2
  go_loopw [8] (fun i wr => ∃ k : Nat, k ≤ ds.length ∧ i = .int .i64 k ∧ (∀ j (hj : j < ds.length), j < k → p ds[j] = false) ∧ RowKit.Below w.heap.size w wr) (fun i _ => ds.length - (intOf i).toNat)
  case atStart => exact ⟨0, Nat.zero_le _, rfl, fun j hj h => by omega, RowKit.Below.refl _ _⟩
  case round =>
    obtain ⟨k, hk, rfl, hall, hb⟩ := hrel
    have HA := Lib.hid hall; have HB := Lib.hid hb
    clear hall hb
    by_cases hlt : k < ds.length
    · obtain ⟨b, off, rfl, _, e0, e1, e2, e3, e4, e5, e6, e7, e8, e9, e10, e11⟩ := HM.out.get k hlt
      have g0 := keepE e0 HB.out; have g1 := keepE e1 HB.out; have g2 := keepE e2 HB.out; have g3 := keepE e3 HB.out; have g4 := keepE e4 HB.out; have g5 := keepE e5 HB.out; have g6 := keepE e6 HB.out; have g7 := keepE e7 HB.out; have g8 := keepE e8 HB.out; have g9 := keepE e9 HB.out; have g10 := keepE e10 HB.out; have g11 := keepE e11 HB.out
      clear e0 e1 e2 e3 e4 e5 e6 e7 e8 e9 e10 e11
      have HPk := Lib.hid (HP.out ds[k] (List.getElem_mem _) wr (HB.out.mono hB))
      have HT := Lib.hid (fun h : p ds[k] = true => idxO_hit hlt h HA.out)
      have HF := Lib.hid (fun h : p ds[k] = false => (fun j (hj : j < ds.length) (hjk : j < k + 1) => if e : j = k then by subst e; exact h else HA.out j hj (by omega) : ∀ j (hj : j < ds.length), j < k + 1 → p ds[j] = false))
      generalize ds[k] = d at *
      have hcall := HPk.out
      unfold NoV at hcall
      cases hpd : p d
      · rw [hpd] at hcall
        go_wp2_with (go_at_fn g; refine hcall.mono ?_; rintro e w' ⟨rfl, hb'⟩; replace HB := Lib.hid (HB.out.trans (hb'.mono HB.out.size)))
        go_roundw
        case rel => exact ⟨k + 1, by omega, by go_num, HF.out hpd, HB.out⟩
        case measure => simp [intOf]; omega
      · rw [hpd] at hcall
        have HT2 := Lib.hid (HT.out hpd)
        go_wp2_with (go_at_fn g; refine hcall.mono ?_; rintro e w' ⟨rfl, hb'⟩; replace HB := Lib.hid (HB.out.trans (hb'.mono HB.out.size)))
        go_ret
        exact ⟨ret_int HT2.out.symm, HB.out⟩
    · have HT2 := Lib.hid (idxO_miss fun j hj => HA.out j hj (by omega))
      go_wp2
      go_ret
      exact ⟨ret_int HT2.out.symm, HB.out⟩
set_option maxHeartbeats 1000000 in
theorem ContainsN_any (g : Nat) (caps : Array Value) (eg : ∀ args w, (callFunc g args).run Tryz.prog w = .ok (.enter g args) w) (B : Nat) (p : No → Bool) (a : Option Addr) (cap : Nat) (ds : List No) (w : World) (hl : ds.length ≤ 100000) (hp : PredO NoV g caps p ds B w) (hB : B ≤ w.heap.size) (hm : NoAt w a ds) :
    Calls Tryz.prog 99 #[.slice a ds.length cap, .func (.func g) #[] caps] w fun e w' => e = .returned (.bool (ds.any p)) ∧ RowKit.Below w.heap.size w w' := by
  have HI := Lib.hid (IndexN_any g caps eg B p a cap ds w hl hp hB hm)
  have HD := Lib.hid (idxO_any p ds)
  clear hm hp
  generalize idxO p ds = I at *
  go_enter Tryz.func99, Tryz.ntmps99
  go_wp2_with (fail)
  refine HI.out.mono ?_
  rintro e w2 ⟨rfl, hb⟩
  have HB := Lib.hid hb
  go_wp2
  go_ret
  exact ⟨ret_bool HD.out, HB.out⟩
open Go.RowKit Go.Sort Go.Shelf

theorem PmAt.new (w : World) : PmAt (w.alloc (.map #[] 0)) w.heap.size [] 0 := ⟨[], MapAt.new w encJ, fun x => by simp [mget_nil, lastP_nil], rfl⟩
theorem parts_len {l : List Pa} (h : ¬ (1 ≤ l.length ∧ l.length ≤ 60)) : partsB l = false := by
  unfold partsB
  by_cases h1 : 1 ≤ l.length
  · have : ¬ l.length ≤ 60 := fun x => h ⟨h1, x⟩
    simp [this]
  · simp [h1]
theorem enters_lost : ∀ args w, (callFunc 138 args).run Tryz.prog w = .ok (.enter 138 args) w := enters_of Tryz.func138 (by kernel_rfl) rfl
set_option maxRecDepth 100000 in
set_option maxHeartbeats 4000000 in
theorem areParts_any (a : Option Addr) (cap : Nat) (l : List Pa) (w : World) (hl : l.length ≤ 100000) (hm : PaAt w a l) (hE : Env w) :
    Calls Tryz.prog 91 #[.slice a l.length cap] w fun e w' => e = .returned (.bool (partsB l)) ∧ Below w.heap.size w w' := by
  have hmm := @run_makeMap Tryz.prog
  have HM := Lib.hid hm; have HE := Lib.hid hE; clear hm hE
  by_cases h60 : 1 ≤ l.length ∧ l.length ≤ 60
  case neg =>
    have HF := Lib.hid (parts_len h60)
    have HI := Lib.hid (show inB (l.length : Int) 1 60 = false by rw [inB_not]; omega)
    clear h60
    go_enter Tryz.func91, Tryz.ntmps91
    go_wp2_with (go_at_call 93; refine (swithin_any _ _ _ _).mono ?_; rw [HI.out]; rintro e w' ⟨rfl, rfl⟩)
    go_ret
    exact ⟨ret_bool HF.out.symm, Below.refl _ _⟩
  case pos =>
    have HI := Lib.hid (show inB (l.length : Int) 1 60 = true by rw [inB_iff]; omega)
    obtain ⟨h1, h2⟩ := h60
    go_enter Tryz.func91, Tryz.ntmps91
    go_upto_region 4 with (go_at_call 93; refine (swithin_any _ _ _ _).mono ?_; rw [HI.out]; rintro e w' ⟨rfl, rfl⟩)
    have hb0 : Below w.heap.size w ((w.alloc (.map #[] 0)).alloc (.cells #[.map (some w.heap.size)] 150)) := ((Below.refl w.heap.size w).alloc (Nat.le_refl _) (.map #[] 0)).alloc (by simp) _
    have hu0 : PmAt ((w.alloc (.map #[] 0)).alloc (.cells #[.map (some w.heap.size)] 150)) w.heap.size (l.take 0) (idsN (l.take 0)) := (PmAt.new w).below ((Below.refl _ _).alloc (Nat.le_refl _) _)
    have hx0 : ((w.alloc (.map #[] 0)).alloc (.cells #[.map (some w.heap.size)] 150)).heap[w.heap.size + 1]? = some (.cells #[.map (some w.heap.size)] 150) := at_alloc _ _ (by simp)
    have HB := Lib.hid hb0; have HU := Lib.hid hu0; have HX := Lib.hid hx0
    clear hb0 hu0 hx0
    generalize (w.alloc (.map #[] 0)).alloc (.cells #[.map (some w.heap.size)] 150) = w1 at *
    obtain ⟨r, hr⟩ : ∃ r, r = w.heap.size := ⟨_, rfl⟩
    rw [← hr] at HU HX ⊢
    have HR := Lib.hid (show w.heap.size ≤ r by omega)
    clear hr
    go_wp2
    go_loopw [14] (fun i wr => ∃ k : Nat, k ≤ l.length ∧ i = .int .i64 k ∧ PmAt wr r (l.take k) (idsN (l.take k)) ∧ wr.heap[r + 1]? = some (.cells #[.map (some r)] 150 (0, 0)) ∧ (l.take k).all partOk = true ∧ Below w.heap.size w wr) (fun i _ => l.length - (intOf i).toNat)
    case atStart => exact ⟨0, Nat.zero_le _, rfl, HU.out, HX.out, by simp, HB.out⟩
    case round =>
      clear HB HU HX
      obtain ⟨k, hk, rfl, hu, hx, hall, hb⟩ := hrel
      have HU := Lib.hid hu; have HX := Lib.hid hx; have HB := Lib.hid hb; have HAL := Lib.hid hall
      clear hu hx hb hall
      by_cases hlt : k < l.length
      · obtain ⟨b, off, rfl, _, e0, e1, e2, e3, e4, e5, e6, e7, e8, e9, e10, e11, e12⟩ := HM.out.get k hlt
        have g0 := keepE e0 HB.out; have g1 := keepE e1 HB.out; have g2 := keepE e2 HB.out; have g3 := keepE e3 HB.out; have g4 := keepE e4 HB.out; have g5 := keepE e5 HB.out; have g6 := keepE e6 HB.out; have g7 := keepE e7 HB.out; have g8 := keepE e8 HB.out; have g9 := keepE e9 HB.out; have g10 := keepE e10 HB.out; have g11 := keepE e11 HB.out; have g12 := keepE e12 HB.out
        clear e0 e1 e2 e3 e4 e5 e6 e7 e8 e9 e10 e11 e12
        have HBad := Lib.hid (parts_bad hlt); have HOk := Lib.hid (all_take (p := partOk) hlt HAL.out)
        have HT := Lib.hid (show l.take (k + 1) = l.take k ++ [l[k]] from List.take_succ_eq_append_getElem hlt)
        have HIP := Lib.hid (isPart_any l[k])
        generalize l[k] = p at *
        go_upto_region 7 with (fail)
        have HP := Lib.hid (heap_alloc_new wr (.cells #[.int .i64 p.id, .int .i64 p.section_, .int .i64 p.of, .int .i64 p.octave, .int .i64 p.desks, .int .i64 p.shift.x, .int .i64 p.shift.y, .int .i64 p.low.s, .int .i64 p.low.a, .int .i64 p.low.o, .int .i64 p.high.s, .int .i64 p.high.a, .int .i64 p.high.o] 93))
        have hb := (Below.refl wr.heap.size wr).alloc (Nat.le_refl _) (.cells #[.int .i64 p.id, .int .i64 p.section_, .int .i64 p.of, .int .i64 p.octave, .int .i64 p.desks, .int .i64 p.shift.x, .int .i64 p.shift.y, .int .i64 p.low.s, .int .i64 p.low.a, .int .i64 p.low.o, .int .i64 p.high.s, .int .i64 p.high.a, .int .i64 p.high.o] 93)
        replace HU := Lib.hid (HU.out.below hb); replace HX := Lib.hid (blk_keep HX.out hb); replace HB := Lib.hid (HB.out.trans (hb.mono HB.out.size))
        generalize wr.alloc (.cells #[.int .i64 p.id, .int .i64 p.section_, .int .i64 p.of, .int .i64 p.octave, .int .i64 p.desks, .int .i64 p.shift.x, .int .i64 p.shift.y, .int .i64 p.low.s, .int .i64 p.low.a, .int .i64 p.low.o, .int .i64 p.high.s, .int .i64 p.high.a, .int .i64 p.high.o] 93) = W at *
        have hc := box_cells HP.out
        clear hb g0 g1 g2 g3 g4 g5 g6 g7 g8 g9 g10 g11 g12
        have HCall := Lib.hid (HIP.out W (HE.out.below HB.out))
        cases hp : partOk p
        · rw [hp] at HCall
          have HF := Lib.hid (HBad.out hp)
          go_wp2_with (go_at_call 137; refine HCall.out.mono ?_; rintro e w2 ⟨rfl, hb⟩; replace HB := Lib.hid (HB.out.trans (hb.mono HB.out.size)); clear hb hc)
          go_ret
          exact ⟨ret_bool HF.out.symm, HB.out⟩
        · rw [hp] at HCall
          have HO := Lib.hid (HOk.out hp)
          go_upto_region 9 with (go_at_call 137; refine HCall.out.mono ?_; rintro e w2 ⟨rfl, hb⟩; replace HB := Lib.hid (HB.out.trans (hb.mono HB.out.size)); replace HU := Lib.hid (HU.out.below hb); replace HX := Lib.hid (blk_keep HX.out hb); replace HP := Lib.hid (blk_keep HP.out hb); clear hb hc)
          have hc := box_cells HP.out; have hcx := box_cells HX.out
          obtain ⟨m, hmap, hspec, hlen⟩ := HU.out
          have HMap := Lib.hid hmap; have HSpec := Lib.hid (pm_put (p := p) hspec hlen)
          clear hmap hspec hlen HU HCall
          go_wp2_with (refine wpList_mapUpdate_at rfl (.tmp 21) (.tmp 23) _ 150 (.inl rfl) Tryz.underlying150 keyJ r m rfl HMap.out p.id rfl (PaV p) rfl ?_; intro w6 hm6 hg6; have HM6 := Lib.hid hm6; have HX6 := Lib.hid ((hg6.block (r + 1) (lt_blk HX.out) (fun e => by cases e)).trans HX.out); have HB6 := Lib.hid (KeepB.below ((KeepB.of_below' (S := []) HB.out).grown hg6 HB.out.size (fun k e => by cases e; exact HR.out))); clear hm6 hg6)
          go_roundw
          case rel => exact ⟨k + 1, by omega, by go_num, by rw [HT.out]; exact ⟨_, HM6.out, HSpec.out.1, HSpec.out.2⟩, HX6.out, HO.out, HB6.out⟩
          case measure => simp [intOf]; omega
      · have hkl : l.take k = l := List.take_of_length_le (by omega)
        rw [hkl] at HU HAL
        clear hkl
        have HD := Lib.hid (parts_done h1 h2 HAL.out)
        have hlen := HU.out.len 3
        have hcx := box_cells HX.out
        by_cases hid : idsN l = l.length
        · have HAny := Lib.hid (ContainsP_any 138 #[.pointer (some ⟨r + 1, 0, none⟩)] enters_lost wr.heap.size (lostB l) a cap l wr hl (fun p _ W hW => lost_any l p (r + 1) r _ W (blk_keep HX.out hW) (HU.out.below hW)) (Nat.le_refl _) (HM.out.below HB.out))
          have HD2 := Lib.hid (show partsB l = !l.any (lostB l) by rw [HD.out, hid]; simp)
          rw [hid] at hlen
          clear HD hid
          generalize l.any (lostB l) = A at *
          cases A
          · go_wp2_with (go_at_call 139; refine HAny.out.mono ?_; rintro e w9 ⟨rfl, hb⟩; have HB9 := Lib.hid (HB.out.trans (hb.mono HB.out.size)))
            go_ret
            exact ⟨ret_bool HD2.out.symm, HB9.out⟩
          · go_wp2_with (go_at_call 139; refine HAny.out.mono ?_; rintro e w9 ⟨rfl, hb⟩; have HB9 := Lib.hid (HB.out.trans (hb.mono HB.out.size)))
            go_ret
            exact ⟨ret_bool HD2.out.symm, HB9.out⟩
        · have HD2 := Lib.hid (show partsB l = false by rw [HD.out]; simp [hid])
          have hid2 : ¬ ((idsN l : Int) = (l.length : Int)) := by omega
          clear HD hid
          go_wp2_with (fail)
          go_ret
          exact ⟨ret_bool HD2.out.symm, HB.out⟩
open Go.RowKit Go.Sort Go.Shelf

/-- The parts that have notes of their own. -/
def ownL (l : List Pa) : List Pa := l.filter fun p => decide (p.of = 0)
/-- The part of a note, in a map of parts. -/
def partQ (l : List Pa) (x : Int) : Pa := (lastQ l x).getD default
def farB (l : List Pa) (n : No) : Bool := !inB (numI n.pitch) (numI (partQ l n.part).low) (numI (partQ l n.part).high)
def strangeB (l : List Pa) (n : No) : Bool := !(lastQ l n.part).isSome
theorem lastP_getD (l : List Pa) (x : Int) : (lastP l x).getD (PaV default) = PaV (partQ l x) := by rw [lastP_eq, partQ]; cases lastQ l x <;> rfl
theorem lastP_is (l : List Pa) (x : Int) : (lastP l x).isSome = (lastQ l x).isSome := by rw [lastP_eq]; cases lastQ l x <;> rfl
theorem ownL_nodup {l : List Pa} (hn : (l.map Pa.id).Nodup) : ((ownL l).map Pa.id).Nodup := List.Nodup.sublist (List.filter_sublist.map Pa.id) hn
theorem own_last {l : List Pa} (hn : (l.map Pa.id).Nodup) (n : No) : ownP l n = lastQ (ownL l) n.part := by
  have key : ∀ q, lastQ (ownL l) n.part = some q ↔ q ∈ l ∧ q.of = 0 ∧ q.id = n.part := fun q => by
    rw [lastQ_nodup (ownL_nodup hn)]; simp [ownL, and_assoc]
  cases h : ownP l n with
  | none =>
    cases h2 : lastQ (ownL l) n.part with
    | none => rfl
    | some q =>
      obtain ⟨a, b, c⟩ := (key q).1 h2
      have := List.find?_eq_none.1 h q a
      simp [b, c] at this
  | some q =>
    have h1 := List.mem_of_find?_eq_some h
    have h2 := List.find?_some h
    simp only [Bool.and_eq_true, decide_eq_true_eq, beq_iff_eq] at h2
    exact ((key q).2 ⟨h1, h2.1, h2.2⟩).symm
theorem wrong_eq {l : List Pa} (hn : (l.map Pa.id).Nodup) (ns : List No) : wrongI l ns = if ns.any (strangeB (ownL l)) = true then 22 else if ns.any (farB (ownL l)) = true then 20 else 0 := by
  unfold wrongI
  have e1 : (ns.all fun n => (ownP l n).isSome) = !ns.any (strangeB (ownL l)) := by
    rw [← all_not]; congr 1; funext n; rw [own_last hn, strangeB, Bool.not_not]
  rw [e1]
  cases h : ns.any (strangeB (ownL l))
  · simp only [Bool.not_false, if_true, Bool.false_eq_true, if_false]
    have e2 : ns.all (inRange l) = !ns.any (farB (ownL l)) := by
      rw [← all_not, Bool.eq_iff_iff, List.all_eq_true, List.all_eq_true]
      have h' := List.any_eq_false.1 h
      have : ∀ n ∈ ns, inRange l n = !farB (ownL l) n := fun n hm => by
        have h3 := h' n hm
        unfold strangeB at h3
        unfold inRange farB partQ
        rw [own_last hn]
        cases h4 : lastQ (ownL l) n.part with
        | none => rw [h4] at h3; simp at h3
        | some q => rw [Bool.not_not]; rfl
      constructor
      · intro hh n hm; rw [← this n hm]; exact hh n hm
      · intro hh n hm; rw [this n hm]; exact hh n hm
    rw [e2]
    cases ns.any (farB (ownL l)) <;> rfl
  · rfl
theorem enters_strange : ∀ args w, (callFunc 96 args).run Tryz.prog w = .ok (.enter 96 args) w := enters_of Tryz.func96 (by kernel_rfl) rfl
theorem enters_far : ∀ args w, (callFunc 97 args).run Tryz.prog w = .ok (.enter 97 args) w := enters_of Tryz.func97 (by kernel_rfl) rfl
set_option maxRecDepth 100000 in
set_option maxHeartbeats 4000000 in
theorem strange_any (l : List Pa) (p : No) (bt r n : Nat) (w : World) (h3 : w.heap[bt]? = some (.cells #[.map (some r)] 150 (0, 0))) (hI : PmAt w r l n) :
    Calls Tryz.prog 96 #[.agg #[.int .i64 p.id, .int .i64 p.part, .int .i64 p.bar, .int .i64 p.voice, .int .i64 p.ossia, .int .i64 p.start.n, .int .i64 p.start.d, .int .i64 p.len.n, .int .i64 p.len.d, .int .i64 p.pitch.s, .int .i64 p.pitch.a, .int .i64 p.pitch.o], .pointer (some ⟨bt, 0, none⟩)] w fun e w' => e = .returned (.bool (strangeB l p)) ∧ Below w.heap.size w w' := by
  have HL := Lib.hid (fun w' hb => by have := (hI.below (W' := w') hb).look p.part true; rwa [if_pos rfl, lastP_getD, lastP_is] at this : ∀ w', Below w.heap.size w w' → (Instr.lookup 150 (.map (some r)) (.int .i64 p.part) true).run Tryz.prog w' = .ok (.tuple #[PaV (partQ l p.part), .bool (lastQ l p.part).isSome]) w')
  have HB := Lib.hid ((Below.refl w.heap.size w).alloc (Nat.le_refl _) (.cells #[.int .i64 p.id, .int .i64 p.part, .int .i64 p.bar, .int .i64 p.voice, .int .i64 p.ossia, .int .i64 p.start.n, .int .i64 p.start.d, .int .i64 p.len.n, .int .i64 p.len.d, .int .i64 p.pitch.s, .int .i64 p.pitch.a, .int .i64 p.pitch.o] 128))
  have HX := Lib.hid (heap_alloc_new w (.cells #[.int .i64 p.id, .int .i64 p.part, .int .i64 p.bar, .int .i64 p.voice, .int .i64 p.ossia, .int .i64 p.start.n, .int .i64 p.start.d, .int .i64 p.len.n, .int .i64 p.len.d, .int .i64 p.pitch.s, .int .i64 p.pitch.a, .int .i64 p.pitch.o] 128))
  have H3 := Lib.hid (up_alloc h3 (.cells #[.int .i64 p.id, .int .i64 p.part, .int .i64 p.bar, .int .i64 p.voice, .int .i64 p.ossia, .int .i64 p.start.n, .int .i64 p.start.d, .int .i64 p.len.n, .int .i64 p.len.d, .int .i64 p.pitch.s, .int .i64 p.pitch.a, .int .i64 p.pitch.o] 128))
  clear h3 hI
  have HR := Lib.hid (show strangeB l p = !(lastQ l p.part).isSome from rfl)
  generalize (lastQ l p.part).isSome = S at *; generalize partQ l p.part = q at *
  generalize strangeB l p = R at *
  go_enter Tryz.func96, Tryz.ntmps96
  go_upto_region 1 with (fail)
  generalize w.alloc (.cells #[.int .i64 p.id, .int .i64 p.part, .int .i64 p.bar, .int .i64 p.voice, .int .i64 p.ossia, .int .i64 p.start.n, .int .i64 p.start.d, .int .i64 p.len.n, .int .i64 p.len.d, .int .i64 p.pitch.s, .int .i64 p.pitch.a, .int .i64 p.pitch.o] 128) = W at *
  have hc := box_cells HX.out; have hc3 := box_cells H3.out
  have hl := HL.out _ HB.out
  have HD : PaV q = .agg #[.int .i64 q.id, .int .i64 q.section_, .int .i64 q.of, .int .i64 q.octave, .int .i64 q.desks, .int .i64 q.shift.x, .int .i64 q.shift.y, .int .i64 q.low.s, .int .i64 q.low.a, .int .i64 q.low.o, .int .i64 q.high.s, .int .i64 q.high.a, .int .i64 q.high.o] := rfl
  rw [HD] at hl
  go_wp2_with (fail)
  go_ret
  refine ⟨ret_bool ?_, HB.out.alloc HB.out.size _⟩
  rw [HR.out]
set_option maxRecDepth 100000 in
set_option maxHeartbeats 4000000 in
theorem far_any (l : List Pa) (p : No) (bt r n : Nat) (w : World) (hE : Env w) (h3 : w.heap[bt]? = some (.cells #[.map (some r)] 150 (0, 0))) (hI : PmAt w r l n) :
    Calls Tryz.prog 97 #[.agg #[.int .i64 p.id, .int .i64 p.part, .int .i64 p.bar, .int .i64 p.voice, .int .i64 p.ossia, .int .i64 p.start.n, .int .i64 p.start.d, .int .i64 p.len.n, .int .i64 p.len.d, .int .i64 p.pitch.s, .int .i64 p.pitch.a, .int .i64 p.pitch.o], .pointer (some ⟨bt, 0, none⟩)] w fun e w' => e = .returned (.bool (farB l p)) ∧ Below w.heap.size w w' := by
  have HL := Lib.hid (fun w' hb => by have := (hI.below (W' := w') hb).look p.part false; rwa [if_neg (by decide), lastP_getD] at this : ∀ w', Below w.heap.size w w' → (Instr.lookup 150 (.map (some r)) (.int .i64 p.part) false).run Tryz.prog w' = .ok (PaV (partQ l p.part)) w')
  have HB := Lib.hid ((Below.refl w.heap.size w).alloc (Nat.le_refl _) (.cells #[.int .i64 p.id, .int .i64 p.part, .int .i64 p.bar, .int .i64 p.voice, .int .i64 p.ossia, .int .i64 p.start.n, .int .i64 p.start.d, .int .i64 p.len.n, .int .i64 p.len.d, .int .i64 p.pitch.s, .int .i64 p.pitch.a, .int .i64 p.pitch.o] 128))
  have HX := Lib.hid (heap_alloc_new w (.cells #[.int .i64 p.id, .int .i64 p.part, .int .i64 p.bar, .int .i64 p.voice, .int .i64 p.ossia, .int .i64 p.start.n, .int .i64 p.start.d, .int .i64 p.len.n, .int .i64 p.len.d, .int .i64 p.pitch.s, .int .i64 p.pitch.a, .int .i64 p.pitch.o] 128))
  have H3 := Lib.hid (up_alloc h3 (.cells #[.int .i64 p.id, .int .i64 p.part, .int .i64 p.bar, .int .i64 p.voice, .int .i64 p.ossia, .int .i64 p.start.n, .int .i64 p.start.d, .int .i64 p.len.n, .int .i64 p.len.d, .int .i64 p.pitch.s, .int .i64 p.pitch.a, .int .i64 p.pitch.o] 128))
  have HE := Lib.hid hE
  clear h3 hI hE
  have HR := Lib.hid (show farB l p = !inB (numI p.pitch) (numI (partQ l p.part).low) (numI (partQ l p.part).high) from rfl)
  generalize partQ l p.part = q at *
  generalize farB l p = R at *
  go_enter Tryz.func97, Tryz.ntmps97
  go_upto_region 1 with (fail)
  generalize w.alloc (.cells #[.int .i64 p.id, .int .i64 p.part, .int .i64 p.bar, .int .i64 p.voice, .int .i64 p.ossia, .int .i64 p.start.n, .int .i64 p.start.d, .int .i64 p.len.n, .int .i64 p.len.d, .int .i64 p.pitch.s, .int .i64 p.pitch.a, .int .i64 p.pitch.o] 128) = W at *
  have hc := box_cells HX.out; have hc3 := box_cells H3.out
  have hl := HL.out _ HB.out
  have HD : PaV q = .agg #[.int .i64 q.id, .int .i64 q.section_, .int .i64 q.of, .int .i64 q.octave, .int .i64 q.desks, .int .i64 q.shift.x, .int .i64 q.shift.y, .int .i64 q.low.s, .int .i64 q.low.a, .int .i64 q.low.o, .int .i64 q.high.s, .int .i64 q.high.a, .int .i64 q.high.o] := rfl
  rw [HD] at hl
  go_upto_region 2 with (fail)
  have HX2 := Lib.hid (heap_alloc_new W (.cells #[.int .i64 q.id, .int .i64 q.section_, .int .i64 q.of, .int .i64 q.octave, .int .i64 q.desks, .int .i64 q.shift.x, .int .i64 q.shift.y, .int .i64 q.low.s, .int .i64 q.low.a, .int .i64 q.low.o, .int .i64 q.high.s, .int .i64 q.high.a, .int .i64 q.high.o] 93)); have HX1 := Lib.hid (up_alloc HX.out (.cells #[.int .i64 q.id, .int .i64 q.section_, .int .i64 q.of, .int .i64 q.octave, .int .i64 q.desks, .int .i64 q.shift.x, .int .i64 q.shift.y, .int .i64 q.low.s, .int .i64 q.low.a, .int .i64 q.low.o, .int .i64 q.high.s, .int .i64 q.high.a, .int .i64 q.high.o] 93)); have HB2 := Lib.hid (HB.out.alloc HB.out.size (.cells #[.int .i64 q.id, .int .i64 q.section_, .int .i64 q.of, .int .i64 q.octave, .int .i64 q.desks, .int .i64 q.shift.x, .int .i64 q.shift.y, .int .i64 q.low.s, .int .i64 q.low.a, .int .i64 q.low.o, .int .i64 q.high.s, .int .i64 q.high.a, .int .i64 q.high.o] 93))
  generalize W.alloc (.cells #[.int .i64 q.id, .int .i64 q.section_, .int .i64 q.of, .int .i64 q.octave, .int .i64 q.desks, .int .i64 q.shift.x, .int .i64 q.shift.y, .int .i64 q.low.s, .int .i64 q.low.a, .int .i64 q.low.o, .int .i64 q.high.s, .int .i64 q.high.a, .int .i64 q.high.o] 93) = W2 at *
  have c1 := box_cells HX1.out; have c2 := box_cells HX2.out
  clear hc hc3 hl
  have g0 := cell_regrown (c1 9); have g1 := cell_regrown (c1 10); have g2 := cell_regrown (c1 11)
  have g3 := cell_regrown (c2 7); have g4 := cell_regrown (c2 8); have g5 := cell_regrown (c2 9); have g6 := cell_regrown (c2 10); have g7 := cell_regrown (c2 11); have g8 := cell_regrown (c2 12)
  have N0 := Lib.hid (show ∀ w, Env w → Calls Tryz.prog 98 #[.agg #[.int .i64 p.pitch.s, .int .i64 p.pitch.a, .int .i64 p.pitch.o]] w fun e w' => e = .returned (.int .i64 (numI p.pitch)) ∧ Below w.heap.size w w' from fun w hE => height_any _ _ _ w hE)
  have N1 := Lib.hid (show ∀ w, Env w → Calls Tryz.prog 98 #[.agg #[.int .i64 q.low.s, .int .i64 q.low.a, .int .i64 q.low.o]] w fun e w' => e = .returned (.int .i64 (numI q.low)) ∧ Below w.heap.size w w' from fun w hE => height_any _ _ _ w hE)
  have N2 := Lib.hid (show ∀ w, Env w → Calls Tryz.prog 98 #[.agg #[.int .i64 q.high.s, .int .i64 q.high.a, .int .i64 q.high.o]] w fun e w' => e = .returned (.int .i64 (numI q.high)) ∧ Below w.heap.size w w' from fun w hE => height_any _ _ _ w hE)
  have N3 := Lib.hid (show ∀ w, Calls Tryz.prog 93 #[.int .i64 (numI p.pitch), .int .i64 (numI q.low), .int .i64 (numI q.high)] w fun e w' => e = .returned (.bool (inB (numI p.pitch) (numI q.low) (numI q.high))) ∧ Below w.heap.size w w' from fun w => (swithin_any _ _ _ w).mono fun e w' h => ⟨h.1, h.2 ▸ Below.refl _ _⟩)
  generalize inB (numI p.pitch) (numI q.low) (numI q.high) = B at *
  generalize numI p.pitch = n0 at *; generalize numI q.low = n1 at *; generalize numI q.high = n2 at *
  refine wp_quietB (by kernel_rfl) (by kernel_rfl) ?_
  (repeat (go_big_quiet_step (fail)))
  go_big_quiet_step ((go_at_call 98; refine Calls.regrown_of (N0.out _ (HE.out.below (HB2.out.trans ((below_regrown _ _ _).mono HB2.out.size))))))
  (repeat (go_big_quiet_step (fail)))
  go_big_quiet_step ((go_at_call 98; refine Calls.regrown_of (N1.out _ (HE.out.below (HB2.out.trans ((below_regrown _ _ _).mono HB2.out.size))))))
  (repeat (go_big_quiet_step (fail)))
  go_big_quiet_step ((go_at_call 98; refine Calls.regrown_of (N2.out _ (HE.out.below (HB2.out.trans ((below_regrown _ _ _).mono HB2.out.size))))))
  (repeat (go_big_quiet_step (fail)))
  go_big_quiet_step ((go_at_call 93; refine Calls.regrown_of (N3.out _)))
  (repeat (go_big_quiet_step (fail)))
  refine wpQuiet_nil ?_; intro w9 hb9; go_wp2; go_ret
  exact ⟨ret_bool HR.out.symm, HB2.out.trans (hb9.mono HB2.out.size)⟩
theorem own_take {l : List Pa} {k : Nat} (hk : k < l.length) : ownL (l.take (k + 1)) = if l[k].of = 0 then ownL (l.take k) ++ [l[k]] else ownL (l.take k) := by
  rw [List.take_succ_eq_append_getElem hk, ownL, List.filter_append]
  by_cases h : l[k].of = 0 <;> simp [ownL, h]
set_option maxRecDepth 100000 in
set_option maxHeartbeats 4000000 in
theorem wrong_any (a b : Option Addr) (cap cap' : Nat) (l : List Pa) (ns : List No) (w : World) (hl : l.length ≤ 100000) (hl' : ns.length ≤ 100000) (hn : (l.map Pa.id).Nodup) (hm : PaAt w a l) (hm' : NoAt w b ns) (hE : Env w) :
    Calls Tryz.prog 59 #[.slice a l.length cap, .slice b ns.length cap'] w fun e w' => e = .returned (.int .i64 (wrongI l ns)) ∧ Below w.heap.size w w' := by
  have hmm := @run_makeMap Tryz.prog
  have HR := Lib.hid (wrong_eq hn ns)
  generalize wrongI l ns = R at *
  have HM := Lib.hid hm; have HE := Lib.hid hE; have HM' := Lib.hid hm'; clear hm hE hm'
  go_enter Tryz.func59, Tryz.ntmps59
  go_upto_region 2 with (fail)
  have hb0 : Below w.heap.size w ((w.alloc (.map #[] 0)).alloc (.cells #[.map (some w.heap.size)] 150)) := ((Below.refl w.heap.size w).alloc (Nat.le_refl _) (.map #[] 0)).alloc (by simp) _
  have hu0 : PmAt ((w.alloc (.map #[] 0)).alloc (.cells #[.map (some w.heap.size)] 150)) w.heap.size (ownL (l.take 0)) (idsN (ownL (l.take 0))) := (PmAt.new w).below ((Below.refl _ _).alloc (Nat.le_refl _) _)
  have hx0 : ((w.alloc (.map #[] 0)).alloc (.cells #[.map (some w.heap.size)] 150)).heap[w.heap.size + 1]? = some (.cells #[.map (some w.heap.size)] 150) := at_alloc _ _ (by simp)
  have HB := Lib.hid hb0; have HU := Lib.hid hu0; have HX := Lib.hid hx0
  clear hb0 hu0 hx0
  generalize (w.alloc (.map #[] 0)).alloc (.cells #[.map (some w.heap.size)] 150) = w1 at *
  obtain ⟨r, hr⟩ : ∃ r, r = w.heap.size := ⟨_, rfl⟩
  rw [← hr] at HU HX ⊢
  have HRr := Lib.hid (show w.heap.size ≤ r by omega)
  clear hr
  go_wp2
  go_loopw [13] (fun i wr => ∃ k : Nat, k ≤ l.length ∧ i = .int .i64 k ∧ PmAt wr r (ownL (l.take k)) (idsN (ownL (l.take k))) ∧ wr.heap[r + 1]? = some (.cells #[.map (some r)] 150 (0, 0)) ∧ Below w.heap.size w wr) (fun i _ => l.length - (intOf i).toNat)
  case atStart => exact ⟨0, Nat.zero_le _, rfl, HU.out, HX.out, HB.out⟩
  case round =>
    clear HB HU HX
    obtain ⟨k, hk, rfl, hu, hx, hb⟩ := hrel
    have HU := Lib.hid hu; have HX := Lib.hid hx; have HB := Lib.hid hb
    clear hu hx hb
    by_cases hlt : k < l.length
    · obtain ⟨b, off, rfl, _, e0, e1, e2, e3, e4, e5, e6, e7, e8, e9, e10, e11, e12⟩ := HM.out.get k hlt
      have g0 := keepE e0 HB.out; have g1 := keepE e1 HB.out; have g2 := keepE e2 HB.out; have g3 := keepE e3 HB.out; have g4 := keepE e4 HB.out; have g5 := keepE e5 HB.out; have g6 := keepE e6 HB.out; have g7 := keepE e7 HB.out; have g8 := keepE e8 HB.out; have g9 := keepE e9 HB.out; have g10 := keepE e10 HB.out; have g11 := keepE e11 HB.out; have g12 := keepE e12 HB.out
      clear e0 e1 e2 e3 e4 e5 e6 e7 e8 e9 e10 e11 e12
      have HT := Lib.hid (own_take hlt)
      generalize l[k] = p at *
      go_upto_region 5 with (fail)
      have HP := Lib.hid (heap_alloc_new wr (.cells #[.int .i64 p.id, .int .i64 p.section_, .int .i64 p.of, .int .i64 p.octave, .int .i64 p.desks, .int .i64 p.shift.x, .int .i64 p.shift.y, .int .i64 p.low.s, .int .i64 p.low.a, .int .i64 p.low.o, .int .i64 p.high.s, .int .i64 p.high.a, .int .i64 p.high.o] 93))
      have hb := (Below.refl wr.heap.size wr).alloc (Nat.le_refl _) (.cells #[.int .i64 p.id, .int .i64 p.section_, .int .i64 p.of, .int .i64 p.octave, .int .i64 p.desks, .int .i64 p.shift.x, .int .i64 p.shift.y, .int .i64 p.low.s, .int .i64 p.low.a, .int .i64 p.low.o, .int .i64 p.high.s, .int .i64 p.high.a, .int .i64 p.high.o] 93)
      replace HU := Lib.hid (HU.out.below hb); replace HX := Lib.hid (blk_keep HX.out hb); replace HB := Lib.hid (HB.out.trans (hb.mono HB.out.size))
      generalize wr.alloc (.cells #[.int .i64 p.id, .int .i64 p.section_, .int .i64 p.of, .int .i64 p.octave, .int .i64 p.desks, .int .i64 p.shift.x, .int .i64 p.shift.y, .int .i64 p.low.s, .int .i64 p.low.a, .int .i64 p.low.o, .int .i64 p.high.s, .int .i64 p.high.a, .int .i64 p.high.o] 93) = W at *
      have hc := box_cells HP.out; have hcx := box_cells HX.out
      clear hb g0 g1 g2 g3 g4 g5 g6 g7 g8 g9 g10 g11 g12
      by_cases h0 : p.of = 0
      · have HT2 := Lib.hid (by have := HT.out; rwa [if_pos h0] at this)
        obtain ⟨m, hmap, hspec, hlen⟩ := HU.out
        have HMap := Lib.hid hmap; have HSpec := Lib.hid (pm_put (p := p) hspec hlen)
        clear hmap hspec hlen HU
        go_upto_region 6 with (fail)
        clear h0
        go_wp2_with (refine wpList_mapUpdate_at rfl (.tmp 20) (.tmp 22) _ 150 (.inl rfl) Tryz.underlying150 keyJ r m rfl HMap.out p.id rfl (PaV p) rfl ?_; intro w6 hm6 hg6; have HM6 := Lib.hid hm6; have HX6 := Lib.hid ((hg6.block (r + 1) (lt_blk HX.out) (fun e => by cases e)).trans HX.out); have HB6 := Lib.hid (KeepB.below ((KeepB.of_below' (S := []) HB.out).grown hg6 HB.out.size (fun k e => by cases e; exact HRr.out))); clear hm6 hg6)
        go_roundw
        case rel => exact ⟨k + 1, by omega, by go_num, by rw [HT2.out]; exact ⟨_, HM6.out, HSpec.out.1, HSpec.out.2⟩, HX6.out, HB6.out⟩
        case measure => simp [intOf]; omega
      · have HT2 := Lib.hid (by have := HT.out; rwa [if_neg h0] at this)
        go_wp2_with (fail)
        go_roundw
        case rel => exact ⟨k + 1, by omega, by go_num, by rw [HT2.out]; exact HU.out, HX.out, HB.out⟩
        case measure => simp [intOf]; omega
    · have hkl : l.take k = l := List.take_of_length_le (by omega)
      rw [hkl] at HU
      clear hkl
      have HS1 := Lib.hid (ContainsN_any 96 #[.pointer (some ⟨r + 1, 0, none⟩)] enters_strange wr.heap.size (strangeB (ownL l)) b cap' ns wr hl' (fun p _ W hW => strange_any (ownL l) p (r + 1) r _ W (blk_keep HX.out hW) (HU.out.below hW)) (Nat.le_refl _) (HM'.out.below HB.out))
      have HS2 := Lib.hid (fun (w3 : World) (h3 : Below wr.heap.size wr w3) => ContainsN_any 97 #[.pointer (some ⟨r + 1, 0, none⟩)] enters_far wr.heap.size (farB (ownL l)) b cap' ns w3 hl' (fun p _ W hW => far_any (ownL l) p (r + 1) r _ W (HE.out.below (HB.out.trans ((h3.trans hW).mono HB.out.size))) (blk_keep HX.out (h3.trans hW)) (HU.out.below (h3.trans hW))) h3.size (HM'.out.below (HB.out.trans (h3.mono HB.out.size))))
      have hcx := box_cells HX.out
      generalize ns.any (strangeB (ownL l)) = A at *; generalize ns.any (farB (ownL l)) = A2 at *
      cases A
      · cases A2
        · have HR2 := Lib.hid (show R = 0 from HR.out)
          go_wp2_with (go_at_call 99; (first | (refine HS1.out.mono ?_; rintro e w9 ⟨rfl, hb⟩; have HB9 := Lib.hid hb) | (refine (HS2.out _ HB9.out).mono ?_; rintro e w10 ⟨rfl, hb⟩; have HB10 := Lib.hid (HB.out.trans ((HB9.out.trans (hb.mono HB9.out.size)).mono HB.out.size)))))
          go_ret
          exact ⟨ret_int HR2.out.symm, HB10.out⟩
        · have HR2 := Lib.hid (show R = 20 from HR.out)
          go_wp2_with (go_at_call 99; (first | (refine HS1.out.mono ?_; rintro e w9 ⟨rfl, hb⟩; have HB9 := Lib.hid hb) | (refine (HS2.out _ HB9.out).mono ?_; rintro e w10 ⟨rfl, hb⟩; have HB10 := Lib.hid (HB.out.trans ((HB9.out.trans (hb.mono HB9.out.size)).mono HB.out.size)))))
          go_ret
          exact ⟨ret_int HR2.out.symm, HB10.out⟩
      · have HR2 := Lib.hid (show R = 22 from HR.out)
        go_wp2_with (go_at_call 99; refine HS1.out.mono ?_; rintro e w9 ⟨rfl, hb⟩; have HB9 := Lib.hid (HB.out.trans (hb.mono HB.out.size)))
        go_ret
        exact ⟨ret_int HR2.out.symm, HB9.out⟩
end Go.Proofs.YtcelciomhngajaaGreatDoor

