/- Texts of this seat, laid together: MatchRef, MatchMatched, MatchLst, MatchRef2, MatchRef3, MatchRef4, MatchProves, MatchLaw0, MatchSome, MatchOnly. -/
import Derived.Test.YtehdhbnbajfanaaGreatGG
import Derived.Test.YtehdhbnbajfanaaGreatGE
import Derived.Test.YtehdhbnbajfanaaGreatGB

/- The reference functions over costs: Same, columns, price, Few, Form. -/
namespace Go.Proofs.YtehdhbnbajfanaaGreat
set_option linter.unusedSimpArgs false
set_option linter.unusedVariables false
open Go.RowKit Go.Sort Go.Shelf

theorem Rcols_any (a : Option Addr) (cap : Nat) (c : List (List Int)) (w : World) (hl : c.length ≤ 100000000000000) (hm : MatAt w a c) :
    Calls Tryz.prog 72 #[.slice a c.length cap] w fun e w' => e = .returned (.int .i64 (wideL c : Nat)) ∧ w = w' := by
  have HM := Lib.hid hm; clear hm
  cases c with
  | nil =>
    go_enter Tryz.func72, Tryz.ntmps72
    go_wp2
    go_ret
    exact ⟨rfl, rfl⟩
  | cons l c =>
    obtain ⟨b, off, ai, ci, rfl, c0, _, _⟩ := HM.out.get 0 (by simp)
    have hc0 : w.cell? ⟨b, off, none⟩ = some (.slice ai l.length ci) := by simpa using c0
    have hne : ((c.length + 1 : Nat) : Int) ≠ 0 := by omega
    have hne2 : (((c.length : Int) + 1) == 0) = false := by simp; omega
    clear c0
    go_enter Tryz.func72, Tryz.ntmps72
    go_wp2
    go_ret
    exact ⟨rfl, rfl⟩
def priceOk (n : Int) : Bool := decide (-1000000000 ≤ n) && decide (n ≤ 1000000000)
/-- Few: at most 7 rows, and none of the first 8 is longer than 8. -/
def fewB (c : List (List Int)) : Bool := decide (c.length ≤ 7) && (c.take 8).all fun l => decide (l.length ≤ 8)
theorem few_iff {c : List (List Int)} : fewB c = true ↔ c.length ≤ 7 ∧ ∀ l ∈ c, l.length ≤ 8 := by
  unfold fewB
  simp only [Bool.and_eq_true, decide_eq_true_eq, List.all_eq_true]
  constructor
  · rintro ⟨h1, h2⟩
    exact ⟨h1, fun l hl => h2 l (by rw [List.take_of_length_le (by omega)]; exact hl)⟩
  · rintro ⟨h1, h2⟩
    exact ⟨h1, fun l hl => h2 l (List.mem_of_mem_take hl)⟩
theorem few_bad {c : List (List Int)} (k : Nat) (hk : k < c.length) (h8 : k < 8) (hb : 8 < c[k].length) : fewB c = false := by
  unfold fewB
  rw [Bool.and_eq_false_iff]
  right
  rw [Bool.eq_false_iff]
  intro h
  have := List.all_eq_true.1 h c[k] (List.mem_iff_getElem.2 ⟨k, by simp; omega, by simp⟩)
  simp at this; omega
theorem few_end {c : List (List Int)} (h : ∀ j (hj : j < c.length), j < 8 → c[j].length ≤ 8) : fewB c = decide (c.length ≤ 7) := by
  unfold fewB
  have : ((c.take 8).all fun l => decide (l.length ≤ 8)) = true := List.all_eq_true.2 fun l hl => by
    obtain ⟨j, hj, rfl⟩ := List.mem_iff_getElem.1 hl
    rw [List.length_take] at hj
    have := h j (by omega) (by omega)
    simpa using this
  rw [this, Bool.and_true]
set_option maxRecDepth 100000 in
set_option maxHeartbeats 4000000 in
theorem RForm_any (a : Option Addr) (cap : Nat) (c : List (List Int)) (w : World) (hl : c.length ≤ 100000000000000) (hm : MatAt w a c) :
    Calls Tryz.prog 48 #[.slice a c.length cap] w fun e w' => e = .returned (.int .i64 (formE c)) ∧ Below w.heap.size w w' := by
  have HM := Lib.hid hm; clear hm
  by_cases h1 : c.length ≤ 200
  case neg =>
    have HE := Lib.hid (form_long (.inl h1))
    have h1' : 200 < c.length := by omega
    go_enter Tryz.func48, Tryz.ntmps48
    go_wp2
    go_ret
    exact ⟨by rw [HE.out]; rfl, Below.refl _ _⟩
  go_enter Tryz.func48, Tryz.ntmps48
  go_wp2
  go_loopw [3] (fun i wr => ∃ k : Nat, k ≤ c.length ∧ i = .int .i64 k ∧ (∀ j (hj : j < c.length), j < k → c[j].length ≤ 200) ∧ Below w.heap.size w wr) (fun i _ => c.length - (intOf i).toNat)
  case atStart => exact ⟨0, Nat.zero_le _, rfl, fun j hj hk => by omega, Below.refl _ _⟩
  case round =>
    obtain ⟨k, hk, rfl, hall, hb⟩ := hrel
    have H := Lib.hid hall; have HB := Lib.hid hb; clear hall hb
    by_cases hlt : k < c.length
    · obtain ⟨b, off, ai, ci, rfl, c0, hsk, hik⟩ := (HM.out.below HB.out).get k hlt
      clear hsk hik
      by_cases hlen : 200 < c[k].length
      · have HE := Lib.hid (form_long (c := c) (.inr (List.any_eq_true.2 ⟨c[k], List.getElem_mem _, by simpa using hlen⟩)))
        go_wp2
        go_ret
        exact ⟨by rw [HE.out]; rfl, HB.out⟩
      · go_wp2
        go_roundw
        case rel => exact ⟨k + 1, by omega, by go_num, fun j hj hjk => by
          by_cases e : j = k
          · subst e; omega
          · exact H.out j hj (by omega), HB.out⟩
        case measure => simp [intOf]; omega
    · have hA : (c.any fun l => decide (200 < l.length)) = false := by
        rw [List.any_eq_false]
        intro l hl
        obtain ⟨j, hj, rfl⟩ := List.mem_iff_getElem.1 hl
        have := H.out j hj (by omega)
        simp; omega
      have HAA := Lib.hid hA; clear hA
      have HL := Lib.hid (fun j (hj : j < c.length) => H.out j hj (by omega))
      clear H
      go_wp2
      go_loopw [4] (fun i wr => ∃ k : Nat, k ≤ c.length ∧ i = .int .i64 k ∧ (∀ j (hj : j < c.length), j < k → rowOk (wideL c) c[j] = true) ∧ Below w.heap.size w wr) (fun i _ => c.length - (intOf i).toNat)
      case atStart => exact ⟨0, Nat.zero_le _, rfl, fun j hj hk => by omega, HB.out⟩
      case round =>
        obtain ⟨k, hk, rfl, hall, hb⟩ := hrel
        have HAl := Lib.hid hall; have HB1 := Lib.hid hb; clear hall hb HB
        by_cases hlt : k < c.length
        · obtain ⟨b, off, ai, ci, rfl, c0, hsk, hik⟩ := (HM.out.below HB1.out).get k hlt
          obtain ⟨b', off', a0, ci0, e, d0, _, _⟩ := (HM.out.below HB1.out).get 0 (by omega)
          cases e
          have hwl : (c[0]'(by omega)).length = wideL c := by
            cases c with
            | nil => simp at hlt
            | cons l c => rfl
          rw [Nat.add_zero, hwl] at d0
          clear hwl
          have HIK := Lib.hid hik; clear hsk hik
          have hrl := HL.out k hlt
          have hpos : 0 < c.length := by omega
          generalize hL : c[k] = L at *
          have HLL := Lib.hid hL; clear hL
          by_cases he : L.length = wideL c
          · have hb : ((L.length : Int) != (wideL c : Int)) = false := by simp; omega
            have HE := Lib.hid he; clear he
            have HBd := Lib.hid (Below.refl wr.heap.size wr)
            go_wp2
            go_quiet (fail)
            go_wp2
            go_loopw [5] (fun i wi => ∃ m : Nat, m ≤ L.length ∧ i = .int .i64 m ∧ (∀ j (hj : j < L.length), j < m → costOk L[j] = true) ∧ Below w.heap.size w wi) (fun i _ => L.length - (intOf i).toNat)
            case atStart => exact ⟨0, Nat.zero_le _, rfl, fun j hj hk => by omega, by first | exact HB1.out | exact below_drewN HB1.out _⟩
            case round =>
              obtain ⟨m, hm, rfl, hall2, hb2⟩ := hrel
              have H2 := Lib.hid hall2; have HB2 := Lib.hid hb2; clear hall2 hb2 d0 c0
              obtain ⟨b', off', ai', ci', e, c0, hsk, hik2⟩ := (HM.out.below HB2.out).get k hlt
              cases e
              rw [HLL.out] at c0
              rw [HLL.out] at hik2
              by_cases hml : m < L.length
              · obtain ⟨b2, off2, rfl, e0⟩ := hik2.get m hml
                clear hsk hik2
                cases hlo : decide (L[m] < -1)
                · cases hhi : decide (1000000 < L[m])
                  · have HO := Lib.hid (show costOk L[m] = true by simp only [costOk]; simp at hlo hhi ⊢; omega)
                    go_wp2
                    go_roundw
                    case rel => exact ⟨m + 1, by omega, by go_num, fun j hj hjk => by
                      by_cases e : j = m
                      · subst e; exact HO.out
                      · exact H2.out j hj (by omega), by first | exact HB2.out | exact below_drewN HB2.out _⟩
                    case measure => simp [intOf]; omega
                  · have HE1 := Lib.hid (form_bad (c := c) (i := k) hlt h1 HAA.out (by
                      rw [HLL.out, Bool.eq_false_iff]
                      intro hr
                      simp only [rowOk, Bool.and_eq_true, decide_eq_true_eq, List.all_eq_true] at hr
                      have := hr.2 L[m] (List.getElem_mem _)
                      simp [costOk] at this hhi; omega))
                    go_wp2
                    go_ret
                    exact ⟨by rw [HE1.out]; rfl, by first | exact HB2.out | exact below_drewN HB2.out _⟩
                · have HE1 := Lib.hid (form_bad (c := c) (i := k) hlt h1 HAA.out (by
                    rw [HLL.out, Bool.eq_false_iff]
                    intro hr
                    simp only [rowOk, Bool.and_eq_true, decide_eq_true_eq, List.all_eq_true] at hr
                    have := hr.2 L[m] (List.getElem_mem _)
                    simp [costOk] at this hlo; omega))
                  go_wp2
                  go_ret
                  exact ⟨by rw [HE1.out]; rfl, by first | exact HB2.out | exact below_drewN HB2.out _⟩
              · have HO := Lib.hid (show rowOk (wideL c) L = true by
                  simp only [rowOk, Bool.and_eq_true, decide_eq_true_eq, List.all_eq_true]
                  refine ⟨HE.out, fun n hn => ?_⟩
                  obtain ⟨j, hj, rfl⟩ := List.mem_iff_getElem.1 hn
                  exact H2.out j hj (by omega))
                clear hsk hik2
                go_wp2
                go_roundw
                case rel => exact ⟨k + 1, by omega, by go_num, fun j hj hjk => by
                  by_cases e : j = k
                  · subst e; rw [HLL.out]; exact HO.out
                  · exact HAl.out j hj (by omega), HB2.out⟩
                case measure => simp [intOf]; omega
          · have hb : ((L.length : Int) != (wideL c : Int)) = true := by simp; omega
            have HE1 := Lib.hid (form_bad (c := c) (i := k) hlt h1 HAA.out (by
              rw [HLL.out]
              rw [Bool.eq_false_iff]
              intro hr
              simp only [rowOk, Bool.and_eq_true, decide_eq_true_eq] at hr
              exact he hr.1))
            clear he
            go_wp2
            go_quiet (fail)
            go_wp2
            go_ret
            exact ⟨by rw [HE1.out]; rfl, by first | exact HB1.out | exact below_drewN HB1.out _⟩
        · have HE := Lib.hid (form_ok h1 HAA.out fun i hi => HAl.out i hi (by omega))
          go_wp2
          go_ret
          exact ⟨by rw [HE.out]; rfl, HB1.out⟩
end Go.Proofs.YtehdhbnbajfanaaGreat


/- The reference's Matched says whether there is a matching: walked, for rows of one length (200 at most). -/
namespace Go.Proofs.YtehdhbnbajfanaaGreat
set_option linter.unusedSimpArgs false
set_option linter.unusedVariables false
open Go.RowKit Go.Sort Go.Shelf

theorem minus_ones (k : Nat) : ((List.range k).map fun _ => (-1 : Int)).map inRow ++ [[.int .i64 (-1)]] = ((List.range (k + 1)).map fun _ => (-1 : Int)).map inRow := by
  rw [List.range_succ, List.map_append, List.map_append]; rfl
theorem minus_len (k : Nat) : (((List.range k).map fun _ => (-1 : Int))).length = k := by simp
theorem PV.nobody (c : List (List Int)) : PV c (fun _ => -1) := fun _ _ => .inl rfl
theorem own_can {c : List (List Int)} {ow : Nat → Int} {r : Nat} (O : Own (may (cc c)) (wideL c) (fun _ => True) (fun i => i < r) ow) : ∀ k, k < wideL c → (fun _ : Nat => false) k = false → 0 ≤ ow k → may (cc c) (ow k).toNat k = true := fun k hk _ h0 => by
  rcases O.val k hk trivial with e | ⟨i, e, _, e3⟩
  · omega
  · rw [e]; exact e3
theorem own_pv {c : List (List Int)} {ow : Nat → Int} {r : Nat} (hr : r ≤ c.length) (O : Own (may (cc c)) (wideL c) (fun _ => True) (fun i => i < r) ow) : PV c ow := fun k hk => by
  rcases O.val k hk trivial with e | ⟨i, e, e2, _⟩
  · exact .inl e
  · exact .inr ⟨i, e, by omega⟩
theorem own_zero {c : List (List Int)} : Own (may (cc c)) (wideL c) (fun _ => True) (fun i => i < 0) (fun _ => -1) :=
  ⟨fun _ _ _ => .inl rfl, fun i hi => by omega, fun _ _ i _ _ _ _ e _ => by omega⟩
/-- What Matched says. -/
def MatchedPost (c : List (List Int)) (w : World) (e : Ending) (w' : World) : Prop :=
  ∃ ok : Bool, e = .returned (.bool ok) ∧ (ok = true ↔ Mtd (may (cc c)) (fun i => i < c.length) (wideL c)) ∧ Below w.heap.size w w'
end Go.Proofs.YtehdhbnbajfanaaGreat


/- The reference's least cost (least): walked; -1 exactly if there is no matching. For costs that are well-formed. -/
namespace Go.Proofs.YtehdhbnbajfanaaGreat
set_option linter.unusedSimpArgs false
set_option linter.unusedVariables false
open Go.RowKit Go.Sort Go.Shelf

/-- The least cost of a matching, or -1. -/
def LeastSays (c : List (List Int)) (L : Int) : Prop :=
  (L = -1 ∧ ¬ Mtd (may (cc c)) (fun i => i < c.length) (wideL c)) ∨ (0 ≤ L ∧ (∃ f, Mt (may (cc c)) (fun i => i < c.length) (wideL c) f ∧ costOf (cc c) c.length f = L) ∧ ∀ g, Mt (may (cc c)) (fun i => i < c.length) (wideL c) g → L ≤ costOf (cc c) c.length g)
theorem least_of {c : List (List Int)} {V : Int} {u v ow : Nat → Int} (p : Pot (cc c) (wideL c) c.length V u v ow) (h0 : 0 ≤ priceOf (wideL c) c.length u v) : LeastSays c (priceOf (wideL c) c.length u v) := by
  obtain ⟨hf, f, ht⟩ := pot_fair p
  exact .inr ⟨h0, ⟨f, ht.mt, tight_eq hf ht⟩, fun g hg => (fair_le hf hg).1⟩
/-- The best column so far, or -1. -/
def BestTo (n : Nat) (ow d f : Nat → Int) (k : Nat) (x : Int) : Prop :=
  (x = -1 ∧ ∀ j, j < k → ow j = -1 → f j < 0) ∨ ∃ k0 : Nat, k0 < n ∧ x = (k0 : Int) ∧ ow k0 = -1 ∧ 0 ≤ f k0 ∧ ∀ j, j < k → ow j = -1 → 0 ≤ f j → d k0 ≤ d j
theorem BestTo.skip {n : Nat} {ow d f : Nat → Int} {k : Nat} {x : Int} (b : BestTo n ow d f k x) (h : ow k ≠ -1 ∨ f k < 0 ∨ ∃ k0 : Nat, x = (k0 : Int) ∧ d k0 ≤ d k) : BestTo n ow d f (k + 1) x := by
  rcases b with ⟨e, a⟩ | ⟨k0, h1, rfl, h2, h3, a⟩
  · refine .inl ⟨e, fun j hj ho => ?_⟩
    by_cases q : j = k
    · subst q
      rcases h with h | h | ⟨k0, h, _⟩
      · exact absurd ho h
      · exact h
      · omega
    · exact a j (by omega) ho
  · refine .inr ⟨k0, h1, rfl, h2, h3, fun j hj ho hf => ?_⟩
    by_cases q : j = k
    · subst q
      rcases h with h | h | ⟨k1, h, h4⟩
      · exact absurd ho h
      · omega
      · have : k1 = k0 := by omega
        subst this; exact h4
    · exact a j (by omega) ho hf
theorem BestTo.take {n : Nat} {ow d f : Nat → Int} {k : Nat} {x : Int} (b : BestTo n ow d f k x) (hk : k < n) (ho : ow k = -1) (hf : 0 ≤ f k) (h : x = -1 ∨ ∃ k0 : Nat, x = (k0 : Int) ∧ d k ≤ d k0) : BestTo n ow d f (k + 1) (k : Int) := by
  refine .inr ⟨k, hk, rfl, ho, hf, fun j hj ho2 hf2 => ?_⟩
  by_cases q : j = k
  · subst q; exact Int.le_refl _
  · rcases b with ⟨e, a⟩ | ⟨k0, h1, rfl, h2, h3, a⟩
    · have := a j (by omega) ho2; omega
    · rcases h with h | ⟨k1, h, h4⟩
      · omega
      · have : k1 = k0 := by omega
        subst this
        have := a j (by omega) ho2 hf2; omega
theorem RowD.ne {w : World} {b g n m : Nat} {d f o : Nat → Int} (r : RowD w b n d f) (s : RowC w g m o) : b ≠ g := by
  rintro rfl
  obtain ⟨arr, h1, _⟩ := r
  obtain ⟨arr', h2, _⟩ := s
  rw [h1] at h2
  simp at h2
theorem RowD.other {w : World} {b n c k : Nat} {d f : Nat → Int} (r : RowD w b n d f) (hne : b ≠ c) (v : Value) : RowD (w.setCell ⟨c, k, none⟩ v) b n d f :=
  r.of_eq (heap_setCell_other _ _ _ _ (show _ ≠ _ by simpa using hne))
/-- On the way back: the column k is the row's that gave it up. -/
structure Back (C : Nat → Nat → Int) (n r : Nat) (u' v' ow : Nat → Int) (ord : List Nat) (k0 k : Nat) (pre : List Nat) (o : Nat → Int) : Prop where
  aug : Aug C n r u' v' ow ord k0 k pre o
  own : o k = ow k
theorem Back.held {C : Nat → Nat → Int} {n r : Nat} {V : Int} {u v u' v' ow dist frm o : Nat → Int} {ord pre : List Nat} {k0 k k' : Nat} (p : Pot C n r V u v ow) (F : Fin C n r u v ow dist frm ord k0) (b : Back C n r u' v' ow ord k0 k pre o) (hk' : k' < n) (hp : k' ∈ pre)
    (h0 : 0 ≤ ow k') (he : o k' = ow k') {x : Nat} (hx : x < n) (e : o x = ow k') : x = k' := by
  obtain ⟨_, hne, _⟩ := b.aug.par F
  have hkk := (hne k' hp).2
  obtain ⟨i, e1, _⟩ := p.row hk' h0
  by_cases q : x = k
  · subst q
    rw [b.own] at e
    exact (hkk (p.own.inj k' x i hk' hx trivial trivial e1 (by omega))).elim
  · exact b.aug.own.inj x k' i hx hk' trivial trivial (by rw [upd_ne _ _ q]; omega) (by rw [upd_ne _ _ hkk]; omega)
def LeastPost (c : List (List Int)) (w : World) (e : Ending) (w' : World) : Prop := ∃ L : Int, e = .returned (.int .i64 L) ∧ LeastSays c L ∧ Below w.heap.size w w'
theorem OwnC.set {w : World} {g n : Nat} {ow : Nat → Int} (o : OwnC w (some ⟨g, 0, none⟩) n ow) {k : Nat} (hk : k < n) (x : Int) : OwnC (w.setCell ⟨g, k, none⟩ (.int .i64 x)) (some ⟨g, 0, none⟩) n (upd ow k x) := fun j hj => by
  obtain ⟨b, e, r⟩ := o k hk
  cases e
  exact ⟨g, rfl, r.set hk x⟩
set_option maxRecDepth 100000 in
set_option maxHeartbeats 8000000 in
theorem Rleast_any (a : Option Addr) (cap : Nat) (c : List (List Int)) (w : World) (he : formE c = 0) (hm : MatAt w a c) :
    Calls Tryz.prog 49 #[.slice a c.length cap] w (LeastPost c w) := by
  have HE := Lib.hid he
  obtain ⟨h200, hw200, hf, hf4⟩ := formE_ok he
  have HC := Lib.hid (cc_le hf hf4)
  have HM := Lib.hid hm
  clear hm hf hf4 he
  go_enter Tryz.func49, Tryz.ntmps49
  go_wp2
  go_loopw [3, 4] (fun s3 s4 wr => ∃ k : Nat, k ≤ wideL c ∧ s4 = .int .i64 k ∧ OwnR wr w.heap.size 3 1 s3 (((List.range k).map fun _ => (-1 : Int)).map inRow) ∧ Below w.heap.size w wr) (fun _ i _ => wideL c - (intOf i).toNat)
  case atStart => exact ⟨0, Nat.zero_le _, rfl, OwnR.nil _ _ _ _, Below.refl _ _⟩
  case round =>
    obtain ⟨k, hk, rfl, ho, hb⟩ := hrel
    have HO := Lib.hid ho; have HB := Lib.hid hb
    clear ho hb
    go_wp2_with (fail)
    refine (Rcols_any a cap c _ (by omega) (HM.out.below HB.out)).mono ?_
    rintro e w1 ⟨rfl, rfl⟩
    by_cases hlt : k < wideL c
    · go_wp2_with (at_builtin; refine appE eltInt rfl (.tmp 19) (.tmp 20) rfl w.heap.size _ ((List.range k).map fun _ => (-1 : Int)) rfl (HO.out.below ((Below.refl _ _).alloc (Nat.le_refl _) _)) _ _ _ [(-1 : Int)] rfl rfl (fun e => by cases e) (eltInt.new _ _ _ _ rfl) (by simp; omega) (by have := HB.out.size; simp; omega) ?_; intro v1 w2 ho1 hg1; have HO1 := Lib.hid ho1; have HB1 := Lib.hid (below_grown (HB.out.alloc HB.out.size _) (HO.out.below ((Below.refl _ _).alloc (Nat.le_refl _) _)) (by have := HB.out.size; simp; omega) hg1); clear ho1 hg1)
      refine ⟨⟨k + 1, by omega, by go_num, ?_, HB1.out⟩, by simp [intOf]; omega⟩
      have := HO1.out
      rw [List.map_append, show List.map inRow [(-1 : Int)] = [[.int .i64 (-1)]] from rfl, minus_ones] at this
      exact this
    · have hke : k = wideL c := by omega
      subst hke
      have hall : ∃ (ao : Option Addr) (capo : Nat), u3 = .slice ao (wideL c) capo ∧ OwnC wr ao (wideL c) (fun _ => -1) ∧ (0 < wideL c → ∀ b, ao = some ⟨b, 0, none⟩ → w.heap.size ≤ b) := by
        by_cases h0 : wideL c = 0
        · obtain ⟨a3, c3, e3, _, _⟩ := HO.out.slAt
          rw [List.length_map, minus_len] at e3
          exact ⟨a3, c3, e3, fun k hk => by omega, fun h => by omega⟩
        · obtain ⟨g, cg, e3, hg, hgc, hrow⟩ := RowC.of_own HO.out h0
          exact ⟨_, _, e3, fun k hk => ⟨g, rfl, hrow⟩, fun _ b e => by cases e; exact hg⟩
      obtain ⟨ao, capo, rfl, hoc, hgb⟩ := hall
      have HOC := Lib.hid hoc; have HG := Lib.hid hgb
      clear hoc hgb HO
      generalize hn : wideL c = n at *
      have HN := Lib.hid hn; clear hn
      go_wp2
      go_loopw [5, 6] (fun s5 s6 wr => ∃ (r : Nat) (u v ow : Nat → Int) (t : Int), r ≤ c.length ∧ s6 = .int .i64 r ∧ s5 = .int .i64 t ∧ OwnC wr ao n ow ∧ Pot (cc c) n r ((r : Int) * (n * 1000000)) u v ow ∧ t = priceOf n r u v ∧ (0 ≤ t ∧ t ≤ r * 200000000) ∧ Below w.heap.size w wr) (fun _ i _ => c.length - (intOf i).toNat)
      case atStart => exact ⟨0, _, _, _, 0, Nat.zero_le _, rfl, rfl, HOC.out, by simpa using Pot.start (cc c) n, by unfold priceOf; rw [sumN_zero (n := n) (fun _ _ => rfl)]; rfl, ⟨by omega, by omega⟩, HB.out⟩
      case round =>
        clear HB HOC
        obtain ⟨r, u, v, ow, t, hr, rfl, rfl, hoc, hp, ht, htb, hb⟩ := hrel
        have HB := Lib.hid hb; have HOC := Lib.hid hoc; have HP := Lib.hid hp; have HT := Lib.hid ht
        clear hb hoc hp ht
        by_cases hlt : r < c.length
        · go_wp2_with (fail)
          have hways := ways_any a ao cap capo c r u v ow _ _ HE.out hlt (HM.out.below HB.out) (by rw [HN.out]; exact HOC.out) (by rw [HN.out]; exact HP.out) (by
            have h1 : (r : Int) * (n * 1000000) ≤ 200 * (200 * 1000000) := by
              have : ((r * (n * 1000000) : Nat) : Int) ≤ ((200 * (200 * 1000000) : Nat) : Int) := by
                have := Nat.mul_le_mul (show r ≤ 200 by omega) (Nat.mul_le_mul_right 1000000 hw200)
                omega
              simpa using this
            omega)
          unfold WaysPost at hways
          rw [HN.out] at hways
          refine hways.mono ?_
          rintro e w1 ⟨b, d, f, rfl, hbw, hrw, hb, hy, hx⟩
          have HBW := Lib.hid hbw; have HR := Lib.hid hrw; have HY := Lib.hid hy; have HFX := Lib.hid hx
          have HOC1 := Lib.hid (HOC.out.below hb); have HB1 := Lib.hid (HB.out.trans (hb.mono HB.out.size))
          clear hbw hrw hb hy hx HOC HB hways
          go_wp2
          go_loopw [8, 9] (fun s8 s9 wr2 => ∃ (k : Nat) (x : Int), k ≤ n ∧ s9 = .int .i64 k ∧ s8 = .int .i64 x ∧ BestTo n ow d f k x ∧ OwnC wr2 ao n ow ∧ RowD wr2 b n d f ∧ Below w.heap.size w wr2) (fun _ i _ => n - (intOf i).toNat)
          case atStart => exact ⟨0, -1, Nat.zero_le _, rfl, rfl, .inl ⟨rfl, fun j hj => by omega⟩, HOC1.out, HR.out, HB1.out⟩
          case round =>
            clear HOC1 HR HB1
            obtain ⟨k, x, hk, rfl, rfl, hbt, hoc, hrw, hb⟩ := hrel
            have HBT := Lib.hid hbt; have HOC := Lib.hid hoc; have HR := Lib.hid hrw; have HB := Lib.hid hb
            clear hbt hoc hrw hb
            by_cases hlk : k < n
            · obtain ⟨g, rfl, ro⟩ := HOC.out k hlk
              have g0 := cell_regrown (ro.cell hlk)
              clear ro
              rcases HP.out.own.val k hlk trivial with hok | ⟨i, hok, hir, _⟩
              · rw [hok] at g0
                have HOK := Lib.hid hok; clear hok
                have g1 := cell_regrown (HR.out.cellF hlk); have g2 := cell_regrown (HR.out.cellD hlk)
                generalize hF : f k = F at *
                generalize hD : d k = D at *
                have HF := Lib.hid hF; have HD := Lib.hid hD
                clear hF hD
                by_cases hf0 : 0 ≤ F
                · have e1 : decide (0 ≤ F) = true := decide_eq_true hf0
                  rcases HBT.out with ⟨hx, _⟩ | ⟨k1, hk1, hx, _⟩
                  · subst hx
                    go_wp2
                    refine wp_quietB (by kernel_rfl) (by kernel_rfl) ?_; (repeat (go_big_quiet_step (fail))); refine wpQuiet_nil ?_; intro wq hq; replace HOC := Lib.hid (HOC.out.below hq); replace HR := Lib.hid (HR.out.below hq); replace HB := Lib.hid (HB.out.trans (hq.mono HB.out.size)); clear hq
                    clear g0 g1 g2
                    go_wp2
                    go_roundw
                    case rel => exact ⟨k + 1, (k : Int), by omega, by go_num, rfl, HBT.out.take hlk HOK.out (by rw [HF.out]; exact hf0) (.inl rfl), HOC.out, HR.out, HB.out⟩
                    case measure => simp [intOf]; omega
                  · subst hx
                    have g3 := cell_regrown (HR.out.cellD hk1)
                    generalize hD1 : d k1 = D1 at *
                    have HD1 := Lib.hid hD1; clear hD1
                    have e2 : decide ((k1 : Int) < 0) = false := by simp <;> omega
                    by_cases hlt2 : D < D1
                    · have e3 : decide (D < D1) = true := decide_eq_true hlt2
                      go_wp2
                      refine wp_quietB (by kernel_rfl) (by kernel_rfl) ?_; (repeat (go_big_quiet_step (fail))); refine wpQuiet_nil ?_; intro wq hq; replace HOC := Lib.hid (HOC.out.below hq); replace HR := Lib.hid (HR.out.below hq); replace HB := Lib.hid (HB.out.trans (hq.mono HB.out.size)); clear hq
                      clear g0 g1 g2 g3
                      go_wp2
                      go_roundw
                      case rel => exact ⟨k + 1, (k : Int), by omega, by go_num, rfl, HBT.out.take hlk HOK.out (by rw [HF.out]; exact hf0) (.inr ⟨k1, rfl, by rw [HD.out, HD1.out]; omega⟩), HOC.out, HR.out, HB.out⟩
                      case measure => simp [intOf]; omega
                    · have e3 : decide (D < D1) = false := decide_eq_false hlt2
                      go_wp2
                      refine wp_quietB (by kernel_rfl) (by kernel_rfl) ?_; (repeat (go_big_quiet_step (fail))); refine wpQuiet_nil ?_; intro wq hq; replace HOC := Lib.hid (HOC.out.below hq); replace HR := Lib.hid (HR.out.below hq); replace HB := Lib.hid (HB.out.trans (hq.mono HB.out.size)); clear hq
                      clear g0 g1 g2 g3
                      go_wp2
                      go_roundw
                      case rel => exact ⟨k + 1, (k1 : Int), by omega, by go_num, rfl, HBT.out.skip (.inr (.inr ⟨k1, rfl, by rw [HD.out, HD1.out]; omega⟩)), HOC.out, HR.out, HB.out⟩
                      case measure => simp [intOf]; omega
                · have e1 : decide (0 ≤ F) = false := decide_eq_false hf0
                  go_wp2
                  refine wp_quietB (by kernel_rfl) (by kernel_rfl) ?_; (repeat (go_big_quiet_step (fail))); refine wpQuiet_nil ?_; intro wq hq; replace HOC := Lib.hid (HOC.out.below hq); replace HR := Lib.hid (HR.out.below hq); replace HB := Lib.hid (HB.out.trans (hq.mono HB.out.size)); clear hq
                  clear g0 g1 g2
                  go_wp2
                  go_roundw
                  case rel => exact ⟨k + 1, x, by omega, by go_num, rfl, HBT.out.skip (.inr (.inl (by rw [HF.out]; omega))), HOC.out, HR.out, HB.out⟩
                  case measure => simp [intOf]; omega
              · rw [hok] at g0
                have HOK := Lib.hid hok; clear hok
                have hng : decide ((i : Int) < 0) = false := by simp <;> omega
                go_wp2
                refine wp_quietB (by kernel_rfl) (by kernel_rfl) ?_; (repeat (go_big_quiet_step (fail))); refine wpQuiet_nil ?_; intro wq hq; replace HOC := Lib.hid (HOC.out.below hq); replace HR := Lib.hid (HR.out.below hq); replace HB := Lib.hid (HB.out.trans (hq.mono HB.out.size)); clear hq
                clear g0
                go_wp2
                go_roundw
                case rel => exact ⟨k + 1, x, by omega, by go_num, rfl, HBT.out.skip (.inl (by rw [HOK.out]; omega)), HOC.out, HR.out, HB.out⟩
                case measure => simp [intOf]; omega
            · have hke : k = n := by omega
              subst hke
              have HCr := Lib.hid (fun i j (hi : i ≤ r) (hj : j < k) => (HC.out i j (by omega) hj).2)
              rcases HBT.out with ⟨rfl, hno⟩ | ⟨k0, hk0, rfl, hfree, hf0, hmin⟩
              · have HNO := Lib.hid (HY.out.none HP.out HFX.out HCr.out (by omega) hno (fun i => i < c.length) (fun i hi => by omega))
                go_wp2
                go_ret
                exact ⟨-1, rfl, .inl ⟨rfl, by rw [HN.out]; exact HNO.out⟩, HB.out⟩
              · obtain ⟨ord, frm, F, hfrm⟩ := HY.out.fin HP.out HFX.out HCr.out hk0 hfree hf0 hmin
                have hv0 := HP.out.free k0 hk0 hfree
                have hbase : (fun k => d k - v k) k0 = d k0 := by simp only [hv0]; omega
                obtain ⟨u', v', q, hprice⟩ := new_prices HP.out (dist := fun k => d k - v k) (base := d k0 - v k0) F.nod F.lt
                have HFi := Lib.hid F; have HFR := Lib.hid hfrm; have HQ := Lib.hid q; have HPR := Lib.hid hprice
                have b1 := F.bnd; have b2 := F.pos
                simp only [hbase] at b1 b2
                have g2 := HR.out.cellD hk0
                obtain ⟨g, rfl, ro⟩ := HOC.out k0 hk0
                have HRO := Lib.hid ro
                have hgw := HG.out (by omega) g rfl
                clear ro
                clear F hfrm q hprice hmin hf0 hfree HBT
                go_wp2
                go_loopg [10] (ord.length + 2) (fun gh s10 W => ∃ (kk : Int) (o : Nat → Int), s10 = .int .i64 kk ∧ RowC W g k o ∧ RowD W b k d f ∧ Below w.heap.size w W ∧ ((∃ (k' : Nat) (pre : List Nat), kk = (k' : Int) ∧ gh = pre.length + 2 ∧ Back (cc c) k r u' v' ow ord k0 k' pre o) ∨ (kk = -1 ∧ gh = 1 ∧ Pot (cc c) k (r + 1) (((r + 1 : Nat) : Int) * (k * 1000000)) u' v' o)))
                case atStart => exact ⟨k0, ow, rfl, HRO.out, HR.out, HB.out, .inl ⟨k0, ord, rfl, rfl, Aug.start HP.out HFi.out HQ.out, rfl⟩⟩
                case round =>
                  clear HRO HR HB HOC
                  obtain ⟨kk, o, rfl, hro, hrw, hb, h⟩ := hrel
                  have HRO := Lib.hid hro; have HR := Lib.hid hrw; have HB := Lib.hid hb
                  have HNE := Lib.hid (hrw.ne hro)
                  clear hro hrw hb
                  rcases h with ⟨k', pre, rfl, hg, A⟩ | ⟨rfl, hg, P⟩
                  · have HA := Lib.hid A; have HGH := Lib.hid hg
                    have hkn := A.aug.hk
                    have hin : k' ∈ ord ∨ k' = k0 := by
                      rcases A.aug.at_ with ⟨e, _⟩ | ⟨post, e⟩
                      · exact .inr e
                      · exact .inl (by rw [e]; simp)
                    have g0 := HR.out.cellF hkn
                    have g1 := HRO.out.cell hkn
                    have g3 := HRO.out.free k'
                    clear A hg
                    rcases HFR.out k' hin with ⟨hf1, hf2⟩ | ⟨k2, hk2, h02, hf1, hf2⟩
                    · rw [hf1] at g0
                      have HF2 := Lib.hid hf2
                      clear hf1 hf2
                      have hrr : ((r : Int) == (r : Int)) = true := by simp
                      go_wp2_with (fail)
                      refine (held_any g k capo o r _ hw200 HRO.out).mono ?_
                      rintro e w2 ⟨x, rfl, _, rfl⟩
                      go_wp2
                      go_roundg 1
                      case measure => have := HGH.out; omega
                      case rel => exact ⟨-1, upd o k' (r : Int), rfl, HRO.out.set hkn _, HR.out.other HNE.out _, below_set HB.out hgw _, .inr ⟨rfl, rfl, by
                        have := HA.out.aug.last HP.out HFi.out HQ.out (by rw [HF2.out]; decide)
                        rw [show (((r + 1 : Nat) : Int) * ((k : Int) * 1000000)) = (r : Int) * ((k : Int) * 1000000) + (k : Int) * 1000000 by rw [Int.natCast_add, Int.add_mul]; simp]
                        exact this⟩⟩
                    · obtain ⟨pre', s1, s2, s3, s4, s5, A2⟩ := HA.out.aug.step HP.out HFi.out HQ.out hf2
                      obtain ⟨i, hi, hir, _⟩ := HP.out.row hk2 h02
                      rw [hf1, hi] at g0
                      have HHI := Lib.hid hi; have HA2 := Lib.hid A2; have HS1 := Lib.hid s1; have HS5 := Lib.hid s5; have HS3 := Lib.hid s3
                      clear hi A2 s1 s5 s4 s3 hf1 hf2 s2
                      have hrr : ((i : Int) == (r : Int)) = false := by simp; omega
                      go_wp2_with (fail)
                      refine (held_any g k capo o i _ hw200 HRO.out).mono ?_
                      rintro e w2 ⟨x, rfl, hx, rfl⟩
                      have hxk : x = (k2 : Int) := by
                        rcases hx with ⟨_, hx⟩ | ⟨x', hx', rfl, hx⟩
                        · exact absurd (by rw [HS5.out]; exact HHI.out) (hx k2 hk2)
                        · rw [HA.out.held HP.out HFi.out hk2 HS3.out h02 HS5.out hx' (by rw [hx, HHI.out])]
                      subst hxk
                      clear hx
                      go_wp2
                      go_roundg (pre'.length + 2)
                      case measure => have := HGH.out; have := HS1.out; omega
                      case rel => exact ⟨k2, upd o k' (i : Int), rfl, HRO.out.set hkn _, HR.out.other HNE.out _, below_set HB.out hgw _, .inl ⟨k2, pre', rfl, rfl, ⟨by
                        have := HA2.out
                        rw [HS5.out, HHI.out] at this
                        exact this, by
                        have hne := ((HA.out.aug.par HFi.out).2.1 k2 HS3.out).2
                        rw [upd_ne _ _ hne]; exact HS5.out⟩⟩⟩
                  · have HPP := Lib.hid P; clear P hg
                    go_wp2
                    go_roundw
                    case rel => exact ⟨r + 1, u', v', o, t + d k0, by omega, by go_num, rfl, fun j hj => ⟨g, rfl, HRO.out⟩, HPP.out, by have := HPR.out; have := HT.out; omega, ⟨by omega, by
                      have : ((r + 1 : Nat) : Int) * 200000000 = (r : Int) * 200000000 + 200000000 := by rw [Int.natCast_add, Int.add_mul]; simp
                      omega⟩, HB.out⟩
                    case measure => simp [intOf]; omega
        · have hre : r = c.length := by omega
          subst hre
          have HL := Lib.hid (least_of (V := (c.length : Int) * ((wideL c : Nat) * 1000000)) (by rw [HN.out]; exact HP.out) (by rw [HN.out, ← HT.out]; exact htb.1))
          go_wp2
          go_ret
          exact ⟨t, rfl, by rw [HT.out, ← HN.out]; exact HL.out, HB.out⟩
end Go.Proofs.YtehdhbnbajfanaaGreat


/- The reference functions over costs: Matching. -/
namespace Go.Proofs.YtehdhbnbajfanaaGreat
set_option linter.unusedSimpArgs false
set_option linter.unusedVariables false
open Go.RowKit Go.Sort Go.Shelf

theorem keepC {w w' : World} {p : Addr} {v : Value} (h : w.cell? p = some v) (hb : Below w.heap.size w w') : w'.cell? p = some v := by
  have hp : p.block < w.heap.size := by
    unfold World.cell? at h
    rcases Nat.lt_or_ge p.block w.heap.size with h1 | h1
    · exact h1
    · rw [Array.getElem?_eq_none h1] at h; cases h
  rw [hb.cell hp]; exact h
def gz (l : List Int) (i : Nat) : Int := l.getD i (-1)
def nz (l : List Int) (i : Nat) : Nat := (gz l i).toNat
theorem gz_get {l : List Int} {i : Nat} (hi : i < l.length) : gz l i = l[i] := by simp [gz, List.getD, hi]
/-- The columns l are a matching of all rows of c. -/
structure IsMt (c : List (List Int)) (l : List Int) : Prop where
  len : l.length = c.length
  in_ : ∀ i, i < c.length → 0 ≤ gz l i ∧ gz l i < wideL c
  can : ∀ i, i < c.length → 0 ≤ cc c i (nz l i)
  dif : ∀ k i, k < i → i < c.length → gz l k ≠ gz l i
def costL (c : List (List Int)) (l : List Int) : Int := costOf (cc c) c.length (nz l)
theorem IsMt.mt {c : List (List Int)} {l : List Int} (h : IsMt c l) : Mt (may (cc c)) (fun i => i < c.length) (wideL c) (nz l) := by
  refine ⟨fun i hi => ?_, fun i hi => (may_iff _ _ _).2 (h.can i hi), fun i j hi hj e => ?_⟩
  · have := h.in_ i hi
    simp only [nz]; omega
  · have h1 := (h.in_ i hi).1
    have h2 := (h.in_ j hj).1
    have e2 : gz l i = gz l j := by simp only [nz] at e; omega
    rcases Nat.lt_trichotomy i j with q | q | q
    · exact absurd e2 (h.dif i j q hj)
    · exact q
    · exact absurd e2.symm (h.dif j i q hi)
theorem IsMt.of {c : List (List Int)} {l : List Int} (hl : l.length = c.length) {f : Nat → Nat} (h : Mt (may (cc c)) (fun i => i < c.length) (wideL c) f) (e : ∀ i, i < c.length → gz l i = f i) : IsMt c l := by
  refine ⟨hl, fun i hi => ?_, fun i hi => ?_, fun k i hki hi e2 => ?_⟩
  · have := h.lt i hi
    rw [e i hi]; omega
  · have := (may_iff _ _ _).1 (h.can i hi)
    rw [nz, e i hi]; exact this
  · rw [e k (by omega), e i hi] at e2
    have := h.inj k i (by show k < c.length; omega) hi (by omega)
    omega
/-- So far. -/
structure IsMtTo (c : List (List Int)) (l : List Int) (k : Nat) : Prop where
  in_ : ∀ i, i < k → 0 ≤ gz l i ∧ gz l i < wideL c
  can : ∀ i, i < k → 0 ≤ cc c i (nz l i)
  dif : ∀ k' i, k' < i → i < k → gz l k' ≠ gz l i
theorem Rcols_b (a : Option Addr) (cap : Nat) (c : List (List Int)) (w : World) (hl : c.length ≤ 100000000000000) (hm : MatAt w a c) :
    Calls Tryz.prog 72 #[.slice a c.length cap] w fun e w' => e = .returned (.int .i64 (wideL c : Nat)) ∧ Below w.heap.size w w' :=
  (Rcols_any a cap c w hl hm).mono fun e w' ⟨h1, h2⟩ => ⟨h1, by subst h2; exact Below.refl _ _⟩
theorem IsMtTo.end_ {c : List (List Int)} {l : List Int} (h : IsMtTo c l c.length) (hl : l.length = c.length) : IsMt c l := ⟨hl, h.in_, h.can, h.dif⟩
theorem IsMtTo.next {c : List (List Int)} {l : List Int} {k : Nat} (h : IsMtTo c l k) (h1 : 0 ≤ gz l k ∧ gz l k < wideL c) (h2 : 0 ≤ cc c k (nz l k)) (h3 : ∀ k', k' < k → gz l k' ≠ gz l k) : IsMtTo c l (k + 1) := by
  refine ⟨fun i hi => ?_, fun i hi => ?_, fun k' i hk hi => ?_⟩
  · by_cases e : i = k
    · subst e; exact h1
    · exact h.in_ i (by omega)
  · by_cases e : i = k
    · subst e; exact h2
    · exact h.can i (by omega)
  · by_cases e : i = k
    · subst e; exact h3 k' hk
    · exact h.dif k' i hk (by omega)
theorem costTo_bounds {c : List (List Int)} {l : List Int} (hc : formE c = 0) {k : Nat} (hk : k ≤ c.length) (h : IsMtTo c l k) : 0 ≤ costOf (cc c) k (nz l) ∧ costOf (cc c) k (nz l) ≤ 1000000 * k := by
  obtain ⟨_, _, f3, f4⟩ := formE_ok hc
  have cl := cc_le f3 f4
  clear f3 f4
  induction k with
  | zero => simp [costOf, sumN]
  | succ k ih =>
    have i1 := ih (by omega) ⟨fun i hi => h.in_ i (by omega), fun i hi => h.can i (by omega), fun a b x y => h.dif a b x (by omega)⟩
    have h1 := h.can k (by omega)
    have h2 := h.in_ k (by omega)
    have h3 := (cl k (nz l k) (by omega) (by simp only [nz]; omega)).2
    have e : costOf (cc c) (k + 1) (nz l) = costOf (cc c) k (nz l) + cc c k (nz l k) := rfl
    rw [e]; omega
end Go.Proofs.YtehdhbnbajfanaaGreat


/- The reference functions over costs: Total, Proves. -/
namespace Go.Proofs.YtehdhbnbajfanaaGreat
set_option linter.unusedSimpArgs false
set_option linter.unusedVariables false
open Go.RowKit Go.Sort Go.Shelf

/-- These are prices for the costs c. -/
structure IsPr (c : List (List Int)) (rs cs : List Int) : Prop where
  len1 : rs.length = c.length
  len2 : cs.length = wideL c
  col : ∀ k, k < wideL c → priceOk (gz cs k) = true ∧ gz cs k ≤ 0
  row : ∀ i, i < c.length → priceOk (gz rs i) = true
  feas : ∀ i k, i < c.length → k < wideL c → 0 ≤ cc c i k → gz rs i + gz cs k ≤ cc c i k
def priceL (c : List (List Int)) (rs cs : List Int) : Int := priceOf (wideL c) c.length (gz rs) (gz cs)
theorem IsPr.fair {c : List (List Int)} {rs cs : List Int} (h : IsPr c rs cs) : Fair (cc c) (wideL c) c.length (gz rs) (gz cs) := ⟨h.feas, fun k hk => (h.col k hk).2⟩
theorem price_iff {n : Int} : priceOk n = true ↔ -1000000000 ≤ n ∧ n ≤ 1000000000 := by simp [priceOk]
theorem sum_price {l : List Int} {n : Nat} (h : ∀ i, i < n → priceOk (gz l i) = true) : -1000000000 * (n : Int) ≤ sumN (gz l) n ∧ sumN (gz l) n ≤ 1000000000 * n := by
  induction n with
  | zero => simp [sumN]
  | succ n ih =>
    have i1 := ih fun i hi => h i (by omega)
    have i2 := price_iff.1 (h n (by omega))
    have e : sumN (gz l) (n + 1) = sumN (gz l) n + gz l n := rfl
    rw [e]; omega
end Go.Proofs.YtehdhbnbajfanaaGreat


/- The reference function Proves. -/
namespace Go.Proofs.YtehdhbnbajfanaaGreat
set_option linter.unusedSimpArgs false
set_option linter.unusedVariables false
open Go.RowKit Go.Sort Go.Shelf

/-- The prices prove the matching. -/
def Proof (c : List (List Int)) (l rs cs : List Int) : Prop := formE c = 0 ∧ IsMt c l ∧ IsPr c rs cs ∧ costL c l = priceL c rs cs
def ProvesPost (c : List (List Int)) (l rs cs : List Int) (w : World) (e : Ending) (w' : World) : Prop :=
  ∃ b : Bool, e = .returned (.tuple #[.bool b, .int .i64 (formE c)]) ∧ (b = true ↔ Proof c l rs cs) ∧ Below w.heap.size w w'
end Go.Proofs.YtehdhbnbajfanaaGreat


/- match.Proves, walked. -/
namespace Go.Proofs.YtehdhbnbajfanaaGreat
set_option linter.unusedSimpArgs false
set_option linter.unusedVariables false
open Go.RowKit Go.Sort Go.Shelf

abbrev encI (n : Int) : Value := .int .i64 n
theorem keyI : KeyOk Tryz.prog 3 encI := keyInt Tryz.underlying3
theorem zeroBool (w : World) : (zeroValue 4).run Tryz.prog w = .ok (.bool false) w := by kernel_rfl
/-- Block r is a map of the first k columns. -/
def UsedAt (W : World) (r : Nat) (l : List Int) (k : Nat) : Prop := ∃ m, MapAt W encI r m ∧ ∀ x, (mget m x).getD (.bool false) = .bool ((l.take k).contains x)
theorem UsedAt.below {W W' : World} {r : Nat} {l : List Int} {k : Nat} (h : UsedAt W r l k) (hb : Below W.heap.size W W') : UsedAt W' r l k := by
  obtain ⟨m, h1, h2⟩ := h
  exact ⟨m, h1.below hb, h2⟩
theorem UsedAt.look {W : World} {r : Nat} {l : List Int} {k : Nat} (h : UsedAt W r l k) (x : Int) : (Instr.lookup 40 (.map (some r)) (.int .i64 x) false).run Tryz.prog W = .ok (.bool ((l.take k).contains x)) W := by
  obtain ⟨m, h1, h2⟩ := h
  rw [← h2 x]
  exact run_lookup_at Tryz.underlying40 keyI zeroBool h1 x false
theorem used_put {m : List (Int × Value)} {l : List Int} {k : Nat} (h : ∀ x, (mget m x).getD (.bool false) = .bool ((l.take k).contains x)) (hk : k < l.length) (x : Int) : (mget (mput m l[k] (.bool true)) x).getD (.bool false) = .bool ((l.take (k + 1)).contains x) := by
  rw [mget_mput, List.take_succ_eq_append_getElem hk]
  generalize l.take k = t at *
  generalize l[k] = y at *
  by_cases e : x = y
  · rw [if_pos e, e]; simp
  · rw [if_neg e, h x]; simp [e]
theorem used_dif {l : List Int} {k : Nat} (hk : k < l.length) (h : (l.take k).contains l[k] = false) : ∀ k', k' < k → gz l k' ≠ gz l k := fun k' hk' e => by
  rw [gz_get hk, gz_get (by omega)] at e
  have : l[k] ∈ l.take k := by
    rw [← e]
    exact List.mem_iff_getElem.2 ⟨k', by simp; omega, by simp⟩
  have : (l.take k).contains l[k] = true := by simpa using this
  rw [h] at this; cases this
theorem used_same {l : List Int} {k : Nat} (hk : k < l.length) (h : (l.take k).contains l[k] = true) : ∃ k', k' < k ∧ gz l k' = gz l k := by
  have : l[k] ∈ l.take k := by simpa using h
  obtain ⟨k', h1, h2⟩ := List.mem_iff_getElem.1 this
  rw [List.length_take] at h1
  refine ⟨k', by omega, ?_⟩
  rw [gz_get hk, gz_get (by omega)]
  simpa using h2
end Go.Proofs.YtehdhbnbajfanaaGreat


/- Plain laws: what Best, Prices and Short say proves what the laws of matchings say; the examples. -/
namespace Go.Proofs.YtehdhbnbajfanaaGreat
set_option linter.unusedSimpArgs false
set_option linter.unusedVariables false
open Go.RowKit Go.Sort Go.Shelf

def natsI (l : List Nat) : List Int := l.map fun i : Nat => (i : Int)
theorem natsI_len (l : List Nat) : (natsI l).length = l.length := by simp [natsI]
theorem gz_nats {l : List Nat} {i : Nat} (hi : i < l.length) : gz (natsI l) i = (l.getD i 0 : Nat) := by
  simp [gz, natsI, List.getD, hi]
theorem nz_nats {l : List Nat} {i : Nat} (hi : i < l.length) : nz (natsI l) i = l.getD i 0 := by
  rw [nz, gz_nats hi]; simp
def rangeI (f : Nat → Int) (n : Nat) : List Int := (List.range n).map f
theorem rangeI_len (f : Nat → Int) (n : Nat) : (rangeI f n).length = n := by simp [rangeI]
theorem gz_range {f : Nat → Int} {n i : Nat} (hi : i < n) : gz (rangeI f n) i = f i := by simp [gz, rangeI, List.getD, hi]
theorem RowAt.inAt {w : World} {b n : Nat} {T : TypeId} {f : Nat → Int} (r : RowAt w b n T (iv f)) : InAt w (some ⟨b, 0, none⟩) (rangeI f n) := by
  have := r.slAt
  unfold InAt rangeI
  rw [List.map_map]
  exact this
/-- What a best answer has. -/
structure BestHas (c : List (List Int)) (l : List Nat) (u v : Nat → Int) : Prop where
  len : l.length = c.length
  tight : Tight (cc c) (wideL c) c.length u v (fun i => l.getD i 0)
  fair : Fair (cc c) (wideL c) c.length u v
  min : ∀ g, Tight (cc c) (wideL c) c.length u v g → ∀ j, j < c.length → (∀ j', j' < j → g j' = l.getD j' 0) → l.getD j 0 ≤ g j
theorem Tight.congr {C : Nat → Nat → Int} {n m : Nat} {u v : Nat → Int} {f g : Nat → Nat} (t : Tight C n m u v f) (e : ∀ i, i < m → f i = g i) : Tight C n m u v g :=
  ⟨⟨fun i hi => by rw [← e i hi]; exact t.mt.lt i hi, fun i hi => by rw [← e i hi]; exact t.mt.can i hi, fun i j hi hj h => by rw [← e i hi, ← e j hj] at h; exact t.mt.inj i j hi hj h⟩, fun i hi => by rw [← e i hi]; exact t.eq i hi, fun k hk hv => by
    obtain ⟨i, hi, h⟩ := t.all k hk hv
    exact ⟨i, hi, by rw [← e i hi]; exact h⟩⟩
theorem best_has {c : List (List Int)} {l : List Nat} {total : Int} {ok : Bool} {err : Int} (h : BestSays c l total ok err) (hok : ok = true) : ∃ u v, (∃ ow, Pot (cc c) (wideL c) c.length (c.length * (wideL c * 1000000)) u v ow) ∧ BestHas c l u v ∧ formE c = 0 ∧ err = 0 ∧ total = totL c l := by
  rcases h with ⟨_, _, _, h, _⟩ | ⟨_, _, _, _, _, h⟩ | ⟨h1, h2, _, h3, h4, u, v, ⟨ow, p⟩, b⟩
  · rw [hok] at h; cases h
  · rw [hok] at h; cases h
  · refine ⟨u, v, ⟨ow, p⟩, ⟨h4, ?_, (pot_fair p).1, fun g hg j hj hp => b.min j (by omega) g hg fun j' hj' => hp j' hj'⟩, h1, h2, h3⟩
    obtain ⟨f, hf, e⟩ := b.ex
    exact hf.congr fun i hi => e i (by omega)
theorem totL_cost {c : List (List Int)} {l : List Nat} (h : l.length = c.length) : totL c l = costOf (cc c) c.length (fun i => l.getD i 0) := by
  unfold totL costOf; rw [h]
theorem BestHas.least {c : List (List Int)} {l : List Nat} {u v : Nat → Int} (b : BestHas c l u v) {f : Nat → Nat} (hf : Mt (may (cc c)) (fun i => i < c.length) (wideL c) f) : totL c l ≤ costOf (cc c) c.length f := by
  rw [totL_cost b.len, tight_eq b.fair b.tight]
  exact (fair_le b.fair hf).1
theorem BestHas.tightOf {c : List (List Int)} {l : List Nat} {u v : Nat → Int} (b : BestHas c l u v) {f : Nat → Nat} (hf : Mt (may (cc c)) (fun i => i < c.length) (wideL c) f) (he : costOf (cc c) c.length f ≤ totL c l) : Tight (cc c) (wideL c) c.length u v f := by
  rw [totL_cost b.len, tight_eq b.fair b.tight] at he
  exact (fair_le b.fair hf).2 he
theorem BestHas.isMt {c : List (List Int)} {l : List Nat} {u v : Nat → Int} (b : BestHas c l u v) : IsMt c (natsI l) :=
  IsMt.of (by rw [natsI_len, b.len]) b.tight.mt fun i hi => gz_nats (by rw [b.len]; exact hi)
theorem BestHas.cost {c : List (List Int)} {l : List Nat} {u v : Nat → Int} (b : BestHas c l u v) : costL c (natsI l) = totL c l := by
  rw [totL_cost b.len]
  unfold costL costOf
  exact sumN_congr fun i hi => by rw [nz_nats (by rw [b.len]; exact hi)]
/-- No matching: no best one. -/
theorem best_not {c : List (List Int)} {l : List Nat} {total : Int} {ok : Bool} {err : Int} (h : BestSays c l total ok err) (hok : ok = false) : l = [] ∧ total = 0 ∧ err = formE c ∧ (formE c = 0 → ¬ Mtd (may (cc c)) (fun i => i < c.length) (wideL c)) := by
  rcases h with ⟨h1, h2, h3, _, h4⟩ | ⟨h1, h2, h3, h4, h5, _⟩ | ⟨_, _, h, _⟩
  · exact ⟨h2, h3, h4, fun e => absurd e h1⟩
  · exact ⟨h4, h5, by rw [h1, h2], fun _ => h3⟩
  · rw [hok] at h; cases h
theorem best_err {c : List (List Int)} {l : List Nat} {total : Int} {ok : Bool} {err : Int} (h : BestSays c l total ok err) : err = formE c := by
  rcases h with ⟨_, _, _, _, h⟩ | ⟨h1, h2, _⟩ | ⟨h1, h2, _⟩
  · exact h
  · rw [h1, h2]
  · rw [h1, h2]
theorem best_ok {c : List (List Int)} {l : List Nat} {total : Int} {ok : Bool} {err : Int} (h : BestSays c l total ok err) (he : formE c = 0) (hm : Mtd (may (cc c)) (fun i => i < c.length) (wideL c)) : ok = true := by
  cases hok : ok
  · exact absurd hm ((best_not h hok).2.2.2 he)
  · rfl
theorem best_no {c : List (List Int)} {l : List Nat} {total : Int} {ok : Bool} {err : Int} (h : BestSays c l total ok err) (hm : ¬ Mtd (may (cc c)) (fun i => i < c.length) (wideL c)) : ok = false := by
  cases hok : ok
  · rfl
  · obtain ⟨u, v, _, b, _⟩ := best_has h hok
    exact absurd ⟨_, b.tight.mt⟩ hm
/-- Prices prove the best matching. -/
theorem proof_of {c : List (List Int)} {l : List Nat} {u v u' v' : Nat → Int} {ow' : Nat → Int} (he : formE c = 0) (h7 : c.length ≤ 7) (h8 : wideL c ≤ 8) (b : BestHas c l u v) (p : Pot (cc c) (wideL c) c.length (c.length * (wideL c * 1000000)) u' v' ow') :
    Proof c (natsI l) (rangeI u' c.length) (rangeI v' (wideL c)) := by
  obtain ⟨f1, f2, f3, f4⟩ := formE_ok he
  have hV : c.length * (wideL c * 1000000) ≤ 7 * (8 * 1000000) := Nat.mul_le_mul h7 (Nat.mul_le_mul_right _ h8)
  have hVi : (c.length : Int) * (wideL c * 1000000) ≤ 56000000 := by
    have : ((c.length * (wideL c * 1000000) : Nat) : Int) = (c.length : Int) * (wideL c * 1000000) := by simp
    omega
  have hV0 : (0 : Int) ≤ (c.length : Int) * (wideL c * 1000000) := by
    have : ((c.length * (wideL c * 1000000) : Nat) : Int) = (c.length : Int) * (wideL c * 1000000) := by simp
    omega
  have fair' := (pot_fair p).1
  obtain ⟨g, hg⟩ := (pot_fair p).2
  refine ⟨he, b.isMt, ⟨rangeI_len _ _, rangeI_len _ _, fun k hk => ?_, fun i hi => ?_, fun i k hi hk h0 => ?_⟩, ?_⟩
  · rw [gz_range hk]
    have h1 := p.vlow k hk
    have h2 := p.vneg k hk
    exact ⟨price_iff.2 ⟨by omega, by omega⟩, h2⟩
  · rw [gz_range hi]
    have h1 := p.upos i hi
    have h2 := p.usmall (fun i k hi hk => (cc_le f3 f4 i k hi hk).2) hV0 i
    exact price_iff.2 ⟨by omega, by omega⟩
  · rw [gz_range hi, gz_range hk]
    exact fair'.feas i k hi hk h0
  · rw [b.cost]
    have e1 : priceL c (rangeI u' c.length) (rangeI v' (wideL c)) = priceOf (wideL c) c.length u' v' := by
      unfold priceL priceOf
      rw [sumN_congr (F := gz (rangeI u' c.length)) (G := u') fun k hk => gz_range hk, sumN_congr (F := gz (rangeI v' (wideL c))) (G := v') fun k hk => gz_range hk]
    rw [e1]
    have h1 := tight_eq fair' hg
    have h2 := b.least hg.mt
    have h3 := (fair_le fair' b.tight.mt).1
    rw [← totL_cost b.len] at h3
    omega
theorem proof_cost {c : List (List Int)} {l rs cs : List Int} (h : Proof c l rs cs) {f : Nat → Nat} (hf : Mt (may (cc c)) (fun i => i < c.length) (wideL c) f) : costL c l ≤ costOf (cc c) c.length f := by
  rw [h.2.2.2]
  exact (fair_le h.2.2.1.fair hf).1
/-- The example. -/
def E0 : List (List Int) := [[1, 2], [1, 4]]
def E1 : List (List Int) := [[1, -1], [2, -1]]
def E2 : List (List Int) := [[-1]]
def E3 : List (List Int) := [[1], [1, 2]]
theorem e0_mt : Mt (may (cc E0)) (fun i => i < E0.length) (wideL E0) (fun i => 1 - i) :=
  ⟨fun i hi => by have hi : i < 2 := hi; show 1 - i < 2; omega, fun i hi => by
    have hi : i < 2 := hi
    match i, hi with
    | 0, _ => rfl
    | 1, _ => rfl, fun i j hi hj e => by have hi : i < 2 := hi; have hj : j < 2 := hj; omega⟩
theorem list2 {l : List Nat} (h : l.length = 2) : l = [l.getD 0 0, l.getD 1 0] := by
  match l, h with
  | [a, b], _ => rfl
theorem best0 {l : List Nat} {total : Int} {ok : Bool} {err : Int} (h : BestSays E0 l total ok err) : l = [1, 0] ∧ total = 3 ∧ ok = true ∧ err = 0 := by
  have hok := best_ok h (by rfl) ⟨_, e0_mt⟩
  obtain ⟨u, v, _, b, _, h1, h2⟩ := best_has h hok
  have hle := b.least e0_mt
  have hc : costOf (cc E0) E0.length (fun i => 1 - i) = 3 := by rfl
  rw [hc] at hle
  have hl : l.length = 2 := b.len
  have h3 := b.tight.mt.lt 0 (by decide)
  have h4 := b.tight.mt.lt 1 (by decide)
  have h5 := b.tight.mt.inj 0 1 (by decide) (by decide)
  have e := totL_cost b.len
  have e2 : costOf (cc E0) E0.length (fun i => l.getD i 0) = cc E0 0 (l.getD 0 0) + cc E0 1 (l.getD 1 0) := by
    show (0 : Int) + _ + _ = _
    rw [Int.zero_add]
  rw [e2] at e
  have w2 : wideL E0 = 2 := rfl
  rw [w2] at h3 h4
  have hl2 := list2 hl
  generalize l.getD 0 0 = x at *
  generalize l.getD 1 0 = y at *
  subst hl2
  have hx : x = 0 ∨ x = 1 := by have : x < 2 := h3; omega
  have hy : y = 0 ∨ y = 1 := by have : y < 2 := h4; omega
  rcases hx with rfl | rfl <;> rcases hy with rfl | rfl
  · exact absurd (h5 rfl) (by decide)
  · have : totL E0 [0, 1] = 5 := rfl
    omega
  · exact ⟨rfl, by rw [h2]; rfl, hok, h1⟩
  · exact absurd (h5 rfl) (by decide)
theorem e1_no : ¬ Mtd (may (cc E1)) (fun i => i < E1.length) (wideL E1) := by
  rintro ⟨f, hf⟩
  have h3 := hf.lt 0 (by decide)
  have h4 := hf.lt 1 (by decide)
  have c0 := hf.can 0 (by decide)
  have c1 := hf.can 1 (by decide)
  have h5 := hf.inj 0 1 (by decide) (by decide)
  have w2 : wideL E1 = 2 := rfl
  rw [w2] at h3 h4
  generalize f 0 = x at *
  generalize f 1 = y at *
  have hx : x = 0 ∨ x = 1 := by omega
  have hy : y = 0 ∨ y = 1 := by omega
  rcases hx with rfl | rfl <;> rcases hy with rfl | rfl
  · exact absurd (h5 rfl) (by decide)
  · exact absurd c1 (by decide)
  · exact absurd c0 (by decide)
  · exact absurd c0 (by decide)
theorem best1 {l : List Nat} {total : Int} {ok : Bool} {err : Int} (h : BestSays E1 l total ok err) : ok = false ∧ err = 0 :=
  ⟨best_no h e1_no, best_err h⟩
theorem isort_nodup {l : List Int} (h : l.Nodup) : (isort l).Pairwise (· < ·) ∧ (isort l).Perm l := by
  have hp : (isort l).Perm l := List.mergeSort_perm _ _
  have hs : (isort l).Pairwise fun a b => decide (a ≤ b) = true := List.pairwise_mergeSort (fun a b c h1 h2 => by simp at *; omega) (fun a b => by simp; omega) l
  have hn : (isort l).Nodup := hp.symm.nodup h
  refine ⟨?_, hp⟩
  have := hs.and hn
  exact this.imp fun {a b} h => by
    have h1 : a ≤ b := by simpa using h.1
    have h2 : a ≠ b := h.2
    omega
theorem asc_ext {l r : List Int} (hl : l.Pairwise (· < ·)) (hr : r.Pairwise (· < ·)) (h : ∀ x, x ∈ l ↔ x ∈ r) : l = r := by
  have nl : l.Nodup := hl.imp fun {a b} h => by omega
  have nr : r.Nodup := hr.imp fun {a b} h => by omega
  refine List.Perm.eq_of_pairwise (le := fun a b => a ≤ b) (fun a b _ _ h1 h2 => by omega) (hl.imp fun {a b} h => by omega) (hr.imp fun {a b} h => by omega) ?_
  exact (List.perm_ext_iff_of_nodup nl nr).2 h
theorem short1 {l : List Int} {short : Bool} {err : Int} (h : ShortSays E1 l short err) : l = [0, 1] ∧ short = true ∧ err = 0 := by
  obtain ⟨he, h⟩ := h
  have he0 : err = 0 := he
  rcases h with ⟨_, _, h⟩ | ⟨_, hs, j, ms, C, hl⟩
  · exact absurd (h he0) e1_no
  · refine ⟨?_, hs, he0⟩
    have hj : j < 2 := C.lt
    have hlt : ∀ x ∈ ms, x < 2 := fun x hx => by have := C.le x hx; omega
    have one : ∀ y, y < 2 → Mtd (canC E1) (fun i => i = y) (wideL E1) := fun y hy => ⟨fun _ => 0, fun i _ => by show 0 < 2; omega, fun i hi => by
      have hi : i = y := hi
      subst hi
      match i, hy with
      | 0, _ => rfl
      | 1, _ => rfl, fun i j hi hj _ => by have hi : i = y := hi; have hj : j = y := hj; omega⟩
    have all : ∀ y, y < 2 → y ∈ ms := fun y hy => by
      apply Classical.byContradiction
      intro hn
      exact C.no ((one (1 - y) (by omega)).sub fun i hi => by
        have h1 : i ∈ ms := hi
        have h2 := hlt i h1
        have h3 : i ≠ y := fun e => hn (e ▸ h1)
        show i = 1 - y
        omega)
    have hnd : (ms.map fun i : Nat => (i : Int)).Nodup := List.Pairwise.map (R := fun a b => a ≠ b) (fun i : Nat => (i : Int)) (fun a b h e => h (by omega)) C.nodup
    obtain ⟨s1, s2⟩ := isort_nodup hnd
    rw [hl]
    refine asc_ext s1 (by decide) fun x => ?_
    rw [s2.mem_iff, List.mem_map]
    constructor
    · rintro ⟨i, hi, rfl⟩
      have := hlt i hi
      have : i = 0 ∨ i = 1 := by omega
      rcases this with rfl | rfl <;> simp
    · intro hx
      have : x = 0 ∨ x = 1 := by simpa using hx
      rcases this with rfl | rfl
      · exact ⟨0, all 0 (by omega), rfl⟩
      · exact ⟨1, all 1 (by omega), rfl⟩
theorem e2_no : ¬ Mtd (may (cc E2)) (fun i => i < E2.length) (wideL E2) := by
  rintro ⟨f, hf⟩
  have h3 := hf.lt 0 (by decide)
  have c0 := hf.can 0 (by decide)
  have w2 : wideL E2 = 1 := rfl
  rw [w2] at h3
  generalize f 0 = x at *
  have hx : x = 0 := by omega
  subst hx
  exact absurd c0 (by decide)
theorem proof0 : Proof E0 [1, 0] [2, 2] [-1, 0] := by
  refine ⟨rfl, IsMt.of rfl e0_mt fun i hi => ?_, ⟨rfl, rfl, fun k hk => ?_, fun i hi => ?_, fun i k hi hk => ?_⟩, rfl⟩
  · have hi : i < 2 := hi
    match i, hi with
    | 0, _ => rfl
    | 1, _ => rfl
  · have hk : k < 2 := hk
    match k, hk with
    | 0, _ => decide
    | 1, _ => decide
  · have hi : i < 2 := hi
    match i, hi with
    | 0, _ => rfl
    | 1, _ => rfl
  · have hi : i < 2 := hi
    have hk : k < 2 := hk
    match i, hi, k, hk with
    | 0, _, 0, _ => decide
    | 0, _, 1, _ => decide
    | 1, _, 0, _ => decide
    | 1, _, 1, _ => decide
theorem proof1 : ¬ Proof E0 [0, 1] [2, 2] [-1, 0] := fun h => absurd h.2.2.2 (by decide)
end Go.Proofs.YtehdhbnbajfanaaGreat


/- The reference functions over costs: Some, Without, Get. -/
namespace Go.Proofs.YtehdhbnbajfanaaGreat
set_option linter.unusedSimpArgs false
set_option linter.unusedVariables false
open Go.RowKit Go.Sort Go.Shelf

/-- A slice's words. -/
abbrev Hd := Option Addr × Nat × Nat
def hdr (h : Hd) : List Value := [.slice h.1 h.2.1 h.2.2]
theorem eltHd : Elt Tryz.prog 37 24 1 24 hdr := ⟨Tryz.underlying37, ⟨.slice none 0 0, by kernel_rfl, rfl⟩, by decide, by decide, fun _ => rfl, fun x u hu => by simp [hdr] at hu; subst hu; rfl⟩
theorem mat_words {w : World} {a : Option Addr} {c : List (List Int)} (m : MatAt w a c) : ∃ H : Nat → Hd, ∀ i (hi : i < c.length), (H i).2.1 = c[i].length ∧ SlOk0 (H i).1 (c[i]).length (H i).2.2 ∧ InAt w (H i).1 c[i] ∧ ∃ b off, a = some ⟨b, off, none⟩ ∧ w.cell? ⟨b, off + i, none⟩ = some (.slice (H i).1 (H i).2.1 (H i).2.2) := by
  have h : ∀ i, ∃ h : Hd, ∀ hi : i < c.length, h.2.1 = c[i].length ∧ SlOk0 h.1 (c[i]).length h.2.2 ∧ InAt w h.1 c[i] ∧ ∃ b off, a = some ⟨b, off, none⟩ ∧ w.cell? ⟨b, off + i, none⟩ = some (.slice h.1 h.2.1 h.2.2) := fun i => by
    by_cases hi : i < c.length
    · obtain ⟨b, off, ai, ci, e, c0, hs, hin⟩ := m.get i hi
      exact ⟨(ai, (c[i]).length, ci), fun _ => ⟨rfl, hs, hin, b, off, e, c0⟩⟩
    · exact ⟨(none, 0, 0), fun h => absurd h hi⟩
  exact ⟨fun i => Classical.choose (h i), fun i hi => Classical.choose_spec (h i) hi⟩
/-- Some rows. -/
def pick (c : List (List Int)) (l : List Int) : List (List Int) := l.map fun r => c.getD r.toNat []
theorem pick_len (c : List (List Int)) (l : List Int) : (pick c l).length = l.length := by simp [pick]
theorem mat_hds {w : World} {a : Option Addr} {c : List (List Int)} {H : Nat → Hd} {l : List Int} (hH : ∀ i (hi : i < c.length), (H i).2.1 = c[i].length ∧ SlOk0 (H i).1 (c[i]).length (H i).2.2 ∧ InAt w (H i).1 c[i]) (hl : ∀ r ∈ l, 0 ≤ r ∧ r < c.length)
    (h : SlAt w a 1 ((l.map fun r => H r.toNat).map hdr)) : MatAt w a (pick c l) := by
  refine ⟨(l.map fun r => H r.toNat).map fun h => .slice h.1 h.2.1 h.2.2, ?_, by simp [pick], fun i hi => ?_⟩
  · rw [List.map_map]; exact h
  · rw [pick_len] at hi
    have hr := hl l[i] (List.getElem_mem _)
    obtain ⟨h1, h2, h3⟩ := hH l[i].toNat (by omega)
    have e : (pick c l)[i]'(by rw [pick_len]; exact hi) = c[l[i].toNat]'(by omega) := by
      simp [pick, List.getD, show l[i].toNat < c.length by omega]
    refine ⟨(H l[i].toNat).1, (H l[i].toNat).2.2, ?_, ?_, ?_⟩
    · simp [hi, e, h1]
    · rw [e]; exact h2
    · rw [e]; exact h3
def SomePost (c : List (List Int)) (l : List Int) (w : World) (e : Ending) (w' : World) : Prop :=
  ∃ a cap, e = .returned (.slice a (pick c l).length cap) ∧ SlOk a (pick c l).length cap ∧ MatAt w' a (pick c l) ∧ Below w.heap.size w w'
/-- How many columns some rows can get. -/
def getB (c : List (List Int)) (l : List Int) (k : Nat) : Bool := l.any fun r => decide (0 ≤ cc c r.toNat k)
def getN (c : List (List Int)) (l : List Int) (n : Nat) : Nat := ((List.range n).filter (getB c l)).length
theorem getN_succ (c : List (List Int)) (l : List Int) (n : Nat) : getN c l (n + 1) = getN c l n + if getB c l n then 1 else 0 := by
  unfold getN
  rw [List.range_succ, List.filter_append, List.length_append]
  cases h : getB c l n <;> simp [h]
theorem getN_le (c : List (List Int)) (l : List Int) (n : Nat) : getN c l n ≤ n := by
  have := List.length_filter_le (getB c l) (List.range n)
  simpa [getN] using this
theorem any_take_succ {l : List Int} {m : Nat} (h : m < l.length) (p : Int → Bool) : (l.take (m + 1)).any p = ((l.take m).any p || p l[m]) := by
  rw [List.take_succ_eq_append_getElem h, List.any_append]; simp
end Go.Proofs.YtehdhbnbajfanaaGreat


/- The reference's 'only': costs in which a row can get one column alone, in new memory: walked; for well-formed costs with columns. -/
namespace Go.Proofs.YtehdhbnbajfanaaGreat
set_option linter.unusedSimpArgs false
set_option linter.unusedVariables false
open Go.RowKit Go.Sort Go.Shelf

theorem ownR_made (w : World) (B : Nat) (E : TypeId) (sz : Nat) (hb : B ≤ w.heap.size) : OwnR (w.alloc (.cells #[] E)) B E sz (.slice (some ⟨w.heap.size, 0, none⟩) 0 0) [] :=
  ⟨by simp, World.ownsRow_made w #[] 0 hb (Nat.zero_le _) (by simp)⟩
/-- Row i gets the column k alone. -/
def onlyF (c : List (List Int)) (i k j x : Nat) : Int := if j = i ∧ x ≠ k then -1 else cc c j x
def tabC (m n : Nat) (F : Nat → Nat → Int) : List (List Int) := (List.range m).map fun j => (List.range n).map (F j)
def onlyC (c : List (List Int)) (i k : Nat) : List (List Int) := tabC c.length (wideL c) (onlyF c i k)
theorem tab_len (m n : Nat) (F : Nat → Nat → Int) : (tabC m n F).length = m := by simp [tabC]
theorem tab_row {m n : Nat} {F : Nat → Nat → Int} {j : Nat} (hj : j < m) : (tabC m n F)[j]'(by rw [tab_len]; exact hj) = (List.range n).map (F j) := by simp [tabC]
theorem tab_wide {m n : Nat} {F : Nat → Nat → Int} (hm : 0 < m) : wideL (tabC m n F) = n := by
  cases m with
  | zero => omega
  | succ m => simp [tabC, wideL, List.range_succ_eq_map]
theorem tab_cc {m n : Nat} {F : Nat → Nat → Int} {j x : Nat} (hj : j < m) (hx : x < n) : cc (tabC m n F) j x = F j x := by
  rw [cc_get (by rw [tab_len]; exact hj) (by rw [tab_row hj]; simpa using hx)]
  simp [tab_row hj]
theorem tab_form {m n : Nat} {F : Nat → Nat → Int} (hm : m ≤ 200) (hn : n ≤ 200) (h : ∀ j x, j < m → x < n → -1 ≤ F j x ∧ F j x ≤ 1000000) : formE (tabC m n F) = 0 := by
  refine form_ok (by rw [tab_len]; exact hm) ?_ fun i hi => ?_
  · rw [List.any_eq_false]
    intro x hx
    obtain ⟨i, hi, rfl⟩ := List.mem_iff_getElem.1 hx
    rw [tab_len] at hi
    rw [tab_row hi]
    simp; omega
  · rw [tab_len] at hi
    simp only [rowOk, Bool.and_eq_true, decide_eq_true_eq, List.all_eq_true, costOk]
    rw [tab_row hi, tab_wide (by omega)]
    refine ⟨by simp, fun x hx => ?_⟩
    obtain ⟨k, hk, rfl⟩ := List.mem_map.1 hx
    exact h i k hi (List.mem_range.1 hk)
theorem only_form {c : List (List Int)} (he : formE c = 0) (i k : Nat) : formE (onlyC c i k) = 0 := by
  obtain ⟨f1, f2, f3, f4⟩ := formE_ok he
  refine tab_form f1 f2 fun j x hj hx => ?_
  unfold onlyF
  split
  · omega
  · exact cc_le f3 f4 j x hj hx
theorem row_tab {c : List (List Int)} {j : Nat} (hj : j < c.length) (hl : (c[j]).length = wideL c) : c[j] = (List.range (wideL c)).map (cc c j) := by
  refine List.ext_getElem (by simp [hl]) fun k h1 h2 => ?_
  rw [← cc_get hj h1]; simp
theorem RowC.inAt {w : World} {b n : Nat} {f : Nat → Int} (r : RowC w b n f) : InAt w (some ⟨b, 0, none⟩) ((List.range n).map f) := fun i x hx => by
  rw [List.getElem?_map, List.getElem?_map] at hx
  by_cases hi : i < n
  · rw [List.getElem?_range hi] at hx
    simp only [Option.map_some, Option.some.injEq] at hx
    subst hx
    refine ⟨b, 0, rfl, r.lt, rfl, fun j v hv => ?_⟩
    have hj : j = 0 := by
      have := (List.getElem?_eq_some_iff.1 hv).1
      simp [inRow] at this; omega
    subst hj
    simp [inRow] at hv
    subst hv
    have := r.cell hi
    simpa using this
  · rw [List.getElem?_eq_none (by simp; omega)] at hx
    cases hx
def oH (g cp : Nat → Nat) (n i : Nat) : Hd := (some ⟨g i, 0, none⟩, n, cp i)
/-- Rows that have been made: m of them. -/
structure OnlyI (W : World) (B n m : Nat) (F : Nat → Nat → Int) (s : Value) (g cp : Nat → Nat) : Prop where
  ow : OwnR W B 24 1 s (((List.range m).map (oH g cp n)).map hdr)
  rl : ∀ i, i < m → RowC W (g i) n (F i) ∧ n ≤ cp i ∧ B ≤ g i
theorem OnlyI.below {W W' : World} {B n m : Nat} {F : Nat → Nat → Int} {s : Value} {g cp : Nat → Nat} (h : OnlyI W B n m F s g cp) (hb : Below W.heap.size W W') : OnlyI W' B n m F s g cp :=
  ⟨h.ow.below hb, fun i hi => ⟨(h.rl i hi).1.below hb, (h.rl i hi).2⟩⟩
theorem rowC_ne {W : World} {g n B sz : Nat} {f : Nat → Int} {v : Value} {rows : List (List Value)} (r : RowC W g n f) (o : OwnR W B 24 sz v rows) : v.ownBlock ≠ some g := fun e => by
  obtain ⟨arr, h1, _⟩ := r
  obtain ⟨_, h⟩ := o.own
  rcases h with ⟨rfl, _⟩ | ⟨g', cap, cur, rfl, _, hc, _⟩
  · simp [Value.ownBlock] at e
  · simp [Value.ownBlock] at e
    subst e
    rw [h1] at hc
    simp only [Option.some.injEq, Obj.cells.injEq] at hc
    exact absurd hc.2.1 (by decide)
theorem range_oH (g c : Nat → Nat) (n m a b : Nat) : (List.range m).map (oH (upd g m a) (upd c m b) n) = (List.range m).map (oH g c n) :=
  List.map_congr_left fun i hi => by
    have : i < m := List.mem_range.1 hi
    simp [oH, upd_ne _ _ (show i ≠ m by omega)]
theorem OnlyI.next {W W1 W3 : World} {B n m g1 cap : Nat} {F : Nat → Nat → Int} {s s' : Value} {g cp : Nat → Nat} {E : TypeId} (h : OnlyI W B n m F s g cp) (hb : Below W.heap.size W W1) (r : RowC W1 g1 n (F m)) (hg : B ≤ g1) (hc : n ≤ cap)
    (o : OwnR W3 B 24 1 s' (((List.range m).map (oH g cp n) ++ [((some ⟨g1, 0, none⟩, n, cap) : Hd)]).map hdr)) (hg3 : (W1.alloc (.cells #[.slice (some ⟨g1, 0, none⟩) n cap] E)).grownBy W3 s.ownBlock) :
    OnlyI W3 B n (m + 1) F s' (upd g m g1) (upd cp m cap) := by
  have hb2 : Below W.heap.size W (W1.alloc (.cells #[.slice (some ⟨g1, 0, none⟩) n cap] E)) := hb.alloc hb.size _
  have h2 := h.below hb2
  have r2 := r.below ((Below.refl W1.heap.size W1).alloc (Nat.le_refl _) (.cells #[.slice (some ⟨g1, 0, none⟩) n cap] E))
  generalize W1.alloc (.cells #[.slice (some ⟨g1, 0, none⟩) n cap] E) = W2 at *
  have keep : ∀ {k : Nat} {f : Nat → Int}, RowC W2 k n f → RowC W3 k n f := fun r => r.of_eq (hg3.block _ r.lt (Ne.symm (rowC_ne r h2.ow)))
  refine ⟨?_, fun i hi => ?_⟩
  · rw [List.range_succ, List.map_append, range_oH]
    simpa [oH, upd_same] using o
  · by_cases e : i = m
    · subst e
      rw [upd_same, upd_same]
      exact ⟨keep r2, hc, hg⟩
    · rw [upd_ne _ _ e, upd_ne _ _ e]
      exact ⟨keep (h2.rl i (by omega)).1, (h2.rl i (by omega)).2⟩
theorem OnlyI.mat {W : World} {B n m : Nat} {F : Nat → Nat → Int} {s : Value} {g cp : Nat → Nat} (h : OnlyI W B n m F s g cp) : ∃ a cap, s = .slice a m cap ∧ SlOk a m cap ∧ MatAt W a (tabC m n F) := by
  obtain ⟨a, cap, e, hs, hat⟩ := h.ow.slAt
  rw [List.length_map, List.length_map, List.length_range] at e hs
  refine ⟨a, cap, e, hs, ((List.range m).map (oH g cp n)).map fun h => .slice h.1 h.2.1 h.2.2, ?_, by simp [tabC], fun i hi => ?_⟩
  · rw [List.map_map]; exact hat
  · rw [tab_len] at hi
    obtain ⟨h1, h2, h3⟩ := h.rl i hi
    have e1 : ((tabC m n F)[i]'(by rw [tab_len]; exact hi)) = (List.range n).map (F i) := tab_row hi
    refine ⟨some ⟨g i, 0, none⟩, cp i, ?_, ⟨?_, fun e => by cases e⟩, ?_⟩
    · simp [hi, e1, oH]
    · rw [e1]; simpa using h2
    · rw [e1]; exact h1.inAt
theorem OnlyI.high {W W' : World} {B n m : Nat} {F : Nat → Nat → Int} {s : Value} {g cp : Nat → Nat} (h : OnlyI W B n m F s g cp) (hb : ∀ b, B ≤ b → b < W.heap.size → W'.heap[b]? = W.heap[b]?) : OnlyI W' B n m F s g cp := by
  refine ⟨⟨h.ow.wide, ?_⟩, fun i hi => ⟨(h.rl i hi).1.of_eq (hb _ (h.rl i hi).2.2 (h.rl i hi).1.lt), (h.rl i hi).2⟩⟩
  obtain ⟨a1, a2⟩ := h.ow.own
  refine ⟨a1, ?_⟩
  rcases a2 with a2 | ⟨g, cap, cur, e, hg, hc, h3⟩
  · exact .inl a2
  · exact .inr ⟨g, cap, cur, e, hg, (hb g hg (lt_blk hc)).trans hc, h3⟩
def OnlyPost (c : List (List Int)) (i k : Nat) (w : World) (e : Ending) (w' : World) : Prop :=
  ∃ a cap, e = .returned (.slice a c.length cap) ∧ SlOk a c.length cap ∧ MatAt w' a (onlyC c i k) ∧ Below w.heap.size w w' ∧ ∀ w2 : World, (∀ b, w.heap.size ≤ b → b < w'.heap.size → w2.heap[b]? = w'.heap[b]?) → MatAt w2 a (onlyC c i k)
/-- A row on the way: the columns below x are done. -/
def midF (c : List (List Int)) (i k j x y : Nat) : Int := if j = i ∧ y ≠ k ∧ y < x then -1 else cc c j y
theorem mid_start (c : List (List Int)) (i k j : Nat) : midF c i k j 0 = cc c j := by funext y; simp [midF]
theorem mid_end (c : List (List Int)) (i k j n y : Nat) (hy : y < n) : midF c i k j n y = onlyF c i k j y := by
  unfold midF onlyF
  by_cases h : j = i ∧ y ≠ k
  · rw [if_pos h, if_pos ⟨h.1, h.2, hy⟩]
  · rw [if_neg h, if_neg fun a => h ⟨a.1, a.2.1⟩]
theorem mid_keep {c : List (List Int)} {i k j x : Nat} (h : j ≠ i ∨ x = k) (y : Nat) : midF c i k j x y = midF c i k j (x + 1) y := by
  unfold midF
  by_cases q : y = x
  · subst q
    rw [if_neg (by omega), if_neg (by omega)]
  · by_cases q2 : j = i ∧ y ≠ k ∧ y < x
    · rw [if_pos q2, if_pos (by omega)]
    · rw [if_neg q2, if_neg (by omega)]
theorem mid_put {c : List (List Int)} {i k j x : Nat} (h1 : j = i) (h2 : x ≠ k) (y : Nat) : upd (midF c i k j x) x (-1) y = midF c i k j (x + 1) y := by
  unfold midF
  by_cases q : y = x
  · subst q
    rw [upd_same, if_pos (by omega)]
  · rw [upd_ne _ _ q]
    by_cases q2 : j = i ∧ y ≠ k ∧ y < x
    · rw [if_pos q2, if_pos (by omega)]
    · rw [if_neg q2, if_neg (by omega)]
set_option maxRecDepth 100000 in
set_option maxHeartbeats 4000000 in
theorem Ronly_any (a : Option Addr) (cap : Nat) (c : List (List Int)) (i k : Nat) (w : World) (he : formE c = 0) (h0 : 0 < wideL c) (hi : i < c.length) (hk : k < wideL c) (hm : MatAt w a c) :
    Calls Tryz.prog 50 #[.slice a c.length cap, .int .i64 i, .int .i64 k] w (OnlyPost c i k w) := by
  obtain ⟨h200, hw200, hf, hf4⟩ := formE_ok he
  have HM := Lib.hid hm; have HF := Lib.hid hf; have H0 := Lib.hid h0
  clear hm hf hf4 he h0
  go_enter Tryz.func50, Tryz.ntmps50
  go_wp2
  go_loopw [7, 8] (fun s7 s8 wr => ∃ (m : Nat) (g cp : Nat → Nat), m ≤ c.length ∧ s8 = .int .i64 m ∧ OnlyI wr w.heap.size (wideL c) m (onlyF c i k) s7 g cp ∧ Below w.heap.size w wr) (fun _ i _ => c.length - (intOf i).toNat)
  case atStart => exact ⟨0, fun _ => 0, fun _ => 0, Nat.zero_le _, rfl, ⟨OwnR.nil _ _ _ _, fun i hi => by omega⟩, Below.refl _ _⟩
  case round =>
    obtain ⟨m, g, cp, hmc, rfl, hI, hb⟩ := hrel
    have HI := Lib.hid hI; have HB := Lib.hid hb
    clear hI hb
    by_cases hlt : m < c.length
    · obtain ⟨bc, oc, ai, ci, rfl, c0, hsk, hik⟩ := HM.out.get m hlt
      have hlen := HF.out c[m] (List.getElem_mem _)
      have HRT := Lib.hid (row_tab hlt hlen)
      rw [hlen] at c0 hsk
      have HSK := Lib.hid hsk; have HIK := Lib.hid (hik.below HB.out); have HLen := Lib.hid hlen
      have g0 := fun o => keepD c0 (HB.out.alloc HB.out.size o)
      clear hsk hik hlen
      go_wp2_with (at_builtin; go_loud (refine appE eltInt rfl (.tmp 17) (.tmp 21) rfl wr.heap.size _ [] rfl (ownR_made _ _ _ _ (Nat.le_refl _)) _ _ _ c[m] rfl HLen.out.symm HSK.out.none (HIK.out.below ((Below.refl _ _).alloc (Nat.le_refl _) _)) (by have := HLen.out; simp; omega) (by simp) ?_); intro v1 w5 ho1 hg1; go_loud (skip); have HB1 := Lib.hid (below_grown ((Below.refl wr.heap.size wr).alloc (Nat.le_refl _) _) (ownR_made wr wr.heap.size 3 1 (Nat.le_refl _)) (by simp) hg1); rw [List.nil_append, HRT.out] at ho1; obtain ⟨g1, c1, e1, q1, q2, q3⟩ := RowC.of_own ho1 (by have := H0.out; omega); subst e1; have HR := Lib.hid q3; have HQ := Lib.hid (And.intro q1 q2); clear ho1 hg1 q3 q1 q2)
      clear g0
      obtain ⟨q1, q2⟩ := HQ.out
      go_loopw [10] (fun s10 W => ∃ x : Nat, x ≤ wideL c ∧ s10 = .int .i64 x ∧ RowC W g1 (wideL c) (midF c i k m x) ∧ Below wr.heap.size wr W) (fun x _ => wideL c - (intOf x).toNat)
      case atStart => exact ⟨0, Nat.zero_le _, rfl, by rw [mid_start]; exact HR.out, HB1.out⟩
      case round =>
        clear HR HB1
        obtain ⟨x, hx, rfl, hr, hb⟩ := hrel
        have HR := Lib.hid hr; have HB1 := Lib.hid hb
        clear hr hb
        by_cases hlx : x < wideL c
        · by_cases hmi : m = i
          · have e1 : ((m : Int) == (i : Int)) = true := by simp; omega
            by_cases hxk : x = k
            · have e2 : ((x : Int) != (k : Int)) = false := by simp; omega
              have HKP := Lib.hid (fun y => mid_keep (c := c) (i := i) (k := k) (j := m) (x := x) (.inr hxk) y)
              clear hmi hxk
              go_wp2
              go_roundw
              case rel => exact ⟨x + 1, by omega, by go_num, HR.out.congr fun y _ => HKP.out y, HB1.out⟩
              case measure => simp [intOf]; omega
            · have e2 : ((x : Int) != (k : Int)) = true := by simp; omega
              have HKP := Lib.hid (fun y => mid_put (c := c) (i := i) (k := k) (j := m) (x := x) hmi hxk y)
              clear hmi hxk
              have s1 := HR.out.cell hlx
              have s2 := HR.out.free x
              go_wp2
              go_roundw
              case rel => exact ⟨x + 1, by omega, by go_num, (HR.out.set hlx (-1)).congr fun y _ => HKP.out y, below_set HB1.out q1 _⟩
              case measure => simp [intOf]; omega
          · have e1 : ((m : Int) == (i : Int)) = false := by simp; omega
            have HKP := Lib.hid (fun y => mid_keep (c := c) (i := i) (k := k) (j := m) (x := x) (.inl hmi) y)
            clear hmi
            go_wp2
            go_roundw
            case rel => exact ⟨x + 1, by omega, by go_num, HR.out.congr fun y _ => HKP.out y, HB1.out⟩
            case measure => simp [intOf]; omega
        · have hxe : x = wideL c := by omega
          have HR2 := Lib.hid (HR.out.congr (g := onlyF c i k m) fun y hy => by rw [hxe]; exact mid_end c i k m _ y hy)
          clear hxe HR
          go_wp2_with (at_builtin; refine appE eltHd rfl (.tmp 40) (.tmp 42) rfl w.heap.size _ ((List.range m).map (oH g cp (wideL c))) rfl (HI.out.ow.below (HB1.out.alloc HB1.out.size _)) _ _ _ [((some ⟨g1, 0, none⟩, wideL c, c1) : Hd)] rfl rfl (fun e => by cases e) (eltHd.new _ _ _ _ rfl) (by simp; omega) (by have := HB1.out.size; have := HB.out.size; simp; omega) ?_; intro v3 w7 ho3 hg3; have HI7 := Lib.hid (HI.out.next HB1.out HR2.out (by have := HB.out.size; omega) q2 ho3 hg3); have HB7 := Lib.hid (below_grown ((HB.out.trans (HB1.out.mono HB.out.size)).alloc (by have := HB1.out.size; have := HB.out.size; omega) _) (HI.out.ow.below (HB1.out.alloc HB1.out.size _)) (by have := HB1.out.size; have := HB.out.size; simp; omega) hg3); clear ho3 hg3)
          go_roundw
          case rel => exact ⟨m + 1, _, _, by omega, by go_num, HI7.out, HB7.out⟩
          case measure => simp [intOf]; omega
    · have hme : m = c.length := by omega
      subst hme
      obtain ⟨a7, c7, rfl, hs7, hm7⟩ := HI.out.mat
      have HS7 := Lib.hid hs7; have HM7 := Lib.hid hm7
      clear hs7 hm7
      go_wp2
      go_ret
      exact ⟨a7, c7, rfl, HS7.out, HM7.out, HB.out, fun w2 h2 => by
        obtain ⟨a8, c8, e8, _, h8⟩ := (HI.out.high h2).mat
        cases e8; exact h8⟩
end Go.Proofs.YtehdhbnbajfanaaGreat
