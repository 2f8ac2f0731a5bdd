/- Texts of this seat, laid together: MatchPrices, MatchReach, MatchReach2, MatchBest0, MatchBest. -/
import Derived.Test.YtehdhbnbajfanaaGreatGF
import Derived.Test.YtehdhbnbajfanaaGreatGE
import Derived.Laws.CopyOwn
import Derived.WalkMore

/- match.Prices, walked. -/
namespace Go.Proofs.YtehdhbnbajfanaaGreat
set_option linter.unusedSimpArgs false
set_option linter.unusedVariables false
open Go.RowKit Go.Sort Go.Shelf

theorem circ_no {can : Nat → Nat → Bool} {n m j : Nat} {ms : List Nat} (c : Circ can n m j ms) : ¬ Mtd can (fun i => i < m) n := fun h => c.no (h.sub fun i hi => by
  have := c.le i hi
  have := c.lt
  omega)
def PricesSays (c : List (List Int)) (w' : World) (v1 v2 : Value) (err : Int) : Prop :=
  (formE c ≠ 0 ∧ v1 = .slice none 0 0 ∧ v2 = .slice none 0 0 ∧ err = formE c) ∨ (formE c = 0 ∧ ¬ Mtd (may (cc c)) (fun i => i < c.length) (wideL c) ∧ v1 = .slice none 0 0 ∧ v2 = .slice none 0 0 ∧ err = 4) ∨
    (formE c = 0 ∧ err = 0 ∧ ∃ (u v : Nat → Int) (bu bv : Nat), v1 = .slice (some ⟨bu, 0, none⟩) c.length c.length ∧ v2 = .slice (some ⟨bv, 0, none⟩) (wideL c) (wideL c) ∧ (∃ ow, Pot (cc c) (wideL c) c.length (c.length * (wideL c * 1000000)) u v ow) ∧
      RowAt w' bu c.length 3 (iv u) ∧ RowAt w' bv (wideL c) 3 (iv v))
def PricesPost (c : List (List Int)) (w : World) (e : Ending) (w' : World) : Prop :=
  ∃ (v1 v2 : Value) (err : Int), e = .returned (.tuple #[v1, v2, .int .i64 err]) ∧ PricesSays c w' v1 v2 err ∧ Below w.heap.size w w'
set_option maxRecDepth 100000 in
set_option maxHeartbeats 4000000 in
theorem Prices_any (a : Option Addr) (cap : Nat) (c : List (List Int)) (w : World) (hl : c.length ≤ 100000000000000) (hm : MatAt w a c) (hs : SlOk a c.length cap) :
    Calls Tryz.prog 66 #[.slice a c.length cap] w (PricesPost c w) := by
  have HS := Lib.hid hs; have HM := Lib.hid hm; clear hs hm
  go_enter Tryz.func66, Tryz.ntmps66
  go_wp2_with (fail)
  refine (Short_any a cap c w hl HM.out HS.out).mono ?_
  rintro e w1 ⟨l, short, err, a1, cap1, rfl, ⟨herr, hsay⟩, _, _, hb⟩
  have HB := Lib.hid hb; replace HM := Lib.hid (HM.out.below hb); clear hb
  rcases hsay with ⟨rfl, rfl, hmt⟩ | ⟨he0, rfl, j, ms, hc, _⟩
  · by_cases he : err = 0
    · subst he
      have HE := Lib.hid herr; have HMt := Lib.hid (hmt rfl); clear herr hmt
      go_wp2_with (fail)
      refine (raise_any a cap c w1 HE.out.symm HM.out HS.out HMt.out).mono ?_
      rintro e w2 ⟨u, v, bu, bv, rfl, hp, ru, rv, hb⟩
      replace HB := Lib.hid (HB.out.trans (hb.mono HB.out.size))
      have HP := Lib.hid hp; have Hru := Lib.hid ru; have Hrv := Lib.hid rv
      clear hb hp ru rv
      go_wp2
      have x0 := heap_alloc_new w2 (.cells #[.slice (some ⟨bu, 0, none⟩) c.length c.length, .slice (some ⟨bv, 0, none⟩) (wideL c) (wideL c)] 95)
      have hb := (Below.refl w2.heap.size w2).alloc (Nat.le_refl _) (.cells #[.slice (some ⟨bu, 0, none⟩) c.length c.length, .slice (some ⟨bv, 0, none⟩) (wideL c) (wideL c)] 95)
      generalize w2.alloc (.cells #[.slice (some ⟨bu, 0, none⟩) c.length c.length, .slice (some ⟨bv, 0, none⟩) (wideL c) (wideL c)] 95) = w3 at *
      have gP := box_cells x0
      replace HB := Lib.hid (HB.out.trans (hb.mono HB.out.size)); replace Hru := Lib.hid (Hru.out.below hb); replace Hrv := Lib.hid (Hrv.out.below hb)
      clear hb x0
      have g0 := cell_regrown (gP 0); have g1 := cell_regrown (gP 1)
      refine wp_quietB (by kernel_rfl) (by kernel_rfl) ?_
      repeat (go_big_quiet_step (fail))
      refine wpQuiet_nil ?_
      intro w4 hb
      replace HB := Lib.hid (HB.out.trans (hb.mono HB.out.size)); replace Hru := Lib.hid (Hru.out.below hb); replace Hrv := Lib.hid (Hrv.out.below hb)
      clear hb g0 g1 gP
      go_wp2
      go_ret3
      exact ⟨_, _, 0, rfl, .inr (.inr ⟨HE.out.symm, rfl, u, v, bu, bv, rfl, rfl, HP.out, Hru.out, Hrv.out⟩), HB.out⟩
    · have HE := Lib.hid herr
      have HE2 := Lib.hid he
      have hne : (err != 0) = true := by simpa using he
      clear herr hmt he
      go_wp2
      go_ret3
      exact ⟨_, _, err, rfl, .inl ⟨by rw [← HE.out]; exact HE2.out, rfl, rfl, HE.out⟩, HB.out⟩
  · subst he0
    have HE := Lib.hid herr; have HC := Lib.hid hc; clear herr hc
    go_wp2
    go_ret3
    exact ⟨_, _, 4, rfl, .inr (.inl ⟨HE.out.symm, circ_no HC.out, rfl, rfl, rfl⟩), HB.out⟩
end Go.Proofs.YtehdhbnbajfanaaGreat


/- match.reach: what its closures say. -/
namespace Go.Proofs.YtehdhbnbajfanaaGreat
set_option linter.unusedSimpArgs false
set_option linter.unusedVariables false
open Go.RowKit Go.Sort Go.Shelf

/-- Can row i get column k, which is not used, at exact prices? -/
def exB (c : List (List Int)) (u v : Nat → Int) (used : Nat → Bool) (i k : Nat) : Bool := !used k && (decide (0 ≤ cc c i k) && (u i + v k == cc c i k))
/-- What reach reads. -/
structure RX (c : List (List Int)) (a : Option Addr) (bu bv bs : Nat) (u v : Nat → Int) (used : Nat → Bool) (w : World) : Prop where
  he : formE c = 0
  mat : MatAt w a c
  ru : RowAt w bu c.length 3 (iv u)
  rv : RowAt w bv (wideL c) 3 (iv v)
  rs : RowAt w bs (wideL c) 4 (fun k => .bool (used k))
  ub : ∀ i, 0 ≤ u i ∧ u i ≤ 40001000000
  vb : ∀ k, k < wideL c → -40000000000 ≤ v k ∧ v k ≤ 0
theorem RX.below {c : List (List Int)} {a : Option Addr} {bu bv bs : Nat} {u v : Nat → Int} {used : Nat → Bool} {w w' : World} (x : RX c a bu bv bs u v used w) (hb : Below w.heap.size w w') : RX c a bu bv bs u v used w' :=
  ⟨x.he, x.mat.below hb, x.ru.below hb, x.rv.below hb, x.rs.below hb, x.ub, x.vb⟩
/-- The variables of reach that its closures hold. -/
structure RV (c : List (List Int)) (a : Option Addr) (cap bu bv bs t4 t5 t6 t7 t9 : Nat) (fr : Nat) (w : World) : Prop where
  x4 : w.heap[t4]? = some (.cells #[.slice a c.length cap] 37 (0, 0))
  x5 : w.heap[t5]? = some (.cells #[.slice (some ⟨bu, 0, none⟩) c.length c.length, .slice (some ⟨bv, 0, none⟩) (wideL c) (wideL c)] 95 (0, 0))
  x6 : w.heap[t6]? = some (.cells #[.int .i64 (fr : Int)] 3 (0, 0))
  x7 : w.heap[t7]? = some (.cells #[.slice (some ⟨bs, 0, none⟩) (wideL c) (wideL c)] 78 (0, 0))
  x9 : w.heap[t9]? = some (.cells #[.func (Fn.func 81) #[] #[.pointer (some ⟨t7, 0, none⟩), .pointer (some ⟨t4, 0, none⟩), .pointer (some ⟨t5, 0, none⟩)]] 111 (0, 0))
theorem RV.below {c : List (List Int)} {a : Option Addr} {cap bu bv bs t4 t5 t6 t7 t9 fr : Nat} {w w' : World} (x : RV c a cap bu bv bs t4 t5 t6 t7 t9 fr w) (hb : Below w.heap.size w w') : RV c a cap bu bv bs t4 t5 t6 t7 t9 fr w' :=
  ⟨blk_keep x.x4 hb, blk_keep x.x5 hb, blk_keep x.x6 hb, blk_keep x.x7 hb, blk_keep x.x9 hb⟩
set_option maxRecDepth 100000 in
set_option maxHeartbeats 4000000 in
theorem exact_any {c : List (List Int)} {a : Option Addr} {cap bu bv bs t4 t5 t6 t7 t9 fr : Nat} {u v : Nat → Int} {used : Nat → Bool} {w : World} (X : RX c a bu bv bs u v used w) (Y : RV c a cap bu bv bs t4 t5 t6 t7 t9 fr w) (i k : Nat) (hi : i < c.length) (hk : k < wideL c) :
    Calls Tryz.prog 81 #[.int .i64 i, .int .i64 k, .pointer (some ⟨t7, 0, none⟩), .pointer (some ⟨t4, 0, none⟩), .pointer (some ⟨t5, 0, none⟩)] w fun e w' => e = .returned (.bool (exB c u v used i k)) ∧ Below w.heap.size w w' := by
  obtain ⟨f1, f2, f3, f4⟩ := formE_ok X.he
  obtain ⟨b1, off, ai, ci, rfl, c0, hsk, hik⟩ := X.mat.get i hi
  have hlen := f3 c[i] (List.getElem_mem _)
  obtain ⟨b2, off2, rfl, d0⟩ := hik.get k (by omega)
  rw [← cc_get hi (by omega)] at d0
  rw [hlen] at c0
  obtain ⟨n1, n2⟩ := cc_le f3 f4 i k hi hk
  obtain ⟨u1, u2⟩ := X.ub i
  obtain ⟨v1, v2⟩ := X.vb k hk
  have gu : w.cell? ⟨bu, i, none⟩ = some (.int .i64 (u i)) := X.ru.cell hi
  have gv : w.cell? ⟨bv, k, none⟩ = some (.int .i64 (v k)) := X.rv.cell hk
  have gs : w.cell? ⟨bs, k, none⟩ = some (.bool (used k)) := X.rs.cell hk
  have h4 := box_cells Y.x4; have h5 := box_cells Y.x5; have h7 := box_cells Y.x7
  have g0 := cell_regrown (h4 0); have g1 := cell_regrown (h5 0); have g2 := cell_regrown (h5 1); have g3 := cell_regrown (h7 0); have g4 := cell_regrown gu; have g5 := cell_regrown gv; have g6 := cell_regrown gs; have g7 := cell_regrown c0; have g8 := cell_regrown d0
  clear X Y f3 f4 hsk hik hlen
  generalize hN : cc c i k = N at *
  have HN := Lib.hid hN; clear hN
  cases hus : used k
  · rw [hus] at g6
    have HU := Lib.hid hus; clear hus
    by_cases h1 : 0 ≤ N
    · have h1b : decide (0 ≤ N) = true := by simpa using h1
      have HR := Lib.hid (show exB c u v used i k = (u i + v k == N) by simp [exB, HU.out, HN.out, h1])
      go_enter Tryz.func81, Tryz.ntmps81
      go_wp2
      refine wp_quietB (by kernel_rfl) (by kernel_rfl) ?_
      repeat (go_big_quiet_step (fail))
      refine wpQuiet_nil ?_
      intro w5 hb
      have HB := Lib.hid hb; clear hb
      go_wp2
      go_ret
      exact ⟨by rw [HR.out]; rfl, HB.out⟩
    · have h1b : decide (0 ≤ N) = false := by simpa using h1
      have HR := Lib.hid (show exB c u v used i k = false by simp [exB, HN.out, h1b])
      go_enter Tryz.func81, Tryz.ntmps81
      go_wp2
      refine wp_quietB (by kernel_rfl) (by kernel_rfl) ?_
      repeat (go_big_quiet_step (fail))
      refine wpQuiet_nil ?_
      intro w5 hb
      have HB := Lib.hid hb; clear hb
      go_wp2
      go_ret
      exact ⟨by rw [HR.out]; rfl, HB.out⟩
  · rw [hus] at g6
    have HR := Lib.hid (show exB c u v used i k = false by simp [exB, hus]); clear hus
    go_enter Tryz.func81, Tryz.ntmps81
    go_wp2
    refine wp_quietB (by kernel_rfl) (by kernel_rfl) ?_
    repeat (go_big_quiet_step (fail))
    refine wpQuiet_nil ?_
    intro w5 hb
    have HB := Lib.hid hb; clear hb
    go_wp2
    go_ret
    exact ⟨by rw [HR.out]; rfl, HB.out⟩
set_option maxHeartbeats 1000000 in
theorem back_any {c : List (List Int)} {a : Option Addr} {cap bu bv bs t4 t5 t6 t7 t9 fr : Nat} {u v : Nat → Int} {used : Nat → Bool} {w : World} (X : RX c a bu bv bs u v used w) (Y : RV c a cap bu bv bs t4 t5 t6 t7 t9 fr w) (i k : Nat) (hi : i < c.length) (hk : k < wideL c) :
    Calls Tryz.prog 84 #[.int .i64 k, .int .i64 i, .pointer (some ⟨t6, 0, none⟩), .pointer (some ⟨t9, 0, none⟩)] w fun e w' => e = .returned (.bool (decide (fr ≤ i) && exB c u v used i k)) ∧ Below w.heap.size w w' := by
  have h6 := box_cells Y.x6; have h9 := box_cells Y.x9
  have HX := Lib.hid X; have HY := Lib.hid Y
  clear X Y
  by_cases h1 : fr ≤ i
  · have h1b : decide (fr ≤ i) = true := by simpa using h1
    have HR := Lib.hid h1b
    go_enter Tryz.func84, Tryz.ntmps84
    go_wp2_with (fail)
    refine (exact_any HX.out HY.out i k hi hk).mono ?_
    rintro e w' ⟨rfl, hb⟩
    have HB := Lib.hid hb; clear hb h6 h9 h1b
    go_wp2
    go_ret
    exact ⟨by rw [HR.out]; rfl, HB.out⟩
  · have h1b : decide (fr ≤ i) = false := by simpa using h1
    have HR := Lib.hid h1b
    go_enter Tryz.func84, Tryz.ntmps84
    go_wp2
    go_ret
    exact ⟨by rw [HR.out]; rfl, Below.refl _ _⟩
end Go.Proofs.YtehdhbnbajfanaaGreat


/- match.reach, walked. -/
namespace Go.Proofs.YtehdhbnbajfanaaGreat
set_option linter.unusedSimpArgs false
set_option linter.unusedVariables false
open Go.RowKit Go.Sort Go.Shelf

/-- The rows from fr on can get columns that are not used, among them all that must be got. -/
def CanEnd (c : List (List Int)) (u v : Nat → Int) (used : Nat → Bool) (fr : Nat) : Prop :=
  ∃ f, Mt (exB c u v used) (fun i => fr ≤ i ∧ i < c.length) (wideL c) f ∧ ∀ k, k < wideL c → v k ≠ 0 → used k = false → ∃ i, (fr ≤ i ∧ i < c.length) ∧ f i = k
def ReachPost (c : List (List Int)) (u v : Nat → Int) (used : Nat → Bool) (fr : Nat) (w : World) (e : Ending) (w' : World) : Prop :=
  ∃ b : Bool, e = .returned (.bool b) ∧ (b = true ↔ CanEnd c u v used fr) ∧ Below w.heap.size w w'
theorem own_more {can : Nat → Nat → Bool} {n r : Nat} {R : Nat → Prop} {ow ow' : Nat → Int} (Y : Yes can n (fun _ => false) r ow ow') (O : Own can n (fun _ => True) R ow) (hr : ¬ R r) : Own can n (fun _ => True) (fun i => R i ∨ i = r) ow' := by
  have O' : Own can n (fun k => (fun _ : Nat => false) k = false) R ow := ⟨fun k hk _ => O.val k hk trivial, fun i hi => by obtain ⟨k, a, _, b⟩ := O.one i hi; exact ⟨k, a, rfl, b⟩, fun k k' i a b _ _ => O.inj k k' i a b trivial trivial⟩
  have O2 := Y.aug _ O' hr
  exact ⟨fun k hk _ => O2.val k hk rfl, fun i hi => by obtain ⟨k, a, _, b⟩ := O2.one i hi; exact ⟨k, a, trivial, b⟩, fun k k' i a b _ _ => O2.inj k k' i a b rfl rfl⟩
theorem own_of_iff {can : Nat → Nat → Bool} {n : Nat} {R R' : Nat → Prop} {ow : Nat → Int} (O : Own can n (fun _ => True) R ow) (h : ∀ i, R i ↔ R' i) : Own can n (fun _ => True) R' ow := by
  have : R = R' := funext fun i => propext (h i)
  rw [← this]; exact O
theorem own_val {can : Nat → Nat → Bool} {n m : Nat} {R : Nat → Prop} {ow : Nat → Int} (O : Own can n (fun _ => True) R ow) (hR : ∀ i, R i → i < m) : ∀ j, j < n → ow j = -1 ∨ ∃ i : Nat, ow j = i ∧ i < m ∧ can i j = true := fun j hj => by
  rcases O.val j hj trivial with e | ⟨i, e, h1, h2⟩
  · exact .inl e
  · exact .inr ⟨i, e, hR i h1, h2⟩
theorem no_way {can : Nat → Nat → Bool} {n : Nat} {ow : Nat → Int} {seen' : Nat → Bool} {r : Nat} {ks : List Nat} {R R' : Nat → Prop} (h : No can n ow (fun _ => false) seen' r n ks) (O : Own can n (fun _ => True) R ow) (hr : ¬ R r) (hR : ∀ i, R i ∨ i = r → R' i) : ¬ Mtd can R' n := fun hm => by
  have O' : Own can n (fun k => (fun _ : Nat => false) k = false) R ow := ⟨fun k hk _ => O.val k hk trivial, fun i hi => by obtain ⟨k, a, _, b⟩ := O.one i hi; exact ⟨k, a, rfl, b⟩, fun k k' i a b _ _ => O.inj k k' i a b trivial trivial⟩
  refine (h.hall O hr).2.1 (hm.sub fun i hi => ?_)
  rcases List.mem_cons.1 hi with rfl | hi
  · exact hR _ (.inr rfl)
  · exact hR _ (.inl (rows_in h O' i hi))
def backB (c : List (List Int)) (u v : Nat → Int) (used : Nat → Bool) (fr : Nat) (k i : Nat) : Bool := decide (fr ≤ i) && exB c u v used i k
def mustB (v : Nat → Int) (used : Nat → Bool) (k : Nat) : Bool := !(v k == 0) && !used k
theorem canEnd_of {c : List (List Int)} {u v : Nat → Int} {used : Nat → Bool} {fr : Nat} (h1 : Mtd (exB c u v used) (fun i => fr ≤ i ∧ i < c.length) (wideL c)) (h2 : Mtd (backB c u v used fr) (fun k => k < wideL c ∧ mustB v used k = true) c.length) : CanEnd c u v used fr := by
  obtain ⟨f, hf⟩ := h1
  obtain ⟨g, hg⟩ := h2
  obtain ⟨f', hf', hall⟩ := together (can := exB c u v used) (R := fun i => fr ≤ i ∧ i < c.length) (n := wideL c) (mustB v used) g (fun k hk hr => by
      have h1 := hg.lt k ⟨hk, hr⟩
      have h2 := hg.can k ⟨hk, hr⟩
      simp only [backB, Bool.and_eq_true, decide_eq_true_eq] at h2
      exact ⟨⟨h2.1, h1⟩, h2.2⟩) (fun k k' hk hk' hr hr' e => hg.inj k k' ⟨hk, hr⟩ ⟨hk', hr'⟩ e) _ f hf (Nat.le_refl _)
  exact ⟨f', hf', fun k hk hv hu => hall k hk (by simp [mustB, hv, hu])⟩
theorem canEnd_rows {c : List (List Int)} {u v : Nat → Int} {used : Nat → Bool} {fr : Nat} (h : CanEnd c u v used fr) : Mtd (exB c u v used) (fun i => fr ≤ i ∧ i < c.length) (wideL c) := h.elim fun f hf => ⟨f, hf.1⟩
theorem canEnd_cols {c : List (List Int)} {u v : Nat → Int} {used : Nat → Bool} {fr : Nat} (h : CanEnd c u v used fr) : Mtd (backB c u v used fr) (fun k => k < wideL c ∧ mustB v used k = true) c.length := by
  obtain ⟨f, hf, hall⟩ := h
  have hex : ∀ k, ∃ i, (k < wideL c ∧ mustB v used k = true) → (fr ≤ i ∧ i < c.length) ∧ f i = k := fun k => by
    by_cases q : k < wideL c ∧ mustB v used k = true
    · have q2 := q.2
      simp only [mustB, Bool.and_eq_true, Bool.not_eq_true', beq_eq_false_iff_ne] at q2
      obtain ⟨i, hi⟩ := hall k q.1 q2.1 q2.2
      exact ⟨i, fun _ => hi⟩
    · exact ⟨0, fun a => absurd a q⟩
  refine ⟨fun k => Classical.choose (hex k), fun k hk => (Classical.choose_spec (hex k) hk).1.2, fun k hk => ?_, fun k k' hk hk' e => ?_⟩
  · obtain ⟨a, b⟩ := Classical.choose_spec (hex k) hk
    have := hf.can _ a
    rw [b] at this
    simp only [backB, Bool.and_eq_true, decide_eq_true_eq]
    exact ⟨a.1, this⟩
  · have a := (Classical.choose_spec (hex k) hk).2
    have b := (Classical.choose_spec (hex k') hk').2
    simp only [e] at a
    omega
def gi1 (c : List (List Int)) (u v : Nat → Int) (used : Nat → Bool) (t4 t5 t7 sN bn : Nat) (w0 : World) : Gi :=
  { n := wideL c, m := c.length, B := sN + 1 + 1 + 1, bO := sN + 1, bC := sN + 1 + 1, bR := sN, bow := bn, cf := 81, caps := #[.pointer (some ⟨t7, 0, none⟩), .pointer (some ⟨t4, 0, none⟩), .pointer (some ⟨t5, 0, none⟩)], can := exB c u v used, S := fun w => Below w0.heap.size w0 w }
def gi2 (c : List (List Int)) (u v : Nat → Int) (used : Nat → Bool) (fr t6 t9 sN bn : Nat) (w0 : World) : Gi :=
  { n := c.length, m := wideL c, B := sN + 1 + 1 + 1, bO := sN + 1, bC := sN + 1 + 1, bR := sN, bow := bn, cf := 84, caps := #[.pointer (some ⟨t6, 0, none⟩), .pointer (some ⟨t9, 0, none⟩)], can := backB c u v used fr, S := fun w => Below w0.heap.size w0 w }
theorem gi_keep {B bow : Nat} {w0 w w' : World} (hB : w0.heap.size ≤ B) (hw : w0.heap.size ≤ bow) (hs : Below w0.heap.size w0 w) (k : KeepB B [bow] w w') : Below w0.heap.size w0 w' :=
  ⟨k.os.trans hs.os, k.tape.trans hs.tape, k.output.trans hs.output, Nat.le_trans hs.size k.size, fun b hb => (k.block b (Nat.lt_of_lt_of_le hb hB) (by simp only [List.mem_singleton]; omega)).trans (hs.block b hb)⟩
theorem gi1_ok {c : List (List Int)} {a : Option Addr} {cap bu bv bs t4 t5 t6 t7 t9 fr sN bn : Nat} {u v : Nat → Int} {used : Nat → Bool} {w0 : World} (X : RX c a bu bv bs u v used w0) (Y : RV c a cap bu bv bs t4 t5 t6 t7 t9 fr w0) (h1 : w0.heap.size ≤ bn) (h2 : bn < sN) : GiOk (gi1 c u v used t4 t5 t7 sN bn w0) := by
  obtain ⟨f1, f2, _, _⟩ := formE_ok X.he
  refine ⟨⟨by simp only [gi1]; omega, by simp only [gi1]; omega⟩, by simp only [gi1]; omega, by simp only [gi1]; omega, fun w w' hs k => gi_keep (by simp only [gi1]; omega) h1 hs k, fun args w => by kernel_rfl, fun w i k hs hi hk => ?_⟩
  have hs : Below w0.heap.size w0 w := hs
  exact exact_any (X.below hs) (Y.below hs) i k hi hk
theorem gi2_ok {c : List (List Int)} {a : Option Addr} {cap bu bv bs t4 t5 t6 t7 t9 fr sN bn : Nat} {u v : Nat → Int} {used : Nat → Bool} {w0 : World} (X : RX c a bu bv bs u v used w0) (Y : RV c a cap bu bv bs t4 t5 t6 t7 t9 fr w0) (h1 : w0.heap.size ≤ bn) (h2 : bn < sN) : GiOk (gi2 c u v used fr t6 t9 sN bn w0) := by
  obtain ⟨f1, f2, _, _⟩ := formE_ok X.he
  refine ⟨⟨by simp only [gi2]; omega, by simp only [gi2]; omega⟩, by simp only [gi2]; omega, by simp only [gi2]; omega, fun w w' hs k => gi_keep (by simp only [gi2]; omega) h1 hs k, fun args w => by kernel_rfl, fun w k i hs hk hi => ?_⟩
  have hs : Below w0.heap.size w0 w := hs
  exact back_any (X.below hs) (Y.below hs) i k hi hk
def RInv1 (c : List (List Int)) (g : Gi) (w0 : World) (fr r : Nat) (w : World) : Prop := ∃ ow : Nat → Int, GSt g w ow ∧ Own g.can g.n (fun _ => True) (fun i => fr ≤ i ∧ i < r) ow ∧ Below w0.heap.size w0 w
def RInv2 (c : List (List Int)) (g : Gi) (w0 : World) (must : Nat → Bool) (j : Nat) (w : World) : Prop := ∃ ow : Nat → Int, GSt g w ow ∧ Own g.can g.n (fun _ => True) (fun k => k < j ∧ must k = true) ow ∧ Below w0.heap.size w0 w
theorem own_empty (can : Nat → Nat → Bool) (n : Nat) {R : Nat → Prop} (h : ∀ i, ¬ R i) : Own can n (fun _ => True) R (fun _ => -1) := ⟨fun _ _ _ => .inl rfl, fun i hi => absurd hi (h i), fun _ _ i _ _ _ _ e _ => by omega⟩
theorem five (w : World) (A B C D E : Obj) : (((((w.alloc A).alloc B).alloc C).alloc D).alloc E).heap[w.heap.size]? = some A ∧ (((((w.alloc A).alloc B).alloc C).alloc D).alloc E).heap[w.heap.size + 1]? = some B ∧ (((((w.alloc A).alloc B).alloc C).alloc D).alloc E).heap[w.heap.size + 1 + 1]? = some C ∧
    (((((w.alloc A).alloc B).alloc C).alloc D).alloc E).heap[w.heap.size + 1 + 1 + 1]? = some D ∧ (((((w.alloc A).alloc B).alloc C).alloc D).alloc E).heap[w.heap.size + 1 + 1 + 1 + 1]? = some E ∧ Below w.heap.size w (((((w.alloc A).alloc B).alloc C).alloc D).alloc E) := by
  obtain ⟨x1, x2, x3, x4⟩ := box3 (Below.refl (((w.alloc A).alloc B).alloc C).heap.size _)
  refine ⟨up_alloc (up_alloc x1 _) _, up_alloc (up_alloc x2 _) _, up_alloc (up_alloc x3 _) _, up_alloc (at_alloc _ _ (by simp)) _, at_alloc _ _ (by simp), (x4.alloc (by simp; omega) _).alloc (by simp; omega) _⟩
theorem rv_start (c : List (List Int)) (a : Option Addr) (cap bu bv bs fr : Nat) (w : World) : RV c a cap bu bv bs w.heap.size (w.heap.size + 1) (w.heap.size + 1 + 1) (w.heap.size + 1 + 1 + 1) (w.heap.size + 1 + 1 + 1 + 1) fr (((((w.alloc (.cells #[.slice a c.length cap] 37)).alloc (.cells #[.slice (some ⟨bu, 0, none⟩) c.length c.length, .slice (some ⟨bv, 0, none⟩) (wideL c) (wideL c)] 95)).alloc (.cells #[.int .i64 (fr : Int)] 3)).alloc (.cells #[.slice (some ⟨bs, 0, none⟩) (wideL c) (wideL c)] 78)).alloc (.cells #[.func (Fn.func 81) #[] #[.pointer (some ⟨w.heap.size + 1 + 1 + 1, 0, none⟩), .pointer (some ⟨w.heap.size, 0, none⟩), .pointer (some ⟨w.heap.size + 1, 0, none⟩)]] 111)) ∧ Below w.heap.size w (((((w.alloc (.cells #[.slice a c.length cap] 37)).alloc (.cells #[.slice (some ⟨bu, 0, none⟩) c.length c.length, .slice (some ⟨bv, 0, none⟩) (wideL c) (wideL c)] 95)).alloc (.cells #[.int .i64 (fr : Int)] 3)).alloc (.cells #[.slice (some ⟨bs, 0, none⟩) (wideL c) (wideL c)] 78)).alloc (.cells #[.func (Fn.func 81) #[] #[.pointer (some ⟨w.heap.size + 1 + 1 + 1, 0, none⟩), .pointer (some ⟨w.heap.size, 0, none⟩), .pointer (some ⟨w.heap.size + 1, 0, none⟩)]] 111)) := by
  obtain ⟨x1, x2, x3, x4, x5, x6⟩ := five w (.cells #[.slice a c.length cap] 37) (.cells #[.slice (some ⟨bu, 0, none⟩) c.length c.length, .slice (some ⟨bv, 0, none⟩) (wideL c) (wideL c)] 95) (.cells #[.int .i64 (fr : Int)] 3) (.cells #[.slice (some ⟨bs, 0, none⟩) (wideL c) (wideL c)] 78) (.cells #[.func (Fn.func 81) #[] #[.pointer (some ⟨w.heap.size + 1 + 1 + 1, 0, none⟩), .pointer (some ⟨w.heap.size, 0, none⟩), .pointer (some ⟨w.heap.size + 1, 0, none⟩)]] 111)
  exact ⟨⟨x1, x2, x3, x4, x5⟩, x6⟩
set_option maxRecDepth 100000 in
set_option maxHeartbeats 8000000 in
theorem reach_any {c : List (List Int)} {a : Option Addr} {cap bu bv bs fr : Nat} {u v : Nat → Int} {used : Nat → Bool} {w : World} (X : RX c a bu bv bs u v used w) (hfr : fr ≤ c.length) :
    Calls Tryz.prog 68 #[.slice a c.length cap, .agg #[.slice (some ⟨bu, 0, none⟩) c.length c.length, .slice (some ⟨bv, 0, none⟩) (wideL c) (wideL c)], .int .i64 (fr : Int), .slice (some ⟨bs, 0, none⟩) (wideL c) (wideL c)] w (ReachPost c u v used fr w) := by
  obtain ⟨f1, f2, f3, f4⟩ := formE_ok X.he
  have HX := Lib.hid X; clear X f3 f4
  go_enter Tryz.func68, Tryz.ntmps68
  go_upto_region 2 with (fail)
  obtain ⟨Y, hb⟩ := rv_start c a cap bu bv bs fr w
  generalize (((((w.alloc (.cells #[.slice a c.length cap] 37)).alloc (.cells #[.slice (some ⟨bu, 0, none⟩) c.length c.length, .slice (some ⟨bv, 0, none⟩) (wideL c) (wideL c)] 95)).alloc (.cells #[.int .i64 (fr : Int)] 3)).alloc (.cells #[.slice (some ⟨bs, 0, none⟩) (wideL c) (wideL c)] 78)).alloc (.cells #[.func (Fn.func 81) #[] #[.pointer (some ⟨w.heap.size + 1 + 1 + 1, 0, none⟩), .pointer (some ⟨w.heap.size, 0, none⟩), .pointer (some ⟨w.heap.size + 1, 0, none⟩)]] 111)) = w0 at *
  have HX0 := Lib.hid (HX.out.below hb); have HY := Lib.hid Y; have HB := Lib.hid hb
  have hc4 := box_cells HY.out.x4; have hc7 := box_cells HY.out.x7; have hc9 := box_cells HY.out.x9
  clear Y hb
  go_cut [10] (fun s10 W => ∃ sN bn : Nat, s10 = .func (Fn.func 91) #[] #[.pointer (some ⟨sN + 1, 0, none⟩), .pointer (some ⟨sN + 1 + 1, 0, none⟩), .pointer (some ⟨sN, 0, none⟩)] ∧ w0.heap.size ≤ bn ∧ bn < sN ∧ GSt (gi1 c u v used w.heap.size (w.heap.size + 1) (w.heap.size + 1 + 1 + 1) sN bn w0) W (fun _ => -1))
  case first =>
    have HB0 := Lib.hid (Below.refl w0.heap.size w0)
    go_region_held3 (fun W => W.cell? ⟨w.heap.size, 0, none⟩ = some (.slice a c.length cap) ∧ W.cell? ⟨w.heap.size + 1 + 1 + 1, 0, none⟩ = some (.slice (some ⟨bs, 0, none⟩) (wideL c) (wideL c)) ∧ W.cell? ⟨w.heap.size + 1 + 1 + 1 + 1, 0, none⟩ = some (.func (Fn.func 81) #[] #[.pointer (some ⟨w.heap.size + 1 + 1 + 1, 0, none⟩), .pointer (some ⟨w.heap.size, 0, none⟩), .pointer (some ⟨w.heap.size + 1, 0, none⟩)]))
      (first | exact ⟨hc4 0, hc7 0, hc9 0⟩ | go_keep)
      (first
        | (go_at_call 83; refine (nobody_any _ _ (by omega)).mono ?_; rintro e w2 ⟨bn, rfl, hbn, hr, hb⟩; (try replace hb := drewB hb); have HBN := Lib.hid hbn; have HRN := Lib.hid hr; replace HB0 := Lib.hid (HB0.out.trans (hb.mono HB0.out.size)); have hy := HY.out.below HB0.out; replace hc4 := box_cells hy.x4; replace hc7 := box_cells hy.x7; replace hc9 := box_cells hy.x9; clear hb hr hbn hy)
        | (go_at_call 82; refine (finder_any _ _ _ _ _ _ _).mono ?_; rintro e w3 ⟨sN, hsN, rfl, x1, x2, x3, hb⟩; have hbs : bn < sN := (by have := HRN.out.lt; rw [hsN]; exact this); (try replace hb := drewB hb); replace HRN := Lib.hid (HRN.out.below hb); replace HB0 := Lib.hid (HB0.out.trans (hb.mono HB0.out.size)); have hy := HY.out.below HB0.out; replace hc4 := box_cells hy.x4; replace hc7 := box_cells hy.x7; replace hc9 := box_cells hy.x9; have HY1 := Lib.hid x1; have HY2 := Lib.hid x2; have HY3 := Lib.hid x3; clear hb hsN x1 x2 x3 hy))
    all_goals
      go_wp2_with (fail)
      go_meet
      case rel => exact ⟨sN, bn, rfl, HBN.out, hbs, ⟨by have := lt_blk HY3.out; simp only [gi1]; omega, HY2.out, HY3.out, HY1.out, HRN.out, HB0.out⟩⟩
  case rest =>
    obtain ⟨sN, bn, rfl, hB0, hbs, S0⟩ := hcut
    have HG := Lib.hid (gi1_ok HX0.out HY.out hB0 hbs); have HS0 := Lib.hid S0
    have sw : Below w0.heap.size w0 wc := S0.sw
    have hy := HY.out.below sw
    have hc6 := box_cells hy.x6
    replace hc4 := box_cells hy.x4
    clear S0 hy sw hc7 hc9
    go_wp2
    go_loopw [11] (fun s11 wr => ∃ r : Nat, fr ≤ r ∧ r ≤ c.length ∧ s11 = .int .i64 r ∧ RInv1 c (gi1 c u v used w.heap.size (w.heap.size + 1) (w.heap.size + 1 + 1 + 1) sN bn w0) w0 fr r wr) (fun s11 _ => c.length - (intOf s11).toNat)
    case atStart => exact ⟨fr, Nat.le_refl _, hfr, rfl, _, HS0.out, own_empty _ _ fun i hi => by omega, HS0.out.sw⟩
    case round =>
      obtain ⟨r, hr1, hr2, rfl, ow, S, O, b⟩ := hrel
      have HSt := Lib.hid S; have HO := Lib.hid O; have HBB := Lib.hid b
      have hy := HY.out.below b
      replace hc4 := box_cells hy.x4
      have hc7 := box_cells hy.x7
      clear S O b hy hc6
      by_cases hlt : r < c.length
      · go_wp2_with (fail)
        refine (search_any _ HG.out r ow wr hlt (own_val HO.out fun i hi => Nat.lt_trans hi.2 hlt) HSt.out).mono ?_
        rintro e w5 ⟨ok, ow', mv, met, rfl, S5, K5, o5, v5, l5, Y5⟩
        have HS5 := Lib.hid S5
        have sw5 : Below w0.heap.size w0 w5 := S5.sw
        have HB5 := Lib.hid sw5
        have hy := HY.out.below sw5
        replace hc4 := box_cells hy.x4
        clear S5 K5 o5 v5 l5 sw5 hy hc7
        rcases Y5 with ⟨rfl, Y⟩ | ⟨rfl, rfl, ks, seen', rfl, N⟩
        · have HYY := Lib.hid Y; clear Y
          go_wp2
          go_roundw
          case rel => exact ⟨r + 1, by omega, by omega, by go_num, ow', HS5.out, own_of_iff (own_more HYY.out HO.out fun h => by omega) fun i => by omega, HB5.out⟩
          case measure => simp [intOf]; omega
        · have HN := Lib.hid N; clear N
          go_wp2
          go_ret
          exact ⟨false, rfl, ⟨fun h => (by cases h), fun h => (no_way HN.out HO.out (fun h => by omega) (R' := fun i => fr ≤ i ∧ i < c.length) (fun i hi => by omega) (canEnd_rows h)).elim⟩, HB.out.trans (HB5.out.mono HB.out.size)⟩
      · have HM1 := Lib.hid (HO.out.mt.sub (R' := fun i => fr ≤ i ∧ i < c.length) fun i hi => by omega)
        have hc9 := box_cells (HY.out.below HBB.out).x9
        go_upto_region 9 with (fail)
        go_cut [14] (fun s14 W => ∃ sM bm : Nat, s14 = .func (Fn.func 91) #[] #[.pointer (some ⟨sM + 1, 0, none⟩), .pointer (some ⟨sM + 1 + 1, 0, none⟩), .pointer (some ⟨sM, 0, none⟩)] ∧ w0.heap.size ≤ bm ∧ bm < sM ∧ GSt (gi2 c u v used fr (w.heap.size + 1 + 1) (w.heap.size + 1 + 1 + 1 + 1) sM bm w0) W (fun _ => -1))
        case first =>
          have HB0 := Lib.hid HBB.out
          go_region_held3 (fun W => W.cell? ⟨w.heap.size, 0, none⟩ = some (.slice a c.length cap) ∧ W.cell? ⟨w.heap.size + 1 + 1 + 1, 0, none⟩ = some (.slice (some ⟨bs, 0, none⟩) (wideL c) (wideL c)))
            (first | exact ⟨hc4 0, hc7 0⟩ | go_keep)
            (first
              | (go_at_call 83; refine (nobody_any _ _ (by omega)).mono ?_; rintro e w2 ⟨bm, rfl, hbn, hr, hb⟩; (try replace hb := drewB hb); have HBN := Lib.hid (Nat.le_trans HB0.out.size hbn); have HRN := Lib.hid hr; replace HB0 := Lib.hid (HB0.out.trans (hb.mono HB0.out.size)); have hy := HY.out.below HB0.out; replace hc4 := box_cells hy.x4; replace hc7 := box_cells hy.x7; clear hb hr hbn hy)
              | (go_at_call 82; refine (finder_any _ _ _ _ _ _ _).mono ?_; rintro e w3 ⟨sM, hsN, rfl, x1, x2, x3, hb⟩; have hbs2 : bm < sM := (by have := HRN.out.lt; rw [hsN]; exact this); (try replace hb := drewB hb); replace HRN := Lib.hid (HRN.out.below hb); replace HB0 := Lib.hid (HB0.out.trans (hb.mono HB0.out.size)); have hy := HY.out.below HB0.out; replace hc4 := box_cells hy.x4; replace hc7 := box_cells hy.x7; have HY1 := Lib.hid x1; have HY2 := Lib.hid x2; have HY3 := Lib.hid x3; clear hb hsN x1 x2 x3 hy))
          all_goals
            go_wp2_with (fail)
            go_meet
            case rel => exact ⟨sM, bm, rfl, HBN.out, hbs2, ⟨by have := lt_blk HY3.out; simp only [gi2]; omega, HY2.out, HY3.out, HY1.out, HRN.out, HB0.out⟩⟩
        case rest =>
          obtain ⟨sM, bm, rfl, hB2, hbs2, S2⟩ := hcut
          have HG2 := Lib.hid (gi2_ok HX0.out HY.out hB2 hbs2); have HS2 := Lib.hid S2
          have sw : Below w0.heap.size w0 wc := S2.sw
          have hy := HY.out.below sw
          replace hc7 := box_cells hy.x7
          clear S2 hy sw hc9 hc4
          go_wp2
          go_loopw [51] (fun i wr => ∃ j : Nat, j ≤ wideL c ∧ i = .int .i64 j ∧ RInv2 c (gi2 c u v used fr (w.heap.size + 1 + 1) (w.heap.size + 1 + 1 + 1 + 1) sM bm w0) w0 (mustB v used) j wr) (fun i _ => wideL c - (intOf i).toNat)
          case atStart => exact ⟨0, Nat.zero_le _, rfl, _, HS2.out, own_empty _ _ fun i hi => by omega, HS2.out.sw⟩
          case round =>
            obtain ⟨j, hj, rfl, ow2, S, O, b⟩ := hrel
            have HSt2 := Lib.hid S; have HO2 := Lib.hid O; have HB2 := Lib.hid b
            clear S O b hc7
            by_cases hlt2 : j < wideL c
            · have hx := HX0.out.below HB2.out
              have gs : wr.cell? ⟨bs, j, none⟩ = some (.bool (used j)) := hx.rs.cell hlt2
              have gv : wr.cell? ⟨bv, j, none⟩ = some (.int .i64 (v j)) := hx.rv.cell hlt2
              have gP := box_cells (HY.out.below HB2.out).x5
              clear hx
              cases hv0 : v j == 0
              · have HV0 := Lib.hid hv0
                cases hus : used j
                · rw [hus] at gs
                  have HMust := Lib.hid (show mustB v used j = true by simp [mustB, hus, hv0]); clear hus
                  go_wp2_with (fail)
                  refine (search_any _ HG2.out j ow2 wr hlt2 (own_val HO2.out fun i hi => by have := hi.1; show i < wideL c; omega) HSt2.out).mono ?_
                  rintro e w5 ⟨ok, ow', mv, met, rfl, S5, K5, o5, v5, l5, Y5⟩
                  have HS5 := Lib.hid S5
                  have sw5 : Below w0.heap.size w0 w5 := S5.sw
                  have HB5 := Lib.hid sw5
                  clear S5 K5 o5 v5 l5 sw5 gs gv gP
                  rcases Y5 with ⟨rfl, Y⟩ | ⟨rfl, rfl, ks, seen', rfl, N⟩
                  · have HYY := Lib.hid Y; clear Y
                    go_wp2
                    go_roundw
                    case rel => exact ⟨j + 1, by omega, by go_num, ow', HS5.out, own_of_iff (own_more HYY.out HO2.out fun h => by omega) (fun i => ⟨fun h => by
                      rcases h with h | rfl
                      · exact ⟨by omega, h.2⟩
                      · exact ⟨by omega, HMust.out⟩, fun h => by
                      by_cases e : i = j
                      · exact .inr e
                      · exact .inl ⟨by omega, h.2⟩⟩), HB5.out⟩
                    case measure => simp [intOf]; omega
                  · have HN := Lib.hid N; clear N
                    go_wp2
                    go_ret
                    exact ⟨false, rfl, ⟨fun h => (by cases h), fun h => (no_way HN.out HO2.out (fun h => by omega) (R' := fun k => k < wideL c ∧ mustB v used k = true) (fun i hi => by
                      rcases hi with hi | rfl
                      · exact ⟨by omega, hi.2⟩
                      · exact ⟨hlt2, HMust.out⟩) (canEnd_cols h)).elim⟩, HB.out.trans (HB5.out.mono HB.out.size)⟩
                · rw [hus] at gs
                  have HMust := Lib.hid (show mustB v used j = false by simp [mustB, hus]); clear hus
                  go_wp2
                  go_roundw
                  case rel => exact ⟨j + 1, by omega, by go_num, ow2, HSt2.out, own_of_iff HO2.out (fun i => ⟨fun h => ⟨by omega, h.2⟩, fun h => ⟨by
                    have : i ≠ j := fun e => by rw [e, HMust.out] at h; cases h.2
                    omega, h.2⟩⟩), HB2.out⟩
                  case measure => simp [intOf]; omega
              · have HMust := Lib.hid (show mustB v used j = false by simp [mustB, hv0])
                go_wp2
                go_roundw
                case rel => exact ⟨j + 1, by omega, by go_num, ow2, HSt2.out, own_of_iff HO2.out (fun i => ⟨fun h => ⟨by omega, h.2⟩, fun h => ⟨by
                  have : i ≠ j := fun e => by rw [e, HMust.out] at h; cases h.2
                  omega, h.2⟩⟩), HB2.out⟩
                case measure => simp [intOf]; omega
            · have HM2 := Lib.hid (HO2.out.mt.sub (R' := fun k => k < wideL c ∧ mustB v used k = true) fun i hi => ⟨by omega, hi.2⟩)
              go_wp2
              go_ret
              exact ⟨true, rfl, ⟨fun _ => canEnd_of HM1.out HM2.out, fun _ => rfl⟩, HB.out.trans (HB2.out.mono HB.out.size)⟩
end Go.Proofs.YtehdhbnbajfanaaGreat


/- What match.Best has found after some rows: plain laws; one law for copy of a row onto a row. -/
namespace Go.Proofs.YtehdhbnbajfanaaGreat
set_option linter.unusedSimpArgs false
set_option linter.unusedVariables false
open Go.RowKit Go.Sort Go.Shelf

/-- The columns l are those of the first rows of a best matching, and no other one has a lesser column where both differ first. -/
structure Beg (c : List (List Int)) (u v : Nat → Int) (l : List Nat) : Prop where
  ex : ∃ f, Tight (cc c) (wideL c) c.length u v f ∧ ∀ j, j < l.length → f j = l.getD j 0
  min : ∀ j, j < l.length → ∀ g, Tight (cc c) (wideL c) c.length u v g → (∀ j', j' < j → g j' = l.getD j' 0) → l.getD j 0 ≤ g j
  len : l.length ≤ c.length
theorem getD_app {l : List Nat} {k j : Nat} : (l ++ [k]).getD j 0 = if j < l.length then l.getD j 0 else if j = l.length then k else 0 := by
  simp only [List.getD]
  split
  · rename_i h; rw [List.getElem?_append_left h]
  · rename_i h
    split
    · rename_i h2; subst h2; simp
    · rename_i h2; rw [List.getElem?_eq_none (by simp; omega)]; rfl
theorem mem_getD {l : List Nat} {k : Nat} (h : k ∈ l) : ∃ j, j < l.length ∧ l.getD j 0 = k := by
  obtain ⟨j, hj, e⟩ := List.mem_iff_getElem.1 h
  exact ⟨j, hj, by simp [List.getD, hj, e]⟩
theorem getD_mem {l : List Nat} {j : Nat} (h : j < l.length) : l.getD j 0 ∈ l := by
  simp only [List.getD, List.getElem?_eq_getElem h, Option.getD_some]
  exact List.getElem_mem _
/-- After row i the column k can come, as reach says. -/
theorem canEnd_iff {c : List (List Int)} {u v : Nat → Int} {l : List Nat} {k : Nat} (b : Beg c u v l) (hl : l.length < c.length) (hk : k < wideL c) (h1 : k ∉ l) (h2 : 0 ≤ cc c l.length k) (h3 : u l.length + v k = cc c l.length k) :
    CanEnd c u v (fun x => (l ++ [k]).contains x) (l.length + 1) ↔ ∃ g, Tight (cc c) (wideL c) c.length u v g ∧ (∀ j, j < l.length → g j = l.getD j 0) ∧ g l.length = k := by
  obtain ⟨f, hf, hfl⟩ := b.ex
  constructor
  · rintro ⟨f', m', all'⟩
    have use : ∀ i, l.length + 1 ≤ i → i < c.length → f' i ∉ l ∧ f' i ≠ k ∧ 0 ≤ cc c i (f' i) ∧ u i + v (f' i) = cc c i (f' i) := fun i h4 h5 => by
      have := m'.can i ⟨h4, h5⟩
      simp only [exB, Bool.and_eq_true, Bool.not_eq_true', decide_eq_true_eq, beq_iff_eq] at this
      obtain ⟨q1, q2, q3⟩ := this
      have q4 : f' i ∉ l ++ [k] := by simpa using q1
      simp at q4
      exact ⟨q4.1, q4.2, q2, q3⟩
    refine ⟨fun i => if i < l.length then l.getD i 0 else if i = l.length then k else f' i, ⟨⟨fun i hi => ?_, fun i hi => ?_, fun i j hi hj e => ?_⟩, fun i hi => ?_, fun x hx hv => ?_⟩, fun j hj => by simp [hj], by simp⟩
    · by_cases e1 : i < l.length
      · simp only [if_pos e1]; rw [← hfl i e1]; exact hf.mt.lt i hi
      · simp only [if_neg e1]
        by_cases e2 : i = l.length
        · simp only [if_pos e2]; exact hk
        · simp only [if_neg e2]; exact m'.lt i ⟨by omega, hi⟩
    · by_cases e1 : i < l.length
      · simp only [if_pos e1]; rw [← hfl i e1]; exact hf.mt.can i hi
      · simp only [if_neg e1]
        by_cases e2 : i = l.length
        · simp only [if_pos e2]; rw [e2]; exact (may_iff _ _ _).2 h2
        · simp only [if_neg e2]; exact (may_iff _ _ _).2 (use i (by omega) hi).2.2.1
    · have key : ∀ i j, i < c.length → j < c.length → i < j → (if i < l.length then l.getD i 0 else if i = l.length then k else f' i) = (if j < l.length then l.getD j 0 else if j = l.length then k else f' j) → False := by
        intro i j hi hj hij e
        by_cases e1 : i < l.length <;> by_cases e3 : j < l.length
        · rw [if_pos e1, if_pos e3, ← hfl i e1, ← hfl j e3] at e
          have := hf.mt.inj i j hi hj e; omega
        · rw [if_pos e1, if_neg e3] at e
          by_cases e4 : j = l.length
          · rw [if_pos e4] at e; exact h1 (e ▸ getD_mem e1)
          · rw [if_neg e4] at e; exact (use j (by omega) hj).1 (e ▸ getD_mem e1)
        · omega
        · rw [if_neg e1, if_neg e3, if_neg (by omega : ¬ j = l.length)] at e
          by_cases e2 : i = l.length
          · rw [if_pos e2] at e; exact (use j (by omega) hj).2.1 e.symm
          · rw [if_neg e2] at e
            have := m'.inj i j ⟨by omega, hi⟩ ⟨by omega, hj⟩ e; omega
      by_cases q : i = j
      · exact q
      · rcases Nat.lt_or_gt_of_ne q with q | q
        · exact (key i j hi hj q e).elim
        · exact (key j i hj hi q e.symm).elim
    · by_cases e1 : i < l.length
      · simp only [if_pos e1]; rw [← hfl i e1]; exact hf.eq i hi
      · simp only [if_neg e1]
        by_cases e2 : i = l.length
        · simp only [if_pos e2]; rw [e2]; exact h3
        · simp only [if_neg e2]; exact (use i (by omega) hi).2.2.2
    · by_cases e1 : x ∈ l
      · obtain ⟨j, hj, e⟩ := mem_getD e1
        exact ⟨j, by omega, by simp only [if_pos hj]; exact e⟩
      · by_cases e2 : x = k
        · exact ⟨l.length, hl, by simp [e2]⟩
        · obtain ⟨i, hi, e⟩ := all' x hx hv (by simp [e1, e2])
          exact ⟨i, hi.2, by rw [if_neg (by omega), if_neg (by omega)]; exact e⟩
  · rintro ⟨g, hg, hgl, hgk⟩
    have out : ∀ i, l.length + 1 ≤ i → i < c.length → g i ∉ l ∧ g i ≠ k := fun i h4 h5 => by
      refine ⟨fun hm => ?_, fun e => ?_⟩
      · obtain ⟨j, hj, e⟩ := mem_getD hm
        have := hg.mt.inj i j h5 (by show j < c.length; omega) (by rw [hgl j hj, e]); omega
      · have := hg.mt.inj i l.length h5 hl (by rw [hgk, e]); omega
    refine ⟨g, ⟨fun i hi => hg.mt.lt i hi.2, fun i hi => ?_, fun i j hi hj e => hg.mt.inj i j hi.2 hj.2 e⟩, fun x hx hv hu => ?_⟩
    · obtain ⟨q1, q2⟩ := out i hi.1 hi.2
      simp only [exB, Bool.and_eq_true, Bool.not_eq_true', decide_eq_true_eq, beq_iff_eq]
      exact ⟨by simp [q1, q2], (may_iff _ _ _).1 (hg.mt.can i hi.2), hg.eq i hi.2⟩
    · obtain ⟨i, hi, e⟩ := hg.all x hx hv
      have hx2 : x ∉ l ++ [k] := by simpa using hu
      simp at hx2
      refine ⟨i, ⟨?_, hi⟩, e⟩
      by_cases q1 : i < l.length
      · exact absurd (by rw [← e, hgl i q1]; exact getD_mem q1) hx2.1
      · by_cases q2 : i = l.length
        · exact absurd (by rw [← e, q2, hgk]) hx2.2
        · omega
/-- The columns below k cannot come. -/
def Not (c : List (List Int)) (u v : Nat → Int) (l : List Nat) (k : Nat) : Prop := ∀ g, Tight (cc c) (wideL c) c.length u v g → (∀ j, j < l.length → g j = l.getD j 0) → k ≤ g l.length
theorem Not.skip {c : List (List Int)} {u v : Nat → Int} {l : List Nat} {k : Nat} (n : Not c u v l k) (hl : l.length < c.length) (h : k ∈ l ∨ cc c l.length k < 0 ∨ u l.length + v k ≠ cc c l.length k) : Not c u v l (k + 1) := fun g hg hp => by
  have h1 := n g hg hp
  have h2 : g l.length ≠ k := fun e => by
    rcases h with h | h | h
    · obtain ⟨j, hj, e2⟩ := mem_getD h
      have := hg.mt.inj l.length j hl (by show j < c.length; omega) (by rw [hp j hj, e2, e]); omega
    · have := (may_iff _ _ _).1 (hg.mt.can _ hl)
      rw [e] at this; omega
    · have := hg.eq _ hl
      rw [e] at this; exact h this
  omega
theorem Not.no {c : List (List Int)} {u v : Nat → Int} {l : List Nat} {k : Nat} (n : Not c u v l k) (h : ¬ ∃ g, Tight (cc c) (wideL c) c.length u v g ∧ (∀ j, j < l.length → g j = l.getD j 0) ∧ g l.length = k) : Not c u v l (k + 1) := fun g hg hp => by
  have h1 := n g hg hp
  have h2 : g l.length ≠ k := fun e => h ⟨g, hg, hp, e⟩
  omega
theorem Beg.next {c : List (List Int)} {u v : Nat → Int} {l : List Nat} {k : Nat} (b : Beg c u v l) (hl : l.length < c.length) (n : Not c u v l k) (h : ∃ g, Tight (cc c) (wideL c) c.length u v g ∧ (∀ j, j < l.length → g j = l.getD j 0) ∧ g l.length = k) : Beg c u v (l ++ [k]) := by
  obtain ⟨g, hg, hp, hk⟩ := h
  refine ⟨⟨g, hg, fun j hj => ?_⟩, fun j hj g2 hg2 hp2 => ?_, by simp; omega⟩
  · rw [getD_app]
    by_cases e : j < l.length
    · rw [if_pos e]; exact hp j e
    · have : j = l.length := by simp at hj; omega
      subst this; simp [hk]
  · by_cases e : j < l.length
    · rw [getD_app, if_pos e]
      refine b.min j e g2 hg2 fun j' hj' => ?_
      rw [hp2 j' hj', getD_app, if_pos (by omega)]
    · have : j = l.length := by simp at hj; omega
      subst this
      rw [getD_app, if_neg (by omega), if_pos rfl]
      refine n g2 hg2 fun j' hj' => ?_
      rw [hp2 j' hj', getD_app, if_pos hj']
theorem Not.end_ {c : List (List Int)} {u v : Nat → Int} {l : List Nat} (b : Beg c u v l) (hl : l.length < c.length) (n : Not c u v l (wideL c)) : False := by
  obtain ⟨f, hf, hp⟩ := b.ex
  have h1 := n f hf hp
  have h2 := hf.mt.lt _ hl
  omega
theorem Not.start (c : List (List Int)) (u v : Nat → Int) (l : List Nat) : Not c u v l 0 := fun _ _ _ => Nat.zero_le _
/-- copy of a row onto a row that has just been made. -/
theorem wpList_copy_rows {P : Program} {w : World} {ops : Array Oper} {rest : List Oper} {o : Oper} {a : Act} {Q : Exit → Act → World → Prop} (hgd : o.guard = none) (d s : Operand) (dT sT : TypeId)
    (ho : o.op = .call { callee := .builtin .copy, args := #[d, s], argTypes := #[dT, sT] }) (elem : TypeId) (hu : P.underlying dT = some (.slice elem)) (hsz : (P.info? elem).map (·.size) = some 1)
    (n g b : Nat) (T : TypeId) (f x : Nat → Value) (hd : a.eval d = .slice (some ⟨g, 0, none⟩) n n) (hs : a.eval s = .slice (some ⟨b, 0, none⟩) n n) (rg : RowAt w g n T f) (rb : RowAt w b n T x) (h1 : ∀ k, (x k).oneCell' = true)
    (K : ∀ w', RowAt w' g n T x → Below g w w' → wpList P ops Q rest (a.put o.dst (goInt n)) w') : wpList P ops Q (o :: rest) a w := by
  obtain ⟨arr, e1, e2, e3⟩ := rg.at_
  have hcs : ((List.range n).map x).length = n := by simp
  refine wpList_copy_splice hgd d s dT sT ho elem hu hsz (some ⟨g, 0, none⟩) (some ⟨b, 0, none⟩) n n n n hd hs g 0 arr.toList T (by simpa using e1) ((List.range n).map x) (by rw [hcs]; exact (Nat.min_self n).symm)
    (fun _ => ⟨rfl, _, rfl, fun j v hj => ?_⟩) (by simp [e2]) (fun v hv => ?_) g w (Below.refl _ _) (Nat.le_refl _) fun w' hw' hb => ?_
  · rw [List.getElem?_map] at hj
    by_cases hjn : j < n
    · rw [List.getElem?_range hjn] at hj
      simp at hj; subst hj
      have := rb.cell hjn
      unfold Addr.add
      split
      · rename_i h0; subst h0; exact this
      · simpa using this
    · rw [List.getElem?_eq_none (by simp; omega)] at hj; cases hj
  · obtain ⟨k, _, rfl⟩ := List.mem_map.1 hv
    exact h1 k
  · have := K w' ⟨_, hw'.out, by simp [splice, e2], fun k hk => by simp [splice, e2, hk]⟩ hb
    rw [hcs]; exact this
theorem own_ne {w : World} {b n B sz : Nat} {T E : TypeId} {f : Nat → Value} {v : Value} {rows : List (List Value)} (r : RowAt w b n T f) (o : OwnR w B E sz v rows) (h : T ≠ E) : v.ownBlock ≠ some b := fun e => by
  obtain ⟨arr, e1, _⟩ := r.at_
  obtain ⟨_, h2⟩ := o.own
  rcases h2 with ⟨rfl, _⟩ | ⟨g, cap, cur, rfl, _, hc, _⟩
  · simp [Value.ownBlock] at e
  · simp [Value.ownBlock] at e
    subst e
    rw [e1] at hc
    simp only [Option.some.injEq, Obj.cells.injEq] at hc
    exact h hc.2.1
end Go.Proofs.YtehdhbnbajfanaaGreat


/- match.Best, walked. -/
namespace Go.Proofs.YtehdhbnbajfanaaGreat
set_option linter.unusedSimpArgs false
set_option linter.unusedVariables false
open Go.RowKit Go.Sort Go.Shelf

def totL (c : List (List Int)) (l : List Nat) : Int := sumN (fun i => cc c i (l.getD i 0)) l.length
theorem totL_app (c : List (List Int)) (l : List Nat) (k : Nat) : totL c (l ++ [k]) = totL c l + cc c l.length k := by
  unfold totL
  rw [List.length_append]
  show sumN _ (l.length + 1) = _
  simp only [sumN]
  rw [getD_app, if_neg (by omega), if_pos rfl]
  congr 1
  exact sumN_congr fun i hi => by rw [getD_app, if_pos hi]
def BestSays (c : List (List Int)) (l : List Nat) (total : Int) (ok : Bool) (err : Int) : Prop :=
  (formE c ≠ 0 ∧ l = [] ∧ total = 0 ∧ ok = false ∧ err = formE c) ∨ (formE c = 0 ∧ err = 0 ∧ ¬ Mtd (may (cc c)) (fun i => i < c.length) (wideL c) ∧ l = [] ∧ total = 0 ∧ ok = false) ∨
    (formE c = 0 ∧ err = 0 ∧ ok = true ∧ total = totL c l ∧ l.length = c.length ∧ ∃ u v, (∃ ow, Pot (cc c) (wideL c) c.length (c.length * (wideL c * 1000000)) u v ow) ∧ Beg c u v l)
def BestPost (c : List (List Int)) (w : World) (e : Ending) (w' : World) : Prop :=
  ∃ (l : List Nat) (total : Int) (ok : Bool) (err : Int) (a : Option Addr) (cap : Nat), e = .returned (.tuple #[.slice a l.length cap, .int .i64 total, .bool ok, .int .i64 err]) ∧ BestSays c l total ok err ∧ SlOk a l.length cap ∧ SlAt w' a 1 (l.map metRow) ∧ Below w.heap.size w w'
def BInv (c : List (List Int)) (u v : Nat → Int) (w3 : World) (s2 s3 s7 s33 : Value) (W : World) : Prop :=
  ∃ (l : List Nat) (bs : Nat), s33 = .int .i64 (l.length : Int) ∧ s3 = .int .i64 (totL c l) ∧ s7 = .slice (some ⟨bs, 0, none⟩) (wideL c) (wideL c) ∧ Beg c u v l ∧ RowAt W bs (wideL c) 4 (fun k => .bool (l.contains k)) ∧ OwnR W w3.heap.size 3 1 s2 (l.map metRow) ∧
    Below w3.heap.size w3 W ∧ 0 ≤ totL c l ∧ totL c l ≤ 1000000 * l.length
theorem form_4 (c : List (List Int)) : formE c ≠ 4 := by unfold formE; split <;> (try split) <;> omega
structure BX (c : List (List Int)) (a : Option Addr) (bp bu bv : Nat) (u v : Nat → Int) (W : World) : Prop where
  xp : W.heap[bp]? = some (.cells #[.slice (some ⟨bu, 0, none⟩) c.length c.length, .slice (some ⟨bv, 0, none⟩) (wideL c) (wideL c)] 95 (0, 0))
  mat : MatAt W a c
  ru : RowAt W bu c.length 3 (iv u)
  rv : RowAt W bv (wideL c) 3 (iv v)
theorem BX.below {c : List (List Int)} {a : Option Addr} {bp bu bv : Nat} {u v : Nat → Int} {W W' : World} (x : BX c a bp bu bv u v W) (hb : Below W.heap.size W W') : BX c a bp bu bv u v W' :=
  ⟨blk_keep x.xp hb, x.mat.below hb, x.ru.below hb, x.rv.below hb⟩
theorem best_box {c : List (List Int)} {a : Option Addr} {bu bv : Nat} {u v : Nat → Int} {w w1 : World} (hm : MatAt w a c) (hb : Below (w.alloc (.cells #[.slice none 0 0, .slice none 0 0] 95)).heap.size (w.alloc (.cells #[.slice none 0 0, .slice none 0 0] 95)) w1)
    (ru : RowAt w1 bu c.length 3 (iv u)) (rv : RowAt w1 bv (wideL c) 3 (iv v)) :
    BX c a w.heap.size bu bv u v ((w1.setCell ⟨w.heap.size, 0, none⟩ (.slice (some ⟨bu, 0, none⟩) c.length c.length)).setCell ⟨w.heap.size, 1, none⟩ (.slice (some ⟨bv, 0, none⟩) (wideL c) (wideL c))) ∧
      Below w.heap.size w ((w1.setCell ⟨w.heap.size, 0, none⟩ (.slice (some ⟨bu, 0, none⟩) c.length c.length)).setCell ⟨w.heap.size, 1, none⟩ (.slice (some ⟨bv, 0, none⟩) (wideL c) (wideL c))) := by
  have x0 := box_below hb
  have B := ((allocB hb).setCell (u := .slice (some ⟨bu, 0, none⟩) c.length c.length) (p := ⟨w.heap.size, 0, none⟩) (by simp)).setCell (u := .slice (some ⟨bv, 0, none⟩) (wideL c) (wideL c)) (p := ⟨w.heap.size, 1, none⟩) (by simp)
  have ne : ∀ {b n : Nat} {f : Nat → Value}, RowAt w1 b n 3 f → b ≠ w.heap.size := fun r e => by
    obtain ⟨arr, e1, _⟩ := r.at_
    rw [e, x0] at e1
    simp only [Option.some.injEq, Obj.cells.injEq] at e1
    exact absurd e1.2.1 (by decide)
  refine ⟨⟨?_, hm.below B, (ru.other (ne ru) _).other (ne ru) _, (rv.other (ne rv) _).other (ne rv) _⟩, B⟩
  exact heap_setCell_same _ _ _ _ _ _ (heap_setCell_same _ _ _ _ _ _ x0)
theorem totL_bounds {c : List (List Int)} {l : List Nat} {k : Nat} (h : 0 ≤ totL c l ∧ totL c l ≤ 1000000 * l.length) (h1 : 0 ≤ cc c l.length k) (h2 : cc c l.length k ≤ 1000000) : 0 ≤ totL c (l ++ [k]) ∧ totL c (l ++ [k]) ≤ 1000000 * (l ++ [k]).length := by
  rw [totL_app, List.length_append]
  have : (([k] : List Nat).length) = 1 := rfl
  omega
theorem beg_start {c : List (List Int)} {V : Int} {u v ow : Nat → Int} (p : Pot (cc c) (wideL c) c.length V u v ow) : Beg c u v [] := by
  obtain ⟨_, f, hf⟩ := pot_fair p
  exact ⟨⟨f, hf, fun j hj => absurd hj (Nat.not_lt_zero _)⟩, fun j hj => absurd hj (Nat.not_lt_zero _), Nat.zero_le _⟩
set_option maxRecDepth 100000 in
set_option maxHeartbeats 8000000 in
theorem Best_any (a : Option Addr) (cap : Nat) (c : List (List Int)) (w : World) (hl : c.length ≤ 100000000000000) (hm : MatAt w a c) (hs : SlOk a c.length cap) :
    Calls Tryz.prog 41 #[.slice a c.length cap] w (BestPost c w) := by
  have HS := Lib.hid hs; have HM := Lib.hid hm; clear hs hm
  have hb0 := (Below.refl w.heap.size w).alloc (Nat.le_refl _) (.cells #[.slice none 0 0, .slice none 0 0] 95)
  have HM0 := Lib.hid (HM.out.below hb0); clear hb0
  go_enter Tryz.func41, Tryz.ntmps41
  go_wp2_with (fail)
  go_step3
  go_wp2_with (fail)
  refine (Prices_any a cap c _ hl HM0.out HS.out).mono ?_
  rintro e w1 ⟨v1, v2, err, rfl, hsay, hb⟩
  have x0 := box_below hb
  have HX := Lib.hid x0; have HB1 := Lib.hid hb; have HB := Lib.hid (allocB hb); have HM1 := Lib.hid (HM0.out.below hb)
  have hc := box_cells x0; have hf := box_free x0; have hz := lt_blk x0
  clear x0 hb
  rcases hsay with ⟨he, rfl, rfl, herr⟩ | ⟨he, hno, rfl, rfl, rfl⟩ | ⟨he, rfl, u, v, bu, bv, rfl, rfl, hp, ru, rv⟩
  · have HE := Lib.hid he; have HR := Lib.hid herr
    have e1 : (err == 0) = false := by rw [beq_eq_false_iff_ne, herr]; exact he
    have e2 : (err == 4) = false := by rw [beq_eq_false_iff_ne, herr]; exact form_4 c
    clear he herr
    go_wp2
    rw [Exit.noGoto_ret]; exact bodyPost_ret (v := .tuple #[.slice none 0 0, .int .i64 0, .bool false, .int .i64 err]) (by simp [results, Tryz.results41, go_sem]) rfl ⟨[], 0, false, err, none, 0, rfl, .inl ⟨HE.out, rfl, rfl, rfl, HR.out⟩, SlOk.nil, SlAt.nil _ _ _, (HB.out.setCell (by simp <;> omega) _).setCell (by simp <;> omega) _⟩
  · have HE := Lib.hid he; have HN := Lib.hid hno; clear he hno
    go_wp2
    rw [Exit.noGoto_ret]; exact bodyPost_ret (v := .tuple #[.slice none 0 0, .int .i64 0, .bool false, .int .i64 0]) (by simp [results, Tryz.results41, go_sem]) rfl ⟨[], 0, false, 0, none, 0, rfl, .inr (.inl ⟨HE.out, rfl, HN.out, rfl, rfl, rfl⟩), SlOk.nil, SlAt.nil _ _ _, (HB.out.setCell (by simp <;> omega) _).setCell (by simp <;> omega) _⟩
  · obtain ⟨f1, f2, f3, f4⟩ := formE_ok he
    have hmk3 := fun w => run_make_row' (P := Tryz.prog) 78 4 (.bool false) 1 Tryz.underlying78 (by kernel_rfl) rfl .i64 .i64 (wideL c) (by omega) (by omega) w
    obtain ⟨X0, B0⟩ := best_box HM.out HB1.out ru rv
    obtain ⟨ow, hp⟩ := hp
    obtain ⟨_, hus, hvs⟩ := pot_small hp (Nat.le_refl _) f1 f2 (fun i k hi hk => (cc_le f3 f4 i k hi hk).2)
    have HU := Lib.hid hus; have HV := Lib.hid hvs
    have HE := Lib.hid he; have HP := Lib.hid hp; have HF3 := Lib.hid f3; have HF4 := Lib.hid f4; have HX0 := Lib.hid X0; have HB0 := Lib.hid B0
    have HBeg := Lib.hid (beg_start hp)
    clear he hp f3 f4 X0 B0 ru rv hus hvs HB HM0 HB1 HM1
    go_wp2_with (fail)
    generalize (w1.setCell ⟨w.heap.size, 0, none⟩ (.slice (some ⟨bu, 0, none⟩) c.length c.length)).setCell ⟨w.heap.size, 1, none⟩ (.slice (some ⟨bv, 0, none⟩) (wideL c) (wideL c)) = w2 at *
    clear hc hf hz
    refine (wide_any a cap c w2 hl HX0.out.mat).mono ?_
    rintro e w' ⟨rfl, rfl⟩
    go_wp2
    have rb := RowAt.made w2 (wideL c) 4 (.bool false)
    have hb := (Below.refl w2.heap.size w2).alloc (Nat.le_refl _) (.cells (madeCells #[.bool false] (wideL c)) 4)
    have bsl : w2.heap.size < (w2.alloc (.cells (madeCells #[.bool false] (wideL c)) 4)).heap.size := by simp
    have HX3 := Lib.hid (HX0.out.below hb)
    have HB3 := Lib.hid (HB0.out.trans (hb.mono HB0.out.size))
    generalize w2.alloc (.cells (madeCells #[.bool false] (wideL c)) 4) = w3 at *
    generalize w2.heap.size = bs0 at *
    have HRB := Lib.hid rb
    clear rb hb
    go_step3
    go_wp2
    go_loopw [2, 3, 7, 33] (fun s2 s3 s7 s33 W => BInv c u v w3 s2 s3 s7 s33 W) (fun _ _ _ s33 _ => c.length - (intOf s33).toNat)
    case atStart => exact ⟨[], bs0, rfl, rfl, rfl, HBeg.out, HRB.out.congr fun k _ => by simp, OwnR.nil _ _ _ _, Below.refl _ _, by simp [totL, sumN], by simp [totL, sumN]⟩
    case round =>
      obtain ⟨l, bs, rfl, rfl, rfl, beg, rs, ow2, bw, t1, t2⟩ := hrel
      obtain ⟨wo, rfl⟩ : ∃ wo : World, wo = wr := ⟨_, rfl⟩
      have HBG := Lib.hid beg; have HRS := Lib.hid rs; have HO := Lib.hid ow2; have HBW := Lib.hid bw
      have hll := beg.len
      clear beg rs ow2 bw HBeg HRB
      have HX := Lib.hid (HX3.out.below HBW.out)
      by_cases hlt : l.length < c.length
      · obtain ⟨b1, off, ai, ci, rfl, c0, hsk, hik⟩ := HX.out.mat.get l.length hlt
        have hlen := HF3.out c[l.length] (List.getElem_mem _)
        rw [hlen] at c0
        have HIK := Lib.hid hik
        clear hsk hik
        go_wp2
        go_loopw [2, 3, 7, 40] (fun s2 s3 s7 s40 W => ∃ k : Nat, k ≤ wideL c ∧ s2 = u2 ∧ s3 = .int .i64 (totL c l) ∧ s7 = .slice (some ⟨bs, 0, none⟩) (wideL c) (wideL c) ∧ s40 = .int .i64 k ∧ Below w3.heap.size w3 W ∧ Below wo.heap.size wo W ∧ Not c u v l k) (fun _ _ _ s40 _ => wideL c - (intOf s40).toNat)
        case atStart => exact ⟨0, Nat.zero_le _, rfl, rfl, rfl, rfl, HBW.out, Below.refl _ _, Not.start _ _ _ _⟩
        case round =>
          obtain ⟨k, hk, rfl, rfl, rfl, rfl, b3, br, hn⟩ := hrel
          obtain ⟨w5, rfl⟩ : ∃ w5 : World, w5 = wr := ⟨_, rfl⟩
          have HX5 := Lib.hid (HX.out.below br); have HB5 := Lib.hid b3; have HBr := Lib.hid br; have HN := Lib.hid hn
          have HIK5 := Lib.hid (HIK.out.below br)
          clear b3 br hn
          by_cases hkn : k < wideL c
          · obtain ⟨b2, off2, rfl, d0⟩ := HIK5.out.get k (by omega)
            rw [← cc_get hlt (by omega)] at d0
            obtain ⟨n1, n2⟩ := cc_le HF3.out HF4.out l.length k hlt hkn
            have gs := (HRS.out.below HBr.out).cell hkn
            have gu : w5.cell? ⟨bu, l.length, none⟩ = some (.int .i64 (u l.length)) := HX5.out.ru.cell hlt
            have gv : w5.cell? ⟨bv, k, none⟩ = some (.int .i64 (v k)) := HX5.out.rv.cell hkn
            have gP := box_cells HX5.out.xp
            obtain ⟨q1, q2⟩ := HU.out l.length
            obtain ⟨q3, q4⟩ := HV.out k hkn
            go_wp2
            have g0 := cell_regrown gs; have g1 := cell_regrown gu; have g2 := cell_regrown gv; have g3 := cell_regrown (gP 0); have g4 := cell_regrown (gP 1)
            cases hc : l.contains k
            · rw [hc] at g0
              have HNc := Lib.hid hc; clear hc
              by_cases hn0 : 0 ≤ cc c l.length k
              · have hn1 : decide (cc c l.length k < 0) = false := by simpa using hn0
                cases hq : u l.length + v k == cc c l.length k
                · have hq2 : (u l.length + v k != cc c l.length k) = true := by simp [bne, hq]
                  have HK : Hid (k ∈ l ∨ cc c l.length k < 0 ∨ u l.length + v k ≠ cc c l.length k) := Lib.hid (.inr (.inr (by simpa using hq)))
                  refine wp_quietB (by kernel_rfl) (by kernel_rfl) ?_
                  repeat (go_big_quiet_step (fail))
                  refine wpQuiet_nil ?_
                  intro w6 hb6
                  replace HB5 := Lib.hid (HB5.out.trans (hb6.mono HB5.out.size)); replace HBr := Lib.hid (HBr.out.trans (hb6.mono HBr.out.size))
                  clear hb6
                  go_wp2
                  go_roundw
                  case rel => exact ⟨k + 1, by omega, rfl, rfl, rfl, by go_num, HB5.out, HBr.out, HN.out.skip hlt HK.out⟩
                  case measure => simp [intOf]; omega
                · have hq2 : (u l.length + v k != cc c l.length k) = false := by simp [bne, hq]
                  have HQ := Lib.hid hq; clear hq
                  refine wp_quietB (by kernel_rfl) (by kernel_rfl) ?_
                  repeat (go_big_quiet_step (fail))
                  refine wpQuiet_nil ?_
                  intro w6 hb6
                  have HB6 := Lib.hid (HB5.out.trans (hb6.mono HB5.out.size)); have HBr6 := Lib.hid (HBr.out.trans (hb6.mono HBr.out.size))
                  clear hb6 g0 g1 g2 g3 g4 gs gu gv gP
                  have rg := RowAt.made w6 (wideL c) 4 (.bool false)
                  have hb7 := (Below.refl w6.heap.size w6).alloc (Nat.le_refl _) (.cells (madeCells #[.bool false] (wideL c)) 4)
                  have HRg := Lib.hid rg; have HRb := Lib.hid ((HRS.out.below HBr6.out).below hb7)
                  have HB7 := Lib.hid (HB6.out.trans (hb7.mono HB6.out.size)); have HBr7 := Lib.hid (HBr6.out.trans (hb7.mono HBr6.out.size))
                  have z6 : w6.heap.size < (w6.alloc (.cells (madeCells #[.bool false] (wideL c)) 4)).heap.size := by simp
                  clear rg hb7
                  have z3 := HB6.out.size; have zo := HBr6.out.size
                  go_upto_region 19 with (refine wpList_copy_rows rfl (.tmp 71) (.tmp 72) 78 78 rfl 4 Tryz.underlying78 (by kernel_rfl) (wideL c) w6.heap.size bs 4 (fun _ => .bool false) (fun k => .bool (l.contains k)) rfl rfl HRg.out HRb.out (fun _ => rfl) ?_; intro w8 r8 hb8; have HR8 := Lib.hid r8; have HB8 := Lib.hid (HB7.out.trans (hb8.mono z3)); have HBr8 := Lib.hid (HBr7.out.trans (hb8.mono zo)); have f8 := r8.free k; have c8 := r8.cell hkn; clear r8 hb8)
                  have zw3 : w3.heap.size ≤ w6.heap.size := z3
                  have zwo : wo.heap.size ≤ w6.heap.size := zo
                  have r9 : RowAt (w8.setCell ⟨w6.heap.size, k, none⟩ (.bool true)) w6.heap.size (wideL c) 4 (fun x => .bool ((l ++ [k]).contains x)) := (HR8.out.set hkn (.bool true)).congr fun x hx => by
                    by_cases e : x = k
                    · subst e; simp [upd_same]
                    · rw [upd_ne _ _ e]; simp [e]
                  have HR9 := Lib.hid r9
                  have HB9 := Lib.hid (HB8.out.setCell (u := .bool true) (p := ⟨w6.heap.size, k, none⟩) zw3)
                  have HBr9 := Lib.hid (HBr8.out.setCell (u := .bool true) (p := ⟨w6.heap.size, k, none⟩) zwo)
                  clear r9 HR8 HB8 HBr8 HB7 HBr7 HRg HRb HB6 HBr6 HB5 HBr f8 c8 z6 z3 zo
                  generalize w8.setCell ⟨w6.heap.size, k, none⟩ (.bool true) = w9 at *
                  generalize w6.heap.size = bn at *
                  have HX9 := Lib.hid (HX.out.below HBr9.out)
                  have gP := box_cells HX9.out.xp
                  have X : RX c (some ⟨b1, off, none⟩) bu bv bn u v (fun x => (l ++ [k]).contains x) w9 := ⟨HE.out, HX9.out.mat, HX9.out.ru, HX9.out.rv, HR9.out, HU.out, HV.out⟩
                  have hr := reach_any (cap := cap) X (fr := l.length + 1) (by omega)
                  rw [show ((l.length + 1 : Nat) : Int) = (l.length : Int) + 1 from rfl] at hr
                  have HRe := Lib.hid hr
                  clear X hr
                  have hkl : k ∉ l := by have := HNc.out; simpa using this
                  have hcan := canEnd_iff HBG.out hlt hkn hkl hn0 (by have := HQ.out; simpa using this)
                  have HCan := Lib.hid hcan
                  clear hcan
                  go_wp2_with (fail)
                  refine HRe.out.mono ?_
                  rintro e w10 ⟨b, rfl, hb, bel⟩
                  have HB10 := Lib.hid (HB9.out.trans (bel.mono HB9.out.size)); have HBr10 := Lib.hid (HBr9.out.trans (bel.mono HBr9.out.size)); have HR10 := Lib.hid (HR9.out.below bel)
                  clear bel gP
                  cases b
                  · have HN2 := Lib.hid (HN.out.no (fun h => by have := hb.2 (HCan.out.2 h); cases this))
                    clear hb
                    go_wp2
                    go_roundw
                    case rel => exact ⟨k + 1, by omega, rfl, rfl, rfl, by go_num, HB10.out, HBr10.out, HN2.out⟩
                    case measure => simp [intOf]; omega
                  · have HG := Lib.hid (HBG.out.next hlt HN.out (HCan.out.1 (hb.1 rfl)))
                    clear hb
                    have HO10 := Lib.hid (HO.out.below HBr10.out)
                    have hne := own_ne HR10.out HO10.out (by decide)
                    have HTB := Lib.hid (totL_bounds ⟨t1, t2⟩ hn0 n2)
                    go_wp2_with (at_builtin; go_must (refine appE eltMet rfl (.tmp 83) (.tmp 85) rfl w3.heap.size _ l rfl (HO10.out.below ((Below.refl _ _).alloc (Nat.le_refl _) _)) _ _ _ [k] rfl rfl (fun e => by cases e) (eltMet.new _ _ _ _ rfl) (by simp; omega) (by have := HB10.out.size; simp; omega) ?_); intro v11 w11 o11 g11)
                    refine ⟨⟨l ++ [k], bn, by rw [List.length_append]; rfl, by rw [totL_app], rfl, HG.out, ?_, o11, ?_, HTB.out.1, HTB.out.2⟩, ?_⟩
                    · have r11 := HR10.out.below ((Below.refl w10.heap.size w10).alloc (Nat.le_refl _) (.cells #[.int .i64 (k : Int)] 3))
                      exact r11.of_eq (g11.block bn r11.lt (Ne.symm hne))
                    · exact below_grown (HB10.out.alloc HB10.out.size _) (HO10.out.below ((Below.refl _ _).alloc (Nat.le_refl _) _)) (by have := HB10.out.size; simp; omega) g11
                    · simp [intOf]; omega
              · have hn1 : decide (cc c l.length k < 0) = true := by simp; omega
                have HK : Hid (k ∈ l ∨ cc c l.length k < 0 ∨ u l.length + v k ≠ cc c l.length k) := Lib.hid (.inr (.inl (by omega)))
                refine wp_quietB (by kernel_rfl) (by kernel_rfl) ?_
                repeat (go_big_quiet_step (fail))
                refine wpQuiet_nil ?_
                intro w6 hb6
                replace HB5 := Lib.hid (HB5.out.trans (hb6.mono HB5.out.size)); replace HBr := Lib.hid (HBr.out.trans (hb6.mono HBr.out.size))
                clear hb6
                go_wp2
                go_roundw
                case rel => exact ⟨k + 1, by omega, rfl, rfl, rfl, by go_num, HB5.out, HBr.out, HN.out.skip hlt HK.out⟩
                case measure => simp [intOf]; omega
            · rw [hc] at g0
              have HK : Hid (k ∈ l ∨ cc c l.length k < 0 ∨ u l.length + v k ≠ cc c l.length k) := Lib.hid (.inl (by simpa using hc))
              refine wp_quietB (by kernel_rfl) (by kernel_rfl) ?_
              repeat (go_big_quiet_step (fail))
              refine wpQuiet_nil ?_
              intro w6 hb6
              replace HB5 := Lib.hid (HB5.out.trans (hb6.mono HB5.out.size)); replace HBr := Lib.hid (HBr.out.trans (hb6.mono HBr.out.size))
              clear hb6
              go_wp2
              go_roundw
              case rel => exact ⟨k + 1, by omega, rfl, rfl, rfl, by go_num, HB5.out, HBr.out, HN.out.skip hlt HK.out⟩
              case measure => simp [intOf]; omega
          · have := HN.out
            rw [show k = wideL c by omega] at this
            exact (Not.end_ HBG.out hlt this).elim
      · obtain ⟨a6, c6, e6, s6, i6⟩ := HO.out.slAt
        have HE6 := Lib.hid e6; have HS6 := Lib.hid s6; have HI6 := Lib.hid i6
        have hle : l.length = c.length := by omega
        clear e6 s6 i6 hlt
        go_wp2
        rw [Exit.noGoto_ret]
        refine bodyPost_ret (v := .tuple #[u2, .int .i64 (totL c l), .bool true, .int .i64 0]) (by simp [results, Tryz.results41, go_sem]) rfl ?_
        refine ⟨l, totL c l, true, 0, a6, c6, ?_, .inr (.inr ⟨HE.out, rfl, rfl, rfl, hle, u, v, ⟨ow, HP.out⟩, HBG.out⟩), ?_, ?_, HB3.out.trans (HBW.out.mono HB3.out.size)⟩
        · have := HE6.out
          rw [List.length_map] at this
          rw [← this]
        · have := HS6.out
          rw [List.length_map] at this
          exact this
        · exact HI6.out
end Go.Proofs.YtehdhbnbajfanaaGreat
