/- match.reach, walked. -/
import Derived.Test.YtkpgphadgomifaaMatchReach
namespace Go.Proofs.Ytkpgphadgomifaa
set_option linter.unusedSimpArgs false
set_option linter.unusedVariables false
open Go.RowKit Go.Sort Go.Shelf

/-- The rows from fr on can get columns that are not used, among them all that must be got. -/
def CanEnd (c : List (List Int)) (u v : Nat → Int) (used : Nat → Bool) (fr : Nat) : Prop :=
  ∃ f, Mt (exB c u v used) (fun i => fr ≤ i ∧ i < c.length) (wideL c) f ∧ ∀ k, k < wideL c → v k ≠ 0 → used k = false → ∃ i, (fr ≤ i ∧ i < c.length) ∧ f i = k
def ReachPost (c : List (List Int)) (u v : Nat → Int) (used : Nat → Bool) (fr : Nat) (w : World) (e : Ending) (w' : World) : Prop :=
  ∃ b : Bool, e = .returned (.bool b) ∧ (b = true ↔ CanEnd c u v used fr) ∧ Below w.heap.size w w'
theorem own_more {can : Nat → Nat → Bool} {n r : Nat} {R : Nat → Prop} {ow ow' : Nat → Int} (Y : Yes can n (fun _ => false) r ow ow') (O : Own can n (fun _ => True) R ow) (hr : ¬ R r) : Own can n (fun _ => True) (fun i => R i ∨ i = r) ow' := by
  have O' : Own can n (fun k => (fun _ : Nat => false) k = false) R ow := ⟨fun k hk _ => O.val k hk trivial, fun i hi => by obtain ⟨k, a, _, b⟩ := O.one i hi; exact ⟨k, a, rfl, b⟩, fun k k' i a b _ _ => O.inj k k' i a b trivial trivial⟩
  have O2 := Y.aug _ O' hr
  exact ⟨fun k hk _ => O2.val k hk rfl, fun i hi => by obtain ⟨k, a, _, b⟩ := O2.one i hi; exact ⟨k, a, trivial, b⟩, fun k k' i a b _ _ => O2.inj k k' i a b rfl rfl⟩
theorem own_of_iff {can : Nat → Nat → Bool} {n : Nat} {R R' : Nat → Prop} {ow : Nat → Int} (O : Own can n (fun _ => True) R ow) (h : ∀ i, R i ↔ R' i) : Own can n (fun _ => True) R' ow := by
  have : R = R' := funext fun i => propext (h i)
  rw [← this]; exact O
theorem own_val {can : Nat → Nat → Bool} {n m : Nat} {R : Nat → Prop} {ow : Nat → Int} (O : Own can n (fun _ => True) R ow) (hR : ∀ i, R i → i < m) : ∀ j, j < n → ow j = -1 ∨ ∃ i : Nat, ow j = i ∧ i < m ∧ can i j = true := fun j hj => by
  rcases O.val j hj trivial with e | ⟨i, e, h1, h2⟩
  · exact .inl e
  · exact .inr ⟨i, e, hR i h1, h2⟩
theorem no_way {can : Nat → Nat → Bool} {n : Nat} {ow : Nat → Int} {seen' : Nat → Bool} {r : Nat} {ks : List Nat} {R R' : Nat → Prop} (h : No can n ow (fun _ => false) seen' r n ks) (O : Own can n (fun _ => True) R ow) (hr : ¬ R r) (hR : ∀ i, R i ∨ i = r → R' i) : ¬ Mtd can R' n := fun hm => by
  have O' : Own can n (fun k => (fun _ : Nat => false) k = false) R ow := ⟨fun k hk _ => O.val k hk trivial, fun i hi => by obtain ⟨k, a, _, b⟩ := O.one i hi; exact ⟨k, a, rfl, b⟩, fun k k' i a b _ _ => O.inj k k' i a b trivial trivial⟩
  refine (h.hall O hr).2.1 (hm.sub fun i hi => ?_)
  rcases List.mem_cons.1 hi with rfl | hi
  · exact hR _ (.inr rfl)
  · exact hR _ (.inl (rows_in h O' i hi))
def backB (c : List (List Int)) (u v : Nat → Int) (used : Nat → Bool) (fr : Nat) (k i : Nat) : Bool := decide (fr ≤ i) && exB c u v used i k
def mustB (v : Nat → Int) (used : Nat → Bool) (k : Nat) : Bool := !(v k == 0) && !used k
theorem canEnd_of {c : List (List Int)} {u v : Nat → Int} {used : Nat → Bool} {fr : Nat} (h1 : Mtd (exB c u v used) (fun i => fr ≤ i ∧ i < c.length) (wideL c)) (h2 : Mtd (backB c u v used fr) (fun k => k < wideL c ∧ mustB v used k = true) c.length) : CanEnd c u v used fr := by
  obtain ⟨f, hf⟩ := h1
  obtain ⟨g, hg⟩ := h2
  obtain ⟨f', hf', hall⟩ := together (can := exB c u v used) (R := fun i => fr ≤ i ∧ i < c.length) (n := wideL c) (mustB v used) g (fun k hk hr => by
      have h1 := hg.lt k ⟨hk, hr⟩
      have h2 := hg.can k ⟨hk, hr⟩
      simp only [backB, Bool.and_eq_true, decide_eq_true_eq] at h2
      exact ⟨⟨h2.1, h1⟩, h2.2⟩) (fun k k' hk hk' hr hr' e => hg.inj k k' ⟨hk, hr⟩ ⟨hk', hr'⟩ e) _ f hf (Nat.le_refl _)
  exact ⟨f', hf', fun k hk hv hu => hall k hk (by simp [mustB, hv, hu])⟩
theorem canEnd_rows {c : List (List Int)} {u v : Nat → Int} {used : Nat → Bool} {fr : Nat} (h : CanEnd c u v used fr) : Mtd (exB c u v used) (fun i => fr ≤ i ∧ i < c.length) (wideL c) := h.elim fun f hf => ⟨f, hf.1⟩
theorem canEnd_cols {c : List (List Int)} {u v : Nat → Int} {used : Nat → Bool} {fr : Nat} (h : CanEnd c u v used fr) : Mtd (backB c u v used fr) (fun k => k < wideL c ∧ mustB v used k = true) c.length := by
  obtain ⟨f, hf, hall⟩ := h
  have hex : ∀ k, ∃ i, (k < wideL c ∧ mustB v used k = true) → (fr ≤ i ∧ i < c.length) ∧ f i = k := fun k => by
    by_cases q : k < wideL c ∧ mustB v used k = true
    · have q2 := q.2
      simp only [mustB, Bool.and_eq_true, Bool.not_eq_true', beq_eq_false_iff_ne] at q2
      obtain ⟨i, hi⟩ := hall k q.1 q2.1 q2.2
      exact ⟨i, fun _ => hi⟩
    · exact ⟨0, fun a => absurd a q⟩
  refine ⟨fun k => Classical.choose (hex k), fun k hk => (Classical.choose_spec (hex k) hk).1.2, fun k hk => ?_, fun k k' hk hk' e => ?_⟩
  · obtain ⟨a, b⟩ := Classical.choose_spec (hex k) hk
    have := hf.can _ a
    rw [b] at this
    simp only [backB, Bool.and_eq_true, decide_eq_true_eq]
    exact ⟨a.1, this⟩
  · have a := (Classical.choose_spec (hex k) hk).2
    have b := (Classical.choose_spec (hex k') hk').2
    simp only [e] at a
    omega
def gi1 (c : List (List Int)) (u v : Nat → Int) (used : Nat → Bool) (t4 t5 t7 sN bn : Nat) (w0 : World) : Gi :=
  { n := wideL c, m := c.length, B := sN + 1 + 1 + 1, bO := sN + 1, bC := sN + 1 + 1, bR := sN, bow := bn, cf := 37, caps := #[.pointer (some ⟨t7, 0, none⟩), .pointer (some ⟨t4, 0, none⟩), .pointer (some ⟨t5, 0, none⟩)], can := exB c u v used, S := fun w => Below w0.heap.size w0 w }
def gi2 (c : List (List Int)) (u v : Nat → Int) (used : Nat → Bool) (fr t6 t9 sN bn : Nat) (w0 : World) : Gi :=
  { n := c.length, m := wideL c, B := sN + 1 + 1 + 1, bO := sN + 1, bC := sN + 1 + 1, bR := sN, bow := bn, cf := 38, caps := #[.pointer (some ⟨t6, 0, none⟩), .pointer (some ⟨t9, 0, none⟩)], can := backB c u v used fr, S := fun w => Below w0.heap.size w0 w }
theorem gi_keep {B bow : Nat} {w0 w w' : World} (hB : w0.heap.size ≤ B) (hw : w0.heap.size ≤ bow) (hs : Below w0.heap.size w0 w) (k : KeepB B [bow] w w') : Below w0.heap.size w0 w' :=
  ⟨k.os.trans hs.os, k.tape.trans hs.tape, k.output.trans hs.output, Nat.le_trans hs.size k.size, fun b hb => (k.block b (Nat.lt_of_lt_of_le hb hB) (by simp only [List.mem_singleton]; omega)).trans (hs.block b hb)⟩
theorem gi1_ok {c : List (List Int)} {a : Option Addr} {cap bu bv bs t4 t5 t6 t7 t9 fr sN bn : Nat} {u v : Nat → Int} {used : Nat → Bool} {w0 : World} (X : RX c a bu bv bs u v used w0) (Y : RV c a cap bu bv bs t4 t5 t6 t7 t9 fr w0) (h1 : w0.heap.size ≤ bn) (h2 : bn < sN) : GiOk (gi1 c u v used t4 t5 t7 sN bn w0) := by
  obtain ⟨f1, f2, _, _⟩ := formE_ok X.he
  refine ⟨⟨by simp only [gi1]; omega, by simp only [gi1]; omega⟩, by simp only [gi1]; omega, by simp only [gi1]; omega, fun w w' hs k => gi_keep (by simp only [gi1]; omega) h1 hs k, fun args w => by kernel_rfl, fun w i k hs hi hk => ?_⟩
  have hs : Below w0.heap.size w0 w := hs
  exact exact_any (X.below hs) (Y.below hs) i k hi hk
theorem gi2_ok {c : List (List Int)} {a : Option Addr} {cap bu bv bs t4 t5 t6 t7 t9 fr sN bn : Nat} {u v : Nat → Int} {used : Nat → Bool} {w0 : World} (X : RX c a bu bv bs u v used w0) (Y : RV c a cap bu bv bs t4 t5 t6 t7 t9 fr w0) (h1 : w0.heap.size ≤ bn) (h2 : bn < sN) : GiOk (gi2 c u v used fr t6 t9 sN bn w0) := by
  obtain ⟨f1, f2, _, _⟩ := formE_ok X.he
  refine ⟨⟨by simp only [gi2]; omega, by simp only [gi2]; omega⟩, by simp only [gi2]; omega, by simp only [gi2]; omega, fun w w' hs k => gi_keep (by simp only [gi2]; omega) h1 hs k, fun args w => by kernel_rfl, fun w k i hs hk hi => ?_⟩
  have hs : Below w0.heap.size w0 w := hs
  exact back_any (X.below hs) (Y.below hs) i k hi hk
def RInv1 (c : List (List Int)) (g : Gi) (w0 : World) (fr r : Nat) (w : World) : Prop := ∃ ow : Nat → Int, GSt g w ow ∧ Own g.can g.n (fun _ => True) (fun i => fr ≤ i ∧ i < r) ow ∧ Below w0.heap.size w0 w
def RInv2 (c : List (List Int)) (g : Gi) (w0 : World) (must : Nat → Bool) (j : Nat) (w : World) : Prop := ∃ ow : Nat → Int, GSt g w ow ∧ Own g.can g.n (fun _ => True) (fun k => k < j ∧ must k = true) ow ∧ Below w0.heap.size w0 w
theorem own_empty (can : Nat → Nat → Bool) (n : Nat) {R : Nat → Prop} (h : ∀ i, ¬ R i) : Own can n (fun _ => True) R (fun _ => -1) := ⟨fun _ _ _ => .inl rfl, fun i hi => absurd hi (h i), fun _ _ i _ _ _ _ e _ => by omega⟩
theorem five (w : World) (A B C D E : Obj) : (((((w.alloc A).alloc B).alloc C).alloc D).alloc E).heap[w.heap.size]? = some A ∧ (((((w.alloc A).alloc B).alloc C).alloc D).alloc E).heap[w.heap.size + 1]? = some B ∧ (((((w.alloc A).alloc B).alloc C).alloc D).alloc E).heap[w.heap.size + 1 + 1]? = some C ∧
    (((((w.alloc A).alloc B).alloc C).alloc D).alloc E).heap[w.heap.size + 1 + 1 + 1]? = some D ∧ (((((w.alloc A).alloc B).alloc C).alloc D).alloc E).heap[w.heap.size + 1 + 1 + 1 + 1]? = some E ∧ Below w.heap.size w (((((w.alloc A).alloc B).alloc C).alloc D).alloc E) := by
  obtain ⟨x1, x2, x3, x4⟩ := box3 (Below.refl (((w.alloc A).alloc B).alloc C).heap.size _)
  refine ⟨up_alloc (up_alloc x1 _) _, up_alloc (up_alloc x2 _) _, up_alloc (up_alloc x3 _) _, up_alloc (at_alloc _ _ (by simp)) _, at_alloc _ _ (by simp), (x4.alloc (by simp; omega) _).alloc (by simp; omega) _⟩
theorem rv_start (c : List (List Int)) (a : Option Addr) (cap bu bv bs fr : Nat) (w : World) : RV c a cap bu bv bs w.heap.size (w.heap.size + 1) (w.heap.size + 1 + 1) (w.heap.size + 1 + 1 + 1) (w.heap.size + 1 + 1 + 1 + 1) fr (((((w.alloc (.cells #[.slice a c.length cap] 22)).alloc (.cells #[.slice (some ⟨bu, 0, none⟩) c.length c.length, .slice (some ⟨bv, 0, none⟩) (wideL c) (wideL c)] 48)).alloc (.cells #[.int .i64 (fr : Int)] 3)).alloc (.cells #[.slice (some ⟨bs, 0, none⟩) (wideL c) (wideL c)] 49)).alloc (.cells #[.func (Fn.func 37) #[] #[.pointer (some ⟨w.heap.size + 1 + 1 + 1, 0, none⟩), .pointer (some ⟨w.heap.size, 0, none⟩), .pointer (some ⟨w.heap.size + 1, 0, none⟩)]] 58)) ∧ Below w.heap.size w (((((w.alloc (.cells #[.slice a c.length cap] 22)).alloc (.cells #[.slice (some ⟨bu, 0, none⟩) c.length c.length, .slice (some ⟨bv, 0, none⟩) (wideL c) (wideL c)] 48)).alloc (.cells #[.int .i64 (fr : Int)] 3)).alloc (.cells #[.slice (some ⟨bs, 0, none⟩) (wideL c) (wideL c)] 49)).alloc (.cells #[.func (Fn.func 37) #[] #[.pointer (some ⟨w.heap.size + 1 + 1 + 1, 0, none⟩), .pointer (some ⟨w.heap.size, 0, none⟩), .pointer (some ⟨w.heap.size + 1, 0, none⟩)]] 58)) := by
  obtain ⟨x1, x2, x3, x4, x5, x6⟩ := five w (.cells #[.slice a c.length cap] 22) (.cells #[.slice (some ⟨bu, 0, none⟩) c.length c.length, .slice (some ⟨bv, 0, none⟩) (wideL c) (wideL c)] 48) (.cells #[.int .i64 (fr : Int)] 3) (.cells #[.slice (some ⟨bs, 0, none⟩) (wideL c) (wideL c)] 49) (.cells #[.func (Fn.func 37) #[] #[.pointer (some ⟨w.heap.size + 1 + 1 + 1, 0, none⟩), .pointer (some ⟨w.heap.size, 0, none⟩), .pointer (some ⟨w.heap.size + 1, 0, none⟩)]] 58)
  exact ⟨⟨x1, x2, x3, x4, x5⟩, x6⟩
set_option maxRecDepth 100000 in
set_option maxHeartbeats 8000000 in
theorem reach_any {c : List (List Int)} {a : Option Addr} {cap bu bv bs fr : Nat} {u v : Nat → Int} {used : Nat → Bool} {w : World} (X : RX c a bu bv bs u v used w) (hfr : fr ≤ c.length) :
    Calls Try.prog 25 #[.slice a c.length cap, .agg #[.slice (some ⟨bu, 0, none⟩) c.length c.length, .slice (some ⟨bv, 0, none⟩) (wideL c) (wideL c)], .int .i64 (fr : Int), .slice (some ⟨bs, 0, none⟩) (wideL c) (wideL c)] w (ReachPost c u v used fr w) := by
  obtain ⟨f1, f2, f3, f4⟩ := formE_ok X.he
  have HX := Lib.hid X; clear X f3 f4
  go_enter Try.func25, Try.ntmps25
  go_upto_region 2 with (fail)
  obtain ⟨Y, hb⟩ := rv_start c a cap bu bv bs fr w
  generalize (((((w.alloc (.cells #[.slice a c.length cap] 22)).alloc (.cells #[.slice (some ⟨bu, 0, none⟩) c.length c.length, .slice (some ⟨bv, 0, none⟩) (wideL c) (wideL c)] 48)).alloc (.cells #[.int .i64 (fr : Int)] 3)).alloc (.cells #[.slice (some ⟨bs, 0, none⟩) (wideL c) (wideL c)] 49)).alloc (.cells #[.func (Fn.func 37) #[] #[.pointer (some ⟨w.heap.size + 1 + 1 + 1, 0, none⟩), .pointer (some ⟨w.heap.size, 0, none⟩), .pointer (some ⟨w.heap.size + 1, 0, none⟩)]] 58)) = w0 at *
  have HX0 := Lib.hid (HX.out.below hb); have HY := Lib.hid Y; have HB := Lib.hid hb
  have hc4 := box_cells HY.out.x4; have hc7 := box_cells HY.out.x7; have hc9 := box_cells HY.out.x9
  clear Y hb
  go_cut [10] (fun s10 W => ∃ sN bn : Nat, s10 = .func (Fn.func 46) #[] #[.pointer (some ⟨sN + 1, 0, none⟩), .pointer (some ⟨sN + 1 + 1, 0, none⟩), .pointer (some ⟨sN, 0, none⟩)] ∧ w0.heap.size ≤ bn ∧ bn < sN ∧ GSt (gi1 c u v used w.heap.size (w.heap.size + 1) (w.heap.size + 1 + 1 + 1) sN bn w0) W (fun _ => -1))
  case first =>
    have HB0 := Lib.hid (Below.refl w0.heap.size w0)
    go_region_held3 (fun W => W.cell? ⟨w.heap.size, 0, none⟩ = some (.slice a c.length cap) ∧ W.cell? ⟨w.heap.size + 1 + 1 + 1, 0, none⟩ = some (.slice (some ⟨bs, 0, none⟩) (wideL c) (wideL c)) ∧ W.cell? ⟨w.heap.size + 1 + 1 + 1 + 1, 0, none⟩ = some (.func (Fn.func 37) #[] #[.pointer (some ⟨w.heap.size + 1 + 1 + 1, 0, none⟩), .pointer (some ⟨w.heap.size, 0, none⟩), .pointer (some ⟨w.heap.size + 1, 0, none⟩)]))
      (first | exact ⟨hc4 0, hc7 0, hc9 0⟩ | go_keep)
      (first
        | (go_at_call 31; refine (nobody_any _ _ (by omega)).mono ?_; rintro e w2 ⟨bn, rfl, hbn, hr, hb⟩; (try replace hb := drewB hb); have HBN := Lib.hid hbn; have HRN := Lib.hid hr; replace HB0 := Lib.hid (HB0.out.trans (hb.mono HB0.out.size)); have hy := HY.out.below HB0.out; replace hc4 := box_cells hy.x4; replace hc7 := box_cells hy.x7; replace hc9 := box_cells hy.x9; clear hb hr hbn hy)
        | (go_at_call 30; refine (finder_any _ _ _ _ _ _ _).mono ?_; rintro e w3 ⟨sN, hsN, rfl, x1, x2, x3, hb⟩; have hbs : bn < sN := (by have := HRN.out.lt; rw [hsN]; exact this); (try replace hb := drewB hb); replace HRN := Lib.hid (HRN.out.below hb); replace HB0 := Lib.hid (HB0.out.trans (hb.mono HB0.out.size)); have hy := HY.out.below HB0.out; replace hc4 := box_cells hy.x4; replace hc7 := box_cells hy.x7; replace hc9 := box_cells hy.x9; have HY1 := Lib.hid x1; have HY2 := Lib.hid x2; have HY3 := Lib.hid x3; clear hb hsN x1 x2 x3 hy))
    all_goals
      go_wp2_with (fail)
      go_meet
      case rel => exact ⟨sN, bn, rfl, HBN.out, hbs, ⟨by have := lt_blk HY3.out; simp only [gi1]; omega, HY2.out, HY3.out, HY1.out, HRN.out, HB0.out⟩⟩
  case rest =>
    obtain ⟨sN, bn, rfl, hB0, hbs, S0⟩ := hcut
    have HG := Lib.hid (gi1_ok HX0.out HY.out hB0 hbs); have HS0 := Lib.hid S0
    have sw : Below w0.heap.size w0 wc := S0.sw
    have hy := HY.out.below sw
    have hc6 := box_cells hy.x6
    replace hc4 := box_cells hy.x4
    clear S0 hy sw hc7 hc9
    go_wp2
    go_loopw [11] (fun s11 wr => ∃ r : Nat, fr ≤ r ∧ r ≤ c.length ∧ s11 = .int .i64 r ∧ RInv1 c (gi1 c u v used w.heap.size (w.heap.size + 1) (w.heap.size + 1 + 1 + 1) sN bn w0) w0 fr r wr) (fun s11 _ => c.length - (intOf s11).toNat)
    case atStart => exact ⟨fr, Nat.le_refl _, hfr, rfl, _, HS0.out, own_empty _ _ fun i hi => by omega, HS0.out.sw⟩
    case round =>
      obtain ⟨r, hr1, hr2, rfl, ow, S, O, b⟩ := hrel
      have HSt := Lib.hid S; have HO := Lib.hid O; have HBB := Lib.hid b
      have hy := HY.out.below b
      replace hc4 := box_cells hy.x4
      have hc7 := box_cells hy.x7
      clear S O b hy hc6
      by_cases hlt : r < c.length
      · go_wp2_with (fail)
        refine (search_any _ HG.out r ow wr hlt (own_val HO.out fun i hi => Nat.lt_trans hi.2 hlt) HSt.out).mono ?_
        rintro e w5 ⟨ok, ow', mv, met, rfl, S5, K5, o5, v5, l5, Y5⟩
        have HS5 := Lib.hid S5
        have sw5 : Below w0.heap.size w0 w5 := S5.sw
        have HB5 := Lib.hid sw5
        have hy := HY.out.below sw5
        replace hc4 := box_cells hy.x4
        clear S5 K5 o5 v5 l5 sw5 hy hc7
        rcases Y5 with ⟨rfl, Y⟩ | ⟨rfl, rfl, ks, seen', rfl, N⟩
        · have HYY := Lib.hid Y; clear Y
          go_wp2
          go_roundw
          case rel => exact ⟨r + 1, by omega, by omega, by go_num, ow', HS5.out, own_of_iff (own_more HYY.out HO.out fun h => by omega) fun i => by omega, HB5.out⟩
          case measure => simp [intOf]; omega
        · have HN := Lib.hid N; clear N
          go_wp2
          go_ret
          exact ⟨false, rfl, ⟨fun h => (by cases h), fun h => (no_way HN.out HO.out (fun h => by omega) (R' := fun i => fr ≤ i ∧ i < c.length) (fun i hi => by omega) (canEnd_rows h)).elim⟩, HB.out.trans (HB5.out.mono HB.out.size)⟩
      · have HM1 := Lib.hid (HO.out.mt.sub (R' := fun i => fr ≤ i ∧ i < c.length) fun i hi => by omega)
        have hc9 := box_cells (HY.out.below HBB.out).x9
        go_upto_region 9 with (fail)
        go_cut [14] (fun s14 W => ∃ sM bm : Nat, s14 = .func (Fn.func 46) #[] #[.pointer (some ⟨sM + 1, 0, none⟩), .pointer (some ⟨sM + 1 + 1, 0, none⟩), .pointer (some ⟨sM, 0, none⟩)] ∧ w0.heap.size ≤ bm ∧ bm < sM ∧ GSt (gi2 c u v used fr (w.heap.size + 1 + 1) (w.heap.size + 1 + 1 + 1 + 1) sM bm w0) W (fun _ => -1))
        case first =>
          have HB0 := Lib.hid HBB.out
          go_region_held3 (fun W => W.cell? ⟨w.heap.size, 0, none⟩ = some (.slice a c.length cap) ∧ W.cell? ⟨w.heap.size + 1 + 1 + 1, 0, none⟩ = some (.slice (some ⟨bs, 0, none⟩) (wideL c) (wideL c)))
            (first | exact ⟨hc4 0, hc7 0⟩ | go_keep)
            (first
              | (go_at_call 31; refine (nobody_any _ _ (by omega)).mono ?_; rintro e w2 ⟨bm, rfl, hbn, hr, hb⟩; (try replace hb := drewB hb); have HBN := Lib.hid (Nat.le_trans HB0.out.size hbn); have HRN := Lib.hid hr; replace HB0 := Lib.hid (HB0.out.trans (hb.mono HB0.out.size)); have hy := HY.out.below HB0.out; replace hc4 := box_cells hy.x4; replace hc7 := box_cells hy.x7; clear hb hr hbn hy)
              | (go_at_call 30; refine (finder_any _ _ _ _ _ _ _).mono ?_; rintro e w3 ⟨sM, hsN, rfl, x1, x2, x3, hb⟩; have hbs2 : bm < sM := (by have := HRN.out.lt; rw [hsN]; exact this); (try replace hb := drewB hb); replace HRN := Lib.hid (HRN.out.below hb); replace HB0 := Lib.hid (HB0.out.trans (hb.mono HB0.out.size)); have hy := HY.out.below HB0.out; replace hc4 := box_cells hy.x4; replace hc7 := box_cells hy.x7; have HY1 := Lib.hid x1; have HY2 := Lib.hid x2; have HY3 := Lib.hid x3; clear hb hsN x1 x2 x3 hy))
          all_goals
            go_wp2_with (fail)
            go_meet
            case rel => exact ⟨sM, bm, rfl, HBN.out, hbs2, ⟨by have := lt_blk HY3.out; simp only [gi2]; omega, HY2.out, HY3.out, HY1.out, HRN.out, HB0.out⟩⟩
        case rest =>
          obtain ⟨sM, bm, rfl, hB2, hbs2, S2⟩ := hcut
          have HG2 := Lib.hid (gi2_ok HX0.out HY.out hB2 hbs2); have HS2 := Lib.hid S2
          have sw : Below w0.heap.size w0 wc := S2.sw
          have hy := HY.out.below sw
          replace hc7 := box_cells hy.x7
          clear S2 hy sw hc9 hc4
          go_wp2
          go_loopw [51] (fun i wr => ∃ j : Nat, j ≤ wideL c ∧ i = .int .i64 j ∧ RInv2 c (gi2 c u v used fr (w.heap.size + 1 + 1) (w.heap.size + 1 + 1 + 1 + 1) sM bm w0) w0 (mustB v used) j wr) (fun i _ => wideL c - (intOf i).toNat)
          case atStart => exact ⟨0, Nat.zero_le _, rfl, _, HS2.out, own_empty _ _ fun i hi => by omega, HS2.out.sw⟩
          case round =>
            obtain ⟨j, hj, rfl, ow2, S, O, b⟩ := hrel
            have HSt2 := Lib.hid S; have HO2 := Lib.hid O; have HB2 := Lib.hid b
            clear S O b hc7
            by_cases hlt2 : j < wideL c
            · have hx := HX0.out.below HB2.out
              have gs : wr.cell? ⟨bs, j, none⟩ = some (.bool (used j)) := hx.rs.cell hlt2
              have gv : wr.cell? ⟨bv, j, none⟩ = some (.int .i64 (v j)) := hx.rv.cell hlt2
              have gP := box_cells (HY.out.below HB2.out).x5
              clear hx
              cases hv0 : v j == 0
              · have HV0 := Lib.hid hv0
                cases hus : used j
                · rw [hus] at gs
                  have HMust := Lib.hid (show mustB v used j = true by simp [mustB, hus, hv0]); clear hus
                  go_wp2_with (fail)
                  refine (search_any _ HG2.out j ow2 wr hlt2 (own_val HO2.out fun i hi => by have := hi.1; show i < wideL c; omega) HSt2.out).mono ?_
                  rintro e w5 ⟨ok, ow', mv, met, rfl, S5, K5, o5, v5, l5, Y5⟩
                  have HS5 := Lib.hid S5
                  have sw5 : Below w0.heap.size w0 w5 := S5.sw
                  have HB5 := Lib.hid sw5
                  clear S5 K5 o5 v5 l5 sw5 gs gv gP
                  rcases Y5 with ⟨rfl, Y⟩ | ⟨rfl, rfl, ks, seen', rfl, N⟩
                  · have HYY := Lib.hid Y; clear Y
                    go_wp2
                    go_roundw
                    case rel => exact ⟨j + 1, by omega, by go_num, ow', HS5.out, own_of_iff (own_more HYY.out HO2.out fun h => by omega) (fun i => ⟨fun h => by
                      rcases h with h | rfl
                      · exact ⟨by omega, h.2⟩
                      · exact ⟨by omega, HMust.out⟩, fun h => by
                      by_cases e : i = j
                      · exact .inr e
                      · exact .inl ⟨by omega, h.2⟩⟩), HB5.out⟩
                    case measure => simp [intOf]; omega
                  · have HN := Lib.hid N; clear N
                    go_wp2
                    go_ret
                    exact ⟨false, rfl, ⟨fun h => (by cases h), fun h => (no_way HN.out HO2.out (fun h => by omega) (R' := fun k => k < wideL c ∧ mustB v used k = true) (fun i hi => by
                      rcases hi with hi | rfl
                      · exact ⟨by omega, hi.2⟩
                      · exact ⟨hlt2, HMust.out⟩) (canEnd_cols h)).elim⟩, HB.out.trans (HB5.out.mono HB.out.size)⟩
                · rw [hus] at gs
                  have HMust := Lib.hid (show mustB v used j = false by simp [mustB, hus]); clear hus
                  go_wp2
                  go_roundw
                  case rel => exact ⟨j + 1, by omega, by go_num, ow2, HSt2.out, own_of_iff HO2.out (fun i => ⟨fun h => ⟨by omega, h.2⟩, fun h => ⟨by
                    have : i ≠ j := fun e => by rw [e, HMust.out] at h; cases h.2
                    omega, h.2⟩⟩), HB2.out⟩
                  case measure => simp [intOf]; omega
              · have HMust := Lib.hid (show mustB v used j = false by simp [mustB, hv0])
                go_wp2
                go_roundw
                case rel => exact ⟨j + 1, by omega, by go_num, ow2, HSt2.out, own_of_iff HO2.out (fun i => ⟨fun h => ⟨by omega, h.2⟩, fun h => ⟨by
                  have : i ≠ j := fun e => by rw [e, HMust.out] at h; cases h.2
                  omega, h.2⟩⟩), HB2.out⟩
                case measure => simp [intOf]; omega
            · have HM2 := Lib.hid (HO2.out.mt.sub (R' := fun k => k < wideL c ∧ mustB v used k = true) fun i hi => ⟨by omega, hi.2⟩)
              go_wp2
              go_ret
              exact ⟨true, rfl, ⟨fun _ => canEnd_of HM1.out HM2.out, fun _ => rfl⟩, HB.out.trans (HB2.out.mono HB.out.size)⟩
end Go.Proofs.Ytkpgphadgomifaa
