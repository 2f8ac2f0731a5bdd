/- The reference's 'only': costs in which a row can get one column alone, in new memory: walked; for well-formed costs with columns. -/
import Derived.Test.YtkpgphadgomifaaMatchLst
import Derived.Test.YtkpgphadgomifaaMatchSome
namespace Go.Proofs.Ytkpgphadgomifaa
set_option linter.unusedSimpArgs false
set_option linter.unusedVariables false
open Go.RowKit Go.Sort Go.Shelf

theorem ownR_made (w : World) (B : Nat) (E : TypeId) (sz : Nat) (hb : B ≤ w.heap.size) : OwnR (w.alloc (.cells #[] E)) B E sz (.slice (some ⟨w.heap.size, 0, none⟩) 0 0) [] :=
  ⟨by simp, World.ownsRow_made w #[] 0 hb (Nat.zero_le _) (by simp)⟩
/-- Row i gets the column k alone. -/
def onlyF (c : List (List Int)) (i k j x : Nat) : Int := if j = i ∧ x ≠ k then -1 else cc c j x
def tabC (m n : Nat) (F : Nat → Nat → Int) : List (List Int) := (List.range m).map fun j => (List.range n).map (F j)
def onlyC (c : List (List Int)) (i k : Nat) : List (List Int) := tabC c.length (wideL c) (onlyF c i k)
theorem tab_len (m n : Nat) (F : Nat → Nat → Int) : (tabC m n F).length = m := by simp [tabC]
theorem tab_row {m n : Nat} {F : Nat → Nat → Int} {j : Nat} (hj : j < m) : (tabC m n F)[j]'(by rw [tab_len]; exact hj) = (List.range n).map (F j) := by simp [tabC]
theorem tab_wide {m n : Nat} {F : Nat → Nat → Int} (hm : 0 < m) : wideL (tabC m n F) = n := by
  cases m with
  | zero => omega
  | succ m => simp [tabC, wideL, List.range_succ_eq_map]
theorem tab_cc {m n : Nat} {F : Nat → Nat → Int} {j x : Nat} (hj : j < m) (hx : x < n) : cc (tabC m n F) j x = F j x := by
  rw [cc_get (by rw [tab_len]; exact hj) (by rw [tab_row hj]; simpa using hx)]
  simp [tab_row hj]
theorem tab_form {m n : Nat} {F : Nat → Nat → Int} (hm : m ≤ 200) (hn : n ≤ 200) (h : ∀ j x, j < m → x < n → -1 ≤ F j x ∧ F j x ≤ 1000000) : formE (tabC m n F) = 0 := by
  refine form_ok (by rw [tab_len]; exact hm) ?_ fun i hi => ?_
  · rw [List.any_eq_false]
    intro x hx
    obtain ⟨i, hi, rfl⟩ := List.mem_iff_getElem.1 hx
    rw [tab_len] at hi
    rw [tab_row hi]
    simp; omega
  · rw [tab_len] at hi
    simp only [rowOk, Bool.and_eq_true, decide_eq_true_eq, List.all_eq_true, costOk]
    rw [tab_row hi, tab_wide (by omega)]
    refine ⟨by simp, fun x hx => ?_⟩
    obtain ⟨k, hk, rfl⟩ := List.mem_map.1 hx
    exact h i k hi (List.mem_range.1 hk)
theorem only_form {c : List (List Int)} (he : formE c = 0) (i k : Nat) : formE (onlyC c i k) = 0 := by
  obtain ⟨f1, f2, f3, f4⟩ := formE_ok he
  refine tab_form f1 f2 fun j x hj hx => ?_
  unfold onlyF
  split
  · omega
  · exact cc_le f3 f4 j x hj hx
theorem row_tab {c : List (List Int)} {j : Nat} (hj : j < c.length) (hl : (c[j]).length = wideL c) : c[j] = (List.range (wideL c)).map (cc c j) := by
  refine List.ext_getElem (by simp [hl]) fun k h1 h2 => ?_
  rw [← cc_get hj h1]; simp
theorem RowC.inAt {w : World} {b n : Nat} {f : Nat → Int} (r : RowC w b n f) : InAt w (some ⟨b, 0, none⟩) ((List.range n).map f) := fun i x hx => by
  rw [List.getElem?_map, List.getElem?_map] at hx
  by_cases hi : i < n
  · rw [List.getElem?_range hi] at hx
    simp only [Option.map_some, Option.some.injEq] at hx
    subst hx
    refine ⟨b, 0, rfl, r.lt, rfl, fun j v hv => ?_⟩
    have hj : j = 0 := by
      have := (List.getElem?_eq_some_iff.1 hv).1
      simp [inRow] at this; omega
    subst hj
    simp [inRow] at hv
    subst hv
    have := r.cell hi
    simpa using this
  · rw [List.getElem?_eq_none (by simp; omega)] at hx
    cases hx
def oH (g cp : Nat → Nat) (n i : Nat) : Hd := (some ⟨g i, 0, none⟩, n, cp i)
/-- Rows that have been made: m of them. -/
structure OnlyI (W : World) (B n m : Nat) (F : Nat → Nat → Int) (s : Value) (g cp : Nat → Nat) : Prop where
  ow : OwnR W B 23 1 s (((List.range m).map (oH g cp n)).map hdr)
  rl : ∀ i, i < m → RowC W (g i) n (F i) ∧ n ≤ cp i ∧ B ≤ g i
theorem OnlyI.below {W W' : World} {B n m : Nat} {F : Nat → Nat → Int} {s : Value} {g cp : Nat → Nat} (h : OnlyI W B n m F s g cp) (hb : Below W.heap.size W W') : OnlyI W' B n m F s g cp :=
  ⟨h.ow.below hb, fun i hi => ⟨(h.rl i hi).1.below hb, (h.rl i hi).2⟩⟩
theorem rowC_ne {W : World} {g n B sz : Nat} {f : Nat → Int} {v : Value} {rows : List (List Value)} (r : RowC W g n f) (o : OwnR W B 23 sz v rows) : v.ownBlock ≠ some g := fun e => by
  obtain ⟨arr, h1, _⟩ := r
  obtain ⟨_, h⟩ := o.own
  rcases h with ⟨rfl, _⟩ | ⟨g', cap, cur, rfl, _, hc, _⟩
  · simp [Value.ownBlock] at e
  · simp [Value.ownBlock] at e
    subst e
    rw [h1] at hc
    simp only [Option.some.injEq, Obj.cells.injEq] at hc
    exact absurd hc.2.1 (by decide)
theorem range_oH (g c : Nat → Nat) (n m a b : Nat) : (List.range m).map (oH (upd g m a) (upd c m b) n) = (List.range m).map (oH g c n) :=
  List.map_congr_left fun i hi => by
    have : i < m := List.mem_range.1 hi
    simp [oH, upd_ne _ _ (show i ≠ m by omega)]
theorem OnlyI.next {W W1 W3 : World} {B n m g1 cap : Nat} {F : Nat → Nat → Int} {s s' : Value} {g cp : Nat → Nat} {E : TypeId} (h : OnlyI W B n m F s g cp) (hb : Below W.heap.size W W1) (r : RowC W1 g1 n (F m)) (hg : B ≤ g1) (hc : n ≤ cap)
    (o : OwnR W3 B 23 1 s' (((List.range m).map (oH g cp n) ++ [((some ⟨g1, 0, none⟩, n, cap) : Hd)]).map hdr)) (hg3 : (W1.alloc (.cells #[.slice (some ⟨g1, 0, none⟩) n cap] E)).grownBy W3 s.ownBlock) :
    OnlyI W3 B n (m + 1) F s' (upd g m g1) (upd cp m cap) := by
  have hb2 : Below W.heap.size W (W1.alloc (.cells #[.slice (some ⟨g1, 0, none⟩) n cap] E)) := hb.alloc hb.size _
  have h2 := h.below hb2
  have r2 := r.below ((Below.refl W1.heap.size W1).alloc (Nat.le_refl _) (.cells #[.slice (some ⟨g1, 0, none⟩) n cap] E))
  generalize W1.alloc (.cells #[.slice (some ⟨g1, 0, none⟩) n cap] E) = W2 at *
  have keep : ∀ {k : Nat} {f : Nat → Int}, RowC W2 k n f → RowC W3 k n f := fun r => r.of_eq (hg3.block _ r.lt (Ne.symm (rowC_ne r h2.ow)))
  refine ⟨?_, fun i hi => ?_⟩
  · rw [List.range_succ, List.map_append, range_oH]
    simpa [oH, upd_same] using o
  · by_cases e : i = m
    · subst e
      rw [upd_same, upd_same]
      exact ⟨keep r2, hc, hg⟩
    · rw [upd_ne _ _ e, upd_ne _ _ e]
      exact ⟨keep (h2.rl i (by omega)).1, (h2.rl i (by omega)).2⟩
theorem OnlyI.mat {W : World} {B n m : Nat} {F : Nat → Nat → Int} {s : Value} {g cp : Nat → Nat} (h : OnlyI W B n m F s g cp) : ∃ a cap, s = .slice a m cap ∧ SlOk a m cap ∧ MatAt W a (tabC m n F) := by
  obtain ⟨a, cap, e, hs, hat⟩ := h.ow.slAt
  rw [List.length_map, List.length_map, List.length_range] at e hs
  refine ⟨a, cap, e, hs, ((List.range m).map (oH g cp n)).map fun h => .slice h.1 h.2.1 h.2.2, ?_, by simp [tabC], fun i hi => ?_⟩
  · rw [List.map_map]; exact hat
  · rw [tab_len] at hi
    obtain ⟨h1, h2, h3⟩ := h.rl i hi
    have e1 : ((tabC m n F)[i]'(by rw [tab_len]; exact hi)) = (List.range n).map (F i) := tab_row hi
    refine ⟨some ⟨g i, 0, none⟩, cp i, ?_, ⟨?_, fun e => by cases e⟩, ?_⟩
    · simp [hi, e1, oH]
    · rw [e1]; simpa using h2
    · rw [e1]; exact h1.inAt
theorem OnlyI.high {W W' : World} {B n m : Nat} {F : Nat → Nat → Int} {s : Value} {g cp : Nat → Nat} (h : OnlyI W B n m F s g cp) (hb : ∀ b, B ≤ b → b < W.heap.size → W'.heap[b]? = W.heap[b]?) : OnlyI W' B n m F s g cp := by
  refine ⟨⟨h.ow.wide, ?_⟩, fun i hi => ⟨(h.rl i hi).1.of_eq (hb _ (h.rl i hi).2.2 (h.rl i hi).1.lt), (h.rl i hi).2⟩⟩
  obtain ⟨a1, a2⟩ := h.ow.own
  refine ⟨a1, ?_⟩
  rcases a2 with a2 | ⟨g, cap, cur, e, hg, hc, h3⟩
  · exact .inl a2
  · exact .inr ⟨g, cap, cur, e, hg, (hb g hg (lt_blk hc)).trans hc, h3⟩
def OnlyPost (c : List (List Int)) (i k : Nat) (w : World) (e : Ending) (w' : World) : Prop :=
  ∃ a cap, e = .returned (.slice a c.length cap) ∧ SlOk a c.length cap ∧ MatAt w' a (onlyC c i k) ∧ Below w.heap.size w w' ∧ ∀ w2 : World, (∀ b, w.heap.size ≤ b → b < w'.heap.size → w2.heap[b]? = w'.heap[b]?) → MatAt w2 a (onlyC c i k)
/-- A row on the way: the columns below x are done. -/
def midF (c : List (List Int)) (i k j x y : Nat) : Int := if j = i ∧ y ≠ k ∧ y < x then -1 else cc c j y
theorem mid_start (c : List (List Int)) (i k j : Nat) : midF c i k j 0 = cc c j := by funext y; simp [midF]
theorem mid_end (c : List (List Int)) (i k j n y : Nat) (hy : y < n) : midF c i k j n y = onlyF c i k j y := by
  unfold midF onlyF
  by_cases h : j = i ∧ y ≠ k
  · rw [if_pos h, if_pos ⟨h.1, h.2, hy⟩]
  · rw [if_neg h, if_neg fun a => h ⟨a.1, a.2.1⟩]
theorem mid_keep {c : List (List Int)} {i k j x : Nat} (h : j ≠ i ∨ x = k) (y : Nat) : midF c i k j x y = midF c i k j (x + 1) y := by
  unfold midF
  by_cases q : y = x
  · subst q
    rw [if_neg (by omega), if_neg (by omega)]
  · by_cases q2 : j = i ∧ y ≠ k ∧ y < x
    · rw [if_pos q2, if_pos (by omega)]
    · rw [if_neg q2, if_neg (by omega)]
theorem mid_put {c : List (List Int)} {i k j x : Nat} (h1 : j = i) (h2 : x ≠ k) (y : Nat) : upd (midF c i k j x) x (-1) y = midF c i k j (x + 1) y := by
  unfold midF
  by_cases q : y = x
  · subst q
    rw [upd_same, if_pos (by omega)]
  · rw [upd_ne _ _ q]
    by_cases q2 : j = i ∧ y ≠ k ∧ y < x
    · rw [if_pos q2, if_pos (by omega)]
    · rw [if_neg q2, if_neg (by omega)]
set_option maxRecDepth 100000 in
set_option maxHeartbeats 4000000 in
theorem Ronly_any (a : Option Addr) (cap : Nat) (c : List (List Int)) (i k : Nat) (w : World) (he : formE c = 0) (h0 : 0 < wideL c) (hi : i < c.length) (hk : k < wideL c) (hm : MatAt w a c) :
    Calls Try.prog 27 #[.slice a c.length cap, .int .i64 i, .int .i64 k] w (OnlyPost c i k w) := by
  obtain ⟨h200, hw200, hf, hf4⟩ := formE_ok he
  have HM := Lib.hid hm; have HF := Lib.hid hf; have H0 := Lib.hid h0
  clear hm hf hf4 he h0
  go_enter Try.func27, Try.ntmps27
  go_wp2
  go_loopw [7, 8] (fun s7 s8 wr => ∃ (m : Nat) (g cp : Nat → Nat), m ≤ c.length ∧ s8 = .int .i64 m ∧ OnlyI wr w.heap.size (wideL c) m (onlyF c i k) s7 g cp ∧ Below w.heap.size w wr) (fun _ i _ => c.length - (intOf i).toNat)
  case atStart => exact ⟨0, fun _ => 0, fun _ => 0, Nat.zero_le _, rfl, ⟨OwnR.nil _ _ _ _, fun i hi => by omega⟩, Below.refl _ _⟩
  case round =>
    obtain ⟨m, g, cp, hmc, rfl, hI, hb⟩ := hrel
    have HI := Lib.hid hI; have HB := Lib.hid hb
    clear hI hb
    by_cases hlt : m < c.length
    · obtain ⟨bc, oc, ai, ci, rfl, c0, hsk, hik⟩ := HM.out.get m hlt
      have hlen := HF.out c[m] (List.getElem_mem _)
      have HRT := Lib.hid (row_tab hlt hlen)
      rw [hlen] at c0 hsk
      have HSK := Lib.hid hsk; have HIK := Lib.hid (hik.below HB.out); have HLen := Lib.hid hlen
      have g0 := fun o => keepD c0 (HB.out.alloc HB.out.size o)
      clear hsk hik hlen
      go_wp2_with (at_builtin; go_loud (refine appE eltInt rfl (.tmp 17) (.tmp 21) rfl wr.heap.size _ [] rfl (ownR_made _ _ _ _ (Nat.le_refl _)) _ _ _ c[m] rfl HLen.out.symm HSK.out.none (HIK.out.below ((Below.refl _ _).alloc (Nat.le_refl _) _)) (by have := HLen.out; simp; omega) (by simp) ?_); intro v1 w5 ho1 hg1; go_loud (skip); have HB1 := Lib.hid (below_grown ((Below.refl wr.heap.size wr).alloc (Nat.le_refl _) _) (ownR_made wr wr.heap.size 3 1 (Nat.le_refl _)) (by simp) hg1); rw [List.nil_append, HRT.out] at ho1; obtain ⟨g1, c1, e1, q1, q2, q3⟩ := RowC.of_own ho1 (by have := H0.out; omega); subst e1; have HR := Lib.hid q3; have HQ := Lib.hid (And.intro q1 q2); clear ho1 hg1 q3 q1 q2)
      clear g0
      obtain ⟨q1, q2⟩ := HQ.out
      go_loopw [10] (fun s10 W => ∃ x : Nat, x ≤ wideL c ∧ s10 = .int .i64 x ∧ RowC W g1 (wideL c) (midF c i k m x) ∧ Below wr.heap.size wr W) (fun x _ => wideL c - (intOf x).toNat)
      case atStart => exact ⟨0, Nat.zero_le _, rfl, by rw [mid_start]; exact HR.out, HB1.out⟩
      case round =>
        clear HR HB1
        obtain ⟨x, hx, rfl, hr, hb⟩ := hrel
        have HR := Lib.hid hr; have HB1 := Lib.hid hb
        clear hr hb
        by_cases hlx : x < wideL c
        · by_cases hmi : m = i
          · have e1 : ((m : Int) == (i : Int)) = true := by simp; omega
            by_cases hxk : x = k
            · have e2 : ((x : Int) != (k : Int)) = false := by simp; omega
              have HKP := Lib.hid (fun y => mid_keep (c := c) (i := i) (k := k) (j := m) (x := x) (.inr hxk) y)
              clear hmi hxk
              go_wp2
              go_roundw
              case rel => exact ⟨x + 1, by omega, by go_num, HR.out.congr fun y _ => HKP.out y, HB1.out⟩
              case measure => simp [intOf]; omega
            · have e2 : ((x : Int) != (k : Int)) = true := by simp; omega
              have HKP := Lib.hid (fun y => mid_put (c := c) (i := i) (k := k) (j := m) (x := x) hmi hxk y)
              clear hmi hxk
              have s1 := HR.out.cell hlx
              have s2 := HR.out.free x
              go_wp2
              go_roundw
              case rel => exact ⟨x + 1, by omega, by go_num, (HR.out.set hlx (-1)).congr fun y _ => HKP.out y, below_set HB1.out q1 _⟩
              case measure => simp [intOf]; omega
          · have e1 : ((m : Int) == (i : Int)) = false := by simp; omega
            have HKP := Lib.hid (fun y => mid_keep (c := c) (i := i) (k := k) (j := m) (x := x) (.inl hmi) y)
            clear hmi
            go_wp2
            go_roundw
            case rel => exact ⟨x + 1, by omega, by go_num, HR.out.congr fun y _ => HKP.out y, HB1.out⟩
            case measure => simp [intOf]; omega
        · have hxe : x = wideL c := by omega
          have HR2 := Lib.hid (HR.out.congr (g := onlyF c i k m) fun y hy => by rw [hxe]; exact mid_end c i k m _ y hy)
          clear hxe HR
          go_wp2_with (at_builtin; refine appE eltHd rfl (.tmp 40) (.tmp 42) rfl w.heap.size _ ((List.range m).map (oH g cp (wideL c))) rfl (HI.out.ow.below (HB1.out.alloc HB1.out.size _)) _ _ _ [((some ⟨g1, 0, none⟩, wideL c, c1) : Hd)] rfl rfl (fun e => by cases e) (eltHd.new _ _ _ _ rfl) (by simp; omega) (by have := HB1.out.size; have := HB.out.size; simp; omega) ?_; intro v3 w7 ho3 hg3; have HI7 := Lib.hid (HI.out.next HB1.out HR2.out (by have := HB.out.size; omega) q2 ho3 hg3); have HB7 := Lib.hid (below_grown ((HB.out.trans (HB1.out.mono HB.out.size)).alloc (by have := HB1.out.size; have := HB.out.size; omega) _) (HI.out.ow.below (HB1.out.alloc HB1.out.size _)) (by have := HB1.out.size; have := HB.out.size; simp; omega) hg3); clear ho3 hg3)
          go_roundw
          case rel => exact ⟨m + 1, _, _, by omega, by go_num, HI7.out, HB7.out⟩
          case measure => simp [intOf]; omega
    · have hme : m = c.length := by omega
      subst hme
      obtain ⟨a7, c7, rfl, hs7, hm7⟩ := HI.out.mat
      have HS7 := Lib.hid hs7; have HM7 := Lib.hid hm7
      clear hs7 hm7
      go_wp2
      go_ret
      exact ⟨a7, c7, rfl, HS7.out, HM7.out, HB.out, fun w2 h2 => by
        obtain ⟨a8, c8, e8, _, h8⟩ := (HI.out.high h2).mat
        cases e8; exact h8⟩
end Go.Proofs.Ytkpgphadgomifaa
