/- The function that match.finder hands back, and match.finder: contracts. -/
import Derived.Test.YtkpgphadgomifaaMatchFind2
import Derived.Laws.EntriesVeiled
namespace Go.Proofs.Ytkpgphadgomifaa
set_option linter.unusedSimpArgs false
set_option linter.unusedVariables false
open Go.RowKit Go.Sort

/-- Where a finder's variables lie, and what is asked of the function that says who can have what. -/
structure Gi where
  n : Nat
  m : Nat
  B : Nat
  bO : Nat
  bC : Nat
  bR : Nat
  bow : Nat
  cf : Nat
  caps : Array Value
  can : Nat → Nat → Bool
  S : World → Prop
structure GiOk (g : Gi) : Prop where
  small : g.n ≤ 100000 ∧ g.m ≤ 100000
  lt : g.bO < g.B ∧ g.bC < g.B ∧ g.bR < g.B ∧ g.bow < g.B
  ne : g.bO ≠ g.bow ∧ g.bC ≠ g.bow ∧ g.bR ≠ g.bow
  keep : ∀ w w', g.S w → KeepB g.B [g.bow] w w' → g.S w'
  enter : ∀ args w, (callFunc g.cf args).run Try.prog w = .ok (.enter g.cf args) w
  can : ∀ w (i k : Nat), g.S w → i < g.m → k < g.n → Calls Try.prog g.cf (#[.int .i64 i, .int .i64 k] ++ g.caps) w fun e w' => e = .returned (.bool (g.can i k)) ∧ Below w.heap.size w w'
/-- A finder's variables in memory. -/
structure GSt (g : Gi) (w : World) (ow : Nat → Int) : Prop where
  big : g.B ≤ w.heap.size
  xO : w.heap[g.bO]? = some (.cells #[.slice (some ⟨g.bow, 0, none⟩) g.n g.n] 23 (0, 0))
  xC : w.heap[g.bC]? = some (.cells #[.func (Fn.func g.cf) #[] g.caps] 58 (0, 0))
  xR : w.heap[g.bR]? = some (.cells #[.int .i64 (g.m : Int)] 3 (0, 0))
  ro : RowAt w g.bow g.n 3 (fun k => .int .i64 (ow k))
  sw : g.S w
theorem GSt.keep {g : Gi} {w w' : World} {ow : Nat → Int} (ok : GiOk g) (f : GSt g w ow) (k : KeepB g.B [] w w') : GSt g w' ow := by
  obtain ⟨l1, l2, l3, l4⟩ := ok.lt
  exact ⟨Nat.le_trans f.big k.size, (k.block _ l1 (by simp)).trans f.xO, (k.block _ l2 (by simp)).trans f.xC, (k.block _ l3 (by simp)).trans f.xR, f.ro.of_eq (k.block _ l4 (by simp)), ok.keep _ _ f.sw (k.weaken (Nat.le_refl _) (fun b hb => by simp at hb))⟩
theorem GSt.below {g : Gi} {w w' : World} {ow : Nat → Int} (ok : GiOk g) (f : GSt g w ow) (hb : Below w.heap.size w w') : GSt g w' ow := f.keep ok (KeepB.of_below hb f.big)
/-- What a search of a finder says. -/
def GPost (g : Gi) (r : Nat) (ow : Nat → Int) (w : World) (e : Ending) (w' : World) : Prop :=
  ∃ (ok : Bool) (ow' : Nat → Int) (mv : Value) (met : List Nat), e = .returned (.tuple #[mv, .bool ok]) ∧ GSt g w' ow' ∧ KeepB w.heap.size [g.bow] w w' ∧ OwnR w' w.heap.size 3 1 mv (met.map metRow) ∧
    (∀ k, k < g.n → ow' k = -1 ∨ ∃ i : Nat, ow' k = i ∧ i < g.m) ∧ met.length ≤ g.n + 1 ∧
    ((ok = true ∧ Yes g.can g.n (fun _ => false) r ow ow') ∨ (ok = false ∧ ow' = ow ∧ ∃ ks seen', met = r :: rows ow ks ∧ No g.can g.n ow (fun _ => false) seen' r g.n ks))
theorem OwnR.lower {w : World} {B B' : Nat} {E : TypeId} {sz : Nat} {v : Value} {rows : List (List Value)} (o : OwnR w B E sz v rows) (hB : B' ≤ B) : OwnR w B' E sz v rows := by
  refine ⟨o.wide, ?_⟩
  obtain ⟨a1, a2⟩ := o.own
  refine ⟨a1, ?_⟩
  rcases a2 with a2 | ⟨g, cap, cur, e, hg, hc, h3⟩
  · exact .inl a2
  · exact .inr ⟨g, cap, cur, e, Nat.le_trans hB hg, hc, h3⟩
def Gi.fi (g : Gi) (b : Nat) : Fi := { n := g.n, m := g.m, B := b + 4, bM := b + 1 + 1, bO := g.bO, bS := b + 1, bC := g.bC, bF := b + 1 + 1 + 1, bow := g.bow, bsn := b, cf := g.cf, caps := g.caps, can := g.can, S := g.S }
theorem fi_ok {g : Gi} (G : GiOk g) {b : Nat} (hb : g.B ≤ b) : FiOk (g.fi b) := by
  obtain ⟨l1, l2, l3, l4⟩ := G.lt
  obtain ⟨n1, n2, n3⟩ := G.ne
  refine ⟨G.small, ⟨⟨?_, ?_, ?_, ?_, ?_⟩, ?_, ?_⟩, ⟨?_, ?_, ?_, ?_, ?_, ?_⟩, ⟨n1, ?_, n2, ?_, ?_⟩, ⟨?_, ?_, ?_, ?_⟩, fun w w' hs k => G.keep _ _ hs (k.weaken (show g.B ≤ b + 4 by omega) fun x hx hlt => ?_), G.enter, G.can⟩
  all_goals try (simp only [Gi.fi]; omega)
  simp only [Gi.fi, Fi.own, List.mem_cons, List.not_mem_nil, or_false] at hx ⊢
  omega
theorem fst_start {g : Gi} (G : GiOk g) {w : World} {ow : Nat → Int} (F : GSt g w ow) : FSt (g.fi w.heap.size) ((((w.alloc (.cells (madeCells #[.bool false] g.n) 4)).alloc (.cells #[.slice (some ⟨w.heap.size, 0, none⟩) g.n g.n] 49)).alloc (.cells #[.slice none 0 0] 23)).alloc
    (.cells #[findV (g.fi w.heap.size)] 70)) ow (fun _ => false) [] := by
  have hb : Below w.heap.size w ((((w.alloc (.cells (madeCells #[.bool false] g.n) 4)).alloc (.cells #[.slice (some ⟨w.heap.size, 0, none⟩) g.n g.n] 49)).alloc (.cells #[.slice none 0 0] 23)).alloc (.cells #[findV (g.fi w.heap.size)] 70)) :=
    ((((Below.refl w.heap.size w).alloc (Nat.le_refl _) _).alloc (by simp) _).alloc (by simp; omega) _).alloc (by simp; omega) _
  have x0 := RowAt.made w g.n 4 (.bool false)
  have x1 : ((w.alloc (.cells (madeCells #[.bool false] g.n) 4)).alloc (.cells #[.slice (some ⟨w.heap.size, 0, none⟩) g.n g.n] 49)).heap[w.heap.size + 1]? = some _ := at_alloc _ _ (by simp)
  have x2 : (((w.alloc (.cells (madeCells #[.bool false] g.n) 4)).alloc (.cells #[.slice (some ⟨w.heap.size, 0, none⟩) g.n g.n] 49)).alloc (.cells #[.slice none 0 0] 23)).heap[w.heap.size + 1 + 1]? = some _ := at_alloc _ _ (by simp)
  refine ⟨by simp [Gi.fi], ⟨_, up_alloc x2 _, OwnR.nil _ _ _ _⟩, blk_keep F.xO hb, up_alloc (up_alloc x1 _) _, blk_keep F.xC hb, at_alloc _ _ (by simp [Gi.fi]), F.ro.below hb, ?_, G.keep _ _ F.sw (KeepB.of_below hb F.big)⟩
  exact ((x0.below ((Below.refl _ _).alloc (Nat.le_refl _) _)).below ((Below.refl _ _).alloc (Nat.le_refl _) _)).below ((Below.refl _ _).alloc (Nat.le_refl _) _)
set_option maxRecDepth 100000 in
set_option maxHeartbeats 4000000 in
theorem search_any (g : Gi) (G : GiOk g) (r : Nat) (ow : Nat → Int) (w : World) (hr : r < g.m) (hv : ∀ k, k < g.n → ow k = -1 ∨ ∃ i : Nat, ow k = i ∧ i < g.m ∧ g.can i k = true) (F : GSt g w ow) :
    Calls Try.prog 46 #[.int .i64 r, .pointer (some ⟨g.bO, 0, none⟩), .pointer (some ⟨g.bC, 0, none⟩), .pointer (some ⟨g.bR, 0, none⟩)] w (GPost g r ow w) := by
  obtain ⟨hn, hm⟩ := G.small
  have hmk := fun w => run_make_row' (P := Try.prog) 49 4 (.bool false) 1 Try.underlying49 (by kernel_rfl) rfl .i64 .i64 g.n (by omega) (by omega) w
  have hcO := box_cells F.xO; have hcC := box_cells F.xC; have hcR := box_cells F.xR
  have hl1 := lt_blk F.xO; have hl2 := lt_blk F.xC; have hl3 := lt_blk F.xR; have hl4 := F.ro.lt
  have HB4 := Lib.hid (fun o1 o2 o3 o4 => ((((Below.refl w.heap.size w).alloc (Nat.le_refl _) o1).alloc (by simp) o2).alloc (by simp; omega) o3).alloc (by simp; omega) o4)
  have hR4 := fun o1 o2 o3 o4 => ((HB4.out o1 o2 o3 o4).cell (p := ⟨g.bR, 0, none⟩) hl3).trans (hcR 0)
  simp only [List.getElem?_toArray, List.getElem?_cons_zero] at hR4
  have hbig := F.big
  have HF := Lib.hid F; have HG := Lib.hid G; have HV := Lib.hid hv
  clear F G hv
  go_enter Try.func46, Try.ntmps46
  go_wp2_with (fail)
  refine (find_any (g.fi w.heap.size) (fi_ok HG.out hbig) _ r ow (fun _ => false) [] _ (Nat.le_refl _) hr (fun k hk => ?_) ?_ (fun k hk _ ho => ?_) (fst_start HG.out HF.out)).mono ?_
  · rcases HV.out k hk with e | ⟨i, e, e2, _⟩
    · exact .inl e
    · exact .inr ⟨i, e, e2⟩
  · have := cnt_le (fun _ => false) g.n
    show [].length + cnt (fun _ => false) g.n ≤ 200000
    simp; omega
  · rcases HV.out k hk with e | ⟨i, e, _, e3⟩
    · omega
    · rw [e]; exact e3
  rintro e w5 ⟨ok, ow', seen', ms, rfl, F5, K5, V5, C5, R5, Y5⟩
  have K6 : KeepB w.heap.size [g.bow] w w5 := (KeepB.of_below' (HB4.out _ _ _ _)).trans (K5.weaken (show w.heap.size ≤ w.heap.size + 4 by omega) fun x hx hlt => by simp only [Gi.fi, Fi.own, List.mem_cons, List.not_mem_nil, or_false] at hx ⊢; omega)
  obtain ⟨l1, l2, l3, l4⟩ := HG.out.lt
  obtain ⟨n1, n2, n3⟩ := HG.out.ne
  have G5 : GSt g w5 ow' := ⟨Nat.le_trans hbig K6.size, F5.xO, F5.xC, (K6.block _ (by omega) (by simpa using n3)).trans HF.out.xR, F5.ro, F5.sw⟩
  obtain ⟨mv, xm, om⟩ := F5.xM
  have hcM := box_cells xm
  have HK := Lib.hid K6; have HG5 := Lib.hid G5; have HY := Lib.hid Y5; have HV5 := Lib.hid V5; have HC5 := Lib.hid C5; have HOM := Lib.hid om
  clear K6 G5 Y5 V5 C5 om F5 K5 R5 xm hR4 hmk hcO hcC hcR
  simp only [Gi.fi] at hcM
  go_wp2
  go_ret2
  refine ⟨ok, ow', mv, ms, rfl, HG5.out, HK.out, ?_, HV5.out, ?_, ?_⟩
  · exact OwnR.lower HOM.out (show w.heap.size ≤ w.heap.size + 4 by omega)
  · have h1 := HC5.out
    have h2 := cnt_le (fun _ => false) g.n
    simp only [Gi.fi] at h1
    omega
  · rcases HY.out with ⟨h1, h2⟩ | ⟨h1, h2, ks, h3, h4⟩
    · exact .inl ⟨h1, h2⟩
    · exact .inr ⟨h1, h2, ks, seen', h3, h4⟩
end Go.Proofs.Ytkpgphadgomifaa
