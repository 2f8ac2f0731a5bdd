/- Texts of this seat, laid together: RowLib, PlanFrame. -/
import Derived.Test.YtehdhbnbajfanaaGreatGA
import Derived.Test.YtehdhbnbajfanaaGreatRows
import Derived.ProofKit
import Derived.Deep.Slices
import Derived.Deep.Fields
import Derived.Test.YtehdhbnbajfanaaGreatGB

/- What all rows of this seat share: the arguments of a law, one by one, and that they read behind the call as ahead of it; no condition. -/
namespace Go.Proofs.YtehdhbnbajfanaaGreat
set_option linter.unusedSimpArgs false
set_option linter.unusedVariables false
open Go.ChangeShapes Go.WideShapes Go.ChangeAt Go.RowKit Go.Deep Go.Sort
theorem ownT : ownKnob Tryz.prog.godebug = none := by kernel_rfl
theorem laidOutT : laidOutB Tryz.prog = true := by kernel_rfl
section
variable {H : Type} {enc : TypeId × Value → H} {P : Program} {w : World} {base : Nat} {spare : Nat → Bool} {held : Bool}
theorem args_2 {t0 t1 : TypeId} {args : Array Value} {ds : List (DataW H)} {ps : List MemPlace} (h : DataW.TrodAll enc P w base spare held [t0, t1] args.toList ds ps) :
    ∃ v0 v1 d0 d1 p0 p1, args = #[v0, v1] ∧ ds = [d0, d1] ∧ DataW.Trod enc P w base spare held t0 v0 d0 p0 ∧ DataW.Trod enc P w base spare held t1 v1 d1 p1 := by
  obtain ⟨v0, vs, d0, ds, p0, q0, e, rfl, rfl, h0, r0⟩ := trodAll_cons h
  obtain ⟨v1, vs, d1, ds, p1, q1, rfl, rfl, rfl, h1, r1⟩ := trodAll_cons r0
  obtain ⟨rfl, rfl, rfl⟩ := trodAll_nil r1
  exact ⟨v0, v1, d0, d1, p0, p1, by cases args; simp_all, rfl, h0, h1⟩
theorem args_3 {t0 t1 t2 : TypeId} {args : Array Value} {ds : List (DataW H)} {ps : List MemPlace} (h : DataW.TrodAll enc P w base spare held [t0, t1, t2] args.toList ds ps) :
    ∃ v0 v1 v2 d0 d1 d2 p0 p1 p2, args = #[v0, v1, v2] ∧ ds = [d0, d1, d2] ∧ DataW.Trod enc P w base spare held t0 v0 d0 p0 ∧ DataW.Trod enc P w base spare held t1 v1 d1 p1 ∧ DataW.Trod enc P w base spare held t2 v2 d2 p2 := by
  obtain ⟨v0, vs, d0, ds, p0, q0, e, rfl, rfl, h0, r0⟩ := trodAll_cons h
  obtain ⟨v1, vs, d1, ds, p1, q1, rfl, rfl, rfl, h1, r1⟩ := trodAll_cons r0
  obtain ⟨v2, vs, d2, ds, p2, q2, rfl, rfl, rfl, h2, r2⟩ := trodAll_cons r1
  obtain ⟨rfl, rfl, rfl⟩ := trodAll_nil r2
  exact ⟨v0, v1, v2, d0, d1, d2, p0, p1, p2, by cases args; simp_all, rfl, h0, h1, h2⟩
theorem args_4 {t0 t1 t2 t3 : TypeId} {args : Array Value} {ds : List (DataW H)} {ps : List MemPlace} (h : DataW.TrodAll enc P w base spare held [t0, t1, t2, t3] args.toList ds ps) :
    ∃ v0 v1 v2 v3 d0 d1 d2 d3 p0 p1 p2 p3, args = #[v0, v1, v2, v3] ∧ ds = [d0, d1, d2, d3] ∧ DataW.Trod enc P w base spare held t0 v0 d0 p0 ∧ DataW.Trod enc P w base spare held t1 v1 d1 p1 ∧ DataW.Trod enc P w base spare held t2 v2 d2 p2 ∧ DataW.Trod enc P w base spare held t3 v3 d3 p3 := by
  obtain ⟨v0, vs, d0, ds, p0, q0, e, rfl, rfl, h0, r0⟩ := trodAll_cons h
  obtain ⟨v1, v2, v3, d1, d2, d3, p1, p2, p3, e2, rfl, h1, h2, h3⟩ := args_3 (args := vs.toArray) (by simpa using r0)
  obtain rfl : vs = [v1, v2, v3] := by simpa using congrArg Array.toList e2
  exact ⟨v0, v1, v2, v3, d0, d1, d2, d3, p0, p1, p2, p3, by cases args; simp_all, rfl, h0, h1, h2, h3⟩
theorem args_5 {t0 t1 t2 t3 t4 : TypeId} {args : Array Value} {ds : List (DataW H)} {ps : List MemPlace} (h : DataW.TrodAll enc P w base spare held [t0, t1, t2, t3, t4] args.toList ds ps) :
    ∃ v0 v1 v2 v3 v4 d0 d1 d2 d3 d4 p0 p1 p2 p3 p4, args = #[v0, v1, v2, v3, v4] ∧ ds = [d0, d1, d2, d3, d4] ∧ DataW.Trod enc P w base spare held t0 v0 d0 p0 ∧ DataW.Trod enc P w base spare held t1 v1 d1 p1 ∧ DataW.Trod enc P w base spare held t2 v2 d2 p2 ∧ DataW.Trod enc P w base spare held t3 v3 d3 p3 ∧ DataW.Trod enc P w base spare held t4 v4 d4 p4 := by
  obtain ⟨v0, vs, d0, ds, p0, q0, e, rfl, rfl, h0, r0⟩ := trodAll_cons h
  obtain ⟨v1, v2, v3, v4, d1, d2, d3, d4, p1, p2, p3, p4, e2, rfl, h1, h2, h3, h4⟩ := args_4 (args := vs.toArray) (by simpa using r0)
  obtain rfl : vs = [v1, v2, v3, v4] := by simpa using congrArg Array.toList e2
  exact ⟨v0, v1, v2, v3, v4, d0, d1, d2, d3, d4, p0, p1, p2, p3, p4, by cases args; simp_all, rfl, h0, h1, h2, h3, h4⟩
/-- All arguments, behind a call that touches nothing that was there. -/
theorem trodAll_below {ts : List TypeId} {vs : List Value} {ds : List (DataW H)} {ps : List MemPlace} {W W' : World} (hl : laidOutB P = true) (hr : ∀ t ∈ ts, P.readableRec t = true ∧ t < P.types.size)
    (h : DataW.TrodAll enc P W 0 (fun _ => true) true ts vs ds ps) (hb : Below W.heap.size W W') (hlt : ∀ x ∈ ps, x.block < W.heap.size) : DataW.TrodAll enc P W' 0 (fun b => decide (b < W.heap.size)) true ts vs ds ps := by
  induction ts generalizing vs ds ps with
  | nil =>
    obtain ⟨rfl, rfl, rfl⟩ := trodAll_nil h
    rfl
  | cons t ts ih =>
    obtain ⟨v, vs, d, ds, p, q, rfl, rfl, rfl, h0, r⟩ := trodAll_cons h
    exact ⟨p, q, Below.trod hl (hr t (by simp)).1 (hr t (by simp)).2 h0 hb fun y hy => hlt y (List.mem_append_left _ hy), ih (fun t ht => hr t (by simp [ht])) r fun y hy => hlt y (List.mem_append_right _ hy), rfl⟩
end
theorem wf_u32 {n : Int} (h : (Lit.int .u32 n).wf = true) : 0 ≤ n ∧ n ≤ 4294967295 := by
  simp [Lit.wf] at h
  have h1 : IntKind.u32.min = 0 := by decide
  have h2 : IntKind.u32.max = 4294967295 := by decide
  rw [h1, h2] at h; exact h
theorem wf_u8 {n : Int} (h : (Lit.int .u8 n).wf = true) : 0 ≤ n ∧ n ≤ 255 := by
  simp [Lit.wf] at h
  have h1 : IntKind.u8.min = 0 := by decide
  have h2 : IntKind.u8.max = 255 := by decide
  rw [h1, h2] at h; exact h
theorem wf_i64' {n : Int} (h : (Lit.int .i64 n).wf = true) : -9223372036854775808 ≤ n ∧ n ≤ 9223372036854775807 := by
  have h1 : IntKind.i64.min = -9223372036854775808 := by decide
  simp [Lit.wf] at h
  exact ⟨h1 ▸ h.1, h.2⟩
end Go.Proofs.YtehdhbnbajfanaaGreat


/- What the rows' arguments are: a slice of demands, of copies, of integers, of bytes, a copy. -/
namespace Go.Proofs.YtehdhbnbajfanaaGreat
set_option maxRecDepth 100000
set_option linter.unusedSimpArgs false
set_option linter.unusedVariables false
open Go.ChangeShapes Go.WideShapes Go.ChangeAt Go.RowKit Go.Deep Go.Sort
variable {H : Type} {enc : TypeId × Value → H} {w : World} {base : Nat} {spare : Nat → Bool} {held : Bool}

theorem add_none (b off j : Nat) : (⟨b, off, none⟩ : Addr).add j = ⟨b, off + j, none⟩ := by
  unfold Addr.add
  split
  · rename_i h; subst h; rfl
  · rfl
/-- Cells of one value each, one by one. -/
theorem one_cells {w : World} {a : Option Addr} {l : List Value} (h : l = [] ∨ ∃ ad, a = some ad ∧ ∀ i (hi : i < l.length), w.cell? (ad.add i) = some l[i]) : SlAt w a 1 (l.map fun v => [v]) := by
  rcases h with rfl | ⟨ad, rfl, hc⟩
  · exact SlAt.nil _ _ _
  intro i r hr
  obtain ⟨x, hx, rfl⟩ := by
    rw [List.getElem?_map] at hr
    exact Option.map_eq_some_iff.1 hr
  obtain ⟨hi, rfl⟩ := List.getElem?_eq_some_iff.1 hx
  have h0 := hc 0 (by omega)
  have hsp : ad.spot = none := by simpa [Addr.add] using World.cell?_spot h0
  obtain ⟨b, off, sp⟩ := ad
  obtain rfl : sp = none := hsp
  have h1 := hc i hi
  rw [add_none] at h1
  refine ⟨b, off, rfl, World.block_lt_of_cell? _ _ h1, rfl, fun j v hj => ?_⟩
  have : j = 0 := by
    have := (List.getElem?_eq_some_iff.1 hj).1
    simp at this; omega
  subst this
  simp at hj
  subst hj
  simpa using h1
/-- The cells of a slice of integers. -/
theorem ints_trod {n : Nat} {cs : List Value} {y : DataW H × List MemPlace} (h : DataW.trod enc Tryz.prog w base spare held n 24 cs = some y) (hsp : ∀ b, spare b = true) :
    ∃ (a : Option Addr) (cap : Nat) (l : List Int), cs = [.slice a l.length cap] ∧ l.length ≤ 9223372036854775807 ∧ SlOk0 a l.length cap ∧ InAt w a l := by
  rcases open_ints Tryz.underlying24 Tryz.underlying3 (by kernel_rfl) h with ⟨rfl, _⟩ | ⟨a, len, cap, zs, rfl, _, hl, hmx, hz, _, hc, _⟩
  · exact ⟨none, 0, [], rfl, by simp, ⟨by simp, fun _ => rfl⟩, SlAt.nil _ _ _⟩
  · rw [hsp, if_pos rfl] at hz
    have hlen : (zs.take len).length = len := by rw [List.length_take]; omega
    refine ⟨_, cap, zs.take len, by rw [hlen], by rw [hlen]; unfold maxLen at hmx; omega, by rw [hlen]; exact ⟨hl, fun e => by cases e⟩, ?_⟩
    have h1 := one_cells (w := w) (a := some a) (l := (zs.take len).map (Value.int .i64)) (.inr ⟨_, rfl, fun i hi => by
      simp only [List.length_map, hlen] at hi
      rw [hc i (by omega)]
      simp [List.getD, show i < zs.length by omega]⟩)
    rw [List.map_map] at h1
    exact h1
theorem spotI {a : Addr} {n cap : Nat} (hv : Value.okWide Tryz.prog w .any base 24 (.slice (some a) n cap)) : a.spot = none := by
  unfold Value.okWide at hv
  rw [Tryz.underlying24] at hv
  unfold Cell.okWide at hv
  simp only [Tryz.underlying24] at hv
  unfold Cell.ok at hv
  simp only [Tryz.underlying24] at hv
  exact hv.2.2.2.1
/-- An argument that is a slice of integers. -/
theorem ints_of {v : Value} {d : DataW H} {p : List MemPlace} (hv : Value.okWide Tryz.prog w .any base 24 v) (h : DataW.Trod enc Tryz.prog w 0 (fun _ => true) held 24 v d p) :
    ∃ (a : Option Addr) (cap : Nat) (l : List Int), v = .slice a l.length cap ∧ l.length ≤ 9223372036854775807 ∧ SlOk a l.length cap ∧ InAt w a l := by
  obtain ⟨a0, len0, cap0, rfl⟩ := okWide_slice Tryz.underlying24 hv
  obtain ⟨fuel, hf⟩ := h
  obtain ⟨a, cap, l, e, h1, h2, h3⟩ := ints_trod hf fun _ => rfl
  simp [Value.cells] at e
  obtain ⟨rfl, rfl, rfl⟩ := e
  exact ⟨a0, cap0, l, rfl, h1, ⟨h2.le, h2.none, fun ad e => by subst e; exact spotI hv⟩, h3⟩
/-- A demand's cells. -/
theorem dem_of_trod {n : Nat} {cs : List Value} {y : DataW H × List MemPlace} (h : DataW.trod enc Tryz.prog w base spare held n 46 cs = some y) (hsp : ∀ b, spare b = true) : ∃ d : De, cs = d.cells ∧ d.Ok w ∧ d.eds.length ≤ 9223372036854775807 := by
  obtain ⟨xs, n', _, _, hlen, hxl, hg⟩ := DataW.trod_struct Tryz.underlying46 h
  have h4 : cs.length = 4 := hlen.trans (by kernel_rfl)
  have hx4 : xs.length = 4 := hxl
  match cs, h4 with
  | [c0, c1, c2, c3], _ =>
    have g0 := hg 0 _ rfl
    have g1 := hg 1 _ rfl
    have g2 := hg 2 _ rfl
    have g3 := hg 3 _ rfl
    have hc : Tryz.prog.cellsOf 3 = 1 := by kernel_rfl
    have hc2 : Tryz.prog.cellsOf 24 = 1 := by kernel_rfl
    have go : ∀ (c : Value) (z : Option (DataW H × List MemPlace)), (∃ y, z = some y) → DataW.trod enc Tryz.prog w base spare held n' 3 [c] = z → ∃ m, c = .int .i64 m := by
      rintro c _ ⟨y, rfl⟩ hz
      obtain ⟨m, e, _⟩ := DataW.trod_int Tryz.underlying3 hz
      exact ⟨m, by simpa using e⟩
    obtain ⟨m0, rfl⟩ := go c0 _ ⟨_, List.getElem?_eq_getElem (show 0 < xs.length by omega)⟩ (by simpa [hc] using g0)
    obtain ⟨m1, rfl⟩ := go c1 _ ⟨_, List.getElem?_eq_getElem (show 1 < xs.length by omega)⟩ (by simpa [hc] using g1)
    obtain ⟨m2, rfl⟩ := go c2 _ ⟨_, List.getElem?_eq_getElem (show 2 < xs.length by omega)⟩ (by simpa [hc] using g2)
    have g3' : DataW.trod enc Tryz.prog w base spare held n' 24 [c3] = some xs[3] := by
      rw [← List.getElem?_eq_getElem (show 3 < xs.length by omega)]
      simpa [hc, hc2] using g3
    obtain ⟨a, cap, l, e, k1, k2, k3⟩ := ints_trod g3' hsp
    cases e
    exact ⟨⟨m0, m1, m2, a, cap, l⟩, rfl, ⟨k2, k3⟩, k1⟩
theorem cop_of_trod {n : Nat} {cs : List Value} {y : DataW H × List MemPlace} (h : DataW.trod enc Tryz.prog w base spare held n 44 cs = some y) : ∃ c : Co, cs = c.cells := by
  obtain ⟨xs, n', _, _, hlen, hxl, hg⟩ := DataW.trod_struct Tryz.underlying44 h
  have h4 : cs.length = 4 := hlen.trans (by kernel_rfl)
  have hx4 : xs.length = 4 := hxl
  match cs, h4 with
  | [c0, c1, c2, c3], _ =>
    have g0 := hg 0 _ rfl
    have g1 := hg 1 _ rfl
    have g2 := hg 2 _ rfl
    have g3 := hg 3 _ rfl
    have hc : Tryz.prog.cellsOf 3 = 1 := by kernel_rfl
    have go : ∀ (c : Value) (z : Option (DataW H × List MemPlace)), (∃ y, z = some y) → DataW.trod enc Tryz.prog w base spare held n' 3 [c] = z → ∃ m, c = .int .i64 m := by
      rintro c _ ⟨y, rfl⟩ hz
      obtain ⟨m, e, _⟩ := DataW.trod_int Tryz.underlying3 hz
      exact ⟨m, by simpa using e⟩
    obtain ⟨m0, rfl⟩ := go c0 _ ⟨_, List.getElem?_eq_getElem (show 0 < xs.length by omega)⟩ (by simpa [hc] using g0)
    obtain ⟨m1, rfl⟩ := go c1 _ ⟨_, List.getElem?_eq_getElem (show 1 < xs.length by omega)⟩ (by simpa [hc] using g1)
    obtain ⟨m2, rfl⟩ := go c2 _ ⟨_, List.getElem?_eq_getElem (show 2 < xs.length by omega)⟩ (by simpa [hc] using g2)
    obtain ⟨m3, rfl⟩ := go c3 _ ⟨_, List.getElem?_eq_getElem (show 3 < xs.length by omega)⟩ (by simpa [hc] using g3)
    exact ⟨⟨m0, m1, m2, m3⟩, rfl⟩
/-- Rows of k cells each, read one by one. -/
theorem rows_of {α : Type} [Inhabited α] {cells : α → List Value} {k : Nat} (hk : ∀ x, (cells x).length = k) (h0 : 0 < k) {b off n : Nat} {Q : α → Prop} (hx : ∀ i, i < n → ∃ x : α, w.cells? 0 ((⟨b, off, none⟩ : Addr).add (i * k)) k = some (cells x) ∧ Q x) :
    ∃ l : List α, l.length = n ∧ SlAt w (some ⟨b, off, none⟩) k (l.map cells) ∧ ∀ x ∈ l, Q x := by
  obtain ⟨f, hf2⟩ := choose_lt (α := α) hx
  refine ⟨(List.range n).map f, by simp, ?_, fun x hx => ?_⟩
  · intro i r hr
    simp only [List.map_map, List.getElem?_map, Option.map_eq_some_iff] at hr
    obtain ⟨j, hj, rfl⟩ := hr
    obtain ⟨hj1, hj2⟩ := List.getElem?_eq_some_iff.1 hj
    simp at hj2
    subst hj2
    have hlt : i < n := by simpa using hj1
    obtain ⟨_, _, hc⟩ := World.cells?_some (hf2 i hlt).1
    have hcell : ∀ j u, (cells (f i))[j]? = some u → w.cell? ⟨b, off + i * k + j, none⟩ = some u := by
      intro j u hu
      have hj5 : j < k := by rw [← hk (f i)]; exact (List.getElem?_eq_some_iff.1 hu).1
      have := (hc j hj5).trans hu
      rw [Go.Deep.add_add, add_none] at this
      rw [show off + i * k + j = off + (i * k + j) by omega]; exact this
    have h1 : 0 < (cells (f i)).length := by rw [hk]; exact h0
    exact ⟨b, off, rfl, World.block_lt_of_cell? _ _ (hcell 0 _ (List.getElem?_eq_getElem h1)), hk _, hcell⟩
  · obtain ⟨i, hi, rfl⟩ := List.mem_map.1 hx
    exact (hf2 i (List.mem_range.1 hi)).2
theorem spotD {a : Addr} {n cap : Nat} (hv : Value.okWide Tryz.prog w .any base 22 (.slice (some a) n cap)) : a.spot = none := by
  unfold Value.okWide at hv
  rw [Tryz.underlying22] at hv
  unfold Cell.okWide at hv
  simp only [Tryz.underlying22] at hv
  unfold Cell.ok at hv
  simp only [Tryz.underlying22] at hv
  exact hv.2.2.2.1
theorem spotC {a : Addr} {n cap : Nat} (hv : Value.okWide Tryz.prog w .any base 23 (.slice (some a) n cap)) : a.spot = none := by
  unfold Value.okWide at hv
  rw [Tryz.underlying23] at hv
  unfold Cell.okWide at hv
  simp only [Tryz.underlying23] at hv
  unfold Cell.ok at hv
  simp only [Tryz.underlying23] at hv
  exact hv.2.2.2.1
/-- An argument that is a slice of demands. -/
theorem dems_of {v : Value} {d : DataW H} {p : List MemPlace} (hv : Value.okWide Tryz.prog w .any base 22 v) (h : DataW.Trod enc Tryz.prog w 0 (fun _ => true) held 22 v d p) :
    ∃ (a : Option Addr) (cap : Nat) (l : List De), v = .slice a l.length cap ∧ l.length ≤ 9223372036854775807 ∧ SlOk a l.length cap ∧ DeAt w a l ∧ ∀ d ∈ l, d.eds.length ≤ 9223372036854775807 := by
  obtain ⟨a0, len0, cap0, rfl⟩ := okWide_slice Tryz.underlying22 hv
  obtain ⟨fuel, hf⟩ := h
  rcases open_slice Tryz.underlying22 hf with ⟨hcs, _⟩ | ⟨a, len, cap, m, n, D, Pl, hcs, _, hl, hmx, hm, _, hi⟩
  · simp [Value.cells] at hcs
    obtain ⟨rfl, rfl, rfl⟩ := hcs
    exact ⟨none, 0, [], rfl, by simp, SlOk.nil, ⟨SlAt.nil _ _ _, fun d hd => by cases hd⟩, fun d hd => by cases hd⟩
  · simp [Value.cells] at hcs
    obtain ⟨rfl, rfl, rfl⟩ := hcs
    have hsp := spotD hv
    obtain ⟨b, off, sp⟩ := a
    obtain rfl : sp = none := hsp
    have hC : Tryz.prog.cellsOf 46 = 4 := by kernel_rfl
    rw [if_pos rfl] at hm
    obtain ⟨l, rfl, h1, h2⟩ := rows_of (w := w) (b := b) (off := off) (n := len0) (α := De) (cells := De.cells) (k := 4) (Q := fun d => d.Ok w ∧ d.eds.length ≤ 9223372036854775807) (fun _ => rfl) (by decide) fun i hlt => by
      obtain ⟨cs', k1, k2⟩ := hi i (by omega)
      obtain ⟨x, rfl, k3⟩ := dem_of_trod k2 fun _ => rfl
      exact ⟨x, by rw [hC] at k1; exact k1, k3⟩
    exact ⟨_, cap0, l, rfl, by unfold maxLen at hmx; omega, ⟨hl, (fun e => by cases e), (fun ad e => by cases e; rfl)⟩, ⟨h1, fun d hd => (h2 d hd).1⟩, fun d hd => (h2 d hd).2⟩
instance coFrame : Inhabited Co := ⟨⟨0, 0, 0, 0⟩⟩
/-- An argument that is a slice of copies. -/
theorem cops_of {v : Value} {d : DataW H} {p : List MemPlace} (hv : Value.okWide Tryz.prog w .any base 23 v) (h : DataW.Trod enc Tryz.prog w 0 (fun _ => true) held 23 v d p) :
    ∃ (a : Option Addr) (cap : Nat) (l : List Co), v = .slice a l.length cap ∧ l.length ≤ 9223372036854775807 ∧ SlOk a l.length cap ∧ CoAt w a l := by
  obtain ⟨a0, len0, cap0, rfl⟩ := okWide_slice Tryz.underlying23 hv
  obtain ⟨fuel, hf⟩ := h
  rcases open_slice Tryz.underlying23 hf with ⟨hcs, _⟩ | ⟨a, len, cap, m, n, D, Pl, hcs, _, hl, hmx, hm, _, hi⟩
  · simp [Value.cells] at hcs
    obtain ⟨rfl, rfl, rfl⟩ := hcs
    exact ⟨none, 0, [], rfl, by simp, SlOk.nil, SlAt.nil _ _ _⟩
  · simp [Value.cells] at hcs
    obtain ⟨rfl, rfl, rfl⟩ := hcs
    have hsp := spotC hv
    obtain ⟨b, off, sp⟩ := a
    obtain rfl : sp = none := hsp
    have hC : Tryz.prog.cellsOf 44 = 4 := by kernel_rfl
    rw [if_pos rfl] at hm
    obtain ⟨l, rfl, h1, h2⟩ := rows_of (w := w) (b := b) (off := off) (n := len0) (α := Co) (cells := Co.cells) (k := 4) (Q := fun _ => True) (fun _ => rfl) (by decide) fun i hlt => by
      obtain ⟨cs', k1, k2⟩ := hi i (by omega)
      obtain ⟨x, rfl⟩ := cop_of_trod k2
      exact ⟨x, by rw [hC] at k1; exact k1, trivial⟩
    exact ⟨_, cap0, l, rfl, by unfold maxLen at hmx; omega, ⟨hl, (fun e => by cases e), (fun ad e => by cases e; rfl)⟩, h1⟩
theorem cop_of {v : Value} {d : DataW H} {p : List MemPlace} (hv : Value.okWide Tryz.prog w .any base 44 v) (h : DataW.Trod enc Tryz.prog w 0 (fun _ => true) held 44 v d p) : ∃ x : Co, v = .agg x.cells.toArray := by
  obtain ⟨cs, rfl, hsz⟩ := okWide_struct Tryz.underlying44 hv
  obtain ⟨fuel, hf⟩ := h
  obtain ⟨x, e⟩ := cop_of_trod hf
  refine ⟨x, ?_⟩
  simp only [Value.cells] at e
  rw [← e]
/-- Bytes in memory. -/
def U8At (w : World) (a : Option Addr) (l : List Nat) : Prop := SlAt w a 1 (l.map fun n : Nat => [Value.int .u8 (n : Int)])
theorem U8At.below {w w' : World} {a : Option Addr} {l : List Nat} (h : U8At w a l) (hb : Below w.heap.size w w') : U8At w' a l := SlAt.below h hb
theorem U8At.get {w : World} {a : Option Addr} {l : List Nat} (h : U8At w a l) (i : Nat) (hi : i < l.length) : ∃ b off, a = some ⟨b, off, none⟩ ∧ w.cell? ⟨b, off + i, none⟩ = some (.int .u8 (l[i] : Int)) := by
  obtain ⟨b, off, e, _, _, hc⟩ := h i [.int .u8 (l[i] : Int)] (by simp [hi])
  have := hc 0 _ rfl
  rw [Nat.mul_one, Nat.add_zero] at this
  exact ⟨b, off, e, this⟩
/-- An argument that is a slice of bytes. -/
theorem u8s_of {v : Value} {d : DataW H} {p : List MemPlace} (hv : Value.okWide Tryz.prog w .any base 48 v) (h : DataW.Trod enc Tryz.prog w 0 (fun _ => true) held 48 v d p) :
    ∃ (a : Option Addr) (cap : Nat) (l : List Nat), v = .slice a l.length cap ∧ l.length ≤ 9223372036854775807 ∧ U8At w a l ∧ ∀ n ∈ l, n ≤ 255 := by
  obtain ⟨a0, len0, cap0, rfl⟩ := okWide_slice Tryz.underlying48 hv
  obtain ⟨fuel, hf⟩ := h
  rcases open_ints Tryz.underlying48 Tryz.underlying5 (by kernel_rfl) hf with ⟨hcs, _⟩ | ⟨a, len, cap, zs, hcs, _, hl, hmx, hz, _, hc, hwf⟩
  · simp [Value.cells] at hcs
    obtain ⟨rfl, rfl, rfl⟩ := hcs
    exact ⟨none, 0, [], rfl, by simp, SlAt.nil _ _ _, fun n hn => by cases hn⟩
  · simp [Value.cells] at hcs
    obtain ⟨rfl, rfl, rfl⟩ := hcs
    rw [if_pos rfl] at hz
    have hr : ∀ n ∈ zs, 0 ≤ n ∧ n ≤ 255 := fun n hn => wf_u8 (hwf n hn)
    have hlen : ((zs.take len0).map Int.toNat).length = len0 := by rw [List.length_map, List.length_take]; omega
    refine ⟨_, cap0, (zs.take len0).map Int.toNat, by rw [hlen], by rw [hlen]; unfold maxLen at hmx; omega, ?_, fun n hn => ?_⟩
    · have h1 := one_cells (w := w) (a := some a) (l := ((zs.take len0).map Int.toNat).map fun n : Nat => Value.int .u8 (n : Int)) (.inr ⟨_, rfl, fun i hi => by
        rw [List.length_map, hlen] at hi
        rw [hc i (by omega)]
        have := hr zs[i] (List.getElem_mem _)
        simp [List.getD, show i < zs.length by omega]
        omega⟩)
      rw [List.map_map] at h1
      exact h1
    · obtain ⟨m, hm, rfl⟩ := List.mem_map.1 hn
      have := hr m (List.mem_of_mem_take hm)
      omega
end Go.Proofs.YtehdhbnbajfanaaGreat
