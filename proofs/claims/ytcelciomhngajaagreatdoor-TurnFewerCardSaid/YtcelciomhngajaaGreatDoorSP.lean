/- Texts of this seat, laid together: RowLib, ScFrame. -/
import Derived.Test.YtcelciomhngajaaGreatDoorSA
import Derived.Test.YtcelciomhngajaaGreatDoorRows
import Derived.ProofKit
import Derived.Deep.Slices
import Derived.Deep.Fields
import Derived.Test.YtcelciomhngajaaGreatDoorSF
import Derived.Test.YtcelciomhngajaaGreatDoorSB
/- What all rows of this seat share: the arguments of a law, one by one, and that they read behind the call as ahead of it; no condition. -/
namespace Go.Proofs.YtcelciomhngajaaGreatDoor
set_option linter.unusedSimpArgs false
set_option linter.unusedVariables false
open Go.ChangeShapes Go.WideShapes Go.ChangeAt Go.RowKit Go.Deep Go.Sort
theorem ownT : ownKnob Tryz.prog.godebug = none := by kernel_rfl
theorem laidOutT : laidOutB Tryz.prog = true := by kernel_rfl
section
variable {H : Type} {enc : TypeId × Value → H} {P : Program} {w : World} {base : Nat} {spare : Nat → Bool} {held : Bool}
theorem args_3 {t0 t1 t2 : TypeId} {args : Array Value} {ds : List (DataW H)} {ps : List MemPlace} (h : DataW.TrodAll enc P w base spare held [t0, t1, t2] args.toList ds ps) :
    ∃ v0 v1 v2 d0 d1 d2 p0 p1 p2, args = #[v0, v1, v2] ∧ ds = [d0, d1, d2] ∧ DataW.Trod enc P w base spare held t0 v0 d0 p0 ∧ DataW.Trod enc P w base spare held t1 v1 d1 p1 ∧ DataW.Trod enc P w base spare held t2 v2 d2 p2 := by
  obtain ⟨v0, vs, d0, ds, p0, q0, e, rfl, rfl, h0, r0⟩ := trodAll_cons h
  obtain ⟨v1, vs, d1, ds, p1, q1, rfl, rfl, rfl, h1, r1⟩ := trodAll_cons r0
  obtain ⟨v2, vs, d2, ds, p2, q2, rfl, rfl, rfl, h2, r2⟩ := trodAll_cons r1
  obtain ⟨rfl, rfl, rfl⟩ := trodAll_nil r2
  exact ⟨v0, v1, v2, d0, d1, d2, p0, p1, p2, by cases args; simp_all, rfl, h0, h1, h2⟩
theorem args_4 {t0 t1 t2 t3 : TypeId} {args : Array Value} {ds : List (DataW H)} {ps : List MemPlace} (h : DataW.TrodAll enc P w base spare held [t0, t1, t2, t3] args.toList ds ps) :
    ∃ v0 v1 v2 v3 d0 d1 d2 d3 p0 p1 p2 p3, args = #[v0, v1, v2, v3] ∧ ds = [d0, d1, d2, d3] ∧ DataW.Trod enc P w base spare held t0 v0 d0 p0 ∧ DataW.Trod enc P w base spare held t1 v1 d1 p1 ∧ DataW.Trod enc P w base spare held t2 v2 d2 p2 ∧ DataW.Trod enc P w base spare held t3 v3 d3 p3 := by
  obtain ⟨v0, vs, d0, ds, p0, q0, e, rfl, rfl, h0, r0⟩ := trodAll_cons h
  obtain ⟨v1, v2, v3, d1, d2, d3, p1, p2, p3, e2, rfl, h1, h2, h3⟩ := args_3 (args := vs.toArray) (by simpa using r0)
  obtain rfl : vs = [v1, v2, v3] := by simpa using congrArg Array.toList e2
  exact ⟨v0, v1, v2, v3, d0, d1, d2, d3, p0, p1, p2, p3, by cases args; simp_all, rfl, h0, h1, h2, h3⟩
theorem args_5 {t0 t1 t2 t3 t4 : TypeId} {args : Array Value} {ds : List (DataW H)} {ps : List MemPlace} (h : DataW.TrodAll enc P w base spare held [t0, t1, t2, t3, t4] args.toList ds ps) :
    ∃ v0 v1 v2 v3 v4 d0 d1 d2 d3 d4 p0 p1 p2 p3 p4, args = #[v0, v1, v2, v3, v4] ∧ ds = [d0, d1, d2, d3, d4] ∧ DataW.Trod enc P w base spare held t0 v0 d0 p0 ∧ DataW.Trod enc P w base spare held t1 v1 d1 p1 ∧ DataW.Trod enc P w base spare held t2 v2 d2 p2 ∧ DataW.Trod enc P w base spare held t3 v3 d3 p3 ∧ DataW.Trod enc P w base spare held t4 v4 d4 p4 := by
  obtain ⟨v0, vs, d0, ds, p0, q0, e, rfl, rfl, h0, r0⟩ := trodAll_cons h
  obtain ⟨v1, v2, v3, v4, d1, d2, d3, d4, p1, p2, p3, p4, e2, rfl, h1, h2, h3, h4⟩ := args_4 (args := vs.toArray) (by simpa using r0)
  obtain rfl : vs = [v1, v2, v3, v4] := by simpa using congrArg Array.toList e2
  exact ⟨v0, v1, v2, v3, v4, d0, d1, d2, d3, d4, p0, p1, p2, p3, p4, by cases args; simp_all, rfl, h0, h1, h2, h3, h4⟩
/-- All arguments, behind a call that touches nothing that was there. -/
theorem trodAll_below {ts : List TypeId} {vs : List Value} {ds : List (DataW H)} {ps : List MemPlace} {W W' : World} (hl : laidOutB P = true) (hr : ∀ t ∈ ts, P.readableRec t = true ∧ t < P.types.size)
    (h : DataW.TrodAll enc P W 0 (fun _ => true) true ts vs ds ps) (hb : Below W.heap.size W W') (hlt : ∀ x ∈ ps, x.block < W.heap.size) : DataW.TrodAll enc P W' 0 (fun b => decide (b < W.heap.size)) true ts vs ds ps := by
  induction ts generalizing vs ds ps with
  | nil =>
    obtain ⟨rfl, rfl, rfl⟩ := trodAll_nil h
    rfl
  | cons t ts ih =>
    obtain ⟨v, vs, d, ds, p, q, rfl, rfl, rfl, h0, r⟩ := trodAll_cons h
    exact ⟨p, q, Below.trod hl (hr t (by simp)).1 (hr t (by simp)).2 h0 hb fun y hy => hlt y (List.mem_append_left _ hy), ih (fun t ht => hr t (by simp [ht])) r fun y hy => hlt y (List.mem_append_right _ hy), rfl⟩
end
theorem wf_u8 {n : Int} (h : (Lit.int .u8 n).wf = true) : 0 ≤ n ∧ n ≤ 255 := by
  simp [Lit.wf] at h
  have h1 : IntKind.u8.min = 0 := by decide
  have h2 : IntKind.u8.max = 255 := by decide
  rw [h1, h2] at h; exact h
end Go.Proofs.YtcelciomhngajaaGreatDoor
/- What the rows' arguments are: a score, a view, a cue, a note, integers. -/
namespace Go.Proofs.YtcelciomhngajaaGreatDoor
set_option maxRecDepth 100000
set_option linter.unusedSimpArgs false
set_option linter.unusedVariables false
open Go.ChangeShapes Go.WideShapes Go.ChangeAt Go.RowKit Go.Deep Go.Sort
variable {H : Type} {enc : TypeId × Value → H} {w : World} {base : Nat} {spare : Nat → Bool} {held : Bool}

theorem add_none (b off j : Nat) : (⟨b, off, none⟩ : Addr).add j = ⟨b, off + j, none⟩ := by
  unfold Addr.add
  split
  · rename_i h; subst h; rfl
  · rfl
/-- Rows of k cells each, read one by one. -/
theorem rows_of {α : Type} [Inhabited α] {cells : α → List Value} {k : Nat} (hk : ∀ x, (cells x).length = k) (h0 : 0 < k) {a : Addr} {n : Nat} {Q : α → Prop} (hx : ∀ i, i < n → ∃ x : α, w.cells? 0 (a.add (i * k)) k = some (cells x) ∧ Q x) :
    ∃ l : List α, l.length = n ∧ SlAt w (some a) k (l.map cells) ∧ ∀ x ∈ l, Q x := by
  obtain ⟨f, hf2⟩ := choose_lt (α := α) hx
  refine ⟨(List.range n).map f, by simp, ?_, fun x hx => ?_⟩
  · intro i r hr
    simp only [List.map_map, List.getElem?_map, Option.map_eq_some_iff] at hr
    obtain ⟨j, hj, rfl⟩ := hr
    obtain ⟨hj1, hj2⟩ := List.getElem?_eq_some_iff.1 hj
    simp at hj2
    subst hj2
    have hlt : i < n := by simpa using hj1
    have hsp : a.spot = none := by
      obtain ⟨_, _, hc⟩ := World.cells?_some (hf2 0 (by omega)).1
      have h1 : 0 < (cells (f 0)).length := by rw [hk]; exact h0
      have := (hc 0 h0).trans (List.getElem?_eq_getElem h1)
      simpa [Addr.add] using World.cell?_spot this
    obtain ⟨b, off, sp⟩ := a
    obtain rfl : sp = none := hsp
    obtain ⟨_, _, hc⟩ := World.cells?_some (hf2 i hlt).1
    have hcell : ∀ j u, (cells (f i))[j]? = some u → w.cell? ⟨b, off + i * k + j, none⟩ = some u := by
      intro j u hu
      have hj5 : j < k := by rw [← hk (f i)]; exact (List.getElem?_eq_some_iff.1 hu).1
      have := (hc j hj5).trans hu
      rw [Go.Deep.add_add, add_none] at this
      rw [show off + i * k + j = off + (i * k + j) by omega]; exact this
    have h1 : 0 < (cells (f i)).length := by rw [hk]; exact h0
    exact ⟨b, off, rfl, World.block_lt_of_cell? _ _ (hcell 0 _ (List.getElem?_eq_getElem h1)), hk _, hcell⟩
  · obtain ⟨i, hi, rfl⟩ := List.mem_map.1 hx
    exact (hf2 i (List.mem_range.1 hi)).2
theorem int_trod {n : Nat} {c : Value} {z : DataW H × List MemPlace} (h : DataW.trod enc Tryz.prog w base spare held n 3 [c] = some z) : ∃ m : Int, c = .int .i64 m := by
  obtain ⟨m, e, _⟩ := DataW.trod_int Tryz.underlying3 h
  exact ⟨m, by simpa using e⟩
theorem rt_trod {n : Nat} {cs : List Value} {y : DataW H × List MemPlace} (h : DataW.trod enc Tryz.prog w base spare held n 32 cs = some y) : ∃ r : Rt, cs = r.cells := by
  obtain ⟨xs, n', _, _, hlen, hxl, hg⟩ := DataW.trod_struct Tryz.underlying32 h
  have h5 : cs.length = 2 := hlen.trans (by kernel_rfl)
  have hx5 : xs.length = 2 := hxl
  match cs, h5 with
  | [c0, c1], _ =>
    have hc : Tryz.prog.cellsOf 3 = 1 := by kernel_rfl
    have g0 : DataW.trod enc Tryz.prog w base spare held n' 3 [c0] = some xs[0] := by
      rw [← List.getElem?_eq_getElem (show 0 < xs.length by omega)]; have := hg 0 _ rfl; simpa [hc] using this
    have g1 : DataW.trod enc Tryz.prog w base spare held n' 3 [c1] = some xs[1] := by
      rw [← List.getElem?_eq_getElem (show 1 < xs.length by omega)]; have := hg 1 _ rfl; simpa [hc] using this
    obtain ⟨m0, rfl⟩ := int_trod g0
    obtain ⟨m1, rfl⟩ := int_trod g1
    exact ⟨⟨m0, m1⟩, rfl⟩
theorem ivl_trod {n : Nat} {cs : List Value} {y : DataW H × List MemPlace} (h : DataW.trod enc Tryz.prog w base spare held n 91 cs = some y) : ∃ r : Iv, cs = r.cells := by
  obtain ⟨xs, n', _, _, hlen, hxl, hg⟩ := DataW.trod_struct Tryz.underlying91 h
  have h5 : cs.length = 2 := hlen.trans (by kernel_rfl)
  have hx5 : xs.length = 2 := hxl
  match cs, h5 with
  | [c0, c1], _ =>
    have hc : Tryz.prog.cellsOf 3 = 1 := by kernel_rfl
    have g0 : DataW.trod enc Tryz.prog w base spare held n' 3 [c0] = some xs[0] := by
      rw [← List.getElem?_eq_getElem (show 0 < xs.length by omega)]; have := hg 0 _ rfl; simpa [hc] using this
    have g1 : DataW.trod enc Tryz.prog w base spare held n' 3 [c1] = some xs[1] := by
      rw [← List.getElem?_eq_getElem (show 1 < xs.length by omega)]; have := hg 1 _ rfl; simpa [hc] using this
    obtain ⟨m0, rfl⟩ := int_trod g0
    obtain ⟨m1, rfl⟩ := int_trod g1
    exact ⟨⟨m0, m1⟩, rfl⟩
theorem pt_trod {n : Nat} {cs : List Value} {y : DataW H × List MemPlace} (h : DataW.trod enc Tryz.prog w base spare held n 62 cs = some y) : ∃ r : Pi, cs = r.cells := by
  obtain ⟨xs, n', _, _, hlen, hxl, hg⟩ := DataW.trod_struct Tryz.underlying62 h
  have h5 : cs.length = 3 := hlen.trans (by kernel_rfl)
  have hx5 : xs.length = 3 := hxl
  match cs, h5 with
  | [c0, c1, c2], _ =>
    have hc : Tryz.prog.cellsOf 3 = 1 := by kernel_rfl
    have g0 : DataW.trod enc Tryz.prog w base spare held n' 3 [c0] = some xs[0] := by
      rw [← List.getElem?_eq_getElem (show 0 < xs.length by omega)]; have := hg 0 _ rfl; simpa [hc] using this
    have g1 : DataW.trod enc Tryz.prog w base spare held n' 3 [c1] = some xs[1] := by
      rw [← List.getElem?_eq_getElem (show 1 < xs.length by omega)]; have := hg 1 _ rfl; simpa [hc] using this
    have g2 : DataW.trod enc Tryz.prog w base spare held n' 3 [c2] = some xs[2] := by
      rw [← List.getElem?_eq_getElem (show 2 < xs.length by omega)]; have := hg 2 _ rfl; simpa [hc] using this
    obtain ⟨m0, rfl⟩ := int_trod g0
    obtain ⟨m1, rfl⟩ := int_trod g1
    obtain ⟨m2, rfl⟩ := int_trod g2
    exact ⟨⟨m0, m1, m2⟩, rfl⟩
theorem bar_trod {n : Nat} {cs : List Value} {y : DataW H × List MemPlace} (h : DataW.trod enc Tryz.prog w base spare held n 105 cs = some y) : ∃ x : Ba, cs = x.cells := by
  obtain ⟨xs, n', _, hy, hlen, hxl, hg⟩ := DataW.trod_struct Tryz.underlying105 h
  have h5 : cs.length = 4 := hlen.trans (by kernel_rfl)
  have hx5 : xs.length = 3 := hxl
  match cs, h5 with
  | [c0, c1, c2, c3], _ =>
    have hc_int : Tryz.prog.cellsOf 3 = 1 := by kernel_rfl
    have hc_rat : Tryz.prog.cellsOf 32 = 2 := by kernel_rfl
    have g0 : DataW.trod enc Tryz.prog w base spare held n' 3 [c0] = some xs[0] := by
      rw [← List.getElem?_eq_getElem (show 0 < xs.length by omega)]
      have := hg 0 _ rfl
      simpa [hc_int, hc_rat] using this
    have g1 : DataW.trod enc Tryz.prog w base spare held n' 32 [c1, c2] = some xs[1] := by
      rw [← List.getElem?_eq_getElem (show 1 < xs.length by omega)]
      have := hg 1 _ rfl
      simpa [hc_int, hc_rat] using this
    have g2 : DataW.trod enc Tryz.prog w base spare held n' 3 [c3] = some xs[2] := by
      rw [← List.getElem?_eq_getElem (show 2 < xs.length by omega)]
      have := hg 2 _ rfl
      simpa [hc_int, hc_rat] using this
    obtain ⟨m0, e0⟩ := int_trod g0
    obtain ⟨m1, e1⟩ := rt_trod g1
    obtain ⟨m2, e2⟩ := int_trod g2
    cases e0
    simp only [Rt.cells, List.cons.injEq, and_true] at e1
    obtain ⟨rfl, rfl⟩ := e1
    cases e2
    exact ⟨⟨m0, m1, m2⟩, rfl⟩
theorem note_trod {n : Nat} {cs : List Value} {y : DataW H × List MemPlace} (h : DataW.trod enc Tryz.prog w base spare held n 128 cs = some y) : ∃ x : No, cs = x.cells := by
  obtain ⟨xs, n', _, hy, hlen, hxl, hg⟩ := DataW.trod_struct Tryz.underlying128 h
  have h5 : cs.length = 12 := hlen.trans (by kernel_rfl)
  have hx5 : xs.length = 8 := hxl
  match cs, h5 with
  | [c0, c1, c2, c3, c4, c5, c6, c7, c8, c9, c10, c11], _ =>
    have hc_int : Tryz.prog.cellsOf 3 = 1 := by kernel_rfl
    have hc_pitch : Tryz.prog.cellsOf 62 = 3 := by kernel_rfl
    have hc_rat : Tryz.prog.cellsOf 32 = 2 := by kernel_rfl
    have g0 : DataW.trod enc Tryz.prog w base spare held n' 3 [c0] = some xs[0] := by
      rw [← List.getElem?_eq_getElem (show 0 < xs.length by omega)]
      have := hg 0 _ rfl
      simpa [hc_int, hc_pitch, hc_rat] using this
    have g1 : DataW.trod enc Tryz.prog w base spare held n' 3 [c1] = some xs[1] := by
      rw [← List.getElem?_eq_getElem (show 1 < xs.length by omega)]
      have := hg 1 _ rfl
      simpa [hc_int, hc_pitch, hc_rat] using this
    have g2 : DataW.trod enc Tryz.prog w base spare held n' 3 [c2] = some xs[2] := by
      rw [← List.getElem?_eq_getElem (show 2 < xs.length by omega)]
      have := hg 2 _ rfl
      simpa [hc_int, hc_pitch, hc_rat] using this
    have g3 : DataW.trod enc Tryz.prog w base spare held n' 3 [c3] = some xs[3] := by
      rw [← List.getElem?_eq_getElem (show 3 < xs.length by omega)]
      have := hg 3 _ rfl
      simpa [hc_int, hc_pitch, hc_rat] using this
    have g4 : DataW.trod enc Tryz.prog w base spare held n' 3 [c4] = some xs[4] := by
      rw [← List.getElem?_eq_getElem (show 4 < xs.length by omega)]
      have := hg 4 _ rfl
      simpa [hc_int, hc_pitch, hc_rat] using this
    have g5 : DataW.trod enc Tryz.prog w base spare held n' 32 [c5, c6] = some xs[5] := by
      rw [← List.getElem?_eq_getElem (show 5 < xs.length by omega)]
      have := hg 5 _ rfl
      simpa [hc_int, hc_pitch, hc_rat] using this
    have g6 : DataW.trod enc Tryz.prog w base spare held n' 32 [c7, c8] = some xs[6] := by
      rw [← List.getElem?_eq_getElem (show 6 < xs.length by omega)]
      have := hg 6 _ rfl
      simpa [hc_int, hc_pitch, hc_rat] using this
    have g7 : DataW.trod enc Tryz.prog w base spare held n' 62 [c9, c10, c11] = some xs[7] := by
      rw [← List.getElem?_eq_getElem (show 7 < xs.length by omega)]
      have := hg 7 _ rfl
      simpa [hc_int, hc_pitch, hc_rat] using this
    obtain ⟨m0, e0⟩ := int_trod g0
    obtain ⟨m1, e1⟩ := int_trod g1
    obtain ⟨m2, e2⟩ := int_trod g2
    obtain ⟨m3, e3⟩ := int_trod g3
    obtain ⟨m4, e4⟩ := int_trod g4
    obtain ⟨m5, e5⟩ := rt_trod g5
    obtain ⟨m6, e6⟩ := rt_trod g6
    obtain ⟨m7, e7⟩ := pt_trod g7
    cases e0
    cases e1
    cases e2
    cases e3
    cases e4
    simp only [Rt.cells, List.cons.injEq, and_true] at e5
    obtain ⟨rfl, rfl⟩ := e5
    simp only [Rt.cells, List.cons.injEq, and_true] at e6
    obtain ⟨rfl, rfl⟩ := e6
    simp only [Pi.cells, List.cons.injEq, and_true] at e7
    obtain ⟨rfl, rfl, rfl⟩ := e7
    exact ⟨⟨m0, m1, m2, m3, m4, m5, m6, m7⟩, rfl⟩
theorem part_trod {n : Nat} {cs : List Value} {y : DataW H × List MemPlace} (h : DataW.trod enc Tryz.prog w base spare held n 93 cs = some y) : ∃ x : Pa, cs = x.cells := by
  obtain ⟨xs, n', _, hy, hlen, hxl, hg⟩ := DataW.trod_struct Tryz.underlying93 h
  have h5 : cs.length = 13 := hlen.trans (by kernel_rfl)
  have hx5 : xs.length = 8 := hxl
  match cs, h5 with
  | [c0, c1, c2, c3, c4, c5, c6, c7, c8, c9, c10, c11, c12], _ =>
    have hc_int : Tryz.prog.cellsOf 3 = 1 := by kernel_rfl
    have hc_interval : Tryz.prog.cellsOf 91 = 2 := by kernel_rfl
    have hc_pitch : Tryz.prog.cellsOf 62 = 3 := by kernel_rfl
    have g0 : DataW.trod enc Tryz.prog w base spare held n' 3 [c0] = some xs[0] := by
      rw [← List.getElem?_eq_getElem (show 0 < xs.length by omega)]
      have := hg 0 _ rfl
      simpa [hc_int, hc_interval, hc_pitch] using this
    have g1 : DataW.trod enc Tryz.prog w base spare held n' 3 [c1] = some xs[1] := by
      rw [← List.getElem?_eq_getElem (show 1 < xs.length by omega)]
      have := hg 1 _ rfl
      simpa [hc_int, hc_interval, hc_pitch] using this
    have g2 : DataW.trod enc Tryz.prog w base spare held n' 3 [c2] = some xs[2] := by
      rw [← List.getElem?_eq_getElem (show 2 < xs.length by omega)]
      have := hg 2 _ rfl
      simpa [hc_int, hc_interval, hc_pitch] using this
    have g3 : DataW.trod enc Tryz.prog w base spare held n' 3 [c3] = some xs[3] := by
      rw [← List.getElem?_eq_getElem (show 3 < xs.length by omega)]
      have := hg 3 _ rfl
      simpa [hc_int, hc_interval, hc_pitch] using this
    have g4 : DataW.trod enc Tryz.prog w base spare held n' 3 [c4] = some xs[4] := by
      rw [← List.getElem?_eq_getElem (show 4 < xs.length by omega)]
      have := hg 4 _ rfl
      simpa [hc_int, hc_interval, hc_pitch] using this
    have g5 : DataW.trod enc Tryz.prog w base spare held n' 91 [c5, c6] = some xs[5] := by
      rw [← List.getElem?_eq_getElem (show 5 < xs.length by omega)]
      have := hg 5 _ rfl
      simpa [hc_int, hc_interval, hc_pitch] using this
    have g6 : DataW.trod enc Tryz.prog w base spare held n' 62 [c7, c8, c9] = some xs[6] := by
      rw [← List.getElem?_eq_getElem (show 6 < xs.length by omega)]
      have := hg 6 _ rfl
      simpa [hc_int, hc_interval, hc_pitch] using this
    have g7 : DataW.trod enc Tryz.prog w base spare held n' 62 [c10, c11, c12] = some xs[7] := by
      rw [← List.getElem?_eq_getElem (show 7 < xs.length by omega)]
      have := hg 7 _ rfl
      simpa [hc_int, hc_interval, hc_pitch] using this
    obtain ⟨m0, e0⟩ := int_trod g0
    obtain ⟨m1, e1⟩ := int_trod g1
    obtain ⟨m2, e2⟩ := int_trod g2
    obtain ⟨m3, e3⟩ := int_trod g3
    obtain ⟨m4, e4⟩ := int_trod g4
    obtain ⟨m5, e5⟩ := ivl_trod g5
    obtain ⟨m6, e6⟩ := pt_trod g6
    obtain ⟨m7, e7⟩ := pt_trod g7
    cases e0
    cases e1
    cases e2
    cases e3
    cases e4
    simp only [Iv.cells, List.cons.injEq, and_true] at e5
    obtain ⟨rfl, rfl⟩ := e5
    simp only [Pi.cells, List.cons.injEq, and_true] at e6
    obtain ⟨rfl, rfl, rfl⟩ := e6
    simp only [Pi.cells, List.cons.injEq, and_true] at e7
    obtain ⟨rfl, rfl, rfl⟩ := e7
    exact ⟨⟨m0, m1, m2, m3, m4, m5, m6, m7⟩, rfl⟩
theorem bars_trod {n : Nat} {cs : List Value} {y : DataW H × List MemPlace} (h : DataW.trod enc Tryz.prog w 0 spare held n 22 cs = some y) (hsp : ∀ b, spare b = true) :
    ∃ (a : Option Addr) (cap : Nat) (l : List Ba), cs = [.slice a l.length cap] ∧ l.length ≤ 9223372036854775807 ∧ SlOk0 a l.length cap ∧ SlAt w a 4 (l.map Ba.cells) ∧ ∀ x ∈ l, True := by
  rcases open_slice Tryz.underlying22 h with ⟨rfl, _⟩ | ⟨a, len, cap, m, n', D, Pl, rfl, _, hl, hmx, hm, hy, hi⟩
  · exact ⟨none, 0, [], rfl, by simp, ⟨by simp, fun _ => rfl⟩, SlAt.nil _ _ _, fun x hx => by cases hx⟩
  · have hC : Tryz.prog.cellsOf 105 = 4 := by kernel_rfl
    rw [hsp, if_pos rfl] at hm
    obtain ⟨l, rfl, h1, h2⟩ := rows_of (w := w) (a := a) (n := len) (α := Ba) (cells := Ba.cells) (k := 4) (Q := fun x => True) (fun _ => rfl) (by decide) fun i hlt => by
      obtain ⟨cs', k1, k2⟩ := hi i (by omega)
      obtain ⟨x, rfl⟩ := bar_trod k2
      exact ⟨x, by rw [hC] at k1; exact k1, trivial⟩
    exact ⟨_, cap, l, rfl, by unfold maxLen at hmx; omega, ⟨hl, fun e => by cases e⟩, h1, h2⟩
theorem parts_trod {n : Nat} {cs : List Value} {y : DataW H × List MemPlace} (h : DataW.trod enc Tryz.prog w 0 spare held n 23 cs = some y) (hsp : ∀ b, spare b = true) :
    ∃ (a : Option Addr) (cap : Nat) (l : List Pa), cs = [.slice a l.length cap] ∧ l.length ≤ 9223372036854775807 ∧ SlOk0 a l.length cap ∧ SlAt w a 13 (l.map Pa.cells) ∧ ∀ x ∈ l, True := by
  rcases open_slice Tryz.underlying23 h with ⟨rfl, _⟩ | ⟨a, len, cap, m, n', D, Pl, rfl, _, hl, hmx, hm, hy, hi⟩
  · exact ⟨none, 0, [], rfl, by simp, ⟨by simp, fun _ => rfl⟩, SlAt.nil _ _ _, fun x hx => by cases hx⟩
  · have hC : Tryz.prog.cellsOf 93 = 13 := by kernel_rfl
    rw [hsp, if_pos rfl] at hm
    obtain ⟨l, rfl, h1, h2⟩ := rows_of (w := w) (a := a) (n := len) (α := Pa) (cells := Pa.cells) (k := 13) (Q := fun x => True) (fun _ => rfl) (by decide) fun i hlt => by
      obtain ⟨cs', k1, k2⟩ := hi i (by omega)
      obtain ⟨x, rfl⟩ := part_trod k2
      exact ⟨x, by rw [hC] at k1; exact k1, trivial⟩
    exact ⟨_, cap, l, rfl, by unfold maxLen at hmx; omega, ⟨hl, fun e => by cases e⟩, h1, h2⟩
theorem notes_trod {n : Nat} {cs : List Value} {y : DataW H × List MemPlace} (h : DataW.trod enc Tryz.prog w 0 spare held n 24 cs = some y) (hsp : ∀ b, spare b = true) :
    ∃ (a : Option Addr) (cap : Nat) (l : List No), cs = [.slice a l.length cap] ∧ l.length ≤ 9223372036854775807 ∧ SlOk0 a l.length cap ∧ SlAt w a 12 (l.map No.cells) ∧ ∀ x ∈ l, True := by
  rcases open_slice Tryz.underlying24 h with ⟨rfl, _⟩ | ⟨a, len, cap, m, n', D, Pl, rfl, _, hl, hmx, hm, hy, hi⟩
  · exact ⟨none, 0, [], rfl, by simp, ⟨by simp, fun _ => rfl⟩, SlAt.nil _ _ _, fun x hx => by cases hx⟩
  · have hC : Tryz.prog.cellsOf 128 = 12 := by kernel_rfl
    rw [hsp, if_pos rfl] at hm
    obtain ⟨l, rfl, h1, h2⟩ := rows_of (w := w) (a := a) (n := len) (α := No) (cells := No.cells) (k := 12) (Q := fun x => True) (fun _ => rfl) (by decide) fun i hlt => by
      obtain ⟨cs', k1, k2⟩ := hi i (by omega)
      obtain ⟨x, rfl⟩ := note_trod k2
      exact ⟨x, by rw [hC] at k1; exact k1, trivial⟩
    exact ⟨_, cap, l, rfl, by unfold maxLen at hmx; omega, ⟨hl, fun e => by cases e⟩, h1, h2⟩
/-- The address of a slice that is a field of an argument. -/
theorem spot_field {t u : TypeId} {cs : Array Value} {i : Nat} {a : Addr} {n cap : Nat} {ts : List TypeId} {e : TypeId} (hv : Value.okWide Tryz.prog w .any base t (.agg cs)) (hS : ∃ fs, Tryz.prog.underlying t = some (.struct fs)) (hts : Tryz.prog.cellTypes Tryz.prog.depth t = some ts) (hi : i < ts.length) (hu : ts[i]? = some u) (hsl : Tryz.prog.underlying u = some (.slice e)) (hc : cs[i]? = some (.slice (some a) n cap)) : a.spot = none := by
  obtain ⟨fs, hfs⟩ := hS
  unfold Value.okWide at hv
  rw [hfs] at hv
  obtain ⟨cs', e1, h2, h3⟩ := hv
  cases e1
  obtain ⟨ts', h4, _, h5⟩ := h3
  rw [hts] at h4
  cases h4
  obtain ⟨u', h6, h7⟩ := h5 i _ hc
  rw [Nat.mod_eq_of_lt hi, hu] at h6
  cases h6
  unfold Cell.okWide at h7
  simp only [hsl] at h7
  unfold Cell.ok at h7
  simp only [hsl] at h7
  exact h7.2.2.2.1
/-- An argument that is a score. -/
theorem sc_of {v : Value} {d : DataW H} {p : List MemPlace} (hv : Value.okWide Tryz.prog w .any base 26 v) (h : DataW.Trod enc Tryz.prog w 0 (fun _ => true) held 26 v d p) :
    ∃ (s : Sc) (q : Sp), v = .agg #[.int .i64 s.version, .slice q.ab s.bars.length q.cb, .slice q.ap s.parts.length q.cp, .slice q.an s.notes.length q.cn] ∧ ScAt w s q := by
  obtain ⟨cs, rfl, hsz⟩ := okWide_struct Tryz.underlying26 hv
  obtain ⟨fuel, hf⟩ := h
  obtain ⟨xs, n', _, _, hlen, hxl, hg⟩ := DataW.trod_struct Tryz.underlying26 hf
  have h5 : cs.toList.length = 4 := hlen.trans (by kernel_rfl)
  have hx5 : xs.length = 4 := hxl
  obtain ⟨cs⟩ := cs
  simp only [Value.cells] at h5 hg
  match cs, h5 with
  | [c0, c1, c2, c3], _ =>
    have hc1 : Tryz.prog.cellsOf 3 = 1 := by kernel_rfl
    have hc2 : Tryz.prog.cellsOf 22 = 1 := by kernel_rfl
    have hc3 : Tryz.prog.cellsOf 23 = 1 := by kernel_rfl
    have hc4 : Tryz.prog.cellsOf 24 = 1 := by kernel_rfl
    have g0 : DataW.trod enc Tryz.prog w 0 (fun _ => true) held n' 3 [c0] = some xs[0] := by
      rw [← List.getElem?_eq_getElem (show 0 < xs.length by omega)]; have := hg 0 _ rfl; simpa [hc1, hc2, hc3, hc4] using this
    have g1 : DataW.trod enc Tryz.prog w 0 (fun _ => true) held n' 22 [c1] = some xs[1] := by
      rw [← List.getElem?_eq_getElem (show 1 < xs.length by omega)]; have := hg 1 _ rfl; simpa [hc1, hc2, hc3, hc4] using this
    have g2 : DataW.trod enc Tryz.prog w 0 (fun _ => true) held n' 23 [c2] = some xs[2] := by
      rw [← List.getElem?_eq_getElem (show 2 < xs.length by omega)]; have := hg 2 _ rfl; simpa [hc1, hc2, hc3, hc4] using this
    have g3 : DataW.trod enc Tryz.prog w 0 (fun _ => true) held n' 24 [c3] = some xs[3] := by
      rw [← List.getElem?_eq_getElem (show 3 < xs.length by omega)]; have := hg 3 _ rfl; simpa [hc1, hc2, hc3, hc4] using this
    obtain ⟨m0, rfl⟩ := int_trod g0
    obtain ⟨ab, cb, lb, e1, _, k1, s1, _⟩ := bars_trod g1 fun _ => rfl
    obtain ⟨ap, cp, lp, e2, _, k2, s2, _⟩ := parts_trod g2 fun _ => rfl
    obtain ⟨an, cn, ln, e3, _, k3, s3, _⟩ := notes_trod g3 fun _ => rfl
    cases e1; cases e2; cases e3
    have hts : Tryz.prog.cellTypes Tryz.prog.depth 26 = some [3, 22, 23, 24] := by kernel_rfl
    have hst : ∃ fs, Tryz.prog.underlying 26 = some (.struct fs) := ⟨_, Tryz.underlying26⟩
    exact ⟨⟨m0, lb, lp, ln⟩, ⟨ab, cb, ap, cp, an, cn⟩, rfl, ⟨s1, s2, s3,
      ⟨k1.le, k1.none, fun ad e => by subst e; exact spot_field hv hst hts (i := 1) (by simp) rfl Tryz.underlying22 rfl⟩,
      ⟨k2.le, k2.none, fun ad e => by subst e; exact spot_field hv hst hts (i := 2) (by simp) rfl Tryz.underlying23 rfl⟩,
      ⟨k3.le, k3.none, fun ad e => by subst e; exact spot_field hv hst hts (i := 3) (by simp) rfl Tryz.underlying24 rfl⟩⟩⟩
end Go.Proofs.YtcelciomhngajaaGreatDoor

