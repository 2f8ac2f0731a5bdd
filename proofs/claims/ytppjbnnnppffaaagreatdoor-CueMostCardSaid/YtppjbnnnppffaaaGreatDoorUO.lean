/- Texts of this seat, laid together: ScL17a, ScL17b. -/
import Derived.Test.YtppjbnnnppffaaaGreatDoorUJ
import Derived.Test.YtppjbnnnppffaaaGreatDoorUA
import Derived.Test.YtppjbnnnppffaaaGreatDoorUN
import Derived.Test.YtppjbnnnppffaaaGreatDoorUL

/- The laws of layer 17: the example: walked. -/
namespace Go.Proofs.YtppjbnnnppffaaaGreatDoor
set_option linter.unusedSimpArgs false
set_option linter.unusedVariables false
open Go.RowKit Go.Sort Go.Shelf

def cuB (id : Int) : Ba := ⟨id, ⟨4, 1⟩, 0⟩
def cuP (id x y : Int) : Pa := ⟨id, 0, 0, 0, 1, ⟨x, y⟩, ⟨0, 0, 3⟩, ⟨0, 0, 6⟩⟩
def cuN (id part bar start : Int) : No := ⟨id, part, bar, 0, 0, ⟨start, 1⟩, ⟨1, 1⟩, ⟨0, 0, 4⟩⟩
/-- The example's score. -/
def exC : Sc := ⟨1, [cuB 7, cuB 8, cuB 9], [cuP 3 0 0, cuP 1 (-1) (-2), cuP 2 0 0], [cuN 5 2 8 0, cuN 6 2 8 1, cuN 4 3 8 2, cuN 3 1 9 0]⟩
def RetSc17 (s : Sc) (w : World) (e : Ending) (w' : World) : Prop := ∃ q : Sp, e = .returned (.agg #[.int .i64 s.version, .slice q.ab s.bars.length q.cb, .slice q.ap s.parts.length q.cp, .slice q.an s.notes.length q.cn]) ∧ ScAt w' s q ∧ Below w.heap.size w w'
/-- A block of cells, read as rows. -/
theorem SlAt.ofBlk {w : World} {b sz : Nat} {cs : Array Value} {T : TypeId} {fr : Nat × Nat} {rows : List (List Value)} (h : w.heap[b]? = some (.cells cs T fr)) (hw : ∀ r ∈ rows, r.length = sz) (hf : rows.flatten = cs.toList) : SlAt w (some ⟨b, 0, none⟩) sz rows := fun i r hr =>
  ⟨b, 0, rfl, lt_blk h, hw r (List.mem_of_getElem? hr), fun j u hu => by
    have := flat_get rows sz hw i j r u hr hu
    rw [hf] at this
    rw [Nat.zero_add, box_cells h]
    simpa using this⟩
/-- 12 cells of a block are set. -/
theorem set12_at {w : World} {c : Nat} {T : TypeId} {a0 a1 a2 a3 a4 a5 a6 a7 a8 a9 a10 a11 v0 v1 v2 v3 v4 v5 v6 v7 v8 v9 v10 v11 : Value} (h : w.heap[c]? = some (.cells #[a0, a1, a2, a3, a4, a5, a6, a7, a8, a9, a10, a11] T (0, 0))) :
    ((((((((((((w.setCell ⟨c, 0, none⟩ v0).setCell ⟨c, 1, none⟩ v1).setCell ⟨c, 2, none⟩ v2).setCell ⟨c, 3, none⟩ v3).setCell ⟨c, 4, none⟩ v4).setCell ⟨c, 5, none⟩ v5).setCell ⟨c, 6, none⟩ v6).setCell ⟨c, 7, none⟩ v7).setCell ⟨c, 8, none⟩ v8).setCell ⟨c, 9, none⟩ v9).setCell ⟨c, 10, none⟩ v10).setCell ⟨c, 11, none⟩ v11).heap[c]? = some (.cells #[v0, v1, v2, v3, v4, v5, v6, v7, v8, v9, v10, v11] T (0, 0)) := by
  have h0 := heap_setCell_same w c 0 _ T v0 h
  have h1 := heap_setCell_same _ c 1 _ T v1 h0
  have h2 := heap_setCell_same _ c 2 _ T v2 h1
  have h3 := heap_setCell_same _ c 3 _ T v3 h2
  have h4 := heap_setCell_same _ c 4 _ T v4 h3
  have h5 := heap_setCell_same _ c 5 _ T v5 h4
  have h6 := heap_setCell_same _ c 6 _ T v6 h5
  have h7 := heap_setCell_same _ c 7 _ T v7 h6
  have h8 := heap_setCell_same _ c 8 _ T v8 h7
  have h9 := heap_setCell_same _ c 9 _ T v9 h8
  have h10 := heap_setCell_same _ c 10 _ T v10 h9
  have h11 := heap_setCell_same _ c 11 _ T v11 h10
  simpa only [List.setIfInBounds_toArray, List.set_cons_zero, List.set_cons_succ] using h11
theorem set12_below {n : Nat} {w0 w : World} {c : Nat} {v0 v1 v2 v3 v4 v5 v6 v7 v8 v9 v10 v11 : Value} (h : Below n w0 w) (hc : n ≤ c) :
    Below n w0 ((((((((((((w.setCell ⟨c, 0, none⟩ v0).setCell ⟨c, 1, none⟩ v1).setCell ⟨c, 2, none⟩ v2).setCell ⟨c, 3, none⟩ v3).setCell ⟨c, 4, none⟩ v4).setCell ⟨c, 5, none⟩ v5).setCell ⟨c, 6, none⟩ v6).setCell ⟨c, 7, none⟩ v7).setCell ⟨c, 8, none⟩ v8).setCell ⟨c, 9, none⟩ v9).setCell ⟨c, 10, none⟩ v10).setCell ⟨c, 11, none⟩ v11) :=
  (((((((((((h.setCell (p := ⟨c, 0, none⟩) hc _).setCell (p := ⟨c, 1, none⟩) hc _).setCell (p := ⟨c, 2, none⟩) hc _).setCell (p := ⟨c, 3, none⟩) hc _).setCell (p := ⟨c, 4, none⟩) hc _).setCell (p := ⟨c, 5, none⟩) hc _).setCell (p := ⟨c, 6, none⟩) hc _).setCell (p := ⟨c, 7, none⟩) hc _).setCell (p := ⟨c, 8, none⟩) hc _).setCell (p := ⟨c, 9, none⟩) hc _).setCell (p := ⟨c, 10, none⟩) hc _).setCell (p := ⟨c, 11, none⟩) hc _
set_option maxRecDepth 100000 in
set_option maxHeartbeats 4000000 in
theorem cnote_any (a b c d : Int) (w : World) : Calls Tryz.prog 97 #[.int .i64 a, .int .i64 b, .int .i64 c, .int .i64 d] w fun e w' => e = .returned (.agg #[.int .i64 a, .int .i64 b, .int .i64 c, .int .i64 0, .int .i64 0, .int .i64 d, .int .i64 1, .int .i64 1, .int .i64 1, .int .i64 0, .int .i64 0, .int .i64 4]) ∧ Below w.heap.size w w' := by
  have HX1 := Lib.hid (heap_alloc_new w (.cells #[.int .i64 0, .int .i64 0, .int .i64 0, .int .i64 0, .int .i64 0, .int .i64 0, .int .i64 0, .int .i64 0, .int .i64 0, .int .i64 0, .int .i64 0, .int .i64 0] 73))
  have HB := Lib.hid (below_box (w := w) (.cells #[.int .i64 0, .int .i64 0, .int .i64 0, .int .i64 0, .int .i64 0, .int .i64 0, .int .i64 0, .int .i64 0, .int .i64 0, .int .i64 0, .int .i64 0, .int .i64 0] 73))
  go_enter Tryz.func97, Tryz.ntmps97
  go_upto_region 1 with (fail)
  generalize w.alloc (.cells #[.int .i64 0, .int .i64 0, .int .i64 0, .int .i64 0, .int .i64 0, .int .i64 0, .int .i64 0, .int .i64 0, .int .i64 0, .int .i64 0, .int .i64 0, .int .i64 0] 73) = W at *
  have hc1 := box_cells HX1.out; have hf1 := box_free HX1.out; have hz1 := lt_blk HX1.out
  go_wp2
  have hx9 := set12_at (v0 := .int .i64 a) (v1 := .int .i64 b) (v2 := .int .i64 c) (v3 := .int .i64 0) (v4 := .int .i64 0) (v5 := .int .i64 d) (v6 := .int .i64 1) (v7 := .int .i64 1) (v8 := .int .i64 1) (v9 := .int .i64 0) (v10 := .int .i64 0) (v11 := .int .i64 4) HX1.out
  have hc9 := box_cells hx9; have hf9 := box_free hx9
  exact bodyPost_ret (v := .agg #[.int .i64 a, .int .i64 b, .int .i64 c, .int .i64 0, .int .i64 0, .int .i64 d, .int .i64 1, .int .i64 1, .int .i64 1, .int .i64 0, .int .i64 0, .int .i64 4]) (by simp [results, Tryz.results97, go_sem, hc9, hf9, cuN]) rfl ⟨rfl, set12_below HB.out (Nat.le_refl _)⟩
theorem set4_at {w : World} {c : Nat} {a0 a1 a2 a3 v0 v1 v2 v3 : Value} {T : TypeId} (h : w.heap[c]? = some (.cells #[a0, a1, a2, a3] T (0, 0))) : ((((w.setCell ⟨c, 0, none⟩ v0).setCell ⟨c, 1, none⟩ v1).setCell ⟨c, 2, none⟩ v2).setCell ⟨c, 3, none⟩ v3).heap[c]? = some (.cells #[v0, v1, v2, v3] T (0, 0)) :=
  heap_setCell_same _ _ _ _ _ _ (heap_setCell_same _ _ _ _ _ _ (heap_setCell_same _ _ _ _ _ _ (heap_setCell_same _ _ _ _ _ _ h)))
theorem set4_far {w : World} {b c : Nat} {o : Obj} {v0 v1 v2 v3 : Value} (h : w.heap[b]? = some o) (hne : b ≠ c) : ((((w.setCell ⟨c, 0, none⟩ v0).setCell ⟨c, 1, none⟩ v1).setCell ⟨c, 2, none⟩ v2).setCell ⟨c, 3, none⟩ v3).heap[b]? = some o := set1_far (set1_far (set1_far (set1_far h hne _) hne _) hne _) hne _
theorem exb_w : ∀ r ∈ exC.bars.map Ba.cells, r.length = 4 := fun r hr => by obtain ⟨x, _, rfl⟩ := List.mem_map.1 hr; rfl
theorem exp_w : ∀ r ∈ exC.parts.map Pa.cells, r.length = 13 := fun r hr => by obtain ⟨x, _, rfl⟩ := List.mem_map.1 hr; rfl
theorem exn_w : ∀ r ∈ exC.notes.map No.cells, r.length = 12 := fun r hr => by obtain ⟨x, _, rfl⟩ := List.mem_map.1 hr; rfl
theorem ok3 (b n : Nat) : SlOk (some ⟨b, 0, none⟩) n n := ⟨Nat.le_refl _, (fun e => by cases e), (fun ad e => by cases e; rfl)⟩
set_option maxRecDepth 100000 in
set_option maxHeartbeats 8000000 in
theorem ex17_any (w : World) : Calls Tryz.prog 40 #[] w (RetSc17 exC w) := by
  go_enter Tryz.func40, Tryz.ntmps40
  go_upto_region 4 with (fail)
  have hB := (((((Below.refl w.heap.size w).alloc (Nat.le_refl _) (.cells #[.int .i64 0, .slice none 0 0, .slice none 0 0, .slice none 0 0] 26)).alloc (by simp) (.cells #[.int .i64 0, .int .i64 0, .int .i64 3] 57)).alloc (by simp; omega) (.cells #[.int .i64 0, .int .i64 0, .int .i64 6] 57)).alloc (by simp; omega) (.cells #[.int .i64 4, .int .i64 1] 63)).alloc (by simp; omega) (.cells #[.int .i64 3, .int .i64 0, .int .i64 0, .int .i64 0, .int .i64 1, .int .i64 0, .int .i64 0, .int .i64 0, .int .i64 0, .int .i64 3, .int .i64 0, .int .i64 0, .int .i64 6, .int .i64 1, .int .i64 0, .int .i64 0, .int .i64 0, .int .i64 1, .int .i64 (-1), .int .i64 (-2), .int .i64 0, .int .i64 0, .int .i64 3, .int .i64 0, .int .i64 0, .int .i64 6, .int .i64 2, .int .i64 0, .int .i64 0, .int .i64 0, .int .i64 1, .int .i64 0, .int .i64 0, .int .i64 0, .int .i64 0, .int .i64 3, .int .i64 0, .int .i64 0, .int .i64 6] 59)
  have h0 : (((((w.alloc (.cells #[.int .i64 0, .slice none 0 0, .slice none 0 0, .slice none 0 0] 26)).alloc (.cells #[.int .i64 0, .int .i64 0, .int .i64 3] 57)).alloc (.cells #[.int .i64 0, .int .i64 0, .int .i64 6] 57)).alloc (.cells #[.int .i64 4, .int .i64 1] 63)).alloc (.cells #[.int .i64 3, .int .i64 0, .int .i64 0, .int .i64 0, .int .i64 1, .int .i64 0, .int .i64 0, .int .i64 0, .int .i64 0, .int .i64 3, .int .i64 0, .int .i64 0, .int .i64 6, .int .i64 1, .int .i64 0, .int .i64 0, .int .i64 0, .int .i64 1, .int .i64 (-1), .int .i64 (-2), .int .i64 0, .int .i64 0, .int .i64 3, .int .i64 0, .int .i64 0, .int .i64 6, .int .i64 2, .int .i64 0, .int .i64 0, .int .i64 0, .int .i64 1, .int .i64 0, .int .i64 0, .int .i64 0, .int .i64 0, .int .i64 3, .int .i64 0, .int .i64 0, .int .i64 6] 59)).heap[w.heap.size]? = some (.cells #[.int .i64 0, .slice none 0 0, .slice none 0 0, .slice none 0 0] 26) := up_alloc (up_alloc (up_alloc (up_alloc (heap_alloc_new w _) _) _) _) _
  have h3 : (((((w.alloc (.cells #[.int .i64 0, .slice none 0 0, .slice none 0 0, .slice none 0 0] 26)).alloc (.cells #[.int .i64 0, .int .i64 0, .int .i64 3] 57)).alloc (.cells #[.int .i64 0, .int .i64 0, .int .i64 6] 57)).alloc (.cells #[.int .i64 4, .int .i64 1] 63)).alloc (.cells #[.int .i64 3, .int .i64 0, .int .i64 0, .int .i64 0, .int .i64 1, .int .i64 0, .int .i64 0, .int .i64 0, .int .i64 0, .int .i64 3, .int .i64 0, .int .i64 0, .int .i64 6, .int .i64 1, .int .i64 0, .int .i64 0, .int .i64 0, .int .i64 1, .int .i64 (-1), .int .i64 (-2), .int .i64 0, .int .i64 0, .int .i64 3, .int .i64 0, .int .i64 0, .int .i64 6, .int .i64 2, .int .i64 0, .int .i64 0, .int .i64 0, .int .i64 1, .int .i64 0, .int .i64 0, .int .i64 0, .int .i64 0, .int .i64 3, .int .i64 0, .int .i64 0, .int .i64 6] 59)).heap[w.heap.size + 1 + 1 + 1]? = some (.cells #[.int .i64 4, .int .i64 1] 63) := up_alloc (by have := heap_alloc_new (((w.alloc (.cells #[.int .i64 0, .slice none 0 0, .slice none 0 0, .slice none 0 0] 26)).alloc (.cells #[.int .i64 0, .int .i64 0, .int .i64 3] 57)).alloc (.cells #[.int .i64 0, .int .i64 0, .int .i64 6] 57)) (.cells #[.int .i64 4, .int .i64 1] 63); simpa only [World.size_alloc] using this) _
  have h4 : (((((w.alloc (.cells #[.int .i64 0, .slice none 0 0, .slice none 0 0, .slice none 0 0] 26)).alloc (.cells #[.int .i64 0, .int .i64 0, .int .i64 3] 57)).alloc (.cells #[.int .i64 0, .int .i64 0, .int .i64 6] 57)).alloc (.cells #[.int .i64 4, .int .i64 1] 63)).alloc (.cells #[.int .i64 3, .int .i64 0, .int .i64 0, .int .i64 0, .int .i64 1, .int .i64 0, .int .i64 0, .int .i64 0, .int .i64 0, .int .i64 3, .int .i64 0, .int .i64 0, .int .i64 6, .int .i64 1, .int .i64 0, .int .i64 0, .int .i64 0, .int .i64 1, .int .i64 (-1), .int .i64 (-2), .int .i64 0, .int .i64 0, .int .i64 3, .int .i64 0, .int .i64 0, .int .i64 6, .int .i64 2, .int .i64 0, .int .i64 0, .int .i64 0, .int .i64 1, .int .i64 0, .int .i64 0, .int .i64 0, .int .i64 0, .int .i64 3, .int .i64 0, .int .i64 0, .int .i64 6] 59)).heap[w.heap.size + 1 + 1 + 1 + 1]? = some (.cells #[.int .i64 3, .int .i64 0, .int .i64 0, .int .i64 0, .int .i64 1, .int .i64 0, .int .i64 0, .int .i64 0, .int .i64 0, .int .i64 3, .int .i64 0, .int .i64 0, .int .i64 6, .int .i64 1, .int .i64 0, .int .i64 0, .int .i64 0, .int .i64 1, .int .i64 (-1), .int .i64 (-2), .int .i64 0, .int .i64 0, .int .i64 3, .int .i64 0, .int .i64 0, .int .i64 6, .int .i64 2, .int .i64 0, .int .i64 0, .int .i64 0, .int .i64 1, .int .i64 0, .int .i64 0, .int .i64 0, .int .i64 0, .int .i64 3, .int .i64 0, .int .i64 0, .int .i64 6] 59) := by have := heap_alloc_new ((((w.alloc (.cells #[.int .i64 0, .slice none 0 0, .slice none 0 0, .slice none 0 0] 26)).alloc (.cells #[.int .i64 0, .int .i64 0, .int .i64 3] 57)).alloc (.cells #[.int .i64 0, .int .i64 0, .int .i64 6] 57)).alloc (.cells #[.int .i64 4, .int .i64 1] 63)) (.cells #[.int .i64 3, .int .i64 0, .int .i64 0, .int .i64 0, .int .i64 1, .int .i64 0, .int .i64 0, .int .i64 0, .int .i64 0, .int .i64 3, .int .i64 0, .int .i64 0, .int .i64 6, .int .i64 1, .int .i64 0, .int .i64 0, .int .i64 0, .int .i64 1, .int .i64 (-1), .int .i64 (-2), .int .i64 0, .int .i64 0, .int .i64 3, .int .i64 0, .int .i64 0, .int .i64 6, .int .i64 2, .int .i64 0, .int .i64 0, .int .i64 0, .int .i64 1, .int .i64 0, .int .i64 0, .int .i64 0, .int .i64 0, .int .i64 3, .int .i64 0, .int .i64 0, .int .i64 6] 59); simpa only [World.size_alloc] using this
  generalize (((((w.alloc (.cells #[.int .i64 0, .slice none 0 0, .slice none 0 0, .slice none 0 0] 26)).alloc (.cells #[.int .i64 0, .int .i64 0, .int .i64 3] 57)).alloc (.cells #[.int .i64 0, .int .i64 0, .int .i64 6] 57)).alloc (.cells #[.int .i64 4, .int .i64 1] 63)).alloc (.cells #[.int .i64 3, .int .i64 0, .int .i64 0, .int .i64 0, .int .i64 1, .int .i64 0, .int .i64 0, .int .i64 0, .int .i64 0, .int .i64 3, .int .i64 0, .int .i64 0, .int .i64 6, .int .i64 1, .int .i64 0, .int .i64 0, .int .i64 0, .int .i64 1, .int .i64 (-1), .int .i64 (-2), .int .i64 0, .int .i64 0, .int .i64 3, .int .i64 0, .int .i64 0, .int .i64 6, .int .i64 2, .int .i64 0, .int .i64 0, .int .i64 0, .int .i64 1, .int .i64 0, .int .i64 0, .int .i64 0, .int .i64 0, .int .i64 3, .int .i64 0, .int .i64 0, .int .i64 6] 59)) = W0 at *
  obtain ⟨pb, hpb⟩ : ∃ pb, pb = w.heap.size + 1 + 1 + 1 + 1 := ⟨_, rfl⟩
  rw [← hpb] at h4 ⊢
  have hpl : w.heap.size < pb := by omega
  clear hpb
  obtain ⟨tb, htb⟩ : ∃ tb, tb = w.heap.size + 1 + 1 + 1 := ⟨_, rfl⟩
  rw [← htb] at h3 ⊢
  have htl : w.heap.size < tb := by omega
  clear htb
  refine wp_region_held_drew (S := fun w' => Below w.heap.size w w' ∧ w'.heap[tb]? = some (.cells #[.int .i64 4, .int .i64 1] 63) ∧ w'.heap[pb]? = some (.cells #[.int .i64 3, .int .i64 0, .int .i64 0, .int .i64 0, .int .i64 1, .int .i64 0, .int .i64 0, .int .i64 0, .int .i64 0, .int .i64 3, .int .i64 0, .int .i64 0, .int .i64 6, .int .i64 1, .int .i64 0, .int .i64 0, .int .i64 0, .int .i64 1, .int .i64 (-1), .int .i64 (-2), .int .i64 0, .int .i64 0, .int .i64 3, .int .i64 0, .int .i64 0, .int .i64 6, .int .i64 2, .int .i64 0, .int .i64 0, .int .i64 0, .int .i64 1, .int .i64 0, .int .i64 0, .int .i64 0, .int .i64 0, .int .i64 3, .int .i64 0, .int .i64 0, .int .i64 6] 59) ∧ ∃ a0 a1 a2 a3, w'.heap[w.heap.size]? = some (.cells #[a0, a1, a2, a3] 26 (0, 0))) (by kernel_rfl) ⟨hB.drew, h3, h4, _, _, _, _, h0⟩ (fun hHeld => ?_)
  (refine wpAnyH_take1 0 (oi := ?_) (v := ?_) ?_ (by kernel_rfl) (by kernel_rfl) (by kernel_rfl) (by assumption) ?_ ?_ ?_; rotate_left 2; (· simp only [List.getElem?_toArray, List.getElem?_cons_succ, List.getElem?_cons_zero]; try rfl); (· refine ⟨by kernel_rfl, ?_⟩; intro wq hSw; obtain ⟨y0, y1, y2, y3⟩ := hSw; have hx := box_cells y1; go_simp; first | done | with_reducible rfl); (· exact fun _ _ _ h => h); try simp only [Act.put, List.setIfInBounds_toArray, List.set_cons_zero, List.set_cons_succ])
  (refine wpAnyH_take1 1 (oi := ?_) (v := ?_) ?_ (by kernel_rfl) (by kernel_rfl) (by kernel_rfl) (by assumption) ?_ ?_ ?_; rotate_left 2; (· simp only [List.getElem?_toArray, List.getElem?_cons_succ, List.getElem?_cons_zero]; try rfl); (· refine ⟨by kernel_rfl, ?_⟩; intro wq hSw; obtain ⟨y0, y1, y2, y3⟩ := hSw; have hx := box_cells y1; go_simp; first | done | with_reducible rfl); (· exact fun _ _ _ h => h); try simp only [Act.put, List.setIfInBounds_toArray, List.set_cons_zero, List.set_cons_succ])
  (refine wpAnyH_take1 2 (oi := ?_) (v := ?_) ?_ (by kernel_rfl) (by kernel_rfl) (by kernel_rfl) (by assumption) ?_ ?_ ?_; rotate_left 2; (· simp only [List.getElem?_toArray, List.getElem?_cons_succ, List.getElem?_cons_zero]; try rfl); (· refine ⟨by kernel_rfl, ?_⟩; intro wq hSw; obtain ⟨y0, y1, y2, y3⟩ := hSw; have hx := box_cells y1; go_simp; first | done | with_reducible rfl); (· exact fun _ _ _ h => h); try simp only [Act.put, List.setIfInBounds_toArray, List.set_cons_zero, List.set_cons_succ])
  (refine wpAnyH_take1 3 (oi := ?_) (v := ?_) ?_ (by kernel_rfl) (by kernel_rfl) (by kernel_rfl) (by assumption) ?_ ?_ ?_; rotate_left 2; (· simp only [List.getElem?_toArray, List.getElem?_cons_succ, List.getElem?_cons_zero]; try rfl); (· refine ⟨by kernel_rfl, ?_⟩; intro wq hSw; obtain ⟨y0, y1, y2, y3⟩ := hSw; have hx := box_cells y1; go_simp; first | done | with_reducible rfl); (· exact fun _ _ _ h => h); try simp only [Act.put, List.setIfInBounds_toArray, List.set_cons_zero, List.set_cons_succ])
  (refine wpAnyH_take1 4 (oi := ?_) (v := ?_) ?_ (by kernel_rfl) (by kernel_rfl) (by kernel_rfl) (by assumption) ?_ ?_ ?_; rotate_left 2; (· simp only [List.getElem?_toArray, List.getElem?_cons_succ, List.getElem?_cons_zero]; try rfl); (· refine ⟨by kernel_rfl, ?_⟩; intro wq hSw; obtain ⟨y0, y1, y2, y3⟩ := hSw; have hx := box_cells y1; go_simp; first | done | with_reducible rfl); (· exact fun _ _ _ h => h); try simp only [Act.put, List.setIfInBounds_toArray, List.set_cons_zero, List.set_cons_succ])
  (refine wpAnyH_take1 5 (oi := ?_) (v := ?_) ?_ (by kernel_rfl) (by kernel_rfl) (by kernel_rfl) (by assumption) ?_ ?_ ?_; rotate_left 2; (· simp only [List.getElem?_toArray, List.getElem?_cons_succ, List.getElem?_cons_zero]; try rfl); (· refine ⟨by kernel_rfl, ?_⟩; intro wq hSw; obtain ⟨y0, y1, y2, y3⟩ := hSw; have hx := box_cells y1; go_simp; first | done | with_reducible rfl); (· exact fun _ _ _ h => h); try simp only [Act.put, List.setIfInBounds_toArray, List.set_cons_zero, List.set_cons_succ])
  (refine wpAnyH_take1 7 (oi := ?_) (v := ?_) ?_ (by kernel_rfl) (by kernel_rfl) (by kernel_rfl) (by assumption) ?_ ?_ ?_; rotate_left 2; (· simp only [List.getElem?_toArray, List.getElem?_cons_succ, List.getElem?_cons_zero]; try rfl); (· refine ⟨by kernel_rfl, ?_⟩; intro wq hSw; obtain ⟨y0, y1, y2, y3⟩ := hSw; have hx := box_cells y1; go_simp; first | done | with_reducible rfl); (· exact fun _ _ _ h => h); try simp only [Act.put, List.setIfInBounds_toArray, List.set_cons_zero, List.set_cons_succ])
  clear hB h0 h3 h4
  generalize W0.drew = wd at *
  (refine wpAnyH_two (i := 6) (j := 8) (o := ?_) (o' := ?_) (by kernel_rfl) ?_ ?_ (fun K hK => ?_) (fun K hK => ?_); rotate_left 2; (· simp only [List.getElem?_toArray, List.getElem?_cons_succ, List.getElem?_cons_zero]; try rfl); (· simp only [List.getElem?_toArray, List.getElem?_cons_succ, List.getElem?_cons_zero]; try rfl))
  · go_simp
    refine hK.out _ _ ⟨hHeld.1.trans ((below_box _).mono hHeld.1.size), up_alloc hHeld.2.1 _, up_alloc hHeld.2.2.1 _, by obtain ⟨a0, a1, a2, a3, hz⟩ := hHeld.2.2.2; exact ⟨a0, a1, a2, a3, up_alloc hz _⟩⟩ (fun hHeldb => ?_)
    clear hK K
    (try simp only [Act.put, List.setIfInBounds_toArray, List.set_cons_zero, List.set_cons_succ])
    have HBr := Lib.hid (heap_alloc_new wd (.cells #[.int .i64 7, .int .i64 4, .int .i64 1, .int .i64 0, .int .i64 8, .int .i64 4, .int .i64 1, .int .i64 0, .int .i64 9, .int .i64 4, .int .i64 1, .int .i64 0] 82))
    generalize hbb : wd.heap.size = bb at *
    (refine wpAnyH_call1 (i := 8) (o := ?_) (by kernel_rfl) ?_ (fun K hK => ?_); rotate_left 1; (· simp only [List.getElem?_toArray, List.getElem?_cons_succ, List.getElem?_cons_zero]; try rfl); go_simp)
    refine (cnote_any 5 2 8 0 _).mono ?_
    rintro e w8 ⟨rfl, hb⟩
    replace HBr := Lib.hid (blk_keep HBr.out hb)
    go_simp
    refine hK.out _ _ ⟨hHeldb.1.trans (hb.mono hHeldb.1.size), blk_keep hHeldb.2.1 hb, blk_keep hHeldb.2.2.1 hb, by obtain ⟨a0, a1, a2, a3, hz⟩ := hHeldb.2.2.2; exact ⟨a0, a1, a2, a3, blk_keep hz hb⟩⟩ (fun hHeldbc => ?_)
    clear hK K hb
    (try simp only [Act.put, List.setIfInBounds_toArray, List.set_cons_zero, List.set_cons_succ])
    (refine wpAnyH_call1 (i := 9) (o := ?_) (by kernel_rfl) ?_ (fun K hK => ?_); rotate_left 1; (· simp only [List.getElem?_toArray, List.getElem?_cons_succ, List.getElem?_cons_zero]; try rfl); go_simp)
    refine (cnote_any 6 2 8 1 _).mono ?_
    rintro e w9 ⟨rfl, hb⟩
    replace HBr := Lib.hid (blk_keep HBr.out hb)
    go_simp
    refine hK.out _ _ ⟨hHeldbc.1.trans (hb.mono hHeldbc.1.size), blk_keep hHeldbc.2.1 hb, blk_keep hHeldbc.2.2.1 hb, by obtain ⟨a0, a1, a2, a3, hz⟩ := hHeldbc.2.2.2; exact ⟨a0, a1, a2, a3, blk_keep hz hb⟩⟩ (fun hHeldbcc => ?_)
    clear hK K hb
    (try simp only [Act.put, List.setIfInBounds_toArray, List.set_cons_zero, List.set_cons_succ])
    (refine wpAnyH_call1 (i := 10) (o := ?_) (by kernel_rfl) ?_ (fun K hK => ?_); rotate_left 1; (· simp only [List.getElem?_toArray, List.getElem?_cons_succ, List.getElem?_cons_zero]; try rfl); go_simp)
    refine (cnote_any 4 3 8 2 _).mono ?_
    rintro e w10 ⟨rfl, hb⟩
    replace HBr := Lib.hid (blk_keep HBr.out hb)
    go_simp
    refine hK.out _ _ ⟨hHeldbcc.1.trans (hb.mono hHeldbcc.1.size), blk_keep hHeldbcc.2.1 hb, blk_keep hHeldbcc.2.2.1 hb, by obtain ⟨a0, a1, a2, a3, hz⟩ := hHeldbcc.2.2.2; exact ⟨a0, a1, a2, a3, blk_keep hz hb⟩⟩ (fun hHeldbccc => ?_)
    clear hK K hb
    (try simp only [Act.put, List.setIfInBounds_toArray, List.set_cons_zero, List.set_cons_succ])
    (refine wpAnyH_call1 (i := 11) (o := ?_) (by kernel_rfl) ?_ (fun K hK => ?_); rotate_left 1; (· simp only [List.getElem?_toArray, List.getElem?_cons_succ, List.getElem?_cons_zero]; try rfl); go_simp)
    refine (cnote_any 3 1 9 0 _).mono ?_
    rintro e w11 ⟨rfl, hb⟩
    replace HBr := Lib.hid (blk_keep HBr.out hb)
    go_simp
    refine hK.out _ _ ⟨hHeldbccc.1.trans (hb.mono hHeldbccc.1.size), blk_keep hHeldbccc.2.1 hb, blk_keep hHeldbccc.2.2.1 hb, by obtain ⟨a0, a1, a2, a3, hz⟩ := hHeldbccc.2.2.2; exact ⟨a0, a1, a2, a3, blk_keep hz hb⟩⟩ (fun hHeldbcccc => ?_)
    clear hK K hb
    (try simp only [Act.put, List.setIfInBounds_toArray, List.set_cons_zero, List.set_cons_succ])
    (refine wpAnyH_call1 (i := 12) (o := ?_) (by kernel_rfl) ?_ (fun K hK => ?_); rotate_left 1; (· simp only [List.getElem?_toArray, List.getElem?_cons_succ, List.getElem?_cons_zero]; try rfl); go_simp)
    go_simp
    refine hK.out _ _ ⟨hHeldbcccc.1.trans ((below_box _).mono hHeldbcccc.1.size), up_alloc hHeldbcccc.2.1 _, up_alloc hHeldbcccc.2.2.1 _, by obtain ⟨a0, a1, a2, a3, hz⟩ := hHeldbcccc.2.2.2; exact ⟨a0, a1, a2, a3, up_alloc hz _⟩⟩ (fun hHeldbccccn => ?_)
    clear hK K
    (try simp only [Act.put, List.setIfInBounds_toArray, List.set_cons_zero, List.set_cons_succ])
    have hbn := below_box (w := w11) (.cells #[.int .i64 5, .int .i64 2, .int .i64 8, .int .i64 0, .int .i64 0, .int .i64 0, .int .i64 1, .int .i64 1, .int .i64 1, .int .i64 0, .int .i64 0, .int .i64 4, .int .i64 6, .int .i64 2, .int .i64 8, .int .i64 0, .int .i64 0, .int .i64 1, .int .i64 1, .int .i64 1, .int .i64 1, .int .i64 0, .int .i64 0, .int .i64 4, .int .i64 4, .int .i64 3, .int .i64 8, .int .i64 0, .int .i64 0, .int .i64 2, .int .i64 1, .int .i64 1, .int .i64 1, .int .i64 0, .int .i64 0, .int .i64 4, .int .i64 3, .int .i64 1, .int .i64 9, .int .i64 0, .int .i64 0, .int .i64 0, .int .i64 1, .int .i64 1, .int .i64 1, .int .i64 0, .int .i64 0, .int .i64 4] 73)
    dsimp only at hbn
    replace HBr := Lib.hid (blk_keep HBr.out hbn)
    clear hbn
    have HNt := heap_alloc_new w11 (.cells #[.int .i64 5, .int .i64 2, .int .i64 8, .int .i64 0, .int .i64 0, .int .i64 0, .int .i64 1, .int .i64 1, .int .i64 1, .int .i64 0, .int .i64 0, .int .i64 4, .int .i64 6, .int .i64 2, .int .i64 8, .int .i64 0, .int .i64 0, .int .i64 1, .int .i64 1, .int .i64 1, .int .i64 1, .int .i64 0, .int .i64 0, .int .i64 4, .int .i64 4, .int .i64 3, .int .i64 8, .int .i64 0, .int .i64 0, .int .i64 2, .int .i64 1, .int .i64 1, .int .i64 1, .int .i64 0, .int .i64 0, .int .i64 4, .int .i64 3, .int .i64 1, .int .i64 9, .int .i64 0, .int .i64 0, .int .i64 0, .int .i64 1, .int .i64 1, .int .i64 1, .int .i64 0, .int .i64 0, .int .i64 4] 73)
    dsimp only at HNt
    replace HNt := Lib.hid HNt
    generalize hnn : w11.heap.size = nn at *
    (refine wpAnyH_take1 13 (oi := ?_) (v := ?_) ?_ (by kernel_rfl) (by kernel_rfl) (by kernel_rfl) (by assumption) ?_ ?_ ?_; rotate_left 2; (· simp only [List.getElem?_toArray, List.getElem?_cons_succ, List.getElem?_cons_zero]; try rfl); (· refine ⟨by kernel_rfl, ?_⟩; intro wq hSw; skip; go_simp; first | done | with_reducible rfl); (· exact fun _ _ _ h => h); try simp only [Act.put, List.setIfInBounds_toArray, List.set_cons_zero, List.set_cons_succ]); obtain ⟨a0, a1, a2, a3, hz0⟩ := hHeldbccccn.2.2.2; have hcz := box_cells hz0; have hfz := box_free hz0; have hzz := lt_blk hz0; (refine wpAnyH_call1 (i := 14) (o := ?_) (by kernel_rfl) ?_ (fun K hK => ?_); rotate_left 1; (· simp only [List.getElem?_toArray, List.getElem?_cons_succ, List.getElem?_cons_zero]; try rfl); go_simp); refine hK.out _ _ ⟨(((hHeldbccccn.1.setCell (p := ⟨w.heap.size, 0, none⟩) (Nat.le_refl _) _).setCell (p := ⟨w.heap.size, 1, none⟩) (Nat.le_refl _) _).setCell (p := ⟨w.heap.size, 2, none⟩) (Nat.le_refl _) _).setCell (p := ⟨w.heap.size, 3, none⟩) (Nat.le_refl _) _, set4_far hHeldbccccn.2.1 (by omega), set4_far hHeldbccccn.2.2.1 (by omega), _, _, _, _, set4_at hz0⟩ (fun hFin => ?_); clear hK K; refine wpAnyH_done (by kernel_rfl) ?_ _; have hnb : bb ≠ w.heap.size := (fun e => by have h := HBr.out; rw [e, hz0] at h; cases h); have hnn2 : nn ≠ w.heap.size := (fun e => by have h := HNt.out; rw [e, hz0] at h; cases h); have hx9 := set4_at (v0 := .int .i64 1) (v1 := .slice (some ⟨bb, 0, none⟩) 3 3) (v2 := .slice (some ⟨pb, 0, none⟩) 3 3) (v3 := .slice (some ⟨nn, 0, none⟩) 4 4) hz0; have hc9 := box_cells hx9; have hf9 := box_free hx9; go_wp2; exact bodyPost_ret (v := .agg #[.int .i64 1, .slice (some ⟨bb, 0, none⟩) 3 3, .slice (some ⟨pb, 0, none⟩) 3 3, .slice (some ⟨nn, 0, none⟩) 4 4]) (by simp [results, Tryz.results40, go_sem, hc9, hf9]) rfl ⟨⟨some ⟨bb, 0, none⟩, 3, some ⟨pb, 0, none⟩, 3, some ⟨nn, 0, none⟩, 4⟩, rfl, ⟨SlAt.ofBlk (set4_far HBr.out hnb) exb_w rfl, SlAt.ofBlk (set4_far hHeldbccccn.2.2.1 (by omega)) exp_w rfl, SlAt.ofBlk (set4_far HNt.out hnn2) exn_w rfl, ok3 _ _, ok3 _ _, ok3 _ _⟩, hFin.1⟩
  · go_simp
    refine (cnote_any 5 2 8 0 _).mono ?_
    rintro e w8 ⟨rfl, hb⟩
    go_simp
    refine hK.out _ _ ⟨hHeld.1.trans (hb.mono hHeld.1.size), blk_keep hHeld.2.1 hb, blk_keep hHeld.2.2.1 hb, by obtain ⟨a0, a1, a2, a3, hz⟩ := hHeld.2.2.2; exact ⟨a0, a1, a2, a3, blk_keep hz hb⟩⟩ (fun hHeldc => ?_)
    clear hK K hb
    (try simp only [Act.put, List.setIfInBounds_toArray, List.set_cons_zero, List.set_cons_succ])
    (refine wpAnyH_two (i := 6) (j := 9) (o := ?_) (o' := ?_) (by kernel_rfl) ?_ ?_ (fun K hK => ?_) (fun K hK => ?_); rotate_left 2; (· simp only [List.getElem?_toArray, List.getElem?_cons_succ, List.getElem?_cons_zero]; try rfl); (· simp only [List.getElem?_toArray, List.getElem?_cons_succ, List.getElem?_cons_zero]; try rfl))
    · go_simp
      refine hK.out _ _ ⟨hHeldc.1.trans ((below_box _).mono hHeldc.1.size), up_alloc hHeldc.2.1 _, up_alloc hHeldc.2.2.1 _, by obtain ⟨a0, a1, a2, a3, hz⟩ := hHeldc.2.2.2; exact ⟨a0, a1, a2, a3, up_alloc hz _⟩⟩ (fun hHeldcb => ?_)
      clear hK K
      (try simp only [Act.put, List.setIfInBounds_toArray, List.set_cons_zero, List.set_cons_succ])
      have HBr := Lib.hid (heap_alloc_new w8 (.cells #[.int .i64 7, .int .i64 4, .int .i64 1, .int .i64 0, .int .i64 8, .int .i64 4, .int .i64 1, .int .i64 0, .int .i64 9, .int .i64 4, .int .i64 1, .int .i64 0] 82))
      generalize hbb : w8.heap.size = bb at *
      (refine wpAnyH_call1 (i := 9) (o := ?_) (by kernel_rfl) ?_ (fun K hK => ?_); rotate_left 1; (· simp only [List.getElem?_toArray, List.getElem?_cons_succ, List.getElem?_cons_zero]; try rfl); go_simp)
      refine (cnote_any 6 2 8 1 _).mono ?_
      rintro e w9 ⟨rfl, hb⟩
      replace HBr := Lib.hid (blk_keep HBr.out hb)
      go_simp
      refine hK.out _ _ ⟨hHeldcb.1.trans (hb.mono hHeldcb.1.size), blk_keep hHeldcb.2.1 hb, blk_keep hHeldcb.2.2.1 hb, by obtain ⟨a0, a1, a2, a3, hz⟩ := hHeldcb.2.2.2; exact ⟨a0, a1, a2, a3, blk_keep hz hb⟩⟩ (fun hHeldcbc => ?_)
      clear hK K hb
      (try simp only [Act.put, List.setIfInBounds_toArray, List.set_cons_zero, List.set_cons_succ])
      (refine wpAnyH_call1 (i := 10) (o := ?_) (by kernel_rfl) ?_ (fun K hK => ?_); rotate_left 1; (· simp only [List.getElem?_toArray, List.getElem?_cons_succ, List.getElem?_cons_zero]; try rfl); go_simp)
      refine (cnote_any 4 3 8 2 _).mono ?_
      rintro e w10 ⟨rfl, hb⟩
      replace HBr := Lib.hid (blk_keep HBr.out hb)
      go_simp
      refine hK.out _ _ ⟨hHeldcbc.1.trans (hb.mono hHeldcbc.1.size), blk_keep hHeldcbc.2.1 hb, blk_keep hHeldcbc.2.2.1 hb, by obtain ⟨a0, a1, a2, a3, hz⟩ := hHeldcbc.2.2.2; exact ⟨a0, a1, a2, a3, blk_keep hz hb⟩⟩ (fun hHeldcbcc => ?_)
      clear hK K hb
      (try simp only [Act.put, List.setIfInBounds_toArray, List.set_cons_zero, List.set_cons_succ])
      (refine wpAnyH_call1 (i := 11) (o := ?_) (by kernel_rfl) ?_ (fun K hK => ?_); rotate_left 1; (· simp only [List.getElem?_toArray, List.getElem?_cons_succ, List.getElem?_cons_zero]; try rfl); go_simp)
      refine (cnote_any 3 1 9 0 _).mono ?_
      rintro e w11 ⟨rfl, hb⟩
      replace HBr := Lib.hid (blk_keep HBr.out hb)
      go_simp
      refine hK.out _ _ ⟨hHeldcbcc.1.trans (hb.mono hHeldcbcc.1.size), blk_keep hHeldcbcc.2.1 hb, blk_keep hHeldcbcc.2.2.1 hb, by obtain ⟨a0, a1, a2, a3, hz⟩ := hHeldcbcc.2.2.2; exact ⟨a0, a1, a2, a3, blk_keep hz hb⟩⟩ (fun hHeldcbccc => ?_)
      clear hK K hb
      (try simp only [Act.put, List.setIfInBounds_toArray, List.set_cons_zero, List.set_cons_succ])
      (refine wpAnyH_call1 (i := 12) (o := ?_) (by kernel_rfl) ?_ (fun K hK => ?_); rotate_left 1; (· simp only [List.getElem?_toArray, List.getElem?_cons_succ, List.getElem?_cons_zero]; try rfl); go_simp)
      go_simp
      refine hK.out _ _ ⟨hHeldcbccc.1.trans ((below_box _).mono hHeldcbccc.1.size), up_alloc hHeldcbccc.2.1 _, up_alloc hHeldcbccc.2.2.1 _, by obtain ⟨a0, a1, a2, a3, hz⟩ := hHeldcbccc.2.2.2; exact ⟨a0, a1, a2, a3, up_alloc hz _⟩⟩ (fun hHeldcbcccn => ?_)
      clear hK K
      (try simp only [Act.put, List.setIfInBounds_toArray, List.set_cons_zero, List.set_cons_succ])
      have hbn := below_box (w := w11) (.cells #[.int .i64 5, .int .i64 2, .int .i64 8, .int .i64 0, .int .i64 0, .int .i64 0, .int .i64 1, .int .i64 1, .int .i64 1, .int .i64 0, .int .i64 0, .int .i64 4, .int .i64 6, .int .i64 2, .int .i64 8, .int .i64 0, .int .i64 0, .int .i64 1, .int .i64 1, .int .i64 1, .int .i64 1, .int .i64 0, .int .i64 0, .int .i64 4, .int .i64 4, .int .i64 3, .int .i64 8, .int .i64 0, .int .i64 0, .int .i64 2, .int .i64 1, .int .i64 1, .int .i64 1, .int .i64 0, .int .i64 0, .int .i64 4, .int .i64 3, .int .i64 1, .int .i64 9, .int .i64 0, .int .i64 0, .int .i64 0, .int .i64 1, .int .i64 1, .int .i64 1, .int .i64 0, .int .i64 0, .int .i64 4] 73)
      dsimp only at hbn
      replace HBr := Lib.hid (blk_keep HBr.out hbn)
      clear hbn
      have HNt := heap_alloc_new w11 (.cells #[.int .i64 5, .int .i64 2, .int .i64 8, .int .i64 0, .int .i64 0, .int .i64 0, .int .i64 1, .int .i64 1, .int .i64 1, .int .i64 0, .int .i64 0, .int .i64 4, .int .i64 6, .int .i64 2, .int .i64 8, .int .i64 0, .int .i64 0, .int .i64 1, .int .i64 1, .int .i64 1, .int .i64 1, .int .i64 0, .int .i64 0, .int .i64 4, .int .i64 4, .int .i64 3, .int .i64 8, .int .i64 0, .int .i64 0, .int .i64 2, .int .i64 1, .int .i64 1, .int .i64 1, .int .i64 0, .int .i64 0, .int .i64 4, .int .i64 3, .int .i64 1, .int .i64 9, .int .i64 0, .int .i64 0, .int .i64 0, .int .i64 1, .int .i64 1, .int .i64 1, .int .i64 0, .int .i64 0, .int .i64 4] 73)
      dsimp only at HNt
      replace HNt := Lib.hid HNt
      generalize hnn : w11.heap.size = nn at *
      (refine wpAnyH_take1 13 (oi := ?_) (v := ?_) ?_ (by kernel_rfl) (by kernel_rfl) (by kernel_rfl) (by assumption) ?_ ?_ ?_; rotate_left 2; (· simp only [List.getElem?_toArray, List.getElem?_cons_succ, List.getElem?_cons_zero]; try rfl); (· refine ⟨by kernel_rfl, ?_⟩; intro wq hSw; skip; go_simp; first | done | with_reducible rfl); (· exact fun _ _ _ h => h); try simp only [Act.put, List.setIfInBounds_toArray, List.set_cons_zero, List.set_cons_succ]); obtain ⟨a0, a1, a2, a3, hz0⟩ := hHeldcbcccn.2.2.2; have hcz := box_cells hz0; have hfz := box_free hz0; have hzz := lt_blk hz0; (refine wpAnyH_call1 (i := 14) (o := ?_) (by kernel_rfl) ?_ (fun K hK => ?_); rotate_left 1; (· simp only [List.getElem?_toArray, List.getElem?_cons_succ, List.getElem?_cons_zero]; try rfl); go_simp); refine hK.out _ _ ⟨(((hHeldcbcccn.1.setCell (p := ⟨w.heap.size, 0, none⟩) (Nat.le_refl _) _).setCell (p := ⟨w.heap.size, 1, none⟩) (Nat.le_refl _) _).setCell (p := ⟨w.heap.size, 2, none⟩) (Nat.le_refl _) _).setCell (p := ⟨w.heap.size, 3, none⟩) (Nat.le_refl _) _, set4_far hHeldcbcccn.2.1 (by omega), set4_far hHeldcbcccn.2.2.1 (by omega), _, _, _, _, set4_at hz0⟩ (fun hFin => ?_); clear hK K; refine wpAnyH_done (by kernel_rfl) ?_ _; have hnb : bb ≠ w.heap.size := (fun e => by have h := HBr.out; rw [e, hz0] at h; cases h); have hnn2 : nn ≠ w.heap.size := (fun e => by have h := HNt.out; rw [e, hz0] at h; cases h); have hx9 := set4_at (v0 := .int .i64 1) (v1 := .slice (some ⟨bb, 0, none⟩) 3 3) (v2 := .slice (some ⟨pb, 0, none⟩) 3 3) (v3 := .slice (some ⟨nn, 0, none⟩) 4 4) hz0; have hc9 := box_cells hx9; have hf9 := box_free hx9; go_wp2; exact bodyPost_ret (v := .agg #[.int .i64 1, .slice (some ⟨bb, 0, none⟩) 3 3, .slice (some ⟨pb, 0, none⟩) 3 3, .slice (some ⟨nn, 0, none⟩) 4 4]) (by simp [results, Tryz.results40, go_sem, hc9, hf9]) rfl ⟨⟨some ⟨bb, 0, none⟩, 3, some ⟨pb, 0, none⟩, 3, some ⟨nn, 0, none⟩, 4⟩, rfl, ⟨SlAt.ofBlk (set4_far HBr.out hnb) exb_w rfl, SlAt.ofBlk (set4_far hHeldcbcccn.2.2.1 (by omega)) exp_w rfl, SlAt.ofBlk (set4_far HNt.out hnn2) exn_w rfl, ok3 _ _, ok3 _ _, ok3 _ _⟩, hFin.1⟩
    · go_simp
      refine (cnote_any 6 2 8 1 _).mono ?_
      rintro e w9 ⟨rfl, hb⟩
      go_simp
      refine hK.out _ _ ⟨hHeldc.1.trans (hb.mono hHeldc.1.size), blk_keep hHeldc.2.1 hb, blk_keep hHeldc.2.2.1 hb, by obtain ⟨a0, a1, a2, a3, hz⟩ := hHeldc.2.2.2; exact ⟨a0, a1, a2, a3, blk_keep hz hb⟩⟩ (fun hHeldcc => ?_)
      clear hK K hb
      (try simp only [Act.put, List.setIfInBounds_toArray, List.set_cons_zero, List.set_cons_succ])
      (refine wpAnyH_two (i := 6) (j := 10) (o := ?_) (o' := ?_) (by kernel_rfl) ?_ ?_ (fun K hK => ?_) (fun K hK => ?_); rotate_left 2; (· simp only [List.getElem?_toArray, List.getElem?_cons_succ, List.getElem?_cons_zero]; try rfl); (· simp only [List.getElem?_toArray, List.getElem?_cons_succ, List.getElem?_cons_zero]; try rfl))
      · go_simp
        refine hK.out _ _ ⟨hHeldcc.1.trans ((below_box _).mono hHeldcc.1.size), up_alloc hHeldcc.2.1 _, up_alloc hHeldcc.2.2.1 _, by obtain ⟨a0, a1, a2, a3, hz⟩ := hHeldcc.2.2.2; exact ⟨a0, a1, a2, a3, up_alloc hz _⟩⟩ (fun hHeldccb => ?_)
        clear hK K
        (try simp only [Act.put, List.setIfInBounds_toArray, List.set_cons_zero, List.set_cons_succ])
        have HBr := Lib.hid (heap_alloc_new w9 (.cells #[.int .i64 7, .int .i64 4, .int .i64 1, .int .i64 0, .int .i64 8, .int .i64 4, .int .i64 1, .int .i64 0, .int .i64 9, .int .i64 4, .int .i64 1, .int .i64 0] 82))
        generalize hbb : w9.heap.size = bb at *
        (refine wpAnyH_call1 (i := 10) (o := ?_) (by kernel_rfl) ?_ (fun K hK => ?_); rotate_left 1; (· simp only [List.getElem?_toArray, List.getElem?_cons_succ, List.getElem?_cons_zero]; try rfl); go_simp)
        refine (cnote_any 4 3 8 2 _).mono ?_
        rintro e w10 ⟨rfl, hb⟩
        replace HBr := Lib.hid (blk_keep HBr.out hb)
        go_simp
        refine hK.out _ _ ⟨hHeldccb.1.trans (hb.mono hHeldccb.1.size), blk_keep hHeldccb.2.1 hb, blk_keep hHeldccb.2.2.1 hb, by obtain ⟨a0, a1, a2, a3, hz⟩ := hHeldccb.2.2.2; exact ⟨a0, a1, a2, a3, blk_keep hz hb⟩⟩ (fun hHeldccbc => ?_)
        clear hK K hb
        (try simp only [Act.put, List.setIfInBounds_toArray, List.set_cons_zero, List.set_cons_succ])
        (refine wpAnyH_call1 (i := 11) (o := ?_) (by kernel_rfl) ?_ (fun K hK => ?_); rotate_left 1; (· simp only [List.getElem?_toArray, List.getElem?_cons_succ, List.getElem?_cons_zero]; try rfl); go_simp)
        refine (cnote_any 3 1 9 0 _).mono ?_
        rintro e w11 ⟨rfl, hb⟩
        replace HBr := Lib.hid (blk_keep HBr.out hb)
        go_simp
        refine hK.out _ _ ⟨hHeldccbc.1.trans (hb.mono hHeldccbc.1.size), blk_keep hHeldccbc.2.1 hb, blk_keep hHeldccbc.2.2.1 hb, by obtain ⟨a0, a1, a2, a3, hz⟩ := hHeldccbc.2.2.2; exact ⟨a0, a1, a2, a3, blk_keep hz hb⟩⟩ (fun hHeldccbcc => ?_)
        clear hK K hb
        (try simp only [Act.put, List.setIfInBounds_toArray, List.set_cons_zero, List.set_cons_succ])
        (refine wpAnyH_call1 (i := 12) (o := ?_) (by kernel_rfl) ?_ (fun K hK => ?_); rotate_left 1; (· simp only [List.getElem?_toArray, List.getElem?_cons_succ, List.getElem?_cons_zero]; try rfl); go_simp)
        go_simp
        refine hK.out _ _ ⟨hHeldccbcc.1.trans ((below_box _).mono hHeldccbcc.1.size), up_alloc hHeldccbcc.2.1 _, up_alloc hHeldccbcc.2.2.1 _, by obtain ⟨a0, a1, a2, a3, hz⟩ := hHeldccbcc.2.2.2; exact ⟨a0, a1, a2, a3, up_alloc hz _⟩⟩ (fun hHeldccbccn => ?_)
        clear hK K
        (try simp only [Act.put, List.setIfInBounds_toArray, List.set_cons_zero, List.set_cons_succ])
        have hbn := below_box (w := w11) (.cells #[.int .i64 5, .int .i64 2, .int .i64 8, .int .i64 0, .int .i64 0, .int .i64 0, .int .i64 1, .int .i64 1, .int .i64 1, .int .i64 0, .int .i64 0, .int .i64 4, .int .i64 6, .int .i64 2, .int .i64 8, .int .i64 0, .int .i64 0, .int .i64 1, .int .i64 1, .int .i64 1, .int .i64 1, .int .i64 0, .int .i64 0, .int .i64 4, .int .i64 4, .int .i64 3, .int .i64 8, .int .i64 0, .int .i64 0, .int .i64 2, .int .i64 1, .int .i64 1, .int .i64 1, .int .i64 0, .int .i64 0, .int .i64 4, .int .i64 3, .int .i64 1, .int .i64 9, .int .i64 0, .int .i64 0, .int .i64 0, .int .i64 1, .int .i64 1, .int .i64 1, .int .i64 0, .int .i64 0, .int .i64 4] 73)
        dsimp only at hbn
        replace HBr := Lib.hid (blk_keep HBr.out hbn)
        clear hbn
        have HNt := heap_alloc_new w11 (.cells #[.int .i64 5, .int .i64 2, .int .i64 8, .int .i64 0, .int .i64 0, .int .i64 0, .int .i64 1, .int .i64 1, .int .i64 1, .int .i64 0, .int .i64 0, .int .i64 4, .int .i64 6, .int .i64 2, .int .i64 8, .int .i64 0, .int .i64 0, .int .i64 1, .int .i64 1, .int .i64 1, .int .i64 1, .int .i64 0, .int .i64 0, .int .i64 4, .int .i64 4, .int .i64 3, .int .i64 8, .int .i64 0, .int .i64 0, .int .i64 2, .int .i64 1, .int .i64 1, .int .i64 1, .int .i64 0, .int .i64 0, .int .i64 4, .int .i64 3, .int .i64 1, .int .i64 9, .int .i64 0, .int .i64 0, .int .i64 0, .int .i64 1, .int .i64 1, .int .i64 1, .int .i64 0, .int .i64 0, .int .i64 4] 73)
        dsimp only at HNt
        replace HNt := Lib.hid HNt
        generalize hnn : w11.heap.size = nn at *
        (refine wpAnyH_take1 13 (oi := ?_) (v := ?_) ?_ (by kernel_rfl) (by kernel_rfl) (by kernel_rfl) (by assumption) ?_ ?_ ?_; rotate_left 2; (· simp only [List.getElem?_toArray, List.getElem?_cons_succ, List.getElem?_cons_zero]; try rfl); (· refine ⟨by kernel_rfl, ?_⟩; intro wq hSw; skip; go_simp; first | done | with_reducible rfl); (· exact fun _ _ _ h => h); try simp only [Act.put, List.setIfInBounds_toArray, List.set_cons_zero, List.set_cons_succ]); obtain ⟨a0, a1, a2, a3, hz0⟩ := hHeldccbccn.2.2.2; have hcz := box_cells hz0; have hfz := box_free hz0; have hzz := lt_blk hz0; (refine wpAnyH_call1 (i := 14) (o := ?_) (by kernel_rfl) ?_ (fun K hK => ?_); rotate_left 1; (· simp only [List.getElem?_toArray, List.getElem?_cons_succ, List.getElem?_cons_zero]; try rfl); go_simp); refine hK.out _ _ ⟨(((hHeldccbccn.1.setCell (p := ⟨w.heap.size, 0, none⟩) (Nat.le_refl _) _).setCell (p := ⟨w.heap.size, 1, none⟩) (Nat.le_refl _) _).setCell (p := ⟨w.heap.size, 2, none⟩) (Nat.le_refl _) _).setCell (p := ⟨w.heap.size, 3, none⟩) (Nat.le_refl _) _, set4_far hHeldccbccn.2.1 (by omega), set4_far hHeldccbccn.2.2.1 (by omega), _, _, _, _, set4_at hz0⟩ (fun hFin => ?_); clear hK K; refine wpAnyH_done (by kernel_rfl) ?_ _; have hnb : bb ≠ w.heap.size := (fun e => by have h := HBr.out; rw [e, hz0] at h; cases h); have hnn2 : nn ≠ w.heap.size := (fun e => by have h := HNt.out; rw [e, hz0] at h; cases h); have hx9 := set4_at (v0 := .int .i64 1) (v1 := .slice (some ⟨bb, 0, none⟩) 3 3) (v2 := .slice (some ⟨pb, 0, none⟩) 3 3) (v3 := .slice (some ⟨nn, 0, none⟩) 4 4) hz0; have hc9 := box_cells hx9; have hf9 := box_free hx9; go_wp2; exact bodyPost_ret (v := .agg #[.int .i64 1, .slice (some ⟨bb, 0, none⟩) 3 3, .slice (some ⟨pb, 0, none⟩) 3 3, .slice (some ⟨nn, 0, none⟩) 4 4]) (by simp [results, Tryz.results40, go_sem, hc9, hf9]) rfl ⟨⟨some ⟨bb, 0, none⟩, 3, some ⟨pb, 0, none⟩, 3, some ⟨nn, 0, none⟩, 4⟩, rfl, ⟨SlAt.ofBlk (set4_far HBr.out hnb) exb_w rfl, SlAt.ofBlk (set4_far hHeldccbccn.2.2.1 (by omega)) exp_w rfl, SlAt.ofBlk (set4_far HNt.out hnn2) exn_w rfl, ok3 _ _, ok3 _ _, ok3 _ _⟩, hFin.1⟩
      · go_simp
        refine (cnote_any 4 3 8 2 _).mono ?_
        rintro e w10 ⟨rfl, hb⟩
        go_simp
        refine hK.out _ _ ⟨hHeldcc.1.trans (hb.mono hHeldcc.1.size), blk_keep hHeldcc.2.1 hb, blk_keep hHeldcc.2.2.1 hb, by obtain ⟨a0, a1, a2, a3, hz⟩ := hHeldcc.2.2.2; exact ⟨a0, a1, a2, a3, blk_keep hz hb⟩⟩ (fun hHeldccc => ?_)
        clear hK K hb
        (try simp only [Act.put, List.setIfInBounds_toArray, List.set_cons_zero, List.set_cons_succ])
        (refine wpAnyH_two (i := 6) (j := 11) (o := ?_) (o' := ?_) (by kernel_rfl) ?_ ?_ (fun K hK => ?_) (fun K hK => ?_); rotate_left 2; (· simp only [List.getElem?_toArray, List.getElem?_cons_succ, List.getElem?_cons_zero]; try rfl); (· simp only [List.getElem?_toArray, List.getElem?_cons_succ, List.getElem?_cons_zero]; try rfl))
        · go_simp
          refine hK.out _ _ ⟨hHeldccc.1.trans ((below_box _).mono hHeldccc.1.size), up_alloc hHeldccc.2.1 _, up_alloc hHeldccc.2.2.1 _, by obtain ⟨a0, a1, a2, a3, hz⟩ := hHeldccc.2.2.2; exact ⟨a0, a1, a2, a3, up_alloc hz _⟩⟩ (fun hHeldcccb => ?_)
          clear hK K
          (try simp only [Act.put, List.setIfInBounds_toArray, List.set_cons_zero, List.set_cons_succ])
          have HBr := Lib.hid (heap_alloc_new w10 (.cells #[.int .i64 7, .int .i64 4, .int .i64 1, .int .i64 0, .int .i64 8, .int .i64 4, .int .i64 1, .int .i64 0, .int .i64 9, .int .i64 4, .int .i64 1, .int .i64 0] 82))
          generalize hbb : w10.heap.size = bb at *
          (refine wpAnyH_call1 (i := 11) (o := ?_) (by kernel_rfl) ?_ (fun K hK => ?_); rotate_left 1; (· simp only [List.getElem?_toArray, List.getElem?_cons_succ, List.getElem?_cons_zero]; try rfl); go_simp)
          refine (cnote_any 3 1 9 0 _).mono ?_
          rintro e w11 ⟨rfl, hb⟩
          replace HBr := Lib.hid (blk_keep HBr.out hb)
          go_simp
          refine hK.out _ _ ⟨hHeldcccb.1.trans (hb.mono hHeldcccb.1.size), blk_keep hHeldcccb.2.1 hb, blk_keep hHeldcccb.2.2.1 hb, by obtain ⟨a0, a1, a2, a3, hz⟩ := hHeldcccb.2.2.2; exact ⟨a0, a1, a2, a3, blk_keep hz hb⟩⟩ (fun hHeldcccbc => ?_)
          clear hK K hb
          (try simp only [Act.put, List.setIfInBounds_toArray, List.set_cons_zero, List.set_cons_succ])
          (refine wpAnyH_call1 (i := 12) (o := ?_) (by kernel_rfl) ?_ (fun K hK => ?_); rotate_left 1; (· simp only [List.getElem?_toArray, List.getElem?_cons_succ, List.getElem?_cons_zero]; try rfl); go_simp)
          go_simp
          refine hK.out _ _ ⟨hHeldcccbc.1.trans ((below_box _).mono hHeldcccbc.1.size), up_alloc hHeldcccbc.2.1 _, up_alloc hHeldcccbc.2.2.1 _, by obtain ⟨a0, a1, a2, a3, hz⟩ := hHeldcccbc.2.2.2; exact ⟨a0, a1, a2, a3, up_alloc hz _⟩⟩ (fun hHeldcccbcn => ?_)
          clear hK K
          (try simp only [Act.put, List.setIfInBounds_toArray, List.set_cons_zero, List.set_cons_succ])
          have hbn := below_box (w := w11) (.cells #[.int .i64 5, .int .i64 2, .int .i64 8, .int .i64 0, .int .i64 0, .int .i64 0, .int .i64 1, .int .i64 1, .int .i64 1, .int .i64 0, .int .i64 0, .int .i64 4, .int .i64 6, .int .i64 2, .int .i64 8, .int .i64 0, .int .i64 0, .int .i64 1, .int .i64 1, .int .i64 1, .int .i64 1, .int .i64 0, .int .i64 0, .int .i64 4, .int .i64 4, .int .i64 3, .int .i64 8, .int .i64 0, .int .i64 0, .int .i64 2, .int .i64 1, .int .i64 1, .int .i64 1, .int .i64 0, .int .i64 0, .int .i64 4, .int .i64 3, .int .i64 1, .int .i64 9, .int .i64 0, .int .i64 0, .int .i64 0, .int .i64 1, .int .i64 1, .int .i64 1, .int .i64 0, .int .i64 0, .int .i64 4] 73)
          dsimp only at hbn
          replace HBr := Lib.hid (blk_keep HBr.out hbn)
          clear hbn
          have HNt := heap_alloc_new w11 (.cells #[.int .i64 5, .int .i64 2, .int .i64 8, .int .i64 0, .int .i64 0, .int .i64 0, .int .i64 1, .int .i64 1, .int .i64 1, .int .i64 0, .int .i64 0, .int .i64 4, .int .i64 6, .int .i64 2, .int .i64 8, .int .i64 0, .int .i64 0, .int .i64 1, .int .i64 1, .int .i64 1, .int .i64 1, .int .i64 0, .int .i64 0, .int .i64 4, .int .i64 4, .int .i64 3, .int .i64 8, .int .i64 0, .int .i64 0, .int .i64 2, .int .i64 1, .int .i64 1, .int .i64 1, .int .i64 0, .int .i64 0, .int .i64 4, .int .i64 3, .int .i64 1, .int .i64 9, .int .i64 0, .int .i64 0, .int .i64 0, .int .i64 1, .int .i64 1, .int .i64 1, .int .i64 0, .int .i64 0, .int .i64 4] 73)
          dsimp only at HNt
          replace HNt := Lib.hid HNt
          generalize hnn : w11.heap.size = nn at *
          (refine wpAnyH_take1 13 (oi := ?_) (v := ?_) ?_ (by kernel_rfl) (by kernel_rfl) (by kernel_rfl) (by assumption) ?_ ?_ ?_; rotate_left 2; (· simp only [List.getElem?_toArray, List.getElem?_cons_succ, List.getElem?_cons_zero]; try rfl); (· refine ⟨by kernel_rfl, ?_⟩; intro wq hSw; skip; go_simp; first | done | with_reducible rfl); (· exact fun _ _ _ h => h); try simp only [Act.put, List.setIfInBounds_toArray, List.set_cons_zero, List.set_cons_succ]); obtain ⟨a0, a1, a2, a3, hz0⟩ := hHeldcccbcn.2.2.2; have hcz := box_cells hz0; have hfz := box_free hz0; have hzz := lt_blk hz0; (refine wpAnyH_call1 (i := 14) (o := ?_) (by kernel_rfl) ?_ (fun K hK => ?_); rotate_left 1; (· simp only [List.getElem?_toArray, List.getElem?_cons_succ, List.getElem?_cons_zero]; try rfl); go_simp); refine hK.out _ _ ⟨(((hHeldcccbcn.1.setCell (p := ⟨w.heap.size, 0, none⟩) (Nat.le_refl _) _).setCell (p := ⟨w.heap.size, 1, none⟩) (Nat.le_refl _) _).setCell (p := ⟨w.heap.size, 2, none⟩) (Nat.le_refl _) _).setCell (p := ⟨w.heap.size, 3, none⟩) (Nat.le_refl _) _, set4_far hHeldcccbcn.2.1 (by omega), set4_far hHeldcccbcn.2.2.1 (by omega), _, _, _, _, set4_at hz0⟩ (fun hFin => ?_); clear hK K; refine wpAnyH_done (by kernel_rfl) ?_ _; have hnb : bb ≠ w.heap.size := (fun e => by have h := HBr.out; rw [e, hz0] at h; cases h); have hnn2 : nn ≠ w.heap.size := (fun e => by have h := HNt.out; rw [e, hz0] at h; cases h); have hx9 := set4_at (v0 := .int .i64 1) (v1 := .slice (some ⟨bb, 0, none⟩) 3 3) (v2 := .slice (some ⟨pb, 0, none⟩) 3 3) (v3 := .slice (some ⟨nn, 0, none⟩) 4 4) hz0; have hc9 := box_cells hx9; have hf9 := box_free hx9; go_wp2; exact bodyPost_ret (v := .agg #[.int .i64 1, .slice (some ⟨bb, 0, none⟩) 3 3, .slice (some ⟨pb, 0, none⟩) 3 3, .slice (some ⟨nn, 0, none⟩) 4 4]) (by simp [results, Tryz.results40, go_sem, hc9, hf9]) rfl ⟨⟨some ⟨bb, 0, none⟩, 3, some ⟨pb, 0, none⟩, 3, some ⟨nn, 0, none⟩, 4⟩, rfl, ⟨SlAt.ofBlk (set4_far HBr.out hnb) exb_w rfl, SlAt.ofBlk (set4_far hHeldcccbcn.2.2.1 (by omega)) exp_w rfl, SlAt.ofBlk (set4_far HNt.out hnn2) exn_w rfl, ok3 _ _, ok3 _ _, ok3 _ _⟩, hFin.1⟩
        · go_simp
          refine (cnote_any 3 1 9 0 _).mono ?_
          rintro e w11 ⟨rfl, hb⟩
          go_simp
          refine hK.out _ _ ⟨hHeldccc.1.trans (hb.mono hHeldccc.1.size), blk_keep hHeldccc.2.1 hb, blk_keep hHeldccc.2.2.1 hb, by obtain ⟨a0, a1, a2, a3, hz⟩ := hHeldccc.2.2.2; exact ⟨a0, a1, a2, a3, blk_keep hz hb⟩⟩ (fun hHeldcccc => ?_)
          clear hK K hb
          (try simp only [Act.put, List.setIfInBounds_toArray, List.set_cons_zero, List.set_cons_succ])
          (refine wpAnyH_two (i := 6) (j := 12) (o := ?_) (o' := ?_) (by kernel_rfl) ?_ ?_ (fun K hK => ?_) (fun K hK => ?_); rotate_left 2; (· simp only [List.getElem?_toArray, List.getElem?_cons_succ, List.getElem?_cons_zero]; try rfl); (· simp only [List.getElem?_toArray, List.getElem?_cons_succ, List.getElem?_cons_zero]; try rfl))
          · go_simp
            refine hK.out _ _ ⟨hHeldcccc.1.trans ((below_box _).mono hHeldcccc.1.size), up_alloc hHeldcccc.2.1 _, up_alloc hHeldcccc.2.2.1 _, by obtain ⟨a0, a1, a2, a3, hz⟩ := hHeldcccc.2.2.2; exact ⟨a0, a1, a2, a3, up_alloc hz _⟩⟩ (fun hHeldccccb => ?_)
            clear hK K
            (try simp only [Act.put, List.setIfInBounds_toArray, List.set_cons_zero, List.set_cons_succ])
            have HBr := Lib.hid (heap_alloc_new w11 (.cells #[.int .i64 7, .int .i64 4, .int .i64 1, .int .i64 0, .int .i64 8, .int .i64 4, .int .i64 1, .int .i64 0, .int .i64 9, .int .i64 4, .int .i64 1, .int .i64 0] 82))
            generalize hbb : w11.heap.size = bb at *
            (refine wpAnyH_call1 (i := 12) (o := ?_) (by kernel_rfl) ?_ (fun K hK => ?_); rotate_left 1; (· simp only [List.getElem?_toArray, List.getElem?_cons_succ, List.getElem?_cons_zero]; try rfl); go_simp)
            go_simp
            refine hK.out _ _ ⟨hHeldccccb.1.trans ((below_box _).mono hHeldccccb.1.size), up_alloc hHeldccccb.2.1 _, up_alloc hHeldccccb.2.2.1 _, by obtain ⟨a0, a1, a2, a3, hz⟩ := hHeldccccb.2.2.2; exact ⟨a0, a1, a2, a3, up_alloc hz _⟩⟩ (fun hHeldccccbn => ?_)
            clear hK K
            (try simp only [Act.put, List.setIfInBounds_toArray, List.set_cons_zero, List.set_cons_succ])
            have hbn := below_box (w := (w11.alloc (.cells #[.int .i64 7, .int .i64 4, .int .i64 1, .int .i64 0, .int .i64 8, .int .i64 4, .int .i64 1, .int .i64 0, .int .i64 9, .int .i64 4, .int .i64 1, .int .i64 0] 82))) (.cells #[.int .i64 5, .int .i64 2, .int .i64 8, .int .i64 0, .int .i64 0, .int .i64 0, .int .i64 1, .int .i64 1, .int .i64 1, .int .i64 0, .int .i64 0, .int .i64 4, .int .i64 6, .int .i64 2, .int .i64 8, .int .i64 0, .int .i64 0, .int .i64 1, .int .i64 1, .int .i64 1, .int .i64 1, .int .i64 0, .int .i64 0, .int .i64 4, .int .i64 4, .int .i64 3, .int .i64 8, .int .i64 0, .int .i64 0, .int .i64 2, .int .i64 1, .int .i64 1, .int .i64 1, .int .i64 0, .int .i64 0, .int .i64 4, .int .i64 3, .int .i64 1, .int .i64 9, .int .i64 0, .int .i64 0, .int .i64 0, .int .i64 1, .int .i64 1, .int .i64 1, .int .i64 0, .int .i64 0, .int .i64 4] 73)
            dsimp only at hbn
            replace HBr := Lib.hid (blk_keep HBr.out hbn)
            clear hbn
            have HNt := heap_alloc_new (w11.alloc (.cells #[.int .i64 7, .int .i64 4, .int .i64 1, .int .i64 0, .int .i64 8, .int .i64 4, .int .i64 1, .int .i64 0, .int .i64 9, .int .i64 4, .int .i64 1, .int .i64 0] 82)) (.cells #[.int .i64 5, .int .i64 2, .int .i64 8, .int .i64 0, .int .i64 0, .int .i64 0, .int .i64 1, .int .i64 1, .int .i64 1, .int .i64 0, .int .i64 0, .int .i64 4, .int .i64 6, .int .i64 2, .int .i64 8, .int .i64 0, .int .i64 0, .int .i64 1, .int .i64 1, .int .i64 1, .int .i64 1, .int .i64 0, .int .i64 0, .int .i64 4, .int .i64 4, .int .i64 3, .int .i64 8, .int .i64 0, .int .i64 0, .int .i64 2, .int .i64 1, .int .i64 1, .int .i64 1, .int .i64 0, .int .i64 0, .int .i64 4, .int .i64 3, .int .i64 1, .int .i64 9, .int .i64 0, .int .i64 0, .int .i64 0, .int .i64 1, .int .i64 1, .int .i64 1, .int .i64 0, .int .i64 0, .int .i64 4] 73)
            dsimp only at HNt
            rw [World.size_alloc, hbb] at HNt
            replace HNt := Lib.hid HNt
            generalize hnn : bb + 1 = nn at *
            generalize (w11.alloc _).alloc _ = Wn at *
            (refine wpAnyH_take1 13 (oi := ?_) (v := ?_) ?_ (by kernel_rfl) (by kernel_rfl) (by kernel_rfl) (by assumption) ?_ ?_ ?_; rotate_left 2; (· simp only [List.getElem?_toArray, List.getElem?_cons_succ, List.getElem?_cons_zero]; try rfl); (· refine ⟨by kernel_rfl, ?_⟩; intro wq hSw; skip; go_simp; first | done | with_reducible rfl); (· exact fun _ _ _ h => h); try simp only [Act.put, List.setIfInBounds_toArray, List.set_cons_zero, List.set_cons_succ]); obtain ⟨a0, a1, a2, a3, hz0⟩ := hHeldccccbn.2.2.2; have hcz := box_cells hz0; have hfz := box_free hz0; have hzz := lt_blk hz0; (refine wpAnyH_call1 (i := 14) (o := ?_) (by kernel_rfl) ?_ (fun K hK => ?_); rotate_left 1; (· simp only [List.getElem?_toArray, List.getElem?_cons_succ, List.getElem?_cons_zero]; try rfl); go_simp); refine hK.out _ _ ⟨(((hHeldccccbn.1.setCell (p := ⟨w.heap.size, 0, none⟩) (Nat.le_refl _) _).setCell (p := ⟨w.heap.size, 1, none⟩) (Nat.le_refl _) _).setCell (p := ⟨w.heap.size, 2, none⟩) (Nat.le_refl _) _).setCell (p := ⟨w.heap.size, 3, none⟩) (Nat.le_refl _) _, set4_far hHeldccccbn.2.1 (by omega), set4_far hHeldccccbn.2.2.1 (by omega), _, _, _, _, set4_at hz0⟩ (fun hFin => ?_); clear hK K; refine wpAnyH_done (by kernel_rfl) ?_ _; have hnb : bb ≠ w.heap.size := (fun e => by have h := HBr.out; rw [e, hz0] at h; cases h); have hnn2 : nn ≠ w.heap.size := (fun e => by have h := HNt.out; rw [e, hz0] at h; cases h); have hx9 := set4_at (v0 := .int .i64 1) (v1 := .slice (some ⟨bb, 0, none⟩) 3 3) (v2 := .slice (some ⟨pb, 0, none⟩) 3 3) (v3 := .slice (some ⟨nn, 0, none⟩) 4 4) hz0; have hc9 := box_cells hx9; have hf9 := box_free hx9; go_wp2; exact bodyPost_ret (v := .agg #[.int .i64 1, .slice (some ⟨bb, 0, none⟩) 3 3, .slice (some ⟨pb, 0, none⟩) 3 3, .slice (some ⟨nn, 0, none⟩) 4 4]) (by simp [results, Tryz.results40, go_sem, hc9, hf9]) rfl ⟨⟨some ⟨bb, 0, none⟩, 3, some ⟨pb, 0, none⟩, 3, some ⟨nn, 0, none⟩, 4⟩, rfl, ⟨SlAt.ofBlk (set4_far HBr.out hnb) exb_w rfl, SlAt.ofBlk (set4_far hHeldccccbn.2.2.1 (by omega)) exp_w rfl, SlAt.ofBlk (set4_far HNt.out hnn2) exn_w rfl, ok3 _ _, ok3 _ _, ok3 _ _⟩, hFin.1⟩
          · go_simp
            refine hK.out _ _ ⟨hHeldcccc.1.trans ((below_box _).mono hHeldcccc.1.size), up_alloc hHeldcccc.2.1 _, up_alloc hHeldcccc.2.2.1 _, by obtain ⟨a0, a1, a2, a3, hz⟩ := hHeldcccc.2.2.2; exact ⟨a0, a1, a2, a3, up_alloc hz _⟩⟩ (fun hHeldccccn => ?_)
            clear hK K
            (try simp only [Act.put, List.setIfInBounds_toArray, List.set_cons_zero, List.set_cons_succ])
            have HNt := heap_alloc_new w11 (.cells #[.int .i64 5, .int .i64 2, .int .i64 8, .int .i64 0, .int .i64 0, .int .i64 0, .int .i64 1, .int .i64 1, .int .i64 1, .int .i64 0, .int .i64 0, .int .i64 4, .int .i64 6, .int .i64 2, .int .i64 8, .int .i64 0, .int .i64 0, .int .i64 1, .int .i64 1, .int .i64 1, .int .i64 1, .int .i64 0, .int .i64 0, .int .i64 4, .int .i64 4, .int .i64 3, .int .i64 8, .int .i64 0, .int .i64 0, .int .i64 2, .int .i64 1, .int .i64 1, .int .i64 1, .int .i64 0, .int .i64 0, .int .i64 4, .int .i64 3, .int .i64 1, .int .i64 9, .int .i64 0, .int .i64 0, .int .i64 0, .int .i64 1, .int .i64 1, .int .i64 1, .int .i64 0, .int .i64 0, .int .i64 4] 73)
            dsimp only at HNt
            replace HNt := Lib.hid HNt
            generalize hnn : w11.heap.size = nn at *
            (refine wpAnyH_call1 (i := 6) (o := ?_) (by kernel_rfl) ?_ (fun K hK => ?_); rotate_left 1; (· simp only [List.getElem?_toArray, List.getElem?_cons_succ, List.getElem?_cons_zero]; try rfl); go_simp)
            refine hK.out _ _ ⟨hHeldccccn.1.trans ((below_box _).mono hHeldccccn.1.size), up_alloc hHeldccccn.2.1 _, up_alloc hHeldccccn.2.2.1 _, by obtain ⟨a0, a1, a2, a3, hz⟩ := hHeldccccn.2.2.2; exact ⟨a0, a1, a2, a3, up_alloc hz _⟩⟩ (fun hLast => ?_)
            clear hK K
            (try simp only [Act.put, List.setIfInBounds_toArray, List.set_cons_zero, List.set_cons_succ])
            have HBr := heap_alloc_new (w11.alloc (.cells #[.int .i64 5, .int .i64 2, .int .i64 8, .int .i64 0, .int .i64 0, .int .i64 0, .int .i64 1, .int .i64 1, .int .i64 1, .int .i64 0, .int .i64 0, .int .i64 4, .int .i64 6, .int .i64 2, .int .i64 8, .int .i64 0, .int .i64 0, .int .i64 1, .int .i64 1, .int .i64 1, .int .i64 1, .int .i64 0, .int .i64 0, .int .i64 4, .int .i64 4, .int .i64 3, .int .i64 8, .int .i64 0, .int .i64 0, .int .i64 2, .int .i64 1, .int .i64 1, .int .i64 1, .int .i64 0, .int .i64 0, .int .i64 4, .int .i64 3, .int .i64 1, .int .i64 9, .int .i64 0, .int .i64 0, .int .i64 0, .int .i64 1, .int .i64 1, .int .i64 1, .int .i64 0, .int .i64 0, .int .i64 4] 73)) (.cells #[.int .i64 7, .int .i64 4, .int .i64 1, .int .i64 0, .int .i64 8, .int .i64 4, .int .i64 1, .int .i64 0, .int .i64 9, .int .i64 4, .int .i64 1, .int .i64 0] 82)
            dsimp only at HBr
            rw [World.size_alloc, hnn] at HBr
            replace HBr := Lib.hid HBr
            replace HNt := Lib.hid (up_alloc HNt.out (.cells #[.int .i64 7, .int .i64 4, .int .i64 1, .int .i64 0, .int .i64 8, .int .i64 4, .int .i64 1, .int .i64 0, .int .i64 9, .int .i64 4, .int .i64 1, .int .i64 0] 82))
            generalize hb1 : nn + 1 = bb at *
            generalize (w11.alloc _).alloc _ = Wn at *
            (refine wpAnyH_take1 13 (oi := ?_) (v := ?_) ?_ (by kernel_rfl) (by kernel_rfl) (by kernel_rfl) (by assumption) ?_ ?_ ?_; rotate_left 2; (· simp only [List.getElem?_toArray, List.getElem?_cons_succ, List.getElem?_cons_zero]; try rfl); (· refine ⟨by kernel_rfl, ?_⟩; intro wq hSw; skip; go_simp; first | done | with_reducible rfl); (· exact fun _ _ _ h => h); try simp only [Act.put, List.setIfInBounds_toArray, List.set_cons_zero, List.set_cons_succ]); obtain ⟨a0, a1, a2, a3, hz0⟩ := hLast.2.2.2; have hcz := box_cells hz0; have hfz := box_free hz0; have hzz := lt_blk hz0; (refine wpAnyH_call1 (i := 14) (o := ?_) (by kernel_rfl) ?_ (fun K hK => ?_); rotate_left 1; (· simp only [List.getElem?_toArray, List.getElem?_cons_succ, List.getElem?_cons_zero]; try rfl); go_simp); refine hK.out _ _ ⟨(((hLast.1.setCell (p := ⟨w.heap.size, 0, none⟩) (Nat.le_refl _) _).setCell (p := ⟨w.heap.size, 1, none⟩) (Nat.le_refl _) _).setCell (p := ⟨w.heap.size, 2, none⟩) (Nat.le_refl _) _).setCell (p := ⟨w.heap.size, 3, none⟩) (Nat.le_refl _) _, set4_far hLast.2.1 (by omega), set4_far hLast.2.2.1 (by omega), _, _, _, _, set4_at hz0⟩ (fun hFin => ?_); clear hK K; refine wpAnyH_done (by kernel_rfl) ?_ _; have hnb : bb ≠ w.heap.size := (fun e => by have h := HBr.out; rw [e, hz0] at h; cases h); have hnn2 : nn ≠ w.heap.size := (fun e => by have h := HNt.out; rw [e, hz0] at h; cases h); have hx9 := set4_at (v0 := .int .i64 1) (v1 := .slice (some ⟨bb, 0, none⟩) 3 3) (v2 := .slice (some ⟨pb, 0, none⟩) 3 3) (v3 := .slice (some ⟨nn, 0, none⟩) 4 4) hz0; have hc9 := box_cells hx9; have hf9 := box_free hx9; go_wp2; exact bodyPost_ret (v := .agg #[.int .i64 1, .slice (some ⟨bb, 0, none⟩) 3 3, .slice (some ⟨pb, 0, none⟩) 3 3, .slice (some ⟨nn, 0, none⟩) 4 4]) (by simp [results, Tryz.results40, go_sem, hc9, hf9]) rfl ⟨⟨some ⟨bb, 0, none⟩, 3, some ⟨pb, 0, none⟩, 3, some ⟨nn, 0, none⟩, 4⟩, rfl, ⟨SlAt.ofBlk (set4_far HBr.out hnb) exb_w rfl, SlAt.ofBlk (set4_far hLast.2.2.1 (by omega)) exp_w rfl, SlAt.ofBlk (set4_far HNt.out hnn2) exn_w rfl, ok3 _ _, ok3 _ _, ok3 _ _⟩, hFin.1⟩

end Go.Proofs.YtppjbnnnppffaaaGreatDoor


/- The laws of layer 17: their head: walked. -/
namespace Go.Proofs.YtppjbnnnppffaaaGreatDoor
set_option linter.unusedSimpArgs false
set_option linter.unusedVariables false
open Go.RowKit Go.Sort Go.Shelf

def exCw (id start : Int) : Wr := ⟨id, 0, 0, ⟨start, 1⟩, ⟨1, 1⟩, ⟨1, 0, 4⟩⟩
def exCu : CuP := ⟨1, 2, [exCw 5 0, exCw 6 1]⟩
theorem ex_sort : sortW [exCw 5 0, exCw 6 1] = exCu.notes := (sortW_uniq (by decide) (List.Perm.refl _) (by decide)).symm
theorem ex_cu11' : cuesR exC 1 1 = ([⟨1, 2, sortW [exCw 5 0, exCw 6 1]⟩], 0) := by kernel_rfl
theorem ex_cu12' : cuesR exC 1 2 = ([⟨1, 2, sortW [exCw 5 0, exCw 6 1]⟩], 0) := by kernel_rfl
theorem ex_cu11 : cuesR exC 1 1 = ([exCu], 0) := by rw [ex_cu11', ex_sort]; rfl
theorem ex_cu12 : cuesR exC 1 2 = ([exCu], 0) := by rw [ex_cu12', ex_sort]; rfl
theorem ex_cu13 : cuesR exC 1 3 = ([], 0) := by decide +kernel
theorem ex_cu41 : cuesR exC 4 1 = ([], 22) := by decide +kernel
theorem ex_cu10 : cuesR exC 1 0 = ([], 1) := by decide +kernel
theorem ex_sh1 : showsR exC 1 exCu = (true, 0) := by unfold showsR; rw [ex_cu11]; decide +kernel
theorem ex_sh2 : showsR exC 1 ⟨1, 3, exCu.notes⟩ = (false, 0) := by unfold showsR; rw [ex_cu11]; decide +kernel
/-- The example's cue as it lies in memory. -/
theorem exCu_at {W : World} {a : Option Addr} {cs : List Cu} (h : CuAt W a cs) (e : cs.map Cu.says = [exCu]) : ∃ b off nb noff nc, cs = [⟨1, 2, some ⟨nb, noff, none⟩, nc, exCu.notes⟩] ∧ a = some ⟨b, off, none⟩ := by
  obtain ⟨M, rfl⟩ : ∃ M, cs = [M] := by
    match cs, e with
    | [M], _ => exact ⟨M, rfl⟩
    | [], e => cases e
    | _ :: _ :: _, e => simp at e
  have hM : M.says = exCu := by simpa using e
  obtain ⟨b, off, ea, _⟩ := h.get 0 (by simp)
  obtain ⟨m1, m2, m3, m4, m5⟩ := M
  simp only [Cu.says, exCu, CuP.mk.injEq] at hM
  obtain ⟨rfl, rfl, rfl⟩ := hM
  have hn := h.notes _ (List.mem_singleton.2 rfl)
  obtain ⟨nb, noff, en, _⟩ := WrAt.get hn 0 (by simp)
  simp only at en
  subst en
  exact ⟨b, off, nb, noff, m4, rfl, ea⟩
theorem eql_pc17 (x y z x' y' z' : Int) (w : World) : (binOp .eql 57 (.agg #[.int .i64 x, .int .i64 y, .int .i64 z]) (.agg #[.int .i64 x', .int .i64 y', .int .i64 z'])).run Tryz.prog w = .ok (.bool (x == x' && (y == y' && z == z'))) w := by
  rw [run_eql_struct]
  simp [go_sem]
  by_cases h0 : x = x'
  · simp [h0]
    by_cases h1 : y = y'
    · simp [h1]; by_cases h2 : z = z' <;> simp [h2]
    · simp [h1]
  · simp [h0]
/-- What is so where there is no error. -/
theorem cuesR_ok {s : Sc} {part after : Int} (h : (cuesR s part after).2 = 0) : ∃ p, validS s = true ∧ partAt s.parts part = some p ∧ 1 ≤ after ∧ after ≤ 4000 ∧ (cuesR s part after).1 = cuesL s p after.toNat := by
  unfold cuesR at h ⊢
  split at h
  · rename_i hc
    rw [if_pos hc]
    rw [Bool.and_eq_true, inB_iff] at hc
    split at h
    · rename_i p hp
      exact ⟨p, hc.1, hp, hc.2.1, hc.2.2, rfl⟩
    · cases h
  · cases h
theorem cuesR_bad {s : Sc} {part after : Int} (h : (cuesR s part after).2 ≠ 0) : (cuesR s part after).1 = [] := by
  unfold cuesR at h ⊢
  split at h
  · rename_i hc
    rw [if_pos hc]
    split at h
    · exact absurd rfl h
    · rfl
  · rename_i hc
    rw [if_neg hc]
theorem mem_part {l : List Pa} {id : Int} {p : Pa} (h : partAt l id = some p) : p ∈ l ∧ p.id = id := by
  obtain ⟨i, hi, _, e, e2⟩ := part_some h
  exact ⟨e ▸ List.getElem_mem hi, e2⟩
set_option maxRecDepth 100000 in
set_option maxHeartbeats 8000000 in
theorem head17_any (w : World) (hE : Env w) : Calls Tryz.prog 13 #[] w fun e w' => e = .returned (.bool true) ∧ Below w.heap.size w w' := by
  have HE := Lib.hid hE; clear hE
  have HB := Lib.hid (Below.refl w.heap.size w)
  have hff : ScFew exC := ⟨by decide, by decide, by decide⟩
  go_enter Tryz.func13, Tryz.ntmps13
  go_upto_region 2 with (go_at_call 40; refine (ex17_any _).mono ?_; rintro e w1 ⟨⟨ab, cb, ap, cp, an, cn⟩, rfl, hsc, hb⟩; have HS := Lib.hid hsc; replace HB := Lib.hid (HB.out.trans hb); clear hsc hb)
  have hs1 := HB.out.size
  have HX1 := Lib.hid (show (w1.alloc (.cells #[.int .i64 1, .slice ab 3 cb, .slice ap 3 cp, .slice an 4 cn] 26)).heap[w1.heap.size]? = some (.cells #[.int .i64 1, .slice ab 3 cb, .slice ap 3 cp, .slice an 4 cn] 26) from heap_alloc_new w1 _)
  have hb := (Below.refl w1.heap.size w1).alloc (Nat.le_refl _) (.cells #[.int .i64 1, .slice ab 3 cb, .slice ap 3 cp, .slice an 4 cn] 26)
  replace HS := Lib.hid (HS.out.below hb)
  replace HB := Lib.hid (HB.out.trans (hb.mono HB.out.size))
  rw [show (.cells #[.int .i64 exC.version, .slice (⟨ab, cb, ap, cp, an, cn⟩ : Sp).ab exC.bars.length (⟨ab, cb, ap, cp, an, cn⟩ : Sp).cb, .slice (⟨ab, cb, ap, cp, an, cn⟩ : Sp).ap exC.parts.length (⟨ab, cb, ap, cp, an, cn⟩ : Sp).cp, .slice (⟨ab, cb, ap, cp, an, cn⟩ : Sp).an exC.notes.length (⟨ab, cb, ap, cp, an, cn⟩ : Sp).cn] 26 : Obj) = .cells #[.int .i64 1, .slice ab 3 cb, .slice ap 3 cp, .slice an 4 cn] 26 from rfl]
  clear hb
  generalize w1.alloc (.cells #[.int .i64 1, .slice ab 3 cb, .slice ap 3 cp, .slice an 4 cn] 26) = W1 at *
  obtain ⟨b1, hb1⟩ : ∃ b, b = w1.heap.size := ⟨_, rfl⟩
  rw [← hb1] at HX1 ⊢
  have HB1 := Lib.hid (show w.heap.size ≤ b1 by omega)
  clear hb1 hs1
  have HC1 := Lib.hid (fun W (hb : Below W1.heap.size W1 W) => show Calls Tryz.prog 15 #[.agg #[.int .i64 1, .slice ab 3 cb, .slice ap 3 cp, .slice an 4 cn], .int .i64 1, .int .i64 1] W (RetCuE [exCu] 0 W) from by have := CCues_any exC ⟨ab, cb, ap, cp, an, cn⟩ 1 1 W hff (HS.out.below hb) (HE.out.below (HB.out.trans (hb.mono HB.out.size))); rwa [ex_cu11] at this)
  have HC2 := Lib.hid (fun W (hb : Below W1.heap.size W1 W) => show Calls Tryz.prog 15 #[.agg #[.int .i64 1, .slice ab 3 cb, .slice ap 3 cp, .slice an 4 cn], .int .i64 1, .int .i64 2] W (RetCuE [exCu] 0 W) from by have := CCues_any exC ⟨ab, cb, ap, cp, an, cn⟩ 1 2 W hff (HS.out.below hb) (HE.out.below (HB.out.trans (hb.mono HB.out.size))); rwa [ex_cu12] at this)
  have HC3 := Lib.hid (fun W (hb : Below W1.heap.size W1 W) => show Calls Tryz.prog 15 #[.agg #[.int .i64 1, .slice ab 3 cb, .slice ap 3 cp, .slice an 4 cn], .int .i64 1, .int .i64 3] W (RetCuE [] 0 W) from by have := CCues_any exC ⟨ab, cb, ap, cp, an, cn⟩ 1 3 W hff (HS.out.below hb) (HE.out.below (HB.out.trans (hb.mono HB.out.size))); rwa [ex_cu13] at this)
  have HC4 := Lib.hid (fun W (hb : Below W1.heap.size W1 W) => show Calls Tryz.prog 15 #[.agg #[.int .i64 1, .slice ab 3 cb, .slice ap 3 cp, .slice an 4 cn], .int .i64 4, .int .i64 1] W (RetCuE [] 22 W) from by have := CCues_any exC ⟨ab, cb, ap, cp, an, cn⟩ 4 1 W hff (HS.out.below hb) (HE.out.below (HB.out.trans (hb.mono HB.out.size))); rwa [ex_cu41] at this)
  have HC5 := Lib.hid (fun W (hb : Below W1.heap.size W1 W) => show Calls Tryz.prog 15 #[.agg #[.int .i64 1, .slice ab 3 cb, .slice ap 3 cp, .slice an 4 cn], .int .i64 1, .int .i64 0] W (RetCuE [] 1 W) from by have := CCues_any exC ⟨ab, cb, ap, cp, an, cn⟩ 1 0 W hff (HS.out.below hb) (HE.out.below (HB.out.trans (hb.mono HB.out.size))); rwa [ex_cu10] at this)
  have HSh := Lib.hid (fun (c : Cu) (hc : c.notes.length ≤ 100000) W (hb : Below W1.heap.size W1 W) (hw : WrAt W c.na c.notes) => show Calls Tryz.prog 18 #[.agg #[.int .i64 1, .slice ab 3 cb, .slice ap 3 cp, .slice an 4 cn], .int .i64 1, .agg #[.int .i64 c.measure, .int .i64 c.part, .slice c.na c.notes.length c.ncap]] W _ from CShows_any exC ⟨ab, cb, ap, cp, an, cn⟩ 1 c W hff (HS.out.below hb) (HE.out.below (HB.out.trans (hb.mono HB.out.size))) hc hw)
  have HBw := Lib.hid HB.out
  replace HB := Lib.hid (Below.refl W1.heap.size W1)
  have hc1 := box_cells HX1.out
  go_upto_region 3 with (go_at_call 15; refine (HC1.out _ HB.out).mono ?_; rintro e w2 ⟨a2, c2, cs2, rfl, hok2, hcu2, hsy2, hb⟩; (try replace HM2 := Lib.hid (CuAt.below HM2.out hb)); (try replace HM3 := Lib.hid (CuAt.below HM3.out hb)); (try replace hb := drewB hb); replace HB := Lib.hid (HB.out.trans (hb.mono HB.out.size)); (try (replace HX1 := Lib.hid (blk_keep HX1.out hb); replace hc1 := box_cells HX1.out; replace hf1 := box_free HX1.out; replace hz1 := lt_blk HX1.out)); (try (replace HX2 := Lib.hid (blk_keep HX2.out hb); replace hc2 := box_cells HX2.out; replace hf2 := box_free HX2.out; replace hz2 := lt_blk HX2.out)); (try (replace HX3 := Lib.hid (blk_keep HX3.out hb); replace hc3 := box_cells HX3.out; replace hf3 := box_free HX3.out; replace hz3 := lt_blk HX3.out)); (try (replace HX4 := Lib.hid (blk_keep HX4.out hb); replace hc4 := box_cells HX4.out; replace hf4 := box_free HX4.out; replace hz4 := lt_blk HX4.out)); (try (replace HX10 := Lib.hid (blk_keep HX10.out hb); replace hc10 := box_cells HX10.out; replace hf10 := box_free HX10.out; replace hz10 := lt_blk HX10.out)); clear hb)
  obtain ⟨vb, voff, nb, noff, nc, rfl, rfl⟩ := exCu_at hcu2 hsy2
  have HM2 := Lib.hid hcu2
  simp only [List.length_cons, List.length_nil, Nat.zero_add]
  clear hcu2 hsy2 hok2
  go_upto_region 4 with (go_at_call 15; refine (HC2.out _ HB.out).mono ?_; rintro e w3 ⟨a3, c3, cs3, rfl, hok3, hcu3, hsy3, hb⟩; (try replace HM2 := Lib.hid (CuAt.below HM2.out hb)); (try replace HM3 := Lib.hid (CuAt.below HM3.out hb)); (try replace hb := drewB hb); replace HB := Lib.hid (HB.out.trans (hb.mono HB.out.size)); (try (replace HX1 := Lib.hid (blk_keep HX1.out hb); replace hc1 := box_cells HX1.out; replace hf1 := box_free HX1.out; replace hz1 := lt_blk HX1.out)); (try (replace HX2 := Lib.hid (blk_keep HX2.out hb); replace hc2 := box_cells HX2.out; replace hf2 := box_free HX2.out; replace hz2 := lt_blk HX2.out)); (try (replace HX3 := Lib.hid (blk_keep HX3.out hb); replace hc3 := box_cells HX3.out; replace hf3 := box_free HX3.out; replace hz3 := lt_blk HX3.out)); (try (replace HX4 := Lib.hid (blk_keep HX4.out hb); replace hc4 := box_cells HX4.out; replace hf4 := box_free HX4.out; replace hz4 := lt_blk HX4.out)); (try (replace HX10 := Lib.hid (blk_keep HX10.out hb); replace hc10 := box_cells HX10.out; replace hf10 := box_free HX10.out; replace hz10 := lt_blk HX10.out)); clear hb)
  obtain ⟨vb3, voff3, nb3, noff3, nc3, rfl, rfl⟩ := exCu_at hcu3 hsy3
  have HM3 := Lib.hid hcu3
  simp only [List.length_cons, List.length_nil, Nat.zero_add]
  clear hcu3 hsy3 hok3
  go_upto_region 5 with (go_at_call 15; refine (HC3.out _ HB.out).mono ?_; rintro e w4 ⟨a4, c4, cs4, rfl, hok4, hcu4, hsy4, hb⟩; (try replace HM2 := Lib.hid (CuAt.below HM2.out hb)); (try replace HM3 := Lib.hid (CuAt.below HM3.out hb)); (try replace hb := drewB hb); replace HB := Lib.hid (HB.out.trans (hb.mono HB.out.size)); (try (replace HX1 := Lib.hid (blk_keep HX1.out hb); replace hc1 := box_cells HX1.out; replace hf1 := box_free HX1.out; replace hz1 := lt_blk HX1.out)); (try (replace HX2 := Lib.hid (blk_keep HX2.out hb); replace hc2 := box_cells HX2.out; replace hf2 := box_free HX2.out; replace hz2 := lt_blk HX2.out)); (try (replace HX3 := Lib.hid (blk_keep HX3.out hb); replace hc3 := box_cells HX3.out; replace hf3 := box_free HX3.out; replace hz3 := lt_blk HX3.out)); (try (replace HX4 := Lib.hid (blk_keep HX4.out hb); replace hc4 := box_cells HX4.out; replace hf4 := box_free HX4.out; replace hz4 := lt_blk HX4.out)); (try (replace HX10 := Lib.hid (blk_keep HX10.out hb); replace hc10 := box_cells HX10.out; replace hf10 := box_free HX10.out; replace hz10 := lt_blk HX10.out)); clear hb)
  obtain rfl := List.map_eq_nil_iff.1 hsy4
  simp only [List.length_nil]
  clear hcu4 hsy4 hok4
  go_upto_region 6 with (go_at_call 15; refine (HC4.out _ HB.out).mono ?_; rintro e w5 ⟨a5, c5, cs5, rfl, hok5, hcu5, hsy5, hb⟩; (try replace HM2 := Lib.hid (CuAt.below HM2.out hb)); (try replace HM3 := Lib.hid (CuAt.below HM3.out hb)); (try replace hb := drewB hb); replace HB := Lib.hid (HB.out.trans (hb.mono HB.out.size)); (try (replace HX1 := Lib.hid (blk_keep HX1.out hb); replace hc1 := box_cells HX1.out; replace hf1 := box_free HX1.out; replace hz1 := lt_blk HX1.out)); (try (replace HX2 := Lib.hid (blk_keep HX2.out hb); replace hc2 := box_cells HX2.out; replace hf2 := box_free HX2.out; replace hz2 := lt_blk HX2.out)); (try (replace HX3 := Lib.hid (blk_keep HX3.out hb); replace hc3 := box_cells HX3.out; replace hf3 := box_free HX3.out; replace hz3 := lt_blk HX3.out)); (try (replace HX4 := Lib.hid (blk_keep HX4.out hb); replace hc4 := box_cells HX4.out; replace hf4 := box_free HX4.out; replace hz4 := lt_blk HX4.out)); (try (replace HX10 := Lib.hid (blk_keep HX10.out hb); replace hc10 := box_cells HX10.out; replace hf10 := box_free HX10.out; replace hz10 := lt_blk HX10.out)); clear hb)
  obtain rfl := List.map_eq_nil_iff.1 hsy5
  simp only [List.length_nil]
  clear hcu5 hsy5 hok5
  go_upto_region 7 with (go_at_call 15; refine (HC5.out _ HB.out).mono ?_; rintro e w6 ⟨a6, c6, cs6, rfl, hok6, hcu6, hsy6, hb⟩; (try replace HM2 := Lib.hid (CuAt.below HM2.out hb)); (try replace HM3 := Lib.hid (CuAt.below HM3.out hb)); (try replace hb := drewB hb); replace HB := Lib.hid (HB.out.trans (hb.mono HB.out.size)); (try (replace HX1 := Lib.hid (blk_keep HX1.out hb); replace hc1 := box_cells HX1.out; replace hf1 := box_free HX1.out; replace hz1 := lt_blk HX1.out)); (try (replace HX2 := Lib.hid (blk_keep HX2.out hb); replace hc2 := box_cells HX2.out; replace hf2 := box_free HX2.out; replace hz2 := lt_blk HX2.out)); (try (replace HX3 := Lib.hid (blk_keep HX3.out hb); replace hc3 := box_cells HX3.out; replace hf3 := box_free HX3.out; replace hz3 := lt_blk HX3.out)); (try (replace HX4 := Lib.hid (blk_keep HX4.out hb); replace hc4 := box_cells HX4.out; replace hf4 := box_free HX4.out; replace hz4 := lt_blk HX4.out)); (try (replace HX10 := Lib.hid (blk_keep HX10.out hb); replace hc10 := box_cells HX10.out; replace hf10 := box_free HX10.out; replace hz10 := lt_blk HX10.out)); clear hb)
  obtain rfl := List.map_eq_nil_iff.1 hsy6
  simp only [List.length_nil]
  clear hcu6 hsy6 hok6 HC1 HC2 HC3 HC4 HC5
  have HSm := Lib.hid (show Calls Tryz.prog 17 #[.slice (some ⟨vb, voff, none⟩) 1 c2, .slice (some ⟨vb3, voff3, none⟩) 1 c3] w6 (fun e w' => e = .returned (.bool true) ∧ Below w6.heap.size w6 w') from by
    have := RSameC_any (some ⟨vb, voff, none⟩) (some ⟨vb3, voff3, none⟩) c2 c3 _ _ w6 (by simp) (by simp) (by simp [exCu]) (by simp [exCu]) HM2.out HM3.out
    simpa [Cu.says] using this)
  go_upto_region 9 with (go_at_call 17; refine HSm.out.mono ?_; rintro e w7 ⟨rfl, hb⟩; replace HM2 := Lib.hid (CuAt.below HM2.out hb); (try replace hb := drewB hb); replace HB := Lib.hid (HB.out.trans (hb.mono HB.out.size)); (try (replace HX1 := Lib.hid (blk_keep HX1.out hb); replace hc1 := box_cells HX1.out; replace hf1 := box_free HX1.out; replace hz1 := lt_blk HX1.out)); (try (replace HX2 := Lib.hid (blk_keep HX2.out hb); replace hc2 := box_cells HX2.out; replace hf2 := box_free HX2.out; replace hz2 := lt_blk HX2.out)); (try (replace HX3 := Lib.hid (blk_keep HX3.out hb); replace hc3 := box_cells HX3.out; replace hf3 := box_free HX3.out; replace hz3 := lt_blk HX3.out)); (try (replace HX4 := Lib.hid (blk_keep HX4.out hb); replace hc4 := box_cells HX4.out; replace hf4 := box_free HX4.out; replace hz4 := lt_blk HX4.out)); (try (replace HX10 := Lib.hid (blk_keep HX10.out hb); replace hc10 := box_cells HX10.out; replace hf10 := box_free HX10.out; replace hz10 := lt_blk HX10.out)); clear hb)
  clear HM3 HSm
  have HB7 := Lib.hid HB.out
  have HMf := Lib.hid (fun W (hb : Below w7.heap.size w7 W) => CuAt.below HM2.out hb)
  have HSh1 := Lib.hid (fun W (hb : Below w7.heap.size w7 W) => show Calls Tryz.prog 18 #[.agg #[.int .i64 1, .slice ab 3 cb, .slice ap 3 cp, .slice an 4 cn], .int .i64 1, .agg #[.int .i64 1, .int .i64 2, .slice (some ⟨nb, noff, none⟩) 2 nc]] W (fun e w' => e = .returned (.tuple #[.bool true, .int .i64 0]) ∧ Below W.heap.size W w') from by
    have := HSh.out (⟨1, 2, some ⟨nb, noff, none⟩, nc, exCu.notes⟩ : Cu) (by simp [exCu]) W (HB7.out.trans (hb.mono HB7.out.size)) ((HMf.out W hb).notes _ (List.mem_singleton.2 rfl))
    rw [show ((⟨1, 2, some ⟨nb, noff, none⟩, nc, exCu.notes⟩ : Cu)).says = exCu from rfl, ex_sh1] at this
    exact this)
  have HMc := Lib.hid (fun W (hb : Below w7.heap.size w7 W) => show W.cell? ⟨vb, voff, none⟩ = some (.int .i64 1) ∧ W.cell? ⟨vb, voff + 1, none⟩ = some (.int .i64 2) ∧ W.cell? ⟨vb, voff + 2, none⟩ = some (.slice (some ⟨nb, noff, none⟩) 2 nc) from by
    obtain ⟨b', off', e, _, d0, d1, d2⟩ := (HMf.out W hb).get 0 (by simp)
    cases e
    simpa [exCu] using ⟨d0, d1, d2⟩)
  have HWc := Lib.hid (fun W (hb : Below w7.heap.size w7 W) => show W.cell? ⟨nb, noff, none⟩ = some (.int .i64 5) ∧ W.cell? ⟨nb, noff + 17, none⟩ = some (.int .i64 1) ∧ W.cell? ⟨nb, noff + 18, none⟩ = some (.int .i64 0) ∧ W.cell? ⟨nb, noff + 19, none⟩ = some (.int .i64 4) from by
    have hn := (HMf.out W hb).notes _ (List.mem_singleton.2 rfl)
    obtain ⟨b', off', e, _, d0, _⟩ := WrAt.get hn 0 (by simp [exCu])
    cases e
    obtain ⟨b', off', e, _, _, _, _, _, _, _, _, f7, f8, f9⟩ := WrAt.get hn 1 (by simp [exCu])
    cases e
    simpa [exCu, exCw, Nat.add_assoc] using ⟨d0, f7, f8, f9⟩)
  obtain ⟨v0, v1, v2⟩ := HMc.out w7 (Below.refl _ _)
  replace HB := Lib.hid (Below.refl w7.heap.size w7)
  have g0 := cell_regrown v0; have g1 := cell_regrown v1; have g2 := cell_regrown v2
  have k0 := cell_regrown (hc1 0); have k1 := cell_regrown (hc1 1); have k2 := cell_regrown (hc1 2); have k3 := cell_regrown (hc1 3)
  refine wp_quietB (by kernel_rfl) (by kernel_rfl) ?_
  (repeat (go_big_quiet_step ((go_at_call 18; refine Calls.regrown_of (HSh1.out _ (below_regrown _ _ _))))))
  refine wpQuiet_nil ?_
  intro w8 hb
  clear g0 g1 g2 k0 k1 k2 k3 v0 v1 v2 HM2
  (try replace hb := drewB hb); replace HB := Lib.hid (HB.out.trans (hb.mono HB.out.size)); (try (replace HX1 := Lib.hid (blk_keep HX1.out hb); replace hc1 := box_cells HX1.out; replace hf1 := box_free HX1.out; replace hz1 := lt_blk HX1.out)); (try (replace HX2 := Lib.hid (blk_keep HX2.out hb); replace hc2 := box_cells HX2.out; replace hf2 := box_free HX2.out; replace hz2 := lt_blk HX2.out)); (try (replace HX3 := Lib.hid (blk_keep HX3.out hb); replace hc3 := box_cells HX3.out; replace hf3 := box_free HX3.out; replace hz3 := lt_blk HX3.out)); (try (replace HX4 := Lib.hid (blk_keep HX4.out hb); replace hc4 := box_cells HX4.out; replace hf4 := box_free HX4.out; replace hz4 := lt_blk HX4.out)); (try (replace HX10 := Lib.hid (blk_keep HX10.out hb); replace hc10 := box_cells HX10.out; replace hf10 := box_free HX10.out; replace hz10 := lt_blk HX10.out)); clear hb
  obtain ⟨v0, v1, v2⟩ := HMc.out w8 HB.out
  go_upto_region 11 with (fail)
  have HX2 := Lib.hid (heap_alloc_new w8 (.cells #[.int .i64 1, .int .i64 2, .slice (some ⟨nb, noff, none⟩) 2 nc] 29))
  have hb := below_box (w := w8) (.cells #[.int .i64 1, .int .i64 2, .slice (some ⟨nb, noff, none⟩) 2 nc] 29)
  have hvl := lt_cell v0
  obtain ⟨n0, _⟩ := HWc.out w8 HB.out
  have hnl := lt_cell n0
  have hb1x := lt_blk HX1.out
  have hw7x := HB.out.size
  clear v0 v1 v2 n0
  (try replace hb := drewB hb); replace HB := Lib.hid (HB.out.trans (hb.mono HB.out.size)); (try (replace HX1 := Lib.hid (blk_keep HX1.out hb); replace hc1 := box_cells HX1.out; replace hf1 := box_free HX1.out; replace hz1 := lt_blk HX1.out)); (try (replace HX2 := Lib.hid (blk_keep HX2.out hb); replace hc2 := box_cells HX2.out; replace hf2 := box_free HX2.out; replace hz2 := lt_blk HX2.out)); (try (replace HX3 := Lib.hid (blk_keep HX3.out hb); replace hc3 := box_cells HX3.out; replace hf3 := box_free HX3.out; replace hz3 := lt_blk HX3.out)); (try (replace HX4 := Lib.hid (blk_keep HX4.out hb); replace hc4 := box_cells HX4.out; replace hf4 := box_free HX4.out; replace hz4 := lt_blk HX4.out)); (try (replace HX10 := Lib.hid (blk_keep HX10.out hb); replace hc10 := box_cells HX10.out; replace hf10 := box_free HX10.out; replace hz10 := lt_blk HX10.out)); clear hb
  generalize w8.alloc (.cells #[.int .i64 1, .int .i64 2, .slice (some ⟨nb, noff, none⟩) 2 nc] 29) = W8 at *
  generalize w8.heap.size = xb at *
  have hc2 := box_cells HX2.out; have hf2 := box_free HX2.out; have hz2 := lt_blk HX2.out
  have HW8 := Lib.hid ((HMf.out W8 HB.out).notes _ (List.mem_singleton.2 rfl))
  obtain ⟨v0, v1, v2⟩ := HMc.out W8 HB.out
  obtain ⟨n0, n1, n2, n3⟩ := HWc.out W8 HB.out
  go_upto_region 12 with (fail)
  have HX3 := Lib.hid (show (W8.setCell ⟨xb, 1, none⟩ (.int .i64 3)).heap[xb]? = some (.cells #[.int .i64 1, .int .i64 3, .slice (some ⟨nb, noff, none⟩) 2 nc] 29) from heap_setCell_same _ _ _ _ _ _ HX2.out)
  have HY1 := Lib.hid (set1_far (i := 1) HX1.out (show b1 ≠ xb by omega) (.int .i64 3))
  have HW9 := Lib.hid (show WrAt (W8.setCell ⟨xb, 1, none⟩ (.int .i64 3)) (some ⟨nb, noff, none⟩) exCu.notes from SlAt.setSmall HW8.out HX2.out (by simp) _)
  have HB9 := Lib.hid (HB.out.setCell (p := ⟨xb, 1, none⟩) hw7x (.int .i64 3))
  replace v0 := cell1_far (i := 1) v0 (show vb ≠ xb by omega) (.int .i64 3); replace v1 := cell1_far (i := 1) v1 (show vb ≠ xb by omega) (.int .i64 3); replace v2 := cell1_far (i := 1) v2 (show vb ≠ xb by omega) (.int .i64 3)
  replace n0 := cell1_far (i := 1) n0 (show nb ≠ xb by omega) (.int .i64 3); replace n1 := cell1_far (i := 1) n1 (show nb ≠ xb by omega) (.int .i64 3); replace n2 := cell1_far (i := 1) n2 (show nb ≠ xb by omega) (.int .i64 3); replace n3 := cell1_far (i := 1) n3 (show nb ≠ xb by omega) (.int .i64 3)
  clear HX1 HX2 HW8 HB hc1 hc2 hf1 hf2 hz1 hz2
  generalize W8.setCell ⟨xb, 1, none⟩ (.int .i64 3) = W9 at *
  have HSh2 := Lib.hid (show Calls Tryz.prog 18 #[.agg #[.int .i64 1, .slice ab 3 cb, .slice ap 3 cp, .slice an 4 cn], .int .i64 1, .agg #[.int .i64 1, .int .i64 3, .slice (some ⟨nb, noff, none⟩) 2 nc]] W9 (fun e w' => e = .returned (.tuple #[.bool false, .int .i64 0]) ∧ Below W9.heap.size W9 w') from by
    have := HSh.out (⟨1, 3, some ⟨nb, noff, none⟩, nc, exCu.notes⟩ : Cu) (by simp [exCu]) W9 (HB7.out.trans (HB9.out.mono HB7.out.size)) HW9.out
    rw [show ((⟨1, 3, some ⟨nb, noff, none⟩, nc, exCu.notes⟩ : Cu)).says = ⟨1, 3, exCu.notes⟩ from rfl, ex_sh2] at this
    exact this)
  have hc1 := box_cells HY1.out; have hc3 := box_cells HX3.out
  go_upto_region 13 with (go_at_call 18; refine HSh2.out.mono ?_; rintro e w10 ⟨rfl, hb⟩; replace v0 := keepE v0 hb; replace v1 := keepE v1 hb; replace v2 := keepE v2 hb; replace n0 := keepE n0 hb; replace n1 := keepE n1 hb; replace n2 := keepE n2 hb; replace n3 := keepE n3 hb; have HBt := Lib.hid hb; clear hb)
  go_upto_region 14 with (fail)
  have HX4 := Lib.hid (heap_alloc_new w10 (.cells #[.int .i64 1, .int .i64 0, .int .i64 4] 57))
  have hb := below_box (w := w10) (.cells #[.int .i64 1, .int .i64 0, .int .i64 4] 57)
  replace v0 := keepE v0 hb; replace v1 := keepE v1 hb; replace v2 := keepE v2 hb; replace n0 := keepE n0 hb; replace n1 := keepE n1 hb; replace n2 := keepE n2 hb; replace n3 := keepE n3 hb
  have HBu := Lib.hid (HBw.out.trans ((HB7.out.trans (((HB9.out.trans (HBt.out.mono HB9.out.size)).trans (hb.mono (Nat.le_trans HB9.out.size HBt.out.size))).mono HB7.out.size)).mono HBw.out.size))
  clear hb hc1 hc3 HSh HSh2
  generalize w10.alloc (.cells #[.int .i64 1, .int .i64 0, .int .i64 4] 57) = W10 at *
  generalize w10.heap.size = db at *
  have hc4 := box_cells HX4.out
  have hq := fun w => eql_pc17 1 0 4 1 0 4 w
  go_quiet (fail)
  go_wp2
  go_ret
  exact ⟨rfl, HBu.out.trans ((below_drewN (Below.refl _ _) nq).mono HBu.out.size)⟩
end Go.Proofs.YtppjbnnnppffaaaGreatDoor
