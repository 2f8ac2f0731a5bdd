/- match.reach: what its closures say. -/
import Derived.Test.YtkpgphadgomifaaMatchPrices
namespace Go.Proofs.Ytkpgphadgomifaa
set_option linter.unusedSimpArgs false
set_option linter.unusedVariables false
open Go.RowKit Go.Sort Go.Shelf

/-- Can row i get column k, which is not used, at exact prices? -/
def exB (c : List (List Int)) (u v : Nat → Int) (used : Nat → Bool) (i k : Nat) : Bool := !used k && (decide (0 ≤ cc c i k) && (u i + v k == cc c i k))
/-- What reach reads. -/
structure RX (c : List (List Int)) (a : Option Addr) (bu bv bs : Nat) (u v : Nat → Int) (used : Nat → Bool) (w : World) : Prop where
  he : formE c = 0
  mat : MatAt w a c
  ru : RowAt w bu c.length 3 (iv u)
  rv : RowAt w bv (wideL c) 3 (iv v)
  rs : RowAt w bs (wideL c) 4 (fun k => .bool (used k))
  ub : ∀ i, 0 ≤ u i ∧ u i ≤ 40001000000
  vb : ∀ k, k < wideL c → -40000000000 ≤ v k ∧ v k ≤ 0
theorem RX.below {c : List (List Int)} {a : Option Addr} {bu bv bs : Nat} {u v : Nat → Int} {used : Nat → Bool} {w w' : World} (x : RX c a bu bv bs u v used w) (hb : Below w.heap.size w w') : RX c a bu bv bs u v used w' :=
  ⟨x.he, x.mat.below hb, x.ru.below hb, x.rv.below hb, x.rs.below hb, x.ub, x.vb⟩
/-- The variables of reach that its closures hold. -/
structure RV (c : List (List Int)) (a : Option Addr) (cap bu bv bs t4 t5 t6 t7 t9 : Nat) (fr : Nat) (w : World) : Prop where
  x4 : w.heap[t4]? = some (.cells #[.slice a c.length cap] 22 (0, 0))
  x5 : w.heap[t5]? = some (.cells #[.slice (some ⟨bu, 0, none⟩) c.length c.length, .slice (some ⟨bv, 0, none⟩) (wideL c) (wideL c)] 48 (0, 0))
  x6 : w.heap[t6]? = some (.cells #[.int .i64 (fr : Int)] 3 (0, 0))
  x7 : w.heap[t7]? = some (.cells #[.slice (some ⟨bs, 0, none⟩) (wideL c) (wideL c)] 49 (0, 0))
  x9 : w.heap[t9]? = some (.cells #[.func (Fn.func 37) #[] #[.pointer (some ⟨t7, 0, none⟩), .pointer (some ⟨t4, 0, none⟩), .pointer (some ⟨t5, 0, none⟩)]] 58 (0, 0))
theorem RV.below {c : List (List Int)} {a : Option Addr} {cap bu bv bs t4 t5 t6 t7 t9 fr : Nat} {w w' : World} (x : RV c a cap bu bv bs t4 t5 t6 t7 t9 fr w) (hb : Below w.heap.size w w') : RV c a cap bu bv bs t4 t5 t6 t7 t9 fr w' :=
  ⟨blk_keep x.x4 hb, blk_keep x.x5 hb, blk_keep x.x6 hb, blk_keep x.x7 hb, blk_keep x.x9 hb⟩
set_option maxRecDepth 100000 in
set_option maxHeartbeats 4000000 in
theorem exact_any {c : List (List Int)} {a : Option Addr} {cap bu bv bs t4 t5 t6 t7 t9 fr : Nat} {u v : Nat → Int} {used : Nat → Bool} {w : World} (X : RX c a bu bv bs u v used w) (Y : RV c a cap bu bv bs t4 t5 t6 t7 t9 fr w) (i k : Nat) (hi : i < c.length) (hk : k < wideL c) :
    Calls Try.prog 37 #[.int .i64 i, .int .i64 k, .pointer (some ⟨t7, 0, none⟩), .pointer (some ⟨t4, 0, none⟩), .pointer (some ⟨t5, 0, none⟩)] w fun e w' => e = .returned (.bool (exB c u v used i k)) ∧ Below w.heap.size w w' := by
  obtain ⟨f1, f2, f3, f4⟩ := formE_ok X.he
  obtain ⟨b1, off, ai, ci, rfl, c0, hsk, hik⟩ := X.mat.get i hi
  have hlen := f3 c[i] (List.getElem_mem _)
  obtain ⟨b2, off2, rfl, d0⟩ := hik.get k (by omega)
  rw [← cc_get hi (by omega)] at d0
  rw [hlen] at c0
  obtain ⟨n1, n2⟩ := cc_le f3 f4 i k hi hk
  obtain ⟨u1, u2⟩ := X.ub i
  obtain ⟨v1, v2⟩ := X.vb k hk
  have gu : w.cell? ⟨bu, i, none⟩ = some (.int .i64 (u i)) := X.ru.cell hi
  have gv : w.cell? ⟨bv, k, none⟩ = some (.int .i64 (v k)) := X.rv.cell hk
  have gs : w.cell? ⟨bs, k, none⟩ = some (.bool (used k)) := X.rs.cell hk
  have h4 := box_cells Y.x4; have h5 := box_cells Y.x5; have h7 := box_cells Y.x7
  have g0 := cell_regrown (h4 0); have g1 := cell_regrown (h5 0); have g2 := cell_regrown (h5 1); have g3 := cell_regrown (h7 0); have g4 := cell_regrown gu; have g5 := cell_regrown gv; have g6 := cell_regrown gs; have g7 := cell_regrown c0; have g8 := cell_regrown d0
  clear X Y f3 f4 hsk hik hlen
  generalize hN : cc c i k = N at *
  have HN := Lib.hid hN; clear hN
  cases hus : used k
  · rw [hus] at g6
    have HU := Lib.hid hus; clear hus
    by_cases h1 : 0 ≤ N
    · have h1b : decide (0 ≤ N) = true := by simpa using h1
      have HR := Lib.hid (show exB c u v used i k = (u i + v k == N) by simp [exB, HU.out, HN.out, h1])
      go_enter Try.func37, Try.ntmps37
      go_wp2
      refine wp_quietB (by kernel_rfl) (by kernel_rfl) ?_
      repeat (go_big_quiet_step (fail))
      refine wpQuiet_nil ?_
      intro w5 hb
      have HB := Lib.hid hb; clear hb
      go_wp2
      go_ret
      exact ⟨by rw [HR.out]; rfl, HB.out⟩
    · have h1b : decide (0 ≤ N) = false := by simpa using h1
      have HR := Lib.hid (show exB c u v used i k = false by simp [exB, HN.out, h1b])
      go_enter Try.func37, Try.ntmps37
      go_wp2
      refine wp_quietB (by kernel_rfl) (by kernel_rfl) ?_
      repeat (go_big_quiet_step (fail))
      refine wpQuiet_nil ?_
      intro w5 hb
      have HB := Lib.hid hb; clear hb
      go_wp2
      go_ret
      exact ⟨by rw [HR.out]; rfl, HB.out⟩
  · rw [hus] at g6
    have HR := Lib.hid (show exB c u v used i k = false by simp [exB, hus]); clear hus
    go_enter Try.func37, Try.ntmps37
    go_wp2
    refine wp_quietB (by kernel_rfl) (by kernel_rfl) ?_
    repeat (go_big_quiet_step (fail))
    refine wpQuiet_nil ?_
    intro w5 hb
    have HB := Lib.hid hb; clear hb
    go_wp2
    go_ret
    exact ⟨by rw [HR.out]; rfl, HB.out⟩
set_option maxHeartbeats 1000000 in
theorem back_any {c : List (List Int)} {a : Option Addr} {cap bu bv bs t4 t5 t6 t7 t9 fr : Nat} {u v : Nat → Int} {used : Nat → Bool} {w : World} (X : RX c a bu bv bs u v used w) (Y : RV c a cap bu bv bs t4 t5 t6 t7 t9 fr w) (i k : Nat) (hi : i < c.length) (hk : k < wideL c) :
    Calls Try.prog 38 #[.int .i64 k, .int .i64 i, .pointer (some ⟨t6, 0, none⟩), .pointer (some ⟨t9, 0, none⟩)] w fun e w' => e = .returned (.bool (decide (fr ≤ i) && exB c u v used i k)) ∧ Below w.heap.size w w' := by
  have h6 := box_cells Y.x6; have h9 := box_cells Y.x9
  have HX := Lib.hid X; have HY := Lib.hid Y
  clear X Y
  by_cases h1 : fr ≤ i
  · have h1b : decide (fr ≤ i) = true := by simpa using h1
    have HR := Lib.hid h1b
    go_enter Try.func38, Try.ntmps38
    go_wp2_with (fail)
    refine (exact_any HX.out HY.out i k hi hk).mono ?_
    rintro e w' ⟨rfl, hb⟩
    have HB := Lib.hid hb; clear hb h6 h9 h1b
    go_wp2
    go_ret
    exact ⟨by rw [HR.out]; rfl, HB.out⟩
  · have h1b : decide (fr ≤ i) = false := by simpa using h1
    have HR := Lib.hid h1b
    go_enter Try.func38, Try.ntmps38
    go_wp2
    go_ret
    exact ⟨by rw [HR.out]; rfl, Below.refl _ _⟩
end Go.Proofs.Ytkpgphadgomifaa
