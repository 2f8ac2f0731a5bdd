/- Rows of pairs (the reference's steps) in memory, and 'held': walked; the conditions are named in each. -/
import Derived.Test.YtkpgphadgomifaaMatchPlace
import Derived.Test.YtkpgphadgomifaaMatchSsp
import Derived.Deep.MidRow
namespace Go.Proofs.Ytkpgphadgomifaa
set_option linter.unusedSimpArgs false
set_option linter.unusedVariables false
open Go.RowKit Go.Sort Go.Shelf

/-- Block b holds n pairs; pair k is d k and f k. -/
def RowD (w : World) (b n : Nat) (d f : Nat → Int) : Prop := ∃ arr : Array Value, w.heap[b]? = some (.cells arr 65 (0, 0)) ∧ arr.size = n * 2 ∧ ∀ k, k < n → arr[k * 2]? = some (.int .i64 (d k)) ∧ arr[k * 2 + 1]? = some (.int .i64 (f k))
theorem RowD.lt {w : World} {b n : Nat} {d f : Nat → Int} (r : RowD w b n d f) : b < w.heap.size := by obtain ⟨arr, e, _⟩ := r; exact lt_blk e
theorem RowD.of_eq {w w' : World} {b n : Nat} {d f : Nat → Int} (r : RowD w b n d f) (e : w'.heap[b]? = w.heap[b]?) : RowD w' b n d f := by
  obtain ⟨arr, h1, h2⟩ := r
  exact ⟨arr, e.trans h1, h2⟩
theorem RowD.below {w w' : World} {b n : Nat} {d f : Nat → Int} (r : RowD w b n d f) (hb : Below w.heap.size w w') : RowD w' b n d f := r.of_eq (hb.block b r.lt)
theorem RowD.cellD {w : World} {b n : Nat} {d f : Nat → Int} (r : RowD w b n d f) {k : Nat} (hk : k < n) : w.cell? ⟨b, k * 2, none⟩ = some (.int .i64 (d k)) := by
  obtain ⟨arr, e, _, g⟩ := r
  simp [World.cell?, e, (g k hk).1]
theorem RowD.cellF {w : World} {b n : Nat} {d f : Nat → Int} (r : RowD w b n d f) {k : Nat} (hk : k < n) : w.cell? ⟨b, k * 2 + 1, none⟩ = some (.int .i64 (f k)) := by
  obtain ⟨arr, e, _, g⟩ := r
  simp [World.cell?, e, (g k hk).2]
theorem RowD.there {w : World} {b n : Nat} {d f : Nat → Int} (r : RowD w b n d f) {k : Nat} (hk : k < n) : w.there b (k * 2) 2 := fun j hj => by
  refine ⟨?_, ?_⟩
  · match j, hj with
    | 0, _ => rw [Nat.add_zero, r.cellD hk]; rfl
    | 1, _ => rw [r.cellF hk]; rfl
  · obtain ⟨arr, e, _⟩ := r
    simp [World.frozen?, e]
theorem RowD.frozen {w : World} {b n : Nat} {d f : Nat → Int} (r : RowD w b n d f) (j : Nat) : w.frozen? ⟨b, j, none⟩ = false := by
  obtain ⟨arr, e, _⟩ := r
  simp [World.frozen?, e]
theorem RowD.half {w : World} {b n : Nat} {d f : Nat → Int} (r : RowD w b n d f) {k : Nat} (hk : k < n) (x : Int) : RowD (w.setCell ⟨b, k * 2, none⟩ (.int .i64 x)) b n (upd d k x) f := by
  obtain ⟨arr, h1, h2, h3⟩ := r
  refine ⟨arr.setIfInBounds (k * 2) (.int .i64 x), heap_setCell_same _ _ _ _ _ _ h1, by simp [h2], fun j hj => ?_⟩
  obtain ⟨g1, g2⟩ := h3 j hj
  by_cases e : j = k
  · subst e
    rw [upd_same]
    exact ⟨by rw [Array.getElem?_setIfInBounds_self_of_lt (by omega)], by rw [Array.getElem?_setIfInBounds_ne (by omega)]; exact g2⟩
  · rw [upd_ne _ _ e]
    exact ⟨by rw [Array.getElem?_setIfInBounds_ne (by omega)]; exact g1, by rw [Array.getElem?_setIfInBounds_ne (by omega)]; exact g2⟩
theorem RowD.congr {w : World} {b n : Nat} {d f d' f' : Nat → Int} (r : RowD w b n d f) (e : ∀ k, k < n → d k = d' k ∧ f k = f' k) : RowD w b n d' f' := by
  obtain ⟨arr, h1, h2, h3⟩ := r
  exact ⟨arr, h1, h2, fun k hk => by rw [← (e k hk).1, ← (e k hk).2]; exact h3 k hk⟩
theorem setCells2 (w : World) (b o : Nat) (x y : Value) : w.setCells b o [x, y] = (w.setCell ⟨b, o, none⟩ x).setCell ⟨b, o + 1, none⟩ y := rfl
theorem RowD.set {w : World} {b n : Nat} {d f : Nat → Int} (r : RowD w b n d f) {k : Nat} (hk : k < n) (x y : Int) : RowD (w.setCells b (k * 2) [.int .i64 x, .int .i64 y]) b n (upd d k x) (upd f k y) := by
  obtain ⟨arr, h1, h2, h3⟩ := r
  refine ⟨(arr.setIfInBounds (k * 2) (.int .i64 x)).setIfInBounds (k * 2 + 1) (.int .i64 y), ?_, by simp [h2], fun j hj => ?_⟩
  · rw [setCells2]
    exact heap_setCell_same _ _ _ _ _ _ (heap_setCell_same _ _ _ _ _ _ h1)
  · by_cases e : j = k
    · subst e
      rw [upd_same, upd_same]
      refine ⟨?_, ?_⟩
      · rw [Array.getElem?_setIfInBounds_ne (by omega), Array.getElem?_setIfInBounds_self_of_lt (by omega)]
      · rw [Array.getElem?_setIfInBounds_self_of_lt (by simp; omega)]
    · rw [upd_ne _ _ e, upd_ne _ _ e]
      obtain ⟨g1, g2⟩ := h3 j hj
      refine ⟨?_, ?_⟩
      · rw [Array.getElem?_setIfInBounds_ne (by omega), Array.getElem?_setIfInBounds_ne (by omega)]; exact g1
      · rw [Array.getElem?_setIfInBounds_ne (by omega), Array.getElem?_setIfInBounds_ne (by omega)]; exact g2
theorem RowD.set2 {w : World} {b n : Nat} {d f : Nat → Int} (r : RowD w b n d f) {k : Nat} (hk : k < n) (x y : Int) : RowD ((w.setCell ⟨b, k * 2, none⟩ (.int .i64 x)).setCell ⟨b, k * 2 + 1, none⟩ (.int .i64 y)) b n (upd d k x) (upd f k y) := r.set hk x y
theorem below_set2 {B b : Nat} {w w' : World} (hb : Below B w w') (hB : B ≤ b) (o : Nat) (x y : Value) : Below B w ((w'.setCell ⟨b, o, none⟩ x).setCell ⟨b, o + 1, none⟩ y) :=
  below_set (below_set hb (p := ⟨b, o, none⟩) hB x) (p := ⟨b, o + 1, none⟩) hB y
theorem RowD.made (w : World) (n : Nat) : RowD (w.alloc (.cells (madeCells #[.int .i64 0, .int .i64 0] (n * 2)) 65)) w.heap.size n (fun _ => 0) (fun _ => 0) := by
  refine ⟨_, heap_alloc_new w _, size_madeCells _ _, fun k hk => ⟨?_, ?_⟩⟩
  · have : k * 2 % 2 = 0 := by omega
    simp [madeCells, show k * 2 < n * 2 by omega, this]
  · have : (k * 2 + 1) % 2 = 1 := by omega
    simp [madeCells, show k * 2 + 1 < n * 2 by omega, this]
theorem below_setCells {B b : Nat} {w w' : World} (hb : Below B w w') (hB : B ≤ b) (o : Nat) (x y : Value) : Below B w (w'.setCells b o [x, y]) := by
  rw [setCells2]
  exact below_set (below_set hb (p := ⟨b, o, none⟩) hB x) (p := ⟨b, o + 1, none⟩) hB y
theorem make_steps (n : Nat) (hn : n ≤ 200) (w : World) : (Instr.makeSlice 62 (.int .i64 (n : Int)) (.int .i64 (n : Int))).run Try.prog w = .ok (.slice (some ⟨w.heap.size, 0, none⟩) n n) (w.alloc (.cells (madeCells #[.int .i64 0, .int .i64 0] (n * 2)) 65)) := by
  have hinfo : (Try.prog.info? 65).map (fun i => (i.zero, i.size, i.bytes)) = some (some (.agg #[.int .i64 0, .int .i64 0]), 2, 16) := by kernel_rfl
  obtain ⟨i, hi, hzz⟩ := Option.map_eq_some_iff.1 hinfo
  simp only [Prod.mk.injEq] at hzz
  obtain ⟨hz, hs, hb⟩ := hzz
  have hr := run_make (P := Try.prog) w 62 65 i _ Try.underlying62 hi hz .i64 .i64 n n (by omega) (Int.le_refl _) (by rw [hb]; omega) (by omega)
  simp only [Int.toNat_natCast, hs] at hr
  exact hr
/-- An owners' list in memory: there may be no column. -/
def OwnC (w : World) (a : Option Addr) (n : Nat) (ow : Nat → Int) : Prop := ∀ k, k < n → ∃ b, a = some ⟨b, 0, none⟩ ∧ RowC w b n ow
theorem OwnC.below {w w' : World} {a : Option Addr} {n : Nat} {ow : Nat → Int} (o : OwnC w a n ow) (hb : Below w.heap.size w w') : OwnC w' a n ow := fun k hk => by
  obtain ⟨b, e, r⟩ := o k hk
  exact ⟨b, e, r.below hb⟩
/-- Which column a row holds. -/
def HeldPost (n : Nat) (ow : Nat → Int) (row : Int) (w : World) (e : Ending) (w' : World) : Prop :=
  ∃ x : Int, e = .returned (.int .i64 x) ∧ ((x = -1 ∧ ∀ k, k < n → ow k ≠ row) ∨ ∃ k : Nat, k < n ∧ x = k ∧ ow k = row) ∧ w = w'
set_option maxHeartbeats 2000000 in
theorem held_any (b n cap : Nat) (ow : Nat → Int) (row : Int) (w : World) (hn : n ≤ 200) (hr : RowC w b n ow) :
    Calls Try.prog 40 #[.slice (some ⟨b, 0, none⟩) n cap, .int .i64 row] w (HeldPost n ow row w) := by
  have HR := Lib.hid hr; clear hr
  go_enter Try.func40, Try.ntmps40
  go_wp2
  go_loopw [5] (fun i wr => ∃ k : Nat, k ≤ n ∧ i = .int .i64 k ∧ (∀ j, j < k → ow j ≠ row) ∧ w = wr) (fun i _ => n - (intOf i).toNat)
  case atStart => exact ⟨0, Nat.zero_le _, rfl, fun j hj => by omega, rfl⟩
  case round =>
    obtain ⟨k, hk, rfl, hall, rfl⟩ := hrel
    have HA := Lib.hid hall; clear hall
    by_cases hlt : k < n
    · have g0 := HR.out.cell hlt
      generalize hX : ow k = X at *
      have HX := Lib.hid hX; clear hX
      by_cases he : X = row
      · have hb1 : (X == row) = true := by simpa using he
        have HE := Lib.hid he; clear he
        go_wp2
        go_ret
        exact ⟨k, rfl, .inr ⟨k, hlt, rfl, by rw [HX.out]; exact HE.out⟩, rfl⟩
      · have hb1 : (X == row) = false := by simpa using he
        have HE := Lib.hid he; clear he
        go_wp2
        go_roundw
        case rel => exact ⟨k + 1, by omega, by go_num, fun j hj => by
          by_cases e : j = k
          · subst e; rw [HX.out]; exact HE.out
          · exact HA.out j (by omega), trivial⟩
        case measure => simp [intOf]; omega
    · go_wp2
      go_ret
      exact ⟨-1, rfl, .inl ⟨rfl, fun j hj => HA.out j (by omega)⟩, rfl⟩
end Go.Proofs.Ytkpgphadgomifaa
