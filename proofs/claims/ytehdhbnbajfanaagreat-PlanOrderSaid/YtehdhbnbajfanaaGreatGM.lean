/- Texts of this seat, laid together: PlanDel, PlanRow4, PlanDelW, PlanLay2, PlanIter, PlanRefu, PlanRefu2, PlanProg4. -/
import Derived.Test.YtehdhbnbajfanaaGreatGL
import Derived.Lib.SliceRun
import Derived.Shelf.SlicesG.Reverse
import Derived.RangeFuncNested
import Derived.RangeFuncBound
import Derived.RangeFuncCalls
import Derived.RangeFuncLeaves
import Derived.Shelf.Abstract
import Derived.Shelf.RegionOpen
import Derived.OwnWalkIn
import Derived.TacticsInMore
import Derived.LoopNIn
import Derived.LoopIn
import Derived.Sort.OwnSortedInts

/- slices.IndexFunc over demands, at whatever predicate; plan.without$1: walked. -/
namespace Go.Proofs.YtehdhbnbajfanaaGreat
set_option linter.unusedSimpArgs false
set_option linter.unusedVariables false
open Go.RowKit Go.Sort Go.Shelf

/-- A function value says of these demands what p says, from world w0 on; it lays memory at most. -/
def PredC (g : Nat) (caps : Array Value) (p : De → Bool) (ds : List De) (B : Nat) (w0 : World) : Prop :=
  ∀ d ∈ ds, ∀ W, RowKit.Below B w0 W → Calls Tryz.prog g (#[.agg #[.int .i64 d.id, .int .i64 d.part, .int .i64 d.stand, .slice d.ea d.eds.length d.ecap]] ++ caps) W fun e W' => e = .returned (.bool (p d)) ∧ RowKit.Below W.heap.size W W'
def IdxFPost (p : De → Bool) (ds : List De) (w : World) (e : Ending) (w' : World) : Prop :=
  RowKit.Below w.heap.size w w' ∧ (((∀ d ∈ ds, p d = false) ∧ e = .returned (.int .i64 (-1))) ∨ ∃ (k : Nat) (hk : k < ds.length), e = .returned (.int .i64 k) ∧ p ds[k] = true ∧ ∀ j (hj : j < ds.length), j < k → p ds[j] = false)
set_option maxRecDepth 100000 in
set_option maxHeartbeats 4000000 in
theorem IndexFW_any (bi B : Nat) (p : De → Bool) (a : Option Addr) (cap : Nat) (ds : List De) (w : World) (hl : ds.length ≤ 1000) (hp : PredC 59 #[.pointer (some ⟨bi, 0, none⟩)] p ds B w) (hB : B ≤ w.heap.size) (hm : SlAt w a 4 (ds.map De.cells)) :
    Calls Tryz.prog 60 #[.slice a ds.length cap, .func (.func 59) #[] #[.pointer (some ⟨bi, 0, none⟩)]] w (IdxFPost p ds w) := by
  have HM := Lib.hid hm; have HP := Lib.hid hp
  clear hm hp
  go_enter Tryz.func60, Tryz.ntmps60
  go_wp2
  go_loopw [8] (fun i wr => ∃ k : Nat, k ≤ ds.length ∧ i = .int .i64 k ∧ (∀ j (hj : j < ds.length), j < k → p ds[j] = false) ∧ RowKit.Below w.heap.size w wr) (fun i _ => ds.length - (intOf i).toNat)
  case atStart => exact ⟨0, Nat.zero_le _, rfl, fun j hj h => by omega, RowKit.Below.refl _ _⟩
  case round =>
    obtain ⟨k, hk, rfl, hall, hb⟩ := hrel
    have HA := Lib.hid hall; have HB := Lib.hid hb
    clear hall hb
    by_cases hlt : k < ds.length
    · obtain ⟨b, off, rfl, e0, e1, e2, e3⟩ := De.at4 HM.out k hlt
      have g0 := keepE e0 HB.out; have g1 := keepE e1 HB.out; have g2 := keepE e2 HB.out; have g3 := keepE e3 HB.out
      clear e0 e1 e2 e3
      have HPk := Lib.hid (HP.out ds[k] (List.getElem_mem _) wr (HB.out.mono hB))
      have HT := Lib.hid (fun h : p ds[k] = true => (⟨k, hlt, rfl, h, HA.out⟩ : ∃ (k' : Nat) (hk : k' < ds.length), Ending.returned (.int .i64 k) = .returned (.int .i64 k') ∧ p ds[k'] = true ∧ ∀ j (hj : j < ds.length), j < k' → p ds[j] = false))
      have HF := Lib.hid (fun h : p ds[k] = false => (fun j (hj : j < ds.length) (hjk : j < k + 1) => if e : j = k then by subst e; exact h else HA.out j hj (by omega) : ∀ j (hj : j < ds.length), j < k + 1 → p ds[j] = false))
      generalize ds[k] = d at *
      go_wp2_with (fail)
      refine HPk.out.mono ?_
      rintro e w2 ⟨rfl, hb⟩
      replace HB := Lib.hid (HB.out.trans (hb.mono HB.out.size))
      clear hb
      cases hpd : p d
      · go_wp2
        go_roundw
        case rel => exact ⟨k + 1, by omega, by go_num, HF.out hpd, HB.out⟩
        case measure => simp [intOf]; omega
      · go_wp2
        go_ret
        exact ⟨HB.out, .inr (HT.out hpd)⟩
    · go_wp2
      go_ret
      exact ⟨HB.out, .inl ⟨fun d hd => by
        obtain ⟨j, hj, rfl⟩ := List.mem_iff_getElem.1 hd
        exact HA.out j hj (by omega), rfl⟩⟩
set_option maxRecDepth 100000 in
set_option maxHeartbeats 4000000 in
theorem IndexFR_any (bi B : Nat) (p : De → Bool) (a : Option Addr) (cap : Nat) (ds : List De) (w : World) (hl : ds.length ≤ 1000) (hp : PredC 37 #[.pointer (some ⟨bi, 0, none⟩)] p ds B w) (hB : B ≤ w.heap.size) (hm : SlAt w a 4 (ds.map De.cells)) :
    Calls Tryz.prog 60 #[.slice a ds.length cap, .func (.func 37) #[] #[.pointer (some ⟨bi, 0, none⟩)]] w (IdxFPost p ds w) := by
  have HM := Lib.hid hm; have HP := Lib.hid hp
  clear hm hp
  go_enter Tryz.func60, Tryz.ntmps60
  go_wp2
  go_loopw [8] (fun i wr => ∃ k : Nat, k ≤ ds.length ∧ i = .int .i64 k ∧ (∀ j (hj : j < ds.length), j < k → p ds[j] = false) ∧ RowKit.Below w.heap.size w wr) (fun i _ => ds.length - (intOf i).toNat)
  case atStart => exact ⟨0, Nat.zero_le _, rfl, fun j hj h => by omega, RowKit.Below.refl _ _⟩
  case round =>
    obtain ⟨k, hk, rfl, hall, hb⟩ := hrel
    have HA := Lib.hid hall; have HB := Lib.hid hb
    clear hall hb
    by_cases hlt : k < ds.length
    · obtain ⟨b, off, rfl, e0, e1, e2, e3⟩ := De.at4 HM.out k hlt
      have g0 := keepE e0 HB.out; have g1 := keepE e1 HB.out; have g2 := keepE e2 HB.out; have g3 := keepE e3 HB.out
      clear e0 e1 e2 e3
      have HPk := Lib.hid (HP.out ds[k] (List.getElem_mem _) wr (HB.out.mono hB))
      have HT := Lib.hid (fun h : p ds[k] = true => (⟨k, hlt, rfl, h, HA.out⟩ : ∃ (k' : Nat) (hk : k' < ds.length), Ending.returned (.int .i64 k) = .returned (.int .i64 k') ∧ p ds[k'] = true ∧ ∀ j (hj : j < ds.length), j < k' → p ds[j] = false))
      have HF := Lib.hid (fun h : p ds[k] = false => (fun j (hj : j < ds.length) (hjk : j < k + 1) => if e : j = k then by subst e; exact h else HA.out j hj (by omega) : ∀ j (hj : j < ds.length), j < k + 1 → p ds[j] = false))
      generalize ds[k] = d at *
      go_wp2_with (fail)
      refine HPk.out.mono ?_
      rintro e w2 ⟨rfl, hb⟩
      replace HB := Lib.hid (HB.out.trans (hb.mono HB.out.size))
      clear hb
      cases hpd : p d
      · go_wp2
        go_roundw
        case rel => exact ⟨k + 1, by omega, by go_num, HF.out hpd, HB.out⟩
        case measure => simp [intOf]; omega
      · go_wp2
        go_ret
        exact ⟨HB.out, .inr (HT.out hpd)⟩
    · go_wp2
      go_ret
      exact ⟨HB.out, .inl ⟨fun d hd => by
        obtain ⟨j, hj, rfl⟩ := List.mem_iff_getElem.1 hd
        exact HA.out j hj (by omega), rfl⟩⟩
end Go.Proofs.YtehdhbnbajfanaaGreat


/- Rows of demands that are written in place; clear over structs. -/
namespace Go.Proofs.YtehdhbnbajfanaaGreat
set_option linter.unusedSimpArgs false
set_option linter.unusedVariables false
open Go.RowKit Go.Sort Go.Shelf

/-- Block g is a row of demands, F t at index t. -/
def DR (w : World) (g n : Nat) (F : Nat → De) : Prop :=
  ∃ arr : Array Value, w.heap[g]? = some (.cells arr 46 (0, 0)) ∧ n * 4 ≤ arr.size ∧ ∀ t, t < n → arr[t * 4]? = some (.int .i64 (F t).id) ∧ arr[t * 4 + 1]? = some (.int .i64 (F t).part) ∧ arr[t * 4 + 2]? = some (.int .i64 (F t).stand) ∧ arr[t * 4 + 3]? = some (.slice (F t).ea (F t).eds.length (F t).ecap)
theorem DR.lt {w : World} {g n : Nat} {F : Nat → De} (r : DR w g n F) : g < w.heap.size := by obtain ⟨arr, e, _⟩ := r; exact lt_blk e
theorem DR.of_eq {w w' : World} {g n : Nat} {F : Nat → De} (r : DR w g n F) (e : w'.heap[g]? = w.heap[g]?) : DR w' g n F := by
  obtain ⟨arr, h1, h2⟩ := r; exact ⟨arr, e.trans h1, h2⟩
theorem DR.below {w w' : World} {g n : Nat} {F : Nat → De} (r : DR w g n F) (hb : RowKit.Below w.heap.size w w') : DR w' g n F := r.of_eq (hb.block g r.lt)
theorem DR.cells {w : World} {g n : Nat} {F : Nat → De} (r : DR w g n F) {t : Nat} (ht : t < n) : w.cell? ⟨g, t * 4, none⟩ = some (.int .i64 (F t).id) ∧ w.cell? ⟨g, t * 4 + 1, none⟩ = some (.int .i64 (F t).part) ∧ w.cell? ⟨g, t * 4 + 2, none⟩ = some (.int .i64 (F t).stand) ∧ w.cell? ⟨g, t * 4 + 3, none⟩ = some (.slice (F t).ea (F t).eds.length (F t).ecap) := by
  obtain ⟨arr, h1, h2, h3⟩ := r
  obtain ⟨a0, a1, a2, a3⟩ := h3 t ht
  simp only [World.cell?, h1]
  exact ⟨a0, a1, a2, a3⟩
theorem DR.frozen {w : World} {g n : Nat} {F : Nat → De} (r : DR w g n F) (o : Nat) : w.frozen? ⟨g, o, none⟩ = false := by
  obtain ⟨arr, e, _⟩ := r
  simp [World.frozen?, e]
theorem DR.congr {w : World} {g n : Nat} {F G : Nat → De} (r : DR w g n F) (h : ∀ t, t < n → F t = G t) : DR w g n G := by
  obtain ⟨arr, h1, h2, h3⟩ := r
  exact ⟨arr, h1, h2, fun t ht => by rw [← h t ht]; exact h3 t ht⟩
theorem DR.of_slat {w : World} {g : Nat} {cur : Array Value} {l : List De} (hc : w.heap[g]? = some (.cells cur 46 (0, 0))) (hs : SlAt w (some ⟨g, 0, none⟩) 4 (l.map De.cells)) : DR w g l.length (fun t => l.getD t default) := by
  have hg : ∀ t (ht : t < l.length), cur[t * 4]? = some (.int .i64 l[t].id) ∧ cur[t * 4 + 1]? = some (.int .i64 l[t].part) ∧ cur[t * 4 + 2]? = some (.int .i64 l[t].stand) ∧ cur[t * 4 + 3]? = some (.slice l[t].ea l[t].eds.length l[t].ecap) := fun t ht => by
    obtain ⟨b, off, e, c0, c1, c2, c3⟩ := De.at4 hs t ht
    cases e
    simp only [World.cell?, hc, Nat.zero_add] at c0 c1 c2 c3
    exact ⟨c0, c1, c2, c3⟩
  refine ⟨cur, hc, ?_, fun t ht => ?_⟩
  · rcases Nat.eq_zero_or_pos l.length with h | h
    · omega
    · have := (hg (l.length - 1) (by omega)).2.2.2
      have := (Array.getElem?_eq_some_iff.1 this).1
      omega
  · have : l.getD t default = l[t] := by simp [List.getD, ht]
    simp only [this]
    exact hg t ht
theorem DR.slat {w : World} {g n : Nat} {F : Nat → De} (r : DR w g n F) {m : Nat} (hm : m ≤ n) : SlAt w (some ⟨g, 0, none⟩) 4 (((List.range m).map F).map De.cells) := fun i row hr => by
  have hi : i < m := by have := (List.getElem?_eq_some_iff.1 hr).1; simpa using this
  have he : row = (F i).cells := by have := (List.getElem?_eq_some_iff.1 hr).2; simp at this; exact this.symm
  subst he
  obtain ⟨c0, c1, c2, c3⟩ := r.cells (t := i) (by omega)
  refine ⟨g, 0, rfl, r.lt, rfl, fun j u hu => ?_⟩
  have hj : j < 4 := by have := (List.getElem?_eq_some_iff.1 hu).1; exact this
  rw [Nat.zero_add]
  match j, hj with
  | 0, _ => cases hu; exact c0
  | 1, _ => cases hu; exact c1
  | 2, _ => cases hu; exact c2
  | 3, _ => cases hu; exact c3
/-- The four stores of a demand. -/
def put4 (w : World) (g t : Nat) (d : De) : World := (((w.setCell ⟨g, t * 4, none⟩ (.int .i64 d.id)).setCell ⟨g, t * 4 + 1, none⟩ (.int .i64 d.part)).setCell ⟨g, t * 4 + 2, none⟩ (.int .i64 d.stand)).setCell ⟨g, t * 4 + 3, none⟩ (.slice d.ea d.eds.length d.ecap)
theorem DR.put {w : World} {g n : Nat} {F : Nat → De} (r : DR w g n F) {t : Nat} (ht : t < n) (d : De) : DR (put4 w g t d) g n (upd F t d) := by
  obtain ⟨arr, h1, h2, h3⟩ := r
  refine ⟨_, heap_setCell_same _ _ _ _ _ _ (heap_setCell_same _ _ _ _ _ _ (heap_setCell_same _ _ _ _ _ _ (heap_setCell_same _ _ _ _ _ _ h1))), by simpa using h2, fun j hj => ?_⟩
  by_cases e : j = t
  · subst e
    rw [upd_same]
    refine ⟨?_, ?_, ?_, ?_⟩
    · rw [Array.getElem?_setIfInBounds_ne (by omega), Array.getElem?_setIfInBounds_ne (by omega), Array.getElem?_setIfInBounds_ne (by omega), Array.getElem?_setIfInBounds_self_of_lt (by omega)]
    · rw [Array.getElem?_setIfInBounds_ne (by omega), Array.getElem?_setIfInBounds_ne (by omega), Array.getElem?_setIfInBounds_self_of_lt (by simp; omega)]
    · rw [Array.getElem?_setIfInBounds_ne (by omega), Array.getElem?_setIfInBounds_self_of_lt (by simp; omega)]
    · rw [Array.getElem?_setIfInBounds_self_of_lt (by simp; omega)]
  · rw [upd_ne _ _ e]
    obtain ⟨g0, g1, g2, g3⟩ := h3 j hj
    refine ⟨?_, ?_, ?_, ?_⟩ <;> (rw [Array.getElem?_setIfInBounds_ne (by omega), Array.getElem?_setIfInBounds_ne (by omega), Array.getElem?_setIfInBounds_ne (by omega), Array.getElem?_setIfInBounds_ne (by omega)]; assumption)
theorem below_put4 {B g : Nat} {w w' : World} (hb : RowKit.Below B w w') (hB : B ≤ g) (t : Nat) (d : De) : RowKit.Below B w (put4 w' g t d) :=
  below_set (below_set (below_set (below_set hb (p := ⟨g, t * 4, none⟩) hB _) (p := ⟨g, t * 4 + 1, none⟩) hB _) (p := ⟨g, t * 4 + 2, none⟩) hB _) (p := ⟨g, t * 4 + 3, none⟩) hB _
/-- What a walk wants at the store of a demand. -/
theorem DR.facts {w : World} {g n : Nat} {F : Nat → De} (r : DR w g n F) {t : Nat} (ht : t < n) (d : De) :
    (∃ v, w.cell? ⟨g, t * 4, none⟩ = some v) ∧ w.frozen? ⟨g, t * 4, none⟩ = false ∧
    (∃ v, (w.setCell ⟨g, t * 4, none⟩ (.int .i64 d.id)).cell? ⟨g, t * 4 + 1, none⟩ = some v) ∧ (w.setCell ⟨g, t * 4, none⟩ (.int .i64 d.id)).frozen? ⟨g, t * 4 + 1, none⟩ = false ∧
    (∃ v, ((w.setCell ⟨g, t * 4, none⟩ (.int .i64 d.id)).setCell ⟨g, t * 4 + 1, none⟩ (.int .i64 d.part)).cell? ⟨g, t * 4 + 2, none⟩ = some v) ∧ ((w.setCell ⟨g, t * 4, none⟩ (.int .i64 d.id)).setCell ⟨g, t * 4 + 1, none⟩ (.int .i64 d.part)).frozen? ⟨g, t * 4 + 2, none⟩ = false ∧
    (∃ v, (((w.setCell ⟨g, t * 4, none⟩ (.int .i64 d.id)).setCell ⟨g, t * 4 + 1, none⟩ (.int .i64 d.part)).setCell ⟨g, t * 4 + 2, none⟩ (.int .i64 d.stand)).cell? ⟨g, t * 4 + 3, none⟩ = some v) ∧ (((w.setCell ⟨g, t * 4, none⟩ (.int .i64 d.id)).setCell ⟨g, t * 4 + 1, none⟩ (.int .i64 d.part)).setCell ⟨g, t * 4 + 2, none⟩ (.int .i64 d.stand)).frozen? ⟨g, t * 4 + 3, none⟩ = false := by
  obtain ⟨c0, c1, c2, c3⟩ := r.cells ht
  obtain ⟨arr, h1, _⟩ := r
  have e1 := heap_setCell_same w g (t * 4) arr 46 (.int .i64 d.id) h1
  have e2 := heap_setCell_same _ g (t * 4 + 1) _ 46 (.int .i64 d.part) e1
  have e3 := heap_setCell_same _ g (t * 4 + 2) _ 46 (.int .i64 d.stand) e2
  refine ⟨⟨_, c0⟩, by simp [World.frozen?, h1], ⟨_, (World.cell?_setCell_other _ _ _ _ (by simp)).trans c1⟩, by simp [World.frozen?, e1], ⟨_, ((World.cell?_setCell_other _ _ _ _ (by simp)).trans (World.cell?_setCell_other _ _ _ _ (by simp))).trans c2⟩, by simp [World.frozen?, e2],
    ⟨_, (((World.cell?_setCell_other _ _ _ _ (by simp)).trans (World.cell?_setCell_other _ _ _ _ (by simp))).trans (World.cell?_setCell_other _ _ _ _ (by simp))).trans c3⟩, by simp [World.frozen?, e3]⟩
/-- 'clear(s)' over elements of k cells. -/
theorem run_clear_rows {P : Program} (w : World) (t e ty : TypeId) (z : Value) (k : Nat) (ht : P.underlying t = some (.slice e)) (hv : ∀ w, (zeroValue e).run P w = .ok z w) (hz : z.cells.size = k) (hk : 0 < k) (h1 : ∀ v ∈ z.cells, v.oneCell' = true) (b o n c : Nat) (hn : 0 < n)
    (hc : ∀ j, j < n * k → (w.cell? ⟨b, o + j, none⟩).isSome = true) (hf : ∀ j, j < n * k → w.frozen? ⟨b, o + j, none⟩ = false) :
    (Builtin.clear_ #[t] ty #[.slice (some ⟨b, o, none⟩) n c]).run P w = .ok (.tuple #[]) (w.setCells b o (Builtin.zeroCells z.cells n).toList) := by
  have hlen : (Builtin.zeroCells z.cells n).toList.length = n * k := by
    simp [Builtin.zeroCells, hz, Nat.mul_comm]
  have h2 : ∀ v ∈ (Builtin.zeroCells z.cells n).toList, v.oneCell' = true := fun v hv' => by
    simp [Builtin.zeroCells] at hv'
    obtain ⟨i, hi, rfl⟩ := hv'
    have hp : 0 < z.cells.size := by omega
    rw [getElem!_pos z.cells _ (Nat.mod_lt _ hp)]
    exact h1 _ (Array.getElem_mem _)
  have hst := run_storeCells_cells (P := P) b o (Builtin.zeroCells z.cells n).toList 0 w (by rw [hlen]; simpa using hc) (by rw [hlen]; simpa using hf) h2
  simp only [Nat.add_zero] at hst
  obtain ⟨m, rfl⟩ : ∃ m, n = m + 1 := ⟨n - 1, by omega⟩
  simp [Builtin.clear_, run_underlying ht, hv, hst]
end Go.Proofs.YtehdhbnbajfanaaGreat


/- slices.DeleteFunc over demands, plan.without: walked. -/
namespace Go.Proofs.YtehdhbnbajfanaaGreat
set_option linter.unusedSimpArgs false
set_option linter.unusedVariables false
open Go.RowKit Go.Sort Go.Shelf

theorem zeroDe (w : World) : (zeroValue 46).run Tryz.prog w = .ok (.agg #[.int .i64 0, .int .i64 0, .int .i64 0, .slice none 0 0]) w := by kernel_rfl
theorem DR.some {w : World} {g n : Nat} {F : Nat → De} (r : DR w g n F) (o : Nat) (ho : o < n * 4) : (w.cell? ⟨g, o, none⟩).isSome = true := by
  obtain ⟨arr, h1, h2, _⟩ := r
  simp only [World.cell?, h1]
  rw [Array.getElem?_eq_getElem (by omega)]; rfl
theorem below_cells {B : Nat} {a : World} (b : Nat) (hb : B ≤ b) : ∀ (vs : List Value) (o : Nat) {w : World}, RowKit.Below B a w → RowKit.Below B a (w.setCells b o vs)
  | [], _, _, h => h
  | v :: vs, o, _, h => below_cells b hb vs (o + 1) (h.setCell hb v)
/-- The slice cut to what is kept. -/
def DelPost (p : De → Bool) (l : List De) (g cap B : Nat) (w : World) (e : Ending) (w' : World) : Prop :=
  e = .returned (.slice (some ⟨g, 0, none⟩) (l.filter fun d => !p d).length cap) ∧ SlAt w' (some ⟨g, 0, none⟩) 4 ((l.filter fun d => !p d).map De.cells) ∧ RowKit.Below B w w'
theorem pre_take (p : De → Bool) {l : List De} {k : Nat} (hk : k < l.length) (h1 : p l[k] = true) (h2 : ∀ j (hj : j < l.length), j < k → p l[j] = false) : (l.take (k + 1)).filter (fun d => !p d) = l.take k := by
  rw [(filt_next (fun d => !p d) l k hk).2 (by simp [h1])]
  rw [List.filter_eq_self]
  intro d hd
  obtain ⟨j, hj, rfl⟩ := List.mem_iff_getElem.1 hd
  rw [List.length_take] at hj
  rw [List.getElem_take]
  simp [h2 j (by omega) (by omega)]
set_option maxRecDepth 100000 in
set_option maxHeartbeats 4000000 in
theorem DelFW_any (bi B g cap : Nat) (p : De → Bool) (l : List De) (w : World) (hl : l.length ≤ 1000) (hcap : l.length ≤ cap) (hp : PredC 59 #[.pointer (some ⟨bi, 0, none⟩)] p l B w) (hB : B ≤ g) (hr : DR w g l.length (fun t => l.getD t default)) :
    Calls Tryz.prog 57 #[.slice (some ⟨g, 0, none⟩) l.length cap, .func (.func 59) #[] #[.pointer (some ⟨bi, 0, none⟩)]] w (DelPost p l g cap B w) := by
  have HR := Lib.hid hr; have HP := Lib.hid hp; have HBG := Lib.hid hB; have HCAP := Lib.hid hcap
  have HL := Lib.hid (show ((List.range l.length).map fun t => l.getD t default) = l from List.ext_getElem (by simp) fun i h1 h2 => by simp [List.getD, h2])
  have hsz := hr.lt
  clear hr hp hB
  go_enter Tryz.func57, Tryz.ntmps57
  go_wp2_with (fail)
  have hs0 := HR.out.slat (Nat.le_refl _)
  rw [HL.out] at hs0
  refine (IndexFW_any bi B p (some ⟨g, 0, none⟩) cap l w hl HP.out (by have := HBG.out; omega) hs0).mono ?_
  clear hs0
  rintro e w1 ⟨hb, ⟨hno, rfl⟩ | ⟨k, hk, rfl, hyes, hpre⟩⟩
  · have HB := Lib.hid hb; have HNO := Lib.hid hno
    clear hb hno
    go_wp2
    go_ret
    have hf : (l.filter fun d => !p d) = l := List.filter_eq_self.2 fun d hd => by simp [HNO.out d hd]
    rw [DelPost, hf]
    have hs := (HR.out.below HB.out).slat (Nat.le_refl _)
    rw [HL.out] at hs
    exact ⟨rfl, hs, HB.out.mono (by have := HBG.out; omega)⟩
  · have HB := Lib.hid (show RowKit.Below B w w1 from hb.mono (by have := HBG.out; omega)); have HPT := Lib.hid (pre_take p hk hyes hpre)
    have HR1 := Lib.hid (HR.out.below hb)
    have hne : ((k : Int) == -1) = false := by simp <;> omega
    clear hb hyes hpre HR
    have HKL := Lib.hid hk
    go_wp2
    go_loopw [5, 6] (fun s5 s6 wr => ∃ (i j : Nat) (F : Nat → De), j ≤ l.length ∧ i < j ∧ s6 = .int .i64 j ∧ s5 = .int .i64 i ∧ DR wr g l.length F ∧ (List.range i).map F = (l.take j).filter (fun d => !p d) ∧ (∀ t (ht : t < l.length), j ≤ t → F t = l[t]) ∧ RowKit.Below B w wr) (fun _ s6 _ => l.length - (intOf s6).toNat)
    case atStart => exact ⟨k, k + 1, _, by omega, by omega, by go_num, rfl, HR1.out, by
      rw [HPT.out]
      exact List.ext_getElem (by simp; omega) fun i h1 h2 => by
        simp only [List.length_map, List.length_range] at h1
        simp [List.getD, show i < l.length by omega], fun t ht _ => by simp [List.getD, ht], HB.out⟩
    case round =>
      clear HB HR1 HPT hne
      obtain ⟨i, j, F, hj, hij, rfl, rfl, hr, hkept, hrest, hb⟩ := hrel
      have HR := Lib.hid hr; have HB := Lib.hid hb; have HKP := Lib.hid hkept; have HRS := Lib.hid hrest
      clear hr hb hkept hrest
      by_cases hlt : j < l.length
      · obtain ⟨c0, c1, c2, c3⟩ := HR.out.cells hlt
        have HFJ := Lib.hid (HRS.out j hlt (Nat.le_refl _))
        obtain ⟨f1, f2⟩ := filt_next (fun d => !p d) l j hlt
        have F1 := Lib.hid f1; have F2 := Lib.hid f2
        clear f1 f2
        have HPJ := Lib.hid (HP.out l[j] (List.getElem_mem _))
        rw [HRS.out j hlt (Nat.le_refl _)] at c0 c1 c2 c3
        generalize l[j] = d at *
        have HBX := Lib.hid (below_box (w := wr) (.cells #[.int .i64 d.id, .int .i64 d.part, .int .i64 d.stand, .slice d.ea d.eds.length d.ecap] 46))
        have hbx : (wr.alloc (.cells #[.int .i64 d.id, .int .i64 d.part, .int .i64 d.stand, .slice d.ea d.eds.length d.ecap] 46)).heap[wr.heap.size]? = some (.cells #[.int .i64 d.id, .int .i64 d.part, .int .i64 d.stand, .slice d.ea d.eds.length d.ecap] 46) := heap_alloc_new _ _
        have HBOX := Lib.hid hbx
        clear hbx
        go_wp2_with (fail)
        refine (HPJ.out _ (HB.out.alloc (by have := HR.out.lt; have := HBG.out; omega) _)).mono ?_
        rintro e w3 ⟨rfl, hb3⟩
        have HB3 := Lib.hid (HBX.out.trans (hb3.mono HBX.out.size))
        have hbox3 := (hb3.block _ (lt_blk HBOX.out)).trans HBOX.out
        clear hb3 c0 c1 c2 c3
        have hcb := box_cells hbox3
        replace HB := Lib.hid (HB.out.trans (HB3.out.mono (by have := HR.out.lt; have := HBG.out; omega)))
        replace HR := Lib.hid (HR.out.below HB3.out)
        cases hpd : p d
        · have HPD := Lib.hid (show (!p d) = true by rw [hpd]; rfl)
          obtain ⟨⟨v0, q0⟩, z0, ⟨v1, q1⟩, z1, ⟨v2, q2⟩, z2, ⟨v3, q3⟩, z3⟩ := HR.out.facts (t := i) (by omega) d
          go_wp2
          go_roundw
          case rel => exact ⟨i + 1, j + 1, upd F i d, by omega, by omega, by go_num, by go_num, HR.out.put (by omega) d, by
            rw [F1.out HPD.out, List.range_succ, List.map_append, ← HKP.out]
            congr 1
            · exact List.map_congr_left fun t ht => upd_ne _ _ (by have := List.mem_range.1 ht; omega)
            · simp [upd_same], fun t ht htj => by rw [upd_ne _ _ (by omega)]; exact HRS.out t ht (by omega), below_put4 HB.out HBG.out i d⟩
          case measure => simp [intOf]; omega
        · have HPD := Lib.hid (show (!p d) = false by rw [hpd]; rfl)
          go_wp2
          go_roundw
          case rel => exact ⟨i, j + 1, F, by omega, by omega, by go_num, rfl, HR.out, by rw [F2.out HPD.out]; exact HKP.out, fun t ht htj => HRS.out t ht (by omega), HB.out⟩
          case measure => simp [intOf]; omega
      · have hjn : j = l.length := by omega
        have HKL2 := Lib.hid (show (l.filter fun d => !p d) = (List.range i).map F by rw [HKP.out, hjn, List.take_length])
        have hin : i < l.length := by omega
        have hcl : ∀ ty c, (Builtin.clear_ #[22] ty #[.slice (some ⟨g, i * 4, none⟩) (l.length - i) c]).run Tryz.prog wr = .ok (.tuple #[]) (wr.setCells g (i * 4) (Builtin.zeroCells (Value.agg #[.int .i64 0, .int .i64 0, .int .i64 0, .slice none 0 0]).cells (l.length - i)).toList) :=
          fun ty c => run_clear_rows wr _ _ ty _ 4 Tryz.underlying22 zeroDe rfl (by decide) (fun v hv => by simp [Value.cells] at hv; rcases hv with rfl | rfl <;> rfl) g (i * 4) _ c (by omega) (fun t ht => HR.out.some _ (by omega)) (fun t ht => HR.out.frozen _)
        clear hjn
        go_wp2
        go_ret
        rw [DelPost, HKL2.out]
        refine ⟨by simp, ?_, below_cells g HBG.out _ _ HB.out⟩
        intro t r hr
        obtain ⟨b, off, e, h1, h2, h3⟩ := HR.out.slat (m := i) (by omega) t r hr
        cases e
        have ht : t < i := by have := (List.getElem?_eq_some_iff.1 hr).1; simpa using this
        refine ⟨g, 0, rfl, Nat.lt_of_lt_of_le h1 (below_cells (B := 0) g (Nat.zero_le _) _ _ (RowKit.Below.refl 0 wr)).size, h2, fun c u hu => ?_⟩
        have hc : c < 4 := by have := (List.getElem?_eq_some_iff.1 hu).1; omega
        rw [World.cell?_setCells_out]
        · exact h3 c u hu
        · intro _ _; left; show 0 + t * 4 + c < i * 4; omega
theorem predW {w : World} {bi B : Nat} {id : Int} {E : TypeId} (h : w.heap[bi]? = some (.cells #[.int .i64 id] E (0, 0))) (hb : bi < B) (l : List De) : PredC 59 #[.pointer (some ⟨bi, 0, none⟩)] (fun d => d.id == id) l B w := fun d hd W hW => by
  have hx := box_cells ((hW.block bi hb).trans h) 0
  have HB := Lib.hid (below_box (w := W) (.cells #[.int .i64 d.id, .int .i64 d.part, .int .i64 d.stand, .slice d.ea d.eds.length d.ecap] 46))
  have hy := keepE (show W.cell? ⟨bi, 0, none⟩ = some (.int .i64 id) from hx) HB.out
  clear hx h hW
  show Calls Tryz.prog 59 #[.agg #[.int .i64 d.id, .int .i64 d.part, .int .i64 d.stand, .slice d.ea d.eds.length d.ecap], .pointer (some ⟨bi, 0, none⟩)] W fun e W' => e = .returned (.bool (d.id == id)) ∧ _
  go_enter Tryz.func59, Tryz.ntmps59
  go_wp2
  go_ret
  exact ⟨rfl, HB.out⟩
set_option maxRecDepth 100000 in
set_option maxHeartbeats 4000000 in
theorem without_any (a : Option Addr) (cap : Nat) (ds : List De) (id : Int) (w : World) (h0 : ds ≠ []) (hl : ds.length ≤ 1000) (hm : DeAt w a ds) :
    Calls Tryz.prog 35 #[.slice a ds.length cap, .int .i64 id] w (DesPost (lessL ds id) w) := by
  have HM := Lib.hid hm; have H0 := Lib.hid h0
  clear hm h0
  have hbx : (w.alloc (.cells #[.int .i64 id] 3)).heap[w.heap.size]? = some (.cells #[.int .i64 id] 3) := heap_alloc_new _ _
  have HBOX := Lib.hid hbx
  clear hbx
  have HBX := Lib.hid (below_box (w := w) (.cells #[.int .i64 id] 3))
  go_enter Tryz.func35, Tryz.ntmps35
  go_wp2_with (fail)
  refine (CloneD_any a cap ds _ H0.out hl (HM.out.rows.below HBX.out)).mono ?_
  rintro e w1 ⟨v, rfl, ho, hb⟩
  obtain ⟨a1, cap1, ev, hs1, hat⟩ := ho.slAt
  obtain ⟨_, _, ⟨_, hz⟩ | ⟨g, cap2, cur, rfl, hg, hc, hle, _⟩⟩ := ho
  · exact absurd (List.length_eq_zero_iff.1 (by simpa using hz)) H0.out
  cases ev
  simp only [List.length_map] at hle hs1 ⊢
  have HB := Lib.hid (HBX.out.trans (hb.mono HBX.out.size))
  have HDR := Lib.hid (DR.of_slat hc hat)
  have hsz : (w.alloc (.cells #[.int .i64 id] 3)).heap.size = w.heap.size + 1 := by simp
  rw [hsz] at hg hb
  have HPW := Lib.hid (predW (B := w.heap.size + 1) ((hb.block _ (by omega)).trans HBOX.out) (by omega) ds)
  have HG := Lib.hid hg
  clear hc hat hb hg hsz
  go_wp2_with (fail)
  refine (DelFW_any w.heap.size (w.heap.size + 1) g cap1 (fun d => d.id == id) ds w1 hl hle HPW.out HG.out HDR.out).mono ?_
  rintro e w2 ⟨rfl, hat, hb⟩
  replace HB := Lib.hid (HB.out.trans (hb.mono (by omega)))
  have HA := Lib.hid hat
  clear hat hb
  go_wp2
  go_ret
  have e1 : (ds.filter fun d => !(d.id == id)) = lessL ds id := rfl
  rw [e1] at HA
  exact ⟨some ⟨g, 0, none⟩, cap1, by rw [e1]; rfl, ⟨Nat.le_trans (less_len _ _) hle, (fun e => by cases e), (fun ad e => by cases e; rfl)⟩, ⟨HA.out, fun d hd => (HM.out.ok d (less_sub hd)).below HB.out⟩, HB.out⟩
end Go.Proofs.YtehdhbnbajfanaaGreat

/- Library contracts laid at this program (written by the shelf's plain mode). -/
namespace Go.Proofs.YtehdhbnbajfanaaGreat
set_option linter.unusedSimpArgs false
set_option linter.unusedVariables false
open Go.Shelf
def Lay.revI_ren : Go.Shelf.Ren := ⟨fun | 35 => 43 | n => n, fun | 22 => 24 | 23 => 3 | 3 => 3 | 4 => 4 | 0 => 0 | n => n, fun | n => n⟩
theorem Lay.revI : Go.Proofs.SlLaysN.n35 Tryz.prog Lay.revI_ren := {
  mixed := by kernel_rfl
  f35 := ⟨Tryz.f43.name, by decide, Tryz.func43.trans (congrArg some (by kernel_rfl))⟩
  t0 := Tryz.underlying0
  a0 := Tryz.isAgg0
  z0 := Tryz.sizeOf0
  v0 := Tryz.zeroValue0
  t3 := Tryz.underlying3
  a3 := Tryz.isAgg3
  z3 := Tryz.sizeOf3
  v3 := Tryz.zeroValue3
  t4 := Tryz.underlying4
  a4 := Tryz.isAgg4
  z4 := Tryz.sizeOf4
  v4 := Tryz.zeroValue4
  t22 := Tryz.underlying24
  a22 := Tryz.isAgg24
  z22 := Tryz.sizeOf24
  v22 := Tryz.zeroValue24
  t23 := Tryz.underlying3
  a23 := Tryz.isAgg3
  z23 := Tryz.sizeOf3
  v23 := Tryz.zeroValue3 }
end Go.Proofs.YtehdhbnbajfanaaGreat


/- slices.Values over demands: the iterator's contract; for not too many demands. -/
namespace Go.Proofs.YtehdhbnbajfanaaGreat
set_option linter.unusedSimpArgs false
set_option linter.unusedVariables false
open Go.RowKit Go.Sort Go.Shelf
attribute [local go_sem] Oper.semAt_some

/-- What lay below n0, but for the blocks a and b, lies as it lay. -/
structure Kept2 (n0 a b : Nat) (W W' : World) : Prop where
  size : W.heap.size ≤ W'.heap.size
  block : ∀ k, k < n0 → k ≠ a → k ≠ b → W'.heap[k]? = W.heap[k]?
theorem Kept2.refl (n0 a b : Nat) (W : World) : Kept2 n0 a b W W := ⟨Nat.le_refl _, fun _ _ _ _ => rfl⟩
theorem Kept2.trans {n0 a b : Nat} {X Y Z : World} (h : Kept2 n0 a b X Y) (k : Kept2 n0 a b Y Z) : Kept2 n0 a b X Z := ⟨Nat.le_trans h.size k.size, fun i hi ha hb => (k.block i hi ha hb).trans (h.block i hi ha hb)⟩
theorem Kept2.alloc {n0 a b : Nat} {X Y : World} (h : Kept2 n0 a b X Y) (hn : n0 ≤ Y.heap.size) (o : Obj) : Kept2 n0 a b X (Y.alloc o) := h.trans ⟨by simp, fun k hk _ _ => Below.heap_alloc _ _ _ (by omega)⟩
theorem Kept2.grown {n0 a b : Nat} {X Y Z : World} (h : Kept2 n0 a b X Y) {row : Option Nat} (hg : Y.grownBy Z row) (hn : n0 ≤ Y.heap.size) (hr : ∀ r, row = some r → n0 ≤ r) : Kept2 n0 a b X Z :=
  h.trans ⟨hg.size, fun k hk _ _ => hg.block k (by omega) (fun e => by have := hr k e.symm; omega)⟩
/-- The rows of a slice whose blocks lie below n0 and are neither a nor b. -/
structure FarAt (W : World) (n0 a b : Nat) (p : Option Addr) (sz : Nat) (rows : List (List Value)) : Prop where
  at_ : SlAt W p sz rows
  far : ∀ q, p = some q → rows ≠ [] → q.block < n0 ∧ q.block ≠ a ∧ q.block ≠ b
theorem FarAt.kept {W W' : World} {n0 a b : Nat} {p : Option Addr} {sz : Nat} {rows : List (List Value)} (h : FarAt W n0 a b p sz rows) (hk : Kept2 n0 a b W W') : FarAt W' n0 a b p sz rows :=
  ⟨fun i r hr => by
    obtain ⟨bk, off, e, hlt, hl, hc⟩ := h.at_ i r hr
    obtain ⟨h1, h2, h3⟩ := h.far _ e (fun e' => by subst e'; simp at hr)
    exact ⟨bk, off, e, Nat.lt_of_lt_of_le hlt hk.size, hl, fun j v hv => (World.cell?_of_block (w := W) (hk.block bk h1 h2 h3)).trans (hc j v hv)⟩, h.far⟩


abbrev encD (x : De) : Array Value := #[.agg #[.int .i64 x.id, .int .i64 x.part, .int .i64 x.stand, .slice x.ea x.eds.length x.ecap]]
set_option maxHeartbeats 2000000 in
set_option maxRecDepth 100000 in
theorem values1_in (F : Fence) (n : Nat) (hF : F.fn 87) (hro : F.round = none) (hn : 1 ≤ n) (lo bl n0 a b : Nat) (p : Option Addr) (cap : Nat) (l : List De) (J Jx : List De → World → Prop) (W : World)
    (hl : l.length ≤ 1000) (hn0 : n0 ≤ W.heap.size) (hbl : W.heap[bl]? = some (.cells #[.slice p l.length cap] 22)) 
    (hr : FarAt W n0 a b p 4 (l.map De.cells)) (hJ : AbidesFrom W.heap.size J)
    (hY : ∀ pre x W1, J pre W1 → pre.length < l.length → YieldAt F (n - 1) Tryz.prog lo (encD x) W1 fun e W' =>
      (e = .returned (.bool true) ∧ J (pre ++ [x]) W' ∧ Kept2 n0 a b W1 W') ∨ (e = .returned (.bool false) ∧ Jx (pre ++ [x]) W')) (h0 : J [] W) :
    CallsIn F n Tryz.prog 87 (#[.func (.yield lo) #[] #[]] ++ #[.pointer (some ⟨bl, 0, none⟩)]) W fun e W' => (∃ v, e = .returned v) ∧ ((∃ xs, xs = l ∧ J xs W') ∨ (∃ pre, True ∧ Jx pre W')) := by
  have hc1 := box_cells hbl
  have HR := Lib.hid hr; clear hr
  have HBL := Lib.hid hbl; clear hbl
  have HN0 := Lib.hid hn0; clear hn0
  refine callsIn_of_wp Tryz.func87 rfl hF ?_ hro
  simp only [Tryz.ntmps87, List.size_toArray, List.length_cons, List.length_nil, Nat.reduceAdd, Nat.reduceSub, Array.replicate_succ, Array.replicate_zero, List.push_toArray, List.append_toArray, List.nil_append, List.cons_append]
  gi_wp2
  gi_loopw [7] (fun i wr => ∃ k : Nat, ∃ hk : k ≤ l.length, i = .int .i64 k ∧ J (l.take k) wr ∧ Kept2 n0 a b W wr) (fun i _ => l.length - (intOf i).toNat)
  case atStart => exact ⟨0, Nat.zero_le _, rfl, h0, Kept2.refl _ _ _ _⟩
  case round =>
    obtain ⟨k, hk, rfl, hJk, hK⟩ := hrel
    have HK := Lib.hid hK; clear hK
    by_cases hlt : k < l.length
    · have HR1 := HR.out.kept HK.out
      obtain ⟨b1, o1, rfl, c0, c1, c2, c3⟩ := De.at4 HR1.at_ k hlt
      have hblt : b1 < wr.heap.size := World.block_lt_of_cell? _ _ c0
      clear hc1
      obtain ⟨fn, tmps, assign, body, hy, hRd⟩ := hY (l.take k) l[k] (wr.alloc (.cells #[.int .i64 l[k].id, .int .i64 l[k].part, .int .i64 l[k].stand, .slice l[k].ea l[k].eds.length l[k].ecap] 46)) (hJ _ _ _ none hJk (World.grownBy_alloc _ _ _) (fun r e => by cases e)) (by simp; omega)
      dsimp only [encD] at hy
      have HN := Lib.hid (HN0.out : n0 ≤ W.heap.size)
      gi_wp2
      refine hRd.mono ?_
      rintro e W3 (⟨rfl, hJ3, hk3⟩ | ⟨rfl, hJx3⟩)
      · gi_wp2
        go_roundw
        case rel =>
          refine ⟨k + 1, by omega, by go_num, ?_, (HK.out.alloc (Nat.le_trans HN0.out HK.out.size) _).trans hk3⟩
          rw [List.take_succ_eq_append_getElem hlt]; exact hJ3
        case measure => simp [intOf]; omega
      · gi_wp2
        refine bodyPost_ret (results_none rfl _ _ _) rfl ?_
        exact ⟨⟨_, rfl⟩, .inr ⟨_, trivial, hJx3⟩⟩
    · obtain rfl : k = l.length := by omega
      gi_wp2
      go_end0
      refine ⟨⟨_, rfl⟩, .inl ⟨l.take l.length, ?_, hJk⟩⟩
      exact List.take_length
end Go.Proofs.YtehdhbnbajfanaaGreat


/- slices.Reverse over integers that the call owns; from there the program's refusal. -/
namespace Go.Proofs.YtehdhbnbajfanaaGreat
set_option linter.unusedSimpArgs false
set_option linter.unusedVariables false
open Go.RowKit Go.Sort Go.Shelf

theorem grow_none (w : World) : grow w #[] = w := by simp [grow]
theorem revI_any (B : Nat) (v : Value) (l : List Int) (w : World) (hne : l ≠ []) (hl : l.length ≤ 1000000) (hB : B ≤ w.heap.size) (o : OwnR w B 3 1 v (l.map inRow)) :
    Calls Tryz.prog 43 #[v] w fun e w' => e = .returned (.tuple #[]) ∧ OwnR w' B 3 1 v (l.reverse.map inRow) ∧ RowKit.Below B w w' ∧ w.grownBy w' v.ownBlock := by
  obtain ⟨_, h1, h2⟩ := o
  rcases h2 with ⟨_, h2⟩ | ⟨g, cap, cur, rfl, hg, hc, h3, h4, h5, h6⟩
  · exact absurd (List.length_eq_zero_iff.1 (by simpa using h2)) hne
  · rw [List.length_map] at h3 h6 ⊢
    rw [Nat.mul_one, flat_in] at h6
    have := AnyG.slices_Reverse_int (P := Tryz.prog) Lay.revI g 0 cap l w (holds_of_blockI hc h6) (by omega)
    refine Calls.mono this ?_
    rintro e w' ⟨rfl, n, rfl⟩
    have hgr := grownBy_sortedI (w := w) (g := g) (n := n) (os := #[]) l.reverse.toArray
    rw [grow_none] at hgr
    refine ⟨rfl, ⟨by simp [inRow], ?_⟩, Lib.below_putRow (RowKit.Below.refl B w) hg, hgr⟩
    have := ownsRow_sortedI (w := w) (n := n) (os := #[]) (ss := l) (ts := l.reverse) (by simp) hg hc h3 h4 h5
    rw [grow_none] at this
    rw [flat_in, List.length_map, List.length_reverse]
    exact this
end Go.Proofs.YtehdhbnbajfanaaGreat


/- The program's refusal: walked; for valid demands and copies that are not met. -/
namespace Go.Proofs.YtehdhbnbajfanaaGreat
set_option linter.unusedSimpArgs false
set_option linter.unusedVariables false
open Go.RowKit Go.Sort Go.Shelf
attribute [local go_sem] Oper.semAt_some

theorem appEIn {F : Fence} {nF : Nat} {P : Program} {w : World} {ops : Array Oper} {rest : List Oper} {o : Oper} {a : Act} {Q : Exit → Act → World → Prop} {T E : TypeId} {sz bytes : Nat} {α : Type} {f : α → List Value} (he : Elt P T E sz bytes f)
    (hgd : o.guard = none) (s x : Operand) (ho : o.op = .call { callee := .builtin .append, args := #[s, x], argTypes := #[T, T] })
    (B : Nat) (v : Value) (l : List α) (hs : a.eval s = v) (hown : OwnR w B E sz v (l.map f))
    (ad : Addr) (m c : Nat) (news : List α) (hx : a.eval x = .slice (some ad) m c) (hm : m = news.length) (hn : news ≠ []) (hnews : SlAt w (some ad) sz (news.map f))
    (hlen : l.length + news.length ≤ 1048576) (hbase : B ≤ w.heap.size)
    (h : ∀ v' w', OwnR w' B E sz v' ((l ++ news).map f) → w.grownBy w' v.ownBlock → wpListIn F nF P ops Q rest (a.put o.dst v') w') : wpListIn F nF P ops Q (o :: rest) a w := by
  obtain ⟨z, hi, hz⟩ := he.info
  obtain ⟨i, hi, hz0, hz1, hz2⟩ := info_parts hi
  subst hm
  have hwn : ∀ r ∈ news.map f, r.length = sz := fun r hr => by obtain ⟨y, _, rfl⟩ := List.mem_map.1 hr; exact he.len y
  have hww : ∀ r ∈ (l ++ news).map f, r.length = sz := fun r hr => by obtain ⟨y, _, rfl⟩ := List.mem_map.1 hr; exact he.len y
  have hcell : ∀ j u, (news.map f).flatten[j]? = some u → w.cell? (ad.add j) = some u := by
    obtain ⟨y, l', rfl⟩ := List.exists_cons_of_ne_nil hn
    obtain ⟨b, off, e, _⟩ := hnews 0 (f y) rfl
    cases e
    exact hnews.flat
  have hown' := hown.own
  rw [List.length_map] at hown'
  exact wpListIn_append_own w hgd s x T ho B E i z sz bytes he.ty hi hz0 hz1 hz2 hz he.pos v l.length (l.map f).flatten hs hown' ad news.length c (news.map f).flatten hx (by rw [flat_len _ sz hwn, List.length_map]) hcell
    (oneCell_flat fun r hr u hu => by obtain ⟨y, _, rfl⟩ := List.mem_map.1 hr; exact he.one y u hu) (by unfold maxLen; omega) (Nat.le_trans (Nat.mul_le_mul hlen he.small) (by decide)) hbase
    fun v' w' ho' hg _ => h v' w' ⟨hww, by rw [List.length_map, List.length_append, List.map_append, List.flatten_append]; exact ho'⟩ hg
/-- What a walk of blocks that are no cells leaves. -/
theorem SlAt.keptRow {A B : World} {row : Option Nat} {a : Option Addr} {sz : Nat} {rows : List (List Value)} (h : SlAt A a sz rows) (hg : A.grownBy B row) (hr : ∀ r, row = some r → ∃ o : Obj, A.heap[r]? = some o ∧ o.isCells = false) : SlAt B a sz rows := fun i r hi => by
  obtain ⟨b, off, e, h1, h2, h3⟩ := h i r hi
  exact ⟨b, off, e, Nat.lt_of_lt_of_le h1 hg.size, h2, fun j u hu => cell_kept (h3 j u hu) hg hr⟩
theorem DeAt.keptRow {A B : World} {row : Option Nat} {a : Option Addr} {l : List De} (h : DeAt A a l) (hg : A.grownBy B row) (hr : ∀ r, row = some r → ∃ o : Obj, A.heap[r]? = some o ∧ o.isCells = false) : DeAt B a l :=
  ⟨h.rows.keptRow hg hr, fun d hd => ⟨(h.ok d hd).sl, (h.ok d hd).ints.keptRow hg hr⟩⟩
theorem blk_keptRow {A B : World} {row : Option Nat} {b n0 : Nat} {o : Obj} (h : A.heap[b]? = some o) (hg : A.grownBy B row) (hr : ∀ r, row = some r → n0 ≤ r ∧ ∃ o : Obj, A.heap[r]? = some o ∧ o.isCells = false) (hb : b < n0) : B.heap[b]? = some o :=
  (hg.block b (lt_blk h) (fun e => by have := (hr b e.symm).1; omega)).trans h
theorem SlAt.setOther {W : World} {a : Option Addr} {sz : Nat} {rows : List (List Value)} {b k : Nat} (h : SlAt W a sz rows) (hne : ∀ ad, a = some ad → rows ≠ [] → ad.block ≠ b) (v : Value) : SlAt (W.setCell ⟨b, k, none⟩ v) a sz rows := fun i r hi => by
  obtain ⟨b1, off, e, h1, h2, h3⟩ := h i r hi
  have hn := hne _ e (fun e' => by subst e'; simp at hi)
  exact ⟨b1, off, e, by simpa using h1, h2, fun j u hu => (World.cell?_setCell_other _ _ _ _ (fun e => hn (by cases e; rfl))).trans (h3 j u hu)⟩
theorem DeAt.setBox {W : World} {a : Option Addr} {l : List De} {b n c : Nat} {ad : Option Addr} {E : TypeId} (h : DeAt W a l) (hb : W.heap[b]? = some (.cells #[.slice ad n c] E (0, 0))) (v : Value) : DeAt (W.setCell ⟨b, 0, none⟩ v) a l := by
  have hc := box_cells hb
  refine ⟨h.rows.setOther (fun q hq hne => ?_) v, fun d hd => ⟨(h.ok d hd).sl, SlAt.setOther (h.ok d hd).ints (fun q hq hne => ?_) v⟩⟩
  · obtain ⟨r0, rs, e⟩ := List.exists_cons_of_ne_nil hne
    obtain ⟨b0, o0, e0, _, h2, h3⟩ := h.rows 0 r0 (by rw [e]; rfl)
    rw [hq] at e0; cases e0
    intro eb
    have h4 := h3 3 (r0[3]'(by omega)) (by simp)
    simp only at eb
    rw [eb, hc] at h4
    simp at h4
  · obtain ⟨r0, rs, e⟩ := List.exists_cons_of_ne_nil hne
    obtain ⟨x0, hx0⟩ : ∃ x0, r0 = inRow x0 := by
      have : r0 ∈ d.eds.map inRow := by rw [e]; simp
      obtain ⟨x0, _, hx⟩ := List.mem_map.1 this
      exact ⟨x0, hx.symm⟩
    obtain ⟨b0, o0, e0, _, h2, h3⟩ := (h.ok d hd).ints 0 r0 (by rw [e]; rfl)
    rw [hq] at e0; cases e0
    intro eb
    have h4 := h3 0 (.int .i64 x0) (by rw [hx0]; rfl)
    simp only at eb
    rw [eb, hc] at h4
    cases hq2 : (0 + (o0 + 0 * 1)) with
    | zero => simp [show o0 = 0 by omega] at h4
    | succ m => simp [show o0 ≠ 0 by omega] at h4
theorem OwnR.neBlk {w : World} {B k : Nat} {E : TypeId} {sz : Nat} {v : Value} {rows : List (List Value)} (o : OwnR w B E sz v rows) (h : k < B) : some k ≠ v.ownBlock := fun e => by have := (o.lt k e.symm).1; omega
theorem OwnR.isCells {w : World} {B k : Nat} {E : TypeId} {sz : Nat} {v : Value} {rows : List (List Value)} (o : OwnR w B E sz v rows) (h : v.ownBlock = some k) : ∃ cur, w.heap[k]? = some (.cells cur E (0, 0)) := by
  obtain ⟨_, _, ⟨rfl, _⟩ | ⟨g, cap, cur, rfl, _, hc, _⟩⟩ := o
  · cases h
  · cases h; exact ⟨cur, hc⟩
theorem OwnR.keptRow {A A' : World} {row : Option Nat} {B : Nat} {E : TypeId} {sz : Nat} {v : Value} {rows : List (List Value)} (o : OwnR A B E sz v rows) (hg : A.grownBy A' row) (hr : ∀ r, row = some r → ∃ o : Obj, A.heap[r]? = some o ∧ o.isCells = false) : OwnR A' B E sz v rows := by
  refine o.kept hg ?_
  cases hv : v.ownBlock with
  | none => exact .inl rfl
  | some k =>
    right
    intro e
    obtain ⟨cur, hc⟩ := o.isCells hv
    obtain ⟨o', ho, hn⟩ := hr k e.symm
    rw [hc] at ho; cases ho; cases hn
theorem OwnR.setOther {w : World} {B b : Nat} {E : TypeId} {sz : Nat} {v : Value} {rows : List (List Value)} (o : OwnR w B E sz v rows) (h : b < B) (x : Value) : OwnR (w.setCell ⟨b, 0, none⟩ x) B E sz v rows := by
  refine o.kept (grownBy_setCell' _ _ _) ?_
  cases hv : v.ownBlock with
  | none => exact .inl rfl
  | some j => exact .inr (fun e => by have := (o.lt j hv).1; cases e; omega)
theorem met_nil (cs : List Co) : metB cs [] = true := metB_iff.2 ⟨fun _ => 0, fun i hi => absurd hi (Nat.not_lt_zero _), fun i hi => absurd hi (Nat.not_lt_zero _), fun i j hi => absurd hi (Nat.not_lt_zero _)⟩
theorem refu1_no {cs : List Co} {l : List De} {id : Int} (h : metB cs l = false) : metB cs (refu1 cs l id) = false := by
  unfold refu1
  cases q : metB cs (lessL l id)
  · simpa using q
  · simpa using h
theorem refu_no {cs : List Co} {ids : List Int} {l : List De} (h : metB cs l = false) : metB cs (refuL cs ids l) = false := by
  induction ids generalizing l with
  | nil => exact h
  | cons i ids ih => exact ih (refu1_no h)
theorem no_ne {cs : List Co} {l : List De} (h : metB cs l = false) : l ≠ [] := fun e => by subst e; rw [met_nil] at h; cases h
theorem refu_snoc (cs : List Co) (ids : List Int) (id : Int) (ds : List De) : refuL cs (ids ++ [id]) ds = refu1 cs (refuL cs ids ds) id := by simp [refuL, List.foldl_append]
set_option maxHeartbeats 4000000 in
set_option maxRecDepth 100000 in
theorem refusal_any (a a2 : Option Addr) (cap cap2 : Nat) (ds : List De) (cs : List Co) (hall : Int) (w : World) (hv : validB ds cs = true) (hh : inR 0 99 hall = true) (hno : metB cs ds = false) (hm : DeAt w a ds) (hc : CoAt w a2 cs) :
    Calls Tryz.prog 27 #[.agg #[.slice a2 cs.length cap2, .int .i64 hall], .slice a ds.length cap] w (IntsPost (answerL cs ds) w) := by
  have VD := vd_of hv
  refine (callsIn_wide (n := 8)).1 ?_
  refine callsIn_of_wp_marks Tryz.func27 rfl trivial ?_ rfl
  simp only [Tryz.ntmps27, List.size_toArray, List.length_cons, List.length_nil, Nat.reduceAdd, Nat.reduceSub, Array.replicate_succ, Array.replicate_zero, List.push_toArray, List.append_toArray, List.nil_append, List.cons_append]
  have HM := Lib.hid hm; have HC := Lib.hid hc; have HV := Lib.hid hv; have HNO := Lib.hid hno
  clear hm hc hv hno
  obtain ⟨w2, hw2⟩ : ∃ w2, w2 = (w.alloc (.cells #[.slice a2 cs.length cap2, .int .i64 hall] 58)).alloc (.cells #[.slice a ds.length cap] 22) := ⟨_, rfl⟩
  have hsz : w2.heap.size = w.heap.size + 2 := by rw [hw2]; simp
  have hb2 : RowKit.Below w.heap.size w w2 := by rw [hw2]; exact ((RowKit.Below.refl _ w).alloc (Nat.le_refl _) _).alloc (by simp) _
  have k0 : w2.heap[w.heap.size]? = some (.cells #[.slice a2 cs.length cap2, .int .i64 hall] 58) := by rw [hw2]; exact up_alloc (heap_alloc_new w _) _
  have k1 : w2.heap[w.heap.size + 1]? = some (.cells #[.slice a ds.length cap] 22) := by rw [hw2]; exact at_alloc _ _ (by simp)
  gi_wp2_with (gi_at_call 42; fail)
  rw [← hw2]
  clear hw2
  refine ⟨trivial, (callsIn_wide.2 (falling_any a cap ds w2 (no_ne HNO.out) (by have := VD.n1; omega) (fun d hd => by have := VD.ids d hd; omega) (HM.out.below hb2))).mono ?_⟩
  rintro e w3 ⟨S, bS, gS, cS, rfl, hbS, hatS, hpS, hfS, hb3, hg3, hbb3⟩
  have HPS := Lib.hid hpS; have HFS := Lib.hid hfS
  have hSl : S.length = ds.length := hpS.length_eq
  have k0 := (hb3.block _ (by omega)).trans k0
  have k1 := (hb3.block _ (by omega)).trans k1
  have HBW := Lib.hid (hb2.trans (hb3.mono (by omega)))
  have hz3 := hb3.size
  clear hpS hfS hb2
  have h8 : S.length ≤ 1000 := by have := VD.n1; omega
  gi_wp2
  refine wpIn_rangeFunc_ownH (α := De) rfl (by omega) (gf := 87) (lb := #[.pointer (some ⟨bS, 0, none⟩)]) rfl trivial (enters_of Tryz.func87 (by kernel_rfl) rfl)
    (encs := encD) (Kp := Kept2 w3.heap.size (w.heap.size + 1) (w.heap.size + 1)) (S := fun xs => xs = S) (Sp := fun _ => True) (N := S.length) (w0 := w3) ?hseq Kept2.trans ?hKb (RowKit.Below.refl _ _) (fun _ => rfl)
    (fun pre W => ∃ aL cL, W.heap[w.heap.size + 1]? = some (.cells #[.slice aL (refuL cs (pre.map De.id) ds).length cL] 22) ∧ DeAt W aL (refuL cs (pre.map De.id) ds) ∧ W.heap[w.heap.size]? = some (.cells #[.slice a2 cs.length cap2, .int .i64 hall] 58) ∧ RowKit.Below w.heap.size w W ∧ w3.heap.size ≤ W.heap.size)
    (fun _ _ _ => False) ?hI (fun _ _ _ _ _ hs _ _ => hs) ⟨a, cap, k1, HM.out.below HBW.out, k0, HBW.out, Nat.le_refl _⟩
    (fun x a' W => ∃ Bx, w3.heap.size ≤ Bx ∧ W.heap[Bx]? = some (.cells #[.int .i64 x.id, .int .i64 x.part, .int .i64 x.stand, .slice x.ea x.eds.length x.ecap] 46) ∧ a' = { tmps := #[.agg #[.slice a2 cs.length cap2, .int .i64 hall], .slice a ds.length cap, .pointer (some ⟨w.heap.size, 0, none⟩), undef, .slice none 0 0, .pointer (some ⟨w.heap.size + 1, 0, none⟩), .pointer (some ⟨Bx, 0, none⟩), undef, undef, undef, undef, undef, undef, .slice a ds.length cap, .slice a ds.length cap, .func (.func 87) #[] #[.pointer (some ⟨bS, 0, none⟩)], .agg #[.int .i64 x.id, .int .i64 x.part, .int .i64 x.stand, .slice x.ea x.eds.length x.ecap], undef, undef, undef, undef, undef, undef, undef, undef, undef, undef, undef, undef, undef, undef, undef, undef, undef, undef, undef, undef, undef, undef, undef, undef, undef], defers := [] })
    ?hAx ?hassign ?hbody ?hdone ?hstop
  case hseq =>
    intro l0 J Jx W hW hJ _ hY h0
    have hfar : FarAt W w3.heap.size (w.heap.size + 1) (w.heap.size + 1) (some ⟨gS, 0, none⟩) 4 (S.map De.cells) := by
      refine ⟨hatS.below hW, fun q hq hne => ?_⟩
      cases hq
      obtain ⟨r0, rs, e⟩ := List.exists_cons_of_ne_nil hne
      obtain ⟨b0, o0, e0, h0, _⟩ := hatS 0 r0 (by rw [e]; rfl)
      cases e0
      exact ⟨h0, by show gS ≠ _; omega, by show gS ≠ _; omega⟩
    exact values1_in Fence.wide 7 trivial rfl (by omega) l0 bS w3.heap.size (w.heap.size + 1) (w.heap.size + 1) (some ⟨gS, 0, none⟩) cS S J Jx W h8 hW.size (blk_keep hbS hW) hfar hJ hY h0
  case hKb =>
    intro W l0 o o' hl0 hW _ _
    exact (Kept2.refl _ _ _ _).trans ⟨by simp, fun k hk _ _ => World.putObj_heap_other (by omega)⟩
  case hI =>
    rintro s W W' row ⟨aL, cL, i1, i2, i3, i4, i5⟩ hg hrow
    exact ⟨aL, cL, blk_keptRow i1 hg hrow (by omega), i2.keptRow hg (fun r e => (hrow r e).2), blk_keptRow i3 hg hrow (by omega), i4.grown hg i4.size (fun k e => by have := (hrow k e).1; omega), Nat.le_trans i5 hg.size⟩
  case hAx =>
    rintro x a' s W W' row ⟨Bx, h1, h2, h3⟩ hg hrow
    refine ⟨Bx, h1, (hg.block _ (lt_of_block h2) (fun e => ?_)).trans h2, h3⟩
    obtain ⟨_, o, ho, hc⟩ := hrow Bx e.symm
    rw [h2] at ho; cases ho; cases hc
  case hassign =>
    rintro l0 pre x W K ⟨aL, cL, i1, i2, i3, i4, i5⟩ hK
    gi_wp2
    exact hK _ _ ((KeepsOthers.alloc _ _).from _) ((Kept2.refl _ _ _ _).alloc i5 _) ⟨aL, cL, up_alloc i1 _, i2.below (below_box _), up_alloc i3 _, i4.alloc i4.size _, by simp; omega⟩ ⟨W.heap.size, i5, heap_alloc_new _ _, rfl⟩
  case hbody =>
    rintro l0 pre x a' W hl0 ⟨r, hr0⟩ ⟨aL, cL, i1, i2, i3, i4, i5⟩ ⟨Bx, hBx, hbx, rfl⟩ hlt
    have c1 := box_cells i1
    have f1 := box_free i1
    have cx := box_cells hbx
    have c0 := box_cells i3
    have HSUB := Lib.hid (refu_subl cs (pre.map De.id) ds)
    have HNL := Lib.hid (refu_no (ids := pre.map De.id) HNO.out)
    have HRS := Lib.hid (refu_snoc cs (pre.map De.id) x.id ds)
    generalize refuL cs (pre.map De.id) ds = L at *
    have HLL := Lib.hid (show L.length ≤ 200 by have := HSUB.out.length_le; have := VD.n1; omega)
    have I2 := Lib.hid i2
    clear i2
    gi_wp2_with (gi_at_call 35; fail)
    refine ⟨trivial, ?_⟩
    refine (CallsIn.inRound l0 (callsIn_wide.2 (without_any aL cL L x.id W (no_ne HNL.out) (by have := HLL.out; omega) I2.out))).mono ?_
    rintro e W3 ⟨a5, c5, rfl, hs5, hd5, hb5⟩
    have HD5 := Lib.hid hd5
    have i1 := blk_keep i1 hb5
    have i3 := blk_keep i3 hb5
    replace I2 := Lib.hid (I2.out.below hb5)
    have c1 := box_cells i1
    have f1 := box_free i1
    have c0 := box_cells i3
    have HS5 := Lib.hid hs5
    have HB5 := Lib.hid hb5
    clear hb5 hs5 hd5 cx
    gi_wp2_with (gi_at_call 26; fail)
    refine ⟨trivial, ?_⟩
    refine (CallsIn.inRound l0 (callsIn_wide.2 (met_any a5 a2 c5 cap2 (lessL L x.id) cs hall W3 (valid_sub ((less_subl _ _).trans HSUB.out) HV.out) hh HD5.out (HC.out.below (i4.trans (HB5.out.mono i4.size)))))).mono ?_
    rintro e W4 ⟨_, _, _, _, _, ok, rfl, hok, _, hb4⟩
    have i1 := blk_keep i1 hb4
    have i3 := blk_keep i3 hb4
    replace I2 := Lib.hid (I2.out.below hb4)
    replace HD5 := Lib.hid (HD5.out.below hb4)
    have c1 := box_cells i1
    have f1 := box_free i1
    have HB4 := Lib.hid (HB5.out.trans (hb4.mono HB5.out.size))
    have HOK := Lib.hid hok
    have hz4 := HB4.out.size
    clear hb4 hok c0
    cases ok
    · gi_wp2
      refine ⟨⟨by simp; omega, fun k o hk h0 ho => (Below.heap_setCell _ _ _ k (by show k ≠ w.heap.size + 1; omega)).trans ((HB4.out.block k (lt_blk h0)).trans h0)⟩, ⟨by simp; omega, fun k hk ha hb => (Below.heap_setCell _ _ _ k ha).trans (HB4.out.block k (by omega))⟩, a5, c5, ?_, ?_, ?_, ?_, ?_⟩
      · rw [List.map_append, List.map_singleton, HRS.out, refu1, HOK.out]
        exact heap_setCell_same _ _ _ _ _ _ i1
      · rw [List.map_append, List.map_singleton, HRS.out, refu1, HOK.out]
        exact HD5.out.setBox i1 _
      · exact (Below.heap_setCell _ _ _ _ (by show w.heap.size ≠ w.heap.size + 1; omega)).trans i3
      · exact (i4.trans (HB4.out.mono i4.size)).setCell (p := ⟨w.heap.size + 1, 0, none⟩) (by show w.heap.size ≤ w.heap.size + 1; omega) _
      · simp; omega
    · gi_wp2
      refine ⟨⟨hz4, fun k o hk h0 ho => (HB4.out.block k (lt_blk h0)).trans h0⟩, ⟨hz4, fun k hk ha hb => HB4.out.block k (by omega)⟩, aL, cL, ?_, ?_, i3, i4.trans (HB4.out.mono i4.size), by omega⟩
      · rw [List.map_append, List.map_singleton, HRS.out, refu1, HOK.out]
        exact i1
      · rw [List.map_append, List.map_singleton, HRS.out, refu1, HOK.out]
        exact I2.out
  case hdone =>
    rintro D xs W hD rfl ⟨aL, cL, i1, i2, i3, i4, i5⟩ hK
    have hids : xs.map De.id = downL (ds.map De.id) := down_eq VD.nd (HPS.out.map De.id) HFS.out
    have HNL := Lib.hid (refu_no (ids := xs.map De.id) HNO.out)
    have hsub := refu_subl cs (xs.map De.id) ds
    have HAN := Lib.hid (show answerL cs ds = (downL ((refuL cs (xs.map De.id) ds).map De.id)).reverse by rw [hids]; rfl)
    have HVL := Lib.hid (vd_of (valid_sub hsub HV.out))
    generalize refuL cs (xs.map De.id) ds = L at *
    have HI2 := Lib.hid i2
    have hz5 := i4.size
    clear hsub hids i2 hatS
    have hDlt := lt_blk hK
    obtain ⟨W1, hW1⟩ : ∃ W1, W1 = W.alloc (.cells #[.slice none 0 0] 24) := ⟨_, rfl⟩
    have hb1 : RowKit.Below W.heap.size W W1 := by rw [hW1]; exact below_box _
    have hz1 : W1.heap.size = W.heap.size + 1 := by rw [hW1]; simp
    have k1 := blk_keep i1 hb1
    have hK1 := blk_keep hK hb1
    have ko : W1.heap[W.heap.size]? = some (.cells #[.slice none 0 0] 24) := by rw [hW1]; exact heap_alloc_new _ _
    have c1 := keepE (show W.cell? ⟨w.heap.size + 1, 0, none⟩ = some (.slice aL L.length cL) from box_cells i1 0) (below_box (.cells #[.slice none 0 0] 24))
    gi_wp2_with (gi_at_call 42; fail)
    rw [← hW1]
    clear hW1
    refine ⟨trivial, (callsIn_wide.2 (falling_any aL cL L W1 (no_ne HNL.out) (by have := HVL.out.n1; omega) (fun d hd => by have := HVL.out.ids d hd; omega) (HI2.out.below hb1))).mono ?_⟩
    rintro e w4 ⟨T, bT, gT, cT, rfl, hbT, hatT, hpT, hfT, hb4, hg4, hbb4⟩
    have hTid : T.map De.id = downL (L.map De.id) := down_eq HVL.out.nd (hpT.map De.id) hfT
    have HTI := Lib.hid hTid
    have h9 : T.length ≤ 1000 := by have := hpT.length_eq; have := HVL.out.n1; omega
    have HBW4 := Lib.hid ((i4.trans (hb1.mono i4.size)).trans (hb4.mono (by omega)))
    have ko := blk_keep ko hb4
    have hK1 := blk_keep hK1 hb4
    have hz4 := hb4.size
    clear hpT hfT hTid k1 c1 i1 i3 hK
    gi_wp2
    refine wpIn_rangeFunc_ownH (α := De) rfl (by omega) (gf := 87) (lb := #[.pointer (some ⟨bT, 0, none⟩)]) rfl trivial (enters_of Tryz.func87 (by kernel_rfl) rfl)
      (encs := encD) (Kp := Kept2 w4.heap.size W.heap.size W.heap.size) (S := fun ys => ys = T) (Sp := fun _ => True) (N := T.length) (w0 := w4) ?hseq2 Kept2.trans ?hKb2 (RowKit.Below.refl _ _) (fun _ => rfl)
      (fun pre V => ∃ v, V.heap[W.heap.size]? = some (.cells #[v] 24) ∧ OwnR V w4.heap.size 3 1 v ((pre.map De.id).map inRow) ∧ V.heap[D]? = some (.deferred (some [])) ∧ RowKit.Below w.heap.size w V ∧ w4.heap.size ≤ V.heap.size)
      (fun _ _ _ => False) ?hI2 (fun _ _ _ _ _ hs _ _ => hs) ⟨_, ko, OwnR.nil _ _ _ _, hK1, HBW4.out, Nat.le_refl _⟩
      (fun x a' V => ∃ Bx, w4.heap.size ≤ Bx ∧ V.heap[Bx]? = some (.cells #[.int .i64 x.id, .int .i64 x.part, .int .i64 x.stand, .slice x.ea x.eds.length x.ecap] 46) ∧ a' = { tmps := #[.agg #[.slice a2 cs.length cap2, .int .i64 hall], .slice a ds.length cap, .pointer (some ⟨w.heap.size, 0, none⟩), undef, .slice none 0 0, .pointer (some ⟨w.heap.size + 1, 0, none⟩), undef, undef, undef, undef, undef, .pointer (some ⟨W.heap.size, 0, none⟩), .pointer (some ⟨Bx, 0, none⟩), .slice a ds.length cap, .slice a ds.length cap, .func (.func 87) #[] #[.pointer (some ⟨bS, 0, none⟩)], undef, undef, undef, undef, undef, undef, undef, undef, undef, undef, undef, undef, undef, undef, undef, .slice aL L.length cL, .func (.func 87) #[] #[.pointer (some ⟨bT, 0, none⟩)], .agg #[.int .i64 x.id, .int .i64 x.part, .int .i64 x.stand, .slice x.ea x.eds.length x.ecap], undef, undef, undef, undef, undef, undef, undef, undef], defers := [] })
      ?hAx2 ?hassign2 ?hbody2 ?hdone2 ?hstop2
    case hseq2 =>
      intro l0 J Jx V hW hJ _ hY h0
      have hfar : FarAt V w4.heap.size W.heap.size W.heap.size (some ⟨gT, 0, none⟩) 4 (T.map De.cells) := by
        refine ⟨hatT.below hW, fun q hq hne => ?_⟩
        cases hq
        obtain ⟨r0, rs, e⟩ := List.exists_cons_of_ne_nil hne
        obtain ⟨b0, o0, e0, h0, _⟩ := hatT 0 r0 (by rw [e]; rfl)
        cases e0
        exact ⟨h0, by show gT ≠ _; omega, by show gT ≠ _; omega⟩
      exact values1_in Fence.wide 7 trivial rfl (by omega) l0 bT w4.heap.size W.heap.size W.heap.size (some ⟨gT, 0, none⟩) cT T J Jx V h9 hW.size (blk_keep hbT hW) hfar hJ hY h0
    case hKb2 =>
      intro V l0 o o' hl0 hW _ _
      exact (Kept2.refl _ _ _ _).trans ⟨by simp, fun k hk _ _ => World.putObj_heap_other (by omega)⟩
    case hI2 =>
      rintro s V V' row ⟨v, j1, j2, j3, j4, j5⟩ hg hrow
      exact ⟨v, blk_keptRow j1 hg hrow (by omega), j2.keptRow hg (fun r e => (hrow r e).2), blk_keptRow j3 hg hrow (by omega), j4.grown hg j4.size (fun k e => by have := (hrow k e).1; omega), Nat.le_trans j5 hg.size⟩
    case hAx2 =>
      rintro x a' s V V' row ⟨Bx, h1, h2, h3⟩ hg hrow
      refine ⟨Bx, h1, (hg.block _ (lt_of_block h2) (fun e => ?_)).trans h2, h3⟩
      obtain ⟨_, o, ho, hc⟩ := hrow Bx e.symm
      rw [h2] at ho; cases ho; cases hc
    case hassign2 =>
      rintro l0 pre x V K ⟨v, j1, j2, j3, j4, j5⟩ hK
      gi_wp2
      exact hK _ _ ((KeepsOthers.alloc _ _).from _) ((Kept2.refl _ _ _ _).alloc j5 _) ⟨v, up_alloc j1 _, j2.below (below_box _), up_alloc j3 _, j4.alloc j4.size _, by simp; omega⟩ ⟨V.heap.size, j5, heap_alloc_new _ _, rfl⟩
    case hbody2 =>
      rintro l0 pre x a' V hl0 ⟨r, hr0⟩ ⟨v, j1, j2, j3, j4, j5⟩ ⟨Bx, hBx, hbx, rfl⟩ hlt
      have co := box_cells j1
      have cx := box_cells hbx
      have J2 := Lib.hid j2
      have hsz5 : w4.heap.size ≤ (V.alloc (.cells #[.int .i64 x.id] 3)).heap.size := by simp; omega
      have hlen : (pre.map De.id).length + 1 ≤ 1048576 := by simp; omega
      clear j2
      gi_wp2_with (gi_at_builtin; go_must (refine appEIn eltInt rfl (.tmp 34) (.tmp 37) rfl w4.heap.size _ (pre.map De.id) rfl (J2.out.below (below_box _)) _ _ _ [x.id] rfl rfl (by simp) (eltInt.new _ _ _ _ rfl) hlen hsz5 ?_); intro v5 w5 ho5 hg5; have hko5 := (hg5.block _ (by simp; omega) (J2.out.neBlk (by omega))).trans (up_alloc j1 _); have c5 := box_cells hko5; have f5 := box_free hko5; obtain ⟨a9, c9, e9, _, _⟩ := ho5.slAt; rw [show ((((pre.map De.id) ++ [x.id]).map inRow).length) = pre.length + 1 by simp] at e9; subst e9)
      have hz5 := hg5.size
      have hsame : ∀ k, k < V.heap.size → k ≠ W.heap.size → some k ≠ v.ownBlock → (w5.setCell ⟨W.heap.size, 0, none⟩ (.slice a9 (pre.length + 1) c9)).heap[k]? = V.heap[k]? := fun k h1 h2 h3 =>
        (Below.heap_setCell _ _ _ k h2).trans ((hg5.block k (by simp; omega) h3).trans (Below.heap_alloc _ _ _ h1))
      refine ⟨⟨by simp at hz5 ⊢; omega, fun k o hk h0 ho => (hsame k (lt_blk h0) (by omega) (fun e => by
          obtain ⟨cur, hc⟩ := J2.out.isCells e.symm
          rw [h0] at hc; cases hc; cases ho)).trans h0⟩, ⟨by simp at hz5 ⊢; omega, fun k hk ha hb => hsame k (by omega) ha (J2.out.neBlk hk)⟩, _, heap_setCell_same _ _ _ _ _ _ hko5, ?_, (hsame D (by omega) (by omega) (J2.out.neBlk (by omega))).trans j3, ?_, by simp at hz5 ⊢; omega⟩
      · rw [List.map_append, List.map_singleton]
        exact ho5.setOther (by omega) _
      · exact ((j4.alloc j4.size _).grown hg5 (by simp; omega) (fun k e => by have := (J2.out.lt k e).1; omega)).setCell (p := ⟨W.heap.size, 0, none⟩) (by show w.heap.size ≤ W.heap.size; omega) _
    case hdone2 =>
      rintro D2 ys V hD2 rfl ⟨v, j1, j2, j3, j4, j5⟩ hK2
      have co := box_cells j1
      have J2 := Lib.hid j2
      have hne : ys.map De.id ≠ [] := fun e => by
        have := congrArg List.length e
        rw [HTI.out, down_len] at this
        have := no_ne HNL.out
        cases L
        · exact this rfl
        · simp at *
      have HNE := Lib.hid hne
      clear j2 hne
      gi_wp2_with (gi_at_call 43; fail)
      refine ⟨trivial, (callsIn_wide.2 (revI_any w4.heap.size v (ys.map De.id) V HNE.out (by simp; omega) j5 J2.out)).mono ?_⟩
      rintro e V2 ⟨rfl, o2, hbv, hgv⟩
      have q1 := (hgv.block _ (lt_blk j1) (J2.out.neBlk (by omega))).trans j1
      have q3 := (hgv.block _ (lt_blk j3) (J2.out.neBlk (by omega))).trans j3
      have q2 := (hgv.block _ (lt_blk hK2) (fun e => by
        obtain ⟨cur, hc⟩ := J2.out.isCells e.symm
        rw [hK2] at hc; cases hc)).trans hK2
      have co := box_cells q1
      obtain ⟨a9, c9, rfl, hs9, hi9⟩ := o2.isSl
      have O2 := Lib.hid o2
      clear o2
      gi_wp2
      have q4 := (World.putObj_heap_other (w := V2) (r := D2) (o := .deferred none) (k := D) (by omega)).trans q3
      refine ⟨by simp, .inl ⟨_, _, rfl, run_takeDeferred q2, ?_⟩⟩
      refine ⟨by simp, .inl ⟨_, _, rfl, run_takeDeferred q4, ?_⟩⟩
      refine ⟨_, results_tmp rfl _ _ _, ?_⟩
      have hin := (hi9.keptRow (grownBy_putObj' V2 D2 (.deferred none)) (fun r e => by cases e; exact ⟨_, q2, rfl⟩)).keptRow (grownBy_putObj' _ D (.deferred none)) (fun r e => by cases e; exact ⟨_, q4, rfl⟩)
      have hfin : answerL cs ds = (ys.map De.id).reverse := by rw [HAN.out, HTI.out]
      have hbf := ((j4.trans (hbv.mono (by have := j4.size; omega))).grown (grownBy_putObj' V2 D2 (.deferred none)) (by have := j4.size; have := hbv.size; omega) (fun k e => by cases e; omega)).grown (grownBy_putObj' _ D (.deferred none)) (by have := j4.size; have := hbv.size; simp; omega) (fun k e => by cases e; omega)
      rw [IntsPost, hfin]
      exact ⟨a9, c9, by simp, hs9, hin, hbf⟩
    case hstop2 =>
      rintro D c pre W _ _ h _
      exact h.elim
  case hstop =>
    rintro D c pre W _ _ h _
    exact h.elim
end Go.Proofs.YtehdhbnbajfanaaGreat


/- plan.Plan: walked; for not too many demands, editions, copies. -/
namespace Go.Proofs.YtehdhbnbajfanaaGreat
set_option linter.unusedSimpArgs false
set_option linter.unusedVariables false
open Go.RowKit Go.Sort Go.Shelf

set_option maxRecDepth 100000 in
set_option maxHeartbeats 4000000 in
theorem Plan_any (a a2 : Option Addr) (cap cap2 : Nat) (ds : List De) (cs : List Co) (hall : Int) (w : World) (hl : ds.length ≤ 1000) (hl2 : cs.length ≤ 1000) (he : ∀ d ∈ ds, d.eds.length ≤ 1000) (hm : DeAt w a ds) (hc : CoAt w a2 cs) :
    Calls Tryz.prog 12 #[.slice a ds.length cap, .slice a2 cs.length cap2, .int .i64 hall] w (PlanPost BTo ds cs hall w) := by
  have HM := Lib.hid hm; have HC := Lib.hid hc; have HE := Lib.hid he
  clear hm hc he
  go_enter Tryz.func12, Tryz.ntmps12
  go_wp2_with (fail)
  refine (Costs_any a a2 cap cap2 ds cs hall w hl hl2 HE.out HM.out HC.out).mono ?_
  rintro e w1 ⟨a1, c1, hb, ⟨hv, rfl, hs1, hm1⟩ | ⟨hv, rfl⟩⟩
  · have HB := Lib.hid hb; have HV := Lib.hid hv
    have HVB := Lib.hid (show validB ds cs = true by simp at hv; exact hv.1)
    have HH := Lib.hid (show inR 0 99 hall = true by simp at hv; exact hv.2)
    have HVD := Lib.hid (vd_of HVB.out)
    have HBX := Lib.hid (below_box (w := w1) (.cells #[.slice a2 cs.length cap2, .int .i64 hall] 58))
    have hpx : (w1.alloc (.cells #[.slice a2 cs.length cap2, .int .i64 hall] 58)).heap[w1.heap.size]? = some (.cells #[.slice a2 cs.length cap2, .int .i64 hall] 58) := heap_alloc_new _ _
    have HPX := Lib.hid hpx
    clear hb hv hs1 hm1 hpx
    go_wp2_with (fail)
    refine (met_any a a2 cap cap2 ds cs hall _ HVB.out HH.out ((HM.out.below HB.out).below HBX.out) ((HC.out.below HB.out).below HBX.out)).mono ?_
    rintro e w2 ⟨a3, c3, a4, c4, l, ok, rfl, hok, hyes, hb⟩
    have hpx2 := blk_keep HPX.out hb
    replace HB := Lib.hid ((HB.out.trans (HBX.out.mono HB.out.size)).trans (hb.mono (by have := HB.out.size; have := HBX.out.size; omega)))
    have HOK := Lib.hid hok; have HYES := Lib.hid hyes
    clear hok hyes hb
    have cpx := box_cells hpx2
    cases ok
    · go_wp2_with (fail)
      refine (refusal_any a a2 cap cap2 ds cs hall w2 HVB.out HH.out HOK.out (HM.out.below HB.out) (HC.out.below HB.out)).mono ?_
      rintro e w3 ⟨a5, c5, rfl, hs5, hi5, hb⟩
      have HS5 := Lib.hid hs5; have HI5 := Lib.hid hi5
      replace HB := Lib.hid (HB.out.trans (hb.mono HB.out.size))
      clear hs5 hi5 hb cpx
      go_wp2
      refine bodyPost_ret (v := .tuple #[.slice none 0 0, .slice a5 (answerL cs ds).length c5, .bool false, .int .i64 0]) (by simp [results, Tryz.results12, go_sem]) rfl ?_
      exact ⟨HB.out, .inr (.inl ⟨HV.out, HOK.out, a5, c5, rfl, HS5.out, HI5.out⟩)⟩
    · obtain ⟨hm3, hi3, ht⟩ := HYES.out rfl
      have HM1 := Lib.hid hm3; have HI3 := Lib.hid hi3; have HT := Lib.hid ht
      have HCL := Lib.hid (costM_len ds cs hall)
      have HLL := Lib.hid (show l.length = ds.length by rw [HT.out.mt.1, HCL.out])
      have HN1 := Lib.hid HVD.out.n1
      have HM2 := Lib.hid (HM.out.below HB.out); have HC2 := Lib.hid (HC.out.below HB.out)
      clear hm3 hi3 ht HYES cpx
      go_wp2
      go_loopw [6, 43] (fun v i wr => ∃ k : Nat, k ≤ ds.length ∧ i = .int .i64 k ∧ OwnR wr w2.heap.size 42 3 v (((List.range k).map (planF ds cs hall l)).map Gv.cells) ∧ RowKit.Below w2.heap.size w2 wr) (fun _ i _ => ds.length - (intOf i).toNat)
      case atStart => exact ⟨0, Nat.zero_le _, rfl, OwnR.nil _ _ _ _, RowKit.Below.refl _ _⟩
      case round =>
        obtain ⟨k, hk, rfl, ho, hb⟩ := hrel
        have HO := Lib.hid ho; have HB3 := Lib.hid hb
        clear ho hb
        by_cases hlt : k < ds.length
        · have hkl : k < l.length := by rw [HLL.out]; exact hlt
          have hkw : l[k] < cs.length := by have := HT.out.mt.2 k hkl; rw [costM_wide (by omega)] at this; exact this
          obtain ⟨b1, o1, rfl, d0, d1, d2, d3⟩ := HM2.out.get k hlt
          obtain ⟨b2, o2, rfl, e0, e1, e2, e3⟩ := HC2.out.get l[k] hkw
          obtain ⟨b3, o3, rfl, f0⟩ := met_get HI3.out k hkl
          obtain ⟨b4, o4, a5, c5, rfl, h0, hsk, hik⟩ := HM1.out.get k (by rw [HCL.out]; exact hlt)
          have hrow : (costM ds cs hall)[k]'(by rw [HCL.out]; exact hlt) = cs.map fun c => costI ds[k] c hall := by simp [costM]
          rw [hrow] at h0 hsk hik
          obtain ⟨b5, o5, rfl, i0⟩ := hik.get l[k] (by simpa using hkw)
          simp only [List.getElem_map, List.length_map] at i0 h0
          have HPF := Lib.hid (planF_at (hall := hall) hlt hkl hkw)
          have hd0 := keepE d0 HB3.out; have hd1 := keepE d1 HB3.out; have hd2 := keepE d2 HB3.out; have hd3 := keepE d3 HB3.out
          have HBY := Lib.hid (below_box (w := wr) (.cells #[.int .i64 (ds[k]).id, .int .i64 (ds[k]).part, .int .i64 (ds[k]).stand, .slice (ds[k]).ea (ds[k]).eds.length (ds[k]).ecap] 46))
          have HB4 := Lib.hid (HB3.out.trans (HBY.out.mono HB3.out.size))
          have hby := box_cells (show (wr.alloc (.cells #[.int .i64 (ds[k]).id, .int .i64 (ds[k]).part, .int .i64 (ds[k]).stand, .slice (ds[k]).ea (ds[k]).eds.length (ds[k]).ecap] 46)).heap[wr.heap.size]? = some (.cells #[.int .i64 (ds[k]).id, .int .i64 (ds[k]).part, .int .i64 (ds[k]).stand, .slice (ds[k]).ea (ds[k]).eds.length (ds[k]).ecap] 46) from heap_alloc_new _ _)
          have g0 := cell_regrown (hby 0); have g1 := cell_regrown (keepE e0 HB4.out); have g2 := cell_regrown (keepE f0 HB4.out); have g3 := cell_regrown (keepE h0 HB4.out); have g4 := cell_regrown (keepE i0 HB4.out)
          clear d0 d1 d2 d3 e0 e1 e2 e3 f0 h0 i0 hsk hik hrow hby
          generalize l[k] = m at *
          generalize ds[k] = d at *
          generalize hcm : cs[m] = c at *
          generalize hCX : costI d c hall = X at *
          clear hcm hCX
          go_wp2
          refine wp_tailB1 22 _ u6 (by decide) (by kernel_rfl) (by kernel_rfl) rfl (fun _ _ _ h => h) (.inl ⟨by kernel_rfl, fun wq => by go_simp⟩) ?_
          simp only [Act.put, List.setIfInBounds_toArray, List.set_cons_zero, List.set_cons_succ, List.take_succ_cons, List.take_zero, List.drop_succ_cons, List.drop_zero]
          (repeat (go_big_quiet_step (fail)))
          refine wpQuiet_nil ?_
          intro wq hq
          replace HO := Lib.hid ((HO.out.below HBY.out).below hq)
          replace HB3 := Lib.hid (HB4.out.trans (hq.mono HB4.out.size))
          clear hq g0 g1 g2 g3 g4 hd0 hd1 hd2 hd3
          go_wp2_with (at_builtin; refine appE eltGv rfl (.tmp 48) (.tmp 70) rfl w2.heap.size _ ((List.range k).map (planF ds cs hall l)) rfl (HO.out.below (below_box _)) _ _ _ [((d.id, c.id, X) : Gv)] rfl rfl (fun e => by cases e) (eltGv.new _ _ _ _ rfl) (by have := HN1.out; simp; omega) (by have := HB3.out.size; simp; omega) ?_; intro v1 w7 ho1 hg1; have HO1 := Lib.hid ho1; have HB7 := Lib.hid (below_grown (HB3.out.alloc HB3.out.size _) (HO.out.below (below_box _)) (by have := HB3.out.size; simp; omega) hg1); clear ho1 hg1)
          go_roundw
          case rel => exact ⟨k + 1, by omega, by go_num, by
            have := HO1.out
            rw [← HPF.out, plan_next] at this
            exact this, HB7.out⟩
          case measure => simp [intOf]; omega
        · have hke : k = ds.length := by omega
          have HO2 := Lib.hid (show OwnR wr w2.heap.size 42 3 u6 ((planL ds cs hall l).map Gv.cells) by have := HO.out; rw [hke] at this; exact this)
          obtain ⟨a6, c6, e6, s6, i6⟩ := HO2.out.slAt
          rw [List.length_map, planL_len] at e6 s6
          subst e6
          have HS6 := Lib.hid s6; have HI6 := Lib.hid i6
          clear s6 i6
          go_wp2
          refine bodyPost_ret (v := .tuple #[.slice a6 ds.length c6, .slice none 0 0, .bool true, .int .i64 0]) (by simp [results, Tryz.results12, go_sem]) rfl ?_
          exact ⟨HB.out.trans (HB3.out.mono HB.out.size), .inr (.inr ⟨HV.out, HOK.out, l, a6, c6, rfl, HS6.out, HI6.out, HT.out⟩)⟩
  · have HB := Lib.hid hb; have HV := Lib.hid hv
    clear hb hv
    go_wp2
    refine bodyPost_ret (v := .tuple #[.slice none 0 0, .slice none 0 0, .bool false, .int .i64 1]) (by simp [results, Tryz.results12, go_sem]) rfl ?_
    exact ⟨HB.out, .inl ⟨HV.out, rfl⟩⟩
end Go.Proofs.YtehdhbnbajfanaaGreat
