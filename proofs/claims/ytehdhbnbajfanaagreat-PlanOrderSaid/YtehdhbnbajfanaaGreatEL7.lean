/- Texts of this seat, laid together: PlanSwap, PlanLaw7. -/
import Derived.Test.YtehdhbnbajfanaaGreatGO
import Derived.Deep.MidRow
import Derived.RegionTactic
import Derived.Test.YtehdhbnbajfanaaGreatEL4
import Derived.Deep.Upon

/- Rows of a slice written in memory, one step of a drawn region at a time: two rows exchanged. -/
namespace Go.Proofs.YtehdhbnbajfanaaGreat
set_option linter.unusedSimpArgs false
set_option linter.unusedVariables false
open Go.RowKit Go.Sort

/-- A struct stored into the middle of a block, as one step of a region that draws. -/
theorem step_store {P : Program} {ops : Array Oper} {o : Oper} {a : Act} {w : World} {K : Act → World → Prop} {Q : Exit → Act → World → Prop} {E : Prop}
    (hg : o.guard = none) (ty : TypeId) (x y : Operand) (ho : o.op = .store ty x y) (b off : Nat) (cells : Array Value) (hx : a.eval x = .pointer (some ⟨b, off, none⟩)) (hy : a.eval y = .agg cells)
    (ht : w.there b off cells.size) (hi : (P.info? ty).map (·.size) = some cells.size) (h1 : cells.all (·.oneCell') = true) (hK : K (a.put o.dst undef) (w.setCells b off cells.toList)) :
    if Region.wanted o (yielded ops a.tmps) = true then Oper.wp P o a w K Q else E := by
  have hw : Region.wanted o (yielded ops a.tmps) = true := by simp [Region.wanted, hg]
  rw [if_pos hw]
  exact wp_store_mid ty x y ho b off cells hx hy ht hi h1 hK
/-- A struct read out of the middle of a block, as one step of a region that draws. -/
theorem step_load {P : Program} {ops : Array Oper} {o : Oper} {a : Act} {w : World} {K : Act → World → Prop} {Q : Exit → Act → World → Prop} {E : Prop}
    (hg : o.guard = none) (ty : TypeId) (x : Operand) (ho : o.op = .load ty x) (b off : Nat) (hx : a.eval x = .pointer (some ⟨b, off, none⟩)) (cs : List Value) (d : TypeDesc) (hc : w.rangeAt b off cs)
    (hu : P.underlying ty = some d) (hd : d.isRow = true) (hi : (P.info? ty).map (·.size) = some cs.length) (hK : K (a.put o.dst (.agg cs.toArray)) w) :
    if Region.wanted o (yielded ops a.tmps) = true then Oper.wp P o a w K Q else E := by
  have hw : Region.wanted o (yielded ops a.tmps) = true := by simp [Region.wanted, hg]
  rw [if_pos hw]
  exact wp_load_mid ty x ho b off hx cs d hc hu hd hi hK
theorem SlAt.range {w : World} {g k : Nat} {rows : List (List Value)} (h : SlAt w (some ⟨g, 0, none⟩) k rows) (i : Nat) (hi : i < rows.length) : w.rangeAt g (i * k) rows[i] := fun j v hv => by
  obtain ⟨b, off, e, _, _, hc⟩ := h i rows[i] (List.getElem?_eq_getElem hi)
  cases e
  have := hc j v hv
  rwa [Nat.zero_add] at this
theorem SlAt.wide {w : World} {a : Option Addr} {k : Nat} {rows : List (List Value)} (h : SlAt w a k rows) (i : Nat) (hi : i < rows.length) : rows[i].length = k := by
  obtain ⟨_, _, _, _, e, _⟩ := h i rows[i] (List.getElem?_eq_getElem hi)
  exact e
theorem SlAt.there {w : World} {g k : Nat} {rows : List (List Value)} (h : SlAt w (some ⟨g, 0, none⟩) k rows) (hf : ∀ j, w.frozen? ⟨g, j, none⟩ = false) (i : Nat) (hi : i < rows.length) : w.there g (i * k) k := fun j hj => by
  have hl : j < rows[i].length := by rw [h.wide i hi]; exact hj
  exact ⟨by rw [h.range i hi j rows[i][j] (List.getElem?_eq_getElem hl)]; rfl, hf _⟩
/-- One row written. -/
theorem SlAt.put {w : World} {g k : Nat} {rows : List (List Value)} (h : SlAt w (some ⟨g, 0, none⟩) k rows) (hf : ∀ j, w.frozen? ⟨g, j, none⟩ = false) (i : Nat) (hi : i < rows.length) (r : List Value) (hr : r.length = k) :
    SlAt (w.setCells g (i * k) r) (some ⟨g, 0, none⟩) k (rows.set i r) := fun m row hm => by
  have hml : m < rows.length := by have := (List.getElem?_eq_some_iff.1 hm).1; simpa using this
  have hlt : g < w.heap.size := by obtain ⟨b, off, e, h1, _⟩ := h m rows[m] (List.getElem?_eq_getElem hml); cases e; exact h1
  have hsz : g < (w.setCells g (i * k) r).heap.size := Nat.lt_of_lt_of_le hlt (below_cells g (Nat.zero_le _) _ _ (RowKit.Below.refl 0 w)).size
  have ht := h.there hf i hi
  by_cases e : m = i
  · subst e
    rw [List.getElem?_set_self hml] at hm
    cases hm
    refine ⟨g, 0, rfl, hsz, hr, fun j v hv => ?_⟩
    rw [Nat.zero_add]
    exact World.rangeAt_setCells_same _ _ _ _ (by rw [hr]; exact ht) j v hv
  · rw [List.getElem?_set_ne (fun e2 => e e2.symm), List.getElem?_eq_getElem hml] at hm
    cases hm
    have hw := h.wide m hml
    refine ⟨g, 0, rfl, hsz, hw, fun j v hv => ?_⟩
    rw [Nat.zero_add]
    refine World.rangeAt_setCells_apart (h.range m hml) _ _ _ (.inr ?_) j v hv
    rw [hw, hr]
    rcases Nat.lt_or_gt_of_ne e with q | q
    · left
      have := Nat.mul_le_mul_right k (show m + 1 ≤ i from q)
      rw [Nat.succ_mul] at this; omega
    · right
      have := Nat.mul_le_mul_right k (show i + 1 ≤ m from q)
      rw [Nat.succ_mul] at this; omega
end Go.Proofs.YtehdhbnbajfanaaGreat


/- The law PlanOrder, walked; plan.Refuses by its contract. -/
namespace Go.Proofs.YtehdhbnbajfanaaGreat
set_option linter.unusedSimpArgs false
set_option linter.unusedVariables false
open Go.RowKit Go.Sort Go.Shelf

theorem eltC7 : Elt Tryz.prog 23 44 4 32 Co.cells := ⟨Tryz.underlying23, ⟨.agg #[.int .i64 0, .int .i64 0, .int .i64 0, .int .i64 0], by kernel_rfl, rfl⟩, by decide, by decide, fun _ => rfl, fun x u hu => by
  simp [Co.cells] at hu
  rcases hu with rfl | rfl | rfl | rfl <;> rfl⟩
/-- A block of rows that the law has laid and may write. -/
structure Blk (n0 : Nat) (W : World) (g : Nat) (E : TypeId) (sz : Nat) (rows : List (List Value)) : Prop where
  ge : n0 ≤ g
  at_ : SlAt W (some ⟨g, 0, none⟩) sz rows
  cell : ∃ cur, W.heap[g]? = some (.cells cur E (0, 0))
theorem Blk.below {n0 : Nat} {W W' : World} {g : Nat} {E : TypeId} {sz : Nat} {rows : List (List Value)} (h : Blk n0 W g E sz rows) (hb : RowKit.Below W.heap.size W W') : Blk n0 W' g E sz rows := by
  obtain ⟨cur, hc⟩ := h.cell
  exact ⟨h.ge, h.at_.below hb, cur, blk_keep hc hb⟩
theorem Blk.free {n0 : Nat} {W : World} {g : Nat} {E : TypeId} {sz : Nat} {rows : List (List Value)} (h : Blk n0 W g E sz rows) : ∀ j, W.frozen? ⟨g, j, none⟩ = false := by
  obtain ⟨cur, hc⟩ := h.cell
  exact box_free hc
theorem setCells_same {E : TypeId} {g : Nat} : ∀ (vs : List Value) (o : Nat) (W : World) (cur : Array Value), W.heap[g]? = some (.cells cur E (0, 0)) → ∃ cur', (W.setCells g o vs).heap[g]? = some (.cells cur' E (0, 0))
  | [], _, _, cur, h => ⟨cur, h⟩
  | v :: vs, o, W, cur, h => setCells_same vs (o + 1) _ _ (heap_setCell_same _ _ _ _ _ _ h)
theorem Blk.put {n0 : Nat} {W : World} {g : Nat} {E : TypeId} {sz : Nat} {rows : List (List Value)} (h : Blk n0 W g E sz rows) (i : Nat) (hi : i < rows.length) (r : List Value) (hr : r.length = sz) : Blk n0 (W.setCells g (i * sz) r) g E sz (rows.set i r) := by
  obtain ⟨cur, hc⟩ := h.cell
  exact ⟨h.ge, h.at_.put h.free i hi r hr, setCells_same r _ W cur hc⟩
theorem Blk.other {n0 : Nat} {W : World} {g g' o : Nat} {E : TypeId} {sz : Nat} {rows : List (List Value)} (h : Blk n0 W g E sz rows) (hne : g ≠ g') (vs : List Value) : Blk n0 (W.setCells g' o vs) g E sz rows := by
  obtain ⟨cur, hc⟩ := h.cell
  have hlt := lt_blk hc
  have he := World.heap_setCells_other W g' o vs hlt hne
  have hs : W.heap.size ≤ (W.setCells g' o vs).heap.size := (below_cells (B := 0) g' (Nat.zero_le _) vs o (RowKit.Below.refl 0 W)).size
  refine ⟨h.ge, fun i r hr => ?_, cur, he.trans hc⟩
  obtain ⟨b, off, e, h1, h2, h3⟩ := h.at_ i r hr
  cases e
  refine ⟨g, 0, rfl, by omega, h2, fun j v hv => ?_⟩
  have := h3 j v hv
  simp only [World.cell?, he] at this ⊢
  exact this
theorem Blk.swap {n0 : Nat} {W : World} {g : Nat} {E : TypeId} {sz : Nat} {α : Type} {f : α → List Value} (hf : ∀ x, (f x).length = sz) {xs : List α} (h : Blk n0 W g E sz (xs.map f)) (i j : Nat) (hi : i < xs.length) (hj : j < xs.length) :
    Blk n0 ((W.setCells g (i * sz) (f xs[j])).setCells g (j * sz) (f xs[i])) g E sz (((xs.set i xs[j]).set j xs[i]).map f) := by
  have h1 := h.put i (by simpa using hi) (f xs[j]) (hf _)
  have h2 := h1.put j (by simpa using hj) (f xs[i]) (hf _)
  rw [List.map_set, List.map_set]
  exact h2
theorem Blk.range {n0 : Nat} {W : World} {g : Nat} {E : TypeId} {sz : Nat} {α : Type} {f : α → List Value} {xs : List α} (h : Blk n0 W g E sz (xs.map f)) (i : Nat) (hi : i < xs.length) : W.rangeAt g (i * sz) (f xs[i]) := by
  have := h.at_.range i (by simpa using hi)
  rwa [List.getElem_map] at this
theorem Blk.there {n0 : Nat} {W : World} {g : Nat} {E : TypeId} {sz : Nat} {α : Type} {f : α → List Value} {xs : List α} (h : Blk n0 W g E sz (xs.map f)) (i : Nat) (hi : i < xs.length) : W.there g (i * sz) sz := h.at_.there h.free i (by simpa using hi)
theorem de_one (x : De) : x.cells.toArray.all (·.oneCell') = true := by simp [De.cells]; exact ⟨rfl, rfl, rfl, rfl⟩
theorem co_one (x : Co) : x.cells.toArray.all (·.oneCell') = true := by simp [Co.cells]; exact ⟨rfl, rfl, rfl, rfl⟩
theorem swap_perm {α : Type} (xs : List α) (i j : Nat) (hi : i < xs.length) (hj : j < xs.length) : ((xs.set i xs[j]).set j xs[i]).Perm xs := List.set_set_perm hi hj
/-- The rows of a slice, if there are any, lie in a block of the law's own. -/
def XInv (n0 : Nat) (W : World) (E : TypeId) (n : Nat) (ax : Option Addr) (rows : List (List Value)) : Prop := 0 < n → ∃ g, ax = some ⟨g, 0, none⟩ ∧ Blk n0 W g E 4 rows
theorem XInv.below {n0 : Nat} {W W' : World} {E : TypeId} {n : Nat} {ax : Option Addr} {rows : List (List Value)} (h : XInv n0 W E n ax rows) (hb : RowKit.Below W.heap.size W W') : XInv n0 W' E n ax rows := fun hn => by
  obtain ⟨g, e, hB⟩ := h hn
  exact ⟨g, e, hB.below hb⟩
theorem OwnR.xinv {w : World} {B n0 : Nat} {E : TypeId} {v : Value} {rows : List (List Value)} (o : OwnR w B E 4 v rows) (hn : n0 ≤ B) : ∃ ax cx, v = .slice ax rows.length cx ∧ SlOk ax rows.length cx ∧ XInv n0 w E rows.length ax rows := by
  obtain ⟨a, cap0, ev, hok, hs⟩ := o.slAt
  refine ⟨a, cap0, ev, hok, fun hpos => ?_⟩
  obtain ⟨_, h1, h2⟩ := o
  rcases h2 with ⟨_, h2⟩ | ⟨g, cap, cur, e2, hg, hc, h3⟩
  · omega
  · rw [ev] at e2
    simp only [Value.slice.injEq] at e2
    obtain ⟨rfl, _, _⟩ := e2
    exact ⟨g, rfl, by omega, hs, cur, hc⟩
theorem XInv.slat {n0 : Nat} {W : World} {E : TypeId} {ax : Option Addr} {rows : List (List Value)} (h : XInv n0 W E rows.length ax rows) : SlAt W ax 4 rows := by
  by_cases h0 : 0 < rows.length
  · obtain ⟨g, rfl, hB⟩ := h h0
    exact hB.at_
  · have : rows = [] := List.length_eq_zero_iff.1 (by omega)
    rw [this]; exact SlAt.nil _ _ _
theorem blk_ne {n0 : Nat} {W : World} {g g' : Nat} {E E' : TypeId} {sz sz' : Nat} {rows rows' : List (List Value)} (h : Blk n0 W g E sz rows) (h' : Blk n0 W g' E' sz' rows') (hE : E ≠ E') : g ≠ g' := fun e => by
  subst e
  obtain ⟨cur, hc⟩ := h.cell
  obtain ⟨cur', hc'⟩ := h'.cell
  rw [hc] at hc'
  simp only [Option.some.injEq, Obj.cells.injEq] at hc'
  exact hE hc'.2.1
theorem XInv.other {n0 : Nat} {W : World} {E : TypeId} {n : Nat} {ax : Option Addr} {rows : List (List Value)} (h : XInv n0 W E n ax rows) {g' : Nat} {E' : TypeId} {rows' : List (List Value)} (h' : Blk n0 W g' E' 4 rows') (hE : E ≠ E') (o o2 : Nat) (vs vs2 : List Value) : XInv n0 ((W.setCells g' o vs).setCells g' o2 vs2) E n ax rows := fun hn => by
  obtain ⟨g, e, hB⟩ := h hn
  have hne := blk_ne hB h' hE
  exact ⟨g, e, (hB.other hne vs).other hne vs2⟩
theorem said_same {ds xs : List De} {cs ys : List Co} {hall : Int} {gl gl' : List Gv} {rl rl' : List Int} {ok ok' : Bool} (hn : (ds.map De.id).Nodup) (hc : cs.Nodup) (hp : xs.Perm ds) (hq : ys.Perm cs) (h : Said ds cs hall gl rl ok) (h' : Said xs ys hall gl' rl' ok') : ok = ok' ∧ totG gl = totG gl' ∧ rl = rl' := by
  have hm := metB_same (nodup_of_map hn) hc hp hq
  rcases h with ⟨h1, rfl, rfl, rfl⟩ | ⟨h1, rfl, rfl, l, rfl, hl⟩ <;> rcases h' with ⟨g1, rfl, rfl, rfl⟩ | ⟨g1, rfl, rfl, l', rfl, hl'⟩
  · exact ⟨rfl, rfl, (answer_same hc hq hn hp).symm⟩
  · rw [hm, h1] at g1; cases g1
  · rw [hm, h1] at g1; cases g1
  · exact ⟨rfl, plan_same (nodup_of_map hn) hc hp hq hl hl', rfl⟩
theorem said_bounds {ds : List De} {cs : List Co} {hall : Int} {gl : List Gv} {rl : List Int} {ok : Bool} (he : ∀ d ∈ ds, d.eds.length ≤ 100) (h : Said ds cs hall gl rl ok) : (∀ g ∈ gl, 0 ≤ g.2.2 ∧ g.2.2 ≤ 1000000) ∧ gl.length ≤ ds.length ∧ rl.length ≤ ds.length := by
  rcases h with ⟨h1, rfl, rfl, rfl⟩ | ⟨h1, rfl, rfl, l, rfl, hl⟩
  · exact ⟨(fun g hg => by cases hg), by simp, answer_le⟩
  · exact ⟨plan_bounds he hl, by rw [planL_len]; exact Nat.le_refl _, by simp⟩
set_option maxRecDepth 100000 in
set_option maxHeartbeats 8000000 in
theorem order_law (HQ : RefusesC) (a a2 a3 : Option Addr) (cap cap2 cap3 : Nat) (ds : List De) (cs : List Co) (hall : Int) (os : List Nat) (w : World) (hl : ds.length ≤ 9223372036854775807) (hl2 : cs.length ≤ 9223372036854775807) (hl3 : os.length ≤ 9223372036854775807) (he : ∀ d ∈ ds, d.eds.length ≤ 9223372036854775807)
    (hs : SlOk a ds.length cap) (hm : DeAt w a ds) (hs2 : SlOk a2 cs.length cap2) (hc : CoAt w a2 cs) (hi : U8At w a3 os) (hos : ∀ n ∈ os, n ≤ 255) :
    Calls Tryz.prog 9 #[.slice a ds.length cap, .slice a2 cs.length cap2, .int .i64 hall, .slice a3 os.length cap3] w fun e w' => e = .returned (.bool true) ∧ RowKit.Below w.heap.size w w' := by
  have HM := Lib.hid hm; have HC := Lib.hid hc; have HE := Lib.hid he; have HI := Lib.hid hi; have HOS := Lib.hid hos; have HS := Lib.hid hs; have HS2 := Lib.hid hs2
  clear hm hc he hi hos hs hs2
  go_enter Tryz.func9, Tryz.ntmps9
  go_wp2_with (fail); refine (phead_any HQ w).mono ?_; rintro e w1 ⟨rfl, hb⟩; have HB := Lib.hid hb; clear hb
  go_wp2_with (fail); refine (usable_any _ _ _ _ ds cs hall _ hl hl2 HE.out (HM.out.below HB.out) (HC.out.below HB.out)).mono ?_; rintro e w2 ⟨rfl, hb⟩; replace HB := Lib.hid (HB.out.trans (hb.mono HB.out.size)); clear hb
  cases hf : usableB ds cs hall
  · go_wp2; go_ret; exact ⟨rfl, HB.out⟩
  obtain ⟨f7, f8, f20, hv, hvv⟩ := usable_iff hf
  have HE20 := Lib.hid f20; have HV := Lib.hid hv; have HVV := Lib.hid hvv
  clear hf f20 hv hvv
  by_cases m1 : 40 < os.length
  · go_wp2; go_ret; exact ⟨rfl, HB.out⟩
  have HMW := Lib.hid (HM.out.below HB.out); have HCW := Lib.hid (HC.out.below HB.out)
  go_wp2_with (first
    | (at_builtin; refine appE eltDe rfl (.tmp 38) (.tmp 39) rfl w2.heap.size _ [] rfl (ownR_made _ _ _ _ (Nat.le_refl _)) _ _ _ ds rfl rfl HS.out.none (HMW.out.rows.alloc _) (by simp; omega) (by simp) ?_; go_must (intro v3 w3 ho3 hg3; have HO3 := Lib.hid ho3; have HB3 := Lib.hid (below_grown ((RowKit.Below.refl w2.heap.size w2).alloc (Nat.le_refl _) _) (ownR_made _ w2.heap.size 46 4 (Nat.le_refl _)) (by simp) hg3); clear ho3 hg3))
    | (at_builtin; go_must (refine appE eltC7 rfl (.tmp 41) (.tmp 42) rfl w3.heap.size _ [] rfl (ownR_made _ _ _ _ (Nat.le_refl _)) _ _ _ cs rfl rfl HS2.out.none ((HCW.out.below HB3.out).alloc _) (by simp; omega) (by simp) ?_; intro v4 w4 ho4 hg4; have HO4 := Lib.hid ho4; have HB4 := Lib.hid (below_grown ((RowKit.Below.refl w3.heap.size w3).alloc (Nat.le_refl _) _) (ownR_made _ w3.heap.size 44 4 (Nat.le_refl _)) (by simp) hg4); clear ho4 hg4)))
  obtain ⟨ax, cx, ex, hsx, hX⟩ := HO3.out.xinv HB.out.size
  obtain ⟨ay, cy, ey, hsy, hY⟩ := HO4.out.xinv (Nat.le_trans HB.out.size HB3.out.size)
  rw [List.nil_append, List.length_map] at ex ey hsx hsy hX hY
  subst ex ey
  have HX := Lib.hid (hX.below HB4.out); have HY := Lib.hid hY
  have HBW := Lib.hid (HB.out.trans ((HB3.out.trans (HB4.out.mono HB3.out.size)).mono HB.out.size))
  clear hX hY hsx hsy HO3 HO4 HB3 HB4 HMW HCW HB
  go_loopw [46] (fun i wr => ∃ (k : Nat) (xs : List De) (ys : List Co), k ≤ os.length ∧ i = .int .i64 k ∧ xs.Perm ds ∧ ys.Perm cs ∧ XInv w.heap.size wr 46 ds.length ax (xs.map De.cells) ∧ XInv w.heap.size wr 44 cs.length ay (ys.map Co.cells) ∧ RowKit.Below w.heap.size w wr) (fun i _ => os.length - (intOf i).toNat)
  case atStart => exact ⟨0, ds, cs, Nat.zero_le _, rfl, List.Perm.refl _, List.Perm.refl _, HX.out, HY.out, HBW.out⟩
  case round =>
    clear HX HY HBW
    obtain ⟨k, xs, ys, hk, rfl, hpx, hpy, hX, hY, hb⟩ := hrel
    have HX := Lib.hid hX; have HY := Lib.hid hY; have HB := Lib.hid hb; have HPX := Lib.hid hpx; have HPY := Lib.hid hpy
    clear hX hY hb hpx hpy
    by_cases hlt : k < os.length
    · obtain ⟨b, off, rfl, d0⟩ := HI.out.get k hlt
      have g0 := keepE d0 HB.out
      have hO := HOS.out os[k] (List.getElem_mem _)
      generalize os[k] = O at *
      clear d0
      by_cases hx0 : 0 < ds.length
      · obtain ⟨gx, rfl, hBx⟩ := HX.out hx0
        obtain ⟨ka, hka, hkx⟩ : ∃ j : Nat, j < ds.length ∧ (j : Int) = (k : Int) % (ds.length : Int) := ⟨k % ds.length, Nat.mod_lt _ hx0, by simp⟩
        obtain ⟨kb, hkb, hky⟩ : ∃ j : Nat, j < ds.length ∧ (j : Int) = (O : Int) % (ds.length : Int) := ⟨O % ds.length, Nat.mod_lt _ hx0, by simp⟩
        have HKX := Lib.hid hkx; have HKY := Lib.hid hky; have HBX := Lib.hid hBx
        clear hkx hky hBx
        go_wp2
        refine wp_quietB (by kernel_rfl) (by kernel_rfl) ?_; (repeat (go_big_quiet_step (fail))); refine wpQuiet_nil ?_; intro wq hq2
        replace HBX := Lib.hid (HBX.out.below hq2); replace HY := Lib.hid (HY.out.below hq2); replace HB := Lib.hid (HB.out.trans (hq2.mono HB.out.size))
        clear hq2 g0
        go_wp2
        rw [← HKX.out, ← HKY.out]
        have hwid : xs.length = ds.length := HPX.out.length_eq
        have hBd := HBX.out.below ((RowKit.Below.refl wq.heap.size wq).drew)
        have hYd := HY.out.below ((RowKit.Below.refl wq.heap.size wq).drew)
        have HBd := Lib.hid (HB.out.trans (((RowKit.Below.refl wq.heap.size wq).drew).mono HB.out.size))
        have hi4 : (Tryz.prog.info? 46).map (·.size) = some 4 := by kernel_rfl
        have HRa := Lib.hid (hBd.range ka (by omega)); have HRb := Lib.hid (hBd.range kb (by omega)); have HTa := Lib.hid (hBd.there ka (by omega)); have HTb := Lib.hid (hBd.there kb (by omega))
        have HW2 := Lib.hid (Blk.swap (f := De.cells) (fun _ => rfl) hBd ka kb (by omega) (by omega))
        have HP2 := Lib.hid ((swap_perm xs ka kb (by omega) (by omega)).trans HPX.out)
        have HY2 := Lib.hid (hYd.other hBd (by decide) (ka * 4) (kb * 4) (xs[kb]'(by omega)).cells (xs[ka]'(by omega)).cells)
        have HB2 := Lib.hid (below_cells (B := w.heap.size) gx hBd.ge (xs[ka]'(by omega)).cells (kb * 4) (below_cells gx hBd.ge (xs[kb]'(by omega)).cells (ka * 4) HBd.out))
        have HI4 := Lib.hid hi4
        clear hBd hYd HBd hi4 HB HBX HY
        refine wp_region_any (by kernel_rfl) ?_
        change wpAny _ _ _ _ _ _ _ (World.drew _)
        generalize wq.drew = wd at *
        have hka' : ka < xs.length := by omega
        have hkb' : kb < xs.length := by omega
        generalize xs[ka]'(by omega) = XA at *
        generalize xs[kb]'(by omega) = XB at *
        generalize (xs.set ka XB).set kb XA = xs2 at *
        clear hwid hka' hkb'
        ((refine wpAny_take1 0 (oi := ?_) (v := ?_) ?_ (by kernel_rfl) (by kernel_rfl) (by kernel_rfl) ?_ ?_ ?_; rotate_left 2; (· simp only [List.getElem?_toArray, List.getElem?_cons_succ, List.getElem?_cons_zero]; try rfl); (· refine ⟨by kernel_rfl, ?_⟩; intro wq; go_simp; first | done | with_reducible rfl); (· exact fun _ _ _ h => h); try simp only [Act.put, List.setIfInBounds_toArray, List.set_cons_zero, List.set_cons_succ]); (refine wpAny_take1 1 (oi := ?_) (v := ?_) ?_ (by kernel_rfl) (by kernel_rfl) (by kernel_rfl) ?_ ?_ ?_; rotate_left 2; (· simp only [List.getElem?_toArray, List.getElem?_cons_succ, List.getElem?_cons_zero]; try rfl); (· refine ⟨by kernel_rfl, ?_⟩; intro wq; go_simp; first | done | with_reducible rfl); (· exact fun _ _ _ h => h); try simp only [Act.put, List.setIfInBounds_toArray, List.set_cons_zero, List.set_cons_succ]); (refine wpAny_take1 2 (oi := ?_) (v := ?_) ?_ (by kernel_rfl) (by kernel_rfl) (by kernel_rfl) ?_ ?_ ?_; rotate_left 2; (· simp only [List.getElem?_toArray, List.getElem?_cons_succ, List.getElem?_cons_zero]; try rfl); (· refine ⟨by kernel_rfl, ?_⟩; intro wq; go_simp; first | done | with_reducible rfl); (· exact fun _ _ _ h => h); try simp only [Act.put, List.setIfInBounds_toArray, List.set_cons_zero, List.set_cons_succ]); (refine wpAny_take1 3 (oi := ?_) (v := ?_) ?_ (by kernel_rfl) (by kernel_rfl) (by kernel_rfl) ?_ ?_ ?_; rotate_left 2; (· simp only [List.getElem?_toArray, List.getElem?_cons_succ, List.getElem?_cons_zero]; try rfl); (· refine ⟨by kernel_rfl, ?_⟩; intro wq; go_simp; first | done | with_reducible rfl); (· exact fun _ _ _ h => h); try simp only [Act.put, List.setIfInBounds_toArray, List.set_cons_zero, List.set_cons_succ]); (refine wpAny_take1 4 (oi := ?_) (v := ?_) ?_ (by kernel_rfl) (by kernel_rfl) (by kernel_rfl) ?_ ?_ ?_; rotate_left 2; (· simp only [List.getElem?_toArray, List.getElem?_cons_succ, List.getElem?_cons_zero]; try rfl); (· refine ⟨by kernel_rfl, ?_⟩; intro wq; go_simp; first | done | with_reducible rfl); (· exact fun _ _ _ h => h); try simp only [Act.put, List.setIfInBounds_toArray, List.set_cons_zero, List.set_cons_succ]); (refine wpAny_take1 5 (oi := ?_) (v := ?_) ?_ (by kernel_rfl) (by kernel_rfl) (by kernel_rfl) ?_ ?_ ?_; rotate_left 2; (· simp only [List.getElem?_toArray, List.getElem?_cons_succ, List.getElem?_cons_zero]; try rfl); (· refine ⟨by kernel_rfl, ?_⟩; intro wq; go_simp; first | done | with_reducible rfl); (· exact fun _ _ _ h => h); try simp only [Act.put, List.setIfInBounds_toArray, List.set_cons_zero, List.set_cons_succ]); (refine wpAny_take1 6 (oi := ?_) (v := ?_) ?_ (by kernel_rfl) (by kernel_rfl) (by kernel_rfl) ?_ ?_ ?_; rotate_left 2; (· simp only [List.getElem?_toArray, List.getElem?_cons_succ, List.getElem?_cons_zero]; try rfl); (· refine ⟨by kernel_rfl, ?_⟩; intro wq; go_simp; first | done | with_reducible rfl); (· exact fun _ _ _ h => h); try simp only [Act.put, List.setIfInBounds_toArray, List.set_cons_zero, List.set_cons_succ]); (refine wpAny_take1 8 (oi := ?_) (v := ?_) ?_ (by kernel_rfl) (by kernel_rfl) (by kernel_rfl) ?_ ?_ ?_; rotate_left 2; (· simp only [List.getElem?_toArray, List.getElem?_cons_succ, List.getElem?_cons_zero]; try rfl); (· refine ⟨by kernel_rfl, ?_⟩; intro wq; go_simp; first | done | with_reducible rfl); (· exact fun _ _ _ h => h); try simp only [Act.put, List.setIfInBounds_toArray, List.set_cons_zero, List.set_cons_succ]); (refine wpAny_take1 9 (oi := ?_) (v := ?_) ?_ (by kernel_rfl) (by kernel_rfl) (by kernel_rfl) ?_ ?_ ?_; rotate_left 2; (· simp only [List.getElem?_toArray, List.getElem?_cons_succ, List.getElem?_cons_zero]; try rfl); (· refine ⟨by kernel_rfl, ?_⟩; intro wq; go_simp; first | done | with_reducible rfl); (· exact fun _ _ _ h => h); try simp only [Act.put, List.setIfInBounds_toArray, List.set_cons_zero, List.set_cons_succ]); (refine wpAny_take1 10 (oi := ?_) (v := ?_) ?_ (by kernel_rfl) (by kernel_rfl) (by kernel_rfl) ?_ ?_ ?_; rotate_left 2; (· simp only [List.getElem?_toArray, List.getElem?_cons_succ, List.getElem?_cons_zero]; try rfl); (· refine ⟨by kernel_rfl, ?_⟩; intro wq; go_simp; first | done | with_reducible rfl); (· exact fun _ _ _ h => h); try simp only [Act.put, List.setIfInBounds_toArray, List.set_cons_zero, List.set_cons_succ]))
        refine wpAny_ready (rs := [7, 11]) (by kernel_rfl) (by simp) ?_; refine AllReady.cons (o := ?_) ?_ (fun K hK => ?_) (AllReady.cons (o := ?_) ?_ (fun K hK => ?_) AllReady.nil); rotate_left 1; (· simp only [List.getElem?_toArray, List.getElem?_cons_succ, List.getElem?_cons_zero]; try rfl); rotate_left 1; rotate_left 1; (· simp only [List.getElem?_toArray, List.getElem?_cons_succ, List.getElem?_cons_zero]; try rfl); rotate_left 1
        · (refine step_load rfl 46 _ rfl gx _ rfl _ _ HRb.out Tryz.underlying46 rfl HI4.out ?_; refine hK _ _ ?_; clear hK K; try simp only [Act.put, List.setIfInBounds_toArray, List.set_cons_zero, List.set_cons_succ])
          (refine wpAny_ready (rs := [11]) (by kernel_rfl) (by simp) (AllReady.cons (o := ?_) ?_ (fun K hK => ?_) AllReady.nil); rotate_left 1; (· simp only [List.getElem?_toArray, List.getElem?_cons_succ, List.getElem?_cons_zero]; try rfl))
          (refine step_load rfl 46 _ rfl gx _ rfl _ _ HRa.out Tryz.underlying46 rfl HI4.out ?_; refine hK _ _ ?_; clear hK K; try simp only [Act.put, List.setIfInBounds_toArray, List.set_cons_zero, List.set_cons_succ])
          ((refine wpAny_take1 12 (oi := ?_) (v := ?_) ?_ (by kernel_rfl) (by kernel_rfl) (by kernel_rfl) ?_ ?_ ?_; rotate_left 2; (· simp only [List.getElem?_toArray, List.getElem?_cons_succ, List.getElem?_cons_zero]; try rfl); (· refine ⟨by kernel_rfl, ?_⟩; intro wq; go_simp; first | done | with_reducible rfl); (· exact fun _ _ _ h => h); try simp only [Act.put, List.setIfInBounds_toArray, List.set_cons_zero, List.set_cons_succ])); (refine wpAny_ready (rs := [13]) (by kernel_rfl) (by simp) (AllReady.cons (o := ?_) ?_ (fun K hK => ?_) AllReady.nil); rotate_left 1; (· simp only [List.getElem?_toArray, List.getElem?_cons_succ, List.getElem?_cons_zero]; try rfl)); (refine step_store rfl 46 _ _ rfl gx (ka * 4) XB.cells.toArray rfl rfl HTa.out HI4.out (de_one _) ?_; refine hK _ _ ?_; clear hK K; try simp only [Act.put, List.setIfInBounds_toArray, List.set_cons_zero, List.set_cons_succ]); ((refine wpAny_take1 14 (oi := ?_) (v := ?_) ?_ (by kernel_rfl) (by kernel_rfl) (by kernel_rfl) ?_ ?_ ?_; rotate_left 2; (· simp only [List.getElem?_toArray, List.getElem?_cons_succ, List.getElem?_cons_zero]; try rfl); (· refine ⟨by kernel_rfl, ?_⟩; intro wq; go_simp; first | done | with_reducible rfl); (· exact fun _ _ _ h => h); try simp only [Act.put, List.setIfInBounds_toArray, List.set_cons_zero, List.set_cons_succ])); (refine wpAny_ready (rs := [15]) (by kernel_rfl) (by simp) (AllReady.cons (o := ?_) ?_ (fun K hK => ?_) AllReady.nil); rotate_left 1; (· simp only [List.getElem?_toArray, List.getElem?_cons_succ, List.getElem?_cons_zero]; try rfl)); (refine step_store rfl 46 _ _ rfl gx (kb * 4) XA.cells.toArray rfl rfl (World.there_setCells HTb.out _ _ _) HI4.out (de_one _) ?_; refine hK _ _ ?_; clear hK K; try simp only [Act.put, List.setIfInBounds_toArray, List.set_cons_zero, List.set_cons_succ]); refine wpAny_done (by kernel_rfl) ?_ _
          have HW2 : Hid (Blk w.heap.size ((wd.setCells gx (ka * 4) XB.cells.toArray.toList).setCells gx (kb * 4) XA.cells.toArray.toList) gx _ 4 _) := HW2; have HY2 : Hid (XInv w.heap.size ((wd.setCells gx (ka * 4) XB.cells.toArray.toList).setCells gx (kb * 4) XA.cells.toArray.toList) _ _ _ _) := HY2; have HB2 : Hid (RowKit.Below w.heap.size w ((wd.setCells gx (ka * 4) XB.cells.toArray.toList).setCells gx (kb * 4) XA.cells.toArray.toList)) := HB2; generalize ((wd.setCells gx (ka * 4) XB.cells.toArray.toList).setCells gx (kb * 4) XA.cells.toArray.toList) = W2 at HW2 HY2 HB2 ⊢; have HXN := Lib.hid (show XInv w.heap.size W2 46 ds.length (some ⟨gx, 0, none⟩) (xs2.map De.cells) from fun _ => ⟨gx, rfl, HW2.out⟩); have HPN := HP2; have HY := HY2; have HB := HB2; clear HW2 HY2 HB2 HP2 HRa HRb HTa HTb HI4
          by_cases hy0 : 0 < cs.length
          · obtain ⟨gy, rfl, hBy⟩ := HY.out hy0
            obtain ⟨la, hla, hlx⟩ : ∃ j : Nat, j < cs.length ∧ (j : Int) = (k : Int) % (cs.length : Int) := ⟨k % cs.length, Nat.mod_lt _ hy0, by simp⟩
            obtain ⟨lb, hlb, hly⟩ : ∃ j : Nat, j < cs.length ∧ (j : Int) = (O : Int) % (cs.length : Int) := ⟨O % cs.length, Nat.mod_lt _ hy0, by simp⟩
            have HLX := Lib.hid hlx; have HLY := Lib.hid hly; have HBY := Lib.hid hBy
            clear hlx hly hBy
            go_wp2
            refine wp_quietB (by kernel_rfl) (by kernel_rfl) ?_; (repeat (go_big_quiet_step (fail))); refine wpQuiet_nil ?_; intro wq hq2
            replace HBY := Lib.hid (HBY.out.below hq2); replace HXN := Lib.hid (HXN.out.below hq2); replace HB := Lib.hid (HB.out.trans (hq2.mono HB.out.size))
            clear hq2
            go_wp2
            rw [← HLX.out, ← HLY.out]
            have hwid : ys.length = cs.length := HPY.out.length_eq
            have hBd := HBY.out.below ((RowKit.Below.refl wq.heap.size wq).drew)
            have hXd := HXN.out.below ((RowKit.Below.refl wq.heap.size wq).drew)
            have HBd := Lib.hid (HB.out.trans (((RowKit.Below.refl wq.heap.size wq).drew).mono HB.out.size))
            have hi4 : (Tryz.prog.info? 44).map (·.size) = some 4 := by kernel_rfl
            have HRa := Lib.hid (hBd.range la (by omega)); have HRb := Lib.hid (hBd.range lb (by omega)); have HTa := Lib.hid (hBd.there la (by omega)); have HTb := Lib.hid (hBd.there lb (by omega))
            have HW3 := Lib.hid (Blk.swap (f := Co.cells) (fun _ => rfl) hBd la lb (by omega) (by omega))
            have HP3 := Lib.hid ((swap_perm ys la lb (by omega) (by omega)).trans HPY.out)
            have HX3 := Lib.hid (hXd.other hBd (by decide) (la * 4) (lb * 4) (ys[lb]'(by omega)).cells (ys[la]'(by omega)).cells)
            have HB3 := Lib.hid (below_cells (B := w.heap.size) gy hBd.ge (ys[la]'(by omega)).cells (lb * 4) (below_cells gy hBd.ge (ys[lb]'(by omega)).cells (la * 4) HBd.out))
            have HI4 := Lib.hid hi4
            clear hBd hXd HBd hi4 HB HBY HXN HY
            refine wp_region_any (by kernel_rfl) ?_
            change wpAny _ _ _ _ _ _ _ (World.drew _)
            generalize wq.drew = wd at *
            have hla' : la < ys.length := by omega
            have hlb' : lb < ys.length := by omega
            generalize ys[la]'(by omega) = YA at *
            generalize ys[lb]'(by omega) = YB at *
            generalize (ys.set la YB).set lb YA = ys2 at *
            clear hwid hla' hlb'
            ((refine wpAny_take1 0 (oi := ?_) (v := ?_) ?_ (by kernel_rfl) (by kernel_rfl) (by kernel_rfl) ?_ ?_ ?_; rotate_left 2; (· simp only [List.getElem?_toArray, List.getElem?_cons_succ, List.getElem?_cons_zero]; try rfl); (· refine ⟨by kernel_rfl, ?_⟩; intro wq; go_simp; first | done | with_reducible rfl); (· exact fun _ _ _ h => h); try simp only [Act.put, List.setIfInBounds_toArray, List.set_cons_zero, List.set_cons_succ]); (refine wpAny_take1 1 (oi := ?_) (v := ?_) ?_ (by kernel_rfl) (by kernel_rfl) (by kernel_rfl) ?_ ?_ ?_; rotate_left 2; (· simp only [List.getElem?_toArray, List.getElem?_cons_succ, List.getElem?_cons_zero]; try rfl); (· refine ⟨by kernel_rfl, ?_⟩; intro wq; go_simp; first | done | with_reducible rfl); (· exact fun _ _ _ h => h); try simp only [Act.put, List.setIfInBounds_toArray, List.set_cons_zero, List.set_cons_succ]); (refine wpAny_take1 2 (oi := ?_) (v := ?_) ?_ (by kernel_rfl) (by kernel_rfl) (by kernel_rfl) ?_ ?_ ?_; rotate_left 2; (· simp only [List.getElem?_toArray, List.getElem?_cons_succ, List.getElem?_cons_zero]; try rfl); (· refine ⟨by kernel_rfl, ?_⟩; intro wq; go_simp; first | done | with_reducible rfl); (· exact fun _ _ _ h => h); try simp only [Act.put, List.setIfInBounds_toArray, List.set_cons_zero, List.set_cons_succ]); (refine wpAny_take1 3 (oi := ?_) (v := ?_) ?_ (by kernel_rfl) (by kernel_rfl) (by kernel_rfl) ?_ ?_ ?_; rotate_left 2; (· simp only [List.getElem?_toArray, List.getElem?_cons_succ, List.getElem?_cons_zero]; try rfl); (· refine ⟨by kernel_rfl, ?_⟩; intro wq; go_simp; first | done | with_reducible rfl); (· exact fun _ _ _ h => h); try simp only [Act.put, List.setIfInBounds_toArray, List.set_cons_zero, List.set_cons_succ]); (refine wpAny_take1 4 (oi := ?_) (v := ?_) ?_ (by kernel_rfl) (by kernel_rfl) (by kernel_rfl) ?_ ?_ ?_; rotate_left 2; (· simp only [List.getElem?_toArray, List.getElem?_cons_succ, List.getElem?_cons_zero]; try rfl); (· refine ⟨by kernel_rfl, ?_⟩; intro wq; go_simp; first | done | with_reducible rfl); (· exact fun _ _ _ h => h); try simp only [Act.put, List.setIfInBounds_toArray, List.set_cons_zero, List.set_cons_succ]); (refine wpAny_take1 5 (oi := ?_) (v := ?_) ?_ (by kernel_rfl) (by kernel_rfl) (by kernel_rfl) ?_ ?_ ?_; rotate_left 2; (· simp only [List.getElem?_toArray, List.getElem?_cons_succ, List.getElem?_cons_zero]; try rfl); (· refine ⟨by kernel_rfl, ?_⟩; intro wq; go_simp; first | done | with_reducible rfl); (· exact fun _ _ _ h => h); try simp only [Act.put, List.setIfInBounds_toArray, List.set_cons_zero, List.set_cons_succ]); (refine wpAny_take1 6 (oi := ?_) (v := ?_) ?_ (by kernel_rfl) (by kernel_rfl) (by kernel_rfl) ?_ ?_ ?_; rotate_left 2; (· simp only [List.getElem?_toArray, List.getElem?_cons_succ, List.getElem?_cons_zero]; try rfl); (· refine ⟨by kernel_rfl, ?_⟩; intro wq; go_simp; first | done | with_reducible rfl); (· exact fun _ _ _ h => h); try simp only [Act.put, List.setIfInBounds_toArray, List.set_cons_zero, List.set_cons_succ]); (refine wpAny_take1 8 (oi := ?_) (v := ?_) ?_ (by kernel_rfl) (by kernel_rfl) (by kernel_rfl) ?_ ?_ ?_; rotate_left 2; (· simp only [List.getElem?_toArray, List.getElem?_cons_succ, List.getElem?_cons_zero]; try rfl); (· refine ⟨by kernel_rfl, ?_⟩; intro wq; go_simp; first | done | with_reducible rfl); (· exact fun _ _ _ h => h); try simp only [Act.put, List.setIfInBounds_toArray, List.set_cons_zero, List.set_cons_succ]); (refine wpAny_take1 9 (oi := ?_) (v := ?_) ?_ (by kernel_rfl) (by kernel_rfl) (by kernel_rfl) ?_ ?_ ?_; rotate_left 2; (· simp only [List.getElem?_toArray, List.getElem?_cons_succ, List.getElem?_cons_zero]; try rfl); (· refine ⟨by kernel_rfl, ?_⟩; intro wq; go_simp; first | done | with_reducible rfl); (· exact fun _ _ _ h => h); try simp only [Act.put, List.setIfInBounds_toArray, List.set_cons_zero, List.set_cons_succ]); (refine wpAny_take1 10 (oi := ?_) (v := ?_) ?_ (by kernel_rfl) (by kernel_rfl) (by kernel_rfl) ?_ ?_ ?_; rotate_left 2; (· simp only [List.getElem?_toArray, List.getElem?_cons_succ, List.getElem?_cons_zero]; try rfl); (· refine ⟨by kernel_rfl, ?_⟩; intro wq; go_simp; first | done | with_reducible rfl); (· exact fun _ _ _ h => h); try simp only [Act.put, List.setIfInBounds_toArray, List.set_cons_zero, List.set_cons_succ]))
            refine wpAny_ready (rs := [7, 11]) (by kernel_rfl) (by simp) ?_; refine AllReady.cons (o := ?_) ?_ (fun K hK => ?_) (AllReady.cons (o := ?_) ?_ (fun K hK => ?_) AllReady.nil); rotate_left 1; (· simp only [List.getElem?_toArray, List.getElem?_cons_succ, List.getElem?_cons_zero]; try rfl); rotate_left 1; rotate_left 1; (· simp only [List.getElem?_toArray, List.getElem?_cons_succ, List.getElem?_cons_zero]; try rfl); rotate_left 1
            · (refine step_load rfl 44 _ rfl gy _ rfl _ _ HRb.out Tryz.underlying44 rfl HI4.out ?_; refine hK _ _ ?_; clear hK K; try simp only [Act.put, List.setIfInBounds_toArray, List.set_cons_zero, List.set_cons_succ])
              (refine wpAny_ready (rs := [11]) (by kernel_rfl) (by simp) (AllReady.cons (o := ?_) ?_ (fun K hK => ?_) AllReady.nil); rotate_left 1; (· simp only [List.getElem?_toArray, List.getElem?_cons_succ, List.getElem?_cons_zero]; try rfl))
              (refine step_load rfl 44 _ rfl gy _ rfl _ _ HRa.out Tryz.underlying44 rfl HI4.out ?_; refine hK _ _ ?_; clear hK K; try simp only [Act.put, List.setIfInBounds_toArray, List.set_cons_zero, List.set_cons_succ])
              ((refine wpAny_take1 12 (oi := ?_) (v := ?_) ?_ (by kernel_rfl) (by kernel_rfl) (by kernel_rfl) ?_ ?_ ?_; rotate_left 2; (· simp only [List.getElem?_toArray, List.getElem?_cons_succ, List.getElem?_cons_zero]; try rfl); (· refine ⟨by kernel_rfl, ?_⟩; intro wq; go_simp; first | done | with_reducible rfl); (· exact fun _ _ _ h => h); try simp only [Act.put, List.setIfInBounds_toArray, List.set_cons_zero, List.set_cons_succ])); (refine wpAny_ready (rs := [13]) (by kernel_rfl) (by simp) (AllReady.cons (o := ?_) ?_ (fun K hK => ?_) AllReady.nil); rotate_left 1; (· simp only [List.getElem?_toArray, List.getElem?_cons_succ, List.getElem?_cons_zero]; try rfl)); (refine step_store rfl 44 _ _ rfl gy (la * 4) YB.cells.toArray rfl rfl HTa.out HI4.out (co_one _) ?_; refine hK _ _ ?_; clear hK K; try simp only [Act.put, List.setIfInBounds_toArray, List.set_cons_zero, List.set_cons_succ]); ((refine wpAny_take1 14 (oi := ?_) (v := ?_) ?_ (by kernel_rfl) (by kernel_rfl) (by kernel_rfl) ?_ ?_ ?_; rotate_left 2; (· simp only [List.getElem?_toArray, List.getElem?_cons_succ, List.getElem?_cons_zero]; try rfl); (· refine ⟨by kernel_rfl, ?_⟩; intro wq; go_simp; first | done | with_reducible rfl); (· exact fun _ _ _ h => h); try simp only [Act.put, List.setIfInBounds_toArray, List.set_cons_zero, List.set_cons_succ])); (refine wpAny_ready (rs := [15]) (by kernel_rfl) (by simp) (AllReady.cons (o := ?_) ?_ (fun K hK => ?_) AllReady.nil); rotate_left 1; (· simp only [List.getElem?_toArray, List.getElem?_cons_succ, List.getElem?_cons_zero]; try rfl)); (refine step_store rfl 44 _ _ rfl gy (lb * 4) YA.cells.toArray rfl rfl (World.there_setCells HTb.out _ _ _) HI4.out (co_one _) ?_; refine hK _ _ ?_; clear hK K; try simp only [Act.put, List.setIfInBounds_toArray, List.set_cons_zero, List.set_cons_succ]); refine wpAny_done (by kernel_rfl) ?_ _
              have HW3 : Hid (Blk w.heap.size ((wd.setCells gy (la * 4) YB.cells.toArray.toList).setCells gy (lb * 4) YA.cells.toArray.toList) gy _ 4 _) := HW3; have HX3 : Hid (XInv w.heap.size ((wd.setCells gy (la * 4) YB.cells.toArray.toList).setCells gy (lb * 4) YA.cells.toArray.toList) _ _ _ _) := HX3; have HB3 : Hid (RowKit.Below w.heap.size w ((wd.setCells gy (la * 4) YB.cells.toArray.toList).setCells gy (lb * 4) YA.cells.toArray.toList)) := HB3; generalize ((wd.setCells gy (la * 4) YB.cells.toArray.toList).setCells gy (lb * 4) YA.cells.toArray.toList) = W3 at HW3 HX3 HB3 ⊢; go_wp2; go_roundw; (case rel => exact ⟨k + 1, _, ys2, by omega, by go_num, HPN.out, HP3.out, HX3.out, fun _ => ⟨gy, rfl, HW3.out⟩, HB3.out⟩); (case measure => simp [intOf]; omega)
            · (refine step_load rfl 44 _ rfl gy _ rfl _ _ HRa.out Tryz.underlying44 rfl HI4.out ?_; refine hK _ _ ?_; clear hK K; try simp only [Act.put, List.setIfInBounds_toArray, List.set_cons_zero, List.set_cons_succ])
              (refine wpAny_ready (rs := [7]) (by kernel_rfl) (by simp) (AllReady.cons (o := ?_) ?_ (fun K hK => ?_) AllReady.nil); rotate_left 1; (· simp only [List.getElem?_toArray, List.getElem?_cons_succ, List.getElem?_cons_zero]; try rfl))
              (refine step_load rfl 44 _ rfl gy _ rfl _ _ HRb.out Tryz.underlying44 rfl HI4.out ?_; refine hK _ _ ?_; clear hK K; try simp only [Act.put, List.setIfInBounds_toArray, List.set_cons_zero, List.set_cons_succ])
              ((refine wpAny_take1 12 (oi := ?_) (v := ?_) ?_ (by kernel_rfl) (by kernel_rfl) (by kernel_rfl) ?_ ?_ ?_; rotate_left 2; (· simp only [List.getElem?_toArray, List.getElem?_cons_succ, List.getElem?_cons_zero]; try rfl); (· refine ⟨by kernel_rfl, ?_⟩; intro wq; go_simp; first | done | with_reducible rfl); (· exact fun _ _ _ h => h); try simp only [Act.put, List.setIfInBounds_toArray, List.set_cons_zero, List.set_cons_succ])); (refine wpAny_ready (rs := [13]) (by kernel_rfl) (by simp) (AllReady.cons (o := ?_) ?_ (fun K hK => ?_) AllReady.nil); rotate_left 1; (· simp only [List.getElem?_toArray, List.getElem?_cons_succ, List.getElem?_cons_zero]; try rfl)); (refine step_store rfl 44 _ _ rfl gy (la * 4) YB.cells.toArray rfl rfl HTa.out HI4.out (co_one _) ?_; refine hK _ _ ?_; clear hK K; try simp only [Act.put, List.setIfInBounds_toArray, List.set_cons_zero, List.set_cons_succ]); ((refine wpAny_take1 14 (oi := ?_) (v := ?_) ?_ (by kernel_rfl) (by kernel_rfl) (by kernel_rfl) ?_ ?_ ?_; rotate_left 2; (· simp only [List.getElem?_toArray, List.getElem?_cons_succ, List.getElem?_cons_zero]; try rfl); (· refine ⟨by kernel_rfl, ?_⟩; intro wq; go_simp; first | done | with_reducible rfl); (· exact fun _ _ _ h => h); try simp only [Act.put, List.setIfInBounds_toArray, List.set_cons_zero, List.set_cons_succ])); (refine wpAny_ready (rs := [15]) (by kernel_rfl) (by simp) (AllReady.cons (o := ?_) ?_ (fun K hK => ?_) AllReady.nil); rotate_left 1; (· simp only [List.getElem?_toArray, List.getElem?_cons_succ, List.getElem?_cons_zero]; try rfl)); (refine step_store rfl 44 _ _ rfl gy (lb * 4) YA.cells.toArray rfl rfl (World.there_setCells HTb.out _ _ _) HI4.out (co_one _) ?_; refine hK _ _ ?_; clear hK K; try simp only [Act.put, List.setIfInBounds_toArray, List.set_cons_zero, List.set_cons_succ]); refine wpAny_done (by kernel_rfl) ?_ _
              have HW3 : Hid (Blk w.heap.size ((wd.setCells gy (la * 4) YB.cells.toArray.toList).setCells gy (lb * 4) YA.cells.toArray.toList) gy _ 4 _) := HW3; have HX3 : Hid (XInv w.heap.size ((wd.setCells gy (la * 4) YB.cells.toArray.toList).setCells gy (lb * 4) YA.cells.toArray.toList) _ _ _ _) := HX3; have HB3 : Hid (RowKit.Below w.heap.size w ((wd.setCells gy (la * 4) YB.cells.toArray.toList).setCells gy (lb * 4) YA.cells.toArray.toList)) := HB3; generalize ((wd.setCells gy (la * 4) YB.cells.toArray.toList).setCells gy (lb * 4) YA.cells.toArray.toList) = W3 at HW3 HX3 HB3 ⊢; go_wp2; go_roundw; (case rel => exact ⟨k + 1, _, ys2, by omega, by go_num, HPN.out, HP3.out, HX3.out, fun _ => ⟨gy, rfl, HW3.out⟩, HB3.out⟩); (case measure => simp [intOf]; omega)
          · go_wp2
            go_roundw
            case rel => exact ⟨k + 1, _, ys, by omega, by go_num, HPN.out, HPY.out, HXN.out, HY.out, HB.out⟩
            case measure => simp [intOf]; omega
        · (refine step_load rfl 46 _ rfl gx _ rfl _ _ HRa.out Tryz.underlying46 rfl HI4.out ?_; refine hK _ _ ?_; clear hK K; try simp only [Act.put, List.setIfInBounds_toArray, List.set_cons_zero, List.set_cons_succ])
          (refine wpAny_ready (rs := [7]) (by kernel_rfl) (by simp) (AllReady.cons (o := ?_) ?_ (fun K hK => ?_) AllReady.nil); rotate_left 1; (· simp only [List.getElem?_toArray, List.getElem?_cons_succ, List.getElem?_cons_zero]; try rfl))
          (refine step_load rfl 46 _ rfl gx _ rfl _ _ HRb.out Tryz.underlying46 rfl HI4.out ?_; refine hK _ _ ?_; clear hK K; try simp only [Act.put, List.setIfInBounds_toArray, List.set_cons_zero, List.set_cons_succ])
          ((refine wpAny_take1 12 (oi := ?_) (v := ?_) ?_ (by kernel_rfl) (by kernel_rfl) (by kernel_rfl) ?_ ?_ ?_; rotate_left 2; (· simp only [List.getElem?_toArray, List.getElem?_cons_succ, List.getElem?_cons_zero]; try rfl); (· refine ⟨by kernel_rfl, ?_⟩; intro wq; go_simp; first | done | with_reducible rfl); (· exact fun _ _ _ h => h); try simp only [Act.put, List.setIfInBounds_toArray, List.set_cons_zero, List.set_cons_succ])); (refine wpAny_ready (rs := [13]) (by kernel_rfl) (by simp) (AllReady.cons (o := ?_) ?_ (fun K hK => ?_) AllReady.nil); rotate_left 1; (· simp only [List.getElem?_toArray, List.getElem?_cons_succ, List.getElem?_cons_zero]; try rfl)); (refine step_store rfl 46 _ _ rfl gx (ka * 4) XB.cells.toArray rfl rfl HTa.out HI4.out (de_one _) ?_; refine hK _ _ ?_; clear hK K; try simp only [Act.put, List.setIfInBounds_toArray, List.set_cons_zero, List.set_cons_succ]); ((refine wpAny_take1 14 (oi := ?_) (v := ?_) ?_ (by kernel_rfl) (by kernel_rfl) (by kernel_rfl) ?_ ?_ ?_; rotate_left 2; (· simp only [List.getElem?_toArray, List.getElem?_cons_succ, List.getElem?_cons_zero]; try rfl); (· refine ⟨by kernel_rfl, ?_⟩; intro wq; go_simp; first | done | with_reducible rfl); (· exact fun _ _ _ h => h); try simp only [Act.put, List.setIfInBounds_toArray, List.set_cons_zero, List.set_cons_succ])); (refine wpAny_ready (rs := [15]) (by kernel_rfl) (by simp) (AllReady.cons (o := ?_) ?_ (fun K hK => ?_) AllReady.nil); rotate_left 1; (· simp only [List.getElem?_toArray, List.getElem?_cons_succ, List.getElem?_cons_zero]; try rfl)); (refine step_store rfl 46 _ _ rfl gx (kb * 4) XA.cells.toArray rfl rfl (World.there_setCells HTb.out _ _ _) HI4.out (de_one _) ?_; refine hK _ _ ?_; clear hK K; try simp only [Act.put, List.setIfInBounds_toArray, List.set_cons_zero, List.set_cons_succ]); refine wpAny_done (by kernel_rfl) ?_ _
          have HW2 : Hid (Blk w.heap.size ((wd.setCells gx (ka * 4) XB.cells.toArray.toList).setCells gx (kb * 4) XA.cells.toArray.toList) gx _ 4 _) := HW2; have HY2 : Hid (XInv w.heap.size ((wd.setCells gx (ka * 4) XB.cells.toArray.toList).setCells gx (kb * 4) XA.cells.toArray.toList) _ _ _ _) := HY2; have HB2 : Hid (RowKit.Below w.heap.size w ((wd.setCells gx (ka * 4) XB.cells.toArray.toList).setCells gx (kb * 4) XA.cells.toArray.toList)) := HB2; generalize ((wd.setCells gx (ka * 4) XB.cells.toArray.toList).setCells gx (kb * 4) XA.cells.toArray.toList) = W2 at HW2 HY2 HB2 ⊢; have HXN := Lib.hid (show XInv w.heap.size W2 46 ds.length (some ⟨gx, 0, none⟩) (xs2.map De.cells) from fun _ => ⟨gx, rfl, HW2.out⟩); have HPN := HP2; have HY := HY2; have HB := HB2; clear HW2 HY2 HB2 HP2 HRa HRb HTa HTb HI4
          by_cases hy0 : 0 < cs.length
          · obtain ⟨gy, rfl, hBy⟩ := HY.out hy0
            obtain ⟨la, hla, hlx⟩ : ∃ j : Nat, j < cs.length ∧ (j : Int) = (k : Int) % (cs.length : Int) := ⟨k % cs.length, Nat.mod_lt _ hy0, by simp⟩
            obtain ⟨lb, hlb, hly⟩ : ∃ j : Nat, j < cs.length ∧ (j : Int) = (O : Int) % (cs.length : Int) := ⟨O % cs.length, Nat.mod_lt _ hy0, by simp⟩
            have HLX := Lib.hid hlx; have HLY := Lib.hid hly; have HBY := Lib.hid hBy
            clear hlx hly hBy
            go_wp2
            refine wp_quietB (by kernel_rfl) (by kernel_rfl) ?_; (repeat (go_big_quiet_step (fail))); refine wpQuiet_nil ?_; intro wq hq2
            replace HBY := Lib.hid (HBY.out.below hq2); replace HXN := Lib.hid (HXN.out.below hq2); replace HB := Lib.hid (HB.out.trans (hq2.mono HB.out.size))
            clear hq2
            go_wp2
            rw [← HLX.out, ← HLY.out]
            have hwid : ys.length = cs.length := HPY.out.length_eq
            have hBd := HBY.out.below ((RowKit.Below.refl wq.heap.size wq).drew)
            have hXd := HXN.out.below ((RowKit.Below.refl wq.heap.size wq).drew)
            have HBd := Lib.hid (HB.out.trans (((RowKit.Below.refl wq.heap.size wq).drew).mono HB.out.size))
            have hi4 : (Tryz.prog.info? 44).map (·.size) = some 4 := by kernel_rfl
            have HRa := Lib.hid (hBd.range la (by omega)); have HRb := Lib.hid (hBd.range lb (by omega)); have HTa := Lib.hid (hBd.there la (by omega)); have HTb := Lib.hid (hBd.there lb (by omega))
            have HW3 := Lib.hid (Blk.swap (f := Co.cells) (fun _ => rfl) hBd la lb (by omega) (by omega))
            have HP3 := Lib.hid ((swap_perm ys la lb (by omega) (by omega)).trans HPY.out)
            have HX3 := Lib.hid (hXd.other hBd (by decide) (la * 4) (lb * 4) (ys[lb]'(by omega)).cells (ys[la]'(by omega)).cells)
            have HB3 := Lib.hid (below_cells (B := w.heap.size) gy hBd.ge (ys[la]'(by omega)).cells (lb * 4) (below_cells gy hBd.ge (ys[lb]'(by omega)).cells (la * 4) HBd.out))
            have HI4 := Lib.hid hi4
            clear hBd hXd HBd hi4 HB HBY HXN HY
            refine wp_region_any (by kernel_rfl) ?_
            change wpAny _ _ _ _ _ _ _ (World.drew _)
            generalize wq.drew = wd at *
            have hla' : la < ys.length := by omega
            have hlb' : lb < ys.length := by omega
            generalize ys[la]'(by omega) = YA at *
            generalize ys[lb]'(by omega) = YB at *
            generalize (ys.set la YB).set lb YA = ys2 at *
            clear hwid hla' hlb'
            ((refine wpAny_take1 0 (oi := ?_) (v := ?_) ?_ (by kernel_rfl) (by kernel_rfl) (by kernel_rfl) ?_ ?_ ?_; rotate_left 2; (· simp only [List.getElem?_toArray, List.getElem?_cons_succ, List.getElem?_cons_zero]; try rfl); (· refine ⟨by kernel_rfl, ?_⟩; intro wq; go_simp; first | done | with_reducible rfl); (· exact fun _ _ _ h => h); try simp only [Act.put, List.setIfInBounds_toArray, List.set_cons_zero, List.set_cons_succ]); (refine wpAny_take1 1 (oi := ?_) (v := ?_) ?_ (by kernel_rfl) (by kernel_rfl) (by kernel_rfl) ?_ ?_ ?_; rotate_left 2; (· simp only [List.getElem?_toArray, List.getElem?_cons_succ, List.getElem?_cons_zero]; try rfl); (· refine ⟨by kernel_rfl, ?_⟩; intro wq; go_simp; first | done | with_reducible rfl); (· exact fun _ _ _ h => h); try simp only [Act.put, List.setIfInBounds_toArray, List.set_cons_zero, List.set_cons_succ]); (refine wpAny_take1 2 (oi := ?_) (v := ?_) ?_ (by kernel_rfl) (by kernel_rfl) (by kernel_rfl) ?_ ?_ ?_; rotate_left 2; (· simp only [List.getElem?_toArray, List.getElem?_cons_succ, List.getElem?_cons_zero]; try rfl); (· refine ⟨by kernel_rfl, ?_⟩; intro wq; go_simp; first | done | with_reducible rfl); (· exact fun _ _ _ h => h); try simp only [Act.put, List.setIfInBounds_toArray, List.set_cons_zero, List.set_cons_succ]); (refine wpAny_take1 3 (oi := ?_) (v := ?_) ?_ (by kernel_rfl) (by kernel_rfl) (by kernel_rfl) ?_ ?_ ?_; rotate_left 2; (· simp only [List.getElem?_toArray, List.getElem?_cons_succ, List.getElem?_cons_zero]; try rfl); (· refine ⟨by kernel_rfl, ?_⟩; intro wq; go_simp; first | done | with_reducible rfl); (· exact fun _ _ _ h => h); try simp only [Act.put, List.setIfInBounds_toArray, List.set_cons_zero, List.set_cons_succ]); (refine wpAny_take1 4 (oi := ?_) (v := ?_) ?_ (by kernel_rfl) (by kernel_rfl) (by kernel_rfl) ?_ ?_ ?_; rotate_left 2; (· simp only [List.getElem?_toArray, List.getElem?_cons_succ, List.getElem?_cons_zero]; try rfl); (· refine ⟨by kernel_rfl, ?_⟩; intro wq; go_simp; first | done | with_reducible rfl); (· exact fun _ _ _ h => h); try simp only [Act.put, List.setIfInBounds_toArray, List.set_cons_zero, List.set_cons_succ]); (refine wpAny_take1 5 (oi := ?_) (v := ?_) ?_ (by kernel_rfl) (by kernel_rfl) (by kernel_rfl) ?_ ?_ ?_; rotate_left 2; (· simp only [List.getElem?_toArray, List.getElem?_cons_succ, List.getElem?_cons_zero]; try rfl); (· refine ⟨by kernel_rfl, ?_⟩; intro wq; go_simp; first | done | with_reducible rfl); (· exact fun _ _ _ h => h); try simp only [Act.put, List.setIfInBounds_toArray, List.set_cons_zero, List.set_cons_succ]); (refine wpAny_take1 6 (oi := ?_) (v := ?_) ?_ (by kernel_rfl) (by kernel_rfl) (by kernel_rfl) ?_ ?_ ?_; rotate_left 2; (· simp only [List.getElem?_toArray, List.getElem?_cons_succ, List.getElem?_cons_zero]; try rfl); (· refine ⟨by kernel_rfl, ?_⟩; intro wq; go_simp; first | done | with_reducible rfl); (· exact fun _ _ _ h => h); try simp only [Act.put, List.setIfInBounds_toArray, List.set_cons_zero, List.set_cons_succ]); (refine wpAny_take1 8 (oi := ?_) (v := ?_) ?_ (by kernel_rfl) (by kernel_rfl) (by kernel_rfl) ?_ ?_ ?_; rotate_left 2; (· simp only [List.getElem?_toArray, List.getElem?_cons_succ, List.getElem?_cons_zero]; try rfl); (· refine ⟨by kernel_rfl, ?_⟩; intro wq; go_simp; first | done | with_reducible rfl); (· exact fun _ _ _ h => h); try simp only [Act.put, List.setIfInBounds_toArray, List.set_cons_zero, List.set_cons_succ]); (refine wpAny_take1 9 (oi := ?_) (v := ?_) ?_ (by kernel_rfl) (by kernel_rfl) (by kernel_rfl) ?_ ?_ ?_; rotate_left 2; (· simp only [List.getElem?_toArray, List.getElem?_cons_succ, List.getElem?_cons_zero]; try rfl); (· refine ⟨by kernel_rfl, ?_⟩; intro wq; go_simp; first | done | with_reducible rfl); (· exact fun _ _ _ h => h); try simp only [Act.put, List.setIfInBounds_toArray, List.set_cons_zero, List.set_cons_succ]); (refine wpAny_take1 10 (oi := ?_) (v := ?_) ?_ (by kernel_rfl) (by kernel_rfl) (by kernel_rfl) ?_ ?_ ?_; rotate_left 2; (· simp only [List.getElem?_toArray, List.getElem?_cons_succ, List.getElem?_cons_zero]; try rfl); (· refine ⟨by kernel_rfl, ?_⟩; intro wq; go_simp; first | done | with_reducible rfl); (· exact fun _ _ _ h => h); try simp only [Act.put, List.setIfInBounds_toArray, List.set_cons_zero, List.set_cons_succ]))
            refine wpAny_ready (rs := [7, 11]) (by kernel_rfl) (by simp) ?_; refine AllReady.cons (o := ?_) ?_ (fun K hK => ?_) (AllReady.cons (o := ?_) ?_ (fun K hK => ?_) AllReady.nil); rotate_left 1; (· simp only [List.getElem?_toArray, List.getElem?_cons_succ, List.getElem?_cons_zero]; try rfl); rotate_left 1; rotate_left 1; (· simp only [List.getElem?_toArray, List.getElem?_cons_succ, List.getElem?_cons_zero]; try rfl); rotate_left 1
            · (refine step_load rfl 44 _ rfl gy _ rfl _ _ HRb.out Tryz.underlying44 rfl HI4.out ?_; refine hK _ _ ?_; clear hK K; try simp only [Act.put, List.setIfInBounds_toArray, List.set_cons_zero, List.set_cons_succ])
              (refine wpAny_ready (rs := [11]) (by kernel_rfl) (by simp) (AllReady.cons (o := ?_) ?_ (fun K hK => ?_) AllReady.nil); rotate_left 1; (· simp only [List.getElem?_toArray, List.getElem?_cons_succ, List.getElem?_cons_zero]; try rfl))
              (refine step_load rfl 44 _ rfl gy _ rfl _ _ HRa.out Tryz.underlying44 rfl HI4.out ?_; refine hK _ _ ?_; clear hK K; try simp only [Act.put, List.setIfInBounds_toArray, List.set_cons_zero, List.set_cons_succ])
              ((refine wpAny_take1 12 (oi := ?_) (v := ?_) ?_ (by kernel_rfl) (by kernel_rfl) (by kernel_rfl) ?_ ?_ ?_; rotate_left 2; (· simp only [List.getElem?_toArray, List.getElem?_cons_succ, List.getElem?_cons_zero]; try rfl); (· refine ⟨by kernel_rfl, ?_⟩; intro wq; go_simp; first | done | with_reducible rfl); (· exact fun _ _ _ h => h); try simp only [Act.put, List.setIfInBounds_toArray, List.set_cons_zero, List.set_cons_succ])); (refine wpAny_ready (rs := [13]) (by kernel_rfl) (by simp) (AllReady.cons (o := ?_) ?_ (fun K hK => ?_) AllReady.nil); rotate_left 1; (· simp only [List.getElem?_toArray, List.getElem?_cons_succ, List.getElem?_cons_zero]; try rfl)); (refine step_store rfl 44 _ _ rfl gy (la * 4) YB.cells.toArray rfl rfl HTa.out HI4.out (co_one _) ?_; refine hK _ _ ?_; clear hK K; try simp only [Act.put, List.setIfInBounds_toArray, List.set_cons_zero, List.set_cons_succ]); ((refine wpAny_take1 14 (oi := ?_) (v := ?_) ?_ (by kernel_rfl) (by kernel_rfl) (by kernel_rfl) ?_ ?_ ?_; rotate_left 2; (· simp only [List.getElem?_toArray, List.getElem?_cons_succ, List.getElem?_cons_zero]; try rfl); (· refine ⟨by kernel_rfl, ?_⟩; intro wq; go_simp; first | done | with_reducible rfl); (· exact fun _ _ _ h => h); try simp only [Act.put, List.setIfInBounds_toArray, List.set_cons_zero, List.set_cons_succ])); (refine wpAny_ready (rs := [15]) (by kernel_rfl) (by simp) (AllReady.cons (o := ?_) ?_ (fun K hK => ?_) AllReady.nil); rotate_left 1; (· simp only [List.getElem?_toArray, List.getElem?_cons_succ, List.getElem?_cons_zero]; try rfl)); (refine step_store rfl 44 _ _ rfl gy (lb * 4) YA.cells.toArray rfl rfl (World.there_setCells HTb.out _ _ _) HI4.out (co_one _) ?_; refine hK _ _ ?_; clear hK K; try simp only [Act.put, List.setIfInBounds_toArray, List.set_cons_zero, List.set_cons_succ]); refine wpAny_done (by kernel_rfl) ?_ _
              have HW3 : Hid (Blk w.heap.size ((wd.setCells gy (la * 4) YB.cells.toArray.toList).setCells gy (lb * 4) YA.cells.toArray.toList) gy _ 4 _) := HW3; have HX3 : Hid (XInv w.heap.size ((wd.setCells gy (la * 4) YB.cells.toArray.toList).setCells gy (lb * 4) YA.cells.toArray.toList) _ _ _ _) := HX3; have HB3 : Hid (RowKit.Below w.heap.size w ((wd.setCells gy (la * 4) YB.cells.toArray.toList).setCells gy (lb * 4) YA.cells.toArray.toList)) := HB3; generalize ((wd.setCells gy (la * 4) YB.cells.toArray.toList).setCells gy (lb * 4) YA.cells.toArray.toList) = W3 at HW3 HX3 HB3 ⊢; go_wp2; go_roundw; (case rel => exact ⟨k + 1, _, ys2, by omega, by go_num, HPN.out, HP3.out, HX3.out, fun _ => ⟨gy, rfl, HW3.out⟩, HB3.out⟩); (case measure => simp [intOf]; omega)
            · (refine step_load rfl 44 _ rfl gy _ rfl _ _ HRa.out Tryz.underlying44 rfl HI4.out ?_; refine hK _ _ ?_; clear hK K; try simp only [Act.put, List.setIfInBounds_toArray, List.set_cons_zero, List.set_cons_succ])
              (refine wpAny_ready (rs := [7]) (by kernel_rfl) (by simp) (AllReady.cons (o := ?_) ?_ (fun K hK => ?_) AllReady.nil); rotate_left 1; (· simp only [List.getElem?_toArray, List.getElem?_cons_succ, List.getElem?_cons_zero]; try rfl))
              (refine step_load rfl 44 _ rfl gy _ rfl _ _ HRb.out Tryz.underlying44 rfl HI4.out ?_; refine hK _ _ ?_; clear hK K; try simp only [Act.put, List.setIfInBounds_toArray, List.set_cons_zero, List.set_cons_succ])
              ((refine wpAny_take1 12 (oi := ?_) (v := ?_) ?_ (by kernel_rfl) (by kernel_rfl) (by kernel_rfl) ?_ ?_ ?_; rotate_left 2; (· simp only [List.getElem?_toArray, List.getElem?_cons_succ, List.getElem?_cons_zero]; try rfl); (· refine ⟨by kernel_rfl, ?_⟩; intro wq; go_simp; first | done | with_reducible rfl); (· exact fun _ _ _ h => h); try simp only [Act.put, List.setIfInBounds_toArray, List.set_cons_zero, List.set_cons_succ])); (refine wpAny_ready (rs := [13]) (by kernel_rfl) (by simp) (AllReady.cons (o := ?_) ?_ (fun K hK => ?_) AllReady.nil); rotate_left 1; (· simp only [List.getElem?_toArray, List.getElem?_cons_succ, List.getElem?_cons_zero]; try rfl)); (refine step_store rfl 44 _ _ rfl gy (la * 4) YB.cells.toArray rfl rfl HTa.out HI4.out (co_one _) ?_; refine hK _ _ ?_; clear hK K; try simp only [Act.put, List.setIfInBounds_toArray, List.set_cons_zero, List.set_cons_succ]); ((refine wpAny_take1 14 (oi := ?_) (v := ?_) ?_ (by kernel_rfl) (by kernel_rfl) (by kernel_rfl) ?_ ?_ ?_; rotate_left 2; (· simp only [List.getElem?_toArray, List.getElem?_cons_succ, List.getElem?_cons_zero]; try rfl); (· refine ⟨by kernel_rfl, ?_⟩; intro wq; go_simp; first | done | with_reducible rfl); (· exact fun _ _ _ h => h); try simp only [Act.put, List.setIfInBounds_toArray, List.set_cons_zero, List.set_cons_succ])); (refine wpAny_ready (rs := [15]) (by kernel_rfl) (by simp) (AllReady.cons (o := ?_) ?_ (fun K hK => ?_) AllReady.nil); rotate_left 1; (· simp only [List.getElem?_toArray, List.getElem?_cons_succ, List.getElem?_cons_zero]; try rfl)); (refine step_store rfl 44 _ _ rfl gy (lb * 4) YA.cells.toArray rfl rfl (World.there_setCells HTb.out _ _ _) HI4.out (co_one _) ?_; refine hK _ _ ?_; clear hK K; try simp only [Act.put, List.setIfInBounds_toArray, List.set_cons_zero, List.set_cons_succ]); refine wpAny_done (by kernel_rfl) ?_ _
              have HW3 : Hid (Blk w.heap.size ((wd.setCells gy (la * 4) YB.cells.toArray.toList).setCells gy (lb * 4) YA.cells.toArray.toList) gy _ 4 _) := HW3; have HX3 : Hid (XInv w.heap.size ((wd.setCells gy (la * 4) YB.cells.toArray.toList).setCells gy (lb * 4) YA.cells.toArray.toList) _ _ _ _) := HX3; have HB3 : Hid (RowKit.Below w.heap.size w ((wd.setCells gy (la * 4) YB.cells.toArray.toList).setCells gy (lb * 4) YA.cells.toArray.toList)) := HB3; generalize ((wd.setCells gy (la * 4) YB.cells.toArray.toList).setCells gy (lb * 4) YA.cells.toArray.toList) = W3 at HW3 HX3 HB3 ⊢; go_wp2; go_roundw; (case rel => exact ⟨k + 1, _, ys2, by omega, by go_num, HPN.out, HP3.out, HX3.out, fun _ => ⟨gy, rfl, HW3.out⟩, HB3.out⟩); (case measure => simp [intOf]; omega)
          · go_wp2
            go_roundw
            case rel => exact ⟨k + 1, _, ys, by omega, by go_num, HPN.out, HPY.out, HXN.out, HY.out, HB.out⟩
            case measure => simp [intOf]; omega
      · have HXN := HX; have HPN := HPX
        clear HX HPX
        by_cases hy0 : 0 < cs.length
        · obtain ⟨gy, rfl, hBy⟩ := HY.out hy0
          obtain ⟨la, hla, hlx⟩ : ∃ j : Nat, j < cs.length ∧ (j : Int) = (k : Int) % (cs.length : Int) := ⟨k % cs.length, Nat.mod_lt _ hy0, by simp⟩
          obtain ⟨lb, hlb, hly⟩ : ∃ j : Nat, j < cs.length ∧ (j : Int) = (O : Int) % (cs.length : Int) := ⟨O % cs.length, Nat.mod_lt _ hy0, by simp⟩
          have HLX := Lib.hid hlx; have HLY := Lib.hid hly; have HBY := Lib.hid hBy
          clear hlx hly hBy
          go_wp2
          refine wp_quietB (by kernel_rfl) (by kernel_rfl) ?_; (repeat (go_big_quiet_step (fail))); refine wpQuiet_nil ?_; intro wq hq2
          replace HBY := Lib.hid (HBY.out.below hq2); replace HXN := Lib.hid (HXN.out.below hq2); replace HB := Lib.hid (HB.out.trans (hq2.mono HB.out.size))
          clear hq2
          go_wp2
          rw [← HLX.out, ← HLY.out]
          have hwid : ys.length = cs.length := HPY.out.length_eq
          have hBd := HBY.out.below ((RowKit.Below.refl wq.heap.size wq).drew)
          have hXd := HXN.out.below ((RowKit.Below.refl wq.heap.size wq).drew)
          have HBd := Lib.hid (HB.out.trans (((RowKit.Below.refl wq.heap.size wq).drew).mono HB.out.size))
          have hi4 : (Tryz.prog.info? 44).map (·.size) = some 4 := by kernel_rfl
          have HRa := Lib.hid (hBd.range la (by omega)); have HRb := Lib.hid (hBd.range lb (by omega)); have HTa := Lib.hid (hBd.there la (by omega)); have HTb := Lib.hid (hBd.there lb (by omega))
          have HW3 := Lib.hid (Blk.swap (f := Co.cells) (fun _ => rfl) hBd la lb (by omega) (by omega))
          have HP3 := Lib.hid ((swap_perm ys la lb (by omega) (by omega)).trans HPY.out)
          have HX3 := Lib.hid (hXd.other hBd (by decide) (la * 4) (lb * 4) (ys[lb]'(by omega)).cells (ys[la]'(by omega)).cells)
          have HB3 := Lib.hid (below_cells (B := w.heap.size) gy hBd.ge (ys[la]'(by omega)).cells (lb * 4) (below_cells gy hBd.ge (ys[lb]'(by omega)).cells (la * 4) HBd.out))
          have HI4 := Lib.hid hi4
          clear hBd hXd HBd hi4 HB HBY HXN HY
          refine wp_region_any (by kernel_rfl) ?_
          change wpAny _ _ _ _ _ _ _ (World.drew _)
          generalize wq.drew = wd at *
          have hla' : la < ys.length := by omega
          have hlb' : lb < ys.length := by omega
          generalize ys[la]'(by omega) = YA at *
          generalize ys[lb]'(by omega) = YB at *
          generalize (ys.set la YB).set lb YA = ys2 at *
          clear hwid hla' hlb'
          ((refine wpAny_take1 0 (oi := ?_) (v := ?_) ?_ (by kernel_rfl) (by kernel_rfl) (by kernel_rfl) ?_ ?_ ?_; rotate_left 2; (· simp only [List.getElem?_toArray, List.getElem?_cons_succ, List.getElem?_cons_zero]; try rfl); (· refine ⟨by kernel_rfl, ?_⟩; intro wq; go_simp; first | done | with_reducible rfl); (· exact fun _ _ _ h => h); try simp only [Act.put, List.setIfInBounds_toArray, List.set_cons_zero, List.set_cons_succ]); (refine wpAny_take1 1 (oi := ?_) (v := ?_) ?_ (by kernel_rfl) (by kernel_rfl) (by kernel_rfl) ?_ ?_ ?_; rotate_left 2; (· simp only [List.getElem?_toArray, List.getElem?_cons_succ, List.getElem?_cons_zero]; try rfl); (· refine ⟨by kernel_rfl, ?_⟩; intro wq; go_simp; first | done | with_reducible rfl); (· exact fun _ _ _ h => h); try simp only [Act.put, List.setIfInBounds_toArray, List.set_cons_zero, List.set_cons_succ]); (refine wpAny_take1 2 (oi := ?_) (v := ?_) ?_ (by kernel_rfl) (by kernel_rfl) (by kernel_rfl) ?_ ?_ ?_; rotate_left 2; (· simp only [List.getElem?_toArray, List.getElem?_cons_succ, List.getElem?_cons_zero]; try rfl); (· refine ⟨by kernel_rfl, ?_⟩; intro wq; go_simp; first | done | with_reducible rfl); (· exact fun _ _ _ h => h); try simp only [Act.put, List.setIfInBounds_toArray, List.set_cons_zero, List.set_cons_succ]); (refine wpAny_take1 3 (oi := ?_) (v := ?_) ?_ (by kernel_rfl) (by kernel_rfl) (by kernel_rfl) ?_ ?_ ?_; rotate_left 2; (· simp only [List.getElem?_toArray, List.getElem?_cons_succ, List.getElem?_cons_zero]; try rfl); (· refine ⟨by kernel_rfl, ?_⟩; intro wq; go_simp; first | done | with_reducible rfl); (· exact fun _ _ _ h => h); try simp only [Act.put, List.setIfInBounds_toArray, List.set_cons_zero, List.set_cons_succ]); (refine wpAny_take1 4 (oi := ?_) (v := ?_) ?_ (by kernel_rfl) (by kernel_rfl) (by kernel_rfl) ?_ ?_ ?_; rotate_left 2; (· simp only [List.getElem?_toArray, List.getElem?_cons_succ, List.getElem?_cons_zero]; try rfl); (· refine ⟨by kernel_rfl, ?_⟩; intro wq; go_simp; first | done | with_reducible rfl); (· exact fun _ _ _ h => h); try simp only [Act.put, List.setIfInBounds_toArray, List.set_cons_zero, List.set_cons_succ]); (refine wpAny_take1 5 (oi := ?_) (v := ?_) ?_ (by kernel_rfl) (by kernel_rfl) (by kernel_rfl) ?_ ?_ ?_; rotate_left 2; (· simp only [List.getElem?_toArray, List.getElem?_cons_succ, List.getElem?_cons_zero]; try rfl); (· refine ⟨by kernel_rfl, ?_⟩; intro wq; go_simp; first | done | with_reducible rfl); (· exact fun _ _ _ h => h); try simp only [Act.put, List.setIfInBounds_toArray, List.set_cons_zero, List.set_cons_succ]); (refine wpAny_take1 6 (oi := ?_) (v := ?_) ?_ (by kernel_rfl) (by kernel_rfl) (by kernel_rfl) ?_ ?_ ?_; rotate_left 2; (· simp only [List.getElem?_toArray, List.getElem?_cons_succ, List.getElem?_cons_zero]; try rfl); (· refine ⟨by kernel_rfl, ?_⟩; intro wq; go_simp; first | done | with_reducible rfl); (· exact fun _ _ _ h => h); try simp only [Act.put, List.setIfInBounds_toArray, List.set_cons_zero, List.set_cons_succ]); (refine wpAny_take1 8 (oi := ?_) (v := ?_) ?_ (by kernel_rfl) (by kernel_rfl) (by kernel_rfl) ?_ ?_ ?_; rotate_left 2; (· simp only [List.getElem?_toArray, List.getElem?_cons_succ, List.getElem?_cons_zero]; try rfl); (· refine ⟨by kernel_rfl, ?_⟩; intro wq; go_simp; first | done | with_reducible rfl); (· exact fun _ _ _ h => h); try simp only [Act.put, List.setIfInBounds_toArray, List.set_cons_zero, List.set_cons_succ]); (refine wpAny_take1 9 (oi := ?_) (v := ?_) ?_ (by kernel_rfl) (by kernel_rfl) (by kernel_rfl) ?_ ?_ ?_; rotate_left 2; (· simp only [List.getElem?_toArray, List.getElem?_cons_succ, List.getElem?_cons_zero]; try rfl); (· refine ⟨by kernel_rfl, ?_⟩; intro wq; go_simp; first | done | with_reducible rfl); (· exact fun _ _ _ h => h); try simp only [Act.put, List.setIfInBounds_toArray, List.set_cons_zero, List.set_cons_succ]); (refine wpAny_take1 10 (oi := ?_) (v := ?_) ?_ (by kernel_rfl) (by kernel_rfl) (by kernel_rfl) ?_ ?_ ?_; rotate_left 2; (· simp only [List.getElem?_toArray, List.getElem?_cons_succ, List.getElem?_cons_zero]; try rfl); (· refine ⟨by kernel_rfl, ?_⟩; intro wq; go_simp; first | done | with_reducible rfl); (· exact fun _ _ _ h => h); try simp only [Act.put, List.setIfInBounds_toArray, List.set_cons_zero, List.set_cons_succ]))
          refine wpAny_ready (rs := [7, 11]) (by kernel_rfl) (by simp) ?_; refine AllReady.cons (o := ?_) ?_ (fun K hK => ?_) (AllReady.cons (o := ?_) ?_ (fun K hK => ?_) AllReady.nil); rotate_left 1; (· simp only [List.getElem?_toArray, List.getElem?_cons_succ, List.getElem?_cons_zero]; try rfl); rotate_left 1; rotate_left 1; (· simp only [List.getElem?_toArray, List.getElem?_cons_succ, List.getElem?_cons_zero]; try rfl); rotate_left 1
          · (refine step_load rfl 44 _ rfl gy _ rfl _ _ HRb.out Tryz.underlying44 rfl HI4.out ?_; refine hK _ _ ?_; clear hK K; try simp only [Act.put, List.setIfInBounds_toArray, List.set_cons_zero, List.set_cons_succ])
            (refine wpAny_ready (rs := [11]) (by kernel_rfl) (by simp) (AllReady.cons (o := ?_) ?_ (fun K hK => ?_) AllReady.nil); rotate_left 1; (· simp only [List.getElem?_toArray, List.getElem?_cons_succ, List.getElem?_cons_zero]; try rfl))
            (refine step_load rfl 44 _ rfl gy _ rfl _ _ HRa.out Tryz.underlying44 rfl HI4.out ?_; refine hK _ _ ?_; clear hK K; try simp only [Act.put, List.setIfInBounds_toArray, List.set_cons_zero, List.set_cons_succ])
            ((refine wpAny_take1 12 (oi := ?_) (v := ?_) ?_ (by kernel_rfl) (by kernel_rfl) (by kernel_rfl) ?_ ?_ ?_; rotate_left 2; (· simp only [List.getElem?_toArray, List.getElem?_cons_succ, List.getElem?_cons_zero]; try rfl); (· refine ⟨by kernel_rfl, ?_⟩; intro wq; go_simp; first | done | with_reducible rfl); (· exact fun _ _ _ h => h); try simp only [Act.put, List.setIfInBounds_toArray, List.set_cons_zero, List.set_cons_succ])); (refine wpAny_ready (rs := [13]) (by kernel_rfl) (by simp) (AllReady.cons (o := ?_) ?_ (fun K hK => ?_) AllReady.nil); rotate_left 1; (· simp only [List.getElem?_toArray, List.getElem?_cons_succ, List.getElem?_cons_zero]; try rfl)); (refine step_store rfl 44 _ _ rfl gy (la * 4) YB.cells.toArray rfl rfl HTa.out HI4.out (co_one _) ?_; refine hK _ _ ?_; clear hK K; try simp only [Act.put, List.setIfInBounds_toArray, List.set_cons_zero, List.set_cons_succ]); ((refine wpAny_take1 14 (oi := ?_) (v := ?_) ?_ (by kernel_rfl) (by kernel_rfl) (by kernel_rfl) ?_ ?_ ?_; rotate_left 2; (· simp only [List.getElem?_toArray, List.getElem?_cons_succ, List.getElem?_cons_zero]; try rfl); (· refine ⟨by kernel_rfl, ?_⟩; intro wq; go_simp; first | done | with_reducible rfl); (· exact fun _ _ _ h => h); try simp only [Act.put, List.setIfInBounds_toArray, List.set_cons_zero, List.set_cons_succ])); (refine wpAny_ready (rs := [15]) (by kernel_rfl) (by simp) (AllReady.cons (o := ?_) ?_ (fun K hK => ?_) AllReady.nil); rotate_left 1; (· simp only [List.getElem?_toArray, List.getElem?_cons_succ, List.getElem?_cons_zero]; try rfl)); (refine step_store rfl 44 _ _ rfl gy (lb * 4) YA.cells.toArray rfl rfl (World.there_setCells HTb.out _ _ _) HI4.out (co_one _) ?_; refine hK _ _ ?_; clear hK K; try simp only [Act.put, List.setIfInBounds_toArray, List.set_cons_zero, List.set_cons_succ]); refine wpAny_done (by kernel_rfl) ?_ _
            have HW3 : Hid (Blk w.heap.size ((wd.setCells gy (la * 4) YB.cells.toArray.toList).setCells gy (lb * 4) YA.cells.toArray.toList) gy _ 4 _) := HW3; have HX3 : Hid (XInv w.heap.size ((wd.setCells gy (la * 4) YB.cells.toArray.toList).setCells gy (lb * 4) YA.cells.toArray.toList) _ _ _ _) := HX3; have HB3 : Hid (RowKit.Below w.heap.size w ((wd.setCells gy (la * 4) YB.cells.toArray.toList).setCells gy (lb * 4) YA.cells.toArray.toList)) := HB3; generalize ((wd.setCells gy (la * 4) YB.cells.toArray.toList).setCells gy (lb * 4) YA.cells.toArray.toList) = W3 at HW3 HX3 HB3 ⊢; go_wp2; go_roundw; (case rel => exact ⟨k + 1, _, ys2, by omega, by go_num, HPN.out, HP3.out, HX3.out, fun _ => ⟨gy, rfl, HW3.out⟩, HB3.out⟩); (case measure => simp [intOf]; omega)
          · (refine step_load rfl 44 _ rfl gy _ rfl _ _ HRa.out Tryz.underlying44 rfl HI4.out ?_; refine hK _ _ ?_; clear hK K; try simp only [Act.put, List.setIfInBounds_toArray, List.set_cons_zero, List.set_cons_succ])
            (refine wpAny_ready (rs := [7]) (by kernel_rfl) (by simp) (AllReady.cons (o := ?_) ?_ (fun K hK => ?_) AllReady.nil); rotate_left 1; (· simp only [List.getElem?_toArray, List.getElem?_cons_succ, List.getElem?_cons_zero]; try rfl))
            (refine step_load rfl 44 _ rfl gy _ rfl _ _ HRb.out Tryz.underlying44 rfl HI4.out ?_; refine hK _ _ ?_; clear hK K; try simp only [Act.put, List.setIfInBounds_toArray, List.set_cons_zero, List.set_cons_succ])
            ((refine wpAny_take1 12 (oi := ?_) (v := ?_) ?_ (by kernel_rfl) (by kernel_rfl) (by kernel_rfl) ?_ ?_ ?_; rotate_left 2; (· simp only [List.getElem?_toArray, List.getElem?_cons_succ, List.getElem?_cons_zero]; try rfl); (· refine ⟨by kernel_rfl, ?_⟩; intro wq; go_simp; first | done | with_reducible rfl); (· exact fun _ _ _ h => h); try simp only [Act.put, List.setIfInBounds_toArray, List.set_cons_zero, List.set_cons_succ])); (refine wpAny_ready (rs := [13]) (by kernel_rfl) (by simp) (AllReady.cons (o := ?_) ?_ (fun K hK => ?_) AllReady.nil); rotate_left 1; (· simp only [List.getElem?_toArray, List.getElem?_cons_succ, List.getElem?_cons_zero]; try rfl)); (refine step_store rfl 44 _ _ rfl gy (la * 4) YB.cells.toArray rfl rfl HTa.out HI4.out (co_one _) ?_; refine hK _ _ ?_; clear hK K; try simp only [Act.put, List.setIfInBounds_toArray, List.set_cons_zero, List.set_cons_succ]); ((refine wpAny_take1 14 (oi := ?_) (v := ?_) ?_ (by kernel_rfl) (by kernel_rfl) (by kernel_rfl) ?_ ?_ ?_; rotate_left 2; (· simp only [List.getElem?_toArray, List.getElem?_cons_succ, List.getElem?_cons_zero]; try rfl); (· refine ⟨by kernel_rfl, ?_⟩; intro wq; go_simp; first | done | with_reducible rfl); (· exact fun _ _ _ h => h); try simp only [Act.put, List.setIfInBounds_toArray, List.set_cons_zero, List.set_cons_succ])); (refine wpAny_ready (rs := [15]) (by kernel_rfl) (by simp) (AllReady.cons (o := ?_) ?_ (fun K hK => ?_) AllReady.nil); rotate_left 1; (· simp only [List.getElem?_toArray, List.getElem?_cons_succ, List.getElem?_cons_zero]; try rfl)); (refine step_store rfl 44 _ _ rfl gy (lb * 4) YA.cells.toArray rfl rfl (World.there_setCells HTb.out _ _ _) HI4.out (co_one _) ?_; refine hK _ _ ?_; clear hK K; try simp only [Act.put, List.setIfInBounds_toArray, List.set_cons_zero, List.set_cons_succ]); refine wpAny_done (by kernel_rfl) ?_ _
            have HW3 : Hid (Blk w.heap.size ((wd.setCells gy (la * 4) YB.cells.toArray.toList).setCells gy (lb * 4) YA.cells.toArray.toList) gy _ 4 _) := HW3; have HX3 : Hid (XInv w.heap.size ((wd.setCells gy (la * 4) YB.cells.toArray.toList).setCells gy (lb * 4) YA.cells.toArray.toList) _ _ _ _) := HX3; have HB3 : Hid (RowKit.Below w.heap.size w ((wd.setCells gy (la * 4) YB.cells.toArray.toList).setCells gy (lb * 4) YA.cells.toArray.toList)) := HB3; generalize ((wd.setCells gy (la * 4) YB.cells.toArray.toList).setCells gy (lb * 4) YA.cells.toArray.toList) = W3 at HW3 HX3 HB3 ⊢; go_wp2; go_roundw; (case rel => exact ⟨k + 1, _, ys2, by omega, by go_num, HPN.out, HP3.out, HX3.out, fun _ => ⟨gy, rfl, HW3.out⟩, HB3.out⟩); (case measure => simp [intOf]; omega)
        · go_wp2
          go_roundw
          case rel => exact ⟨k + 1, _, ys, by omega, by go_num, HPN.out, HPY.out, HXN.out, HY.out, HB.out⟩
          case measure => simp [intOf]; omega
    · have hke : k = os.length := by omega
      subst hke
      have HVX := Lib.hid (valid_perm HV.out HPX.out HPY.out)
      have hlx : xs.length = ds.length := HPX.out.length_eq
      have hly : ys.length = cs.length := HPY.out.length_eq
      have HDX := Lib.hid (show DeAt wr ax xs from ⟨XInv.slat (rows := xs.map De.cells) (by rw [List.length_map, hlx]; exact HX.out), fun d hd => (HM.out.ok d (HPX.out.mem_iff.1 hd)).below HB.out⟩)
      have HCY := Lib.hid (show CoAt wr ay ys from XInv.slat (rows := ys.map Co.cells) (by rw [List.length_map, hly]; exact HY.out))
      have HEX := Lib.hid (fun d (hd : d ∈ xs) => HE20.out d (HPX.out.mem_iff.1 hd))
      have HVVX := Lib.hid (show (validB xs ys && inR 0 99 hall) = true by
        have := HVV.out
        rw [Bool.and_eq_true] at this ⊢
        exact ⟨HVX.out, this.2⟩)
      have HLX := Lib.hid hlx; have HLY := Lib.hid hly
      clear HX HY hlx hly hlt hk
      go_wp2_with (fail)
      refine (Plan_any _ _ _ _ ds cs hall _ (by omega) (by omega) HE20.out (HM.out.below HB.out) (HC.out.below HB.out)).mono ?_
      intro e w3 hp
      obtain ⟨a5, a6, c5, c6, gl, rl, ok, err, rfl, hsay, _, hg5, _, hr5, hb⟩ := hp.res
      obtain ⟨rfl, hsaid⟩ := says_said hsay HVV.out
      have HG := Lib.hid hg5; have HR := Lib.hid hr5; have HSD := Lib.hid hsaid
      replace HDX := Lib.hid (HDX.out.below hb); replace HCY := Lib.hid (HCY.out.below hb)
      replace HB := Lib.hid (HB.out.trans (hb.mono HB.out.size)); clear hb
      clear hp hsay hsaid hg5 hr5
      go_wp2_with (fail)
      have hP2 := Plan_any ax ay cx cy xs ys hall w3 (by rw [HLX.out]; omega) (by rw [HLY.out]; omega) HEX.out HDX.out HCY.out
      rw [HLX.out, HLY.out] at hP2
      refine hP2.mono ?_
      clear hP2
      intro e w4 hp
      obtain ⟨a7, a8, c7, c8, gl2, rl2, ok2, err2, rfl, hsay, _, hg7, _, hr7, hb⟩ := hp.res
      obtain ⟨rfl, hsaid⟩ := says_said hsay HVVX.out
      have HVD := Lib.hid (vd_of HV.out)
      obtain ⟨rfl, htot, rfl⟩ := said_same HVD.out.nd (valid_nodup HV.out).2 HPX.out HPY.out HSD.out hsaid
      obtain ⟨hbd, hg1, hr1⟩ := said_bounds (valid_eds HV.out) HSD.out
      obtain ⟨hbd2, hg2, _⟩ := said_bounds (valid_eds HVX.out) hsaid
      rw [HLX.out] at hg2
      have HBD := Lib.hid hbd; have HBD2 := Lib.hid hbd2; have HTOT := Lib.hid htot
      have HG2 := Lib.hid hg7; have HR2 := Lib.hid hr7
      replace HG := Lib.hid (HG.out.below hb); replace HR := Lib.hid (HR.out.below hb)
      replace HB := Lib.hid (HB.out.trans (hb.mono HB.out.size)); clear hb
      clear hp hsay hsaid hg7 hr7 hbd hbd2 htot
      cases hok : ok
      · go_wp2_with (fail); refine (total_any _ _ _ gl _ rfl (by omega) HBD.out HG.out).mono ?_; rintro e w5 ⟨rfl, hb⟩; replace HG2 := Lib.hid (HG2.out.below hb); replace HR := Lib.hid (HR.out.below hb); replace HR2 := Lib.hid (HR2.out.below hb); replace HB := Lib.hid (HB.out.trans (hb.mono HB.out.size)); clear hb; go_wp2_with (fail); refine (total_any _ _ _ gl2 _ rfl (by omega) HBD2.out HG2.out).mono ?_; rintro e w6 ⟨rfl, hb⟩; rw [← HTOT.out]; replace HR := Lib.hid (HR.out.below hb); replace HR2 := Lib.hid (HR2.out.below hb); replace HB := Lib.hid (HB.out.trans (hb.mono HB.out.size)); clear hb; go_wp2_with (fail); refine (RSameI_any _ _ _ _ _ _ rl rl _ rfl rfl (by omega) (by omega) HR.out HR2.out).mono ?_; rintro e w7 ⟨rfl, hb⟩; rw [show decide (rl = rl) = true from decide_eq_true rfl]; replace HB := Lib.hid (HB.out.trans (hb.mono HB.out.size)); clear hb; go_wp2; go_ret; exact ⟨rfl, HB.out⟩
      · go_wp2_with (fail); refine (total_any _ _ _ gl _ rfl (by omega) HBD.out HG.out).mono ?_; rintro e w5 ⟨rfl, hb⟩; replace HG2 := Lib.hid (HG2.out.below hb); replace HR := Lib.hid (HR.out.below hb); replace HR2 := Lib.hid (HR2.out.below hb); replace HB := Lib.hid (HB.out.trans (hb.mono HB.out.size)); clear hb; go_wp2_with (fail); refine (total_any _ _ _ gl2 _ rfl (by omega) HBD2.out HG2.out).mono ?_; rintro e w6 ⟨rfl, hb⟩; rw [← HTOT.out]; replace HR := Lib.hid (HR.out.below hb); replace HR2 := Lib.hid (HR2.out.below hb); replace HB := Lib.hid (HB.out.trans (hb.mono HB.out.size)); clear hb; go_wp2_with (fail); refine (RSameI_any _ _ _ _ _ _ rl rl _ rfl rfl (by omega) (by omega) HR.out HR2.out).mono ?_; rintro e w7 ⟨rfl, hb⟩; rw [show decide (rl = rl) = true from decide_eq_true rfl]; replace HB := Lib.hid (HB.out.trans (hb.mono HB.out.size)); clear hb; go_wp2; go_ret; exact ⟨rfl, HB.out⟩
end Go.Proofs.YtehdhbnbajfanaaGreat
