import Derived.Test.YtajijcfikihhjaaGreatDoorAAA
import Derived.Test.YtajijcfikihhjaaGreatDoorProg
import Derived.Laws.EntriesVeiled
import Derived.RangeFuncNested
import Derived.RangeFuncBound
import Derived.Shelf.RegionOpen
import Derived.OwnWalkIn
import Derived.LoopNIn
import Derived.LoopIn
set_option linter.unusedSimpArgs false
set_option linter.unusedVariables false
set_option maxRecDepth 100000
set_option maxHeartbeats 16000000
namespace Go.Proofs.YtajijcfikihhjaaGreatDoor
open Go.RowKit Go.Sort Go.Shelf
def JS {α : Type} (enc : α → Value) (g : Nat) (caps : Array Value) (p : α → Bool) (ds : List α) (B : Nat) (w0 : World) : Prop :=
 ∀ d ∈ ds, ∀ W, RowKit.Below B w0 W → Calls Tryz.prog g (#[enc d] ++ caps) W fun e W' => e = .returned (.bool (p d)) ∧ RowKit.Below W.heap.size W W'
def idxO {α : Type} (p : α → Bool) (l : List α) : Int := match l.findIdx? p with | some i => i | none => -1
theorem Zv {α : Type} {p : α → Bool} {l : List α} {k : Nat} (hk : k < l.length) (h : p l[k] = true) (hn : ∀ j (hj : j < l.length), j < k → p l[j] = false) : idxO p l = k := by
 have : l.findIdx? p = some k := List.findIdx?_eq_some_iff_getElem.2 ⟨hk, h, fun j hj => by simp [hn j (by omega) hj]⟩
 simp [idxO, this]
theorem Q0 {α : Type} {p : α → Bool} {l : List α} (hn : ∀ j (hj : j < l.length), p l[j] = false) : idxO p l = -1 := by
 have : l.findIdx? p = none := by
  rw [List.findIdx?_eq_none_iff]
  intro x hx
  obtain ⟨j, hj, rfl⟩ := List.getElem_of_mem hx
  exact hn j hj
 simp [idxO, this]
theorem Yv {α : Type} (p : α → Bool) (l : List α) : decide (0 ≤ idxO p l) = l.any p := by
 cases h : l.findIdx? p with
 | none =>
  have h' := h
  rw [List.findIdx?_eq_none_iff] at h
  have : l.any p = false := by rw [List.any_eq_false]; exact fun x hx => by simp [h x hx]
  simp [idxO, h', this]
 | some i =>
  obtain ⟨hi, h1, _⟩ := List.findIdx?_eq_some_iff_getElem.1 h
  have : l.any p = true := by rw [List.any_eq_true]; exact ⟨_, List.getElem_mem hi, h1⟩
  rw [this]
  have e : idxO p l = (i : Int) := by simp [idxO, h]
  rw [e, decide_eq_true_eq]; omega
theorem Qq {w w' : World} {p : Addr} {v : Value} (h : w.cell? p = some v) (hb : Below w.heap.size w w') : w'.cell? p = some v := by
 rcases Nat.lt_or_ge p.block w.heap.size with hlt | hge
 ·rw [hb.cell hlt]; exact h
 ·exact absurd (World.block_lt_of_cell? _ _ h) (by omega)
def R3V (r : R3) : Value := .agg #[.int .i64 r.x, .int .i64 r.y, .int .i64 r.z]
theorem IndexR_any (g : Nat) (caps : Array Value) (eg : ∀ args w, (callFunc g args).run Tryz.prog w = .ok (.enter g args) w) (B : Nat) (p : R3 → Bool) (a : Option Addr) (cap : Nat) (ds : List R3) (w : World) (hl : ds.length ≤ 100000) (hp : JS R3V g caps p ds B w) (hB : B ≤ w.heap.size) (hm : R3At w a ds) :
  Calls Tryz.prog 176 #[.slice a ds.length cap, .func (.func g) #[] caps] w fun e w' => e = .returned (.int .i64 (idxO p ds)) ∧ RowKit.Below w.heap.size w w' := by
 have HM := Qa hm; have HP := Qa hp
 clear hm hp
 go_enter Tryz.func176, Tryz.ntmps176
 go_wp2
 go_loopw [8] (fun i wr => ∃ k : Nat, k ≤ ds.length ∧ i = .int .i64 k ∧ (∀ j (hj : j < ds.length), j < k → p ds[j] = false) ∧ RowKit.Below w.heap.size w wr) (fun i _ => ds.length - (intOf i).toNat)
 case atStart => exact ⟨0, Nat.zero_le _, rfl, fun j hj h => by omega, RowKit.Below.refl _ _⟩
 case round =>
  obtain ⟨k, hk, rfl, hall, hb⟩ := hrel
  have HA := Qa hall; have HB := Qa hb
  clear hall hb
  by_cases hlt : k < ds.length
  ·obtain ⟨b, off, rfl, _, e0, e1, e2⟩ := HM.out.get k hlt
   have g0 := Qq e0 HB.out; have g1 := Qq e1 HB.out; have g2 := Qq e2 HB.out
   clear e0 e1 e2
   have HPk := Qa (HP.out ds[k] (List.getElem_mem _) wr (HB.out.mono hB))
   have HT := Qa (fun h : p ds[k] = true => Zv hlt h HA.out)
   have HF := Qa (fun h : p ds[k] = false => (fun j (hj : j < ds.length) (hjk : j < k + 1) => if e : j = k then by subst e; exact h else HA.out j hj (by omega) : ∀ j (hj : j < ds.length), j < k + 1 → p ds[j] = false))
   generalize ds[k] = d at *
   have hcall := HPk.out
   unfold R3V at hcall
   cases hpd : p d
   ·rw [hpd] at hcall
    go_wp2_with (go_at_fn g; refine hcall.mono ?_; rintro e w' ⟨rfl, hb'⟩; replace HB := Qa (HB.out.trans (hb'.mono HB.out.size)))
    go_roundw
    case rel => exact ⟨k + 1, by omega, by go_num, HF.out hpd, HB.out⟩
    case measure => simp [intOf]; omega
   ·rw [hpd] at hcall
    have HT2 := Qa (HT.out hpd)
    go_wp2_with (go_at_fn g; refine hcall.mono ?_; rintro e w' ⟨rfl, hb'⟩; replace HB := Qa (HB.out.trans (hb'.mono HB.out.size)))
    go_ret
    exact ⟨QK HT2.out.symm, HB.out⟩
  ·have HT2 := Qa (Q0 fun j hj => HA.out j hj (by omega))
   go_wp2
   go_ret
   exact ⟨QK HT2.out.symm, HB.out⟩
theorem ContainsR_any (g : Nat) (caps : Array Value) (eg : ∀ args w, (callFunc g args).run Tryz.prog w = .ok (.enter g args) w) (B : Nat) (p : R3 → Bool) (a : Option Addr) (cap : Nat) (ds : List R3) (w : World) (hl : ds.length ≤ 100000) (hp : JS R3V g caps p ds B w) (hB : B ≤ w.heap.size) (hm : R3At w a ds) :
  Calls Tryz.prog 171 #[.slice a ds.length cap, .func (.func g) #[] caps] w fun e w' => e = .returned (.bool (ds.any p)) ∧ RowKit.Below w.heap.size w w' := by
 have HI := Qa (IndexR_any g caps eg B p a cap ds w hl hp hB hm)
 have HD := Qa (Yv p ds)
 clear hm hp
 generalize idxO p ds = I at *
 go_enter Tryz.func171, Tryz.ntmps171
 go_wp2_with (fail)
 refine HI.out.mono ?_
 rintro e w2 ⟨rfl, hb⟩
 have HB := Qa hb
 go_wp2
 go_ret
 exact ⟨Qf HD.out, HB.out⟩
theorem IndexE_any (g : Nat) (caps : Array Value) (eg : ∀ args w, (callFunc g args).run Tryz.prog w = .ok (.enter g args) w) (B : Nat) (p : R3 → Bool) (a : Option Addr) (cap : Nat) (ds : List R3) (w : World) (hl : ds.length ≤ 100000) (hp : JS R3V g caps p ds B w) (hB : B ≤ w.heap.size) (hm : R3At w a ds) :
  Calls Tryz.prog 233 #[.slice a ds.length cap, .func (.func g) #[] caps] w fun e w' => e = .returned (.int .i64 (idxO p ds)) ∧ RowKit.Below w.heap.size w w' := by
 have HM := Qa hm; have HP := Qa hp
 clear hm hp
 go_enter Tryz.func233, Tryz.ntmps233
 go_wp2
 go_loopw [8] (fun i wr => ∃ k : Nat, k ≤ ds.length ∧ i = .int .i64 k ∧ (∀ j (hj : j < ds.length), j < k → p ds[j] = false) ∧ RowKit.Below w.heap.size w wr) (fun i _ => ds.length - (intOf i).toNat)
 case atStart => exact ⟨0, Nat.zero_le _, rfl, fun j hj h => by omega, RowKit.Below.refl _ _⟩
 case round =>
  obtain ⟨k, hk, rfl, hall, hb⟩ := hrel
  have HA := Qa hall; have HB := Qa hb
  clear hall hb
  by_cases hlt : k < ds.length
  ·obtain ⟨b, off, rfl, _, e0, e1, e2⟩ := HM.out.get k hlt
   have g0 := Qq e0 HB.out; have g1 := Qq e1 HB.out; have g2 := Qq e2 HB.out
   clear e0 e1 e2
   have HPk := Qa (HP.out ds[k] (List.getElem_mem _) wr (HB.out.mono hB))
   have HT := Qa (fun h : p ds[k] = true => Zv hlt h HA.out)
   have HF := Qa (fun h : p ds[k] = false => (fun j (hj : j < ds.length) (hjk : j < k + 1) => if e : j = k then by subst e; exact h else HA.out j hj (by omega) : ∀ j (hj : j < ds.length), j < k + 1 → p ds[j] = false))
   generalize ds[k] = d at *
   have hcall := HPk.out
   unfold R3V at hcall
   cases hpd : p d
   ·rw [hpd] at hcall
    go_wp2_with (go_at_fn g; refine hcall.mono ?_; rintro e w' ⟨rfl, hb'⟩; replace HB := Qa (HB.out.trans (hb'.mono HB.out.size)))
    go_roundw
    case rel => exact ⟨k + 1, by omega, by go_num, HF.out hpd, HB.out⟩
    case measure => simp [intOf]; omega
   ·rw [hpd] at hcall
    have HT2 := Qa (HT.out hpd)
    go_wp2_with (go_at_fn g; refine hcall.mono ?_; rintro e w' ⟨rfl, hb'⟩; replace HB := Qa (HB.out.trans (hb'.mono HB.out.size)))
    go_ret
    exact ⟨QK HT2.out.symm, HB.out⟩
  ·have HT2 := Qa (Q0 fun j hj => HA.out j hj (by omega))
   go_wp2
   go_ret
   exact ⟨QK HT2.out.symm, HB.out⟩
theorem ContainsE_any (g : Nat) (caps : Array Value) (eg : ∀ args w, (callFunc g args).run Tryz.prog w = .ok (.enter g args) w) (B : Nat) (p : R3 → Bool) (a : Option Addr) (cap : Nat) (ds : List R3) (w : World) (hl : ds.length ≤ 100000) (hp : JS R3V g caps p ds B w) (hB : B ≤ w.heap.size) (hm : R3At w a ds) :
  Calls Tryz.prog 219 #[.slice a ds.length cap, .func (.func g) #[] caps] w fun e w' => e = .returned (.bool (ds.any p)) ∧ RowKit.Below w.heap.size w w' := by
 have HI := Qa (IndexE_any g caps eg B p a cap ds w hl hp hB hm)
 have HD := Qa (Yv p ds)
 clear hm hp
 generalize idxO p ds = I at *
 go_enter Tryz.func219, Tryz.ntmps219
 go_wp2_with (fail)
 refine HI.out.mono ?_
 rintro e w2 ⟨rfl, hb⟩
 have HB := Qa hb
 go_wp2
 go_ret
 exact ⟨Qf HD.out, HB.out⟩
theorem IndexC_any (g : Nat) (caps : Array Value) (eg : ∀ args w, (callFunc g args).run Tryz.prog w = .ok (.enter g args) w) (B : Nat) (p : R3 → Bool) (a : Option Addr) (cap : Nat) (ds : List R3) (w : World) (hl : ds.length ≤ 100000) (hp : JS R3V g caps p ds B w) (hB : B ≤ w.heap.size) (hm : R3At w a ds) :
  Calls Tryz.prog 136 #[.slice a ds.length cap, .func (.func g) #[] caps] w fun e w' => e = .returned (.int .i64 (idxO p ds)) ∧ RowKit.Below w.heap.size w w' := by
 have HM := Qa hm; have HP := Qa hp
 clear hm hp
 go_enter Tryz.func136, Tryz.ntmps136
 go_wp2
 go_loopw [8] (fun i wr => ∃ k : Nat, k ≤ ds.length ∧ i = .int .i64 k ∧ (∀ j (hj : j < ds.length), j < k → p ds[j] = false) ∧ RowKit.Below w.heap.size w wr) (fun i _ => ds.length - (intOf i).toNat)
 case atStart => exact ⟨0, Nat.zero_le _, rfl, fun j hj h => by omega, RowKit.Below.refl _ _⟩
 case round =>
  obtain ⟨k, hk, rfl, hall, hb⟩ := hrel
  have HA := Qa hall; have HB := Qa hb
  clear hall hb
  by_cases hlt : k < ds.length
  ·obtain ⟨b, off, rfl, _, e0, e1, e2⟩ := HM.out.get k hlt
   have g0 := Qq e0 HB.out; have g1 := Qq e1 HB.out; have g2 := Qq e2 HB.out
   clear e0 e1 e2
   have HPk := Qa (HP.out ds[k] (List.getElem_mem _) wr (HB.out.mono hB))
   have HT := Qa (fun h : p ds[k] = true => Zv hlt h HA.out)
   have HF := Qa (fun h : p ds[k] = false => (fun j (hj : j < ds.length) (hjk : j < k + 1) => if e : j = k then by subst e; exact h else HA.out j hj (by omega) : ∀ j (hj : j < ds.length), j < k + 1 → p ds[j] = false))
   generalize ds[k] = d at *
   have hcall := HPk.out
   unfold R3V at hcall
   cases hpd : p d
   ·rw [hpd] at hcall
    go_wp2_with (go_at_fn g; refine hcall.mono ?_; rintro e w' ⟨rfl, hb'⟩; replace HB := Qa (HB.out.trans (hb'.mono HB.out.size)))
    go_roundw
    case rel => exact ⟨k + 1, by omega, by go_num, HF.out hpd, HB.out⟩
    case measure => simp [intOf]; omega
   ·rw [hpd] at hcall
    have HT2 := Qa (HT.out hpd)
    go_wp2_with (go_at_fn g; refine hcall.mono ?_; rintro e w' ⟨rfl, hb'⟩; replace HB := Qa (HB.out.trans (hb'.mono HB.out.size)))
    go_ret
    exact ⟨QK HT2.out.symm, HB.out⟩
  ·have HT2 := Qa (Q0 fun j hj => HA.out j hj (by omega))
   go_wp2
   go_ret
   exact ⟨QK HT2.out.symm, HB.out⟩
theorem ContainsC_any (g : Nat) (caps : Array Value) (eg : ∀ args w, (callFunc g args).run Tryz.prog w = .ok (.enter g args) w) (B : Nat) (p : R3 → Bool) (a : Option Addr) (cap : Nat) (ds : List R3) (w : World) (hl : ds.length ≤ 100000) (hp : JS R3V g caps p ds B w) (hB : B ≤ w.heap.size) (hm : R3At w a ds) :
  Calls Tryz.prog 92 #[.slice a ds.length cap, .func (.func g) #[] caps] w fun e w' => e = .returned (.bool (ds.any p)) ∧ RowKit.Below w.heap.size w w' := by
 have HI := Qa (IndexC_any g caps eg B p a cap ds w hl hp hB hm)
 have HD := Qa (Yv p ds)
 clear hm hp
 generalize idxO p ds = I at *
 go_enter Tryz.func92, Tryz.ntmps92
 go_wp2_with (fail)
 refine HI.out.mono ?_
 rintro e w2 ⟨rfl, hb⟩
 have HB := Qa hb
 go_wp2
 go_ret
 exact ⟨Qf HD.out, HB.out⟩
open Go.RowKit Go.Sort
theorem wpAnyH_take1 {P : Program} {md : Region.Mode} {ops : Array Oper} {Q : Exit → Act → World → Prop} {S : World → Prop} (i : Nat) {oi : Oper} {v : Value} {fuel : Nat} {listed : Array Bool} {a : Act} {w : World} (hi : ops[i]? = some oi)
  (hs : Region.noSelect ops = true) (hf : Region.free md ops listed i = true) (hr : (Region.ready md ops listed).contains i = true) (hS : S w)
  (hy : Region.wanted oi (yielded ops a.tmps) = true ∧ ∀ w, S w → (execOp a.eval oi).run P w = .ok (.value v) w) (hQ : ∀ c a w, Q (.panic c) (Act.put a oi.dst v) w → Q (.panic c) a w) (h : wpAnyH P md ops Q S fuel (listed.setIfInBounds i true) (a.put oi.dst v) w) : wpAnyH P md ops Q S (fuel + 1) listed a w :=
 wpAnyH_take hi hs hf hr hQ (.inl hy) hS h
theorem wpAnyH_take0 {P : Program} {md : Region.Mode} {ops : Array Oper} {Q : Exit → Act → World → Prop} {S : World → Prop} (i : Nat) {oi : Oper} {fuel : Nat} {listed : Array Bool} {a : Act} {w : World} (hi : ops[i]? = some oi)
  (hs : Region.noSelect ops = true) (hf : Region.free md ops listed i = true) (hr : (Region.ready md ops listed).contains i = true) (hS : S w)
  (hy : Region.wanted oi (yielded ops a.tmps) = false) (hQ : ∀ c a w, Q (.panic c) (Act.put a oi.dst undef) w → Q (.panic c) a w) (h : wpAnyH P md ops Q S fuel (listed.setIfInBounds i true) (a.put oi.dst undef) w) : wpAnyH P md ops Q S (fuel + 1) listed a w :=
 wpAnyH_take hi hs hf hr hQ (.inr ⟨hy, rfl⟩) hS h
theorem Zn {P : Program} {md : Region.Mode} {ops : Array Oper} {Q : Exit → Act → World → Prop} {S : World → Prop} {i : Nat} {o : Oper} {fuel : Nat} {listed : Array Bool} {a : Act} {w : World} (hr : Region.ready md ops listed = [i]) (ho : ops[i]? = some o)
  (h : ∀ K' : Act → World → Prop, Shut (∀ a w, S w → (S w → wpAnyH P md ops Q S fuel (listed.setIfInBounds i true) a w) → K' a w) → if Region.wanted o (yielded ops a.tmps) = true then Oper.wp P o a w K' Q else K' (a.put o.dst undef) w) : wpAnyH P md ops Q S (fuel + 1) listed a w :=
 wpAnyH_ready hr (by simp) (AllReadyH.cons ho h AllReadyH.nil)
theorem wpAnyH_two {P : Program} {md : Region.Mode} {ops : Array Oper} {Q : Exit → Act → World → Prop} {S : World → Prop} {i j : Nat} {o o' : Oper} {fuel : Nat} {listed : Array Bool} {a : Act} {w : World} (hr : Region.ready md ops listed = [i, j]) (ho : ops[i]? = some o) (ho' : ops[j]? = some o')
  (h : ∀ K' : Act → World → Prop, Shut (∀ a w, S w → (S w → wpAnyH P md ops Q S fuel (listed.setIfInBounds i true) a w) → K' a w) → if Region.wanted o (yielded ops a.tmps) = true then Oper.wp P o a w K' Q else K' (a.put o.dst undef) w)
  (h' : ∀ K' : Act → World → Prop, Shut (∀ a w, S w → (S w → wpAnyH P md ops Q S fuel (listed.setIfInBounds j true) a w) → K' a w) → if Region.wanted o' (yielded ops a.tmps) = true then Oper.wp P o' a w K' Q else K' (a.put o'.dst undef) w) : wpAnyH P md ops Q S (fuel + 1) listed a w :=
 wpAnyH_ready hr (by simp) (AllReadyH.cons ho h (AllReadyH.cons ho' h' AllReadyH.nil))
theorem tq {P : Program} {md : Region.Mode} {ops : Array Oper} {Q : Exit → Act → World → Prop} {S : World → Prop} (i : Nat) {oi : Oper} {v : Value} {fuel : Nat} {listed L' : Array Bool} {a A' : Act} {w : World} (h : wpAnyH P md ops Q S fuel L' A' w)
  (hi : ops[i]? = some oi := by simp only [List.getElem?_toArray, List.getElem?_cons_succ, List.getElem?_cons_zero]; try rfl) (y : ∀ w, S w → (execOp a.eval oi).run P w = .ok (.value v) w) (hw : Region.wanted oi (yielded ops a.tmps) = true := by kernel_rfl) (hs : Region.noSelect ops = true := by kernel_rfl) (hf : Region.free md ops listed i = true := by kernel_rfl) (hr : (Region.ready md ops listed).contains i = true := by kernel_rfl) (hS : S w := by assumption) (hQ : ∀ c a w, Q (.panic c) (Act.put a oi.dst v) w → Q (.panic c) a w := by exact fun _ _ _ h => h)
  (hL : listed.setIfInBounds i true = L' := by (try simp only [List.setIfInBounds_toArray, List.set_cons_zero, List.set_cons_succ]); try rfl) (hA : a.put oi.dst v = A' := by (try simp only [Act.put, List.setIfInBounds_toArray, List.set_cons_zero, List.set_cons_succ]); try rfl) : wpAnyH P md ops Q S (fuel + 1) listed a w := by
 subst hL hA; exact wpAnyH_take1 i hi hs hf hr hS ⟨hw, y⟩ hQ h
theorem tk0 {P : Program} {md : Region.Mode} {ops : Array Oper} {Q : Exit → Act → World → Prop} {S : World → Prop} (i : Nat) {oi : Oper} {fuel : Nat} {listed L' : Array Bool} {a A' : Act} {w : World} (h : wpAnyH P md ops Q S fuel L' A' w)
  (hi : ops[i]? = some oi := by simp only [List.getElem?_toArray, List.getElem?_cons_succ, List.getElem?_cons_zero]; try rfl) (hw : Region.wanted oi (yielded ops a.tmps) = false := by kernel_rfl) (hs : Region.noSelect ops = true := by kernel_rfl) (hf : Region.free md ops listed i = true := by kernel_rfl) (hr : (Region.ready md ops listed).contains i = true := by kernel_rfl) (hS : S w := by assumption) (hQ : ∀ c a w, Q (.panic c) (Act.put a oi.dst undef) w → Q (.panic c) a w := by exact fun _ _ _ h => h)
  (hL : listed.setIfInBounds i true = L' := by (try simp only [List.setIfInBounds_toArray, List.set_cons_zero, List.set_cons_succ]); try rfl) (hA : a.put oi.dst undef = A' := by (try simp only [Act.put, List.setIfInBounds_toArray, List.set_cons_zero, List.set_cons_succ]); try rfl) : wpAnyH P md ops Q S (fuel + 1) listed a w := by
 subst hL hA; exact wpAnyH_take0 i hi hs hf hr hS hw hQ h
theorem tc {P : Program} {md : Region.Mode} {ops : Array Oper} {Q : Exit → Act → World → Prop} {S : World → Prop} (i : Nat) {o : Oper} {fuel : Nat} {listed : Array Bool} {a : Act} {w : World}
  (h : ∀ K' : Act → World → Prop, Shut (∀ a w, S w → (S w → wpAnyH P md ops Q S fuel (listed.setIfInBounds i true) a w) → K' a w) → if Region.wanted o (yielded ops a.tmps) = true then Oper.wp P o a w K' Q else K' (a.put o.dst undef) w)
  (hr : Region.ready md ops listed = [i] := by kernel_rfl) (ho : ops[i]? = some o := by simp only [List.getElem?_toArray, List.getElem?_cons_succ, List.getElem?_cons_zero]; try rfl) : wpAnyH P md ops Q S (fuel + 1) listed a w := Zn hr ho h
theorem tw {P : Program} {md : Region.Mode} {ops : Array Oper} {Q : Exit → Act → World → Prop} {S : World → Prop} (i j : Nat) {o o' : Oper} {fuel : Nat} {listed : Array Bool} {a : Act} {w : World}
  (h : ∀ K' : Act → World → Prop, Shut (∀ a w, S w → (S w → wpAnyH P md ops Q S fuel (listed.setIfInBounds i true) a w) → K' a w) → if Region.wanted o (yielded ops a.tmps) = true then Oper.wp P o a w K' Q else K' (a.put o.dst undef) w)
  (h' : ∀ K' : Act → World → Prop, Shut (∀ a w, S w → (S w → wpAnyH P md ops Q S fuel (listed.setIfInBounds j true) a w) → K' a w) → if Region.wanted o' (yielded ops a.tmps) = true then Oper.wp P o' a w K' Q else K' (a.put o'.dst undef) w)
  (hr : Region.ready md ops listed = [i, j] := by kernel_rfl) (ho : ops[i]? = some o := by simp only [List.getElem?_toArray, List.getElem?_cons_succ, List.getElem?_cons_zero]; try rfl) (ho' : ops[j]? = some o' := by simp only [List.getElem?_toArray, List.getElem?_cons_succ, List.getElem?_cons_zero]; try rfl) : wpAnyH P md ops Q S (fuel + 1) listed a w := wpAnyH_two hr ho ho' h h'
theorem rwithC_any (d : R3) (c : Nat) (bar : Int) (w : World) (h : w.cell? ⟨c, 0, none⟩ = some (.int .i64 bar)) :
  Calls Tryz.prog 218 #[R3V d, .pointer (some ⟨c, 0, none⟩)] w fun e w' => e = .returned (.bool (decide (d.x < bar) && decide (bar < d.y))) ∧ Below w.heap.size w w' := by
 obtain ⟨x, y, z⟩ := d
 unfold R3V
 have HX := Qa (heap_alloc_new w (.cells #[.int .i64 x, .int .i64 y, .int .i64 z] 254))
 have hb := (Below.refl w.heap.size w).alloc (Nat.le_refl _) (.cells #[.int .i64 x, .int .i64 y, .int .i64 z] 254)
 replace h := Qq h hb
 go_enter Tryz.func218, Tryz.ntmps218
 go_upto_region 1 with (fail)
 generalize w.alloc (.cells #[.int .i64 x, .int .i64 y, .int .i64 z] 254) = W at *
 have hc := Qb HX.out
 go_wp2
 all_goals (go_ret; exact ⟨Qf (by first | (simp [*]; done) | (simp [*]; omega) | (rw [Bool.eq_iff_iff]; simp [*]; done) | (rw [Bool.eq_iff_iff]; simp [*]; omega) | (rw [Bool.eq_iff_iff]; simp [*] <;> omega)), hb⟩)
theorem rendC_any (d : R3) (c c' : Nat) (bar pass : Int) (w : World) (h : w.cell? ⟨c, 0, none⟩ = some (.int .i64 bar)) (h' : w.cell? ⟨c', 0, none⟩ = some (.int .i64 pass)) :
  Calls Tryz.prog 220 #[R3V d, .pointer (some ⟨c, 0, none⟩), .pointer (some ⟨c', 0, none⟩)] w fun e w' => e = .returned (.bool (decide (d.x ≤ bar) && decide (bar < d.y) && decide (d.z ≠ pass))) ∧ Below w.heap.size w w' := by
 obtain ⟨x, y, z⟩ := d
 unfold R3V
 have HX := Qa (heap_alloc_new w (.cells #[.int .i64 x, .int .i64 y, .int .i64 z] 255))
 have hb := (Below.refl w.heap.size w).alloc (Nat.le_refl _) (.cells #[.int .i64 x, .int .i64 y, .int .i64 z] 255)
 replace h := Qq h hb; replace h' := Qq h' hb
 go_enter Tryz.func220, Tryz.ntmps220
 go_upto_region 1 with (fail)
 generalize w.alloc (.cells #[.int .i64 x, .int .i64 y, .int .i64 z] 255) = W at *
 have hc := Qb HX.out
 go_wp2
 all_goals (go_ret; exact ⟨Qf (by first | (simp [*]; done) | (simp [*]; omega) | (rw [Bool.eq_iff_iff]; simp [*]; done) | (rw [Bool.eq_iff_iff]; simp [*]; omega) | (rw [Bool.eq_iff_iff]; simp [*] <;> omega)), hb⟩)
theorem rinC_any (d x : R3) (c : Nat) (w : World) (h : w.heap[c]? = some (.cells #[.int .i64 x.x, .int .i64 x.y, .int .i64 x.z] 255)) :
  Calls Tryz.prog 172 #[R3V d, .pointer (some ⟨c, 0, none⟩)] w fun e w' => e = .returned (.bool (decide (d.x ≤ x.x) && decide (x.y ≤ d.y))) ∧ Below w.heap.size w w' := by
 obtain ⟨a, b, z⟩ := d
 unfold R3V
 have HX := Qa (heap_alloc_new w (.cells #[.int .i64 a, .int .i64 b, .int .i64 z] 254))
 have hb := (Below.refl w.heap.size w).alloc (Nat.le_refl _) (.cells #[.int .i64 a, .int .i64 b, .int .i64 z] 254)
 replace h := Qc h hb
 go_enter Tryz.func172, Tryz.ntmps172
 go_upto_region 1 with (fail)
 generalize w.alloc (.cells #[.int .i64 a, .int .i64 b, .int .i64 z] 254) = W at *
 have hc := Qb HX.out; have hd := Qb h
 go_wp2
 all_goals (go_ret; exact ⟨Qf (by first | (simp [*]; done) | (simp [*]; omega) | (rw [Bool.eq_iff_iff]; simp [*]; done) | (rw [Bool.eq_iff_iff]; simp [*]; omega) | (rw [Bool.eq_iff_iff]; simp [*] <;> omega)), hb⟩)
theorem rstC_any (d : R3) (c : Nat) (bar : Int) (w : World) (h : w.cell? ⟨c, 0, none⟩ = some (.int .i64 bar)) :
  Calls Tryz.prog 177 #[R3V d, .pointer (some ⟨c, 0, none⟩)] w fun e w' => e = .returned (.bool (d.x == bar)) ∧ Below w.heap.size w w' := by
 obtain ⟨x, y, z⟩ := d
 unfold R3V
 have HX := Qa (heap_alloc_new w (.cells #[.int .i64 x, .int .i64 y, .int .i64 z] 254))
 have hb := (Below.refl w.heap.size w).alloc (Nat.le_refl _) (.cells #[.int .i64 x, .int .i64 y, .int .i64 z] 254)
 replace h := Qq h hb
 go_enter Tryz.func177, Tryz.ntmps177
 go_upto_region 1 with (fail)
 generalize w.alloc (.cells #[.int .i64 x, .int .i64 y, .int .i64 z] 254) = W at *
 have hc := Qb HX.out
 go_wp2
 all_goals (go_ret; exact ⟨Qf (by first | (simp [*]; done) | (simp [*]; omega) | (rw [Bool.eq_iff_iff]; simp [*]; done) | (rw [Bool.eq_iff_iff]; simp [*]; omega) | (rw [Bool.eq_iff_iff]; simp [*] <;> omega)), hb⟩)
theorem risCut_any (f : Fo) (q : Fp) (c : R3) (w : World) :
  Calls Tryz.prog 174 #[.agg #[.int .i64 f.bars, .slice q.ra f.reps.length q.rc, .slice q.ea f.ends.length q.ec, .int .i64 f.jump.x, .int .i64 f.jump.y, .int .i64 f.jump.z, .slice q.ca f.cuts.length q.cc], R3V c] w fun e w' => e = .returned (.bool (cutB f c)) ∧ Below w.heap.size w w' := by
 obtain ⟨x, y, z⟩ := c
 unfold R3V
 obtain ⟨x1, x2, hb⟩ := box2 (w := w) (A := .cells #[.int .i64 f.bars, .slice q.ra f.reps.length q.rc, .slice q.ea f.ends.length q.ec, .int .i64 f.jump.x, .int .i64 f.jump.y, .int .i64 f.jump.z, .slice q.ca f.cuts.length q.cc] 183) (B := .cells #[.int .i64 x, .int .i64 y, .int .i64 z] 186) (Below.refl _ _)
 go_enter Tryz.func174, Tryz.ntmps174
 go_upto_region 1 with (fail)
 generalize (w.alloc (.cells #[.int .i64 f.bars, .slice q.ra f.reps.length q.rc, .slice q.ea f.ends.length q.ec, .int .i64 f.jump.x, .int .i64 f.jump.y, .int .i64 f.jump.z, .slice q.ca f.cuts.length q.cc] 183)).alloc (.cells #[.int .i64 x, .int .i64 y, .int .i64 z] 186) = W at *
 have hc := Qb x1; have hd := Qb x2
 go_wp2
 all_goals (go_ret; exact ⟨Qf (by unfold cutB; exact (by first | (simp [*]; done) | (simp [*]; omega) | (rw [Bool.eq_iff_iff]; simp [*]; done) | (rw [Bool.eq_iff_iff]; simp [*]; omega) | (rw [Bool.eq_iff_iff]; simp [*] <;> omega))), hb⟩)
theorem enters_rwith : ∀ args w, (callFunc 218 args).run Tryz.prog w = .ok (.enter 218 args) w := enters_of Tryz.func218 (by kernel_rfl) rfl
theorem enters_rend : ∀ args w, (callFunc 220 args).run Tryz.prog w = .ok (.enter 220 args) w := enters_of Tryz.func220 (by kernel_rfl) rfl
theorem enters_rin : ∀ args w, (callFunc 172 args).run Tryz.prog w = .ok (.enter 172 args) w := enters_of Tryz.func172 (by kernel_rfl) rfl
theorem enters_rst : ∀ args w, (callFunc 177 args).run Tryz.prog w = .ok (.enter 177 args) w := enters_of Tryz.func177 (by kernel_rfl) rfl
theorem rWithin_any (f : Fo) (q : Fp) (bar : Int) (w : World) (hf : FoFew f) (hm : R3At w q.ra f.reps) :
  Calls Tryz.prog 173 #[.agg #[.int .i64 f.bars, .slice q.ra f.reps.length q.rc, .slice q.ea f.ends.length q.ec, .int .i64 f.jump.x, .int .i64 f.jump.y, .int .i64 f.jump.z, .slice q.ca f.cuts.length q.cc], .int .i64 bar] w fun e w' => e = .returned (.bool (QO f.reps bar)) ∧ Below w.heap.size w w' := by
 obtain ⟨x1, x2, hb⟩ := box2 (w := w) (A := .cells #[.int .i64 f.bars, .slice q.ra f.reps.length q.rc, .slice q.ea f.ends.length q.ec, .int .i64 f.jump.x, .int .i64 f.jump.y, .int .i64 f.jump.z, .slice q.ca f.cuts.length q.cc] 183) (B := .cells #[.int .i64 bar] 3) (Below.refl _ _)
 have hI := ContainsR_any 218 #[.pointer (some ⟨w.heap.size + 1, 0, none⟩)] enters_rwith _ (fun r => decide (r.x < bar) && decide (bar < r.y)) q.ra q.rc f.reps _ (by have := hf.reps; omega) (fun d _ W hW => rwithC_any d (w.heap.size + 1) bar W (Qb (Qc x2 hW) 0)) (Nat.le_refl _) (hm.below hb)
 have HI := Qa hI; have HB := Qa hb
 clear hI hm
 go_enter Tryz.func173, Tryz.ntmps173
 go_upto_region 1 with (fail)
 generalize (w.alloc (.cells #[.int .i64 f.bars, .slice q.ra f.reps.length q.rc, .slice q.ea f.ends.length q.ec, .int .i64 f.jump.x, .int .i64 f.jump.y, .int .i64 f.jump.z, .slice q.ca f.cuts.length q.cc] 183)).alloc (.cells #[.int .i64 bar] 3) = W at *
 have hc := Qb x1; have hd := Qb x2
 go_wp2_with (go_at_call 171; refine HI.out.mono ?_; rintro e w2 ⟨rfl, hb2⟩; have HB2 := bu HB hb2)
 go_ret
 exact ⟨rfl, HB2.out⟩
theorem rEnding_any (f : Fo) (q : Fp) (bar pass : Int) (w : World) (hf : FoFew f) (hm : R3At w q.ea f.ends) :
  Calls Tryz.prog 178 #[.agg #[.int .i64 f.bars, .slice q.ra f.reps.length q.rc, .slice q.ea f.ends.length q.ec, .int .i64 f.jump.x, .int .i64 f.jump.y, .int .i64 f.jump.z, .slice q.ca f.cuts.length q.cc], .int .i64 bar, .int .i64 pass] w fun e w' => e = .returned (.bool (endB f.ends bar pass)) ∧ Below w.heap.size w w' := by
 obtain ⟨x1, x2, x3, hb⟩ := box3 (w := w) (A := .cells #[.int .i64 f.bars, .slice q.ra f.reps.length q.rc, .slice q.ea f.ends.length q.ec, .int .i64 f.jump.x, .int .i64 f.jump.y, .int .i64 f.jump.z, .slice q.ca f.cuts.length q.cc] 183) (B := .cells #[.int .i64 bar] 3) (C := .cells #[.int .i64 pass] 3) (Below.refl _ _)
 have hI := ContainsE_any 220 #[.pointer (some ⟨w.heap.size + 1, 0, none⟩), .pointer (some ⟨w.heap.size + 1 + 1, 0, none⟩)] enters_rend _ (fun x => decide (x.x ≤ bar) && decide (bar < x.y) && decide (x.z ≠ pass)) q.ea q.ec f.ends _ (by have := hf.ends; omega) (fun d _ W hW => rendC_any d (w.heap.size + 1) (w.heap.size + 1 + 1) bar pass W (Qb (Qc x2 hW) 0) (Qb (Qc x3 hW) 0)) (Nat.le_refl _) (hm.below hb)
 have HI := Qa hI; have HB := Qa hb
 clear hI hm
 go_enter Tryz.func178, Tryz.ntmps178
 go_upto_region 1 with (fail)
 generalize ((w.alloc (.cells #[.int .i64 f.bars, .slice q.ra f.reps.length q.rc, .slice q.ea f.ends.length q.ec, .int .i64 f.jump.x, .int .i64 f.jump.y, .int .i64 f.jump.z, .slice q.ca f.cuts.length q.cc] 183)).alloc (.cells #[.int .i64 bar] 3)).alloc (.cells #[.int .i64 pass] 3) = W at *
 have hc := Qb x1; have hd := Qb x2; have he := Qb x3
 go_wp2_with (go_at_call 219; refine HI.out.mono ?_; rintro e w2 ⟨rfl, hb2⟩; have HB2 := bu HB hb2)
 go_ret
 exact ⟨Qf (by simp [endB]), HB2.out⟩
theorem rRepeats_any (f : Fo) (q : Fp) (w : World) (hf : FoFew f) (hm : R3At w q.ra f.reps) :
  Calls Tryz.prog 128 #[.agg #[.int .i64 f.bars, .slice q.ra f.reps.length q.rc, .slice q.ea f.ends.length q.ec, .int .i64 f.jump.x, .int .i64 f.jump.y, .int .i64 f.jump.z, .slice q.ca f.cuts.length q.cc]] w fun e w' => e = .returned (.bool (Ys f)) ∧ Below w.heap.size w w' := by
 obtain ⟨ra, rc, ea, ec, ca, cc⟩ := q
 try dsimp only at *
 have hx := heap_alloc_new w (.cells #[.int .i64 f.bars, .slice ((⟨ra, rc, ea, ec, ca, cc⟩ : Fp)).ra f.reps.length ((⟨ra, rc, ea, ec, ca, cc⟩ : Fp)).rc, .slice ((⟨ra, rc, ea, ec, ca, cc⟩ : Fp)).ea f.ends.length ((⟨ra, rc, ea, ec, ca, cc⟩ : Fp)).ec, .int .i64 f.jump.x, .int .i64 f.jump.y, .int .i64 f.jump.z, .slice ((⟨ra, rc, ea, ec, ca, cc⟩ : Fp)).ca f.cuts.length ((⟨ra, rc, ea, ec, ca, cc⟩ : Fp)).cc] 183)
 have hb := (Below.refl w.heap.size w).alloc (Nat.le_refl _) (.cells #[.int .i64 f.bars, .slice ((⟨ra, rc, ea, ec, ca, cc⟩ : Fp)).ra f.reps.length ((⟨ra, rc, ea, ec, ca, cc⟩ : Fp)).rc, .slice ((⟨ra, rc, ea, ec, ca, cc⟩ : Fp)).ea f.ends.length ((⟨ra, rc, ea, ec, ca, cc⟩ : Fp)).ec, .int .i64 f.jump.x, .int .i64 f.jump.y, .int .i64 f.jump.z, .slice ((⟨ra, rc, ea, ec, ca, cc⟩ : Fp)).ca f.cuts.length ((⟨ra, rc, ea, ec, ca, cc⟩ : Fp)).cc] 183)
 have HX := Qa hx; have HB := Qa hb; have HM := Qa hm
 have hfl := hf.reps
 clear hx hb hm
 go_enter Tryz.func128, Tryz.ntmps128
 go_upto_region 1 with (fail)
 generalize w.alloc (.cells #[.int .i64 f.bars, .slice ((⟨ra, rc, ea, ec, ca, cc⟩ : Fp)).ra f.reps.length ((⟨ra, rc, ea, ec, ca, cc⟩ : Fp)).rc, .slice ((⟨ra, rc, ea, ec, ca, cc⟩ : Fp)).ea f.ends.length ((⟨ra, rc, ea, ec, ca, cc⟩ : Fp)).ec, .int .i64 f.jump.x, .int .i64 f.jump.y, .int .i64 f.jump.z, .slice ((⟨ra, rc, ea, ec, ca, cc⟩ : Fp)).ca f.cuts.length ((⟨ra, rc, ea, ec, ca, cc⟩ : Fp)).cc] 183) = W at *
 have hc := Qb HX.out
 go_wp2
 clear hc
 go_loopw [3, 10] (fun s3 s10 wi => ∃ (k : Nat) (last : Int), k ≤ f.reps.length ∧ s10 = .int .i64 k ∧ s3 = .int .i64 last ∧ Hid (Zp f.bars 0 f.reps = Zp f.bars last (f.reps.drop k)) ∧ wi.heap[w.heap.size]? = some (.cells #[.int .i64 f.bars, .slice ((⟨ra, rc, ea, ec, ca, cc⟩ : Fp)).ra f.reps.length ((⟨ra, rc, ea, ec, ca, cc⟩ : Fp)).rc, .slice ((⟨ra, rc, ea, ec, ca, cc⟩ : Fp)).ea f.ends.length ((⟨ra, rc, ea, ec, ca, cc⟩ : Fp)).ec, .int .i64 f.jump.x, .int .i64 f.jump.y, .int .i64 f.jump.z, .slice ((⟨ra, rc, ea, ec, ca, cc⟩ : Fp)).ca f.cuts.length ((⟨ra, rc, ea, ec, ca, cc⟩ : Fp)).cc] 183) ∧ Below w.heap.size w wi) (fun _ s10 _ => f.reps.length - (intOf s10).toNat)
 case atStart => exact ⟨0, 0, Nat.zero_le _, rfl, rfl, Qa rfl, HX.out, HB.out⟩
 case round =>
  obtain ⟨k, last, hk, rfl, rfl, HR, hx, hb⟩ := hrel
  have HX := Qa hx; have HB := Qa hb
  clear hx hb
  have hc := Qb HX.out
  by_cases hlt : k < f.reps.length
  ·obtain ⟨b, off, hqa, _, e0, e1, e2⟩ := (HM.out.below HB.out).get k hlt
   have HR2 := Qa (show Zp f.bars 0 f.reps = (!badR f.bars last f.reps[k] && Zp f.bars f.reps[k].y (f.reps.drop (k + 1))) by rw [HR.out, List.drop_eq_getElem_cons hlt]; rfl)
   have hbad : badR f.bars last f.reps[k] = (decide (f.reps[k].x < last) || decide (f.reps[k].y ≤ f.reps[k].x) || decide (f.bars < f.reps[k].y) || decide (f.reps[k].z < 1) || decide (9 < f.reps[k].z)) := rfl
   have HBd := Qa hbad
   subst hqa
   clear hbad HR
   generalize f.reps[k] = r at *
   obtain ⟨x, y, z⟩ := r
   dsimp only at *
   go_upto_region 5 with (fail)
   have hX5 := heap_alloc_new wr (.cells #[.int .i64 x, .int .i64 y, .int .i64 z] 254)
   have hb5 := (Below.refl wr.heap.size wr).alloc (Nat.le_refl _) (.cells #[.int .i64 x, .int .i64 y, .int .i64 z] 254)
   replace HX := bk HX hb5; replace HB := bu HB hb5
   clear hb5 e0 e1 e2 hc
   generalize wr.alloc (.cells #[.int .i64 x, .int .i64 y, .int .i64 z] 254) = W5 at *
   generalize wr.heap.size = rb at *
   have hc := Qb HX.out; have hd := Qb hX5
   go_wp2
   all_goals
    first
    | exact ⟨⟨k + 1, _, by omega, by go_num, rfl, Qa (by rw [HR2.out, HBd.out, show (decide (x < last) || decide (y ≤ x) || decide (f.bars < y) || decide (z < 1) || decide (9 < z)) = false by simp; omega]; rfl), HX.out, HB.out⟩, by simp [intOf]; omega⟩
    | (go_ret; exact ⟨Qf (by unfold Ys; rw [HR2.out, HBd.out, show (decide (x < last) || decide (y ≤ x) || decide (f.bars < y) || decide (z < 1) || decide (9 < z)) = true by simp; omega]; rfl), HB.out⟩)
  ·obtain rfl : k = f.reps.length := by omega
   have HF := Qa (show Zp f.bars 0 f.reps = true by rw [HR.out, List.drop_length]; rfl)
   go_wp2
   go_ret
   exact ⟨Qf (by unfold Ys; rw [HF.out]; simp <;> omega), HB.out⟩
theorem rEndings_any (f : Fo) (q : Fp) (w : World) (hf : FoFew f) (hm0 : R3At w q.ra f.reps) (hm : R3At w q.ea f.ends) :
  Calls Tryz.prog 129 #[.agg #[.int .i64 f.bars, .slice q.ra f.reps.length q.rc, .slice q.ea f.ends.length q.ec, .int .i64 f.jump.x, .int .i64 f.jump.y, .int .i64 f.jump.z, .slice q.ca f.cuts.length q.cc]] w fun e w' => e = .returned (.bool (JC f)) ∧ Below w.heap.size w w' := by
 obtain ⟨ra, rc, ea, ec, ca, cc⟩ := q
 try dsimp only at *
 have hx := heap_alloc_new w (.cells #[.int .i64 f.bars, .slice ((⟨ra, rc, ea, ec, ca, cc⟩ : Fp)).ra f.reps.length ((⟨ra, rc, ea, ec, ca, cc⟩ : Fp)).rc, .slice ((⟨ra, rc, ea, ec, ca, cc⟩ : Fp)).ea f.ends.length ((⟨ra, rc, ea, ec, ca, cc⟩ : Fp)).ec, .int .i64 f.jump.x, .int .i64 f.jump.y, .int .i64 f.jump.z, .slice ((⟨ra, rc, ea, ec, ca, cc⟩ : Fp)).ca f.cuts.length ((⟨ra, rc, ea, ec, ca, cc⟩ : Fp)).cc] 183)
 have hb := (Below.refl w.heap.size w).alloc (Nat.le_refl _) (.cells #[.int .i64 f.bars, .slice ((⟨ra, rc, ea, ec, ca, cc⟩ : Fp)).ra f.reps.length ((⟨ra, rc, ea, ec, ca, cc⟩ : Fp)).rc, .slice ((⟨ra, rc, ea, ec, ca, cc⟩ : Fp)).ea f.ends.length ((⟨ra, rc, ea, ec, ca, cc⟩ : Fp)).ec, .int .i64 f.jump.x, .int .i64 f.jump.y, .int .i64 f.jump.z, .slice ((⟨ra, rc, ea, ec, ca, cc⟩ : Fp)).ca f.cuts.length ((⟨ra, rc, ea, ec, ca, cc⟩ : Fp)).cc] 183)
 have HX := Qa hx; have HB := Qa hb; have HM := Qa hm
 have hfl := hf.ends
 have HIn := Qa (fun (x : R3) (c : Nat) W (hW : Below w.heap.size w W) (hc : W.heap[c]? = some (.cells #[.int .i64 x.x, .int .i64 x.y, .int .i64 x.z] 255)) => ContainsR_any 172 #[.pointer (some ⟨c, 0, none⟩)] enters_rin _ (fun r => decide (r.x ≤ x.x) && decide (x.y ≤ r.y)) ra rc f.reps W (by have := hf.reps; omega) (fun d _ W' hW' => rinC_any d x c W' (Qc hc hW')) (Nat.le_refl _) (hm0.below hW))
 clear hx hb hm hm0 hf
 go_enter Tryz.func129, Tryz.ntmps129
 go_upto_region 1 with (fail)
 generalize w.alloc (.cells #[.int .i64 f.bars, .slice ((⟨ra, rc, ea, ec, ca, cc⟩ : Fp)).ra f.reps.length ((⟨ra, rc, ea, ec, ca, cc⟩ : Fp)).rc, .slice ((⟨ra, rc, ea, ec, ca, cc⟩ : Fp)).ea f.ends.length ((⟨ra, rc, ea, ec, ca, cc⟩ : Fp)).ec, .int .i64 f.jump.x, .int .i64 f.jump.y, .int .i64 f.jump.z, .slice ((⟨ra, rc, ea, ec, ca, cc⟩ : Fp)).ca f.cuts.length ((⟨ra, rc, ea, ec, ca, cc⟩ : Fp)).cc] 183) = W at *
 have hc := Qb HX.out
 go_wp2
 clear hc
 go_loopw [3, 11] (fun s3 s10 wi => ∃ (k : Nat) (last : Int), k ≤ f.ends.length ∧ s10 = .int .i64 k ∧ s3 = .int .i64 last ∧ Hid (Zx f.reps 0 f.ends = Zx f.reps last (f.ends.drop k)) ∧ wi.heap[w.heap.size]? = some (.cells #[.int .i64 f.bars, .slice ((⟨ra, rc, ea, ec, ca, cc⟩ : Fp)).ra f.reps.length ((⟨ra, rc, ea, ec, ca, cc⟩ : Fp)).rc, .slice ((⟨ra, rc, ea, ec, ca, cc⟩ : Fp)).ea f.ends.length ((⟨ra, rc, ea, ec, ca, cc⟩ : Fp)).ec, .int .i64 f.jump.x, .int .i64 f.jump.y, .int .i64 f.jump.z, .slice ((⟨ra, rc, ea, ec, ca, cc⟩ : Fp)).ca f.cuts.length ((⟨ra, rc, ea, ec, ca, cc⟩ : Fp)).cc] 183) ∧ Below w.heap.size w wi) (fun _ s10 _ => f.ends.length - (intOf s10).toNat)
 case atStart => exact ⟨0, 0, Nat.zero_le _, rfl, rfl, Qa rfl, HX.out, HB.out⟩
 case round =>
  obtain ⟨k, last, hk, rfl, rfl, HR, hx, hb⟩ := hrel
  have HX := Qa hx; have HB := Qa hb
  clear hx hb
  have hc := Qb HX.out
  by_cases hlt : k < f.ends.length
  ·obtain ⟨b, off, hqa, _, e0, e1, e2⟩ := (HM.out.below HB.out).get k hlt
   have HR2 := Qa (show Zx f.reps 0 f.ends = (!badE f.reps last f.ends[k] && Zx f.reps f.ends[k].y (f.ends.drop (k + 1))) by rw [HR.out, List.drop_eq_getElem_cons hlt]; rfl)
   have HBd := Qa (show badE f.reps last f.ends[k] = (decide (f.ends[k].x < last) || decide (f.ends[k].y ≤ f.ends[k].x) || !Ze f.reps f.ends[k].x f.ends[k].y || decide (f.ends[k].z < 1) || decide (9 < f.ends[k].z)) from rfl)
   subst hqa
   clear HR
   have HI2 := Qa (HIn.out f.ends[k])
   generalize f.ends[k] = r at *
   obtain ⟨x, y, z⟩ := r
   dsimp only at *
   go_upto_region 5 with (fail)
   have hX5 := heap_alloc_new wr (.cells #[.int .i64 x, .int .i64 y, .int .i64 z] 255)
   have hb5 := (Below.refl wr.heap.size wr).alloc (Nat.le_refl _) (.cells #[.int .i64 x, .int .i64 y, .int .i64 z] 255)
   replace HX := bk HX hb5; replace HB := bu HB hb5
   clear hb5 e0 e1 e2 hc
   generalize wr.alloc (.cells #[.int .i64 x, .int .i64 y, .int .i64 z] 255) = W5 at *
   generalize wr.heap.size = rb at *
   have hc := Qb HX.out
   have HI3 := Qa (show Calls Tryz.prog 171 #[.slice ra f.reps.length rc, .func (.func 172) #[] #[.pointer (some ⟨rb, 0, none⟩)]] W5 (fun e w' => e = .returned (.bool (Ze f.reps x y)) ∧ Below W5.heap.size W5 w') from HI2.out rb W5 HB.out hX5)
   clear HI2
   generalize Ze f.reps x y = IN at *
   have HX5 := Qa hX5
   clear hX5
   go_upto_region 6 with (go_at_call 171; refine HI3.out.mono ?_; rintro e w6 ⟨rfl, hb⟩; clear hc; replace HX := bk HX hb; replace HX5 := bk HX5 hb; replace HB := bu HB hb; clear hb)
   have hd := Qb HX5.out
   cases IN
   all_goals
    go_wp2
    all_goals
     first
     | exact ⟨⟨k + 1, _, by omega, by go_num, rfl, Qa (by rw [HR2.out, HBd.out, show (decide (x < last) || decide (y ≤ x) || !true || decide (z < 1) || decide (9 < z)) = false by simp; omega]; rfl), HX.out, HB.out⟩, by simp [intOf]; omega⟩
     | (go_ret; exact ⟨Qf (by unfold JC; rw [HR2.out, HBd.out]; (first | rw [show (decide (x < last) || decide (y ≤ x) || !false || decide (z < 1) || decide (9 < z)) = true by simp] | rw [show (decide (x < last) || decide (y ≤ x) || !true || decide (z < 1) || decide (9 < z)) = true by simp; omega]); rfl), HB.out⟩)
  ·obtain rfl : k = f.ends.length := by omega
   have HF := Qa (show Zx f.reps 0 f.ends = true by rw [HR.out, List.drop_length]; rfl)
   go_wp2
   go_ret
   exact ⟨Qf (by unfold JC; rw [HF.out]; simp <;> omega), HB.out⟩
theorem eql_ju (x y z x' y' z' : Int) (w : World) : (binOp .eql 106 (.agg #[.int .i64 x, .int .i64 y, .int .i64 z]) (.agg #[.int .i64 x', .int .i64 y', .int .i64 z'])).run Tryz.prog w = .ok (.bool (decide ((⟨x, y, z⟩ : R3) = ⟨x', y', z'⟩))) w := by
 rw [run_eql_struct]
 simp [go_sem]
 by_cases h0 : x = x'
 ·simp [h0]
  by_cases h1 : y = y'
  ·simp [h1]
   by_cases h2 : z = z' <;> simp [h2]
  ·simp [h1]
 ·simp [h0]
theorem eql_cu (x y z x' y' z' : Int) (w : World) : (binOp .eql 186 (.agg #[.int .i64 x, .int .i64 y, .int .i64 z]) (.agg #[.int .i64 x', .int .i64 y', .int .i64 z'])).run Tryz.prog w = .ok (.bool (decide ((⟨x, y, z⟩ : R3) = ⟨x', y', z'⟩))) w := by
 rw [run_eql_struct]
 simp [go_sem]
 by_cases h0 : x = x'
 ·simp [h0]
  by_cases h1 : y = y'
  ·simp [h1]
   by_cases h2 : z = z' <;> simp [h2]
  ·simp [h1]
 ·simp [h0]
theorem rJump_any (f : Fo) (q : Fp) (w : World) (hf : FoFew f) (hm : R3At w q.ra f.reps) :
  Calls Tryz.prog 130 #[.agg #[.int .i64 f.bars, .slice q.ra f.reps.length q.rc, .slice q.ea f.ends.length q.ec, .int .i64 f.jump.x, .int .i64 f.jump.y, .int .i64 f.jump.z, .slice q.ca f.cuts.length q.cc]] w fun e w' => e = .returned (.bool (Q5 f)) ∧ Below w.heap.size w w' := by
 have hx := heap_alloc_new w (.cells #[.int .i64 f.bars, .slice q.ra f.reps.length q.rc, .slice q.ea f.ends.length q.ec, .int .i64 f.jump.x, .int .i64 f.jump.y, .int .i64 f.jump.z, .slice q.ca f.cuts.length q.cc] 183)
 have hb := (Below.refl w.heap.size w).alloc (Nat.le_refl _) (.cells #[.int .i64 f.bars, .slice q.ra f.reps.length q.rc, .slice q.ea f.ends.length q.ec, .int .i64 f.jump.x, .int .i64 f.jump.y, .int .i64 f.jump.z, .slice q.ca f.cuts.length q.cc] 183)
 have HX := Qa hx; have HB := Qa hb
 have HWi := Qa (fun bar V (hV : Below w.heap.size w V) => rWithin_any f q bar V hf (hm.below hV))
 have HJ := Qa (show Q5 f = (decide ((⟨f.jump.x, f.jump.y, f.jump.z⟩ : R3) = ⟨0, 0, 0⟩) || (!badJ f && (!QO f.reps f.jump.x && !QO f.reps f.jump.y && !QO f.reps f.jump.z))) from rfl)
 have HJb := Qa (show badJ f = (decide (f.jump.x < 1) || decide (f.bars < f.jump.x) || decide (f.jump.y < 0) || decide (f.jump.x ≤ f.jump.y) || decide (f.jump.z ≤ f.jump.y) || decide (f.bars < f.jump.z)) from rfl)
 clear hx hb hm hf
 go_enter Tryz.func130, Tryz.ntmps130
 go_upto_region 1 with (fail)
 generalize w.alloc (.cells #[.int .i64 f.bars, .slice q.ra f.reps.length q.rc, .slice q.ea f.ends.length q.ec, .int .i64 f.jump.x, .int .i64 f.jump.y, .int .i64 f.jump.z, .slice q.ca f.cuts.length q.cc] 183) = W at *
 have hc := Qb HX.out
 go_upto_region 2 with (fail)
 have hx3 := heap_alloc_new W (.cells #[.int .i64 f.jump.x, .int .i64 f.jump.y, .int .i64 f.jump.z] 106)
 have hb3 := (Below.refl W.heap.size W).alloc (Nat.le_refl _) (.cells #[.int .i64 f.jump.x, .int .i64 f.jump.y, .int .i64 f.jump.z] 106)
 replace HX := bk HX hb3; replace HB := bu HB hb3; have HX3 := Qa hx3
 clear hb3 hc hx3
 generalize W.alloc (.cells #[.int .i64 f.jump.x, .int .i64 f.jump.y, .int .i64 f.jump.z] 106) = W3 at *
 generalize W.heap.size = jb at *
 have hc := Qb HX.out; have hd := Qb HX3.out
 generalize f.jump.x = x at *
 generalize f.jump.y = y at *
 generalize f.jump.z = z at *
 generalize f.bars = n at *
 have heq := fun W => eql_ju x y z 0 0 0 W
 generalize decide ((⟨x, y, z⟩ : R3) = ⟨0, 0, 0⟩) = J0 at *
 cases J0
 ·by_cases hbad : badJ f = true
  ·go_wp2_with ((go_at_call 173; refine (HWi.out _ _ HB.out).mono ?_; rintro e w6 ⟨rfl, hb⟩; clear hc hd; replace HX := bk HX hb; replace HX3 := bk HX3 hb; replace HB := bu HB hb; clear hb; have hc := Qb HX.out; have hd := Qb HX3.out))
   all_goals
    first
    | (go_ret; exact ⟨Qf (by rw [HJ.out, hbad]; rfl), HB.out⟩)
    | (exfalso; rw [HJb.out] at hbad; simp at hbad; omega)
  ·have hbf : badJ f = false := by simpa using hbad
   clear hbad
   go_wp2_with ((go_at_call 173; refine (HWi.out _ _ HB.out).mono ?_; rintro e w6 ⟨rfl, hb⟩; clear hc hd; replace HX := bk HX hb; replace HX3 := bk HX3 hb; replace HB := bu HB hb; clear hb; have hc := Qb HX.out; have hd := Qb HX3.out))
   all_goals
    first
    | (exfalso; rw [HJb.out] at hbf; simp at hbf; omega)
    | (go_ret; exact ⟨Qf (by rw [HJ.out, hbf]; simp [*]), HB.out⟩)
 ·go_wp2
  go_ret
  exact ⟨Qf (by rw [HJ.out]; rfl), HB.out⟩
theorem keyC : KeyOk Tryz.prog 186 R3V :=
 ⟨find_ask Tryz.underlying186 (fun _ _ => rfl) (fun a b w => by
   have h := eql_cu a.x a.y a.z b.x b.y b.z w
   rw [run_eql_struct] at h
   show (Op.equalIn 10000 186 (.agg #[.int .i64 a.x, .int .i64 a.y, .int .i64 a.z]) (.agg #[.int .i64 b.x, .int .i64 b.y, .int .i64 b.z])).run Tryz.prog w = _
   revert h
   generalize (Op.equalIn 10000 186 (.agg #[.int .i64 a.x, .int .i64 a.y, .int .i64 a.z]) (.agg #[.int .i64 b.x, .int .i64 b.y, .int .i64 b.z])).run Tryz.prog w = R
   intro h
   cases R with
   | ok v w' =>
    simp [Result.andThen] at h
    rw [h.1, h.2]
    obtain ⟨a1, a2, a3⟩ := a; obtain ⟨b1, b2, b3⟩ := b
    congr 1
    rw [Bool.eq_iff_iff]; simp
   | halt x w' => simp [Result.andThen] at h),
  fun a => by simp [R3V, Instr.sameBits], fun a b w => by kernel_rfl⟩
theorem ZF {l : List R3} {k : Nat} (h : k < l.length) : (l.take (k + 1)).Nodup ↔ (l.take k).Nodup ∧ l[k] ∉ l.take k := by
 rw [List.take_succ_eq_append_getElem h, List.nodup_append]
 constructor
 ·rintro ⟨a, _, c⟩
  exact ⟨a, fun hm => c _ hm _ (by simp) rfl⟩
 ·rintro ⟨a, c⟩
  exact ⟨a, by simp, fun x hx y hy e => by simp at hy; subst hy; subst e; exact c hx⟩
theorem zeroBoolJ (w : World) : (zeroValue 4).run Tryz.prog w = .ok (.bool false) w := by kernel_rfl
def SeenG {κ : Type} [DecidableEq κ] (enc : κ → Value) (W : World) (r : Nat) (l : List κ) : Prop := ∃ m, MapAt W enc r m ∧ ∀ x, (mget m x).getD (.bool false) = .bool (decide (x ∈ l))
section
variable {κ : Type} [DecidableEq κ] {enc : κ → Value}
theorem SeenG.below {W W' : World} {r : Nat} {l : List κ} (h : SeenG enc W r l) (hb : Below W.heap.size W W') : SeenG enc W' r l := by
 obtain ⟨m, h1, h2⟩ := h
 exact ⟨m, h1.below hb, h2⟩
theorem SeenG.new (W : World) : SeenG enc (W.alloc (.map #[] 0)) W.heap.size [] := ⟨[], MapAt.new W enc, fun x => by simp [Q2]⟩
theorem SeenG.look {K t : TypeId} (ht : Tryz.prog.underlying t = some (.map K 4)) (hk : KeyOk Tryz.prog K enc) {W : World} {r : Nat} {l : List κ} (h : SeenG enc W r l) (x : κ) : (Instr.lookup t (.map (some r)) (enc x) false).run Tryz.prog W = .ok (.bool (decide (x ∈ l))) W := by
 obtain ⟨m, h1, h2⟩ := h
 rw [← h2 x]
 exact QF ht hk zeroBoolJ h1 x false
theorem seenG_put {m : List (κ × Value)} {l : List κ} (h : ∀ x, (mget m x).getD (.bool false) = .bool (decide (x ∈ l))) (y x : κ) : (mget (mput m y (.bool true)) x).getD (.bool false) = .bool (decide (x ∈ l ++ [y])) := by
 rw [ZB]
 by_cases e : x = y
 ·rw [if_pos e, e]; simp
 ·rw [if_neg e, h x]; simp [e]
end
theorem rCuts_any (f : Fo) (q : Fp) (w : World) (hf : FoFew f) (hm : R3At w q.ca f.cuts) :
  Calls Tryz.prog 131 #[.agg #[.int .i64 f.bars, .slice q.ra f.reps.length q.rc, .slice q.ea f.ends.length q.ec, .int .i64 f.jump.x, .int .i64 f.jump.y, .int .i64 f.jump.z, .slice q.ca f.cuts.length q.cc]] w fun e w' => e = .returned (.bool (ZZ f)) ∧ Below w.heap.size w w' := by
 obtain ⟨ra, rc, ea, ec, ca, cc⟩ := q
 try dsimp only at *
 have hx := heap_alloc_new w (.cells #[.int .i64 f.bars, .slice ((⟨ra, rc, ea, ec, ca, cc⟩ : Fp)).ra f.reps.length ((⟨ra, rc, ea, ec, ca, cc⟩ : Fp)).rc, .slice ((⟨ra, rc, ea, ec, ca, cc⟩ : Fp)).ea f.ends.length ((⟨ra, rc, ea, ec, ca, cc⟩ : Fp)).ec, .int .i64 f.jump.x, .int .i64 f.jump.y, .int .i64 f.jump.z, .slice ((⟨ra, rc, ea, ec, ca, cc⟩ : Fp)).ca f.cuts.length ((⟨ra, rc, ea, ec, ca, cc⟩ : Fp)).cc] 183)
 have hb := (Below.refl w.heap.size w).alloc (Nat.le_refl _) (.cells #[.int .i64 f.bars, .slice ((⟨ra, rc, ea, ec, ca, cc⟩ : Fp)).ra f.reps.length ((⟨ra, rc, ea, ec, ca, cc⟩ : Fp)).rc, .slice ((⟨ra, rc, ea, ec, ca, cc⟩ : Fp)).ea f.ends.length ((⟨ra, rc, ea, ec, ca, cc⟩ : Fp)).ec, .int .i64 f.jump.x, .int .i64 f.jump.y, .int .i64 f.jump.z, .slice ((⟨ra, rc, ea, ec, ca, cc⟩ : Fp)).ca f.cuts.length ((⟨ra, rc, ea, ec, ca, cc⟩ : Fp)).cc] 183)
 have HX := Qa hx; have HB := Qa hb; have HM := Qa hm
 have hfl := hf.cuts
 have HIs := Qa (fun c V => risCut_any f (⟨ra, rc, ea, ec, ca, cc⟩ : Fp) c V)
 clear hx hb hm hf
 have hmm := @run_makeMap Tryz.prog
 go_enter Tryz.func131, Tryz.ntmps131
 go_upto_region 1 with (fail)
 generalize w.alloc (.cells #[.int .i64 f.bars, .slice ((⟨ra, rc, ea, ec, ca, cc⟩ : Fp)).ra f.reps.length ((⟨ra, rc, ea, ec, ca, cc⟩ : Fp)).rc, .slice ((⟨ra, rc, ea, ec, ca, cc⟩ : Fp)).ea f.ends.length ((⟨ra, rc, ea, ec, ca, cc⟩ : Fp)).ec, .int .i64 f.jump.x, .int .i64 f.jump.y, .int .i64 f.jump.z, .slice ((⟨ra, rc, ea, ec, ca, cc⟩ : Fp)).ca f.cuts.length ((⟨ra, rc, ea, ec, ca, cc⟩ : Fp)).cc] 183) = W at *
 go_upto_region 2 with (fail)
 have HS := Qa (SeenG.new (enc := R3V) W)
 have hb3 := (Below.refl W.heap.size W).alloc (Nat.le_refl _) (.map #[] 0)
 have HLr := Qa (show w.heap.size < W.heap.size from Qd HX.out)
 replace HX := bk HX hb3; replace HB := bu HB hb3
 clear hb3
 generalize W.alloc (.map #[] 0) = W3 at *
 generalize W.heap.size = r at *
 have hc := Qb HX.out
 go_wp2
 clear hc
 go_loopw [11] (fun s11 wi => ∃ k : Nat, k ≤ f.cuts.length ∧ s11 = .int .i64 k ∧ Hid ((∀ j (h : j < f.cuts.length), j < k → cutB f f.cuts[j] = true) ∧ (f.cuts.take k).Nodup) ∧ SeenG R3V wi r (f.cuts.take k) ∧ wi.heap[w.heap.size]? = some (.cells #[.int .i64 f.bars, .slice ((⟨ra, rc, ea, ec, ca, cc⟩ : Fp)).ra f.reps.length ((⟨ra, rc, ea, ec, ca, cc⟩ : Fp)).rc, .slice ((⟨ra, rc, ea, ec, ca, cc⟩ : Fp)).ea f.ends.length ((⟨ra, rc, ea, ec, ca, cc⟩ : Fp)).ec, .int .i64 f.jump.x, .int .i64 f.jump.y, .int .i64 f.jump.z, .slice ((⟨ra, rc, ea, ec, ca, cc⟩ : Fp)).ca f.cuts.length ((⟨ra, rc, ea, ec, ca, cc⟩ : Fp)).cc] 183) ∧ Below w.heap.size w wi) (fun s11 _ => f.cuts.length - (intOf s11).toNat)
 case atStart => exact ⟨0, Nat.zero_le _, rfl, Qa ⟨fun j _ h => absurd h (Nat.not_lt_zero _), by simp⟩, HS.out, HX.out, HB.out⟩
 case round =>
  clear HS HX HB
  obtain ⟨k, hk, rfl, HA, hs, hx, hb⟩ := hrel
  have HX := Qa hx; have HB := Qa hb; have HS := Qa hs
  clear hx hb hs
  have hc := Qb HX.out
  by_cases hlt : k < f.cuts.length
  ·obtain ⟨b, off, hqa, _, e0, e1, e2⟩ := (HM.out.below HB.out).get k hlt
   subst hqa
   have HT := Qa (ZF hlt)
   have HTk := Qa (show f.cuts.take (k + 1) = f.cuts.take k ++ [f.cuts[k]] from List.take_succ_eq_append_getElem hlt)
   have HA2 := Qa (fun (h : cutB f f.cuts[k] = true) j (hj : j < f.cuts.length) (h2 : j < k + 1) => show cutB f f.cuts[j] = true from by
    rcases Nat.lt_or_ge j k with h5 | h5
    ·exact HA.out.1 j hj h5
    ·obtain rfl : j = k := by omega
     exact h)
   have HNo := Qa (show (cutB f f.cuts[k] = false ∨ f.cuts[k] ∈ f.cuts.take k) → ZZ f = false from fun h => by
    unfold ZZ
    rcases h with h | h
    ·have : f.cuts.all (cutB f) = false := by rw [List.all_eq_false]; exact ⟨_, List.getElem_mem hlt, by simp [h]⟩
     rw [this]; rfl
    ·have : ¬ f.cuts.Nodup := fun hn => ((ZF hlt).1 (hn.sublist (List.take_sublist _ _))).2 h
     rw [decide_eq_false this]; simp)
   have HIk := Qa (fun V => HIs.out f.cuts[k] V)
   generalize f.cuts[k] = d at *
   go_upto_region 5 with (fail)
   have hX5 := heap_alloc_new wr (.cells #[.int .i64 d.x, .int .i64 d.y, .int .i64 d.z] 186)
   have hb5 := (Below.refl wr.heap.size wr).alloc (Nat.le_refl _) (.cells #[.int .i64 d.x, .int .i64 d.y, .int .i64 d.z] 186)
   replace HX := bk HX hb5; replace HB := bu HB hb5; replace HS := Qa (HS.out.below hb5)
   clear hb5 e0 e1 e2 hc
   generalize wr.alloc (.cells #[.int .i64 d.x, .int .i64 d.y, .int .i64 d.z] 186) = W5 at *
   generalize wr.heap.size = cb at *
   have HX5 := Qa hX5
   clear hX5
   have hc := Qb HX.out; have hd := Qb HX5.out
   have HL := Qa (fun V (h : SeenG R3V V r (f.cuts.take k)) => show (Instr.lookup 258 (.map (some r)) (.agg #[.int .i64 d.x, .int .i64 d.y, .int .i64 d.z]) false).run Tryz.prog V = .ok (.bool (decide (d ∈ f.cuts.take k))) V from SeenG.look Tryz.underlying258 keyC h d)
   have HI5 := Qa (show ∀ V, Calls Tryz.prog 174 #[.agg #[.int .i64 f.bars, .slice ((⟨ra, rc, ea, ec, some ⟨b, off, none⟩, cc⟩ : Fp)).ra f.reps.length ((⟨ra, rc, ea, ec, some ⟨b, off, none⟩, cc⟩ : Fp)).rc, .slice ((⟨ra, rc, ea, ec, some ⟨b, off, none⟩, cc⟩ : Fp)).ea f.ends.length ((⟨ra, rc, ea, ec, some ⟨b, off, none⟩, cc⟩ : Fp)).ec, .int .i64 f.jump.x, .int .i64 f.jump.y, .int .i64 f.jump.z, .slice ((⟨ra, rc, ea, ec, some ⟨b, off, none⟩, cc⟩ : Fp)).ca f.cuts.length ((⟨ra, rc, ea, ec, some ⟨b, off, none⟩, cc⟩ : Fp)).cc], .agg #[.int .i64 d.x, .int .i64 d.y, .int .i64 d.z]] V (fun e w' => e = .returned (.bool (cutB f d)) ∧ Below V.heap.size V w') from HIk.out)
   clear HIk HIs
   cases hcb : cutB f d
   ·rw [hcb] at HI5
    have HN := Qa (HNo.out (.inl hcb))
    clear hcb HL HA2 HNo
    go_wp2_with ((go_at_call 174; refine (HI5.out _).mono ?_; rintro e w6 ⟨rfl, hb⟩; clear hc hd; (try clear hl5); replace HX := bk HX hb; replace HX5 := bk HX5 hb; replace HB := bu HB hb; replace HS := Qa (HS.out.below hb); clear hb; have hc := Qb HX.out; have hd := Qb HX5.out))
    go_ret
    exact ⟨Qf HN.out.symm, HB.out⟩
   rw [hcb] at HI5
   by_cases hdb : d ∈ f.cuts.take k
   ·have HN := Qa (HNo.out (.inr hdb))
    rw [decide_eq_true hdb] at HL
    have hl5 := HL.out W5 HS.out
    clear hcb hdb HA2 HNo
    go_wp2_with ((go_at_call 174; refine (HI5.out _).mono ?_; rintro e w6 ⟨rfl, hb⟩; clear hc hd; (try clear hl5); replace HX := bk HX hb; replace HX5 := bk HX5 hb; replace HB := bu HB hb; replace HS := Qa (HS.out.below hb); clear hb; have hc := Qb HX.out; have hd := Qb HX5.out); have hl5 := HL.out w6 HS.out)
    go_ret
    exact ⟨Qf HN.out.symm, HB.out⟩
   ·rw [decide_eq_false hdb] at HL
    have hl5 := HL.out W5 HS.out
    have HAn := Qa (And.intro (HA2.out hcb) (HT.out.2 ⟨HA.out.2, hdb⟩))
    clear hcb hdb HA2 HNo HA HT
    go_upto_region 7 with ((go_at_call 174; refine (HI5.out _).mono ?_; rintro e w6 ⟨rfl, hb⟩; clear hc hd; (try clear hl5); replace HX := bk HX hb; replace HX5 := bk HX5 hb; replace HB := bu HB hb; replace HS := Qa (HS.out.below hb); clear hb; have hc := Qb HX.out; have hd := Qb HX5.out); have hl5 := HL.out w6 HS.out)
    obtain ⟨m, hm1, hm2⟩ := HS.out
    go_wp2_with (refine Qm rfl (.tmp 24) _ _ _ (.inl rfl) Tryz.underlying258 keyC r m rfl hm1 d rfl _ rfl ?_; intro w7 hm7 hg7)
    have hlr := HLr.out
    have hlx := Qd HX.out
    have hsz := HB.out.size
    exact ⟨⟨k + 1, by omega, by go_num, HAn, ⟨_, hm7, fun x => by rw [HTk.out]; exact seenG_put hm2 d x⟩, (hg7.block _ hlx (fun e => by have := Option.some.inj e; omega)).trans HX.out, HB.out.grown hg7 hsz (fun k e => by have := Option.some.inj e; omega)⟩, by simp [intOf]; omega⟩
  ·obtain rfl : k = f.cuts.length := by omega
   have hall : ZZ f = decide (f.cuts.length ≤ 100) := by
    obtain ⟨h1, h2⟩ := HA.out
    rw [List.take_length] at h2
    have h3 : f.cuts.all (cutB f) = true := List.all_eq_true.2 fun x hx => by
     obtain ⟨j, hj, rfl⟩ := List.getElem_of_mem hx
     exact h1 j hj hj
    unfold ZZ
    rw [h3, decide_eq_true h2]; simp
   have HF := Qa hall
   clear hall
   go_wp2
   go_ret
   exact ⟨Qf (by rw [HF.out]; simp <;> omega), HB.out⟩
end Go.Proofs.YtajijcfikihhjaaGreatDoor
namespace Go.Proofs.YtajijcfikihhjaaGreatDoor
open Go.RowKit Go.Sort
variable {F : Fence} {n : Nat} {P : Program}
theorem Qo {w : World} {b c i : Nat} {o : Obj} (h : w.heap[b]? = some o) (hne : b ≠ c) (v : Value) : (w.setCell ⟨c, i, none⟩ v).heap[b]? = some o := (heap_setCell_other _ _ _ _ (show _ ≠ _ by simpa using hne)).trans h
structure KeptC (Fr : Nat → TypeId → Prop) (W W' : World) : Prop where
 size : W.heap.size ≤ W'.heap.size
 cells : ∀ k cs T fr, Fr k T → W.heap[k]? = some (.cells cs T fr) → W'.heap[k]? = some (.cells cs T fr)
theorem KeptC.refl (Fr : Nat → TypeId → Prop) (W : World) : KeptC Fr W W := ⟨Nat.le_refl _, fun _ _ _ _ _ h => h⟩
theorem KeptC.trans {Fr : Nat → TypeId → Prop} {X Y Z : World} (h : KeptC Fr X Y) (k : KeptC Fr Y Z) : KeptC Fr X Z := ⟨Nat.le_trans h.size k.size, fun i cs T fr hi hx => k.cells i cs T fr hi (h.cells i cs T fr hi hx)⟩
theorem KeptC.put {Fr : Nat → TypeId → Prop} {W : World} {l : Nat} {o o' : Obj} (h : W.heap[l]? = some o) (hc : o.isCells = false) : KeptC Fr W (W.putObj l o') := by
 refine ⟨by simp, fun k cs T fr _ hk => ?_⟩
 have hne : k ≠ l := by rintro rfl; rw [hk] at h; cases h; cases hc
 exact (World.putObj_heap_other hne).trans hk
theorem KeptC.below {Fr : Nat → TypeId → Prop} {W W' : World} (h : Below W.heap.size W W') : KeptC Fr W W' := ⟨h.size, fun k cs T fr _ hk => (h.block k (Qd hk)).trans hk⟩
theorem KeptC.keepB {Fr : Nat → TypeId → Prop} {S : List Nat} {W W' : World} (h : KeepB W.heap.size S W W') (hS : ∀ k T, Fr k T → k ∉ S) : KeptC Fr W W' := ⟨h.size, fun k cs T fr hn hk => (h.block k (Qd hk) (hS k T hn)).trans hk⟩
theorem KeptC.own {Fr : Nat → TypeId → Prop} {W V V' : World} (h : KeptC Fr W V) (hb : Below W.heap.size V V') : KeptC Fr W V' := ⟨Nat.le_trans h.size hb.size, fun k cs T fr hn hk => (hb.block k (Qd hk)).trans (h.cells k cs T fr hn hk)⟩
theorem KeptC.grown {Fr : Nat → TypeId → Prop} {W W' : World} {row : Option Nat} (hg : W.grownBy W' row) (hr : ∀ k, row = some k → ∀ cs T fr, W.heap[k]? = some (.cells cs T fr) → ¬ Fr k T) : KeptC Fr W W' :=
 ⟨hg.size, fun k cs T fr hn hk => (hg.block k (Qd hk) (fun e => hr k e.symm cs T fr hk hn)).trans hk⟩
theorem cells_of {W : World} {b j : Nat} {v : Value} (h : W.cell? ⟨b, j, none⟩ = some v) : ∃ cs T fr, W.heap[b]? = some (.cells cs T fr) ∧ cs[j]? = some v := by
 unfold World.cell? at h
 cases e : W.heap[b]? with
 | none => simp [e] at h
 | some o =>
  cases o with
  | cells cs T fr => exact ⟨cs, T, fr, rfl, by simpa [e] using h⟩
  | _ => simp [e] at h
theorem SlAt.keptC {W V : World} {Fr : Nat → TypeId → Prop} {a : Option Addr} {sz : Nat} {rows : List (List Value)} (h : SlAt W a sz rows) (k : KeptC Fr W V) (hne : ∀ ad, a = some ad → rows ≠ [] → ∀ T, Fr ad.block T) : SlAt V a sz rows := fun i r hr => by
 obtain ⟨b, off, e, hlt, hl, hc⟩ := h i r hr
 have hn := hne _ e (fun e' => by subst e'; simp at hr)
 refine ⟨b, off, e, Nat.lt_of_lt_of_le hlt k.size, hl, fun j v hv => ?_⟩
 obtain ⟨cs, T, fr, h1, h2⟩ := cells_of (hc j v hv)
 rw [Qb (k.cells b cs T fr (hn T) h1)]
 exact h2
def itT : List TypeId := [3, 4, 183, 254, 106, 93, 58, 225]
abbrev Stay (X Y : World) : Prop := KeptC (fun _ T => T ∉ itT) X Y
theorem J1 {X : World} {b : Nat} {cs : Array Value} {T : TypeId} {fr : Nat × Nat} (h : X.heap[b]? = some (.cells cs T fr)) (hT : T ∈ itT) (i : Nat) (v : Value) : Stay X (X.setCell ⟨b, i, none⟩ v) :=
 ⟨by simp, fun k ds U fs hU hk => by
  refine (heap_setCell_other _ _ _ _ (show k ≠ b from ?_)).trans hk
  rintro rfl
  rw [h] at hk; cases hk
  exact hU hT⟩
theorem _root_.Go.KeepsFrom.up {B B' : Nat} {X Y : World} (h : KeepsFrom B X Y) (hB : B ≤ B') : KeepsFrom B' X Y := ⟨h.size, fun k o hk hx hc => h.same k o (Nat.le_trans hB hk) hx hc⟩
theorem QZ {B l : Nat} {W : World} {o : Obj} (h : l < B) : KeepsFrom B W (W.putObj l o) := ⟨by simp, fun k o hk hx _ => (World.putObj_heap_other (by omega)).trans hx⟩
theorem Q7 {m : Nat} {W : World} {l : Nat} {o : Obj} (h : m ≤ l) : Below m W (W.putObj l o) := ⟨rfl, rfl, rfl, by simp, fun k hk => World.putObj_heap_other (by omega)⟩
theorem keepsFrom_keepB {B : Nat} {S : List Nat} {V V' : World} (h : KeepB V.heap.size S V V') (hS : ∀ s ∈ S, s < B) : KeepsFrom B V V' := ⟨h.size, fun k o hk h0 _ => (h.block k (Qd h0) (fun hs => by have := hS _ hs; omega)).trans h0⟩
def UC {α : Type} (F : Fence) (n : Nat) (P : Program) (g : Nat) (lb : Array Value) (encs : α → Array Value) (Kp : World → World → Prop) (S : List α → Prop) (N : Nat) (w : World) : Prop :=
 ∀ (l : Nat) (J Jx : List α → World → Prop) (W : World), Below w.heap.size w W → (∀ pre X Y, J pre X → Below W.heap.size X Y → Stay X Y → J pre Y) → (∀ pre X Y, Jx pre X → Below W.heap.size X Y → Jx pre Y) →
  (∀ pre x W1, J pre W1 → pre.length < N → YieldAt F (n - 1) P l (encs x) W1 fun e W' => (e = .returned (.bool true) ∧ J (pre ++ [x]) W' ∧ Kp W1 W' ∧ KeepsFrom W.heap.size W1 W') ∨ (e = .returned (.bool false) ∧ Jx (pre ++ [x]) W' ∧ KeepsFrom W.heap.size W1 W')) →
  J [] W → CallsIn F n P g (#[.func (.yield l) #[] #[]] ++ lb) W fun e W' => (∃ v, e = .returned v) ∧ ((∃ xs, S xs ∧ J xs W') ∨ (∃ pre, Jx pre W'))
def lowPost (B : Nat) (Kp : World → World → Prop) (I Ix : World → Prop) (W : World) : Exit → Act → World → Prop
 | .normal, _, W' => KeepsFrom B W W' ∧ Kp W W' ∧ I W'
 | .ret, _, W' => KeepsFrom B W W' ∧ Ix W'
 | _, _, _ => False
theorem ZS {α : Type} {g : Operand} {ps : Array Tmp} {assign body : Code} {Q : Exit → Act → World → Prop} {a : Act} {w : World}
  (hro : F.round = none) (h1 : 1 ≤ n) {gf : Nat} {lb : Array Value} (hg : a.eval g = .func (.func gf) #[] lb) (hFg : F.fn gf) (eg : ∀ args w, (callFunc gf args).run P w = .ok (.enter gf args) w)
  {encs : α → Array Value} (hps : ∀ x, (encs x).size = ps.size) {Kp : World → World → Prop} {S : List α → Prop} {N : Nat} (hseq : UC F (n - 1) P gf lb encs Kp S N w)
  (hKt : ∀ {A B C : World}, Kp A B → Kp B C → Kp A C) (hKb : ∀ (W : World) (l : Nat) (o o' : Obj), w.heap.size ≤ l → W.heap[l]? = some o → o.isCells = false → Kp W (W.putObj l o'))
  (I : List α → World → Prop) (hI : ∀ pre X Y, I pre X → Below w.heap.size X Y → Stay X Y → I pre Y) (Ix : List α → World → Prop) (hIx : ∀ pre X Y, Ix pre X → Below w.heap.size X Y → Ix pre Y) (h0 : I [] w)
  (Ax : α → Act → World → Prop) (hAx : ∀ x a', OwnFrom w.heap.size (fun (_ : Unit) W => Ax x a' W))
  (hassign : ∀ (l : Nat) (pre : List α) (x : α) (W : World) (K : Act → World → Prop), I pre W → (∀ a' W', KeepsFrom w.heap.size W W' → Kp W W' → I pre W' → Ax x a' W' → K a' W') →
   assign.wpIn (F.inRound l) (n - 1 - 1) P (Exit.then K (fun _ _ _ => False)) { tmps := (ps.zip (encs x)).foldl (fun t (p, v) => t.setIfInBounds p v) a.tmps, defers := [] } W)
  (hbody : ∀ (l : Nat) (pre : List α) (x : α) (a' : Act) (W : World), w.heap.size ≤ l → I pre W → Ax x a' W → pre.length < N → body.wpIn (F.inRound l) (n - 1 - 1) P (lowPost w.heap.size Kp (I (pre ++ [x])) (Ix (pre ++ [x])) W) a' W)
  (hdone : ∀ (D : Nat) (xs : List α) (W : World), w.heap.size ≤ D → S xs → I xs W → W.heap[D]? = some (.deferred (some [])) → Q .normal { a with defers := { target := .collected D, args := #[] } :: a.defers } W)
  (hstop : ∀ (D : Nat) (pre : List α) (W : World), w.heap.size ≤ D → Ix pre W → W.heap[D]? = some (.deferred (some [])) → Code.ret.wpIn F n P Q { a with defers := { target := .collected D, args := #[] } :: a.defers } W) :
  (Code.rangeFunc g ps assign body).wpIn F n P Q a w := by
 refine wpIn_rangeFunc fun fn hfn => ?_
 rw [hro]
 obtain ⟨R, hR⟩ : ∃ R : LoopState → Option Code → Loop, R = fun st p => { state := st, pending := p, fn, tmps := a.tmps, params := ps, assign, body, defers := w.heap.size } := ⟨_, rfl⟩
 obtain ⟨W1, hW1⟩ : ∃ W1, (w.alloc (.deferred (some []))).alloc (.loop (R .ready none)) = W1 := ⟨_, rfl⟩
 have s1 : W1.heap.size = w.heap.size + 2 := by rw [← hW1]; simp
 have bw : Below w.heap.size w W1 := by rw [← hW1]; exact ((Below.refl _ w).alloc (Nat.le_refl _) _).alloc (by simp) _
 have kL : W1.heap[w.heap.size + 1]? = some (.loop (R .ready none)) := by
  rw [← hW1]; have := World.alloc_heap_new (w.alloc (.deferred (some []))) (.loop (R .ready none)); rwa [World.size_alloc] at this
 have kD : W1.heap[w.heap.size]? = some (.deferred (some [])) := by rw [← hW1]; exact Qj (heap_alloc_new w _) _
 have i1 : I [] W1 := hI _ _ _ h0 bw (KeptC.below bw)
 refine ⟨w.heap.size + 1, [{ target := .collected w.heap.size, args := #[] }], W1, { target := .fn (.func gf) lb, args := #[.func (.yield (w.heap.size + 1)) #[] #[]] }, W1, gf, #[.func (.yield (w.heap.size + 1)) #[] #[]] ++ lb, W1, ?_, ?_, ?_, ?_, fun _ => h1, ?_⟩
 ·rw [← hW1, hR]; exact run_enterLoop_outer _ _ _ _ _
 ·simp only [resolve, hg]; simp [go_sem]
 ·intro f' hf'; simp [Target.leads] at hf'; subst hf'; exact hFg
 ·simp [invoke, go_sem, eg]
 have low : ∀ {X Y : World} {k : Nat} {o : Obj}, k < W1.heap.size → Below W1.heap.size X Y → X.heap[k]? = some o → Y.heap[k]? = some o := fun hk hb hx => (hb.block _ hk).trans hx
 refine (hseq (w.heap.size + 1) (fun pre W => I pre W ∧ W.heap[w.heap.size + 1]? = some (.loop (R .ready none)) ∧ W.heap[w.heap.size]? = some (.deferred (some [])))
  (fun pre W => Ix pre W ∧ W.heap[w.heap.size + 1]? = some (.loop (R .done (some .ret))) ∧ W.heap[w.heap.size]? = some (.deferred (some []))) W1 bw ?_ ?_ ?_ ⟨i1, kL, kD⟩).mono ?_
 ·rintro pre X Y ⟨x1, x2, x3⟩ hk hst
  exact ⟨hI _ _ _ x1 (hk.mono (by omega)) hst, low (by omega) hk x2, low (by omega) hk x3⟩
 ·rintro pre X Y ⟨x1, x2, x3⟩ hk
  exact ⟨hIx _ _ _ x1 (hk.mono (by omega)), low (by omega) hk x2, low (by omega) hk x3⟩
 ·rintro pre x W ⟨x1, x2, x3⟩ hlen
  have hy := run_yield (P := P) (args := encs x) x2 (by rw [hR]; exact hps x)
  rw [hR] at hy
  refine ⟨fn, _, assign, body, hy, roundIn_of_wpIn hfn (hassign _ pre x W _ x1 fun a' V hf hp hi hax => ?_)⟩
  have v2 := hf.same _ _ (by omega) x2 rfl
  have v3 := hf.same _ _ (Nat.le_refl _) x3 rfl
  have hlt := Qd v2
  refine ⟨_, run_beginRound v2 (by rw [hR]), ?_⟩
  have u2 : (V.putObj (w.heap.size + 1) (.loop { R .ready none with state := .busy })).heap[w.heap.size + 1]? = some (.loop { R .ready none with state := .busy }) := World.putObj_heap_same hlt
  have u3 : (V.putObj (w.heap.size + 1) (.loop { R .ready none with state := .busy })).heap[w.heap.size]? = some (.deferred (some [])) := (World.putObj_heap_other (by omega)).trans v3
  have p2 : Kp V (V.putObj (w.heap.size + 1) (.loop { R .ready none with state := .busy })) := hKb _ _ _ _ (by omega) v2 rfl
  refine wpIn_mono (hbody _ pre x a' _ (by omega) (hI _ _ _ hi (Q7 (by omega)) (KeptC.put v2 rfl)) ((hAx x a').putObj (s := ()) _ hax (by omega) v2 rfl) hlen) ?_
  rintro e a3 V3 hpo
  match e, hpo with
  | .normal, ⟨hf3, hp3, hi3⟩ =>
   have t2 := hf3.same _ _ (by omega) u2 rfl
   have t3 := hf3.same _ _ (Nat.le_refl _) u3 rfl
   have hend := run_endRound (P := P) none t2
   rw [hR] at hend
   refine ⟨_, _, hend, .inl ⟨rfl, ⟨hI _ _ _ hi3 (Q7 (by omega)) (KeptC.put t2 rfl), ?_, (World.putObj_heap_other (by omega)).trans t3⟩, hKt hp (hKt (hKt p2 hp3) (hKb _ _ _ _ (by omega) t2 rfl)), (hf.up (by omega)).trans ((QZ (by omega)).trans ((hf3.up (by omega)).trans (QZ (by omega))))⟩⟩
   rw [hR]; exact World.putObj_heap_same (Qd t2)
  | .ret, ⟨hf3, hi3⟩ =>
   have t2 := hf3.same _ _ (by omega) u2 rfl
   have t3 := hf3.same _ _ (Nat.le_refl _) u3 rfl
   have hend := run_endRound (P := P) (some .ret) t2
   rw [hR] at hend
   refine ⟨_, _, hend, .inr ⟨rfl, ⟨hIx _ _ _ hi3 (Q7 (by omega)), ?_, (World.putObj_heap_other (by omega)).trans t3⟩, (hf.up (by omega)).trans ((QZ (by omega)).trans ((hf3.up (by omega)).trans (QZ (by omega))))⟩⟩
   rw [hR]; exact World.putObj_heap_same (Qd t2)
 ·rintro e W2 ⟨⟨v, rfl⟩, ⟨xs, hS, x1, x2, x3⟩ | ⟨pre, x1, x2, x3⟩⟩
  ·exact ⟨none, _, by have := run_endLoop (P := P) x2 (by rw [hR]; simp); rw [hR] at this; exact this, hdone _ xs _ (Nat.le_refl _) hS (hI _ _ _ x1 (Q7 (by omega)) (KeptC.put x2 rfl)) ((World.putObj_heap_other (by omega)).trans x3)⟩
  ·exact ⟨some .ret, _, by have := run_endLoop (P := P) x2 (by rw [hR]; simp); rw [hR] at this; exact this, hstop _ pre _ (Nat.le_refl _) (hIx _ _ _ x1 (Q7 (by omega))) ((World.putObj_heap_other (by omega)).trans x3)⟩
end Go.Proofs.YtajijcfikihhjaaGreatDoor
