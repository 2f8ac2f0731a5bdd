import Derived.Test.YtajijcfikihhjaaGreatDoorAAF
import Derived.Shelf.Slices.Empties
import Derived.Shelf.Slices.Cells
import Derived.Shelf.Spec.SlicesInsertGrow
import Derived.Test.YtajijcfikihhjaaGreatDoorRows
set_option linter.unusedSimpArgs false
set_option linter.unusedVariables false
set_option maxRecDepth 100000
set_option maxHeartbeats 16000000
namespace Go.Proofs.YtajijcfikihhjaaGreatDoor
open Go.RowKit Go.Sort Go.Shelf
theorem do1_any (s bs bx : Nat) (x : De) (r : Rm) (q : Fp) (oa : Option Addr) (oc : Nat) (wa : Option Addr) (wc : Nat) (l : List (Wk × Wp)) (w0 w : World) (hw : WsAt w0 wa l) (hB : Below w0.heap.size w0 w) (hl : l.length ≤ 1000) (hfew : ∀ y ∈ l, FoFew y.1.f) (h : StAt w s r q oa oc (.slice wa l.length wc)) (h1 : w.heap[bs]? = some (.cells #[.pointer (some ⟨s, 0, none⟩)] 174)) (h2 : w.heap[bx]? = some (.cells #[.int .i64 x.num, .int .i64 x.time, .int .i64 x.kind, .int .i64 x.a, .int .i64 x.b, .int .i64 x.c] 207)) :
  Calls Tryz.prog 160 #[.pointer (some ⟨bs, 0, none⟩), .pointer (some ⟨bx, 0, none⟩)] w (YE (verR (Qk l) r x) s (.slice wa l.length wc) w) := by
 have HV := Qa (version_any s x r q oa oc wa wc l w0 w hw hB hl hfew h)
 have hc := Qb h1; have hd := Qb h2
 clear hw hB hfew h h1 h2
 go_enter Tryz.func160, Tryz.ntmps160
 go_wp2_with (go_at_call 161; refine HV.out.mono ?_; rintro e w2 ⟨rfl, q2, oa2, oc2, hs2, hk2⟩)
 go_ret
 exact ⟨rfl, q2, oa2, oc2, hs2, hk2⟩
theorem do4_any (s bs bx : Nat) (x : De) (r : Rm) (q : Fp) (oa : Option Addr) (oc : Nat) (wv : Value) (w : World) (hf : FoFew r.f) (hs : StAt w s r q oa oc wv) (h1 : w.heap[bs]? = some (.cells #[.pointer (some ⟨s, 0, none⟩)] 174)) (h2 : w.heap[bx]? = some (.cells #[.int .i64 x.num, .int .i64 x.time, .int .i64 x.kind, .int .i64 x.a, .int .i64 x.b, .int .i64 x.c] 207)) (hne1 : bs ≠ s) (hne2 : bx ≠ s) :
  Calls Tryz.prog 167 #[.pointer (some ⟨bx, 0, none⟩), .pointer (some ⟨bs, 0, none⟩)] w (YE (if x.c ≠ 0 then (r, 1) else reform r (QW r.f x.a x.b)) s wv w) := by
 have HS := Qa hs; have H1 := Qa h1; have H2 := Qa h2
 have hsl := Qd hs.box
 have HC := Qa (fun V (hV : Below w.heap.size w V) => rTimes_any r.f q x.a x.b V hf (hs.form.below hV))
 have hd := Qb h2
 clear hs h1 h2 hf
 go_enter Tryz.func167, Tryz.ntmps167
 by_cases hc0 : ¬ x.c = 0
 ·rw [if_pos hc0]
  go_wp2
  go_ret
  exact ⟨rfl, q, oa, oc, HS.out, KeepB.refl _ _ _⟩
 have hc0 : x.c = 0 := by omega
 rw [if_neg (by omega)]
 go_upto_region 3 with (fail)
 clear hd
 refine wp_region_held_drew (S := fun w' => w'.heap[bs]? = some (.cells #[.pointer (some ⟨s, 0, none⟩)] 174) ∧ w'.heap[bx]? = some (.cells #[.int .i64 x.num, .int .i64 x.time, .int .i64 x.kind, .int .i64 x.a, .int .i64 x.b, .int .i64 x.c] 207)) (by kernel_rfl) ⟨H1.out, H2.out⟩ (fun hHeld => ?_)
 (refine tq 0 ?_ (y := fun _ hSw => by have hx := Qb hSw.1; have hy := Qb hSw.2; go_simp; try rfl))
 (refine tq 1 ?_ (y := fun _ hSw => by have hx := Qb hSw.1; have hy := Qb hSw.2; go_simp; try rfl))
 (refine tq 2 ?_ (y := fun _ hSw => by have hx := Qb hSw.1; have hy := Qb hSw.2; go_simp; try rfl))
 (refine tq 3 ?_ (y := fun _ hSw => by have hx := Qb hSw.1; have hy := Qb hSw.2; go_simp; try rfl))
 (refine tq 4 ?_ (y := fun _ hSw => by have hx := Qb hSw.1; have hy := Qb hSw.2; go_simp; try rfl))
 (refine tq 6 ?_ (y := fun _ hSw => by have hx := Qb hSw.1; have hy := Qb hSw.2; go_simp; try rfl))
 (refine tq 7 ?_ (y := fun _ hSw => by have hx := Qb hSw.1; have hy := Qb hSw.2; go_simp; try rfl))
 (refine tq 8 ?_ (y := fun _ hSw => by have hx := Qb hSw.1; have hy := Qb hSw.2; go_simp; try rfl))
 (refine tq 9 ?_ (y := fun _ hSw => by have hx := Qb hSw.1; have hy := Qb hSw.2; go_simp; try rfl))
 have hcs := Qb (show w.drew.heap[s]? = _ from HS.out.box)
 (refine tc 5 (fun K hK => ?_); go_simp)
 refine hK.out _ _ ⟨H1.out, H2.out⟩ (fun hHeld1 => ?_)
 clear hK K hHeld
 (refine tc 10 (fun K hK => ?_); go_simp)
 refine (HC.out _ (Below.refl _ _).drew).mono ?_; rintro e w2 ⟨q2, rfl, hf2, hb2, hn2⟩
 have HB2 := Qa (show Below w.heap.size w w2 from ((Below.refl _ _).drew).trans (hb2.mono (by simp)))
 have HS2 := Qa (HS.out.below HB2.out)
 have hne := FpNew.low hn2 (show s + 1 ≤ _ by simp; omega)
 go_simp
 refine hK.out _ _ ⟨Qc H1.out HB2.out, Qc H2.out HB2.out⟩ (fun hHeld2 => ?_)
 clear hK K hHeld1 hcs
 (refine tq 11 ?_ (y := fun _ hSw => by go_simp; try rfl))
 (refine tq 12 ?_ (y := fun _ hSw => by go_simp; try rfl))
 (refine tc 13 (fun K hK => ?_); go_simp)
 refine (Jb s r q oa oc wv _ q2 _ w2 HS2.out hf2 hne).mono ?_; rintro e w3 ⟨rfl, q3, oa3, oc3, hs3, hk3⟩
 go_simp
 refine hK.out _ _ ⟨(hk3.block _ (Qd hHeld2.1) (by simpa using hne1)).trans hHeld2.1, (hk3.block _ (Qd hHeld2.2) (by simpa using hne2)).trans hHeld2.2⟩ (fun hHeld3 => ?_)
 clear hK K hHeld2
 (refine tq 14 ?_ (y := fun _ hSw => by go_simp; try rfl))
 refine wpAnyH_done (by kernel_rfl) ?_ _
 go_wp2
 go_ret
 exact ⟨rfl, q3, oa3, oc3, hs3, KeepB.trans (KeepB.of_below' HB2.out) (hk3.weaken HB2.out.size (fun k hk _ => hk))⟩
open Go.Shelf
def Lay.searchI_ren : Go.Shelf.Ren := ⟨fun | 25 => 214 | 31 => 203 | 32 => 230 | 37 => 229 | n => n, fun | 22 => 37 | 3 => 3 | 4 => 4 | 40 => 146 | 0 => 0 | n => n, fun | n => n⟩
theorem Lay.searchI : Go.Proofs.Lays2.n25 Tryz.prog Lay.searchI_ren := {
 mixed := by kernel_rfl
 f25 := Tryz.func214.trans (congrArg some (by kernel_rfl))
 f31 := Tryz.func203.trans (congrArg some (by kernel_rfl))
 f32 := Tryz.func230.trans (congrArg some (by kernel_rfl))
 f37 := Tryz.func229.trans (congrArg some (by kernel_rfl))
 t0 := Tryz.underlying0
 a0 := Tryz.isAgg0
 z0 := Tryz.sizeOf0
 v0 := Tryz.zeroValue0
 t3 := Tryz.underlying3
 a3 := Tryz.isAgg3
 z3 := Tryz.sizeOf3
 v3 := Tryz.zeroValue3
 t4 := Tryz.underlying4
 a4 := Tryz.isAgg4
 z4 := Tryz.sizeOf4
 v4 := Tryz.zeroValue4
 t22 := Tryz.underlying37
 a22 := Tryz.isAgg37
 z22 := Tryz.sizeOf37
 v22 := Tryz.zeroValue37
 t40 := Tryz.underlying146
 a40 := Tryz.isAgg146
 z40 := Tryz.sizeOf146
 v40 := Tryz.zeroValue146 }
def Lay.deleteI_ren : Go.Shelf.Ren := ⟨fun | 23 => 215 | n => n, fun | 22 => 37 | 3 => 3 | 4 => 4 | 0 => 0 | n => n, fun | n => n⟩
theorem Lay.deleteI : Go.Proofs.Lays2.n23 Tryz.prog Lay.deleteI_ren := {
 mixed := by kernel_rfl
 f23 := Tryz.func215.trans (congrArg some (by kernel_rfl))
 t0 := Tryz.underlying0
 a0 := Tryz.isAgg0
 z0 := Tryz.sizeOf0
 v0 := Tryz.zeroValue0
 t3 := Tryz.underlying3
 a3 := Tryz.isAgg3
 z3 := Tryz.sizeOf3
 v3 := Tryz.zeroValue3
 t4 := Tryz.underlying4
 a4 := Tryz.isAgg4
 z4 := Tryz.sizeOf4
 v4 := Tryz.zeroValue4
 t22 := Tryz.underlying37
 a22 := Tryz.isAgg37
 z22 := Tryz.sizeOf37
 v22 := Tryz.zeroValue37
 i3 := by kernel_rfl }
def Lay.insertI_ren : Go.Shelf.Ren := ⟨fun | 21 => 217 | 27 => 231 | 28 => 232 | 35 => 242 | 39 => 247 | n => n, fun | 22 => 37 | 3 => 3 | 4 => 4 | 0 => 0 | n => n, fun | n => n⟩
theorem Lay.insertI : Go.Proofs.Lays2.n21 Tryz.prog Lay.insertI_ren := {
 mixed := by kernel_rfl
 f21 := Tryz.func217.trans (congrArg some (by kernel_rfl))
 f27 := Tryz.func231.trans (congrArg some (by kernel_rfl))
 f28 := Tryz.func232.trans (congrArg some (by kernel_rfl))
 f35 := Tryz.func242.trans (congrArg some (by kernel_rfl))
 f39 := Tryz.func247.trans (congrArg some (by kernel_rfl))
 t0 := Tryz.underlying0
 a0 := Tryz.isAgg0
 z0 := Tryz.sizeOf0
 v0 := Tryz.zeroValue0
 t3 := Tryz.underlying3
 a3 := Tryz.isAgg3
 z3 := Tryz.sizeOf3
 v3 := Tryz.zeroValue3
 t4 := Tryz.underlying4
 a4 := Tryz.isAgg4
 z4 := Tryz.sizeOf4
 v4 := Tryz.zeroValue4
 t22 := Tryz.underlying37
 a22 := Tryz.isAgg37
 z22 := Tryz.sizeOf37
 v22 := Tryz.zeroValue37
 i3 := by kernel_rfl }
theorem count_zero {a : Int} {l : List Int} (h : ∀ y ∈ l, ¬ y < a) : l.countP (fun y => decide (y < a)) = 0 := by
 rw [List.countP_eq_zero]; exact fun y hy => by simpa using h y hy
theorem Um {a : Int} : ∀ {l : List Int}, l.Pairwise (· < ·) → l.takeWhile (fun y => decide (y < a)) = l.take (l.countP (fun y => decide (y < a))) ∧ l.dropWhile (fun y => decide (y < a)) = l.drop (l.countP (fun y => decide (y < a)))
 | [], _ => ⟨rfl, rfl⟩
 | y :: l, h => by
  obtain ⟨h1, h2⟩ := List.pairwise_cons.1 h
  by_cases hy : y < a
  ·obtain ⟨i1, i2⟩ := Um (a := a) h2
   rw [List.takeWhile_cons_of_pos (by simpa using hy), List.dropWhile_cons_of_pos (by simpa using hy), List.countP_cons_of_pos (by simpa using hy), i1, i2]
   exact ⟨rfl, rfl⟩
  ·rw [List.takeWhile_cons_of_neg (by simpa using hy), List.dropWhile_cons_of_neg (by simpa using hy), List.countP_cons_of_neg (by simpa using hy), count_zero (fun z hz => by have := h1 z hz; omega)]
   exact ⟨rfl, rfl⟩
theorem ins_at {a : Int} {l : List Int} (h : l.Pairwise (· < ·)) : insI a l = l.take (l.countP (fun y => decide (y < a))) ++ a :: l.drop (l.countP (fun y => decide (y < a))) := by
 unfold insI; rw [(Um h).1, (Um h).2]
theorem del_at {a : Int} : ∀ {l : List Int}, l.Pairwise (· < ·) → a ∈ l → l.countP (fun y => decide (y < a)) < l.length ∧ l.filter (fun y => decide (y ≠ a)) = l.take (l.countP (fun y => decide (y < a))) ++ l.drop (l.countP (fun y => decide (y < a)) + 1)
 | [], _, h => by cases h
 | y :: l, h, hm => by
  obtain ⟨h1, h2⟩ := List.pairwise_cons.1 h
  by_cases hy : y = a
  ·subst hy
   have e : l.filter (fun z => decide (z ≠ y)) = l := List.filter_eq_self.2 fun z hz => by have := h1 z hz; simp; omega
   rw [List.countP_cons_of_neg (by simp), count_zero (fun z hz => by have := h1 z hz; omega), List.filter_cons_of_neg (by simp), e]
   exact ⟨by simp, rfl⟩
  ·have hm' : a ∈ l := by simpa [Ne.symm hy] using hm
   have hya : y < a := h1 a hm'
   obtain ⟨i1, i2⟩ := del_at (a := a) h2 hm'
   rw [List.countP_cons_of_pos (by simpa using hya), List.filter_cons_of_pos (by simpa using hy), i2]
   exact ⟨by simp only [List.length_cons]; omega, rfl⟩
theorem YA {w : World} {g : Nat} {l : List Int} (hg : g < w.heap.size) (h : ∀ j (hj : j < l.length), w.cell? ⟨g, j, none⟩ = some (.int .i64 l[j])) : InAt w (some ⟨g, 0, none⟩) l := fun i r hr => by
 rw [List.getElem?_map] at hr
 cases e : l[i]? with
 | none => rw [e] at hr; cases hr
 | some y =>
  rw [e] at hr
  cases hr
  obtain ⟨hi, hy⟩ := List.getElem?_eq_some_iff.1 e
  refine ⟨g, 0, rfl, hg, rfl, fun j v hv => ?_⟩
  cases j with
  | zero =>
   simp only [inRow, List.getElem?_cons_zero, Option.some.injEq] at hv
   subst hv
   rw [show 0 + i * 1 + 0 = i by omega, h i hi, hy]
  | succ j => simp [inRow] at hv
theorem eltInD : Elt Tryz.prog 37 3 1 8 inRow := ⟨Tryz.underlying37, ⟨.int .i64 0, by kernel_rfl, rfl⟩, by decide, by decide, fun _ => rfl, fun x u hu => by simp [inRow] at hu; subst hu; rfl⟩
theorem nil_someI (ad : Addr) (n cap : Nat) (w : World) : (binOp BinOp.eql 37 (.slice (some ad) n cap) (.slice none 0 0)).run Tryz.prog w = .ok (.bool false) w := by kernel_rfl
theorem nil_noneI (w : World) : (binOp BinOp.eql 37 (.slice none 0 0) (.slice none 0 0)).run Tryz.prog w = .ok (.bool true) w := by kernel_rfl
theorem Yj (a : Option Addr) (cap : Nat) (l : List Int) (w : World) (hl : l.length ≤ 100000) (hk : SlOk a l.length cap) (hr : InAt w a l) :
  Calls Tryz.prog 216 #[.slice a l.length cap] w fun e w' => ∃ v, e = .returned v ∧ OwnR w' w.heap.size 3 1 v (l.map inRow) ∧ RowKit.Below w.heap.size w w' := by
 cases a with
 | none =>
  obtain rfl : l = [] := by have := YS hr; simpa using this
  obtain rfl : cap = 0 := hk.none rfl
  have hq := nil_noneI w
  go_enter Tryz.func216, Tryz.ntmps216
  go_wp2
  go_ret
  exact ⟨_, rfl, OwnR.nil _ _ _ _, RowKit.Below.refl _ _⟩
 | some ad =>
  have HR := Qa hr; clear hr hk
  have hq := nil_someI ad l.length cap w
  go_enter Tryz.func216, Tryz.ntmps216
  go_wp2_with (at_builtin; refine appE eltInD rfl (.tmp 5) (.tmp 6) rfl w.heap.size _ [] rfl (ZE _ _ _ _ (Nat.le_refl _)) _ _ _ l rfl rfl (fun e => by cases e) (SlAt.alloc HR.out _) (by simp; omega) (by simp) ?_; intro v2 w2 ho2 hg2; have HO2 := Qa ho2; have HB2 := Qa (Zy ((RowKit.Below.refl w.heap.size w).alloc (Nat.le_refl _) _) (ZE _ w.heap.size 3 1 (Nat.le_refl _)) (by simp) hg2); clear ho2 hg2)
  go_ret
  exact ⟨_, rfl, HO2.out, HB2.out⟩
theorem QT {B g : Nat} (hg : B ≤ g) {w : World} : ∀ (vs : List Value) (o : Nat) {W : World}, Below B w W → Below B w (W.setCells g o vs)
 | [], _, _, h => h
 | v :: vs, o, W, h => QT hg vs (o + 1) (h.setCell (p := ⟨g, o, none⟩) hg v)
def InsPost (B : Nat) (l : List Int) (i : Nat) (x : Int) (w : World) (e : Ending) (w' : World) : Prop :=
 ∃ a c, e = .returned (.slice a (l.length + 1) c) ∧ SlOk a (l.length + 1) c ∧ InAt w' a (l.take i ++ x :: l.drop i) ∧ (∀ ad, a = some ad → B ≤ ad.block) ∧ Below B w w'
theorem ZQ {g n c : Nat} (h : n ≤ c) : SlOk (some ⟨g, 0, none⟩) n c := ⟨h, fun e => (by cases e), fun ad e _ => (by cases e; rfl)⟩
theorem Jz (l : List Int) (i : Nat) (x : Int) (hi : i ≤ l.length) : (l.take i ++ x :: l.drop i).length = l.length + 1 := by simp; omega
theorem JV (l : List Int) (i : Nat) (x : Int) (hi : i ≤ l.length) (j : Nat) (hj : j < (l.take i ++ x :: l.drop i).length) : (l.take i ++ x :: l.drop i)[j] = if h : j < i then l[j]'(by omega) else if h2 : j = i then x else l[j - 1]'(by rw [Jz l i x hi] at hj; omega) := by
 by_cases h1 : j < i
 ·rw [dif_pos h1, List.getElem_append_left (by simp; omega), List.getElem_take]
 ·rw [dif_neg h1, List.getElem_append_right (by simp; omega)]
  simp only [List.length_take, Nat.min_eq_left hi]
  by_cases h2 : j = i
  ·subst h2; simp
  ·rw [dif_neg h2]
   obtain ⟨k, hk⟩ : ∃ k, j - i = k + 1 := ⟨j - i - 1, by omega⟩
   simp only [hk, List.getElem_cons_succ, List.getElem_drop]
   congr 1; omega
theorem JJ (l : List Int) : (l.map inRow).flatten = l.map (Value.int .i64) := by
 induction l with
 | nil => rfl
 | cons y l ih => simp [inRow, ih]
theorem ints_one (l : List Int) : ∀ v ∈ l.map (Value.int .i64), v.oneCell' = true := fun v hv => by obtain ⟨y, _, rfl⟩ := List.mem_map.1 hv; rfl
theorem YD (B i vb : Nat) (v : Value) (l : List Int) (x : Int) (w : World) (hl : l.length ≤ 1000) (hi : i ≤ l.length) (ho : OwnR w B 3 1 v (l.map inRow)) (hB : B ≤ w.heap.size) (hv : w.heap[vb]? = some (.cells #[.int .i64 x] 3)) (hne : v.ownBlock ≠ some vb) :
  Calls Tryz.prog 217 #[v, .int .i64 (i : Int), .slice (some ⟨vb, 0, none⟩) 1 1] w (InsPost B l i x w) := by
 obtain ⟨_, _, ⟨rfl, hn0⟩ | ⟨g, cap, cur, rfl, hg, hc, hcap, hmax, hsz, htk⟩⟩ := ho
 ·obtain rfl : l = [] := by simpa using hn0
  obtain rfl : i = 0 := by simpa using hi
  have hv0 := Qb hv
  refine (Any2.slices_Insert_int_end_grow Lay.insertI none 0 0 vb 0 1 1 [] [.int .i64 x] w (by omega) (by omega) (by omega) (by omega) rfl rfl (fun _ => rfl) (fun a h => by cases h) (fun j u hu => by
   cases j with
   | zero => simp only [List.getElem?_cons_zero, Option.some.injEq] at hu; subst hu; rw [hv0]; rfl
   | succ j => simp at hu) (fun u hu => by simp at hu; subst hu; rfl)).mono ?_
  rintro e w' ⟨rfl, rfl⟩
  have hk : (w.drew.alloc (.cells (([] ++ [Value.int .i64 x]).toArray ++ Builtin.zeroCells (Value.int .i64 0).cells (grownCap w 1 0 3 - 1)) 3)).heap[w.heap.size]? = some (.cells (([] ++ [Value.int .i64 x]).toArray ++ Builtin.zeroCells (Value.int .i64 0).cells (grownCap w 1 0 3 - 1)) 3 (0, 0)) := heap_alloc_new w.drew _
  refine ⟨_, _, rfl, ZQ (by show 1 ≤ grownCap w 1 0 3; exact grownCap_ge _ _ _ _), YA (by simp) (fun j hj => ?_), fun ad e => (by cases e; exact hB), ((Below.refl B w).drew).alloc hB _⟩
  have : j = 0 := by simp at hj; omega
  subst this
  exact (Qb hk 0).trans (by rw [Array.getElem?_append_left (by simp)]; rfl)
 ·rw [List.length_map] at hcap htk
  rw [JJ, Nat.mul_one] at htk
  rw [List.length_map]
  rw [Nat.mul_one] at hsz
  have hcell : ∀ j (hj : j < l.length), w.cell? ⟨g, j, none⟩ = some (.int .i64 l[j]) := fun j hj => by
   rw [Qb hc, ← Array.getElem?_toList]
   have h1 : (cur.toList.take l.length)[j]? = some (.int .i64 l[j]) := by rw [htk]; simp [hj]
   rw [List.getElem?_take] at h1
   simpa [hj] using h1
  have hcs : ∀ j v, (l.map (Value.int .i64))[j]? = some v → w.cell? ⟨g, 0 + j, none⟩ = some v := fun j v h => by
   rw [List.getElem?_map] at h
   cases e : l[j]? with
   | none => rw [e] at h; cases h
   | some y =>
    rw [e] at h
    cases h
    obtain ⟨hj, hy⟩ := List.getElem?_eq_some_iff.1 e
    rw [Nat.zero_add, hcell j hj, hy]
  have hfz : ∀ j, w.frozen? ⟨g, j, none⟩ = false := Qe hc
  have hgl := Qd hc
  have hvl := Qd hv
  have hin : ∀ j, j < cap → (w.cell? ⟨g, j, none⟩).isSome = true := fun j hj => by
   rw [Qb hc, Array.getElem?_eq_getElem (by omega)]; rfl
  have hv0 := Qb hv
  have hvs : ∀ j u, [Value.int .i64 x][j]? = some u → w.cell? ⟨vb, 0 + j, none⟩ = some u := fun j u hu => by
   cases j with
   | zero => simp only [List.getElem?_cons_zero, Option.some.injEq] at hu; subst hu; rw [hv0]; rfl
   | succ j => simp at hu
  have h1v : ∀ u ∈ [Value.int .i64 x], u.oneCell' = true := fun u hu => by simp at hu; subst hu; rfl
  have hgv : g ≠ vb := fun e => hne (by rw [e]; rfl)
  have hmx : cap ≤ 9223372036854775807 := by unfold maxLen at hmax; omega
  by_cases hin2 : i = l.length
  ·subst hin2
   by_cases hroom : l.length + 1 ≤ cap
   ·refine (Any2.slices_Insert_int_end_room Lay.insertI g 0 l.length cap vb 0 1 1 [.int .i64 x] w (by omega) hroom hmx rfl (fun j hj => hin _ (by omega)) (fun j hj => hfz _) hvs h1v).mono ?_
    rintro e w' ⟨rfl, rfl⟩
    refine ⟨_, _, rfl, ZQ hroom, YA (by rw [QM]; exact hgl) (fun j hj => ?_), fun ad e => (by cases e; exact hg), QT hg _ _ (Below.refl _ _)⟩
    rw [JV _ _ _ (Nat.le_refl _)]
    rw [Jz _ _ _ (Nat.le_refl _)] at hj
    by_cases h1 : j < l.length
    ·rw [dif_pos h1, World.cell?_setCells_out _ _ _ _ _ (fun _ _ => .inl (by show j < 0 + l.length; omega))]
     exact hcell j h1
    ·obtain rfl : j = l.length := by omega
     rw [dif_neg h1, dif_pos rfl]
     have := World.cell?_setCells_in g [Value.int .i64 x] (0 + l.length) w (fun j hj => hin _ (by simp at hj; omega)) 0 (by simp)
     simpa using this
   ·refine (Any2.slices_Insert_int_end_grow Lay.insertI (some ⟨g, 0, none⟩) l.length cap vb 0 1 1 (l.map (Value.int .i64)) [.int .i64 x] w (by omega) hcap (by omega) (by omega) (by simp) rfl (fun e => by cases e) (fun a ha j u hu => by cases ha; rw [Addr.add_lit]; exact hcs j u hu) hvs h1v).mono ?_
    rintro e w' ⟨rfl, rfl⟩
    obtain ⟨C, hC⟩ : ∃ C, grownCap w (l.length + 1) cap (Lay.insertI_ren.t 3) = C := ⟨_, rfl⟩
    have hCge : l.length + 1 ≤ C := by rw [← hC]; exact grownCap_ge _ _ _ _
    rw [hC]
    have hk := heap_alloc_new w.drew (.cells ((l.map (Value.int .i64) ++ [Value.int .i64 x]).toArray ++ Builtin.zeroCells (Value.int .i64 0).cells (C - (l.length + 1))) 3)
    refine ⟨_, _, rfl, ZQ hCge, YA (by simp) (fun j hj => ?_), fun ad e => (by cases e; exact hB), ((Below.refl B w).drew).alloc hB _⟩
    rw [JV _ _ _ (Nat.le_refl _)]
    rw [Jz _ _ _ (Nat.le_refl _)] at hj
    refine (Qb hk j).trans ?_
    rw [Array.getElem?_append_left (by simp; omega), List.getElem?_toArray]
    by_cases h1 : j < l.length
    ·rw [dif_pos h1, List.getElem?_append_left (by simpa using h1)]; simp [h1]
    ·obtain rfl : j = l.length := by omega
     rw [dif_neg h1, dif_pos rfl, List.getElem?_append_right (by simp)]; simp
  ·have hlt : i < l.length := by omega
   have hcl : (l.map (Value.int .i64)).length = l.length := by simp
   have hdl : ((l.map (Value.int .i64)).drop i).length = l.length - i := by simp
   have hdg : ∀ j (hj : j < ((l.map (Value.int .i64)).drop i).length), ((l.map (Value.int .i64)).drop i)[j] = .int .i64 (l[i + j]'(by rw [hdl] at hj; omega)) := fun j hj => by simp
   by_cases hroom : l.length + 1 ≤ cap
   ·refine (Any2.slices_Insert_int_shift Lay.insertI g 0 l.length cap i vb 0 1 1 (l.map (Value.int .i64)) [.int .i64 x] w hlt (by omega) hroom hmx (Ne.symm hgv) hcl rfl hcs (fun j hj => hin _ (by omega)) (fun j hj => hfz _) hvs (ints_one l) h1v 3 3 1 cur.size (by simp [World.shape?, hv]) (by simp [World.shape?, hc]) (by omega) (Qe hv _) (Qe hv _)).mono ?_
    rintro e w' ⟨rfl, rfl⟩
    refine ⟨_, _, rfl, ZQ hroom, YA (by rw [QM, QM]; exact hgl) (fun j hj => ?_), fun ad e => (by cases e; exact hg), QT hg _ _ (QT hg _ _ (Below.refl B w).drew)⟩
    rw [JV _ _ _ hi]
    rw [Jz _ _ _ hi] at hj
    by_cases h1 : j < i
    ·rw [dif_pos h1, World.cell?_setCells_out _ _ _ _ _ (fun _ _ => .inl (by show j < 0 + i; omega)), World.cell?_setCells_out _ _ _ _ _ (fun _ _ => .inl (by show j < 0 + (i + 1); omega))]
     exact hcell j (by omega)
    ·rw [dif_neg h1]
     by_cases h2 : j = i
     ·subst h2
      rw [dif_pos rfl]
      have := World.cell?_setCells_in g [Value.int .i64 x] (0 + j) (w.drew.setCells g (0 + (j + 1)) ((l.map (Value.int .i64)).drop j)) (fun k hk => World.isSome_setCells _ _ _ _ _ (hin _ (by simp at hk; omega))) 0 (by simp)
      simpa using this
     ·rw [dif_neg h2, World.cell?_setCells_out _ _ _ _ _ (fun _ _ => .inr (by show 0 + i + 1 ≤ j; omega))]
      have := World.cell?_setCells_in g ((l.map (Value.int .i64)).drop i) (0 + (i + 1)) w.drew (fun k hk => hin _ (by rw [hdl] at hk; omega)) (j - (i + 1)) (by rw [hdl]; omega)
      rw [show 0 + (i + 1) + (j - (i + 1)) = j by omega, hdg] at this
      rw [this]
      congr 3; omega
   ·refine (Any2.slices_Insert_int_grow Lay.insertI g 0 l.length cap i vb 0 1 1 (l.map (Value.int .i64)) [.int .i64 x] w hlt (by omega) hcap (by omega) (by omega) hcl rfl hcs hvs (ints_one l) h1v).mono ?_
    rintro e w' ⟨rfl, rfl⟩
    obtain ⟨C, hC⟩ : ∃ C, grownCap w (l.length + 1) cap (Lay.insertI_ren.t 3) = C := ⟨_, rfl⟩
    have hCge : l.length + 1 ≤ C := by rw [← hC]; exact grownCap_ge _ _ _ _
    rw [hC]
    obtain ⟨cs0, hcs0⟩ : ∃ cs0, cs0 = ((l.map (Value.int .i64)).take i).toArray ++ Builtin.zeroCells (Value.int .i64 0).cells (l.length + 1 - i) ++ Builtin.zeroCells (Value.int .i64 0).cells (C - (l.length + 1)) := ⟨_, rfl⟩
    rw [← hcs0]
    have hk := heap_alloc_new w (.cells cs0 3)
    have hkc := Qb hk
    have hz : cs0.size = C := by
     have e1 : (Value.int .i64 0).cells.size = 1 := rfl
     rw [hcs0, Array.size_append, Array.size_append, size_zeroCells, size_zeroCells, e1, List.size_toArray, List.length_take, hcl]; omega
    have hb1 : Below B w (w.alloc (.cells cs0 3)) := (Below.refl B w).alloc hB _
    refine ⟨_, _, rfl, ZQ hCge, YA (by rw [QM]; show w.heap.size < (World.setCells _ _ _ _).heap.size; rw [QM]; simp) (fun j hj => ?_), fun ad e => (by cases e; exact hB), QT hB _ _ (QT hB _ _ hb1.drew).drew⟩
    rw [JV _ _ _ hi]
    rw [Jz _ _ _ hi] at hj
    have hin3 : ∀ k, k < C → ((w.alloc (.cells cs0 3)).drew.cell? ⟨w.heap.size, k, none⟩).isSome = true := fun k hk2 => by
     show ((w.alloc (.cells cs0 3)).cell? ⟨w.heap.size, k, none⟩).isSome = true
     rw [hkc, Array.getElem?_eq_getElem (by omega)]; rfl
    by_cases h1 : j < i
    ·rw [dif_pos h1, World.cell?_setCells_out _ _ _ _ _ (fun _ _ => .inl (by show j < i + 1; omega))]
     refine (World.cell?_setCells_out _ _ _ _ _ (fun _ _ => .inl (by show j < i; omega))).trans ?_
     refine (hkc j).trans ?_
     rw [hcs0, Array.append_assoc, Array.getElem?_append_left (by simp; omega)]
     simp [h1, show j < l.length by omega]
    ·rw [dif_neg h1]
     by_cases h2 : j = i
     ·subst h2
      rw [dif_pos rfl, World.cell?_setCells_out _ _ _ _ _ (fun _ _ => .inl (by show j < j + 1; omega))]
      have := World.cell?_setCells_in w.heap.size [Value.int .i64 x] j (w.alloc (.cells cs0 3)).drew (fun k hk2 => hin3 _ (by simp at hk2; omega)) 0 (by simp)
      exact this
     ·rw [dif_neg h2]
      have := World.cell?_setCells_in w.heap.size ((l.map (Value.int .i64)).drop i) (i + 1) ((w.alloc (.cells cs0 3)).drew.setCells w.heap.size i [Value.int .i64 x]).drew (fun k hk2 => World.isSome_setCells _ _ _ _ _ (hin3 _ (by rw [hdl] at hk2; omega))) (j - (i + 1)) (by rw [hdl]; omega)
      rw [show i + 1 + (j - (i + 1)) = j by omega, hdg] at this
      refine this.trans ?_
      congr 3; omega
theorem inAt_cell {w : World} {b off : Nat} {l : List Int} (h : InAt w (some ⟨b, off, none⟩) l) : ∀ j, j < l.length → w.cell? ⟨b, off + j, none⟩ = some (.int .i64 (l.getD j 0)) := fun j hj => by
 obtain ⟨_, _, e, h1⟩ := InAt.get h j hj
 cases e
 rw [h1]; simp [hj]
theorem SearchIn_any (a : Option Addr) (cap : Nat) (l : List Int) (x : Int) (w : World) (hl : l.length ≤ 1000) (hk : SlOk a l.length cap) (hr : InAt w a l) (hs : l.Pairwise (· < ·)) :
  Calls Tryz.prog 214 #[.slice a l.length cap, .int .i64 x] w fun e w' => e = .returned (.tuple #[.int .i64 (l.countP (fun y => decide (y < x)) : Nat), .bool (decide (x ∈ l))]) ∧ Below w.heap.size w w' := by
 cases l with
 | nil =>
  refine (Any.slices_BinarySearch_int_empty Lay.searchI a cap x w).mono ?_
  rintro e w' ⟨rfl, rfl⟩
  exact ⟨rfl, Below.refl _ _⟩
 | cons y l =>
  obtain ⟨b, off, rfl, _⟩ := InAt.get hr 0 (by simp)
  refine (Any.slices_BinarySearch_int Lay.searchI b off (y :: l).length cap (y :: l) x w (Nat.le_refl _) (by omega) (inAt_cell hr) (by rw [List.take_length]; exact hs.imp (fun h => Int.le_of_lt h))).mono ?_
  rintro e w' ⟨rfl, q, rfl⟩
  refine ⟨by rw [List.take_length, List.contains_eq_mem], below_drewN (Below.refl _ _) q⟩
theorem DeleteIn_any (B i : Nat) (v : Value) (l : List Int) (w : World) (hl : l.length ≤ 1000) (hi : i < l.length) (ho : OwnR w B 3 1 v (l.map inRow)) :
  Calls Tryz.prog 215 #[v, .int .i64 (i : Int), .int .i64 ((i : Int) + 1)] w fun e w' => ∃ a c, e = .returned (.slice a (l.length - 1) c) ∧ SlOk a (l.length - 1) c ∧ InAt w' a (l.take i ++ l.drop (i + 1)) ∧ (∀ ad, a = some ad → B ≤ ad.block) ∧ Below B w w' := by
 obtain ⟨_, _, ⟨rfl, hn0⟩ | ⟨g, cap, cur, rfl, hg, hc, hcap, hmax, hsz, htk⟩⟩ := ho
 ·simp at hn0; subst hn0; simp at hi
 rw [List.length_map] at hcap htk
 rw [JJ, Nat.mul_one] at htk
 rw [List.length_map]
 rw [Nat.mul_one] at hsz
 have hcell : ∀ j (hj : j < l.length), w.cell? ⟨g, j, none⟩ = some (.int .i64 l[j]) := fun j hj => by
  rw [Qb hc, ← Array.getElem?_toList]
  have h1 : (cur.toList.take l.length)[j]? = some (.int .i64 l[j]) := by rw [htk]; simp [hj]
  rw [List.getElem?_take] at h1
  simpa [hj] using h1
 have hgl := Qd hc
 have hmx : cap ≤ 9223372036854775807 := by unfold maxLen at hmax; omega
 refine (Any.slices_Delete_int_cells Lay.deleteI g 0 l.length cap i (i + 1) l w (Nat.le_refl _) hcap hmx (by omega) (by omega) (fun j hj => by rw [Nat.zero_add, hcell j hj]; simp [hj]) (fun j hj => Qe hc _)).mono ?_
 rintro e w' ⟨rfl, q, rfl⟩
 have hlen : (l.take i ++ l.drop (i + 1)).length = l.length - 1 := by simp; omega
 refine ⟨_, _, by rw [show l.length - (i + 1 - i) = l.length - 1 by omega], ZQ (by omega), YA (by rw [QM]; exact hgl) (fun j hj => ?_), fun ad e => (by cases e; exact hg), QT hg _ _ (below_drewN (Below.refl B w) q)⟩
 rw [hlen] at hj
 have hvl : (((l.take l.length).take i ++ (l.take l.length).drop (i + 1) ++ List.replicate (i + 1 - i) 0).map (Value.int .i64)).length = l.length := by simp; omega
 have := World.cell?_setCells_in g (((l.take l.length).take i ++ (l.take l.length).drop (i + 1) ++ List.replicate (i + 1 - i) 0).map (Value.int .i64)) 0 (w.drewN q) (fun k hk2 => by
  rw [hvl] at hk2
  rw [Nat.zero_add]
  show (w.cell? ⟨g, k, none⟩).isSome = true
  rw [hcell k hk2]; rfl) j (by rw [hvl]; omega)
 rw [Nat.zero_add] at this
 rw [this]
 simp only [List.getElem_map, List.take_length]
 rw [List.getElem_append_left (by rw [hlen]; exact hj)]
theorem StAt.setOss {w : World} {s : Nat} {r : Rm} {q : Fp} {oa : Option Addr} {oc : Nat} {wv : Value} (h : StAt w s r q oa oc wv) {a : Option Addr} {c n : Nat} {l : List Int} (hn : n = l.length) (hi : InAt w a l) (hk : SlOk a n c) (hne : ∀ ad, a = some ad → s + 1 ≤ ad.block) : StAt (w.setCell ⟨s, 8, none⟩ (.slice a n c)) s { r with oss := l } q a c wv := by
 subst hn
 have hkb : KeepB w.heap.size [s] w (w.setCell ⟨s, 8, none⟩ (.slice a l.length c)) := (KeepB.refl w.heap.size [s] w).set (p := ⟨s, 8, none⟩) (.inl (List.mem_singleton.2 rfl)) _
 exact ⟨heap_setCell_same _ _ _ _ _ _ h.box, h.form.keepB hkb (h.nef.ne (Nat.lt_succ_self s)), SlAt.keepB hi hkb (fun ad e => by rw [List.mem_singleton]; have := hne ad e; omega), hk, h.nef, hne⟩
theorem ossia_any (s : Nat) (x : De) (r : Rm) (q : Fp) (oa : Option Addr) (oc : Nat) (wv : Value) (w : World) (hr : RmOk r) (h : StAt w s r q oa oc wv) :
  Calls Tryz.prog 170 #[.pointer (some ⟨s, 0, none⟩), .agg #[.int .i64 x.num, .int .i64 x.time, .int .i64 x.kind, .int .i64 x.a, .int .i64 x.b, .int .i64 x.c]] w (YE (ossR r x) s wv w) := by
 have hb := Qg (w := w) (.cells #[.int .i64 x.num, .int .i64 x.time, .int .i64 x.kind, .int .i64 x.a, .int .i64 x.b, .int .i64 x.c] 207)
 have HX := Qa (heap_alloc_new w (.cells #[.int .i64 x.num, .int .i64 x.time, .int .i64 x.kind, .int .i64 x.a, .int .i64 x.b, .int .i64 x.c] 207))
 have HS := Qa (h.below hb)
 have HB := Qa hb
 have hsl := Qd h.box
 have hol := hr.oss_len
 have HSo := Qa hr.sorted
 clear hb h hr
 go_enter Tryz.func170, Tryz.ntmps170
 go_upto_region 1 with (fail)
 generalize w.alloc (.cells #[.int .i64 x.num, .int .i64 x.time, .int .i64 x.kind, .int .i64 x.a, .int .i64 x.b, .int .i64 x.c] 207) = W at *
 have hc := Qb HX.out
 cases hbad : Yz x
 case true =>
  have HR := Qa (show ossR r x = (r, 1) by unfold ossR; rw [hbad]; rfl)
  unfold Yz at hbad
  simp only [Bool.or_eq_true, decide_eq_true_eq] at hbad
  by_cases c1 : x.a < 1
  ·go_wp2
   go_ret
   rw [HR.out]
   exact ⟨rfl, _, _, _, HS.out, KeepB.of_below' HB.out⟩
  by_cases c2 : 20 < x.a
  ·go_wp2
   go_ret
   rw [HR.out]
   exact ⟨rfl, _, _, _, HS.out, KeepB.of_below' HB.out⟩
  by_cases c3 : x.b < 0
  ·go_wp2
   go_ret
   rw [HR.out]
   exact ⟨rfl, _, _, _, HS.out, KeepB.of_below' HB.out⟩
  by_cases c4 : 1 < x.b
  ·go_wp2
   go_ret
   rw [HR.out]
   exact ⟨rfl, _, _, _, HS.out, KeepB.of_below' HB.out⟩
  have c5 : ¬ x.c = 0 := by omega
  go_wp2
  go_ret
  rw [HR.out]
  exact ⟨rfl, _, _, _, HS.out, KeepB.of_below' HB.out⟩
 have hbad2 := hbad
 unfold Yz at hbad2
 simp only [Bool.or_eq_false_iff, decide_eq_false_iff_not, Decidable.not_not] at hbad2
 obtain ⟨⟨⟨⟨c1, c2⟩, c3⟩, c4⟩, c5⟩ := hbad2
 have HR := Qa (show ossR r x = if decide (x.a ∈ r.oss) = decide (x.b = 1) then (r, 6) else ({ r with oss := ossL r.oss x }, 0) by unfold ossR; rw [hbad]; rfl)
 clear hbad
 go_upto_region 3 with (fail)
 have HSe := Qa (fun V (hV : Below W.heap.size W V) => SearchIn_any oa oc r.oss x.a V (by omega) HS.out.oko (SlAt.below HS.out.oss hV) HSo.out)
 have hg1 := cell_regrown (hc 3); have hg2 := cell_regrown (Qb HS.out.box 8)
 refine Qn (by kernel_rfl) (by kernel_rfl) ?_
 (repeat (go_big_quiet_step ((go_at_call 214; refine Calls.regrown_of (HSe.out _ (below_regrown _ _ _))))))
 refine wpQuiet_nil ?_
 intro w3 hb3
 have HS3 := Qa (HS.out.below hb3); have HX3 := bk HX hb3; have HB3 := bu HB hb3
 clear hb3 hg1 hg2 hc HSe
 have hc := Qb HX3.out
 have hcs := Qb HS3.out.box
 have hb01 : x.b = 0 ∨ x.b = 1 := by omega
 cases hm : decide (x.a ∈ r.oss)
 ·rcases hb01 with hb0 | hb0
  ·have HR2 := Qa (show ossR r x = (r, 6) by rw [HR.out, hm, hb0]; rfl)
   go_wp2
   go_ret
   rw [HR2.out]
   exact ⟨rfl, _, _, _, HS3.out, KeepB.of_below' HB3.out⟩
  ·have HR2 := Qa (show ossR r x = ({ r with oss := insI x.a r.oss }, 0) by rw [HR.out, hm, hb0]; simp [ossL, hb0])
   go_upto_region 4 with (fail)
   rw [ins_at HSo.out] at HR2
   have hkl : r.oss.countP (fun y => decide (y < x.a)) ≤ r.oss.length := List.countP_le_length
   generalize r.oss.countP (fun y => decide (y < x.a)) = k at *
   refine wp_region_held_drew (S := fun w' => w'.heap[w.heap.size]? = some (.cells #[.int .i64 x.num, .int .i64 x.time, .int .i64 x.kind, .int .i64 x.a, .int .i64 x.b, .int .i64 x.c] 207)) (by kernel_rfl) HX3.out (fun hHeld => ?_)
   (refine tq 0 ?_ (y := fun _ hSw => by have hx := Qb hSw; go_simp; try rfl))
   (refine tq 1 ?_ (y := fun _ hSw => by have hx := Qb hSw; go_simp; try rfl))
   (refine tq 2 ?_ (y := fun _ hSw => by have hx := Qb hSw; go_simp; try rfl))
   (refine tq 3 ?_ (y := fun _ hSw => by have hx := Qb hSw; go_simp; try rfl))
   (refine tq 4 ?_ (y := fun _ hSw => by have hx := Qb hSw; go_simp; try rfl))
   (refine tq 7 ?_ (y := fun _ hSw => by have hx := Qb hSw; go_simp; try rfl))
   (refine tq 8 ?_ (y := fun _ hSw => by have hx := Qb hSw; go_simp; try rfl))
   (refine tq 9 ?_ (y := fun _ hSw => by have hx := Qb hSw; go_simp; try rfl))
   have hcd := Qb (show w3.drew.heap[s]? = _ from HS3.out.box)
   refine tw 5 10 (fun K hK => ?_) (fun K hK => ?_)
   ·go_simp
    refine hK.out _ _ HX3.out (fun hHeld1 => ?_)
    clear hK K
    refine tw 6 10 (fun K hK => ?_) (fun K hK => ?_)
    ·go_simp
     have hbx : Below w3.heap.size w3 (w3.drew) := (Below.refl _ _).drew; refine (Yj oa oc r.oss (w3.drew) (by omega) HS3.out.oko (SlAt.below HS3.out.oss hbx)).mono ?_; rintro e w4 ⟨v4, rfl, ho4, hb4⟩; have HB34 := Qa (hbx.trans (hb4.mono hbx.size)); have HO4 := Qa (ho4.low hbx.size); go_simp
     refine hK.out _ _ (Qc HX3.out HB34.out) (fun hHeld2 => ?_)
     clear hK K
     (refine tc 10 (fun K hK => ?_); go_simp)
     refine hK.out _ _ (Qc HX3.out (HB34.out.alloc HB34.out.size _)) (fun hHeld3 => ?_)
     clear hK K
     have HB5 := Qa (show Below w3.heap.size w3 (w4.alloc (.cells #[.int .i64 x.a] 3)) from HB34.out.alloc HB34.out.size _); have HO5 := Qa (show OwnR (w4.alloc (.cells #[.int .i64 x.a] 3)) w3.heap.size 3 1 v4 (r.oss.map inRow) from HO4.out.below (Qg _)); have hv5 : (w4.alloc (.cells #[.int .i64 x.a] 3)).heap[w4.heap.size]? = some (.cells #[.int .i64 x.a] 3) := heap_alloc_new _ _; have hne5 : v4.ownBlock ≠ some (w4.heap.size) := (fun e => by have := (HO4.out.lt _ e).2; omega); generalize (w4.alloc (.cells #[.int .i64 x.a] 3)) = W5 at *; (refine tc 11 (fun K hK => ?_); go_simp); refine (YD w3.heap.size k _ v4 r.oss x.a W5 (by omega) hkl HO5.out HB5.out.size hv5 hne5).mono ?_; rintro e w6 ⟨a5, c5, rfl, hk5, hi5, hn5, hb5⟩; have HB6 := Qa (HB5.out.trans hb5); have HS6 := Qa (HS3.out.below HB6.out); go_simp; refine hK.out _ _ (Qc HX3.out HB6.out) (fun hHeld4 => ?_); clear hK K; ((refine tq 12 ?_ (y := fun _ hSw => by go_simp; try rfl)); (refine tq 13 ?_ (y := fun _ hSw => by go_simp; try rfl)); (refine tq 14 ?_ (y := fun _ hSw => by go_simp; try rfl))); have hcs := Qb HS6.out.box; have hfs := Qe HS6.out.box; have hzs := Qd HS6.out.box; (refine tc 15 (fun K hK => ?_); go_simp); refine hK.out _ _ ((heap_setCell_other _ _ _ _ (show w.heap.size ≠ s by omega)).trans (Qc HX3.out HB6.out)) (fun hHeld5 => ?_); clear hK K; refine wpAnyH_done (by kernel_rfl) ?_ _; have hs7 := HS6.out.setOss (l := r.oss.take k ++ x.a :: r.oss.drop k) (n := r.oss.length + 1) (by simp; omega) hi5 hk5 (fun ad e => by have := hn5 ad e; have := HB3.out.size; omega); have hk7 : KeepB w.heap.size [s] w (w6.setCell ⟨s, 8, none⟩ (.slice a5 (r.oss.length + 1) c5)) := (KeepB.of_below' (HB3.out.trans (HB6.out.mono HB3.out.size))).set (p := ⟨s, 8, none⟩) (.inl (List.mem_singleton.2 rfl)) _; clear hcs hfs hzs; go_wp2; go_ret; rw [HR2.out]; exact ⟨rfl, _, _, _, hs7, hk7⟩
    ·go_simp
     refine hK.out _ _ (Qc HX3.out ((Below.refl _ _).drew.alloc (Nat.le_refl _) _)) (fun hHeld2 => ?_)
     clear hK K
     (refine tc 6 (fun K hK => ?_); go_simp)
     have hbx : Below w3.heap.size w3 (w3.drew.alloc (.cells #[.int .i64 x.a] 3)) := (Below.refl _ _).drew.alloc (Nat.le_refl _) _; refine (Yj oa oc r.oss (w3.drew.alloc (.cells #[.int .i64 x.a] 3)) (by omega) HS3.out.oko (SlAt.below HS3.out.oss hbx)).mono ?_; rintro e w4 ⟨v4, rfl, ho4, hb4⟩; have HB34 := Qa (hbx.trans (hb4.mono hbx.size)); have HO4 := Qa (ho4.low hbx.size); go_simp
     refine hK.out _ _ (Qc HX3.out HB34.out) (fun hHeld3 => ?_)
     clear hK K
     have HB5 := Qa (show Below w3.heap.size w3 (w4) from HB34.out); have HO5 := Qa (show OwnR (w4) w3.heap.size 3 1 v4 (r.oss.map inRow) from HO4.out); have hv5 : w4.heap[w3.heap.size]? = some (.cells #[.int .i64 x.a] 3) := (hb4.block _ (by simp)).trans (heap_alloc_new w3.drew (.cells #[.int .i64 x.a] 3)); have hne5 : v4.ownBlock ≠ some (w3.heap.size) := (fun e => by have := (ho4.lt _ e).1; simp at this; omega); generalize (w4) = W5 at *; (refine tc 11 (fun K hK => ?_); go_simp); refine (YD w3.heap.size k _ v4 r.oss x.a W5 (by omega) hkl HO5.out HB5.out.size hv5 hne5).mono ?_; rintro e w6 ⟨a5, c5, rfl, hk5, hi5, hn5, hb5⟩; have HB6 := Qa (HB5.out.trans hb5); have HS6 := Qa (HS3.out.below HB6.out); go_simp; refine hK.out _ _ (Qc HX3.out HB6.out) (fun hHeld4 => ?_); clear hK K; ((refine tq 12 ?_ (y := fun _ hSw => by go_simp; try rfl)); (refine tq 13 ?_ (y := fun _ hSw => by go_simp; try rfl)); (refine tq 14 ?_ (y := fun _ hSw => by go_simp; try rfl))); have hcs := Qb HS6.out.box; have hfs := Qe HS6.out.box; have hzs := Qd HS6.out.box; (refine tc 15 (fun K hK => ?_); go_simp); refine hK.out _ _ ((heap_setCell_other _ _ _ _ (show w.heap.size ≠ s by omega)).trans (Qc HX3.out HB6.out)) (fun hHeld5 => ?_); clear hK K; refine wpAnyH_done (by kernel_rfl) ?_ _; have hs7 := HS6.out.setOss (l := r.oss.take k ++ x.a :: r.oss.drop k) (n := r.oss.length + 1) (by simp; omega) hi5 hk5 (fun ad e => by have := hn5 ad e; have := HB3.out.size; omega); have hk7 : KeepB w.heap.size [s] w (w6.setCell ⟨s, 8, none⟩ (.slice a5 (r.oss.length + 1) c5)) := (KeepB.of_below' (HB3.out.trans (HB6.out.mono HB3.out.size))).set (p := ⟨s, 8, none⟩) (.inl (List.mem_singleton.2 rfl)) _; clear hcs hfs hzs; go_wp2; go_ret; rw [HR2.out]; exact ⟨rfl, _, _, _, hs7, hk7⟩
   ·go_simp
    refine hK.out _ _ (Qc HX3.out ((Below.refl _ _).drew.alloc (Nat.le_refl _) _)) (fun hHeld1 => ?_)
    clear hK K
    have hcd2 := Qb (Qc HS3.out.box (Qg (.cells #[.int .i64 x.a] 3)))
    (refine tc 5 (fun K hK => ?_); go_simp)
    refine hK.out _ _ (Qc HX3.out (Qg _).drew) (fun hHeld2 => ?_)
    clear hK K
    (refine tc 6 (fun K hK => ?_); go_simp)
    have hbx : Below w3.heap.size w3 ((w3.alloc (.cells #[.int .i64 x.a] 3)).drew) := (Qg _).drew; refine (Yj oa oc r.oss ((w3.alloc (.cells #[.int .i64 x.a] 3)).drew) (by omega) HS3.out.oko (SlAt.below HS3.out.oss hbx)).mono ?_; rintro e w4 ⟨v4, rfl, ho4, hb4⟩; have HB34 := Qa (hbx.trans (hb4.mono hbx.size)); have HO4 := Qa (ho4.low hbx.size); go_simp
    refine hK.out _ _ (Qc HX3.out HB34.out) (fun hHeld3 => ?_)
    clear hK K
    have HB5 := Qa (show Below w3.heap.size w3 (w4) from HB34.out); have HO5 := Qa (show OwnR (w4) w3.heap.size 3 1 v4 (r.oss.map inRow) from HO4.out); have hv5 : w4.heap[w3.heap.size]? = some (.cells #[.int .i64 x.a] 3) := (hb4.block _ (by simp)).trans (heap_alloc_new w3 (.cells #[.int .i64 x.a] 3)); have hne5 : v4.ownBlock ≠ some (w3.heap.size) := (fun e => by have := (ho4.lt _ e).1; simp at this; omega); generalize (w4) = W5 at *; (refine tc 11 (fun K hK => ?_); go_simp); refine (YD w3.heap.size k _ v4 r.oss x.a W5 (by omega) hkl HO5.out HB5.out.size hv5 hne5).mono ?_; rintro e w6 ⟨a5, c5, rfl, hk5, hi5, hn5, hb5⟩; have HB6 := Qa (HB5.out.trans hb5); have HS6 := Qa (HS3.out.below HB6.out); go_simp; refine hK.out _ _ (Qc HX3.out HB6.out) (fun hHeld4 => ?_); clear hK K; ((refine tq 12 ?_ (y := fun _ hSw => by go_simp; try rfl)); (refine tq 13 ?_ (y := fun _ hSw => by go_simp; try rfl)); (refine tq 14 ?_ (y := fun _ hSw => by go_simp; try rfl))); have hcs := Qb HS6.out.box; have hfs := Qe HS6.out.box; have hzs := Qd HS6.out.box; (refine tc 15 (fun K hK => ?_); go_simp); refine hK.out _ _ ((heap_setCell_other _ _ _ _ (show w.heap.size ≠ s by omega)).trans (Qc HX3.out HB6.out)) (fun hHeld5 => ?_); clear hK K; refine wpAnyH_done (by kernel_rfl) ?_ _; have hs7 := HS6.out.setOss (l := r.oss.take k ++ x.a :: r.oss.drop k) (n := r.oss.length + 1) (by simp; omega) hi5 hk5 (fun ad e => by have := hn5 ad e; have := HB3.out.size; omega); have hk7 : KeepB w.heap.size [s] w (w6.setCell ⟨s, 8, none⟩ (.slice a5 (r.oss.length + 1) c5)) := (KeepB.of_below' (HB3.out.trans (HB6.out.mono HB3.out.size))).set (p := ⟨s, 8, none⟩) (.inl (List.mem_singleton.2 rfl)) _; clear hcs hfs hzs; go_wp2; go_ret; rw [HR2.out]; exact ⟨rfl, _, _, _, hs7, hk7⟩
 ·rcases hb01 with hb0 | hb0
  ·have hdel := del_at HSo.out (of_decide_eq_true hm)
   have HR2 := Qa (show ossR r x = ({ r with oss := r.oss.filter (fun y => decide (y ≠ x.a)) }, 0) by rw [HR.out, hm, hb0]; simp [ossL, hb0])
   obtain ⟨hk, hfl⟩ := hdel
   generalize r.oss.countP (fun y => decide (y < x.a)) = k at *
   have hw1 : IntKind.i64.wrap ((k : Int) + 1) = (k : Int) + 1 := IntWalk.i64_in _ (by omega)
   have HF := Qa hfl
   clear hfl
   go_upto_region 8 with (fail)
   go_upto_region 9 with (first | (go_at_call 216; refine (Yj oa oc r.oss _ (by omega) HS3.out.oko HS3.out.oss).mono ?_; rintro e w4 ⟨v4, rfl, ho4, hb4⟩; have HO4 := Qa ho4; have HB34 := Qa hb4; have HS4 := Qa (HS3.out.below hb4); have HB4 := bu HB3 hb4; clear ho4 hb4) | (go_at_call 215; refine (DeleteIn_any w3.heap.size k v4 r.oss w4 (by omega) hk HO4.out).mono ?_; rintro e w5 ⟨a5, c5, rfl, hk5, hi5, hn5, hb5⟩; have HB35 := Qa (HB34.out.trans hb5); have HS5 := Qa (HS3.out.below HB35.out); have hcs := Qb HS5.out.box; have hfs := Qe HS5.out.box; have hzs := Qd HS5.out.box))
   have hs6 := HS5.out.setOss (l := r.oss.take k ++ r.oss.drop (k + 1)) (n := r.oss.length - 1) (by simp; omega) hi5 hk5 (fun ad e => by have := hn5 ad e; have := HB3.out.size; omega)
   have hk6 : KeepB w.heap.size [s] w (w5.setCell ⟨s, 8, none⟩ (.slice a5 (r.oss.length - 1) c5)) := (KeepB.of_below' (HB3.out.trans (HB35.out.mono HB3.out.size))).set (p := ⟨s, 8, none⟩) (.inl (List.mem_singleton.2 rfl)) _
   clear hcs hfs hzs
   go_wp2
   go_ret
   rw [HR2.out, HF.out]
   exact ⟨rfl, _, _, _, hs6, hk6⟩
  ·have HR2 := Qa (show ossR r x = (r, 6) by rw [HR.out, hm, hb0]; rfl)
   go_wp2
   go_ret
   rw [HR2.out]
   exact ⟨rfl, _, _, _, HS3.out, KeepB.of_below' HB3.out⟩
theorem do5_any (s bs bx : Nat) (x : De) (r : Rm) (q : Fp) (oa : Option Addr) (oc : Nat) (wv : Value) (w : World) (hr : RmOk r) (h : StAt w s r q oa oc wv) (h1 : w.heap[bs]? = some (.cells #[.pointer (some ⟨s, 0, none⟩)] 174)) (h2 : w.heap[bx]? = some (.cells #[.int .i64 x.num, .int .i64 x.time, .int .i64 x.kind, .int .i64 x.a, .int .i64 x.b, .int .i64 x.c] 207)) :
  Calls Tryz.prog 169 #[.pointer (some ⟨bs, 0, none⟩), .pointer (some ⟨bx, 0, none⟩)] w (YE (ossR r x) s wv w) := by
 have HV := Qa (ossia_any s x r q oa oc wv w hr h)
 have hc := Qb h1; have hd := Qb h2
 clear hr h h1 h2
 go_enter Tryz.func169, Tryz.ntmps169
 go_wp2_with (go_at_call 170; refine HV.out.mono ?_; rintro e w2 ⟨rfl, q2, oa2, oc2, hs2, hk2⟩)
 go_ret
 exact ⟨rfl, q2, oa2, oc2, hs2, hk2⟩
abbrev encD (n : Int) : Value := .int .i64 n
theorem keyD : KeyOk Tryz.prog 3 encD := Uy Tryz.underlying3
theorem zeroFn (w : World) : (zeroValue 246).run Tryz.prog w = .ok .nilFunc w := by kernel_rfl
def doM (bs bx bc : Nat) : List (Int × Value) :=
 [(1, .func (.func 160) #[] #[.pointer (some ⟨bs, 0, none⟩), .pointer (some ⟨bx, 0, none⟩)]),
  (2, .func (.func 162) #[] #[.pointer (some ⟨bs, 0, none⟩), .pointer (some ⟨bc, 0, none⟩)]),
  (3, .func (.func 165) #[] #[.pointer (some ⟨bs, 0, none⟩), .pointer (some ⟨bc, 0, none⟩)]),
  (4, .func (.func 167) #[] #[.pointer (some ⟨bx, 0, none⟩), .pointer (some ⟨bs, 0, none⟩)]),
  (5, .func (.func 169) #[] #[.pointer (some ⟨bs, 0, none⟩), .pointer (some ⟨bx, 0, none⟩)])]
theorem doM_none {bs bx bc : Nat} {k : Int} (h1 : k ≠ 1) (h2 : k ≠ 2) (h3 : k ≠ 3) (h4 : k ≠ 4) (h5 : k ≠ 5) : mget (doM bs bx bc) k = none := by
 unfold doM
 rw [QE, QE, QE, QE, QE, Q2, if_neg (Ne.symm h1), if_neg (Ne.symm h2), if_neg (Ne.symm h3), if_neg (Ne.symm h4), if_neg (Ne.symm h5)]
theorem do_any (s : Nat) (x : De) (r : Rm) (q : Fp) (oa : Option Addr) (oc : Nat) (wa : Option Addr) (wc : Nat) (l : List (Wk × Wp)) (w0 w : World) (hw : WsAt w0 wa l) (hB : Below w0.heap.size w0 w) (hl : l.length ≤ 1000) (hfew : ∀ y ∈ l, FoFew y.1.f) (hr : RmOk r) (h : StAt w s r q oa oc (.slice wa l.length wc)) :
  Calls Tryz.prog 127 #[.pointer (some ⟨s, 0, none⟩), .agg #[.int .i64 x.num, .int .i64 x.time, .int .i64 x.kind, .int .i64 x.a, .int .i64 x.b, .int .i64 x.c]] w (YE (doR (Qk l) r x) s (.slice wa l.length wc) w) := by
 obtain ⟨x1, x2, x3, hb⟩ := box3 (w := w) (A := .cells #[.pointer (some ⟨s, 0, none⟩)] 174) (B := .cells #[.int .i64 x.num, .int .i64 x.time, .int .i64 x.kind, .int .i64 x.a, .int .i64 x.b, .int .i64 x.c] 207) (C := .cells #[.int .i64 x.a, .int .i64 x.b, .int .i64 x.c] 186) (Below.refl _ _)
 have hmm := @run_makeMap Tryz.prog
 have hsl := Qd h.box
 have HS := Qa (h.below hb)
 have HB := Qa hb
 have hc2 := Qb (heap_alloc_new (w.alloc (.cells #[.pointer (some ⟨s, 0, none⟩)] 174)) (.cells #[.int .i64 x.num, .int .i64 x.time, .int .i64 x.kind, .int .i64 x.a, .int .i64 x.b, .int .i64 x.c] 207))
 go_enter Tryz.func127, Tryz.ntmps127
 go_upto_region 2 with (fail)
 clear hc2
 have hW3 : (((w.alloc (.cells #[.pointer (some ⟨s, 0, none⟩)] 174)).alloc (.cells #[.int .i64 x.num, .int .i64 x.time, .int .i64 x.kind, .int .i64 x.a, .int .i64 x.b, .int .i64 x.c] 207)).alloc (.cells #[.int .i64 x.a, .int .i64 x.b, .int .i64 x.c] 186)).heap.size = w.heap.size + 1 + 1 + 1 := by simp
 generalize ((w.alloc (.cells #[.pointer (some ⟨s, 0, none⟩)] 174)).alloc (.cells #[.int .i64 x.num, .int .i64 x.time, .int .i64 x.kind, .int .i64 x.a, .int .i64 x.b, .int .i64 x.c] 207)).alloc (.cells #[.int .i64 x.a, .int .i64 x.b, .int .i64 x.c] 186) = W at *
 have hm0 : MapAt (W.alloc (.map #[] 0)) encD (w.heap.size + 1 + 1 + 1) [] := by rw [← hW3]; exact MapAt.new W encD
 have hb0 := Qg (w := W) (.map #[] 0)
 have x3 : W.heap[w.heap.size + 1 + 1]? = some (.cells #[.int .i64 x.a, .int .i64 x.b, .int .i64 x.c] 186) := x3
 go_upto_region 3 with (first | (refine Qm rfl (.tmp 16) _ (.tmp 17) _ (.inr rfl) Tryz.underlying251 keyD (w.heap.size + 1 + 1 + 1) _ rfl hm0 1 rfl _ rfl ?_; intro w1 hm1 hg1) | (refine Qm rfl (.tmp 16) _ (.tmp 18) _ (.inr rfl) Tryz.underlying251 keyD (w.heap.size + 1 + 1 + 1) _ rfl hm1 2 rfl _ rfl ?_; intro w2 hm2 hg2) | (refine Qm rfl (.tmp 16) _ (.tmp 19) _ (.inr rfl) Tryz.underlying251 keyD (w.heap.size + 1 + 1 + 1) _ rfl hm2 3 rfl _ rfl ?_; intro w3 hm3 hg3) | (refine Qm rfl (.tmp 16) _ (.tmp 20) _ (.inr rfl) Tryz.underlying251 keyD (w.heap.size + 1 + 1 + 1) _ rfl hm3 4 rfl _ rfl ?_; intro w4 hm4 hg4) | (refine Qm rfl (.tmp 16) _ (.tmp 21) _ (.inr rfl) Tryz.underlying251 keyD (w.heap.size + 1 + 1 + 1) _ rfl hm4 5 rfl _ rfl ?_; intro w5 hm5 hg5))
 have gr : ∀ k, some (w.heap.size + 1 + 1 + 1) = some k → W.heap.size ≤ k := fun k e => by cases e; omega
 have hbw : Below W.heap.size W w5 := ((((hb0.grown hg1 hb0.size gr).grown hg2 (hb0.grown hg1 hb0.size gr).size gr).grown hg3 ((hb0.grown hg1 hb0.size gr).grown hg2 (hb0.grown hg1 hb0.size gr).size gr).size gr).grown hg4 (((hb0.grown hg1 hb0.size gr).grown hg2 (hb0.grown hg1 hb0.size gr).size gr).grown hg3 ((hb0.grown hg1 hb0.size gr).grown hg2 (hb0.grown hg1 hb0.size gr).size gr).size gr).size gr).grown hg5 ((((hb0.grown hg1 hb0.size gr).grown hg2 (hb0.grown hg1 hb0.size gr).size gr).grown hg3 ((hb0.grown hg1 hb0.size gr).grown hg2 (hb0.grown hg1 hb0.size gr).size gr).size gr).grown hg4 (((hb0.grown hg1 hb0.size gr).grown hg2 (hb0.grown hg1 hb0.size gr).size gr).grown hg3 ((hb0.grown hg1 hb0.size gr).grown hg2 (hb0.grown hg1 hb0.size gr).size gr).size gr).size gr).size gr
 have hm : MapAt w5 encD (w.heap.size + 1 + 1 + 1) (doM w.heap.size (w.heap.size + 1) (w.heap.size + 1 + 1)) := hm5
 have X1 := Qa (Qc x1 hbw); have X2 := Qa (Qc x2 hbw); have X3 := Qa (Qc x3 hbw)
 have HS5 := Qa (HS.out.below hbw); have HB5 := bu HB hbw
 have hlk := QF (P := Tryz.prog) Tryz.underlying251 keyD zeroFn hm x.kind true
 clear hm0 hm1 hm2 hm3 hm4 hm5 hg1 hg2 hg3 hg4 hg5 hbw hb0 gr hm hmm x1 x2 x3 hb HS HB h
 have hc := Qb X2.out
 have HB05 := Qa (hB.trans (HB5.out.mono hB.size))
 by_cases k1 : x.kind = 1
 ·have HR := Qa (show doR (Qk l) r x = (verR (Qk l) r x) by unfold doR; rw [if_pos k1])
  have HC := Qa (do1_any s _ _ x r q oa oc wa wc l w0 w5 hw HB05.out hl hfew HS5.out X1.out X2.out)
  have eg := enters_of Tryz.func160 (by kernel_rfl) rfl
  rw [k1] at hlk hc
  replace hlk : (Instr.lookup 251 (.map (some (w.heap.size + 1 + 1 + 1))) (.int .i64 1) true).run Tryz.prog w5 = .ok (.tuple #[.func (.func 160) #[] #[.pointer (some ⟨w.heap.size, 0, none⟩), .pointer (some ⟨w.heap.size + 1, 0, none⟩)], .bool true]) w5 := hlk
  clear k1
  go_wp2_with (go_at_call 160; refine HC.out.mono ?_; rintro e w6 ⟨rfl, q6, oa6, oc6, hs6, hk6⟩)
  go_ret
  rw [HR.out]
  exact ⟨rfl, _, _, _, hs6, KeepB.trans (KeepB.of_below' HB5.out) (hk6.weaken HB5.out.size (fun k hk _ => hk))⟩
 by_cases k2 : x.kind = 2
 ·have HR := Qa (show doR (Qk l) r x = (reform r (cutR r.f ⟨x.a, x.b, x.c⟩)) by unfold doR; rw [if_neg k1]; rw [if_pos k2])
  have HC := Qa (do2_any s _ _ x r q oa oc _ w5 hr.few HS5.out X1.out X3.out (by omega) (by omega))
  have eg := enters_of Tryz.func162 (by kernel_rfl) rfl
  rw [k2] at hlk hc
  replace hlk : (Instr.lookup 251 (.map (some (w.heap.size + 1 + 1 + 1))) (.int .i64 2) true).run Tryz.prog w5 = .ok (.tuple #[.func (.func 162) #[] #[.pointer (some ⟨w.heap.size, 0, none⟩), .pointer (some ⟨w.heap.size + 1 + 1, 0, none⟩)], .bool true]) w5 := hlk
  clear k2 k1
  go_wp2_with (go_at_call 162; refine HC.out.mono ?_; rintro e w6 ⟨rfl, q6, oa6, oc6, hs6, hk6⟩)
  go_ret
  rw [HR.out]
  exact ⟨rfl, _, _, _, hs6, KeepB.trans (KeepB.of_below' HB5.out) (hk6.weaken HB5.out.size (fun k hk _ => hk))⟩
 by_cases k3 : x.kind = 3
 ·have HR := Qa (show doR (Qk l) r x = (reform r (Zj r.f ⟨x.a, x.b, x.c⟩)) by unfold doR; rw [if_neg k1]; rw [if_neg k2]; rw [if_pos k3])
  have HC := Qa (do3_any s _ _ x r q oa oc _ w5 hr.few HS5.out X1.out X3.out (by omega) (by omega))
  have eg := enters_of Tryz.func165 (by kernel_rfl) rfl
  rw [k3] at hlk hc
  replace hlk : (Instr.lookup 251 (.map (some (w.heap.size + 1 + 1 + 1))) (.int .i64 3) true).run Tryz.prog w5 = .ok (.tuple #[.func (.func 165) #[] #[.pointer (some ⟨w.heap.size, 0, none⟩), .pointer (some ⟨w.heap.size + 1 + 1, 0, none⟩)], .bool true]) w5 := hlk
  clear k3 k1 k2
  go_wp2_with (go_at_call 165; refine HC.out.mono ?_; rintro e w6 ⟨rfl, q6, oa6, oc6, hs6, hk6⟩)
  go_ret
  rw [HR.out]
  exact ⟨rfl, _, _, _, hs6, KeepB.trans (KeepB.of_below' HB5.out) (hk6.weaken HB5.out.size (fun k hk _ => hk))⟩
 by_cases k4 : x.kind = 4
 ·have HR := Qa (show doR (Qk l) r x = (if x.c ≠ 0 then (r, 1) else reform r (QW r.f x.a x.b)) by unfold doR; rw [if_neg k1]; rw [if_neg k2]; rw [if_neg k3]; rw [if_pos k4])
  have HC := Qa (do4_any s _ _ x r q oa oc _ w5 hr.few HS5.out X1.out X2.out (by omega) (by omega))
  generalize (if x.c ≠ 0 then (r, (1 : Int)) else reform r (QW r.f x.a x.b)) = P at HR HC
  have eg := enters_of Tryz.func167 (by kernel_rfl) rfl
  rw [k4] at hlk hc
  replace hlk : (Instr.lookup 251 (.map (some (w.heap.size + 1 + 1 + 1))) (.int .i64 4) true).run Tryz.prog w5 = .ok (.tuple #[.func (.func 167) #[] #[.pointer (some ⟨w.heap.size + 1, 0, none⟩), .pointer (some ⟨w.heap.size, 0, none⟩)], .bool true]) w5 := hlk
  clear k4 k1 k2 k3
  go_wp2_with (go_at_call 167; refine HC.out.mono ?_; rintro e w6 ⟨rfl, q6, oa6, oc6, hs6, hk6⟩)
  go_ret
  rw [HR.out]
  exact ⟨rfl, _, _, _, hs6, KeepB.trans (KeepB.of_below' HB5.out) (hk6.weaken HB5.out.size (fun k hk _ => hk))⟩
 by_cases k5 : x.kind = 5
 ·have HR := Qa (show doR (Qk l) r x = (ossR r x) by unfold doR; rw [if_neg k1]; rw [if_neg k2]; rw [if_neg k3]; rw [if_neg k4]; rw [if_pos k5])
  have HC := Qa (do5_any s _ _ x r q oa oc _ w5 hr HS5.out X1.out X2.out)
  have eg := enters_of Tryz.func169 (by kernel_rfl) rfl
  rw [k5] at hlk hc
  replace hlk : (Instr.lookup 251 (.map (some (w.heap.size + 1 + 1 + 1))) (.int .i64 5) true).run Tryz.prog w5 = .ok (.tuple #[.func (.func 169) #[] #[.pointer (some ⟨w.heap.size, 0, none⟩), .pointer (some ⟨w.heap.size + 1, 0, none⟩)], .bool true]) w5 := hlk
  clear k5 k1 k2 k3 k4
  go_wp2_with (go_at_call 169; refine HC.out.mono ?_; rintro e w6 ⟨rfl, q6, oa6, oc6, hs6, hk6⟩)
  go_ret
  rw [HR.out]
  exact ⟨rfl, _, _, _, hs6, KeepB.trans (KeepB.of_below' HB5.out) (hk6.weaken HB5.out.size (fun k hk _ => hk))⟩
 have HR := Qa (show doR (Qk l) r x = (r, 1) by unfold doR; rw [if_neg k1, if_neg k2, if_neg k3, if_neg k4, if_neg k5])
 rw [doM_none k1 k2 k3 k4 k5] at hlk
 replace hlk : (Instr.lookup 251 (.map (some (w.heap.size + 1 + 1 + 1))) (.int .i64 x.kind) true).run Tryz.prog w5 = .ok (.tuple #[.nilFunc, .bool false]) w5 := hlk
 clear k1 k2 k3 k4 k5
 go_wp2
 go_ret
 rw [HR.out]
 exact ⟨rfl, _, _, _, HS5.out, KeepB.of_below' HB5.out⟩
open Go.RowKit Go.Sort
structure Lo where
 t : Int
 k : Int
 s : Int
 st : Int
 h : Int
deriving DecidableEq
def Lo.cells (x : Lo) : List Value := [.int .i64 x.t, .int .i64 x.k, .int .i64 x.s, .int .i64 x.st, .int .i64 x.h]
def LoAt (w : World) (a : Option Addr) (l : List Lo) : Prop := SlAt w a 5 (l.map Lo.cells)
theorem LoAt.get {w : World} {a : Option Addr} {l : List Lo} (h : LoAt w a l) (i : Nat) (hi : i < l.length) :
  ∃ b off, a = some ⟨b, off, none⟩ ∧ w.cell? ⟨b, off + i * 5, none⟩ = some (.int .i64 l[i].t) ∧ w.cell? ⟨b, off + i * 5 + 1, none⟩ = some (.int .i64 l[i].k) ∧
   w.cell? ⟨b, off + i * 5 + 2, none⟩ = some (.int .i64 l[i].s) ∧ w.cell? ⟨b, off + i * 5 + 3, none⟩ = some (.int .i64 l[i].st) ∧ w.cell? ⟨b, off + i * 5 + 4, none⟩ = some (.int .i64 l[i].h) := by
 obtain ⟨b, off, e, _, _, hc⟩ := h i l[i].cells (by simp [List.getElem?_eq_getElem hi])
 exact ⟨b, off, e, hc 0 _ rfl, hc 1 _ rfl, hc 2 _ rfl, hc 3 _ rfl, hc 4 _ rfl⟩
theorem LoAt.below {w w' : World} {a : Option Addr} {l : List Lo} (h : LoAt w a l) (hb : Below w.heap.size w w') : LoAt w' a l := SlAt.below h hb
theorem LoAt.alloc {w : World} {a : Option Addr} {l : List Lo} (h : LoAt w a l) (o : Obj) : LoAt (w.alloc o) a l := SlAt.alloc h o
theorem LoAt.take' {w : World} {a : Option Addr} {l : List Lo} (h : LoAt w a l) (k : Nat) : LoAt w a (l.take k) := by
 unfold LoAt at *; rw [List.map_take]; exact h.take k
theorem Uz (n lo hi : Int) (w : World) :
  Calls Tryz.prog 49 #[.int .i64 n, .int .i64 lo, .int .i64 hi] w fun e w' => e = .returned (.bool (inB n lo hi)) ∧ w = w' := by
 go_enter Tryz.func49, Tryz.ntmps49
 go_wp2
 all_goals (go_ret; exact ⟨by simp [inB, *] <;> omega, rfl⟩)
theorem Time_any (n : Int) (w : World) :
  Calls Tryz.prog 113 #[.int .i64 n] w fun e w' => e = .returned (.bool (inB n 0 1000000000)) ∧ w = w' := by
 go_enter Tryz.func113, Tryz.ntmps113
 go_wp2_with (go_at_call 49; refine (Uz _ _ _ _).mono ?_; rintro e w' ⟨rfl, rfl⟩)
 go_ret
 exact ⟨rfl, rfl⟩
theorem ID_any (n : Int) (w : World) :
  Calls Tryz.prog 21 #[.int .i64 n] w fun e w' => e = .returned (.bool (inB n 1 1000000)) ∧ w = w' := by
 go_enter Tryz.func21, Tryz.ntmps21
 go_wp2_with (go_at_call 49; refine (Uz _ _ _ _).mono ?_; rintro e w' ⟨rfl, rfl⟩)
 go_ret
 exact ⟨rfl, rfl⟩
def Zs (x : Lo) : Bool :=
 inB x.t 0 1000000000 && inB x.s 1 1000000 &&
  (if x.k == 1 then inB x.st 1 1000000 && x.h == 0 else if x.k == 2 then x.st == 0 && x.h == 0 else if x.k == 3 then x.st == 0 && inB x.h 0 99 else false)
theorem Loan_any (t k s st h : Int) (w : World) :
  Calls Tryz.prog 110 #[.agg #[.int .i64 t, .int .i64 k, .int .i64 s, .int .i64 st, .int .i64 h]] w fun e w' => e = .returned (.bool (Zs ⟨t, k, s, st, h⟩)) ∧ Below w.heap.size w w' := by
 go_enter Tryz.func110, Tryz.ntmps110
 go_wp2_with (first | (go_at_call 49; refine (Uz _ _ _ _).mono ?_; rintro e w' ⟨rfl, rfl⟩) | (go_at_call 113; refine (Time_any _ _).mono ?_; rintro e w' ⟨rfl, rfl⟩) | (go_at_call 21; refine (ID_any _ _).mono ?_; rintro e w' ⟨rfl, rfl⟩))
 all_goals go_ret
 all_goals (refine ⟨?_, (Below.refl _ _).alloc (Nat.le_refl _) _⟩; simp_all [Zs])
def hold (l : List Lo) (sheet : Int) : Int := l.foldl (fun acc x => if x.s = sheet then (if x.k = 1 then x.st else 0) else acc) 0
theorem Qau (r : List Lo) (sheet : Int) (h : ∀ x ∈ r, x.s ≠ sheet) (z : Int) : r.foldl (fun acc x => if x.s = sheet then (if x.k = 1 then x.st else 0) else acc) z = z := by
 induction r generalizing z with
 | nil => rfl
 | cons x r ih => rw [List.foldl_cons, if_neg (h x (by simp))]; exact ih (fun y hy => h y (by simp [hy])) z
theorem hold_skip (l r : List Lo) (sheet : Int) (h : ∀ x ∈ r, x.s ≠ sheet) : hold (l ++ r) sheet = hold l sheet := by
 unfold hold
 rw [List.foldl_append]
 exact Qau r sheet h _
theorem hold_snoc (l : List Lo) (x : Lo) (sheet : Int) : hold (l ++ [x]) sheet = if x.s = sheet then (if x.k = 1 then x.st else 0) else hold l sheet := by
 simp [hold, List.foldl_append]
theorem hold_at (l : List Lo) (j : Nat) (hj : j < l.length) (sheet : Int) (h : ∀ x ∈ l.drop (j + 1), x.s ≠ sheet) (e : l[j].s = sheet) : hold l sheet = if l[j].k = 1 then l[j].st else 0 := by
 conv => lhs; rw [← List.take_append_drop (j + 1) l]
 rw [hold_skip _ _ _ h, List.take_succ_eq_append_getElem hj, hold_snoc, if_pos e]
theorem holder_any (a : Option Addr) (n cap : Nat) (l : List Lo) (sheet : Int) (w : World) (hn : n = l.length) (hl : n ≤ 1000000) (hr : LoAt w a l) :
  Calls Tryz.prog 114 #[.slice a n cap, .int .i64 sheet] w fun e w' => e = .returned (.int .i64 (hold l sheet)) ∧ w = w' := by
 subst hn
 go_enter Tryz.func114, Tryz.ntmps114
 go_wp2
 go_loop [4, 5] (fun r i => r = .int .i64 0 ∧ ∃ k : Nat, k ≤ l.length ∧ i = .int .i64 (k - 1) ∧ ∀ x ∈ l.drop k, x.s ≠ sheet) (fun _ i => (intOf i + 1).toNat)
 case atStart => exact ⟨rfl, l.length, Nat.le_refl _, rfl, by simp⟩
 case round =>
  obtain ⟨rfl, k, hk, rfl, hx⟩ := hrel
  by_cases h0 : k = 0
  ·subst h0
   have H := Qa hx; clear hx
   go_wp2
   go_ret
   exact ⟨QK (Qau l sheet (fun x hm => H.out x (by simpa using hm)) 0).symm, rfl⟩
  ·obtain ⟨j, rfl⟩ : ∃ j, k = j + 1 := ⟨k - 1, by omega⟩
   rw [show (((j + 1 : Nat) : Int) - 1) = (j : Int) by omega]
   clear h0
   obtain ⟨b, off, rfl, c0, c1, c2, c3, c4⟩ := hr.get j (by omega)
   have H := Qa hx; clear hx
   clear hr
   have hd : l.drop j = l[j] :: l.drop (j + 1) := List.drop_eq_getElem_cons (by omega)
   have HD := Qa hd; clear hd
   go_wp2
   ·refine ⟨⟨rfl, j, by omega, rfl, ?_⟩, by simp [intOf]⟩
    have h1 : (l[j].s != sheet) = true := by assumption
    rw [HD.out]
    intro x hm
    rcases List.mem_cons.1 hm with rfl | hm
    ·simpa using h1
    ·exact H.out x hm
   all_goals
    go_ret
    refine ⟨QK ?_, rfl⟩
    have h1 : (l[j].s != sheet) = false := by assumption
    rw [hold_at l j (by omega) sheet H.out (by simpa using h1)]
   ·have h2 : (l[j].k == 1) = true := by assumption
    rw [if_pos (by simpa using h2)]
   ·have h2 : (l[j].k == 1) = false := by assumption
    rw [if_neg (by simpa using h2)]
def Zh (l : List Lo) (x : Lo) : Bool := decide (0 < hold l x.s) == (x.k == 2)
theorem Happens_any (a : Option Addr) (n cap : Nat) (l : List Lo) (t k s st h : Int) (w : World) (hn : n = l.length) (hl : n ≤ 1000000) (hr : LoAt w a l) :
  Calls Tryz.prog 111 #[.slice a n cap, .agg #[.int .i64 t, .int .i64 k, .int .i64 s, .int .i64 st, .int .i64 h]] w fun e w' => e = .returned (.bool (Zh l ⟨t, k, s, st, h⟩)) ∧ Below w.heap.size w w' := by
 have Hn := Qa hn; clear hn
 go_enter Tryz.func111, Tryz.ntmps111
 go_wp2_with (go_at_call 114; refine (holder_any _ _ _ l _ _ Hn.out hl (hr.alloc _)).mono ?_; rintro e w' ⟨rfl, rfl⟩)
 go_ret
 exact ⟨Qf (by simp [Zh]), (Below.refl _ _).alloc (Nat.le_refl _) _⟩
def lo0 : Lo := ⟨0, 0, 0, 0, 0⟩
def ZM (l : List Lo) (i : Nat) : Bool :=
 Zs (l.getD i lo0) && (decide (i = 0) || decide ((l.getD (i - 1) lo0).t ≤ (l.getD i lo0).t)) && Zh (l.take i) (l.getD i lo0)
def QP (l : List Lo) : Bool := decide (l.length ≤ 20000) && (List.range l.length).all (ZM l)
theorem YY (l : List Lo) (k : Nat) (h : k < l.length) : l.getD k lo0 = l[k] := by simp [List.getD, List.getElem?_eq_getElem h]
theorem ZH (l : List Lo) (k : Nat) (h : k < l.length) :
  ZM l k = (Zs ⟨l[k].t, l[k].k, l[k].s, l[k].st, l[k].h⟩ && (decide (k = 0) || decide ((l.getD (k - 1) lo0).t ≤ l[k].t)) && Zh (l.take k) ⟨l[k].t, l[k].k, l[k].s, l[k].st, l[k].h⟩) := by
 unfold ZM
 rw [YY l k h]
theorem YI (l : List Lo) (j : Nat) (h : j + 1 < l.length) :
  ZM l (j + 1) = (Zs ⟨l[j + 1].t, l[j + 1].k, l[j + 1].s, l[j + 1].st, l[j + 1].h⟩ && decide (l[j].t ≤ l[j + 1].t) && Zh (l.take (j + 1)) ⟨l[j + 1].t, l[j + 1].k, l[j + 1].s, l[j + 1].st, l[j + 1].h⟩) := by
 rw [ZH l _ h, Nat.add_sub_cancel, YY l j (by omega)]
 simp
theorem Zm (l : List Lo) (k : Nat) (h : k < l.length) (hs : ZM l k = false) : QP l = false := by
 cases e : QP l with
 | false => rfl
 | true =>
  simp only [QP, Bool.and_eq_true, List.all_eq_true, List.mem_range] at e
  rw [e.2 k h] at hs; cases hs
theorem Valid_any (a : Option Addr) (n cap : Nat) (l : List Lo) (w : World) (hn : n = l.length) (hl : n ≤ 1000000) (hs : SlOk a n cap) (hr : LoAt w a l) :
  Calls Tryz.prog 68 #[.slice a n cap] w fun e w' => e = .returned (.bool (QP l)) ∧ Below w.heap.size w w' := by
 subst hn
 have hcap := hs.le
 by_cases hbig : 20000 < l.length
 ·go_enter Tryz.func68, Tryz.ntmps68
  go_wp2
  go_ret
  exact ⟨Qf (by simp [QP]; omega), Below.refl _ _⟩
 go_enter Tryz.func68, Tryz.ntmps68
 go_wp2
 go_loopw [3, 4] (fun i _ wr => ∃ k : Nat, k ≤ l.length ∧ i = .int .i64 k ∧ (∀ j, j < k → ZM l j = true) ∧ Below w.heap.size w wr) (fun i _ _ => l.length - (intOf i).toNat)
 case atStart => exact ⟨0, Nat.zero_le _, rfl, fun j hj => by omega, Below.refl _ _⟩
 case round =>
  obtain ⟨k, hk, rfl, hall, hb⟩ := hrel
  have H := Qa hall; clear hall
  by_cases hlt : k < l.length
  ·have hr1 : LoAt wr a l := hr.below hb
   obtain ⟨b, off, rfl, c0, c1, c2, c3, c4⟩ := hr1.get k hlt
   go_wp2_with (go_at_call 110; refine (Loan_any _ _ _ _ _ _).mono ?_; rintro e w1 ⟨rfl, hb1⟩)
   have hb2 : Below w.heap.size w w1 := hb.trans (hb1.mono hb.size)
   have hr2 : LoAt w1 (some ⟨b, off, none⟩) l := hr.below hb2
   clear hr1 c0 c1 c2 c3 c4
   obtain ⟨b', off', e', c0, c1, c2, c3, c4⟩ := hr2.get k hlt
   cases e'
   have g0 := cell_regrown c0
   have g1 := cell_regrown c1
   have g2 := cell_regrown c2
   have g3 := cell_regrown c3
   have g4 := cell_regrown c4
   have HR := Qa hr2; clear hr2
   have HR0 := Qa hr; clear hr
   have HB := Qa hb; clear hb
   clear hb1
   have HB2 := Qa hb2; clear hb2
   clear c0 c1 c2 c3 c4
   cases hf : Zs ⟨l[k].t, l[k].k, l[k].s, l[k].st, l[k].h⟩
   ·refine Qn (by kernel_rfl) (by kernel_rfl) ?_
    repeat (go_big_quiet_step (fail))
    refine wpQuiet_nil ?_
    intro w2 hb3
    go_wp2
    go_ret
    refine ⟨Qf ?_, HB2.out.trans (hb3.mono HB2.out.size)⟩
    exact (Zm l k hlt (by simp only [ZM, YY l k hlt, hf, Bool.false_and])).symm
   ·by_cases h0 : k = 0
    ·have hkc : k ≤ cap := by omega
     have hk0 : decide (0 < k) = false := by simp [h0]
     have h0' := Qa h0; clear h0
     refine Qn (by kernel_rfl) (by kernel_rfl) ?_
     repeat (go_big_quiet_step (first | (go_at_call 111; refine Calls.regrown_of (Happens_any _ _ _ (l.take k) _ _ _ _ _ _ (len_take l _ (by omega)) (by omega) ((HR.out.take' k).below (below_regrown _ _ _))))))
     refine wpQuiet_nil ?_
     intro w2 hb3
     have HB3 := bu HB2 hb3; clear hb3
     go_wp2
     ·go_ret
      refine ⟨Qf ?_, HB3.out⟩
      have hh : (!Zh (l.take k) ⟨l[k].t, l[k].k, l[k].s, l[k].st, l[k].h⟩) = true := by assumption
      refine (Zm l k hlt ?_).symm
      rw [ZH l k hlt, Ut hh, Bool.and_false]
     ·have hh : (!Zh (l.take k) ⟨l[k].t, l[k].k, l[k].s, l[k].st, l[k].h⟩) = false := by assumption
      refine ⟨⟨k + 1, by omega, by go_num, ?_, HB3.out⟩, by simp [intOf]; omega⟩
      intro i hi
      by_cases e : i = k
      ·subst e
       rw [ZH l i hlt, hf, Uu hh]
       simp [h0'.out]
      ·exact H.out i (by omega)
    ·obtain ⟨j, rfl⟩ : ∃ j, k = j + 1 := ⟨k - 1, by omega⟩
     obtain ⟨b', off', e', d0, _, _, _, _⟩ := HR.out.get j (by omega)
     cases e'
     have m0 := cell_regrown d0
     clear d0
     have hk0 : decide ((0 : Int) < ((j + 1 : Nat) : Int)) = true := by simp
     have hk1 : ((j + 1 : Nat) : Int) - 1 = (j : Int) := by omega
     have hkc : j + 1 ≤ cap := by omega
     clear h0
     refine Qn (by kernel_rfl) (by kernel_rfl) ?_
     repeat (go_big_quiet_step (fail))
     cases hd : decide (l[j + 1].t < l[j].t)
     all_goals repeat (go_big_quiet_step (first | (go_at_call 111; refine Calls.regrown_of (Happens_any _ _ _ (l.take (j + 1)) _ _ _ _ _ _ (len_take l _ (by omega)) (by omega) ((HR.out.take' (j + 1)).below (below_regrown _ _ _))))))
     all_goals refine wpQuiet_nil ?_
     all_goals intro w2 hb3
     all_goals have HB3 := bu HB2 hb3
     all_goals clear hb3
     ·go_wp2
      ·go_ret
       refine ⟨Qf ?_, HB3.out⟩
       have hh : (!Zh (l.take (j + 1)) ⟨l[j + 1].t, l[j + 1].k, l[j + 1].s, l[j + 1].st, l[j + 1].h⟩) = true := by assumption
       refine (Zm l (j + 1) hlt ?_).symm
       rw [YI l j hlt, Ut hh, Bool.and_false]
      ·have hh : (!Zh (l.take (j + 1)) ⟨l[j + 1].t, l[j + 1].k, l[j + 1].s, l[j + 1].st, l[j + 1].h⟩) = false := by assumption
       refine ⟨⟨j + 1 + 1, by omega, by go_num, ?_, HB3.out⟩, by simp [intOf]; omega⟩
       intro i hi
       by_cases e : i = j + 1
       ·subst e
        rw [YI l j hlt, hf, Uu hh]
        have := of_decide_eq_false hd
        simp; omega
       ·exact H.out i (by omega)
     ·go_wp2
      go_ret
      refine ⟨Qf ?_, HB3.out⟩
      refine (Zm l (j + 1) hlt ?_).symm
      have h1 := of_decide_eq_true hd
      have h2 : decide (l[j].t ≤ l[j + 1].t) = false := decide_eq_false (by omega)
      rw [YI l j hlt, h2]
      simp
  ·go_wp2
   go_ret
   refine ⟨Qf ?_, hb⟩
   obtain rfl : k = l.length := by omega
   have hle : l.length ≤ 20000 := by omega
   simp only [QP, hle, decide_true, Bool.true_and]
   exact (List.all_eq_true.2 fun j hj => H.out j (List.mem_range.1 hj)).symm
end Go.Proofs.YtajijcfikihhjaaGreatDoor
