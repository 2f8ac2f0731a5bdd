import Derived.Shelf.SlIterI.Nil
import Derived.Shelf.SortM.Plain
import Derived.Shelf.SortM.SortNone
import Derived.Shelf.SlMaps.DeleteFunc
import Derived.Test.YtajijcfikihhjaaGreatDoorAAX
set_option linter.unusedSimpArgs false
set_option linter.unusedVariables false
set_option maxRecDepth 100000
set_option maxHeartbeats 16000000
namespace Go.Proofs.YtajijcfikihhjaaGreatDoor
open Go.Shelf
def Lay.keysA_ren : Go.Shelf.Ren := ⟨fun | 7 => 85 | 10 => 123 | n => n, fun | 23 => 93 | 26 => 3 | 3 => 3 | 28 => 172 | 0 => 0 | 27 => 171 | 33 => 58 | 4 => 4 | n => n, fun | n => n⟩
theorem Lay.keysA : Go.Proofs.SlLaysZI.n7 Tryz.prog Lay.keysA_ren := {
 mixed := by kernel_rfl
 f7 := ⟨Tryz.f85.name, by decide, Tryz.func85.trans (congrArg some (by kernel_rfl))⟩
 f10 := ⟨Tryz.f123.name, by decide, Tryz.func123.trans (congrArg some (by kernel_rfl))⟩
 t0 := Tryz.underlying0
 a0 := Tryz.isAgg0
 z0 := Tryz.sizeOf0
 v0 := Tryz.zeroValue0
 t4 := Tryz.underlying4
 a4 := Tryz.isAgg4
 z4 := Tryz.sizeOf4
 v4 := Tryz.zeroValue4
 t23 := Tryz.underlying93
 a23 := Tryz.isAgg93
 z23 := Tryz.sizeOf93
 v23 := Tryz.zeroValue93
 t26 := Tryz.underlying3
 a26 := Tryz.isAgg3
 z26 := Tryz.sizeOf3
 v26 := Tryz.zeroValue3
 t27 := Tryz.underlying171
 a27 := Tryz.isAgg171
 z27 := Tryz.sizeOf171
 v27 := Tryz.zeroValue171
 t28 := Tryz.underlying172
 a28 := Tryz.isAgg172
 z28 := Tryz.sizeOf172
 v28 := Tryz.zeroValue172
 t33 := Tryz.underlying58
 a33 := Tryz.isAgg58
 z33 := Tryz.sizeOf58
 v33 := Tryz.zeroValue58 }
def Lay.sortedA_ren : Go.Shelf.Ren := ⟨fun | 6 => 84 | 8 => 121 | 9 => 122 | 11 => 156 | 13 => 61 | 12 => 157 | 23 => 101 | 24 => 102 | 14 => 197 | 15 => 198 | 16 => 199 | 17 => 200 | 18 => 201 | 19 => 202 | 20 => 203 | 21 => 204 | 22 => 205 | 25 => 226 | 26 => 138 | 27 => 139 | 28 => 227 | 29 => 228 | 30 => 229 | 31 => 241 | n => n, fun | 26 => 3 | 28 => 172 | 24 => 37 | 0 => 0 | 3 => 3 | 37 => 146 | 48 => 197 | 50 => 42 | 4 => 4 | 40 => 191 | 39 => 190 | 45 => 92 | 5 => 5 | 9 => 9 | 51 => 228 | 55 => 231 | 57 => 260 | 58 => 261 | 33 => 58 | n => n, fun | n => n⟩
theorem Lay.sortedA : Go.Proofs.SlLaysZI.n6 Tryz.prog Lay.sortedA_ren := {
 mixed := by kernel_rfl
 f6 := ⟨Tryz.f84.name, by decide, Tryz.func84.trans (congrArg some (by kernel_rfl))⟩
 f8 := ⟨Tryz.f121.name, by decide, Tryz.func121.trans (congrArg some (by kernel_rfl))⟩
 f11 := ⟨Tryz.f156.name, by decide, Tryz.func156.trans (congrArg some (by kernel_rfl))⟩
 t0 := Tryz.underlying0
 a0 := Tryz.isAgg0
 z0 := Tryz.sizeOf0
 v0 := Tryz.zeroValue0
 t24 := Tryz.underlying37
 a24 := Tryz.isAgg37
 z24 := Tryz.sizeOf37
 v24 := Tryz.zeroValue37
 t26 := Tryz.underlying3
 a26 := Tryz.isAgg3
 z26 := Tryz.sizeOf3
 v26 := Tryz.zeroValue3
 t28 := Tryz.underlying172
 a28 := Tryz.isAgg172
 z28 := Tryz.sizeOf172
 v28 := Tryz.zeroValue172
 i26 := by kernel_rfl }
def Lay.sortA_ren : Go.Shelf.Ren := ⟨fun | 5 => 122 | 8 => 61 | 7 => 157 | 19 => 101 | 20 => 102 | 10 => 197 | 11 => 198 | 12 => 199 | 13 => 200 | 14 => 201 | 15 => 202 | 16 => 203 | 17 => 204 | 18 => 205 | 30 => 226 | 31 => 138 | 32 => 139 | 33 => 227 | 34 => 228 | 35 => 229 | 40 => 241 | n => n, fun | 23 => 37 | 25 => 3 | 3 => 3 | 32 => 146 | 22 => 37 | 0 => 0 | 44 => 197 | 46 => 42 | 4 => 4 | 36 => 191 | 35 => 190 | 41 => 92 | 5 => 5 | 9 => 9 | 53 => 228 | 57 => 231 | 63 => 260 | 64 => 261 | n => n, fun | n => n⟩
theorem Lay.sortA : Go.Proofs.SlLaysM.n5 Tryz.prog Lay.sortA_ren := {
 mixed := by kernel_rfl
 f5 := ⟨Tryz.f122.name, by decide, Tryz.func122.trans (congrArg some (by kernel_rfl))⟩
 f7 := ⟨Tryz.f157.name, by decide, Tryz.func157.trans (congrArg some (by kernel_rfl))⟩
 f8 := Tryz.func61.trans (congrArg some (by kernel_rfl))
 f10 := ⟨Tryz.f197.name, by decide, Tryz.func197.trans (congrArg some (by kernel_rfl))⟩
 f11 := ⟨Tryz.f198.name, by decide, Tryz.func198.trans (congrArg some (by kernel_rfl))⟩
 f12 := ⟨Tryz.f199.name, by decide, Tryz.func199.trans (congrArg some (by kernel_rfl))⟩
 f13 := ⟨Tryz.f200.name, by decide, Tryz.func200.trans (congrArg some (by kernel_rfl))⟩
 f14 := ⟨Tryz.f201.name, by decide, Tryz.func201.trans (congrArg some (by kernel_rfl))⟩
 f15 := ⟨Tryz.f202.name, by decide, Tryz.func202.trans (congrArg some (by kernel_rfl))⟩
 f16 := ⟨Tryz.f203.name, by decide, Tryz.func203.trans (congrArg some (by kernel_rfl))⟩
 f17 := ⟨Tryz.f204.name, by decide, Tryz.func204.trans (congrArg some (by kernel_rfl))⟩
 f18 := ⟨Tryz.f205.name, by decide, Tryz.func205.trans (congrArg some (by kernel_rfl))⟩
 f19 := Tryz.func101.trans (congrArg some (by kernel_rfl))
 f20 := Tryz.func102.trans (congrArg some (by kernel_rfl))
 f30 := ⟨Tryz.f226.name, by decide, Tryz.func226.trans (congrArg some (by kernel_rfl))⟩
 f31 := Tryz.func138.trans (congrArg some (by kernel_rfl))
 f32 := Tryz.func139.trans (congrArg some (by kernel_rfl))
 f33 := ⟨Tryz.f227.name, by decide, Tryz.func227.trans (congrArg some (by kernel_rfl))⟩
 f34 := ⟨Tryz.f228.name, by decide, Tryz.func228.trans (congrArg some (by kernel_rfl))⟩
 f35 := ⟨Tryz.f229.name, by decide, Tryz.func229.trans (congrArg some (by kernel_rfl))⟩
 f40 := ⟨Tryz.f241.name, by decide, Tryz.func241.trans (congrArg some (by kernel_rfl))⟩
 t0 := Tryz.underlying0
 a0 := Tryz.isAgg0
 z0 := Tryz.sizeOf0
 v0 := Tryz.zeroValue0
 t3 := Tryz.underlying3
 a3 := Tryz.isAgg3
 z3 := Tryz.sizeOf3
 v3 := Tryz.zeroValue3
 t4 := Tryz.underlying4
 a4 := Tryz.isAgg4
 z4 := Tryz.sizeOf4
 v4 := Tryz.zeroValue4
 t5 := Tryz.underlying5
 a5 := Tryz.isAgg5
 z5 := Tryz.sizeOf5
 v5 := Tryz.zeroValue5
 t9 := Tryz.underlying9
 a9 := Tryz.isAgg9
 z9 := Tryz.sizeOf9
 v9 := Tryz.zeroValue9
 t22 := Tryz.underlying37
 a22 := Tryz.isAgg37
 z22 := Tryz.sizeOf37
 v22 := Tryz.zeroValue37
 t23 := Tryz.underlying37
 a23 := Tryz.isAgg37
 z23 := Tryz.sizeOf37
 v23 := Tryz.zeroValue37
 t25 := Tryz.underlying3
 a25 := Tryz.isAgg3
 z25 := Tryz.sizeOf3
 v25 := Tryz.zeroValue3
 t32 := Tryz.underlying146
 a32 := Tryz.isAgg146
 z32 := Tryz.sizeOf146
 v32 := Tryz.zeroValue146
 t35 := Tryz.underlying190
 a35 := Tryz.isAgg190
 z35 := Tryz.sizeOf190
 v35 := Tryz.zeroValue190
 t36 := Tryz.underlying191
 a36 := Tryz.isAgg191
 z36 := Tryz.sizeOf191
 v36 := Tryz.zeroValue191
 t41 := Tryz.underlying92
 a41 := Tryz.isAgg92
 z41 := Tryz.sizeOf92
 v41 := Tryz.zeroValue92
 t44 := Tryz.underlying197
 a44 := Tryz.isAgg197
 z44 := Tryz.sizeOf197
 v44 := Tryz.zeroValue197
 t46 := Tryz.underlying42
 a46 := Tryz.isAgg42
 z46 := Tryz.sizeOf42
 v46 := Tryz.zeroValue42
 t53 := Tryz.underlying228
 a53 := Tryz.isAgg228
 z53 := Tryz.sizeOf228
 v53 := Tryz.zeroValue228
 t57 := Tryz.underlying231
 a57 := Tryz.isAgg231
 z57 := Tryz.sizeOf231
 v57 := Tryz.zeroValue231
 t63 := Tryz.underlying260
 a63 := Tryz.isAgg260
 z63 := Tryz.sizeOf260
 v63 := Tryz.zeroValue260
 t64 := Tryz.underlying261
 a64 := Tryz.isAgg261
 z64 := Tryz.sizeOf261
 v64 := Tryz.zeroValue261 }
def Lay.delA_ren : Go.Shelf.Ren := ⟨fun | 5 => 82 | n => n, fun | 23 => 93 | 26 => 3 | 24 => 3 | 27 => 149 | 0 => 0 | 4 => 4 | n => n, fun | n => n⟩
theorem Lay.delA : Go.Proofs.SlLaysDf.n5 Tryz.prog Lay.delA_ren := {
 mixed := by kernel_rfl
 f5 := ⟨Tryz.f82.name, by decide, Tryz.func82.trans (congrArg some (by kernel_rfl))⟩
 t0 := Tryz.underlying0
 a0 := Tryz.isAgg0
 z0 := Tryz.sizeOf0
 v0 := Tryz.zeroValue0
 t4 := Tryz.underlying4
 a4 := Tryz.isAgg4
 z4 := Tryz.sizeOf4
 v4 := Tryz.zeroValue4
 t23 := Tryz.underlying93
 a23 := Tryz.isAgg93
 z23 := Tryz.sizeOf93
 v23 := Tryz.zeroValue93
 a24 := Tryz.isAgg3
 z24 := Tryz.sizeOf3
 a26 := Tryz.isAgg3
 z26 := Tryz.sizeOf3
 t27 := Tryz.underlying149
 a27 := Tryz.isAgg149
 z27 := Tryz.sizeOf149
 v27 := Tryz.zeroValue149 }
open Go.RowKit Go.Sort Go.Maps Go.Shelf Go.WideElems
def litE (p : Int × Value) : Lit × DataW Unit := (.int .i64 p.1, match p.2 with | .int _ v => .lit (.int .i64 v) | _ => .nil)
def wfE (p : Int × Value) : Prop := (Lit.int .i64 p.1).wf = true ∧ ∃ c, p.2 = .int .i64 c ∧ (Lit.int .i64 c).wf = true
theorem rd_litE {P : Program} {k e : TypeId} (hk : P.underlying k = some (.int .i64)) (he : P.underlying e = some (.int .i64)) (p : Int × Value) (hp : wfE p) (x : MapEntry) (h1 : x.key = encI p.1) (h2 : x.val = p.2) :
  rd (H := Unit) P k (plainElem P e) x = some (litE p) := by
 obtain ⟨a, c, hc, hw⟩ := hp
 unfold WideElems.rd
 have e1 : keyOf P k x.key = some (.int .i64 p.1) := by rw [h1]; simp [keyOf, hk, mapKey, encI, a]
 have e2 : plainElem (H := Unit) P e x.val = some (.lit (.int .i64 c), []) := by rw [h2, hc]; exact plainElem_int he hw
 rw [e1, e2]
 unfold litE
 rw [hc]
 rfl
theorem rg_litE {P : Program} {k e : TypeId} (hk : P.underlying k = some (.int .i64)) (he : P.underlying e = some (.int .i64)) (E : List MapEntry) (m : List (Int × Value)) (hm : E.map (fun e => (e.key, e.val)) = m.map (fun p => (encI p.1, p.2))) (hw : ∀ p ∈ m, wfE p) :
  E.map (rg (H := Unit) P k (plainElem P e)) = m.map litE ∧ (∀ x ∈ E, ∃ y, rd (H := Unit) P k (plainElem P e) x = some y) ∧ E.map (·.key) = m.map (fun p => encI p.1) := by
 induction E generalizing m with
 | nil =>
  cases m with
  | nil => simp
  | cons p m => simp at hm
 | cons x E ih =>
  cases m with
  | nil => simp at hm
  | cons p m =>
   simp only [List.map_cons, List.cons.injEq, Prod.mk.injEq] at hm
   obtain ⟨⟨h1, h2⟩, h3⟩ := hm
   obtain ⟨i1, i2, i3⟩ := ih m h3 fun q hq => hw q (by simp [hq])
   have hr := rd_litE hk he p (hw p (by simp)) x h1 h2
   refine ⟨by rw [List.map_cons, List.map_cons, i1, rg_of hr], ?_, by rw [List.map_cons, List.map_cons, i3, h1]⟩
   intro y hy
   rcases List.mem_cons.1 hy with rfl | hy
   ·exact ⟨_, hr⟩
   ·exact i2 y hy
theorem mapOwn {P : Program} {k e : TypeId} (hk : P.underlying k = some (.int .i64)) (he : P.underlying e = some (.int .i64)) {w : World} {r : Nat} {m : List (Int × Value)} (h : MapAt w encI r m) (hw : ∀ p ∈ m, wfE p) (hlen : m.length ≤ maxLen) :
  ∃ ds : List (Lit × DataW Unit), w.ownsMap P k (plainElem P e) r m.length (.map ds) ∧ ds.Perm (m.map litE) := by
 obtain ⟨es, clock, hb, hm, hbn, hnd⟩ := h.ex
 obtain ⟨i1, i2, i3⟩ := rg_litE hk he es.toList m hm hw
 have hsz : es.size = m.length := by
  have := congrArg List.length hm
  simpa using this
 refine ⟨_, ⟨es, clock, hb, ⟨by omega, ⟨hbn, hnd, ?_⟩, i2⟩, by omega, rfl⟩, ?_⟩
 ·rw [i3]
  have := h.nodup
  unfold List.Nodup at *
  rw [List.pairwise_map] at *
  exact this.imp fun hab e => hab (by simpa [encI] using e)
 ·rw [i1]
  exact WideShapes.sorted_perm _
theorem mget_mem {κ : Type} [DecidableEq κ] {m : List (κ × Value)} (hn : (m.map Prod.fst).Nodup) (k : κ) (v : Value) : mget m k = some v ↔ (k, v) ∈ m := by
 induction m with
 | nil => simp [Q2]
 | cons p m ih =>
  simp only [List.map_cons, List.nodup_cons] at hn
  rw [QE]
  by_cases e : p.1 = k
  ·subst e
   rw [if_pos rfl]
   constructor
   ·intro h; cases h; simp
   ·intro h
    rcases List.mem_cons.1 h with h | h
    ·rw [← h]
    ·exact absurd (List.mem_map.2 ⟨_, h, rfl⟩) hn.1
  ·rw [if_neg e, ih hn.2]
   constructor
   ·intro h; exact List.mem_cons_of_mem _ h
   ·intro h
    rcases List.mem_cons.1 h with h | h
    ·rw [← h] at e; exact absurd rfl e
    ·exact h
theorem shOf_len (l : List Lo) : (shOf l).hm.length ≤ l.length := by
 have g : ∀ (l : List Lo) (z : Sh), (l.foldl Ux z).hm.length ≤ z.hm.length + l.length := by
  intro l
  induction l with
  | nil => intro z; simp
  | cons x l ih =>
   intro z
   rw [List.foldl_cons, List.length_cons]
   refine Nat.le_trans (ih _) ?_
   have : (Ux z x).hm.length ≤ z.hm.length + 1 := by
    unfold Ux Yg
    split
    ·split
     ·simp only [mput]; split <;> simp
     ·split
      ·simp only [mdel]; exact Nat.le_succ_of_le (List.length_filter_le _ _)
      ·split <;> simp
    ·simp
   omega
 have := g l ⟨[], []⟩
 simpa [shOf] using this
theorem hold_le (l : List Lo) (h : ∀ x ∈ l, x.k = 1 → x.st ≤ 1000000) (s : Int) : hold l s ≤ 1000000 := by
 have g : ∀ (l : List Lo) (z : Int), z ≤ 1000000 → (∀ x ∈ l, x.k = 1 → x.st ≤ 1000000) → l.foldl (fun acc x => if x.s = s then (if x.k = 1 then x.st else 0) else acc) z ≤ 1000000 := by
  intro l
  induction l with
  | nil => intro z hz _; exact hz
  | cons x l ih =>
   intro z hz hx
   rw [List.foldl_cons]
   refine ih _ ?_ fun y hy => hx y (by simp [hy])
   split
   ·split
    ·exact hx x (by simp) ‹_›
    ·omega
   ·exact hz
 exact g l 0 (by omega) h
theorem loanOk_top {x : Lo} (h : Zs x = true) : (1 ≤ x.s ∧ x.s ≤ 1000000) ∧ (x.k = 1 → x.st ≤ 1000000) := by
 unfold Zs at h
 simp only [Bool.and_eq_true] at h
 obtain ⟨⟨_, h1⟩, h2⟩ := h
 refine ⟨by simpa [inB] using h1, fun hk => ?_⟩
 simp [hk, inB] at h2
 exact h2.1.2
theorem wf_small {n : Int} (h : 0 ≤ n ∧ n ≤ 1000000000) : (Lit.int .i64 n).wf = true := by
 simp [Lit.wf, IntKind.min, IntKind.max, IntKind.bits, IntKind.signed]; omega
theorem hm_wf {l : List Lo} (hv : QP l = true) (time : Int) (hn : ((shOf (upTo l time)).hm.map Prod.fst).Nodup) : ∀ p ∈ (shOf (upTo l time)).hm, wfE p := by
 rintro ⟨x, v⟩ hp
 have hg := (mget_mem hn x v).2 hp
 rw [(Qap hv time x).1] at hg
 split at hg
 ·rename_i h0
  obtain rfl : Value.int .i64 (hold (upTo l time) x) = v := by simpa using hg
  have hx : 1 ≤ x ∧ x ≤ 1000000 := by
   refine Classical.byContradiction fun hne => ?_
   have := hold_none (upTo l time) x (fun y hy e => hne (by rw [← e]; exact (loanOk_top (Qan hv y (Qay y hy))).1))
   omega
  have hh := hold_le (upTo l time) (fun y hy => (loanOk_top (Qan hv y (Qay y hy))).2) x
  exact ⟨wf_small (by omega), _, rfl, wf_small (by omega)⟩
 ·cases hg
def Qae (stand : Int) (_ : Lit) : DataW Unit → Bool
 | .lit (.int _ v) => decide (v ≠ stand)
 | _ => true
theorem kept_keys {m : List (Int × Value)} (hn : (m.map Prod.fst).Nodup) (hw : ∀ p ∈ m, wfE p) (stand : Int) {ds : List (Lit × DataW Unit)} (hp : ds.Perm (m.map litE)) {ks : List Int} (hk : ks.Perm (intKeys (Lib.deleteFuncD (Qae stand) (.map ds)))) :
  ks.Nodup ∧ ∀ x, x ∈ ks ↔ mget m x = some (.int .i64 stand) := by
 have e1 : intKeys (Lib.deleteFuncD (Qae stand) (.map ds)) = (ds.filter fun p => !Qae stand p.1 p.2).map fun p => Go.intOf p.1 := rfl
 rw [e1] at hk
 have hp2 : ks.Perm (((m.map litE).filter fun p => !Qae stand p.1 p.2).map fun p => Go.intOf p.1) := hk.trans ((hp.filter _).map _)
 rw [List.filter_map, List.map_map] at hp2
 have e2 : (m.filter ((fun p => !Qae stand p.1 p.2) ∘ litE)).map ((fun p => Go.intOf p.1) ∘ litE) = (m.filter ((fun p => !Qae stand p.1 p.2) ∘ litE)).map Prod.fst := by
  refine List.map_congr_left fun p _ => ?_
  rfl
 rw [e2] at hp2
 constructor
 ·rw [hp2.nodup_iff]
  exact hn.sublist (List.filter_sublist.map _)
 ·intro x
  rw [hp2.mem_iff, mget_mem hn, List.mem_map]
  constructor
  ·rintro ⟨⟨a, v⟩, hq, rfl⟩
   obtain ⟨hq1, hq2⟩ := List.mem_filter.1 hq
   obtain ⟨_, c, hc, _⟩ := hw _ hq1
   simp only at hc
   subst hc
   have : c = stand := by simpa [litE, Qae] using hq2
   subst this
   exact hq1
  ·intro hq
   exact ⟨_, List.mem_filter.2 ⟨hq, by simp [litE, Qae]⟩, rfl⟩
end Go.Proofs.YtajijcfikihhjaaGreatDoor
