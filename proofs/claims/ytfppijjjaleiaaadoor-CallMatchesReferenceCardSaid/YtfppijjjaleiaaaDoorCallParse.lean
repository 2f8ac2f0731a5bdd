
/- call.Parse. -/
import Derived.Test.YtfppijjjaleiaaaDoorCallCatch
import Derived.Test.YtfppijjjaleiaaaDoorScRnd
import Derived.Deep.OwnRows
namespace Go.Proofs.YtfppijjjaleiaaaDoor
set_option linter.unusedSimpArgs false
set_option linter.unusedVariables false
open Go.RowKit Go.Sort Go.Shelf
attribute [local go_sem] Oper.semAt_some

/-- append onto a slice of the call's own, as an operation by itself. -/
theorem oper_appR {P : Program} {w : World} {o : Oper} {a : Act} {K : Act → World → Prop} {Q : Exit → Act → World → Prop} {T E : TypeId} {sz bytes : Nat} {α : Type} {f : α → List Value} (he : Elt P T E sz bytes f)
    (s x : Operand) (ho : o.op = .call { callee := .builtin .append, args := #[s, x], argTypes := #[T, T] })
    (B : Nat) (v : Value) (l : List α) (hs : a.eval s = v) (hown : OwnR w B E sz v (l.map f))
    (ad : Option Addr) (m c : Nat) (news : List α) (hx : a.eval x = .slice ad m c) (hm : m = news.length) (hc0 : ad = none → c = 0) (hnews : SlAt w ad sz (news.map f))
    (hlen : (l.length + news.length) * bytes ≤ 140737488355328) (h63 : l.length + news.length ≤ maxLen) (hbase : B ≤ w.heap.size)
    (h : ∀ v' w', OwnR w' B E sz v' ((l ++ news).map f) → w.grownBy w' v.ownBlock → K (a.put o.dst v') w') : Oper.wp P o a w K Q := by
  obtain ⟨z, hi, hz⟩ := he.info
  obtain ⟨i, hi, hz0, hz1, hz2⟩ := info_parts hi
  subst hm
  have hwn : ∀ r ∈ news.map f, r.length = sz := fun r hr => by obtain ⟨y, _, rfl⟩ := List.mem_map.1 hr; exact he.len y
  have hww : ∀ r ∈ (l ++ news).map f, r.length = sz := fun r hr => by obtain ⟨y, _, rfl⟩ := List.mem_map.1 hr; exact he.len y
  have hown' := hown.own
  rw [List.length_map] at hown'
  cases ad with
  | none =>
    have hn : news = [] := by
      cases news with
      | nil => rfl
      | cons r news => obtain ⟨_, _, e, _⟩ := hnews 0 (f r) rfl; cases e
    subst hn
    obtain rfl := hc0 rfl
    have hrun := run_append_owned_none (P := P) (w := w) B T o.type E i sz he.ty (by rw [hi]) v l.length (l.map f).flatten hown'
    unfold Oper.wp
    simp [execOp, ho, resolve, invoke, builtin, hs, hx, hrun, Result.andThen]
    exact h v w (by rw [List.append_nil]; exact hown) (World.grownBy.refl w _)
  | some ad =>
    have hcell : ∀ j u, (news.map f).flatten[j]? = some u → w.cell? (ad.add j) = some u := by
      intro j u hj
      obtain ⟨i', j', r, g1, _, _⟩ := flat_inv (news.map f) sz hwn j u hj
      obtain ⟨b, off, e, _⟩ := hnews i' r g1
      cases e
      exact hnews.flat j u hj
    refine wp_append_own (P := P) w s x T ho B E i z sz bytes he.ty hi hz0 hz1 hz2 hz he.pos v l.length (l.map f).flatten hs hown' ad news.length c (news.map f).flatten hx (by rw [flat_len _ sz hwn, List.length_map]) hcell
      (oneCell_flat fun r hr u hu => by obtain ⟨y, _, rfl⟩ := List.mem_map.1 hr; exact he.one y u hu) h63 hlen hbase fun v' w' ho' hg _ => h v' w' ⟨hww, by rw [List.length_map, List.length_append, List.map_append, List.flatten_append]; exact ho'⟩ hg
theorem step_of {P : Program} {ops : Array Oper} {o : Oper} {a : Act} {w : World} {K : Act → World → Prop} {Q : Exit → Act → World → Prop} {F : Prop} (hg : o.guard = none) (h : Oper.wp P o a w K Q) : if Region.wanted o (yielded ops a.tmps) = true then Oper.wp P o a w K Q else F := by
  rw [if_pos (by simp [Region.wanted, hg])]; exact h
theorem putB {n0 : Nat} (w : World) {k : Nat} (o : Obj) (h : n0 ≤ k) : Below n0 w (w.putObj k o) := ⟨rfl, rfl, rfl, by simp, fun i hi => World.putObj_heap_other (by omega)⟩
theorem set6_far {w : World} {b c : Nat} {o : Obj} (h : w.heap[b]? = some o) (hne : b ≠ c) (v0 v1 v2 v3 v4 v5 : Value) : ((((((w.setCell ⟨c, 0, none⟩ v0).setCell ⟨c, 1, none⟩ v1).setCell ⟨c, 2, none⟩ v2).setCell ⟨c, 3, none⟩ v3).setCell ⟨c, 4, none⟩ v4).setCell ⟨c, 5, none⟩ v5).heap[b]? = some o :=
  set1_far (set1_far (set1_far (set1_far (set1_far (set1_far h hne _) hne _) hne _) hne _) hne _) hne _
theorem set6_below {n0 c : Nat} {w0 w : World} (h : Below n0 w0 w) (hc : n0 ≤ c) (v0 v1 v2 v3 v4 v5 : Value) : Below n0 w0 ((((((w.setCell ⟨c, 0, none⟩ v0).setCell ⟨c, 1, none⟩ v1).setCell ⟨c, 2, none⟩ v2).setCell ⟨c, 3, none⟩ v3).setCell ⟨c, 4, none⟩ v4).setCell ⟨c, 5, none⟩ v5) :=
  (((((h.setCell (p := ⟨c, 0, none⟩) hc _).setCell (p := ⟨c, 1, none⟩) hc _).setCell (p := ⟨c, 2, none⟩) hc _).setCell (p := ⟨c, 3, none⟩) hc _).setCell (p := ⟨c, 4, none⟩) hc _).setCell (p := ⟨c, 5, none⟩) hc _
theorem OwnR.cap {w : World} {B : Nat} {E : TypeId} {sz : Nat} {v : Value} {rows : List (List Value)} (h : OwnR w B E sz v rows) : ∀ (c : Nat) (p : Option Addr) (n : Nat), v = .slice p n c → c ≤ maxLen := by
  rintro c p n rfl
  obtain ⟨_, _, h2⟩ := h
  rcases h2 with ⟨e, _⟩ | ⟨g, cap, cur, e, hB, hc, hle, hm, _⟩
  · cases e; exact Nat.zero_le _
  · cases e; exact hm
theorem OwnR.ownAt {w : World} {B : Nat} {E : TypeId} {sz b o n c : Nat} {rows : List (List Value)} (h : OwnR w B E sz (.slice (some ⟨b, o, none⟩) n c) rows) : ∀ {v : Value}, v = .slice (some ⟨b, o, none⟩) n c → v.ownBlock = some b := by
  rintro v rfl
  obtain ⟨_, _, h2⟩ := h
  rcases h2 with ⟨e, _⟩ | ⟨g, cap, cur, e, hB, hc, hle, hm, _⟩
  · cases e
  · cases e; rfl
abbrev strC (s : Bs) : List Value := [.string (mkS s)]
theorem eltS : Elt Tryd.prog 35 9 1 16 strC := ⟨Tryd.underlying35, ⟨.string ⟨#[]⟩, by kernel_rfl, by kernel_rfl⟩, by decide, by decide, fun _ => rfl, fun x u hu => by simp [strC] at hu; subst hu; rfl⟩
def ParsePost (s : Bs) (w : World) (e : Ending) (w' : World) : Prop :=
  e = .returned (.tuple #[.agg #[.string (mkS (parseC s).1.letter), .int .i64 (parseC s).1.number, .int .i64 (parseC s).1.bars, .int .i64 (parseC s).1.n, .int .i64 (parseC s).1.d, .int .i64 (parseC s).1.pass], .int .i64 (parseC s).2]) ∧ Below w.heap.size w w'
set_option maxRecDepth 100000 in
set_option maxHeartbeats 2000000 in
theorem parse_long (s : Bs) (w : World) (hs : 200 < s.length) : Calls Tryd.prog 14 #[.string (mkS s)] w (ParsePost s w) := by
  have HP := Lib.hid (show parseC s = (⟨[], 0, 0, 0, 0, 0⟩, 2) by unfold parseC; rw [if_pos hs])
  have hz : ((mkS s).size : Int) = (s.length : Int) := rfl
  have hl : (200 : Int) < (s.length : Int) := by omega
  obtain ⟨x1, x2, hb⟩ := box2 (w := w) (A := .cells #[.string ⟨#[]⟩, .int .i64 0, .int .i64 0, .int .i64 0, .int .i64 0, .int .i64 0] 25) (B := .cells #[.int .i64 2] 27) (Below.refl _ _)
  have HB := Lib.hid hb; clear hb
  go_enter Tryd.func14, Tryd.ntmps14
  go_wp2
  generalize (w.alloc (.cells #[.string ⟨#[]⟩, .int .i64 0, .int .i64 0, .int .i64 0, .int .i64 0, .int .i64 0] 25)).alloc (.cells #[.int .i64 2] 27) = W at *
  have hc1 := box_cells x1; have hf1 := box_free x1; have hc2 := box_cells x2; have hf2 := box_free x2
  exact bodyPost_ret (v := .tuple #[.agg #[.string ⟨#[]⟩, .int .i64 0, .int .i64 0, .int .i64 0, .int .i64 0, .int .i64 0], .int .i64 2]) (by simp [results, Tryd.results14, go_sem, hc1, hf1, hc2, hf2]) rfl ⟨by rw [HP.out]; rfl, HB.out⟩
set_option maxRecDepth 100000 in
set_option maxHeartbeats 8000000 in
theorem parse_short (s : Bs) (w : World) (hs : s.length ≤ 200) (hE : EnvB w.heap.size w) : Calls Tryd.prog 14 #[.string (mkS s)] w (ParsePost s w) := by
  have HE := Lib.hid hE; clear hE
  have hz : ((mkS s).size : Int) = (s.length : Int) := rfl
  have hl : ¬ (200 : Int) < (s.length : Int) := by omega
  have hmf : ∀ (fn : Fn) (first cap : Array Value) (w : World), (Instr.makeFunc fn first cap).run Tryd.prog w = .ok (.func fn first cap) w := fun _ _ _ _ => rfl
  refine (callsIn_wide (n := 8)).1 ?_
  refine callsIn_of_wp_marks Tryd.func14 rfl trivial ?_ rfl
  simp only [Tryd.ntmps14, List.size_toArray, List.length_cons, List.length_nil, Nat.reduceAdd, Nat.reduceSub, Array.replicate_succ, Array.replicate_zero, List.push_toArray, List.append_toArray, List.nil_append, List.cons_append]
  refine wpIn_wide.2 ?_
  go_upto_region 5 with (fail)
  obtain ⟨w3, hw3⟩ : ∃ w3, w3 = ((((w.alloc (.cells #[.string ⟨#[]⟩, .int .i64 0, .int .i64 0, .int .i64 0, .int .i64 0, .int .i64 0] 25)).alloc (.cells #[.int .i64 0] 27)).alloc (.cells #[.string ⟨#[]⟩, .int .i64 0, .int .i64 0, .int .i64 0, .int .i64 0, .int .i64 0, .slice none 0 0] 48)).alloc (.cells #[.pointer (some ⟨w.heap.size + 1 + 1, 0, none⟩)] 46)) := ⟨_, rfl⟩
  rw [← hw3]
  have hz3 : w3.heap.size = w.heap.size + 4 := by rw [hw3]; simp
  have k0 : w3.heap[w.heap.size]? = some (.cells #[.string ⟨#[]⟩, .int .i64 0, .int .i64 0, .int .i64 0, .int .i64 0, .int .i64 0] 25) := by rw [hw3]; exact up_alloc (up_alloc (up_alloc (heap_alloc_new w _) _) _) _
  have k1 : w3.heap[w.heap.size + 1]? = some (.cells #[.int .i64 0] 27) := by rw [hw3]; exact up_alloc (up_alloc (at_alloc _ _ (by simp)) _) _
  have k2 : w3.heap[w.heap.size + 1 + 1]? = some (.cells #[.string ⟨#[]⟩, .int .i64 0, .int .i64 0, .int .i64 0, .int .i64 0, .int .i64 0, .slice none 0 0] 48) := by rw [hw3]; exact up_alloc (at_alloc _ _ (by simp)) _
  have k3 : w3.heap[w.heap.size + 1 + 1 + 1]? = some (.cells #[.pointer (some ⟨w.heap.size + 1 + 1, 0, none⟩)] 46) := by rw [hw3]; exact at_alloc _ _ (by simp)
  have hb3 : Below w.heap.size w w3 := by rw [hw3]; exact ((((Below.refl _ w).alloc (Nat.le_refl _) _).alloc (by simp) _).alloc (by simp; omega) _).alloc (by simp; omega) _
  clear hw3 hl hmf
  go_wp2_with (go_at_call 27; refine (words_fn _ _).mono ?_; rintro e w7 ⟨rfl, hw7⟩; have HW7 := Lib.hid hw7; clear hw7)
  have hw7 := HW7.out; clear HW7
  have k4 : w7.heap[w3.heap.size]? = some (.cells #[.string (mkS s)] 9) := by rw [hw7]; exact heap_alloc_new _ _
  have hb7 : Below w3.heap.size w3 w7 := by rw [hw7]; exact below_box _
  have hz7 : w7.heap.size = w.heap.size + 5 := by rw [hw7]; simp; omega
  clear hw7
  replace k0 := blk_keep k0 hb7; replace k1 := blk_keep k1 hb7; replace k2 := blk_keep k2 hb7; replace k3 := blk_keep k3 hb7
  have hB7 : Below w.heap.size w w7 := hb3.trans (hb7.mono (by omega))
  rw [hz3] at k4
  clear hb3 hb7 hz3
  refine (wpIn_wide (n := 8)).1 ?_
  refine rangeFunc_sets (α := Bs) rfl (by omega) (gf := 38) (lb := #[.pointer (some ⟨w.heap.size + 4, 0, none⟩)]) rfl trivial (enters_of Tryd.func38 (by kernel_rfl) rfl)
    (encs := encS) (fun _ => rfl) (Kp := Kept2 w7.heap.size (w.heap.size + 1 + 1) (w.heap.size + 1 + 1)) (S := fun xs => xs = wordsL s) (Ok := fun x _ => x.length ≤ 200) (N := 201) (bl := w.heap.size + 4) (by omega) ?hseq Kept2.trans ?hKb
    (fun pre V => ∃ v, V.heap[w.heap.size + 1 + 1]? = some (.cells #[.string ⟨#[]⟩, .int .i64 0, .int .i64 0, .int .i64 0, .int .i64 0, .int .i64 0, v] 48) ∧ OwnR V w7.heap.size 9 1 v (pre.map strC) ∧ pre.length ≤ 201 ∧ (∀ x ∈ pre, x.length ≤ 200) ∧ Below w.heap.size w V ∧ w7.heap.size ≤ V.heap.size ∧ V.heap[w.heap.size]? = some (.cells #[.string ⟨#[]⟩, .int .i64 0, .int .i64 0, .int .i64 0, .int .i64 0, .int .i64 0] 25) ∧ V.heap[w.heap.size + 1]? = some (.cells #[.int .i64 0] 27) ∧ V.heap[w.heap.size + 1 + 1 + 1]? = some (.cells #[.pointer (some ⟨w.heap.size + 1 + 1, 0, none⟩)] 46))
    ?hI ?hIk ?h0
    (fun x a' V => x.length ≤ 200 ∧ a' = { tmps := #[.string (mkS s), undef, .pointer (some ⟨w.heap.size, 0, none⟩), .pointer (some ⟨w.heap.size + 1, 0, none⟩), .pointer (some ⟨w.heap.size + 1 + 1 + 1, 0, none⟩), .string (mkS x), .string (mkS s), .int .i64 (s.length : Int), .bool false, undef, .func (.func 26) #[] #[.pointer (some ⟨w.heap.size, 0, none⟩), .pointer (some ⟨w.heap.size + 1, 0, none⟩)], .agg #[.string ⟨#[]⟩, .int .i64 0, .int .i64 0, .int .i64 0, .int .i64 0, .int .i64 0, .slice none 0 0], .pointer (some ⟨w.heap.size + 1 + 1, 0, none⟩), .string (mkS s), .func (.func 38) #[] #[.pointer (some ⟨w.heap.size + 4, 0, none⟩)], .string (mkS x), undef, undef, undef, undef, undef, undef, undef, undef, undef, undef, undef, undef, undef, undef, undef, undef, undef, undef, undef, undef, undef], defers := [] })
    ?hAx ?hassign ?hbody ?hdone
  case hseq =>
    intro l0 J W hW hbl hJ hY h0
    exact words1_in 7 (by omega) l0 (w.heap.size + 4) w7.heap.size (w.heap.size + 1 + 1) s J W hs (hbl.trans k4) ⟨by omega, by omega, hW.size⟩ hJ hY h0
  case hKb =>
    intro V l0 o o' hl0 hW _ _
    exact (Kept2.refl _ _ _ _).trans ⟨by simp, fun k hk _ _ => World.putObj_heap_other (by omega)⟩
  case hI =>
    rintro pre V V' row ⟨v, j1, j2, j3, j4, j5, j6, j7, j8, j9⟩ hg hrow
    exact ⟨v, blk_keptRow j1 hg hrow (by omega), j2.keptRow hg (fun r e => (hrow r e).2), j3, j4, j5.grown hg j5.size (fun k e => by have := (hrow k e).1; omega), Nat.le_trans j6 hg.size, blk_keptRow j7 hg hrow (by omega), blk_keptRow j8 hg hrow (by omega), blk_keptRow j9 hg hrow (by omega)⟩
  case hIk =>
    rintro pre X Y ⟨v, j1, j2, j3, j4, j5, j6, j7, j8, j9⟩ hk
    have hg := hk.asGrown
    exact ⟨v, hk.at_ j1 (lt_blk j1) (by simp <;> omega), j2.kept hg (.inr (fun e => by have := (j2.lt _ e).1; omega)), j3, j4, hk.onBelow j5 j5.size (fun b hb => by simp at hb; omega), Nat.le_trans j6 hk.size, hk.at_ j7 (lt_blk j7) (by simp <;> omega), hk.at_ j8 (lt_blk j8) (by simp <;> omega), hk.at_ j9 (lt_blk j9) (by simp <;> omega)⟩
  case h0 =>
    exact ⟨_, k2, OwnR.nil _ _ _ _, by simp, (fun x hx => by cases hx), hB7, Nat.le_refl _, k0, k1, k3⟩
  case hAx =>
    rintro x a' u V V' row ⟨h1, h2⟩ hg hrow
    exact ⟨h1, h2⟩
  case hassign =>
    rintro l0 pre x V K hi hok hK
    gi_wp2
    exact hK _ _ ((KeepsOthers.refl _).from _) (Kept2.refl _ _ _ _) hi ⟨hok, rfl⟩
  case hbody =>
    rintro l0 pre x a' V hl0 ⟨v, j1, j2, j3, j4, j5, j6, j7, j8, j9⟩ ⟨hxl, rfl⟩ hlt
    have hcp := box_cells j9
    have hv6 : V.cell? ⟨w.heap.size + 1 + 1, 6, none⟩ = some v := box_cells j1 6
    gi_upto_region 7 with (fail)
    refine region_round_held (S := fun w' => w'.heap[w.heap.size + 1 + 1 + 1]? = some (.cells #[.pointer (some ⟨w.heap.size + 1 + 1, 0, none⟩)] 46)) (by kernel_rfl) (by kernel_rfl) j9 (fun hHeld => ?_)
    (refine wpAnyH_take1 0 (oi := ?_) (v := ?_) ?_ (by kernel_rfl) (by kernel_rfl) (by kernel_rfl) (by assumption) ?_ ?_ ?_; rotate_left 2; (· simp only [List.getElem?_toArray, List.getElem?_cons_succ, List.getElem?_cons_zero]; try rfl); (· refine ⟨by kernel_rfl, ?_⟩; intro wq hSw; have hx := box_cells hSw; go_simp; first | done | with_reducible rfl); (· exact fun _ _ _ h => h); try simp only [Act.put, List.setIfInBounds_toArray, List.set_cons_zero, List.set_cons_succ])
    (refine wpAnyH_take1 1 (oi := ?_) (v := ?_) ?_ (by kernel_rfl) (by kernel_rfl) (by kernel_rfl) (by assumption) ?_ ?_ ?_; rotate_left 2; (· simp only [List.getElem?_toArray, List.getElem?_cons_succ, List.getElem?_cons_zero]; try rfl); (· refine ⟨by kernel_rfl, ?_⟩; intro wq hSw; have hx := box_cells hSw; go_simp; first | done | with_reducible rfl); (· exact fun _ _ _ h => h); try simp only [Act.put, List.setIfInBounds_toArray, List.set_cons_zero, List.set_cons_succ])
    (refine wpAnyH_take1 2 (oi := ?_) (v := ?_) ?_ (by kernel_rfl) (by kernel_rfl) (by kernel_rfl) (by assumption) ?_ ?_ ?_; rotate_left 2; (· simp only [List.getElem?_toArray, List.getElem?_cons_succ, List.getElem?_cons_zero]; try rfl); (· refine ⟨by kernel_rfl, ?_⟩; intro wq hSw; have hx := box_cells hSw; go_simp; first | done | with_reducible rfl); (· exact fun _ _ _ h => h); try simp only [Act.put, List.setIfInBounds_toArray, List.set_cons_zero, List.set_cons_succ])
    (refine wpAnyH_take1 3 (oi := ?_) (v := ?_) ?_ (by kernel_rfl) (by kernel_rfl) (by kernel_rfl) (by assumption) ?_ ?_ ?_; rotate_left 2; (· simp only [List.getElem?_toArray, List.getElem?_cons_succ, List.getElem?_cons_zero]; try rfl); (· refine ⟨by kernel_rfl, ?_⟩; intro wq hSw; have hx := box_cells hSw; go_simp; first | done | with_reducible rfl); (· exact fun _ _ _ h => h); try simp only [Act.put, List.setIfInBounds_toArray, List.set_cons_zero, List.set_cons_succ])
    (refine wpAnyH_take1 5 (oi := ?_) (v := ?_) ?_ (by kernel_rfl) (by kernel_rfl) (by kernel_rfl) (by assumption) ?_ ?_ ?_; rotate_left 2; (· simp only [List.getElem?_toArray, List.getElem?_cons_succ, List.getElem?_cons_zero]; try rfl); (· refine ⟨by kernel_rfl, ?_⟩; intro wq hSw; have hx := box_cells hSw; go_simp; first | done | with_reducible rfl); (· exact fun _ _ _ h => h); try simp only [Act.put, List.setIfInBounds_toArray, List.set_cons_zero, List.set_cons_succ])
    have J2d := Lib.hid (j2.below (Below.refl _ _).drew); have J1d := Lib.hid (show V.drew.heap[w.heap.size + 1 + 1]? = _ from j1)
    have J5d := Lib.hid (show Below w.heap.size w V.drew from j5.drew)
    have hszd : w7.heap.size ≤ V.drew.heap.size := j6
    have hv6d : V.drew.cell? ⟨w.heap.size + 1 + 1, 6, none⟩ = some v := hv6
    have HVd := Lib.hid (show ∀ k : Nat, V.drew.heap[k]? = V.heap[k]? from fun k => rfl)
    have HVsz := Lib.hid (show V.drew.heap.size = V.heap.size from rfl)
    have hzz := hz7
    clear hz hcp
    generalize V.drew = wd at *
    (refine wpAnyH_two (i := 4) (j := 6) (o := ?_) (o' := ?_) (by kernel_rfl) ?_ ?_ (fun K hK => ?_) (fun K hK => ?_); rotate_left 2; (· simp only [List.getElem?_toArray, List.getElem?_cons_succ, List.getElem?_cons_zero]; try rfl); (· simp only [List.getElem?_toArray, List.getElem?_cons_succ, List.getElem?_cons_zero]; try rfl))
    · go_simp
      refine hK.out _ _ hHeld (fun hHeld2 => ?_)
      clear hK K
      (try simp only [Act.put, List.setIfInBounds_toArray, List.set_cons_zero, List.set_cons_succ])
      (refine wpAnyH_call1 (i := 6) (o := ?_) (by kernel_rfl) ?_ (fun K hK => ?_); rotate_left 1; (· simp only [List.getElem?_toArray, List.getElem?_cons_succ, List.getElem?_cons_zero]; try rfl); go_simp)
      refine hK.out _ _ (up_alloc hHeld2 _) (fun hHeld3 => ?_)
      clear hK K
      (try simp only [Act.put, List.setIfInBounds_toArray, List.set_cons_zero, List.set_cons_succ])
      (refine wpAnyH_call1 (i := 7) (o := ?_) (by kernel_rfl) ?_ (fun K hK => ?_); rotate_left 1; (· simp only [List.getElem?_toArray, List.getElem?_cons_succ, List.getElem?_cons_zero]; try rfl))
      refine step_of rfl (oper_appR eltS (.tmp 20) (.tmp 22) rfl w7.heap.size v pre rfl (J2d.out.below (below_box _)) _ _ _ [x] rfl rfl (fun e => by cases e) (eltS.new _ x _ _ rfl) (by simp; omega) (by unfold maxLen; simp; omega) (by simp; omega) ?_)
      intro v2 w2 ho2 hg2
      obtain ⟨a9, c9, e9, _, _⟩ := ho2.slAt
      rw [show ((pre ++ [x]).map strC).length = pre.length + 1 by simp] at e9
      subst e9
      have hkp2 := (hg2.block _ (by simp; omega) (J2d.out.neBlk (by omega))).trans hHeld3
      have hkr2 := (hg2.block (w.heap.size + 1 + 1) (by simp; omega) (J2d.out.neBlk (by omega))).trans (up_alloc J1d.out (.cells #[.string (mkS x)] 9))
      have hb2 := (J5d.out.alloc J5d.out.size (.cells #[.string (mkS x)] 9)).grown hg2 (by simp; omega) (fun k e => by have := (J2d.out.lt k e).1; omega)
      refine hK.out _ _ hkp2 (fun hHeld4 => ?_)
      clear hK K
      (try simp only [Act.put, List.setIfInBounds_toArray, List.set_cons_zero, List.set_cons_succ])
      (refine wpAnyH_take1 8 (oi := ?_) (v := ?_) ?_ (by kernel_rfl) (by kernel_rfl) (by kernel_rfl) (by assumption) ?_ ?_ ?_; rotate_left 2; (· simp only [List.getElem?_toArray, List.getElem?_cons_succ, List.getElem?_cons_zero]; try rfl); (· refine ⟨by kernel_rfl, ?_⟩; intro wq hSw; have hx := box_cells hSw; go_simp; first | done | with_reducible rfl); (· exact fun _ _ _ h => h); try simp only [Act.put, List.setIfInBounds_toArray, List.set_cons_zero, List.set_cons_succ])
      (refine wpAnyH_take1 9 (oi := ?_) (v := ?_) ?_ (by kernel_rfl) (by kernel_rfl) (by kernel_rfl) (by assumption) ?_ ?_ ?_; rotate_left 2; (· simp only [List.getElem?_toArray, List.getElem?_cons_succ, List.getElem?_cons_zero]; try rfl); (· refine ⟨by kernel_rfl, ?_⟩; intro wq hSw; have hx := box_cells hSw; go_simp; first | done | with_reducible rfl); (· exact fun _ _ _ h => h); try simp only [Act.put, List.setIfInBounds_toArray, List.set_cons_zero, List.set_cons_succ])
      have hcr := box_cells hkr2; have hfr := box_free hkr2
      (refine wpAnyH_call1 (i := 10) (o := ?_) (by kernel_rfl) ?_ (fun K hK => ?_); rotate_left 1; (· simp only [List.getElem?_toArray, List.getElem?_cons_succ, List.getElem?_cons_zero]; try rfl); go_simp)
      refine hK.out _ _ (set1_far hHeld4 (by omega) _) (fun hHeld5 => ?_)
      clear hK K
      refine wpAnyH_done (by kernel_rfl) ?_ _
      refine OnlyN.normal ?_
      have HS := Lib.hid (show ∀ k : Nat, k < V.heap.size → k ≠ w.heap.size + 1 + 1 → some k ≠ v.ownBlock → (w2.setCell ⟨w.heap.size + 1 + 1, 6, none⟩ (.slice a9 (pre.length + 1) c9)).heap[k]? = V.heap[k]? from fun k h1 h2 h3 => (Below.heap_setCell _ _ _ k h2).trans ((hg2.block k (by simp; have := HVsz.out; omega) h3).trans ((Below.heap_alloc _ _ _ (by have := HVsz.out; omega)).trans (HVd.out k))))
      have HSz := Lib.hid (show V.heap.size ≤ (w2.setCell ⟨w.heap.size + 1 + 1, 6, none⟩ (.slice a9 (pre.length + 1) c9)).heap.size by have := hg2.size; have := HVsz.out; simp at *; omega)
      have HK := Lib.hid (heap_setCell_same _ _ 6 _ _ (.slice a9 (pre.length + 1) c9) hkr2)
      have HO := Lib.hid (ho2.setFar (b := w.heap.size + 1 + 1) (j := 6) (fun k hk => by have := (ho2.lt k hk).1; omega) (.slice a9 (pre.length + 1) c9))
      have HBf := Lib.hid (hb2.setCell (p := ⟨w.heap.size + 1 + 1, 6, none⟩) (show w.heap.size ≤ w.heap.size + 1 + 1 by omega) (.slice a9 (pre.length + 1) c9))
      have H7 := Lib.hid hz7
      have hs := HS.out; have hsz := HSz.out; have h7 := H7.out
      refine ⟨rfl, ⟨hsz, fun k o hk h0 ho => (hs k (lt_blk h0) (by omega) (fun e => by obtain ⟨cur, hc⟩ := j2.isCells e.symm; rw [h0] at hc; cases hc; cases ho)).trans h0⟩, ⟨hsz, fun k hk ha hb => hs k (by omega) ha (j2.neBlk hk)⟩, _, HK.out, HO.out, by simp; omega, ?_, HBf.out, Nat.le_trans j6 hsz, (hs _ (lt_blk j7) (by omega) (j2.neBlk (by omega))).trans j7, (hs _ (lt_blk j8) (by omega) (j2.neBlk (by omega))).trans j8, (hs _ (lt_blk j9) (by omega) (j2.neBlk (by omega))).trans j9⟩
      intro y hy
      rcases List.mem_append.1 hy with hy | hy
      · exact j4 y hy
      · rw [List.mem_singleton] at hy; rw [hy]; exact hxl
    · go_simp
      refine hK.out _ _ (up_alloc hHeld _) (fun hHeld2 => ?_)
      clear hK K
      (try simp only [Act.put, List.setIfInBounds_toArray, List.set_cons_zero, List.set_cons_succ])
      have hv6e : (wd.alloc (.cells #[.string (mkS x)] 9)).cell? ⟨w.heap.size + 1 + 1, 6, none⟩ = some v := box_cells (up_alloc J1d.out _) 6
      (refine wpAnyH_call1 (i := 4) (o := ?_) (by kernel_rfl) ?_ (fun K hK => ?_); rotate_left 1; (· simp only [List.getElem?_toArray, List.getElem?_cons_succ, List.getElem?_cons_zero]; try rfl); go_simp)
      refine hK.out _ _ hHeld2 (fun hHeld3 => ?_)
      clear hK K
      (try simp only [Act.put, List.setIfInBounds_toArray, List.set_cons_zero, List.set_cons_succ])
      (refine wpAnyH_call1 (i := 7) (o := ?_) (by kernel_rfl) ?_ (fun K hK => ?_); rotate_left 1; (· simp only [List.getElem?_toArray, List.getElem?_cons_succ, List.getElem?_cons_zero]; try rfl))
      refine step_of rfl (oper_appR eltS (.tmp 20) (.tmp 22) rfl w7.heap.size v pre rfl (J2d.out.below (below_box _)) _ _ _ [x] rfl rfl (fun e => by cases e) (eltS.new _ x _ _ rfl) (by simp; omega) (by unfold maxLen; simp; omega) (by simp; omega) ?_)
      intro v2 w2 ho2 hg2
      obtain ⟨a9, c9, e9, _, _⟩ := ho2.slAt
      rw [show ((pre ++ [x]).map strC).length = pre.length + 1 by simp] at e9
      subst e9
      have hkp2 := (hg2.block _ (by simp; omega) (J2d.out.neBlk (by omega))).trans hHeld3
      have hkr2 := (hg2.block (w.heap.size + 1 + 1) (by simp; omega) (J2d.out.neBlk (by omega))).trans (up_alloc J1d.out (.cells #[.string (mkS x)] 9))
      have hb2 := (J5d.out.alloc J5d.out.size (.cells #[.string (mkS x)] 9)).grown hg2 (by simp; omega) (fun k e => by have := (J2d.out.lt k e).1; omega)
      refine hK.out _ _ hkp2 (fun hHeld4 => ?_)
      clear hK K
      (try simp only [Act.put, List.setIfInBounds_toArray, List.set_cons_zero, List.set_cons_succ])
      (refine wpAnyH_take1 8 (oi := ?_) (v := ?_) ?_ (by kernel_rfl) (by kernel_rfl) (by kernel_rfl) (by assumption) ?_ ?_ ?_; rotate_left 2; (· simp only [List.getElem?_toArray, List.getElem?_cons_succ, List.getElem?_cons_zero]; try rfl); (· refine ⟨by kernel_rfl, ?_⟩; intro wq hSw; have hx := box_cells hSw; go_simp; first | done | with_reducible rfl); (· exact fun _ _ _ h => h); try simp only [Act.put, List.setIfInBounds_toArray, List.set_cons_zero, List.set_cons_succ])
      (refine wpAnyH_take1 9 (oi := ?_) (v := ?_) ?_ (by kernel_rfl) (by kernel_rfl) (by kernel_rfl) (by assumption) ?_ ?_ ?_; rotate_left 2; (· simp only [List.getElem?_toArray, List.getElem?_cons_succ, List.getElem?_cons_zero]; try rfl); (· refine ⟨by kernel_rfl, ?_⟩; intro wq hSw; have hx := box_cells hSw; go_simp; first | done | with_reducible rfl); (· exact fun _ _ _ h => h); try simp only [Act.put, List.setIfInBounds_toArray, List.set_cons_zero, List.set_cons_succ])
      have hcr := box_cells hkr2; have hfr := box_free hkr2
      (refine wpAnyH_call1 (i := 10) (o := ?_) (by kernel_rfl) ?_ (fun K hK => ?_); rotate_left 1; (· simp only [List.getElem?_toArray, List.getElem?_cons_succ, List.getElem?_cons_zero]; try rfl); go_simp)
      refine hK.out _ _ (set1_far hHeld4 (by omega) _) (fun hHeld5 => ?_)
      clear hK K
      refine wpAnyH_done (by kernel_rfl) ?_ _
      refine OnlyN.normal ?_
      have HS := Lib.hid (show ∀ k : Nat, k < V.heap.size → k ≠ w.heap.size + 1 + 1 → some k ≠ v.ownBlock → (w2.setCell ⟨w.heap.size + 1 + 1, 6, none⟩ (.slice a9 (pre.length + 1) c9)).heap[k]? = V.heap[k]? from fun k h1 h2 h3 => (Below.heap_setCell _ _ _ k h2).trans ((hg2.block k (by simp; have := HVsz.out; omega) h3).trans ((Below.heap_alloc _ _ _ (by have := HVsz.out; omega)).trans (HVd.out k))))
      have HSz := Lib.hid (show V.heap.size ≤ (w2.setCell ⟨w.heap.size + 1 + 1, 6, none⟩ (.slice a9 (pre.length + 1) c9)).heap.size by have := hg2.size; have := HVsz.out; simp at *; omega)
      have HK := Lib.hid (heap_setCell_same _ _ 6 _ _ (.slice a9 (pre.length + 1) c9) hkr2)
      have HO := Lib.hid (ho2.setFar (b := w.heap.size + 1 + 1) (j := 6) (fun k hk => by have := (ho2.lt k hk).1; omega) (.slice a9 (pre.length + 1) c9))
      have HBf := Lib.hid (hb2.setCell (p := ⟨w.heap.size + 1 + 1, 6, none⟩) (show w.heap.size ≤ w.heap.size + 1 + 1 by omega) (.slice a9 (pre.length + 1) c9))
      have H7 := Lib.hid hz7
      have hs := HS.out; have hsz := HSz.out; have h7 := H7.out
      refine ⟨rfl, ⟨hsz, fun k o hk h0 ho => (hs k (lt_blk h0) (by omega) (fun e => by obtain ⟨cur, hc⟩ := j2.isCells e.symm; rw [h0] at hc; cases hc; cases ho)).trans h0⟩, ⟨hsz, fun k hk ha hb => hs k (by omega) ha (j2.neBlk hk)⟩, _, HK.out, HO.out, by simp; omega, ?_, HBf.out, Nat.le_trans j6 hsz, (hs _ (lt_blk j7) (by omega) (j2.neBlk (by omega))).trans j7, (hs _ (lt_blk j8) (by omega) (j2.neBlk (by omega))).trans j8, (hs _ (lt_blk j9) (by omega) (j2.neBlk (by omega))).trans j9⟩
      intro y hy
      rcases List.mem_append.1 hy with hy | hy
      · exact j4 y hy
      · rw [List.mem_singleton] at hy; rw [hy]; exact hxl
  case hdone =>
    rintro D xs V hD hxs ⟨v, j1, j2, j3, j4, j5, j6, j7, j8, j9⟩ hK
    have hcapm := j2.cap
    have hfarm := j2.lt
    obtain ⟨p9, c9, rfl, hs9, hi9⟩ := j2.slAt
    rw [List.length_map] at hs9 j1 j2 hcapm hfarm
    have hfar : ∀ q, p9 = some q → q.block ≠ w.heap.size + 1 + 1 := fun q hq => by
      subst hq
      have hsp := hs9.spot q rfl
      obtain ⟨qb, qo, qs⟩ := q
      dsimp only at hsp
      subst hsp
      have := (hfarm qb (j2.ownAt rfl)).1
      show qb ≠ _
      omega
    have HR0 : RdAt w.heap.size (w.heap.size + 1 + 1) ⟨[], 0, 0, 0, 0, 0⟩ xs V := ⟨by omega, by omega, fun y hy => by have := j4 y hy; omega, p9, c9, j1, hs9, hcapm c9 p9 _ rfl, hi9, hfar⟩
    obtain ⟨hr, hb⟩ := HR0.setD 1
    have HRd := Lib.hid hr; have HB := Lib.hid hb
    have HX := Lib.hid hxs
    have HEn := Lib.hid ((HE.out.below j5).turn hb (show w.heap.size ≤ w.heap.size + 1 + 1 by omega))
    have HM := Lib.hid (show D ≠ w.heap.size + 1 + 1 by omega)
    have HK := Lib.hid hK; have J5 := Lib.hid j5; have J7 := Lib.hid j7; have J8 := Lib.hid j8
    have hcp := box_cells j9; have hcr := box_cells j1; have hfr := box_free j1
    have HJ9 := Lib.hid j9
    have HDlo := Lib.hid hD
    have H7 := Lib.hid hz7
    clear hz7 hr hb hxs hK j1 j2 j3 j4 j5 j6 j7 j8 j9 hs9 hi9 hfar HR0 hcapm hfarm hD k0 k1 k2 k3 k4 hB7 hz
    gi_wp2
    go_wp2_with (fail)
    refine (read_any HRd.out HEn.out).mono ?_
    intro e w9 hp
    unfold ReadPost at hp
    have HT := Lib.hid (HB.out.at_ (k := D) HK.out HM.out)
    cases hr : readC xs with
    | none =>
      rw [hr] at hp
      obtain ⟨rfl, hb⟩ := hp
      have kD := hb.at_ HT.out HM.out
      have HPc := Lib.hid (show parseC s = (⟨[], 0, 0, 0, 0, 0⟩, 8) by unfold parseC; rw [if_neg (by omega), ← HX.out, hr])
      refine ⟨by simp, .inl ⟨_, _, rfl, run_takeDeferred kD, ?_⟩⟩
      refine ⟨by simp, .inr ⟨fun h => (by cases h), _, _, 26, #[.pointer (some ⟨w.heap.size, 0, none⟩), .pointer (some ⟨w.heap.size + 1, 0, none⟩)], rfl, by simp [invoke, go_sem], fun g hg => trivial, ?_⟩⟩
      have hh : ∀ (k : Nat) (o : Obj), k ≠ w.heap.size + 1 + 1 → k ≠ D → V.heap[k]? = some o → (w9.putObj D (.deferred none)).heap[k]? = some o := fun k o h1 h2 hx => (World.putObj_heap_other h2).trans (hb.at_ (HB.out.at_ hx h1) h1)
      have h7 := H7.out; have hDl := HDlo.out
      refine (catch_fail _ w.heap.size (w.heap.size + 1) w.heap.size ⟨[], 0, 0, 0, 0, 0⟩ 0 _ (hh _ _ (by omega) (by omega) J7.out) (hh _ _ (by omega) (by omega) J8.out) (by omega) (Nat.le_refl _) (by omega)).mono ?_
      rintro e u' w'' ⟨rfl, rfl, hc, he, hb2⟩
      have hcc := box_cells hc; have hff := box_free hc; have hce := box_cells he; have hfe := box_free he
      refine ⟨.tuple #[.agg #[.string (mkS []), .int .i64 0, .int .i64 0, .int .i64 0, .int .i64 0, .int .i64 0], .int .i64 8], by simp [results, Tryd.results14, go_sem, hcc, hff, hce, hfe], ?_⟩
      refine ⟨by rw [HPc.out], ?_⟩
      exact ((J5.out.trans (HB.out.below (by omega) J5.out.size)).trans (hb.below (by omega) (by have := J5.out.size; simpa [World.setCell] using this))).trans ((putB _ _ (by omega)).trans hb2)
    | some c =>
      rw [hr] at hp
      obtain ⟨rfl, hrd, hb⟩ := hp
      have HPc := Lib.hid (show parseC s = (c, 0) by unfold parseC; rw [if_neg (by omega), ← HX.out, hr])
      have h7 := H7.out; have hDl := HDlo.out
      have kD := hb.at_ HT.out HM.out
      have kc := hb.at_ (HB.out.at_ J7.out (by omega)) (by omega)
      have ke := hb.at_ (HB.out.at_ J8.out (by omega)) (by omega)
      have kp := hb.at_ (HB.out.at_ HJ9.out (by omega)) (by omega)
      have HB9 := Lib.hid ((J5.out.trans (HB.out.below (n0 := w.heap.size) (by omega) J5.out.size)).trans (hb.below (n0 := w.heap.size) (by omega) (by have := J5.out.size; simpa [World.setCell] using this)))
      obtain ⟨q1, cp1, d1, _⟩ := hrd.at_
      have a0 := heap_setCell_same _ _ 0 _ _ (.string (mkS c.letter)) kc
      have a1 := heap_setCell_same _ _ 1 _ _ (.int .i64 c.number) a0
      have a2 := heap_setCell_same _ _ 2 _ _ (.int .i64 c.bars) a1
      have a3 := heap_setCell_same _ _ 3 _ _ (.int .i64 c.n) a2
      have a4 := heap_setCell_same _ _ 4 _ _ (.int .i64 c.d) a3
      have a5 := heap_setCell_same _ _ 5 _ _ (.int .i64 c.pass) a4
      simp only [List.setIfInBounds_toArray, List.set_cons_zero, List.set_cons_succ] at a5
      have hbe : w.heap.size + 1 ≠ w.heap.size := by omega
      have b5 := set6_far ke hbe (.string (mkS c.letter)) (.int .i64 c.number) (.int .i64 c.bars) (.int .i64 c.n) (.int .i64 c.d) (.int .i64 c.pass)
      have e5 := set6_far kD (show D ≠ w.heap.size by omega) (.string (mkS c.letter)) (.int .i64 c.number) (.int .i64 c.bars) (.int .i64 c.n) (.int .i64 c.d) (.int .i64 c.pass)
      have c5 := set6_below HB9.out (Nat.le_refl _) (.string (mkS c.letter)) (.int .i64 c.number) (.int .i64 c.bars) (.int .i64 c.n) (.int .i64 c.d) (.int .i64 c.pass)
      have K1 := Lib.hid (set1_far (i := 0) a5 (Ne.symm hbe) (.int .i64 0))
      have K2 := Lib.hid (heap_setCell_same _ _ 0 _ _ (.int .i64 0) b5)
      have K3 := Lib.hid (c5.setCell (p := ⟨w.heap.size + 1, 0, none⟩) (show w.heap.size ≤ w.heap.size + 1 by omega) (.int .i64 0))
      have K4 := Lib.hid (set1_far (i := 0) e5 (show D ≠ w.heap.size + 1 by omega) (.int .i64 0))
      clear a0 a1 a2 a3 a4 a5 b5 e5 c5 hbe kD
      have hcp := box_cells kp; have hcr := box_cells d1; have hcc := box_cells kc; have hff := box_free kc; have hce := box_cells ke; have hfe := box_free ke
      clear kc ke kp d1 hrd hb h7 hDl
      go_wp2
      have gc := box_cells K1.out; have gf := box_free K1.out; have ge := box_cells K2.out; have gg := box_free K2.out
      have h7 := H7.out; have hDl := HDlo.out
      refine ⟨by simp, .inl ⟨_, _, rfl, run_takeDeferred K4.out, ?_⟩⟩
      refine ⟨by simp, .inr ⟨fun h => (by cases h), _, _, 26, #[.pointer (some ⟨w.heap.size, 0, none⟩), .pointer (some ⟨w.heap.size + 1, 0, none⟩)], rfl, by simp [invoke, go_sem], fun g hg => trivial, ?_⟩⟩
      refine (catch_idle _ _ _ _).mono ?_
      rintro e u' w'' ⟨rfl, rfl, rfl⟩
      have L1 := (World.putObj_heap_other (o := .deferred none) (show w.heap.size ≠ D by omega)).trans K1.out
      have L2 := (World.putObj_heap_other (o := .deferred none) (show w.heap.size + 1 ≠ D by omega)).trans K2.out
      have hcc2 := box_cells L1; have hff2 := box_free L1; have hce2 := box_cells L2; have hfe2 := box_free L2
      refine ⟨.tuple #[.agg #[.string (mkS c.letter), .int .i64 c.number, .int .i64 c.bars, .int .i64 c.n, .int .i64 c.d, .int .i64 c.pass], .int .i64 0], by simp [results, Tryd.results14, go_sem, hcc2, hff2, hce2, hfe2], ?_⟩
      exact ⟨by rw [HPc.out], K3.out.trans (putB _ _ (by omega))⟩
theorem parse_any (s : Bs) (w : World) (hE : EnvB w.heap.size w) : Calls Tryd.prog 14 #[.string (mkS s)] w (ParsePost s w) := by
  by_cases hs : 200 < s.length
  · exact parse_long s w hs
  · exact parse_short s w (by omega) hE
end Go.Proofs.YtfppijjjaleiaaaDoor
