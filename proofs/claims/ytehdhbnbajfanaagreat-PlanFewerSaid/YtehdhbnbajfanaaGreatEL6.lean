import Derived.Test.YtehdhbnbajfanaaGreatEL4
import Derived.Test.YtehdhbnbajfanaaGreatGP
import Derived.Laws.AppendOwn
import Derived.Laws.OwnMore
import Derived.Deep.DeepCutAuto

/- The law PlanFewer, walked; plan.Refuses by its contract; the copies take at most 2^47 - 4096 bytes. -/
namespace Go.Proofs.YtehdhbnbajfanaaGreat
set_option linter.unusedSimpArgs false
set_option linter.unusedVariables false
open Go.RowKit Go.Sort Go.Shelf

theorem eltCo : Elt Tryz.prog 23 44 4 32 Co.cells := ⟨Tryz.underlying23, ⟨.agg #[.int .i64 0, .int .i64 0, .int .i64 0, .int .i64 0], by kernel_rfl, rfl⟩, by decide, by decide, fun _ => rfl, fun x u hu => by
  simp [Co.cells] at hu
  rcases hu with rfl | rfl | rfl | rfl <;> rfl⟩
/-- append onto a slice of the call's own, as an operation by itself. -/
theorem oper_appR {P : Program} {w : World} {o : Oper} {a : Act} {K : Act → World → Prop} {Q : Exit → Act → World → Prop} {T E : TypeId} {sz bytes : Nat} {α : Type} {f : α → List Value} (he : Elt P T E sz bytes f)
    (s x : Operand) (ho : o.op = .call { callee := .builtin .append, args := #[s, x], argTypes := #[T, T] })
    (B : Nat) (v : Value) (l : List α) (hs : a.eval s = v) (hown : OwnR w B E sz v (l.map f))
    (ad : Option Addr) (m c : Nat) (news : List α) (hx : a.eval x = .slice ad m c) (hm : m = news.length) (hc0 : ad = none → c = 0) (hnews : SlAt w ad sz (news.map f))
    (hlen : (l.length + news.length) * bytes ≤ 140737488355328) (h63 : l.length + news.length ≤ maxLen) (hbase : B ≤ w.heap.size)
    (h : ∀ v' w', OwnR w' B E sz v' ((l ++ news).map f) → w.grownBy w' v.ownBlock → K (a.put o.dst v') w') : Oper.wp P o a w K Q := by
  obtain ⟨z, hi, hz⟩ := he.info
  obtain ⟨i, hi, hz0, hz1, hz2⟩ := info_parts hi
  subst hm
  have hwn : ∀ r ∈ news.map f, r.length = sz := fun r hr => by obtain ⟨y, _, rfl⟩ := List.mem_map.1 hr; exact he.len y
  have hww : ∀ r ∈ (l ++ news).map f, r.length = sz := fun r hr => by obtain ⟨y, _, rfl⟩ := List.mem_map.1 hr; exact he.len y
  have hown' := hown.own
  rw [List.length_map] at hown'
  cases ad with
  | none =>
    have hn : news = [] := by
      cases news with
      | nil => rfl
      | cons r news => obtain ⟨_, _, e, _⟩ := hnews 0 (f r) rfl; cases e
    subst hn
    obtain rfl := hc0 rfl
    have hrun := run_append_owned_none (P := P) (w := w) B T o.type E i sz he.ty (by rw [hi]) v l.length (l.map f).flatten hown'
    unfold Oper.wp
    simp [execOp, ho, resolve, invoke, builtin, hs, hx, hrun, Result.andThen]
    exact h v w (by rw [List.append_nil]; exact hown) (World.grownBy.refl w _)
  | some ad =>
    have hcell : ∀ j u, (news.map f).flatten[j]? = some u → w.cell? (ad.add j) = some u := by
      intro j u hj
      obtain ⟨i', j', r, g1, _, _⟩ := flat_inv (news.map f) sz hwn j u hj
      obtain ⟨b, off, e, _⟩ := hnews i' r g1
      cases e
      exact hnews.flat j u hj
    refine wp_append_own (P := P) w s x T ho B E i z sz bytes he.ty hi hz0 hz1 hz2 hz he.pos v l.length (l.map f).flatten hs hown' ad news.length c (news.map f).flatten hx (by rw [flat_len _ sz hwn, List.length_map]) hcell
      (oneCell_flat fun r hr u hu => by obtain ⟨y, _, rfl⟩ := List.mem_map.1 hr; exact he.one y u hu) h63 hlen hbase fun v' w' ho' hg _ => h v' w' ⟨hww, by rw [List.length_map, List.length_append, List.map_append, List.flatten_append]; exact ho'⟩ hg
theorem step_of {P : Program} {ops : Array Oper} {o : Oper} {a : Act} {w : World} {K : Act → World → Prop} {Q : Exit → Act → World → Prop} {F : Prop} (hg : o.guard = none) (h : Oper.wp P o a w K Q) : if Region.wanted o (yielded ops a.tmps) = true then Oper.wp P o a w K Q else F := by
  rw [if_pos (by simp [Region.wanted, hg])]; exact h
theorem co_new (W : World) (c : Co) {k : Nat} {E : TypeId} (hk : k = W.heap.size) : SlAt (W.alloc (.cells #[.int .i64 c.id, .int .i64 c.part, .int .i64 c.ed, .int .i64 c.hall] E)) (some ⟨k, 0, none⟩) 4 ([c].map Co.cells) := by
  subst hk; exact eltCo.new _ _ _ _ rfl
theorem SlAt.grown {w w' : World} {k sz : Nat} {rows : List (List Value)} {row : Option Nat} (h : SlAt w (some ⟨k, 0, none⟩) sz rows) (hg : w.grownBy w' row) (hne : some k ≠ row) : SlAt w' (some ⟨k, 0, none⟩) sz rows := fun i r hr => by
  obtain ⟨b, off, e, h1, h2, h3⟩ := h i r hr
  cases e
  exact ⟨k, 0, rfl, Nat.lt_of_lt_of_le h1 hg.size, h2, fun j v hv => by
    have := h3 j v hv
    simp only [World.cell?, hg.block k h1 hne] at this ⊢
    exact this⟩
theorem less_vv6 {ds : List De} {cs : List Co} {hall : Int} (x : Int) (h : (validB ds cs && inR 0 99 hall) = true) : (validB (lessL ds x) cs && inR 0 99 hall) = true := by
  rw [Bool.and_eq_true] at *
  exact ⟨valid_sub (less_subl ds x) h.1, h.2⟩
set_option maxRecDepth 100000 in
set_option maxHeartbeats 8000000 in
theorem fewer_law (HQ : RefusesC) (a a2 : Option Addr) (cap cap2 : Nat) (ds : List De) (cs : List Co) (hall : Int) (y : Nat) (x : Co) (w : World) (hl : ds.length ≤ 9223372036854775807) (hl2 : cs.length ≤ 4398046510976) (he : ∀ d ∈ ds, d.eds.length ≤ 9223372036854775807) (hy : y ≤ 255)
    (hm : DeAt w a ds) (hc : CoAt w a2 cs) (hs : SlOk a2 cs.length cap2) :
    Calls Tryz.prog 8 #[.slice a ds.length cap, .slice a2 cs.length cap2, .int .i64 hall, .int .u8 (y : Int), .agg x.cells.toArray] w fun e w' => e = .returned (.bool true) ∧ RowKit.Below w.heap.size w w' := by
  have HM := Lib.hid hm; have HC := Lib.hid hc; have HE := Lib.hid he; have HS := Lib.hid hs
  clear hm hc he hs
  obtain ⟨x0, x1, x2, x3⟩ := x
  show Calls _ _ #[_, _, _, _, .agg #[.int .i64 x0, .int .i64 x1, .int .i64 x2, .int .i64 x3]] _ _
  have hb0 := below_box (w := w) (.cells #[.int .i64 x0, .int .i64 x1, .int .i64 x2, .int .i64 x3] 44)
  have hx0 : (w.alloc (.cells #[.int .i64 x0, .int .i64 x1, .int .i64 x2, .int .i64 x3] 44)).heap[w.heap.size]? = some (.cells #[.int .i64 x0, .int .i64 x1, .int .i64 x2, .int .i64 x3] 44) := heap_alloc_new _ _
  have HB0 := Lib.hid hb0; have HX0 := Lib.hid hx0
  clear hb0 hx0
  go_enter Tryz.func8, Tryz.ntmps8
  go_wp2_with (fail)
  generalize (w.alloc (.cells #[.int .i64 x0, .int .i64 x1, .int .i64 x2, .int .i64 x3] 44)) = w0 at *
  refine (phead_any HQ w0).mono ?_
  rintro e w1 ⟨rfl, hb⟩
  have HX1 := Lib.hid (blk_keep HX0.out hb)
  have HB := Lib.hid (HB0.out.trans (hb.mono HB0.out.size))
  clear hb HX0 HB0
  generalize hbx : w.heap.size = bx at *
  have HBX := Lib.hid hbx; clear hbx
  go_upto_region 2 with (fail)
  go_cut [12] (fun s12 W => ∃ (am : Option Addr) (cm : Nat) (cs2 : List Co), s12 = .slice am cs2.length cm ∧ Hid (cs2 = cs ++ [⟨x0, x1, x2, x3⟩]) ∧ SlOk am cs2.length cm ∧ CoAt W am cs2 ∧ RowKit.Below bx w W)
  case first =>
    refine wp_region_held_drew (S := fun w' => w'.heap[bx]? = some (.cells #[.int .i64 x0, .int .i64 x1, .int .i64 x2, .int .i64 x3] 44 (0, 0))) (by kernel_rfl) HX1.out (fun hHeld => ?_)
    (refine wpAnyH_take1 1 (oi := ?_) (v := ?_) ?_ (by kernel_rfl) (by kernel_rfl) (by kernel_rfl) (by assumption) ?_ ?_ ?_; rotate_left 2; (· simp only [List.getElem?_toArray, List.getElem?_cons_succ, List.getElem?_cons_zero]; try rfl); (· refine ⟨by kernel_rfl, ?_⟩; intro wq hSw; have hx := box_cells hSw; go_simp; first | done | with_reducible rfl); (· exact fun _ _ _ h => h); try simp only [Act.put, List.setIfInBounds_toArray, List.set_cons_zero, List.set_cons_succ])
    (refine wpAnyH_take1 3 (oi := ?_) (v := ?_) ?_ (by kernel_rfl) (by kernel_rfl) (by kernel_rfl) (by assumption) ?_ ?_ ?_; rotate_left 2; (· simp only [List.getElem?_toArray, List.getElem?_cons_succ, List.getElem?_cons_zero]; try rfl); (· refine ⟨by kernel_rfl, ?_⟩; intro wq hSw; have hx := box_cells hSw; go_simp; first | done | with_reducible rfl); (· exact fun _ _ _ h => h); try simp only [Act.put, List.setIfInBounds_toArray, List.set_cons_zero, List.set_cons_succ])
    have HCd := Lib.hid ((HC.out.below (by rw [HBX.out]; exact HB.out)).below ((RowKit.Below.refl w1.heap.size w1).drew))
    have HBd := Lib.hid (HB.out.trans (((RowKit.Below.refl w1.heap.size w1).drew).mono (by rw [← HBX.out]; have := HB.out.size; exact this)))
    have HSZ := Lib.hid (show bx ≤ w1.drew.heap.size from by rw [← HBX.out]; exact HBd.out.size)
    clear HX1 HB
    generalize w1.drew = wd at *
    (refine wpAnyH_two (i := 0) (j := 4) (o := ?_) (o' := ?_) (by kernel_rfl) ?_ ?_ (fun K hK => ?_) (fun K hK => ?_); rotate_left 2; (· simp only [List.getElem?_toArray, List.getElem?_cons_succ, List.getElem?_cons_zero]; try rfl); (· simp only [List.getElem?_toArray, List.getElem?_cons_succ, List.getElem?_cons_zero]; try rfl))
    · go_simp
      refine hK.out _ _ (up_alloc hHeld _) (fun hHeld2 => ?_)
      clear hK K
      (try simp only [Act.put, List.setIfInBounds_toArray, List.set_cons_zero, List.set_cons_succ])
      (refine wpAnyH_two (i := 2) (j := 4) (o := ?_) (o' := ?_) (by kernel_rfl) ?_ ?_ (fun K hK => ?_) (fun K hK => ?_); rotate_left 2; (· simp only [List.getElem?_toArray, List.getElem?_cons_succ, List.getElem?_cons_zero]; try rfl); (· simp only [List.getElem?_toArray, List.getElem?_cons_succ, List.getElem?_cons_zero]; try rfl))
      · refine step_of rfl (oper_appR eltCo (.tmp 27) (.tmp 28) rfl wd.heap.size _ [] rfl (ownR_made _ _ _ _ (Nat.le_refl _)) a2 cs.length cap2 cs rfl rfl HS.out.none (HCd.out.below ((RowKit.Below.refl _ _).alloc (Nat.le_refl _) _)) (by simp; omega) (by unfold maxLen; simp; omega) (by simp) ?_)
        intro v29 w29 ho29 hg29
        have hb29 := below_grown ((RowKit.Below.refl wd.heap.size wd).alloc (Nat.le_refl _) (.cells #[] 44)) (ownR_made wd wd.heap.size 44 4 (Nat.le_refl _)) (by simp) hg29
        have HB29 := Lib.hid hb29; have HO29 := Lib.hid ho29
        refine hK.out _ _ (blk_keep hHeld hb29) (fun hHeld3 => ?_)
        clear hK K ho29 hg29 hb29
        (try simp only [Act.put, List.setIfInBounds_toArray, List.set_cons_zero, List.set_cons_succ])
        (refine wpAnyH_call1 (i := 4) (o := ?_) (by kernel_rfl) ?_ (fun K hK => ?_); rotate_left 1; (· simp only [List.getElem?_toArray, List.getElem?_cons_succ, List.getElem?_cons_zero]; try rfl); go_simp)
        refine hK.out _ _ (up_alloc hHeld3 _) (fun hHeld4 => ?_)
        clear hK K
        (try simp only [Act.put, List.setIfInBounds_toArray, List.set_cons_zero, List.set_cons_succ])
        (refine wpAnyH_call1 (i := 5) (o := ?_) (by kernel_rfl) ?_ (fun K hK => ?_); rotate_left 1; (· simp only [List.getElem?_toArray, List.getElem?_cons_succ, List.getElem?_cons_zero]; try rfl))
        have hbb := HB29.out.alloc HB29.out.size (.cells #[.int .i64 x0, .int .i64 x1, .int .i64 x2, .int .i64 x3] 44)
        have hoo := HO29.out.below ((RowKit.Below.refl w29.heap.size w29).alloc (Nat.le_refl _) (.cells #[.int .i64 x0, .int .i64 x1, .int .i64 x2, .int .i64 x3] 44))
        refine step_of rfl (oper_appR eltCo (.tmp 29) (.tmp 31) rfl wd.heap.size v29 cs rfl hoo (some ⟨w29.heap.size, 0, none⟩) 1 1 [⟨x0, x1, x2, x3⟩] rfl rfl (fun e => by cases e) (co_new w29 ⟨x0, x1, x2, x3⟩ rfl) (by simp; omega) (by unfold maxLen; simp; omega) (by have := HB29.out.size; simp; omega) ?_)
        intro v32 w32 ho32 hg32
        have hb32 := hbb.grown hg32 (show wd.heap.size ≤ _ by have := HB29.out.size; simp; omega) (fun k e => (hoo.lt k e).1)
        have HB32 := Lib.hid hb32; have HO32 := Lib.hid ho32
        refine hK.out _ _ (blk_keep hHeld hb32) (fun hHeld5 => ?_)
        clear hK K ho32 hg32 hb32 hbb hoo
        (try simp only [Act.put, List.setIfInBounds_toArray, List.set_cons_zero, List.set_cons_succ])
        (refine wpAnyH_take1 6 (oi := ?_) (v := ?_) ?_ (by kernel_rfl) (by kernel_rfl) (by kernel_rfl) (by assumption) ?_ ?_ ?_; rotate_left 2; (· simp only [List.getElem?_toArray, List.getElem?_cons_succ, List.getElem?_cons_zero]; try rfl); (· refine ⟨by kernel_rfl, ?_⟩; intro wq hSw; skip; go_simp; first | done | with_reducible rfl); (· exact fun _ _ _ h => h); try simp only [Act.put, List.setIfInBounds_toArray, List.set_cons_zero, List.set_cons_succ]); refine wpAnyH_done (by kernel_rfl) ?_ _; go_wp2_with (fail); go_meet; case rel => (obtain ⟨am, cm, em, hsm, him⟩ := HO32.out.slAt; rw [List.length_map] at hsm; exact ⟨am, cm, cs ++ [Co.mk x0 x1 x2 x3], by rw [em, List.length_map], Lib.hid rfl, hsm, him, HBd.out.trans (HB32.out.mono HSZ.out)⟩)
      · go_simp
        refine hK.out _ _ (up_alloc hHeld2 _) (fun hHeld3 => ?_)
        clear hK K
        (try simp only [Act.put, List.setIfInBounds_toArray, List.set_cons_zero, List.set_cons_succ])
        (refine wpAnyH_call1 (i := 2) (o := ?_) (by kernel_rfl) ?_ (fun K hK => ?_); rotate_left 1; (· simp only [List.getElem?_toArray, List.getElem?_cons_succ, List.getElem?_cons_zero]; try rfl))
        have ho27 := (ownR_made wd wd.heap.size 44 4 (Nat.le_refl _)).below ((RowKit.Below.refl _ _).alloc (Nat.le_refl _) (.cells #[.int .i64 x0, .int .i64 x1, .int .i64 x2, .int .i64 x3] 44))
        have hb27 := ((RowKit.Below.refl wd.heap.size wd).alloc (Nat.le_refl _) (.cells #[] 44)).alloc (by simp) (.cells #[.int .i64 x0, .int .i64 x1, .int .i64 x2, .int .i64 x3] 44)
        refine step_of rfl (oper_appR eltCo (.tmp 27) (.tmp 28) rfl wd.heap.size _ [] rfl ho27 a2 cs.length cap2 cs rfl rfl HS.out.none ((HCd.out.below ((RowKit.Below.refl _ _).alloc (Nat.le_refl _) _)).below ((RowKit.Below.refl _ _).alloc (Nat.le_refl _) _)) (by simp; omega) (by unfold maxLen; simp; omega) (by simp; omega) ?_)
        intro v29 w29 ho29 hg29
        have hb29 := below_grown hb27 ho27 (by simp; omega) hg29
        have hx31 := SlAt.grown (co_new (wd.alloc (.cells #[] 44)) ⟨x0, x1, x2, x3⟩ (k := wd.heap.size + 1) (E := 44) (by simp)) hg29 (fun e => by have := Option.some.inj e; simp at this)
        have HB29 := Lib.hid hb29; have HO29 := Lib.hid ho29
        refine hK.out _ _ (blk_keep hHeld hb29) (fun hHeld4 => ?_)
        clear hK K ho29 hg29 hb29 hb27 ho27
        (try simp only [Act.put, List.setIfInBounds_toArray, List.set_cons_zero, List.set_cons_succ])
        (refine wpAnyH_call1 (i := 5) (o := ?_) (by kernel_rfl) ?_ (fun K hK => ?_); rotate_left 1; (· simp only [List.getElem?_toArray, List.getElem?_cons_succ, List.getElem?_cons_zero]; try rfl))
        refine step_of rfl (oper_appR eltCo (.tmp 29) (.tmp 31) rfl wd.heap.size v29 cs rfl HO29.out (some ⟨wd.heap.size + 1, 0, none⟩) 1 1 [⟨x0, x1, x2, x3⟩] rfl rfl (fun e => by cases e) hx31 (by simp; omega) (by unfold maxLen; simp; omega) HB29.out.size ?_)
        intro v32 w32 ho32 hg32
        have hb32 := HB29.out.grown hg32 HB29.out.size (fun k e => (HO29.out.lt k e).1)
        have HB32 := Lib.hid hb32; have HO32 := Lib.hid ho32
        refine hK.out _ _ (blk_keep hHeld hb32) (fun hHeld5 => ?_)
        clear hK K ho32 hg32 hb32 hx31
        (try simp only [Act.put, List.setIfInBounds_toArray, List.set_cons_zero, List.set_cons_succ])
        (refine wpAnyH_take1 6 (oi := ?_) (v := ?_) ?_ (by kernel_rfl) (by kernel_rfl) (by kernel_rfl) (by assumption) ?_ ?_ ?_; rotate_left 2; (· simp only [List.getElem?_toArray, List.getElem?_cons_succ, List.getElem?_cons_zero]; try rfl); (· refine ⟨by kernel_rfl, ?_⟩; intro wq hSw; skip; go_simp; first | done | with_reducible rfl); (· exact fun _ _ _ h => h); try simp only [Act.put, List.setIfInBounds_toArray, List.set_cons_zero, List.set_cons_succ]); refine wpAnyH_done (by kernel_rfl) ?_ _; go_wp2_with (fail); go_meet; case rel => (obtain ⟨am, cm, em, hsm, him⟩ := HO32.out.slAt; rw [List.length_map] at hsm; exact ⟨am, cm, cs ++ [Co.mk x0 x1 x2 x3], by rw [em, List.length_map], Lib.hid rfl, hsm, him, HBd.out.trans (HB32.out.mono HSZ.out)⟩)
    · go_simp
      refine hK.out _ _ (up_alloc hHeld _) (fun hHeld2 => ?_)
      clear hK K
      (try simp only [Act.put, List.setIfInBounds_toArray, List.set_cons_zero, List.set_cons_succ])
      (refine wpAnyH_call1 (i := 0) (o := ?_) (by kernel_rfl) ?_ (fun K hK => ?_); rotate_left 1; (· simp only [List.getElem?_toArray, List.getElem?_cons_succ, List.getElem?_cons_zero]; try rfl); go_simp)
      refine hK.out _ _ (up_alloc hHeld2 _) (fun hHeld3 => ?_)
      clear hK K
      (try simp only [Act.put, List.setIfInBounds_toArray, List.set_cons_zero, List.set_cons_succ])
      (refine wpAnyH_call1 (i := 2) (o := ?_) (by kernel_rfl) ?_ (fun K hK => ?_); rotate_left 1; (· simp only [List.getElem?_toArray, List.getElem?_cons_succ, List.getElem?_cons_zero]; try rfl))
      have ho27 := ownR_made (wd.alloc (.cells #[.int .i64 x0, .int .i64 x1, .int .i64 x2, .int .i64 x3] 44)) wd.heap.size 44 4 (by simp)
      rw [show (wd.alloc (.cells #[.int .i64 x0, .int .i64 x1, .int .i64 x2, .int .i64 x3] 44)).heap.size = wd.heap.size + 1 by simp] at ho27
      have hb27 := ((RowKit.Below.refl wd.heap.size wd).alloc (Nat.le_refl _) (.cells #[.int .i64 x0, .int .i64 x1, .int .i64 x2, .int .i64 x3] 44)).alloc (by simp) (.cells #[] 44)
      refine step_of rfl (oper_appR eltCo (.tmp 27) (.tmp 28) rfl wd.heap.size _ [] rfl ho27 a2 cs.length cap2 cs rfl rfl HS.out.none ((HCd.out.below ((RowKit.Below.refl _ _).alloc (Nat.le_refl _) _)).below ((RowKit.Below.refl _ _).alloc (Nat.le_refl _) _)) (by simp; omega) (by unfold maxLen; simp; omega) (by simp; omega) ?_)
      intro v29 w29 ho29 hg29
      have hb29 := below_grown hb27 ho27 (by simp; omega) hg29
      have hx31 := SlAt.grown ((co_new wd ⟨x0, x1, x2, x3⟩ (k := wd.heap.size) (E := 44) rfl).below ((RowKit.Below.refl _ _).alloc (Nat.le_refl _) (.cells #[] 44))) hg29 (fun e => by have := Option.some.inj e; simp at this)
      have HB29 := Lib.hid hb29; have HO29 := Lib.hid ho29
      refine hK.out _ _ (blk_keep hHeld hb29) (fun hHeld4 => ?_)
      clear hK K ho29 hg29 hb29 hb27 ho27
      (try simp only [Act.put, List.setIfInBounds_toArray, List.set_cons_zero, List.set_cons_succ])
      (refine wpAnyH_call1 (i := 5) (o := ?_) (by kernel_rfl) ?_ (fun K hK => ?_); rotate_left 1; (· simp only [List.getElem?_toArray, List.getElem?_cons_succ, List.getElem?_cons_zero]; try rfl))
      refine step_of rfl (oper_appR eltCo (.tmp 29) (.tmp 31) rfl wd.heap.size v29 cs rfl HO29.out (some ⟨wd.heap.size, 0, none⟩) 1 1 [⟨x0, x1, x2, x3⟩] rfl rfl (fun e => by cases e) hx31 (by simp; omega) (by unfold maxLen; simp; omega) HB29.out.size ?_)
      intro v32 w32 ho32 hg32
      have hb32 := HB29.out.grown hg32 HB29.out.size (fun k e => (HO29.out.lt k e).1)
      have HB32 := Lib.hid hb32; have HO32 := Lib.hid ho32
      refine hK.out _ _ (blk_keep hHeld hb32) (fun hHeld5 => ?_)
      clear hK K ho32 hg32 hb32 hx31
      (try simp only [Act.put, List.setIfInBounds_toArray, List.set_cons_zero, List.set_cons_succ])
      (refine wpAnyH_take1 6 (oi := ?_) (v := ?_) ?_ (by kernel_rfl) (by kernel_rfl) (by kernel_rfl) (by assumption) ?_ ?_ ?_; rotate_left 2; (· simp only [List.getElem?_toArray, List.getElem?_cons_succ, List.getElem?_cons_zero]; try rfl); (· refine ⟨by kernel_rfl, ?_⟩; intro wq hSw; skip; go_simp; first | done | with_reducible rfl); (· exact fun _ _ _ h => h); try simp only [Act.put, List.setIfInBounds_toArray, List.set_cons_zero, List.set_cons_succ]); refine wpAnyH_done (by kernel_rfl) ?_ _; go_wp2_with (fail); go_meet; case rel => (obtain ⟨am, cm, em, hsm, him⟩ := HO32.out.slAt; rw [List.length_map] at hsm; exact ⟨am, cm, cs ++ [Co.mk x0 x1 x2 x3], by rw [em, List.length_map], Lib.hid rfl, hsm, him, HBd.out.trans (HB32.out.mono HSZ.out)⟩)
  case rest =>
    obtain ⟨am, cm, cs2, rfl, hcs2, hs2, hc2, hb2⟩ := hcut
    have HB := Lib.hid (show RowKit.Below w.heap.size w wc by rw [HBX.out]; exact hb2)
    have HC2 := Lib.hid hc2
    have hlen2 : cs2.length ≤ 4398046510977 := by rw [hcs2.out]; simp; omega
    have HCS := hcs2
    clear hs2 hc2 hb2 hcs2 HX1
    go_wp2_with (fail)
    refine (usable_any _ _ _ _ ds cs hall _ hl (by omega) HE.out (HM.out.below HB.out) (HC.out.below HB.out)).mono ?_
    rintro e w2 ⟨rfl, hb⟩
    replace HC2 := Lib.hid (HC2.out.below hb)
    replace HB := Lib.hid (HB.out.trans (hb.mono HB.out.size)); clear hb
    cases hf : usableB ds cs hall
    · go_wp2; go_ret; exact ⟨rfl, HB.out⟩
    obtain ⟨f7, f8, f20, hv, hvv⟩ := usable_iff hf
    have HE20 := Lib.hid f20; have HV := Lib.hid hv; have HVV := Lib.hid hvv
    clear hf f20 hv hvv
    go_wp2_with (fail)
    refine (usable_any _ _ _ _ ds cs2 hall _ hl (by omega) HE.out (HM.out.below HB.out) HC2.out).mono ?_
    rintro e w3 ⟨rfl, hb⟩
    replace HC2 := Lib.hid (HC2.out.below hb)
    replace HB := Lib.hid (HB.out.trans (hb.mono HB.out.size)); clear hb
    cases hf : usableB ds cs2 hall
    · go_wp2; go_ret; exact ⟨rfl, HB.out⟩
    obtain ⟨_, g8, _, hv, hvv⟩ := usable_iff hf
    have HV2 := Lib.hid hv; have HVV2 := Lib.hid hvv
    clear hf hv hvv
    by_cases m1 : ds.length = 0
    · have hb2 : ((ds.length : Int) == 0) = true := by simp [m1]
      have HM2 := Lib.hid m1; clear m1
      go_wp2; go_ret; exact ⟨rfl, HB.out⟩
    have hb2 : ((ds.length : Int) == 0) = false := by simp; intro e; simp [e] at m1
    have hpos : 0 < ds.length := by omega
    clear m1
    go_wp2_with (fail)
    refine (Plan_any _ _ _ _ ds cs hall _ (by omega) (by omega) HE20.out (HM.out.below HB.out) (HC.out.below HB.out)).mono ?_
    intro e w4 hp
    obtain ⟨a5, a6, c5, c6, gl, rl, ok, err, rfl, hsay, _, hg5, _, _, hb⟩ := hp.res
    obtain ⟨rfl, hsaid⟩ := says_said hsay HVV.out
    have HG := Lib.hid hg5
    replace HC2 := Lib.hid (HC2.out.below hb)
    replace HB := Lib.hid (HB.out.trans (hb.mono HB.out.size)); clear hb
    clear hp hsay hg5
    rcases hsaid with ⟨hno, rfl, rfl, rfl⟩ | ⟨hyes, rfl, rfl, l, rfl, hl3⟩
    · go_wp2; go_ret; exact ⟨rfl, HB.out⟩
    have HYES := Lib.hid hyes; have HBT := Lib.hid hl3
    clear hyes hl3
    obtain ⟨k, hk, hkx⟩ : ∃ k : Nat, k < ds.length ∧ (k : Int) = (y : Int) % (ds.length : Int) := ⟨y % ds.length, Nat.mod_lt _ hpos, by simp⟩
    obtain ⟨b9, o9, rfl, d9, _, _, _⟩ := (HM.out.below HB.out).get k hk
    have hrem : (y : Int) % (ds.length : Int) = (k : Int) := hkx.symm
    have HLL := Lib.hid (less_len ds ds[k].id)
    generalize ds[k].id = X at *
    clear hkx
    go_wp2_with (fail)
    refine (RWithoutD_any _ _ ds X _ (by omega) (HM.out.below HB.out)).mono ?_
    rintro e w6 ⟨a10, c10, rfl, _, hd10, hb⟩
    have HD10 := Lib.hid hd10
    replace HG := Lib.hid (HG.out.below hb); replace HC2 := Lib.hid (HC2.out.below hb)
    replace HB := Lib.hid (HB.out.trans (hb.mono HB.out.size)); clear hb
    clear hd10 d9 hrem hb2
    go_wp2_with (fail)
    refine (Plan_any a10 _ c10 _ (lessL ds X) cs hall _ (by have := HLL.out; omega) (by omega) (fun d hd => HE20.out d (less_mem.1 hd).1) HD10.out (HC.out.below HB.out)).mono ?_
    intro e w7 hp
    obtain ⟨a11, a12, c11, c12, gl3, rl3, ok3, err3, rfl, hsay, _, hg11, _, _, hb⟩ := hp.res
    obtain ⟨rfl, hsaid⟩ := says_said hsay (less_vv6 X HVV.out)
    have HN := Lib.hid (valid_nodup HV.out); have HN2 := Lib.hid (valid_nodup HV2.out)
    have hmet1 := metB_mono HN.out.1 HN.out.2 ((less_subl ds X).nodup HN.out.1) HN.out.2 (fun d hd => (less_mem.1 hd).1) (fun _ h => h) HYES.out
    rcases hsaid with ⟨hno3, _⟩ | ⟨_, rfl, rfl, l3, rfl, hbt3⟩
    case inl => exact absurd hno3 (by rw [hmet1]; simp)
    have HG3 := Lib.hid hg11; have HBT3 := Lib.hid hbt3
    replace HG := Lib.hid (HG.out.below hb); replace HC2 := Lib.hid (HC2.out.below hb)
    replace HB := Lib.hid (HB.out.trans (hb.mono HB.out.size)); clear hb
    clear hp hsay hmet1 hg11 hbt3
    go_wp2_with (fail)
    refine (Plan_any _ _ _ _ ds cs2 hall _ (by omega) (by omega) HE20.out (HM.out.below HB.out) HC2.out).mono ?_
    intro e w8 hp
    obtain ⟨a13, a14, c13, c14, gl4, rl4, ok4, err4, rfl, hsay, _, hg13, _, _, hb⟩ := hp.res
    obtain ⟨rfl, hsaid⟩ := says_said hsay HVV2.out
    have hsub : ∀ c ∈ cs, c ∈ cs2 := fun c hc => by rw [HCS.out]; exact List.mem_append_left _ hc
    have hmet2 := metB_mono HN.out.1 HN.out.2 HN.out.1 HN2.out.2 (fun d hd => hd) hsub HYES.out
    rcases hsaid with ⟨hno4, _⟩ | ⟨_, rfl, rfl, l4, rfl, hbt4⟩
    case inl => exact absurd hno4 (by rw [hmet2]; simp)
    have HG4 := Lib.hid hg13
    replace HG := Lib.hid (HG.out.below hb); replace HG3 := Lib.hid (HG3.out.below hb)
    replace HB := Lib.hid (HB.out.trans (hb.mono HB.out.size)); clear hb
    have hle3 := plan_less HN.out.1 HN.out.2 HN.out.2 (less_subl ds X) (fun _ h => h) HBT.out HBT3.out
    have hle4 := plan_less HN.out.1 HN.out.2 HN2.out.2 (List.Sublist.refl ds) hsub HBT.out hbt4
    have HP := Lib.hid (plan_bounds (valid_eds HV.out) HBT.out); have HP3 := Lib.hid (plan_bounds (fun d hd => valid_eds HV.out d (less_mem.1 hd).1) HBT3.out); have HP4 := Lib.hid (plan_bounds (valid_eds HV.out) hbt4)
    clear hp hsay hmet2 hg13 hbt4 hsub
    go_wp2_with (fail); refine (total_any _ _ _ (planL (lessL ds X) cs hall l3) _ (by rw [planL_len]) (by first | (have := HLL.out; omega) | (rw [planL_len]; have := HLL.out; omega)) HP3.out HG3.out).mono ?_; rintro e w9 ⟨rfl, hb⟩; (try replace HG := Lib.hid (HG.out.below hb)); (try replace HG3 := Lib.hid (HG3.out.below hb)); (try replace HG4 := Lib.hid (HG4.out.below hb)); replace HB := Lib.hid (HB.out.trans (hb.mono HB.out.size)); clear hb
    go_wp2_with (fail); refine (total_any _ _ _ (planL (ds) cs hall l) _ (by rw [planL_len]) (by first | (omega) | (rw [planL_len]; omega)) HP.out HG.out).mono ?_; rintro e w10 ⟨rfl, hb⟩; (try replace HG := Lib.hid (HG.out.below hb)); (try replace HG3 := Lib.hid (HG3.out.below hb)); (try replace HG4 := Lib.hid (HG4.out.below hb)); replace HB := Lib.hid (HB.out.trans (hb.mono HB.out.size)); clear hb
    go_wp2_with (fail); refine (total_any _ _ _ (planL (ds) cs2 hall l4) _ (by rw [planL_len]) (by first | (omega) | (rw [planL_len]; omega)) HP4.out HG4.out).mono ?_; rintro e w11 ⟨rfl, hb⟩; (try replace HG := Lib.hid (HG.out.below hb)); (try replace HG3 := Lib.hid (HG3.out.below hb)); (try replace HG4 := Lib.hid (HG4.out.below hb)); replace HB := Lib.hid (HB.out.trans (hb.mono HB.out.size)); clear hb
    go_wp2_with (fail); refine (total_any _ _ _ (planL (ds) cs hall l) _ (by rw [planL_len]) (by first | (omega) | (rw [planL_len]; omega)) HP.out HG.out).mono ?_; rintro e w12 ⟨rfl, hb⟩; (try replace HG := Lib.hid (HG.out.below hb)); (try replace HG3 := Lib.hid (HG3.out.below hb)); (try replace HG4 := Lib.hid (HG4.out.below hb)); replace HB := Lib.hid (HB.out.trans (hb.mono HB.out.size)); clear hb
    generalize totG (planL (lessL ds X) cs hall l3) = T3 at *
    generalize totG (planL ds cs hall l) = T at *
    generalize totG (planL ds cs2 hall l4) = T4 at *
    go_wp2; go_ret; exact ⟨rfl, HB.out⟩
end Go.Proofs.YtehdhbnbajfanaaGreat
