/- The contract of loan.Push. -/
import Derived.Test.YtokhligpjbdhcaaLoanHold
import Derived.Lib.SmallJoins
namespace Go.Proofs.Ytokhligpjbdhcaa
set_option linter.unusedSimpArgs false
set_option linter.unusedVariables false
open Go.RowKit Go.Sort

theorem OwnR.le {w : World} {B B' : Nat} {E : TypeId} {sz : Nat} {v : Value} {rows : List (List Value)} (h : OwnR w B E sz v rows) (hb : B' ≤ B) : OwnR w B' E sz v rows := ⟨h.wide, Joins.ownsRow_le h.own hb⟩
theorem OwnR.made (w : World) (B : Nat) (E : TypeId) (sz : Nat) (hb : B ≤ w.heap.size) : OwnR (w.alloc (.cells #[] E)) B E sz (.slice (some ⟨w.heap.size, 0, none⟩) 0 0) [] :=
  ⟨by simp, World.ownsRow_made w #[] 0 hb (Nat.zero_le _) (by simp)⟩
theorem nil_eq_some (b off n cap : Nat) (w : World) : (binOp BinOp.eql 22 (.slice (some ⟨b, off, none⟩) n cap) (.slice none 0 0)).run Try.prog w = .ok (.bool false) w := by kernel_rfl
theorem nil_eq_nil (w : World) : (binOp BinOp.eql 22 (.slice none 0 0) (.slice none 0 0)).run Try.prog w = .ok (.bool true) w := by kernel_rfl
set_option maxRecDepth 100000 in
set_option maxHeartbeats 1000000 in
theorem Clone_any (B : Nat) (a : Option Addr) (n cap : Nat) (l : List Lo) (w : World) (hn : n = l.length) (hl : n ≤ 1000000) (hs : SlOk a n cap) (hr : LoAt w a l) (hB : B ≤ w.heap.size) :
    Calls Try.prog 30 #[.slice a n cap] w fun e w' => ∃ v, e = .returned v ∧ OwnR w' B 24 5 v (l.map Lo.cells) ∧ Below w.heap.size w w' := by
  subst hn
  rcases hs.cases with ⟨rfl, h1, h2⟩ | ⟨b, off, rfl⟩
  · obtain rfl : l = [] := List.eq_nil_of_length_eq_zero h1
    subst h2
    have hq := nil_eq_nil w
    go_enter Try.func30, Try.ntmps30
    go_wp2
    go_ret
    exact ⟨_, rfl, OwnR.nil _ _ _ _, Below.refl _ _⟩
  · have hq := nil_eq_some b off l.length cap w
    go_enter Try.func30, Try.ntmps30
    go_wp2_with (at_builtin; refine appE eltLoan rfl (.tmp 5) (.tmp 6) rfl B _ [] rfl (OwnR.made _ _ _ _ hB) _ _ _ l rfl rfl (fun e => by cases e) (hr.alloc _) (by simp; omega) (by simp; omega) ?_; intro v2 w2 ho2 hg2; have HO2 := Lib.hid ho2; have HB2 := Lib.hid (below_grown ((Below.refl w.heap.size w).alloc (Nat.le_refl _) _) (OwnR.made _ w.heap.size 24 5 (Nat.le_refl _)) (by simp) hg2); clear ho2 hg2)
    go_ret
    exact ⟨_, rfl, HO2.out, HB2.out⟩

/-- append behind an operation that stands ready in a drawn region. -/
theorem stepE {P : Program} {w : World} {ops : Array Oper} {o : Oper} {a : Act} {K : Act → World → Prop} {Q : Exit → Act → World → Prop} {Z : Prop} {T E : TypeId} {sz bytes : Nat} {α : Type} {f : α → List Value} (he : Elt P T E sz bytes f)
    (hgd : o.guard = none) (s x : Operand) (ho : o.op = .call { callee := .builtin .append, args := #[s, x], argTypes := #[T, T] })
    (B : Nat) (v : Value) (l : List α) (hs : a.eval s = v) (hown : OwnR w B E sz v (l.map f))
    (b off m c : Nat) (news : List α) (hx : a.eval x = .slice (some ⟨b, off, none⟩) m c) (hm : m = news.length) (hnews : SlAt w (some ⟨b, off, none⟩) sz (news.map f))
    (hlen : l.length + news.length ≤ 1048576) (hbase : B ≤ w.heap.size)
    (h : ∀ v' w', OwnR w' B E sz v' ((l ++ news).map f) → w.grownBy w' v.ownBlock → K (a.put o.dst v') w') : if Region.wanted o (yielded ops a.tmps) = true then Oper.wp P o a w K Q else Z := by
  have hw : Region.wanted o (yielded ops a.tmps) = true := by simp [Region.wanted, hgd]
  rw [if_pos hw]
  obtain ⟨z, hinfo, hz⟩ := he.info
  obtain ⟨i, hi, hz0, hz1, hz2⟩ := info_parts hinfo
  subst hm
  have hwn : ∀ r ∈ news.map f, r.length = sz := fun r hr => by obtain ⟨y, _, rfl⟩ := List.mem_map.1 hr; exact he.len y
  have hww : ∀ r ∈ (l ++ news).map f, r.length = sz := fun r hr => by obtain ⟨y, _, rfl⟩ := List.mem_map.1 hr; exact he.len y
  have hown' := hown.own
  rw [List.length_map] at hown'
  refine wp_append_own w s x T ho B E i z sz bytes he.ty hi hz0 hz1 hz2 hz he.pos v l.length (l.map f).flatten hs hown' ⟨b, off, none⟩ news.length c (news.map f).flatten hx (by rw [flat_len _ sz hwn, List.length_map]) hnews.flat
    (oneCell_flat fun r hr u hu => by obtain ⟨y, _, rfl⟩ := List.mem_map.1 hr; exact he.one y u hu) (by unfold maxLen; omega)
    (Nat.le_trans (Nat.mul_le_mul hlen he.small) (by decide)) hbase fun v' w' ho' hg _ => h v' w' ⟨hww, by rw [List.length_map, List.length_append, List.map_append, List.flatten_append]; exact ho'⟩ hg

theorem wpAnyH_call2 {P : Program} {md : Region.Mode} {ops : Array Oper} {Q : Exit → Act → World → Prop} {S : World → Prop} {i j : Nat} {o o' : Oper} {fuel : Nat} {listed : Array Bool} {a : Act} {w : World} (hr : Region.ready md ops listed = [i, j]) (ho : ops[i]? = some o) (ho' : ops[j]? = some o')
    (h : ∀ K' : Act → World → Prop, Shut (∀ a w, S w → (S w → wpAnyH P md ops Q S fuel (listed.setIfInBounds i true) a w) → K' a w) → if Region.wanted o (yielded ops a.tmps) = true then Oper.wp P o a w K' Q else K' (a.put o.dst undef) w)
    (h' : ∀ K' : Act → World → Prop, Shut (∀ a w, S w → (S w → wpAnyH P md ops Q S fuel (listed.setIfInBounds j true) a w) → K' a w) → if Region.wanted o' (yielded ops a.tmps) = true then Oper.wp P o' a w K' Q else K' (a.put o'.dst undef) w) : wpAnyH P md ops Q S (fuel + 1) listed a w :=
  wpAnyH_ready hr (by simp) (AllReadyH.cons ho h (AllReadyH.cons ho' h' AllReadyH.nil))
theorem upTo_all {l : List Lo} (h : loansOk l = true) (t : Int) (ht : ∀ j (hj : j < l.length), j + 1 = l.length → l[j].t ≤ t) : upTo l t = l := by
  have g : ∀ m j (hj : j < l.length), j + m + 1 = l.length → l[j].t ≤ t := by
    intro m
    induction m with
    | zero => intro j hj e; exact ht j hj (by omega)
    | succ m ih =>
      intro j hj e
      have h1 := ih (j + 1) (by omega) (by omega)
      have h2 := loansOk_step h (j + 1) (by omega)
      rw [stepOk_succ l j (by omega)] at h2
      simp only [Bool.and_eq_true, decide_eq_true_eq] at h2
      have := h2.1.2
      omega
  rw [upTo_stop l t l.length (Nat.le_refl _) (fun j hj => g (l.length - j - 1) j hj (by omega)) (fun e => absurd e (Nat.lt_irrefl _)), List.take_length]
set_option maxRecDepth 100000 in
set_option maxHeartbeats 2000000 in
theorem PPush_any (a : Option Addr) (n cap : Nat) (l : List Lo) (t k s st h : Int) (w : World) (hn : n = l.length) (hl : n ≤ 1000000) (hs : SlOk a n cap) (hr : LoAt w a l) :
    Calls Try.prog 10 #[.slice a n cap, .agg #[.int .i64 t, .int .i64 k, .int .i64 s, .int .i64 st, .int .i64 h]] w (RetSlI 5 ((pushR l ⟨t, k, s, st, h⟩).1.map Lo.cells) (pushR l ⟨t, k, s, st, h⟩).2 w) := by
  subst hn
  have HS := Lib.hid hs; clear hs
  have HL := Lib.hid hl; clear hl
  go_enter Try.func10, Try.ntmps10
  go_wp2_with (first | (go_at_call 12; refine (PValid_any _ _ _ l _ rfl HL.out (hr.alloc _)).mono ?_; rintro e w1 ⟨rfl, hb⟩; have HX1 := Lib.hid (box_below hb); have hc1 := box_cells HX1.out; have HB1 := Lib.hid (((Below.refl _ _).alloc (Nat.le_refl _) _).trans (hb.mono (by simp))); clear hb) | (go_at_call 27; refine (formed_any _ _ _ _ _ _).mono ?_; rintro e w2 ⟨rfl, hb⟩; have HX2 := Lib.hid (blk_keep HX1.out hb); have hc2 := box_cells HX2.out; have HB2 := Lib.hid (HB1.out.trans (hb.mono HB1.out.size)); clear hb))
  · go_ret2
    go_tidy
    have e : pushR l ⟨t, k, s, st, h⟩ = ([], 1) := by simp_all [pushR]
    rw [e]; exact RetSlI.none HB2.out
  · go_ret2
    go_tidy
    have e : pushR l ⟨t, k, s, st, h⟩ = ([], 2) := by
      have hh : ((l.length : Int) == 20000) = true := by assumption
      have hh' : (l.length == 20000) = true := by simp at hh ⊢; omega
      simp_all [pushR]
    rw [e]; exact RetSlI.none HB2.out
  · have hv : loansOk l = true := by assumption
    have hf : loanOk ⟨t, k, s, st, h⟩ = true := not_f (by assumption)
    have h2 : ((l.length : Int) == 20000) = false := by assumption
    have h2' : (l.length == 20000) = false := by simp at h2 ⊢; omega
    have hp : pushR l ⟨t, k, s, st, h⟩ = if decide (0 < l.length) && decide (t < lastT l) then ([], 6) else if !happens l ⟨t, k, s, st, h⟩ then ([], 51) else (l ++ [⟨t, k, s, st, h⟩], 0) := by simp [pushR, hv, hf, h2']
    have HP := Lib.hid hp; clear hp h2' hc1
    have HR := Lib.hid (hr.below HB2.out)
    have hl2 : l.length ≤ 1000000 := HL.out
    by_cases h0 : l = []
    · have hd0 : decide (0 < l.length) = false := by simp [h0]
      have HG := Lib.hid (show (decide (0 < l.length) && decide (t < lastT l)) = false by rw [hd0]; rfl)
      have hu := upTo_all hv t (fun j hj => by subst h0; simp at hj)
      have HU := Lib.hid hu; clear hu
      have H0 := Lib.hid h0; clear h0
      go_quiet (fail)
      go_wp2
      refine wp_region_held_drew (S := fun w' => w'.heap[w.heap.size]? = some (.cells #[.int .i64 t, .int .i64 k, .int .i64 s, .int .i64 st, .int .i64 h] 24)) (by kernel_rfl) HX2.out (fun hHeld => ?_)
      (refine wpAnyH_take1 0 (oi := ?_) (v := ?_) ?_ (by kernel_rfl) (by kernel_rfl) (by kernel_rfl) (by assumption) ?_ ?_ ?_; rotate_left 2; (· simp only [List.getElem?_toArray, List.getElem?_cons_succ, List.getElem?_cons_zero]; try rfl); (· refine ⟨by kernel_rfl, ?_⟩; intro wq hSw; have hx := box_cells hSw; go_simp; first | done | with_reducible rfl); (· exact fun _ _ _ h => h); try simp only [Act.put, List.setIfInBounds_toArray, List.set_cons_zero, List.set_cons_succ])
      (refine wpAnyH_take1 1 (oi := ?_) (v := ?_) ?_ (by kernel_rfl) (by kernel_rfl) (by kernel_rfl) (by assumption) ?_ ?_ ?_; rotate_left 2; (· simp only [List.getElem?_toArray, List.getElem?_cons_succ, List.getElem?_cons_zero]; try rfl); (· refine ⟨by kernel_rfl, ?_⟩; intro wq hSw; have hx := box_cells hSw; go_simp; first | done | with_reducible rfl); (· exact fun _ _ _ h => h); try simp only [Act.put, List.setIfInBounds_toArray, List.set_cons_zero, List.set_cons_succ])
      (refine wpAnyH_take1 2 (oi := ?_) (v := ?_) ?_ (by kernel_rfl) (by kernel_rfl) (by kernel_rfl) (by assumption) ?_ ?_ ?_; rotate_left 2; (· simp only [List.getElem?_toArray, List.getElem?_cons_succ, List.getElem?_cons_zero]; try rfl); (· refine ⟨by kernel_rfl, ?_⟩; intro wq hSw; have hx := box_cells hSw; go_simp; first | done | with_reducible rfl); (· exact fun _ _ _ h => h); try simp only [Act.put, List.setIfInBounds_toArray, List.set_cons_zero, List.set_cons_succ])
      (refine wpAnyH_take1 4 (oi := ?_) (v := ?_) ?_ (by kernel_rfl) (by kernel_rfl) (by kernel_rfl) (by assumption) ?_ ?_ ?_; rotate_left 2; (· simp only [List.getElem?_toArray, List.getElem?_cons_succ, List.getElem?_cons_zero]; try rfl); (· refine ⟨by kernel_rfl, ?_⟩; intro wq hSw; have hx := box_cells hSw; go_simp; first | done | with_reducible rfl); (· exact fun _ _ _ h => h); try simp only [Act.put, List.setIfInBounds_toArray, List.set_cons_zero, List.set_cons_succ])
      (refine wpAnyH_call1 (i := 3) (o := ?_) (by kernel_rfl) ?_ (fun K hK => ?_); rotate_left 1; (· simp only [List.getElem?_toArray, List.getElem?_cons_succ, List.getElem?_cons_zero]; try rfl); go_simp)
      refine (at_any _ _ _ l t _ rfl HL.out ((HR.out.below (below_drewN (Below.refl _ _) nq)).below (Below.refl _ _).drew)).mono ?_; rintro e w3 ⟨ra, rb, rfl, hz, hb, hra, hrb⟩
      have hbN : Below w.heap.size w ((w2.drewN nq).drew) := (below_drewN HB2.out nq).trans ((Below.refl _ _).drew)
      have HZ3 := Lib.hid hz; have HB3 := Lib.hid (hbN.trans (hb.mono hbN.size)); have HX3 := Lib.hid (blk_keep (show ((w2.drewN nq).drew).heap[w.heap.size]? = some (.cells #[.int .i64 t, .int .i64 k, .int .i64 s, .int .i64 st, .int .i64 h] 24) from HX2.out) hb)
      have hne : w.heap.size < ra ∧ w.heap.size < rb := by have h1 := lt_of_block HX2.out; have h2 : w2.heap.size ≤ ra := hra; have h3 : w2.heap.size ≤ rb := hrb; exact ⟨by omega, by omega⟩
      clear hz hb hra hrb hbN
      go_simp
      refine hK.out _ _ HX3.out (fun hHeld3 => ?_)
      clear hK K hHeld
      (refine wpAnyH_call1 (i := 5) (o := ?_) (by kernel_rfl) ?_ (fun K hK => ?_); rotate_left 1; (· simp only [List.getElem?_toArray, List.getElem?_cons_succ, List.getElem?_cons_zero]; try rfl); go_simp)
      refine (add_any ra rb (shOf (upTo l t)) t k s st h _ HZ3.out).mono ?_; rintro e w4 ⟨rfl, hz, hb⟩
      have HB4 := Lib.hid (hb.below HB3.out (by omega) (by omega)); have HX4 := Lib.hid (hb.keep HX3.out (by omega) (by omega))
      have hcan : shCan (shOf (upTo l t)) ⟨t, k, s, st, h⟩ = happens l ⟨t, k, s, st, h⟩ := by rw [(shInv_upTo hv t).can, HU.out]
      rw [hcan]
      clear hz hb hne hcan
      go_simp
      refine hK.out _ _ HX4.out (fun hHeld4 => ?_)
      clear hK K hHeld3
      (refine wpAnyH_take1 6 (oi := ?_) (v := ?_) ?_ (by kernel_rfl) (by kernel_rfl) (by kernel_rfl) (by assumption) ?_ ?_ ?_; rotate_left 2; (· simp only [List.getElem?_toArray, List.getElem?_cons_succ, List.getElem?_cons_zero]; try rfl); (· refine ⟨by kernel_rfl, ?_⟩; intro wq hSw; have hx := box_cells hSw; go_simp; first | done | with_reducible rfl); (· exact fun _ _ _ h => h); try simp only [Act.put, List.setIfInBounds_toArray, List.set_cons_zero, List.set_cons_succ])
      (refine wpAnyH_take1 7 (oi := ?_) (v := ?_) ?_ (by kernel_rfl) (by kernel_rfl) (by kernel_rfl) (by assumption) ?_ ?_ ?_; rotate_left 2; (· simp only [List.getElem?_toArray, List.getElem?_cons_succ, List.getElem?_cons_zero]; try rfl); (· refine ⟨by kernel_rfl, ?_⟩; intro wq hSw; have hx := box_cells hSw; go_simp; first | done | with_reducible rfl); (· exact fun _ _ _ h => h); try simp only [Act.put, List.setIfInBounds_toArray, List.set_cons_zero, List.set_cons_succ])
      refine wpAnyH_done (by kernel_rfl) ?_ _
      have HR4 := Lib.hid (hr.below HB4.out)
      go_wp2
      · go_ret2
        have hh : happens l ⟨t, k, s, st, h⟩ = false := not_t (by assumption)
        have e : pushR l ⟨t, k, s, st, h⟩ = ([], 51) := by rw [HP.out, HG.out, if_neg (by simp), hh]; rfl
        rw [e]; exact RetSlI.none HB4.out
      · have hh : happens l ⟨t, k, s, st, h⟩ = true := not_f (by assumption)
        have HE := Lib.hid (show pushR l ⟨t, k, s, st, h⟩ = (l ++ [⟨t, k, s, st, h⟩], 0) by rw [HP.out, HG.out, if_neg (by simp), hh]; rfl)
        refine wp_region_held_drew (S := fun w' => w'.heap[w.heap.size]? = some (.cells #[.int .i64 t, .int .i64 k, .int .i64 s, .int .i64 st, .int .i64 h] 24)) (by kernel_rfl) HX4.out (fun hHeld => ?_)
        (refine wpAnyH_take1 0 (oi := ?_) (v := ?_) ?_ (by kernel_rfl) (by kernel_rfl) (by kernel_rfl) (by assumption) ?_ ?_ ?_; rotate_left 2; (· simp only [List.getElem?_toArray, List.getElem?_cons_succ, List.getElem?_cons_zero]; try rfl); (· refine ⟨by kernel_rfl, ?_⟩; intro wq hSw; have hx := box_cells hSw; go_simp; first | done | with_reducible rfl); (· exact fun _ _ _ h => h); try simp only [Act.put, List.setIfInBounds_toArray, List.set_cons_zero, List.set_cons_succ])
        (refine wpAnyH_take1 2 (oi := ?_) (v := ?_) ?_ (by kernel_rfl) (by kernel_rfl) (by kernel_rfl) (by assumption) ?_ ?_ ?_; rotate_left 2; (· simp only [List.getElem?_toArray, List.getElem?_cons_succ, List.getElem?_cons_zero]; try rfl); (· refine ⟨by kernel_rfl, ?_⟩; intro wq hSw; have hx := box_cells hSw; go_simp; first | done | with_reducible rfl); (· exact fun _ _ _ h => h); try simp only [Act.put, List.setIfInBounds_toArray, List.set_cons_zero, List.set_cons_succ])
        have hl3 := HL.out
        have hs4 := HB4.out.size
        refine wpAnyH_call2 (i := 1) (j := 3) (o := ?_) (o' := ?_) (by kernel_rfl) ?_ ?_ (fun K hK => ?_) (fun K hK => ?_)
        rotate_left 2
        · simp only [List.getElem?_toArray, List.getElem?_cons_succ, List.getElem?_cons_zero]; try rfl
        · simp only [List.getElem?_toArray, List.getElem?_cons_succ, List.getElem?_cons_zero]; try rfl
        · go_simp
          refine (Clone_any (w.heap.size + 1) _ _ _ l _ rfl HL.out HS.out (HR4.out.below (Below.refl _ _).drew) (lt_of_block HX4.out)).mono ?_; rintro e w5 ⟨v5, rfl, ho5, hb5⟩
          have HB5 := Lib.hid (HB4.out.trans ((Below.trans (show Below w4.heap.size w4 _ from (Below.refl _ _).drew) (hb5.mono (by simp))).mono hs4)); have HX5 := Lib.hid (blk_keep2 HX4.out (Below.refl _ _).drew hb5); have HO5 := Lib.hid ho5; clear ho5 hb5
          go_simp
          refine hK.out _ _ HX5.out (fun hHeld5 => ?_)
          clear hK K hHeld
          (refine wpAnyH_call1 (i := 3) (o := ?_) (by kernel_rfl) ?_ (fun K hK => ?_); rotate_left 1; (· simp only [List.getElem?_toArray, List.getElem?_cons_succ, List.getElem?_cons_zero]; try rfl); go_simp)
          refine hK.out _ _ (up_alloc HX5.out _) (fun hHeld6 => ?_)
          clear hK K
          refine wpAnyH_call1 (i := 4) (o := ?_) (by kernel_rfl) ?_ (fun K hK => ?_)
          rotate_left 1
          · simp only [List.getElem?_toArray, List.getElem?_cons_succ, List.getElem?_cons_zero]; try rfl
          refine stepE eltLoan rfl (.tmp 44) (.tmp 46) rfl (w.heap.size + 1) v5 l rfl (HO5.out.below ((Below.refl _ _).alloc (Nat.le_refl _) _)) _ _ _ _ [⟨t, k, s, st, h⟩] rfl rfl (eltLoan.new _ _ _ _ rfl) (by simp; omega) (by have := lt_of_block HX5.out; simp; omega) ?_
          intro v6 w6 ho6 hg6
          have HB6 := Lib.hid (below_grown (HB5.out.alloc HB5.out.size _) ((HO5.out.le (Nat.le_succ _)).below ((Below.refl _ _).alloc (Nat.le_refl _) _)) (by have := HB5.out.size; simp; omega) hg6); have HO6 := Lib.hid ho6
          have HX6 : w6.heap[w.heap.size]? = some (.cells #[.int .i64 t, .int .i64 k, .int .i64 s, .int .i64 st, .int .i64 h] 24) := (hg6.block _ (lt_of_block hHeld6) (fun e => by have := (HO5.out.lt _ e.symm).1; omega)).trans hHeld6
          refine hK.out _ _ HX6 (fun hHeld7 => ?_)
          clear hK K ho6 hg6
          (refine wpAnyH_take1 5 (oi := ?_) (v := ?_) ?_ (by kernel_rfl) (by kernel_rfl) (by kernel_rfl) (by assumption) ?_ ?_ ?_; rotate_left 2; (· simp only [List.getElem?_toArray, List.getElem?_cons_succ, List.getElem?_cons_zero]; try rfl); (· refine ⟨by kernel_rfl, ?_⟩; intro wq hSw; skip; go_simp; first | done | with_reducible rfl); (· exact fun _ _ _ h => h); try simp only [Act.put, List.setIfInBounds_toArray, List.set_cons_zero, List.set_cons_succ])
          (refine wpAnyH_take1 6 (oi := ?_) (v := ?_) ?_ (by kernel_rfl) (by kernel_rfl) (by kernel_rfl) (by assumption) ?_ ?_ ?_; rotate_left 2; (· simp only [List.getElem?_toArray, List.getElem?_cons_succ, List.getElem?_cons_zero]; try rfl); (· refine ⟨by kernel_rfl, ?_⟩; intro wq hSw; skip; go_simp; first | done | with_reducible rfl); (· exact fun _ _ _ h => h); try simp only [Act.put, List.setIfInBounds_toArray, List.set_cons_zero, List.set_cons_succ])
          refine wpAnyH_done (by kernel_rfl) ?_ _
          go_wp2
          go_ret2
          rw [HE.out]; exact HO6.out.retSlI rfl HB6.out
        · go_simp
          refine hK.out _ _ (up_alloc HX4.out _) (fun hHeld5 => ?_)
          clear hK K hHeld
          (refine wpAnyH_call1 (i := 1) (o := ?_) (by kernel_rfl) ?_ (fun K hK => ?_); rotate_left 1; (· simp only [List.getElem?_toArray, List.getElem?_cons_succ, List.getElem?_cons_zero]; try rfl); go_simp)
          refine (Clone_any (w.heap.size + 1) _ _ _ l _ rfl HL.out HS.out ((HR4.out.below (Below.refl _ _).drew).alloc _) (by have := lt_of_block HX4.out; simp; omega)).mono ?_; rintro e w5 ⟨v5, rfl, ho5, hb5⟩
          have HN5 := Lib.hid (SlAt.below (eltLoan.new w4.drew ⟨t, k, s, st, h⟩ _ _ rfl) hb5)
          have HB5 := Lib.hid ((HB4.out.trans ((show Below w4.heap.size w4 (w4.drew.alloc (.cells #[.int .i64 t, .int .i64 k, .int .i64 s, .int .i64 st, .int .i64 h] 24)) from ((Below.refl w4.heap.size w4).drew).alloc (Nat.le_refl _) _).mono hs4)).trans (hb5.mono (by simp; omega))); have HX5 := Lib.hid (blk_keep hHeld5 hb5); have HO5 := Lib.hid ho5; clear ho5 hb5
          go_simp
          refine hK.out _ _ HX5.out (fun hHeld6 => ?_)
          clear hK K hHeld5
          refine wpAnyH_call1 (i := 4) (o := ?_) (by kernel_rfl) ?_ (fun K hK => ?_)
          rotate_left 1
          · simp only [List.getElem?_toArray, List.getElem?_cons_succ, List.getElem?_cons_zero]; try rfl
          refine stepE eltLoan rfl (.tmp 44) (.tmp 46) rfl (w.heap.size + 1) v5 l rfl HO5.out _ _ _ _ [⟨t, k, s, st, h⟩] rfl rfl HN5.out (by simp; omega) (lt_of_block HX5.out) ?_
          intro v6 w6 ho6 hg6
          have HB6 := Lib.hid (below_grown HB5.out (HO5.out.le (Nat.le_succ _)) HB5.out.size hg6); have HO6 := Lib.hid ho6
          have HX6 : w6.heap[w.heap.size]? = some (.cells #[.int .i64 t, .int .i64 k, .int .i64 s, .int .i64 st, .int .i64 h] 24) := (hg6.block _ (lt_of_block hHeld6) (fun e => by have := (HO5.out.lt _ e.symm).1; omega)).trans hHeld6
          refine hK.out _ _ HX6 (fun hHeld7 => ?_)
          clear hK K ho6 hg6
          (refine wpAnyH_take1 5 (oi := ?_) (v := ?_) ?_ (by kernel_rfl) (by kernel_rfl) (by kernel_rfl) (by assumption) ?_ ?_ ?_; rotate_left 2; (· simp only [List.getElem?_toArray, List.getElem?_cons_succ, List.getElem?_cons_zero]; try rfl); (· refine ⟨by kernel_rfl, ?_⟩; intro wq hSw; skip; go_simp; first | done | with_reducible rfl); (· exact fun _ _ _ h => h); try simp only [Act.put, List.setIfInBounds_toArray, List.set_cons_zero, List.set_cons_succ])
          (refine wpAnyH_take1 6 (oi := ?_) (v := ?_) ?_ (by kernel_rfl) (by kernel_rfl) (by kernel_rfl) (by assumption) ?_ ?_ ?_; rotate_left 2; (· simp only [List.getElem?_toArray, List.getElem?_cons_succ, List.getElem?_cons_zero]; try rfl); (· refine ⟨by kernel_rfl, ?_⟩; intro wq hSw; skip; go_simp; first | done | with_reducible rfl); (· exact fun _ _ _ h => h); try simp only [Act.put, List.setIfInBounds_toArray, List.set_cons_zero, List.set_cons_succ])
          refine wpAnyH_done (by kernel_rfl) ?_ _
          go_wp2
          go_ret2
          rw [HE.out]; exact HO6.out.retSlI rfl HB6.out
    · have hpos : 0 < l.length := List.length_pos_iff.2 h0
      obtain ⟨j, hj⟩ : ∃ j, l.length = j + 1 := ⟨l.length - 1, by omega⟩
      have HJ := Lib.hid hj; clear hj
      have hk1 : (l.length : Int) - 1 = (j : Int) := by have := HJ.out; omega
      obtain ⟨b, off, rfl, d0, _, _, _, _⟩ := HR.out.get j (by have := HJ.out; omega)
      have hd0 : decide (0 < l.length) = true := by simpa using hpos
      have hjl : j < l.length := by have := HJ.out; omega
      go_quiet (fail)
      cases hd : decide (t < l[j].t)
      · have HG := Lib.hid (show (decide (0 < l.length) && decide (t < lastT l)) = false by rw [lastT_eq l j HJ.out, hd, Bool.and_false])
        have hu := upTo_all hv t (fun i hi e => by have e2 : i = j := (by have := HJ.out; omega); subst e2; have := of_decide_eq_false hd; omega)
        have HU := Lib.hid hu; clear hu
        go_wp2
        refine wp_region_held_drew (S := fun w' => w'.heap[w.heap.size]? = some (.cells #[.int .i64 t, .int .i64 k, .int .i64 s, .int .i64 st, .int .i64 h] 24)) (by kernel_rfl) HX2.out (fun hHeld => ?_)
        (refine wpAnyH_take1 0 (oi := ?_) (v := ?_) ?_ (by kernel_rfl) (by kernel_rfl) (by kernel_rfl) (by assumption) ?_ ?_ ?_; rotate_left 2; (· simp only [List.getElem?_toArray, List.getElem?_cons_succ, List.getElem?_cons_zero]; try rfl); (· refine ⟨by kernel_rfl, ?_⟩; intro wq hSw; have hx := box_cells hSw; go_simp; first | done | with_reducible rfl); (· exact fun _ _ _ h => h); try simp only [Act.put, List.setIfInBounds_toArray, List.set_cons_zero, List.set_cons_succ])
        (refine wpAnyH_take1 1 (oi := ?_) (v := ?_) ?_ (by kernel_rfl) (by kernel_rfl) (by kernel_rfl) (by assumption) ?_ ?_ ?_; rotate_left 2; (· simp only [List.getElem?_toArray, List.getElem?_cons_succ, List.getElem?_cons_zero]; try rfl); (· refine ⟨by kernel_rfl, ?_⟩; intro wq hSw; have hx := box_cells hSw; go_simp; first | done | with_reducible rfl); (· exact fun _ _ _ h => h); try simp only [Act.put, List.setIfInBounds_toArray, List.set_cons_zero, List.set_cons_succ])
        (refine wpAnyH_take1 2 (oi := ?_) (v := ?_) ?_ (by kernel_rfl) (by kernel_rfl) (by kernel_rfl) (by assumption) ?_ ?_ ?_; rotate_left 2; (· simp only [List.getElem?_toArray, List.getElem?_cons_succ, List.getElem?_cons_zero]; try rfl); (· refine ⟨by kernel_rfl, ?_⟩; intro wq hSw; have hx := box_cells hSw; go_simp; first | done | with_reducible rfl); (· exact fun _ _ _ h => h); try simp only [Act.put, List.setIfInBounds_toArray, List.set_cons_zero, List.set_cons_succ])
        (refine wpAnyH_take1 4 (oi := ?_) (v := ?_) ?_ (by kernel_rfl) (by kernel_rfl) (by kernel_rfl) (by assumption) ?_ ?_ ?_; rotate_left 2; (· simp only [List.getElem?_toArray, List.getElem?_cons_succ, List.getElem?_cons_zero]; try rfl); (· refine ⟨by kernel_rfl, ?_⟩; intro wq hSw; have hx := box_cells hSw; go_simp; first | done | with_reducible rfl); (· exact fun _ _ _ h => h); try simp only [Act.put, List.setIfInBounds_toArray, List.set_cons_zero, List.set_cons_succ])
        (refine wpAnyH_call1 (i := 3) (o := ?_) (by kernel_rfl) ?_ (fun K hK => ?_); rotate_left 1; (· simp only [List.getElem?_toArray, List.getElem?_cons_succ, List.getElem?_cons_zero]; try rfl); go_simp)
        refine (at_any _ _ _ l t _ rfl HL.out ((HR.out.below (below_drewN (Below.refl _ _) nq)).below (Below.refl _ _).drew)).mono ?_; rintro e w3 ⟨ra, rb, rfl, hz, hb, hra, hrb⟩
        have hbN : Below w.heap.size w ((w2.drewN nq).drew) := (below_drewN HB2.out nq).trans ((Below.refl _ _).drew)
        have HZ3 := Lib.hid hz; have HB3 := Lib.hid (hbN.trans (hb.mono hbN.size)); have HX3 := Lib.hid (blk_keep (show ((w2.drewN nq).drew).heap[w.heap.size]? = some (.cells #[.int .i64 t, .int .i64 k, .int .i64 s, .int .i64 st, .int .i64 h] 24) from HX2.out) hb)
        have hne : w.heap.size < ra ∧ w.heap.size < rb := by have h1 := lt_of_block HX2.out; have h2 : w2.heap.size ≤ ra := hra; have h3 : w2.heap.size ≤ rb := hrb; exact ⟨by omega, by omega⟩
        clear hz hb hra hrb hbN
        go_simp
        refine hK.out _ _ HX3.out (fun hHeld3 => ?_)
        clear hK K hHeld
        (refine wpAnyH_call1 (i := 5) (o := ?_) (by kernel_rfl) ?_ (fun K hK => ?_); rotate_left 1; (· simp only [List.getElem?_toArray, List.getElem?_cons_succ, List.getElem?_cons_zero]; try rfl); go_simp)
        refine (add_any ra rb (shOf (upTo l t)) t k s st h _ HZ3.out).mono ?_; rintro e w4 ⟨rfl, hz, hb⟩
        have HB4 := Lib.hid (hb.below HB3.out (by omega) (by omega)); have HX4 := Lib.hid (hb.keep HX3.out (by omega) (by omega))
        have hcan : shCan (shOf (upTo l t)) ⟨t, k, s, st, h⟩ = happens l ⟨t, k, s, st, h⟩ := by rw [(shInv_upTo hv t).can, HU.out]
        rw [hcan]
        clear hz hb hne hcan
        go_simp
        refine hK.out _ _ HX4.out (fun hHeld4 => ?_)
        clear hK K hHeld3
        (refine wpAnyH_take1 6 (oi := ?_) (v := ?_) ?_ (by kernel_rfl) (by kernel_rfl) (by kernel_rfl) (by assumption) ?_ ?_ ?_; rotate_left 2; (· simp only [List.getElem?_toArray, List.getElem?_cons_succ, List.getElem?_cons_zero]; try rfl); (· refine ⟨by kernel_rfl, ?_⟩; intro wq hSw; have hx := box_cells hSw; go_simp; first | done | with_reducible rfl); (· exact fun _ _ _ h => h); try simp only [Act.put, List.setIfInBounds_toArray, List.set_cons_zero, List.set_cons_succ])
        (refine wpAnyH_take1 7 (oi := ?_) (v := ?_) ?_ (by kernel_rfl) (by kernel_rfl) (by kernel_rfl) (by assumption) ?_ ?_ ?_; rotate_left 2; (· simp only [List.getElem?_toArray, List.getElem?_cons_succ, List.getElem?_cons_zero]; try rfl); (· refine ⟨by kernel_rfl, ?_⟩; intro wq hSw; have hx := box_cells hSw; go_simp; first | done | with_reducible rfl); (· exact fun _ _ _ h => h); try simp only [Act.put, List.setIfInBounds_toArray, List.set_cons_zero, List.set_cons_succ])
        refine wpAnyH_done (by kernel_rfl) ?_ _
        have HR4 := Lib.hid (hr.below HB4.out)
        go_wp2
        · go_ret2
          have hh : happens l ⟨t, k, s, st, h⟩ = false := not_t (by assumption)
          have e : pushR l ⟨t, k, s, st, h⟩ = ([], 51) := by rw [HP.out, HG.out, if_neg (by simp), hh]; rfl
          rw [e]; exact RetSlI.none HB4.out
        · have hh : happens l ⟨t, k, s, st, h⟩ = true := not_f (by assumption)
          have HE := Lib.hid (show pushR l ⟨t, k, s, st, h⟩ = (l ++ [⟨t, k, s, st, h⟩], 0) by rw [HP.out, HG.out, if_neg (by simp), hh]; rfl)
          refine wp_region_held_drew (S := fun w' => w'.heap[w.heap.size]? = some (.cells #[.int .i64 t, .int .i64 k, .int .i64 s, .int .i64 st, .int .i64 h] 24)) (by kernel_rfl) HX4.out (fun hHeld => ?_)
          (refine wpAnyH_take1 0 (oi := ?_) (v := ?_) ?_ (by kernel_rfl) (by kernel_rfl) (by kernel_rfl) (by assumption) ?_ ?_ ?_; rotate_left 2; (· simp only [List.getElem?_toArray, List.getElem?_cons_succ, List.getElem?_cons_zero]; try rfl); (· refine ⟨by kernel_rfl, ?_⟩; intro wq hSw; have hx := box_cells hSw; go_simp; first | done | with_reducible rfl); (· exact fun _ _ _ h => h); try simp only [Act.put, List.setIfInBounds_toArray, List.set_cons_zero, List.set_cons_succ])
          (refine wpAnyH_take1 2 (oi := ?_) (v := ?_) ?_ (by kernel_rfl) (by kernel_rfl) (by kernel_rfl) (by assumption) ?_ ?_ ?_; rotate_left 2; (· simp only [List.getElem?_toArray, List.getElem?_cons_succ, List.getElem?_cons_zero]; try rfl); (· refine ⟨by kernel_rfl, ?_⟩; intro wq hSw; have hx := box_cells hSw; go_simp; first | done | with_reducible rfl); (· exact fun _ _ _ h => h); try simp only [Act.put, List.setIfInBounds_toArray, List.set_cons_zero, List.set_cons_succ])
          have hl3 := HL.out
          have hs4 := HB4.out.size
          refine wpAnyH_call2 (i := 1) (j := 3) (o := ?_) (o' := ?_) (by kernel_rfl) ?_ ?_ (fun K hK => ?_) (fun K hK => ?_)
          rotate_left 2
          · simp only [List.getElem?_toArray, List.getElem?_cons_succ, List.getElem?_cons_zero]; try rfl
          · simp only [List.getElem?_toArray, List.getElem?_cons_succ, List.getElem?_cons_zero]; try rfl
          · go_simp
            refine (Clone_any (w.heap.size + 1) _ _ _ l _ rfl HL.out HS.out (HR4.out.below (Below.refl _ _).drew) (lt_of_block HX4.out)).mono ?_; rintro e w5 ⟨v5, rfl, ho5, hb5⟩
            have HB5 := Lib.hid (HB4.out.trans ((Below.trans (show Below w4.heap.size w4 _ from (Below.refl _ _).drew) (hb5.mono (by simp))).mono hs4)); have HX5 := Lib.hid (blk_keep2 HX4.out (Below.refl _ _).drew hb5); have HO5 := Lib.hid ho5; clear ho5 hb5
            go_simp
            refine hK.out _ _ HX5.out (fun hHeld5 => ?_)
            clear hK K hHeld
            (refine wpAnyH_call1 (i := 3) (o := ?_) (by kernel_rfl) ?_ (fun K hK => ?_); rotate_left 1; (· simp only [List.getElem?_toArray, List.getElem?_cons_succ, List.getElem?_cons_zero]; try rfl); go_simp)
            refine hK.out _ _ (up_alloc HX5.out _) (fun hHeld6 => ?_)
            clear hK K
            refine wpAnyH_call1 (i := 4) (o := ?_) (by kernel_rfl) ?_ (fun K hK => ?_)
            rotate_left 1
            · simp only [List.getElem?_toArray, List.getElem?_cons_succ, List.getElem?_cons_zero]; try rfl
            refine stepE eltLoan rfl (.tmp 44) (.tmp 46) rfl (w.heap.size + 1) v5 l rfl (HO5.out.below ((Below.refl _ _).alloc (Nat.le_refl _) _)) _ _ _ _ [⟨t, k, s, st, h⟩] rfl rfl (eltLoan.new _ _ _ _ rfl) (by simp; omega) (by have := lt_of_block HX5.out; simp; omega) ?_
            intro v6 w6 ho6 hg6
            have HB6 := Lib.hid (below_grown (HB5.out.alloc HB5.out.size _) ((HO5.out.le (Nat.le_succ _)).below ((Below.refl _ _).alloc (Nat.le_refl _) _)) (by have := HB5.out.size; simp; omega) hg6); have HO6 := Lib.hid ho6
            have HX6 : w6.heap[w.heap.size]? = some (.cells #[.int .i64 t, .int .i64 k, .int .i64 s, .int .i64 st, .int .i64 h] 24) := (hg6.block _ (lt_of_block hHeld6) (fun e => by have := (HO5.out.lt _ e.symm).1; omega)).trans hHeld6
            refine hK.out _ _ HX6 (fun hHeld7 => ?_)
            clear hK K ho6 hg6
            (refine wpAnyH_take1 5 (oi := ?_) (v := ?_) ?_ (by kernel_rfl) (by kernel_rfl) (by kernel_rfl) (by assumption) ?_ ?_ ?_; rotate_left 2; (· simp only [List.getElem?_toArray, List.getElem?_cons_succ, List.getElem?_cons_zero]; try rfl); (· refine ⟨by kernel_rfl, ?_⟩; intro wq hSw; skip; go_simp; first | done | with_reducible rfl); (· exact fun _ _ _ h => h); try simp only [Act.put, List.setIfInBounds_toArray, List.set_cons_zero, List.set_cons_succ])
            (refine wpAnyH_take1 6 (oi := ?_) (v := ?_) ?_ (by kernel_rfl) (by kernel_rfl) (by kernel_rfl) (by assumption) ?_ ?_ ?_; rotate_left 2; (· simp only [List.getElem?_toArray, List.getElem?_cons_succ, List.getElem?_cons_zero]; try rfl); (· refine ⟨by kernel_rfl, ?_⟩; intro wq hSw; skip; go_simp; first | done | with_reducible rfl); (· exact fun _ _ _ h => h); try simp only [Act.put, List.setIfInBounds_toArray, List.set_cons_zero, List.set_cons_succ])
            refine wpAnyH_done (by kernel_rfl) ?_ _
            go_wp2
            go_ret2
            rw [HE.out]; exact HO6.out.retSlI rfl HB6.out
          · go_simp
            refine hK.out _ _ (up_alloc HX4.out _) (fun hHeld5 => ?_)
            clear hK K hHeld
            (refine wpAnyH_call1 (i := 1) (o := ?_) (by kernel_rfl) ?_ (fun K hK => ?_); rotate_left 1; (· simp only [List.getElem?_toArray, List.getElem?_cons_succ, List.getElem?_cons_zero]; try rfl); go_simp)
            refine (Clone_any (w.heap.size + 1) _ _ _ l _ rfl HL.out HS.out ((HR4.out.below (Below.refl _ _).drew).alloc _) (by have := lt_of_block HX4.out; simp; omega)).mono ?_; rintro e w5 ⟨v5, rfl, ho5, hb5⟩
            have HN5 := Lib.hid (SlAt.below (eltLoan.new w4.drew ⟨t, k, s, st, h⟩ _ _ rfl) hb5)
            have HB5 := Lib.hid ((HB4.out.trans ((show Below w4.heap.size w4 (w4.drew.alloc (.cells #[.int .i64 t, .int .i64 k, .int .i64 s, .int .i64 st, .int .i64 h] 24)) from ((Below.refl w4.heap.size w4).drew).alloc (Nat.le_refl _) _).mono hs4)).trans (hb5.mono (by simp; omega))); have HX5 := Lib.hid (blk_keep hHeld5 hb5); have HO5 := Lib.hid ho5; clear ho5 hb5
            go_simp
            refine hK.out _ _ HX5.out (fun hHeld6 => ?_)
            clear hK K hHeld5
            refine wpAnyH_call1 (i := 4) (o := ?_) (by kernel_rfl) ?_ (fun K hK => ?_)
            rotate_left 1
            · simp only [List.getElem?_toArray, List.getElem?_cons_succ, List.getElem?_cons_zero]; try rfl
            refine stepE eltLoan rfl (.tmp 44) (.tmp 46) rfl (w.heap.size + 1) v5 l rfl HO5.out _ _ _ _ [⟨t, k, s, st, h⟩] rfl rfl HN5.out (by simp; omega) (lt_of_block HX5.out) ?_
            intro v6 w6 ho6 hg6
            have HB6 := Lib.hid (below_grown HB5.out (HO5.out.le (Nat.le_succ _)) HB5.out.size hg6); have HO6 := Lib.hid ho6
            have HX6 : w6.heap[w.heap.size]? = some (.cells #[.int .i64 t, .int .i64 k, .int .i64 s, .int .i64 st, .int .i64 h] 24) := (hg6.block _ (lt_of_block hHeld6) (fun e => by have := (HO5.out.lt _ e.symm).1; omega)).trans hHeld6
            refine hK.out _ _ HX6 (fun hHeld7 => ?_)
            clear hK K ho6 hg6
            (refine wpAnyH_take1 5 (oi := ?_) (v := ?_) ?_ (by kernel_rfl) (by kernel_rfl) (by kernel_rfl) (by assumption) ?_ ?_ ?_; rotate_left 2; (· simp only [List.getElem?_toArray, List.getElem?_cons_succ, List.getElem?_cons_zero]; try rfl); (· refine ⟨by kernel_rfl, ?_⟩; intro wq hSw; skip; go_simp; first | done | with_reducible rfl); (· exact fun _ _ _ h => h); try simp only [Act.put, List.setIfInBounds_toArray, List.set_cons_zero, List.set_cons_succ])
            (refine wpAnyH_take1 6 (oi := ?_) (v := ?_) ?_ (by kernel_rfl) (by kernel_rfl) (by kernel_rfl) (by assumption) ?_ ?_ ?_; rotate_left 2; (· simp only [List.getElem?_toArray, List.getElem?_cons_succ, List.getElem?_cons_zero]; try rfl); (· refine ⟨by kernel_rfl, ?_⟩; intro wq hSw; skip; go_simp; first | done | with_reducible rfl); (· exact fun _ _ _ h => h); try simp only [Act.put, List.setIfInBounds_toArray, List.set_cons_zero, List.set_cons_succ])
            refine wpAnyH_done (by kernel_rfl) ?_ _
            go_wp2
            go_ret2
            rw [HE.out]; exact HO6.out.retSlI rfl HB6.out
      · go_wp2
        go_ret2
        have e : pushR l ⟨t, k, s, st, h⟩ = ([], 6) := by rw [HP.out, show (decide (0 < l.length) && decide (t < lastT l)) = true by rw [hd0, lastT_eq l j HJ.out, hd]; rfl, if_pos rfl]
        rw [e]; exact RetSlI.none (below_drewN HB2.out nq)
  · go_ret2
    go_tidy
    have e : pushR l ⟨t, k, s, st, h⟩ = ([], 1) := by simp_all [pushR]
    rw [e]; exact RetSlI.none HB1.out

end Go.Proofs.Ytokhligpjbdhcaa
