/- The contract of loan.Valid. -/
import Derived.Test.YtokhligpjbdhcaaLoanPure
import Derived.Deep.RegionHeld3
namespace Go.Proofs.Ytokhligpjbdhcaa
set_option linter.unusedSimpArgs false
set_option linter.unusedVariables false
open Go.RowKit Go.Sort

theorem wpAnyH_take1 {P : Program} {md : Region.Mode} {ops : Array Oper} {Q : Exit → Act → World → Prop} {S : World → Prop} (i : Nat) {oi : Oper} {v : Value} {fuel : Nat} {listed : Array Bool} {a : Act} {w : World} (hi : ops[i]? = some oi)
    (hs : Region.noSelect ops = true) (hf : Region.free md ops listed i = true) (hr : (Region.ready md ops listed).contains i = true) (hS : S w)
    (hy : Region.wanted oi (yielded ops a.tmps) = true ∧ ∀ w, S w → (execOp a.eval oi).run P w = .ok (.value v) w) (hQ : ∀ c a w, Q (.panic c) (Act.put a oi.dst v) w → Q (.panic c) a w) (h : wpAnyH P md ops Q S fuel (listed.setIfInBounds i true) (a.put oi.dst v) w) : wpAnyH P md ops Q S (fuel + 1) listed a w :=
  wpAnyH_take hi hs hf hr hQ (.inl hy) hS h
theorem wpAnyH_take0 {P : Program} {md : Region.Mode} {ops : Array Oper} {Q : Exit → Act → World → Prop} {S : World → Prop} (i : Nat) {oi : Oper} {fuel : Nat} {listed : Array Bool} {a : Act} {w : World} (hi : ops[i]? = some oi)
    (hs : Region.noSelect ops = true) (hf : Region.free md ops listed i = true) (hr : (Region.ready md ops listed).contains i = true) (hS : S w)
    (hy : Region.wanted oi (yielded ops a.tmps) = false) (hQ : ∀ c a w, Q (.panic c) (Act.put a oi.dst undef) w → Q (.panic c) a w) (h : wpAnyH P md ops Q S fuel (listed.setIfInBounds i true) (a.put oi.dst undef) w) : wpAnyH P md ops Q S (fuel + 1) listed a w :=
  wpAnyH_take hi hs hf hr hQ (.inr ⟨hy, rfl⟩) hS h
theorem wpAnyH_call1 {P : Program} {md : Region.Mode} {ops : Array Oper} {Q : Exit → Act → World → Prop} {S : World → Prop} {i : Nat} {o : Oper} {fuel : Nat} {listed : Array Bool} {a : Act} {w : World} (hr : Region.ready md ops listed = [i]) (ho : ops[i]? = some o)
    (h : ∀ K' : Act → World → Prop, Shut (∀ a w, S w → (S w → wpAnyH P md ops Q S fuel (listed.setIfInBounds i true) a w) → K' a w) → if Region.wanted o (yielded ops a.tmps) = true then Oper.wp P o a w K' Q else K' (a.put o.dst undef) w) : wpAnyH P md ops Q S (fuel + 1) listed a w :=
  wpAnyH_ready hr (by simp) (AllReadyH.cons ho h AllReadyH.nil)
theorem But2.keep {a b : Nat} {w w' : World} (h : But2 a b w w') {k : Nat} {o : Obj} (hk : w.heap[k]? = some o) (ha : k ≠ a) (hb : k ≠ b) : w'.heap[k]? = some o := (h.block k (lt_of_block hk) ha hb).trans hk
theorem But2.below {a b : Nat} {w0 w w' : World} (h : But2 a b w w') (hb : Below w0.heap.size w0 w) (ha : w0.heap.size ≤ a) (hbb : w0.heap.size ≤ b) : Below w0.heap.size w0 w' :=
  hb.trans ⟨h.os, h.tape, h.output, h.size, fun k hk => h.block k (Nat.lt_of_lt_of_le hk hb.size) (by omega) (by omega)⟩
theorem loansOk_len {l : List Lo} (h : 20000 < l.length) : loansOk l = false := by
  unfold loansOk; rw [decide_eq_false (by omega)]; rfl
theorem loansOk_all {l : List Lo} (h : ∀ j, j < l.length → stepOk l j = true) : loansOk l = decide (l.length ≤ 20000) := by
  unfold loansOk
  rw [List.all_eq_true.2 fun j hj => h j (List.mem_range.1 hj), Bool.and_true]
set_option maxRecDepth 100000 in
set_option maxHeartbeats 2000000 in
theorem PValid_any (a : Option Addr) (n cap : Nat) (l : List Lo) (w : World) (hn : n = l.length) (hl : n ≤ 1000000) (hr : LoAt w a l) :
    Calls Try.prog 12 #[.slice a n cap] w fun e w' => e = .returned (.bool (loansOk l)) ∧ Below w.heap.size w w' := by
  subst hn
  have hmm := @run_makeMap Try.prog
  go_enter Try.func12, Try.ntmps12
  go_wp2
  go_loopw [4, 5, 11] (fun _ _ i wr => ∃ k : Nat, k ≤ l.length ∧ i = .int .i64 k ∧ (∀ j, j < k → stepOk l j = true) ∧ ShAt wr w.heap.size (w.heap.size + 1) (shOf (l.take k)) ∧ wr.heap[w.heap.size + 1 + 1]? = some (.cells #[.map (some w.heap.size), .map (some (w.heap.size + 1))] 50) ∧ Below w.heap.size w wr) (fun _ _ i _ => l.length - (intOf i).toNat)
  case atStart =>
    refine ⟨0, Nat.zero_le _, rfl, fun j hj => by omega, ⟨⟨⟨_, _, up_alloc (up_alloc (heap_alloc_new w _) _) _, rfl, by simp, by simp⟩, by simp [shOf]⟩, ⟨⟨_, _, up_alloc (at_alloc _ _ (by simp)) _, rfl, by simp, by simp⟩, by simp [shOf]⟩, by omega⟩, at_alloc _ _ (by simp), ((((Below.refl _ w).alloc (Nat.le_refl _) _).alloc (by simp) _).alloc (by simp; omega) _)⟩
  case round =>
    obtain ⟨k, hk, rfl, hall, hz, hs, hb⟩ := hrel
    have H := Lib.hid hall; clear hall
    have HZ := Lib.hid hz; clear hz
    have HB := Lib.hid hb; clear hb
    have HS := Lib.hid hs; clear hs
    by_cases hlt : k < l.length
    · have hr1 : LoAt wr a l := hr.below HB.out
      obtain ⟨b, off, rfl, c0, c1, c2, c3, c4⟩ := hr1.get k hlt
      go_wp2
      obtain ⟨wr1, hw1⟩ : ∃ wr1, wr1 = wr.alloc (.cells #[.int .i64 l[k].t, .int .i64 l[k].k, .int .i64 l[k].s, .int .i64 l[k].st, .int .i64 l[k].h] 24) := ⟨_, rfl⟩
      rw [← hw1]
      have HX := Lib.hid (show wr1.heap[wr.heap.size]? = some (.cells #[.int .i64 l[k].t, .int .i64 l[k].k, .int .i64 l[k].s, .int .i64 l[k].st, .int .i64 l[k].h] 24) by rw [hw1]; exact heap_alloc_new _ _)
      have HS1 := Lib.hid (show wr1.heap[w.heap.size + 1 + 1]? = some (.cells #[.map (some w.heap.size), .map (some (w.heap.size + 1))] 50) by rw [hw1]; exact up_alloc HS.out _)
      have HZ1 := Lib.hid (show ShAt wr1 w.heap.size (w.heap.size + 1) (shOf (l.take k)) by rw [hw1]; exact HZ.out.below ((Below.refl _ _).alloc (Nat.le_refl _) _))
      have HB1 := Lib.hid (show Below w.heap.size w wr1 by rw [hw1]; exact HB.out.alloc HB.out.size _)
      have hrr : LoAt wr1 (some ⟨b, off, none⟩) l := hr.below HB1.out
      have hwlt : w.heap.size + 1 + 1 < wr.heap.size := lt_of_block HS.out
      have hblt : b < w.heap.size := by
        obtain ⟨b', o', e', h', _⟩ := hr k (l[k].cells) (by simp [List.getElem?_eq_getElem hlt])
        cases e'; exact h'
      clear hw1 c0 c1 c2 c3 c4 hr1
      have cx := box_cells HX.out
      have cs := box_cells HS1.out
      have hcl : loanOk ⟨l[k].t, l[k].k, l[k].s, l[k].st, l[k].h⟩ = true → shCan (shOf (l.take k)) ⟨l[k].t, l[k].k, l[k].s, l[k].st, l[k].h⟩ = happens (l.take k) ⟨l[k].t, l[k].k, l[k].s, l[k].st, l[k].h⟩ := fun _ => (shInv_take l k hk H.out).can _
      have HCL := Lib.hid hcl; clear hcl
      cases hf : loanOk ⟨l[k].t, l[k].k, l[k].s, l[k].st, l[k].h⟩
      · refine wp_quietB (by kernel_rfl) (by kernel_rfl) ?_
        have gx := fun (d : Nat) (os : Array Obj) => box_cells (blk_keep HX.out (below_regrown wr1 d os))
        have gs := fun (d : Nat) (os : Array Obj) => box_cells (blk_keep HS1.out (below_regrown wr1 d os))
        repeat (go_big_quiet_step (first | (go_at_call 27; refine Calls.regrown_of (formed_any _ _ _ _ _ _))))
        refine wpQuiet_nil ?_; intro w2 hb3; go_wp2
        go_ret
        exact ⟨ret_bool (loansOk_bad l k hlt (by simp only [stepOk, getD_at l k hlt, hf, Bool.false_and])).symm, HB1.out.trans (hb3.mono HB1.out.size)⟩
      · by_cases h0 : k = 0
        · have hk0 : decide (0 < k) = false := by simp [h0]
          have H0 := Lib.hid h0; clear h0
          refine wp_region_held_drew (S := fun w' => w'.heap[wr.heap.size]? = some (.cells #[.int .i64 l[k].t, .int .i64 l[k].k, .int .i64 l[k].s, .int .i64 l[k].st, .int .i64 l[k].h] 24) ∧ w'.heap[w.heap.size + 1 + 1]? = some (.cells #[.map (some w.heap.size), .map (some (w.heap.size + 1))] 50)) (by kernel_rfl) ⟨HX.out, HS1.out⟩ (fun hHeld => ?_)
          (refine wpAnyH_take1 0 (oi := ?_) (v := ?_) ?_ (by kernel_rfl) (by kernel_rfl) (by kernel_rfl) (by assumption) ?_ ?_ ?_; rotate_left 2; (· simp only [List.getElem?_toArray, List.getElem?_cons_succ, List.getElem?_cons_zero]; try rfl); (· refine ⟨by kernel_rfl, ?_⟩; intro wq hSw; have hx := box_cells hSw.1; have hy := box_cells hSw.2; go_simp; first | done | with_reducible rfl); (· exact fun _ _ _ h => h); try simp only [Act.put, List.setIfInBounds_toArray, List.set_cons_zero, List.set_cons_succ])
          (refine wpAnyH_call1 (i := 1) (o := ?_) (by kernel_rfl) ?_ (fun K hK => ?_); rotate_left 1; (· simp only [List.getElem?_toArray, List.getElem?_cons_succ, List.getElem?_cons_zero]; try rfl); go_simp)
          refine (formed_any _ _ _ _ _ _).mono ?_; rintro e w2 ⟨rfl, hb⟩
          have HX2 := Lib.hid (blk_keep2 HX.out (Below.refl _ _).drew hb); have HS2 := Lib.hid (blk_keep2 HS1.out (Below.refl _ _).drew hb); have HZ2 := Lib.hid ((HZ1.out.below (Below.refl _ _).drew).below hb); have HB2 := Lib.hid (HB1.out.trans ((Below.trans (show Below wr1.heap.size wr1 _ from (Below.refl _ _).drew) (hb.mono (by simp))).mono HB1.out.size))
          go_simp
          refine hK.out _ _ ⟨HX2.out, HS2.out⟩ (fun hHeld2 => ?_)
          clear hK K hHeld
          (refine wpAnyH_take1 2 (oi := ?_) (v := ?_) ?_ (by kernel_rfl) (by kernel_rfl) (by kernel_rfl) (by assumption) ?_ ?_ ?_; rotate_left 2; (· simp only [List.getElem?_toArray, List.getElem?_cons_succ, List.getElem?_cons_zero]; try rfl); (· refine ⟨by kernel_rfl, ?_⟩; intro wq hSw; have hx := box_cells hSw.1; have hy := box_cells hSw.2; go_simp; first | done | with_reducible rfl); (· exact fun _ _ _ h => h); try simp only [Act.put, List.setIfInBounds_toArray, List.set_cons_zero, List.set_cons_succ])
          (refine wpAnyH_take1 3 (oi := ?_) (v := ?_) ?_ (by kernel_rfl) (by kernel_rfl) (by kernel_rfl) (by assumption) ?_ ?_ ?_; rotate_left 2; (· simp only [List.getElem?_toArray, List.getElem?_cons_succ, List.getElem?_cons_zero]; try rfl); (· refine ⟨by kernel_rfl, ?_⟩; intro wq hSw; have hx := box_cells hSw.1; have hy := box_cells hSw.2; go_simp; first | done | with_reducible rfl); (· exact fun _ _ _ h => h); try simp only [Act.put, List.setIfInBounds_toArray, List.set_cons_zero, List.set_cons_succ])
          (refine wpAnyH_take1 4 (oi := ?_) (v := ?_) ?_ (by kernel_rfl) (by kernel_rfl) (by kernel_rfl) (by assumption) ?_ ?_ ?_; rotate_left 2; (· simp only [List.getElem?_toArray, List.getElem?_cons_succ, List.getElem?_cons_zero]; try rfl); (· refine ⟨by kernel_rfl, ?_⟩; intro wq hSw; have hx := box_cells hSw.1; have hy := box_cells hSw.2; go_simp; first | done | with_reducible rfl); (· exact fun _ _ _ h => h); try simp only [Act.put, List.setIfInBounds_toArray, List.set_cons_zero, List.set_cons_succ])
          (refine wpAnyH_take1 5 (oi := ?_) (v := ?_) ?_ (by kernel_rfl) (by kernel_rfl) (by kernel_rfl) (by assumption) ?_ ?_ ?_; rotate_left 2; (· simp only [List.getElem?_toArray, List.getElem?_cons_succ, List.getElem?_cons_zero]; try rfl); (· refine ⟨by kernel_rfl, ?_⟩; intro wq hSw; have hx := box_cells hSw.1; have hy := box_cells hSw.2; go_simp; first | done | with_reducible rfl); (· exact fun _ _ _ h => h); try simp only [Act.put, List.setIfInBounds_toArray, List.set_cons_zero, List.set_cons_succ])
          (refine wpAnyH_take1 6 (oi := ?_) (v := ?_) ?_ (by kernel_rfl) (by kernel_rfl) (by kernel_rfl) (by assumption) ?_ ?_ ?_; rotate_left 2; (· simp only [List.getElem?_toArray, List.getElem?_cons_succ, List.getElem?_cons_zero]; try rfl); (· refine ⟨by kernel_rfl, ?_⟩; intro wq hSw; have hx := box_cells hSw.1; have hy := box_cells hSw.2; go_simp; first | done | with_reducible rfl); (· exact fun _ _ _ h => h); try simp only [Act.put, List.setIfInBounds_toArray, List.set_cons_zero, List.set_cons_succ])
          (refine wpAnyH_take0 7 (oi := ?_) ?_ (by kernel_rfl) (by kernel_rfl) (by kernel_rfl) (by assumption) ?_ ?_ ?_; rotate_left 1; (· simp only [List.getElem?_toArray, List.getElem?_cons_succ, List.getElem?_cons_zero]; try rfl); (· kernel_rfl); (· exact fun _ _ _ h => h); try simp only [Act.put, List.setIfInBounds_toArray, List.set_cons_zero, List.set_cons_succ])
          (refine wpAnyH_take0 8 (oi := ?_) ?_ (by kernel_rfl) (by kernel_rfl) (by kernel_rfl) (by assumption) ?_ ?_ ?_; rotate_left 1; (· simp only [List.getElem?_toArray, List.getElem?_cons_succ, List.getElem?_cons_zero]; try rfl); (· kernel_rfl); (· exact fun _ _ _ h => h); try simp only [Act.put, List.setIfInBounds_toArray, List.set_cons_zero, List.set_cons_succ])
          (refine wpAnyH_take0 9 (oi := ?_) ?_ (by kernel_rfl) (by kernel_rfl) (by kernel_rfl) (by assumption) ?_ ?_ ?_; rotate_left 1; (· simp only [List.getElem?_toArray, List.getElem?_cons_succ, List.getElem?_cons_zero]; try rfl); (· kernel_rfl); (· exact fun _ _ _ h => h); try simp only [Act.put, List.setIfInBounds_toArray, List.set_cons_zero, List.set_cons_succ])
          (refine wpAnyH_take0 10 (oi := ?_) ?_ (by kernel_rfl) (by kernel_rfl) (by kernel_rfl) (by assumption) ?_ ?_ ?_; rotate_left 1; (· simp only [List.getElem?_toArray, List.getElem?_cons_succ, List.getElem?_cons_zero]; try rfl); (· kernel_rfl); (· exact fun _ _ _ h => h); try simp only [Act.put, List.setIfInBounds_toArray, List.set_cons_zero, List.set_cons_succ])
          (refine wpAnyH_take0 11 (oi := ?_) ?_ (by kernel_rfl) (by kernel_rfl) (by kernel_rfl) (by assumption) ?_ ?_ ?_; rotate_left 1; (· simp only [List.getElem?_toArray, List.getElem?_cons_succ, List.getElem?_cons_zero]; try rfl); (· kernel_rfl); (· exact fun _ _ _ h => h); try simp only [Act.put, List.setIfInBounds_toArray, List.set_cons_zero, List.set_cons_succ])
          (refine wpAnyH_take0 12 (oi := ?_) ?_ (by kernel_rfl) (by kernel_rfl) (by kernel_rfl) (by assumption) ?_ ?_ ?_; rotate_left 1; (· simp only [List.getElem?_toArray, List.getElem?_cons_succ, List.getElem?_cons_zero]; try rfl); (· kernel_rfl); (· exact fun _ _ _ h => h); try simp only [Act.put, List.setIfInBounds_toArray, List.set_cons_zero, List.set_cons_succ])
          (refine wpAnyH_take0 13 (oi := ?_) ?_ (by kernel_rfl) (by kernel_rfl) (by kernel_rfl) (by assumption) ?_ ?_ ?_; rotate_left 1; (· simp only [List.getElem?_toArray, List.getElem?_cons_succ, List.getElem?_cons_zero]; try rfl); (· kernel_rfl); (· exact fun _ _ _ h => h); try simp only [Act.put, List.setIfInBounds_toArray, List.set_cons_zero, List.set_cons_succ])
          (refine wpAnyH_take0 14 (oi := ?_) ?_ (by kernel_rfl) (by kernel_rfl) (by kernel_rfl) (by assumption) ?_ ?_ ?_; rotate_left 1; (· simp only [List.getElem?_toArray, List.getElem?_cons_succ, List.getElem?_cons_zero]; try rfl); (· kernel_rfl); (· exact fun _ _ _ h => h); try simp only [Act.put, List.setIfInBounds_toArray, List.set_cons_zero, List.set_cons_succ])
          (refine wpAnyH_take0 15 (oi := ?_) ?_ (by kernel_rfl) (by kernel_rfl) (by kernel_rfl) (by assumption) ?_ ?_ ?_; rotate_left 1; (· simp only [List.getElem?_toArray, List.getElem?_cons_succ, List.getElem?_cons_zero]; try rfl); (· kernel_rfl); (· exact fun _ _ _ h => h); try simp only [Act.put, List.setIfInBounds_toArray, List.set_cons_zero, List.set_cons_succ])
          (refine wpAnyH_take1 16 (oi := ?_) (v := ?_) ?_ (by kernel_rfl) (by kernel_rfl) (by kernel_rfl) (by assumption) ?_ ?_ ?_; rotate_left 2; (· simp only [List.getElem?_toArray, List.getElem?_cons_succ, List.getElem?_cons_zero]; try rfl); (· refine ⟨by kernel_rfl, ?_⟩; intro wq hSw; have hx := box_cells hSw.1; have hy := box_cells hSw.2; go_simp; first | done | with_reducible rfl); (· exact fun _ _ _ h => h); try simp only [Act.put, List.setIfInBounds_toArray, List.set_cons_zero, List.set_cons_succ])
          (refine wpAnyH_take1 17 (oi := ?_) (v := ?_) ?_ (by kernel_rfl) (by kernel_rfl) (by kernel_rfl) (by assumption) ?_ ?_ ?_; rotate_left 2; (· simp only [List.getElem?_toArray, List.getElem?_cons_succ, List.getElem?_cons_zero]; try rfl); (· refine ⟨by kernel_rfl, ?_⟩; intro wq hSw; have hx := box_cells hSw.1; have hy := box_cells hSw.2; go_simp; first | done | with_reducible rfl); (· exact fun _ _ _ h => h); try simp only [Act.put, List.setIfInBounds_toArray, List.set_cons_zero, List.set_cons_succ])
          (refine wpAnyH_take1 18 (oi := ?_) (v := ?_) ?_ (by kernel_rfl) (by kernel_rfl) (by kernel_rfl) (by assumption) ?_ ?_ ?_; rotate_left 2; (· simp only [List.getElem?_toArray, List.getElem?_cons_succ, List.getElem?_cons_zero]; try rfl); (· refine ⟨by kernel_rfl, ?_⟩; intro wq hSw; have hx := box_cells hSw.1; have hy := box_cells hSw.2; go_simp; first | done | with_reducible rfl); (· exact fun _ _ _ h => h); try simp only [Act.put, List.setIfInBounds_toArray, List.set_cons_zero, List.set_cons_succ])
          (refine wpAnyH_take1 19 (oi := ?_) (v := ?_) ?_ (by kernel_rfl) (by kernel_rfl) (by kernel_rfl) (by assumption) ?_ ?_ ?_; rotate_left 2; (· simp only [List.getElem?_toArray, List.getElem?_cons_succ, List.getElem?_cons_zero]; try rfl); (· refine ⟨by kernel_rfl, ?_⟩; intro wq hSw; have hx := box_cells hSw.1; have hy := box_cells hSw.2; go_simp; first | done | with_reducible rfl); (· exact fun _ _ _ h => h); try simp only [Act.put, List.setIfInBounds_toArray, List.set_cons_zero, List.set_cons_succ])
          (refine wpAnyH_take1 20 (oi := ?_) (v := ?_) ?_ (by kernel_rfl) (by kernel_rfl) (by kernel_rfl) (by assumption) ?_ ?_ ?_; rotate_left 2; (· simp only [List.getElem?_toArray, List.getElem?_cons_succ, List.getElem?_cons_zero]; try rfl); (· refine ⟨by kernel_rfl, ?_⟩; intro wq hSw; have hx := box_cells hSw.1; have hy := box_cells hSw.2; go_simp; first | done | with_reducible rfl); (· exact fun _ _ _ h => h); try simp only [Act.put, List.setIfInBounds_toArray, List.set_cons_zero, List.set_cons_succ])
          (refine wpAnyH_call1 (i := 21) (o := ?_) (by kernel_rfl) ?_ (fun K hK => ?_); rotate_left 1; (· simp only [List.getElem?_toArray, List.getElem?_cons_succ, List.getElem?_cons_zero]; try rfl); go_simp)
          refine (add_any _ _ (shOf (l.take k)) _ _ _ _ _ _ HZ2.out).mono ?_; rintro e w3 ⟨rfl, hz3, hb3⟩
          have HX3 := Lib.hid (hb3.keep HX2.out (by have := HB.out.size; omega) (by have := HB.out.size; omega)); have HS3 := Lib.hid (hb3.keep HS2.out (by omega) (by omega)); have HZ3 := Lib.hid hz3; have HB3 := Lib.hid (hb3.below HB2.out (by omega) (by omega))
          go_simp
          refine hK.out _ _ ⟨HX3.out, HS3.out⟩ (fun hHeld3 => ?_)
          clear hK K hHeld2 hz3 hb3
          (refine wpAnyH_take1 22 (oi := ?_) (v := ?_) ?_ (by kernel_rfl) (by kernel_rfl) (by kernel_rfl) (by assumption) ?_ ?_ ?_; rotate_left 2; (· simp only [List.getElem?_toArray, List.getElem?_cons_succ, List.getElem?_cons_zero]; try rfl); (· refine ⟨by kernel_rfl, ?_⟩; intro wq hSw; have hx := box_cells hSw.1; have hy := box_cells hSw.2; go_simp; first | done | with_reducible rfl); (· exact fun _ _ _ h => h); try simp only [Act.put, List.setIfInBounds_toArray, List.set_cons_zero, List.set_cons_succ])
          (refine wpAnyH_take1 23 (oi := ?_) (v := ?_) ?_ (by kernel_rfl) (by kernel_rfl) (by kernel_rfl) (by assumption) ?_ ?_ ?_; rotate_left 2; (· simp only [List.getElem?_toArray, List.getElem?_cons_succ, List.getElem?_cons_zero]; try rfl); (· refine ⟨by kernel_rfl, ?_⟩; intro wq hSw; have hx := box_cells hSw.1; have hy := box_cells hSw.2; go_simp; first | done | with_reducible rfl); (· exact fun _ _ _ h => h); try simp only [Act.put, List.setIfInBounds_toArray, List.set_cons_zero, List.set_cons_succ])
          refine wpAnyH_done (by kernel_rfl) ?_ _
          have hsk : stepOk l k = happens (l.take k) ⟨l[k].t, l[k].k, l[k].s, l[k].st, l[k].h⟩ := by
            rw [stepOk_mk l k hlt, hf, decide_eq_true H0.out]; rfl
          rw [← HCL.out hf] at hsk
          have HSK := Lib.hid hsk; clear hsk
          go_wp2
          · go_ret
            have hh : (!shCan (shOf (l.take k)) ⟨l[k].t, l[k].k, l[k].s, l[k].st, l[k].h⟩) = true := by assumption
            exact ⟨ret_bool (loansOk_bad l k hlt (HSK.out.trans (not_t hh))).symm, HB3.out⟩
          · have hh : (!shCan (shOf (l.take k)) ⟨l[k].t, l[k].k, l[k].s, l[k].st, l[k].h⟩) = false := by assumption
            refine ⟨⟨k + 1, by omega, by go_num, ?_, ?_, HS3.out, HB3.out⟩, by simp [intOf]; omega⟩
            · intro i hi
              by_cases hik : i = k
              · subst hik; exact HSK.out.trans (not_f hh)
              · exact H.out i (by omega)
            · rw [List.take_succ_eq_append_getElem hlt, shOf_snoc]
              exact HZ3.out
        · obtain ⟨j, hkj⟩ : ∃ j, k = j + 1 := ⟨k - 1, by omega⟩
          have hk1 : (k : Int) - 1 = (j : Int) := by omega
          have hk0 : decide (0 < k) = true := by simp; omega
          have hj : j < l.length := by omega
          have hwj : IntKind.i64.wrap (j : Int) = (j : Int) := IntWalk.i64_in _ (by omega)
          have hj0 : (0 : Int) ≤ (j : Int) := by omega
          have hjl : (j : Int) < (l.length : Int) := by omega
          have HKJ := Lib.hid hkj; clear hkj h0
          obtain ⟨_, _, e, dd, _⟩ := hrr.get j hj
          cases e
          cases hd : decide (l[k].t < l[j].t)
          · refine wp_region_held_drew (S := fun w' => w'.heap[wr.heap.size]? = some (.cells #[.int .i64 l[k].t, .int .i64 l[k].k, .int .i64 l[k].s, .int .i64 l[k].st, .int .i64 l[k].h] 24) ∧ w'.heap[w.heap.size + 1 + 1]? = some (.cells #[.map (some w.heap.size), .map (some (w.heap.size + 1))] 50) ∧ w'.cell? ⟨b, off + j * 5, none⟩ = some (.int .i64 l[j].t)) (by kernel_rfl) ⟨HX.out, HS1.out, dd⟩ (fun hHeld => ?_)
            (refine wpAnyH_take1 0 (oi := ?_) (v := ?_) ?_ (by kernel_rfl) (by kernel_rfl) (by kernel_rfl) (by assumption) ?_ ?_ ?_; rotate_left 2; (· simp only [List.getElem?_toArray, List.getElem?_cons_succ, List.getElem?_cons_zero]; try rfl); (· refine ⟨by kernel_rfl, ?_⟩; intro wq hSw; have hx := box_cells hSw.1; have hy := box_cells hSw.2.1; have hd2 := hSw.2.2; go_simp; first | done | with_reducible rfl); (· exact fun _ _ _ h => h); try simp only [Act.put, List.setIfInBounds_toArray, List.set_cons_zero, List.set_cons_succ])
            (refine wpAnyH_call1 (i := 1) (o := ?_) (by kernel_rfl) ?_ (fun K hK => ?_); rotate_left 1; (· simp only [List.getElem?_toArray, List.getElem?_cons_succ, List.getElem?_cons_zero]; try rfl); go_simp)
            refine (formed_any _ _ _ _ _ _).mono ?_; rintro e w2 ⟨rfl, hb⟩
            have HX2 := Lib.hid (blk_keep2 HX.out (Below.refl _ _).drew hb); have HS2 := Lib.hid (blk_keep2 HS1.out (Below.refl _ _).drew hb); have HZ2 := Lib.hid ((HZ1.out.below (Below.refl _ _).drew).below hb); have HB2 := Lib.hid (HB1.out.trans ((Below.trans (show Below wr1.heap.size wr1 _ from (Below.refl _ _).drew) (hb.mono (by simp))).mono HB1.out.size))
            have dd2 := LoAt.get ((hrr.below (Below.refl _ _).drew).below hb) j hj; obtain ⟨_, _, e2, dd2, _⟩ := dd2; cases e2
            go_simp
            refine hK.out _ _ ⟨HX2.out, HS2.out, dd2⟩ (fun hHeld2 => ?_)
            clear hK K hHeld
            (refine wpAnyH_take1 2 (oi := ?_) (v := ?_) ?_ (by kernel_rfl) (by kernel_rfl) (by kernel_rfl) (by assumption) ?_ ?_ ?_; rotate_left 2; (· simp only [List.getElem?_toArray, List.getElem?_cons_succ, List.getElem?_cons_zero]; try rfl); (· refine ⟨by kernel_rfl, ?_⟩; intro wq hSw; have hx := box_cells hSw.1; have hy := box_cells hSw.2.1; have hd2 := hSw.2.2; go_simp; first | done | with_reducible rfl); (· exact fun _ _ _ h => h); try simp only [Act.put, List.setIfInBounds_toArray, List.set_cons_zero, List.set_cons_succ])
            (refine wpAnyH_take1 3 (oi := ?_) (v := ?_) ?_ (by kernel_rfl) (by kernel_rfl) (by kernel_rfl) (by assumption) ?_ ?_ ?_; rotate_left 2; (· simp only [List.getElem?_toArray, List.getElem?_cons_succ, List.getElem?_cons_zero]; try rfl); (· refine ⟨by kernel_rfl, ?_⟩; intro wq hSw; have hx := box_cells hSw.1; have hy := box_cells hSw.2.1; have hd2 := hSw.2.2; go_simp; first | done | with_reducible rfl); (· exact fun _ _ _ h => h); try simp only [Act.put, List.setIfInBounds_toArray, List.set_cons_zero, List.set_cons_succ])
            (refine wpAnyH_take1 4 (oi := ?_) (v := ?_) ?_ (by kernel_rfl) (by kernel_rfl) (by kernel_rfl) (by assumption) ?_ ?_ ?_; rotate_left 2; (· simp only [List.getElem?_toArray, List.getElem?_cons_succ, List.getElem?_cons_zero]; try rfl); (· refine ⟨by kernel_rfl, ?_⟩; intro wq hSw; have hx := box_cells hSw.1; have hy := box_cells hSw.2.1; have hd2 := hSw.2.2; go_simp; first | done | with_reducible rfl); (· exact fun _ _ _ h => h); try simp only [Act.put, List.setIfInBounds_toArray, List.set_cons_zero, List.set_cons_succ])
            (refine wpAnyH_take1 5 (oi := ?_) (v := ?_) ?_ (by kernel_rfl) (by kernel_rfl) (by kernel_rfl) (by assumption) ?_ ?_ ?_; rotate_left 2; (· simp only [List.getElem?_toArray, List.getElem?_cons_succ, List.getElem?_cons_zero]; try rfl); (· refine ⟨by kernel_rfl, ?_⟩; intro wq hSw; have hx := box_cells hSw.1; have hy := box_cells hSw.2.1; have hd2 := hSw.2.2; go_simp; first | done | with_reducible rfl); (· exact fun _ _ _ h => h); try simp only [Act.put, List.setIfInBounds_toArray, List.set_cons_zero, List.set_cons_succ])
            (refine wpAnyH_take1 6 (oi := ?_) (v := ?_) ?_ (by kernel_rfl) (by kernel_rfl) (by kernel_rfl) (by assumption) ?_ ?_ ?_; rotate_left 2; (· simp only [List.getElem?_toArray, List.getElem?_cons_succ, List.getElem?_cons_zero]; try rfl); (· refine ⟨by kernel_rfl, ?_⟩; intro wq hSw; have hx := box_cells hSw.1; have hy := box_cells hSw.2.1; have hd2 := hSw.2.2; go_simp; first | done | with_reducible rfl); (· exact fun _ _ _ h => h); try simp only [Act.put, List.setIfInBounds_toArray, List.set_cons_zero, List.set_cons_succ])
            (refine wpAnyH_take1 7 (oi := ?_) (v := ?_) ?_ (by kernel_rfl) (by kernel_rfl) (by kernel_rfl) (by assumption) ?_ ?_ ?_; rotate_left 2; (· simp only [List.getElem?_toArray, List.getElem?_cons_succ, List.getElem?_cons_zero]; try rfl); (· refine ⟨by kernel_rfl, ?_⟩; intro wq hSw; have hx := box_cells hSw.1; have hy := box_cells hSw.2.1; have hd2 := hSw.2.2; go_simp; first | done | with_reducible rfl); (· exact fun _ _ _ h => h); try simp only [Act.put, List.setIfInBounds_toArray, List.set_cons_zero, List.set_cons_succ])
            (refine wpAnyH_take1 8 (oi := ?_) (v := ?_) ?_ (by kernel_rfl) (by kernel_rfl) (by kernel_rfl) (by assumption) ?_ ?_ ?_; rotate_left 2; (· simp only [List.getElem?_toArray, List.getElem?_cons_succ, List.getElem?_cons_zero]; try rfl); (· refine ⟨by kernel_rfl, ?_⟩; intro wq hSw; have hx := box_cells hSw.1; have hy := box_cells hSw.2.1; have hd2 := hSw.2.2; go_simp; first | done | with_reducible rfl); (· exact fun _ _ _ h => h); try simp only [Act.put, List.setIfInBounds_toArray, List.set_cons_zero, List.set_cons_succ])
            (refine wpAnyH_take1 9 (oi := ?_) (v := ?_) ?_ (by kernel_rfl) (by kernel_rfl) (by kernel_rfl) (by assumption) ?_ ?_ ?_; rotate_left 2; (· simp only [List.getElem?_toArray, List.getElem?_cons_succ, List.getElem?_cons_zero]; try rfl); (· refine ⟨by kernel_rfl, ?_⟩; intro wq hSw; have hx := box_cells hSw.1; have hy := box_cells hSw.2.1; have hd2 := hSw.2.2; go_simp; first | done | with_reducible rfl); (· exact fun _ _ _ h => h); try simp only [Act.put, List.setIfInBounds_toArray, List.set_cons_zero, List.set_cons_succ])
            (refine wpAnyH_take1 10 (oi := ?_) (v := ?_) ?_ (by kernel_rfl) (by kernel_rfl) (by kernel_rfl) (by assumption) ?_ ?_ ?_; rotate_left 2; (· simp only [List.getElem?_toArray, List.getElem?_cons_succ, List.getElem?_cons_zero]; try rfl); (· refine ⟨by kernel_rfl, ?_⟩; intro wq hSw; have hx := box_cells hSw.1; have hy := box_cells hSw.2.1; have hd2 := hSw.2.2; go_simp; first | done | with_reducible rfl); (· exact fun _ _ _ h => h); try simp only [Act.put, List.setIfInBounds_toArray, List.set_cons_zero, List.set_cons_succ])
            (refine wpAnyH_take1 11 (oi := ?_) (v := ?_) ?_ (by kernel_rfl) (by kernel_rfl) (by kernel_rfl) (by assumption) ?_ ?_ ?_; rotate_left 2; (· simp only [List.getElem?_toArray, List.getElem?_cons_succ, List.getElem?_cons_zero]; try rfl); (· refine ⟨by kernel_rfl, ?_⟩; intro wq hSw; have hx := box_cells hSw.1; have hy := box_cells hSw.2.1; have hd2 := hSw.2.2; go_simp; first | done | with_reducible rfl); (· exact fun _ _ _ h => h); try simp only [Act.put, List.setIfInBounds_toArray, List.set_cons_zero, List.set_cons_succ])
            (refine wpAnyH_take1 12 (oi := ?_) (v := ?_) ?_ (by kernel_rfl) (by kernel_rfl) (by kernel_rfl) (by assumption) ?_ ?_ ?_; rotate_left 2; (· simp only [List.getElem?_toArray, List.getElem?_cons_succ, List.getElem?_cons_zero]; try rfl); (· refine ⟨by kernel_rfl, ?_⟩; intro wq hSw; have hx := box_cells hSw.1; have hy := box_cells hSw.2.1; have hd2 := hSw.2.2; go_simp; first | done | with_reducible rfl); (· exact fun _ _ _ h => h); try simp only [Act.put, List.setIfInBounds_toArray, List.set_cons_zero, List.set_cons_succ])
            (refine wpAnyH_take1 13 (oi := ?_) (v := ?_) ?_ (by kernel_rfl) (by kernel_rfl) (by kernel_rfl) (by assumption) ?_ ?_ ?_; rotate_left 2; (· simp only [List.getElem?_toArray, List.getElem?_cons_succ, List.getElem?_cons_zero]; try rfl); (· refine ⟨by kernel_rfl, ?_⟩; intro wq hSw; have hx := box_cells hSw.1; have hy := box_cells hSw.2.1; have hd2 := hSw.2.2; go_simp; first | done | with_reducible rfl); (· exact fun _ _ _ h => h); try simp only [Act.put, List.setIfInBounds_toArray, List.set_cons_zero, List.set_cons_succ])
            (refine wpAnyH_take1 14 (oi := ?_) (v := ?_) ?_ (by kernel_rfl) (by kernel_rfl) (by kernel_rfl) (by assumption) ?_ ?_ ?_; rotate_left 2; (· simp only [List.getElem?_toArray, List.getElem?_cons_succ, List.getElem?_cons_zero]; try rfl); (· refine ⟨by kernel_rfl, ?_⟩; intro wq hSw; have hx := box_cells hSw.1; have hy := box_cells hSw.2.1; have hd2 := hSw.2.2; go_simp; first | done | with_reducible rfl); (· exact fun _ _ _ h => h); try simp only [Act.put, List.setIfInBounds_toArray, List.set_cons_zero, List.set_cons_succ])
            (refine wpAnyH_take1 15 (oi := ?_) (v := ?_) ?_ (by kernel_rfl) (by kernel_rfl) (by kernel_rfl) (by assumption) ?_ ?_ ?_; rotate_left 2; (· simp only [List.getElem?_toArray, List.getElem?_cons_succ, List.getElem?_cons_zero]; try rfl); (· refine ⟨by kernel_rfl, ?_⟩; intro wq hSw; have hx := box_cells hSw.1; have hy := box_cells hSw.2.1; have hd2 := hSw.2.2; go_simp; first | done | with_reducible rfl); (· exact fun _ _ _ h => h); try simp only [Act.put, List.setIfInBounds_toArray, List.set_cons_zero, List.set_cons_succ])
            (refine wpAnyH_take1 16 (oi := ?_) (v := ?_) ?_ (by kernel_rfl) (by kernel_rfl) (by kernel_rfl) (by assumption) ?_ ?_ ?_; rotate_left 2; (· simp only [List.getElem?_toArray, List.getElem?_cons_succ, List.getElem?_cons_zero]; try rfl); (· refine ⟨by kernel_rfl, ?_⟩; intro wq hSw; have hx := box_cells hSw.1; have hy := box_cells hSw.2.1; have hd2 := hSw.2.2; go_simp; first | done | with_reducible rfl); (· exact fun _ _ _ h => h); try simp only [Act.put, List.setIfInBounds_toArray, List.set_cons_zero, List.set_cons_succ])
            (refine wpAnyH_take1 17 (oi := ?_) (v := ?_) ?_ (by kernel_rfl) (by kernel_rfl) (by kernel_rfl) (by assumption) ?_ ?_ ?_; rotate_left 2; (· simp only [List.getElem?_toArray, List.getElem?_cons_succ, List.getElem?_cons_zero]; try rfl); (· refine ⟨by kernel_rfl, ?_⟩; intro wq hSw; have hx := box_cells hSw.1; have hy := box_cells hSw.2.1; have hd2 := hSw.2.2; go_simp; first | done | with_reducible rfl); (· exact fun _ _ _ h => h); try simp only [Act.put, List.setIfInBounds_toArray, List.set_cons_zero, List.set_cons_succ])
            (refine wpAnyH_take1 18 (oi := ?_) (v := ?_) ?_ (by kernel_rfl) (by kernel_rfl) (by kernel_rfl) (by assumption) ?_ ?_ ?_; rotate_left 2; (· simp only [List.getElem?_toArray, List.getElem?_cons_succ, List.getElem?_cons_zero]; try rfl); (· refine ⟨by kernel_rfl, ?_⟩; intro wq hSw; have hx := box_cells hSw.1; have hy := box_cells hSw.2.1; have hd2 := hSw.2.2; go_simp; first | done | with_reducible rfl); (· exact fun _ _ _ h => h); try simp only [Act.put, List.setIfInBounds_toArray, List.set_cons_zero, List.set_cons_succ])
            (refine wpAnyH_take1 19 (oi := ?_) (v := ?_) ?_ (by kernel_rfl) (by kernel_rfl) (by kernel_rfl) (by assumption) ?_ ?_ ?_; rotate_left 2; (· simp only [List.getElem?_toArray, List.getElem?_cons_succ, List.getElem?_cons_zero]; try rfl); (· refine ⟨by kernel_rfl, ?_⟩; intro wq hSw; have hx := box_cells hSw.1; have hy := box_cells hSw.2.1; have hd2 := hSw.2.2; go_simp; first | done | with_reducible rfl); (· exact fun _ _ _ h => h); try simp only [Act.put, List.setIfInBounds_toArray, List.set_cons_zero, List.set_cons_succ])
            (refine wpAnyH_take1 20 (oi := ?_) (v := ?_) ?_ (by kernel_rfl) (by kernel_rfl) (by kernel_rfl) (by assumption) ?_ ?_ ?_; rotate_left 2; (· simp only [List.getElem?_toArray, List.getElem?_cons_succ, List.getElem?_cons_zero]; try rfl); (· refine ⟨by kernel_rfl, ?_⟩; intro wq hSw; have hx := box_cells hSw.1; have hy := box_cells hSw.2.1; have hd2 := hSw.2.2; go_simp; first | done | with_reducible rfl); (· exact fun _ _ _ h => h); try simp only [Act.put, List.setIfInBounds_toArray, List.set_cons_zero, List.set_cons_succ])
            (refine wpAnyH_call1 (i := 21) (o := ?_) (by kernel_rfl) ?_ (fun K hK => ?_); rotate_left 1; (· simp only [List.getElem?_toArray, List.getElem?_cons_succ, List.getElem?_cons_zero]; try rfl); go_simp)
            refine (add_any _ _ (shOf (l.take k)) _ _ _ _ _ _ HZ2.out).mono ?_; rintro e w3 ⟨rfl, hz3, hb3⟩
            have HX3 := Lib.hid (hb3.keep HX2.out (by have := HB.out.size; omega) (by have := HB.out.size; omega)); have HS3 := Lib.hid (hb3.keep HS2.out (by omega) (by omega)); have HZ3 := Lib.hid hz3; have HB3 := Lib.hid (hb3.below HB2.out (by omega) (by omega))
            have dd3 : w3.cell? ⟨b, off + j * 5, none⟩ = some (.int .i64 l[j].t) := (World.cell?_of_block (w := w2) (hb3.block b (World.block_lt_of_cell? _ _ dd2) (by omega) (by omega))).trans dd2
            go_simp
            refine hK.out _ _ ⟨HX3.out, HS3.out, dd3⟩ (fun hHeld3 => ?_)
            clear hK K hHeld2 hz3 hb3
            (refine wpAnyH_take1 22 (oi := ?_) (v := ?_) ?_ (by kernel_rfl) (by kernel_rfl) (by kernel_rfl) (by assumption) ?_ ?_ ?_; rotate_left 2; (· simp only [List.getElem?_toArray, List.getElem?_cons_succ, List.getElem?_cons_zero]; try rfl); (· refine ⟨by kernel_rfl, ?_⟩; intro wq hSw; have hx := box_cells hSw.1; have hy := box_cells hSw.2.1; have hd2 := hSw.2.2; go_simp; first | done | with_reducible rfl); (· exact fun _ _ _ h => h); try simp only [Act.put, List.setIfInBounds_toArray, List.set_cons_zero, List.set_cons_succ])
            (refine wpAnyH_take1 23 (oi := ?_) (v := ?_) ?_ (by kernel_rfl) (by kernel_rfl) (by kernel_rfl) (by assumption) ?_ ?_ ?_; rotate_left 2; (· simp only [List.getElem?_toArray, List.getElem?_cons_succ, List.getElem?_cons_zero]; try rfl); (· refine ⟨by kernel_rfl, ?_⟩; intro wq hSw; have hx := box_cells hSw.1; have hy := box_cells hSw.2.1; have hd2 := hSw.2.2; go_simp; first | done | with_reducible rfl); (· exact fun _ _ _ h => h); try simp only [Act.put, List.setIfInBounds_toArray, List.set_cons_zero, List.set_cons_succ])
            refine wpAnyH_done (by kernel_rfl) ?_ _
            have hsk : stepOk l k = happens (l.take k) ⟨l[k].t, l[k].k, l[k].s, l[k].st, l[k].h⟩ := by
              have e := HKJ.out
              have e1 : k - 1 = j := by omega
              have h3 := of_decide_eq_false hd
              have h2 : decide (l[k - 1].t ≤ l[k].t) = true := by simp only [e1]; exact decide_eq_true (by omega)
              rw [stepOk_mk l k hlt, hf, decide_eq_false (show ¬ k = 0 by omega), getD_at l (k - 1) (by omega), h2]; rfl
            rw [← HCL.out hf] at hsk
            have HSK := Lib.hid hsk; clear hsk
            go_wp2
            · go_ret
              have hh : (!shCan (shOf (l.take k)) ⟨l[k].t, l[k].k, l[k].s, l[k].st, l[k].h⟩) = true := by assumption
              exact ⟨ret_bool (loansOk_bad l k hlt (HSK.out.trans (not_t hh))).symm, HB3.out⟩
            · have hh : (!shCan (shOf (l.take k)) ⟨l[k].t, l[k].k, l[k].s, l[k].st, l[k].h⟩) = false := by assumption
              refine ⟨⟨k + 1, by omega, by go_num, ?_, ?_, HS3.out, HB3.out⟩, by simp [intOf]; omega⟩
              · intro i hi
                by_cases hik : i = k
                · subst hik; exact HSK.out.trans (not_f hh)
                · exact H.out i (by omega)
              · rw [List.take_succ_eq_append_getElem hlt, shOf_snoc]
                exact HZ3.out
          · refine wp_quietB (by kernel_rfl) (by kernel_rfl) ?_
            have gx := fun (d : Nat) (os : Array Obj) => box_cells (blk_keep HX.out (below_regrown wr1 d os))
            have gs := fun (d : Nat) (os : Array Obj) => box_cells (blk_keep HS1.out (below_regrown wr1 d os))
            have gd := cell_regrown dd
            repeat (go_big_quiet_step (first | (go_at_call 27; refine Calls.regrown_of (formed_any _ _ _ _ _ _))))
            refine wpQuiet_nil ?_; intro w2 hb3; go_wp2
            go_ret
            refine ⟨ret_bool (loansOk_bad l k hlt ?_).symm, HB1.out.trans (hb3.mono HB1.out.size)⟩
            have e := HKJ.out
            rw [stepOk_mk l k hlt, decide_eq_false (show ¬ k = 0 by omega), getD_at l (k - 1) (by omega)]
            have e1 : k - 1 = j := by omega
            have h2 : decide (l[k - 1].t ≤ l[k].t) = false := by
              have h3 := of_decide_eq_true hd
              simp only [e1]
              exact decide_eq_false (by omega)
            rw [h2, Bool.false_or, Bool.and_false, Bool.false_and]
    · obtain rfl : k = l.length := by omega
      clear hr
      go_wp2
      all_goals go_ret
      all_goals refine ⟨ret_bool ?_, HB.out⟩
      all_goals rw [loansOk_all H.out, decide_eq_decide]
      all_goals omega

end Go.Proofs.Ytokhligpjbdhcaa
