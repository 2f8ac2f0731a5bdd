
/- Contracts of (*reader).bars. -/
import Derived.Test.YtfppijjjaleiaaaDoorCallRd
namespace Go.Proofs.YtfppijjjaleiaaaDoor
set_option linter.unusedSimpArgs false
set_option linter.unusedVariables false
open Go.RowKit Go.Sort

theorem numP_bd {s : Bs} {n : Int} (h : numP s = some n) : 0 ≤ n ∧ n ≤ 9223372036854775807 := by
  unfold numP at h
  split at h
  · rename_i m hm
    split at h
    · rename_i hh
      cases h
      exact ⟨hh.2, (Lib.atoiAll_bounds hm).2⟩
    · cases h
  · cases h
section
variable {n0 b : Nat} {c : Cl} {ws : List Bs} {w : World}
theorem RdAt.setLetter (h : RdAt n0 b c ws w) (v : Bs) : RdAt n0 b { c with letter := v } ws (w.setCell ⟨b, 0, none⟩ (.string (mkS v))) ∧ Turn1 b w (w.setCell ⟨b, 0, none⟩ (.string (mkS v))) := by
  obtain ⟨p, cap, h1, h2, h3, h4, h5⟩ := h.at_
  exact ⟨⟨h.le, h.few, h.short, p, cap, heap_setCell_same _ _ _ _ _ _ h1, h2, h3, h4.other h5 _, h5⟩, Turn1.set1 _ _ _ _⟩
theorem RdAt.setNumber (h : RdAt n0 b c ws w) (v : Int) : RdAt n0 b { c with number := v } ws (w.setCell ⟨b, 1, none⟩ (.int .i64 v)) ∧ Turn1 b w (w.setCell ⟨b, 1, none⟩ (.int .i64 v)) := by
  obtain ⟨p, cap, h1, h2, h3, h4, h5⟩ := h.at_
  exact ⟨⟨h.le, h.few, h.short, p, cap, heap_setCell_same _ _ _ _ _ _ h1, h2, h3, h4.other h5 _, h5⟩, Turn1.set1 _ _ _ _⟩
theorem RdAt.setBars (h : RdAt n0 b c ws w) (v : Int) : RdAt n0 b { c with bars := v } ws (w.setCell ⟨b, 2, none⟩ (.int .i64 v)) ∧ Turn1 b w (w.setCell ⟨b, 2, none⟩ (.int .i64 v)) := by
  obtain ⟨p, cap, h1, h2, h3, h4, h5⟩ := h.at_
  exact ⟨⟨h.le, h.few, h.short, p, cap, heap_setCell_same _ _ _ _ _ _ h1, h2, h3, h4.other h5 _, h5⟩, Turn1.set1 _ _ _ _⟩
theorem RdAt.setN (h : RdAt n0 b c ws w) (v : Int) : RdAt n0 b { c with n := v } ws (w.setCell ⟨b, 3, none⟩ (.int .i64 v)) ∧ Turn1 b w (w.setCell ⟨b, 3, none⟩ (.int .i64 v)) := by
  obtain ⟨p, cap, h1, h2, h3, h4, h5⟩ := h.at_
  exact ⟨⟨h.le, h.few, h.short, p, cap, heap_setCell_same _ _ _ _ _ _ h1, h2, h3, h4.other h5 _, h5⟩, Turn1.set1 _ _ _ _⟩
theorem RdAt.setD (h : RdAt n0 b c ws w) (v : Int) : RdAt n0 b { c with d := v } ws (w.setCell ⟨b, 4, none⟩ (.int .i64 v)) ∧ Turn1 b w (w.setCell ⟨b, 4, none⟩ (.int .i64 v)) := by
  obtain ⟨p, cap, h1, h2, h3, h4, h5⟩ := h.at_
  exact ⟨⟨h.le, h.few, h.short, p, cap, heap_setCell_same _ _ _ _ _ _ h1, h2, h3, h4.other h5 _, h5⟩, Turn1.set1 _ _ _ _⟩
theorem RdAt.setPass (h : RdAt n0 b c ws w) (v : Int) : RdAt n0 b { c with pass := v } ws (w.setCell ⟨b, 5, none⟩ (.int .i64 v)) ∧ Turn1 b w (w.setCell ⟨b, 5, none⟩ (.int .i64 v)) := by
  obtain ⟨p, cap, h1, h2, h3, h4, h5⟩ := h.at_
  exact ⟨⟨h.le, h.few, h.short, p, cap, heap_setCell_same _ _ _ _ _ _ h1, h2, h3, h4.other h5 _, h5⟩, Turn1.set1 _ _ _ _⟩
end
theorem RdAt.env {n0 b : Nat} {c : Cl} {ws : List Bs} {w : World} (h : RdAt n0 b c ws w) : n0 ≤ w.heap.size := Nat.le_of_lt (Nat.lt_of_le_of_lt h.le h.lt)
/-- What the variables hold lies below n0. -/
structure EnvB (n0 : Nat) (w : World) : Prop where
  env : Env w
  lo : 0 < n0 ∧ 1 < n0 ∧ 2 < n0 ∧ 3 < n0
theorem EnvB.below {n0 : Nat} {w w' : World} (h : EnvB n0 w) (hb : Below n0 w w') : EnvB n0 w' := by
  obtain ⟨⟨hml, htab, hsyn, hrng⟩, l1, l2, l3, l4⟩ := h
  refine ⟨⟨?_, ?_, ?_, ?_⟩, l1, l2, l3, l4⟩
  · obtain ⟨m, h1⟩ := hml
    exact ⟨m, (hb.cell (p := ⟨_, 0, none⟩) l1).trans h1⟩
  · unfold Lib.TabIs at *
    unfold World.var? at *
    rw [pow_named] at htab ⊢
    simp only [Option.bind_some] at htab ⊢
    rw [hb.block _ l2]; exact htab
  · obtain ⟨ev, h1, h2⟩ := hsyn
    exact ⟨ev, (hb.cell (p := ⟨_, 0, none⟩) l3).trans h1, h2⟩
  · obtain ⟨ev, h1, h2⟩ := hrng
    exact ⟨ev, (hb.cell (p := ⟨_, 0, none⟩) l4).trans h1, h2⟩
theorem wlow {n0 : Nat} {w w' : World} (hb : Below w.heap.size w w') (h : n0 ≤ w.heap.size) : Below n0 w w' := hb.mono h

theorem EnvB.turn {n0 b : Nat} {w w' : World} (h : EnvB n0 w) (hb : Turn1 b w w') (hle : n0 ≤ b) : EnvB n0 w' := by
  obtain ⟨⟨hml, htab, hsyn, hrng⟩, l1, l2, l3, l4⟩ := h
  have hk : ∀ (k : Nat) (v : Value), k < n0 → w.cell? ⟨k, 0, none⟩ = some v → w'.cell? ⟨k, 0, none⟩ = some v := fun k v hk hc =>
    (World.cell?_of_block (w := w) (hb.block k (World.block_lt_of_cell? _ _ hc) (by simp; omega))).trans hc
  refine ⟨⟨?_, ?_, ?_, ?_⟩, l1, l2, l3, l4⟩
  · obtain ⟨m, h1⟩ := hml
    exact ⟨m, hk _ _ l1 h1⟩
  · unfold Lib.TabIs at *
    unfold World.var? at *
    rw [pow_named] at htab ⊢
    simp only [Option.bind_some] at htab ⊢
    have hlt : 1 < w.heap.size := by
      by_cases hlt : 1 < w.heap.size
      · exact hlt
      · rw [Array.getElem?_eq_none (by omega)] at htab; cases htab
    rw [hb.block _ hlt (by simp; omega)]; exact htab
  · obtain ⟨ev, h1, h2⟩ := hsyn
    exact ⟨ev, hk _ _ l3 h1, h2⟩
  · obtain ⟨ev, h1, h2⟩ := hrng
    exact ⟨ev, hk _ _ l4 h1, h2⟩
def BarsPost (n0 b : Nat) (c : Cl) (ws : List Bs) (w : World) (e : Ending) (w' : World) : Prop :=
  match barsP ws with
  | some (k, r) => e = .returned (.tuple #[]) ∧ RdAt n0 b { c with bars := k } r w' ∧ Turn1 b w w'
  | none => e = failE ∧ Turn1 b w w'
theorem BarsPost.fail {n0 b : Nat} {c : Cl} {ws : List Bs} {w w' : World} (h : barsP ws = none) (hb : Turn1 b w w') : BarsPost n0 b c ws w failE w' := by
  unfold BarsPost; rw [h]; exact ⟨rfl, hb⟩
theorem BarsPost.ok {n0 b : Nat} {c : Cl} {ws r : List Bs} {k : Int} {w w' : World} (h : barsP ws = some (k, r)) (hr : RdAt n0 b { c with bars := k } r w') (hb : Turn1 b w w') : BarsPost n0 b c ws w (.returned (.tuple #[])) w' := by
  unfold BarsPost; rw [h]; exact ⟨rfl, hr, hb⟩
theorem word_ne {y k : Bs} (h : y ≠ k) : ¬ (mkS y).toList = k := by rw [mk_list]; exact h
theorem word_no {y k : Bs} (h : y ≠ k) : ((mkS y).toList == k) = false := by rw [mk_list, beq_eq_false_iff_ne]; exact h
theorem word_yes (y : Bs) : ((mkS y).toList == y) = true := by rw [mk_list, beq_self_eq_true]
theorem word_test (y k : Bs) : ((mkS y).toList == (⟨k.toArray⟩ : ByteArray).toList) = decide (y = k) := by
  have := str_eq (mkS y) (mkS k)
  rwa [bs_mk, bs_mk] at this
set_option maxRecDepth 100000 in
set_option maxHeartbeats 2000000 in
/-- No word tells of bars. -/
theorem bars_none {n0 b : Nat} {c : Cl} {ws : List Bs} {w : World} (h : RdAt n0 b c ws w) (hno : ∀ x y r, ws = x :: y :: r → y ≠ aftW ∧ y ≠ befW) : Calls Tryd.prog 40 #[.pointer (some ⟨b, 0, none⟩)] w fun e w' => e = .returned (.tuple #[]) ∧ w = w' := by
  obtain ⟨p, cap, h1, h2, h3, h4, h5⟩ := h.at_
  have hfew := h.few
  have hcap := h2.le
  match ws, h1, h2, h4, hno, hfew, hcap with
  | [], h1, h2, h4, hno, _, _ =>
    have hc := box_cells h1
    clear h1 h2 h4 h5
    go_enter Tryd.func40, Tryd.ntmps40
    go_wp2
    refine bodyPost_ret (results_none rfl _ _ _) rfl ?_
    exact ⟨rfl, rfl⟩
  | [x], h1, h2, h4, hno, _, _ =>
    have hc := box_cells h1
    clear h1 h2 h4 h5
    go_enter Tryd.func40, Tryd.ntmps40
    go_wp2
    refine bodyPost_ret (results_none rfl _ _ _) rfl ?_
    exact ⟨rfl, rfl⟩
  | x :: y :: r, h1, h2, h4, hno, hfew, hcap =>
    rcases h2.cases with ⟨_, hn, _⟩ | ⟨pb, off, rfl⟩
    · simp at hn
    obtain ⟨hpl, c1⟩ := h4.get 1 (by simp)
    simp only [List.getElem_cons_zero, List.getElem_cons_succ] at c1
    rw [List.length_cons, List.length_cons] at h1 hcap hfew
    have hc := box_cells h1
    have hpos : decide ((r.length : Int) + 1 + 1 < 2) = false := decide_eq_false (by omega)
    obtain ⟨n1, n2⟩ := hno x y r rfl
    have ha := word_no n1; have hb := word_no n2
    simp only [aftW, befW] at ha hb
    clear h1 h2 h4 h5 hno n1 n2
    go_enter Tryd.func40, Tryd.ntmps40
    go_wp2
    refine bodyPost_ret (results_none rfl _ _ _) rfl ?_
    exact ⟨rfl, rfl⟩
set_option maxRecDepth 100000 in
set_option maxHeartbeats 4000000 in
/-- The first word tells how many. -/
theorem bars_some {n0 b : Nat} {c : Cl} {x y : Bs} {r : List Bs} {w : World} (h : RdAt n0 b c (x :: y :: r) w) (hE : EnvB n0 w) (up : Bool) (hy : y = if up then aftW else befW) : Calls Tryd.prog 40 #[.pointer (some ⟨b, 0, none⟩)] w (BarsPost n0 b c (x :: y :: r) w) := by
  have HP := Lib.hid (show barsP (x :: y :: r) = (posP x).map fun k => (if up then k else -k, r) by
    rw [hy]; cases up
    · have : ¬ befW = aftW := by decide
      simp [barsP, this]
    · simp [barsP])
  have HRd := Lib.hid h
  have HE := Lib.hid hE
  have hxl := h.short x (by simp)
  obtain ⟨p, cap, h1, h2, h3, h4, h5⟩ := h.at_
  have hfew := h.few
  have hcap := h2.le
  rcases h2.cases with ⟨_, hn, _⟩ | ⟨pb, off, rfl⟩
  · simp at hn
  obtain ⟨hpl, c1⟩ := h4.get 1 (by simp)
  simp only [List.getElem_cons_zero, List.getElem_cons_succ] at c1
  rw [List.length_cons, List.length_cons] at h1 hcap hfew
  have hc := box_cells h1
  have hpos : decide ((r.length : Int) + 1 + 1 < 2) = false := decide_eq_false (by omega)
  have hya : (mkS y).toList = if up then [97, 102, 116, 101, 114] else [98, 101, 102, 111, 114, 101] := by rw [mk_list, hy]; rfl
  have HX := Lib.hid (show posP x = (numP x).bind fun k => if 0 < k then some k else none from rfl)
  have HB := Lib.hid (Turn1.refl b w)
  clear h1 h2 h4 h5 hy h hE
  cases up
  · simp only [Bool.false_eq_true, if_false] at hya
    go_enter Tryd.func40, Tryd.ntmps40
    go_wp2_with (fail)
    refine (next_some HRd.out).mono ?_
    rintro e w1 ⟨rfl, hr, hb⟩
    replace HRd := Lib.hid hr; replace HB := Lib.hid (HB.out.trans hb)
    clear hr hb hc c1
    go_wp2_with (fail)
    refine (number_any x w1 hxl (HE.out.turn HB.out HRd.out.le).env).mono ?_
    rintro e w2 ⟨he, hb⟩
    replace HB := Lib.hid (HB.out.trans (Turn1.of_below hb)); replace HRd := Lib.hid (HRd.out.below hb)
    clear hb
    cases hn : numP x with
    | none =>
      rw [hn] at he HX
      subst he
      exact ⟨rfl, BarsPost.fail (by rw [HP.out, HX.out]; rfl) HB.out⟩
    | some k =>
      rw [hn] at he HX
      subst he
      obtain ⟨k0, k1⟩ := numP_bd hn
      clear hn
      obtain ⟨q1, cp1, d1, d2, d3, d4, d5⟩ := HRd.out.at_
      have hc := box_cells d1; have hf := box_free d1
      obtain ⟨e1, e2⟩ := HRd.out.setBars k
      have HR2 := Lib.hid e1; have HB2 := Lib.hid (HB.out.trans e2)
      clear d1 d2 d3 d4 d5 e1 e2
      by_cases hk : 0 < k
      · have hkd : decide (0 < k) = true := decide_eq_true hk
        have HX2 := Lib.hid (show posP x = some k by rw [HX.out, Option.bind_some, if_pos hk])
        clear hk
        go_wp2_with (fail)
        refine (must_true _).mono ?_
        rintro e w3 ⟨rfl, hw3⟩
        rw [hw3] at HR2 HB2
        clear hw3 hc hf
        go_wp2_with (fail)
        refine (next_some HR2.out).mono ?_
        rintro e w4 ⟨rfl, hr, hb⟩
        replace HR2 := Lib.hid hr; replace HB2 := Lib.hid (HB2.out.trans hb)
        clear hr hb
        obtain ⟨q2, cp2, d1, d2, d3, d4, d5⟩ := HR2.out.at_
        have hc := box_cells d1; have hf := box_free d1
        clear d1 d2 d3 d4 d5
        obtain ⟨e1, e2⟩ := HR2.out.setBars (-k)
        have HR3 := Lib.hid e1; have HB3 := Lib.hid (HB2.out.trans e2)
        clear e1 e2
        go_wp2
        go_end0
        exact BarsPost.ok (by rw [HP.out, HX2.out]; rfl) HR3.out HB3.out
      · have hkd : decide (0 < k) = false := decide_eq_false hk
        have HX2 := Lib.hid (show posP x = none by rw [HX.out, Option.bind_some, if_neg hk])
        clear hk
        go_wp2_with (go_at_call 45; (try rw [hkd]); refine (must_false _).mono ?_; rintro e w' ⟨rfl, rfl⟩)
        exact ⟨rfl, BarsPost.fail (by rw [HP.out, HX2.out]; rfl) HB2.out⟩
  · simp only [if_true] at hya
    go_enter Tryd.func40, Tryd.ntmps40
    go_wp2_with (fail)
    refine (next_some HRd.out).mono ?_
    rintro e w1 ⟨rfl, hr, hb⟩
    replace HRd := Lib.hid hr; replace HB := Lib.hid (HB.out.trans hb)
    clear hr hb hc c1
    go_wp2_with (fail)
    refine (number_any x w1 hxl (HE.out.turn HB.out HRd.out.le).env).mono ?_
    rintro e w2 ⟨he, hb⟩
    replace HB := Lib.hid (HB.out.trans (Turn1.of_below hb)); replace HRd := Lib.hid (HRd.out.below hb)
    clear hb
    cases hn : numP x with
    | none =>
      rw [hn] at he HX
      subst he
      exact ⟨rfl, BarsPost.fail (by rw [HP.out, HX.out]; rfl) HB.out⟩
    | some k =>
      rw [hn] at he HX
      subst he
      obtain ⟨k0, k1⟩ := numP_bd hn
      clear hn
      obtain ⟨q1, cp1, d1, d2, d3, d4, d5⟩ := HRd.out.at_
      have hc := box_cells d1; have hf := box_free d1
      obtain ⟨e1, e2⟩ := HRd.out.setBars k
      have HR2 := Lib.hid e1; have HB2 := Lib.hid (HB.out.trans e2)
      clear d1 d2 d3 d4 d5 e1 e2
      by_cases hk : 0 < k
      · have hkd : decide (0 < k) = true := decide_eq_true hk
        have HX2 := Lib.hid (show posP x = some k by rw [HX.out, Option.bind_some, if_pos hk])
        clear hk
        go_wp2_with (fail)
        refine (must_true _).mono ?_
        rintro e w3 ⟨rfl, hw3⟩
        rw [hw3] at HR2 HB2
        clear hw3 hc hf
        go_wp2_with (fail)
        refine (next_some HR2.out).mono ?_
        rintro e w4 ⟨rfl, hr, hb⟩
        replace HR2 := Lib.hid hr; replace HB2 := Lib.hid (HB2.out.trans hb)
        clear hr hb
        obtain ⟨q2, cp2, d1, d2, d3, d4, d5⟩ := HR2.out.at_
        have hc := box_cells d1; have hf := box_free d1
        clear d1 d2 d3 d4 d5
        go_wp2
        go_end0
        exact BarsPost.ok (by rw [HP.out, HX2.out]; rfl) HR2.out HB2.out
      · have hkd : decide (0 < k) = false := decide_eq_false hk
        have HX2 := Lib.hid (show posP x = none by rw [HX.out, Option.bind_some, if_neg hk])
        clear hk
        go_wp2_with (go_at_call 45; (try rw [hkd]); refine (must_false _).mono ?_; rintro e w' ⟨rfl, rfl⟩)
        exact ⟨rfl, BarsPost.fail (by rw [HP.out, HX2.out]; rfl) HB2.out⟩
theorem bars_any {n0 b : Nat} {c : Cl} {ws : List Bs} {w : World} (h : RdAt n0 b c ws w) (hE : EnvB n0 w) (h0 : c.bars = 0) : Calls Tryd.prog 40 #[.pointer (some ⟨b, 0, none⟩)] w (BarsPost n0 b c ws w) := by
  have hsame : RdAt n0 b { c with bars := 0 } ws w := by
    have : c = { c with bars := 0 } := by cases c; cases h0; rfl
    rw [← this]; exact h
  by_cases hx : ∃ x y r, ws = x :: y :: r ∧ (y = aftW ∨ y = befW)
  · obtain ⟨x, y, r, rfl, hy⟩ := hx
    rcases hy with hy | hy
    · exact bars_some h hE true (by rw [hy]; rfl)
    · exact bars_some h hE false (by rw [hy]; rfl)
  · have hno : ∀ x y r, ws = x :: y :: r → y ≠ aftW ∧ y ≠ befW := fun x y r e => ⟨fun h1 => hx ⟨x, y, r, e, .inl h1⟩, fun h1 => hx ⟨x, y, r, e, .inr h1⟩⟩
    refine (bars_none h hno).mono ?_
    rintro e w' ⟨rfl, rfl⟩
    refine BarsPost.ok ?_ hsame (Turn1.refl _ _)
    match ws, hno with
    | [], _ => rfl
    | [x], _ => rfl
    | x :: y :: r, hno =>
      obtain ⟨n1, n2⟩ := hno x y r rfl
      simp [barsP, n1, n2]
end Go.Proofs.YtfppijjjaleiaaaDoor
