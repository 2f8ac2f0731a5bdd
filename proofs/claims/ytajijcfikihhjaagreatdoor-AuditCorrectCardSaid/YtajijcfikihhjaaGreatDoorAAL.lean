import Derived.Test.YtajijcfikihhjaaGreatDoorAAK
set_option linter.unusedSimpArgs false
set_option linter.unusedVariables false
set_option maxRecDepth 100000
set_option maxHeartbeats 16000000
namespace Go.Proofs.YtajijcfikihhjaaGreatDoor
open Go.RowKit Go.Sort Go.Shelf
def Out (A B : Nat) (a : Option Addr) (n : Nat) : Prop := 0 < n → ∀ ad, a = some ad → ad.block < A ∨ B ≤ ad.block
theorem Out.of_slAt {w : World} {a : Option Addr} {sz : Nat} {rows : List (List Value)} (h : SlAt w a sz rows) {A : Nat} (hA : w.heap.size ≤ A) (B : Nat) : Out A B a rows.length := fun hn ad e => by
 obtain ⟨r, hr⟩ : ∃ r, rows[0]? = some r := ⟨rows[0], by simp [hn]⟩
 obtain ⟨b, off, e', hb, _⟩ := h 0 r hr
 rw [e] at e'; cases e'
 exact .inl (Nat.lt_of_lt_of_le hb hA)
theorem Out.new {B : Nat} {a : Option Addr} (h : ∀ ad, a = some ad → B ≤ ad.block) (A n : Nat) : Out A B a n := fun _ ad e => .inr (h ad e)
theorem Out.none (A B n : Nat) : Out A B none n := fun _ _ e => by cases e
structure KeepO (A B : Nat) (w w' : World) : Prop where
 size : w.heap.size ≤ w'.heap.size
 block : ∀ k, k < w.heap.size → (k < A ∨ B ≤ k) → w'.heap[k]? = w.heap[k]?
theorem KeepO.refl (A B : Nat) (w : World) : KeepO A B w w := ⟨Nat.le_refl _, fun _ _ _ => rfl⟩
theorem KeepO.set {A B : Nat} {w w' : World} (a : KeepO A B w w') {p : Addr} (h1 : A ≤ p.block) (h2 : p.block < B) (v : Value) : KeepO A B w (w'.setCell p v) :=
 ⟨by simpa using a.size, fun k hk h => (Below.heap_setCell _ _ _ k (by omega)).trans (a.block k hk h)⟩
theorem SlAt.keepO {A B : Nat} {w w' : World} {a : Option Addr} {sz : Nat} {rows : List (List Value)} (h : SlAt w a sz rows) (k : KeepO A B w w') (ho : Out A B a rows.length) : SlAt w' a sz rows := fun i r hr => by
 obtain ⟨b, off, e, hlt, hl, hc⟩ := h i r hr
 have hpos : 0 < rows.length := Nat.lt_of_le_of_lt (Nat.zero_le _) (List.getElem?_eq_some_iff.1 hr).1
 exact ⟨b, off, e, Nat.lt_of_lt_of_le hlt k.size, hl, fun j v hv => (World.cell?_of_block (w := w) (k.block b hlt (ho hpos _ e))).trans (hc j v hv)⟩
structure FoOut (A B : Nat) (f : Fo) (q : Fp) : Prop where
 ra : Out A B q.ra f.reps.length
 ea : Out A B q.ea f.ends.length
 ca : Out A B q.ca f.cuts.length
theorem FoOut.of_foAt {w : World} {f : Fo} {q : Fp} (h : FoAt w f q) {A : Nat} (hA : w.heap.size ≤ A) (B : Nat) : FoOut A B f q :=
 ⟨by have := Out.of_slAt h.reps hA B; rwa [List.length_map] at this, by have := Out.of_slAt h.ends hA B; rwa [List.length_map] at this, by have := Out.of_slAt h.cuts hA B; rwa [List.length_map] at this⟩
theorem FoOut.from {A B B' : Nat} {f f' : Fo} {q q' : Fp} (h : FoOut A B f q) (k : FoFrom f' f q' q B') (hB : B ≤ B') : FoOut A B f' q' := by
 refine ⟨?_, ?_, ?_⟩
 ·rcases k.ra with ⟨e1, e2⟩ | hn
  ·rw [e1, e2]; exact h.ra
  ·exact Out.new (fun ad e => Nat.le_trans hB (hn ad e)) _ _
 ·rcases k.ea with ⟨e1, e2⟩ | hn
  ·rw [e1, e2]; exact h.ea
  ·exact Out.new (fun ad e => Nat.le_trans hB (hn ad e)) _ _
 ·rcases k.ca with ⟨e1, e2⟩ | hn
  ·rw [e1, e2]; exact h.ca
  ·exact Out.new (fun ad e => Nat.le_trans hB (hn ad e)) _ _
theorem FoAt.keepO {A B : Nat} {w w' : World} {f : Fo} {q : Fp} (h : FoAt w f q) (k : KeepO A B w w') (ho : FoOut A B f q) : FoAt w' f q :=
 ⟨SlAt.keepO h.reps k (by rw [List.length_map]; exact ho.ra), SlAt.keepO h.ends k (by rw [List.length_map]; exact ho.ea), SlAt.keepO h.cuts k (by rw [List.length_map]; exact ho.ca), h.okr, h.oke, h.okc⟩
structure RmOut (A B : Nat) (r : Rm) (q : Fp) (oa : Option Addr) : Prop where
 form : FoOut A B r.f q
 oss : Out A B oa r.oss.length
theorem RmOut.of_at {w : World} {r : Rm} {q : Fp} {oa : Option Addr} {oc : Nat} (h : RmAt w r q oa oc) {A : Nat} (hA : w.heap.size ≤ A) (B : Nat) : RmOut A B r q oa := ⟨FoOut.of_foAt h.form hA B, by have := Out.of_slAt h.oss hA B; rwa [List.length_map] at this⟩
theorem RmAt.keepO {A B : Nat} {w w' : World} {r : Rm} {q : Fp} {oa : Option Addr} {oc : Nat} (h : RmAt w r q oa oc) (k : KeepO A B w w') (ho : RmOut A B r q oa) : RmAt w' r q oa oc :=
 ⟨h.form.keepO k ho.form, SlAt.keepO h.oss k (by rw [List.length_map]; exact ho.oss), h.oko⟩
def WsOut (A B : Nat) (l : List (Wk × Wp)) : Prop := ∀ x ∈ l, FoOut A B x.1.f x.2.q
theorem WsOut.of_at {w : World} {a : Option Addr} {l : List (Wk × Wp)} (h : WsAt w a l) {A : Nat} (hA : w.heap.size ≤ A) (B : Nat) : WsOut A B l := fun x hx => FoOut.of_foAt (h.forms x hx) hA B
def RetRmO (l : List (Wk × Wp)) (r0 : Rm) (q0 : Fp) (oa0 : Option Addr) (r : Rm) (err : Int) (w : World) (e : Ending) (w' : World) : Prop :=
 ∃ q oa oc, e = .returned (.tuple #[.agg #[.int .i64 r.ver, .int .i64 r.f.bars, .slice q.ra r.f.reps.length q.rc, .slice q.ea r.f.ends.length q.ec, .int .i64 r.f.jump.x, .int .i64 r.f.jump.y, .int .i64 r.f.jump.z, .slice q.ca r.f.cuts.length q.cc, .slice oa r.oss.length oc], .int .i64 err]) ∧ RmAt w' r q oa oc ∧ Below w.heap.size w w' ∧ ∀ A B, B ≤ w.heap.size → WsOut A B l → RmOut A B r0 q0 oa0 → RmOut A B r q oa
theorem RFirst30_any (wa : Option Addr) (wc : Nat) (l : List (Wk × Wp)) (w : World) (hl : 0 < l.length) (hw : WsAt w wa l) :
  Calls Tryz.prog 146 #[.slice wa l.length wc] w fun e w' => ∃ q oc, e = .returned (.agg #[.int .i64 ((Qx (Qk l))).ver, .int .i64 ((Qx (Qk l))).f.bars, .slice q.ra ((Qx (Qk l))).f.reps.length q.rc, .slice q.ea ((Qx (Qk l))).f.ends.length q.ec, .int .i64 ((Qx (Qk l))).f.jump.x, .int .i64 ((Qx (Qk l))).f.jump.y, .int .i64 ((Qx (Qk l))).f.jump.z, .slice q.ca ((Qx (Qk l))).f.cuts.length q.cc, .slice none ((Qx (Qk l))).oss.length oc]) ∧ RmAt w' (Qx (Qk l)) q none oc ∧ Below w.heap.size w w' ∧ ∀ A B, WsOut A B l → RmOut A B (Qx (Qk l)) q none := by
 have hb := Qg (w := w) (.cells #[.int .i64 0, .int .i64 0, .slice none 0 0, .slice none 0 0, .int .i64 0, .int .i64 0, .int .i64 0, .slice none 0 0, .slice none 0 0] 123)
 have HX := Qa (heap_alloc_new w (.cells #[.int .i64 0, .int .i64 0, .slice none 0 0, .slice none 0 0, .int .i64 0, .int .i64 0, .int .i64 0, .slice none 0 0, .slice none 0 0] 123))
 obtain ⟨y, ys, e⟩ := List.exists_cons_of_length_pos hl
 have hm : y ∈ l := by rw [e]; exact List.mem_cons_self
 have h0 : l[0] = y := by simp [e]
 have hf : Qx (Qk l) = ⟨y.1.ver, y.1.f, []⟩ := by rw [e]; rfl
 rw [hf]
 have hi0 : (0 : Int) < (l.length : Int) := by omega
 have hws := hw.below hb
 obtain ⟨b, off, ea, _, d0, d1, d2, d3, d4, d5, d6, d7, d8, d9, d10, d11⟩ := WlAt.get hws.rows 0 hl
 rw [h0] at d0 d1 d2 d3 d4 d5 d6 d7 d8 d9 d10 d11
 simp only [Nat.zero_mul, Nat.add_zero] at d0 d1 d2 d3 d4 d5 d6 d7 d8 d9 d10 d11
 have HF0 := Qa (hw.forms y hm)
 have HB := Qa hb
 have HO := Qa (fun A B (h : WsOut A B l) => h y hm)
 subst ea
 clear hb hw hws hf h0 e hm
 go_enter Tryz.func146, Tryz.ntmps146
 go_upto_region 1 with (fail)
 generalize w.alloc (.cells #[.int .i64 0, .int .i64 0, .slice none 0 0, .slice none 0 0, .int .i64 0, .int .i64 0, .int .i64 0, .slice none 0 0, .slice none 0 0] 123) = W at *
 have g0 := cell_regrown d0; have g4 := cell_regrown d4; have g5 := cell_regrown d5; have g6 := cell_regrown d6; have g7 := cell_regrown d7; have g8 := cell_regrown d8; have g9 := cell_regrown d9; have g10 := cell_regrown d10
 refine wp_tailB 10 (by kernel_rfl) (by kernel_rfl) ?_
 simp only [List.take_succ_cons, List.take_zero, List.drop_succ_cons, List.drop_zero]
 repeat (go_big_quiet_step (fail))
 refine wpQuiet_nil ?_
 intro w3 hb3
 have HX3 := bk HX hb3; have HB3 := bu HB hb3
 clear hb3 g0 g4 g5 g6 g7 g8 g9 g10 d0 d1 d2 d3 d4 d5 d6 d7 d8 d9 d10 d11
 have hc := Qb HX3.out; have hf := Qe HX3.out; have hz := Qd HX3.out
 go_wp2
 refine bodyPost_ret (results_cell_row rfl _ _ w.heap.size 123 _ (0, 0) _ rfl (Qz HX3.out _ _ _ _ _ _ _ _ _) Tryz.underlying123 rfl (by kernel_rfl)) rfl ?_
 exact ⟨y.2.q, 0, rfl, ⟨HF0.out.below (Ql HB3.out (Nat.le_refl _) _ _ _ _ _ _ _ _ _), SlAt.nil _ _ _, SlOk.nil⟩, Ql HB3.out (Nat.le_refl _) _ _ _ _ _ _ _ _ _, fun A B h => ⟨HO.out A B h, Out.none _ _ _⟩⟩
def Y2 (a b : Int) (prev : Option Int) (x : Int) : List Int := if x = a then [] else if a < x ∧ b = 1 ∧ (∀ p, prev = some p → p < a) then [a, x] else [x]
def outR (a b : Int) : Option Int → List Int → List Int
 | _, [] => []
 | prev, x :: l => Y2 a b prev x ++ outR a b (some x) l
def finO (a b : Int) (out : List Int) : List Int := if b = 1 ∧ (∀ y, out.getLast? = some y → y < a) then out ++ [a] else out
theorem stepO_len (a b : Int) (prev : Option Int) (x : Int) : (Y2 a b prev x).length ≤ 2 := by
 unfold Y2; split
 ·simp
 ·split <;> simp
theorem outR_len (a b : Int) : ∀ (l : List Int) (prev : Option Int), (outR a b prev l).length ≤ 2 * l.length
 | [], _ => by simp [outR]
 | x :: l, prev => by
  rw [outR, List.length_append]
  have h1 := stepO_len a b prev x
  have h2 := outR_len a b l (some x)
  simp only [List.length_cons]; omega
theorem outR_0 (a : Int) : ∀ (l : List Int) (prev : Option Int), outR a 0 prev l = l.filter (fun y => decide (y ≠ a))
 | [], _ => rfl
 | x :: l, prev => by
  rw [outR, outR_0 a l, Y2]
  by_cases h : x = a
  ·rw [if_pos h, List.filter_cons_of_neg (by simp [h])]; rfl
  ·rw [if_neg h, if_neg (by omega), List.filter_cons_of_pos (by simpa using h)]; rfl
theorem outR_above (a : Int) : ∀ (l : List Int) (p : Int), a < p → (∀ y ∈ l, a < y) → outR a 1 (some p) l = l
 | [], _, _, _ => rfl
 | x :: l, p, hp, h => by
  have hx := h x List.mem_cons_self
  rw [outR, outR_above a l x hx (fun y hy => h y (List.mem_cons_of_mem _ hy)), Y2, if_neg (by omega), if_neg (by rintro ⟨_, _, h3⟩; have := h3 p rfl; omega)]; rfl
theorem insI_lt {a x : Int} {l : List Int} (h : x < a) : insI a (x :: l) = x :: insI a l := by
 unfold insI
 rw [List.takeWhile_cons_of_pos (by simpa using h), List.dropWhile_cons_of_pos (by simpa using h)]; rfl
theorem insI_ge {a x : Int} {l : List Int} (h : ¬ x < a) : insI a (x :: l) = a :: x :: l := by
 unfold insI
 rw [List.takeWhile_cons_of_neg (by simpa using h), List.dropWhile_cons_of_neg (by simpa using h)]; rfl
theorem outR_1 (a : Int) : ∀ (l : List Int) (prev : Option Int), (∀ p, prev = some p → p < a) → l.Pairwise (· < ·) → a ∉ l → outR a 1 prev l = if l.any (fun y => decide (a < y)) then insI a l else l
 | [], _, _, _, _ => rfl
 | x :: l, prev, hp, hs, ha => by
  obtain ⟨h1, h2⟩ := List.pairwise_cons.1 hs
  have hxa : ¬ x = a := fun e => ha (e ▸ List.mem_cons_self)
  have hal : a ∉ l := fun e => ha (List.mem_cons_of_mem _ e)
  rw [outR, Y2, if_neg hxa]
  by_cases hx : a < x
  ·rw [if_pos ⟨hx, rfl, hp⟩, outR_above a l x hx (fun y hy => by have := h1 y hy; omega), insI_ge (by omega)]
   simp [hx]
  ·have hlt : x < a := by omega
   rw [if_neg (by rintro ⟨h3, _⟩; omega), outR_1 a l (some x) (fun p e => by cases e; exact hlt) h2 hal, insI_lt hlt]
   simp only [List.any_cons, decide_eq_false hx, Bool.false_or]
   split <;> rfl
theorem dw_all {α : Type} {p : α → Bool} : ∀ (l : List α), (∀ x ∈ l, p x = true) → l.dropWhile p = []
 | [], _ => rfl
 | x :: l, h => by rw [List.dropWhile_cons_of_pos (h x List.mem_cons_self), dw_all l (fun y hy => h y (List.mem_cons_of_mem _ hy))]
theorem insI_last {a : Int} {l : List Int} (h : l.Pairwise (· < ·)) : ∃ y, (insI a l).getLast? = some y ∧ ¬ y < a := by
 unfold insI
 rw [List.getLast?_append]
 obtain ⟨y, hy⟩ : ∃ y, (a :: l.dropWhile (fun x => decide (x < a))).getLast? = some y := ⟨_, List.getLast?_eq_some_getLast (by simp)⟩
 refine ⟨y, by rw [hy]; rfl, ?_⟩
 have hm := List.mem_of_getLast? hy
 rcases List.mem_cons.1 hm with rfl | hm
 ·omega
 ·have := UF h y hm; omega
theorem finO_eq {a b : Int} {l : List Int} (hs : l.Pairwise (· < ·)) (hb : b = 0 ∨ b = 1) (hd : decide (a ∈ l) ≠ decide (b = 1)) : finO a b (outR a b none l) = if b = 0 then l.filter (fun y => decide (y ≠ a)) else insI a l := by
 rcases hb with rfl | rfl
 ·rw [outR_0, finO, if_neg (by omega), if_pos rfl]
 ·have ha : a ∉ l := fun h => hd (by simp [h])
  rw [outR_1 a l none (fun p e => by cases e) hs ha, if_neg (show ¬ (1 : Int) = 0 by decide)]
  by_cases hany : l.any (fun y => decide (a < y)) = true
  ·rw [if_pos hany]
   obtain ⟨y, h1, h2⟩ := insI_last (a := a) hs
   rw [finO, if_neg (by rintro ⟨_, h3⟩; exact h2 (h3 y h1))]
  ·rw [if_neg hany]
   have hall : ∀ y ∈ l, y < a := fun y hy => by
    have h1 : ¬ a < y := fun h => hany (by rw [List.any_eq_true]; exact ⟨y, hy, by simpa using h⟩)
    have h2 : y ≠ a := fun e => ha (e ▸ hy)
    omega
   rw [finO, if_pos ⟨rfl, fun y hy => hall y (List.mem_of_getLast? hy)⟩]
   unfold insI
   rw [Uw l (fun y hy => by simpa using hall y hy)]
   have : l.dropWhile (fun x => decide (x < a)) = [] := by
    exact dw_all l (fun y hy => by simpa using hall y hy)
   rw [this]
theorem Rossia30_any (l : List (Wk × Wp)) (x : De) (r : Rm) (q : Fp) (oa : Option Addr) (oc : Nat) (w : World) (hr : RmOk r) (h : RmAt w r q oa oc) :
  Calls Tryz.prog 189 #[.agg #[.int .i64 r.ver, .int .i64 r.f.bars, .slice q.ra r.f.reps.length q.rc, .slice q.ea r.f.ends.length q.ec, .int .i64 r.f.jump.x, .int .i64 r.f.jump.y, .int .i64 r.f.jump.z, .slice q.ca r.f.cuts.length q.cc, .slice oa r.oss.length oc], .agg #[.int .i64 x.num, .int .i64 x.time, .int .i64 x.kind, .int .i64 x.a, .int .i64 x.b, .int .i64 x.c]] w (RetRmO l r q oa (ossR r x).1 (ossR r x).2 w) := by
 obtain ⟨x1, x2, x3, hb⟩ := box3 (w := w) (A := .cells #[.int .i64 r.ver, .int .i64 r.f.bars, .slice q.ra r.f.reps.length q.rc, .slice q.ea r.f.ends.length q.ec, .int .i64 r.f.jump.x, .int .i64 r.f.jump.y, .int .i64 r.f.jump.z, .slice q.ca r.f.cuts.length q.cc, .slice oa r.oss.length oc] 123) (B := .cells #[.int .i64 x.num, .int .i64 x.time, .int .i64 x.kind, .int .i64 x.a, .int .i64 x.b, .int .i64 x.c] 207) (C := .cells #[.int .i64 0, .int .i64 0, .slice none 0 0, .slice none 0 0, .int .i64 0, .int .i64 0, .int .i64 0, .slice none 0 0, .slice none 0 0] 123) (Below.refl _ _)
 have x3 : (((w.alloc (.cells #[.int .i64 r.ver, .int .i64 r.f.bars, .slice q.ra r.f.reps.length q.rc, .slice q.ea r.f.ends.length q.ec, .int .i64 r.f.jump.x, .int .i64 r.f.jump.y, .int .i64 r.f.jump.z, .slice q.ca r.f.cuts.length q.cc, .slice oa r.oss.length oc] 123)).alloc (.cells #[.int .i64 x.num, .int .i64 x.time, .int .i64 x.kind, .int .i64 x.a, .int .i64 x.b, .int .i64 x.c] 207)).alloc (.cells #[.int .i64 0, .int .i64 0, .slice none 0 0, .slice none 0 0, .int .i64 0, .int .i64 0, .int .i64 0, .slice none 0 0, .slice none 0 0] 123)).heap[w.heap.size + 1 + 1]? = some (.cells #[.int .i64 0, .int .i64 0, .slice none 0 0, .slice none 0 0, .int .i64 0, .int .i64 0, .int .i64 0, .slice none 0 0, .slice none 0 0] 123) := x3
 have HX := Qa x1; have HD := Qa x2; have HZ := Qa x3
 have HB := Qa hb
 have HRM := Qa h
 have hol := hr.oss_len
 have HSo := Qa hr.sorted
 clear hb h hr x1 x2 x3
 go_enter Tryz.func189, Tryz.ntmps189
 go_upto_region 1 with (fail)
 generalize ((w.alloc (.cells #[.int .i64 r.ver, .int .i64 r.f.bars, .slice q.ra r.f.reps.length q.rc, .slice q.ea r.f.ends.length q.ec, .int .i64 r.f.jump.x, .int .i64 r.f.jump.y, .int .i64 r.f.jump.z, .slice q.ca r.f.cuts.length q.cc, .slice oa r.oss.length oc] 123)).alloc (.cells #[.int .i64 x.num, .int .i64 x.time, .int .i64 x.kind, .int .i64 x.a, .int .i64 x.b, .int .i64 x.c] 207)).alloc (.cells #[.int .i64 0, .int .i64 0, .slice none 0 0, .slice none 0 0, .int .i64 0, .int .i64 0, .int .i64 0, .slice none 0 0, .slice none 0 0] 123) = W at *
 have hc := Qb HX.out
 have hd := Qb HD.out
 cases hbad : Yz x
 case true =>
  have HR := Qa (show ossR r x = (r, 1) by unfold ossR; rw [hbad]; rfl)
  unfold Yz at hbad
  simp only [Bool.or_eq_true, decide_eq_true_eq] at hbad
  by_cases c1 : x.a < 1
  ·have hf := Qe HZ.out; have hz := Qd HZ.out; have hcz := Qb HZ.out; go_wp2; refine bodyPost_ret (Qi rfl _ _ (w.heap.size + 1 + 1) 123 _ (0, 0) _ rfl (Qz HZ.out _ _ _ _ _ _ _ _ _) Tryz.underlying123 rfl (by kernel_rfl)) rfl ?_; rw [HR.out]; exact ⟨q, oa, oc, rfl, HRM.out.below (Ql HB.out (by omega) _ _ _ _ _ _ _ _ _), Ql HB.out (by omega) _ _ _ _ _ _ _ _ _, fun A B _ _ h => h⟩
  by_cases c2 : 20 < x.a
  ·have hf := Qe HZ.out; have hz := Qd HZ.out; have hcz := Qb HZ.out; go_wp2; refine bodyPost_ret (Qi rfl _ _ (w.heap.size + 1 + 1) 123 _ (0, 0) _ rfl (Qz HZ.out _ _ _ _ _ _ _ _ _) Tryz.underlying123 rfl (by kernel_rfl)) rfl ?_; rw [HR.out]; exact ⟨q, oa, oc, rfl, HRM.out.below (Ql HB.out (by omega) _ _ _ _ _ _ _ _ _), Ql HB.out (by omega) _ _ _ _ _ _ _ _ _, fun A B _ _ h => h⟩
  by_cases c3 : x.b < 0
  ·have hf := Qe HZ.out; have hz := Qd HZ.out; have hcz := Qb HZ.out; go_wp2; refine bodyPost_ret (Qi rfl _ _ (w.heap.size + 1 + 1) 123 _ (0, 0) _ rfl (Qz HZ.out _ _ _ _ _ _ _ _ _) Tryz.underlying123 rfl (by kernel_rfl)) rfl ?_; rw [HR.out]; exact ⟨q, oa, oc, rfl, HRM.out.below (Ql HB.out (by omega) _ _ _ _ _ _ _ _ _), Ql HB.out (by omega) _ _ _ _ _ _ _ _ _, fun A B _ _ h => h⟩
  by_cases c4 : 1 < x.b
  ·have hf := Qe HZ.out; have hz := Qd HZ.out; have hcz := Qb HZ.out; go_wp2; refine bodyPost_ret (Qi rfl _ _ (w.heap.size + 1 + 1) 123 _ (0, 0) _ rfl (Qz HZ.out _ _ _ _ _ _ _ _ _) Tryz.underlying123 rfl (by kernel_rfl)) rfl ?_; rw [HR.out]; exact ⟨q, oa, oc, rfl, HRM.out.below (Ql HB.out (by omega) _ _ _ _ _ _ _ _ _), Ql HB.out (by omega) _ _ _ _ _ _ _ _ _, fun A B _ _ h => h⟩
  have c5 : ¬ x.c = 0 := by omega
  have hf := Qe HZ.out; have hz := Qd HZ.out; have hcz := Qb HZ.out; go_wp2; refine bodyPost_ret (Qi rfl _ _ (w.heap.size + 1 + 1) 123 _ (0, 0) _ rfl (Qz HZ.out _ _ _ _ _ _ _ _ _) Tryz.underlying123 rfl (by kernel_rfl)) rfl ?_; rw [HR.out]; exact ⟨q, oa, oc, rfl, HRM.out.below (Ql HB.out (by omega) _ _ _ _ _ _ _ _ _), Ql HB.out (by omega) _ _ _ _ _ _ _ _ _, fun A B _ _ h => h⟩
 have hbad2 := hbad
 unfold Yz at hbad2
 simp only [Bool.or_eq_false_iff, decide_eq_false_iff_not, Decidable.not_not] at hbad2
 obtain ⟨⟨⟨⟨c1, c2⟩, c3⟩, c4⟩, c5⟩ := hbad2
 have HR := Qa (show ossR r x = if decide (x.a ∈ r.oss) = decide (x.b = 1) then (r, 6) else ({ r with oss := ossL r.oss x }, 0) by unfold ossR; rw [hbad]; rfl)
 clear hbad
 go_upto_region 5 with (fail)
 go_wp2
 clear hc hd
 go_loopw [6, 7, 8] (fun t6 t7 t8 wr => ∃ (k : Nat) (out : List Int) (T : Int), k ≤ r.oss.length ∧ t8 = .int .i64 k ∧ t7 = .int .i64 T ∧ Hid (T = if x.a ∈ r.oss.take k then 1 else 0) ∧ Hid (out.length ≤ 2 * k ∧ out ++ outR x.a x.b (if k = 0 then none else r.oss[k - 1]?) (r.oss.drop k) = outR x.a x.b none r.oss) ∧ OwnR wr W.heap.size 3 1 t6 (out.map inRow) ∧ Below W.heap.size W wr) (fun _ _ t8 _ => r.oss.length - (intOf t8).toNat)
 case atStart => exact ⟨0, [], 0, Nat.zero_le _, rfl, rfl, Qa (by simp), Qa ⟨by simp, rfl⟩, OwnR.nil _ _ _ _, Below.refl _ _⟩
 case round =>
  obtain ⟨k, out, T, hk, rfl, rfl, HT, HP, ho, hb⟩ := hrel
  have HO := Qa ho; have HK := Qa hb
  clear ho hb
  have hc := Qb (Qc HX.out HK.out); have hd := Qb (Qc HD.out HK.out)
  have hks := HK.out.size
  by_cases hlt : k < r.oss.length
  ·obtain ⟨b, off, ea, d0⟩ := InAt.get (SlAt.below HRM.out.oss (HB.out.trans (HK.out.mono HB.out.size))) k hlt
   have hki : (k : Int) < (r.oss.length : Int) := by omega
   have hk0 : ¬ (k : Int) < 0 := by omega
   have hwk : IntKind.i64.wrap ((k : Int) + 1) = (k : Int) + 1 := IntWalk.i64_in _ (by omega)
   have hol2 : out.length ≤ 40 := by have := HP.out.1; omega
   have HP2 := Qa (show out ++ (Y2 x.a x.b (if k = 0 then none else r.oss[k - 1]?) r.oss[k] ++ outR x.a x.b (some r.oss[k]) (r.oss.drop (k + 1))) = outR x.a x.b none r.oss from by
    have h := HP.out.2
    rw [List.drop_eq_getElem_cons hlt] at h
    exact h)
   have HPr := Qa (show (if k + 1 = 0 then none else r.oss[k + 1 - 1]?) = some r.oss[k] by rw [if_neg (by omega), show k + 1 - 1 = k by omega, List.getElem?_eq_getElem hlt])
   have hmem : (x.a ∈ r.oss.take (k + 1)) ↔ (x.a ∈ r.oss.take k ∨ x.a = r.oss[k]) := by rw [List.take_succ_eq_append_getElem hlt, List.mem_append, List.mem_singleton]
   have HTn := Qa (show (if x.a ∈ r.oss.take (k + 1) then (1 : Int) else 0) = if r.oss[k] = x.a then 1 else T by
    rw [HT.out]
    by_cases e : r.oss[k] = x.a
    ·rw [if_pos e, if_pos (hmem.2 (.inr e.symm))]
    ·rw [if_neg e]
     by_cases h : x.a ∈ r.oss.take k
     ·rw [if_pos h, if_pos (hmem.2 (.inl h))]
     ·rw [if_neg h, if_neg (fun h2 => (hmem.1 h2).elim h (fun h3 => e h3.symm))])
   clear hmem
   have hpl := HP.out.1
   rw [ea] at hc
   have hc8 := hc 8
   by_cases hy : r.oss[k] = x.a
   ·have HP3 := Qa (show out.length ≤ 2 * (k + 1) ∧ out ++ outR x.a x.b (if k + 1 = 0 then none else r.oss[k + 1 - 1]?) (r.oss.drop (k + 1)) = outR x.a x.b none r.oss from ⟨by omega, by
     have h := HP2.out
     rw [Y2, if_pos hy] at h
     rw [HPr.out]; exact h⟩)
    rw [if_pos hy] at HTn
    rw [hy] at d0
    clear HP HP2 HPr HT hy
    have g1 := cell_regrown hc8; have g2 := cell_regrown d0; have g3 := cell_regrown (hd 3)
    go_upto_region 8 with (fail)
    refine Qn (by kernel_rfl) (by kernel_rfl) ?_
    (repeat (go_big_quiet_step (fail)))
    refine wpQuiet_nil ?_
    intro w6 hb6
    have HK6 := Qa (HK.out.trans (hb6.mono hks))
    have HO6 := Qa (HO.out.below hb6)
    clear g1 g2 g3 hb6
    go_wp2
    exact ⟨⟨k + 1, out, 1, by omega, by go_num, rfl, Qa HTn.out.symm, HP3, HO6.out, HK6.out⟩, by simp [intOf]; omega⟩
   ·rw [if_neg hy] at HTn
    have HNE := Qa hy
    have hS := Qa (show Y2 x.a x.b (if k = 0 then none else r.oss[k - 1]?) r.oss[k] = if x.a < r.oss[k] ∧ x.b = 1 ∧ (∀ p, (if k = 0 then none else r.oss[k - 1]?) = some p → p < x.a) then [x.a, r.oss[k]] else [r.oss[k]] from if_neg hy)
    have HPn := Qa (fun (t : List Int) (ht : t = Y2 x.a x.b (if k = 0 then none else r.oss[k - 1]?) r.oss[k]) => (⟨by rw [List.length_append, ht]; have := stepO_len x.a x.b (if k = 0 then none else r.oss[k - 1]?) r.oss[k]; omega, by rw [HPr.out, List.append_assoc, ht]; exact HP2.out⟩ : (out ++ t).length ≤ 2 * (k + 1) ∧ (out ++ t) ++ outR x.a x.b (if k + 1 = 0 then none else r.oss[k + 1 - 1]?) (r.oss.drop (k + 1)) = outR x.a x.b none r.oss))
    have g1 := cell_regrown hc8; have g2 := cell_regrown d0; have g3 := cell_regrown (hd 3)
    clear HP HP2 HPr HT
    go_upto_region 8 with (fail)
    refine Qn (by kernel_rfl) (by kernel_rfl) ?_
    (repeat (go_big_quiet_step (fail)))
    refine wpQuiet_nil ?_
    intro w6 hb6
    have HK6 := Qa (HK.out.trans (hb6.mono hks))
    have HO6 := Qa (HO.out.below hb6)
    have d6 := Qq d0 hb6
    have hc6 := Qb (Qc HX.out HK6.out); have hd6 := Qb (Qc HD.out HK6.out)
    have hks6 := HK6.out.size
    rw [ea] at hc6
    have hc68 := hc6 8
    clear g1 g2 g3 hb6 hc hd d0 hc8
    by_cases c10 : x.a < r.oss[k] ∧ x.b = 1 ∧ (∀ p, (if k = 0 then none else r.oss[k - 1]?) = some p → p < x.a)
    ·rw [if_pos c10] at hS
     have HP4 := Qa (HPn.out [x.a, r.oss[k]] hS.out.symm)
     obtain ⟨e1, e2, e3⟩ := c10
     have hb1 : (x.b == 1) = true := by rw [e2]; rfl
     clear e2
     have g1 := cell_regrown hc68; have g2 := cell_regrown d6; have g3 := cell_regrown (hd6 3); have g4 := cell_regrown (hd6 4)
     by_cases hk00 : k = 0
     ·have hz : ((k : Int) == 0) = true := by rw [hk00]; rfl
      clear e3 hk00
      go_upto_region 10 with (fail); refine Qn (by kernel_rfl) (by kernel_rfl) ?_; (repeat (go_big_quiet_step (fail))); refine wpQuiet_nil ?_; intro w7 hb7; have HK7 := Qa (HK6.out.trans (hb7.mono hks6)); have HO7 := Qa (HO6.out.below hb7); have d7 := Qq d6 hb7; (clear hc6 hd6 hc68 d6); have hc6 := Qb (Qc HX.out HK7.out); have hd6 := Qb (Qc HD.out HK7.out); (rw [ea] at hc6); have d6 := d7; (clear d7 hb7 g1 g2 g3 g4)
      go_wp2_with (first | (at_builtin; refine appE eltInD rfl (.tmp 76) (.tmp 79) rfl W.heap.size _ (out) rfl (HO7.out.below (Qg _)) _ _ _ [x.a] rfl rfl (fun e => by cases e) (eltInD.new _ _ _ _ rfl) (by simp; omega) (by have := HK7.out.size; simp; omega) ?_; intro v8 w8 ho8 hg8; have HO8 := Qa ho8; have HK8 := Qa ((HK7.out.alloc HK7.out.size (.cells #[.int .i64 (x.a)] 3)).grown hg8 (by have := HK7.out.size; simp; omega) (fun k e => by have := (HO7.out.lt k e).1; omega)); clear ho8 hg8; (try clear hc6 hd6 hc68 d6); have hc6 := Qb (Qc HX.out HK8.out); have hd6 := Qb (Qc HD.out HK8.out); (rw [ea] at hc6); obtain ⟨_, _, ea2, d6⟩ := InAt.get (SlAt.below HRM.out.oss (HB.out.trans (HK8.out.mono HB.out.size))) k hlt; (rw [ea] at ea2); cases ea2) | (at_builtin; refine appE eltInD rfl (.tmp 81) (.tmp 87) rfl W.heap.size _ (out ++ [x.a]) rfl (HO8.out.below (Qg _)) _ _ _ [r.oss[k]] rfl rfl (fun e => by cases e) (eltInD.new _ _ _ _ rfl) (by simp; omega) (by have := HK8.out.size; simp; omega) ?_; intro v9 w9 ho9 hg9; have HO9 := Qa ho9; have HK9 := Qa ((HK8.out.alloc HK8.out.size (.cells #[.int .i64 (r.oss[k])] 3)).grown hg9 (by have := HK8.out.size; simp; omega) (fun k e => by have := (HO8.out.lt k e).1; omega)); clear ho9 hg9; (try clear hc6 hd6 hc68 d6); have hc6 := Qb (Qc HX.out HK9.out); have hd6 := Qb (Qc HD.out HK9.out); (rw [ea] at hc6); obtain ⟨_, _, ea2, d6⟩ := InAt.get (SlAt.below HRM.out.oss (HB.out.trans (HK9.out.mono HB.out.size))) k hlt; (rw [ea] at ea2); cases ea2)); have HOx : OwnR w9 W.heap.size 3 1 v9 ((out ++ [x.a, r.oss[k]]).map inRow) := (by have := HO9.out; rwa [List.append_assoc] at this); (first | exact ⟨⟨k + 1, out ++ [x.a, r.oss[k]], T, by omega, by go_num, rfl, Qa HTn.out.symm, HP4, HOx, HK9.out⟩, by simp [intOf]; omega⟩ | exact ⟨⟨v9, _, _, ⟨k + 1, by omega, rfl, out ++ [x.a, r.oss[k]], T, rfl, Qa HTn.out.symm, HP4, HOx, HK9.out⟩, rfl, rfl, by go_num⟩, by simp [intOf]; omega⟩)
     ·have hz : ((k : Int) == 0) = false := by rw [beq_eq_false_iff_ne]; omega
      rw [if_neg hk00] at e3
      have e4 := e3 _ (List.getElem?_eq_getElem (show k - 1 < r.oss.length by omega))
      have hkm : IntKind.i64.wrap ((k : Int) - 1) = ((k - 1 : Nat) : Int) := by rw [IntWalk.i64_in _ (by omega)]; omega
      have hkm1 : ((k - 1 : Nat) : Int) < (r.oss.length : Int) := by omega
      obtain ⟨_, _, ea3, dp⟩ := InAt.get (SlAt.below HRM.out.oss (HB.out.trans (HK6.out.mono HB.out.size))) (k - 1) (by omega)
      rw [ea] at ea3
      cases ea3
      have g5 := cell_regrown dp
      clear e3 dp
      go_upto_region 10 with (fail); refine Qn (by kernel_rfl) (by kernel_rfl) ?_; (repeat (go_big_quiet_step (fail))); refine wpQuiet_nil ?_; intro w7 hb7; have HK7 := Qa (HK6.out.trans (hb7.mono hks6)); have HO7 := Qa (HO6.out.below hb7); have d7 := Qq d6 hb7; (clear hc6 hd6 hc68 d6); have hc6 := Qb (Qc HX.out HK7.out); have hd6 := Qb (Qc HD.out HK7.out); (rw [ea] at hc6); have d6 := d7; (clear d7 hb7 g1 g2 g3 g4)
      clear g5
      go_wp2_with (first | (at_builtin; refine appE eltInD rfl (.tmp 76) (.tmp 79) rfl W.heap.size _ (out) rfl (HO7.out.below (Qg _)) _ _ _ [x.a] rfl rfl (fun e => by cases e) (eltInD.new _ _ _ _ rfl) (by simp; omega) (by have := HK7.out.size; simp; omega) ?_; intro v8 w8 ho8 hg8; have HO8 := Qa ho8; have HK8 := Qa ((HK7.out.alloc HK7.out.size (.cells #[.int .i64 (x.a)] 3)).grown hg8 (by have := HK7.out.size; simp; omega) (fun k e => by have := (HO7.out.lt k e).1; omega)); clear ho8 hg8; (try clear hc6 hd6 hc68 d6); have hc6 := Qb (Qc HX.out HK8.out); have hd6 := Qb (Qc HD.out HK8.out); (rw [ea] at hc6); obtain ⟨_, _, ea2, d6⟩ := InAt.get (SlAt.below HRM.out.oss (HB.out.trans (HK8.out.mono HB.out.size))) k hlt; (rw [ea] at ea2); cases ea2) | (at_builtin; refine appE eltInD rfl (.tmp 81) (.tmp 87) rfl W.heap.size _ (out ++ [x.a]) rfl (HO8.out.below (Qg _)) _ _ _ [r.oss[k]] rfl rfl (fun e => by cases e) (eltInD.new _ _ _ _ rfl) (by simp; omega) (by have := HK8.out.size; simp; omega) ?_; intro v9 w9 ho9 hg9; have HO9 := Qa ho9; have HK9 := Qa ((HK8.out.alloc HK8.out.size (.cells #[.int .i64 (r.oss[k])] 3)).grown hg9 (by have := HK8.out.size; simp; omega) (fun k e => by have := (HO8.out.lt k e).1; omega)); clear ho9 hg9; (try clear hc6 hd6 hc68 d6); have hc6 := Qb (Qc HX.out HK9.out); have hd6 := Qb (Qc HD.out HK9.out); (rw [ea] at hc6); obtain ⟨_, _, ea2, d6⟩ := InAt.get (SlAt.below HRM.out.oss (HB.out.trans (HK9.out.mono HB.out.size))) k hlt; (rw [ea] at ea2); cases ea2)); have HOx : OwnR w9 W.heap.size 3 1 v9 ((out ++ [x.a, r.oss[k]]).map inRow) := (by have := HO9.out; rwa [List.append_assoc] at this); (first | exact ⟨⟨k + 1, out ++ [x.a, r.oss[k]], T, by omega, by go_num, rfl, Qa HTn.out.symm, HP4, HOx, HK9.out⟩, by simp [intOf]; omega⟩ | exact ⟨⟨v9, _, _, ⟨k + 1, by omega, rfl, out ++ [x.a, r.oss[k]], T, rfl, Qa HTn.out.symm, HP4, HOx, HK9.out⟩, rfl, rfl, by go_num⟩, by simp [intOf]; omega⟩)
    ·rw [if_neg c10] at hS
     have HP4 := Qa (HPn.out [r.oss[k]] hS.out.symm)
     have g1 := cell_regrown hc68; have g2 := cell_regrown d6; have g3 := cell_regrown (hd6 3); have g4 := cell_regrown (hd6 4)
     by_cases e1 : ¬ x.a < r.oss[k]
     ·clear c10
      go_upto_region 10 with (fail); refine Qn (by kernel_rfl) (by kernel_rfl) ?_; (repeat (go_big_quiet_step (fail))); refine wpQuiet_nil ?_; intro w7 hb7; have HK7 := Qa (HK6.out.trans (hb7.mono hks6)); have HO7 := Qa (HO6.out.below hb7); have d7 := Qq d6 hb7; (clear hc6 hd6 hc68 d6); have hc6 := Qb (Qc HX.out HK7.out); have hd6 := Qb (Qc HD.out HK7.out); (rw [ea] at hc6); have d6 := d7; (clear d7 hb7 g1 g2 g3 g4)
      go_wp2_with ((at_builtin; refine appE eltInD rfl (.tmp 81) (.tmp 87) rfl W.heap.size _ (out) rfl (HO7.out.below (Qg _)) _ _ _ [r.oss[k]] rfl rfl (fun e => by cases e) (eltInD.new _ _ _ _ rfl) (by simp; omega) (by have := HK7.out.size; simp; omega) ?_; intro v9 w9 ho9 hg9; have HO9 := Qa ho9; have HK9 := Qa ((HK7.out.alloc HK7.out.size (.cells #[.int .i64 (r.oss[k])] 3)).grown hg9 (by have := HK7.out.size; simp; omega) (fun k e => by have := (HO7.out.lt k e).1; omega)); clear ho9 hg9; (try clear hc6 hd6 hc68 d6); have hc6 := Qb (Qc HX.out HK9.out); have hd6 := Qb (Qc HD.out HK9.out); (rw [ea] at hc6); obtain ⟨_, _, ea2, d6⟩ := InAt.get (SlAt.below HRM.out.oss (HB.out.trans (HK9.out.mono HB.out.size))) k hlt; (rw [ea] at ea2); cases ea2)); (first | exact ⟨⟨k + 1, out ++ [r.oss[k]], T, by omega, by go_num, rfl, Qa HTn.out.symm, HP4, HO9.out, HK9.out⟩, by simp [intOf]; omega⟩ | exact ⟨⟨v9, _, _, ⟨k + 1, by omega, rfl, out ++ [r.oss[k]], T, rfl, Qa HTn.out.symm, HP4, HO9.out, HK9.out⟩, rfl, rfl, by go_num⟩, by simp [intOf]; omega⟩)
     have e1 : x.a < r.oss[k] := by omega
     by_cases e2 : ¬ x.b = 1
     ·have hb1 : (x.b == 1) = false := by rw [beq_eq_false_iff_ne]; exact e2
      clear c10
      go_upto_region 10 with (fail); refine Qn (by kernel_rfl) (by kernel_rfl) ?_; (repeat (go_big_quiet_step (fail))); refine wpQuiet_nil ?_; intro w7 hb7; have HK7 := Qa (HK6.out.trans (hb7.mono hks6)); have HO7 := Qa (HO6.out.below hb7); have d7 := Qq d6 hb7; (clear hc6 hd6 hc68 d6); have hc6 := Qb (Qc HX.out HK7.out); have hd6 := Qb (Qc HD.out HK7.out); (rw [ea] at hc6); have d6 := d7; (clear d7 hb7 g1 g2 g3 g4)
      go_wp2_with ((at_builtin; refine appE eltInD rfl (.tmp 81) (.tmp 87) rfl W.heap.size _ (out) rfl (HO7.out.below (Qg _)) _ _ _ [r.oss[k]] rfl rfl (fun e => by cases e) (eltInD.new _ _ _ _ rfl) (by simp; omega) (by have := HK7.out.size; simp; omega) ?_; intro v9 w9 ho9 hg9; have HO9 := Qa ho9; have HK9 := Qa ((HK7.out.alloc HK7.out.size (.cells #[.int .i64 (r.oss[k])] 3)).grown hg9 (by have := HK7.out.size; simp; omega) (fun k e => by have := (HO7.out.lt k e).1; omega)); clear ho9 hg9; (try clear hc6 hd6 hc68 d6); have hc6 := Qb (Qc HX.out HK9.out); have hd6 := Qb (Qc HD.out HK9.out); (rw [ea] at hc6); obtain ⟨_, _, ea2, d6⟩ := InAt.get (SlAt.below HRM.out.oss (HB.out.trans (HK9.out.mono HB.out.size))) k hlt; (rw [ea] at ea2); cases ea2)); (first | exact ⟨⟨k + 1, out ++ [r.oss[k]], T, by omega, by go_num, rfl, Qa HTn.out.symm, HP4, HO9.out, HK9.out⟩, by simp [intOf]; omega⟩ | exact ⟨⟨v9, _, _, ⟨k + 1, by omega, rfl, out ++ [r.oss[k]], T, rfl, Qa HTn.out.symm, HP4, HO9.out, HK9.out⟩, rfl, rfl, by go_num⟩, by simp [intOf]; omega⟩)
     have e2 : x.b = 1 := by omega
     have hb1 : (x.b == 1) = true := by rw [e2]; rfl
     have hk00 : ¬ k = 0 := fun hk00 => c10 ⟨e1, e2, fun p e => by rw [if_pos hk00] at e; cases e⟩
     have e4 : ¬ r.oss[k - 1]'(by omega) < x.a := fun hlt2 => c10 ⟨e1, e2, fun p e => by
      rw [if_neg hk00, List.getElem?_eq_getElem (show k - 1 < r.oss.length by omega)] at e
      cases e; exact hlt2⟩
     have hz : ((k : Int) == 0) = false := by rw [beq_eq_false_iff_ne]; omega
     have hkm : IntKind.i64.wrap ((k : Int) - 1) = ((k - 1 : Nat) : Int) := by rw [IntWalk.i64_in _ (by omega)]; omega
     have hkm1 : ((k - 1 : Nat) : Int) < (r.oss.length : Int) := by omega
     obtain ⟨_, _, ea3, dp⟩ := InAt.get (SlAt.below HRM.out.oss (HB.out.trans (HK6.out.mono HB.out.size))) (k - 1) (by omega)
     rw [ea] at ea3
     cases ea3
     have g5 := cell_regrown dp
     clear c10 dp e2
     go_upto_region 10 with (fail); refine Qn (by kernel_rfl) (by kernel_rfl) ?_; (repeat (go_big_quiet_step (fail))); refine wpQuiet_nil ?_; intro w7 hb7; have HK7 := Qa (HK6.out.trans (hb7.mono hks6)); have HO7 := Qa (HO6.out.below hb7); have d7 := Qq d6 hb7; (clear hc6 hd6 hc68 d6); have hc6 := Qb (Qc HX.out HK7.out); have hd6 := Qb (Qc HD.out HK7.out); (rw [ea] at hc6); have d6 := d7; (clear d7 hb7 g1 g2 g3 g4)
     clear g5
     go_wp2_with ((at_builtin; refine appE eltInD rfl (.tmp 81) (.tmp 87) rfl W.heap.size _ (out) rfl (HO7.out.below (Qg _)) _ _ _ [r.oss[k]] rfl rfl (fun e => by cases e) (eltInD.new _ _ _ _ rfl) (by simp; omega) (by have := HK7.out.size; simp; omega) ?_; intro v9 w9 ho9 hg9; have HO9 := Qa ho9; have HK9 := Qa ((HK7.out.alloc HK7.out.size (.cells #[.int .i64 (r.oss[k])] 3)).grown hg9 (by have := HK7.out.size; simp; omega) (fun k e => by have := (HO7.out.lt k e).1; omega)); clear ho9 hg9; (try clear hc6 hd6 hc68 d6); have hc6 := Qb (Qc HX.out HK9.out); have hd6 := Qb (Qc HD.out HK9.out); (rw [ea] at hc6); obtain ⟨_, _, ea2, d6⟩ := InAt.get (SlAt.below HRM.out.oss (HB.out.trans (HK9.out.mono HB.out.size))) k hlt; (rw [ea] at ea2); cases ea2)); (first | exact ⟨⟨k + 1, out ++ [r.oss[k]], T, by omega, by go_num, rfl, Qa HTn.out.symm, HP4, HO9.out, HK9.out⟩, by simp [intOf]; omega⟩ | exact ⟨⟨v9, _, _, ⟨k + 1, by omega, rfl, out ++ [r.oss[k]], T, rfl, Qa HTn.out.symm, HP4, HO9.out, HK9.out⟩, rfl, rfl, by go_num⟩, by simp [intOf]; omega⟩)
  ·obtain rfl : k = r.oss.length := by omega
   have hP := HP.out
   rw [List.drop_eq_nil_of_le (Nat.le_refl _), outR, List.append_nil] at hP
   rw [List.take_length] at HT
   obtain ⟨hp1, hp2⟩ := hP
   clear HP
   have hb01 : x.b = 0 ∨ x.b = 1 := by omega
   by_cases hTb : decide (x.a ∈ r.oss) = decide (x.b = 1)
   ·have HR6 := Qa (show ossR r x = (r, 6) by rw [HR.out, if_pos hTb])
    have hTe : (T == x.b) = true := by
     rw [HT.out]
     rcases hb01 with e | e
     ·rw [e] at hTb ⊢
      have : x.a ∉ r.oss := by simpa using hTb
      rw [if_neg this]; rfl
     ·rw [e] at hTb ⊢
      have : x.a ∈ r.oss := by simpa using hTb
      rw [if_pos this]; rfl
    have HBr := Qa (HB.out.trans (HK.out.mono HB.out.size))
    have HZr := Qa (Qc HZ.out HK.out)
    clear HR hTb hb01
    have hf := Qe HZr.out; have hz := Qd HZr.out; have hcz := Qb HZr.out
    go_wp2
    refine bodyPost_ret (Qi rfl _ _ (w.heap.size + 1 + 1) 123 _ (0, 0) _ rfl (Qz HZr.out _ _ _ _ _ _ _ _ _) Tryz.underlying123 rfl (by kernel_rfl)) rfl ?_
    rw [HR6.out]
    exact ⟨q, oa, oc, rfl, HRM.out.below (Ql HBr.out (by omega) _ _ _ _ _ _ _ _ _), Ql HBr.out (by omega) _ _ _ _ _ _ _ _ _, fun A B _ _ h => h⟩
   ·have HR0 := Qa (show ossR r x = ({ r with oss := finO x.a x.b out }, 0) by
     rw [HR.out, if_neg hTb, hp2, finO_eq HSo.out hb01 hTb]; rfl)
    have hTe : (T == x.b) = false := by
     rw [HT.out, beq_eq_false_iff_ne]
     rcases hb01 with e | e
     ·rw [e] at hTb ⊢
      have : x.a ∈ r.oss := by simpa using hTb
      rw [if_pos this]; decide
     ·rw [e] at hTb ⊢
      have : x.a ∉ r.oss := by simpa using hTb
      rw [if_neg this]; decide
    clear HR hTb
    have HFin := Qa (show finO x.a x.b out = if x.b = 1 ∧ (∀ y, out.getLast? = some y → y < x.a) then out ++ [x.a] else out from rfl)
    have g3 := cell_regrown (hd 3); have g4 := cell_regrown (hd 4)
    obtain ⟨a6, c6, e6, hk6, hi6⟩ := HO.out.slAt
    rw [List.length_map] at e6 hk6
    subst e6
    clear HT hp2
    by_cases e2 : x.b = 1
    ·have hb1 : (x.b == 1) = true := by rw [e2]; rfl
     by_cases hnil : out = []
     ·have HE := Qa (show finO x.a x.b out = out ++ [x.a] by rw [HFin.out, if_pos ⟨e2, fun y hy => by rw [hnil] at hy; cases hy⟩])
      have hl0 : ((out.length : Int) == 0) = true := by rw [hnil]; rfl
      clear HFin e2 hnil hb01
      go_upto_region 15 with (fail)
      refine Qn (by kernel_rfl) (by kernel_rfl) ?_; (repeat (go_big_quiet_step (fail))); refine wpQuiet_nil ?_; intro w7 hb7; have HK7 := Qa (HK.out.trans (hb7.mono hks)); have HO7 := Qa (HO.out.below hb7); have hd7 := Qb (Qc HD.out HK7.out); have hi7 := SlAt.below hi6 hb7; clear hb7 g3 g4 hc hd hi6
      go_upto_region 17 with (at_builtin; refine appE eltInD rfl (.tmp 113) (.tmp 116) rfl W.heap.size _ out rfl (HO7.out.below (Qg _)) _ _ _ [x.a] rfl rfl (fun e => by cases e) (eltInD.new _ _ _ _ rfl) (by simp; omega) (by have := HK7.out.size; simp; omega) ?_; intro v9 w9 ho9 hg9; have HO9 := Qa ho9; have HK9 := Qa ((HK7.out.alloc HK7.out.size (.cells #[.int .i64 x.a] 3)).grown hg9 (by have := HK7.out.size; simp; omega) (fun k e => by have := (HO7.out.lt k e).1; omega)); clear ho9 hg9); obtain ⟨a8, c8, e8, hk8, hi8⟩ := HO9.out.slAt; (rw [List.length_map] at e8 hk8); subst e8; generalize hn9 : (out ++ [x.a]).length = n9 at *; have kx := Qc HX.out HK9.out; have kz := Qc HZ.out HK9.out; have hcx := Qb kx; have hfx := Qe kx; have hzx := Qd kx; have hAd := (HO9.out).newB (Nat.le_refl _); go_upto_region 18 with (fail); have kx2 := heap_setCell_same (w9) w.heap.size 8 _ _ (.slice a8 n9 c8) kx; have kz2 := Qo (c := w.heap.size) (i := 8) kz (by omega) (.slice a8 n9 c8); have o2 := (HO9.out).setAt (b := w.heap.size) (i := 8) (show w.heap.size < W.heap.size from Qd HX.out) (.slice a8 n9 c8); have b2 := (HB.out.trans ((HK9.out).mono HB.out.size)).setCell (p := ⟨w.heap.size, 8, none⟩) (Nat.le_refl _) (.slice a8 n9 c8); have hWl : w.heap.size + 1 + 1 < W.heap.size := Qd HZ.out; clear kx kz hcx hfx hzx; generalize World.setCell (w9) ⟨w.heap.size, 8, none⟩ (.slice a8 n9 c8) = Wf at *; have hcx := Qb kx2; have hcz := Qb kz2; have hfz := Qe kz2; have hzz := Qd kz2; go_wp2; refine bodyPost_ret (Qi rfl _ _ (w.heap.size + 1 + 1) 123 _ (0, 0) _ rfl (Qz kz2 _ _ _ _ _ _ _ _ _) Tryz.underlying123 rfl (by kernel_rfl)) rfl ?_; (rw [HR0.out, HE.out]); have p2 := o2.set9 (b := w.heap.size + 1 + 1) hWl (.int .i64 r.ver) (.int .i64 r.f.bars) (.slice q.ra r.f.reps.length q.rc) (.slice q.ea r.f.ends.length q.ec) (.int .i64 r.f.jump.x) (.int .i64 r.f.jump.y) (.int .i64 r.f.jump.z) (.slice q.ca r.f.cuts.length q.cc) (.slice a8 n9 c8); obtain ⟨a0, c0, e0, _, hi0⟩ := p2.slAt; (simp only [Value.slice.injEq] at e0); obtain ⟨rfl, _, rfl⟩ := e0; exact ⟨q, _, _, (by first | rfl | (dsimp only; rw [hn9]; rfl) | (dsimp only; rw [hn9])), ⟨HRM.out.form.below (Ql b2 (by omega) _ _ _ _ _ _ _ _ _), hi0, (by first | exact hk8 | (dsimp only; rw [hn9]; exact hk8))⟩, Ql b2 (by omega) _ _ _ _ _ _ _ _ _, fun A B hB _ hh => ⟨hh.form, Out.new (fun ad e => Nat.le_trans (by have := HB.out.size; omega) (hAd ad e)) _ _⟩⟩
     ·have hpos : 0 < out.length := List.length_pos_iff.2 hnil
      have hl0 : ((out.length : Int) == 0) = false := by rw [beq_eq_false_iff_ne]; omega
      have hkm : IntKind.i64.wrap ((out.length : Int) - 1) = ((out.length - 1 : Nat) : Int) := by rw [IntWalk.i64_in _ (by omega)]; omega
      have hkm1 : ((out.length - 1 : Nat) : Int) < (out.length : Int) := by omega
      have hlast : out.getLast? = some (out[out.length - 1]'(by omega)) := by rw [List.getLast?_eq_getElem?, List.getElem?_eq_getElem (by omega)]
      obtain ⟨b9, o9, ea9, dl⟩ := InAt.get (show InAt wr a6 out from hi6) (out.length - 1) (by omega)
      subst ea9
      have g5 := cell_regrown dl
      by_cases hla : out[out.length - 1]'(by omega) < x.a
      ·have HE := Qa (show finO x.a x.b out = out ++ [x.a] by rw [HFin.out, if_pos ⟨e2, fun y hy => by rw [hlast] at hy; cases hy; exact hla⟩])
       clear HFin e2 hnil hb01 hlast dl
       go_upto_region 15 with (fail)
       refine Qn (by kernel_rfl) (by kernel_rfl) ?_; (repeat (go_big_quiet_step (fail))); refine wpQuiet_nil ?_; intro w7 hb7; have HK7 := Qa (HK.out.trans (hb7.mono hks)); have HO7 := Qa (HO.out.below hb7); have hd7 := Qb (Qc HD.out HK7.out); have hi7 := SlAt.below hi6 hb7; clear hb7 g3 g4 hc hd hi6
       clear g5
       go_upto_region 17 with (at_builtin; refine appE eltInD rfl (.tmp 113) (.tmp 116) rfl W.heap.size _ out rfl (HO7.out.below (Qg _)) _ _ _ [x.a] rfl rfl (fun e => by cases e) (eltInD.new _ _ _ _ rfl) (by simp; omega) (by have := HK7.out.size; simp; omega) ?_; intro v9 w9 ho9 hg9; have HO9 := Qa ho9; have HK9 := Qa ((HK7.out.alloc HK7.out.size (.cells #[.int .i64 x.a] 3)).grown hg9 (by have := HK7.out.size; simp; omega) (fun k e => by have := (HO7.out.lt k e).1; omega)); clear ho9 hg9); obtain ⟨a8, c8, e8, hk8, hi8⟩ := HO9.out.slAt; (rw [List.length_map] at e8 hk8); subst e8; generalize hn9 : (out ++ [x.a]).length = n9 at *; have kx := Qc HX.out HK9.out; have kz := Qc HZ.out HK9.out; have hcx := Qb kx; have hfx := Qe kx; have hzx := Qd kx; have hAd := (HO9.out).newB (Nat.le_refl _); go_upto_region 18 with (fail); have kx2 := heap_setCell_same (w9) w.heap.size 8 _ _ (.slice a8 n9 c8) kx; have kz2 := Qo (c := w.heap.size) (i := 8) kz (by omega) (.slice a8 n9 c8); have o2 := (HO9.out).setAt (b := w.heap.size) (i := 8) (show w.heap.size < W.heap.size from Qd HX.out) (.slice a8 n9 c8); have b2 := (HB.out.trans ((HK9.out).mono HB.out.size)).setCell (p := ⟨w.heap.size, 8, none⟩) (Nat.le_refl _) (.slice a8 n9 c8); have hWl : w.heap.size + 1 + 1 < W.heap.size := Qd HZ.out; clear kx kz hcx hfx hzx; generalize World.setCell (w9) ⟨w.heap.size, 8, none⟩ (.slice a8 n9 c8) = Wf at *; have hcx := Qb kx2; have hcz := Qb kz2; have hfz := Qe kz2; have hzz := Qd kz2; go_wp2; refine bodyPost_ret (Qi rfl _ _ (w.heap.size + 1 + 1) 123 _ (0, 0) _ rfl (Qz kz2 _ _ _ _ _ _ _ _ _) Tryz.underlying123 rfl (by kernel_rfl)) rfl ?_; (rw [HR0.out, HE.out]); have p2 := o2.set9 (b := w.heap.size + 1 + 1) hWl (.int .i64 r.ver) (.int .i64 r.f.bars) (.slice q.ra r.f.reps.length q.rc) (.slice q.ea r.f.ends.length q.ec) (.int .i64 r.f.jump.x) (.int .i64 r.f.jump.y) (.int .i64 r.f.jump.z) (.slice q.ca r.f.cuts.length q.cc) (.slice a8 n9 c8); obtain ⟨a0, c0, e0, _, hi0⟩ := p2.slAt; (simp only [Value.slice.injEq] at e0); obtain ⟨rfl, _, rfl⟩ := e0; exact ⟨q, _, _, (by first | rfl | (dsimp only; rw [hn9]; rfl) | (dsimp only; rw [hn9])), ⟨HRM.out.form.below (Ql b2 (by omega) _ _ _ _ _ _ _ _ _), hi0, (by first | exact hk8 | (dsimp only; rw [hn9]; exact hk8))⟩, Ql b2 (by omega) _ _ _ _ _ _ _ _ _, fun A B hB _ hh => ⟨hh.form, Out.new (fun ad e => Nat.le_trans (by have := HB.out.size; omega) (hAd ad e)) _ _⟩⟩
      ·have HE := Qa (show finO x.a x.b out = out by rw [HFin.out, if_neg (fun h => hla (h.2 _ hlast))])
       clear HFin e2 hnil hb01 hlast dl
       go_upto_region 15 with (fail)
       refine Qn (by kernel_rfl) (by kernel_rfl) ?_; (repeat (go_big_quiet_step (fail))); refine wpQuiet_nil ?_; intro w7 hb7; have HK7 := Qa (HK.out.trans (hb7.mono hks)); have HO7 := Qa (HO.out.below hb7); have hd7 := Qb (Qc HD.out HK7.out); have hi7 := SlAt.below hi6 hb7; clear hb7 g3 g4 hc hd hi6
       clear g5
       have hnx : out.length = out.length := rfl; have kx := Qc HX.out HK7.out; have kz := Qc HZ.out HK7.out; have hcx := Qb kx; have hfx := Qe kx; have hzx := Qd kx; have hAd := (HO7.out).newB (Nat.le_refl _); go_upto_region 18 with (fail); have kx2 := heap_setCell_same (w7) w.heap.size 8 _ _ (.slice (some ⟨b9, o9, none⟩) out.length c6) kx; have kz2 := Qo (c := w.heap.size) (i := 8) kz (by omega) (.slice (some ⟨b9, o9, none⟩) out.length c6); have o2 := (HO7.out).setAt (b := w.heap.size) (i := 8) (show w.heap.size < W.heap.size from Qd HX.out) (.slice (some ⟨b9, o9, none⟩) out.length c6); have b2 := (HB.out.trans ((HK7.out).mono HB.out.size)).setCell (p := ⟨w.heap.size, 8, none⟩) (Nat.le_refl _) (.slice (some ⟨b9, o9, none⟩) out.length c6); have hWl : w.heap.size + 1 + 1 < W.heap.size := Qd HZ.out; clear kx kz hcx hfx hzx; generalize World.setCell (w7) ⟨w.heap.size, 8, none⟩ (.slice (some ⟨b9, o9, none⟩) out.length c6) = Wf at *; have hcx := Qb kx2; have hcz := Qb kz2; have hfz := Qe kz2; have hzz := Qd kz2; go_wp2; refine bodyPost_ret (Qi rfl _ _ (w.heap.size + 1 + 1) 123 _ (0, 0) _ rfl (Qz kz2 _ _ _ _ _ _ _ _ _) Tryz.underlying123 rfl (by kernel_rfl)) rfl ?_; (rw [HR0.out, HE.out]); have p2 := o2.set9 (b := w.heap.size + 1 + 1) hWl (.int .i64 r.ver) (.int .i64 r.f.bars) (.slice q.ra r.f.reps.length q.rc) (.slice q.ea r.f.ends.length q.ec) (.int .i64 r.f.jump.x) (.int .i64 r.f.jump.y) (.int .i64 r.f.jump.z) (.slice q.ca r.f.cuts.length q.cc) (.slice (some ⟨b9, o9, none⟩) out.length c6); obtain ⟨a0, c0, e0, _, hi0⟩ := p2.slAt; (simp only [Value.slice.injEq] at e0); obtain ⟨rfl, _, rfl⟩ := e0; exact ⟨q, _, _, (by first | rfl | (dsimp only; rw [hnx]; rfl) | (dsimp only; rw [hnx])), ⟨HRM.out.form.below (Ql b2 (by omega) _ _ _ _ _ _ _ _ _), hi0, (by first | exact hk6 | (dsimp only; rw [hnx]; exact hk6))⟩, Ql b2 (by omega) _ _ _ _ _ _ _ _ _, fun A B hB _ hh => ⟨hh.form, Out.new (fun ad e => Nat.le_trans (by have := HB.out.size; omega) (hAd ad e)) _ _⟩⟩
    ·have hb1 : (x.b == 1) = false := by rw [beq_eq_false_iff_ne]; exact e2
     have HE := Qa (show finO x.a x.b out = out by rw [HFin.out, if_neg (fun h => e2 h.1)])
     clear HFin e2 hb01
     go_upto_region 15 with (fail)
     refine Qn (by kernel_rfl) (by kernel_rfl) ?_; (repeat (go_big_quiet_step (fail))); refine wpQuiet_nil ?_; intro w7 hb7; have HK7 := Qa (HK.out.trans (hb7.mono hks)); have HO7 := Qa (HO.out.below hb7); have hd7 := Qb (Qc HD.out HK7.out); have hi7 := SlAt.below hi6 hb7; clear hb7 g3 g4 hc hd hi6
     have hnx : out.length = out.length := rfl; have kx := Qc HX.out HK7.out; have kz := Qc HZ.out HK7.out; have hcx := Qb kx; have hfx := Qe kx; have hzx := Qd kx; have hAd := (HO7.out).newB (Nat.le_refl _); go_upto_region 18 with (fail); have kx2 := heap_setCell_same (w7) w.heap.size 8 _ _ (.slice a6 out.length c6) kx; have kz2 := Qo (c := w.heap.size) (i := 8) kz (by omega) (.slice a6 out.length c6); have o2 := (HO7.out).setAt (b := w.heap.size) (i := 8) (show w.heap.size < W.heap.size from Qd HX.out) (.slice a6 out.length c6); have b2 := (HB.out.trans ((HK7.out).mono HB.out.size)).setCell (p := ⟨w.heap.size, 8, none⟩) (Nat.le_refl _) (.slice a6 out.length c6); have hWl : w.heap.size + 1 + 1 < W.heap.size := Qd HZ.out; clear kx kz hcx hfx hzx; generalize World.setCell (w7) ⟨w.heap.size, 8, none⟩ (.slice a6 out.length c6) = Wf at *; have hcx := Qb kx2; have hcz := Qb kz2; have hfz := Qe kz2; have hzz := Qd kz2; go_wp2; refine bodyPost_ret (Qi rfl _ _ (w.heap.size + 1 + 1) 123 _ (0, 0) _ rfl (Qz kz2 _ _ _ _ _ _ _ _ _) Tryz.underlying123 rfl (by kernel_rfl)) rfl ?_; (rw [HR0.out, HE.out]); have p2 := o2.set9 (b := w.heap.size + 1 + 1) hWl (.int .i64 r.ver) (.int .i64 r.f.bars) (.slice q.ra r.f.reps.length q.rc) (.slice q.ea r.f.ends.length q.ec) (.int .i64 r.f.jump.x) (.int .i64 r.f.jump.y) (.int .i64 r.f.jump.z) (.slice q.ca r.f.cuts.length q.cc) (.slice a6 out.length c6); obtain ⟨a0, c0, e0, _, hi0⟩ := p2.slAt; (simp only [Value.slice.injEq] at e0); obtain ⟨rfl, _, rfl⟩ := e0; exact ⟨q, _, _, (by first | rfl | (dsimp only; rw [hnx]; rfl) | (dsimp only; rw [hnx])), ⟨HRM.out.form.below (Ql b2 (by omega) _ _ _ _ _ _ _ _ _), hi0, (by first | exact hk6 | (dsimp only; rw [hnx]; exact hk6))⟩, Ql b2 (by omega) _ _ _ _ _ _ _ _ _, fun A B hB _ hh => ⟨hh.form, Out.new (fun ad e => Nat.le_trans (by have := HB.out.size; omega) (hAd ad e)) _ _⟩⟩
end Go.Proofs.YtajijcfikihhjaaGreatDoor
