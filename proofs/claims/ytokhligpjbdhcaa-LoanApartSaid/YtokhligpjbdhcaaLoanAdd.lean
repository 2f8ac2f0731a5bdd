/- The contract of loan's shelf.add. -/
import Derived.Test.YtokhligpjbdhcaaLoanProg
namespace Go.Proofs.Ytokhligpjbdhcaa
set_option linter.unusedSimpArgs false
set_option linter.unusedVariables false
open Go.RowKit Go.Sort

/-- Of what lay in w nothing has turned but the blocks a and b. -/
structure But2 (a b : Nat) (w w' : World) : Prop where
  os : w'.os = w.os
  tape : w'.tape = w.tape
  output : w'.output = w.output
  size : w.heap.size ≤ w'.heap.size
  block : ∀ k, k < w.heap.size → k ≠ a → k ≠ b → w'.heap[k]? = w.heap[k]?
theorem But2.refl (a b : Nat) (w : World) : But2 a b w w := ⟨rfl, rfl, rfl, Nat.le_refl _, fun _ _ _ _ => rfl⟩
theorem But2.trans {a b : Nat} {w w1 w2 : World} (h : But2 a b w w1) (k : But2 a b w1 w2) : But2 a b w w2 :=
  ⟨k.os.trans h.os, k.tape.trans h.tape, k.output.trans h.output, Nat.le_trans h.size k.size, fun i hi ha hb => (k.block i (Nat.lt_of_lt_of_le hi h.size) ha hb).trans (h.block i hi ha hb)⟩
theorem But2.of_below {a b : Nat} {w w' : World} (h : Below w.heap.size w w') : But2 a b w w' := ⟨h.os, h.tape, h.output, h.size, fun k hk _ _ => h.block k hk⟩
theorem But2.of_grown1 {a b : Nat} {w w' : World} (h : w.grownBy w' (some a)) : But2 a b w w' := ⟨h.os, h.tape, h.output, h.size, fun k hk ha _ => h.block k hk (fun e => ha (by cases e; rfl))⟩
theorem But2.of_grown2 {a b : Nat} {w w' : World} (h : w.grownBy w' (some b)) : But2 a b w w' := ⟨h.os, h.tape, h.output, h.size, fun k hk _ hb => h.block k hk (fun e => hb (by cases e; rfl))⟩

/-- A shelf: who holds what, and where sheets were moved. -/
structure Sh where
  hm : List (Int × Value)
  gm : List (Int × Value)
def shOut (s : Sh) (x : Lo) : Bool := (mget s.hm x.s).isSome
/-- Can x happen? -/
def shCan (s : Sh) (x : Lo) : Bool := shOut s x == (x.k == 2)
/-- The shelf behind x. -/
def shAdd (s : Sh) (x : Lo) : Sh :=
  if x.k = 1 then { s with hm := mput s.hm x.s (.int .i64 x.st) } else if x.k = 2 then { s with hm := mdel s.hm x.s } else if x.k = 3 then { s with gm := mput s.gm x.s (.int .i64 x.h) } else s
/-- The shelf lies in the maps a and b. -/
def ShAt (w : World) (a b : Nat) (s : Sh) : Prop := MapAt w encI a s.hm ∧ MapAt w encI b s.gm ∧ a ≠ b
theorem ShAt.below {w w' : World} {a b : Nat} {s : Sh} (h : ShAt w a b s) (hb : Below w.heap.size w w') : ShAt w' a b s := ⟨h.1.below hb, h.2.1.below hb, h.2.2⟩
theorem kind_field (f : Value) (b : Bool) (w : World) : (Instr.field 66 (.agg #[f, .bool b]) 1).run Try.prog w = .ok (.bool b) w := by kernel_rfl
theorem zeroInt (w : World) : (zeroValue 3).run Try.prog w = .ok (.int .i64 0) w := by kernel_rfl
theorem kindV_b (k : Int) : ∃ f, kindV k = .agg #[f, .bool (k == 2)] := by
  rcases kindsM_get k with ⟨e, rfl⟩ | ⟨e, rfl⟩ | ⟨e, rfl⟩ | ⟨e, h1, h2, h3⟩
  · exact ⟨_, by unfold kindV; rw [e]; rfl⟩
  · exact ⟨_, by unfold kindV; rw [e]; rfl⟩
  · exact ⟨_, by unfold kindV; rw [e]; rfl⟩
  · have e2 : (k == 2) = false := by simpa using h2
    exact ⟨_, by unfold kindV; rw [e, e2]; rfl⟩
/-- What add does. -/
def AddPost (a b : Nat) (z : Sh) (x : Lo) (w : World) (e : Ending) (w' : World) : Prop :=
  e = .returned (.bool (shCan z x)) ∧ ShAt w' a b (if shCan z x then shAdd z x else z) ∧ But2 a b w w'
theorem add_no {a b : Nat} {z : Sh} {x : Lo} {w w' : World} (hc : shCan z x = false) (hz : ShAt w' a b z) (hb : But2 a b w w') : AddPost a b z x w (.returned (.bool false)) w' := ⟨by rw [hc], by rw [hc]; exact hz, hb⟩
theorem add_yes {a b : Nat} {z : Sh} {x : Lo} {w w' : World} (hc : shCan z x = true) (hz : ShAt w' a b (shAdd z x)) (hb : But2 a b w w') : AddPost a b z x w (.returned (.bool true)) w' := ⟨by rw [hc], by rw [hc]; exact hz, hb⟩
set_option maxRecDepth 100000 in
set_option maxHeartbeats 1000000 in
theorem add_any (a b : Nat) (z : Sh) (t k s st q : Int) (w : World) (hz : ShAt w a b z) :
    Calls Try.prog 29 #[.agg #[.map (some a), .map (some b)], .agg #[.int .i64 t, .int .i64 k, .int .i64 s, .int .i64 st, .int .i64 q]] w (AddPost a b z ⟨t, k, s, st, q⟩ w) := by
  obtain ⟨w0, hw0⟩ : ∃ w0, w0 = (w.alloc (.cells #[.map (some a), .map (some b)] 50)).alloc (.cells #[.int .i64 t, .int .i64 k, .int .i64 s, .int .i64 st, .int .i64 q] 24) := ⟨_, rfl⟩
  have hB0 : Below w.heap.size w w0 := by rw [hw0]; exact ((Below.refl _ _).alloc (Nat.le_refl _) _).alloc (by simp) _
  have hX0 : w0.heap[w.heap.size]? = some (.cells #[.map (some a), .map (some b)] 50) := by rw [hw0]; exact blk_keep (heap_alloc_new w _) ((Below.refl _ _).alloc (Nat.le_refl _) _)
  have hY0 : w0.heap[w.heap.size + 1]? = some (.cells #[.int .i64 t, .int .i64 k, .int .i64 s, .int .i64 st, .int .i64 q] 24) := by rw [hw0]; have := heap_alloc_new (w.alloc (.cells #[.map (some a), .map (some b)] 50)) (.cells #[.int .i64 t, .int .i64 k, .int .i64 s, .int .i64 st, .int .i64 q] 24); simpa using this
  have HZ := Lib.hid (hz.below hB0); clear hz
  have HBB := Lib.hid hB0; clear hB0
  obtain ⟨f, hf⟩ := kindV_b k
  have HF := Lib.hid hf; clear hf
  have HX0 := Lib.hid hX0; clear hX0
  have HY0 := Lib.hid hY0; clear hY0
  subst hw0
  go_enter Try.func29, Try.ntmps29
  go_wp2_with (at_lookup; refine wpList_lookup_at rfl (.tmp 9) (.tmp 11) _ true rfl Try.underlying48 keyI zeroInt a z.hm rfl HZ.out.1 s rfl ?_; simp only [if_true])
  generalize hgw : (w.alloc _).alloc _ = w0 at *
  clear hgw
  have hfld := kind_field f (k == 2)
  have hc := box_cells HX0.out
  have hd := box_cells HY0.out
  go_region_held3 (fun w' => w'.cell? ⟨w.heap.size + 1, 1, none⟩ = some (.int .i64 k)) (first | (simp [hd]; done) | (simp [hd2]; done)) (first | (go_at_call 43; refine (kinds_any _).mono ?_; rintro e w2 ⟨r, rfl, hm, hb, hr⟩; have HX2 := Lib.hid (blk_keep2 HX0.out (Below.refl _ _).drew hb); have HY2 := Lib.hid (blk_keep2 HY0.out (Below.refl _ _).drew hb); have hc2 := box_cells HX2.out; have hd2 := box_cells HY2.out; have hk1 := kind_look1 hm k; rw [HF.out] at hk1; have HB2 := Lib.hid (HBB.out.trans ((Below.trans (show Below w0.heap.size w0 _ from (Below.refl _ _).drew) (hb.mono (by simp))).mono HBB.out.size)); have HZ2 := Lib.hid ((HZ.out.below (Below.refl _ _).drew).below hb); clear hb hr hm))
  go_wp2_with (first | (at_mapUpdate; refine wpList_mapUpdate_at rfl (.tmp 27) (.tmp 29) (.tmp 31) _ (.inl rfl) Try.underlying48 keyI a z.hm rfl HZ2.out.1 s rfl (.int .i64 st) rfl ?_; intro w3 hm3 hg3; have HM3 := Lib.hid hm3; have HG3 := Lib.hid hg3; clear hm3 hg3) | (at_mapUpdate; refine wpList_mapUpdate_at rfl (.tmp 41) (.tmp 43) (.tmp 45) _ (.inl rfl) Try.underlying48 keyI b z.gm rfl HZ2.out.2.1 s rfl (.int .i64 q) rfl ?_; intro w4 hm4 hg4; have HM4 := Lib.hid hm4; have HG4 := Lib.hid hg4; clear hm4 hg4) | (at_delete; refine wpList_delete_at rfl (.tmp 35) (.tmp 37) _ rfl Try.underlying48 keyI a z.hm rfl HZ2.out.1 s rfl ?_; intro w5 hm5 hg5; have HM5 := Lib.hid hm5; have HG5 := Lib.hid hg5; clear hm5 hg5))
  · go_ret
    have ht : (!((mget z.hm s).isSome == (k == 2))) = true := by assumption
    exact add_no (not_t ht) HZ2.out (But2.of_below HB2.out)
  all_goals
    go_ret
    have ht : (!((mget z.hm s).isSome == (k == 2))) = false := by assumption
    refine add_yes (not_f ht) ?_ ?_
  · have h1 : (k == 1) = true := by assumption
    unfold shAdd; rw [if_pos (by simpa using h1)]
    exact ⟨HM3.out, HZ2.out.2.1.kept HG3.out (fun e => HZ2.out.2.2 (by cases e; rfl)), HZ2.out.2.2⟩
  · exact (But2.of_below HB2.out).trans (But2.of_grown1 HG3.out)
  · have h1 : (k == 1) = false := by assumption
    have h2 : (k == 2) = true := by assumption
    unfold shAdd; rw [if_neg (by simpa using h1), if_pos (by simpa using h2)]
    exact ⟨HM5.out, HZ2.out.2.1.kept HG5.out (fun e => HZ2.out.2.2 (by cases e; rfl)), HZ2.out.2.2⟩
  · exact (But2.of_below HB2.out).trans (But2.of_grown1 HG5.out)
  · have h1 : (k == 1) = false := by assumption
    have h2 : (k == 2) = false := by assumption
    have h3 : (k == 3) = true := by assumption
    unfold shAdd; rw [if_neg (by simpa using h1), if_neg (by simpa using h2), if_pos (by simpa using h3)]
    exact ⟨HZ2.out.1.kept HG4.out (fun e => HZ2.out.2.2 (by cases e; rfl)), HM4.out, HZ2.out.2.2⟩
  · exact (But2.of_below HB2.out).trans (But2.of_grown2 HG4.out)
  · have h1 : (k == 1) = false := by assumption
    have h2 : (k == 2) = false := by assumption
    have h3 : (k == 3) = false := by assumption
    unfold shAdd; rw [if_neg (by simpa using h1), if_neg (by simpa using h2), if_neg (by simpa using h3)]
    exact HZ2.out
  · exact But2.of_below HB2.out

end Go.Proofs.Ytokhligpjbdhcaa
