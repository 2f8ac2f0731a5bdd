import Derived.Test.YtcelciomhngajaaGreatDoorTJ

/- The laws of layer 25: few; TurnMatchesReference, walked. -/
namespace Go.Proofs.YtcelciomhngajaaGreatDoor
set_option linter.unusedSimpArgs false
set_option linter.unusedVariables false
open Go.RowKit Go.Sort

theorem few8_T {s : Sc} (h : few8 s = true) : ScFew s := by
  simp only [few8, Bool.and_eq_true, decide_eq_true_eq] at h
  exact ⟨by omega, by omega, by omega⟩
theorem le_sumT {l : List Nat} {n : Nat} (h : n ∈ l) : n ≤ l.sum := by
  induction l with
  | nil => cases h
  | cons x l ih =>
    rw [List.sum_cons]
    rcases List.mem_cons.1 h with rfl | h
    · omega
    · have := ih h; omega
theorem few14_T {ms : List Me} (h : few14 (ms.map Me.says) = true) : ms.length ≤ 1000 ∧ ∀ m ∈ ms, m.notes.length ≤ 1000 := by
  simp only [few14, Bool.and_eq_true, decide_eq_true_eq, List.length_map, List.map_map] at h
  refine ⟨by omega, fun m hm => ?_⟩
  have : m.notes.length ≤ (ms.map ((fun m : MeP => m.notes.length) ∘ Me.says)).sum := le_sumT (List.mem_map.2 ⟨m, hm, rfl⟩)
  omega
def fewT (s : Sc) (l : List Te) (ms : List MeP) : Bool := few8 s && decide (l.length ≤ 60) && few14 ms && decide (ms.length ≤ 60)
set_option maxHeartbeats 4000000 in
set_option maxRecDepth 100000 in
theorem few25_any (s : Sc) (q : Sp) (part : Int) (a : Option Addr) (cap : Nat) (ms : List Me) (ta : Option Addr) (tcap : Nat) (l : List Te) (w : World) (hs : ScAt w s q) (hm : MeAt w a ms) (hl : ms.length ≤ 140737488355328) (hn : ∀ m ∈ ms, m.notes.length ≤ 140737488355328) :
    Calls Tryz.prog 10 #[.agg #[.int .i64 s.version, .slice q.ab s.bars.length q.cb, .slice q.ap s.parts.length q.cp, .slice q.an s.notes.length q.cn], .slice ta l.length tcap, .agg #[.int .i64 part, .slice a ms.length cap]] w fun e w' => e = .returned (.bool (fewT s l (ms.map Me.says))) ∧ Below w.heap.size w w' := by
  have HR := Lib.hid (show fewT s l (ms.map Me.says) = (few8 s && decide (l.length ≤ 60) && few14 (ms.map Me.says) && decide (ms.length ≤ 60)) from by unfold fewT; rw [List.length_map])
  have HFw := Lib.hid (fun W => RFew8_any s q W)
  have HFv := Lib.hid (fun W (hb : Below w.heap.size w W) => RFew14_any part a cap ms W hl hn (hm.below hb))
  generalize fewT s l (ms.map Me.says) = R at *
  generalize few8 s = F8 at *
  generalize few14 (ms.map Me.says) = F14 at *
  obtain ⟨x1, x2, hb⟩ := box2 (w := w) (A := .cells #[.int .i64 s.version, .slice q.ab s.bars.length q.cb, .slice q.ap s.parts.length q.cp, .slice q.an s.notes.length q.cn] 26) (B := .cells #[.int .i64 part, .slice a ms.length cap] 30 (0, 0)) (Below.refl _ _)
  have HX1 := Lib.hid x1; have HX2 := Lib.hid x2; have HB := Lib.hid hb
  clear x1 x2 hb hs hm hl hn
  obtain ⟨ab, cb, ap, cp, an, cn⟩ := q
  try dsimp only at *
  generalize ms.length = n1 at *; generalize l.length = n2 at *
  have hm1 : decide ((n1 : Int) ≤ 60) = decide (n1 ≤ 60) := by rw [decide_eq_decide]; omega
  have hm2 : decide ((n2 : Int) ≤ 60) = decide (n2 ≤ 60) := by rw [decide_eq_decide]; omega
  rw [← hm1, ← hm2] at HR
  clear hm1 hm2
  go_enter Tryz.func10, Tryz.ntmps10
  go_upto_region 1 with (fail)
  generalize (w.alloc (.cells #[.int .i64 s.version, .slice (⟨ab, cb, ap, cp, an, cn⟩ : Sp).ab s.bars.length (⟨ab, cb, ap, cp, an, cn⟩ : Sp).cb, .slice (⟨ab, cb, ap, cp, an, cn⟩ : Sp).ap s.parts.length (⟨ab, cb, ap, cp, an, cn⟩ : Sp).cp, .slice (⟨ab, cb, ap, cp, an, cn⟩ : Sp).an s.notes.length (⟨ab, cb, ap, cp, an, cn⟩ : Sp).cn] 26)).alloc (.cells #[.int .i64 part, .slice a n1 cap] 30 (0, 0)) = W at *
  have hc1 := box_cells HX1.out; have hc2 := box_cells HX2.out
  try dsimp only at hc1
  cases F8 <;> cases F14
  all_goals
    go_wp2_with (first | (go_at_call 32; refine (HFw.out _).mono ?_; rintro e w2 ⟨rfl, hb⟩; replace HX1 := Lib.hid (blk_keep HX1.out hb); replace HX2 := Lib.hid (blk_keep HX2.out hb); replace HB := Lib.hid (HB.out.trans (hb.mono HB.out.size)); clear hb hc1 hc2; have hc1 := box_cells HX1.out; have hc2 := box_cells HX2.out) | (go_at_call 33; refine (HFv.out _ HB.out).mono ?_; rintro e w2 ⟨rfl, hb⟩; replace HX1 := Lib.hid (blk_keep HX1.out hb); replace HX2 := Lib.hid (blk_keep HX2.out hb); replace HB := Lib.hid (HB.out.trans (hb.mono HB.out.size)); clear hb hc1 hc2; have hc1 := box_cells HX1.out; have hc2 := box_cells HX2.out))
  all_goals (go_ret; refine ⟨ret_bool ?_, HB.out⟩; rw [HR.out, Bool.eq_iff_iff]; first | (simp only [Bool.and_eq_true, decide_eq_true_eq, Bool.false_eq_true, false_iff, iff_false, Bool.and_true, Bool.and_false, Bool.true_and, Bool.false_and, true_and, and_true, and_false, false_and, not_false_eq_true, true_iff, iff_true]; done) | (simp only [Bool.and_eq_true, decide_eq_true_eq, Bool.false_eq_true, false_iff, iff_false, Bool.and_true, Bool.and_false, Bool.true_and, Bool.false_and, true_and, and_true, and_false, false_and, not_false_eq_true, true_iff, iff_true]; omega))
theorem goodF_len (s : Sc) (part : Int) (ms : List MeP) (l : List Te) (need : Rt) : (goodF s part ms l need).1.length ≤ ms.length := by
  unfold goodF
  split
  · cases h : goodR s.bars l ms need with
    | none => simp
    | some r => simp [good_len h]
  · simp
set_option maxRecDepth 100000 in
set_option maxHeartbeats 8000000 in
theorem TurnMatches_any (s : Sc) (q : Sp) (part : Int) (a : Option Addr) (cap : Nat) (ms : List Me) (ta : Option Addr) (tcap : Nat) (l : List Te) (at_ : Int) (need : Rt) (w : World) (hs : ScAt w s q) (hE : Env w) (hm : MeAt w a ms) (ht : TeAt w ta l) (hl : ms.length ≤ 140737488355328) (hn : ∀ m ∈ ms, m.notes.length ≤ 140737488355328) :
    Calls Tryz.prog 3 #[.agg #[.int .i64 s.version, .slice q.ab s.bars.length q.cb, .slice q.ap s.parts.length q.cp, .slice q.an s.notes.length q.cn], .slice ta l.length tcap, .agg #[.int .i64 part, .slice a ms.length cap], .int .i64 at_, .agg #[.int .i64 (need).n, .int .i64 (need).d]] w fun e w' => e = .returned (.bool true) ∧ Below w.heap.size w w' := by
  obtain ⟨x1, x2, x3, hb⟩ := box3 (w := w) (A := .cells #[.int .i64 s.version, .slice q.ab s.bars.length q.cb, .slice q.ap s.parts.length q.cp, .slice q.an s.notes.length q.cn] 26) (B := .cells #[.int .i64 part, .slice a ms.length cap] 30 (0, 0)) (C := .cells #[.int .i64 (need).n, .int .i64 (need).d] 32 (0, 0)) (Below.refl _ _)
  have HX1 := Lib.hid x1; have HX2 := Lib.hid x2; have HX3 := Lib.hid x3; have HB := Lib.hid hb
  have HHd := Lib.hid (fun W (hb : Below w.heap.size w W) => head25_any W (hE.below hb))
  have HFe := Lib.hid (fun W (hb : Below w.heap.size w W) => few25_any s q part a cap ms ta tcap l W (hs.below hb) (hm.below hb) hl hn)
  clear x1 x2 x3 hb
  cases hf : fewT s l (ms.map Me.says)
  · rw [hf] at HFe
    clear hs hE hm ht hn hf
    obtain ⟨ab, cb, ap, cp, an, cn⟩ := q
    try dsimp only at *
    go_enter Tryz.func3, Tryz.ntmps3
    go_upto_region 1 with (fail)
    generalize ((w.alloc (.cells #[.int .i64 s.version, .slice (⟨ab, cb, ap, cp, an, cn⟩ : Sp).ab s.bars.length (⟨ab, cb, ap, cp, an, cn⟩ : Sp).cb, .slice (⟨ab, cb, ap, cp, an, cn⟩ : Sp).ap s.parts.length (⟨ab, cb, ap, cp, an, cn⟩ : Sp).cp, .slice (⟨ab, cb, ap, cp, an, cn⟩ : Sp).an s.notes.length (⟨ab, cb, ap, cp, an, cn⟩ : Sp).cn] 26)).alloc (.cells #[.int .i64 part, .slice a ms.length cap] 30 (0, 0))).alloc (.cells #[.int .i64 (need).n, .int .i64 (need).d] 32 (0, 0)) = W at *
    have hc1 := box_cells HX1.out; have hc2 := box_cells HX2.out; have hc3 := box_cells HX3.out; (try have hc4 := box_cells HX4.out); (try have hc5 := box_cells HX5.out)
    go_wp2_with (first | (go_at_call 9; refine (HHd.out _ HB.out).mono ?_; rintro e w2 ⟨rfl, hb⟩; (try clear hc1); (try clear hc2); (try clear hc3); (try clear hc4); (try clear hc5); (try replace HX1 := Lib.hid (blk_keep HX1.out hb)); (try replace HX2 := Lib.hid (blk_keep HX2.out hb)); (try replace HX3 := Lib.hid (blk_keep HX3.out hb)); (try replace HX4 := Lib.hid (blk_keep HX4.out hb)); (try replace HX5 := Lib.hid (blk_keep HX5.out hb)); (try replace HGd := Lib.hid (SlAt.below HGd.out hb)); replace HB := Lib.hid (HB.out.trans (hb.mono HB.out.size)); clear hb; have hc1 := box_cells HX1.out; have hc2 := box_cells HX2.out; have hc3 := box_cells HX3.out; (try have hc4 := box_cells HX4.out); (try have hc5 := box_cells HX5.out)) | (go_at_call 10; refine (HFe.out _ HB.out).mono ?_; rintro e w2 ⟨rfl, hb⟩; (try clear hc1); (try clear hc2); (try clear hc3); (try clear hc4); (try clear hc5); (try replace HX1 := Lib.hid (blk_keep HX1.out hb)); (try replace HX2 := Lib.hid (blk_keep HX2.out hb)); (try replace HX3 := Lib.hid (blk_keep HX3.out hb)); (try replace HX4 := Lib.hid (blk_keep HX4.out hb)); (try replace HX5 := Lib.hid (blk_keep HX5.out hb)); (try replace HGd := Lib.hid (SlAt.below HGd.out hb)); replace HB := Lib.hid (HB.out.trans (hb.mono HB.out.size)); clear hb; have hc1 := box_cells HX1.out; have hc2 := box_cells HX2.out; have hc3 := box_cells HX3.out; (try have hc4 := box_cells HX4.out); (try have hc5 := box_cells HX5.out)))
    go_ret
    exact ⟨rfl, HB.out⟩
  rw [hf] at HFe
  have hW : TurnW w s q ta l a ms := by
    unfold fewT at hf
    simp only [Bool.and_eq_true, decide_eq_true_eq] at hf
    obtain ⟨⟨⟨h1, h2⟩, h3⟩, h4⟩ := hf
    exact ⟨few8_T h1, hs, hE, (few14_T h3).1, (few14_T h3).2, hm, ht, by omega⟩
  have HPF := Lib.hid (fun W (hb : Below w.heap.size w W) => PFree25_any s q part a cap ms ta tcap l at_ W (hW.below hb))
  have HRF := Lib.hid (fun W (hb : Below w.heap.size w W) => RFree25_any s q part a cap ms ta tcap l at_ W (hW.below hb))
  have HPG := Lib.hid (fun W (hb : Below w.heap.size w W) => PGood25_any s q part a cap ms ta tcap l need W (hW.below hb))
  have HRG := Lib.hid (fun W (hb : Below w.heap.size w W) => RGood25_any s q part a cap ms ta tcap l need W (hW.below hb))
  have HGl := Lib.hid (show (goodF s part (ms.map Me.says) l need).1.length ≤ 100000 from by have h1 := goodF_len s part (ms.map Me.says) l need; have h2 := hW.ml; rw [List.length_map] at h1; omega)
  clear hW hf hs hE hm ht hn
  generalize freeF s part (ms.map Me.says) l at_ = FF at *
  generalize goodF s part (ms.map Me.says) l need = GG at *
  obtain ⟨⟨⟨n1, d1⟩, ⟨n2, d2⟩⟩, fe⟩ := FF
  obtain ⟨G1, G2⟩ := GG
  dsimp only at *
  have HSm := Lib.hid (fun V x y c c' (h1 : BoAt V x G1) (h2 : BoAt V y G1) => show Calls Tryz.prog 15 #[.slice x G1.length c, .slice y G1.length c'] V (fun e w' => e = .returned (.bool true) ∧ Below V.heap.size V w') from by have := RSame25_any x y c c' G1 G1 V h1 h2 HGl.out HGl.out; simpa using this)
  have heq := fun W => show (binOp .eql 36 (.agg #[.int .i64 n1, .int .i64 d1, .int .i64 n2, .int .i64 d2]) (.agg #[.int .i64 n1, .int .i64 d1, .int .i64 n2, .int .i64 d2])).run Tryz.prog W = .ok (.bool true) W from by rw [eql_free]; simp
  obtain ⟨ab, cb, ap, cp, an, cn⟩ := q
  try dsimp only at *
  go_enter Tryz.func3, Tryz.ntmps3
  go_upto_region 1 with (fail)
  generalize ((w.alloc (.cells #[.int .i64 s.version, .slice (⟨ab, cb, ap, cp, an, cn⟩ : Sp).ab s.bars.length (⟨ab, cb, ap, cp, an, cn⟩ : Sp).cb, .slice (⟨ab, cb, ap, cp, an, cn⟩ : Sp).ap s.parts.length (⟨ab, cb, ap, cp, an, cn⟩ : Sp).cp, .slice (⟨ab, cb, ap, cp, an, cn⟩ : Sp).an s.notes.length (⟨ab, cb, ap, cp, an, cn⟩ : Sp).cn] 26)).alloc (.cells #[.int .i64 part, .slice a ms.length cap] 30 (0, 0))).alloc (.cells #[.int .i64 (need).n, .int .i64 (need).d] 32 (0, 0)) = W at *
  have hc1 := box_cells HX1.out; have hc2 := box_cells HX2.out; have hc3 := box_cells HX3.out; (try have hc4 := box_cells HX4.out); (try have hc5 := box_cells HX5.out)
  go_upto_region 5 with (first | (go_at_call 9; refine (HHd.out _ HB.out).mono ?_; rintro e w2 ⟨rfl, hb⟩; (try clear hc1); (try clear hc2); (try clear hc3); (try clear hc4); (try clear hc5); (try replace HX1 := Lib.hid (blk_keep HX1.out hb)); (try replace HX2 := Lib.hid (blk_keep HX2.out hb)); (try replace HX3 := Lib.hid (blk_keep HX3.out hb)); (try replace HX4 := Lib.hid (blk_keep HX4.out hb)); (try replace HX5 := Lib.hid (blk_keep HX5.out hb)); (try replace HGd := Lib.hid (SlAt.below HGd.out hb)); replace HB := Lib.hid (HB.out.trans (hb.mono HB.out.size)); clear hb; have hc1 := box_cells HX1.out; have hc2 := box_cells HX2.out; have hc3 := box_cells HX3.out; (try have hc4 := box_cells HX4.out); (try have hc5 := box_cells HX5.out)) | (go_at_call 10; refine (HFe.out _ HB.out).mono ?_; rintro e w2 ⟨rfl, hb⟩; (try clear hc1); (try clear hc2); (try clear hc3); (try clear hc4); (try clear hc5); (try replace HX1 := Lib.hid (blk_keep HX1.out hb)); (try replace HX2 := Lib.hid (blk_keep HX2.out hb)); (try replace HX3 := Lib.hid (blk_keep HX3.out hb)); (try replace HX4 := Lib.hid (blk_keep HX4.out hb)); (try replace HX5 := Lib.hid (blk_keep HX5.out hb)); (try replace HGd := Lib.hid (SlAt.below HGd.out hb)); replace HB := Lib.hid (HB.out.trans (hb.mono HB.out.size)); clear hb; have hc1 := box_cells HX1.out; have hc2 := box_cells HX2.out; have hc3 := box_cells HX3.out; (try have hc4 := box_cells HX4.out); (try have hc5 := box_cells HX5.out)) | (go_at_call 11; refine (HPF.out _ HB.out).mono ?_; rintro e w3 ⟨rfl, hb⟩; (try clear hc1); (try clear hc2); (try clear hc3); (try clear hc4); (try clear hc5); (try replace HX1 := Lib.hid (blk_keep HX1.out hb)); (try replace HX2 := Lib.hid (blk_keep HX2.out hb)); (try replace HX3 := Lib.hid (blk_keep HX3.out hb)); (try replace HX4 := Lib.hid (blk_keep HX4.out hb)); (try replace HX5 := Lib.hid (blk_keep HX5.out hb)); (try replace HGd := Lib.hid (SlAt.below HGd.out hb)); replace HB := Lib.hid (HB.out.trans (hb.mono HB.out.size)); clear hb; have hc1 := box_cells HX1.out; have hc2 := box_cells HX2.out; have hc3 := box_cells HX3.out; (try have hc4 := box_cells HX4.out); (try have hc5 := box_cells HX5.out)))
  have x4 := heap_alloc_new w3 (.cells #[.int .i64 n1, .int .i64 d1, .int .i64 n2, .int .i64 d2] 36 (0, 0))
  have hb := (Below.refl w3.heap.size w3).alloc (Nat.le_refl _) (.cells #[.int .i64 n1, .int .i64 d1, .int .i64 n2, .int .i64 d2] 36 (0, 0))
  (try clear hc1); (try clear hc2); (try clear hc3); (try clear hc4); (try clear hc5)
  (try replace HX1 := Lib.hid (blk_keep HX1.out hb)); (try replace HX2 := Lib.hid (blk_keep HX2.out hb)); (try replace HX3 := Lib.hid (blk_keep HX3.out hb)); (try replace HX4 := Lib.hid (blk_keep HX4.out hb)); (try replace HX5 := Lib.hid (blk_keep HX5.out hb)); (try replace HGd := Lib.hid (SlAt.below HGd.out hb)); replace HB := Lib.hid (HB.out.trans (hb.mono HB.out.size)); clear hb
  have HX4 := Lib.hid x4
  clear x4
  generalize w3.alloc (.cells #[.int .i64 n1, .int .i64 d1, .int .i64 n2, .int .i64 d2] 36 (0, 0)) = W3 at *
  generalize w3.heap.size = z3 at *
  have hc1 := box_cells HX1.out; have hc2 := box_cells HX2.out; have hc3 := box_cells HX3.out; (try have hc4 := box_cells HX4.out); (try have hc5 := box_cells HX5.out)
  go_upto_region 6 with (first | (go_at_call 12; refine (HRF.out _ HB.out).mono ?_; rintro e w4 ⟨rfl, hb⟩; (try clear hc1); (try clear hc2); (try clear hc3); (try clear hc4); (try clear hc5); (try replace HX1 := Lib.hid (blk_keep HX1.out hb)); (try replace HX2 := Lib.hid (blk_keep HX2.out hb)); (try replace HX3 := Lib.hid (blk_keep HX3.out hb)); (try replace HX4 := Lib.hid (blk_keep HX4.out hb)); (try replace HX5 := Lib.hid (blk_keep HX5.out hb)); (try replace HGd := Lib.hid (SlAt.below HGd.out hb)); replace HB := Lib.hid (HB.out.trans (hb.mono HB.out.size)); clear hb; have hc1 := box_cells HX1.out; have hc2 := box_cells HX2.out; have hc3 := box_cells HX3.out; (try have hc4 := box_cells HX4.out); (try have hc5 := box_cells HX5.out)))
  have x4 := heap_alloc_new w4 (.cells #[.int .i64 n1, .int .i64 d1, .int .i64 n2, .int .i64 d2] 36 (0, 0))
  have hb := (Below.refl w4.heap.size w4).alloc (Nat.le_refl _) (.cells #[.int .i64 n1, .int .i64 d1, .int .i64 n2, .int .i64 d2] 36 (0, 0))
  (try clear hc1); (try clear hc2); (try clear hc3); (try clear hc4); (try clear hc5)
  (try replace HX1 := Lib.hid (blk_keep HX1.out hb)); (try replace HX2 := Lib.hid (blk_keep HX2.out hb)); (try replace HX3 := Lib.hid (blk_keep HX3.out hb)); (try replace HX4 := Lib.hid (blk_keep HX4.out hb)); (try replace HX5 := Lib.hid (blk_keep HX5.out hb)); (try replace HGd := Lib.hid (SlAt.below HGd.out hb)); replace HB := Lib.hid (HB.out.trans (hb.mono HB.out.size)); clear hb
  have HX5 := Lib.hid x4
  clear x4
  generalize w4.alloc (.cells #[.int .i64 n1, .int .i64 d1, .int .i64 n2, .int .i64 d2] 36 (0, 0)) = W4 at *
  generalize w4.heap.size = z4 at *
  have hc1 := box_cells HX1.out; have hc2 := box_cells HX2.out; have hc3 := box_cells HX3.out; (try have hc4 := box_cells HX4.out); (try have hc5 := box_cells HX5.out)
  go_upto_region 8 with (go_at_call 13; refine (HPG.out _ HB.out).mono ?_; rintro e w5 ⟨ga, gc, rfl, hok, hsl, hb⟩; rw [List.length_map]; have HGd := Lib.hid hsl; clear hok hsl; (try clear hc1); (try clear hc2); (try clear hc3); (try clear hc4); (try clear hc5); replace HX1 := Lib.hid (blk_keep HX1.out hb); replace HX2 := Lib.hid (blk_keep HX2.out hb); replace HX3 := Lib.hid (blk_keep HX3.out hb); clear HX4 HX5; replace HB := Lib.hid (HB.out.trans (hb.mono HB.out.size)); clear hb; have hc1 := box_cells HX1.out; have hc2 := box_cells HX2.out; have hc3 := box_cells HX3.out; (try have hc4 := box_cells HX4.out); (try have hc5 := box_cells HX5.out))
  clear heq
  go_upto_region 9 with (go_at_call 14; refine (HRG.out _ HB.out).mono ?_; rintro e w6 ⟨ra, rc, rfl, hok, hsl, hb⟩; rw [List.length_map]; replace HGd := Lib.hid (SlAt.below HGd.out hb); have HRd := Lib.hid hsl; clear hok hsl; (try clear hc1); (try clear hc2); (try clear hc3); (try clear hc4); (try clear hc5); replace HX1 := Lib.hid (blk_keep HX1.out hb); replace HX2 := Lib.hid (blk_keep HX2.out hb); replace HX3 := Lib.hid (blk_keep HX3.out hb); replace HB := Lib.hid (HB.out.trans (hb.mono HB.out.size)); clear hb; have hc1 := box_cells HX1.out; have hc2 := box_cells HX2.out; have hc3 := box_cells HX3.out; (try have hc4 := box_cells HX4.out); (try have hc5 := box_cells HX5.out))
  go_wp2_with (go_at_call 15; refine (HSm.out _ _ _ _ _ HGd.out HRd.out).mono ?_; rintro e w7 ⟨rfl, hb⟩; (try clear hc1); (try clear hc2); (try clear hc3); (try clear hc4); (try clear hc5); replace HB := Lib.hid (HB.out.trans (hb.mono HB.out.size)); clear hb)
  go_ret
  exact ⟨rfl, HB.out⟩
end Go.Proofs.YtcelciomhngajaaGreatDoor

