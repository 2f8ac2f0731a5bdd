import Derived.Test.YtppjbnnnppffaaaGreatDoorSO
import Derived.Test.YtppjbnnnppffaaaGreatDoorSN
import Derived.Test.YtppjbnnnppffaaaGreatDoorSQ

/- The law ViewMatchesReference: walked. -/
namespace Go.Proofs.YtppjbnnnppffaaaGreatDoor
set_option linter.unusedSimpArgs false
set_option linter.unusedVariables false
open Go.RowKit Go.Sort Go.Shelf

theorem le_sum {l : List Nat} {n : Nat} (h : n ∈ l) : n ≤ l.sum := by
  induction l with
  | nil => cases h
  | cons x l ih =>
    rw [List.sum_cons]
    rcases List.mem_cons.1 h with rfl | h
    · omega
    · have := ih h; omega
theorem few14_few {ms : List Me} (h : few14 (ms.map Me.says) = true) : ms.length ≤ 1000 ∧ ∀ m ∈ ms, m.notes.length ≤ 1000 := by
  simp only [few14, Bool.and_eq_true, decide_eq_true_eq, List.length_map, List.map_map] at h
  refine ⟨by omega, fun m hm => ?_⟩
  have : m.notes.length ≤ (ms.map ((fun m : MeP => m.notes.length) ∘ Me.says)).sum := le_sum (List.mem_map.2 ⟨m, hm, rfl⟩)
  omega
theorem get_few {s : Sc} (h : ScFew s) {part : Int} {ms : List Me} (e : ms.map Me.says = (getR s part).2.1) : ms.length ≤ 100000 ∧ ∀ m ∈ ms, m.notes.length ≤ 100000 := by
  have hnil : ms.map Me.says = [] → ms.length ≤ 100000 ∧ ∀ m ∈ ms, m.notes.length ≤ 100000 := fun e => by
    rw [List.map_eq_nil_iff] at e; subst e; exact ⟨by simp, fun m hm => by cases hm⟩
  unfold getR at e
  split at e
  · split at e
    · have := says_few h e
      exact ⟨by omega, fun m hm => by have := this.2 m hm; omega⟩
    · exact hnil e
  · exact hnil e
theorem sounds_few {s : Sc} {part : Int} {l : List MeP} : (soundsR s part l).1.length ≤ 20000 := by
  unfold soundsR
  split
  · rename_i hv
    obtain ⟨h1, h2, p, hp, h3, h4⟩ := validV_some hv
    rw [hp]
    show (match soundsL p s.bars l with | some r => (r, (0 : Int)) | none => ([], 3)).1.length ≤ 20000
    cases hr : soundsL p s.bars l with
    | none => simp
    | some r =>
      unfold soundsL at hr
      split at hr
      · cases hr
        have := sndK_len p s.bars l (List.zipWith (fun b m => m.notes.map (soundN p b)) s.bars l).length
        unfold sndK at this
        rw [List.take_length] at this
        have h5 := allW_take_len l (List.zipWith (fun b m => m.notes.map (soundN p b)) s.bars l).length
        show (List.zipWith (fun b m => m.notes.map (soundN p b)) s.bars l).flatten.length ≤ 20000
        omega
      · cases hr
  · simp
set_option maxRecDepth 100000 in
set_option maxHeartbeats 8000000 in
theorem ViewMatches_any (s : Sc) (q : Sp) (part pv : Int) (a : Option Addr) (cap : Nat) (ms : List Me) (w : World) (hs : ScAt w s q) (hE : Env w) (hm : MeAt w a ms) (hl : ms.length ≤ 140737488355328) (hn : ∀ m ∈ ms, m.notes.length ≤ 140737488355328) :
    Calls Tryz.prog 5 #[.agg #[.int .i64 s.version, .slice q.ab s.bars.length q.cb, .slice q.ap s.parts.length q.cp, .slice q.an s.notes.length q.cn], .int .i64 part, .agg #[.int .i64 pv, .slice a ms.length cap]] w fun e w' => e = .returned (.bool true) ∧ Below w.heap.size w w' := by
  have HS := Lib.hid hs; have HE := Lib.hid hE; have HM := Lib.hid hm
  obtain ⟨ab, cb, ap, cp, an, cn⟩ := q
  obtain ⟨x1, x2, hb⟩ := box2 (w := w) (A := .cells #[.int .i64 s.version, .slice (⟨ab, cb, ap, cp, an, cn⟩ : Sp).ab s.bars.length (⟨ab, cb, ap, cp, an, cn⟩ : Sp).cb, .slice (⟨ab, cb, ap, cp, an, cn⟩ : Sp).ap s.parts.length (⟨ab, cb, ap, cp, an, cn⟩ : Sp).cp, .slice (⟨ab, cb, ap, cp, an, cn⟩ : Sp).an s.notes.length (⟨ab, cb, ap, cp, an, cn⟩ : Sp).cn] 26) (B := .cells #[.int .i64 pv, .slice a ms.length cap] 44) (Below.refl _ _)
  have HX1 := Lib.hid x1; have HX2 := Lib.hid x2; have HB := Lib.hid hb; clear x1 x2 hb
  have HFw := Lib.hid (fun W => RFew8_any s (⟨ab, cb, ap, cp, an, cn⟩ : Sp) W)
  have HFv := Lib.hid (fun W (hb : Below w.heap.size w W) => RFew14_any pv a cap ms W hl hn (HM.out.below hb))
  clear hs hE hm hn
  dsimp only at *
  cases hfw : few8 s
  · rw [hfw] at HFw
    clear hfw
    go_enter Tryz.func5, Tryz.ntmps5
    go_upto_region 1 with (fail)
    generalize (w.alloc (.cells #[.int .i64 s.version, .slice (⟨ab, cb, ap, cp, an, cn⟩ : Sp).ab s.bars.length (⟨ab, cb, ap, cp, an, cn⟩ : Sp).cb, .slice (⟨ab, cb, ap, cp, an, cn⟩ : Sp).ap s.parts.length (⟨ab, cb, ap, cp, an, cn⟩ : Sp).cp, .slice (⟨ab, cb, ap, cp, an, cn⟩ : Sp).an s.notes.length (⟨ab, cb, ap, cp, an, cn⟩ : Sp).cn] 26)).alloc (.cells #[.int .i64 pv, .slice a ms.length cap] 44) = W at *
    have hc1 := box_cells HX1.out; have hc2 := box_cells HX2.out
    go_wp2_with (first | (go_at_call 21; refine (head14_any _ (HE.out.below HB.out)).mono ?_; rintro e w2 ⟨rfl, hb⟩; (try replace hb := drewB hb); replace HB := Lib.hid (HB.out.trans (hb.mono HB.out.size)); (try (replace HX1 := Lib.hid (blk_keep HX1.out hb); replace hc1 := box_cells HX1.out; replace hf1 := box_free HX1.out; replace hz1 := lt_blk HX1.out)); (try (replace HX2 := Lib.hid (blk_keep HX2.out hb); replace hc2 := box_cells HX2.out; replace hf2 := box_free HX2.out; replace hz2 := lt_blk HX2.out)); (try (replace HX3 := Lib.hid (blk_keep HX3.out hb); replace hc3 := box_cells HX3.out; replace hf3 := box_free HX3.out; replace hz3 := lt_blk HX3.out)); (try (replace HX4 := Lib.hid (blk_keep HX4.out hb); replace hc4 := box_cells HX4.out; replace hf4 := box_free HX4.out; replace hz4 := lt_blk HX4.out)); (try (replace HX10 := Lib.hid (blk_keep HX10.out hb); replace hc10 := box_cells HX10.out; replace hf10 := box_free HX10.out; replace hz10 := lt_blk HX10.out)); clear hb) | (go_at_call 22; refine (HFw.out _).mono ?_; rintro e w2 ⟨rfl, hb⟩; (try replace hb := drewB hb); replace HB := Lib.hid (HB.out.trans (hb.mono HB.out.size)); (try (replace HX1 := Lib.hid (blk_keep HX1.out hb); replace hc1 := box_cells HX1.out; replace hf1 := box_free HX1.out; replace hz1 := lt_blk HX1.out)); (try (replace HX2 := Lib.hid (blk_keep HX2.out hb); replace hc2 := box_cells HX2.out; replace hf2 := box_free HX2.out; replace hz2 := lt_blk HX2.out)); (try (replace HX3 := Lib.hid (blk_keep HX3.out hb); replace hc3 := box_cells HX3.out; replace hf3 := box_free HX3.out; replace hz3 := lt_blk HX3.out)); (try (replace HX4 := Lib.hid (blk_keep HX4.out hb); replace hc4 := box_cells HX4.out; replace hf4 := box_free HX4.out; replace hz4 := lt_blk HX4.out)); (try (replace HX10 := Lib.hid (blk_keep HX10.out hb); replace hc10 := box_cells HX10.out; replace hf10 := box_free HX10.out; replace hz10 := lt_blk HX10.out)); clear hb))
    go_ret
    exact ⟨rfl, HB.out⟩
  have hf := few8_few hfw
  rw [hfw] at HFw
  cases hfv : few14 (ms.map Me.says)
  · rw [hfv] at HFv
    clear hfw hfv hf
    go_enter Tryz.func5, Tryz.ntmps5
    go_upto_region 1 with (fail)
    generalize (w.alloc (.cells #[.int .i64 s.version, .slice (⟨ab, cb, ap, cp, an, cn⟩ : Sp).ab s.bars.length (⟨ab, cb, ap, cp, an, cn⟩ : Sp).cb, .slice (⟨ab, cb, ap, cp, an, cn⟩ : Sp).ap s.parts.length (⟨ab, cb, ap, cp, an, cn⟩ : Sp).cp, .slice (⟨ab, cb, ap, cp, an, cn⟩ : Sp).an s.notes.length (⟨ab, cb, ap, cp, an, cn⟩ : Sp).cn] 26)).alloc (.cells #[.int .i64 pv, .slice a ms.length cap] 44) = W at *
    have hc1 := box_cells HX1.out; have hc2 := box_cells HX2.out
    go_wp2_with (first | (go_at_call 21; refine (head14_any _ (HE.out.below HB.out)).mono ?_; rintro e w2 ⟨rfl, hb⟩; (try replace hb := drewB hb); replace HB := Lib.hid (HB.out.trans (hb.mono HB.out.size)); (try (replace HX1 := Lib.hid (blk_keep HX1.out hb); replace hc1 := box_cells HX1.out; replace hf1 := box_free HX1.out; replace hz1 := lt_blk HX1.out)); (try (replace HX2 := Lib.hid (blk_keep HX2.out hb); replace hc2 := box_cells HX2.out; replace hf2 := box_free HX2.out; replace hz2 := lt_blk HX2.out)); (try (replace HX3 := Lib.hid (blk_keep HX3.out hb); replace hc3 := box_cells HX3.out; replace hf3 := box_free HX3.out; replace hz3 := lt_blk HX3.out)); (try (replace HX4 := Lib.hid (blk_keep HX4.out hb); replace hc4 := box_cells HX4.out; replace hf4 := box_free HX4.out; replace hz4 := lt_blk HX4.out)); (try (replace HX10 := Lib.hid (blk_keep HX10.out hb); replace hc10 := box_cells HX10.out; replace hf10 := box_free HX10.out; replace hz10 := lt_blk HX10.out)); clear hb) | (go_at_call 22; refine (HFw.out _).mono ?_; rintro e w2 ⟨rfl, hb⟩; (try replace hb := drewB hb); replace HB := Lib.hid (HB.out.trans (hb.mono HB.out.size)); (try (replace HX1 := Lib.hid (blk_keep HX1.out hb); replace hc1 := box_cells HX1.out; replace hf1 := box_free HX1.out; replace hz1 := lt_blk HX1.out)); (try (replace HX2 := Lib.hid (blk_keep HX2.out hb); replace hc2 := box_cells HX2.out; replace hf2 := box_free HX2.out; replace hz2 := lt_blk HX2.out)); (try (replace HX3 := Lib.hid (blk_keep HX3.out hb); replace hc3 := box_cells HX3.out; replace hf3 := box_free HX3.out; replace hz3 := lt_blk HX3.out)); (try (replace HX4 := Lib.hid (blk_keep HX4.out hb); replace hc4 := box_cells HX4.out; replace hf4 := box_free HX4.out; replace hz4 := lt_blk HX4.out)); (try (replace HX10 := Lib.hid (blk_keep HX10.out hb); replace hc10 := box_cells HX10.out; replace hf10 := box_free HX10.out; replace hz10 := lt_blk HX10.out)); clear hb) | (go_at_call 23; refine (HFv.out _ HB.out).mono ?_; rintro e w2 ⟨rfl, hb⟩; (try replace hb := drewB hb); replace HB := Lib.hid (HB.out.trans (hb.mono HB.out.size)); (try (replace HX1 := Lib.hid (blk_keep HX1.out hb); replace hc1 := box_cells HX1.out; replace hf1 := box_free HX1.out; replace hz1 := lt_blk HX1.out)); (try (replace HX2 := Lib.hid (blk_keep HX2.out hb); replace hc2 := box_cells HX2.out; replace hf2 := box_free HX2.out; replace hz2 := lt_blk HX2.out)); (try (replace HX3 := Lib.hid (blk_keep HX3.out hb); replace hc3 := box_cells HX3.out; replace hf3 := box_free HX3.out; replace hz3 := lt_blk HX3.out)); (try (replace HX4 := Lib.hid (blk_keep HX4.out hb); replace hc4 := box_cells HX4.out; replace hf4 := box_free HX4.out; replace hz4 := lt_blk HX4.out)); (try (replace HX10 := Lib.hid (blk_keep HX10.out hb); replace hc10 := box_cells HX10.out; replace hf10 := box_free HX10.out; replace hz10 := lt_blk HX10.out)); clear hb))
    go_ret
    exact ⟨rfl, HB.out⟩
  rw [hfv] at HFv
  obtain ⟨hl1, hn1⟩ := few14_few hfv
  have HG := Lib.hid (fun W (hb : Below w.heap.size w W) => VGet_any s (⟨ab, cb, ap, cp, an, cn⟩ : Sp) part W hf (HS.out.below hb) (HE.out.below hb))
  have HRG := Lib.hid (fun W (hb : Below w.heap.size w W) => RGet_any s (⟨ab, cb, ap, cp, an, cn⟩ : Sp) part W hf (HS.out.below hb))
  have HVl := Lib.hid (fun W (hb : Below w.heap.size w W) => VValid_any s (⟨ab, cb, ap, cp, an, cn⟩ : Sp) pv a cap ms W hf (HS.out.below hb) (HE.out.below hb) hl1 hn1 (HM.out.below hb))
  have HRV := Lib.hid (fun W (hb : Below w.heap.size w W) => RValid14_any s (⟨ab, cb, ap, cp, an, cn⟩ : Sp) pv a cap ms W hf (HS.out.below hb) hl1 hn1 (HM.out.below hb))
  have HSo := Lib.hid (fun W (hb : Below w.heap.size w W) => VSounds_any s (⟨ab, cb, ap, cp, an, cn⟩ : Sp) pv a cap ms W hf (HS.out.below hb) (HE.out.below hb) hl1 hn1 (HM.out.below hb))
  have HRS := Lib.hid (fun W (hb : Below w.heap.size w W) => RSounds_any s (⟨ab, cb, ap, cp, an, cn⟩ : Sp) pv a cap ms W hf (HS.out.below hb) hl1 hn1 (HM.out.below hb))
  have HGf := Lib.hid (fun (l : List Me) e => get_few hf (part := part) (ms := l) e)
  have HNf := Lib.hid (sounds_few (s := s) (part := pv) (l := ms.map Me.says))
  clear hfw hfv hf hl1 hn1
  generalize getR s part = G at *
  obtain ⟨G1, G2, G3⟩ := G
  generalize soundsR s pv (ms.map Me.says) = N at *
  obtain ⟨N1, N2⟩ := N
  generalize validV s pv (ms.map Me.says) = V at *
  dsimp only at *
  have HSm := Lib.hid (fun x y c d W (h1 : NoAt W x N1) (h2 : NoAt W y N1) => show Calls Tryz.prog 31 #[.slice x N1.length c, .slice y N1.length d] W (fun e w' => e = .returned (.bool true) ∧ Below W.heap.size W w') from by have := RSameN_any x y c d N1 N1 W (by have := HNf.out; omega) (by have := HNf.out; omega) h1 h2; simpa using this)
  go_enter Tryz.func5, Tryz.ntmps5
  go_upto_region 1 with (fail)
  generalize (w.alloc (.cells #[.int .i64 s.version, .slice (⟨ab, cb, ap, cp, an, cn⟩ : Sp).ab s.bars.length (⟨ab, cb, ap, cp, an, cn⟩ : Sp).cb, .slice (⟨ab, cb, ap, cp, an, cn⟩ : Sp).ap s.parts.length (⟨ab, cb, ap, cp, an, cn⟩ : Sp).cp, .slice (⟨ab, cb, ap, cp, an, cn⟩ : Sp).an s.notes.length (⟨ab, cb, ap, cp, an, cn⟩ : Sp).cn] 26)).alloc (.cells #[.int .i64 pv, .slice a ms.length cap] 44) = W at *
  have hc1 := box_cells HX1.out; have hc2 := box_cells HX2.out
  go_upto_region 5 with (first | (go_at_call 21; refine (head14_any _ (HE.out.below HB.out)).mono ?_; rintro e w2 ⟨rfl, hb⟩; (try replace hb := drewB hb); replace HB := Lib.hid (HB.out.trans (hb.mono HB.out.size)); (try (replace HX1 := Lib.hid (blk_keep HX1.out hb); replace hc1 := box_cells HX1.out; replace hf1 := box_free HX1.out; replace hz1 := lt_blk HX1.out)); (try (replace HX2 := Lib.hid (blk_keep HX2.out hb); replace hc2 := box_cells HX2.out; replace hf2 := box_free HX2.out; replace hz2 := lt_blk HX2.out)); (try (replace HX3 := Lib.hid (blk_keep HX3.out hb); replace hc3 := box_cells HX3.out; replace hf3 := box_free HX3.out; replace hz3 := lt_blk HX3.out)); (try (replace HX4 := Lib.hid (blk_keep HX4.out hb); replace hc4 := box_cells HX4.out; replace hf4 := box_free HX4.out; replace hz4 := lt_blk HX4.out)); (try (replace HX10 := Lib.hid (blk_keep HX10.out hb); replace hc10 := box_cells HX10.out; replace hf10 := box_free HX10.out; replace hz10 := lt_blk HX10.out)); clear hb) | (go_at_call 22; refine (HFw.out _).mono ?_; rintro e w2 ⟨rfl, hb⟩; (try replace hb := drewB hb); replace HB := Lib.hid (HB.out.trans (hb.mono HB.out.size)); (try (replace HX1 := Lib.hid (blk_keep HX1.out hb); replace hc1 := box_cells HX1.out; replace hf1 := box_free HX1.out; replace hz1 := lt_blk HX1.out)); (try (replace HX2 := Lib.hid (blk_keep HX2.out hb); replace hc2 := box_cells HX2.out; replace hf2 := box_free HX2.out; replace hz2 := lt_blk HX2.out)); (try (replace HX3 := Lib.hid (blk_keep HX3.out hb); replace hc3 := box_cells HX3.out; replace hf3 := box_free HX3.out; replace hz3 := lt_blk HX3.out)); (try (replace HX4 := Lib.hid (blk_keep HX4.out hb); replace hc4 := box_cells HX4.out; replace hf4 := box_free HX4.out; replace hz4 := lt_blk HX4.out)); (try (replace HX10 := Lib.hid (blk_keep HX10.out hb); replace hc10 := box_cells HX10.out; replace hf10 := box_free HX10.out; replace hz10 := lt_blk HX10.out)); clear hb) | (go_at_call 23; refine (HFv.out _ HB.out).mono ?_; rintro e w2 ⟨rfl, hb⟩; (try replace hb := drewB hb); replace HB := Lib.hid (HB.out.trans (hb.mono HB.out.size)); (try (replace HX1 := Lib.hid (blk_keep HX1.out hb); replace hc1 := box_cells HX1.out; replace hf1 := box_free HX1.out; replace hz1 := lt_blk HX1.out)); (try (replace HX2 := Lib.hid (blk_keep HX2.out hb); replace hc2 := box_cells HX2.out; replace hf2 := box_free HX2.out; replace hz2 := lt_blk HX2.out)); (try (replace HX3 := Lib.hid (blk_keep HX3.out hb); replace hc3 := box_cells HX3.out; replace hf3 := box_free HX3.out; replace hz3 := lt_blk HX3.out)); (try (replace HX4 := Lib.hid (blk_keep HX4.out hb); replace hc4 := box_cells HX4.out; replace hf4 := box_free HX4.out; replace hz4 := lt_blk HX4.out)); (try (replace HX10 := Lib.hid (blk_keep HX10.out hb); replace hc10 := box_cells HX10.out; replace hf10 := box_free HX10.out; replace hz10 := lt_blk HX10.out)); clear hb) | (go_at_call 24; refine (HG.out _ HB.out).mono ?_; rintro e w3 ⟨a3, c3, ms3, rfl, hok3, hme3, hsy3, hb⟩; (try replace hb := drewB hb); replace HB := Lib.hid (HB.out.trans (hb.mono HB.out.size)); (try (replace HX1 := Lib.hid (blk_keep HX1.out hb); replace hc1 := box_cells HX1.out; replace hf1 := box_free HX1.out; replace hz1 := lt_blk HX1.out)); (try (replace HX2 := Lib.hid (blk_keep HX2.out hb); replace hc2 := box_cells HX2.out; replace hf2 := box_free HX2.out; replace hz2 := lt_blk HX2.out)); (try (replace HX3 := Lib.hid (blk_keep HX3.out hb); replace hc3 := box_cells HX3.out; replace hf3 := box_free HX3.out; replace hz3 := lt_blk HX3.out)); (try (replace HX4 := Lib.hid (blk_keep HX4.out hb); replace hc4 := box_cells HX4.out; replace hf4 := box_free HX4.out; replace hz4 := lt_blk HX4.out)); (try (replace HX10 := Lib.hid (blk_keep HX10.out hb); replace hc10 := box_cells HX10.out; replace hf10 := box_free HX10.out; replace hz10 := lt_blk HX10.out)); clear hb))
  have HX3 := Lib.hid (heap_alloc_new w3 (.cells #[.int .i64 G1, .slice a3 ms3.length c3] 44))
  have hb := (Below.refl w3.heap.size w3).alloc (Nat.le_refl _) (.cells #[.int .i64 G1, .slice a3 ms3.length c3] 44)
  have HM3 := Lib.hid (hme3.below hb); have HY3 := Lib.hid hsy3
  clear hme3 hsy3 hok3
  (try replace hb := drewB hb); replace HB := Lib.hid (HB.out.trans (hb.mono HB.out.size)); (try (replace HX1 := Lib.hid (blk_keep HX1.out hb); replace hc1 := box_cells HX1.out; replace hf1 := box_free HX1.out; replace hz1 := lt_blk HX1.out)); (try (replace HX2 := Lib.hid (blk_keep HX2.out hb); replace hc2 := box_cells HX2.out; replace hf2 := box_free HX2.out; replace hz2 := lt_blk HX2.out)); (try (replace HX3 := Lib.hid (blk_keep HX3.out hb); replace hc3 := box_cells HX3.out; replace hf3 := box_free HX3.out; replace hz3 := lt_blk HX3.out)); (try (replace HX4 := Lib.hid (blk_keep HX4.out hb); replace hc4 := box_cells HX4.out; replace hf4 := box_free HX4.out; replace hz4 := lt_blk HX4.out)); (try (replace HX10 := Lib.hid (blk_keep HX10.out hb); replace hc10 := box_cells HX10.out; replace hf10 := box_free HX10.out; replace hz10 := lt_blk HX10.out)); clear hb
  generalize w3.alloc (.cells #[.int .i64 G1, .slice a3 ms3.length c3] 44) = W3 at *
  have hc3 := box_cells HX3.out; have hf3 := box_free HX3.out; have hz3 := lt_blk HX3.out
  go_upto_region 6 with (go_at_call 25; refine (HRG.out _ HB.out).mono ?_; rintro e w4 ⟨a4, c4, ms4, rfl, hok4, hme4, hsy4, hb⟩; replace HM3 := Lib.hid (HM3.out.below hb); (try replace hb := drewB hb); replace HB := Lib.hid (HB.out.trans (hb.mono HB.out.size)); (try (replace HX1 := Lib.hid (blk_keep HX1.out hb); replace hc1 := box_cells HX1.out; replace hf1 := box_free HX1.out; replace hz1 := lt_blk HX1.out)); (try (replace HX2 := Lib.hid (blk_keep HX2.out hb); replace hc2 := box_cells HX2.out; replace hf2 := box_free HX2.out; replace hz2 := lt_blk HX2.out)); (try (replace HX3 := Lib.hid (blk_keep HX3.out hb); replace hc3 := box_cells HX3.out; replace hf3 := box_free HX3.out; replace hz3 := lt_blk HX3.out)); (try (replace HX4 := Lib.hid (blk_keep HX4.out hb); replace hc4 := box_cells HX4.out; replace hf4 := box_free HX4.out; replace hz4 := lt_blk HX4.out)); (try (replace HX10 := Lib.hid (blk_keep HX10.out hb); replace hc10 := box_cells HX10.out; replace hf10 := box_free HX10.out; replace hz10 := lt_blk HX10.out)); clear hb)
  have HX4 := Lib.hid (heap_alloc_new w4 (.cells #[.int .i64 G1, .slice a4 ms4.length c4] 44))
  have hb := (Below.refl w4.heap.size w4).alloc (Nat.le_refl _) (.cells #[.int .i64 G1, .slice a4 ms4.length c4] 44)
  have HM4 := Lib.hid (hme4.below hb); have HY4 := Lib.hid hsy4
  replace HM3 := Lib.hid (HM3.out.below hb)
  clear hme4 hsy4 hok4
  (try replace hb := drewB hb); replace HB := Lib.hid (HB.out.trans (hb.mono HB.out.size)); (try (replace HX1 := Lib.hid (blk_keep HX1.out hb); replace hc1 := box_cells HX1.out; replace hf1 := box_free HX1.out; replace hz1 := lt_blk HX1.out)); (try (replace HX2 := Lib.hid (blk_keep HX2.out hb); replace hc2 := box_cells HX2.out; replace hf2 := box_free HX2.out; replace hz2 := lt_blk HX2.out)); (try (replace HX3 := Lib.hid (blk_keep HX3.out hb); replace hc3 := box_cells HX3.out; replace hf3 := box_free HX3.out; replace hz3 := lt_blk HX3.out)); (try (replace HX4 := Lib.hid (blk_keep HX4.out hb); replace hc4 := box_cells HX4.out; replace hf4 := box_free HX4.out; replace hz4 := lt_blk HX4.out)); (try (replace HX10 := Lib.hid (blk_keep HX10.out hb); replace hc10 := box_cells HX10.out; replace hf10 := box_free HX10.out; replace hz10 := lt_blk HX10.out)); clear hb
  generalize w4.alloc (.cells #[.int .i64 G1, .slice a4 ms4.length c4] 44) = W4 at *
  have hc4 := box_cells HX4.out
  have HSv := Lib.hid (fun W (hb : Below W4.heap.size W4 W) => show Calls Tryz.prog 26 #[.agg #[.int .i64 G1, .slice a3 ms3.length c3], .agg #[.int .i64 G1, .slice a4 ms4.length c4]] W (fun e w' => e = .returned (.bool true) ∧ Below W.heap.size W w') from by
    have := RSameV_any G1 G1 a3 a4 c3 c4 ms3 ms4 W (HGf.out _ HY3.out).1 (HGf.out _ HY4.out).1 (HGf.out _ HY3.out).2 (HGf.out _ HY4.out).2 (HM3.out.below hb) (HM4.out.below hb)
    rw [HY3.out, HY4.out] at this
    simpa using this)
  have HB4 := Lib.hid HB.out
  have k0 := cell_regrown (hc1 0); have k1 := cell_regrown (hc1 1); have k2 := cell_regrown (hc1 2); have k3 := cell_regrown (hc1 3)
  have v0 := cell_regrown (hc2 0); have v1 := cell_regrown (hc2 1)
  have x0 := cell_regrown (hc3 0); have x1 := cell_regrown (hc3 1)
  have y0 := cell_regrown (hc4 0); have y1 := cell_regrown (hc4 1)
  refine wp_quietB (by kernel_rfl) (by kernel_rfl) ?_
  (repeat (go_big_quiet_step (first | (go_at_call 26; refine Calls.regrown_of (HSv.out _ (below_regrown _ _ _))) | (go_at_call 27; refine Calls.regrown_of (HVl.out _ (HB4.out.trans ((below_regrown _ _ _).mono HB4.out.size)))) | (go_at_call 28; refine Calls.regrown_of (HRV.out _ (HB4.out.trans ((below_regrown _ _ _).mono HB4.out.size)))))))
  refine wpQuiet_nil ?_
  intro w5 hb
  clear k0 k1 k2 k3 v0 v1 x0 x1 y0 y1
  (try replace hb := drewB hb); replace HB := Lib.hid (HB.out.trans (hb.mono HB.out.size)); (try (replace HX1 := Lib.hid (blk_keep HX1.out hb); replace hc1 := box_cells HX1.out; replace hf1 := box_free HX1.out; replace hz1 := lt_blk HX1.out)); (try (replace HX2 := Lib.hid (blk_keep HX2.out hb); replace hc2 := box_cells HX2.out; replace hf2 := box_free HX2.out; replace hz2 := lt_blk HX2.out)); (try (replace HX3 := Lib.hid (blk_keep HX3.out hb); replace hc3 := box_cells HX3.out; replace hf3 := box_free HX3.out; replace hz3 := lt_blk HX3.out)); (try (replace HX4 := Lib.hid (blk_keep HX4.out hb); replace hc4 := box_cells HX4.out; replace hf4 := box_free HX4.out; replace hz4 := lt_blk HX4.out)); (try (replace HX10 := Lib.hid (blk_keep HX10.out hb); replace hc10 := box_cells HX10.out; replace hf10 := box_free HX10.out; replace hz10 := lt_blk HX10.out)); clear hb
  go_upto_region 8 with (go_at_call 29; refine (HSo.out _ HB.out).mono ?_; rintro e w6 ⟨al, capl, rfl, hokl, hnl, hb⟩; have HNl := Lib.hid hnl; clear hnl hokl; (try replace hb := drewB hb); replace HB := Lib.hid (HB.out.trans (hb.mono HB.out.size)); (try (replace HX1 := Lib.hid (blk_keep HX1.out hb); replace hc1 := box_cells HX1.out; replace hf1 := box_free HX1.out; replace hz1 := lt_blk HX1.out)); (try (replace HX2 := Lib.hid (blk_keep HX2.out hb); replace hc2 := box_cells HX2.out; replace hf2 := box_free HX2.out; replace hz2 := lt_blk HX2.out)); (try (replace HX3 := Lib.hid (blk_keep HX3.out hb); replace hc3 := box_cells HX3.out; replace hf3 := box_free HX3.out; replace hz3 := lt_blk HX3.out)); (try (replace HX4 := Lib.hid (blk_keep HX4.out hb); replace hc4 := box_cells HX4.out; replace hf4 := box_free HX4.out; replace hz4 := lt_blk HX4.out)); (try (replace HX10 := Lib.hid (blk_keep HX10.out hb); replace hc10 := box_cells HX10.out; replace hf10 := box_free HX10.out; replace hz10 := lt_blk HX10.out)); clear hb)
  go_wp2_with (first | (go_at_call 30; refine (HRS.out _ HB.out).mono ?_; rintro e w7 ⟨am, capm, rfl, hokm, hnm, hb⟩; have HNm := Lib.hid hnm; clear hnm hokm; replace HNl := Lib.hid (NoAt.below HNl.out hb); (try replace hb := drewB hb); replace HB := Lib.hid (HB.out.trans (hb.mono HB.out.size)); (try (replace HX1 := Lib.hid (blk_keep HX1.out hb); replace hc1 := box_cells HX1.out; replace hf1 := box_free HX1.out; replace hz1 := lt_blk HX1.out)); (try (replace HX2 := Lib.hid (blk_keep HX2.out hb); replace hc2 := box_cells HX2.out; replace hf2 := box_free HX2.out; replace hz2 := lt_blk HX2.out)); (try (replace HX3 := Lib.hid (blk_keep HX3.out hb); replace hc3 := box_cells HX3.out; replace hf3 := box_free HX3.out; replace hz3 := lt_blk HX3.out)); (try (replace HX4 := Lib.hid (blk_keep HX4.out hb); replace hc4 := box_cells HX4.out; replace hf4 := box_free HX4.out; replace hz4 := lt_blk HX4.out)); (try (replace HX10 := Lib.hid (blk_keep HX10.out hb); replace hc10 := box_cells HX10.out; replace hf10 := box_free HX10.out; replace hz10 := lt_blk HX10.out)); clear hb) | (go_at_call 31; refine (HSm.out _ _ _ _ _ HNl.out HNm.out).mono ?_; rintro e w8 ⟨rfl, hb⟩; (try replace hb := drewB hb); replace HB := Lib.hid (HB.out.trans (hb.mono HB.out.size)); (try (replace HX1 := Lib.hid (blk_keep HX1.out hb); replace hc1 := box_cells HX1.out; replace hf1 := box_free HX1.out; replace hz1 := lt_blk HX1.out)); (try (replace HX2 := Lib.hid (blk_keep HX2.out hb); replace hc2 := box_cells HX2.out; replace hf2 := box_free HX2.out; replace hz2 := lt_blk HX2.out)); (try (replace HX3 := Lib.hid (blk_keep HX3.out hb); replace hc3 := box_cells HX3.out; replace hf3 := box_free HX3.out; replace hz3 := lt_blk HX3.out)); (try (replace HX4 := Lib.hid (blk_keep HX4.out hb); replace hc4 := box_cells HX4.out; replace hf4 := box_free HX4.out; replace hz4 := lt_blk HX4.out)); (try (replace HX10 := Lib.hid (blk_keep HX10.out hb); replace hc10 := box_cells HX10.out; replace hf10 := box_free HX10.out; replace hz10 := lt_blk HX10.out)); clear hb))
  go_ret
  exact ⟨rfl, HB.out⟩
end Go.Proofs.YtppjbnnnppffaaaGreatDoor
