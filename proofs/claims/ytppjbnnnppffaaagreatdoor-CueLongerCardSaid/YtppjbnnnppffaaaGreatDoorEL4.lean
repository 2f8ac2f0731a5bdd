import Derived.Test.YtppjbnnnppffaaaGreatDoorUO

/- The law CueLonger: walked. -/
namespace Go.Proofs.YtppjbnnnppffaaaGreatDoor
set_option linter.unusedSimpArgs false
set_option linter.unusedVariables false
open Go.RowKit Go.Sort Go.Shelf

theorem cuesR_at {s : Sc} {part : Int} {p : Pa} (hv : validS s = true) (hp : partAt s.parts part = some p) {a : Nat} (h1 : 1 ≤ a) (h2 : a ≤ 4000) : cuesR s part (a : Int) = (cuesL s p a, 0) := by
  unfold cuesR
  rw [if_pos (by rw [hv, Bool.true_and, inB_iff]; omega), hp]
  simp
theorem shows_at {s : Sc} {part : Int} {p : Pa} (hv : validS s = true) (hp : partAt s.parts part = some p) (c : CuP) : showsR s part c = ((cuesL s p 1).any fun x => decide (x = c), 0) := by
  unfold showsR
  have := cuesR_at hv hp (a := 1) (by omega) (by omega)
  rw [show ((1 : Nat) : Int) = 1 from rfl] at this
  rw [this]
  simp
theorem any_says {cs : List Cu} {l : List CuP} (e : cs.map Cu.says = l) (c : CuP) : (cs.any fun y => decide (y.says = c)) = l.any fun x => decide (x = c) := by
  rw [← e, List.any_map]; rfl
theorem any_mem {l : List CuP} {c : CuP} (h : c ∈ l) : (l.any fun x => decide (x = c)) = true := List.any_eq_true.2 ⟨c, h, by simp⟩
set_option maxRecDepth 100000 in
set_option maxHeartbeats 8000000 in
theorem CueLonger_any (s : Sc) (q : Sp) (part after : Int) (more : Nat) (o : Cu) (w : World) (hs : ScAt w s q) (hE : Env w) (hm : more ≤ 255) (hw : WrAt w o.na o.notes) :
    Calls Tryz.prog 4 #[.agg #[.int .i64 s.version, .slice q.ab s.bars.length q.cb, .slice q.ap s.parts.length q.cp, .slice q.an s.notes.length q.cn], .int .i64 part, .int .i64 after, .int .u8 (more : Int), .agg #[.int .i64 o.measure, .int .i64 o.part, .slice o.na o.notes.length o.ncap]] w fun e w' => e = .returned (.bool true) ∧ Below w.heap.size w w' := by
  have HS := Lib.hid hs; have HE := Lib.hid hE; have HW := Lib.hid hw
  obtain ⟨ab, cb, ap, cp, an, cn⟩ := q
  obtain ⟨x1, x2, hb⟩ := box2 (w := w) (A := .cells #[.int .i64 s.version, .slice (⟨ab, cb, ap, cp, an, cn⟩ : Sp).ab s.bars.length (⟨ab, cb, ap, cp, an, cn⟩ : Sp).cb, .slice (⟨ab, cb, ap, cp, an, cn⟩ : Sp).ap s.parts.length (⟨ab, cb, ap, cp, an, cn⟩ : Sp).cp, .slice (⟨ab, cb, ap, cp, an, cn⟩ : Sp).an s.notes.length (⟨ab, cb, ap, cp, an, cn⟩ : Sp).cn] 26) (B := .cells #[.int .i64 o.measure, .int .i64 o.part, .slice o.na o.notes.length o.ncap] 29) (Below.refl _ _)
  have HX1 := Lib.hid x1; have HX2 := Lib.hid x2; have HB := Lib.hid hb; clear x1 x2 hb
  have HFw := Lib.hid (fun W => RFew17_any s (⟨ab, cb, ap, cp, an, cn⟩ : Sp) W)
  clear hs hE hw
  dsimp only at *
  cases hfw : few17 s
  · rw [hfw] at HFw
    clear hfw
    go_enter Tryz.func4, Tryz.ntmps4; go_upto_region 1 with (fail); generalize (w.alloc (.cells #[.int .i64 s.version, .slice (⟨ab, cb, ap, cp, an, cn⟩ : Sp).ab s.bars.length (⟨ab, cb, ap, cp, an, cn⟩ : Sp).cb, .slice (⟨ab, cb, ap, cp, an, cn⟩ : Sp).ap s.parts.length (⟨ab, cb, ap, cp, an, cn⟩ : Sp).cp, .slice (⟨ab, cb, ap, cp, an, cn⟩ : Sp).an s.notes.length (⟨ab, cb, ap, cp, an, cn⟩ : Sp).cn] 26)).alloc (.cells #[.int .i64 o.measure, .int .i64 o.part, .slice o.na o.notes.length o.ncap] 29) = W at *; have hc1 := box_cells HX1.out; have hc2 := box_cells HX2.out
    go_wp2_with (first | (go_at_call 13; refine (head17_any _ (HE.out.below HB.out)).mono ?_; rintro e w2 ⟨rfl, hb⟩; (try replace hb := drewB hb); replace HB := Lib.hid (HB.out.trans (hb.mono HB.out.size)); (try (replace HX1 := Lib.hid (blk_keep HX1.out hb); replace hc1 := box_cells HX1.out; replace hf1 := box_free HX1.out; replace hz1 := lt_blk HX1.out)); (try (replace HX2 := Lib.hid (blk_keep HX2.out hb); replace hc2 := box_cells HX2.out; replace hf2 := box_free HX2.out; replace hz2 := lt_blk HX2.out)); (try (replace HX4 := Lib.hid (blk_keep HX4.out hb); replace hc4 := box_cells HX4.out; replace hf4 := box_free HX4.out; replace hz4 := lt_blk HX4.out)); (try (replace HX10 := Lib.hid (blk_keep HX10.out hb); replace hc10 := box_cells HX10.out; replace hf10 := box_free HX10.out; replace hz10 := lt_blk HX10.out)); clear hb) | (go_at_call 14; refine (HFw.out _).mono ?_; rintro e w2 ⟨rfl, hb⟩; (try replace hb := drewB hb); replace HB := Lib.hid (HB.out.trans (hb.mono HB.out.size)); (try (replace HX1 := Lib.hid (blk_keep HX1.out hb); replace hc1 := box_cells HX1.out; replace hf1 := box_free HX1.out; replace hz1 := lt_blk HX1.out)); (try (replace HX2 := Lib.hid (blk_keep HX2.out hb); replace hc2 := box_cells HX2.out; replace hf2 := box_free HX2.out; replace hz2 := lt_blk HX2.out)); (try (replace HX4 := Lib.hid (blk_keep HX4.out hb); replace hc4 := box_cells HX4.out; replace hf4 := box_free HX4.out; replace hz4 := lt_blk HX4.out)); (try (replace HX10 := Lib.hid (blk_keep HX10.out hb); replace hc10 := box_cells HX10.out; replace hf10 := box_free HX10.out; replace hz10 := lt_blk HX10.out)); clear hb))
    go_ret
    exact ⟨rfl, HB.out⟩
  rw [hfw] at HFw
  by_cases hcl : o.notes.length ≤ 80
  case neg =>
    have hc80 : (80 : Int) < (o.notes.length : Int) := by omega
    clear hfw hcl
    go_enter Tryz.func4, Tryz.ntmps4; go_upto_region 1 with (fail); generalize (w.alloc (.cells #[.int .i64 s.version, .slice (⟨ab, cb, ap, cp, an, cn⟩ : Sp).ab s.bars.length (⟨ab, cb, ap, cp, an, cn⟩ : Sp).cb, .slice (⟨ab, cb, ap, cp, an, cn⟩ : Sp).ap s.parts.length (⟨ab, cb, ap, cp, an, cn⟩ : Sp).cp, .slice (⟨ab, cb, ap, cp, an, cn⟩ : Sp).an s.notes.length (⟨ab, cb, ap, cp, an, cn⟩ : Sp).cn] 26)).alloc (.cells #[.int .i64 o.measure, .int .i64 o.part, .slice o.na o.notes.length o.ncap] 29) = W at *; have hc1 := box_cells HX1.out; have hc2 := box_cells HX2.out
    go_wp2_with (first | (go_at_call 13; refine (head17_any _ (HE.out.below HB.out)).mono ?_; rintro e w2 ⟨rfl, hb⟩; (try replace hb := drewB hb); replace HB := Lib.hid (HB.out.trans (hb.mono HB.out.size)); (try (replace HX1 := Lib.hid (blk_keep HX1.out hb); replace hc1 := box_cells HX1.out; replace hf1 := box_free HX1.out; replace hz1 := lt_blk HX1.out)); (try (replace HX2 := Lib.hid (blk_keep HX2.out hb); replace hc2 := box_cells HX2.out; replace hf2 := box_free HX2.out; replace hz2 := lt_blk HX2.out)); (try (replace HX4 := Lib.hid (blk_keep HX4.out hb); replace hc4 := box_cells HX4.out; replace hf4 := box_free HX4.out; replace hz4 := lt_blk HX4.out)); (try (replace HX10 := Lib.hid (blk_keep HX10.out hb); replace hc10 := box_cells HX10.out; replace hf10 := box_free HX10.out; replace hz10 := lt_blk HX10.out)); clear hb) | (go_at_call 14; refine (HFw.out _).mono ?_; rintro e w2 ⟨rfl, hb⟩; (try replace hb := drewB hb); replace HB := Lib.hid (HB.out.trans (hb.mono HB.out.size)); (try (replace HX1 := Lib.hid (blk_keep HX1.out hb); replace hc1 := box_cells HX1.out; replace hf1 := box_free HX1.out; replace hz1 := lt_blk HX1.out)); (try (replace HX2 := Lib.hid (blk_keep HX2.out hb); replace hc2 := box_cells HX2.out; replace hf2 := box_free HX2.out; replace hz2 := lt_blk HX2.out)); (try (replace HX4 := Lib.hid (blk_keep HX4.out hb); replace hc4 := box_cells HX4.out; replace hf4 := box_free HX4.out; replace hz4 := lt_blk HX4.out)); (try (replace HX10 := Lib.hid (blk_keep HX10.out hb); replace hc10 := box_cells HX10.out; replace hf10 := box_free HX10.out; replace hz10 := lt_blk HX10.out)); clear hb))
    go_ret
    exact ⟨rfl, HB.out⟩
  have hc80 : ¬ (80 : Int) < (o.notes.length : Int) := by omega
  have hf := (few17_few hfw).1
  have HC := Lib.hid (fun W (hb : Below w.heap.size w W) => CCues_any s (⟨ab, cb, ap, cp, an, cn⟩ : Sp) part after W hf (HS.out.below hb) (HE.out.below hb))
  clear hfw
  by_cases her : (cuesR s part after).2 = 0
  case neg =>
    have hd : ((cuesR s part after).2 != 0) = true := by simpa using her
    clear her hf hcl
    generalize cuesR s part after = G at *
    go_enter Tryz.func4, Tryz.ntmps4; go_upto_region 1 with (fail); generalize (w.alloc (.cells #[.int .i64 s.version, .slice (⟨ab, cb, ap, cp, an, cn⟩ : Sp).ab s.bars.length (⟨ab, cb, ap, cp, an, cn⟩ : Sp).cb, .slice (⟨ab, cb, ap, cp, an, cn⟩ : Sp).ap s.parts.length (⟨ab, cb, ap, cp, an, cn⟩ : Sp).cp, .slice (⟨ab, cb, ap, cp, an, cn⟩ : Sp).an s.notes.length (⟨ab, cb, ap, cp, an, cn⟩ : Sp).cn] 26)).alloc (.cells #[.int .i64 o.measure, .int .i64 o.part, .slice o.na o.notes.length o.ncap] 29) = W at *; have hc1 := box_cells HX1.out; have hc2 := box_cells HX2.out
    go_wp2_with (first | (go_at_call 13; refine (head17_any _ (HE.out.below HB.out)).mono ?_; rintro e w2 ⟨rfl, hb⟩; (try replace hb := drewB hb); replace HB := Lib.hid (HB.out.trans (hb.mono HB.out.size)); (try (replace HX1 := Lib.hid (blk_keep HX1.out hb); replace hc1 := box_cells HX1.out; replace hf1 := box_free HX1.out; replace hz1 := lt_blk HX1.out)); (try (replace HX2 := Lib.hid (blk_keep HX2.out hb); replace hc2 := box_cells HX2.out; replace hf2 := box_free HX2.out; replace hz2 := lt_blk HX2.out)); (try (replace HX4 := Lib.hid (blk_keep HX4.out hb); replace hc4 := box_cells HX4.out; replace hf4 := box_free HX4.out; replace hz4 := lt_blk HX4.out)); (try (replace HX10 := Lib.hid (blk_keep HX10.out hb); replace hc10 := box_cells HX10.out; replace hf10 := box_free HX10.out; replace hz10 := lt_blk HX10.out)); clear hb) | (go_at_call 14; refine (HFw.out _).mono ?_; rintro e w2 ⟨rfl, hb⟩; (try replace hb := drewB hb); replace HB := Lib.hid (HB.out.trans (hb.mono HB.out.size)); (try (replace HX1 := Lib.hid (blk_keep HX1.out hb); replace hc1 := box_cells HX1.out; replace hf1 := box_free HX1.out; replace hz1 := lt_blk HX1.out)); (try (replace HX2 := Lib.hid (blk_keep HX2.out hb); replace hc2 := box_cells HX2.out; replace hf2 := box_free HX2.out; replace hz2 := lt_blk HX2.out)); (try (replace HX4 := Lib.hid (blk_keep HX4.out hb); replace hc4 := box_cells HX4.out; replace hf4 := box_free HX4.out; replace hz4 := lt_blk HX4.out)); (try (replace HX10 := Lib.hid (blk_keep HX10.out hb); replace hc10 := box_cells HX10.out; replace hf10 := box_free HX10.out; replace hz10 := lt_blk HX10.out)); clear hb) | (go_at_call 15; refine (HC.out _ HB.out).mono ?_; rintro e w3 ⟨a3, c3, cs, rfl, hok3, hcu3, hsy3, hb⟩; have HC3 := Lib.hid hcu3; have HY3 := Lib.hid hsy3; clear hok3 hcu3 hsy3; (try replace hb := drewB hb); replace HB := Lib.hid (HB.out.trans (hb.mono HB.out.size)); (try (replace HX1 := Lib.hid (blk_keep HX1.out hb); replace hc1 := box_cells HX1.out; replace hf1 := box_free HX1.out; replace hz1 := lt_blk HX1.out)); (try (replace HX2 := Lib.hid (blk_keep HX2.out hb); replace hc2 := box_cells HX2.out; replace hf2 := box_free HX2.out; replace hz2 := lt_blk HX2.out)); (try (replace HX4 := Lib.hid (blk_keep HX4.out hb); replace hc4 := box_cells HX4.out; replace hf4 := box_free HX4.out; replace hz4 := lt_blk HX4.out)); (try (replace HX10 := Lib.hid (blk_keep HX10.out hb); replace hc10 := box_cells HX10.out; replace hf10 := box_free HX10.out; replace hz10 := lt_blk HX10.out)); clear hb))
    go_ret
    exact ⟨rfl, HB.out⟩
  obtain ⟨p, hv, hp, ha1, ha2, hl⟩ := cuesR_ok her
  obtain ⟨af, rfl⟩ : ∃ af : Nat, after = af := ⟨after.toNat, by omega⟩
  rw [Int.toNat_natCast] at hl
  obtain ⟨a2, ha⟩ : ∃ a2 : Nat, a2 = min 4000 (af + more) := ⟨_, rfl⟩
  have h21 : 1 ≤ a2 ∧ a2 ≤ 4000 ∧ af ≤ a2 := by omega
  have hmin : ((a2 : Nat) : Int) = min 4000 ((af : Int) + (more : Int)) := by omega
  have HCb := Lib.hid (fun W (hb : Below w.heap.size w W) => show Calls Tryz.prog 15 #[.agg #[.int .i64 s.version, .slice (⟨ab, cb, ap, cp, an, cn⟩ : Sp).ab s.bars.length (⟨ab, cb, ap, cp, an, cn⟩ : Sp).cb, .slice (⟨ab, cb, ap, cp, an, cn⟩ : Sp).ap s.parts.length (⟨ab, cb, ap, cp, an, cn⟩ : Sp).cp, .slice (⟨ab, cb, ap, cp, an, cn⟩ : Sp).an s.notes.length (⟨ab, cb, ap, cp, an, cn⟩ : Sp).cn], .int .i64 part, .int .i64 (min 4000 ((af : Int) + (more : Int)))] W (RetCuE (cuesL s p a2) 0 W) from by have := CCues_any s (⟨ab, cb, ap, cp, an, cn⟩ : Sp) part (a2 : Int) W hf (HS.out.below hb) (HE.out.below hb); rw [cuesR_at hv hp h21.1 h21.2.1] at this; rw [← hmin]; exact this)
  have HCc := Lib.hid (fun W (hb : Below w.heap.size w W) => show Calls Tryz.prog 15 #[.agg #[.int .i64 s.version, .slice (⟨ab, cb, ap, cp, an, cn⟩ : Sp).ab s.bars.length (⟨ab, cb, ap, cp, an, cn⟩ : Sp).cb, .slice (⟨ab, cb, ap, cp, an, cn⟩ : Sp).ap s.parts.length (⟨ab, cb, ap, cp, an, cn⟩ : Sp).cp, .slice (⟨ab, cb, ap, cp, an, cn⟩ : Sp).an s.notes.length (⟨ab, cb, ap, cp, an, cn⟩ : Sp).cn], .int .i64 part, .int .i64 1] W (RetCuE (cuesL s p 1) 0 W) from by have := CCues_any s (⟨ab, cb, ap, cp, an, cn⟩ : Sp) part ((1 : Nat) : Int) W hf (HS.out.below hb) (HE.out.below hb); rwa [cuesR_at hv hp (by omega) (by omega)] at this)
  have HFe := Lib.hid (fun (a : Nat) (h1 : 1 ≤ a) (h2 : a ≤ 4000) (cs : List Cu) (e : cs.map Cu.says = cuesL s p a) => cuesR_few hf (part := part) (after := (a : Int)) (cs := cs) (by rw [cuesR_at hv hp h1 h2]; exact e))
  have HSh := Lib.hid (fun (c : Cu) (hc : c.notes.length ≤ 100000) W (hb : Below w.heap.size w W) (hw : WrAt W c.na c.notes) => show Calls Tryz.prog 18 #[.agg #[.int .i64 s.version, .slice (⟨ab, cb, ap, cp, an, cn⟩ : Sp).ab s.bars.length (⟨ab, cb, ap, cp, an, cn⟩ : Sp).cb, .slice (⟨ab, cb, ap, cp, an, cn⟩ : Sp).ap s.parts.length (⟨ab, cb, ap, cp, an, cn⟩ : Sp).cp, .slice (⟨ab, cb, ap, cp, an, cn⟩ : Sp).an s.notes.length (⟨ab, cb, ap, cp, an, cn⟩ : Sp).cn], .int .i64 part, .agg #[.int .i64 c.measure, .int .i64 c.part, .slice c.na c.notes.length c.ncap]] W (fun e w' => e = .returned (.tuple #[.bool ((cuesL s p 1).any fun x => decide (x = c.says)), .int .i64 0]) ∧ Below W.heap.size W w') from by have := CShows_any s (⟨ab, cb, ap, cp, an, cn⟩ : Sp) part c W hf (HS.out.below hb) (HE.out.below hb) hc hw; rwa [shows_at hv hp] at this)
  have HLo := Lib.hid (fun (a b : Nat) (hab : a ≤ b) (c : CuP) (hc : c ∈ cuesL s p b) => (cues_longer hab hc : c ∈ cuesL s p a))
  rw [cuesR_at hv hp (by omega) (by omega)] at HC
  have hadd : IntKind.i64.wrap ((af : Int) + (more : Int)) = (af : Int) + (more : Int) := IntWalk.i64_in _ (by omega)
  have hmw : IntKind.i64.wrap (more : Int) = (more : Int) := IntWalk.i64_in _ (by omega)
  have haf := h21.2.2
  have haf1 : 1 ≤ af := by omega
  have haf2 : af ≤ 4000 := by omega
  have h2a := h21.1; have h2b := h21.2.1
  clear her hl hv hp hf ha hmin h21
  go_enter Tryz.func4, Tryz.ntmps4; go_upto_region 1 with (fail); generalize (w.alloc (.cells #[.int .i64 s.version, .slice (⟨ab, cb, ap, cp, an, cn⟩ : Sp).ab s.bars.length (⟨ab, cb, ap, cp, an, cn⟩ : Sp).cb, .slice (⟨ab, cb, ap, cp, an, cn⟩ : Sp).ap s.parts.length (⟨ab, cb, ap, cp, an, cn⟩ : Sp).cp, .slice (⟨ab, cb, ap, cp, an, cn⟩ : Sp).an s.notes.length (⟨ab, cb, ap, cp, an, cn⟩ : Sp).cn] 26)).alloc (.cells #[.int .i64 o.measure, .int .i64 o.part, .slice o.na o.notes.length o.ncap] 29) = W at *; have hc1 := box_cells HX1.out; have hc2 := box_cells HX2.out
  go_upto_region 7 with (first | (go_at_call 13; refine (head17_any _ (HE.out.below HB.out)).mono ?_; rintro e w2 ⟨rfl, hb⟩; (try replace hb := drewB hb); replace HB := Lib.hid (HB.out.trans (hb.mono HB.out.size)); (try (replace HX1 := Lib.hid (blk_keep HX1.out hb); replace hc1 := box_cells HX1.out; replace hf1 := box_free HX1.out; replace hz1 := lt_blk HX1.out)); (try (replace HX2 := Lib.hid (blk_keep HX2.out hb); replace hc2 := box_cells HX2.out; replace hf2 := box_free HX2.out; replace hz2 := lt_blk HX2.out)); (try (replace HX4 := Lib.hid (blk_keep HX4.out hb); replace hc4 := box_cells HX4.out; replace hf4 := box_free HX4.out; replace hz4 := lt_blk HX4.out)); (try (replace HX10 := Lib.hid (blk_keep HX10.out hb); replace hc10 := box_cells HX10.out; replace hf10 := box_free HX10.out; replace hz10 := lt_blk HX10.out)); clear hb) | (go_at_call 14; refine (HFw.out _).mono ?_; rintro e w2 ⟨rfl, hb⟩; (try replace hb := drewB hb); replace HB := Lib.hid (HB.out.trans (hb.mono HB.out.size)); (try (replace HX1 := Lib.hid (blk_keep HX1.out hb); replace hc1 := box_cells HX1.out; replace hf1 := box_free HX1.out; replace hz1 := lt_blk HX1.out)); (try (replace HX2 := Lib.hid (blk_keep HX2.out hb); replace hc2 := box_cells HX2.out; replace hf2 := box_free HX2.out; replace hz2 := lt_blk HX2.out)); (try (replace HX4 := Lib.hid (blk_keep HX4.out hb); replace hc4 := box_cells HX4.out; replace hf4 := box_free HX4.out; replace hz4 := lt_blk HX4.out)); (try (replace HX10 := Lib.hid (blk_keep HX10.out hb); replace hc10 := box_cells HX10.out; replace hf10 := box_free HX10.out; replace hz10 := lt_blk HX10.out)); clear hb) | (go_at_call 15; refine (HC.out _ HB.out).mono ?_; rintro e w3 ⟨a3, c3, cs, rfl, hok3, hcu3, hsy3, hb⟩; have HC3 := Lib.hid hcu3; have HY3 := Lib.hid hsy3; clear hok3 hcu3 hsy3; (try replace hb := drewB hb); replace HB := Lib.hid (HB.out.trans (hb.mono HB.out.size)); (try (replace HX1 := Lib.hid (blk_keep HX1.out hb); replace hc1 := box_cells HX1.out; replace hf1 := box_free HX1.out; replace hz1 := lt_blk HX1.out)); (try (replace HX2 := Lib.hid (blk_keep HX2.out hb); replace hc2 := box_cells HX2.out; replace hf2 := box_free HX2.out; replace hz2 := lt_blk HX2.out)); (try (replace HX4 := Lib.hid (blk_keep HX4.out hb); replace hc4 := box_cells HX4.out; replace hf4 := box_free HX4.out; replace hz4 := lt_blk HX4.out)); (try (replace HX10 := Lib.hid (blk_keep HX10.out hb); replace hc10 := box_cells HX10.out; replace hf10 := box_free HX10.out; replace hz10 := lt_blk HX10.out)); clear hb))
  obtain ⟨f1, f2⟩ := HFe.out af haf1 haf2 cs HY3.out
  have HF1 := Lib.hid f2
  clear f2
  go_upto_region 8 with (go_at_call 15; refine (HCb.out _ HB.out).mono ?_; rintro e w4 ⟨a4, c4, cs4, rfl, hok4, hcu4, hsy4, hb⟩; have HC4 := Lib.hid hcu4; have HY4 := Lib.hid hsy4; replace HC3 := Lib.hid (HC3.out.below hb); clear hok4 hcu4 hsy4; (try replace hb := drewB hb); replace HB := Lib.hid (HB.out.trans (hb.mono HB.out.size)); (try (replace HX1 := Lib.hid (blk_keep HX1.out hb); replace hc1 := box_cells HX1.out; replace hf1 := box_free HX1.out; replace hz1 := lt_blk HX1.out)); (try (replace HX2 := Lib.hid (blk_keep HX2.out hb); replace hc2 := box_cells HX2.out; replace hf2 := box_free HX2.out; replace hz2 := lt_blk HX2.out)); (try (replace HX4 := Lib.hid (blk_keep HX4.out hb); replace hc4 := box_cells HX4.out; replace hf4 := box_free HX4.out; replace hz4 := lt_blk HX4.out)); (try (replace HX10 := Lib.hid (blk_keep HX10.out hb); replace hc10 := box_cells HX10.out; replace hf10 := box_free HX10.out; replace hz10 := lt_blk HX10.out)); clear hb)
  clear hadd hmw
  go_upto_region 9 with (go_at_call 15; refine (HCc.out _ HB.out).mono ?_; rintro e w5 ⟨a5, c5, cs5, rfl, hok5, hcu5, hsy5, hb⟩; have HC5 := Lib.hid hcu5; have HY5 := Lib.hid hsy5; replace HC3 := Lib.hid (HC3.out.below hb); replace HC4 := Lib.hid (HC4.out.below hb); clear hok5 hcu5 hsy5; (try replace hb := drewB hb); replace HB := Lib.hid (HB.out.trans (hb.mono HB.out.size)); (try (replace HX1 := Lib.hid (blk_keep HX1.out hb); replace hc1 := box_cells HX1.out; replace hf1 := box_free HX1.out; replace hz1 := lt_blk HX1.out)); (try (replace HX2 := Lib.hid (blk_keep HX2.out hb); replace hc2 := box_cells HX2.out; replace hf2 := box_free HX2.out; replace hz2 := lt_blk HX2.out)); (try (replace HX4 := Lib.hid (blk_keep HX4.out hb); replace hc4 := box_cells HX4.out; replace hf4 := box_free HX4.out; replace hz4 := lt_blk HX4.out)); (try (replace HX10 := Lib.hid (blk_keep HX10.out hb); replace hc10 := box_cells HX10.out; replace hf10 := box_free HX10.out; replace hz10 := lt_blk HX10.out)); clear hb)
  obtain ⟨f3, f4⟩ := HFe.out a2 h2a h2b cs4 HY4.out
  obtain ⟨f5, f6⟩ := HFe.out 1 (by omega) (by omega) cs5 HY5.out
  have HF2 := Lib.hid f4; have HF3 := Lib.hid f6
  clear f4 f6 HFe HC HCb HCc
  have HB5 := Lib.hid HB.out
  have HHas := Lib.hid (fun (c : Cu) (hc : c.notes.length ≤ 100000) W (hb : Below w5.heap.size w5 W) (hw : WrAt W c.na c.notes) => show Calls Tryz.prog 20 #[.slice a3 cs.length c3, .agg #[.int .i64 c.measure, .int .i64 c.part, .slice c.na c.notes.length c.ncap]] W (fun e w' => e = .returned (.bool ((cuesL s p af).any fun x => decide (x = c.says))) ∧ Below W.heap.size W w') from by
    have := RHas17_any a3 c3 cs c W (by omega) (fun m hm => by have := HF1.out m hm; omega) hc (HC3.out.below hb) hw
    rwa [any_says HY3.out] at this)
  have HHal := Lib.hid (fun (c : Cu) (hc : c.notes.length ≤ 100000) W (hb : Below w5.heap.size w5 W) (hw : WrAt W c.na c.notes) => show Calls Tryz.prog 20 #[.slice a5 cs5.length c5, .agg #[.int .i64 c.measure, .int .i64 c.part, .slice c.na c.notes.length c.ncap]] W (fun e w' => e = .returned (.bool ((cuesL s p 1).any fun x => decide (x = c.says))) ∧ Below W.heap.size W w') from by
    have := RHas17_any a5 c5 cs5 c W (by omega) (fun m hm => by have := HF3.out m hm; omega) hc (HC5.out.below hb) hw
    rwa [any_says HY5.out] at this)
  have HMe := Lib.hid (fun (c : CuP) (hc : c ∈ cuesL s p a2) => show ((cuesL s p af).any fun x => decide (x = c)) = true ∧ ((cuesL s p 1).any fun x => decide (x = c)) = true from ⟨any_mem (HLo.out af a2 haf c hc), any_mem (HLo.out 1 a2 h2a c hc)⟩)
  go_wp2
  clear hc1 hf1 hz1 hc2 hf2 hz2 HB
  go_loopw [11, 70] (fun s11 s70 wi => ∃ j : Nat, j ≤ cs4.length ∧ s70 = .int .i64 j ∧ s11 = .bool true ∧ Below w5.heap.size w5 wi) (fun _ s70 _ => cs4.length - (intOf s70).toNat)
  case atStart => exact ⟨0, Nat.zero_le _, rfl, rfl, Below.refl _ _⟩
  case round =>
    obtain ⟨j, hj, rfl, rfl, hbw⟩ := hrel
    have HBe := Lib.hid hbw
    clear hbw
    by_cases hlt : j < cs4.length
    · obtain ⟨cbk, coff, hqc, _, d0, d1, d2⟩ := (HC4.out.below HBe.out).get j hlt
      subst hqc
      have hcm := List.getElem_mem hlt
      have hnl := HF2.out _ hcm
      obtain ⟨t1, t2⟩ := HMe.out cs4[j].says (by rw [← HY4.out]; exact List.mem_map_of_mem hcm)
      have HWn := Lib.hid (fun W (hb : Below w5.heap.size w5 W) => (HC4.out.below hb).notes _ hcm)
      have HS1 := Lib.hid (HSh.out cs4[j] (by omega)); have HH1 := Lib.hid (HHas.out cs4[j] (by omega)); have HH2 := Lib.hid (HHal.out cs4[j] (by omega))
      rw [t2] at HS1 HH2
      rw [t1] at HH1
      clear hcm t1 t2
      generalize cs4[j] = c at *
      go_upto_region 14 with (fail)
      have HX4 := Lib.hid (heap_alloc_new wr (.cells #[.int .i64 c.measure, .int .i64 c.part, .slice c.na c.notes.length c.ncap] 29))
      have hb := below_box (w := wr) (.cells #[.int .i64 c.measure, .int .i64 c.part, .slice c.na c.notes.length c.ncap] 29)
      replace HBe := Lib.hid (HBe.out.trans (hb.mono HBe.out.size))
      clear hb d0 d1 d2
      generalize wr.alloc (.cells #[.int .i64 c.measure, .int .i64 c.part, .slice c.na c.notes.length c.ncap] 29) = W7 at *
      generalize wr.heap.size = cub at *
      have hc1 := box_cells (blk_keep HX1.out HBe.out); have hc4 := box_cells HX4.out
      go_upto_region 15 with (go_at_call 18; refine (HS1.out _ (HB5.out.trans (HBe.out.mono HB5.out.size)) (HWn.out _ HBe.out)).mono ?_; rintro e w8 ⟨rfl, hb⟩; replace HBe := Lib.hid (HBe.out.trans (hb.mono HBe.out.size)); replace HX4 := Lib.hid (blk_keep HX4.out hb); clear hb)
      clear hc1 hc4
      have hc4 := box_cells HX4.out
      go_wp2_with (go_at_call 20; (first | with_reducible refine (HH1.out _ HBe.out (HWn.out _ HBe.out)).mono ?_ | with_reducible refine (HH2.out _ HBe.out (HWn.out _ HBe.out)).mono ?_); rintro e w9 ⟨rfl, hb⟩; replace HBe := Lib.hid (HBe.out.trans (hb.mono HBe.out.size)); replace HX4 := Lib.hid (blk_keep HX4.out hb); replace hc4 := box_cells HX4.out; clear hb)
      exact ⟨⟨j + 1, by omega, by go_num, rfl, HBe.out⟩, by simp [intOf]; omega⟩
    · have HS1 := Lib.hid (HSh.out o (by omega)); have HH2 := Lib.hid (HHal.out o (by omega))
      have hc1 := box_cells (blk_keep HX1.out HBe.out); have hc2 := box_cells (blk_keep HX2.out HBe.out)
      have HWo := Lib.hid (fun W (hb : Below w5.heap.size w5 W) => HW.out.below (HB5.out.trans (hb.mono HB5.out.size)))
      generalize ((cuesL s p 1).any fun x => decide (x = o.says)) = T at *
      cases T <;> (
        go_upto_region 18 with (go_at_call 18; refine (HS1.out _ (HB5.out.trans (HBe.out.mono HB5.out.size)) (HWo.out _ HBe.out)).mono ?_; rintro e w8 ⟨rfl, hb⟩; replace HBe := Lib.hid (HBe.out.trans (hb.mono HBe.out.size)); replace hc2 := box_cells (blk_keep HX2.out HBe.out); clear hb)
        go_wp2_with (go_at_call 20; refine (HH2.out _ HBe.out (HWo.out _ HBe.out)).mono ?_; rintro e w9 ⟨rfl, hb⟩; replace HBe := Lib.hid (HBe.out.trans (hb.mono HBe.out.size)); clear hb)
        go_ret
        exact ⟨rfl, HB5.out.trans (HBe.out.mono HB5.out.size)⟩)
end Go.Proofs.YtppjbnnnppffaaaGreatDoor
