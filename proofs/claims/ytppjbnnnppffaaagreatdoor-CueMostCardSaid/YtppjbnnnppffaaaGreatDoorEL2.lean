import Derived.Test.YtppjbnnnppffaaaGreatDoorUO
import Derived.Test.YtppjbnnnppffaaaGreatDoorUQ

/- The law CueMost: walked. -/
namespace Go.Proofs.YtppjbnnnppffaaaGreatDoor
set_option linter.unusedSimpArgs false
set_option linter.unusedVariables false
open Go.RowKit Go.Sort Go.Shelf

set_option maxRecDepth 100000 in
set_option maxHeartbeats 8000000 in
theorem CueMost_any (s : Sc) (q : Sp) (part after : Int) (w : World) (hs : ScAt w s q) (hE : Env w) :
    Calls Tryz.prog 9 #[.agg #[.int .i64 s.version, .slice q.ab s.bars.length q.cb, .slice q.ap s.parts.length q.cp, .slice q.an s.notes.length q.cn], .int .i64 part, .int .i64 after] w fun e w' => e = .returned (.bool true) ∧ Below w.heap.size w w' := by
  have HS := Lib.hid hs; have HE := Lib.hid hE
  obtain ⟨ab, cb, ap, cp, an, cn⟩ := q
  have HX1 := Lib.hid (heap_alloc_new w (.cells #[.int .i64 s.version, .slice (⟨ab, cb, ap, cp, an, cn⟩ : Sp).ab s.bars.length (⟨ab, cb, ap, cp, an, cn⟩ : Sp).cb, .slice (⟨ab, cb, ap, cp, an, cn⟩ : Sp).ap s.parts.length (⟨ab, cb, ap, cp, an, cn⟩ : Sp).cp, .slice (⟨ab, cb, ap, cp, an, cn⟩ : Sp).an s.notes.length (⟨ab, cb, ap, cp, an, cn⟩ : Sp).cn] 26))
  have HB := Lib.hid (below_box (w := w) (.cells #[.int .i64 s.version, .slice (⟨ab, cb, ap, cp, an, cn⟩ : Sp).ab s.bars.length (⟨ab, cb, ap, cp, an, cn⟩ : Sp).cb, .slice (⟨ab, cb, ap, cp, an, cn⟩ : Sp).ap s.parts.length (⟨ab, cb, ap, cp, an, cn⟩ : Sp).cp, .slice (⟨ab, cb, ap, cp, an, cn⟩ : Sp).an s.notes.length (⟨ab, cb, ap, cp, an, cn⟩ : Sp).cn] 26))
  have HFw := Lib.hid (fun W => RFew17_any s (⟨ab, cb, ap, cp, an, cn⟩ : Sp) W)
  clear hs hE
  dsimp only at *
  cases hfw : few17 s
  · rw [hfw] at HFw
    clear hfw
    go_enter Tryz.func9, Tryz.ntmps9; go_upto_region 1 with (fail); generalize w.alloc (.cells #[.int .i64 s.version, .slice (⟨ab, cb, ap, cp, an, cn⟩ : Sp).ab s.bars.length (⟨ab, cb, ap, cp, an, cn⟩ : Sp).cb, .slice (⟨ab, cb, ap, cp, an, cn⟩ : Sp).ap s.parts.length (⟨ab, cb, ap, cp, an, cn⟩ : Sp).cp, .slice (⟨ab, cb, ap, cp, an, cn⟩ : Sp).an s.notes.length (⟨ab, cb, ap, cp, an, cn⟩ : Sp).cn] 26) = W at *; have hc1 := box_cells HX1.out
    go_wp2_with (first | (go_at_call 13; refine (head17_any _ (HE.out.below HB.out)).mono ?_; rintro e w2 ⟨rfl, hb⟩; (try replace hb := drewB hb); replace HB := Lib.hid (HB.out.trans (hb.mono HB.out.size)); (try (replace HX1 := Lib.hid (blk_keep HX1.out hb); replace hc1 := box_cells HX1.out; replace hf1 := box_free HX1.out; replace hz1 := lt_blk HX1.out)); (try (replace HX2 := Lib.hid (blk_keep HX2.out hb); replace hc2 := box_cells HX2.out; replace hf2 := box_free HX2.out; replace hz2 := lt_blk HX2.out)); (try (replace HX3 := Lib.hid (blk_keep HX3.out hb); replace hc3 := box_cells HX3.out; replace hf3 := box_free HX3.out; replace hz3 := lt_blk HX3.out)); (try (replace HX4 := Lib.hid (blk_keep HX4.out hb); replace hc4 := box_cells HX4.out; replace hf4 := box_free HX4.out; replace hz4 := lt_blk HX4.out)); (try (replace HX10 := Lib.hid (blk_keep HX10.out hb); replace hc10 := box_cells HX10.out; replace hf10 := box_free HX10.out; replace hz10 := lt_blk HX10.out)); clear hb) | (go_at_call 14; refine (HFw.out _).mono ?_; rintro e w2 ⟨rfl, hb⟩; (try replace hb := drewB hb); replace HB := Lib.hid (HB.out.trans (hb.mono HB.out.size)); (try (replace HX1 := Lib.hid (blk_keep HX1.out hb); replace hc1 := box_cells HX1.out; replace hf1 := box_free HX1.out; replace hz1 := lt_blk HX1.out)); (try (replace HX2 := Lib.hid (blk_keep HX2.out hb); replace hc2 := box_cells HX2.out; replace hf2 := box_free HX2.out; replace hz2 := lt_blk HX2.out)); (try (replace HX3 := Lib.hid (blk_keep HX3.out hb); replace hc3 := box_cells HX3.out; replace hf3 := box_free HX3.out; replace hz3 := lt_blk HX3.out)); (try (replace HX4 := Lib.hid (blk_keep HX4.out hb); replace hc4 := box_cells HX4.out; replace hf4 := box_free HX4.out; replace hz4 := lt_blk HX4.out)); (try (replace HX10 := Lib.hid (blk_keep HX10.out hb); replace hc10 := box_cells HX10.out; replace hf10 := box_free HX10.out; replace hz10 := lt_blk HX10.out)); clear hb))
    go_ret
    exact ⟨rfl, HB.out⟩
  rw [hfw] at HFw
  have hf := (few17_few hfw).1
  have HC := Lib.hid (fun W (hb : Below w.heap.size w W) => CCues_any s (⟨ab, cb, ap, cp, an, cn⟩ : Sp) part after W hf (HS.out.below hb) (HE.out.below hb))
  have HFe := Lib.hid (fun (cs : List Cu) e => cuesR_few hf (part := part) (after := after) (cs := cs) e)
  clear hfw
  by_cases her : (cuesR s part after).2 = 0
  case neg =>
    have hd : ((cuesR s part after).2 != 0) = true := by simpa using her
    clear her hf HFe
    generalize cuesR s part after = G at *
    go_enter Tryz.func9, Tryz.ntmps9; go_upto_region 1 with (fail); generalize w.alloc (.cells #[.int .i64 s.version, .slice (⟨ab, cb, ap, cp, an, cn⟩ : Sp).ab s.bars.length (⟨ab, cb, ap, cp, an, cn⟩ : Sp).cb, .slice (⟨ab, cb, ap, cp, an, cn⟩ : Sp).ap s.parts.length (⟨ab, cb, ap, cp, an, cn⟩ : Sp).cp, .slice (⟨ab, cb, ap, cp, an, cn⟩ : Sp).an s.notes.length (⟨ab, cb, ap, cp, an, cn⟩ : Sp).cn] 26) = W at *; have hc1 := box_cells HX1.out
    go_wp2_with (first | (go_at_call 13; refine (head17_any _ (HE.out.below HB.out)).mono ?_; rintro e w2 ⟨rfl, hb⟩; (try replace hb := drewB hb); replace HB := Lib.hid (HB.out.trans (hb.mono HB.out.size)); (try (replace HX1 := Lib.hid (blk_keep HX1.out hb); replace hc1 := box_cells HX1.out; replace hf1 := box_free HX1.out; replace hz1 := lt_blk HX1.out)); (try (replace HX2 := Lib.hid (blk_keep HX2.out hb); replace hc2 := box_cells HX2.out; replace hf2 := box_free HX2.out; replace hz2 := lt_blk HX2.out)); (try (replace HX3 := Lib.hid (blk_keep HX3.out hb); replace hc3 := box_cells HX3.out; replace hf3 := box_free HX3.out; replace hz3 := lt_blk HX3.out)); (try (replace HX4 := Lib.hid (blk_keep HX4.out hb); replace hc4 := box_cells HX4.out; replace hf4 := box_free HX4.out; replace hz4 := lt_blk HX4.out)); (try (replace HX10 := Lib.hid (blk_keep HX10.out hb); replace hc10 := box_cells HX10.out; replace hf10 := box_free HX10.out; replace hz10 := lt_blk HX10.out)); clear hb) | (go_at_call 14; refine (HFw.out _).mono ?_; rintro e w2 ⟨rfl, hb⟩; (try replace hb := drewB hb); replace HB := Lib.hid (HB.out.trans (hb.mono HB.out.size)); (try (replace HX1 := Lib.hid (blk_keep HX1.out hb); replace hc1 := box_cells HX1.out; replace hf1 := box_free HX1.out; replace hz1 := lt_blk HX1.out)); (try (replace HX2 := Lib.hid (blk_keep HX2.out hb); replace hc2 := box_cells HX2.out; replace hf2 := box_free HX2.out; replace hz2 := lt_blk HX2.out)); (try (replace HX3 := Lib.hid (blk_keep HX3.out hb); replace hc3 := box_cells HX3.out; replace hf3 := box_free HX3.out; replace hz3 := lt_blk HX3.out)); (try (replace HX4 := Lib.hid (blk_keep HX4.out hb); replace hc4 := box_cells HX4.out; replace hf4 := box_free HX4.out; replace hz4 := lt_blk HX4.out)); (try (replace HX10 := Lib.hid (blk_keep HX10.out hb); replace hc10 := box_cells HX10.out; replace hf10 := box_free HX10.out; replace hz10 := lt_blk HX10.out)); clear hb) | (go_at_call 15; refine (HC.out _ HB.out).mono ?_; rintro e w3 ⟨a3, c3, cs, rfl, hok3, hcu3, hsy3, hb⟩; have HC3 := Lib.hid hcu3; have HY3 := Lib.hid hsy3; clear hok3 hcu3 hsy3; (try replace hb := drewB hb); replace HB := Lib.hid (HB.out.trans (hb.mono HB.out.size)); (try (replace HX1 := Lib.hid (blk_keep HX1.out hb); replace hc1 := box_cells HX1.out; replace hf1 := box_free HX1.out; replace hz1 := lt_blk HX1.out)); (try (replace HX2 := Lib.hid (blk_keep HX2.out hb); replace hc2 := box_cells HX2.out; replace hf2 := box_free HX2.out; replace hz2 := lt_blk HX2.out)); (try (replace HX3 := Lib.hid (blk_keep HX3.out hb); replace hc3 := box_cells HX3.out; replace hf3 := box_free HX3.out; replace hz3 := lt_blk HX3.out)); (try (replace HX4 := Lib.hid (blk_keep HX4.out hb); replace hc4 := box_cells HX4.out; replace hf4 := box_free HX4.out; replace hz4 := lt_blk HX4.out)); (try (replace HX10 := Lib.hid (blk_keep HX10.out hb); replace hc10 := box_cells HX10.out; replace hf10 := box_free HX10.out; replace hz10 := lt_blk HX10.out)); clear hb))
    go_ret
    exact ⟨rfl, HB.out⟩
  obtain ⟨p, hv, hp, ha1, ha2, hl⟩ := cuesR_ok her
  rw [her] at HC
  have HMo := Lib.hid (fun (c : CuP) (hc : c ∈ (cuesR s part after).1) => cue_most (hl ▸ hc))
  have HG := Lib.hid (fun (x : Pa) (hx : x ∈ s.parts) W (hb : Below w.heap.size w W) => show Calls Tryz.prog 24 #[.agg #[.int .i64 s.version, .slice (⟨ab, cb, ap, cp, an, cn⟩ : Sp).ab s.bars.length (⟨ab, cb, ap, cp, an, cn⟩ : Sp).cb, .slice (⟨ab, cb, ap, cp, an, cn⟩ : Sp).ap s.parts.length (⟨ab, cb, ap, cp, an, cn⟩ : Sp).cp, .slice (⟨ab, cb, ap, cp, an, cn⟩ : Sp).an s.notes.length (⟨ab, cb, ap, cp, an, cn⟩ : Sp).cn], .int .i64 x.id] W (RetVE x.id (viewL s x) 0 W) from by have := VGet_any s (⟨ab, cb, ap, cp, an, cn⟩ : Sp) x.id W hf (HS.out.below hb) (HE.out.below hb); rwa [get_mem hv hx] at this)
  have HSn := Lib.hid (fun (x : Pa) (ms : List Me) (e : ms.map Me.says = viewL s x) (m : Nat) (hm : m < s.bars.length) => says_notes e hm)
  have hnp := hf.parts; have hnb := hf.bars
  have HPl := Lib.hid (fun x b => plays_len hf x b)
  clear her hl hv hp ha1 ha2 hf
  generalize cuesR s part after = G at *
  go_enter Tryz.func9, Tryz.ntmps9; go_upto_region 1 with (fail); generalize w.alloc (.cells #[.int .i64 s.version, .slice (⟨ab, cb, ap, cp, an, cn⟩ : Sp).ab s.bars.length (⟨ab, cb, ap, cp, an, cn⟩ : Sp).cb, .slice (⟨ab, cb, ap, cp, an, cn⟩ : Sp).ap s.parts.length (⟨ab, cb, ap, cp, an, cn⟩ : Sp).cp, .slice (⟨ab, cb, ap, cp, an, cn⟩ : Sp).an s.notes.length (⟨ab, cb, ap, cp, an, cn⟩ : Sp).cn] 26) = W at *; have hc1 := box_cells HX1.out
  go_upto_region 5 with (first | (go_at_call 13; refine (head17_any _ (HE.out.below HB.out)).mono ?_; rintro e w2 ⟨rfl, hb⟩; (try replace hb := drewB hb); replace HB := Lib.hid (HB.out.trans (hb.mono HB.out.size)); (try (replace HX1 := Lib.hid (blk_keep HX1.out hb); replace hc1 := box_cells HX1.out; replace hf1 := box_free HX1.out; replace hz1 := lt_blk HX1.out)); (try (replace HX2 := Lib.hid (blk_keep HX2.out hb); replace hc2 := box_cells HX2.out; replace hf2 := box_free HX2.out; replace hz2 := lt_blk HX2.out)); (try (replace HX3 := Lib.hid (blk_keep HX3.out hb); replace hc3 := box_cells HX3.out; replace hf3 := box_free HX3.out; replace hz3 := lt_blk HX3.out)); (try (replace HX4 := Lib.hid (blk_keep HX4.out hb); replace hc4 := box_cells HX4.out; replace hf4 := box_free HX4.out; replace hz4 := lt_blk HX4.out)); (try (replace HX10 := Lib.hid (blk_keep HX10.out hb); replace hc10 := box_cells HX10.out; replace hf10 := box_free HX10.out; replace hz10 := lt_blk HX10.out)); clear hb) | (go_at_call 14; refine (HFw.out _).mono ?_; rintro e w2 ⟨rfl, hb⟩; (try replace hb := drewB hb); replace HB := Lib.hid (HB.out.trans (hb.mono HB.out.size)); (try (replace HX1 := Lib.hid (blk_keep HX1.out hb); replace hc1 := box_cells HX1.out; replace hf1 := box_free HX1.out; replace hz1 := lt_blk HX1.out)); (try (replace HX2 := Lib.hid (blk_keep HX2.out hb); replace hc2 := box_cells HX2.out; replace hf2 := box_free HX2.out; replace hz2 := lt_blk HX2.out)); (try (replace HX3 := Lib.hid (blk_keep HX3.out hb); replace hc3 := box_cells HX3.out; replace hf3 := box_free HX3.out; replace hz3 := lt_blk HX3.out)); (try (replace HX4 := Lib.hid (blk_keep HX4.out hb); replace hc4 := box_cells HX4.out; replace hf4 := box_free HX4.out; replace hz4 := lt_blk HX4.out)); (try (replace HX10 := Lib.hid (blk_keep HX10.out hb); replace hc10 := box_cells HX10.out; replace hf10 := box_free HX10.out; replace hz10 := lt_blk HX10.out)); clear hb) | (go_at_call 15; refine (HC.out _ HB.out).mono ?_; rintro e w3 ⟨a3, c3, cs, rfl, hok3, hcu3, hsy3, hb⟩; have HC3 := Lib.hid hcu3; have HY3 := Lib.hid hsy3; clear hok3 hcu3 hsy3; (try replace hb := drewB hb); replace HB := Lib.hid (HB.out.trans (hb.mono HB.out.size)); (try (replace HX1 := Lib.hid (blk_keep HX1.out hb); replace hc1 := box_cells HX1.out; replace hf1 := box_free HX1.out; replace hz1 := lt_blk HX1.out)); (try (replace HX2 := Lib.hid (blk_keep HX2.out hb); replace hc2 := box_cells HX2.out; replace hf2 := box_free HX2.out; replace hz2 := lt_blk HX2.out)); (try (replace HX3 := Lib.hid (blk_keep HX3.out hb); replace hc3 := box_cells HX3.out; replace hf3 := box_free HX3.out; replace hz3 := lt_blk HX3.out)); (try (replace HX4 := Lib.hid (blk_keep HX4.out hb); replace hc4 := box_cells HX4.out; replace hf4 := box_free HX4.out; replace hz4 := lt_blk HX4.out)); (try (replace HX10 := Lib.hid (blk_keep HX10.out hb); replace hc10 := box_cells HX10.out; replace hf10 := box_free HX10.out; replace hz10 := lt_blk HX10.out)); clear hb))
  obtain ⟨hcl, hcn⟩ := HFe.out cs HY3.out
  have HCn := Lib.hid hcn
  have HB3 := Lib.hid HB.out
  clear hcn HFe
  go_wp2
  clear hc1 hf1 hz1 HB
  go_loopw [7, 35] (fun s7 s35 wi => ∃ k : Nat, k ≤ s.parts.length ∧ s35 = .int .i64 k ∧ s7 = .bool true ∧ Below w3.heap.size w3 wi) (fun _ s35 _ => s.parts.length - (intOf s35).toNat)
  case atStart => exact ⟨0, Nat.zero_le _, rfl, rfl, Below.refl _ _⟩
  case round =>
    obtain ⟨k, hk, rfl, rfl, hbw⟩ := hrel
    have HBe := Lib.hid hbw
    clear hbw
    have HBx := Lib.hid (HB3.out.trans (HBe.out.mono HB3.out.size))
    have hc1 := box_cells (blk_keep HX1.out HBe.out)
    by_cases hlt : k < s.parts.length
    · obtain ⟨b, off, hqa, _, e0, e1, e2, e3, e4, e5, e6, e7, e8, e9, e10, e11, e12⟩ := (HS.out.parts.below HBx.out).get k hlt
      have hqa2 : ap = some ⟨b, off, none⟩ := hqa
      subst hqa2
      clear hqa
      have hmem := List.getElem_mem hlt
      have HG2 := Lib.hid (HG.out _ hmem); have HSn2 := Lib.hid (HSn.out s.parts[k])
      have HMo2 := Lib.hid (fun (c : CuP) (hc : c ∈ G.1) => show ∃ (m : Nat) (h1 : m < s.bars.length), c.measure = m ∧ ((playsB s s.parts[k] s.bars[m]).length < c.notes.length ∨ (playsB s s.parts[k] s.bars[m]).length = c.notes.length ∧ c.part ≤ s.parts[k].id) from by
        obtain ⟨m, h1, h2, h3⟩ := HMo.out c hc
        exact ⟨m, h1, h2, h3 _ hmem⟩)
      clear hmem
      generalize s.parts[k] = x at *
      go_upto_region 10 with (fail)
      have HX2 := Lib.hid (heap_alloc_new wr (.cells #[.int .i64 x.id, .int .i64 x.section_, .int .i64 x.of, .int .i64 x.octave, .int .i64 x.desks, .int .i64 x.shift.x, .int .i64 x.shift.y, .int .i64 x.low.s, .int .i64 x.low.a, .int .i64 x.low.o, .int .i64 x.high.s, .int .i64 x.high.a, .int .i64 x.high.o] 59))
      have hb := below_box (w := wr) (.cells #[.int .i64 x.id, .int .i64 x.section_, .int .i64 x.of, .int .i64 x.octave, .int .i64 x.desks, .int .i64 x.shift.x, .int .i64 x.shift.y, .int .i64 x.low.s, .int .i64 x.low.a, .int .i64 x.low.o, .int .i64 x.high.s, .int .i64 x.high.a, .int .i64 x.high.o] 59)
      replace HBe := Lib.hid (HBe.out.trans (hb.mono HBe.out.size)); replace HBx := Lib.hid (HBx.out.trans (hb.mono HBx.out.size))
      clear hb e0 e1 e2 e3 e4 e5 e6 e7 e8 e9 e10 e11 e12 hc1
      generalize wr.alloc (.cells #[.int .i64 x.id, .int .i64 x.section_, .int .i64 x.of, .int .i64 x.octave, .int .i64 x.desks, .int .i64 x.shift.x, .int .i64 x.shift.y, .int .i64 x.low.s, .int .i64 x.low.a, .int .i64 x.low.o, .int .i64 x.high.s, .int .i64 x.high.a, .int .i64 x.high.o] 59) = W1 at *
      generalize wr.heap.size = xb at *
      have hc1 := box_cells (blk_keep HX1.out HBe.out); have hc2 := box_cells HX2.out
      go_upto_region 11 with (go_at_call 24; refine (HG2.out _ HBx.out).mono ?_; rintro e w5 ⟨av, capv, ms, rfl, hokv, hmev, hsyv, hb⟩; have HMe := Lib.hid hmev; have HSy := Lib.hid hsyv; clear hokv hmev hsyv; replace HX2 := Lib.hid (blk_keep HX2.out hb); replace HBe := Lib.hid (HBe.out.trans (hb.mono HBe.out.size)); clear hb)
      clear hc1 hc2 HG2
      have HX3 := Lib.hid (heap_alloc_new w5 (.cells #[.int .i64 x.id, .slice av ms.length capv] 44))
      have hb := below_box (w := w5) (.cells #[.int .i64 x.id, .slice av ms.length capv] 44)
      replace HX2 := Lib.hid (blk_keep HX2.out hb); replace HBe := Lib.hid (HBe.out.trans (hb.mono HBe.out.size)); replace HMe := Lib.hid (HMe.out.below hb)
      clear hb
      generalize w5.alloc (.cells #[.int .i64 x.id, .slice av ms.length capv] 44) = W5 at *
      generalize w5.heap.size = vb at *
      go_wp2
      go_loopw [7, 50] (fun s7 s50 wi => ∃ j : Nat, j ≤ cs.length ∧ s50 = .int .i64 j ∧ s7 = .bool true ∧ Below W5.heap.size W5 wi) (fun _ s50 _ => cs.length - (intOf s50).toNat)
      case atStart => exact ⟨0, Nat.zero_le _, rfl, rfl, Below.refl _ _⟩
      case round =>
        obtain ⟨j, hj, rfl, rfl, hbw⟩ := hrel
        have HBi := Lib.hid hbw
        clear hbw
        have hb3i := HBe.out.trans (HBi.out.mono HBe.out.size)
        by_cases hjl : j < cs.length
        · obtain ⟨cbk, coff, hqc, _, d0, d1, d2⟩ := (HC3.out.below hb3i).get j hjl
          subst hqc
          obtain ⟨m, hm, hme, hmo⟩ := HMo2.out cs[j].says (by rw [← HY3.out]; exact List.mem_map_of_mem (List.getElem_mem hjl))
          obtain ⟨hmm, hml⟩ := HSn2.out ms HSy.out m hm
          obtain ⟨mbk, moff, hqm, _, _, _, _, _, m4⟩ := (HMe.out.below HBi.out).get17 m hmm
          subst hqm
          have hpl := HPl.out x s.bars[m]
          have hcn := HCn.out _ (List.getElem_mem hjl)
          have hme2 : cs[j].measure = (m : Int) := hme
          have hmo2 : (playsB s x s.bars[m]).length < cs[j].notes.length ∨ (playsB s x s.bars[m]).length = cs[j].notes.length ∧ cs[j].part ≤ x.id := hmo
          rw [hml] at m4
          generalize (playsB s x s.bars[m]).length = N at *
          generalize ms[m] = M at *
          generalize cs[j] = c at *
          clear hme hmo
          go_upto_region 16 with (fail)
          have HX4 := Lib.hid (heap_alloc_new wr (.cells #[.int .i64 (m : Int), .int .i64 c.part, .slice c.na c.notes.length c.ncap] 29))
          have hb := below_box (w := wr) (.cells #[.int .i64 (m : Int), .int .i64 c.part, .slice c.na c.notes.length c.ncap] 29)
          replace HBi := Lib.hid (HBi.out.trans (hb.mono HBi.out.size))
          replace m4 := keepE m4 hb
          clear hb d0 d1 d2 hb3i
          generalize wr.alloc (.cells #[.int .i64 (m : Int), .int .i64 c.part, .slice c.na c.notes.length c.ncap] 29) = W7 at *
          generalize wr.heap.size = cub at *
          have hcc := box_cells HX4.out
          have hc2 := box_cells (blk_keep HX2.out HBi.out); have hc3 := box_cells (blk_keep HX3.out HBi.out)
          have h0 : ¬ ((m : Int) < 0) := by omega
          have h1 : ¬ ((ms.length : Int) ≤ (m : Int)) := by omega
          have h2 : (m : Int) < (ms.length : Int) := by omega
          by_cases hNL : N < c.notes.length
          · have h3 : (N : Int) < (c.notes.length : Int) := by omega
            clear hmo2 hNL
            go_wp2
            exact ⟨⟨j + 1, by omega, by go_num, rfl, HBi.out⟩, by simp [intOf]; omega⟩
          · have h3 : ¬ (N : Int) < (c.notes.length : Int) := by omega
            have h4 : ((N : Int) == (c.notes.length : Int)) = true := by simp; omega
            have h5 : c.part ≤ x.id := by omega
            clear hmo2 hNL
            go_wp2
            exact ⟨⟨j + 1, by omega, by go_num, rfl, HBi.out⟩, by simp [intOf]; omega⟩
        · go_wp2
          exact ⟨⟨k + 1, by omega, by go_num, rfl, hb3i⟩, by simp [intOf]; omega⟩
    · go_wp2
      go_ret
      exact ⟨rfl, HBx.out⟩
end Go.Proofs.YtppjbnnnppffaaaGreatDoor
