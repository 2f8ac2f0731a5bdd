import Derived.Test.YtppjbnnnppffaaaGreatDoorUO
import Derived.Test.YtppjbnnnppffaaaGreatDoorUQ

/- The law CueEntries: walked. -/
namespace Go.Proofs.YtppjbnnnppffaaaGreatDoor
set_option linter.unusedSimpArgs false
set_option linter.unusedVariables false
open Go.RowKit Go.Sort Go.Shelf

/-- How many of the first measures have no note. -/
def restK (ms : List Me) (k : Nat) : Nat := ((ms.take k).filter fun m => m.notes.isEmpty).length
theorem restK_succ {ms : List Me} {k : Nat} (h : k < ms.length) : restK ms (k + 1) = if ms[k].notes = [] then restK ms k + 1 else restK ms k := by
  unfold restK
  rw [List.take_succ_eq_append_getElem h, List.filter_append, List.length_append]
  by_cases e : ms[k].notes = []
  · simp [e]
  · have : ms[k].notes.isEmpty = false := by cases hn : ms[k].notes with | nil => exact absurd hn e | cons _ _ => rfl
    simp [this, e]
theorem restK_le (ms : List Me) (k : Nat) : restK ms k ≤ k := Nat.le_trans (List.length_filter_le _ _) (by rw [List.length_take]; exact Nat.min_le_left _ _)
theorem rests_none {s : Sc} {p : Pa} {ms : List Me} (e : ms.map Me.says = viewL s p) {af : Nat} (ha : 1 ≤ af) (h : restK ms ms.length = 0 ∨ restK ms ms.length = ms.length) : cuesL s p af = [] := by
  have hl : ms.length = s.bars.length := by have := congrArg List.length e; rwa [List.length_map, view_len] at this
  unfold restK at h
  rw [List.take_length] at h
  refine cues_none ha ?_
  rcases h with h | h
  · left
    intro b hb hp
    obtain ⟨m, hm, rfl⟩ := List.getElem_of_mem hb
    obtain ⟨hmm, hn⟩ := says_notes e hm
    rw [hp] at hn
    have h1 : ms[m] ∈ ms.filter (fun m => m.notes.isEmpty) := List.mem_filter.2 ⟨List.getElem_mem hmm, by rw [List.length_eq_zero_iff.1 hn]; rfl⟩
    rw [List.length_eq_zero_iff.1 h] at h1
    cases h1
  · right
    intro b hb
    obtain ⟨m, hm, rfl⟩ := List.getElem_of_mem hb
    obtain ⟨hmm, hn⟩ := says_notes e hm
    have h1 := (List.filter_eq_self.1 (List.Sublist.eq_of_length List.filter_sublist h)) _ (List.getElem_mem hmm)
    have h2 : ms[m].notes = [] := by simpa using h1
    rw [h2] at hn
    exact List.length_eq_zero_iff.1 hn.symm
/-- The measure of the cue before. -/
def lastI (cs : List Cu) (j : Nat) : Int := if h : 0 < j ∧ j ≤ cs.length then cs[j - 1].measure else -1
theorem lastI_succ {cs : List Cu} {j : Nat} (h : j < cs.length) : lastI cs (j + 1) = cs[j].measure := by
  unfold lastI
  rw [dif_pos ⟨by omega, by omega⟩]
  rfl
theorem lastI_lt {s : Sc} {p : Pa} {af : Nat} (ha : 1 ≤ af) {cs : List Cu} (e : cs.map Cu.says = cuesL s p af) {j : Nat} (h : j < cs.length) (h0 : 0 ≤ cs[j].measure) : lastI cs j < cs[j].measure := by
  unfold lastI
  split
  · rename_i hj
    have h1 := cues_rise s p af ha
    rw [← e, List.pairwise_map, List.pairwise_iff_getElem] at h1
    exact h1 (j - 1) j (by omega) h (by omega)
  · omega
set_option maxRecDepth 100000 in
set_option maxHeartbeats 8000000 in
theorem CueEntries_any (s : Sc) (q : Sp) (part after : Int) (w : World) (hs : ScAt w s q) (hE : Env w) :
    Calls Tryz.prog 8 #[.agg #[.int .i64 s.version, .slice q.ab s.bars.length q.cb, .slice q.ap s.parts.length q.cp, .slice q.an s.notes.length q.cn], .int .i64 part, .int .i64 after] w fun e w' => e = .returned (.bool true) ∧ Below w.heap.size w w' := by
  have HS := Lib.hid hs; have HE := Lib.hid hE
  obtain ⟨ab, cb, ap, cp, an, cn⟩ := q
  have HX1 := Lib.hid (heap_alloc_new w (.cells #[.int .i64 s.version, .slice (⟨ab, cb, ap, cp, an, cn⟩ : Sp).ab s.bars.length (⟨ab, cb, ap, cp, an, cn⟩ : Sp).cb, .slice (⟨ab, cb, ap, cp, an, cn⟩ : Sp).ap s.parts.length (⟨ab, cb, ap, cp, an, cn⟩ : Sp).cp, .slice (⟨ab, cb, ap, cp, an, cn⟩ : Sp).an s.notes.length (⟨ab, cb, ap, cp, an, cn⟩ : Sp).cn] 26))
  have HB := Lib.hid (below_box (w := w) (.cells #[.int .i64 s.version, .slice (⟨ab, cb, ap, cp, an, cn⟩ : Sp).ab s.bars.length (⟨ab, cb, ap, cp, an, cn⟩ : Sp).cb, .slice (⟨ab, cb, ap, cp, an, cn⟩ : Sp).ap s.parts.length (⟨ab, cb, ap, cp, an, cn⟩ : Sp).cp, .slice (⟨ab, cb, ap, cp, an, cn⟩ : Sp).an s.notes.length (⟨ab, cb, ap, cp, an, cn⟩ : Sp).cn] 26))
  have HFw := Lib.hid (fun W => RFew17_any s (⟨ab, cb, ap, cp, an, cn⟩ : Sp) W)
  clear hs hE
  dsimp only at *
  cases hfw : few17 s
  · rw [hfw] at HFw
    clear hfw
    go_enter Tryz.func8, Tryz.ntmps8; go_upto_region 1 with (fail); generalize w.alloc (.cells #[.int .i64 s.version, .slice (⟨ab, cb, ap, cp, an, cn⟩ : Sp).ab s.bars.length (⟨ab, cb, ap, cp, an, cn⟩ : Sp).cb, .slice (⟨ab, cb, ap, cp, an, cn⟩ : Sp).ap s.parts.length (⟨ab, cb, ap, cp, an, cn⟩ : Sp).cp, .slice (⟨ab, cb, ap, cp, an, cn⟩ : Sp).an s.notes.length (⟨ab, cb, ap, cp, an, cn⟩ : Sp).cn] 26) = W at *; have hc1 := box_cells HX1.out
    go_wp2_with (first | (go_at_call 13; refine (head17_any _ (HE.out.below HB.out)).mono ?_; rintro e w2 ⟨rfl, hb⟩; (try replace hb := drewB hb); replace HB := Lib.hid (HB.out.trans (hb.mono HB.out.size)); (try (replace HX1 := Lib.hid (blk_keep HX1.out hb); replace hc1 := box_cells HX1.out; replace hf1 := box_free HX1.out; replace hz1 := lt_blk HX1.out)); (try (replace HX2 := Lib.hid (blk_keep HX2.out hb); replace hc2 := box_cells HX2.out; replace hf2 := box_free HX2.out; replace hz2 := lt_blk HX2.out)); (try (replace HX4 := Lib.hid (blk_keep HX4.out hb); replace hc4 := box_cells HX4.out; replace hf4 := box_free HX4.out; replace hz4 := lt_blk HX4.out)); (try (replace HX10 := Lib.hid (blk_keep HX10.out hb); replace hc10 := box_cells HX10.out; replace hf10 := box_free HX10.out; replace hz10 := lt_blk HX10.out)); clear hb) | (go_at_call 14; refine (HFw.out _).mono ?_; rintro e w2 ⟨rfl, hb⟩; (try replace hb := drewB hb); replace HB := Lib.hid (HB.out.trans (hb.mono HB.out.size)); (try (replace HX1 := Lib.hid (blk_keep HX1.out hb); replace hc1 := box_cells HX1.out; replace hf1 := box_free HX1.out; replace hz1 := lt_blk HX1.out)); (try (replace HX2 := Lib.hid (blk_keep HX2.out hb); replace hc2 := box_cells HX2.out; replace hf2 := box_free HX2.out; replace hz2 := lt_blk HX2.out)); (try (replace HX4 := Lib.hid (blk_keep HX4.out hb); replace hc4 := box_cells HX4.out; replace hf4 := box_free HX4.out; replace hz4 := lt_blk HX4.out)); (try (replace HX10 := Lib.hid (blk_keep HX10.out hb); replace hc10 := box_cells HX10.out; replace hf10 := box_free HX10.out; replace hz10 := lt_blk HX10.out)); clear hb))
    go_ret
    exact ⟨rfl, HB.out⟩
  rw [hfw] at HFw
  have hf := (few17_few hfw).1
  have HC := Lib.hid (fun W (hb : Below w.heap.size w W) => CCues_any s (⟨ab, cb, ap, cp, an, cn⟩ : Sp) part after W hf (HS.out.below hb) (HE.out.below hb))
  have HFe := Lib.hid (fun (cs : List Cu) e => cuesR_few hf (part := part) (after := after) (cs := cs) e)
  clear hfw
  by_cases her : (cuesR s part after).2 = 0
  case neg =>
    have hd : ((cuesR s part after).2 != 0) = true := by simpa using her
    have hnil := cuesR_bad her
    rw [hnil] at HC
    clear her hf HFe hnil
    generalize (cuesR s part after).2 = er at *
    go_enter Tryz.func8, Tryz.ntmps8; go_upto_region 1 with (fail); generalize w.alloc (.cells #[.int .i64 s.version, .slice (⟨ab, cb, ap, cp, an, cn⟩ : Sp).ab s.bars.length (⟨ab, cb, ap, cp, an, cn⟩ : Sp).cb, .slice (⟨ab, cb, ap, cp, an, cn⟩ : Sp).ap s.parts.length (⟨ab, cb, ap, cp, an, cn⟩ : Sp).cp, .slice (⟨ab, cb, ap, cp, an, cn⟩ : Sp).an s.notes.length (⟨ab, cb, ap, cp, an, cn⟩ : Sp).cn] 26) = W at *; have hc1 := box_cells HX1.out
    go_upto_region 5 with (first | (go_at_call 13; refine (head17_any _ (HE.out.below HB.out)).mono ?_; rintro e w2 ⟨rfl, hb⟩; (try replace hb := drewB hb); replace HB := Lib.hid (HB.out.trans (hb.mono HB.out.size)); (try (replace HX1 := Lib.hid (blk_keep HX1.out hb); replace hc1 := box_cells HX1.out; replace hf1 := box_free HX1.out; replace hz1 := lt_blk HX1.out)); (try (replace HX2 := Lib.hid (blk_keep HX2.out hb); replace hc2 := box_cells HX2.out; replace hf2 := box_free HX2.out; replace hz2 := lt_blk HX2.out)); (try (replace HX4 := Lib.hid (blk_keep HX4.out hb); replace hc4 := box_cells HX4.out; replace hf4 := box_free HX4.out; replace hz4 := lt_blk HX4.out)); (try (replace HX10 := Lib.hid (blk_keep HX10.out hb); replace hc10 := box_cells HX10.out; replace hf10 := box_free HX10.out; replace hz10 := lt_blk HX10.out)); clear hb) | (go_at_call 14; refine (HFw.out _).mono ?_; rintro e w2 ⟨rfl, hb⟩; (try replace hb := drewB hb); replace HB := Lib.hid (HB.out.trans (hb.mono HB.out.size)); (try (replace HX1 := Lib.hid (blk_keep HX1.out hb); replace hc1 := box_cells HX1.out; replace hf1 := box_free HX1.out; replace hz1 := lt_blk HX1.out)); (try (replace HX2 := Lib.hid (blk_keep HX2.out hb); replace hc2 := box_cells HX2.out; replace hf2 := box_free HX2.out; replace hz2 := lt_blk HX2.out)); (try (replace HX4 := Lib.hid (blk_keep HX4.out hb); replace hc4 := box_cells HX4.out; replace hf4 := box_free HX4.out; replace hz4 := lt_blk HX4.out)); (try (replace HX10 := Lib.hid (blk_keep HX10.out hb); replace hc10 := box_cells HX10.out; replace hf10 := box_free HX10.out; replace hz10 := lt_blk HX10.out)); clear hb) | (go_at_call 15; refine (HC.out _ HB.out).mono ?_; rintro e w3 ⟨a3, c3, cs, rfl, hok3, hcu3, hsy3, hb⟩; have HC3 := Lib.hid hcu3; have HY3 := Lib.hid hsy3; clear hok3 hcu3 hsy3; (try replace hb := drewB hb); replace HB := Lib.hid (HB.out.trans (hb.mono HB.out.size)); (try (replace HX1 := Lib.hid (blk_keep HX1.out hb); replace hc1 := box_cells HX1.out; replace hf1 := box_free HX1.out; replace hz1 := lt_blk HX1.out)); (try (replace HX2 := Lib.hid (blk_keep HX2.out hb); replace hc2 := box_cells HX2.out; replace hf2 := box_free HX2.out; replace hz2 := lt_blk HX2.out)); (try (replace HX4 := Lib.hid (blk_keep HX4.out hb); replace hc4 := box_cells HX4.out; replace hf4 := box_free HX4.out; replace hz4 := lt_blk HX4.out)); (try (replace HX10 := Lib.hid (blk_keep HX10.out hb); replace hc10 := box_cells HX10.out; replace hf10 := box_free HX10.out; replace hz10 := lt_blk HX10.out)); clear hb))
    obtain rfl : cs = [] := List.map_eq_nil_iff.1 HY3.out
    simp only [List.length_nil]
    go_wp2
    go_ret
    exact ⟨rfl, HB.out⟩
  obtain ⟨p, hv, hp, ha1, ha2, hl⟩ := cuesR_ok her
  obtain ⟨hpm, rfl⟩ := mem_part hp
  rw [her] at HC
  obtain ⟨af, rfl⟩ : ∃ af : Nat, after = af := ⟨after.toNat, by omega⟩
  rw [Int.toNat_natCast] at hl
  have hafp : 1 ≤ af := by omega
  have HG := Lib.hid (fun W (hb : Below w.heap.size w W) => show Calls Tryz.prog 24 #[.agg #[.int .i64 s.version, .slice (⟨ab, cb, ap, cp, an, cn⟩ : Sp).ab s.bars.length (⟨ab, cb, ap, cp, an, cn⟩ : Sp).cb, .slice (⟨ab, cb, ap, cp, an, cn⟩ : Sp).ap s.parts.length (⟨ab, cb, ap, cp, an, cn⟩ : Sp).cp, .slice (⟨ab, cb, ap, cp, an, cn⟩ : Sp).an s.notes.length (⟨ab, cb, ap, cp, an, cn⟩ : Sp).cn], .int .i64 p.id] W (RetVE p.id (viewL s p) 0 W) from by have := VGet_any s (⟨ab, cb, ap, cp, an, cn⟩ : Sp) p.id W hf (HS.out.below hb) (HE.out.below hb); rwa [get_mem hv hpm] at this)
  have HSn := Lib.hid (fun (ms : List Me) (e : ms.map Me.says = viewL s p) (m : Nat) (hm : m < s.bars.length) => says_notes e hm)
  have HVl := Lib.hid (fun (ms : List Me) (e : ms.map Me.says = viewL s p) => show ms.length = s.bars.length from by have := congrArg List.length e; rwa [List.length_map, view_len] at this)
  have HNo := Lib.hid (fun (ms : List Me) (e : ms.map Me.says = viewL s p) h => rests_none e hafp h)
  have HLt := Lib.hid (fun (cs : List Cu) (e : cs.map Cu.says = cuesL s p af) (j : Nat) (h : j < cs.length) h0 => lastI_lt hafp e h h0)
  have HRe := Lib.hid (fun (c : CuP) (hc : c ∈ cuesL s p af) => cue_rests hafp hc)
  have HCf := Lib.hid (fun (cs : List Cu) (e : cs.map Cu.says = cuesL s p af) => HFe.out cs (by rw [hl]; exact e))
  rw [hl] at HC
  have hnb := hf.bars
  clear her hl hv hp hpm ha1 ha2 hf HFe
  generalize cuesL s p af = G at *
  go_enter Tryz.func8, Tryz.ntmps8; go_upto_region 1 with (fail); generalize w.alloc (.cells #[.int .i64 s.version, .slice (⟨ab, cb, ap, cp, an, cn⟩ : Sp).ab s.bars.length (⟨ab, cb, ap, cp, an, cn⟩ : Sp).cb, .slice (⟨ab, cb, ap, cp, an, cn⟩ : Sp).ap s.parts.length (⟨ab, cb, ap, cp, an, cn⟩ : Sp).cp, .slice (⟨ab, cb, ap, cp, an, cn⟩ : Sp).an s.notes.length (⟨ab, cb, ap, cp, an, cn⟩ : Sp).cn] 26) = W at *; have hc1 := box_cells HX1.out
  go_upto_region 7 with (first | (go_at_call 13; refine (head17_any _ (HE.out.below HB.out)).mono ?_; rintro e w2 ⟨rfl, hb⟩; (try replace hb := drewB hb); replace HB := Lib.hid (HB.out.trans (hb.mono HB.out.size)); (try (replace HX1 := Lib.hid (blk_keep HX1.out hb); replace hc1 := box_cells HX1.out; replace hf1 := box_free HX1.out; replace hz1 := lt_blk HX1.out)); (try (replace HX2 := Lib.hid (blk_keep HX2.out hb); replace hc2 := box_cells HX2.out; replace hf2 := box_free HX2.out; replace hz2 := lt_blk HX2.out)); (try (replace HX4 := Lib.hid (blk_keep HX4.out hb); replace hc4 := box_cells HX4.out; replace hf4 := box_free HX4.out; replace hz4 := lt_blk HX4.out)); (try (replace HX10 := Lib.hid (blk_keep HX10.out hb); replace hc10 := box_cells HX10.out; replace hf10 := box_free HX10.out; replace hz10 := lt_blk HX10.out)); clear hb) | (go_at_call 14; refine (HFw.out _).mono ?_; rintro e w2 ⟨rfl, hb⟩; (try replace hb := drewB hb); replace HB := Lib.hid (HB.out.trans (hb.mono HB.out.size)); (try (replace HX1 := Lib.hid (blk_keep HX1.out hb); replace hc1 := box_cells HX1.out; replace hf1 := box_free HX1.out; replace hz1 := lt_blk HX1.out)); (try (replace HX2 := Lib.hid (blk_keep HX2.out hb); replace hc2 := box_cells HX2.out; replace hf2 := box_free HX2.out; replace hz2 := lt_blk HX2.out)); (try (replace HX4 := Lib.hid (blk_keep HX4.out hb); replace hc4 := box_cells HX4.out; replace hf4 := box_free HX4.out; replace hz4 := lt_blk HX4.out)); (try (replace HX10 := Lib.hid (blk_keep HX10.out hb); replace hc10 := box_cells HX10.out; replace hf10 := box_free HX10.out; replace hz10 := lt_blk HX10.out)); clear hb) | (go_at_call 15; refine (HC.out _ HB.out).mono ?_; rintro e w3 ⟨a3, c3, cs, rfl, hok3, hcu3, hsy3, hb⟩; have HC3 := Lib.hid hcu3; have HY3 := Lib.hid hsy3; clear hok3 hcu3 hsy3; (try replace hb := drewB hb); replace HB := Lib.hid (HB.out.trans (hb.mono HB.out.size)); (try (replace HX1 := Lib.hid (blk_keep HX1.out hb); replace hc1 := box_cells HX1.out; replace hf1 := box_free HX1.out; replace hz1 := lt_blk HX1.out)); (try (replace HX2 := Lib.hid (blk_keep HX2.out hb); replace hc2 := box_cells HX2.out; replace hf2 := box_free HX2.out; replace hz2 := lt_blk HX2.out)); (try (replace HX4 := Lib.hid (blk_keep HX4.out hb); replace hc4 := box_cells HX4.out; replace hf4 := box_free HX4.out; replace hz4 := lt_blk HX4.out)); (try (replace HX10 := Lib.hid (blk_keep HX10.out hb); replace hc10 := box_cells HX10.out; replace hf10 := box_free HX10.out; replace hz10 := lt_blk HX10.out)); clear hb))
  obtain ⟨hcl, hcn⟩ := HCf.out cs HY3.out
  have HCn := Lib.hid hcn
  clear hcn
  go_upto_region 8 with (go_at_call 24; refine (HG.out _ HB.out).mono ?_; rintro e w5 ⟨av, capv, ms, rfl, hokv, hmev, hsyv, hb⟩; have HMe := Lib.hid hmev; have HSy := Lib.hid hsyv; clear hokv hmev hsyv; replace HC3 := Lib.hid (HC3.out.below hb); (try replace hb := drewB hb); replace HB := Lib.hid (HB.out.trans (hb.mono HB.out.size)); (try (replace HX1 := Lib.hid (blk_keep HX1.out hb); replace hc1 := box_cells HX1.out; replace hf1 := box_free HX1.out; replace hz1 := lt_blk HX1.out)); (try (replace HX2 := Lib.hid (blk_keep HX2.out hb); replace hc2 := box_cells HX2.out; replace hf2 := box_free HX2.out; replace hz2 := lt_blk HX2.out)); (try (replace HX4 := Lib.hid (blk_keep HX4.out hb); replace hc4 := box_cells HX4.out; replace hf4 := box_free HX4.out; replace hz4 := lt_blk HX4.out)); (try (replace HX10 := Lib.hid (blk_keep HX10.out hb); replace hc10 := box_cells HX10.out; replace hf10 := box_free HX10.out; replace hz10 := lt_blk HX10.out)); clear hb)
  have HX2 := Lib.hid (heap_alloc_new w5 (.cells #[.int .i64 p.id, .slice av ms.length capv] 44))
  have hb := below_box (w := w5) (.cells #[.int .i64 p.id, .slice av ms.length capv] 44)
  replace HC3 := Lib.hid (HC3.out.below hb); replace HMe := Lib.hid (HMe.out.below hb)
  (try replace hb := drewB hb); replace HB := Lib.hid (HB.out.trans (hb.mono HB.out.size)); (try (replace HX1 := Lib.hid (blk_keep HX1.out hb); replace hc1 := box_cells HX1.out; replace hf1 := box_free HX1.out; replace hz1 := lt_blk HX1.out)); (try (replace HX2 := Lib.hid (blk_keep HX2.out hb); replace hc2 := box_cells HX2.out; replace hf2 := box_free HX2.out; replace hz2 := lt_blk HX2.out)); (try (replace HX4 := Lib.hid (blk_keep HX4.out hb); replace hc4 := box_cells HX4.out; replace hf4 := box_free HX4.out; replace hz4 := lt_blk HX4.out)); (try (replace HX10 := Lib.hid (blk_keep HX10.out hb); replace hc10 := box_cells HX10.out; replace hf10 := box_free HX10.out; replace hz10 := lt_blk HX10.out)); clear hb
  generalize w5.alloc (.cells #[.int .i64 p.id, .slice av ms.length capv] 44) = W5 at *
  generalize w5.heap.size = vb at *
  have hc2 := box_cells HX2.out
  have hml := HVl.out ms HSy.out
  have hmf : ms.length ≤ 1000 := by omega
  have hq : ((ms.length : Int) != (s.bars.length : Int)) = false := by simp [hml]
  clear hml
  have HB5 := Lib.hid HB.out
  clear HG HB
  go_wp2
  clear hq hc1 hf1 hz1 hc2
  go_loopw [12, 58] (fun s12 s58 wi => ∃ k : Nat, k ≤ ms.length ∧ s58 = .int .i64 k ∧ s12 = .int .i64 ((restK ms k : Nat) : Int) ∧ Below W5.heap.size W5 wi) (fun _ s58 _ => ms.length - (intOf s58).toNat)
  case atStart => exact ⟨0, Nat.zero_le _, rfl, rfl, Below.refl _ _⟩
  case round =>
    obtain ⟨k, hk, rfl, rfl, hbw⟩ := hrel
    have HBe := Lib.hid hbw
    clear hbw
    by_cases hlt : k < ms.length
    · obtain ⟨mbk, moff, hqm, _, m0, m1, m2, m3, m4⟩ := (HMe.out.below HBe.out).get17 k hlt
      subst hqm
      have HRk := Lib.hid (restK_succ hlt)
      have hrk := restK_le ms k
      generalize ms[k] = M at *
      generalize restK ms k = R at *
      go_upto_region 14 with (fail)
      have HX4 := Lib.hid (heap_alloc_new wr (.cells #[.int .i64 M.bar, .int .i64 M.key, .int .i64 M.len.n, .int .i64 M.len.d, .slice M.na M.notes.length M.ncap] 65))
      have hb := below_box (w := wr) (.cells #[.int .i64 M.bar, .int .i64 M.key, .int .i64 M.len.n, .int .i64 M.len.d, .slice M.na M.notes.length M.ncap] 65)
      replace HBe := Lib.hid (HBe.out.trans (hb.mono HBe.out.size))
      clear hb m0 m1 m2 m3 m4
      generalize wr.alloc (.cells #[.int .i64 M.bar, .int .i64 M.key, .int .i64 M.len.n, .int .i64 M.len.d, .slice M.na M.notes.length M.ncap] 65) = W7 at *
      have hcm := box_cells HX4.out
      by_cases hme : M.notes = []
      · have hz : ((M.notes.length : Int) == 0) = true := by simp [hme]
        have HR1 := Lib.hid (show restK ms (k + 1) = R + 1 by have := HRk.out; rwa [if_pos hme] at this)
        clear hme HRk
        go_wp2
        exact ⟨⟨k + 1, by omega, by go_num, by rw [HR1.out]; go_num, HBe.out⟩, by simp [intOf]; omega⟩
      · have hz : ((M.notes.length : Int) == 0) = false := by simp [hme]
        have HR1 := Lib.hid (show restK ms (k + 1) = R by have := HRk.out; rwa [if_neg hme] at this)
        clear hme HRk
        go_wp2
        exact ⟨⟨k + 1, by omega, by go_num, by rw [HR1.out], HBe.out⟩, by simp [intOf]; omega⟩
    · obtain rfl : k = ms.length := by omega
      have HNn := Lib.hid (HNo.out ms HSy.out)
      have hrk := restK_le ms ms.length
      have hc1 := box_cells (blk_keep HX1.out HBe.out); have hc2 := box_cells (blk_keep HX2.out HBe.out)
      generalize restK ms ms.length = R at *
      by_cases hR : R = 0 ∨ R = ms.length
      · have hG := HNn.out hR
        have HCs := Lib.hid (show cs = [] from List.map_eq_nil_iff.1 (by rw [HY3.out, hG]))
        clear hG
        obtain rfl := HCs.out
        simp only [List.length_nil]
        rcases hR with rfl | rfl
        · go_wp2
          go_ret
          exact ⟨rfl, HB5.out.trans (HBe.out.mono HB5.out.size)⟩
        · by_cases hm0 : ms.length = 0
          · have hz : ((ms.length : Int) == 0) = true := by simp [hm0]
            clear hm0
            go_wp2
            go_ret
            exact ⟨rfl, HB5.out.trans (HBe.out.mono HB5.out.size)⟩
          · have hz : ((ms.length : Int) == 0) = false := by simp [hm0]
            clear hm0
            go_wp2
            go_ret
            exact ⟨rfl, HB5.out.trans (HBe.out.mono HB5.out.size)⟩
      · have hR1 : ((R : Int) == 0) = false := by simp; omega
        have hR2 : ((R : Int) == (ms.length : Int)) = false := by simp; omega
        clear hR HNn
        go_wp2
        have HBf := Lib.hid HBe.out
        obtain ⟨W9, hW9⟩ : ∃ x, x = wr := ⟨_, rfl⟩
        rw [← hW9] at HBf
        clear hR1 hR2 hc1 hc2
        go_loopw [15, 86] (fun s15 s86 wj => ∃ j : Nat, j ≤ cs.length ∧ s86 = .int .i64 j ∧ s15 = .int .i64 (lastI cs j) ∧ Below W5.heap.size W5 wj) (fun _ s86 _ => cs.length - (intOf s86).toNat)
        case atStart => exact ⟨0, Nat.zero_le _, rfl, rfl, HBe.out⟩
        case round =>
          clear HBe HBf
          obtain ⟨j, hj, rfl, rfl, hbw⟩ := hrel
          have HBe := Lib.hid hbw
          clear hbw
          have hc2 := box_cells (blk_keep HX2.out HBe.out)
          by_cases hlt : j < cs.length
          · obtain ⟨cbk, coff, hqc, _, d0, d1, d2⟩ := (HC3.out.below HBe.out).get j hlt
            subst hqc
            obtain ⟨m, h1, hme, h2, h3, h4⟩ := HRe.out cs[j].says (by rw [← HY3.out]; exact List.mem_map_of_mem (List.getElem_mem hlt))
            have hme2 : cs[j].measure = (m : Int) := hme
            have hla := HLt.out cs HY3.out j hlt (by rw [hme2]; omega)
            have HLs := Lib.hid (lastI_succ hlt)
            have h42 : cs[j].notes ≠ [] := h4
            obtain ⟨hm1, hn1⟩ := HSn.out ms HSy.out m (by omega)
            obtain ⟨hm2, hn2⟩ := HSn.out ms HSy.out (m + 1) h1
            rw [h2] at hn1
            rw [List.length_nil] at hn1
            have hn3 : ms[m + 1].notes.length ≠ 0 := by rw [hn2]; intro e; exact h3 (List.length_eq_zero_iff.1 e)
            obtain ⟨mbk, moff, hqm, _, _, _, _, _, m4⟩ := (HMe.out.below HBe.out).get17 m hm1
            obtain ⟨mbk2, moff2, hqm2, _, _, _, _, _, n4⟩ := (HMe.out.below HBe.out).get17 (m + 1) hm2
            subst hqm
            cases hqm2
            rw [hn1] at m4
            have hw1 : (m : Int) + 1 = ((m + 1 : Nat) : Int) := by omega
            clear h3 hn2 h2
            generalize ms[m] = M at *
            generalize ms[m + 1] = M2 at *
            generalize cs[j] = c at *
            generalize lastI cs j = L1 at *
            generalize m + 1 = m2 at *
            have hz1 : ¬ ((m : Int) ≤ L1) := by rw [← hme2]; omega
            have hwm : IntKind.i64.wrap (m2 : Int) = (m2 : Int) := IntWalk.i64_in _ (by omega)
            have hz2 : ¬ ((ms.length : Int) ≤ (m2 : Int)) := by omega
            have hz3 : (m : Int) < (ms.length : Int) := by omega
            have hz4 : (m2 : Int) < (ms.length : Int) := by omega
            have hz5 : ((M2.notes.length : Int) == 0) = false := by simp; intro e; exact hn3 (by rw [e]; rfl)
            have hz6 : ((c.notes.length : Int) == 0) = false := by simp [h42]
            clear hme h4 h42 hn1 hn3 hla
            go_upto_region 23 with (fail)
            have HX4 := Lib.hid (heap_alloc_new wr (.cells #[.int .i64 (m : Int), .int .i64 c.part, .slice c.na c.notes.length c.ncap] 29))
            have hb := below_box (w := wr) (.cells #[.int .i64 (m : Int), .int .i64 c.part, .slice c.na c.notes.length c.ncap] 29)
            replace HBe := Lib.hid (HBe.out.trans (hb.mono HBe.out.size))
            replace m4 := keepE m4 hb; replace n4 := keepE n4 hb
            clear hb d0 d1 d2 hc2
            have hc2 := box_cells (blk_keep HX2.out HBe.out)
            generalize wr.alloc (.cells #[.int .i64 (m : Int), .int .i64 c.part, .slice c.na c.notes.length c.ncap] 29) = W7 at *
            generalize wr.heap.size = cub at *
            have hcc := box_cells HX4.out
            rw [hme2] at HLs
            go_wp2
            exact ⟨⟨j + 1, by omega, by go_num, by rw [HLs.out], HBe.out⟩, by simp [intOf]; omega⟩
          · go_wp2
            go_ret
            exact ⟨rfl, HB5.out.trans (HBe.out.mono HB5.out.size)⟩
end Go.Proofs.YtppjbnnnppffaaaGreatDoor
