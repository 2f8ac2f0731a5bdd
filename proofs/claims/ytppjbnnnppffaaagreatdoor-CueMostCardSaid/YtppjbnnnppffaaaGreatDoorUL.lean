/- Texts of this seat, laid together: ScR17, ScR17b, ScPure18, ScR17d, ScCueD. -/
import Derived.Test.YtppjbnnnppffaaaGreatDoorUJ
import Derived.Test.YtppjbnnnppffaaaGreatDoorUB
import Derived.Test.YtppjbnnnppffaaaGreatDoorUG
import Derived.Test.YtppjbnnnppffaaaGreatDoorUF

/- The reference of layer 17: Notes, Entry: walked. -/
namespace Go.Proofs.YtppjbnnnppffaaaGreatDoor
set_option linter.unusedSimpArgs false
set_option linter.unusedVariables false
open Go.RowKit Go.Sort Go.Shelf

theorem inBar_succ {b : Ba} {L : List No} {m : Nat} (h : m < L.length) : inBar b (L.take (m + 1)) = if L[m].bar = b.id then inBar b (L.take m) ++ [L[m]] else inBar b (L.take m) := by
  rw [List.take_succ_eq_append_getElem h]
  unfold inBar
  rw [List.filter_append]
  by_cases h : L[m].bar = b.id <;> simp [h]
theorem inBar_len (b : Ba) (L : List No) : (inBar b L).length ≤ L.length := List.length_filter_le _ _
/-- What a part plays is not more than there is. -/
theorem playedL_len (s : Sc) (p : Pa) : (playedL s p).length ≤ s.notes.length := by
  unfold playedL; rw [List.length_map]; exact List.length_filter_le _ _
def OctOk (s : Sc) (p : Pa) : Prop := ∀ x ∈ s.notes, -1000 ≤ x.pitch.o + p.octave ∧ x.pitch.o + p.octave ≤ 1000
set_option maxRecDepth 100000 in
set_option maxHeartbeats 4000000 in
theorem RNotes17_any (s : Sc) (q : Sp) (p : Pa) (k : Nat) (w : World) (hf : ScFew s) (hoct : OctOk s p) (hs : ScAt w s q) (hk : k < s.bars.length) :
    Calls Tryz.prog 108 #[.agg #[.int .i64 s.version, .slice q.ab s.bars.length q.cb, .slice q.ap s.parts.length q.cp, .slice q.an s.notes.length q.cn], .agg #[.int .i64 p.id, .int .i64 p.section_, .int .i64 p.of, .int .i64 p.octave, .int .i64 p.desks, .int .i64 p.shift.x, .int .i64 p.shift.y, .int .i64 p.low.s, .int .i64 p.low.a, .int .i64 p.low.o, .int .i64 p.high.s, .int .i64 p.high.a, .int .i64 p.high.o], .int .i64 k] w (RetN (playsB s p s.bars[k]) w) := by
  obtain ⟨ab, cb, ap, cp, an, cn⟩ := q
  obtain ⟨x1, x2, hb⟩ := box2 (w := w) (A := .cells #[.int .i64 s.version, .slice (⟨ab, cb, ap, cp, an, cn⟩ : Sp).ab s.bars.length (⟨ab, cb, ap, cp, an, cn⟩ : Sp).cb, .slice (⟨ab, cb, ap, cp, an, cn⟩ : Sp).ap s.parts.length (⟨ab, cb, ap, cp, an, cn⟩ : Sp).cp, .slice (⟨ab, cb, ap, cp, an, cn⟩ : Sp).an s.notes.length (⟨ab, cb, ap, cp, an, cn⟩ : Sp).cn] 26) (B := .cells #[.int .i64 p.id, .int .i64 p.section_, .int .i64 p.of, .int .i64 p.octave, .int .i64 p.desks, .int .i64 p.shift.x, .int .i64 p.shift.y, .int .i64 p.low.s, .int .i64 p.low.a, .int .i64 p.low.o, .int .i64 p.high.s, .int .i64 p.high.a, .int .i64 p.high.o] 59) (Below.refl _ _)
  have HX1 := Lib.hid x1; have HX2 := Lib.hid x2; have HB := Lib.hid hb; clear x1 x2 hb
  have HPl := Lib.hid (fun W (hb : Below w.heap.size w W) => RPlayed_any s (⟨ab, cb, ap, cp, an, cn⟩ : Sp) p W hf.notes hoct (hs.notes.below hb))
  have HBa := Lib.hid (fun W (hb : Below w.heap.size w W) => hs.bars.below hb)
  have hll := Nat.le_trans (playedL_len s p) hf.notes
  have hnb := hf.bars
  unfold playsB
  clear hf hoct hs
  dsimp only at *
  generalize playedL s p = L at *
  go_enter Tryz.func108, Tryz.ntmps108
  go_upto_region 1 with (fail)
  generalize (w.alloc (.cells #[.int .i64 s.version, .slice (⟨ab, cb, ap, cp, an, cn⟩ : Sp).ab s.bars.length (⟨ab, cb, ap, cp, an, cn⟩ : Sp).cb, .slice (⟨ab, cb, ap, cp, an, cn⟩ : Sp).ap s.parts.length (⟨ab, cb, ap, cp, an, cn⟩ : Sp).cp, .slice (⟨ab, cb, ap, cp, an, cn⟩ : Sp).an s.notes.length (⟨ab, cb, ap, cp, an, cn⟩ : Sp).cn] 26)).alloc (.cells #[.int .i64 p.id, .int .i64 p.section_, .int .i64 p.of, .int .i64 p.octave, .int .i64 p.desks, .int .i64 p.shift.x, .int .i64 p.shift.y, .int .i64 p.low.s, .int .i64 p.low.a, .int .i64 p.low.o, .int .i64 p.high.s, .int .i64 p.high.a, .int .i64 p.high.o] 59) = W at *
  have hc1 := box_cells HX1.out; have hc2 := box_cells HX2.out
  go_upto_region 3 with (go_at_call 116; refine (HPl.out _ HB.out).mono ?_; rintro e w3 ⟨aL, cL, rfl, _, hnL, hb⟩; (try replace hb := drewB hb); replace HB := Lib.hid (HB.out.trans (hb.mono HB.out.size)); (try (replace HX1 := Lib.hid (blk_keep HX1.out hb); replace hc1 := box_cells HX1.out; replace hf1 := box_free HX1.out; replace hz1 := lt_blk HX1.out)); (try (replace HX2 := Lib.hid (blk_keep HX2.out hb); replace hc2 := box_cells HX2.out; replace hf2 := box_free HX2.out; replace hz2 := lt_blk HX2.out)); (try (replace HX10 := Lib.hid (blk_keep HX10.out hb); replace hc10 := box_cells HX10.out; replace hf10 := box_free HX10.out; replace hz10 := lt_blk HX10.out)); clear hb)
  try simp only [List.length_map]
  have HL := Lib.hid (fun W (hb : Below w3.heap.size w3 W) => show NoAt W aL L from SlAt.below hnL hb)
  have HW3 := Lib.hid HB.out
  have hkb : (k : Int) < (s.bars.length : Int) := by omega
  clear hnL hc2 hf2 hz2 HX2 HB
  go_wp2
  clear hc1 hf1 hz1
  go_loopw [7, 9] (fun s7 s9 wi => ∃ m : Nat, m ≤ L.length ∧ s9 = .int .i64 m ∧ OwnR wi w3.heap.size 73 12 s7 ((inBar s.bars[k] (L.take m)).map No.cells) ∧ Below w3.heap.size w3 wi) (fun _ s9 _ => L.length - (intOf s9).toNat)
  case atStart => exact ⟨0, Nat.zero_le _, rfl, by simpa [inBar] using OwnR.nil _ _ _ _, Below.refl _ _⟩
  case round =>
    obtain ⟨m, hm, rfl, ho, hb⟩ := hrel
    have HO := Lib.hid ho; have HB := Lib.hid hb
    clear ho hb
    have hs1 : wr.cell? ⟨w.heap.size, 1, none⟩ = some (.slice ab s.bars.length cb) := box_cells (blk_keep HX1.out HB.out) 1
    by_cases hlt : m < L.length
    · have HSt := Lib.hid (inBar_succ (b := s.bars[k]) hlt)
      have hl0 := Nat.le_trans (inBar_len s.bars[k] (L.take m)) (by rw [List.length_take]; omega : (L.take m).length ≤ 1000)
      obtain ⟨b, off, hqa, _, c0, c1, c2, c3, c4, c5, c6, c7, c8, c9, c10, c11⟩ := (HL.out _ HB.out).get m hlt
      obtain ⟨bb, boff, hqb, _, d0, _, _, _⟩ := (HBa.out _ (HW3.out.trans (HB.out.mono HW3.out.size))).get k hk
      subst hqa; subst hqb
      generalize inBar s.bars[k] (L.take m) = L0 at *
      generalize s.bars[k] = bar at *
      generalize L[m] = x at *
      go_upto_region 6 with (fail)
      go_quiet (fail)
      have hb := below_drewN (Below.refl wr.heap.size wr) nq
      replace HO := Lib.hid (HO.out.below hb); replace HB := Lib.hid (HB.out.trans (hb.mono HB.out.size))
      replace c0 := keepE c0 hb; replace c1 := keepE c1 hb; replace c2 := keepE c2 hb; replace c3 := keepE c3 hb; replace c4 := keepE c4 hb; replace c5 := keepE c5 hb; replace c6 := keepE c6 hb; replace c7 := keepE c7 hb; replace c8 := keepE c8 hb; replace c9 := keepE c9 hb; replace c10 := keepE c10 hb; replace c11 := keepE c11 hb
      clear hb hs1 d0
      generalize wr.drewN nq = W1 at *
      by_cases hx : x.bar = bar.id
      · have hd : (x.bar == bar.id) = true := by simpa using hx
        have HS2 := Lib.hid (by have := HSt.out; rwa [if_pos hx] at this)
        clear hx HSt
        go_wp2_with (at_builtin; go_must (refine appE eltNo rfl (.tmp 31) (.tmp 36) rfl w3.heap.size _ L0 rfl (HO.out.below (below_box _)) _ _ _ [x] rfl rfl (fun e => by cases e) (eltNo.new _ _ _ _ rfl) (by simp; omega) (by have := HB.out.size; simp; omega) ?_); intro v5 w5 ho5 hg5)
        have HB3 := Lib.hid (below_grown (HB.out.alloc HB.out.size _) (HO.out.below (below_box _)) (by have := HB.out.size; simp; omega) hg5)
        exact ⟨⟨m + 1, by omega, by go_num, by rw [HS2.out]; exact ho5, HB3.out⟩, by simp [intOf]; omega⟩
      · have hd : (x.bar == bar.id) = false := by simpa using hx
        have HS2 := Lib.hid (by have := HSt.out; rwa [if_neg hx] at this)
        clear hx HSt
        go_wp2
        exact ⟨⟨m + 1, by omega, by go_num, by rw [HS2.out]; exact HO.out, HB.out⟩, by simp [intOf]; omega⟩
    · obtain rfl : m = L.length := by omega
      rw [List.take_length] at HO
      obtain ⟨a9, c9, e9, hk9, hs9⟩ := HO.out.slAt
      rw [List.length_map] at e9 hk9
      subst e9
      have HK9 := Lib.hid hk9; have HS9 := Lib.hid hs9
      clear hk9 hs9
      go_wp2
      go_ret
      exact ⟨_, _, rfl, HK9.out, HS9.out, HW3.out.trans (HB.out.mono HW3.out.size)⟩
theorem entry_early {l : List Bool} {after i : Nat} (h : i < after) : entryB l after i = false := by
  unfold entryB
  rw [Bool.and_eq_false_iff]; right
  rw [decide_eq_false_iff_not]
  intro h2
  have := rests_le l i
  omega
theorem entry_rest {l : List Bool} {after i : Nat} (h : l.getD i false = false) : entryB l after i = false := by
  unfold entryB; rw [h]; rfl
theorem entry_busy {l : List Bool} {after i j : Nat} (h1 : i - after ≤ j) (h2 : j < i) (h : l.getD j false = true) : entryB l after i = false := by
  unfold entryB
  rw [Bool.and_eq_false_iff]; right
  rw [decide_eq_false_iff_not, rests_iff]
  intro ⟨_, h3⟩
  rw [h3 j h1 h2] at h; cases h
theorem entry_done {l : List Bool} {after i : Nat} (h0 : after ≤ i) (h : l.getD i false = true) (h2 : ∀ j, i - after ≤ j → j < i → l.getD j false = false) : entryB l after i = true := by
  unfold entryB
  rw [h, Bool.true_and, decide_eq_true_eq, rests_iff]
  exact ⟨h0, h2⟩
set_option maxRecDepth 100000 in
set_option maxHeartbeats 4000000 in
theorem REntry_any (s : Sc) (q : Sp) (p : Pa) (i after : Nat) (w : World) (hf : ScFew s) (hoct : OctOk s p) (hs : ScAt w s q) (hi : i < s.bars.length) (ha : after ≤ 4000) :
    Calls Tryz.prog 52 #[.agg #[.int .i64 s.version, .slice q.ab s.bars.length q.cb, .slice q.ap s.parts.length q.cp, .slice q.an s.notes.length q.cn], .agg #[.int .i64 p.id, .int .i64 p.section_, .int .i64 p.of, .int .i64 p.octave, .int .i64 p.desks, .int .i64 p.shift.x, .int .i64 p.shift.y, .int .i64 p.low.s, .int .i64 p.low.a, .int .i64 p.low.o, .int .i64 p.high.s, .int .i64 p.high.a, .int .i64 p.high.o], .int .i64 i, .int .i64 after] w fun e w' => e = .returned (.bool (entryB (busyL s p) after i)) ∧ Below w.heap.size w w' := by
  obtain ⟨ab, cb, ap, cp, an, cn⟩ := q
  obtain ⟨x1, x2, hb⟩ := box2 (w := w) (A := .cells #[.int .i64 s.version, .slice (⟨ab, cb, ap, cp, an, cn⟩ : Sp).ab s.bars.length (⟨ab, cb, ap, cp, an, cn⟩ : Sp).cb, .slice (⟨ab, cb, ap, cp, an, cn⟩ : Sp).ap s.parts.length (⟨ab, cb, ap, cp, an, cn⟩ : Sp).cp, .slice (⟨ab, cb, ap, cp, an, cn⟩ : Sp).an s.notes.length (⟨ab, cb, ap, cp, an, cn⟩ : Sp).cn] 26) (B := .cells #[.int .i64 p.id, .int .i64 p.section_, .int .i64 p.of, .int .i64 p.octave, .int .i64 p.desks, .int .i64 p.shift.x, .int .i64 p.shift.y, .int .i64 p.low.s, .int .i64 p.low.a, .int .i64 p.low.o, .int .i64 p.high.s, .int .i64 p.high.a, .int .i64 p.high.o] 59) (Below.refl _ _)
  have HX1 := Lib.hid x1; have HX2 := Lib.hid x2; have HB := Lib.hid hb; clear x1 x2 hb
  have HN := Lib.hid (fun (k : Nat) (hk : k < s.bars.length) W (hb : Below w.heap.size w W) => RNotes17_any s (⟨ab, cb, ap, cp, an, cn⟩ : Sp) p k W hf hoct (hs.below hb) hk)
  have HBu := Lib.hid (fun (k : Nat) (hk : k < s.bars.length) => busy_get (p := p) hk)
  have hnb := hf.bars
  clear hf hoct hs
  dsimp only at *
  have hib : (i : Int) < (s.bars.length : Int) := by omega
  have hib2 : ¬ ((s.bars.length : Int) ≤ (i : Int)) := by omega
  have HNi := Lib.hid (HN.out i hi); have HBi := Lib.hid (HBu.out i hi)
  by_cases h1 : i < after
  · rw [entry_early h1]
    have hd : (i : Int) < (after : Int) := by omega
    clear h1
    go_enter Tryz.func52, Tryz.ntmps52
    go_upto_region 1 with (fail)
    generalize (w.alloc (.cells #[.int .i64 s.version, .slice (⟨ab, cb, ap, cp, an, cn⟩ : Sp).ab s.bars.length (⟨ab, cb, ap, cp, an, cn⟩ : Sp).cb, .slice (⟨ab, cb, ap, cp, an, cn⟩ : Sp).ap s.parts.length (⟨ab, cb, ap, cp, an, cn⟩ : Sp).cp, .slice (⟨ab, cb, ap, cp, an, cn⟩ : Sp).an s.notes.length (⟨ab, cb, ap, cp, an, cn⟩ : Sp).cn] 26)).alloc (.cells #[.int .i64 p.id, .int .i64 p.section_, .int .i64 p.of, .int .i64 p.octave, .int .i64 p.desks, .int .i64 p.shift.x, .int .i64 p.shift.y, .int .i64 p.low.s, .int .i64 p.low.a, .int .i64 p.low.o, .int .i64 p.high.s, .int .i64 p.high.a, .int .i64 p.high.o] 59) = W at *
    have hc1 := box_cells HX1.out; have hc2 := box_cells HX2.out
    go_wp2
    go_ret
    exact ⟨rfl, HB.out⟩
  have hd : ¬ (i : Int) < (after : Int) := by omega
  by_cases h2 : playsB s p s.bars[i] = []
  · rw [entry_rest (by rw [HBi.out, h2]; rfl)]
    rw [h2] at HNi
    clear h2
    go_enter Tryz.func52, Tryz.ntmps52
    go_upto_region 1 with (fail)
    generalize (w.alloc (.cells #[.int .i64 s.version, .slice (⟨ab, cb, ap, cp, an, cn⟩ : Sp).ab s.bars.length (⟨ab, cb, ap, cp, an, cn⟩ : Sp).cb, .slice (⟨ab, cb, ap, cp, an, cn⟩ : Sp).ap s.parts.length (⟨ab, cb, ap, cp, an, cn⟩ : Sp).cp, .slice (⟨ab, cb, ap, cp, an, cn⟩ : Sp).an s.notes.length (⟨ab, cb, ap, cp, an, cn⟩ : Sp).cn] 26)).alloc (.cells #[.int .i64 p.id, .int .i64 p.section_, .int .i64 p.of, .int .i64 p.octave, .int .i64 p.desks, .int .i64 p.shift.x, .int .i64 p.shift.y, .int .i64 p.low.s, .int .i64 p.low.a, .int .i64 p.low.o, .int .i64 p.high.s, .int .i64 p.high.a, .int .i64 p.high.o] 59) = W at *
    have hc1 := box_cells HX1.out; have hc2 := box_cells HX2.out
    go_wp2_with (go_at_call 108; refine (HNi.out _ HB.out).mono ?_; rintro e w3 ⟨aL, cL, rfl, _, hnL, hb⟩; clear hnL; (try replace hb := drewB hb); replace HB := Lib.hid (HB.out.trans (hb.mono HB.out.size)); (try (replace HX1 := Lib.hid (blk_keep HX1.out hb); replace hc1 := box_cells HX1.out; replace hf1 := box_free HX1.out; replace hz1 := lt_blk HX1.out)); (try (replace HX2 := Lib.hid (blk_keep HX2.out hb); replace hc2 := box_cells HX2.out; replace hf2 := box_free HX2.out; replace hz2 := lt_blk HX2.out)); (try (replace HX10 := Lib.hid (blk_keep HX10.out hb); replace hc10 := box_cells HX10.out; replace hf10 := box_free HX10.out; replace hz10 := lt_blk HX10.out)); clear hb)
    go_ret
    exact ⟨rfl, HB.out⟩
  have hbi : (busyL s p).getD i false = true := by rw [HBi.out]; cases hp : playsB s p s.bars[i] with | nil => exact absurd hp h2 | cons _ _ => rfl
  have hl0 : ((( playsB s p s.bars[i]).length : Int) == 0) = false := by
    cases hp : playsB s p s.bars[i] with
    | nil => exact absurd hp h2
    | cons _ _ => simp; omega
  have HDn := Lib.hid (fun h => entry_done (l := busyL s p) (after := after) (i := i) (by omega) hbi h)
  have HBz := Lib.hid (fun (j : Nat) h3 h4 h => entry_busy (l := busyL s p) (after := after) (i := i) (j := j) h3 h4 h)
  generalize entryB (busyL s p) after i = R at *
  clear h2 hbi HBi
  generalize playsB s p s.bars[i] = Li at *
  go_enter Tryz.func52, Tryz.ntmps52
  go_upto_region 1 with (fail)
  generalize (w.alloc (.cells #[.int .i64 s.version, .slice (⟨ab, cb, ap, cp, an, cn⟩ : Sp).ab s.bars.length (⟨ab, cb, ap, cp, an, cn⟩ : Sp).cb, .slice (⟨ab, cb, ap, cp, an, cn⟩ : Sp).ap s.parts.length (⟨ab, cb, ap, cp, an, cn⟩ : Sp).cp, .slice (⟨ab, cb, ap, cp, an, cn⟩ : Sp).an s.notes.length (⟨ab, cb, ap, cp, an, cn⟩ : Sp).cn] 26)).alloc (.cells #[.int .i64 p.id, .int .i64 p.section_, .int .i64 p.of, .int .i64 p.octave, .int .i64 p.desks, .int .i64 p.shift.x, .int .i64 p.shift.y, .int .i64 p.low.s, .int .i64 p.low.a, .int .i64 p.low.o, .int .i64 p.high.s, .int .i64 p.high.a, .int .i64 p.high.o] 59) = W at *
  have hc1 := box_cells HX1.out; have hc2 := box_cells HX2.out
  go_upto_region 3 with (go_at_call 108; refine (HNi.out _ HB.out).mono ?_; rintro e w3 ⟨aL, cL, rfl, _, hnL, hb⟩; clear hnL; (try replace hb := drewB hb); replace HB := Lib.hid (HB.out.trans (hb.mono HB.out.size)); (try (replace HX1 := Lib.hid (blk_keep HX1.out hb); replace hc1 := box_cells HX1.out; replace hf1 := box_free HX1.out; replace hz1 := lt_blk HX1.out)); (try (replace HX2 := Lib.hid (blk_keep HX2.out hb); replace hc2 := box_cells HX2.out; replace hf2 := box_free HX2.out; replace hz2 := lt_blk HX2.out)); (try (replace HX10 := Lib.hid (blk_keep HX10.out hb); replace hc10 := box_cells HX10.out; replace hf10 := box_free HX10.out; replace hz10 := lt_blk HX10.out)); clear hb)
  have HB3 := Lib.hid HB.out
  have hsub : ((i : Int) - (after : Int)) = ((i - after : Nat) : Int) := by omega
  go_wp2
  clear hc1 hf1 hz1 hc2 hf2 hz2 HNi HB
  go_loopw [9] (fun s9 wi => ∃ j : Nat, i - after ≤ j ∧ j ≤ i ∧ s9 = .int .i64 j ∧ (∀ t, i - after ≤ t → t < j → (busyL s p).getD t false = false) ∧ Below w3.heap.size w3 wi) (fun s9 _ => i - (intOf s9).toNat)
  case atStart => exact ⟨i - after, Nat.le_refl _, by omega, by go_num, fun t h1 h2 => by omega, Below.refl _ _⟩
  case round =>
    obtain ⟨j, hj1, hj2, rfl, hall, hb⟩ := hrel
    have HA := Lib.hid hall; have HB := Lib.hid hb
    clear hall hb hsub
    have HY1 := Lib.hid (blk_keep HX1.out HB.out); have HY2 := Lib.hid (blk_keep HX2.out HB.out)
    have hc1 := box_cells HY1.out; have hc2 := box_cells HY2.out
    by_cases hlt : j < i
    · have hjb : j < s.bars.length := by omega
      have HNj := Lib.hid (HN.out j hjb); have HBj := Lib.hid (HBu.out j hjb)
      have HBy := Lib.hid (HBz.out j hj1 hlt)
      cases hp : playsB s p s.bars[j] with
      | nil =>
        rw [hp] at HNj HBj
        have HA2 := Lib.hid (show ∀ t, i - after ≤ t → t < j + 1 → (busyL s p).getD t false = false from fun t h1 h2 => by
          by_cases e : t = j
          · rw [e, HBj.out]; rfl
          · exact HA.out t h1 (by omega))
        clear hp
        go_wp2_with (go_at_call 108; refine (HNj.out _ (HB3.out.trans (HB.out.mono HB3.out.size))).mono ?_; rintro e w4 ⟨aL, cL, rfl, _, hnL, hb⟩; clear hnL; replace HB := Lib.hid (HB.out.trans (hb.mono HB.out.size)); clear hb)
        exact ⟨⟨j + 1, by omega, by omega, by go_num, HA2.out, HB.out⟩, by simp [intOf]; omega⟩
      | cons y l =>
        rw [hp] at HNj HBj
        have hR := HBy.out (by rw [HBj.out]; rfl)
        have hpos : (0 : Int) < (((y :: l).length : Nat) : Int) := by simp <;> omega
        have HRr := Lib.hid hR
        clear hp hR HBj HBy
        generalize y :: l = Lj at *
        go_wp2_with (go_at_call 108; refine (HNj.out _ (HB3.out.trans (HB.out.mono HB3.out.size))).mono ?_; rintro e w4 ⟨aL, cL, rfl, _, hnL, hb⟩; clear hnL; replace HB := Lib.hid (HB.out.trans (hb.mono HB.out.size)); clear hb)
        go_ret
        exact ⟨ret_bool HRr.out.symm, HB3.out.trans (HB.out.mono HB3.out.size)⟩
    · obtain rfl : j = i := by omega
      have HRr := Lib.hid (HDn.out HA.out)
      go_wp2
      go_ret
      exact ⟨ret_bool HRr.out.symm, HB3.out.trans (HB.out.mono HB3.out.size)⟩
end Go.Proofs.YtppjbnnnppffaaaGreatDoor


/- The reference of layer 17: Most: walked. -/
namespace Go.Proofs.YtppjbnnnppffaaaGreatDoor
set_option linter.unusedSimpArgs false
set_option linter.unusedVariables false
open Go.RowKit Go.Sort Go.Shelf

/-- Which of the first parts plays most. -/
def MostOk (cnt : Pa → Nat) (l : List Pa) (m : Nat) (r : Int) : Prop :=
  (r = -1 ∧ ∀ j (hj : j < l.length), j < m → cnt l[j] = 0) ∨ ∃ (b : Nat) (hb : b < l.length), r = b ∧ b < m ∧ 0 < cnt l[b] ∧ ∀ j (hj : j < l.length), j < m → cnt l[j] < cnt l[b] ∨ cnt l[j] = cnt l[b] ∧ l[b].id ≤ l[j].id
theorem MostOk.skip {cnt : Pa → Nat} {l : List Pa} {m : Nat} {r : Int} (h : MostOk cnt l m r) (hm : m < l.length) (h0 : cnt l[m] = 0) : MostOk cnt l (m + 1) r := by
  rcases h with ⟨h1, h2⟩ | ⟨b, hb, h1, h2, h3, h4⟩
  · refine .inl ⟨h1, fun j hj hjm => ?_⟩
    by_cases e : j = m
    · subst e; exact h0
    · exact h2 j hj (by omega)
  · refine .inr ⟨b, hb, h1, by omega, h3, fun j hj hjm => ?_⟩
    by_cases e : j = m
    · subst e; left; omega
    · exact h4 j hj (by omega)
theorem MostOk.first {cnt : Pa → Nat} {l : List Pa} {m : Nat} (h : MostOk cnt l m (-1)) (hm : m < l.length) (h0 : 0 < cnt l[m]) : MostOk cnt l (m + 1) m := by
  rcases h with ⟨_, h2⟩ | ⟨b, hb, h1, _⟩
  · refine .inr ⟨m, hm, rfl, by omega, h0, fun j hj hjm => ?_⟩
    by_cases e : j = m
    · subst e; right; exact ⟨rfl, Int.le_refl _⟩
    · left; rw [h2 j hj (by omega)]; exact h0
  · omega
theorem MostOk.turn {cnt : Pa → Nat} {l : List Pa} {m b : Nat} (h : MostOk cnt l m b) (hm : m < l.length) (hb : b < l.length) (h0 : cnt l[b] < cnt l[m] ∨ cnt l[m] = cnt l[b] ∧ l[m].id < l[b].id) : MostOk cnt l (m + 1) m := by
  rcases h with ⟨h1, _⟩ | ⟨b', hb', h1, h2, h3, h4⟩
  · omega
  · obtain rfl : b = b' := by omega
    refine .inr ⟨m, hm, rfl, by omega, by omega, fun j hj hjm => ?_⟩
    by_cases e : j = m
    · subst e; right; exact ⟨rfl, Int.le_refl _⟩
    · have := h4 j hj (by omega)
      omega
theorem MostOk.stay {cnt : Pa → Nat} {l : List Pa} {m b : Nat} (h : MostOk cnt l m b) (hm : m < l.length) (hb : b < l.length) (h0 : ¬ (cnt l[b] < cnt l[m] ∨ cnt l[m] = cnt l[b] ∧ l[m].id < l[b].id)) : MostOk cnt l (m + 1) b := by
  rcases h with ⟨h1, _⟩ | ⟨b', hb', h1, h2, h3, h4⟩
  · omega
  · obtain rfl : b = b' := by omega
    refine .inr ⟨b, hb, rfl, by omega, h3, fun j hj hjm => ?_⟩
    by_cases e : j = m
    · subst e; omega
    · exact h4 j hj (by omega)
theorem MostOk.neg {cnt : Pa → Nat} {l : List Pa} {m : Nat} {r : Int} (h : MostOk cnt l m r) (hr : r < 0) : r = -1 := by
  rcases h with ⟨h1, _⟩ | ⟨b, hb, h1, _⟩
  · exact h1
  · omega
theorem MostOk.pos {cnt : Pa → Nat} {l : List Pa} {m : Nat} {r : Int} (h : MostOk cnt l m r) (hr : ¬ r < 0) : ∃ (b : Nat) (hb : b < l.length), r = b := by
  rcases h with ⟨h1, _⟩ | ⟨b, hb, h1, _⟩
  · omega
  · exact ⟨b, hb, h1⟩
/-- How many notes a part plays in a bar. -/
def cntB (s : Sc) (bar : Ba) (p : Pa) : Nat := (playsB s p bar).length
theorem cntB_le (s : Sc) (bar : Ba) (p : Pa) : cntB s bar p ≤ s.notes.length := Nat.le_trans (inBar_len _ _) (playedL_len s p)
set_option maxRecDepth 100000 in
set_option maxHeartbeats 8000000 in
theorem RMost_any (s : Sc) (q : Sp) (k : Nat) (w : World) (hf : ScFew s) (hoct : ∀ p ∈ s.parts, OctOk s p) (hs : ScAt w s q) (hk : k < s.bars.length) :
    Calls Tryz.prog 109 #[.agg #[.int .i64 s.version, .slice q.ab s.bars.length q.cb, .slice q.ap s.parts.length q.cp, .slice q.an s.notes.length q.cn], .int .i64 k] w fun e w' => ∃ r : Int, e = .returned (.int .i64 r) ∧ MostOk (cntB s s.bars[k]) s.parts s.parts.length r ∧ Below w.heap.size w w' := by
  obtain ⟨ab, cb, ap, cp, an, cn⟩ := q
  have HX1 := Lib.hid (heap_alloc_new w (.cells #[.int .i64 s.version, .slice (⟨ab, cb, ap, cp, an, cn⟩ : Sp).ab s.bars.length (⟨ab, cb, ap, cp, an, cn⟩ : Sp).cb, .slice (⟨ab, cb, ap, cp, an, cn⟩ : Sp).ap s.parts.length (⟨ab, cb, ap, cp, an, cn⟩ : Sp).cp, .slice (⟨ab, cb, ap, cp, an, cn⟩ : Sp).an s.notes.length (⟨ab, cb, ap, cp, an, cn⟩ : Sp).cn] 26))
  have HB := Lib.hid ((Below.refl w.heap.size w).alloc (Nat.le_refl _) (.cells #[.int .i64 s.version, .slice (⟨ab, cb, ap, cp, an, cn⟩ : Sp).ab s.bars.length (⟨ab, cb, ap, cp, an, cn⟩ : Sp).cb, .slice (⟨ab, cb, ap, cp, an, cn⟩ : Sp).ap s.parts.length (⟨ab, cb, ap, cp, an, cn⟩ : Sp).cp, .slice (⟨ab, cb, ap, cp, an, cn⟩ : Sp).an s.notes.length (⟨ab, cb, ap, cp, an, cn⟩ : Sp).cn] 26))
  have HN := Lib.hid (fun (p : Pa) (hp : p ∈ s.parts) W (hb : Below w.heap.size w W) => RNotes17_any s (⟨ab, cb, ap, cp, an, cn⟩ : Sp) p k W hf (hoct p hp) (hs.below hb) hk)
  have HPa := Lib.hid (fun W (hb : Below w.heap.size w W) => hs.parts.below hb)
  have HCl := Lib.hid (fun p => Nat.le_trans (cntB_le s s.bars[k] p) hf.notes)
  have hnp := hf.parts
  clear hf hoct hs
  dsimp only at *
  unfold cntB at *
  generalize s.bars[k] = bar at *
  go_enter Tryz.func109, Tryz.ntmps109
  go_upto_region 1 with (fail)
  generalize w.alloc (.cells #[.int .i64 s.version, .slice (⟨ab, cb, ap, cp, an, cn⟩ : Sp).ab s.bars.length (⟨ab, cb, ap, cp, an, cn⟩ : Sp).cb, .slice (⟨ab, cb, ap, cp, an, cn⟩ : Sp).ap s.parts.length (⟨ab, cb, ap, cp, an, cn⟩ : Sp).cp, .slice (⟨ab, cb, ap, cp, an, cn⟩ : Sp).an s.notes.length (⟨ab, cb, ap, cp, an, cn⟩ : Sp).cn] 26) = W0 at *
  go_wp2
  go_loopw [5, 6] (fun s5 s6 wi => ∃ (m : Nat) (r : Int), m ≤ s.parts.length ∧ s6 = .int .i64 m ∧ s5 = .int .i64 r ∧ Hid (MostOk (fun p => (playsB s p bar).length) s.parts m r) ∧ Below W0.heap.size W0 wi) (fun _ s6 _ => s.parts.length - (intOf s6).toNat)
  case atStart => exact ⟨0, -1, Nat.zero_le _, rfl, rfl, Lib.hid (.inl ⟨rfl, fun j hj h => by omega⟩), Below.refl _ _⟩
  case round =>
    obtain ⟨m, r, hm, rfl, rfl, hmo, hb⟩ := hrel
    have HBe := Lib.hid hb
    clear hb
    have hc1 := box_cells (blk_keep HX1.out HBe.out)
    by_cases hlt : m < s.parts.length
    · obtain ⟨b, off, hqa, _, e0, e1, e2, e3, e4, e5, e6, e7, e8, e9, e10, e11, e12⟩ := (HPa.out _ (HB.out.trans (HBe.out.mono HB.out.size))).get m hlt
      subst hqa
      have hml : (m : Int) < (s.parts.length : Int) := by omega
      have HNm := Lib.hid (HN.out _ (List.getElem_mem hlt))
      have hcm := HCl.out s.parts[m]
      have HSk := Lib.hid (fun h0 => hmo.out.skip hlt h0); have HFi := Lib.hid (fun (h : MostOk (fun p => (playsB s p bar).length) s.parts m (-1)) h0 => h.first hlt h0)
      have HTu := Lib.hid (fun (b : Nat) (h : MostOk (fun p => (playsB s p bar).length) s.parts m b) (hb : b < s.parts.length) h0 => h.turn hlt hb h0); have HSy := Lib.hid (fun (b : Nat) (h : MostOk (fun p => (playsB s p bar).length) s.parts m b) (hb : b < s.parts.length) h0 => h.stay hlt hb h0)
      generalize hpm : s.parts[m] = p at *
      have KS := Lib.hid (fun W (hb : RowKit.Below wr.heap.size wr W) => show W.cell? ⟨w.heap.size, 0, none⟩ = some (.int .i64 s.version) ∧ W.cell? ⟨w.heap.size, 1, none⟩ = some (.slice ab s.bars.length cb) ∧ W.cell? ⟨w.heap.size, 2, none⟩ = some (.slice (some ⟨b, off, none⟩) s.parts.length cp) ∧ W.cell? ⟨w.heap.size, 3, none⟩ = some (.slice an s.notes.length cn) ∧ W.cell? ⟨b, off + m * 13, none⟩ = some (.int .i64 p.id) ∧ W.cell? ⟨b, off + m * 13 + 1, none⟩ = some (.int .i64 p.section_) ∧ W.cell? ⟨b, off + m * 13 + 2, none⟩ = some (.int .i64 p.of) ∧ W.cell? ⟨b, off + m * 13 + 3, none⟩ = some (.int .i64 p.octave) ∧ W.cell? ⟨b, off + m * 13 + 4, none⟩ = some (.int .i64 p.desks) ∧ W.cell? ⟨b, off + m * 13 + 5, none⟩ = some (.int .i64 p.shift.x) ∧ W.cell? ⟨b, off + m * 13 + 6, none⟩ = some (.int .i64 p.shift.y) ∧ W.cell? ⟨b, off + m * 13 + 7, none⟩ = some (.int .i64 p.low.s) ∧ W.cell? ⟨b, off + m * 13 + 8, none⟩ = some (.int .i64 p.low.a) ∧ W.cell? ⟨b, off + m * 13 + 9, none⟩ = some (.int .i64 p.low.o) ∧ W.cell? ⟨b, off + m * 13 + 10, none⟩ = some (.int .i64 p.high.s) ∧ W.cell? ⟨b, off + m * 13 + 11, none⟩ = some (.int .i64 p.high.a) ∧ W.cell? ⟨b, off + m * 13 + 12, none⟩ = some (.int .i64 p.high.o) from ⟨keepE (hc1 0) hb, keepE (hc1 1) hb, keepE (hc1 2) hb, keepE (hc1 3) hb, keepE e0 hb, keepE e1 hb, keepE e2 hb, keepE e3 hb, keepE e4 hb, keepE e5 hb, keepE e6 hb, keepE e7 hb, keepE e8 hb, keepE e9 hb, keepE e10 hb, keepE e11 hb, keepE e12 hb⟩)
      have hlen1 : wr.cell? ⟨w.heap.size, 2, none⟩ = some (.slice (some ⟨b, off, none⟩) s.parts.length cp) := hc1 2
      have he0 := e0
      clear hc1 e0 e1 e2 e3 e4 e5 e6 e7 e8 e9 e10 e11 e12
      go_upto_region 5 with (fail)
      go_region_held3 (fun W => W.cell? ⟨w.heap.size, 0, none⟩ = some (.int .i64 s.version) ∧ W.cell? ⟨w.heap.size, 1, none⟩ = some (.slice ab s.bars.length cb) ∧ W.cell? ⟨w.heap.size, 2, none⟩ = some (.slice (some ⟨b, off, none⟩) s.parts.length cp) ∧ W.cell? ⟨w.heap.size, 3, none⟩ = some (.slice an s.notes.length cn) ∧ W.cell? ⟨b, off + m * 13, none⟩ = some (.int .i64 p.id) ∧ W.cell? ⟨b, off + m * 13 + 1, none⟩ = some (.int .i64 p.section_) ∧ W.cell? ⟨b, off + m * 13 + 2, none⟩ = some (.int .i64 p.of) ∧ W.cell? ⟨b, off + m * 13 + 3, none⟩ = some (.int .i64 p.octave) ∧ W.cell? ⟨b, off + m * 13 + 4, none⟩ = some (.int .i64 p.desks) ∧ W.cell? ⟨b, off + m * 13 + 5, none⟩ = some (.int .i64 p.shift.x) ∧ W.cell? ⟨b, off + m * 13 + 6, none⟩ = some (.int .i64 p.shift.y) ∧ W.cell? ⟨b, off + m * 13 + 7, none⟩ = some (.int .i64 p.low.s) ∧ W.cell? ⟨b, off + m * 13 + 8, none⟩ = some (.int .i64 p.low.a) ∧ W.cell? ⟨b, off + m * 13 + 9, none⟩ = some (.int .i64 p.low.o) ∧ W.cell? ⟨b, off + m * 13 + 10, none⟩ = some (.int .i64 p.high.s) ∧ W.cell? ⟨b, off + m * 13 + 11, none⟩ = some (.int .i64 p.high.a) ∧ W.cell? ⟨b, off + m * 13 + 12, none⟩ = some (.int .i64 p.high.o))
        (first | (refine KS.out _ ?_; (repeat (first | with_reducible exact RowKit.Below.refl _ _ | with_reducible refine RowKit.Below.drew ?_)); done) | (refine KS.out _ hb5; done))
        ((go_at_call 108; refine (HNm.out _ (by first | with_reducible exact HB.out.trans (HBe.out.mono HB.out.size) | exact (HB.out.trans (HBe.out.mono HB.out.size)).drew)).mono ?_; rintro e w5 ⟨aL, cL, rfl, _, hnL, hb5⟩; clear hnL; replace hb5 := drewB hb5))
      have hw5 : Below wr.heap.size wr w5 := hb5
      have he1 := keepE he0 hw5; have hl5 := keepE hlen1 hw5
      replace HBe := Lib.hid (HBe.out.trans (hw5.mono HBe.out.size))
      have hc2 := box_cells (blk_keep HX1.out HBe.out)
      clear hb5 hw5 KS he0 hlen1
      have hcb : ((playsB s p bar).length : Int) ≤ 1000 := by omega
      by_cases h0 : (playsB s p bar).length = 0
      · have hd : (((playsB s p bar).length : Int) == 0) = true := by simp [h0]
        have HS2 := Lib.hid (HSk.out h0)
        clear h0
        go_wp2
        exact ⟨⟨m + 1, r, by omega, by go_num, rfl, HS2, HBe.out⟩, by simp [intOf]; omega⟩
      have hd : (((playsB s p bar).length : Int) == 0) = false := by simp; exact fun e => h0 (by rw [e]; rfl)
      by_cases hr : r < 0
      · obtain rfl := hmo.out.neg hr
        have HS2 := Lib.hid (HFi.out hmo.out (by omega))
        clear h0
        go_wp2
        exact ⟨⟨m + 1, m, by omega, by go_num, rfl, HS2, HBe.out⟩, by simp [intOf]; omega⟩
      obtain ⟨bst, hbst, rfl⟩ := hmo.out.pos hr
      have HTu2 := Lib.hid (fun h0 => HTu.out bst hmo.out hbst h0); have HSy2 := Lib.hid (fun h0 => HSy.out bst hmo.out hbst h0)
      have HNb := Lib.hid (HN.out _ (List.getElem_mem hbst))
      have hcx := HCl.out s.parts[bst]
      have hbl : (bst : Int) < (s.parts.length : Int) := by omega
      obtain ⟨b', off', hqa, _, f0, f1, f2, f3, f4, f5, f6, f7, f8, f9, f10, f11, f12⟩ := (HPa.out _ (HB.out.trans (HBe.out.mono HB.out.size))).get bst hbst
      cases hqa
      generalize s.parts[bst] = x at *
      have KS := Lib.hid (fun W (hb : RowKit.Below w5.heap.size w5 W) => show W.cell? ⟨w.heap.size, 0, none⟩ = some (.int .i64 s.version) ∧ W.cell? ⟨w.heap.size, 1, none⟩ = some (.slice ab s.bars.length cb) ∧ W.cell? ⟨w.heap.size, 2, none⟩ = some (.slice (some ⟨b, off, none⟩) s.parts.length cp) ∧ W.cell? ⟨w.heap.size, 3, none⟩ = some (.slice an s.notes.length cn) ∧ W.cell? ⟨b, off + bst * 13, none⟩ = some (.int .i64 x.id) ∧ W.cell? ⟨b, off + bst * 13 + 1, none⟩ = some (.int .i64 x.section_) ∧ W.cell? ⟨b, off + bst * 13 + 2, none⟩ = some (.int .i64 x.of) ∧ W.cell? ⟨b, off + bst * 13 + 3, none⟩ = some (.int .i64 x.octave) ∧ W.cell? ⟨b, off + bst * 13 + 4, none⟩ = some (.int .i64 x.desks) ∧ W.cell? ⟨b, off + bst * 13 + 5, none⟩ = some (.int .i64 x.shift.x) ∧ W.cell? ⟨b, off + bst * 13 + 6, none⟩ = some (.int .i64 x.shift.y) ∧ W.cell? ⟨b, off + bst * 13 + 7, none⟩ = some (.int .i64 x.low.s) ∧ W.cell? ⟨b, off + bst * 13 + 8, none⟩ = some (.int .i64 x.low.a) ∧ W.cell? ⟨b, off + bst * 13 + 9, none⟩ = some (.int .i64 x.low.o) ∧ W.cell? ⟨b, off + bst * 13 + 10, none⟩ = some (.int .i64 x.high.s) ∧ W.cell? ⟨b, off + bst * 13 + 11, none⟩ = some (.int .i64 x.high.a) ∧ W.cell? ⟨b, off + bst * 13 + 12, none⟩ = some (.int .i64 x.high.o) from ⟨keepE (hc2 0) hb, keepE (hc2 1) hb, keepE (hc2 2) hb, keepE (hc2 3) hb, keepE f0 hb, keepE f1 hb, keepE f2 hb, keepE f3 hb, keepE f4 hb, keepE f5 hb, keepE f6 hb, keepE f7 hb, keepE f8 hb, keepE f9 hb, keepE f10 hb, keepE f11 hb, keepE f12 hb⟩)
      have hf0 := f0
      clear hc2 f0 f1 f2 f3 f4 f5 f6 f7 f8 f9 f10 f11 f12 HSk HFi HTu HSy h0
      go_upto_region 9 with (fail)
      go_region_held3 (fun W => W.cell? ⟨w.heap.size, 0, none⟩ = some (.int .i64 s.version) ∧ W.cell? ⟨w.heap.size, 1, none⟩ = some (.slice ab s.bars.length cb) ∧ W.cell? ⟨w.heap.size, 2, none⟩ = some (.slice (some ⟨b, off, none⟩) s.parts.length cp) ∧ W.cell? ⟨w.heap.size, 3, none⟩ = some (.slice an s.notes.length cn) ∧ W.cell? ⟨b, off + bst * 13, none⟩ = some (.int .i64 x.id) ∧ W.cell? ⟨b, off + bst * 13 + 1, none⟩ = some (.int .i64 x.section_) ∧ W.cell? ⟨b, off + bst * 13 + 2, none⟩ = some (.int .i64 x.of) ∧ W.cell? ⟨b, off + bst * 13 + 3, none⟩ = some (.int .i64 x.octave) ∧ W.cell? ⟨b, off + bst * 13 + 4, none⟩ = some (.int .i64 x.desks) ∧ W.cell? ⟨b, off + bst * 13 + 5, none⟩ = some (.int .i64 x.shift.x) ∧ W.cell? ⟨b, off + bst * 13 + 6, none⟩ = some (.int .i64 x.shift.y) ∧ W.cell? ⟨b, off + bst * 13 + 7, none⟩ = some (.int .i64 x.low.s) ∧ W.cell? ⟨b, off + bst * 13 + 8, none⟩ = some (.int .i64 x.low.a) ∧ W.cell? ⟨b, off + bst * 13 + 9, none⟩ = some (.int .i64 x.low.o) ∧ W.cell? ⟨b, off + bst * 13 + 10, none⟩ = some (.int .i64 x.high.s) ∧ W.cell? ⟨b, off + bst * 13 + 11, none⟩ = some (.int .i64 x.high.a) ∧ W.cell? ⟨b, off + bst * 13 + 12, none⟩ = some (.int .i64 x.high.o))
        (first | (refine KS.out _ ?_; (repeat (first | with_reducible exact RowKit.Below.refl _ _ | with_reducible refine RowKit.Below.drew ?_)); done) | (refine KS.out _ hb6; done))
        ((go_at_call 108; refine (HNb.out _ (by first | with_reducible exact HB.out.trans (HBe.out.mono HB.out.size) | exact (HB.out.trans (HBe.out.mono HB.out.size)).drew)).mono ?_; rintro e w6 ⟨aM, cM, rfl, _, hnM, hb6⟩; clear hnM; replace hb6 := drewB hb6))
      have hw6 : Below w5.heap.size w5 w6 := hb6
      replace he1 := keepE he1 hw6; replace hl5 := keepE hl5 hw6; replace hf0 := keepE hf0 hw6
      replace HBe := Lib.hid (HBe.out.trans (hw6.mono HBe.out.size))
      clear hb6 hw6 KS
      go_upto_region 10 with (fail)
      generalize (playsB s p bar).length = P at *
      generalize (playsB s x bar).length = X at *
      by_cases h1 : X < P
      · have hq1 : decide ((X : Int) < (P : Int)) = true := by simp; omega
        have hi1 : (X : Int) < (P : Int) := by omega
        have HS2 := Lib.hid (HTu2.out (.inl h1))
        clear h1
        go_quiet (fail)
        go_wp2
        exact ⟨⟨m + 1, m, by omega, by go_num, rfl, HS2, HBe.out.trans (below_drewN (Below.refl _ _) nq |>.mono HBe.out.size)⟩, by simp [intOf]; omega⟩
      · have hi1 : ¬ (X : Int) < (P : Int) := by omega
        by_cases h2 : P = X
        · by_cases h3 : p.id < x.id
          · have HS2 := Lib.hid (HTu2.out (.inr ⟨h2, h3⟩))
            have hq2 : ((P : Int) == (X : Int)) = true := by simp; omega
            have HP2 := Lib.hid h2
            clear h1 h2
            go_quiet (fail)
            go_wp2
            exact ⟨⟨m + 1, m, by omega, by go_num, rfl, HS2, HBe.out.trans (below_drewN (Below.refl _ _) nq |>.mono HBe.out.size)⟩, by simp [intOf]; omega⟩
          · have HS2 := Lib.hid (HSy2.out (by omega))
            have hq2 : ((P : Int) == (X : Int)) = true := by simp; omega
            have HP2 := Lib.hid h2
            clear h1 h2
            go_quiet (fail)
            go_wp2
            exact ⟨⟨m + 1, bst, by omega, by go_num, rfl, HS2, HBe.out.trans (below_drewN (Below.refl _ _) nq |>.mono HBe.out.size)⟩, by simp [intOf]; omega⟩
        · have HS2 := Lib.hid (HSy2.out (by omega))
          have hq2 : ((P : Int) == (X : Int)) = false := by simp; omega
          clear h1 h2
          go_quiet (fail)
          go_wp2
          exact ⟨⟨m + 1, bst, by omega, by go_num, rfl, HS2, HBe.out.trans (below_drewN (Below.refl _ _) nq |>.mono HBe.out.size)⟩, by simp [intOf]; omega⟩
    · obtain rfl : m = s.parts.length := by omega
      go_wp2
      go_ret
      exact ⟨r, rfl, hmo.out, HB.out.trans (HBe.out.mono HB.out.size)⟩
end Go.Proofs.YtppjbnnnppffaaaGreatDoor


/- What the reference's cue of a measure is; no condition. -/
namespace Go.Proofs.YtppjbnnnppffaaaGreatDoor
set_option linter.unusedSimpArgs false
set_option linter.unusedVariables false
open Go.RowKit Go.Sort

/-- The written notes of a part's measure, as a reader writes them. -/
def wsL (s : Sc) (reader p : Pa) (bar : Ba) : List Wr := (playsB s p bar).map (writtenW reader bar)
theorem wsL_nodup {s : Sc} (v : ScV s) (reader p : Pa) (bar : Ba) : ((wsL s reader p bar).map Wr.id).Nodup := by
  have e : (wsL s reader p bar).map Wr.id = (playsB s p bar).map No.id := by
    unfold wsL; rw [List.map_map]; rfl
  rw [e]
  unfold playsB playedL
  rw [inBar_map]
  have e2 : ((inBar bar (s.notes.filter fun n => n.part == sourceP p)).map (asPlayed p)).map No.id = (inBar bar (s.notes.filter fun n => n.part == sourceP p)).map No.id := by
    rw [List.map_map]; rfl
  rw [e2]
  unfold inBar
  exact v.ids.sublist ((List.filter_sublist.trans List.filter_sublist).map No.id)
theorem cueO_none {s : Sc} {reader : Pa} {k : Nat} (hk : k < s.bars.length) (h : MostOk (cntB s s.bars[k]) s.parts s.parts.length (-1)) : cueO s reader k = none := by
  have h0 : ∀ p ∈ s.parts, (playsB s p s.bars[k]).length = 0 := by
    rcases h with ⟨_, h2⟩ | ⟨b, hb, h1, _⟩
    · intro p hp
      obtain ⟨j, hj, rfl⟩ := List.getElem_of_mem hp
      exact h2 j hj hj
    · omega
  unfold cueO
  rw [List.getElem?_eq_getElem hk]
  dsimp only
  cases hm : mostP (fun p => (playsB s p s.bars[k]).length) s.parts with
  | none => rfl
  | some p =>
    dsimp only
    rw [if_pos (h0 p (most_is hm).1)]
theorem cueO_some' {s : Sc} (v : ScV s) {reader : Pa} {k b : Nat} (hk : k < s.bars.length) (hb : b < s.parts.length) (h : MostOk (cntB s s.bars[k]) s.parts s.parts.length b) :
    cueO s reader k = some ⟨k, s.parts[b].id, putsL (wsL s reader s.parts[b] s.bars[k]) (wsL s reader s.parts[b] s.bars[k]).length⟩ := by
  rcases h with ⟨h1, _⟩ | ⟨b', hb', h1, h2, h3, h4⟩
  · omega
  obtain rfl : b = b' := by omega
  have hm : isMost (fun p => (playsB s p s.bars[k]).length) s.parts s.parts[b] := ⟨List.getElem_mem hb, fun q hq => by
    obtain ⟨j, hj, rfl⟩ := List.getElem_of_mem hq
    exact h4 j hj hj⟩
  unfold cueO
  rw [List.getElem?_eq_getElem hk]
  dsimp only
  rw [is_most v.parts hm]
  dsimp only
  have h5 : ¬ (playsB s s.parts[b] s.bars[k]).length = 0 := by unfold cntB at h3; omega
  rw [if_neg h5, putsL_sort (wsL_nodup v _ _ _)]
  rfl
theorem putsL_len (l : List Wr) (m : Nat) (h : m ≤ l.length) : (putsL l m).length = m := by
  induction m with
  | zero => rfl
  | succ m ih => rw [putsL_succ (by omega), putL_len, ih (by omega)]
theorem putsL_mem {l : List Wr} {m : Nat} (h : m ≤ l.length) {y : Wr} (hy : y ∈ putsL l m) : y ∈ l := by
  induction m with
  | zero => cases hy
  | succ m ih =>
    rw [putsL_succ (by omega)] at hy
    rcases List.mem_cons.1 ((putL_perm _ _).mem_iff.1 hy) with rfl | hy
    · exact List.getElem_mem _
    · exact ih (by omega) hy
theorem wsL_valid {s : Sc} (v : ScV s) {reader p : Pa} (hr : reader ∈ s.parts) (hp : p ∈ s.parts) {bar : Ba} (hb : bar ∈ s.bars) : ∀ y ∈ wsL s reader p bar, vldP y.pitch = true := by
  intro y hy
  unfold wsL at hy
  obtain ⟨n, hn, rfl⟩ := List.mem_map.1 hy
  obtain ⟨_, _, _, _, _, _, hpl, _⟩ := played_note v hp hb hn
  exact (write_back (part_written (v.part reader hr)).1 (v.key bar hb).1 hpl).2.1
end Go.Proofs.YtppjbnnnppffaaaGreatDoor


/- The reference of layer 17: SameCue, Same, Has, Few: walked. -/
namespace Go.Proofs.YtppjbnnnppffaaaGreatDoor
set_option linter.unusedSimpArgs false
set_option linter.unusedVariables false
open Go.RowKit Go.Sort Go.Shelf

theorem CuAt.get {w : World} {a : Option Addr} {l : List Cu} (h : CuAt w a l) (i : Nat) (hi : i < l.length) : ∃ b off, a = some ⟨b, off, none⟩ ∧ b < w.heap.size ∧ w.cell? ⟨b, off + i * 3, none⟩ = some (.int .i64 l[i].measure) ∧ w.cell? ⟨b, off + i * 3 + 1, none⟩ = some (.int .i64 l[i].part) ∧ w.cell? ⟨b, off + i * 3 + 2, none⟩ = some (.slice l[i].na l[i].notes.length l[i].ncap) := by
  obtain ⟨b, off, e, hb, _, hc⟩ := h.at_ i l[i].cells (by simp [hi])
  exact ⟨b, off, e, hb, hc 0 _ rfl, hc 1 _ rfl, hc 2 _ rfl⟩
theorem says_iff (x y : Cu) : decide (x.says = y.says) = (decide (x.measure = y.measure) && decide (x.part = y.part) && decide (x.notes = y.notes)) := by
  rw [Bool.eq_iff_iff]
  simp [Cu.says, and_assoc]
set_option maxRecDepth 100000 in
set_option maxHeartbeats 4000000 in
theorem RSameCue_any (x y : Cu) (w : World) (hl : x.notes.length ≤ 100000) (hl' : y.notes.length ≤ 100000) (hx : WrAt w x.na x.notes) (hy : WrAt w y.na y.notes) :
    Calls Tryz.prog 54 #[.agg #[.int .i64 x.measure, .int .i64 x.part, .slice x.na x.notes.length x.ncap], .agg #[.int .i64 y.measure, .int .i64 y.part, .slice y.na y.notes.length y.ncap]] w fun e w' => e = .returned (.bool (decide (x.says = y.says))) ∧ Below w.heap.size w w' := by
  obtain ⟨x1, x2, hb⟩ := box2 (w := w) (A := .cells #[.int .i64 x.measure, .int .i64 x.part, .slice x.na x.notes.length x.ncap] 29) (B := .cells #[.int .i64 y.measure, .int .i64 y.part, .slice y.na y.notes.length y.ncap] 29) (Below.refl _ _)
  have HX1 := Lib.hid x1; have HX2 := Lib.hid x2; have HB := Lib.hid hb; clear x1 x2 hb
  have HS := Lib.hid (fun W (hb : Below w.heap.size w W) => RSameW_any x.na y.na x.ncap y.ncap x.notes y.notes W hl hl' (hx.below hb) (hy.below hb))
  have HR := Lib.hid (says_iff x y)
  clear hx hy
  generalize decide (x.says = y.says) = R at *
  generalize decide (x.notes = y.notes) = D at *
  go_enter Tryz.func54, Tryz.ntmps54
  go_upto_region 1 with (fail)
  generalize (w.alloc (.cells #[.int .i64 x.measure, .int .i64 x.part, .slice x.na x.notes.length x.ncap] 29)).alloc (.cells #[.int .i64 y.measure, .int .i64 y.part, .slice y.na y.notes.length y.ncap] 29) = W at *
  have hc1 := box_cells HX1.out; have hc2 := box_cells HX2.out
  go_upto_region 2 with (go_at_call 84; refine (HS.out _ HB.out).mono ?_; rintro e w2 ⟨rfl, hb⟩; (try replace hb := drewB hb); replace HB := Lib.hid (HB.out.trans (hb.mono HB.out.size)); (try (replace HX1 := Lib.hid (blk_keep HX1.out hb); replace hc1 := box_cells HX1.out; replace hf1 := box_free HX1.out; replace hz1 := lt_blk HX1.out)); (try (replace HX2 := Lib.hid (blk_keep HX2.out hb); replace hc2 := box_cells HX2.out; replace hf2 := box_free HX2.out; replace hz2 := lt_blk HX2.out)); (try (replace HX10 := Lib.hid (blk_keep HX10.out hb); replace hc10 := box_cells HX10.out; replace hf10 := box_free HX10.out; replace hz10 := lt_blk HX10.out)); clear hb)
  cases h1 : x.measure == y.measure
  · have h1' : decide (x.measure = y.measure) = false := by simpa using h1
    rw [h1'] at HR
    clear h1'
    go_wp2
    go_ret
    exact ⟨ret_bool HR.out.symm, HB.out⟩
  have h1' : decide (x.measure = y.measure) = true := by simpa using h1
  rw [h1'] at HR
  clear h1'
  cases h2 : x.part == y.part
  · have h2' : decide (x.part = y.part) = false := by simpa using h2
    rw [h2'] at HR
    clear h2'
    go_wp2
    go_ret
    exact ⟨ret_bool HR.out.symm, HB.out⟩
  have h2' : decide (x.part = y.part) = true := by simpa using h2
  rw [h2'] at HR
  clear h2'
  go_wp2
  go_ret
  exact ⟨ret_bool HR.out.symm, HB.out⟩
set_option maxRecDepth 100000 in
set_option maxHeartbeats 4000000 in
theorem RSameC_any (a b : Option Addr) (cap cap' : Nat) (l r : List Cu) (w : World) (hl : l.length ≤ 100000) (hl' : r.length ≤ 100000) (hn : ∀ m ∈ l, m.notes.length ≤ 100000) (hn' : ∀ m ∈ r, m.notes.length ≤ 100000) (ha : CuAt w a l) (hb : CuAt w b r) :
    Calls Tryz.prog 17 #[.slice a l.length cap, .slice b r.length cap'] w fun e w' => e = .returned (.bool (decide (l.map Cu.says = r.map Cu.says))) ∧ Below w.heap.size w w' := by
  by_cases hne : l.length = r.length
  case neg =>
    have h1 : ((l.length : Int) != (r.length : Int)) = true := by simp; omega
    go_enter Tryz.func17, Tryz.ntmps17
    go_wp2
    go_ret
    exact ⟨ret_bool (by simp; intro h; have := congrArg List.length h; simp at this; exact hne this), Below.refl _ _⟩
  have h1 : ((l.length : Int) != (r.length : Int)) = false := by simp [hne]
  have HNE := Lib.hid hne; clear hne
  have HA := Lib.hid ha; have HBb := Lib.hid hb; have HNa := Lib.hid hn; have HNb := Lib.hid hn'
  clear ha hb hn hn'
  go_enter Tryz.func17, Tryz.ntmps17
  go_wp2
  clear h1
  go_loopw [5] (fun i wr => ∃ k : Nat, k ≤ l.length ∧ i = .int .i64 k ∧ (l.map Cu.says).take k = (r.map Cu.says).take k ∧ Below w.heap.size w wr) (fun i _ => l.length - (intOf i).toNat)
  case atStart => exact ⟨0, Nat.zero_le _, rfl, rfl, Below.refl _ _⟩
  case round =>
    obtain ⟨k, hk, rfl, htk, hbw⟩ := hrel
    have HT := Lib.hid htk; have HB := Lib.hid hbw
    clear htk hbw
    by_cases hlt : k < l.length
    · have hlt2 : k < r.length := by have := HNE.out; omega
      have hi2 : (k : Int) < (r.length : Int) := by omega
      obtain ⟨b1, o1, hqa, _, c0, c1, c2⟩ := (HA.out.below HB.out).get k hlt
      obtain ⟨b2, o2, hqb, _, d0, d1, d2⟩ := (HBb.out.below HB.out).get k hlt2
      subst hqa; subst hqb
      have HC := Lib.hid (fun W (hb : Below wr.heap.size wr W) => RSameCue_any l[k] r[k] W (HNa.out _ (List.getElem_mem hlt)) (HNb.out _ (List.getElem_mem hlt2)) ((HA.out.below (HB.out.trans (hb.mono HB.out.size))).notes _ (List.getElem_mem hlt)) ((HBb.out.below (HB.out.trans (hb.mono HB.out.size))).notes _ (List.getElem_mem hlt2)))
      have HS := Lib.hid (fun (h : l[k].says = r[k].says) => take_eq_succ (l.map Cu.says) (r.map Cu.says) k (by simpa using hlt) (by simpa using hlt2) HT.out (by simpa using h))
      have HD := Lib.hid (fun (h : l[k].says ≠ r[k].says) => ne_at (l.map Cu.says) (r.map Cu.says) k (by simpa using hlt) (by simpa using hlt2) (by simpa using h))
      generalize l[k] = X at *
      generalize r[k] = Y at *
      have g0 := cell_regrown c0; have g1 := cell_regrown c1; have g2 := cell_regrown c2; have j0 := cell_regrown d0; have j1 := cell_regrown d1; have j2 := cell_regrown d2
      go_upto_region 6 with (fail)
      by_cases hXY : X.says = Y.says
      · have HS2 := Lib.hid (HS.out hXY)
        rw [decide_eq_true hXY] at HC
        clear hXY
        refine wp_quietB (by kernel_rfl) (by kernel_rfl) ?_
        (repeat (go_big_quiet_step ((go_at_call 54; refine Calls.regrown_of (HC.out _ (below_regrown _ _ _))))))
        refine wpQuiet_nil ?_
        intro w5 hb5
        go_wp2
        exact ⟨⟨k + 1, by omega, by go_num, HS2.out, HB.out.trans (hb5.mono HB.out.size)⟩, by simp [intOf]; omega⟩
      · have HD2 := Lib.hid (HD.out hXY)
        rw [decide_eq_false hXY] at HC
        clear hXY
        refine wp_quietB (by kernel_rfl) (by kernel_rfl) ?_
        (repeat (go_big_quiet_step ((go_at_call 54; refine Calls.regrown_of (HC.out _ (below_regrown _ _ _))))))
        refine wpQuiet_nil ?_
        intro w5 hb5
        go_wp2
        go_ret
        exact ⟨ret_bool (decide_eq_false HD2.out).symm, HB.out.trans (hb5.mono HB.out.size)⟩
    · obtain rfl : k = l.length := by omega
      have HE := Lib.hid (show l.map Cu.says = r.map Cu.says by
        have := HT.out
        rwa [List.take_of_length_le (by simp), List.take_of_length_le (by simp; have := HNE.out; omega)] at this)
      go_wp2
      go_ret
      exact ⟨ret_bool (decide_eq_true HE.out).symm, HB.out⟩
set_option maxRecDepth 100000 in
set_option maxHeartbeats 4000000 in
theorem RHas17_any (a : Option Addr) (cap : Nat) (l : List Cu) (x : Cu) (w : World) (hl : l.length ≤ 100000) (hn : ∀ m ∈ l, m.notes.length ≤ 100000) (hx : x.notes.length ≤ 100000) (ha : CuAt w a l) (hw : WrAt w x.na x.notes) :
    Calls Tryz.prog 20 #[.slice a l.length cap, .agg #[.int .i64 x.measure, .int .i64 x.part, .slice x.na x.notes.length x.ncap]] w fun e w' => e = .returned (.bool (l.any fun y => decide (y.says = x.says))) ∧ Below w.heap.size w w' := by
  have HX1 := Lib.hid (heap_alloc_new w (.cells #[.int .i64 x.measure, .int .i64 x.part, .slice x.na x.notes.length x.ncap] 29))
  have HB0 := Lib.hid ((Below.refl w.heap.size w).alloc (Nat.le_refl _) (.cells #[.int .i64 x.measure, .int .i64 x.part, .slice x.na x.notes.length x.ncap] 29))
  have HA := Lib.hid ha; have HNa := Lib.hid hn; have HW := Lib.hid hw
  clear ha hn hw
  obtain ⟨R, hR⟩ : ∃ R, R = l.any fun y => decide (y.says = x.says) := ⟨_, rfl⟩
  have HR := Lib.hid hR
  rw [← hR]
  clear hR
  go_enter Tryz.func20, Tryz.ntmps20
  go_upto_region 1 with (fail)
  generalize w.alloc (.cells #[.int .i64 x.measure, .int .i64 x.part, .slice x.na x.notes.length x.ncap] 29) = W0 at *
  go_wp2
  go_loopw [5] (fun i wr => ∃ k : Nat, k ≤ l.length ∧ i = .int .i64 k ∧ (∀ j (hj : j < l.length), j < k → l[j].says ≠ x.says) ∧ Below W0.heap.size W0 wr) (fun i _ => l.length - (intOf i).toNat)
  case atStart => exact ⟨0, Nat.zero_le _, rfl, (fun j hj h => by omega), Below.refl _ _⟩
  case round =>
    obtain ⟨k, hk, rfl, htk, hbw⟩ := hrel
    have HT := Lib.hid htk; have HBe := Lib.hid hbw
    clear htk hbw
    have HB := Lib.hid (HB0.out.trans (HBe.out.mono HB0.out.size))
    have hc1 := box_cells (blk_keep HX1.out HBe.out)
    by_cases hlt : k < l.length
    · obtain ⟨b1, o1, hqa, _, c0, c1, c2⟩ := (HA.out.below HB.out).get k hlt
      subst hqa
      have hkl : (k : Int) < (l.length : Int) := by omega
      have HC := Lib.hid (fun W (hb : Below wr.heap.size wr W) => RSameCue_any l[k] x W (HNa.out _ (List.getElem_mem hlt)) hx ((HA.out.below (HB.out.trans (hb.mono HB.out.size))).notes _ (List.getElem_mem hlt)) (HW.out.below (HB.out.trans (hb.mono HB.out.size))))
      have HS := Lib.hid (fun (h : l[k].says ≠ x.says) => show ∀ j (hj : j < l.length), j < k + 1 → l[j].says ≠ x.says from fun j hj hjk => by
        by_cases e : j = k
        · subst e; exact h
        · exact HT.out j hj (by omega))
      have HD := Lib.hid (fun (h : l[k].says = x.says) => show R = true from by
        rw [HR.out, List.any_eq_true]
        exact ⟨l[k], List.getElem_mem hlt, decide_eq_true h⟩)
      generalize l[k] = X at *
      have g0 := cell_regrown c0; have g1 := cell_regrown c1; have g2 := cell_regrown c2; have j0 := cell_regrown (hc1 0); have j1 := cell_regrown (hc1 1); have j2 := cell_regrown (hc1 2)
      go_upto_region 4 with (fail)
      by_cases hXY : X.says = x.says
      · have HS2 := Lib.hid (HD.out hXY)
        rw [decide_eq_true hXY] at HC
        clear hXY
        refine wp_quietB (by kernel_rfl) (by kernel_rfl) ?_
        (repeat (go_big_quiet_step ((go_at_call 54; refine Calls.regrown_of (HC.out _ (below_regrown _ _ _))))))
        refine wpQuiet_nil ?_
        intro w5 hb5
        go_wp2
        go_ret
        exact ⟨ret_bool HS2.out.symm, HB.out.trans (hb5.mono HB.out.size)⟩
      · have HD2 := Lib.hid (HS.out hXY)
        rw [decide_eq_false hXY] at HC
        clear hXY
        refine wp_quietB (by kernel_rfl) (by kernel_rfl) ?_
        (repeat (go_big_quiet_step ((go_at_call 54; refine Calls.regrown_of (HC.out _ (below_regrown _ _ _))))))
        refine wpQuiet_nil ?_
        intro w5 hb5
        go_wp2
        exact ⟨⟨k + 1, by omega, by go_num, HD2.out, HBe.out.trans (hb5.mono HBe.out.size)⟩, by simp [intOf]; omega⟩
    · obtain rfl : k = l.length := by omega
      have HE := Lib.hid (show R = false by
        rw [HR.out, List.any_eq_false]
        intro y hy
        obtain ⟨j, hj, rfl⟩ := List.getElem_of_mem hy
        simpa using HT.out j hj hj)
      go_wp2
      go_ret
      exact ⟨ret_bool HE.out.symm, HB.out⟩
def few17 (s : Sc) : Bool := decide (s.bars.length ≤ 12) && decide (s.parts.length ≤ 8) && decide (s.notes.length ≤ 60)
theorem few17_few {s : Sc} (h : few17 s = true) : ScFew s ∧ s.bars.length ≤ 12 ∧ s.parts.length ≤ 8 ∧ s.notes.length ≤ 60 := by
  simp only [few17, Bool.and_eq_true, decide_eq_true_eq] at h
  exact ⟨⟨by omega, by omega, by omega⟩, h.1.1, h.1.2, h.2⟩
set_option maxHeartbeats 1000000 in
theorem RFew17_any (s : Sc) (q : Sp) (w : World) : Calls Tryz.prog 14 #[.agg #[.int .i64 s.version, .slice q.ab s.bars.length q.cb, .slice q.ap s.parts.length q.cp, .slice q.an s.notes.length q.cn]] w fun e w' => e = .returned (.bool (few17 s)) ∧ Below w.heap.size w w' := by
  have HX := Lib.hid (heap_alloc_new w (.cells #[.int .i64 s.version, .slice q.ab s.bars.length q.cb, .slice q.ap s.parts.length q.cp, .slice q.an s.notes.length q.cn] 26))
  have HB := Lib.hid ((Below.refl w.heap.size w).alloc (Nat.le_refl _) (.cells #[.int .i64 s.version, .slice q.ab s.bars.length q.cb, .slice q.ap s.parts.length q.cp, .slice q.an s.notes.length q.cn] 26))
  go_enter Tryz.func14, Tryz.ntmps14
  go_upto_region 1 with (fail)
  generalize w.alloc (.cells #[.int .i64 s.version, .slice q.ab s.bars.length q.cb, .slice q.ap s.parts.length q.cp, .slice q.an s.notes.length q.cn] 26) = W at *
  have hc := box_cells HX.out
  by_cases h1 : s.bars.length ≤ 12
  case neg =>
    have h1' : ¬ (s.bars.length : Int) ≤ 12 := by omega
    go_wp2
    go_ret
    exact ⟨ret_bool (by simp [few17, h1]), HB.out⟩
  have h1' : (s.bars.length : Int) ≤ 12 := by omega
  by_cases h2 : s.parts.length ≤ 8
  case neg =>
    have h2' : ¬ (s.parts.length : Int) ≤ 8 := by omega
    go_wp2
    go_ret
    exact ⟨ret_bool (by simp [few17, h2]), HB.out⟩
  have h2' : (s.parts.length : Int) ≤ 8 := by omega
  by_cases h3 : s.notes.length ≤ 60
  · have h3' : (s.notes.length : Int) ≤ 60 := by omega
    go_wp2
    go_ret
    exact ⟨ret_bool (by simp [few17, h1, h2, h3]), HB.out⟩
  · have h3' : ¬ (s.notes.length : Int) ≤ 60 := by omega
    go_wp2
    go_ret
    exact ⟨ret_bool (by simp [few17, h3]), HB.out⟩
end Go.Proofs.YtppjbnnnppffaaaGreatDoor


/- Cues that are handed back; how many there are; no condition. -/
namespace Go.Proofs.YtppjbnnnppffaaaGreatDoor
set_option linter.unusedSimpArgs false
set_option linter.unusedVariables false
open Go.RowKit Go.Sort Go.Shelf

/-- The notes of cues, each a row of the call's own. -/
def OwnCs (w : World) (B : Nat) (cs : List Cu) : Prop := ∀ m ∈ cs, OwnR w B 68 10 (.slice m.na m.notes.length m.ncap) (m.notes.map Wr.cells)
theorem OwnCs.below {w w' : World} {B : Nat} {cs : List Cu} (h : OwnCs w B cs) (hb : Below w.heap.size w w') : OwnCs w' B cs := fun m hm => (h m hm).below hb
theorem OwnCs.kept {w w' : World} {B B' : Nat} {sz : Nat} {v : Value} {rows : List (List Value)} {cs : List Cu} (h : OwnCs w B cs) (o : OwnR w B' 29 sz v rows) (hg : w.grownBy w' v.ownBlock) : OwnCs w' B cs := fun m hm => (h m hm).kept hg ((h m hm).apart o (by decide))
theorem OwnCs.snoc {w : World} {B : Nat} {cs : List Cu} {m : Cu} (h : OwnCs w B cs) (hm : OwnR w B 68 10 (.slice m.na m.notes.length m.ncap) (m.notes.map Wr.cells)) : OwnCs w B (cs ++ [m]) := fun x hx => by
  rcases List.mem_append.1 hx with hx | hx
  · exact h x hx
  · simp at hx; subst hx; exact hm
theorem OwnCs.cuAt {w : World} {B B' : Nat} {cs : List Cu} {v : Value} (h : OwnCs w B cs) (o : OwnR w B' 29 3 v (cs.map Cu.cells)) : ∃ a cap, v = .slice a cs.length cap ∧ SlOk a cs.length cap ∧ CuAt w a cs := by
  obtain ⟨a, cap, rfl, hok, hs⟩ := o.slAt
  rw [List.length_map] at hok
  refine ⟨a, cap, by rw [List.length_map], hok, hs, fun m hm => ?_, fun m hm => ?_⟩
  · obtain ⟨a', c', e, _, hs'⟩ := (h m hm).slAt
    rw [List.length_map] at e
    cases e; exact hs'
  · obtain ⟨a', c', e, hok', _⟩ := (h m hm).slAt
    rw [List.length_map] at e hok'
    cases e; exact hok'.weak
/-- Cues that are handed back, with an error number beside. -/
def RetCuE (l : List CuP) (er : Int) (w : World) (e : Ending) (w' : World) : Prop := ∃ a cap cs, e = .returned (.tuple #[.slice a cs.length cap, .int .i64 er]) ∧ SlOk a cs.length cap ∧ CuAt w' a cs ∧ cs.map Cu.says = l ∧ Below w.heap.size w w'
theorem cuesR_few {s : Sc} (hf : ScFew s) {part after : Int} {cs : List Cu} (e : cs.map Cu.says = (cuesR s part after).1) : cs.length ≤ 1000 ∧ ∀ m ∈ cs, m.notes.length ≤ 1000 := by
  have hnil : cs.map Cu.says = [] → cs.length ≤ 1000 ∧ ∀ m ∈ cs, m.notes.length ≤ 1000 := fun e => by
    rw [List.map_eq_nil_iff] at e; subst e; exact ⟨by simp, fun m hm => by cases hm⟩
  unfold cuesR at e
  split at e
  · split at e
    · rename_i p hp
      constructor
      · have h1 := congrArg List.length e
        rw [List.length_map] at h1
        have h2 : (cuesL s p after.toNat).length ≤ s.bars.length := by
          unfold cuesL
          exact Nat.le_trans (List.length_filterMap_le _ _) (by simp)
        have := hf.bars
        simp only at h1
        omega
      · intro m hm
        have h1 : m.says ∈ cuesL s p after.toNat := by
          have : m.says ∈ cs.map Cu.says := List.mem_map_of_mem hm
          rw [e] at this; exact this
        obtain ⟨i, _, _, hc⟩ := cue_mem.1 h1
        obtain ⟨hm2, q, _, _, h3⟩ := cueO_some hc
        have h4 : m.notes = sortW ((playsB s q s.bars[i - 1]).map (writtenW p s.bars[i - 1])) := congrArg CuP.notes h3
        rw [h4, sortW_len, List.length_map]
        exact Nat.le_trans (Nat.le_trans (inBar_len _ _) (playedL_len s q)) hf.notes
    · exact hnil e
  · exact hnil e
end Go.Proofs.YtppjbnnnppffaaaGreatDoor
