/- Texts of this seat, laid together: TurnLaw2, TurnLaw3. -/
import Derived.Test.YtcelciomhngajaaGreatDoorTJ
import Derived.IntWalk
/- The laws of layer 25: usable, sum. -/
namespace Go.Proofs.YtcelciomhngajaaGreatDoor
set_option linter.unusedSimpArgs false
set_option linter.unusedVariables false
open Go.RowKit Go.Sort

theorem modT_lt {n : Nat} (hn : 1 ≤ n) (i : Nat) : ∃ ip : Nat, ip < n ∧ (i : Int) % (n : Int) = (ip : Int) ∧ (i : Int).tmod (n : Int) = (ip : Int) ∧ i % n = ip :=
  ⟨i % n, Nat.mod_lt _ (by omega), by simp, by rw [Int.tmod_eq_emod_of_nonneg (Int.natCast_nonneg i)]; simp, rfl⟩
theorem few8_U {s : Sc} (h : few8 s = true) : ScFew s := by
  simp only [few8, Bool.and_eq_true, decide_eq_true_eq] at h
  exact ⟨by omega, by omega, by omega⟩
def useB (s : Sc) (l : List Te) : Bool := few8 s && decide (l.length ≤ 60) && validS s && temposB s.bars l
/-- What usable gives: the view of one of the score's parts. -/
def UseR (s : Sc) (p : Pa) (w : World) (e : Ending) (w' : World) : Prop := ∃ a cap ms, e = .returned (.tuple #[.agg #[.int .i64 p.id, .slice a ms.length cap], .bool true]) ∧ MeAt w' a ms ∧ ms.map Me.says = viewL s p ∧ Below w.heap.size w w'
theorem view_lenT (s : Sc) (p : Pa) : (viewL s p).length = s.bars.length := by unfold viewL; simp
theorem view_fewT {s : Sc} (h : ScFew s) (p : Pa) : ∀ m ∈ viewL s p, m.notes.length ≤ 1000 := by
  intro m hm
  obtain ⟨i, hi, rfl⟩ := List.mem_iff_getElem.1 hm
  have hi2 : i < s.bars.length := by rw [view_lenT] at hi; exact hi
  have hn := view_notes s p hi2
  rw [List.getD_eq_getElem?_getD, List.getElem?_eq_getElem hi] at hn
  have hn' : ((viewL s p)[i]).notes = (inBar (s.bars.getD i default) (playedL s p)).map (writtenW p (s.bars.getD i default)) := hn
  rw [hn', List.length_map]
  unfold inBar
  refine Nat.le_trans (List.length_filter_le _ _) ?_
  unfold playedL; rw [List.length_map]; exact Nat.le_trans (List.length_filter_le _ _) h.notes
theorem TurnW.of_use {w : World} {s : Sc} {q : Sp} {ta : Option Addr} {l : List Te} {a : Option Addr} {ms : List Me} {p : Pa} (hu : useB s l = true) (h1 : ScAt w s q) (h2 : Env w) (h3 : TeAt w ta l) (h4 : MeAt w a ms) (h5 : ms.map Me.says = viewL s p) : TurnW w s q ta l a ms := by
  unfold useB at hu
  simp only [Bool.and_eq_true, decide_eq_true_eq] at hu
  obtain ⟨⟨⟨u1, u2⟩, u3⟩, u4⟩ := hu
  have hf := few8_U u1
  exact ⟨hf, h1, h2, by have e := congrArg List.length h5; rw [List.length_map, view_lenT] at e; have := hf.bars; omega, fun m hm => view_fewT hf p m.says (by rw [← h5]; exact List.mem_map_of_mem hm), h4, h3, by omega⟩
theorem ok_of_use {s : Sc} {l : List Te} {p : Pa} (hu : useB s l = true) (hp : p ∈ s.parts) : okT s p.id (viewL s p) l = true := by
  unfold useB at hu
  simp only [Bool.and_eq_true, decide_eq_true_eq] at hu
  unfold okT
  rw [view_valid hu.1.2 hp, hu.2]; rfl
theorem use_parts {s : Sc} {l : List Te} (hu : useB s l = true) : 1 ≤ s.parts.length ∧ 1 ≤ s.bars.length ∧ s.bars.length ≤ 60 ∧ temposB s.bars l = true := by
  unfold useB at hu
  simp only [Bool.and_eq_true, decide_eq_true_eq] at hu
  have v := scV hu.1.2
  have hb := hu.1.1.1
  simp only [few8, Bool.and_eq_true, decide_eq_true_eq] at hb
  exact ⟨v.some_, v.barsLen.1, hb.1.1, hu.2⟩
set_option maxHeartbeats 4000000 in
set_option maxRecDepth 100000 in
theorem usable_no (s : Sc) (q : Sp) (ta : Option Addr) (tcap : Nat) (l : List Te) (k : Nat) (w : World) (hs : ScAt w s q) (ht : TeAt w ta l) (hu : useB s l = false) :
    Calls Tryz.prog 16 #[.agg #[.int .i64 s.version, .slice q.ab s.bars.length q.cb, .slice q.ap s.parts.length q.cp, .slice q.an s.notes.length q.cn], .slice ta l.length tcap, .int .u8 k] w fun e w' => e = .returned (.tuple #[.agg #[.int .i64 0, .slice none 0 0], .bool false]) ∧ Below w.heap.size w w' := by
  obtain ⟨x1, x2, hb⟩ := box2 (w := w) (A := .cells #[.int .i64 s.version, .slice q.ab s.bars.length q.cb, .slice q.ap s.parts.length q.cp, .slice q.an s.notes.length q.cn] 26) (B := .cells #[.int .i64 0, .slice none 0 0] 30 (0, 0)) (Below.refl _ _)
  have HX1 := Lib.hid x1; have HX2 := Lib.hid x2; have HB := Lib.hid hb
  clear x1 x2 hb
  have HFw := Lib.hid (fun W => RFew8_any s q W)
  cases hfw : few8 s
  · rw [hfw] at HFw
    clear hu hs ht hfw
    obtain ⟨ab, cb, ap, cp, an, cn⟩ := q; (try dsimp only at *); go_enter Tryz.func16, Tryz.ntmps16; go_upto_region 1 with (fail); generalize (w.alloc (.cells #[.int .i64 s.version, .slice (⟨ab, cb, ap, cp, an, cn⟩ : Sp).ab s.bars.length (⟨ab, cb, ap, cp, an, cn⟩ : Sp).cb, .slice (⟨ab, cb, ap, cp, an, cn⟩ : Sp).ap s.parts.length (⟨ab, cb, ap, cp, an, cn⟩ : Sp).cp, .slice (⟨ab, cb, ap, cp, an, cn⟩ : Sp).an s.notes.length (⟨ab, cb, ap, cp, an, cn⟩ : Sp).cn] 26)).alloc (.cells #[.int .i64 0, .slice none 0 0] 30 (0, 0)) = W at *; have hc1 := box_cells HX1.out; have hc2 := box_cells HX2.out; have hf2 := box_free HX2.out; (try dsimp only at hc1)
    go_wp2_with (first | (go_at_call 32; refine (HFw.out _).mono ?_; rintro e w2 ⟨rfl, hb⟩; replace HX1 := Lib.hid (blk_keep HX1.out hb); replace HX2 := Lib.hid (blk_keep HX2.out hb); replace HB := Lib.hid (HB.out.trans (hb.mono HB.out.size)); clear hb hc1 hc2 hf2; have hc1 := box_cells HX1.out; have hc2 := box_cells HX2.out; have hf2 := box_free HX2.out))
    exact bodyPost_ret (v := .tuple #[.agg #[.int .i64 0, .slice none 0 0], .bool false]) (by simp [results, Tryz.results16, go_sem, hc2, hf2]) rfl ⟨rfl, (HB.out.setCell (by simp <;> omega) _).setCell (by simp <;> omega) _⟩
  rw [hfw] at HFw
  have hf := few8_U hfw
  by_cases hl : l.length ≤ 60
  · have hll : ¬ ((l.length : Int) > 60) := by omega
    have HVs := Lib.hid (fun W (hb : Below w.heap.size w W) => RValid8_any s q W hf (hs.below hb))
    have HTe := Lib.hid (fun W (hb : Below w.heap.size w W) => tTempos_any q.ab q.cb s.bars ta tcap l W (Nat.le_trans hf.bars (by decide)) (by omega) (hs.bars.below hb) (ht.below hb))
    cases hvs : validS s
    · rw [hvs] at HVs
      clear hu hs ht hfw hf HTe hvs
      generalize l.length = nl at *
      obtain ⟨ab, cb, ap, cp, an, cn⟩ := q; (try dsimp only at *); go_enter Tryz.func16, Tryz.ntmps16; go_upto_region 1 with (fail); generalize (w.alloc (.cells #[.int .i64 s.version, .slice (⟨ab, cb, ap, cp, an, cn⟩ : Sp).ab s.bars.length (⟨ab, cb, ap, cp, an, cn⟩ : Sp).cb, .slice (⟨ab, cb, ap, cp, an, cn⟩ : Sp).ap s.parts.length (⟨ab, cb, ap, cp, an, cn⟩ : Sp).cp, .slice (⟨ab, cb, ap, cp, an, cn⟩ : Sp).an s.notes.length (⟨ab, cb, ap, cp, an, cn⟩ : Sp).cn] 26)).alloc (.cells #[.int .i64 0, .slice none 0 0] 30 (0, 0)) = W at *; have hc1 := box_cells HX1.out; have hc2 := box_cells HX2.out; have hf2 := box_free HX2.out; (try dsimp only at hc1)
      go_wp2_with (first | (go_at_call 32; refine (HFw.out _).mono ?_; rintro e w2 ⟨rfl, hb⟩; replace HX1 := Lib.hid (blk_keep HX1.out hb); replace HX2 := Lib.hid (blk_keep HX2.out hb); replace HB := Lib.hid (HB.out.trans (hb.mono HB.out.size)); clear hb hc1 hc2 hf2; have hc1 := box_cells HX1.out; have hc2 := box_cells HX2.out; have hf2 := box_free HX2.out) | (go_at_call 41; refine (HVs.out _ HB.out).mono ?_; rintro e w2 ⟨rfl, hb⟩; replace HX1 := Lib.hid (blk_keep HX1.out hb); replace HX2 := Lib.hid (blk_keep HX2.out hb); replace HB := Lib.hid (HB.out.trans (hb.mono HB.out.size)); clear hb hc1 hc2 hf2; have hc1 := box_cells HX1.out; have hc2 := box_cells HX2.out; have hf2 := box_free HX2.out))
      exact bodyPost_ret (v := .tuple #[.agg #[.int .i64 0, .slice none 0 0], .bool false]) (by simp [results, Tryz.results16, go_sem, hc2, hf2]) rfl ⟨rfl, (HB.out.setCell (by simp <;> omega) _).setCell (by simp <;> omega) _⟩
    · have htb : temposB s.bars l = false := by unfold useB at hu; rw [hfw, hvs, decide_eq_true hl] at hu; simpa using hu
      rw [hvs] at HVs
      rw [htb] at HTe
      clear hu hs ht hfw hf hvs htb
      generalize l.length = nl at *
      obtain ⟨ab, cb, ap, cp, an, cn⟩ := q; (try dsimp only at *); go_enter Tryz.func16, Tryz.ntmps16; go_upto_region 1 with (fail); generalize (w.alloc (.cells #[.int .i64 s.version, .slice (⟨ab, cb, ap, cp, an, cn⟩ : Sp).ab s.bars.length (⟨ab, cb, ap, cp, an, cn⟩ : Sp).cb, .slice (⟨ab, cb, ap, cp, an, cn⟩ : Sp).ap s.parts.length (⟨ab, cb, ap, cp, an, cn⟩ : Sp).cp, .slice (⟨ab, cb, ap, cp, an, cn⟩ : Sp).an s.notes.length (⟨ab, cb, ap, cp, an, cn⟩ : Sp).cn] 26)).alloc (.cells #[.int .i64 0, .slice none 0 0] 30 (0, 0)) = W at *; have hc1 := box_cells HX1.out; have hc2 := box_cells HX2.out; have hf2 := box_free HX2.out; (try dsimp only at hc1)
      go_wp2_with (first | (go_at_call 32; refine (HFw.out _).mono ?_; rintro e w2 ⟨rfl, hb⟩; replace HX1 := Lib.hid (blk_keep HX1.out hb); replace HX2 := Lib.hid (blk_keep HX2.out hb); replace HB := Lib.hid (HB.out.trans (hb.mono HB.out.size)); clear hb hc1 hc2 hf2; have hc1 := box_cells HX1.out; have hc2 := box_cells HX2.out; have hf2 := box_free HX2.out) | (go_at_call 41; refine (HVs.out _ HB.out).mono ?_; rintro e w2 ⟨rfl, hb⟩; replace HX1 := Lib.hid (blk_keep HX1.out hb); replace HX2 := Lib.hid (blk_keep HX2.out hb); replace HB := Lib.hid (HB.out.trans (hb.mono HB.out.size)); clear hb hc1 hc2 hf2; have hc1 := box_cells HX1.out; have hc2 := box_cells HX2.out; have hf2 := box_free HX2.out) | (go_at_call 28; refine (HTe.out _ HB.out).mono ?_; rintro e w2 ⟨rfl, hb⟩; replace HX1 := Lib.hid (blk_keep HX1.out hb); replace HX2 := Lib.hid (blk_keep HX2.out hb); replace HB := Lib.hid (HB.out.trans (hb.mono HB.out.size)); clear hb hc1 hc2 hf2; have hc1 := box_cells HX1.out; have hc2 := box_cells HX2.out; have hf2 := box_free HX2.out))
      exact bodyPost_ret (v := .tuple #[.agg #[.int .i64 0, .slice none 0 0], .bool false]) (by simp [results, Tryz.results16, go_sem, hc2, hf2]) rfl ⟨rfl, (HB.out.setCell (by simp <;> omega) _).setCell (by simp <;> omega) _⟩
  · have hll : (l.length : Int) > 60 := by omega
    clear hu hs ht hfw hf
    generalize l.length = nl at *
    obtain ⟨ab, cb, ap, cp, an, cn⟩ := q; (try dsimp only at *); go_enter Tryz.func16, Tryz.ntmps16; go_upto_region 1 with (fail); generalize (w.alloc (.cells #[.int .i64 s.version, .slice (⟨ab, cb, ap, cp, an, cn⟩ : Sp).ab s.bars.length (⟨ab, cb, ap, cp, an, cn⟩ : Sp).cb, .slice (⟨ab, cb, ap, cp, an, cn⟩ : Sp).ap s.parts.length (⟨ab, cb, ap, cp, an, cn⟩ : Sp).cp, .slice (⟨ab, cb, ap, cp, an, cn⟩ : Sp).an s.notes.length (⟨ab, cb, ap, cp, an, cn⟩ : Sp).cn] 26)).alloc (.cells #[.int .i64 0, .slice none 0 0] 30 (0, 0)) = W at *; have hc1 := box_cells HX1.out; have hc2 := box_cells HX2.out; have hf2 := box_free HX2.out; (try dsimp only at hc1)
    go_wp2_with (first | (go_at_call 32; refine (HFw.out _).mono ?_; rintro e w2 ⟨rfl, hb⟩; replace HX1 := Lib.hid (blk_keep HX1.out hb); replace HX2 := Lib.hid (blk_keep HX2.out hb); replace HB := Lib.hid (HB.out.trans (hb.mono HB.out.size)); clear hb hc1 hc2 hf2; have hc1 := box_cells HX1.out; have hc2 := box_cells HX2.out; have hf2 := box_free HX2.out))
    exact bodyPost_ret (v := .tuple #[.agg #[.int .i64 0, .slice none 0 0], .bool false]) (by simp [results, Tryz.results16, go_sem, hc2, hf2]) rfl ⟨rfl, (HB.out.setCell (by simp <;> omega) _).setCell (by simp <;> omega) _⟩
set_option maxHeartbeats 8000000 in
set_option maxRecDepth 100000 in
theorem usable_yes (s : Sc) (q : Sp) (ta : Option Addr) (tcap : Nat) (l : List Te) (k : Nat) (hk : k ≤ 255) (w : World) (hs : ScAt w s q) (ht : TeAt w ta l) (hE : Env w) (hu : useB s l = true) (ip : Nat) (hip : ip < s.parts.length) (hmod : k % s.parts.length = ip) (p : Pa) (hpe : s.parts[ip] = p) :
    Calls Tryz.prog 16 #[.agg #[.int .i64 s.version, .slice q.ab s.bars.length q.cb, .slice q.ap s.parts.length q.cp, .slice q.an s.notes.length q.cn], .slice ta l.length tcap, .int .u8 k] w (UseR s p w) := by
  obtain ⟨x1, x2, hb⟩ := box2 (w := w) (A := .cells #[.int .i64 s.version, .slice q.ab s.bars.length q.cb, .slice q.ap s.parts.length q.cp, .slice q.an s.notes.length q.cn] 26) (B := .cells #[.int .i64 0, .slice none 0 0] 30 (0, 0)) (Below.refl _ _)
  have HX1 := Lib.hid x1; have HX2 := Lib.hid x2; have HB := Lib.hid hb
  clear x1 x2 hb
  have HFw := Lib.hid (fun W => RFew8_any s q W)
  obtain ⟨⟨⟨u1, u2⟩, u3⟩, u4⟩ : ((few8 s = true ∧ l.length ≤ 60) ∧ validS s = true) ∧ temposB s.bars l = true := by unfold useB at hu; simpa [Bool.and_eq_true, decide_eq_true_eq] using hu
  have hf := few8_U u1
  have HVs := Lib.hid (fun W (hb : Below w.heap.size w W) => RValid8_any s q W hf (hs.below hb))
  have HTe := Lib.hid (fun W (hb : Below w.heap.size w W) => tTempos_any q.ab q.cb s.bars ta tcap l W (Nat.le_trans hf.bars (by decide)) (by omega) (hs.bars.below hb) (ht.below hb))
  have HG := Lib.hid (fun W (hb : Below w.heap.size w W) => show Calls Tryz.prog 30 #[.agg #[.int .i64 s.version, .slice q.ab s.bars.length q.cb, .slice q.ap s.parts.length q.cp, .slice q.an s.notes.length q.cn], .int .i64 p.id] W (RetVE p.id (viewL s p) 0 W) from by have := VGet_any s q p.id W hf (hs.below hb) (hE.below hb); rwa [get_mem u3 (hpe ▸ List.getElem_mem hip)] at this)
  rw [u1] at HFw
  rw [u3] at HVs
  rw [u4] at HTe
  have hll : ¬ ((l.length : Int) > 60) := by omega
  have v := scV u3
  have hri : (k : Int) % (s.parts.length : Int) = (ip : Int) := by rw [← hmod]; simp
  have hri2 : (k : Int).tmod (s.parts.length : Int) = (ip : Int) := by rw [Int.tmod_eq_emod_of_nonneg (Int.natCast_nonneg k)]; exact hri
  have hwk : IntKind.i64.wrap (k : Int) = (k : Int) := IntWalk.i64_in _ (by omega)
  have hn0 : ((s.parts.length : Int) == 0) = false := by have := v.some_; simp; intro e; rw [e] at this; simp at this
  have hn1 : ¬ s.parts = [] := fun e => by have := v.some_; rw [e] at this; simp at this
  have hnp := hf.parts
  have HPt := Lib.hid hs.parts
  clear hu hs ht hE u1 u2 u3 u4 hf v hmod
  generalize l.length = nl at *
  obtain ⟨ab, cb, ap, cp, an, cn⟩ := q; (try dsimp only at *); go_enter Tryz.func16, Tryz.ntmps16; go_upto_region 1 with (fail); generalize (w.alloc (.cells #[.int .i64 s.version, .slice (⟨ab, cb, ap, cp, an, cn⟩ : Sp).ab s.bars.length (⟨ab, cb, ap, cp, an, cn⟩ : Sp).cb, .slice (⟨ab, cb, ap, cp, an, cn⟩ : Sp).ap s.parts.length (⟨ab, cb, ap, cp, an, cn⟩ : Sp).cp, .slice (⟨ab, cb, ap, cp, an, cn⟩ : Sp).an s.notes.length (⟨ab, cb, ap, cp, an, cn⟩ : Sp).cn] 26)).alloc (.cells #[.int .i64 0, .slice none 0 0] 30 (0, 0)) = W at *; have hc1 := box_cells HX1.out; have hc2 := box_cells HX2.out; have hf2 := box_free HX2.out; (try dsimp only at hc1)
  go_upto_region 3 with (first | (go_at_call 32; refine (HFw.out _).mono ?_; rintro e w2 ⟨rfl, hb⟩; replace HX1 := Lib.hid (blk_keep HX1.out hb); replace HX2 := Lib.hid (blk_keep HX2.out hb); replace HB := Lib.hid (HB.out.trans (hb.mono HB.out.size)); clear hb hc1 hc2 hf2; have hc1 := box_cells HX1.out; have hc2 := box_cells HX2.out; have hf2 := box_free HX2.out) | (go_at_call 41; refine (HVs.out _ HB.out).mono ?_; rintro e w2 ⟨rfl, hb⟩; replace HX1 := Lib.hid (blk_keep HX1.out hb); replace HX2 := Lib.hid (blk_keep HX2.out hb); replace HB := Lib.hid (HB.out.trans (hb.mono HB.out.size)); clear hb hc1 hc2 hf2; have hc1 := box_cells HX1.out; have hc2 := box_cells HX2.out; have hf2 := box_free HX2.out) | (go_at_call 28; refine (HTe.out _ HB.out).mono ?_; rintro e w2 ⟨rfl, hb⟩; replace HX1 := Lib.hid (blk_keep HX1.out hb); replace HX2 := Lib.hid (blk_keep HX2.out hb); replace HB := Lib.hid (HB.out.trans (hb.mono HB.out.size)); clear hb hc1 hc2 hf2; have hc1 := box_cells HX1.out; have hc2 := box_cells HX2.out; have hf2 := box_free HX2.out))
  obtain ⟨b, off, hqa, _, e0, _⟩ := (HPt.out.below HB.out).get ip hip
  have hqa2 : ap = some ⟨b, off, none⟩ := hqa
  subst hqa2
  clear hqa
  have hl1 : (ip : Int) < (s.parts.length : Int) := by omega
  have hkL : k < 256 := by omega
  rw [hpe] at e0
  clear hpe
  generalize hWW : (w2 : World) = WW at *
  have hz : ¬ s.parts.length = 0 := by intro e; apply hn1; exact List.eq_nil_of_length_eq_zero e
  have HBr := Lib.hid (RowKit.Below.refl WW.heap.size WW)
  have HG2 := Lib.hid (fun V (hV : RowKit.Below WW.heap.size WW V) => HG.out V (HB.out.trans (hV.mono HB.out.size)))
  have KS := Lib.hid (fun W (hb : RowKit.Below WW.heap.size WW W) => show W.cell? ⟨w.heap.size, 0, none⟩ = some (.int .i64 s.version) ∧ W.cell? ⟨w.heap.size, 1, none⟩ = some (.slice ab s.bars.length cb) ∧ W.cell? ⟨w.heap.size, 2, none⟩ = some (.slice (some ⟨b, off, none⟩) s.parts.length cp) ∧ W.cell? ⟨w.heap.size, 3, none⟩ = some (.slice an s.notes.length cn) ∧ W.cell? ⟨b, off + ip * 13, none⟩ = some (.int .i64 p.id) from ⟨keepE (hc1 0) hb, keepE (hc1 1) hb, keepE (hc1 2) hb, keepE (hc1 3) hb, keepE e0 hb⟩)
  clear hc1 hc2 hf2 e0
  go_cut [8, 9] (fun s8 s9 V => ∃ vb a cap ms, s8 = .pointer (some ⟨vb, 0, none⟩) ∧ s9 = .int .i64 0 ∧ WW.heap.size ≤ vb ∧ V.heap[vb]? = some (.cells #[.int .i64 p.id, .slice a ms.length cap] 30 (0, 0)) ∧ MeAt V a ms ∧ ms.map Me.says = viewL s p ∧ Below WW.heap.size WW V)
  case first =>
    go_region_held3 (fun W => W.cell? ⟨w.heap.size, 0, none⟩ = some (.int .i64 s.version) ∧ W.cell? ⟨w.heap.size, 1, none⟩ = some (.slice ab s.bars.length cb) ∧ W.cell? ⟨w.heap.size, 2, none⟩ = some (.slice (some ⟨b, off, none⟩) s.parts.length cp) ∧ W.cell? ⟨w.heap.size, 3, none⟩ = some (.slice an s.notes.length cn) ∧ W.cell? ⟨b, off + ip * 13, none⟩ = some (.int .i64 p.id))
      ((refine KS.out _ ?_; (repeat (first | exact HBr.out | with_reducible exact RowKit.Below.refl _ _ | with_reducible refine RowKit.Below.drew ?_ | with_reducible refine RowKit.Below.alloc ?_ (by first | (simp <;> omega) | (have := HBr.out.size; simp <;> omega)) _ | with_reducible refine RowKit.Below.setCell ?_ (by first | (simp <;> omega) | (have := HBr.out.size; simp <;> omega)) _))))
      ((go_at_call 30; refine (HG2.out _ (by (repeat (first | exact HBr.out | with_reducible exact RowKit.Below.refl _ _ | with_reducible refine RowKit.Below.drew ?_ | with_reducible refine RowKit.Below.alloc ?_ (by first | (simp <;> omega) | (have := HBr.out.size; simp <;> omega)) _ | with_reducible refine RowKit.Below.setCell ?_ (by first | (simp <;> omega) | (have := HBr.out.size; simp <;> omega)) _)))).mono ?_; rintro e w5 ⟨a, cap, ms, rfl, hok, hme, hsy, hb⟩; have HMe := Lib.hid hme; have HSy := Lib.hid hsy; clear hok hme hsy; (try replace HX9 := Lib.hid (blk_keep HX9.out hb)); (try replace hb := drewB hb); (first | (have x0 := box_below hb; have HX9 := Lib.hid x0; have HS9 := Lib.hid HBr.out.size; clear x0; replace hb := allocB hb) | skip); (try replace hb := drewB hb); replace HBr := Lib.hid (HBr.out.trans (hb.mono HBr.out.size)); clear hb; (try clear hc9 hf9 hz9); (try (have hc9 := box_cells HX9.out; have hf9 := box_free HX9.out; have hz9 := lt_blk HX9.out))))
    all_goals
      go_wp2
      go_meet
      case rel =>
        first
        | exact ⟨_, a, cap, ms, rfl, rfl, HBr.out.size, heap_alloc_new _ _, HMe.out.below ((RowKit.Below.refl _ _).alloc (Nat.le_refl _) _), HSy.out, HBr.out.alloc HBr.out.size _⟩
        | exact ⟨_, a, cap, ms, rfl, rfl, HS9.out, rat2_at HX9.out, HMe.out.keptSmall (S := [WW.heap.size]) (((KeepB.refl _ _ _).set (.inl (by simp)) _).set (.inl (by simp)) _) (fun c hc => by rw [List.mem_singleton] at hc; subst hc; exact ⟨_, _, _, HX9.out, by decide⟩), HSy.out, rat2_below HBr.out HS9.out⟩
  case rest =>
  obtain ⟨vb, a, cap, ms, rfl, rfl, hvb, xv, hme, hsy, hb⟩ := hcut
  have HX3 := Lib.hid xv; have HMe := Lib.hid hme; have HSy := Lib.hid hsy
  replace HX2 := Lib.hid (blk_keep HX2.out hb); replace HB := Lib.hid (HB.out.trans (hb.mono HB.out.size))
  clear xv hme hsy hb HX1
  have hc2 := box_cells HX2.out; have hf2 := box_free HX2.out; have hc3 := box_cells HX3.out
  go_wp2
  exact bodyPost_ret (v := .tuple #[.agg #[.int .i64 p.id, .slice a ms.length cap], .bool true]) (by simp [results, Tryz.results16, go_sem, hc2, hf2]) rfl ⟨a, cap, ms, rfl, HMe.out.keptSmall (S := [w.heap.size + 1]) (((KeepB.refl _ _ _).set (.inl (by simp)) _).set (.inl (by simp)) _) (fun c hc => by rw [List.mem_singleton] at hc; subst hc; exact ⟨_, _, _, HX2.out, by decide⟩), HSy.out, (HB.out.setCell (by simp <;> omega) _).setCell (by simp <;> omega) _⟩
set_option maxHeartbeats 4000000 in
set_option maxRecDepth 100000 in
theorem sum25_any (a b : Rt) (w : World) (P : Rt × Int) (hP : addR2 a b = P) :
    Calls Tryz.prog 19 #[.agg #[.int .i64 a.n, .int .i64 a.d, .int .i64 b.n, .int .i64 b.d]] w fun e w' => e = .returned (.tuple #[.agg #[.int .i64 (P.1).n, .int .i64 (P.1).d], .bool (P.2 == 0)]) ∧ Below w.heap.size w w' := by
  have HA := Lib.hid (fun W => hP ▸ RatAdd_any a b W)
  obtain ⟨x1, x2, hb⟩ := box2 (w := w) (A := .cells #[.int .i64 a.n, .int .i64 a.d, .int .i64 b.n, .int .i64 b.d] 36 (0, 0)) (B := .cells #[.int .i64 0, .int .i64 0] 32 (0, 0)) (Below.refl _ _)
  have HX1 := Lib.hid x1; have HX2 := Lib.hid x2; have HB := Lib.hid hb
  clear x1 x2 hb hP
  obtain ⟨⟨pn, pd⟩, pe⟩ := P
  try dsimp only at *
  go_enter Tryz.func19, Tryz.ntmps19
  go_upto_region 1 with (fail)
  generalize (w.alloc (.cells #[.int .i64 a.n, .int .i64 a.d, .int .i64 b.n, .int .i64 b.d] 36 (0, 0))).alloc (.cells #[.int .i64 0, .int .i64 0] 32 (0, 0)) = W at *
  have hc1 := box_cells HX1.out
  go_upto_region 2 with (go_at_call 44; refine (HA.out _).mono ?_; rintro e w2 ⟨rfl, hb⟩; replace HX2 := Lib.hid (blk_keep HX2.out hb); replace HB := Lib.hid (HB.out.trans (hb.mono HB.out.size)); clear hb hc1 HX1)
  have HX3 := Lib.hid (heap_alloc_new w2 (.cells #[.int .i64 pn, .int .i64 pd] 32 (0, 0)))
  have hb := (Below.refl w2.heap.size w2).alloc (Nat.le_refl _) (.cells #[.int .i64 pn, .int .i64 pd] 32 (0, 0))
  replace HX2 := Lib.hid (blk_keep HX2.out hb); replace HB := Lib.hid (HB.out.trans (hb.mono HB.out.size)); clear hb
  generalize w2.alloc (.cells #[.int .i64 pn, .int .i64 pd] 32 (0, 0)) = W2 at *
  have hc2 := box_cells HX2.out; have hf2 := box_free HX2.out; have hc3 := box_cells HX3.out
  go_wp2
  exact bodyPost_ret (v := .tuple #[.agg #[.int .i64 pn, .int .i64 pd], .bool (pe == 0)]) (by simp [results, Tryz.results19, go_sem, hc2, hf2]) rfl ⟨rfl, (HB.out.setCell (by simp <;> omega) _).setCell (by simp <;> omega) _⟩
open Go.RowKit Go.Sort

/-- A score, tempos and the view of a part, all right, in memory. -/
structure UseW (w : World) (s : Sc) (q : Sp) (ta : Option Addr) (l : List Te) (a : Option Addr) (ms : List Me) (p : Pa) : Prop where
  tw : TurnW w s q ta l a ms
  ok : okT s p.id (viewL s p) l = true
  sy : ms.map Me.says = viewL s p
theorem UseW.below {w w' : World} {s : Sc} {q : Sp} {ta : Option Addr} {l : List Te} {a : Option Addr} {ms : List Me} {p : Pa} (h : UseW w s q ta l a ms p) (hb : Below w.heap.size w w') : UseW w' s q ta l a ms p := ⟨h.tw.below hb, h.ok, h.sy⟩
theorem UseW.v {w : World} {s : Sc} {q : Sp} {ta : Option Addr} {l : List Te} {a : Option Addr} {ms : List Me} {p : Pa} (h : UseW w s q ta l a ms p) : OkV s p.id ms l := okT_v (by rw [h.sy]; exact h.ok) h.tw.ml h.tw.nl
theorem UseW.tem {w : World} {s : Sc} {q : Sp} {ta : Option Addr} {l : List Te} {a : Option Addr} {ms : List Me} {p : Pa} (h : UseW w s q ta l a ms p) : temposB s.bars l = true := h.v.tem
theorem UseW.vw {w : World} {s : Sc} {q : Sp} {ta : Option Addr} {l : List Te} {a : Option Addr} {ms : List Me} {p : Pa} (h : UseW w s q ta l a ms p) : VwOk s.bars (viewL s p) := h.sy ▸ h.v.vw
theorem UseW.len {w : World} {s : Sc} {q : Sp} {ta : Option Addr} {l : List Te} {a : Option Addr} {ms : List Me} {p : Pa} (h : UseW w s q ta l a ms p) : ms.length = s.bars.length := h.v.len
theorem UseW.vlen {w : World} {s : Sc} {q : Sp} {ta : Option Addr} {l : List Te} {a : Option Addr} {ms : List Me} {p : Pa} (h : UseW w s q ta l a ms p) : (viewL s p).length = s.bars.length := view_lenT s p
theorem usable_use (s : Sc) (q : Sp) (ta : Option Addr) (tcap : Nat) (l : List Te) (k : Nat) (hk : k ≤ 255) (w : World) (hs : ScAt w s q) (ht : TeAt w ta l) (hE : Env w) (hu : useB s l = true) (ip : Nat) (hip : ip < s.parts.length) (hmod : k % s.parts.length = ip) (p : Pa) (hpe : s.parts[ip] = p) :
    Calls Tryz.prog 16 #[.agg #[.int .i64 s.version, .slice q.ab s.bars.length q.cb, .slice q.ap s.parts.length q.cp, .slice q.an s.notes.length q.cn], .slice ta l.length tcap, .int .u8 k] w fun e w' => ∃ a cap ms, e = .returned (.tuple #[.agg #[.int .i64 p.id, .slice a ms.length cap], .bool true]) ∧ UseW w' s q ta l a ms p ∧ Below w.heap.size w w' := by
  refine (usable_yes s q ta tcap l k hk w hs ht hE hu ip hip hmod p hpe).mono ?_
  rintro e w' ⟨a, cap, ms, rfl, hm, hy, hb⟩
  exact ⟨a, cap, ms, rfl, ⟨TurnW.of_use hu (hs.below hb) (hE.below hb) (ht.below hb) hm hy, ok_of_use hu (hpe ▸ List.getElem_mem hip), hy⟩, hb⟩
theorem free_use {s : Sc} {q : Sp} {a : Option Addr} {cap : Nat} {ms : List Me} {ta : Option Addr} {tcap : Nat} {l : List Te} {p : Pa} {w : World} (h : UseW w s q ta l a ms p) {k : Nat} (hk : k ≤ s.bars.length) {FF : (Rt × Rt) × Int} (hF : freeR s.bars l (viewL s p) k = FF) :
    Calls Tryz.prog 11 #[.agg #[.int .i64 s.version, .slice q.ab s.bars.length q.cb, .slice q.ap s.parts.length q.cp, .slice q.an s.notes.length q.cn], .slice ta l.length tcap, .agg #[.int .i64 p.id, .slice a ms.length cap], .int .i64 (k : Int)] w fun e w' => e = .returned (.tuple #[.agg #[.int .i64 (FF).1.1.n, .int .i64 (FF).1.1.d, .int .i64 (FF).1.2.n, .int .i64 (FF).1.2.d], .int .i64 (FF).2]) ∧ Below w.heap.size w w' := by
  have := PFree25_any s q p.id a cap ms ta tcap l (k : Int) w h.tw
  rwa [h.sy, freeF_ok h.ok (by rw [h.vlen]; exact hk), hF] at this
theorem good_use {s : Sc} {q : Sp} {a : Option Addr} {cap : Nat} {ms : List Me} {ta : Option Addr} {tcap : Nat} {l : List Te} {p : Pa} {w : World} (h : UseW w s q ta l a ms p) {need : Rt} (hn : rtOk need = true) (h0 : 0 ≤ need.n) {r : List Bool} (hr : goodR s.bars l (viewL s p) need = some r) :
    Calls Tryz.prog 13 #[.agg #[.int .i64 s.version, .slice q.ab s.bars.length q.cb, .slice q.ap s.parts.length q.cp, .slice q.an s.notes.length q.cn], .slice ta l.length tcap, .agg #[.int .i64 p.id, .slice a ms.length cap], .agg #[.int .i64 (need).n, .int .i64 (need).d]] w fun e w' => ∃ ga gc, e = .returned (.tuple #[.slice ga r.length gc, .int .i64 0]) ∧ BoAt w' ga r ∧ Below w.heap.size w w' := by
  have e1 : goodF s p.id (viewL s p) l need = (r, 0) := by unfold goodF; rw [h.ok, hn, decide_eq_true h0, hr]; rfl
  have := PGood25_any s q p.id a cap ms ta tcap l need w h.tw
  rw [h.sy, e1] at this
  refine this.mono ?_
  rintro e w' ⟨ga, gc, rfl, _, hs, hb⟩
  exact ⟨ga, gc, by rw [List.length_map], hs, hb⟩
theorem good_use3 {s : Sc} {q : Sp} {a : Option Addr} {cap : Nat} {ms : List Me} {ta : Option Addr} {tcap : Nat} {l : List Te} {p : Pa} {w : World} (h : UseW w s q ta l a ms p) {need : Rt} (hn : rtOk need = true) (h0 : 0 ≤ need.n) (hr : goodR s.bars l (viewL s p) need = none) :
    Calls Tryz.prog 13 #[.agg #[.int .i64 s.version, .slice q.ab s.bars.length q.cb, .slice q.ap s.parts.length q.cp, .slice q.an s.notes.length q.cn], .slice ta l.length tcap, .agg #[.int .i64 p.id, .slice a ms.length cap], .agg #[.int .i64 (need).n, .int .i64 (need).d]] w fun e w' => ∃ ga gc, e = .returned (.tuple #[.slice ga 0 gc, .int .i64 3]) ∧ Below w.heap.size w w' := by
  have e1 : goodF s p.id (viewL s p) l need = ([], 3) := by unfold goodF; rw [h.ok, hn, decide_eq_true h0, hr]; rfl
  have := PGood25_any s q p.id a cap ms ta tcap l need w h.tw
  rw [h.sy, e1] at this
  refine this.mono ?_
  rintro e w' ⟨ga, gc, rfl, _, hs, hb⟩
  exact ⟨ga, gc, rfl, hb⟩
theorem BoAt.below {w w' : World} {a : Option Addr} {l : List Bool} (h : BoAt w a l) (hb : Below w.heap.size w w') : BoAt w' a l := SlAt.below h hb
/-- What sum tells of two ratios that are right. -/
theorem sum_ok {a b : Rt} (h : (addR2 a b).2 = 0) : rtOk (addR2 a b).1 = true := by
  unfold addR2 at h ⊢
  split at h
  · rename_i hc
    rw [if_pos hc]
    rw [Bool.and_eq_true] at hc
    have h1 := ((rtOk_iff a).1 hc.1).1.1
    have h2 := ((rtOk_iff b).1 hc.2).1.1
    exact (redR_ok (n := a.n * b.d + b.n * a.d) (d := a.d * b.d) (Int.mul_pos (by omega) (by omega)) (Prod.ext rfl h)).1
  · cases h
end Go.Proofs.YtcelciomhngajaaGreatDoor

