/- Texts of this seat, laid together: ScPure10, ScWith. -/
import Derived.Test.YtcelciomhngajaaGreatDoorSB
import Derived.Test.YtcelciomhngajaaGreatDoorSE
import Derived.Test.YtcelciomhngajaaGreatDoorSF
import Derived.Test.YtcelciomhngajaaGreatDoorSA
import Derived.Test.YtcelciomhngajaaGreatDoorSJ
/- A further note, and views; no condition. -/
namespace Go.Proofs.YtcelciomhngajaaGreatDoor
set_option linter.unusedSimpArgs false
set_option linter.unusedVariables false
open Go.RowKit Go.Sort

/-- The error of a score with other notes. -/
def withE (s : Sc) (version : Int) (l : List No) : Int := if validS s && isID version && notesB s.bars l then wrongI s.parts l else 1
/-- A score with another version, and other notes. -/
def withS (s : Sc) (version : Int) (l : List No) : Sc := ⟨version, s.bars, s.parts, sortN s.bars l⟩
theorem wrong_perm {parts : List Pa} {l r : List No} (h : l.Perm r) : wrongI parts l = wrongI parts r := by
  unfold wrongI
  rw [Bool.eq_iff_iff.2 (show (l.all fun n => (ownP parts n).isSome) = true ↔ (r.all fun n => (ownP parts n).isSome) = true by simp only [List.all_eq_true]; exact ⟨fun k x hx => k x (h.mem_iff.2 hx), fun k x hx => k x (h.mem_iff.1 hx)⟩),
    Bool.eq_iff_iff.2 (show l.all (inRange parts) = true ↔ r.all (inRange parts) = true by simp only [List.all_eq_true]; exact ⟨fun k x hx => k x (h.mem_iff.2 hx), fun k x hx => k x (h.mem_iff.1 hx)⟩)]
theorem notesB_perm {bars : List Ba} {l r : List No} (h : l.Perm r) : notesB bars l = notesB bars r := by
  unfold notesB
  rw [Bool.eq_iff_iff.2 (show l.all (noteOk bars) = true ↔ r.all (noteOk bars) = true by simp only [List.all_eq_true]; exact ⟨fun k x hx => k x (h.mem_iff.2 hx), fun k x hx => k x (h.mem_iff.1 hx)⟩), h.length_eq,
    decide_eq_decide.2 (h.map No.id).nodup_iff]
theorem with_valid {s : Sc} {version : Int} {l : List No} (h : validS s = true) (hv : isID version = true) (hn : notesB s.bars l = true) (hw : wrongI s.parts l = 0) : validS (withS s version l) = true := by
  simp only [validS, Bool.and_eq_true] at h ⊢
  obtain ⟨⟨⟨⟨⟨h1, h2⟩, h3⟩, h4⟩, h5⟩, h6⟩ := h
  have hp := sortN_perm s.bars l
  refine ⟨⟨⟨⟨⟨hv, h2⟩, h3⟩, (notesB_perm hp).trans hn⟩, ?_⟩, ?_⟩
  · show decide (wrongI s.parts (sortN s.bars l) = 0) = true
    rw [wrong_perm hp, hw]; rfl
  · exact sorted_iff.2 (strict_of (show ((sortN s.bars l).map No.id).Nodup by rw [(hp.map No.id).nodup_iff]; exact notes_nodup hn) (sortN_sorted s.bars l))
theorem with_ok {s : Sc} {version : Int} {l : List No} (h : withE s version l = 0) : validS s = true ∧ isID version = true ∧ notesB s.bars l = true ∧ wrongI s.parts l = 0 := by
  unfold withE at h
  split at h
  · rename_i hc
    simp only [Bool.and_eq_true] at hc
    exact ⟨hc.1.1, hc.1.2, hc.2, h⟩
  · cases h
open Go.RowKit Go.Sort Go.Shelf

theorem OwnR.set4 {w : World} {B b : Nat} {E : TypeId} {sz : Nat} {v : Value} {rows : List (List Value)} (o : OwnR w B E sz v rows) (hb : b < B) (x0 x1 x2 x3 : Value) : OwnR ((((w.setCell ⟨b, 0, none⟩ x0).setCell ⟨b, 1, none⟩ x1).setCell ⟨b, 2, none⟩ x2).setCell ⟨b, 3, none⟩ x3) B E sz v rows :=
  (((o.setFar (fun k hk => by have := (o.lt k hk).1; omega) x0).setFar (fun k hk => by have := (o.lt k hk).1; omega) x1).setFar (fun k hk => by have := (o.lt k hk).1; omega) x2).setFar (fun k hk => by have := (o.lt k hk).1; omega) x3
theorem SlAt.set4 {w : World} {a : Option Addr} {sz c : Nat} {rows : List (List Value)} {cs : Array Value} {T : TypeId} {fr : Nat × Nat} (h : SlAt w a sz rows) (hc : w.heap[c]? = some (.cells cs T fr)) (hs : cs.size < sz) (x0 x1 x2 x3 : Value) : SlAt ((((w.setCell ⟨c, 0, none⟩ x0).setCell ⟨c, 1, none⟩ x1).setCell ⟨c, 2, none⟩ x2).setCell ⟨c, 3, none⟩ x3) a sz rows := by
  have hne : ∀ ad, a = some ad → rows ≠ [] → ad.block ≠ c := fun ad e h0 => by
    obtain ⟨r, rs, er⟩ := List.exists_cons_of_ne_nil h0
    obtain ⟨b0, o0, e0, _⟩ := h 0 r (by rw [er]; rfl)
    rw [e] at e0; cases e0
    exact SlAt.small (by rw [← e]; exact h) h0 hc hs
  exact SlAt.setOther (SlAt.setOther (SlAt.setOther (SlAt.setOther h hne x0) hne x1) hne x2) hne x3
theorem eltBa : Elt Tryz.prog 22 105 4 32 Ba.cells := ⟨Tryz.underlying22, ⟨.agg #[.int .i64 0, .int .i64 0, .int .i64 0, .int .i64 0], by kernel_rfl, rfl⟩, by decide, by decide, fun _ => rfl, fun x u hu => by simp [Ba.cells] at hu; rcases hu with rfl | rfl | rfl | rfl <;> rfl⟩
theorem eltPa : Elt Tryz.prog 23 93 13 104 Pa.cells := ⟨Tryz.underlying23, ⟨.agg #[.int .i64 0, .int .i64 0, .int .i64 0, .int .i64 0, .int .i64 0, .int .i64 0, .int .i64 0, .int .i64 0, .int .i64 0, .int .i64 0, .int .i64 0, .int .i64 0, .int .i64 0], by kernel_rfl, rfl⟩, by decide, by decide, fun _ => rfl, fun x u hu => by simp [Pa.cells] at hu; rcases hu with rfl | rfl | rfl | rfl | rfl | rfl | rfl | rfl | rfl | rfl | rfl | rfl | rfl <;> rfl⟩
theorem nil_eq_someB (b off n cap : Nat) (w : World) : (binOp BinOp.eql 22 (.slice (some ⟨b, off, none⟩) n cap) (.slice none 0 0)).run Tryz.prog w = .ok (.bool false) w := by kernel_rfl
theorem nil_eq_someP (b off n cap : Nat) (w : World) : (binOp BinOp.eql 23 (.slice (some ⟨b, off, none⟩) n cap) (.slice none 0 0)).run Tryz.prog w = .ok (.bool false) w := by kernel_rfl
set_option maxRecDepth 100000 in
theorem CloneB_any (a : Option Addr) (cap : Nat) (l : List Ba) (w : World) (h0 : l ≠ []) (hl : l.length ≤ 1000) (hr : BaAt w a l) :
    Calls Tryz.prog 61 #[.slice a l.length cap] w fun e w' => ∃ v, e = .returned v ∧ OwnR w' w.heap.size 105 4 v (l.map Ba.cells) ∧ Below w.heap.size w w' := by
  obtain ⟨d, l', rfl⟩ := List.exists_cons_of_ne_nil h0
  obtain ⟨b, off, rfl, _⟩ := hr 0 d.cells rfl
  have HR := Lib.hid hr; clear hr
  have hq := nil_eq_someB b off (d :: l').length cap w
  generalize d :: l' = l at *
  go_enter Tryz.func61, Tryz.ntmps61
  go_wp2_with (at_builtin; refine appE eltBa rfl (.tmp 5) (.tmp 6) rfl w.heap.size _ [] rfl (ownR_mk _ _ _ _ (Nat.le_refl _)) _ _ _ l rfl rfl (fun e => by cases e) (SlAt.alloc HR.out _) (by simp; omega) (by simp) ?_; intro v2 w2 ho2 hg2; have HO2 := Lib.hid ho2; have HB2 := Lib.hid (below_grown ((Below.refl w.heap.size w).alloc (Nat.le_refl _) _) (ownR_mk _ w.heap.size 105 4 (Nat.le_refl _)) (by simp) hg2); clear ho2 hg2)
  go_ret
  exact ⟨_, rfl, HO2.out, HB2.out⟩
set_option maxRecDepth 100000 in
theorem CloneP_any (a : Option Addr) (cap : Nat) (l : List Pa) (w : World) (h0 : l ≠ []) (hl : l.length ≤ 1000) (hr : PaAt w a l) :
    Calls Tryz.prog 62 #[.slice a l.length cap] w fun e w' => ∃ v, e = .returned v ∧ OwnR w' w.heap.size 93 13 v (l.map Pa.cells) ∧ Below w.heap.size w w' := by
  obtain ⟨d, l', rfl⟩ := List.exists_cons_of_ne_nil h0
  obtain ⟨b, off, rfl, _⟩ := hr 0 d.cells rfl
  have HR := Lib.hid hr; clear hr
  have hq := nil_eq_someP b off (d :: l').length cap w
  generalize d :: l' = l at *
  go_enter Tryz.func62, Tryz.ntmps62
  go_wp2_with (at_builtin; refine appE eltPa rfl (.tmp 5) (.tmp 6) rfl w.heap.size _ [] rfl (ownR_mk _ _ _ _ (Nat.le_refl _)) _ _ _ l rfl rfl (fun e => by cases e) (SlAt.alloc HR.out _) (by simp; omega) (by simp) ?_; intro v2 w2 ho2 hg2; have HO2 := Lib.hid ho2; have HB2 := Lib.hid (below_grown ((Below.refl w.heap.size w).alloc (Nat.le_refl _) _) (ownR_mk _ w.heap.size 93 13 (Nat.le_refl _)) (by simp) hg2); clear ho2 hg2)
  go_ret
  exact ⟨_, rfl, HO2.out, HB2.out⟩
/-- A score that is handed back, with an error number beside. -/
def RetScE (s : Sc) (er : Int) (w : World) (e : Ending) (w' : World) : Prop := ∃ q : Sp, e = .returned (.tuple #[.agg #[.int .i64 s.version, .slice q.ab s.bars.length q.cb, .slice q.ap s.parts.length q.cp, .slice q.an s.notes.length q.cn], .int .i64 er]) ∧ ScAt w' s q ∧ Below w.heap.size w w' ∧ ∀ ad, q.ab = some ad → w.heap.size ≤ ad.block
def noS : Sc := ⟨0, [], [], []⟩
set_option maxRecDepth 100000 in
set_option maxHeartbeats 8000000 in
theorem With_any (s : Sc) (q : Sp) (version : Int) (a : Option Addr) (cap : Nat) (l : List No) (w : World) (hf : ScFew s) (hs : ScAt w s q) (hE : Env w) (hl : l.length ≤ 1000) (hok : SlOk a l.length cap) (hm : NoAt w a l) :
    Calls Tryz.prog 29 #[.agg #[.int .i64 s.version, .slice q.ab s.bars.length q.cb, .slice q.ap s.parts.length q.cp, .slice q.an s.notes.length q.cn], .int .i64 version, .slice a l.length cap] w (RetScE (if withE s version l = 0 then withS s version l else noS) (withE s version l) w) := by
  obtain ⟨ab, cb, ap, cp, an, cn⟩ := q
  obtain ⟨x1, x2, hb⟩ := box2 (w := w) (A := .cells #[.int .i64 s.version, .slice (⟨ab, cb, ap, cp, an, cn⟩ : Sp).ab s.bars.length (⟨ab, cb, ap, cp, an, cn⟩ : Sp).cb, .slice (⟨ab, cb, ap, cp, an, cn⟩ : Sp).ap s.parts.length (⟨ab, cb, ap, cp, an, cn⟩ : Sp).cp, .slice (⟨ab, cb, ap, cp, an, cn⟩ : Sp).an s.notes.length (⟨ab, cb, ap, cp, an, cn⟩ : Sp).cn] 26) (B := .cells #[.int .i64 0, .slice none 0 0, .slice none 0 0, .slice none 0 0] 26) (Below.refl _ _)
  have HX1 := Lib.hid x1; have HX2 := Lib.hid x2; have HB := Lib.hid hb; clear x1 x2 hb
  have HS := Lib.hid hs; have HE := Lib.hid hE; have HF := Lib.hid hf; have HM := Lib.hid hm; have HOk := Lib.hid hok
  have HC1 := Lib.hid (fun W (hb : Below w.heap.size w W) => SValid_any s (⟨ab, cb, ap, cp, an, cn⟩ : Sp) W HF.out (HS.out.below hb) (HE.out.below hb))
  have HC2 := Lib.hid (fun W => sisID_any version W)
  have HC3 := Lib.hid (fun W (hb : Below w.heap.size w W) => NotValid_any ab a cb cap s.bars l W (by have := HF.out.bars; omega) (by omega) (HS.out.bars.below hb) (HM.out.below hb))
  clear hs hE hf hm hok
  dsimp only at *
  cases h1 : validS s
  · rw [h1] at HC1
    rw [show withE s version l = 1 by simp [withE, h1], if_neg (by decide)]
    clear h1
    go_enter Tryz.func29, Tryz.ntmps29; go_upto_region 1 with (fail); generalize (w.alloc (.cells #[.int .i64 s.version, .slice (⟨ab, cb, ap, cp, an, cn⟩ : Sp).ab s.bars.length (⟨ab, cb, ap, cp, an, cn⟩ : Sp).cb, .slice (⟨ab, cb, ap, cp, an, cn⟩ : Sp).ap s.parts.length (⟨ab, cb, ap, cp, an, cn⟩ : Sp).cp, .slice (⟨ab, cb, ap, cp, an, cn⟩ : Sp).an s.notes.length (⟨ab, cb, ap, cp, an, cn⟩ : Sp).cn] 26)).alloc (.cells #[.int .i64 0, .slice none 0 0, .slice none 0 0, .slice none 0 0] 26) = W at *; have hc1 := box_cells HX1.out; have hc2 := box_cells HX2.out; have hf2 := box_free HX2.out; have hz2 := lt_blk HX2.out
    go_wp2_with (first | (go_at_call 56; refine (HC1.out _ HB.out).mono ?_; rintro e w2 ⟨rfl, hb⟩; (try replace hb := drewB hb); replace HB := Lib.hid (HB.out.trans (hb.mono HB.out.size)); (try (replace HX1 := Lib.hid (blk_keep HX1.out hb); replace hc1 := box_cells HX1.out; replace hf1 := box_free HX1.out; replace hz1 := lt_blk HX1.out)); (try (replace HX2 := Lib.hid (blk_keep HX2.out hb); replace hc2 := box_cells HX2.out; replace hf2 := box_free HX2.out; replace hz2 := lt_blk HX2.out)); clear hb) | (go_at_call 57; refine (HC2.out _).mono ?_; rintro e w2 ⟨rfl, rfl⟩) | (go_at_call 58; refine (HC3.out _ HB.out).mono ?_; rintro e w2 ⟨rfl, hb⟩; (try replace hb := drewB hb); replace HB := Lib.hid (HB.out.trans (hb.mono HB.out.size)); (try (replace HX1 := Lib.hid (blk_keep HX1.out hb); replace hc1 := box_cells HX1.out; replace hf1 := box_free HX1.out; replace hz1 := lt_blk HX1.out)); (try (replace HX2 := Lib.hid (blk_keep HX2.out hb); replace hc2 := box_cells HX2.out; replace hf2 := box_free HX2.out; replace hz2 := lt_blk HX2.out)); clear hb))
    exact bodyPost_ret (v := .tuple #[.agg #[.int .i64 0, .slice none 0 0, .slice none 0 0, .slice none 0 0], .int .i64 1]) (by simp [results, Tryz.results29, go_sem, hc2, hf2]) rfl ⟨⟨none, 0, none, 0, none, 0⟩, rfl, ⟨SlAt.nil _ _ _, SlAt.nil _ _ _, SlAt.nil _ _ _, SlOk.nil, SlOk.nil, SlOk.nil⟩, (((HB.out.setCell (by simp <;> omega) _).setCell (by simp <;> omega) _).setCell (by simp <;> omega) _).setCell (by simp <;> omega) _, fun ad e => by cases e⟩
  cases h2 : isID version
  · rw [h1] at HC1; rw [h2] at HC2
    rw [show withE s version l = 1 by simp [withE, h1, h2], if_neg (by decide)]
    clear h1 h2
    go_enter Tryz.func29, Tryz.ntmps29; go_upto_region 1 with (fail); generalize (w.alloc (.cells #[.int .i64 s.version, .slice (⟨ab, cb, ap, cp, an, cn⟩ : Sp).ab s.bars.length (⟨ab, cb, ap, cp, an, cn⟩ : Sp).cb, .slice (⟨ab, cb, ap, cp, an, cn⟩ : Sp).ap s.parts.length (⟨ab, cb, ap, cp, an, cn⟩ : Sp).cp, .slice (⟨ab, cb, ap, cp, an, cn⟩ : Sp).an s.notes.length (⟨ab, cb, ap, cp, an, cn⟩ : Sp).cn] 26)).alloc (.cells #[.int .i64 0, .slice none 0 0, .slice none 0 0, .slice none 0 0] 26) = W at *; have hc1 := box_cells HX1.out; have hc2 := box_cells HX2.out; have hf2 := box_free HX2.out; have hz2 := lt_blk HX2.out
    go_wp2_with (first | (go_at_call 56; refine (HC1.out _ HB.out).mono ?_; rintro e w2 ⟨rfl, hb⟩; (try replace hb := drewB hb); replace HB := Lib.hid (HB.out.trans (hb.mono HB.out.size)); (try (replace HX1 := Lib.hid (blk_keep HX1.out hb); replace hc1 := box_cells HX1.out; replace hf1 := box_free HX1.out; replace hz1 := lt_blk HX1.out)); (try (replace HX2 := Lib.hid (blk_keep HX2.out hb); replace hc2 := box_cells HX2.out; replace hf2 := box_free HX2.out; replace hz2 := lt_blk HX2.out)); clear hb) | (go_at_call 57; refine (HC2.out _).mono ?_; rintro e w2 ⟨rfl, rfl⟩) | (go_at_call 58; refine (HC3.out _ HB.out).mono ?_; rintro e w2 ⟨rfl, hb⟩; (try replace hb := drewB hb); replace HB := Lib.hid (HB.out.trans (hb.mono HB.out.size)); (try (replace HX1 := Lib.hid (blk_keep HX1.out hb); replace hc1 := box_cells HX1.out; replace hf1 := box_free HX1.out; replace hz1 := lt_blk HX1.out)); (try (replace HX2 := Lib.hid (blk_keep HX2.out hb); replace hc2 := box_cells HX2.out; replace hf2 := box_free HX2.out; replace hz2 := lt_blk HX2.out)); clear hb))
    exact bodyPost_ret (v := .tuple #[.agg #[.int .i64 0, .slice none 0 0, .slice none 0 0, .slice none 0 0], .int .i64 1]) (by simp [results, Tryz.results29, go_sem, hc2, hf2]) rfl ⟨⟨none, 0, none, 0, none, 0⟩, rfl, ⟨SlAt.nil _ _ _, SlAt.nil _ _ _, SlAt.nil _ _ _, SlOk.nil, SlOk.nil, SlOk.nil⟩, (((HB.out.setCell (by simp <;> omega) _).setCell (by simp <;> omega) _).setCell (by simp <;> omega) _).setCell (by simp <;> omega) _, fun ad e => by cases e⟩
  cases h3 : notesB s.bars l
  · rw [h1] at HC1; rw [h2] at HC2; rw [h3] at HC3
    rw [show withE s version l = 1 by simp [withE, h1, h2, h3], if_neg (by decide)]
    clear h1 h2 h3
    go_enter Tryz.func29, Tryz.ntmps29; go_upto_region 1 with (fail); generalize (w.alloc (.cells #[.int .i64 s.version, .slice (⟨ab, cb, ap, cp, an, cn⟩ : Sp).ab s.bars.length (⟨ab, cb, ap, cp, an, cn⟩ : Sp).cb, .slice (⟨ab, cb, ap, cp, an, cn⟩ : Sp).ap s.parts.length (⟨ab, cb, ap, cp, an, cn⟩ : Sp).cp, .slice (⟨ab, cb, ap, cp, an, cn⟩ : Sp).an s.notes.length (⟨ab, cb, ap, cp, an, cn⟩ : Sp).cn] 26)).alloc (.cells #[.int .i64 0, .slice none 0 0, .slice none 0 0, .slice none 0 0] 26) = W at *; have hc1 := box_cells HX1.out; have hc2 := box_cells HX2.out; have hf2 := box_free HX2.out; have hz2 := lt_blk HX2.out
    go_wp2_with (first | (go_at_call 56; refine (HC1.out _ HB.out).mono ?_; rintro e w2 ⟨rfl, hb⟩; (try replace hb := drewB hb); replace HB := Lib.hid (HB.out.trans (hb.mono HB.out.size)); (try (replace HX1 := Lib.hid (blk_keep HX1.out hb); replace hc1 := box_cells HX1.out; replace hf1 := box_free HX1.out; replace hz1 := lt_blk HX1.out)); (try (replace HX2 := Lib.hid (blk_keep HX2.out hb); replace hc2 := box_cells HX2.out; replace hf2 := box_free HX2.out; replace hz2 := lt_blk HX2.out)); clear hb) | (go_at_call 57; refine (HC2.out _).mono ?_; rintro e w2 ⟨rfl, rfl⟩) | (go_at_call 58; refine (HC3.out _ HB.out).mono ?_; rintro e w2 ⟨rfl, hb⟩; (try replace hb := drewB hb); replace HB := Lib.hid (HB.out.trans (hb.mono HB.out.size)); (try (replace HX1 := Lib.hid (blk_keep HX1.out hb); replace hc1 := box_cells HX1.out; replace hf1 := box_free HX1.out; replace hz1 := lt_blk HX1.out)); (try (replace HX2 := Lib.hid (blk_keep HX2.out hb); replace hc2 := box_cells HX2.out; replace hf2 := box_free HX2.out; replace hz2 := lt_blk HX2.out)); clear hb))
    exact bodyPost_ret (v := .tuple #[.agg #[.int .i64 0, .slice none 0 0, .slice none 0 0, .slice none 0 0], .int .i64 1]) (by simp [results, Tryz.results29, go_sem, hc2, hf2]) rfl ⟨⟨none, 0, none, 0, none, 0⟩, rfl, ⟨SlAt.nil _ _ _, SlAt.nil _ _ _, SlAt.nil _ _ _, SlOk.nil, SlOk.nil, SlOk.nil⟩, (((HB.out.setCell (by simp <;> omega) _).setCell (by simp <;> omega) _).setCell (by simp <;> omega) _).setCell (by simp <;> omega) _, fun ad e => by cases e⟩
  have v := scV h1
  have HC4 := Lib.hid (fun W (hb : Below w.heap.size w W) => wrong_any ap a cp cap s.parts l W (by have := HF.out.parts; omega) (by omega) v.parts (HS.out.parts.below hb) (HM.out.below hb) (HE.out.below hb))
  rw [show withE s version l = wrongI s.parts l by simp [withE, h1, h2, h3]]
  rw [h1] at HC1; rw [h2] at HC2; rw [h3] at HC3
  by_cases h4 : wrongI s.parts l = 0
  case neg =>
    rw [if_neg h4]
    have hne : (wrongI s.parts l != 0) = true := by simpa using h4
    clear h1 h2 h3 v h4
    generalize wrongI s.parts l = I at *
    go_enter Tryz.func29, Tryz.ntmps29; go_upto_region 1 with (fail); generalize (w.alloc (.cells #[.int .i64 s.version, .slice (⟨ab, cb, ap, cp, an, cn⟩ : Sp).ab s.bars.length (⟨ab, cb, ap, cp, an, cn⟩ : Sp).cb, .slice (⟨ab, cb, ap, cp, an, cn⟩ : Sp).ap s.parts.length (⟨ab, cb, ap, cp, an, cn⟩ : Sp).cp, .slice (⟨ab, cb, ap, cp, an, cn⟩ : Sp).an s.notes.length (⟨ab, cb, ap, cp, an, cn⟩ : Sp).cn] 26)).alloc (.cells #[.int .i64 0, .slice none 0 0, .slice none 0 0, .slice none 0 0] 26) = W at *; have hc1 := box_cells HX1.out; have hc2 := box_cells HX2.out; have hf2 := box_free HX2.out; have hz2 := lt_blk HX2.out
    go_wp2_with (first | (go_at_call 56; refine (HC1.out _ HB.out).mono ?_; rintro e w2 ⟨rfl, hb⟩; (try replace hb := drewB hb); replace HB := Lib.hid (HB.out.trans (hb.mono HB.out.size)); (try (replace HX1 := Lib.hid (blk_keep HX1.out hb); replace hc1 := box_cells HX1.out; replace hf1 := box_free HX1.out; replace hz1 := lt_blk HX1.out)); (try (replace HX2 := Lib.hid (blk_keep HX2.out hb); replace hc2 := box_cells HX2.out; replace hf2 := box_free HX2.out; replace hz2 := lt_blk HX2.out)); clear hb) | (go_at_call 57; refine (HC2.out _).mono ?_; rintro e w2 ⟨rfl, rfl⟩) | (go_at_call 58; refine (HC3.out _ HB.out).mono ?_; rintro e w2 ⟨rfl, hb⟩; (try replace hb := drewB hb); replace HB := Lib.hid (HB.out.trans (hb.mono HB.out.size)); (try (replace HX1 := Lib.hid (blk_keep HX1.out hb); replace hc1 := box_cells HX1.out; replace hf1 := box_free HX1.out; replace hz1 := lt_blk HX1.out)); (try (replace HX2 := Lib.hid (blk_keep HX2.out hb); replace hc2 := box_cells HX2.out; replace hf2 := box_free HX2.out; replace hz2 := lt_blk HX2.out)); clear hb) | (go_at_call 59; refine (HC4.out _ HB.out).mono ?_; rintro e w2 ⟨rfl, hb⟩; (try replace hb := drewB hb); replace HB := Lib.hid (HB.out.trans (hb.mono HB.out.size)); (try (replace HX1 := Lib.hid (blk_keep HX1.out hb); replace hc1 := box_cells HX1.out; replace hf1 := box_free HX1.out; replace hz1 := lt_blk HX1.out)); (try (replace HX2 := Lib.hid (blk_keep HX2.out hb); replace hc2 := box_cells HX2.out; replace hf2 := box_free HX2.out; replace hz2 := lt_blk HX2.out)); clear hb))
    exact bodyPost_ret (v := .tuple #[.agg #[.int .i64 0, .slice none 0 0, .slice none 0 0, .slice none 0 0], .int .i64 I]) (by simp [results, Tryz.results29, go_sem, hc2, hf2]) rfl ⟨⟨none, 0, none, 0, none, 0⟩, rfl, ⟨SlAt.nil _ _ _, SlAt.nil _ _ _, SlAt.nil _ _ _, SlOk.nil, SlOk.nil, SlOk.nil⟩, (((HB.out.setCell (by simp <;> omega) _).setCell (by simp <;> omega) _).setCell (by simp <;> omega) _).setCell (by simp <;> omega) _, fun ad e => by cases e⟩
  rw [if_pos h4, h4]
  rw [h4] at HC4
  have HSo := Lib.hid (fun W (hb : Below w.heap.size w W) => Sort_any ab a cb cap s.bars l W h3 (by have := HF.out.bars; omega) hl HOk.out (HS.out.bars.below hb) (HM.out.below hb) (HE.out.below hb))
  have HCB := Lib.hid (fun W (hb : Below w.heap.size w W) => CloneB_any ab cb s.bars W (fun e => by have := v.barsLen; rw [e] at this; simp at this) HF.out.bars (HS.out.bars.below hb))
  have HCP := Lib.hid (fun W (hb : Below w.heap.size w W) => CloneP_any ap cp s.parts W (fun e => by have := v.some_; rw [e] at this; simp at this) HF.out.parts (HS.out.parts.below hb))
  have HR := Lib.hid (show withS s version l = ⟨version, s.bars, s.parts, sortN s.bars l⟩ from rfl)
  clear h1 h2 h3 v h4
  generalize withS s version l = T at *
  generalize sortN s.bars l = SN at *
  go_enter Tryz.func29, Tryz.ntmps29; go_upto_region 1 with (fail); generalize (w.alloc (.cells #[.int .i64 s.version, .slice (⟨ab, cb, ap, cp, an, cn⟩ : Sp).ab s.bars.length (⟨ab, cb, ap, cp, an, cn⟩ : Sp).cb, .slice (⟨ab, cb, ap, cp, an, cn⟩ : Sp).ap s.parts.length (⟨ab, cb, ap, cp, an, cn⟩ : Sp).cp, .slice (⟨ab, cb, ap, cp, an, cn⟩ : Sp).an s.notes.length (⟨ab, cb, ap, cp, an, cn⟩ : Sp).cn] 26)).alloc (.cells #[.int .i64 0, .slice none 0 0, .slice none 0 0, .slice none 0 0] 26) = W at *; have hc1 := box_cells HX1.out; have hc2 := box_cells HX2.out; have hf2 := box_free HX2.out; have hz2 := lt_blk HX2.out
  go_upto_region 7 with (first | (go_at_call 56; refine (HC1.out _ HB.out).mono ?_; rintro e w2 ⟨rfl, hb⟩; (try replace hb := drewB hb); replace HB := Lib.hid (HB.out.trans (hb.mono HB.out.size)); (try (replace HX1 := Lib.hid (blk_keep HX1.out hb); replace hc1 := box_cells HX1.out; replace hf1 := box_free HX1.out; replace hz1 := lt_blk HX1.out)); (try (replace HX2 := Lib.hid (blk_keep HX2.out hb); replace hc2 := box_cells HX2.out; replace hf2 := box_free HX2.out; replace hz2 := lt_blk HX2.out)); clear hb) | (go_at_call 57; refine (HC2.out _).mono ?_; rintro e w2 ⟨rfl, rfl⟩) | (go_at_call 58; refine (HC3.out _ HB.out).mono ?_; rintro e w2 ⟨rfl, hb⟩; (try replace hb := drewB hb); replace HB := Lib.hid (HB.out.trans (hb.mono HB.out.size)); (try (replace HX1 := Lib.hid (blk_keep HX1.out hb); replace hc1 := box_cells HX1.out; replace hf1 := box_free HX1.out; replace hz1 := lt_blk HX1.out)); (try (replace HX2 := Lib.hid (blk_keep HX2.out hb); replace hc2 := box_cells HX2.out; replace hf2 := box_free HX2.out; replace hz2 := lt_blk HX2.out)); clear hb) | (go_at_call 59; refine (HC4.out _ HB.out).mono ?_; rintro e w2 ⟨rfl, hb⟩; (try replace hb := drewB hb); replace HB := Lib.hid (HB.out.trans (hb.mono HB.out.size)); (try (replace HX1 := Lib.hid (blk_keep HX1.out hb); replace hc1 := box_cells HX1.out; replace hf1 := box_free HX1.out; replace hz1 := lt_blk HX1.out)); (try (replace HX2 := Lib.hid (blk_keep HX2.out hb); replace hc2 := box_cells HX2.out; replace hf2 := box_free HX2.out; replace hz2 := lt_blk HX2.out)); clear hb) | (go_at_call 60; refine (HSo.out _ HB.out).mono ?_; rintro e w5 ⟨a5, c5, rfl, hok5, hn5, hb⟩; have HOk5 := Lib.hid hok5; have HN5 := Lib.hid (fun W (hx : Below w5.heap.size w5 W) => NoAt.below hn5 hx); clear hok5 hn5; (try replace hb := drewB hb); replace HB := Lib.hid (HB.out.trans (hb.mono HB.out.size)); (try (replace HX1 := Lib.hid (blk_keep HX1.out hb); replace hc1 := box_cells HX1.out; replace hf1 := box_free HX1.out; replace hz1 := lt_blk HX1.out)); (try (replace HX2 := Lib.hid (blk_keep HX2.out hb); replace hc2 := box_cells HX2.out; replace hf2 := box_free HX2.out; replace hz2 := lt_blk HX2.out)); clear hb))
  have k1 : w5.cell? ⟨w.heap.size, 1, none⟩ = some (.slice ab s.bars.length cb) := box_cells HX1.out 1
  have k2 : w5.cell? ⟨w.heap.size, 2, none⟩ = some (.slice ap s.parts.length cp) := box_cells HX1.out 2
  have HBr := Lib.hid (Below.refl w5.heap.size w5)
  clear hc1 hf1 hz1
  go_region_held3 (fun W => W.cell? ⟨w.heap.size, 1, none⟩ = some (.slice ab s.bars.length cb) ∧ W.cell? ⟨w.heap.size, 2, none⟩ = some (.slice ap s.parts.length cp))
    (first | with_reducible exact ⟨k1, k2⟩ | exact ⟨k1, k2⟩ | go_keep)
    ((first | (go_at_call 61; refine (HCB.out _ (by first | with_reducible exact HB.out | exact HB.out.drew)).mono ?_; rintro e w6 ⟨v6, rfl, ho6, hb⟩; replace ho6 := ho6.mono (show w.heap.size + 2 ≤ _ by have := hz2; simp <;> omega); obtain ⟨a6, c6, e6, hk6, hs6⟩ := ho6.slAt; rw [List.length_map] at e6 hk6; subst e6; have HO6 := Lib.hid ho6; have HK6 := Lib.hid hk6; clear ho6 hk6 hs6; (try replace hb := drewB hb); replace HB := Lib.hid (HB.out.trans (hb.mono HB.out.size)); replace HBr := Lib.hid (HBr.out.trans (hb.mono HBr.out.size)); replace HX1 := Lib.hid (blk_keep HX1.out hb); replace HX2 := Lib.hid (blk_keep HX2.out hb); replace hc2 := box_cells HX2.out; replace hf2 := box_free HX2.out; replace hz2 := lt_blk HX2.out; replace k1 := keepE k1 hb; replace k2 := keepE k2 hb; (try replace HO7 := Lib.hid (HO7.out.below hb)); clear hb) | (go_at_call 62; refine (HCP.out _ (by first | with_reducible exact HB.out | exact HB.out.drew)).mono ?_; rintro e w7 ⟨v7, rfl, ho7, hb⟩; replace ho7 := ho7.mono (show w.heap.size + 2 ≤ _ by have := hz2; simp <;> omega); obtain ⟨a7, c7, e7, hk7, hs7⟩ := ho7.slAt; rw [List.length_map] at e7 hk7; subst e7; have HO7 := Lib.hid ho7; have HK7 := Lib.hid hk7; clear ho7 hk7 hs7; (try replace hb := drewB hb); replace HB := Lib.hid (HB.out.trans (hb.mono HB.out.size)); replace HBr := Lib.hid (HBr.out.trans (hb.mono HBr.out.size)); replace HX1 := Lib.hid (blk_keep HX1.out hb); replace HX2 := Lib.hid (blk_keep HX2.out hb); replace hc2 := box_cells HX2.out; replace hf2 := box_free HX2.out; replace hz2 := lt_blk HX2.out; replace k1 := keepE k1 hb; replace k2 := keepE k2 hb; (try replace HO6 := Lib.hid (HO6.out.below hb)); clear hb)))
  all_goals
    have hq6 := HO6.out.set4 (b := w.heap.size + 1) (by omega) (.int .i64 version) (.slice a6 s.bars.length c6) (.slice a7 s.parts.length c7) (.slice a5 SN.length c5)
    have hq7 := HO7.out.set4 (b := w.heap.size + 1) (by omega) (.int .i64 version) (.slice a6 s.bars.length c6) (.slice a7 s.parts.length c7) (.slice a5 SN.length c5)
    have hq5 := SlAt.set4 (HN5.out _ HBr.out) HX2.out (by simp) (.int .i64 version) (.slice a6 s.bars.length c6) (.slice a7 s.parts.length c7) (.slice a5 SN.length c5)
    have hqb := (((HB.out.setCell (p := ⟨w.heap.size + 1, 0, none⟩) (by simp) (.int .i64 version)).setCell (p := ⟨w.heap.size + 1, 1, none⟩) (by simp) (.slice a6 s.bars.length c6)).setCell (p := ⟨w.heap.size + 1, 2, none⟩) (by simp) (.slice a7 s.parts.length c7)).setCell (p := ⟨w.heap.size + 1, 3, none⟩) (by simp) (.slice a5 SN.length c5)
    have HQ := Lib.hid (And.intro hq6 (And.intro hq7 (And.intro hq5 hqb)))
    clear hq6 hq7 hq5 hqb
    go_wp2
    refine bodyPost_ret (v := .tuple #[.agg #[.int .i64 version, .slice a6 s.bars.length c6, .slice a7 s.parts.length c7, .slice a5 SN.length c5], .int .i64 0]) (by simp [results, Tryz.results29, go_sem, hc2, hf2]) rfl ?_
    obtain ⟨hq6, hq7, hq5, hqb⟩ := HQ.out
    rw [HR.out]
    obtain ⟨a6', c6', e6, _, hs6⟩ := hq6.slAt
    obtain ⟨a7', c7', e7, _, hs7⟩ := hq7.slAt
    rw [List.length_map] at e6 e7
    cases e6; cases e7
    exact ⟨⟨_, c6, _, c7, a5, c5⟩, rfl, ⟨hs6, hs7, hq5, HK6.out, HK7.out, HOk5.out⟩, hqb, fun ad e => by have h0 := e; dsimp only at h0; have := (hq6.lt ad.block (by rw [h0]; rfl)).1; omega⟩
end Go.Proofs.YtcelciomhngajaaGreatDoor

