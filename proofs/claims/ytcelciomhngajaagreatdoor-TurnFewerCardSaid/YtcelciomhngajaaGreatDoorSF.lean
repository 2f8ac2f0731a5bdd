/- Texts of this seat, laid together: ScEq0, ScEq, ScVal, ScIdP, ScIter, ScRow, ScPlays. -/
import Derived.Test.YtcelciomhngajaaGreatDoorSB
import Derived.Test.YtcelciomhngajaaGreatDoorProg
import Derived.Test.YtcelciomhngajaaGreatDoorSD
import Derived.Test.YtcelciomhngajaaGreatDoorSE
import Derived.RangeFuncNested
import Derived.RangeFuncBound
import Derived.RangeFuncCalls
import Derived.RangeFuncLeaves
import Derived.Shelf.RegionOpen
import Derived.OwnWalkIn
import Derived.TacticsInMore
import Derived.LoopNIn
import Derived.LoopIn
import Derived.RangeFuncRecord
/- Two notes, two written notes that are not equal: what the program says of them; no condition. -/
namespace Go.Proofs.YtcelciomhngajaaGreatDoor
set_option linter.unusedSimpArgs false
set_option linter.unusedVariables false
open Go.RowKit Go.Sort

theorem ext_rt {a b : Rt} (h1 : a.n = b.n) (h2 : a.d = b.d) : a = b := by cases a; cases b; simp_all
theorem ext_pi {a b : Pi} (h1 : a.s = b.s) (h2 : a.a = b.a) (h3 : a.o = b.o) : a = b := by cases a; cases b; simp_all
theorem neq_no (x y : No) (w : World) : (binOp .neq 128 (.agg #[.int .i64 x.id, .int .i64 x.part, .int .i64 x.bar, .int .i64 x.voice, .int .i64 x.ossia, .int .i64 x.start.n, .int .i64 x.start.d, .int .i64 x.len.n, .int .i64 x.len.d, .int .i64 x.pitch.s, .int .i64 x.pitch.a, .int .i64 x.pitch.o]) (.agg #[.int .i64 y.id, .int .i64 y.part, .int .i64 y.bar, .int .i64 y.voice, .int .i64 y.ossia, .int .i64 y.start.n, .int .i64 y.start.d, .int .i64 y.len.n, .int .i64 y.len.d, .int .i64 y.pitch.s, .int .i64 y.pitch.a, .int .i64 y.pitch.o])).run Tryz.prog w = .ok (.bool (!decide (x = y))) w := by
  rw [run_neq_struct]
  simp [go_sem]
  by_cases h0 : x.id = y.id
  case neg => simp [h0, show x ≠ y from fun e => h0 (by rw [e])]
  by_cases h1 : x.part = y.part
  case neg => simp [h0, h1, show x ≠ y from fun e => h1 (by rw [e])]
  by_cases h2 : x.bar = y.bar
  case neg => simp [h0, h1, h2, show x ≠ y from fun e => h2 (by rw [e])]
  by_cases h3 : x.voice = y.voice
  case neg => simp [h0, h1, h2, h3, show x ≠ y from fun e => h3 (by rw [e])]
  by_cases h4 : x.ossia = y.ossia
  case neg => simp [h0, h1, h2, h3, h4, show x ≠ y from fun e => h4 (by rw [e])]
  by_cases h5 : x.start.n = y.start.n
  case neg => simp [h0, h1, h2, h3, h4, h5, show x ≠ y from fun e => h5 (by rw [e])]
  by_cases h6 : x.start.d = y.start.d
  case neg => simp [h0, h1, h2, h3, h4, h5, h6, show x ≠ y from fun e => h6 (by rw [e])]
  by_cases h7 : x.len.n = y.len.n
  case neg => simp [h0, h1, h2, h3, h4, h5, h6, h7, show x ≠ y from fun e => h7 (by rw [e])]
  by_cases h8 : x.len.d = y.len.d
  case neg => simp [h0, h1, h2, h3, h4, h5, h6, h7, h8, show x ≠ y from fun e => h8 (by rw [e])]
  by_cases h9 : x.pitch.s = y.pitch.s
  case neg => simp [h0, h1, h2, h3, h4, h5, h6, h7, h8, h9, show x ≠ y from fun e => h9 (by rw [e])]
  by_cases h10 : x.pitch.a = y.pitch.a
  case neg => simp [h0, h1, h2, h3, h4, h5, h6, h7, h8, h9, h10, show x ≠ y from fun e => h10 (by rw [e])]
  by_cases h11 : x.pitch.o = y.pitch.o
  case neg => simp [h0, h1, h2, h3, h4, h5, h6, h7, h8, h9, h10, h11, show x ≠ y from fun e => h11 (by rw [e])]
  have : x = y := by
    have e1 := ext_rt h5 h6; have e2 := ext_rt h7 h8; have e3 := ext_pi h9 h10 h11
    cases x; cases y; simp_all
  simp [h0, h1, h2, h3, h4, h5, h6, h7, h8, h9, h10, h11, this]
open Go.RowKit Go.Sort

set_option maxRecDepth 100000 in
set_option maxHeartbeats 4000000 in
theorem EqualN_any (a b : Option Addr) (cap cap' : Nat) (l r : List No) (w : World) (hl : l.length ≤ 100000) (hl' : r.length ≤ 100000) (ha : NoAt w a l) (hb : NoAt w b r) :
    Calls Tryz.prog 92 #[.slice a l.length cap, .slice b r.length cap'] w fun e w' => e = .returned (.bool (decide (l = r))) ∧ Below w.heap.size w w' := by
  by_cases hne : l.length = r.length
  case neg =>
    have h1 : ((l.length : Int) != (r.length : Int)) = true := by simp; omega
    go_enter Tryz.func92, Tryz.ntmps92
    go_wp2
    go_ret
    exact ⟨ret_bool (by simp; intro h; exact hne (by rw [h])), Below.refl _ _⟩
  have h1 : ((l.length : Int) != (r.length : Int)) = false := by simp [hne]
  have HNE := Lib.hid hne; clear hne
  go_enter Tryz.func92, Tryz.ntmps92
  go_wp2
  go_loopw [13] (fun i wr => ∃ k : Nat, k ≤ l.length ∧ i = .int .i64 k ∧ l.take k = r.take k ∧ Below w.heap.size w wr) (fun i _ => l.length - (intOf i).toNat)
  case atStart => exact ⟨0, Nat.zero_le _, rfl, rfl, Below.refl _ _⟩
  case round =>
    obtain ⟨k, hk, rfl, hall, hbw⟩ := hrel
    have H := Lib.hid hall; clear hall
    by_cases hlt : k < l.length
    · have hlt' : k < r.length := by have := HNE.out; omega
      obtain ⟨b1, o1, rfl, _, c0, c1, c2, c3, c4, c5, c6, c7, c8, c9, c10, c11⟩ := (ha.below hbw).get k hlt
      obtain ⟨b2, o2, rfl, _, d0, d1, d2, d3, d4, d5, d6, d7, d8, d9, d10, d11⟩ := (hb.below hbw).get k hlt'
      have HB := Lib.hid hbw; clear hbw
      have HA := Lib.hid ha; clear ha
      have HB2 := Lib.hid hb; clear hb
      have hneq := neq_no l[k] r[k]
      have HT := Lib.hid (fun hd : l[k] = r[k] => take_eq_succ l r k hlt hlt' H.out hd)
      have HN := Lib.hid (fun hd : ¬ l[k] = r[k] => ne_at l r k hlt hlt' hd)
      generalize l[k] = X at *; generalize r[k] = Y at *
      go_wp2
      go_quiet (fail)
      go_wp2
      · go_ret
        have hd : (!decide (X = Y)) = true := by assumption
        exact ⟨ret_bool (decide_eq_false (HN.out (by simpa using hd))).symm, below_drewN HB.out _⟩
      · have hd : (!decide (X = Y)) = false := by assumption
        exact ⟨⟨k + 1, by omega, by go_num, HT.out (by simpa using hd), below_drewN HB.out _⟩, by simp [intOf]; omega⟩
    · have HB := Lib.hid hbw; clear hbw
      go_wp2
      go_ret
      refine ⟨ret_bool ?_, HB.out⟩
      have h3 := H.out
      have h4 := HNE.out
      rw [List.take_of_length_le (by omega), List.take_of_length_le (by omega)] at h3
      simp [h3]
open Go.RowKit Go.Sort Go.Shelf

/-- Where the rows of a score lie. -/
structure Sp where
  ab : Option Addr
  cb : Nat
  ap : Option Addr
  cp : Nat
  an : Option Addr
  cn : Nat
/-- A score as it lies in memory. -/
structure ScAt (w : World) (s : Sc) (q : Sp) : Prop where
  bars : BaAt w q.ab s.bars
  parts : PaAt w q.ap s.parts
  notes : NoAt w q.an s.notes
  okb : SlOk q.ab s.bars.length q.cb
  okp : SlOk q.ap s.parts.length q.cp
  okn : SlOk q.an s.notes.length q.cn
theorem ScAt.below {w w' : World} {s : Sc} {q : Sp} (h : ScAt w s q) (hb : Below w.heap.size w w') : ScAt w' s q := ⟨h.bars.below hb, h.parts.below hb, h.notes.below hb, h.okb, h.okp, h.okn⟩
/-- Not too large a score. -/
structure ScFew (s : Sc) : Prop where
  bars : s.bars.length ≤ 1000
  parts : s.parts.length ≤ 1000
  notes : s.notes.length ≤ 1000
theorem parts_nodup {l : List Pa} (h : partsB l = true) : (l.map Pa.id).Nodup := by simp only [partsB, Bool.and_eq_true, decide_eq_true_eq] at h; exact h.1.2
/-- What the calls of score.Valid say. -/
structure ValC (s : Sc) (q : Sp) (w : World) (b1 b2 b3 b4 : Bool) : Prop where
  id : ∀ W, Calls Tryz.prog 57 #[.int .i64 s.version] W fun e w' => e = .returned (.bool b1) ∧ W = w'
  met : ∀ W, Below w.heap.size w W → Calls Tryz.prog 84 #[.slice q.ab s.bars.length q.cb] W fun e w' => e = .returned (.bool b2) ∧ Below W.heap.size W w'
  are : ∀ W, Below w.heap.size w W → Calls Tryz.prog 91 #[.slice q.ap s.parts.length q.cp] W fun e w' => e = .returned (.bool b3) ∧ Below W.heap.size W w'
  not : ∀ W, Below w.heap.size w W → Calls Tryz.prog 58 #[.slice q.ab s.bars.length q.cb, .slice q.an s.notes.length q.cn] W fun e w' => e = .returned (.bool b4) ∧ Below W.heap.size W w'
theorem val_c (s : Sc) (q : Sp) (w : World) (hf : ScFew s) (hs : ScAt w s q) (hE : Env w) : ValC s q w (isID s.version) (barsB s.bars) (partsB s.parts) (notesB s.bars s.notes) :=
  ⟨fun W => sisID_any _ W, fun W hb => MetValid_any _ _ _ W (by have := hf.bars; omega) (hs.bars.below hb), fun W hb => areParts_any _ _ _ W (by have := hf.parts; omega) (hs.parts.below hb) (hE.below hb), fun W hb => NotValid_any _ _ _ _ _ _ W (by have := hf.bars; omega) (by have := hf.notes; omega) (hs.bars.below hb) (hs.notes.below hb)⟩
set_option maxRecDepth 100000 in
set_option maxHeartbeats 4000000 in
theorem SValid_any (s : Sc) (q : Sp) (w : World) (hf : ScFew s) (hs : ScAt w s q) (hE : Env w) :
    Calls Tryz.prog 56 #[.agg #[.int .i64 s.version, .slice q.ab s.bars.length q.cb, .slice q.ap s.parts.length q.cp, .slice q.an s.notes.length q.cn]] w fun e w' => e = .returned (.bool (validS s)) ∧ Below w.heap.size w w' := by
  have HC := Lib.hid (val_c s q w hf hs hE)
  have HB := Lib.hid ((Below.refl w.heap.size w).alloc (Nat.le_refl _) (.cells #[.int .i64 s.version, .slice q.ab s.bars.length q.cb, .slice q.ap s.parts.length q.cp, .slice q.an s.notes.length q.cn] 26))
  have HX := Lib.hid (heap_alloc_new w (.cells #[.int .i64 s.version, .slice q.ab s.bars.length q.cb, .slice q.ap s.parts.length q.cp, .slice q.an s.notes.length q.cn] 26))
  have HV := Lib.hid (show validS s = (isID s.version && barsB s.bars && partsB s.parts && notesB s.bars s.notes && decide (wrongI s.parts s.notes = 0) && sortedB s.bars s.notes) from rfl)
  have HS := Lib.hid hs; have HE := Lib.hid hE; have HF := Lib.hid hf
  clear hs hE hf
  generalize validS s = R at *
  cases h1 : isID s.version
  · rw [h1] at HC HV
    have HR := Lib.hid (show R = false from HV.out)
    clear h1
    (go_enter Tryz.func56, Tryz.ntmps56; go_upto_region 1 with (fail); generalize w.alloc (.cells #[.int .i64 s.version, .slice q.ab s.bars.length q.cb, .slice q.ap s.parts.length q.cp, .slice q.an s.notes.length q.cn] 26) = W at *; have hc := box_cells HX.out; go_wp2_with (first | (go_at_call 57; refine (HC.out.id _).mono ?_; rintro e w' ⟨rfl, rfl⟩) | (go_at_call 84; refine (HC.out.met _ HB.out).mono ?_; rintro e w' ⟨rfl, hb⟩; replace HX := Lib.hid (blk_keep HX.out hb); replace HB := Lib.hid (HB.out.trans (hb.mono HB.out.size)); clear hb hc; have hc := box_cells HX.out) | (go_at_call 91; refine (HC.out.are _ HB.out).mono ?_; rintro e w' ⟨rfl, hb⟩; replace HX := Lib.hid (blk_keep HX.out hb); replace HB := Lib.hid (HB.out.trans (hb.mono HB.out.size)); clear hb hc; have hc := box_cells HX.out) | (go_at_call 58; refine (HC.out.not _ HB.out).mono ?_; rintro e w' ⟨rfl, hb⟩; replace HX := Lib.hid (blk_keep HX.out hb); replace HB := Lib.hid (HB.out.trans (hb.mono HB.out.size)); clear hb hc; have hc := box_cells HX.out) | (go_at_call 59; refine (HW.out _ HB.out).mono ?_; rintro e w' ⟨rfl, hb⟩; replace HX := Lib.hid (blk_keep HX.out hb); replace HB := Lib.hid (HB.out.trans (hb.mono HB.out.size)); clear hb hc; have hc := box_cells HX.out)); go_ret; exact ⟨ret_bool HR.out.symm, HB.out⟩)
  cases h2 : barsB s.bars
  · rw [h1, h2] at HC HV
    have HR := Lib.hid (show R = false from HV.out)
    clear h1 h2
    (go_enter Tryz.func56, Tryz.ntmps56; go_upto_region 1 with (fail); generalize w.alloc (.cells #[.int .i64 s.version, .slice q.ab s.bars.length q.cb, .slice q.ap s.parts.length q.cp, .slice q.an s.notes.length q.cn] 26) = W at *; have hc := box_cells HX.out; go_wp2_with (first | (go_at_call 57; refine (HC.out.id _).mono ?_; rintro e w' ⟨rfl, rfl⟩) | (go_at_call 84; refine (HC.out.met _ HB.out).mono ?_; rintro e w' ⟨rfl, hb⟩; replace HX := Lib.hid (blk_keep HX.out hb); replace HB := Lib.hid (HB.out.trans (hb.mono HB.out.size)); clear hb hc; have hc := box_cells HX.out) | (go_at_call 91; refine (HC.out.are _ HB.out).mono ?_; rintro e w' ⟨rfl, hb⟩; replace HX := Lib.hid (blk_keep HX.out hb); replace HB := Lib.hid (HB.out.trans (hb.mono HB.out.size)); clear hb hc; have hc := box_cells HX.out) | (go_at_call 58; refine (HC.out.not _ HB.out).mono ?_; rintro e w' ⟨rfl, hb⟩; replace HX := Lib.hid (blk_keep HX.out hb); replace HB := Lib.hid (HB.out.trans (hb.mono HB.out.size)); clear hb hc; have hc := box_cells HX.out) | (go_at_call 59; refine (HW.out _ HB.out).mono ?_; rintro e w' ⟨rfl, hb⟩; replace HX := Lib.hid (blk_keep HX.out hb); replace HB := Lib.hid (HB.out.trans (hb.mono HB.out.size)); clear hb hc; have hc := box_cells HX.out)); go_ret; exact ⟨ret_bool HR.out.symm, HB.out⟩)
  cases h3 : partsB s.parts
  · rw [h1, h2, h3] at HC HV
    have HR := Lib.hid (show R = false from HV.out)
    clear h1 h2 h3
    (go_enter Tryz.func56, Tryz.ntmps56; go_upto_region 1 with (fail); generalize w.alloc (.cells #[.int .i64 s.version, .slice q.ab s.bars.length q.cb, .slice q.ap s.parts.length q.cp, .slice q.an s.notes.length q.cn] 26) = W at *; have hc := box_cells HX.out; go_wp2_with (first | (go_at_call 57; refine (HC.out.id _).mono ?_; rintro e w' ⟨rfl, rfl⟩) | (go_at_call 84; refine (HC.out.met _ HB.out).mono ?_; rintro e w' ⟨rfl, hb⟩; replace HX := Lib.hid (blk_keep HX.out hb); replace HB := Lib.hid (HB.out.trans (hb.mono HB.out.size)); clear hb hc; have hc := box_cells HX.out) | (go_at_call 91; refine (HC.out.are _ HB.out).mono ?_; rintro e w' ⟨rfl, hb⟩; replace HX := Lib.hid (blk_keep HX.out hb); replace HB := Lib.hid (HB.out.trans (hb.mono HB.out.size)); clear hb hc; have hc := box_cells HX.out) | (go_at_call 58; refine (HC.out.not _ HB.out).mono ?_; rintro e w' ⟨rfl, hb⟩; replace HX := Lib.hid (blk_keep HX.out hb); replace HB := Lib.hid (HB.out.trans (hb.mono HB.out.size)); clear hb hc; have hc := box_cells HX.out) | (go_at_call 59; refine (HW.out _ HB.out).mono ?_; rintro e w' ⟨rfl, hb⟩; replace HX := Lib.hid (blk_keep HX.out hb); replace HB := Lib.hid (HB.out.trans (hb.mono HB.out.size)); clear hb hc; have hc := box_cells HX.out)); go_ret; exact ⟨ret_bool HR.out.symm, HB.out⟩)
  cases h4 : notesB s.bars s.notes
  · rw [h1, h2, h3, h4] at HC HV
    have HR := Lib.hid (show R = false from HV.out)
    clear h1 h2 h3 h4
    (go_enter Tryz.func56, Tryz.ntmps56; go_upto_region 1 with (fail); generalize w.alloc (.cells #[.int .i64 s.version, .slice q.ab s.bars.length q.cb, .slice q.ap s.parts.length q.cp, .slice q.an s.notes.length q.cn] 26) = W at *; have hc := box_cells HX.out; go_wp2_with (first | (go_at_call 57; refine (HC.out.id _).mono ?_; rintro e w' ⟨rfl, rfl⟩) | (go_at_call 84; refine (HC.out.met _ HB.out).mono ?_; rintro e w' ⟨rfl, hb⟩; replace HX := Lib.hid (blk_keep HX.out hb); replace HB := Lib.hid (HB.out.trans (hb.mono HB.out.size)); clear hb hc; have hc := box_cells HX.out) | (go_at_call 91; refine (HC.out.are _ HB.out).mono ?_; rintro e w' ⟨rfl, hb⟩; replace HX := Lib.hid (blk_keep HX.out hb); replace HB := Lib.hid (HB.out.trans (hb.mono HB.out.size)); clear hb hc; have hc := box_cells HX.out) | (go_at_call 58; refine (HC.out.not _ HB.out).mono ?_; rintro e w' ⟨rfl, hb⟩; replace HX := Lib.hid (blk_keep HX.out hb); replace HB := Lib.hid (HB.out.trans (hb.mono HB.out.size)); clear hb hc; have hc := box_cells HX.out) | (go_at_call 59; refine (HW.out _ HB.out).mono ?_; rintro e w' ⟨rfl, hb⟩; replace HX := Lib.hid (blk_keep HX.out hb); replace HB := Lib.hid (HB.out.trans (hb.mono HB.out.size)); clear hb hc; have hc := box_cells HX.out)); go_ret; exact ⟨ret_bool HR.out.symm, HB.out⟩)
  have HW := Lib.hid (fun W (hb : Below w.heap.size w W) => wrong_any q.ap q.an q.cp q.cn s.parts s.notes W (by have := HF.out.parts; omega) (by have := HF.out.notes; omega) (parts_nodup h3) (HS.out.parts.below hb) (HS.out.notes.below hb) (HE.out.below hb))
  by_cases h5 : wrongI s.parts s.notes = 0
  case neg =>
    rw [h1, h2, h3, h4, decide_eq_false h5] at HV
    rw [h1, h2, h3, h4] at HC
    have HR := Lib.hid (show R = false from HV.out)
    clear h1 h2 h3 h4
    have hne : ¬ (wrongI s.parts s.notes) = 0 := h5
    clear h5
    generalize wrongI s.parts s.notes = I at *
    (go_enter Tryz.func56, Tryz.ntmps56; go_upto_region 1 with (fail); generalize w.alloc (.cells #[.int .i64 s.version, .slice q.ab s.bars.length q.cb, .slice q.ap s.parts.length q.cp, .slice q.an s.notes.length q.cn] 26) = W at *; have hc := box_cells HX.out; go_wp2_with (first | (go_at_call 57; refine (HC.out.id _).mono ?_; rintro e w' ⟨rfl, rfl⟩) | (go_at_call 84; refine (HC.out.met _ HB.out).mono ?_; rintro e w' ⟨rfl, hb⟩; replace HX := Lib.hid (blk_keep HX.out hb); replace HB := Lib.hid (HB.out.trans (hb.mono HB.out.size)); clear hb hc; have hc := box_cells HX.out) | (go_at_call 91; refine (HC.out.are _ HB.out).mono ?_; rintro e w' ⟨rfl, hb⟩; replace HX := Lib.hid (blk_keep HX.out hb); replace HB := Lib.hid (HB.out.trans (hb.mono HB.out.size)); clear hb hc; have hc := box_cells HX.out) | (go_at_call 58; refine (HC.out.not _ HB.out).mono ?_; rintro e w' ⟨rfl, hb⟩; replace HX := Lib.hid (blk_keep HX.out hb); replace HB := Lib.hid (HB.out.trans (hb.mono HB.out.size)); clear hb hc; have hc := box_cells HX.out) | (go_at_call 59; refine (HW.out _ HB.out).mono ?_; rintro e w' ⟨rfl, hb⟩; replace HX := Lib.hid (blk_keep HX.out hb); replace HB := Lib.hid (HB.out.trans (hb.mono HB.out.size)); clear hb hc; have hc := box_cells HX.out)); go_ret; exact ⟨ret_bool HR.out.symm, HB.out⟩)
  have HSo := Lib.hid (fun W (hb : Below w.heap.size w W) => Sort_any q.ab q.an q.cb q.cn s.bars s.notes W h4 (by have := HF.out.bars; omega) HF.out.notes HS.out.okn (HS.out.bars.below hb) (HS.out.notes.below hb) (HE.out.below hb))
  have HEq := Lib.hid (fun W (hb : Below w.heap.size w W) a cap (hm : NoAt W a (sortN s.bars s.notes)) => EqualN_any a q.an cap q.cn (sortN s.bars s.notes) s.notes W (by rw [(sortN_perm _ _).length_eq]; have := HF.out.notes; omega) (by have := HF.out.notes; omega) hm (HS.out.notes.below hb))
  have hd := sorted_same (bars := s.bars) (notes_nodup h4)
  have HR := Lib.hid (show R = decide (sortN s.bars s.notes = s.notes) by rw [HV.out, h1, h2, h3, h4, h5, hd]; simp)
  rw [h1, h2, h3, h4] at HC
  rw [h5] at HW
  clear h1 h2 h3 h4 h5 hd HV
  generalize sortN s.bars s.notes = S at *
  generalize decide (S = s.notes) = D at *
  go_enter Tryz.func56, Tryz.ntmps56; go_upto_region 1 with (fail); generalize w.alloc (.cells #[.int .i64 s.version, .slice q.ab s.bars.length q.cb, .slice q.ap s.parts.length q.cp, .slice q.an s.notes.length q.cn] 26) = W at *; have hc := box_cells HX.out
  cases D
  all_goals
    go_wp2_with (first | first | (go_at_call 57; refine (HC.out.id _).mono ?_; rintro e w' ⟨rfl, rfl⟩) | (go_at_call 84; refine (HC.out.met _ HB.out).mono ?_; rintro e w' ⟨rfl, hb⟩; replace HX := Lib.hid (blk_keep HX.out hb); replace HB := Lib.hid (HB.out.trans (hb.mono HB.out.size)); clear hb hc; have hc := box_cells HX.out) | (go_at_call 91; refine (HC.out.are _ HB.out).mono ?_; rintro e w' ⟨rfl, hb⟩; replace HX := Lib.hid (blk_keep HX.out hb); replace HB := Lib.hid (HB.out.trans (hb.mono HB.out.size)); clear hb hc; have hc := box_cells HX.out) | (go_at_call 58; refine (HC.out.not _ HB.out).mono ?_; rintro e w' ⟨rfl, hb⟩; replace HX := Lib.hid (blk_keep HX.out hb); replace HB := Lib.hid (HB.out.trans (hb.mono HB.out.size)); clear hb hc; have hc := box_cells HX.out) | (go_at_call 59; refine (HW.out _ HB.out).mono ?_; rintro e w' ⟨rfl, hb⟩; replace HX := Lib.hid (blk_keep HX.out hb); replace HB := Lib.hid (HB.out.trans (hb.mono HB.out.size)); clear hb hc; have hc := box_cells HX.out) | (go_at_call 60; refine (HSo.out _ HB.out).mono ?_; rintro e w9 ⟨a9, c9, rfl, hok, hna, hb⟩; have HOk := Lib.hid hok; have HNa := Lib.hid hna; clear hok hna; replace HX := Lib.hid (blk_keep HX.out hb); replace HB := Lib.hid (HB.out.trans (hb.mono HB.out.size)); clear hb hc; have hc := box_cells HX.out) | (go_at_call 92; refine (HEq.out _ HB.out _ _ HNa.out).mono ?_; rintro e w' ⟨rfl, hb⟩; replace HX := Lib.hid (blk_keep HX.out hb); replace HB := Lib.hid (HB.out.trans (hb.mono HB.out.size)); clear hb hc; have hc := box_cells HX.out))
    go_ret
    exact ⟨ret_bool HR.out.symm, HB.out⟩
open Go.RowKit Go.Sort Go.Shelf

def idP (id : Int) (p : Pa) : Bool := p.id == id
/-- Where a part is, and which one it is. -/
theorem part_some {l : List Pa} {id : Int} {p : Pa} (h : partAt l id = some p) : ∃ i : Nat, ∃ hi : i < l.length, idxO (idP id) l = i ∧ l[i] = p ∧ p.id = id := by
  cases hx : l.findIdx? (idP id) with
  | none =>
    rw [List.findIdx?_eq_none_iff] at hx
    have h1 := List.mem_of_find?_eq_some h
    have h2 := List.find?_some h
    have := hx p h1
    unfold idP at this
    rw [this] at h2; cases h2
  | some i =>
    obtain ⟨hi, h1, h2⟩ := List.findIdx?_eq_some_iff_getElem.1 hx
    refine ⟨i, hi, by simp [idxO, hx], ?_, ?_⟩
    · have : partAt l id = some l[i] := by
        unfold partAt
        rw [List.find?_eq_some_iff_getElem]
        exact ⟨h1, i, hi, rfl, fun j hj => by have := h2 j hj; unfold idP at this; simpa using this⟩
      rw [this] at h; cases h; rfl
    · have := List.find?_some h; simpa using this
theorem part_none {l : List Pa} {id : Int} (h : partAt l id = none) : idxO (idP id) l = -1 := by
  refine idxO_miss fun j hj => ?_
  have := List.find?_eq_none.1 h l[j] (List.getElem_mem hj)
  simpa [idP] using this
theorem findId_any (id : Int) (p : Pa) (bt : Nat) (w : World) (h3 : w.heap[bt]? = some (.cells #[.int .i64 id] 3 (0, 0))) :
    Calls Tryz.prog 105 #[.agg #[.int .i64 p.id, .int .i64 p.section_, .int .i64 p.of, .int .i64 p.octave, .int .i64 p.desks, .int .i64 p.shift.x, .int .i64 p.shift.y, .int .i64 p.low.s, .int .i64 p.low.a, .int .i64 p.low.o, .int .i64 p.high.s, .int .i64 p.high.a, .int .i64 p.high.o], .pointer (some ⟨bt, 0, none⟩)] w fun e w' => e = .returned (.bool (idP id p)) ∧ Below w.heap.size w w' := by
  have HB := Lib.hid ((Below.refl w.heap.size w).alloc (Nat.le_refl _) (.cells #[.int .i64 p.id, .int .i64 p.section_, .int .i64 p.of, .int .i64 p.octave, .int .i64 p.desks, .int .i64 p.shift.x, .int .i64 p.shift.y, .int .i64 p.low.s, .int .i64 p.low.a, .int .i64 p.low.o, .int .i64 p.high.s, .int .i64 p.high.a, .int .i64 p.high.o] 93))
  have HX := Lib.hid (heap_alloc_new w (.cells #[.int .i64 p.id, .int .i64 p.section_, .int .i64 p.of, .int .i64 p.octave, .int .i64 p.desks, .int .i64 p.shift.x, .int .i64 p.shift.y, .int .i64 p.low.s, .int .i64 p.low.a, .int .i64 p.low.o, .int .i64 p.high.s, .int .i64 p.high.a, .int .i64 p.high.o] 93))
  have H3 := Lib.hid (up_alloc h3 (.cells #[.int .i64 p.id, .int .i64 p.section_, .int .i64 p.of, .int .i64 p.octave, .int .i64 p.desks, .int .i64 p.shift.x, .int .i64 p.shift.y, .int .i64 p.low.s, .int .i64 p.low.a, .int .i64 p.low.o, .int .i64 p.high.s, .int .i64 p.high.a, .int .i64 p.high.o] 93))
  have HR := Lib.hid (show idP id p = (p.id == id) from rfl)
  clear h3
  generalize idP id p = R at *
  go_enter Tryz.func105, Tryz.ntmps105
  go_upto_region 1 with (fail)
  generalize w.alloc (.cells #[.int .i64 p.id, .int .i64 p.section_, .int .i64 p.of, .int .i64 p.octave, .int .i64 p.desks, .int .i64 p.shift.x, .int .i64 p.shift.y, .int .i64 p.low.s, .int .i64 p.low.a, .int .i64 p.low.o, .int .i64 p.high.s, .int .i64 p.high.a, .int .i64 p.high.o] 93) = W at *
  have hc := box_cells HX.out; have hc3 := box_cells H3.out
  go_wp2_with (fail)
  go_ret
  refine ⟨ret_bool ?_, HB.out⟩
  rw [HR.out]
theorem enters_find : ∀ args w, (callFunc 105 args).run Tryz.prog w = .ok (.enter 105 args) w := enters_of Tryz.func105 (by kernel_rfl) rfl
theorem enters_index1 : ∀ args w, (callFunc 150 args).run Tryz.prog w = .ok (.enter 150 args) w := enters_of Tryz.func150 (by kernel_rfl) rfl
theorem partID_any (p : Pa) (w : World) : Calls Tryz.prog 102 #[.agg #[.int .i64 p.id, .int .i64 p.section_, .int .i64 p.of, .int .i64 p.octave, .int .i64 p.desks, .int .i64 p.shift.x, .int .i64 p.shift.y, .int .i64 p.low.s, .int .i64 p.low.a, .int .i64 p.low.o, .int .i64 p.high.s, .int .i64 p.high.a, .int .i64 p.high.o]] w fun e w' => e = .returned (.int .i64 p.id) ∧ Below w.heap.size w w' := by
  go_enter Tryz.func102, Tryz.ntmps102
  go_wp2
  go_ret
  exact ⟨rfl, (Below.refl _ _).alloc (Nat.le_refl _) _⟩
set_option maxRecDepth 100000 in
set_option maxHeartbeats 4000000 in
theorem indexId_any (id : Int) (p : Pa) (b1 b2 : Nat) (w : World) (h1 : w.heap[b1]? = some (.cells #[.func (.func 102) #[] #[]] 157 (0, 0))) (h3 : w.heap[b2]? = some (.cells #[.int .i64 id] 3 (0, 0))) :
    Calls Tryz.prog 150 #[.agg #[.int .i64 p.id, .int .i64 p.section_, .int .i64 p.of, .int .i64 p.octave, .int .i64 p.desks, .int .i64 p.shift.x, .int .i64 p.shift.y, .int .i64 p.low.s, .int .i64 p.low.a, .int .i64 p.low.o, .int .i64 p.high.s, .int .i64 p.high.a, .int .i64 p.high.o], .pointer (some ⟨b1, 0, none⟩), .pointer (some ⟨b2, 0, none⟩)] w fun e w' => e = .returned (.bool (idP id p)) ∧ Below w.heap.size w w' := by
  have HB := Lib.hid ((Below.refl w.heap.size w).alloc (Nat.le_refl _) (.cells #[.int .i64 p.id, .int .i64 p.section_, .int .i64 p.of, .int .i64 p.octave, .int .i64 p.desks, .int .i64 p.shift.x, .int .i64 p.shift.y, .int .i64 p.low.s, .int .i64 p.low.a, .int .i64 p.low.o, .int .i64 p.high.s, .int .i64 p.high.a, .int .i64 p.high.o] 93))
  have HX := Lib.hid (heap_alloc_new w (.cells #[.int .i64 p.id, .int .i64 p.section_, .int .i64 p.of, .int .i64 p.octave, .int .i64 p.desks, .int .i64 p.shift.x, .int .i64 p.shift.y, .int .i64 p.low.s, .int .i64 p.low.a, .int .i64 p.low.o, .int .i64 p.high.s, .int .i64 p.high.a, .int .i64 p.high.o] 93))
  have H1 := Lib.hid (up_alloc h1 (.cells #[.int .i64 p.id, .int .i64 p.section_, .int .i64 p.of, .int .i64 p.octave, .int .i64 p.desks, .int .i64 p.shift.x, .int .i64 p.shift.y, .int .i64 p.low.s, .int .i64 p.low.a, .int .i64 p.low.o, .int .i64 p.high.s, .int .i64 p.high.a, .int .i64 p.high.o] 93))
  have H3 := Lib.hid (up_alloc h3 (.cells #[.int .i64 p.id, .int .i64 p.section_, .int .i64 p.of, .int .i64 p.octave, .int .i64 p.desks, .int .i64 p.shift.x, .int .i64 p.shift.y, .int .i64 p.low.s, .int .i64 p.low.a, .int .i64 p.low.o, .int .i64 p.high.s, .int .i64 p.high.a, .int .i64 p.high.o] 93))
  have HR := Lib.hid (show idP id p = (p.id == id) from rfl)
  have HP := Lib.hid (partID_any p)
  clear h1 h3
  generalize idP id p = R at *
  go_enter Tryz.func150, Tryz.ntmps150
  go_upto_region 1 with (fail)
  generalize w.alloc (.cells #[.int .i64 p.id, .int .i64 p.section_, .int .i64 p.of, .int .i64 p.octave, .int .i64 p.desks, .int .i64 p.shift.x, .int .i64 p.shift.y, .int .i64 p.low.s, .int .i64 p.low.a, .int .i64 p.low.o, .int .i64 p.high.s, .int .i64 p.high.a, .int .i64 p.high.o] 93) = W at *
  have hc := box_cells HX.out; have hc1 := box_cells H1.out; have hc3 := box_cells H3.out
  have g0 := cell_regrown (hc 0); have g1 := cell_regrown (hc 1); have g2 := cell_regrown (hc 2); have g3 := cell_regrown (hc 3); have g4 := cell_regrown (hc 4); have g5 := cell_regrown (hc 5); have g6 := cell_regrown (hc 6); have g7 := cell_regrown (hc 7); have g8 := cell_regrown (hc 8); have g9 := cell_regrown (hc 9); have g10 := cell_regrown (hc 10); have g11 := cell_regrown (hc 11); have g12 := cell_regrown (hc 12)
  have k1 := cell_regrown (hc1 0); have k2 := cell_regrown (hc3 0)
  refine wp_quietB (by kernel_rfl) (by kernel_rfl) ?_
  (repeat (go_big_quiet_step (fail)))
  go_big_quiet_step ((go_at_call 102; refine Calls.regrown_of (HP.out _)))
  (repeat (go_big_quiet_step (fail)))
  refine wpQuiet_nil ?_; intro w9 hb9; go_wp2; go_ret
  exact ⟨ret_bool HR.out.symm, HB.out.trans (hb9.mono HB.out.size)⟩
set_option maxRecDepth 100000 in
set_option maxHeartbeats 4000000 in
theorem index_any (a : Option Addr) (cap : Nat) (l : List Pa) (id : Int) (w : World) (hl : l.length ≤ 100000) (hm : PaAt w a l) :
    Calls Tryz.prog 101 #[.slice a l.length cap, .int .i64 id, .func (.func 102) #[] #[]] w fun e w' => e = .returned (.tuple #[.int .i64 (if idxO (idP id) l < 0 then 0 else idxO (idP id) l), .bool (decide (0 ≤ idxO (idP id) l))]) ∧ Below w.heap.size w w' := by
  obtain ⟨x1, x2, hb⟩ := box2 (w := w) (A := .cells #[.int .i64 id] 3) (B := .cells #[.func (.func 102) #[] #[]] 157) (Below.refl _ _)
  have HX1 := Lib.hid x1; have HX2 := Lib.hid x2; have HB := Lib.hid hb; clear x1 x2 hb
  obtain ⟨R, hR⟩ : ∃ R, R = (if idxO (idP id) l < 0 then 0 else idxO (idP id) l) := ⟨_, rfl⟩
  obtain ⟨D, hD⟩ : ∃ D, D = decide (0 ≤ idxO (idP id) l) := ⟨_, rfl⟩
  rw [← hR, ← hD]
  have HI := Lib.hid (fun W (hb : Below w.heap.size w W) (x1 : W.heap[w.heap.size + 1]? = some (.cells #[.func (.func 102) #[] #[]] 157 (0, 0))) (x2 : W.heap[w.heap.size]? = some (.cells #[.int .i64 id] 3 (0, 0))) => IndexP_any 150 #[.pointer (some ⟨w.heap.size + 1, 0, none⟩), .pointer (some ⟨w.heap.size, 0, none⟩)] enters_index1 W.heap.size (idP id) a cap l W hl (fun p _ W' hW => indexId_any id p (w.heap.size + 1) w.heap.size W' (blk_keep x1 hW) (blk_keep x2 hW)) (Nat.le_refl _) (hm.below hb))
  clear hm
  generalize idxO (idP id) l = I at *
  have HRI := Lib.hid hR; have HDI := Lib.hid hD; clear hR hD
  go_enter Tryz.func101, Tryz.ntmps101
  go_upto_region 1 with (fail)
  generalize (w.alloc (.cells #[.int .i64 id] 3)).alloc (.cells #[.func (.func 102) #[] #[]] 157) = W at *
  have hcall := HI.out W HB.out HX2.out HX1.out
  go_wp2_with (go_at_call 104; refine hcall.mono ?_; rintro e w2 ⟨rfl, hb⟩; have HB2 := Lib.hid (HB.out.trans (hb.mono HB.out.size)); clear hb)
  all_goals (go_ret2; refine ⟨?_, HB2.out⟩; rw [HRI.out, HDI.out])
  all_goals (by_cases hI : I < 0 <;> simp_all <;> (try split) <;> omega)
open Go.RowKit Go.Sort Go.Shelf
attribute [local go_sem] Oper.semAt_some

/-- What lay below n0, but for the blocks a and b, lies as it lay. -/
structure Kept2 (n0 a b : Nat) (W W' : World) : Prop where
  size : W.heap.size ≤ W'.heap.size
  block : ∀ k, k < n0 → k ≠ a → k ≠ b → W'.heap[k]? = W.heap[k]?
theorem Kept2.refl (n0 a b : Nat) (W : World) : Kept2 n0 a b W W := ⟨Nat.le_refl _, fun _ _ _ _ => rfl⟩
theorem Kept2.trans {n0 a b : Nat} {X Y Z : World} (h : Kept2 n0 a b X Y) (k : Kept2 n0 a b Y Z) : Kept2 n0 a b X Z := ⟨Nat.le_trans h.size k.size, fun i hi ha hb => (k.block i hi ha hb).trans (h.block i hi ha hb)⟩
theorem Kept2.alloc {n0 a b : Nat} {X Y : World} (h : Kept2 n0 a b X Y) (hn : n0 ≤ Y.heap.size) (o : Obj) : Kept2 n0 a b X (Y.alloc o) := h.trans ⟨by simp, fun k hk _ _ => Below.heap_alloc _ _ _ (by omega)⟩
theorem Kept2.grown {n0 a b : Nat} {X Y Z : World} (h : Kept2 n0 a b X Y) {row : Option Nat} (hg : Y.grownBy Z row) (hn : n0 ≤ Y.heap.size) (hr : ∀ r, row = some r → n0 ≤ r) : Kept2 n0 a b X Z :=
  h.trans ⟨hg.size, fun k hk _ _ => hg.block k (by omega) (fun e => by have := hr k e.symm; omega)⟩
theorem Kept2.below {n0 a b : Nat} {X Y : World} (h : Below X.heap.size X Y) (hn : n0 ≤ X.heap.size) : Kept2 n0 a b X Y := ⟨h.size, fun k hk _ _ => h.block k (by omega)⟩
/-- The rows of a slice whose blocks lie below n0 and are neither a nor b. -/
structure FarAt (W : World) (n0 a b : Nat) (p : Option Addr) (sz : Nat) (rows : List (List Value)) : Prop where
  at_ : SlAt W p sz rows
  far : ∀ q, p = some q → rows ≠ [] → q.block < n0 ∧ q.block ≠ a ∧ q.block ≠ b
theorem FarAt.kept {W W' : World} {n0 a b : Nat} {p : Option Addr} {sz : Nat} {rows : List (List Value)} (h : FarAt W n0 a b p sz rows) (hk : Kept2 n0 a b W W') : FarAt W' n0 a b p sz rows :=
  ⟨fun i r hr => by
    obtain ⟨bk, off, e, hlt, hl, hc⟩ := h.at_ i r hr
    obtain ⟨h1, h2, h3⟩ := h.far _ e (fun e' => by subst e'; simp at hr)
    exact ⟨bk, off, e, Nat.lt_of_lt_of_le hlt hk.size, hl, fun j v hv => (World.cell?_of_block (w := W) (hk.block bk h1 h2 h3)).trans (hc j v hv)⟩, h.far⟩
theorem far_of {W W0 : World} {p : Option Addr} {sz : Nat} {rows : List (List Value)} {n0 a b : Nat} (h : SlAt W0 p sz rows) (hb : Below W0.heap.size W0 W) (hn : W0.heap.size ≤ n0) (ha : W0.heap.size ≤ a) (hb2 : W0.heap.size ≤ b) : FarAt W n0 a b p sz rows := by
  refine ⟨h.below hb, fun q hq hne => ?_⟩
  obtain ⟨r0, rs, e⟩ := List.exists_cons_of_ne_nil hne
  obtain ⟨b0, o0, e0, h0, _⟩ := h 0 r0 (by rw [e]; rfl)
  rw [hq] at e0; cases e0
  exact ⟨by show b0 < _; omega, by show b0 ≠ _; omega, by show b0 ≠ _; omega⟩
abbrev encNo (x : No) : Array Value := #[.agg #[.int .i64 x.id, .int .i64 x.part, .int .i64 x.bar, .int .i64 x.voice, .int .i64 x.ossia, .int .i64 x.start.n, .int .i64 x.start.d, .int .i64 x.len.n, .int .i64 x.len.d, .int .i64 x.pitch.s, .int .i64 x.pitch.a, .int .i64 x.pitch.o]]
/-- What a part plays of the first notes. -/
def playedK (s : Sc) (p : Pa) (k : Nat) : List No := ((s.notes.take k).filter fun n => n.part == sourceP p).map (asPlayed p)
theorem playedK_succ {s : Sc} {p : Pa} {k : Nat} (hk : k < s.notes.length) : playedK s p (k + 1) = if s.notes[k].part = sourceP p then playedK s p k ++ [asPlayed p s.notes[k]] else playedK s p k := by
  unfold playedK
  rw [List.take_succ_eq_append_getElem hk, List.filter_append, List.map_append]
  by_cases h : s.notes[k].part = sourceP p <;> simp [h]
theorem playedK_len (s : Sc) (p : Pa) (k : Nat) : (playedK s p k).length ≤ k := by
  unfold playedK
  rw [List.length_map]
  exact Nat.le_trans (List.length_filter_le _ _) (by rw [List.length_take]; exact Nat.min_le_left _ _)
theorem playedK_all (s : Sc) (p : Pa) : playedK s p s.notes.length = playedL s p := by unfold playedK; rw [List.take_length]; rfl
set_option maxHeartbeats 2000000 in
set_option maxRecDepth 100000 in
theorem played1_in (F : Fence) (n : Nat) (hF : F.fn 151) (hro : F.round = none) (hn : 1 ≤ n) (lo bs bo bp n0 a b : Nat) (s : Sc) (q : Sp) (p : Pa) (J Jx : List No → World → Prop) (W : World)
    (hl : s.notes.length ≤ 1000) (hoct : ∀ x ∈ s.notes, -1000 ≤ x.pitch.o + p.octave ∧ x.pitch.o + p.octave ≤ 1000) (hn0 : n0 ≤ W.heap.size)
    (hbs : W.heap[bs]? = some (.cells #[.int .i64 s.version, .slice q.ab s.bars.length q.cb, .slice q.ap s.parts.length q.cp, .slice q.an s.notes.length q.cn] 26)) (hbo : W.heap[bo]? = some (.cells #[.int .i64 (sourceP p)] 3)) (hbp : W.heap[bp]? = some (.cells #[.int .i64 p.id, .int .i64 p.section_, .int .i64 p.of, .int .i64 p.octave, .int .i64 p.desks, .int .i64 p.shift.x, .int .i64 p.shift.y, .int .i64 p.low.s, .int .i64 p.low.a, .int .i64 p.low.o, .int .i64 p.high.s, .int .i64 p.high.a, .int .i64 p.high.o] 93)) (hfo : bo < n0 ∧ bo ≠ a ∧ bo ≠ b) (hfp : bp < n0 ∧ bp ≠ a ∧ bp ≠ b)
    (hr : FarAt W n0 a b q.an 12 (s.notes.map No.cells)) (hJ : AbidesFrom W.heap.size J)
    (hY : ∀ pre x W1, J pre W1 → pre.length < s.notes.length → YieldAt F (n - 1) Tryz.prog lo (encNo x) W1 fun e W' =>
      (e = .returned (.bool true) ∧ J (pre ++ [x]) W' ∧ Kept2 n0 a b W1 W') ∨ (e = .returned (.bool false) ∧ Jx (pre ++ [x]) W')) (h0 : J [] W) :
    CallsIn F n Tryz.prog 151 (#[.func (.yield lo) #[] #[]] ++ #[.pointer (some ⟨bs, 0, none⟩), .pointer (some ⟨bo, 0, none⟩), .pointer (some ⟨bp, 0, none⟩)]) W fun e W' => (∃ v, e = .returned v) ∧ ((∃ xs, xs = playedL s p ∧ J xs W') ∨ (∃ pre, True ∧ Jx pre W')) := by
  have hc1 := box_cells hbs
  have HR := Lib.hid hr; clear hr
  have HBS := Lib.hid hbs; clear hbs
  have HBO := Lib.hid hbo; clear hbo
  have HBP := Lib.hid hbp; clear hbp
  have HN0 := Lib.hid hn0; clear hn0
  have HOct := Lib.hid hoct; clear hoct
  refine callsIn_of_wp Tryz.func151 rfl hF ?_ hro
  simp only [Tryz.ntmps151, List.size_toArray, List.length_cons, List.length_nil, Nat.reduceAdd, Nat.reduceSub, Array.replicate_succ, Array.replicate_zero, List.push_toArray, List.append_toArray, List.nil_append, List.cons_append]
  gi_wp2
  gi_loopw [10] (fun i wr => ∃ k : Nat, ∃ hk : k ≤ s.notes.length, i = .int .i64 k ∧ J (playedK s p k) wr ∧ Kept2 n0 a b W wr) (fun i _ => s.notes.length - (intOf i).toNat)
  case atStart => exact ⟨0, Nat.zero_le _, rfl, h0, Kept2.refl _ _ _ _⟩
  case round =>
    obtain ⟨k, hk, rfl, hJk, hK⟩ := hrel
    have HK := Lib.hid hK; clear hK
    by_cases hlt : k < s.notes.length
    · have HR1 := HR.out.kept HK.out
      obtain ⟨b1, o1, hqa, hblt, c0, c1, c2, c3, c4, c5, c6, c7, c8, c9, c10, c11⟩ := NoAt.get HR1.at_ k hlt
      have hbo1 := (HK.out.block bo hfo.1 hfo.2.1 hfo.2.2).trans HBO.out
      have hbp1 := (HK.out.block bp hfp.1 hfp.2.1 hfp.2.2).trans HBP.out
      have hco := box_cells hbo1; have hcp := box_cells hbp1
      have holt := lt_of_block hbo1; have hplt := lt_of_block hbp1
      have HBO1 := Lib.hid hbo1; have HBP1 := Lib.hid hbp1; clear hbo1 hbp1
      have HFO := Lib.hid hfo; have HFP := Lib.hid hfp; clear hfo hfp
      clear hc1
      rw [hqa]
      have hoc := HOct.out s.notes[k] (List.getElem_mem hlt)
      obtain ⟨oc1, oc2⟩ := hoc
      have HS := Lib.hid (playedK_succ (s := s) (p := p) hlt)
      have hN := HN0.out
      by_cases hsrc : s.notes[k].part = sourceP p
      · have HS2 := Lib.hid (by have := HS.out; rwa [if_pos hsrc] at this)
        have hJ1 : J (playedK s p k) (wr.alloc (.cells #[.int .i64 (asPlayed p s.notes[k]).id, .int .i64 (asPlayed p s.notes[k]).part, .int .i64 (asPlayed p s.notes[k]).bar, .int .i64 (asPlayed p s.notes[k]).voice, .int .i64 (asPlayed p s.notes[k]).ossia, .int .i64 (asPlayed p s.notes[k]).start.n, .int .i64 (asPlayed p s.notes[k]).start.d, .int .i64 (asPlayed p s.notes[k]).len.n, .int .i64 (asPlayed p s.notes[k]).len.d, .int .i64 (asPlayed p s.notes[k]).pitch.s, .int .i64 (asPlayed p s.notes[k]).pitch.a, .int .i64 (asPlayed p s.notes[k]).pitch.o] 128)) := hJ _ _ _ none hJk (World.grownBy_alloc _ _ _) (fun r e => by cases e)
        obtain ⟨fn, tmps, assign, body, hy, hRd⟩ := hY (playedK s p k) (asPlayed p s.notes[k]) _ hJ1 (by have := playedK_len s p k; omega)
        dsimp only [encNo, asPlayed] at hy hRd
        gi_wp2
        refine hRd.mono ?_
        rintro e W3 (⟨rfl, hJ3, hk3⟩ | ⟨rfl, hJx3⟩)
        · gi_wp2
          go_roundw
          case rel =>
            refine ⟨k + 1, by omega, by go_num, ?_, (HK.out.alloc (Nat.le_trans HN0.out HK.out.size) _).trans hk3⟩
            rw [HS2.out]; exact hJ3
          case measure => simp [intOf]; omega
        · gi_wp2
          refine bodyPost_ret (results_none rfl _ _ _) rfl ?_
          exact ⟨⟨_, rfl⟩, .inr ⟨_, trivial, hJx3⟩⟩
      · have HS2 := Lib.hid (by have := HS.out; rwa [if_neg hsrc] at this)
        have hJ1 := hJ _ _ _ none hJk (World.grownBy_alloc wr (.cells #[.int .i64 s.notes[k].id, .int .i64 s.notes[k].part, .int .i64 s.notes[k].bar, .int .i64 s.notes[k].voice, .int .i64 s.notes[k].ossia, .int .i64 s.notes[k].start.n, .int .i64 s.notes[k].start.d, .int .i64 s.notes[k].len.n, .int .i64 s.notes[k].len.d, .int .i64 s.notes[k].pitch.s, .int .i64 s.notes[k].pitch.a, .int .i64 s.notes[k].pitch.o] 128) _) (fun r e => by cases e)
        have HJ1 := Lib.hid hJ1; clear hJ1
        gi_wp2
        go_roundw
        case rel =>
          refine ⟨k + 1, by omega, by go_num, ?_, HK.out.alloc (Nat.le_trans HN0.out HK.out.size) _⟩
          rw [HS2.out]; exact HJ1.out
        case measure => simp [intOf]; omega
    · obtain rfl : k = s.notes.length := by omega
      gi_wp2
      go_end0
      exact ⟨⟨_, rfl⟩, .inl ⟨_, playedK_all s p, hJk⟩⟩
open Go.RowKit Go.Sort Go.Shelf
attribute [local go_sem] Oper.semAt_some

theorem appEIn {F : Fence} {nF : Nat} {P : Program} {w : World} {ops : Array Oper} {rest : List Oper} {o : Oper} {a : Act} {Q : Exit → Act → World → Prop} {T E : TypeId} {sz bytes : Nat} {α : Type} {f : α → List Value} (he : Elt P T E sz bytes f)
    (hgd : o.guard = none) (s x : Operand) (ho : o.op = .call { callee := .builtin .append, args := #[s, x], argTypes := #[T, T] })
    (B : Nat) (v : Value) (l : List α) (hs : a.eval s = v) (hown : OwnR w B E sz v (l.map f))
    (ad : Addr) (m c : Nat) (news : List α) (hx : a.eval x = .slice (some ad) m c) (hm : m = news.length) (hn : news ≠ []) (hnews : SlAt w (some ad) sz (news.map f))
    (hlen : l.length + news.length ≤ 1048576) (hbase : B ≤ w.heap.size)
    (h : ∀ v' w', OwnR w' B E sz v' ((l ++ news).map f) → w.grownBy w' v.ownBlock → wpListIn F nF P ops Q rest (a.put o.dst v') w') : wpListIn F nF P ops Q (o :: rest) a w := by
  obtain ⟨z, hi, hz⟩ := he.info
  obtain ⟨i, hi, hz0, hz1, hz2⟩ := info_parts hi
  subst hm
  have hwn : ∀ r ∈ news.map f, r.length = sz := fun r hr => by obtain ⟨y, _, rfl⟩ := List.mem_map.1 hr; exact he.len y
  have hww : ∀ r ∈ (l ++ news).map f, r.length = sz := fun r hr => by obtain ⟨y, _, rfl⟩ := List.mem_map.1 hr; exact he.len y
  have hcell : ∀ j u, (news.map f).flatten[j]? = some u → w.cell? (ad.add j) = some u := by
    obtain ⟨y, l', rfl⟩ := List.exists_cons_of_ne_nil hn
    obtain ⟨b, off, e, _⟩ := hnews 0 (f y) rfl
    cases e
    exact hnews.flat
  have hown' := hown.own
  rw [List.length_map] at hown'
  exact wpListIn_append_own w hgd s x T ho B E i z sz bytes he.ty hi hz0 hz1 hz2 hz he.pos v l.length (l.map f).flatten hs hown' ad news.length c (news.map f).flatten hx (by rw [flat_len _ sz hwn, List.length_map]) hcell
    (oneCell_flat fun r hr u hu => by obtain ⟨y, _, rfl⟩ := List.mem_map.1 hr; exact he.one y u hu) (by unfold maxLen; omega) (Nat.le_trans (Nat.mul_le_mul hlen he.small) (by decide)) hbase
    fun v' w' ho' hg _ => h v' w' ⟨hww, by rw [List.length_map, List.length_append, List.map_append, List.flatten_append]; exact ho'⟩ hg
/-- What a walk of blocks that are no cells leaves. -/
theorem SlAt.keptRow {A B : World} {row : Option Nat} {a : Option Addr} {sz : Nat} {rows : List (List Value)} (h : SlAt A a sz rows) (hg : A.grownBy B row) (hr : ∀ r, row = some r → ∃ o : Obj, A.heap[r]? = some o ∧ o.isCells = false) : SlAt B a sz rows := fun i r hi => by
  obtain ⟨b, off, e, h1, h2, h3⟩ := h i r hi
  exact ⟨b, off, e, Nat.lt_of_lt_of_le h1 hg.size, h2, fun j u hu => cell_kept (h3 j u hu) hg hr⟩
theorem blk_keptRow {A B : World} {row : Option Nat} {b n0 : Nat} {o : Obj} (h : A.heap[b]? = some o) (hg : A.grownBy B row) (hr : ∀ r, row = some r → n0 ≤ r ∧ ∃ o : Obj, A.heap[r]? = some o ∧ o.isCells = false) (hb : b < n0) : B.heap[b]? = some o :=
  (hg.block b (lt_blk h) (fun e => by have := (hr b e.symm).1; omega)).trans h
theorem SlAt.setOther {W : World} {a : Option Addr} {sz : Nat} {rows : List (List Value)} {b k : Nat} (h : SlAt W a sz rows) (hne : ∀ ad, a = some ad → rows ≠ [] → ad.block ≠ b) (v : Value) : SlAt (W.setCell ⟨b, k, none⟩ v) a sz rows := fun i r hi => by
  obtain ⟨b1, off, e, h1, h2, h3⟩ := h i r hi
  have hn := hne _ e (fun e' => by subst e'; simp at hi)
  exact ⟨b1, off, e, by simpa using h1, h2, fun j u hu => (World.cell?_setCell_other _ _ _ _ (fun e => hn (by cases e; rfl))).trans (h3 j u hu)⟩
theorem OwnR.neBlk {w : World} {B k : Nat} {E : TypeId} {sz : Nat} {v : Value} {rows : List (List Value)} (o : OwnR w B E sz v rows) (h : k < B) : some k ≠ v.ownBlock := fun e => by have := (o.lt k e.symm).1; omega
theorem OwnR.isCells {w : World} {B k : Nat} {E : TypeId} {sz : Nat} {v : Value} {rows : List (List Value)} (o : OwnR w B E sz v rows) (h : v.ownBlock = some k) : ∃ cur, w.heap[k]? = some (.cells cur E (0, 0)) := by
  obtain ⟨_, _, ⟨rfl, _⟩ | ⟨g, cap, cur, rfl, _, hc, _⟩⟩ := o
  · cases h
  · cases h; exact ⟨cur, hc⟩
theorem OwnR.keptRow {A A' : World} {row : Option Nat} {B : Nat} {E : TypeId} {sz : Nat} {v : Value} {rows : List (List Value)} (o : OwnR A B E sz v rows) (hg : A.grownBy A' row) (hr : ∀ r, row = some r → ∃ o : Obj, A.heap[r]? = some o ∧ o.isCells = false) : OwnR A' B E sz v rows := by
  refine o.kept hg ?_
  cases hv : v.ownBlock with
  | none => exact .inl rfl
  | some k =>
    right
    intro e
    obtain ⟨cur, hc⟩ := o.isCells hv
    obtain ⟨o', ho, hn⟩ := hr k e.symm
    rw [hc] at ho; cases ho; cases hn
theorem OwnR.setOther {w : World} {B b : Nat} {E : TypeId} {sz : Nat} {v : Value} {rows : List (List Value)} (o : OwnR w B E sz v rows) (h : b < B) (x : Value) : OwnR (w.setCell ⟨b, 0, none⟩ x) B E sz v rows := by
  refine o.kept (grownBy_setCell' _ _ _) ?_
  cases hv : v.ownBlock with
  | none => exact .inl rfl
  | some j => exact .inr (fun e => by have := (o.lt j hv).1; cases e; omega)
theorem below_box {w : World} (o : Obj) : Below w.heap.size w (w.alloc o) := (Below.refl _ _).alloc (Nat.le_refl _) o
theorem NoAt.keptRow {A B : World} {row : Option Nat} {a : Option Addr} {l : List No} (h : NoAt A a l) (hg : A.grownBy B row) (hr : ∀ r, row = some r → ∃ o : Obj, A.heap[r]? = some o ∧ o.isCells = false) : NoAt B a l := SlAt.keptRow h hg hr
/-- What a part plays, and an error. -/
def playsR (s : Sc) (part : Int) : List No × Int := if validS s then (match partAt s.parts part with | some p => (playedL s p, 0) | none => ([], 22)) else ([], 1)
set_option maxRecDepth 100000 in
theorem SPlayed_any (s : Sc) (q : Sp) (p : Pa) (w : World) :
    Calls Tryz.prog 103 #[.agg #[.int .i64 s.version, .slice q.ab s.bars.length q.cb, .slice q.ap s.parts.length q.cp, .slice q.an s.notes.length q.cn], .agg #[.int .i64 p.id, .int .i64 p.section_, .int .i64 p.of, .int .i64 p.octave, .int .i64 p.desks, .int .i64 p.shift.x, .int .i64 p.shift.y, .int .i64 p.low.s, .int .i64 p.low.a, .int .i64 p.low.o, .int .i64 p.high.s, .int .i64 p.high.a, .int .i64 p.high.o]] w fun e w' => e = .returned (.func (.func 151) #[] #[.pointer (some ⟨w.heap.size, 0, none⟩), .pointer (some ⟨w.heap.size + 2, 0, none⟩), .pointer (some ⟨w.heap.size + 1, 0, none⟩)]) ∧ w' = (((w.alloc (.cells #[.int .i64 s.version, .slice q.ab s.bars.length q.cb, .slice q.ap s.parts.length q.cp, .slice q.an s.notes.length q.cn] 26)).alloc (.cells #[.int .i64 p.id, .int .i64 p.section_, .int .i64 p.of, .int .i64 p.octave, .int .i64 p.desks, .int .i64 p.shift.x, .int .i64 p.shift.y, .int .i64 p.low.s, .int .i64 p.low.a, .int .i64 p.low.o, .int .i64 p.high.s, .int .i64 p.high.a, .int .i64 p.high.o] 93)).alloc (.cells #[.int .i64 (sourceP p)] 3)) := by
  have hA := box_cells (heap_alloc_new (w.alloc (.cells #[.int .i64 s.version, .slice q.ab s.bars.length q.cb, .slice q.ap s.parts.length q.cp, .slice q.an s.notes.length q.cn] 26)) (.cells #[.int .i64 p.id, .int .i64 p.section_, .int .i64 p.of, .int .i64 p.octave, .int .i64 p.desks, .int .i64 p.shift.x, .int .i64 p.shift.y, .int .i64 p.low.s, .int .i64 p.low.a, .int .i64 p.low.o, .int .i64 p.high.s, .int .i64 p.high.a, .int .i64 p.high.o] 93))
  by_cases h0 : p.of = 0
  · have HS := Lib.hid (show sourceP p = p.id by simp [sourceP, h0])
    go_enter Tryz.func103, Tryz.ntmps103
    go_wp2
    go_ret
    rw [HS.out]
    refine ⟨?_, ?_⟩
    · first | rfl | simp
    · rw [h0]
  · have HS := Lib.hid (show sourceP p = p.of by simp [sourceP, h0])
    go_enter Tryz.func103, Tryz.ntmps103
    go_wp2
    go_ret
    rw [HS.out]
    exact ⟨by first | rfl | simp, rfl⟩
open Go.RowKit Go.Sort Go.Shelf
attribute [local go_sem] Oper.semAt_some

theorem oct_ok {s : Sc} (h : validS s = true) {p : Pa} (hp : p ∈ s.parts) : ∀ x ∈ s.notes, -1000 ≤ x.pitch.o + p.octave ∧ x.pitch.o + p.octave ≤ 1000 := by
  intro x hx
  simp only [validS, Bool.and_eq_true] at h
  obtain ⟨⟨⟨⟨⟨h1, h2⟩, h3⟩, h4⟩, h5⟩, h6⟩ := h
  simp only [partsB, Bool.and_eq_true] at h3
  have hpo := List.all_eq_true.1 h3.1.1.2 p hp
  simp only [partOk, Bool.and_eq_true, inB_iff] at hpo
  have hno := List.all_eq_true.1 (notes_all h4) x hx
  unfold noteOk at hno
  cases hf : s.bars.find? (fun b => b.id == x.bar) with
  | none => rw [hf] at hno; cases hno
  | some b =>
    rw [hf] at hno
    simp only [noteIn, isNoteP, Bool.and_eq_true, inB_iff] at hno
    omega
set_option maxRecDepth 100000 in
set_option maxHeartbeats 4000000 in
theorem SPlays_any (s : Sc) (q : Sp) (part : Int) (w : World) (hf : ScFew s) (hs : ScAt w s q) (hE : Env w) :
    Calls Tryz.prog 63 #[.agg #[.int .i64 s.version, .slice q.ab s.bars.length q.cb, .slice q.ap s.parts.length q.cp, .slice q.an s.notes.length q.cn], .int .i64 part] w (RetNE (playsR s part).1 (playsR s part).2 w) := by
  obtain ⟨ab, cb, ap, cp, an, cn⟩ := q
  dsimp only
  have HB := Lib.hid ((Below.refl w.heap.size w).alloc (Nat.le_refl _) (.cells #[.int .i64 s.version, .slice ab s.bars.length cb, .slice ap s.parts.length cp, .slice an s.notes.length cn] 26))
  have HX1 := Lib.hid (heap_alloc_new w (.cells #[.int .i64 s.version, .slice ab s.bars.length cb, .slice ap s.parts.length cp, .slice an s.notes.length cn] 26))
  have HC := Lib.hid (fun W (hb : Below w.heap.size w W) => SValid_any s ⟨ab, cb, ap, cp, an, cn⟩ W hf (hs.below hb) (hE.below hb))
  have HS := Lib.hid hs; have HE := Lib.hid hE; have HF := Lib.hid hf
  clear hs hE hf
  cases hv : validS s
  · rw [hv] at HC
    rw [show playsR s part = ([], 1) by simp [playsR, hv]]
    go_enter Tryz.func63, Tryz.ntmps63
    go_upto_region 1 with (fail)
    generalize w.alloc (.cells #[.int .i64 s.version, .slice ab s.bars.length cb, .slice ap s.parts.length cp, .slice an s.notes.length cn] 26) = W at *
    have hc1 := box_cells HX1.out
    go_wp2_with (first | (go_at_call 56; refine (HC.out _ HB.out).mono ?_; rintro e w2 ⟨rfl, hb⟩; (try replace hb := drewB hb); replace HB := Lib.hid (HB.out.trans (hb.mono HB.out.size)); (try (replace HX1 := Lib.hid (blk_keep HX1.out hb); replace hc1 := box_cells HX1.out; replace hf1 := box_free HX1.out; replace hz1 := lt_blk HX1.out)); (try (replace HX2 := Lib.hid (blk_keep HX2.out hb); replace hc2 := box_cells HX2.out; replace hf2 := box_free HX2.out; replace hz2 := lt_blk HX2.out)); clear hb) | (go_at_call 101; refine (HI.out _ HB.out).mono ?_; rintro e w3 ⟨rfl, hb⟩; (try replace hb := drewB hb); replace HB := Lib.hid (HB.out.trans (hb.mono HB.out.size)); (try (replace HX1 := Lib.hid (blk_keep HX1.out hb); replace hc1 := box_cells HX1.out; replace hf1 := box_free HX1.out; replace hz1 := lt_blk HX1.out)); (try (replace HX2 := Lib.hid (blk_keep HX2.out hb); replace hc2 := box_cells HX2.out; replace hf2 := box_free HX2.out; replace hz2 := lt_blk HX2.out)); clear hb))
    go_ret2
    exact ⟨_, _, rfl, SlOk.nil, SlAt.nil _ _ _, HB.out⟩
  · rw [hv] at HC
    have HI := Lib.hid (fun W (hb : Below w.heap.size w W) => index_any ap cp s.parts part W (by have := HF.out.parts; omega) (HS.out.parts.below hb))
    cases hp : partAt s.parts part with
    | none =>
      rw [show playsR s part = ([], 22) by simp [playsR, hv, hp]]
      rw [part_none hp] at HI
      simp only [show ((-1 : Int) < 0) = True by simp, if_true, show decide ((0 : Int) ≤ -1) = false by decide] at HI
      go_enter Tryz.func63, Tryz.ntmps63
      go_upto_region 1 with (fail)
      generalize w.alloc (.cells #[.int .i64 s.version, .slice ab s.bars.length cb, .slice ap s.parts.length cp, .slice an s.notes.length cn] 26) = W at *
      have hc1 := box_cells HX1.out
      go_wp2_with (first | (go_at_call 56; refine (HC.out _ HB.out).mono ?_; rintro e w2 ⟨rfl, hb⟩; (try replace hb := drewB hb); replace HB := Lib.hid (HB.out.trans (hb.mono HB.out.size)); (try (replace HX1 := Lib.hid (blk_keep HX1.out hb); replace hc1 := box_cells HX1.out; replace hf1 := box_free HX1.out; replace hz1 := lt_blk HX1.out)); (try (replace HX2 := Lib.hid (blk_keep HX2.out hb); replace hc2 := box_cells HX2.out; replace hf2 := box_free HX2.out; replace hz2 := lt_blk HX2.out)); clear hb) | (go_at_call 101; refine (HI.out _ HB.out).mono ?_; rintro e w3 ⟨rfl, hb⟩; (try replace hb := drewB hb); replace HB := Lib.hid (HB.out.trans (hb.mono HB.out.size)); (try (replace HX1 := Lib.hid (blk_keep HX1.out hb); replace hc1 := box_cells HX1.out; replace hf1 := box_free HX1.out; replace hz1 := lt_blk HX1.out)); (try (replace HX2 := Lib.hid (blk_keep HX2.out hb); replace hc2 := box_cells HX2.out; replace hf2 := box_free HX2.out; replace hz2 := lt_blk HX2.out)); clear hb))
      go_ret2
      exact ⟨_, _, rfl, SlOk.nil, SlAt.nil _ _ _, HB.out⟩
    | some p =>
      rw [show playsR s part = (playedL s p, 0) by simp [playsR, hv, hp]]
      obtain ⟨i, hi, e1, e2, e3⟩ := part_some hp
      have HOct := Lib.hid (oct_ok hv (e2 ▸ List.getElem_mem hi))
      rw [e1] at HI
      simp only [show ((i : Int) < 0) = False by simp, if_false, show decide ((0 : Int) ≤ i) = true by simp] at HI
      have HP := Lib.hid e2
      clear e1 e2 e3 hp hv
      refine (callsIn_wide (n := 8)).1 ?_
      refine callsIn_of_wp_marks Tryz.func63 rfl trivial ?_ rfl
      simp only [Tryz.ntmps63, List.size_toArray, List.length_cons, List.length_nil, Nat.reduceAdd, Nat.reduceSub, Array.replicate_succ, Array.replicate_zero, List.push_toArray, List.append_toArray, List.nil_append, List.cons_append]
      refine wpIn_wide.2 ?_
      go_upto_region 1 with (fail)
      generalize w.alloc (.cells #[.int .i64 s.version, .slice ab s.bars.length cb, .slice ap s.parts.length cp, .slice an s.notes.length cn] 26) = W at *
      have hc1 := box_cells HX1.out
      go_upto_region 7 with (first | (go_at_call 56; refine (HC.out _ HB.out).mono ?_; rintro e w2 ⟨rfl, hb⟩; (try replace hb := drewB hb); replace HB := Lib.hid (HB.out.trans (hb.mono HB.out.size)); (try (replace HX1 := Lib.hid (blk_keep HX1.out hb); replace hc1 := box_cells HX1.out; replace hf1 := box_free HX1.out; replace hz1 := lt_blk HX1.out)); (try (replace HX2 := Lib.hid (blk_keep HX2.out hb); replace hc2 := box_cells HX2.out; replace hf2 := box_free HX2.out; replace hz2 := lt_blk HX2.out)); clear hb) | (go_at_call 101; refine (HI.out _ HB.out).mono ?_; rintro e w3 ⟨rfl, hb⟩; (try replace hb := drewB hb); replace HB := Lib.hid (HB.out.trans (hb.mono HB.out.size)); (try (replace HX1 := Lib.hid (blk_keep HX1.out hb); replace hc1 := box_cells HX1.out; replace hf1 := box_free HX1.out; replace hz1 := lt_blk HX1.out)); (try (replace HX2 := Lib.hid (blk_keep HX2.out hb); replace hc2 := box_cells HX2.out; replace hf2 := box_free HX2.out; replace hz2 := lt_blk HX2.out)); clear hb))
      have hbo := (Below.refl w3.heap.size w3).alloc (Nat.le_refl _) (.cells #[.slice none 0 0] 24)
      have ho := heap_alloc_new w3 (.cells #[.slice none 0 0] 24)
      have HX2 := Lib.hid ho
      replace HX1 := Lib.hid (blk_keep HX1.out hbo)
      have hob := HB.out.size
      replace HB := Lib.hid (HB.out.trans (hbo.mono HB.out.size))
      generalize hW4 : w3.alloc (.cells #[.slice none 0 0] 24) = W4 at *
      clear hbo ho hW4 hc1 hf1 hz1
      generalize w3.heap.size = ob at *
      obtain ⟨b, off, hqa, _, e0, e1, e2, e3, e4, e5, e6, e7, e8, e9, e10, e11, e12⟩ := (HS.out.parts.below HB.out).get i hi
      rw [HP.out] at e0 e1 e2 e3 e4 e5 e6 e7 e8 e9 e10 e11 e12
      have hc1 := box_cells HX1.out
      have hqa2 : ap = some ⟨b, off, none⟩ := hqa
      subst hqa2
      clear hqa
      have g0 := cell_regrown e0; have g1 := cell_regrown e1; have g2 := cell_regrown e2; have g3 := cell_regrown e3; have g4 := cell_regrown e4; have g5 := cell_regrown e5; have g6 := cell_regrown e6; have g7 := cell_regrown e7; have g8 := cell_regrown e8; have g9 := cell_regrown e9; have g10 := cell_regrown e10; have g11 := cell_regrown e11; have g12 := cell_regrown e12
      have k0 := cell_regrown (hc1 0); have k1 := cell_regrown (hc1 1); have k2 := cell_regrown (hc1 2); have k3 := cell_regrown (hc1 3)
      refine wp_tailB 6 (by kernel_rfl) (by kernel_rfl) ?_
      simp only [List.take_succ_cons, List.take_zero, List.drop_succ_cons, List.drop_zero]
      (repeat (go_big_quiet_step (fail)))
      refine wpQuiet_nil ?_
      intro w6 hb6
      replace HX1 := Lib.hid (blk_keep HX1.out hb6); replace HX2 := Lib.hid (blk_keep HX2.out hb6); replace HB := Lib.hid (HB.out.trans (hb6.mono HB.out.size))
      clear hb6 g0 g1 g2 g3 g4 g5 g6 g7 g8 g9 g10 g11 g12 k0 k1 k2 k3 e0 e1 e2 e3 e4 e5 e6 e7 e8 e9 e10 e11 e12 hc1
      go_wp2_with (go_at_call 103; refine (SPlayed_any s ⟨ab, cb, some ⟨b, off, none⟩, cp, an, cn⟩ p w6).mono ?_; rintro e w7 ⟨rfl, hw7⟩; have HW7 := Lib.hid hw7; clear hw7)
      obtain ⟨kS, kP, kO, hb7⟩ := box3 (w := w6) (A := .cells #[.int .i64 s.version, .slice (⟨ab, cb, some ⟨b, off, none⟩, cp, an, cn⟩ : Sp).ab s.bars.length (⟨ab, cb, some ⟨b, off, none⟩, cp, an, cn⟩ : Sp).cb, .slice (⟨ab, cb, some ⟨b, off, none⟩, cp, an, cn⟩ : Sp).ap s.parts.length (⟨ab, cb, some ⟨b, off, none⟩, cp, an, cn⟩ : Sp).cp, .slice (⟨ab, cb, some ⟨b, off, none⟩, cp, an, cn⟩ : Sp).an s.notes.length (⟨ab, cb, some ⟨b, off, none⟩, cp, an, cn⟩ : Sp).cn] 26) (B := .cells #[.int .i64 p.id, .int .i64 p.section_, .int .i64 p.of, .int .i64 p.octave, .int .i64 p.desks, .int .i64 p.shift.x, .int .i64 p.shift.y, .int .i64 p.low.s, .int .i64 p.low.a, .int .i64 p.low.o, .int .i64 p.high.s, .int .i64 p.high.a, .int .i64 p.high.o] 93) (C := .cells #[.int .i64 (sourceP p)] 3) (w' := w7) (by rw [← HW7.out]; exact Below.refl _ _)
      have hz7 : w6.heap.size + 3 ≤ w7.heap.size := by rw [HW7.out]; simp
      clear HW7
      have k2 := blk_keep HX2.out hb7
      have hoblt : ob < w6.heap.size := lt_blk HX2.out
      have HB7 := Lib.hid (HB.out.trans (hb7.mono HB.out.size))
      have hww := HB7.out.size
      have hfar := far_of (W0 := w) (W := w7) (n0 := w7.heap.size) (a := ob) (b := ob) HS.out.notes HB7.out hww hob hob
      have hln := HF.out.notes
      clear HC HI HX1 HX2 hb7
      refine (wpIn_wide (n := 8)).1 ?_
      refine wpIn_rangeFunc_ownH (α := No) rfl (by omega) (gf := 151) (lb := #[.pointer (some ⟨w6.heap.size, 0, none⟩), .pointer (some ⟨w6.heap.size + 2, 0, none⟩), .pointer (some ⟨w6.heap.size + 1, 0, none⟩)]) rfl trivial (enters_of Tryz.func151 (by kernel_rfl) rfl)
        (encs := encNo) (Kp := Kept2 w7.heap.size ob ob) (S := fun xs => xs = playedL s p) (Sp := fun _ => True) (N := s.notes.length) (w0 := w7) ?hseq Kept2.trans ?hKb (Below.refl _ _) (fun _ => rfl)
        (fun pre V => ∃ v, V.heap[ob]? = some (.cells #[v] 24) ∧ OwnR V w7.heap.size 128 12 v (pre.map No.cells) ∧ pre.length ≤ 1000 ∧ Below w.heap.size w V ∧ w7.heap.size ≤ V.heap.size)
        (fun _ _ _ => False) ?hI (fun _ _ _ _ _ hs _ _ => hs) ⟨_, k2, OwnR.nil _ _ _ _, by simp, HB7.out, Nat.le_refl _⟩
        (fun x a' V => ∃ Bx, w7.heap.size ≤ Bx ∧ V.heap[Bx]? = some (.cells #[.int .i64 x.id, .int .i64 x.part, .int .i64 x.bar, .int .i64 x.voice, .int .i64 x.ossia, .int .i64 x.start.n, .int .i64 x.start.d, .int .i64 x.len.n, .int .i64 x.len.d, .int .i64 x.pitch.s, .int .i64 x.pitch.a, .int .i64 x.pitch.o] 128) ∧ a' = { tmps := #[.agg #[.int .i64 s.version, .slice ab s.bars.length cb, .slice (some ⟨b, off, none⟩) s.parts.length cp, .slice an s.notes.length cn], .int .i64 part, .pointer (some ⟨w.heap.size, 0, none⟩), undef, .slice none 0 0, .int .i64 0, .int .i64 i, .bool true, .pointer (some ⟨ob, 0, none⟩), .pointer (some ⟨Bx, 0, none⟩), .agg #[.int .i64 s.version, .slice ab s.bars.length cb, .slice (some ⟨b, off, none⟩) s.parts.length cp, .slice an s.notes.length cn], .bool true, .bool false, .tuple #[.int .i64 i, .bool true], .pointer (some ⟨w.heap.size, 2, none⟩), .slice (some ⟨b, off, none⟩) s.parts.length cp, .int .i64 part, .tuple #[.int .i64 i, .bool true], .int .i64 i, .bool true, .bool true, .bool false, .agg #[.int .i64 s.version, .slice ab s.bars.length cb, .slice (some ⟨b, off, none⟩) s.parts.length cp, .slice an s.notes.length cn], .pointer (some ⟨w.heap.size, 2, none⟩), .slice (some ⟨b, off, none⟩) s.parts.length cp, .int .i64 i, .pointer (some ⟨b, off + i * 13, none⟩), .agg #[.int .i64 p.id, .int .i64 p.section_, .int .i64 p.of, .int .i64 p.octave, .int .i64 p.desks, .int .i64 p.shift.x, .int .i64 p.shift.y, .int .i64 p.low.s, .int .i64 p.low.a, .int .i64 p.low.o, .int .i64 p.high.s, .int .i64 p.high.a, .int .i64 p.high.o], .func (.func 151) #[] #[.pointer (some ⟨w6.heap.size, 0, none⟩), .pointer (some ⟨w6.heap.size + 2, 0, none⟩), .pointer (some ⟨w6.heap.size + 1, 0, none⟩)], .agg #[.int .i64 x.id, .int .i64 x.part, .int .i64 x.bar, .int .i64 x.voice, .int .i64 x.ossia, .int .i64 x.start.n, .int .i64 x.start.d, .int .i64 x.len.n, .int .i64 x.len.d, .int .i64 x.pitch.s, .int .i64 x.pitch.a, .int .i64 x.pitch.o], undef, undef, undef, undef, undef], defers := [] })
        ?hAx ?hassign ?hbody ?hdone ?hstop
      case hseq =>
        intro l0 J Jx V hW hJ _ hY h0
        exact played1_in Fence.wide 7 trivial rfl (by omega) l0 w6.heap.size (w6.heap.size + 2) (w6.heap.size + 1) w7.heap.size ob ob s ⟨ab, cb, some ⟨b, off, none⟩, cp, an, cn⟩ p J Jx V hln HOct.out hW.size (blk_keep kS hW) (blk_keep kO hW) (blk_keep kP hW) ⟨by omega, by omega, by omega⟩ ⟨by omega, by omega, by omega⟩ (hfar.kept (Kept2.below hW (Nat.le_refl _))) hJ hY h0
      case hKb =>
        intro V l0 o o' hl0 hW _ _
        exact (Kept2.refl _ _ _ _).trans ⟨by simp, fun k hk _ _ => World.putObj_heap_other (by omega)⟩
      case hI =>
        rintro pre V V' row ⟨v, j1, j2, j3, j4, j5⟩ hg hrow
        exact ⟨v, blk_keptRow j1 hg hrow (by omega), j2.keptRow hg (fun r e => (hrow r e).2), j3, j4.grown hg j4.size (fun k e => by have := (hrow k e).1; omega), Nat.le_trans j5 hg.size⟩
      case hAx =>
        rintro x a' u V V' row ⟨Bx, h1, h2, h3⟩ hg hrow
        refine ⟨Bx, h1, (hg.block _ (lt_of_block h2) (fun e => ?_)).trans h2, h3⟩
        obtain ⟨_, o, ho, hc⟩ := hrow Bx e.symm
        rw [h2] at ho; cases ho; cases hc
      case hassign =>
        rintro l0 pre x V K ⟨v, j1, j2, j3, j4, j5⟩ hK
        gi_wp2
        exact hK _ _ ((KeepsOthers.alloc _ _).from _) ((Kept2.refl _ _ _ _).alloc j5 _) ⟨v, up_alloc j1 _, j2.below (below_box _), j3, j4.alloc j4.size _, by simp; omega⟩ ⟨V.heap.size, j5, heap_alloc_new _ _, rfl⟩
      case hbody =>
        rintro l0 pre x a' V hl0 ⟨r, hr0⟩ ⟨v, j1, j2, j3, j4, j5⟩ ⟨Bx, hBx, hbx, rfl⟩ hlt
        have co := box_cells j1
        have cx := box_cells hbx
        have J2 := Lib.hid j2
        have hsz5 : w7.heap.size ≤ (V.alloc (.cells #[.int .i64 x.id, .int .i64 x.part, .int .i64 x.bar, .int .i64 x.voice, .int .i64 x.ossia, .int .i64 x.start.n, .int .i64 x.start.d, .int .i64 x.len.n, .int .i64 x.len.d, .int .i64 x.pitch.s, .int .i64 x.pitch.a, .int .i64 x.pitch.o] 128)).heap.size := by simp; omega
        have hlen : pre.length + 1 ≤ 1048576 := by omega
        clear j2
        gi_wp2_with (gi_at_builtin; go_must (refine appEIn eltNo rfl (.tmp 30) (.tmp 32) rfl w7.heap.size _ pre rfl (J2.out.below (below_box _)) _ _ _ [x] rfl rfl (by simp) (eltNo.new _ _ _ _ rfl) hlen hsz5 ?_); intro v5 w5 ho5 hg5; have hko5 := (hg5.block _ (by simp; omega) (J2.out.neBlk (by omega))).trans (up_alloc j1 _); have c5 := box_cells hko5; have f5 := box_free hko5; obtain ⟨a9, c9, e9, _, _⟩ := ho5.slAt; rw [show ((pre ++ [x]).map No.cells).length = pre.length + 1 by simp] at e9; subst e9)
        have hz5 := hg5.size
        have hsame : ∀ k, k < V.heap.size → k ≠ ob → some k ≠ v.ownBlock → (w5.setCell ⟨ob, 0, none⟩ (.slice a9 (pre.length + 1) c9)).heap[k]? = V.heap[k]? := fun k h1 h2 h3 =>
          (Below.heap_setCell _ _ _ k h2).trans ((hg5.block k (by simp; omega) h3).trans (Below.heap_alloc _ _ _ h1))
        refine ⟨⟨by simp at hz5 ⊢; omega, fun k o hk h0 ho => (hsame k (lt_blk h0) (by omega) (fun e => by
            obtain ⟨cur, hc⟩ := J2.out.isCells e.symm
            rw [h0] at hc; cases hc; cases ho)).trans h0⟩, ⟨by simp at hz5 ⊢; omega, fun k hk ha hb => hsame k (by omega) ha (J2.out.neBlk hk)⟩, _, heap_setCell_same _ _ _ _ _ _ hko5, ?_, by simp; omega, ?_, by simp at hz5 ⊢; omega⟩
        · exact ho5.setOther (by omega) _
        · exact ((j4.alloc j4.size _).grown hg5 (by simp; omega) (fun k e => by have := (J2.out.lt k e).1; omega)).setCell (p := ⟨ob, 0, none⟩) (by show w.heap.size ≤ ob; omega) _
      case hdone =>
        rintro D xs V hD rfl ⟨v, j1, j2, j3, j4, j5⟩ hK
        have co := box_cells j1
        obtain ⟨a9, c9, rfl, hs9, hi9⟩ := j2.slAt
        gi_wp2
        go_wp2
        refine ⟨by simp, .inl ⟨_, _, rfl, run_takeDeferred hK, ?_⟩⟩
        have hD2 : D ≠ ob := by omega
        refine ⟨_, results_tmp2 rfl _ _ _, ?_⟩
        have hbf := j4.grown (grownBy_putObj' V D (.deferred none)) j4.size (fun k e => by cases e; omega)
        have hin := (show NoAt V a9 (playedL s p) from hi9).keptRow (grownBy_putObj' V D (.deferred none)) (fun r e => by cases e; exact ⟨_, hK, rfl⟩)
        refine ⟨a9, c9, ?_, by simpa using hs9, hin, hbf⟩
        simp
      case hstop =>
        rintro D c pre W _ _ h _
        exact h.elim
end Go.Proofs.YtcelciomhngajaaGreatDoor

