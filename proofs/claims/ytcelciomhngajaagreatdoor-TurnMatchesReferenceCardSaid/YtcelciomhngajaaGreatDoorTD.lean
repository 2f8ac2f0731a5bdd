/- Texts of this seat, laid together: TurnSec, TurnSec2, TurnLoop, TurnClk. -/
import Derived.Test.YtcelciomhngajaaGreatDoorTC
import Derived.RangeFuncNested
import Derived.RangeFuncBound
import Derived.RangeFuncCalls
import Derived.RangeFuncLeaves
import Derived.Shelf.RegionOpen
import Derived.OwnWalkIn
import Derived.TacticsInMore
import Derived.LoopNIn
import Derived.LoopIn
import Derived.Test.YtcelciomhngajaaGreatDoorSJ
import Derived.Test.YtcelciomhngajaaGreatDoorSA
/- Seconds: the reference's takes; places: the reference's Position. -/
namespace Go.Proofs.YtcelciomhngajaaGreatDoor
set_option linter.unusedSimpArgs false
set_option linter.unusedVariables false
open Go.RowKit Go.Sort

theorem scale_any_bd (q : Rt) : -1 ≤ scaleI q ∧ scaleI q ≤ 600 := by
  rcases scale_cases q with ⟨h, _⟩ | ⟨h, _⟩
  · have := scale_bd h; omega
  · unfold scaleI; rw [h]; simp
theorem tTakes_any (a : Option Addr) (cap : Nat) (l : List Te) (bar t : Int) (w : World) (hm : TeAt w a l) (hlen : l.length ≤ 100000) (hr : risingT l = true) (h0 : ∃ h : 0 < l.length, (l[0]'h).bar ≤ bar) (ht0 : -1000000000000 ≤ t) (ht1 : t ≤ 1000000000000) :
    Calls Tryz.prog 75 #[.slice a l.length cap, .int .i64 bar, .int .i64 t] w fun e w' => e = .returned (.int .i64 (t * scaleI (atT l bar))) ∧ Below w.heap.size w w' := by
  have HA := Lib.hid (tAt_any a cap l bar w hm hlen hr h0)
  have HS := Lib.hid (fun V => tScale_any (atT l bar) V)
  have hb := scale_any_bd (atT l bar)
  clear hm hr h0
  obtain ⟨k1, k2⟩ := mul_bd (a := t) (b := scaleI (atT l bar)) (A := 1000000000000) (B := 600) ht0 ht1 (by omega) hb.2
  have hw : IntKind.i64.wrap (t * scaleI (atT l bar)) = t * scaleI (atT l bar) := IntWalk.i64_in _ (by omega)
  generalize scaleI (atT l bar) = S at *
  generalize atT l bar = q at *
  have HB := Lib.hid (Below.refl w.heap.size w)
  go_enter Tryz.func75, Tryz.ntmps75
  go_wp2_with (first | (go_at_call 121; refine HA.out.mono ?_; rintro e w' ⟨rfl, hb⟩; replace HB := Lib.hid hb; clear hb) | (go_at_call 55; refine (HS.out _).mono ?_; rintro e w' ⟨rfl, hb⟩; replace HB := Lib.hid (HB.out.trans (hb.mono HB.out.size)); clear hb))
  go_ret
  exact ⟨rfl, HB.out⟩
theorem tPos_any (a : Option Addr) (cap : Nat) (bars : List Ba) (p : Po) (w : World) (hm : BaAt w a bars) (hlen : bars.length ≤ 100000) :
    Calls Tryz.prog 73 #[.slice a bars.length cap, .agg #[.int .i64 p.bar, .int .i64 p.at_.n, .int .i64 p.at_.d]] w fun e w' => e = .returned (.bool (posB bars p)) ∧ Below w.heap.size w w' := by
  have HM := Lib.hid hm
  clear hm
  have HX := Lib.hid (heap_alloc_new w (.cells #[.int .i64 p.bar, .int .i64 p.at_.n, .int .i64 p.at_.d] 54 (0, 0)))
  have HB := Lib.hid ((Below.refl w.heap.size w).alloc (Nat.le_refl _) (.cells #[.int .i64 p.bar, .int .i64 p.at_.n, .int .i64 p.at_.d] 54 (0, 0)))
  have HT := Lib.hid (fun V => RTicks_any p.at_.n p.at_.d V)
  have HP := Lib.hid (show posB bars p = (decide (0 ≤ p.bar) && decide (p.bar ≤ bars.length) && decide (0 ≤ ticksI ⟨p.at_.n, p.at_.d⟩) && (if p.bar = bars.length then decide (ticksI ⟨p.at_.n, p.at_.d⟩ = 0) else decide (ticksI ⟨p.at_.n, p.at_.d⟩ < ticksI (bars.getD p.bar.toNat default).len))) from rfl)
  generalize ticksI ⟨p.at_.n, p.at_.d⟩ = T at *
  generalize posB bars p = PB at *
  go_enter Tryz.func73, Tryz.ntmps73
  go_upto_region 1 with (fail)
  generalize w.alloc (.cells #[.int .i64 p.bar, .int .i64 p.at_.n, .int .i64 p.at_.d] 54 (0, 0)) = W at *
  have hc := box_cells HX.out
  go_upto_region 2 with (go_at_call 24; refine (HT.out _).mono ?_; rintro e w' ⟨rfl, hb⟩; replace HX := Lib.hid (blk_keep HX.out hb); replace HB := Lib.hid (HB.out.trans (hb.mono HB.out.size)); clear hb hc; have hc := box_cells HX.out)
  by_cases h1 : p.bar < 0
  · have HF := Lib.hid (show PB = false by rw [HP.out, decide_eq_false (show ¬ 0 ≤ p.bar by omega)]; simp)
    go_wp2
    go_ret
    exact ⟨ret_bool HF.out.symm, HB.out⟩
  by_cases h2 : (bars.length : Int) < p.bar
  · have HF := Lib.hid (show PB = false by rw [HP.out, decide_eq_false (show ¬ p.bar ≤ bars.length by omega)]; simp)
    go_wp2
    go_ret
    exact ⟨ret_bool HF.out.symm, HB.out⟩
  by_cases h3 : T < 0
  · have HF := Lib.hid (show PB = false by rw [HP.out, decide_eq_false (show ¬ 0 ≤ T by omega)]; simp)
    go_wp2
    go_ret
    exact ⟨ret_bool HF.out.symm, HB.out⟩
  rw [decide_eq_true (show 0 ≤ p.bar by omega), decide_eq_true (show p.bar ≤ bars.length by omega), decide_eq_true (show 0 ≤ T by omega), Bool.true_and, Bool.true_and, Bool.true_and] at HP
  by_cases h4 : p.bar = bars.length
  · have HF := Lib.hid (show PB = decide (T = 0) by rw [HP.out, if_pos h4])
    have he : (p.bar == (bars.length : Int)) = true := by simpa using h4
    clear h4
    by_cases h5 : T = 0
    · rw [decide_eq_true h5] at HF
      have he2 : (T == 0) = true := by simpa using h5
      clear h5
      go_wp2
      go_ret
      exact ⟨ret_bool HF.out.symm, HB.out⟩
    · rw [decide_eq_false h5] at HF
      have he2 : (T == 0) = false := by simpa using h5
      clear h5
      go_wp2
      go_ret
      exact ⟨ret_bool HF.out.symm, HB.out⟩
  · obtain ⟨k, hk⟩ : ∃ k : Nat, p.bar = (k : Int) := Int.eq_ofNat_of_zero_le (by omega)
    have he : (p.bar == (bars.length : Int)) = false := by simpa using h4
    have hkl : k < bars.length := by omega
    have HF := Lib.hid (show PB = decide (T < ticksI bars[k].len) by
      rw [HP.out, if_neg h4, hk]
      rw [List.getD_eq_getElem?_getD, Int.toNat_natCast, List.getElem?_eq_getElem hkl]
      rfl)
    rw [hk] at he hc
    have HTb := Lib.hid (fun V => RTicks_any bars[k].len.n bars[k].len.d V)
    obtain ⟨b, off, rfl, _, _, d1, d2, _⟩ := (HM.out.below HB.out).get k hkl
    have e5 : ticksI ⟨bars[k].len.n, bars[k].len.d⟩ = ticksI bars[k].len := rfl
    rw [e5] at HTb
    clear e5 h4 h1 h2
    generalize ticksI bars[k].len = T2 at *
    generalize bars[k].len = lenk at *
    go_wp2_with (go_at_call 24; refine (HTb.out _).mono ?_; rintro e w' ⟨rfl, hb⟩; replace HB := Lib.hid (HB.out.trans (hb.mono HB.out.size)); clear hb)
    go_ret
    exact ⟨ret_bool HF.out.symm, HB.out⟩
open Go.RowKit Go.Sort

/-- What is used of right places in a walk. -/
structure SecV (bars : List Ba) (l : List Te) (F U : Nat) (fq uq : Rt) : Prop where
  v : TempV bars l
  rise : risingT l = true
  first : ∃ h : 0 < l.length, (l[0]'h).bar = 0
  few : bars.length ≤ 4000
  some_ : 0 < bars.length
  fu : F ≤ U
  ul : U ≤ bars.length
  tf : 0 ≤ ticksI fq ∧ ticksI fq ≤ 40320
  tu : 0 ≤ ticksI uq ∧ ticksI uq ≤ 40320
  durf : durB fq = true
  duru : durB uq = true
  bd : ∀ k, k ≤ bars.length → 0 ≤ beforeN l bars k ∧ beforeN l bars k ≤ 96768000000
  sc : ∀ k : Int, 1 ≤ scaleI (atT l k) ∧ scaleI (atT l k) ≤ 600
theorem secV_of {bars : List Ba} {l : List Te} {F U : Nat} {fq uq : Rt} (ht : temposB bars l = true) (hp1 : posB bars ⟨F, fq⟩ = true) (hp2 : posB bars ⟨U, uq⟩ = true) (hlt : laterB ⟨F, fq⟩ ⟨U, uq⟩ = false) : SecV bars l F U fq uq := by
  have hv := temposB_v ht
  have pF := (posB_iff _ _).1 hp1; have pU := (posB_iff _ _).1 hp2
  have f1 := pF.b1; have u1 := pU.b1
  simp only at f1 u1
  have hbb := hv.bars
  have hlen : 1 ≤ bars.length ∧ bars.length ≤ 4000 := by
    have := hbb
    simp only [barsB, Bool.and_eq_true, decide_eq_true_eq] at this
    omega
  have hbt : ∀ (k : Nat) (q : Rt), PosV bars ⟨k, q⟩ → 0 ≤ ticksI q ∧ ticksI q ≤ 40320 := by
    intro k q p
    have h0 := p.t0; have h1 := p.b1
    simp only at h0 h1
    refine ⟨h0, ?_⟩
    by_cases e : (k : Int) = bars.length
    · have := p.end_ e; simp only at this; omega
    · have h2 := p.mid e
      simp only [Int.toNat_natCast] at h2
      have := bar_ticks hbb (i := k) (by omega)
      omega
  have hd : ∀ q : Rt, 0 ≤ ticksI q → durB q = true := by
    intro q h
    cases e : durB q
    · have := ticks_neg.2 e; omega
    · rfl
  have h2 := ht
  simp only [temposB, Bool.and_eq_true, decide_eq_true_eq] at h2
  obtain ⟨⟨⟨⟨⟨_, t2⟩, t3⟩, t4⟩, t5⟩, t6⟩ := h2
  refine ⟨hv, t6, ⟨by omega, ?_⟩, hlen.2, by omega, ?_, by omega, hbt F fq pF, hbt U uq pU, hd _ (hbt F fq pF).1, hd _ (hbt U uq pU).1, ?_, fun k => scale_bd (hv.at_ k)⟩
  · rw [List.getD_eq_getElem?_getD, List.getElem?_eq_getElem (show 0 < l.length by omega)] at t4
    simpa using t4
  · have := hlt
    simp only [laterB, Bool.or_eq_false_iff, decide_eq_false_iff_not] at this
    omega
  · intro k hk
    have := before_bd hv k hk
    omega
theorem SecV.in_ {bars : List Ba} {l : List Te} {F U : Nat} {fq uq : Rt} (h : SecV bars l F U fq uq) :
    cumN l bars ⟨F, fq⟩ = beforeN l bars F + (if F < bars.length then ticksI fq * scaleI (atT l F) else 0) ∧ cumN l bars ⟨U, uq⟩ = beforeN l bars U + (if U < bars.length then ticksI uq * scaleI (atT l U) else 0) := by
  constructor <;> simp [cumN, inN]
theorem prod_tick {a b : Int} (h0 : 0 ≤ a) (h1 : a ≤ 40320) (h2 : 1 ≤ b) (h3 : b ≤ 600) : 0 ≤ a * b ∧ a * b ≤ 24192000 := by
  refine ⟨Int.mul_nonneg h0 (by omega), ?_⟩
  have := Int.mul_le_mul h1 h3 (by omega) (show (0 : Int) ≤ 40320 by decide)
  omega
set_option maxRecDepth 100000 in
set_option maxHeartbeats 8000000 in
theorem tSec_good (b off cap : Nat) (bars : List Ba) (ta : Option Addr) (tcap : Nat) (l : List Te) (F U : Nat) (fq uq : Rt) (w : World) (hlb : bars.length ≤ 100000) (hll : l.length ≤ 100000) (hbm : BaAt w (some ⟨b, off, none⟩) bars) (hm : TeAt w ta l)
    (ht : temposB bars l = true) (hp1 : posB bars ⟨F, fq⟩ = true) (hp2 : posB bars ⟨U, uq⟩ = true) (hlt : laterB ⟨F, fq⟩ ⟨U, uq⟩ = false) (RR : Rt × Int) (hRR : redR (cumN l bars ⟨U, uq⟩ - cumN l bars ⟨F, fq⟩) 100800 = RR) :
    Calls Tryz.prog 38 #[.slice (some ⟨b, off, none⟩) bars.length cap, .slice ta l.length tcap, .agg #[.int .i64 F, .int .i64 fq.n, .int .i64 fq.d], .agg #[.int .i64 U, .int .i64 uq.n, .int .i64 uq.d]] w fun e w' => e = .returned (.tuple #[.agg #[.int .i64 RR.1.n, .int .i64 RR.1.d], .int .i64 RR.2]) ∧ Below w.heap.size w w' := by
  have HM := Lib.hid hm; have HBm := Lib.hid hbm
  have hsv := secV_of ht hp1 hp2 hlt
  have HV := Lib.hid hsv
  obtain ⟨hF, hU⟩ := hsv.in_
  have HMk := Lib.hid (fun (n : Int) V (e : n = cumN l bars ⟨U, uq⟩ - cumN l bars ⟨F, fq⟩) (h0 : -1000000000000000 ≤ n) (h1 : n ≤ 1000000000000000) => show Calls Tryz.prog 76 #[.int .i64 n, .int .i64 100800] V fun e w' => e = .returned (.tuple #[.agg #[.int .i64 RR.1.n, .int .i64 RR.1.d], .int .i64 RR.2]) ∧ Below V.heap.size V w' by
    subst e; subst hRR; exact tRMake_any _ 100800 V h0 h1 (by decide) (by decide))
  rw [hF, hU] at HMk
  have HVal := Lib.hid (fun V (hV : Below w.heap.size w V) => tTempos_any (some ⟨b, off, none⟩) cap bars ta tcap l V hlb hll (hbm.below hV) (hm.below hV))
  have HPf := Lib.hid (fun V (hV : Below w.heap.size w V) => tPos_any (some ⟨b, off, none⟩) cap bars ⟨F, fq⟩ V (hbm.below hV) hlb)
  have HPu := Lib.hid (fun V (hV : Below w.heap.size w V) => tPos_any (some ⟨b, off, none⟩) cap bars ⟨U, uq⟩ V (hbm.below hV) hlb)
  have HEa := Lib.hid (fun V => tEarlier_any ⟨U, uq⟩ ⟨F, fq⟩ V)
  rw [ht] at HVal; rw [hp1] at HPf; rw [hp2] at HPu; rw [hlt] at HEa
  have HTk := Lib.hid (fun (k : Nat) (t : Int) (h0 : 0 ≤ t) (h1 : t ≤ 40320) V (hV : Below w.heap.size w V) => tTakes_any ta tcap l k t V (hm.below hV) hll hsv.rise (by obtain ⟨h, e⟩ := hsv.first; exact ⟨h, by omega⟩) (by omega) (by omega))
  have hul := hsv.ul; have hfu := hsv.fu; have hfew := hsv.few
  clear hm hbm ht hp1 hp2 hlt hF hU hRR hsv
  go_enter Tryz.func38, Tryz.ntmps38
  go_upto_region 1 with (fail)
  obtain ⟨y1, y2, y3, hb⟩ := box3 (w := w) (A := .cells #[.int .i64 F, .int .i64 fq.n, .int .i64 fq.d] 54 (0, 0)) (B := .cells #[.int .i64 U, .int .i64 uq.n, .int .i64 uq.d] 54 (0, 0)) (C := .cells #[.int .i64 0, .int .i64 0] 32 (0, 0)) (Below.refl _ _)
  generalize ((w.alloc (.cells #[.int .i64 F, .int .i64 fq.n, .int .i64 fq.d] 54 (0, 0))).alloc (.cells #[.int .i64 U, .int .i64 uq.n, .int .i64 uq.d] 54 (0, 0))).alloc (.cells #[.int .i64 0, .int .i64 0] 32 (0, 0)) = W at *
  replace y2 : W.heap[w.heap.size + 1]? = _ := y2
  replace y3 : W.heap[w.heap.size + 1 + 1]? = _ := y3
  have HX1 := Lib.hid y1; have HX2 := Lib.hid y2; have HX3 := Lib.hid y3; have HB := Lib.hid hb
  have hc1 := box_cells y1; have hc2 := box_cells y2; have hc := box_cells y3; have hf := box_free y3
  clear y1 y2 y3 hb
  go_upto_region 4 with (go_at_call 28; refine (HVal.out _ HB.out).mono ?_; rintro e w' ⟨rfl, hb⟩; replace HX1 := Lib.hid (blk_keep HX1.out hb); replace HX2 := Lib.hid (blk_keep HX2.out hb); replace HX3 := Lib.hid (blk_keep HX3.out hb); replace HB := Lib.hid (HB.out.trans (hb.mono HB.out.size)); clear hb hc1 hc2 hc hf; have hc1 := box_cells HX1.out; have hc2 := box_cells HX2.out; have hc := box_cells HX3.out; have hf := box_free HX3.out)
  go_upto_region 5 with (go_at_call 73; refine (HPf.out _ HB.out).mono ?_; rintro e w' ⟨rfl, hb⟩; replace HX1 := Lib.hid (blk_keep HX1.out hb); replace HX2 := Lib.hid (blk_keep HX2.out hb); replace HX3 := Lib.hid (blk_keep HX3.out hb); replace HB := Lib.hid (HB.out.trans (hb.mono HB.out.size)); clear hb hc1 hc2 hc hf; have hc1 := box_cells HX1.out; have hc2 := box_cells HX2.out; have hc := box_cells HX3.out; have hf := box_free HX3.out)
  go_upto_region 6 with (go_at_call 73; refine (HPu.out _ HB.out).mono ?_; rintro e w' ⟨rfl, hb⟩; replace HX1 := Lib.hid (blk_keep HX1.out hb); replace HX2 := Lib.hid (blk_keep HX2.out hb); replace HX3 := Lib.hid (blk_keep HX3.out hb); replace HB := Lib.hid (HB.out.trans (hb.mono HB.out.size)); clear hb hc1 hc2 hc hf; have hc1 := box_cells HX1.out; have hc2 := box_cells HX2.out; have hc := box_cells HX3.out; have hf := box_free HX3.out)
  go_wp2_with (go_at_call 74; refine (HEa.out _).mono ?_; rintro e w' ⟨rfl, hb⟩; replace HX1 := Lib.hid (blk_keep HX1.out hb); replace HX2 := Lib.hid (blk_keep HX2.out hb); replace HX3 := Lib.hid (blk_keep HX3.out hb); replace HB := Lib.hid (HB.out.trans (hb.mono HB.out.size)); clear hb hc1 hc2 hc hf; have hc1 := box_cells HX1.out; have hc2 := box_cells HX2.out; have hc := box_cells HX3.out; have hf := box_free HX3.out)
  clear HVal HPf HPu HEa hc1 hc2 hc hf
  go_loopw [13, 14] (fun s13 s14 wr => ∃ k : Nat, F ≤ k ∧ k ≤ U ∧ s13 = .int .i64 (beforeN l bars k - beforeN l bars F) ∧ s14 = .int .i64 k ∧ wr.heap[w.heap.size]? = some (.cells #[.int .i64 F, .int .i64 fq.n, .int .i64 fq.d] 54 (0, 0)) ∧ wr.heap[w.heap.size + 1]? = some (.cells #[.int .i64 U, .int .i64 uq.n, .int .i64 uq.d] 54 (0, 0)) ∧ wr.heap[w.heap.size + 1 + 1]? = some (.cells #[.int .i64 0, .int .i64 0] 32 (0, 0)) ∧ Below w.heap.size w wr) (fun _ s14 _ => U - (intOf s14).toNat)
  case atStart => exact ⟨F, Nat.le_refl _, hfu, by rw [Int.sub_self], rfl, HX1.out, HX2.out, HX3.out, HB.out⟩
  case round =>
    clear HX1 HX2 HX3 HB
    obtain ⟨k, hFk, hkU, rfl, rfl, hx1, hx2, hx3, hb⟩ := hrel
    have HX1 := Lib.hid hx1; have HX2 := Lib.hid hx2; have HX3 := Lib.hid hx3; have HB := Lib.hid hb
    have hc1 := box_cells hx1; have hc2 := box_cells hx2; have hc := box_cells hx3; have hf := box_free hx3
    clear hx1 hx2 hx3 hb
    by_cases hlt : k < U
    · have hkl : k < bars.length := by omega
      obtain ⟨b', off', e, _, _, d1, d2, _⟩ := (HBm.out.below HB.out).get k hkl
      cases e
      obtain ⟨T, hT⟩ : ∃ T, T = ticksI bars[k].len := ⟨_, rfl⟩
      have hbt := bar_ticks HV.out.v.bars hkl
      have hgd : bars.getD k default = bars[k] := by simp [List.getD_eq_getElem?_getD, hkl]
      rw [hgd, ← hT] at hbt
      have hN : beforeN l bars (k + 1) = beforeN l bars k + T * scaleI (atT l (k : Int)) := by rw [beforeN, barN, hgd, ← hT]
      have bk := HV.out.bd k (by omega); have bF := HV.out.bd F (by omega); have bs := HV.out.sc k
      have HTi := Lib.hid (fun V => RTicks_any bars[k].len.n bars[k].len.d V)
      rw [show ticksI ⟨bars[k].len.n, bars[k].len.d⟩ = T from hT.symm] at HTi
      have HTa := Lib.hid (HTk.out k T (by omega) (by omega))
      have hpr := prod_tick (by omega) hbt.2 bs.1 bs.2
      have HN := Lib.hid hN
      clear hN hT hgd bs
      generalize T * scaleI (atT l (k : Int)) = N at *
      have hw : IntKind.i64.wrap (beforeN l bars k - beforeN l bars F + N) = beforeN l bars k - beforeN l bars F + N := IntWalk.i64_in _ (by omega)
      generalize bars[k].len = lenk at *
      go_wp2_with (first | (go_at_call 24; refine (HTi.out _).mono ?_; rintro e w' ⟨rfl, hb⟩; replace HX1 := Lib.hid (blk_keep HX1.out hb); replace HX2 := Lib.hid (blk_keep HX2.out hb); replace HX3 := Lib.hid (blk_keep HX3.out hb); replace HB := Lib.hid (HB.out.trans (hb.mono HB.out.size)); clear hb hc1 hc2 hc hf; have hc1 := box_cells HX1.out; have hc2 := box_cells HX2.out; have hc := box_cells HX3.out; have hf := box_free HX3.out) | (go_at_call 75; refine (HTa.out _ HB.out).mono ?_; rintro e w' ⟨rfl, hb⟩; replace HX1 := Lib.hid (blk_keep HX1.out hb); replace HX2 := Lib.hid (blk_keep HX2.out hb); replace HX3 := Lib.hid (blk_keep HX3.out hb); replace HB := Lib.hid (HB.out.trans (hb.mono HB.out.size)); clear hb hc1 hc2 hc hf; have hc1 := box_cells HX1.out; have hc2 := box_cells HX2.out; have hc := box_cells HX3.out; have hf := box_free HX3.out))
      go_roundw
      case rel => exact ⟨k + 1, by omega, by omega, by rw [HN.out]; congr 1; omega, by go_num, HX1.out, HX2.out, HX3.out, HB.out⟩
      case measure => simp [intOf]; omega
    · obtain rfl : k = U := by omega
      have bk := HV.out.bd k (by omega); have bF := HV.out.bd F (by omega)
      have tf := HV.out.tf; have tu := HV.out.tu
      have sf := HV.out.sc F; have su := HV.out.sc k
      have HTiF := Lib.hid (fun V => RTicks_any fq.n fq.d V); have HTiU := Lib.hid (fun V => RTicks_any uq.n uq.d V)
      rw [show ticksI ⟨fq.n, fq.d⟩ = ticksI fq from rfl] at HTiF
      rw [show ticksI ⟨uq.n, uq.d⟩ = ticksI uq from rfl] at HTiU
      have HTaF := Lib.hid (HTk.out F (ticksI fq) tf.1 tf.2); have HTaU := Lib.hid (HTk.out k (ticksI uq) tu.1 tu.2)
      have pF := prod_tick tf.1 tf.2 sf.1 sf.2; have pU := prod_tick tu.1 tu.2 su.1 su.2
      generalize ticksI fq = Tf at *
      generalize ticksI uq = Tu at *
      generalize Tf * scaleI (atT l (F : Int)) = NF at *
      generalize Tu * scaleI (atT l (k : Int)) = NU at *
      have hw1 : IntKind.i64.wrap (beforeN l bars k - beforeN l bars F - NF) = beforeN l bars k - beforeN l bars F - NF := IntWalk.i64_in _ (by omega)
      have hw2 : IntKind.i64.wrap (beforeN l bars k - beforeN l bars F - NF + NU) = beforeN l bars k - beforeN l bars F - NF + NU := IntWalk.i64_in _ (by omega)
      clear tf tu sf su HTk
      by_cases hF2 : F < bars.length
      · have hFi : (F : Int) < (bars.length : Int) := by omega
        rw [if_pos hF2] at HMk
        by_cases hU2 : k < bars.length
        · have hUi : (k : Int) < (bars.length : Int) := by omega
          rw [if_pos hU2] at HMk
          replace HMk := Lib.hid (fun n V (e : n = beforeN l bars k - beforeN l bars F - NF + NU) h0 h1 => HMk.out n V (by omega) h0 h1)
          go_upto_region 14 with (fail)
          have g0 := cell_regrown (hc1 0); have g1 := cell_regrown (hc1 1); have g2 := cell_regrown (hc1 2); refine wp_quietB (by kernel_rfl) (by kernel_rfl) ?_; (repeat (go_big_quiet_step (first | (go_at_call 24; refine Calls.regrown_of (HTiF.out _)) | (go_at_call 75; refine Calls.regrown_of (HTaF.out _ (HB.out.trans ((below_regrown _ _ _).mono HB.out.size))))))); refine wpQuiet_nil ?_; intro w2 hb; clear g0 g1 g2; replace HX1 := Lib.hid (blk_keep HX1.out hb); replace HX2 := Lib.hid (blk_keep HX2.out hb); replace HX3 := Lib.hid (blk_keep HX3.out hb); replace HB := Lib.hid (HB.out.trans (hb.mono HB.out.size)); clear hb hc1 hc2 hc hf; have hc1 := box_cells HX1.out; have hc2 := box_cells HX2.out; have hc := box_cells HX3.out; have hf := box_free HX3.out
          go_upto_region 16 with (fail)
          have g0 := cell_regrown (hc2 0); have g1 := cell_regrown (hc2 1); have g2 := cell_regrown (hc2 2); refine wp_quietB (by kernel_rfl) (by kernel_rfl) ?_; (repeat (go_big_quiet_step (first | (go_at_call 24; refine Calls.regrown_of (HTiU.out _)) | (go_at_call 75; refine Calls.regrown_of (HTaU.out _ (HB.out.trans ((below_regrown _ _ _).mono HB.out.size))))))); refine wpQuiet_nil ?_; intro w2 hb; clear g0 g1 g2; replace HX1 := Lib.hid (blk_keep HX1.out hb); replace HX2 := Lib.hid (blk_keep HX2.out hb); replace HX3 := Lib.hid (blk_keep HX3.out hb); replace HB := Lib.hid (HB.out.trans (hb.mono HB.out.size)); clear hb hc1 hc2 hc hf; have hc1 := box_cells HX1.out; have hc2 := box_cells HX2.out; have hc := box_cells HX3.out; have hf := box_free HX3.out
          go_upto_region 18 with (go_at_call 76; refine (HMk.out _ _ rfl (by omega) (by omega)).mono ?_; rintro e w' ⟨rfl, hb⟩; replace HX1 := Lib.hid (blk_keep HX1.out hb); replace HX2 := Lib.hid (blk_keep HX2.out hb); replace HX3 := Lib.hid (blk_keep HX3.out hb); replace HB := Lib.hid (HB.out.trans (hb.mono HB.out.size)); clear hb hc1 hc2 hc hf; have hc1 := box_cells HX1.out; have hc2 := box_cells HX2.out; have hc := box_cells HX3.out; have hf := box_free HX3.out); have HY := Lib.hid (heap_alloc_new w' (.cells #[.int .i64 RR.1.n, .int .i64 RR.1.d] 32)); replace HX3 := Lib.hid (up_alloc HX3.out (.cells #[.int .i64 RR.1.n, .int .i64 RR.1.d] 32)); replace HB := Lib.hid (HB.out.alloc HB.out.size (.cells #[.int .i64 RR.1.n, .int .i64 RR.1.d] 32)); clear hc1 hc2 hc hf; generalize w'.alloc (.cells #[.int .i64 RR.1.n, .int .i64 RR.1.d] 32) = W3 at *; generalize w'.heap.size = b3 at *; have hc := box_cells HX3.out; have hf := box_free HX3.out; have hc3 := box_cells HY.out; go_wp2; exact bodyPost_ret (v := .tuple #[.agg #[.int .i64 RR.1.n, .int .i64 RR.1.d], .int .i64 RR.2]) (by simp [results, Tryz.results38, go_sem, hc, hf]) rfl ⟨rfl, (HB.out.setCell (by simp <;> omega) _).setCell (by simp <;> omega) _⟩
        · have hUi : ¬ (k : Int) < (bars.length : Int) := by omega
          rw [if_neg hU2] at HMk
          replace HMk := Lib.hid (fun n V (e : n = beforeN l bars k - beforeN l bars F - NF) h0 h1 => HMk.out n V (by omega) h0 h1)
          go_upto_region 14 with (fail)
          have g0 := cell_regrown (hc1 0); have g1 := cell_regrown (hc1 1); have g2 := cell_regrown (hc1 2); refine wp_quietB (by kernel_rfl) (by kernel_rfl) ?_; (repeat (go_big_quiet_step (first | (go_at_call 24; refine Calls.regrown_of (HTiF.out _)) | (go_at_call 75; refine Calls.regrown_of (HTaF.out _ (HB.out.trans ((below_regrown _ _ _).mono HB.out.size))))))); refine wpQuiet_nil ?_; intro w2 hb; clear g0 g1 g2; replace HX1 := Lib.hid (blk_keep HX1.out hb); replace HX2 := Lib.hid (blk_keep HX2.out hb); replace HX3 := Lib.hid (blk_keep HX3.out hb); replace HB := Lib.hid (HB.out.trans (hb.mono HB.out.size)); clear hb hc1 hc2 hc hf; have hc1 := box_cells HX1.out; have hc2 := box_cells HX2.out; have hc := box_cells HX3.out; have hf := box_free HX3.out
          go_upto_region 18 with (go_at_call 76; refine (HMk.out _ _ rfl (by omega) (by omega)).mono ?_; rintro e w' ⟨rfl, hb⟩; replace HX1 := Lib.hid (blk_keep HX1.out hb); replace HX2 := Lib.hid (blk_keep HX2.out hb); replace HX3 := Lib.hid (blk_keep HX3.out hb); replace HB := Lib.hid (HB.out.trans (hb.mono HB.out.size)); clear hb hc1 hc2 hc hf; have hc1 := box_cells HX1.out; have hc2 := box_cells HX2.out; have hc := box_cells HX3.out; have hf := box_free HX3.out); have HY := Lib.hid (heap_alloc_new w' (.cells #[.int .i64 RR.1.n, .int .i64 RR.1.d] 32)); replace HX3 := Lib.hid (up_alloc HX3.out (.cells #[.int .i64 RR.1.n, .int .i64 RR.1.d] 32)); replace HB := Lib.hid (HB.out.alloc HB.out.size (.cells #[.int .i64 RR.1.n, .int .i64 RR.1.d] 32)); clear hc1 hc2 hc hf; generalize w'.alloc (.cells #[.int .i64 RR.1.n, .int .i64 RR.1.d] 32) = W3 at *; generalize w'.heap.size = b3 at *; have hc := box_cells HX3.out; have hf := box_free HX3.out; have hc3 := box_cells HY.out; go_wp2; exact bodyPost_ret (v := .tuple #[.agg #[.int .i64 RR.1.n, .int .i64 RR.1.d], .int .i64 RR.2]) (by simp [results, Tryz.results38, go_sem, hc, hf]) rfl ⟨rfl, (HB.out.setCell (by simp <;> omega) _).setCell (by simp <;> omega) _⟩
      · have hFi : ¬ (F : Int) < (bars.length : Int) := by omega
        have hUi : ¬ (k : Int) < (bars.length : Int) := by omega
        rw [if_neg hF2, if_neg (show ¬ k < bars.length by omega)] at HMk
        replace HMk := Lib.hid (fun n V (e : n = beforeN l bars k - beforeN l bars F) h0 h1 => HMk.out n V (by omega) h0 h1)
        go_upto_region 18 with (go_at_call 76; refine (HMk.out _ _ rfl (by omega) (by omega)).mono ?_; rintro e w' ⟨rfl, hb⟩; replace HX1 := Lib.hid (blk_keep HX1.out hb); replace HX2 := Lib.hid (blk_keep HX2.out hb); replace HX3 := Lib.hid (blk_keep HX3.out hb); replace HB := Lib.hid (HB.out.trans (hb.mono HB.out.size)); clear hb hc1 hc2 hc hf; have hc1 := box_cells HX1.out; have hc2 := box_cells HX2.out; have hc := box_cells HX3.out; have hf := box_free HX3.out); have HY := Lib.hid (heap_alloc_new w' (.cells #[.int .i64 RR.1.n, .int .i64 RR.1.d] 32)); replace HX3 := Lib.hid (up_alloc HX3.out (.cells #[.int .i64 RR.1.n, .int .i64 RR.1.d] 32)); replace HB := Lib.hid (HB.out.alloc HB.out.size (.cells #[.int .i64 RR.1.n, .int .i64 RR.1.d] 32)); clear hc1 hc2 hc hf; generalize w'.alloc (.cells #[.int .i64 RR.1.n, .int .i64 RR.1.d] 32) = W3 at *; generalize w'.heap.size = b3 at *; have hc := box_cells HX3.out; have hf := box_free HX3.out; have hc3 := box_cells HY.out; go_wp2; exact bodyPost_ret (v := .tuple #[.agg #[.int .i64 RR.1.n, .int .i64 RR.1.d], .int .i64 RR.2]) (by simp [results, Tryz.results38, go_sem, hc, hf]) rfl ⟨rfl, (HB.out.setCell (by simp <;> omega) _).setCell (by simp <;> omega) _⟩
set_option maxRecDepth 100000 in
set_option maxHeartbeats 4000000 in
theorem tSec_any (a : Option Addr) (cap : Nat) (bars : List Ba) (ta : Option Addr) (tcap : Nat) (l : List Te) (f u : Po) (w : World) (hlb : bars.length ≤ 100000) (hll : l.length ≤ 100000) (hbm : BaAt w a bars) (hm : TeAt w ta l) :
    Calls Tryz.prog 38 #[.slice a bars.length cap, .slice ta l.length tcap, .agg #[.int .i64 f.bar, .int .i64 f.at_.n, .int .i64 f.at_.d], .agg #[.int .i64 u.bar, .int .i64 u.at_.n, .int .i64 u.at_.d]] w fun e w' => e = .returned (.tuple #[.agg #[.int .i64 (secR bars l f u).1.n, .int .i64 (secR bars l f u).1.d], .int .i64 (secR bars l f u).2]) ∧ Below w.heap.size w w' := by
  have HM := Lib.hid hm; have HBm := Lib.hid hbm
  have HS := Lib.hid (show secR bars l f u = if temposB bars l && posB bars f && posB bars u && !laterB f u then redR (cumN l bars u - cumN l bars f) 100800 else (⟨0, 0⟩, 1) from rfl)
  by_cases hg : (temposB bars l = true ∧ posB bars f = true ∧ posB bars u = true) ∧ laterB f u = false
  · obtain ⟨⟨ht, hp1, hp2⟩, hlt⟩ := hg
    have hSS : secR bars l f u = redR (cumN l bars u - cumN l bars f) 100800 := by rw [HS.out, ht, hp1, hp2, hlt]; rfl
    obtain ⟨fb, fq⟩ := f
    obtain ⟨ub, uq⟩ := u
    obtain ⟨F, rfl⟩ := Int.eq_ofNat_of_zero_le ((posB_iff _ _).1 hp1).b0
    obtain ⟨U, rfl⟩ := Int.eq_ofNat_of_zero_le ((posB_iff _ _).1 hp2).b0
    obtain ⟨b, off, rfl, _⟩ := hbm.get 0 (secV_of ht hp1 hp2 hlt).some_
    exact tSec_good b off cap bars ta tcap l F U fq uq w hlb hll hbm hm ht hp1 hp2 hlt _ hSS.symm
  clear hm hbm
  generalize secR bars l f u = SS at *
  go_enter Tryz.func38, Tryz.ntmps38
  go_upto_region 1 with (fail)
  obtain ⟨y1, y2, y3, hb⟩ := box3 (w := w) (A := .cells #[.int .i64 f.bar, .int .i64 f.at_.n, .int .i64 f.at_.d] 54 (0, 0)) (B := .cells #[.int .i64 u.bar, .int .i64 u.at_.n, .int .i64 u.at_.d] 54 (0, 0)) (C := .cells #[.int .i64 0, .int .i64 0] 32 (0, 0)) (Below.refl _ _)
  generalize ((w.alloc (.cells #[.int .i64 f.bar, .int .i64 f.at_.n, .int .i64 f.at_.d] 54 (0, 0))).alloc (.cells #[.int .i64 u.bar, .int .i64 u.at_.n, .int .i64 u.at_.d] 54 (0, 0))).alloc (.cells #[.int .i64 0, .int .i64 0] 32 (0, 0)) = W at *
  replace y2 : W.heap[w.heap.size + 1]? = _ := y2
  replace y3 : W.heap[w.heap.size + 1 + 1]? = _ := y3
  have HX1 := Lib.hid y1; have HX2 := Lib.hid y2; have HX3 := Lib.hid y3; have HB := Lib.hid hb
  have hc1 := box_cells y1; have hc2 := box_cells y2; have hc := box_cells y3; have hf := box_free y3
  clear y1 y2 y3 hb
  cases ht : temposB bars l
  · have HF := Lib.hid (show SS = (⟨0, 0⟩, 1) by rw [HS.out, ht]; rfl)
    clear hg
    go_wp2_with (go_at_call 28; refine (tTempos_any a cap bars ta tcap l _ hlb hll (HBm.out.below HB.out) (HM.out.below HB.out)).mono ?_; rw [ht]; rintro e w' ⟨rfl, hb⟩; replace HX1 := Lib.hid (blk_keep HX1.out hb); replace HX2 := Lib.hid (blk_keep HX2.out hb); replace HX3 := Lib.hid (blk_keep HX3.out hb); replace HB := Lib.hid (HB.out.trans (hb.mono HB.out.size)); clear hb hc1 hc2 hc hf; have hc1 := box_cells HX1.out; have hc2 := box_cells HX2.out; have hc := box_cells HX3.out; have hf := box_free HX3.out)
    exact bodyPost_ret (v := .tuple #[.agg #[.int .i64 0, .int .i64 0], .int .i64 1]) (by simp [results, Tryz.results38, go_sem, hc, hf]) rfl ⟨by rw [HF.out], (HB.out.setCell (by simp <;> omega) _).setCell (by simp <;> omega) _⟩
  have HG := Lib.hid hg
  clear hg
  go_upto_region 4 with (go_at_call 28; refine (tTempos_any a cap bars ta tcap l _ hlb hll (HBm.out.below HB.out) (HM.out.below HB.out)).mono ?_; rw [ht]; rintro e w' ⟨rfl, hb⟩; replace HX1 := Lib.hid (blk_keep HX1.out hb); replace HX2 := Lib.hid (blk_keep HX2.out hb); replace HX3 := Lib.hid (blk_keep HX3.out hb); replace HB := Lib.hid (HB.out.trans (hb.mono HB.out.size)); clear hb hc1 hc2 hc hf; have hc1 := box_cells HX1.out; have hc2 := box_cells HX2.out; have hc := box_cells HX3.out; have hf := box_free HX3.out)
  go_upto_region 5 with (go_at_call 73; refine (tPos_any a cap bars f _ (HBm.out.below HB.out) hlb).mono ?_; rintro e w' ⟨rfl, hb⟩; replace HX1 := Lib.hid (blk_keep HX1.out hb); replace HX2 := Lib.hid (blk_keep HX2.out hb); replace HX3 := Lib.hid (blk_keep HX3.out hb); replace HB := Lib.hid (HB.out.trans (hb.mono HB.out.size)); clear hb hc1 hc2 hc hf; have hc1 := box_cells HX1.out; have hc2 := box_cells HX2.out; have hc := box_cells HX3.out; have hf := box_free HX3.out)
  go_upto_region 6 with (go_at_call 73; refine (tPos_any a cap bars u _ (HBm.out.below HB.out) hlb).mono ?_; rintro e w' ⟨rfl, hb⟩; replace HX1 := Lib.hid (blk_keep HX1.out hb); replace HX2 := Lib.hid (blk_keep HX2.out hb); replace HX3 := Lib.hid (blk_keep HX3.out hb); replace HB := Lib.hid (HB.out.trans (hb.mono HB.out.size)); clear hb hc1 hc2 hc hf; have hc1 := box_cells HX1.out; have hc2 := box_cells HX2.out; have hc := box_cells HX3.out; have hf := box_free HX3.out)
  have HTe := Lib.hid ht
  cases hp1 : posB bars f
  · have HF := Lib.hid (show SS = (⟨0, 0⟩, 1) by rw [HS.out, hp1]; simp)
    clear ht
    go_wp2
    exact bodyPost_ret (v := .tuple #[.agg #[.int .i64 0, .int .i64 0], .int .i64 1]) (by simp [results, Tryz.results38, go_sem, hc, hf]) rfl ⟨by rw [HF.out], (HB.out.setCell (by simp <;> omega) _).setCell (by simp <;> omega) _⟩
  cases hp2 : posB bars u
  · have HF := Lib.hid (show SS = (⟨0, 0⟩, 1) by rw [HS.out, hp2]; simp)
    clear ht
    go_wp2
    exact bodyPost_ret (v := .tuple #[.agg #[.int .i64 0, .int .i64 0], .int .i64 1]) (by simp [results, Tryz.results38, go_sem, hc, hf]) rfl ⟨by rw [HF.out], (HB.out.setCell (by simp <;> omega) _).setCell (by simp <;> omega) _⟩
  cases hlt : laterB f u
  · exact absurd ⟨⟨HTe.out, hp1, hp2⟩, hlt⟩ HG.out
  · have HF := Lib.hid (show SS = (⟨0, 0⟩, 1) by rw [HS.out, hlt]; simp)
    clear ht
    go_wp2_with (go_at_call 74; refine (tEarlier_any u f _).mono ?_; rw [hlt]; rintro e w' ⟨rfl, hb⟩; replace HX1 := Lib.hid (blk_keep HX1.out hb); replace HX2 := Lib.hid (blk_keep HX2.out hb); replace HX3 := Lib.hid (blk_keep HX3.out hb); replace HB := Lib.hid (HB.out.trans (hb.mono HB.out.size)); clear hb hc1 hc2 hc hf; have hc1 := box_cells HX1.out; have hc2 := box_cells HX2.out; have hc := box_cells HX3.out; have hf := box_free HX3.out)
    exact bodyPost_ret (v := .tuple #[.agg #[.int .i64 0, .int .i64 0], .int .i64 1]) (by simp [results, Tryz.results38, go_sem, hc, hf]) rfl ⟨by rw [HF.out], (HB.out.setCell (by simp <;> omega) _).setCell (by simp <;> omega) _⟩
open Go.RowKit Go.Sort
variable {F : Fence} {n : Nat} {P : Program}

/-- Whatever cells there were lie as they lay, but for those of the blocks S. -/
structure KeptC (S : List Nat) (W W' : World) : Prop where
  size : W.heap.size ≤ W'.heap.size
  cells : ∀ k cs T fr, k ∉ S → W.heap[k]? = some (.cells cs T fr) → W'.heap[k]? = some (.cells cs T fr)
theorem KeptC.refl (S : List Nat) (W : World) : KeptC S W W := ⟨Nat.le_refl _, fun _ _ _ _ _ h => h⟩
theorem KeptC.trans {S : List Nat} {X Y Z : World} (h : KeptC S X Y) (k : KeptC S Y Z) : KeptC S X Z := ⟨Nat.le_trans h.size k.size, fun i cs T fr hi hx => k.cells i cs T fr hi (h.cells i cs T fr hi hx)⟩
theorem KeptC.put {S : List Nat} {W : World} {l : Nat} {o o' : Obj} (h : W.heap[l]? = some o) (hc : o.isCells = false) : KeptC S W (W.putObj l o') := by
  refine ⟨by simp, fun k cs T fr _ hk => ?_⟩
  have hne : k ≠ l := by rintro rfl; rw [hk] at h; cases h; cases hc
  exact (World.putObj_heap_other hne).trans hk
theorem KeptC.below {S : List Nat} {W W' : World} (h : Below W.heap.size W W') : KeptC S W W' := ⟨h.size, fun k cs T fr _ hk => (h.block k (lt_blk hk)).trans hk⟩
theorem KeptC.keepB {S : List Nat} {W W' : World} (h : KeepB W.heap.size S W W') : KeptC S W W' := ⟨h.size, fun k cs T fr hn hk => (h.block k (lt_blk hk) hn).trans hk⟩
theorem KeptC.own {S : List Nat} {W V V' : World} (h : KeptC S W V) (hb : Below W.heap.size V V') : KeptC S W V' := ⟨Nat.le_trans h.size hb.size, fun k cs T fr hn hk => (hb.block k (lt_blk hk)).trans (h.cells k cs T fr hn hk)⟩
theorem cells_of {W : World} {b j : Nat} {v : Value} (h : W.cell? ⟨b, j, none⟩ = some v) : ∃ cs T fr, W.heap[b]? = some (.cells cs T fr) ∧ cs[j]? = some v := by
  unfold World.cell? at h
  cases e : W.heap[b]? with
  | none => simp [e] at h
  | some o =>
    cases o with
    | cells cs T fr => exact ⟨cs, T, fr, rfl, by simpa [e] using h⟩
    | _ => simp [e] at h
theorem SlAt.keptC {W V : World} {S : List Nat} {a : Option Addr} {sz : Nat} {rows : List (List Value)} (h : SlAt W a sz rows) (k : KeptC S W V) (hne : ∀ ad, a = some ad → rows ≠ [] → ad.block ∉ S) : SlAt V a sz rows := fun i r hr => by
  obtain ⟨b, off, e, hlt, hl, hc⟩ := h i r hr
  have hn := hne _ e (fun e' => by subst e'; simp at hr)
  refine ⟨b, off, e, Nat.lt_of_lt_of_le hlt k.size, hl, fun j v hv => ?_⟩
  obtain ⟨cs, T, fr, h1, h2⟩ := cells_of (hc j v hv)
  rw [box_cells (k.cells b cs T fr hn h1)]
  exact h2
theorem below_put {m : Nat} {W : World} {l : Nat} {o : Obj} (h : m ≤ l) : Below m W (W.putObj l o) := ⟨rfl, rfl, rfl, by simp, fun k hk => World.putObj_heap_other (by omega)⟩
theorem keepsFrom_keepB {B : Nat} {S : List Nat} {V V' : World} (h : KeepB V.heap.size S V V') (hS : ∀ s ∈ S, s < B) : KeepsFrom B V V' := ⟨h.size, fun k o hk h0 _ => (h.block k (lt_blk h0) (fun hs => by have := hS _ hs; omega)).trans h0⟩
/-- An iterator's word: J, which speaks of what lay ahead of it, is kept by whatever it does with cells of its own. -/
def SeqLow {α : Type} (F : Fence) (n : Nat) (P : Program) (g : Nat) (lb : Array Value) (encs : α → Array Value) (Kp : World → World → Prop) (S : List α → Prop) (N : Nat) (w : World) : Prop :=
  ∀ (l : Nat) (J Jx : List α → World → Prop) (W : World), Below w.heap.size w W → (∀ pre X Y, J pre X → Below W.heap.size X Y → J pre Y) → (∀ pre X Y, Jx pre X → Below W.heap.size X Y → Jx pre Y) →
    (∀ pre x W1, J pre W1 → pre.length < N → YieldAt F (n - 1) P l (encs x) W1 fun e W' => (e = .returned (.bool true) ∧ J (pre ++ [x]) W' ∧ Kp W1 W') ∨ (e = .returned (.bool false) ∧ Jx (pre ++ [x]) W')) →
    J [] W → CallsIn F n P g (#[.func (.yield l) #[] #[]] ++ lb) W fun e W' => (∃ v, e = .returned v) ∧ ((∃ xs, S xs ∧ J xs W') ∨ (∃ pre, Jx pre W'))
/-- How a round's body may end. -/
def lowPost (B : Nat) (Kp : World → World → Prop) (I Ix : World → Prop) (W : World) : Exit → Act → World → Prop
  | .normal, _, W' => KeepsFrom B W W' ∧ Kp W W' ∧ I W'
  | .ret, _, W' => KeepsFrom B W W' ∧ Ix W'
  | _, _, _ => False
theorem rangeFunc_low {α : Type} {g : Operand} {ps : Array Tmp} {assign body : Code} {Q : Exit → Act → World → Prop} {a : Act} {w : World}
    (hro : F.round = none) (h1 : 1 ≤ n) {gf : Nat} {lb : Array Value} (hg : a.eval g = .func (.func gf) #[] lb) (hFg : F.fn gf) (eg : ∀ args w, (callFunc gf args).run P w = .ok (.enter gf args) w)
    {encs : α → Array Value} (hps : ∀ x, (encs x).size = ps.size) {Kp : World → World → Prop} {S : List α → Prop} {N : Nat} (hseq : SeqLow F (n - 1) P gf lb encs Kp S N w)
    (hKt : ∀ {A B C : World}, Kp A B → Kp B C → Kp A C) (hKb : ∀ (W : World) (l : Nat) (o o' : Obj), w.heap.size ≤ l → W.heap[l]? = some o → o.isCells = false → Kp W (W.putObj l o'))
    (I : List α → World → Prop) (hI : ∀ pre X Y, I pre X → Below w.heap.size X Y → I pre Y) (Ix : List α → World → Prop) (hIx : ∀ pre X Y, Ix pre X → Below w.heap.size X Y → Ix pre Y) (h0 : I [] w)
    (Ax : α → Act → World → Prop) (hAx : ∀ x a', OwnFrom w.heap.size (fun (_ : Unit) W => Ax x a' W))
    (hassign : ∀ (l : Nat) (pre : List α) (x : α) (W : World) (K : Act → World → Prop), I pre W → (∀ a' W', KeepsFrom w.heap.size W W' → Kp W W' → I pre W' → Ax x a' W' → K a' W') →
      assign.wpIn (F.inRound l) (n - 1 - 1) P (Exit.then K (fun _ _ _ => False)) { tmps := (ps.zip (encs x)).foldl (fun t (p, v) => t.setIfInBounds p v) a.tmps, defers := [] } W)
    (hbody : ∀ (l : Nat) (pre : List α) (x : α) (a' : Act) (W : World), w.heap.size ≤ l → I pre W → Ax x a' W → pre.length < N → body.wpIn (F.inRound l) (n - 1 - 1) P (lowPost w.heap.size Kp (I (pre ++ [x])) (Ix (pre ++ [x])) W) a' W)
    (hdone : ∀ (D : Nat) (xs : List α) (W : World), w.heap.size ≤ D → S xs → I xs W → W.heap[D]? = some (.deferred (some [])) → Q .normal { a with defers := { target := .collected D, args := #[] } :: a.defers } W)
    (hstop : ∀ (D : Nat) (pre : List α) (W : World), w.heap.size ≤ D → Ix pre W → W.heap[D]? = some (.deferred (some [])) → Code.ret.wpIn F n P Q { a with defers := { target := .collected D, args := #[] } :: a.defers } W) :
    (Code.rangeFunc g ps assign body).wpIn F n P Q a w := by
  refine wpIn_rangeFunc fun fn hfn => ?_
  rw [hro]
  obtain ⟨R, hR⟩ : ∃ R : LoopState → Option Code → Loop, R = fun st p => { state := st, pending := p, fn, tmps := a.tmps, params := ps, assign, body, defers := w.heap.size } := ⟨_, rfl⟩
  obtain ⟨W1, hW1⟩ : ∃ W1, (w.alloc (.deferred (some []))).alloc (.loop (R .ready none)) = W1 := ⟨_, rfl⟩
  have s1 : W1.heap.size = w.heap.size + 2 := by rw [← hW1]; simp
  have bw : Below w.heap.size w W1 := by rw [← hW1]; exact ((Below.refl _ w).alloc (Nat.le_refl _) _).alloc (by simp) _
  have kL : W1.heap[w.heap.size + 1]? = some (.loop (R .ready none)) := by
    rw [← hW1]; have := World.alloc_heap_new (w.alloc (.deferred (some []))) (.loop (R .ready none)); rwa [World.size_alloc] at this
  have kD : W1.heap[w.heap.size]? = some (.deferred (some [])) := by rw [← hW1]; exact up_alloc (heap_alloc_new w _) _
  have i1 : I [] W1 := hI _ _ _ h0 bw
  refine ⟨w.heap.size + 1, [{ target := .collected w.heap.size, args := #[] }], W1, { target := .fn (.func gf) lb, args := #[.func (.yield (w.heap.size + 1)) #[] #[]] }, W1, gf, #[.func (.yield (w.heap.size + 1)) #[] #[]] ++ lb, W1, ?_, ?_, ?_, ?_, fun _ => h1, ?_⟩
  · rw [← hW1, hR]; exact run_enterLoop_outer _ _ _ _ _
  · simp only [resolve, hg]; simp [go_sem]
  · intro f' hf'; simp [Target.leads] at hf'; subst hf'; exact hFg
  · simp [invoke, go_sem, eg]
  have low : ∀ {X Y : World} {k : Nat} {o : Obj}, k < W1.heap.size → Below W1.heap.size X Y → X.heap[k]? = some o → Y.heap[k]? = some o := fun hk hb hx => (hb.block _ hk).trans hx
  refine (hseq (w.heap.size + 1) (fun pre W => I pre W ∧ W.heap[w.heap.size + 1]? = some (.loop (R .ready none)) ∧ W.heap[w.heap.size]? = some (.deferred (some [])))
    (fun pre W => Ix pre W ∧ W.heap[w.heap.size + 1]? = some (.loop (R .done (some .ret))) ∧ W.heap[w.heap.size]? = some (.deferred (some []))) W1 bw ?_ ?_ ?_ ⟨i1, kL, kD⟩).mono ?_
  · rintro pre X Y ⟨x1, x2, x3⟩ hk
    exact ⟨hI _ _ _ x1 (hk.mono (by omega)), low (by omega) hk x2, low (by omega) hk x3⟩
  · rintro pre X Y ⟨x1, x2, x3⟩ hk
    exact ⟨hIx _ _ _ x1 (hk.mono (by omega)), low (by omega) hk x2, low (by omega) hk x3⟩
  · rintro pre x W ⟨x1, x2, x3⟩ hlen
    have hy := run_yield (P := P) (args := encs x) x2 (by rw [hR]; exact hps x)
    rw [hR] at hy
    refine ⟨fn, _, assign, body, hy, roundIn_of_wpIn hfn (hassign _ pre x W _ x1 fun a' V hf hp hi hax => ?_)⟩
    have v2 := hf.same _ _ (by omega) x2 rfl
    have v3 := hf.same _ _ (Nat.le_refl _) x3 rfl
    have hlt := lt_blk v2
    refine ⟨_, run_beginRound v2 (by rw [hR]), ?_⟩
    have u2 : (V.putObj (w.heap.size + 1) (.loop { R .ready none with state := .busy })).heap[w.heap.size + 1]? = some (.loop { R .ready none with state := .busy }) := World.putObj_heap_same hlt
    have u3 : (V.putObj (w.heap.size + 1) (.loop { R .ready none with state := .busy })).heap[w.heap.size]? = some (.deferred (some [])) := (World.putObj_heap_other (by omega)).trans v3
    have p2 : Kp V (V.putObj (w.heap.size + 1) (.loop { R .ready none with state := .busy })) := hKb _ _ _ _ (by omega) v2 rfl
    refine wpIn_mono (hbody _ pre x a' _ (by omega) (hI _ _ _ hi (below_put (by omega))) ((hAx x a').putObj (s := ()) _ hax (by omega) v2 rfl) hlen) ?_
    rintro e a3 V3 hpo
    match e, hpo with
    | .normal, ⟨hf3, hp3, hi3⟩ =>
      have t2 := hf3.same _ _ (by omega) u2 rfl
      have t3 := hf3.same _ _ (Nat.le_refl _) u3 rfl
      have hend := run_endRound (P := P) none t2
      rw [hR] at hend
      refine ⟨_, _, hend, .inl ⟨rfl, ⟨hI _ _ _ hi3 (below_put (by omega)), ?_, (World.putObj_heap_other (by omega)).trans t3⟩, hKt hp (hKt (hKt p2 hp3) (hKb _ _ _ _ (by omega) t2 rfl))⟩⟩
      rw [hR]; exact World.putObj_heap_same (lt_blk t2)
    | .ret, ⟨hf3, hi3⟩ =>
      have t2 := hf3.same _ _ (by omega) u2 rfl
      have t3 := hf3.same _ _ (Nat.le_refl _) u3 rfl
      have hend := run_endRound (P := P) (some .ret) t2
      rw [hR] at hend
      refine ⟨_, _, hend, .inr ⟨rfl, hIx _ _ _ hi3 (below_put (by omega)), ?_, (World.putObj_heap_other (by omega)).trans t3⟩⟩
      rw [hR]; exact World.putObj_heap_same (lt_blk t2)
  · rintro e W2 ⟨⟨v, rfl⟩, ⟨xs, hS, x1, x2, x3⟩ | ⟨pre, x1, x2, x3⟩⟩
    · exact ⟨none, _, by have := run_endLoop (P := P) x2 (by rw [hR]; simp); rw [hR] at this; exact this, hdone _ xs _ (Nat.le_refl _) hS (hI _ _ _ x1 (below_put (by omega))) ((World.putObj_heap_other (by omega)).trans x3)⟩
    · exact ⟨some .ret, _, by have := run_endLoop (P := P) x2 (by rw [hR]; simp); rw [hR] at this; exact this, hstop _ pre _ (Nat.le_refl _) (hIx _ _ _ x1 (below_put (by omega))) ((World.putObj_heap_other (by omega)).trans x3)⟩
end Go.Proofs.YtcelciomhngajaaGreatDoor
/- The program's clock: add, take, seconds. -/
namespace Go.Proofs.YtcelciomhngajaaGreatDoor
set_option linter.unusedSimpArgs false
set_option linter.unusedVariables false
open Go.RowKit Go.Sort

set_option maxHeartbeats 1000000 in
theorem cadd_any (cb : Nat) (n t : Int) (q : Rt) (sl : Value) (w : World) (x : w.heap[cb]? = some (.cells #[.int .i64 (n), sl] 102 (0, 0))) (hq : tempoB q = true) (ht0 : -40320 ≤ t) (ht1 : t ≤ 40320) (hn0 : -100000000000000 ≤ n) (hn1 : n ≤ 100000000000000) :
    Calls Tryz.prog 87 #[.pointer (some ⟨cb, 0, none⟩), .int .i64 t, .agg #[.int .i64 q.n, .int .i64 q.d]] w fun e w' => (∃ v, e = .returned v) ∧ KeepB w.heap.size [cb] w w' ∧ w'.heap[cb]? = some (.cells #[.int .i64 (n + t * scaleI q), sl] 102 (0, 0)) := by
  have v := (tempoB_iff q).1 hq
  obtain ⟨d1, d2⟩ := v.d1
  have n0 := v.n0; have n1 := v.n1
  have hd0 : ¬ q.d = 0 := by omega
  have htd : (60 : Int).tdiv q.d = 60 / q.d := Int.tdiv_eq_ediv_of_nonneg (by decide)
  have hq0 : 0 ≤ 60 / q.d := Int.ediv_nonneg (by decide) (by omega)
  have hq1 : 60 / q.d ≤ 60 := Int.ediv_le_self _ (by decide)
  have hS : scaleI q = q.n * (60 / q.d) := by rw [scaleI, if_pos hq]
  have hsb := scale_bd hq
  obtain ⟨k1, k2⟩ := mul_bd (a := t) (b := q.n) (A := 40320) (B := 600) ht0 ht1 (by omega) (by omega)
  obtain ⟨k3, k4⟩ := mul_bd (a := t) (b := scaleI q) (A := 40320) (B := 600) ht0 ht1 (by omega) hsb.2
  have hw1 : IntKind.i64.wrap (t * q.n) = t * q.n := IntWalk.i64_in _ (by omega)
  have hwq : IntKind.i64.wrap (60 / q.d) = 60 / q.d := IntWalk.i64_in _ (by omega)
  have hw3 : IntKind.i64.wrap (t * q.n * (60 / q.d)) = t * scaleI q := by rw [hS, Int.mul_assoc, ← hS]; exact IntWalk.i64_in _ (by omega)
  have hw4 : IntKind.i64.wrap (n + t * scaleI q) = n + t * scaleI q := IntWalk.i64_in _ (by omega)
  clear hS hsb v n0 n1
  generalize scaleI q = S at *
  have hlt := lt_blk x
  have HX := Lib.hid (heap_alloc_new w (.cells #[.int .i64 q.n, .int .i64 q.d] 32 (0, 0)))
  have HC := Lib.hid (up_alloc x (.cells #[.int .i64 q.n, .int .i64 q.d] 32 (0, 0)))
  have HB := Lib.hid ((Below.refl w.heap.size w).alloc (Nat.le_refl _) (.cells #[.int .i64 q.n, .int .i64 q.d] 32 (0, 0)))
  go_enter Tryz.func87, Tryz.ntmps87
  go_upto_region 1 with (fail)
  generalize w.alloc (.cells #[.int .i64 q.n, .int .i64 q.d] 32 (0, 0)) = W at *
  have hc := box_cells HX.out; have hc2 := box_cells HC.out; have hf2 := box_free HC.out
  go_region
  go_wp2
  go_end0
  exact ⟨⟨_, rfl⟩, (KeepB.set (KeepB.of_below' HB.out) (.inl (by simp)) _).trans (KeepB.of_below ((Below.refl _ _).drew) (by simp; exact HB.out.size)), heap_setCell_same _ _ _ _ _ _ HC.out⟩
set_option maxHeartbeats 2000000 in
theorem ctake_any (cb : Nat) (n : Int) (ta : Option Addr) (tcap : Nat) (l : List Te) (bar : Int) (d : Rt) (sg : Int) (w : World) (x : w.heap[cb]? = some (.cells #[.int .i64 (n), .slice ta l.length tcap] 102 (0, 0))) (hm : TeAt w ta l) (hll : l.length ≤ 100000) (hr : risingT l = true) (h0 : ∃ h : 0 < l.length, (l[0]'h).bar ≤ bar)
    (hd : durB d = true) (hdt : ticksI d ≤ 40320) (hs : -1 ≤ sg ∧ sg ≤ 1) (hq : tempoB (atT l bar) = true) (hn0 : -100000000000000 ≤ n) (hn1 : n ≤ 100000000000000) :
    Calls Tryz.prog 49 #[.pointer (some ⟨cb, 0, none⟩), .int .i64 bar, .agg #[.int .i64 d.n, .int .i64 d.d], .int .i64 sg] w fun e w' => (∃ v, e = .returned v) ∧ KeepB w.heap.size [cb] w w' ∧ w'.heap[cb]? = some (.cells #[.int .i64 (n + sg * ticksI d * scaleI (atT l bar)), .slice ta l.length tcap] 102 (0, 0)) := by
  have hAt := fun V (hV : Below w.heap.size w V) => tempoAt_any ta tcap l bar V (hm.below hV) hll hr h0
  have HAt := Lib.hid hAt
  have t0 := (ticks_nonneg hd).1
  have hT : ticksI d = d.n * (1680 / d.d) := by rw [ticksI, if_pos hd]
  obtain ⟨⟨e1, e2, e3⟩, e4, _⟩ := (durB_iff d).1 hd
  have dd := (rtOk_iff d).1 (dur_rt hd)
  have hd0 : ¬ d.d = 0 := by omega
  have htd : (1680 : Int).tdiv d.d = 1680 / d.d := Int.tdiv_eq_ediv_of_nonneg (by decide)
  have hq0 : 0 ≤ 1680 / d.d := Int.ediv_nonneg (by decide) (by omega)
  have hq1 : 1680 / d.d ≤ 1680 := Int.ediv_le_self _ (by decide)
  have hwq : IntKind.i64.wrap (1680 / d.d) = 1680 / d.d := IntWalk.i64_in _ (by omega)
  obtain ⟨k1, k2⟩ := mul_bd (a := sg) (b := d.n) (A := 1) (B := 1000000000) (by omega) hs.2 (by omega) (by omega)
  obtain ⟨k3, k4⟩ := mul_bd (a := sg) (b := ticksI d) (A := 1) (B := 40320) (by omega) hs.2 (by omega) hdt
  have hw1 : IntKind.i64.wrap (sg * d.n) = sg * d.n := IntWalk.i64_in _ (by omega)
  have hw3 : IntKind.i64.wrap (sg * d.n * (1680 / d.d)) = sg * ticksI d := by rw [hT, Int.mul_assoc, ← hT]; exact IntWalk.i64_in _ (by omega)
  have HAdd := Lib.hid (fun V (xV : V.heap[cb]? = some (.cells #[.int .i64 (n), .slice ta l.length tcap] 102 (0, 0))) => cadd_any cb n (sg * ticksI d) (atT l bar) _ V xV hq (by omega) (by omega) hn0 hn1)
  clear hT t0 e1 e2 e3 e4 dd hAt hm hr h0 hq k1 k2 k3 k4
  generalize atT l bar = q at *
  generalize sg * ticksI d = T at *
  have hlt := lt_blk x
  have HX := Lib.hid (heap_alloc_new w (.cells #[.int .i64 d.n, .int .i64 d.d] 32 (0, 0)))
  have HC := Lib.hid (up_alloc x (.cells #[.int .i64 d.n, .int .i64 d.d] 32 (0, 0)))
  have HB := Lib.hid ((Below.refl w.heap.size w).alloc (Nat.le_refl _) (.cells #[.int .i64 d.n, .int .i64 d.d] 32 (0, 0)))
  go_enter Tryz.func49, Tryz.ntmps49
  go_upto_region 1 with (fail)
  generalize w.alloc (.cells #[.int .i64 d.n, .int .i64 d.d] 32 (0, 0)) = W at *
  have g0 := cell_regrown (box_cells HX.out 0); have g1 := cell_regrown (box_cells HX.out 1)
  have k0 := cell_regrown (box_cells HC.out 0); have k1 := cell_regrown (box_cells HC.out 1)
  refine wp_tailB 17 (by kernel_rfl) (by kernel_rfl) ?_
  simp only [List.take_succ_cons, List.take_zero, List.drop_succ_cons, List.drop_zero]
  (repeat (go_big_quiet_step (first | (go_at_call 88; refine Calls.regrown_of (HAt.out _ (HB.out.trans ((below_regrown _ _ _).mono HB.out.size)))))))
  refine wpQuiet_nil ?_
  intro w6 hb6
  replace HC := Lib.hid (blk_keep HC.out hb6)
  replace HB := Lib.hid (HB.out.trans (hb6.mono HB.out.size))
  clear hb6 g0 g1 k0 k1
  go_wp2_with (fail)
  refine (HAdd.out _ HC.out).mono ?_
  rintro e w7 ⟨⟨v, rfl⟩, hk, hx⟩
  go_wp2
  go_end0
  exact ⟨⟨_, rfl⟩, (KeepB.of_below' HB.out).trans (hk.weaken HB.out.size (fun _ h _ => h)), hx⟩
set_option maxHeartbeats 1000000 in
theorem cseconds_any (cb : Nat) (n : Int) (sl : Value) (w : World) (x : w.heap[cb]? = some (.cells #[.int .i64 (n), sl] 102 (0, 0))) (hn0 : -1000000000000000 ≤ n) (hn1 : n ≤ 1000000000000000) :
    Calls Tryz.prog 50 #[.pointer (some ⟨cb, 0, none⟩)] w fun e w' => e = .returned (.tuple #[.agg #[.int .i64 (redR n 100800).1.n, .int .i64 (redR n 100800).1.d], .int .i64 (redR n 100800).2]) ∧ Below w.heap.size w w' := by
  have HMk := Lib.hid (fun V => Make_any n 100800 V hn0 hn1 (by decide) (by decide))
  generalize redR n 100800 = RR at *
  have HX := Lib.hid (heap_alloc_new w (.cells #[.int .i64 0, .int .i64 0] 32 (0, 0)))
  have HC := Lib.hid (up_alloc x (.cells #[.int .i64 0, .int .i64 0] 32 (0, 0)))
  have HB := Lib.hid ((Below.refl w.heap.size w).alloc (Nat.le_refl _) (.cells #[.int .i64 0, .int .i64 0] 32 (0, 0)))
  go_enter Tryz.func50, Tryz.ntmps50
  go_upto_region 1 with (fail)
  generalize w.alloc (.cells #[.int .i64 0, .int .i64 0] 32 (0, 0)) = W at *
  have hc2 := box_cells HC.out
  have hc := box_cells HX.out; have hf := box_free HX.out
  go_wp2_with (go_at_call 89; refine (HMk.out _).mono ?_; rintro e w' ⟨rfl, hb⟩; replace HX := Lib.hid (blk_keep HX.out hb); replace HB := Lib.hid (HB.out.trans (hb.mono HB.out.size)); clear hb hc hf hc2; have hc := box_cells HX.out; have hf := box_free HX.out)
  exact bodyPost_ret (v := .tuple #[.agg #[.int .i64 RR.1.n, .int .i64 RR.1.d], .int .i64 RR.2]) (by simp [results, Tryz.results50, go_sem, hc, hf]) rfl ⟨rfl, (HB.out.setCell (Nat.le_refl _) _).setCell (Nat.le_refl _) _⟩
end Go.Proofs.YtcelciomhngajaaGreatDoor

