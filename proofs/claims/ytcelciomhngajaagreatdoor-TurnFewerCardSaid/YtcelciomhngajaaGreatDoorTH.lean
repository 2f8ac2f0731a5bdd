/- Texts of this seat, laid together: TurnRgt, TurnFree, TurnFre2. -/
import Derived.Test.YtcelciomhngajaaGreatDoorTG
import Derived.Test.YtcelciomhngajaaGreatDoorTE
import Derived.Test.YtcelciomhngajaaGreatDoorSM
/- What is right; the program's timer; Free's answer. -/
namespace Go.Proofs.YtcelciomhngajaaGreatDoor
set_option linter.unusedSimpArgs false
set_option linter.unusedVariables false
open Go.RowKit Go.Sort

/-- A score, tempos and a view in memory. -/
structure TurnW (w : World) (s : Sc) (q : Sp) (ta : Option Addr) (l : List Te) (a : Option Addr) (ms : List Me) : Prop where
  few : ScFew s
  sc : ScAt w s q
  env : Env w
  ml : ms.length ≤ 1000
  nl : ∀ m ∈ ms, m.notes.length ≤ 1000
  me : MeAt w a ms
  te : TeAt w ta l
  tl : l.length ≤ 1000
theorem TurnW.below {w w' : World} {s : Sc} {q : Sp} {ta : Option Addr} {l : List Te} {a : Option Addr} {ms : List Me} (h : TurnW w s q ta l a ms) (hb : Below w.heap.size w w') : TurnW w' s q ta l a ms :=
  ⟨h.few, h.sc.below hb, h.env.below hb, h.ml, h.nl, h.me.below hb, h.te.below hb, h.tl⟩
def okT (s : Sc) (part : Int) (ms : List MeP) (l : List Te) : Bool := validV s part ms && temposB s.bars l
structure OkV (s : Sc) (part : Int) (ms : List Me) (l : List Te) : Prop where
  tem : temposB s.bars l = true
  vw : VwOk s.bars (ms.map Me.says)
  len : ms.length = s.bars.length
  pos : 0 < ms.length
  msv : MsV ms
theorem okT_v {s : Sc} {part : Int} {ms : List Me} {l : List Te} (h : okT s part (ms.map Me.says) l = true) (hl : ms.length ≤ 1000) (hn : ∀ m ∈ ms, m.notes.length ≤ 1000) : OkV s part ms l := by
  unfold okT at h
  rw [Bool.and_eq_true] at h
  obtain ⟨h1, h2⟩ := h
  have hv := vwok_valid h1
  have hb := (temposB_v h2).bars
  have hf := bars_few hb
  have hlen : ms.length = s.bars.length := by have := hv.len; rwa [List.length_map] at this
  refine ⟨h2, hv, hlen, by omega, ⟨by omega, fun i hi => ?_, fun i hi x hx => ?_, fun i hi => Nat.le_trans (hn _ (List.getElem_mem hi)) (by decide)⟩⟩
  · have e := hv.meas i (by omega)
    rw [says_getD ms hi] at e
    have hbt := bar_ticks hb (i := i) (by omega)
    rw [← e] at hbt
    have hle : (ms[i].says).len = ms[i].len := rfl
    rw [hle] at hbt
    refine ⟨?_, by omega⟩
    cases q : durB ms[i].len
    · have := ticks_neg.2 q; omega
    · rfl
  · have h3 := hv.note i (by omega) x (by rw [says_getD ms hi]; exact hx)
    have hbt := bar_ticks hb (i := i) (by omega)
    exact ⟨h3.1, h3.2.1, by omega⟩
/-- What the timer is: a function that holds a score and tempos; or none. -/
def TimerPost (s : Sc) (q : Sp) (ta : Option Addr) (tcap : Nat) (l : List Te) (ok : Bool) (w : World) (e : Ending) (w' : World) : Prop :=
  Below w.heap.size w w' ∧ (ok = false → e = .returned (.tuple #[.nilFunc, .bool false])) ∧ (ok = true → ∃ b1 b2, w.heap.size ≤ b1 ∧ w.heap.size ≤ b2 ∧ b1 < w'.heap.size ∧ b2 < w'.heap.size ∧ e = .returned (.tuple #[.func (.func 68) #[] #[.pointer (some ⟨b1, 0, none⟩), .pointer (some ⟨b2, 0, none⟩)], .bool true]) ∧ w'.heap[b1]? = some (.cells #[.int .i64 s.version, .slice q.ab s.bars.length q.cb, .slice q.ap s.parts.length q.cp, .slice q.an s.notes.length q.cn] 26) ∧ w'.heap[b2]? = some (.cells #[.slice ta l.length tcap] 27 (0, 0)))
set_option maxHeartbeats 2000000 in
theorem timer_any (s : Sc) (q : Sp) (part : Int) (a : Option Addr) (cap : Nat) (ms : List Me) (ta : Option Addr) (tcap : Nat) (l : List Te) (w : World) (h : TurnW w s q ta l a ms) :
    Calls Tryz.prog 34 #[.agg #[.int .i64 s.version, .slice q.ab s.bars.length q.cb, .slice q.ap s.parts.length q.cp, .slice q.an s.notes.length q.cn], .slice ta l.length tcap, .agg #[.int .i64 part, .slice a ms.length cap]] w (TimerPost s q ta tcap l (okT s part (ms.map Me.says) l) w) := by
  have H := Lib.hid h
  have HVa := Lib.hid (fun V (hV : Below w.heap.size w V) => VValid_any s q part a cap ms V h.few (h.sc.below hV) (h.env.below hV) h.ml h.nl (h.me.below hV))
  have HTe := Lib.hid (fun V (hV : Below w.heap.size w V) => tempoValid_any q.ab q.cb s.bars ta tcap l V (Nat.le_trans h.few.bars (by decide)) (Nat.le_trans h.tl (by decide)) (h.sc.bars.below hV) (h.te.below hV))
  have HO := Lib.hid (show okT s part (ms.map Me.says) l = (validV s part (ms.map Me.says) && temposB s.bars l) from rfl)
  generalize okT s part (ms.map Me.says) l = OK at *
  generalize validV s part (ms.map Me.says) = V1 at *
  generalize temposB s.bars l = T1 at *
  obtain ⟨x1, x2, x3, hb⟩ := box3 (w := w) (A := .cells #[.int .i64 s.version, .slice q.ab s.bars.length q.cb, .slice q.ap s.parts.length q.cp, .slice q.an s.notes.length q.cn] 26) (B := .cells #[.slice ta l.length tcap] 27 (0, 0)) (C := .cells #[.int .i64 part, .slice a ms.length cap] 30 (0, 0)) (Below.refl _ _)
  have HX1 := Lib.hid x1; have HX2 := Lib.hid x2; have HX3 := Lib.hid x3; have HB := Lib.hid hb
  clear x1 x2 x3 hb h
  obtain ⟨ab, cb, ap, cp, an, cn⟩ := q
  try dsimp only at *
  go_enter Tryz.func34, Tryz.ntmps34
  go_upto_region 1 with (fail)
  generalize ((w.alloc (.cells #[.int .i64 s.version, .slice (⟨ab, cb, ap, cp, an, cn⟩ : Sp).ab s.bars.length (⟨ab, cb, ap, cp, an, cn⟩ : Sp).cb, .slice (⟨ab, cb, ap, cp, an, cn⟩ : Sp).ap s.parts.length (⟨ab, cb, ap, cp, an, cn⟩ : Sp).cp, .slice (⟨ab, cb, ap, cp, an, cn⟩ : Sp).an s.notes.length (⟨ab, cb, ap, cp, an, cn⟩ : Sp).cn] 26)).alloc (.cells #[.slice ta l.length tcap] 27 (0, 0))).alloc (.cells #[.int .i64 part, .slice a ms.length cap] 30 (0, 0)) = W at *
  have hc1 := box_cells HX1.out; have hc2 := box_cells HX2.out; have hc3 := box_cells HX3.out
  try dsimp only at hc1
  cases V1 <;> cases T1
  all_goals
    go_wp2_with (first | (go_at_call 67; refine (HVa.out _ HB.out).mono ?_; rintro e w' ⟨rfl, hb⟩; replace HX1 := Lib.hid (blk_keep HX1.out hb); replace HX2 := Lib.hid (blk_keep HX2.out hb); replace HB := Lib.hid (HB.out.trans (hb.mono HB.out.size)); clear hb hc1 hc2 hc3; have hc1 := box_cells HX1.out; have hc2 := box_cells HX2.out; (try dsimp only at hc1)) | (go_at_call 46; refine (HTe.out _ HB.out).mono ?_; rintro e w' ⟨rfl, hb⟩; replace HX1 := Lib.hid (blk_keep HX1.out hb); replace HX2 := Lib.hid (blk_keep HX2.out hb); replace HB := Lib.hid (HB.out.trans (hb.mono HB.out.size)); clear hb hc1 hc2; have hc1 := box_cells HX1.out; have hc2 := box_cells HX2.out; (try dsimp only at hc1)))
    go_ret2
    refine ⟨HB.out, fun ho => ?_, fun ho => ?_⟩
    · first | rfl | (rw [HO.out] at ho; cases ho)
    · first | (rw [HO.out] at ho; cases ho; done) | exact ⟨w.heap.size, w.heap.size + 1, Nat.le_refl _, by omega, lt_blk HX1.out, lt_blk HX2.out, rfl, HX1.out, HX2.out⟩
set_option maxHeartbeats 1000000 in
theorem timer1_any (s : Sc) (q : Sp) (ta : Option Addr) (tcap : Nat) (l : List Te) (b1 b2 : Nat) (f u : Po) (w : World) (x1 : w.heap[b1]? = some (.cells #[.int .i64 s.version, .slice q.ab s.bars.length q.cb, .slice q.ap s.parts.length q.cp, .slice q.an s.notes.length q.cn] 26)) (x2 : w.heap[b2]? = some (.cells #[.slice ta l.length tcap] 27 (0, 0))) (hl : s.bars.length ≤ 1000) (hll : l.length ≤ 1000) (hbm : BaAt w q.ab s.bars) (hm : TeAt w ta l) :
    Calls Tryz.prog 68 #[.agg #[.int .i64 (f).bar, .int .i64 (f).at_.n, .int .i64 (f).at_.d], .agg #[.int .i64 (u).bar, .int .i64 (u).at_.n, .int .i64 (u).at_.d], .pointer (some ⟨b1, 0, none⟩), .pointer (some ⟨b2, 0, none⟩)] w fun e w' => e = .returned (.tuple #[.agg #[.int .i64 (secR s.bars l f u).1.n, .int .i64 (secR s.bars l f u).1.d], .bool ((secR s.bars l f u).2 == 0)]) ∧ Below w.heap.size w w' := by
  have HSe := Lib.hid (fun V (hV : Below w.heap.size w V) => pSec_any q.ab q.cb s.bars ta tcap l f u V (by omega) (by omega) (hbm.below hV) (hm.below hV))
  generalize secR s.bars l f u = R at *
  have hl1 := lt_blk x1; have hl2 := lt_blk x2
  obtain ⟨y1, y2, y3, hb⟩ := box3 (w := w) (A := .cells #[.int .i64 (f).bar, .int .i64 (f).at_.n, .int .i64 (f).at_.d] 54 (0, 0)) (B := .cells #[.int .i64 (u).bar, .int .i64 (u).at_.n, .int .i64 (u).at_.d] 54 (0, 0)) (C := .cells #[.int .i64 0, .int .i64 0] 32 (0, 0)) (Below.refl _ _)
  have HX1 := Lib.hid (blk_keep x1 ((((Below.refl w.heap.size w).alloc (Nat.le_refl _) (.cells #[.int .i64 (f).bar, .int .i64 (f).at_.n, .int .i64 (f).at_.d] 54 (0, 0))).alloc (by simp) (.cells #[.int .i64 (u).bar, .int .i64 (u).at_.n, .int .i64 (u).at_.d] 54 (0, 0))).alloc (by simp; omega) (.cells #[.int .i64 0, .int .i64 0] 32 (0, 0))))
  have HX2 := Lib.hid (blk_keep x2 ((((Below.refl w.heap.size w).alloc (Nat.le_refl _) (.cells #[.int .i64 (f).bar, .int .i64 (f).at_.n, .int .i64 (f).at_.d] 54 (0, 0))).alloc (by simp) (.cells #[.int .i64 (u).bar, .int .i64 (u).at_.n, .int .i64 (u).at_.d] 54 (0, 0))).alloc (by simp; omega) (.cells #[.int .i64 0, .int .i64 0] 32 (0, 0))))
  have HX3 := Lib.hid y1; have HX4 := Lib.hid y2; have HX5 := Lib.hid y3; have HB := Lib.hid hb
  clear x1 x2 y1 y2 y3 hb hbm hm
  obtain ⟨ab, cb, ap, cp, an, cn⟩ := q
  try dsimp only at *
  go_enter Tryz.func68, Tryz.ntmps68
  go_upto_region 1 with (fail)
  generalize ((w.alloc (.cells #[.int .i64 (f).bar, .int .i64 (f).at_.n, .int .i64 (f).at_.d] 54 (0, 0))).alloc (.cells #[.int .i64 (u).bar, .int .i64 (u).at_.n, .int .i64 (u).at_.d] 54 (0, 0))).alloc (.cells #[.int .i64 0, .int .i64 0] 32 (0, 0)) = W at *
  have hc1 := box_cells HX1.out; have hc2 := box_cells HX2.out; have hc3 := box_cells HX3.out; have hc4 := box_cells HX4.out
  try dsimp only at hc1
  go_upto_region 2 with (go_at_call 23; refine (HSe.out _ HB.out).mono ?_; rintro e w' ⟨rfl, hb⟩; replace HX5 := Lib.hid (blk_keep HX5.out hb); replace HB := Lib.hid (HB.out.trans (hb.mono HB.out.size)); clear hb hc1 hc2 hc3 hc4)
  have HY := Lib.hid (heap_alloc_new w' (.cells #[.int .i64 R.1.n, .int .i64 R.1.d] 32))
  replace HX5 := Lib.hid (up_alloc HX5.out (.cells #[.int .i64 R.1.n, .int .i64 R.1.d] 32))
  replace HB := Lib.hid (HB.out.alloc HB.out.size (.cells #[.int .i64 R.1.n, .int .i64 R.1.d] 32))
  generalize w'.alloc (.cells #[.int .i64 R.1.n, .int .i64 R.1.d] 32) = W2 at *
  generalize w'.heap.size = yb at *
  have hc := box_cells HX5.out; have hf := box_free HX5.out; have hcy := box_cells HY.out
  go_wp2
  exact bodyPost_ret (v := .tuple #[.agg #[.int .i64 R.1.n, .int .i64 R.1.d], .bool (R.2 == 0)]) (by simp [results, Tryz.results68, go_sem, hc, hf]) rfl ⟨rfl, (HB.out.setCell (by simp <;> omega) _).setCell (by simp <;> omega) _⟩
open Go.RowKit Go.Sort

theorem rat2_at {w : World} {c : Nat} {u0 u1 v0 v1 : Value} {T : TypeId} (h : w.heap[c]? = some (.cells #[u0, u1] T (0, 0))) : ((w.setCell ⟨c, 0, none⟩ v0).setCell ⟨c, 1, none⟩ v1).heap[c]? = some (.cells #[v0, v1] T (0, 0)) := heap_setCell_same _ _ _ _ _ _ (heap_setCell_same _ _ _ _ _ _ h)
theorem rat2_below {n : Nat} {w0 w : World} {c : Nat} {v0 v1 : Value} (h : Below n w0 w) (hc : n ≤ c) : Below n w0 ((w.setCell ⟨c, 0, none⟩ v0).setCell ⟨c, 1, none⟩ v1) := (h.setCell (p := ⟨c, 0, none⟩) hc _).setCell (p := ⟨c, 1, none⟩) hc _
def freeF (s : Sc) (part : Int) (ms : List MeP) (l : List Te) (at_ : Int) : (Rt × Rt) × Int := if okT s part ms l && decide (0 ≤ at_) && decide (at_ ≤ ms.length) then freeR s.bars l ms at_.toNat else ((⟨0, 0⟩, ⟨0, 0⟩), 1)
theorem freeF_ok {s : Sc} {part : Int} {ms : List MeP} {l : List Te} {k : Nat} (h : okT s part ms l = true) (hk : k ≤ ms.length) : freeF s part ms l (k : Int) = freeR s.bars l ms k := by
  unfold freeF
  rw [h, decide_eq_true (show (0 : Int) ≤ k by omega), decide_eq_true (show (k : Int) ≤ ms.length by omega)]
  rfl
theorem freeF_bad {s : Sc} {part : Int} {ms : List MeP} {l : List Te} {at_ : Int} (h : okT s part ms l = false ∨ at_ < 0 ∨ (ms.length : Int) < at_) : freeF s part ms l at_ = ((⟨0, 0⟩, ⟨0, 0⟩), 1) := by
  unfold freeF
  rcases h with h | h | h
  · rw [h]; rfl
  · rw [decide_eq_false (show ¬ 0 ≤ at_ by omega)]; simp
  · rw [decide_eq_false (show ¬ at_ ≤ (ms.length : Int) by omega)]; simp
theorem freeR_eq (bars : List Ba) (l : List Te) (ms : List MeP) (k : Nat) {P1 P2 : Rt × Int} (h1 : secR bars l (sinceP ms k) (startP k) = P1) (h2 : secR bars l (startP k) (untilP ms k) = P2) : freeR bars l ms k = if P1.2 = 0 ∧ P2.2 = 0 then ((P1.1, P2.1), 0) else ((⟨0, 0⟩, ⟨0, 0⟩), 3) := by
  subst h1; subst h2; rfl
open Go.RowKit Go.Sort

set_option maxHeartbeats 8000000 in
set_option maxRecDepth 100000 in
theorem pFree_good (s : Sc) (q : Sp) (part : Int) (b off cap : Nat) (ms : List Me) (ta : Option Addr) (tcap : Nat) (l : List Te) (k : Nat) (w : World) (h : TurnW w s q ta l (some ⟨b, off, none⟩) ms) (hok : okT s part (ms.map Me.says) l = true) (hk : k ≤ ms.length) (FF : (Rt × Rt) × Int) (hFF : freeR s.bars l (ms.map Me.says) k = FF) :
    Calls Tryz.prog 11 #[.agg #[.int .i64 s.version, .slice q.ab s.bars.length q.cb, .slice q.ap s.parts.length q.cp, .slice q.an s.notes.length q.cn], .slice ta l.length tcap, .agg #[.int .i64 part, .slice (some ⟨b, off, none⟩) ms.length cap], .int .i64 (k : Int)] w fun e w' => e = .returned (.tuple #[.agg #[.int .i64 (FF).1.1.n, .int .i64 (FF).1.1.d, .int .i64 (FF).1.2.n, .int .i64 (FF).1.2.d], .int .i64 (FF).2]) ∧ Below w.heap.size w w' := by
  have hv := okT_v hok h.ml h.nl
  obtain ⟨P1, hP1⟩ : ∃ P1, secR s.bars l (sinceP (ms.map Me.says) k) (startP k) = P1 := ⟨_, rfl⟩
  obtain ⟨P2, hP2⟩ : ∃ P2, secR s.bars l (startP k) (untilP (ms.map Me.says) k) = P2 := ⟨_, rfl⟩
  have HFq := Lib.hid (hFF.symm.trans (freeR_eq _ _ _ _ hP1 hP2))
  have HTi := Lib.hid (fun V (hV : Below w.heap.size w V) => hok ▸ timer_any s q part (some ⟨b, off, none⟩) cap ms ta tcap l V (h.below hV))
  have HBo := Lib.hid (fun V (hV : Below w.heap.size w V) => bounds_any part b off cap ms k V hv.msv hk (h.me.below hV))
  have HS1 := Lib.hid (fun b1 b2 V (hV : Below w.heap.size w V) x1 x2 => hP1 ▸ timer1_any s q ta tcap l b1 b2 (sinceP (ms.map Me.says) k) (startP k) V x1 x2 h.few.bars h.tl (h.sc.bars.below hV) (h.te.below hV))
  have HS2 := Lib.hid (fun b1 b2 V (hV : Below w.heap.size w V) x1 x2 => hP2 ▸ timer1_any s q ta tcap l b1 b2 (startP k) (untilP (ms.map Me.says) k) V x1 x2 h.few.bars h.tl (h.sc.bars.below hV) (h.te.below hV))
  have HSt := Lib.hid (fun V => tstart_any (k : Int) V)
  clear hP1 hP2 hFF hv hok h
  generalize sinceP (ms.map Me.says) k = SI at *
  generalize untilP (ms.map Me.says) k = UN at *
  obtain ⟨x1, x2, x3, hb⟩ := box3 (w := w) (A := .cells #[.int .i64 s.version, .slice q.ab s.bars.length q.cb, .slice q.ap s.parts.length q.cp, .slice q.an s.notes.length q.cn] 26) (B := .cells #[.int .i64 part, .slice (some ⟨b, off, none⟩) ms.length cap] 30 (0, 0)) (C := .cells #[.int .i64 0, .int .i64 0, .int .i64 0, .int .i64 0] 36 (0, 0)) (Below.refl _ _)
  have HX1 := Lib.hid x1; have HX2 := Lib.hid x2; have HX3 := Lib.hid x3; have HB := Lib.hid hb
  clear x1 x2 x3 hb
  obtain ⟨ab, cb, ap, cp, an, cn⟩ := q
  try dsimp only at *
  go_enter Tryz.func11, Tryz.ntmps11
  go_upto_region 1 with (fail)
  generalize ((w.alloc (.cells #[.int .i64 s.version, .slice (⟨ab, cb, ap, cp, an, cn⟩ : Sp).ab s.bars.length (⟨ab, cb, ap, cp, an, cn⟩ : Sp).cb, .slice (⟨ab, cb, ap, cp, an, cn⟩ : Sp).ap s.parts.length (⟨ab, cb, ap, cp, an, cn⟩ : Sp).cp, .slice (⟨ab, cb, ap, cp, an, cn⟩ : Sp).an s.notes.length (⟨ab, cb, ap, cp, an, cn⟩ : Sp).cn] 26)).alloc (.cells #[.int .i64 part, .slice (some ⟨b, off, none⟩) ms.length cap] 30 (0, 0))).alloc (.cells #[.int .i64 0, .int .i64 0, .int .i64 0, .int .i64 0] 36 (0, 0)) = W at *
  have hc1 := box_cells HX1.out; have hc2 := box_cells HX2.out
  try dsimp only at hc1
  have hk0 : ¬ (k : Int) < 0 := by omega
  have hk1 : ¬ (ms.length : Int) < (k : Int) := by omega
  go_upto_region 2 with (go_at_call 34; refine (HTi.out _ HB.out).mono ?_; rintro e w' ⟨hb, hno, hyes⟩; obtain ⟨b1, b2, g1, g2, g3, g4, rfl, z1, z2⟩ := hyes rfl; clear hno hyes hc1 hc2; replace HX1 := Lib.hid (blk_keep HX1.out hb); replace HX2 := Lib.hid (blk_keep HX2.out hb); replace HX3 := Lib.hid (blk_keep HX3.out hb); (try replace HT1 := Lib.hid (blk_keep HT1.out hb)); (try replace HT2 := Lib.hid (blk_keep HT2.out hb)); (try replace HX4 := Lib.hid (blk_keep HX4.out hb)); (try replace HX5 := Lib.hid (blk_keep HX5.out hb)); (try replace HX6 := Lib.hid (blk_keep HX6.out hb)); replace HB := Lib.hid (HB.out.trans (hb.mono HB.out.size)); clear hb; have HT1 := Lib.hid z1; have HT2 := Lib.hid z2; clear z1 z2; have hc2 := box_cells HX2.out)
  go_upto_region 5 with (go_at_call 35; refine (HBo.out _ HB.out).mono ?_; rintro e w6 ⟨rfl, hb⟩; clear hc2; replace HX1 := Lib.hid (blk_keep HX1.out hb); replace HX2 := Lib.hid (blk_keep HX2.out hb); replace HX3 := Lib.hid (blk_keep HX3.out hb); (try replace HT1 := Lib.hid (blk_keep HT1.out hb)); (try replace HT2 := Lib.hid (blk_keep HT2.out hb)); (try replace HX4 := Lib.hid (blk_keep HX4.out hb)); (try replace HX5 := Lib.hid (blk_keep HX5.out hb)); (try replace HX6 := Lib.hid (blk_keep HX6.out hb)); replace HB := Lib.hid (HB.out.trans (hb.mono HB.out.size)); clear hb)
  have HX4 := Lib.hid (up_alloc (heap_alloc_new w6 (.cells #[.int .i64 (SI).bar, .int .i64 (SI).at_.n, .int .i64 (SI).at_.d] 54 (0, 0))) (.cells #[.int .i64 (UN).bar, .int .i64 (UN).at_.n, .int .i64 (UN).at_.d] 54 (0, 0)))
  have HX5 := Lib.hid (at_alloc (w6.alloc (.cells #[.int .i64 (SI).bar, .int .i64 (SI).at_.n, .int .i64 (SI).at_.d] 54 (0, 0))) (.cells #[.int .i64 (UN).bar, .int .i64 (UN).at_.n, .int .i64 (UN).at_.d] 54 (0, 0)) (k := w6.heap.size + 1) (by simp))
  have hbb := (((Below.refl w6.heap.size w6).alloc (Nat.le_refl _) (.cells #[.int .i64 (SI).bar, .int .i64 (SI).at_.n, .int .i64 (SI).at_.d] 54 (0, 0))).alloc (by simp) (.cells #[.int .i64 (UN).bar, .int .i64 (UN).at_.n, .int .i64 (UN).at_.d] 54 (0, 0)))
  replace HX1 := Lib.hid (blk_keep HX1.out hbb); replace HX2 := Lib.hid (blk_keep HX2.out hbb); replace HX3 := Lib.hid (blk_keep HX3.out hbb); replace HT1 := Lib.hid (blk_keep HT1.out hbb); replace HT2 := Lib.hid (blk_keep HT2.out hbb); replace HB := Lib.hid (HB.out.trans (hbb.mono HB.out.size))
  clear hbb g1 g2 g3 g4 HX1 HX2
  generalize (w6.alloc (.cells #[.int .i64 (SI).bar, .int .i64 (SI).at_.n, .int .i64 (SI).at_.d] 54 (0, 0))).alloc (.cells #[.int .i64 (UN).bar, .int .i64 (UN).at_.n, .int .i64 (UN).at_.d] 54 (0, 0)) = W2 at *
  generalize w6.heap.size = pb at *
  have hBw := HB.out.size
  go_cut [14, 15] from 46 (fun s14 s15 V => ∃ rb, s14 = .pointer (some ⟨rb, 0, none⟩) ∧ s15 = .bool (P1.2 == 0) ∧ W2.heap.size ≤ rb ∧ V.heap[rb]? = some (.cells #[.int .i64 (P1.1).n, .int .i64 (P1.1).d] 32 (0, 0)) ∧ Below W2.heap.size W2 V)
  case first =>
    have HBr := Lib.hid (RowKit.Below.refl W2.heap.size W2)
    have hc4 := box_cells HX4.out
    have j6 := hc4 0; have j7 := hc4 1; have j8 := hc4 2
    have HS12 := Lib.hid (fun V (hV : RowKit.Below W2.heap.size W2 V) => HS1.out b1 b2 V (HB.out.trans (hV.mono HB.out.size)) (blk_keep HT1.out hV) (blk_keep HT2.out hV))
    have KS := Lib.hid (fun W (hb : RowKit.Below W2.heap.size W2 W) => show W.cell? ⟨pb, 0, none⟩ = some (.int .i64 (SI).bar) ∧ W.cell? ⟨pb, 1, none⟩ = some (.int .i64 (SI).at_.n) ∧ W.cell? ⟨pb, 2, none⟩ = some (.int .i64 (SI).at_.d) from ⟨keepE j6 hb, keepE j7 hb, keepE j8 hb⟩)
    clear j6 j7 j8 hc4
    go_region_held3 (fun W => W.cell? ⟨pb, 0, none⟩ = some (.int .i64 (SI).bar) ∧ W.cell? ⟨pb, 1, none⟩ = some (.int .i64 (SI).at_.n) ∧ W.cell? ⟨pb, 2, none⟩ = some (.int .i64 (SI).at_.d))
      ((refine KS.out _ ?_; (repeat (first | exact HBr.out | with_reducible exact RowKit.Below.refl _ _ | with_reducible refine RowKit.Below.drew ?_ | with_reducible refine RowKit.Below.alloc ?_ (by first | (simp <;> omega) | (have := HBr.out.size; simp <;> omega)) _ | with_reducible refine RowKit.Below.setCell ?_ (by first | exact HS9.out | (simp <;> omega) | (have := HBr.out.size; simp <;> omega)) _))))
      ((first | (go_at_call 36; refine (HSt.out _).mono ?_; rintro e w5 ⟨rfl, hb⟩; (try replace HX9 := Lib.hid (blk_keep HX9.out hb)); (try replace hb := drewB hb); (first | (have x0 := box_below hb; have HX9 := Lib.hid x0; have HS9 := Lib.hid HBr.out.size; clear x0; replace hb := allocB hb) | skip); (try replace hb := drewB hb); replace HBr := Lib.hid (HBr.out.trans (hb.mono HBr.out.size)); clear hb; (try clear hc9 hf9 hz9); (try (have hc9 := box_cells HX9.out; have hf9 := box_free HX9.out; have hz9 := lt_blk HX9.out))) | (go_at_call 68; refine (HS12.out _ (by (repeat (first | exact HBr.out | with_reducible exact RowKit.Below.refl _ _ | with_reducible refine RowKit.Below.drew ?_ | with_reducible refine RowKit.Below.alloc ?_ (by first | (simp <;> omega) | (have := HBr.out.size; simp <;> omega)) _ | with_reducible refine RowKit.Below.setCell ?_ (by first | exact HS9.out | (simp <;> omega) | (have := HBr.out.size; simp <;> omega)) _)))).mono ?_; rintro e w5 ⟨rfl, hb⟩; (try replace HX9 := Lib.hid (blk_keep HX9.out hb)); (try replace hb := drewB hb); (first | (have x0 := box_below hb; have HX9 := Lib.hid x0; have HS9 := Lib.hid HBr.out.size; clear x0; replace hb := allocB hb) | skip); (try replace hb := drewB hb); replace HBr := Lib.hid (HBr.out.trans (hb.mono HBr.out.size)); clear hb; (try clear hc9 hf9 hz9); (try (have hc9 := box_cells HX9.out; have hf9 := box_free HX9.out; have hz9 := lt_blk HX9.out)))))
    all_goals
      go_wp2
      go_meet
      case rel =>
        first
        | exact ⟨_, rfl, rfl, HBr.out.size, heap_alloc_new _ _, HBr.out.alloc HBr.out.size _⟩
        | exact ⟨_, rfl, rfl, HS9.out, rat2_at HX9.out, rat2_below HBr.out HS9.out⟩
  case rest =>
  obtain ⟨rb, rfl, rfl, hrb, xr, hbp⟩ := hcut
  have HX6 := Lib.hid xr
  clear xr
  have hb := hbp
  replace HX3 := Lib.hid (blk_keep HX3.out hb); replace HX5 := Lib.hid (blk_keep HX5.out hb); replace HT1 := Lib.hid (blk_keep HT1.out hb); replace HT2 := Lib.hid (blk_keep HT2.out hb); replace HB := Lib.hid (HB.out.trans (hb.mono HB.out.size))
  clear hb hbp HX4
  have hBw := HB.out.size
  go_upto_region 6 with (fail)
  generalize wc = W3 at *
  go_cut [16, 17] from 54 (fun s16 s17 V => ∃ rb2, s16 = .pointer (some ⟨rb2, 0, none⟩) ∧ s17 = .bool (P2.2 == 0) ∧ W3.heap.size ≤ rb2 ∧ V.heap[rb2]? = some (.cells #[.int .i64 (P2.1).n, .int .i64 (P2.1).d] 32 (0, 0)) ∧ Below W3.heap.size W3 V)
  case first =>
    have HBr := Lib.hid (RowKit.Below.refl W3.heap.size W3)
    have hc5 := box_cells HX5.out
    have j6 := hc5 0; have j7 := hc5 1; have j8 := hc5 2
    have HS22 := Lib.hid (fun V (hV : RowKit.Below W3.heap.size W3 V) => HS2.out b1 b2 V (HB.out.trans (hV.mono HB.out.size)) (blk_keep HT1.out hV) (blk_keep HT2.out hV))
    have KS := Lib.hid (fun W (hb : RowKit.Below W3.heap.size W3 W) => show W.cell? ⟨pb + 1, 0, none⟩ = some (.int .i64 (UN).bar) ∧ W.cell? ⟨pb + 1, 1, none⟩ = some (.int .i64 (UN).at_.n) ∧ W.cell? ⟨pb + 1, 2, none⟩ = some (.int .i64 (UN).at_.d) from ⟨keepE j6 hb, keepE j7 hb, keepE j8 hb⟩)
    clear j6 j7 j8 hc5
    go_region_held3 (fun W => W.cell? ⟨pb + 1, 0, none⟩ = some (.int .i64 (UN).bar) ∧ W.cell? ⟨pb + 1, 1, none⟩ = some (.int .i64 (UN).at_.n) ∧ W.cell? ⟨pb + 1, 2, none⟩ = some (.int .i64 (UN).at_.d))
      ((refine KS.out _ ?_; (repeat (first | exact HBr.out | with_reducible exact RowKit.Below.refl _ _ | with_reducible refine RowKit.Below.drew ?_ | with_reducible refine RowKit.Below.alloc ?_ (by first | (simp <;> omega) | (have := HBr.out.size; simp <;> omega)) _ | with_reducible refine RowKit.Below.setCell ?_ (by first | exact HS9.out | (simp <;> omega) | (have := HBr.out.size; simp <;> omega)) _))))
      ((first | (go_at_call 36; refine (HSt.out _).mono ?_; rintro e w5 ⟨rfl, hb⟩; (try replace HX9 := Lib.hid (blk_keep HX9.out hb)); (try replace hb := drewB hb); (first | (have x0 := box_below hb; have HX9 := Lib.hid x0; have HS9 := Lib.hid HBr.out.size; clear x0; replace hb := allocB hb) | skip); (try replace hb := drewB hb); replace HBr := Lib.hid (HBr.out.trans (hb.mono HBr.out.size)); clear hb; (try clear hc9 hf9 hz9); (try (have hc9 := box_cells HX9.out; have hf9 := box_free HX9.out; have hz9 := lt_blk HX9.out))) | (go_at_call 68; refine (HS22.out _ (by (repeat (first | exact HBr.out | with_reducible exact RowKit.Below.refl _ _ | with_reducible refine RowKit.Below.drew ?_ | with_reducible refine RowKit.Below.alloc ?_ (by first | (simp <;> omega) | (have := HBr.out.size; simp <;> omega)) _ | with_reducible refine RowKit.Below.setCell ?_ (by first | exact HS9.out | (simp <;> omega) | (have := HBr.out.size; simp <;> omega)) _)))).mono ?_; rintro e w5 ⟨rfl, hb⟩; (try replace HX9 := Lib.hid (blk_keep HX9.out hb)); (try replace hb := drewB hb); (first | (have x0 := box_below hb; have HX9 := Lib.hid x0; have HS9 := Lib.hid HBr.out.size; clear x0; replace hb := allocB hb) | skip); (try replace hb := drewB hb); replace HBr := Lib.hid (HBr.out.trans (hb.mono HBr.out.size)); clear hb; (try clear hc9 hf9 hz9); (try (have hc9 := box_cells HX9.out; have hf9 := box_free HX9.out; have hz9 := lt_blk HX9.out)))))
    all_goals
      go_wp2
      go_meet
      case rel =>
        first
        | exact ⟨_, rfl, rfl, HBr.out.size, heap_alloc_new _ _, HBr.out.alloc HBr.out.size _⟩
        | exact ⟨_, rfl, rfl, HS9.out, rat2_at HX9.out, rat2_below HBr.out HS9.out⟩
  case rest =>
  obtain ⟨rb2, rfl, rfl, hrb2, xr, hbp⟩ := hcut
  have HX7 := Lib.hid xr
  clear xr
  have hb := hbp
  replace HX3 := Lib.hid (blk_keep HX3.out hb); replace HX6 := Lib.hid (blk_keep HX6.out hb); replace HB := Lib.hid (HB.out.trans (hb.mono HB.out.size))
  clear hb hbp HX5 HT1 HT2
  have hc3 := box_cells HX3.out; have hf3 := box_free HX3.out; have hc6 := box_cells HX6.out; have hc7 := box_cells HX7.out
  by_cases he1 : P1.2 = 0
  · have hq1 : (P1.2 == 0) = true := by rw [he1]; rfl
    by_cases he2 : P2.2 = 0
    · have hq2 : (P2.2 == 0) = true := by rw [he2]; rfl
      have HF := Lib.hid (show FF = ((P1.1, P2.1), 0) by rw [HFq.out, if_pos ⟨he1, he2⟩])
      clear he1 he2
      go_wp2
      exact bodyPost_ret (v := .tuple #[.agg #[.int .i64 P1.1.n, .int .i64 P1.1.d, .int .i64 P2.1.n, .int .i64 P2.1.d], .int .i64 0]) (by simp [results, Tryz.results11, go_sem, hc3, hf3]) rfl ⟨by rw [HF.out], (((HB.out.setCell (by simp <;> omega) _).setCell (by simp <;> omega) _).setCell (by simp <;> omega) _).setCell (by simp <;> omega) _⟩
    · have hq2 : (P2.2 == 0) = false := by rw [← Bool.not_eq_true, beq_iff_eq]; exact he2
      have HF := Lib.hid (show FF = ((⟨0, 0⟩, ⟨0, 0⟩), 3) by rw [HFq.out, if_neg (fun e => he2 e.2)])
      clear he1 he2
      go_wp2
      exact bodyPost_ret (v := .tuple #[.agg #[.int .i64 0, .int .i64 0, .int .i64 0, .int .i64 0], .int .i64 3]) (by simp [results, Tryz.results11, go_sem, hc3, hf3]) rfl ⟨by rw [HF.out], (((HB.out.setCell (by simp <;> omega) _).setCell (by simp <;> omega) _).setCell (by simp <;> omega) _).setCell (by simp <;> omega) _⟩
  · have hq1 : (P1.2 == 0) = false := by rw [← Bool.not_eq_true, beq_iff_eq]; exact he1
    have HF := Lib.hid (show FF = ((⟨0, 0⟩, ⟨0, 0⟩), 3) by rw [HFq.out, if_neg (fun e => he1 e.1)])
    clear he1
    go_wp2
    exact bodyPost_ret (v := .tuple #[.agg #[.int .i64 0, .int .i64 0, .int .i64 0, .int .i64 0], .int .i64 3]) (by simp [results, Tryz.results11, go_sem, hc3, hf3]) rfl ⟨by rw [HF.out], (((HB.out.setCell (by simp <;> omega) _).setCell (by simp <;> omega) _).setCell (by simp <;> omega) _).setCell (by simp <;> omega) _⟩
set_option maxHeartbeats 4000000 in
set_option maxRecDepth 100000 in
theorem PFree25_any (s : Sc) (q : Sp) (part : Int) (a : Option Addr) (cap : Nat) (ms : List Me) (ta : Option Addr) (tcap : Nat) (l : List Te) (at_ : Int) (w : World) (h : TurnW w s q ta l a ms) :
    Calls Tryz.prog 11 #[.agg #[.int .i64 s.version, .slice q.ab s.bars.length q.cb, .slice q.ap s.parts.length q.cp, .slice q.an s.notes.length q.cn], .slice ta l.length tcap, .agg #[.int .i64 part, .slice a ms.length cap], .int .i64 at_] w fun e w' => e = .returned (.tuple #[.agg #[.int .i64 ((freeF s part (ms.map Me.says) l at_)).1.1.n, .int .i64 ((freeF s part (ms.map Me.says) l at_)).1.1.d, .int .i64 ((freeF s part (ms.map Me.says) l at_)).1.2.n, .int .i64 ((freeF s part (ms.map Me.says) l at_)).1.2.d], .int .i64 ((freeF s part (ms.map Me.says) l at_)).2]) ∧ Below w.heap.size w w' := by
  by_cases hg : okT s part (ms.map Me.says) l = true ∧ 0 ≤ at_ ∧ at_ ≤ ms.length
  · obtain ⟨h1, h2, h3⟩ := hg
    obtain ⟨k, rfl⟩ := Int.eq_ofNat_of_zero_le h2
    obtain ⟨b, off, rfl, _⟩ := h.me.get 0 (okT_v h1 h.ml h.nl).pos
    exact pFree_good s q part b off cap ms ta tcap l k w h h1 (by omega) _ (freeF_ok h1 (by rw [List.length_map]; omega)).symm
  have HF := Lib.hid (show freeF s part (ms.map Me.says) l at_ = ((⟨0, 0⟩, ⟨0, 0⟩), 1) from freeF_bad (by
    rw [List.length_map]
    cases ho : okT s part (ms.map Me.says) l
    · exact .inl rfl
    · exact .inr (by have : ¬ (0 ≤ at_ ∧ at_ ≤ ms.length) := fun e => hg ⟨ho, e.1, e.2⟩; omega)))
  generalize freeF s part (ms.map Me.says) l at_ = FF at *
  have HTi := Lib.hid (fun V (hV : Below w.heap.size w V) => timer_any s q part a cap ms ta tcap l V (h.below hV))
  generalize okT s part (ms.map Me.says) l = OK at *
  clear h
  obtain ⟨x1, x2, x3, hb⟩ := box3 (w := w) (A := .cells #[.int .i64 s.version, .slice q.ab s.bars.length q.cb, .slice q.ap s.parts.length q.cp, .slice q.an s.notes.length q.cn] 26) (B := .cells #[.int .i64 part, .slice a ms.length cap] 30 (0, 0)) (C := .cells #[.int .i64 0, .int .i64 0, .int .i64 0, .int .i64 0] 36 (0, 0)) (Below.refl _ _)
  have HX1 := Lib.hid x1; have HX2 := Lib.hid x2; have HX3 := Lib.hid x3; have HB := Lib.hid hb
  clear x1 x2 x3 hb
  obtain ⟨ab, cb, ap, cp, an, cn⟩ := q
  try dsimp only at *
  go_enter Tryz.func11, Tryz.ntmps11
  go_upto_region 1 with (fail)
  generalize ((w.alloc (.cells #[.int .i64 s.version, .slice (⟨ab, cb, ap, cp, an, cn⟩ : Sp).ab s.bars.length (⟨ab, cb, ap, cp, an, cn⟩ : Sp).cb, .slice (⟨ab, cb, ap, cp, an, cn⟩ : Sp).ap s.parts.length (⟨ab, cb, ap, cp, an, cn⟩ : Sp).cp, .slice (⟨ab, cb, ap, cp, an, cn⟩ : Sp).an s.notes.length (⟨ab, cb, ap, cp, an, cn⟩ : Sp).cn] 26)).alloc (.cells #[.int .i64 part, .slice a ms.length cap] 30 (0, 0))).alloc (.cells #[.int .i64 0, .int .i64 0, .int .i64 0, .int .i64 0] 36 (0, 0)) = W at *
  have hc1 := box_cells HX1.out; have hc2 := box_cells HX2.out; have hc3 := box_cells HX3.out; have hf3 := box_free HX3.out
  try dsimp only at hc1
  cases OK
  case false =>
    clear hg
    go_wp2_with (go_at_call 34; refine (HTi.out _ HB.out).mono ?_; rintro e w' ⟨hb, hno, hyes⟩; obtain rfl := hno rfl; clear hno hyes hc1 hc2 hc3 hf3; replace HX1 := Lib.hid (blk_keep HX1.out hb); replace HX2 := Lib.hid (blk_keep HX2.out hb); replace HX3 := Lib.hid (blk_keep HX3.out hb); (try replace HT1 := Lib.hid (blk_keep HT1.out hb)); (try replace HT2 := Lib.hid (blk_keep HT2.out hb)); replace HB := Lib.hid (HB.out.trans (hb.mono HB.out.size)); clear hb; have hc3 := box_cells HX3.out; have hf3 := box_free HX3.out)
    exact bodyPost_ret (v := .tuple #[.agg #[.int .i64 0, .int .i64 0, .int .i64 0, .int .i64 0], .int .i64 1]) (by simp [results, Tryz.results11, go_sem, hc3, hf3]) rfl ⟨by rw [HF.out], (((HB.out.setCell (by simp <;> omega) _).setCell (by simp <;> omega) _).setCell (by simp <;> omega) _).setCell (by simp <;> omega) _⟩
  case true =>
    have hcase : at_ < 0 ∨ (¬ at_ < 0 ∧ (ms.length : Int) < at_) := by
      have hn : ¬ (0 ≤ at_ ∧ at_ ≤ ms.length) := fun e => hg ⟨rfl, e.1, e.2⟩
      omega
    clear hg
    rcases hcase with h1 | ⟨h1, h2⟩
    all_goals
      go_wp2_with (go_at_call 34; refine (HTi.out _ HB.out).mono ?_; rintro e w' ⟨hb, hno, hyes⟩; obtain ⟨b1, b2, g1, g2, g3, g4, rfl, z1, z2⟩ := hyes rfl; clear hno hyes hc1 hc2 hc3 hf3 z1 z2; replace HX1 := Lib.hid (blk_keep HX1.out hb); replace HX2 := Lib.hid (blk_keep HX2.out hb); replace HX3 := Lib.hid (blk_keep HX3.out hb); (try replace HT1 := Lib.hid (blk_keep HT1.out hb)); (try replace HT2 := Lib.hid (blk_keep HT2.out hb)); replace HB := Lib.hid (HB.out.trans (hb.mono HB.out.size)); clear hb; have hc2 := box_cells HX2.out; have hc3 := box_cells HX3.out; have hf3 := box_free HX3.out)
      exact bodyPost_ret (v := .tuple #[.agg #[.int .i64 0, .int .i64 0, .int .i64 0, .int .i64 0], .int .i64 1]) (by simp [results, Tryz.results11, go_sem, hc3, hf3]) rfl ⟨by rw [HF.out], (((HB.out.setCell (by simp <;> omega) _).setCell (by simp <;> omega) _).setCell (by simp <;> omega) _).setCell (by simp <;> omega) _⟩
end Go.Proofs.YtcelciomhngajaaGreatDoor

