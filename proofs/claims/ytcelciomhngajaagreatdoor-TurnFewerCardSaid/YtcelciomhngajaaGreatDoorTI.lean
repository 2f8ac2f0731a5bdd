/- Texts of this seat, laid together: TurnGood, TurnGoo2, TurnGoo3. -/
import Derived.Test.YtcelciomhngajaaGreatDoorTH
/- Before which measures a page can be turned: the reference's Good, Same; the program's Good. -/
namespace Go.Proofs.YtcelciomhngajaaGreatDoor
set_option linter.unusedSimpArgs false
set_option linter.unusedVariables false
open Go.RowKit Go.Sort

def boRow (b : Bool) : List Value := [.bool b]
theorem eltBo : Elt Tryz.prog 40 4 1 1 boRow := ⟨Tryz.underlying40, ⟨.bool false, by kernel_rfl, rfl⟩, by decide, by decide, fun _ => rfl, fun x u hu => by simp [boRow] at hu; subst hu; rfl⟩
def goodF (s : Sc) (part : Int) (ms : List MeP) (l : List Te) (need : Rt) : List Bool × Int := if okT s part ms l && rtOk need && decide (0 ≤ need.n) then (match goodR s.bars l ms need with | some r => (r, 0) | none => ([], 3)) else ([], 1)
theorem goodF_bad {s : Sc} {part : Int} {ms : List MeP} {l : List Te} {need : Rt} (h : okT s part ms l = false ∨ rtOk need = false ∨ need.n < 0) : goodF s part ms l need = ([], 1) := by
  unfold goodF
  rcases h with h | h | h
  · rw [h]; rfl
  · rw [h]; simp
  · rw [decide_eq_false (show ¬ 0 ≤ need.n by omega)]; simp
structure GoodV (P : Nat → Rt × Int) (n : Nat) (need : Rt) (GG : List Bool × Int) : Prop where
  yes : (∀ j, j < n → (P j).2 = 0) → GG = ((List.range n).map fun j => decide (0 ≤ cmpR (P j).1 need), 0)
  no : ∀ j, j < n → (P j).2 ≠ 0 → GG = ([], 3)
theorem goodF_ok {s : Sc} {part : Int} {ms : List MeP} {l : List Te} {need : Rt} (h : okT s part ms l = true) (hn : rtOk need = true) (h0 : 0 ≤ need.n) {P : Nat → Rt × Int} (hP : ∀ i, secR s.bars l (sinceP ms i) (untilP ms i) = P i) : GoodV P ms.length need (goodF s part ms l need) := by
  have e : goodF s part ms l need = (match goodR s.bars l ms need with | some r => (r, 0) | none => ([], 3)) := by unfold goodF; rw [h, hn, decide_eq_true h0]; rfl
  have eg : goodR s.bars l ms need = if (List.range ms.length).all (fun i => decide ((P i).2 = 0)) then some ((List.range ms.length).map fun i => decide (0 ≤ cmpR (P i).1 need)) else none := by
    unfold goodR
    simp only [hP]
  rw [e, eg]
  constructor
  · intro ha
    rw [if_pos (List.all_eq_true.2 fun x hx => decide_eq_true (ha x (List.mem_range.1 hx)))]
  · intro j hj hne
    rw [if_neg]
    intro ha
    exact hne (of_decide_eq_true (List.all_eq_true.1 ha j (List.mem_range.2 hj)))
theorem sec_rt {bars : List Ba} {l : List Te} {f u : Po} (h : (secR bars l f u).2 = 0) : rtOk (secR bars l f u).1 = true := by
  unfold secR at h ⊢
  split at h
  · rename_i hc
    rw [if_pos hc]
    exact (redR_ok (n := cumN l bars u - cumN l bars f) (d := 100800) (by decide) (Prod.ext rfl h)).1
  · cases h
open Go.RowKit Go.Sort

def BoAt (w : World) (a : Option Addr) (l : List Bool) : Prop := SlAt w a 1 (l.map boRow)
theorem BoAt.get {w : World} {a : Option Addr} {l : List Bool} (h : BoAt w a l) (i : Nat) (hi : i < l.length) : ∃ b off, a = some ⟨b, off, none⟩ ∧ b < w.heap.size ∧ w.cell? ⟨b, off + i, none⟩ = some (.bool l[i]) := by
  obtain ⟨b, off, e, hl, _, hc⟩ := h i (boRow l[i]) (by simp [hi])
  refine ⟨b, off, e, hl, ?_⟩
  have := hc 0 _ rfl
  simpa using this
set_option maxHeartbeats 2000000 in
theorem RSame25_any (a a' : Option Addr) (c c' : Nat) (l r : List Bool) (w : World) (h : BoAt w a l) (h' : BoAt w a' r) (hl : l.length ≤ 100000) (hr : r.length ≤ 100000) :
    Calls Tryz.prog 15 #[.slice a l.length c, .slice a' r.length c'] w fun e w' => e = .returned (.bool (decide (l = r))) ∧ Below w.heap.size w w' := by
  have HA := Lib.hid h; have HA' := Lib.hid h'
  clear h h'
  by_cases hlen : l.length = r.length
  · have hd : ((l.length : Int) != (r.length : Int)) = false := by rw [hlen]; simp
    go_enter Tryz.func15, Tryz.ntmps15
    go_wp2
    clear hd
    have HLen := Lib.hid hlen
    have hle1 : l.length ≤ r.length := by omega
    have hle2 : r.length ≤ l.length := by omega
    clear hlen
    go_loopw [5] (fun s5 wi => ∃ k : Nat, k ≤ l.length ∧ s5 = .int .i64 k ∧ Hid (l.take k = r.take k) ∧ Below w.heap.size w wi) (fun s5 _ => l.length - (intOf s5).toNat)
    case atStart => exact ⟨0, Nat.zero_le _, rfl, Lib.hid rfl, Below.refl _ _⟩
    case round =>
      obtain ⟨k, hk, rfl, HT, hb⟩ := hrel
      have HB := Lib.hid hb
      by_cases hlt : k < l.length
      · have hlt' : k < r.length := by omega
        obtain ⟨b1, o1, e1, _, d1⟩ := BoAt.get (SlAt.below HA.out hb) k hlt
        obtain ⟨b2, o2, e2, _, d2⟩ := BoAt.get (SlAt.below HA'.out hb) k hlt'
        have HSt := Lib.hid (take_eq_succ l r k hlt hlt' HT.out)
        have HNe := Lib.hid (ne_at l r k hlt hlt')
        rw [e1, e2]
        clear hb
        generalize l[k] = x at *
        generalize r[k] = y at *
        have hkz : (0 : Int) ≤ (k : Int) := by omega
        have hk1 : (k : Int) < (l.length : Int) := by omega
        have hk2 : (k : Int) < (r.length : Int) := by omega
        by_cases hxy : x = y
        · have hq : (!(x == y)) = false := by rw [hxy]; simp
          have HS2 := Lib.hid (HSt.out hxy)
          clear hxy
          go_upto_region 6 with (fail)
          go_quiet (fail)
          go_wp2
          go_roundw
          case rel => exact ⟨k + 1, by omega, by go_num, HS2, below_drewN HB.out nq⟩
          case measure => simp [intOf]; omega
        · have hq : (!(x == y)) = true := by cases x <;> cases y <;> simp_all
          have HF := Lib.hid (show decide (l = r) = false from decide_eq_false (HNe.out hxy))
          clear hxy
          go_upto_region 6 with (fail)
          go_quiet (fail)
          go_wp2
          go_ret
          exact ⟨ret_bool HF.out.symm, below_drewN HB.out nq⟩
      · obtain rfl : k = l.length := by omega
        have HF := Lib.hid (show decide (l = r) = true from decide_eq_true (by have := HT.out; rw [List.take_length, show l.length = r.length by omega, List.take_length] at this; exact this))
        go_wp2
        go_ret
        exact ⟨ret_bool HF.out.symm, HB.out⟩
  · have hd : ((l.length : Int) != (r.length : Int)) = true := by rw [bne_iff_ne]; omega
    have HF := Lib.hid (show decide (l = r) = false from decide_eq_false (fun e => hlen (by rw [e])))
    clear hlen
    go_enter Tryz.func15, Tryz.ntmps15
    go_wp2
    go_ret
    exact ⟨ret_bool HF.out.symm, Below.refl _ _⟩
open Go.RowKit Go.Sort

set_option maxHeartbeats 8000000 in
set_option maxRecDepth 100000 in
theorem pGood_good (s : Sc) (q : Sp) (part : Int) (b off cap : Nat) (ms : List Me) (ta : Option Addr) (tcap : Nat) (l : List Te) (need : Rt) (w : World) (h : TurnW w s q ta l (some ⟨b, off, none⟩) ms) (hok : okT s part (ms.map Me.says) l = true) (hn : rtOk need = true) (hn0 : 0 ≤ need.n) :
    Calls Tryz.prog 13 #[.agg #[.int .i64 s.version, .slice q.ab s.bars.length q.cb, .slice q.ap s.parts.length q.cp, .slice q.an s.notes.length q.cn], .slice ta l.length tcap, .agg #[.int .i64 part, .slice (some ⟨b, off, none⟩) ms.length cap], .agg #[.int .i64 need.n, .int .i64 need.d]] w (RetSlI 1 ((goodF s part (ms.map Me.says) l need).1.map boRow) (goodF s part (ms.map Me.says) l need).2 w) := by
  have hv := okT_v hok h.ml h.nl
  have hml := h.ml
  obtain ⟨P, hP⟩ : ∃ P : Nat → Rt × Int, ∀ i, secR s.bars l (sinceP (ms.map Me.says) i) (untilP (ms.map Me.says) i) = P i := ⟨_, fun _ => rfl⟩
  have HG := Lib.hid (goodF_ok hok hn hn0 hP)
  rw [List.length_map] at HG
  generalize goodF s part (ms.map Me.says) l need = GG at *
  have HTi := Lib.hid (fun V (hV : Below w.heap.size w V) => hok ▸ timer_any s q part (some ⟨b, off, none⟩) cap ms ta tcap l V (h.below hV))
  have HVn := Lib.hid (fun V => show Calls Tryz.prog 39 #[.agg #[.int .i64 need.n, .int .i64 need.d]] V fun e w' => e = .returned (.bool true) ∧ Below V.heap.size V w' from hn ▸ RatValid_any need.n need.d V)
  have HBo := Lib.hid (fun k (hk : k ≤ ms.length) V (hV : Below w.heap.size w V) => bounds_any part b off cap ms k V hv.msv hk (h.me.below hV))
  have HS1 := Lib.hid (fun k b1 b2 V (hV : Below w.heap.size w V) x1 x2 => hP k ▸ timer1_any s q ta tcap l b1 b2 (sinceP (ms.map Me.says) k) (untilP (ms.map Me.says) k) V x1 x2 h.few.bars h.tl (h.sc.bars.below hV) (h.te.below hV))
  have HCm := Lib.hid (fun k (hk : (P k).2 = 0) V => show Calls Tryz.prog 40 #[.agg #[.int .i64 (P k).1.n, .int .i64 (P k).1.d], .agg #[.int .i64 need.n, .int .i64 need.d]] V fun e w' => e = .returned (.tuple #[.int .i64 (cmpR (P k).1 need), .int .i64 0]) ∧ Below V.heap.size V w' from RatCompare_any (P k).1.n (P k).1.d need.n need.d V (hP k ▸ sec_rt (by rw [hP k]; exact hk)) hn)
  clear hP hv hok h
  obtain ⟨x1, x2, x3, hb⟩ := box3 (w := w) (A := .cells #[.int .i64 s.version, .slice q.ab s.bars.length q.cb, .slice q.ap s.parts.length q.cp, .slice q.an s.notes.length q.cn] 26) (B := .cells #[.int .i64 part, .slice (some ⟨b, off, none⟩) ms.length cap] 30 (0, 0)) (C := .cells #[.int .i64 (need).n, .int .i64 (need).d] 32 (0, 0)) (Below.refl _ _)
  have HX1 := Lib.hid x1; have HX2 := Lib.hid x2; have HX3 := Lib.hid x3; have HB := Lib.hid hb
  clear x1 x2 x3 hb
  obtain ⟨ab, cb, ap, cp, an, cn⟩ := q
  try dsimp only at *
  go_enter Tryz.func13, Tryz.ntmps13
  go_upto_region 1 with (fail)
  generalize ((w.alloc (.cells #[.int .i64 s.version, .slice (⟨ab, cb, ap, cp, an, cn⟩ : Sp).ab s.bars.length (⟨ab, cb, ap, cp, an, cn⟩ : Sp).cb, .slice (⟨ab, cb, ap, cp, an, cn⟩ : Sp).ap s.parts.length (⟨ab, cb, ap, cp, an, cn⟩ : Sp).cp, .slice (⟨ab, cb, ap, cp, an, cn⟩ : Sp).an s.notes.length (⟨ab, cb, ap, cp, an, cn⟩ : Sp).cn] 26)).alloc (.cells #[.int .i64 part, .slice (some ⟨b, off, none⟩) ms.length cap] 30 (0, 0))).alloc (.cells #[.int .i64 (need).n, .int .i64 (need).d] 32 (0, 0)) = W at *
  have hc1 := box_cells HX1.out; have hc2 := box_cells HX2.out; have hc3 := box_cells HX3.out
  try dsimp only at hc1
  have hn1 : ¬ need.n < 0 := by omega
  go_wp2_with (first | (go_at_call 34; refine (HTi.out _ HB.out).mono ?_; rintro e w' ⟨hb, hno, hyes⟩; obtain ⟨b1, b2, g1, g2, g3, g4, rfl, z1, z2⟩ := hyes rfl; clear hno hyes hc1 hc2 hc3; replace HX1 := Lib.hid (blk_keep HX1.out hb); replace HX2 := Lib.hid (blk_keep HX2.out hb); replace HX3 := Lib.hid (blk_keep HX3.out hb); (try replace HX5 := Lib.hid (blk_keep HX5.out hb)); (try replace HO := Lib.hid (HO.out.below hb)); (try replace HT1 := Lib.hid (blk_keep HT1.out hb)); (try replace HT2 := Lib.hid (blk_keep HT2.out hb)); replace HB := Lib.hid (HB.out.trans (hb.mono HB.out.size)); clear hb; have HT1 := Lib.hid z1; have HT2 := Lib.hid z2; clear z1 z2; have hc2 := box_cells HX2.out; have hc3 := box_cells HX3.out) | (go_at_call 39; refine (HVn.out _).mono ?_; rintro e w' ⟨rfl, hb⟩; have HS0 := Lib.hid hb.size; clear hc2 hc3; replace HX1 := Lib.hid (blk_keep HX1.out hb); replace HX2 := Lib.hid (blk_keep HX2.out hb); replace HX3 := Lib.hid (blk_keep HX3.out hb); (try replace HX5 := Lib.hid (blk_keep HX5.out hb)); (try replace HO := Lib.hid (HO.out.below hb)); (try replace HT1 := Lib.hid (blk_keep HT1.out hb)); (try replace HT2 := Lib.hid (blk_keep HT2.out hb)); replace HB := Lib.hid (HB.out.trans (hb.mono HB.out.size)); clear hb; have hc2 := box_cells HX2.out; have hc3 := box_cells HX3.out))
  have hz3 := lt_blk HX3.out
  have hs0 := HS0.out
  clear hc2 hc3 HX1
  rw [show decide (need.n < 0) = false from decide_eq_false (by omega)]
  go_loopw [12, 40] (fun s12 s40 wi => ∃ k : Nat, k ≤ ms.length ∧ s40 = .int .i64 k ∧ Hid (∀ j, j < k → (P j).2 = 0) ∧ OwnR wi w'.heap.size 4 1 s12 (((List.range k).map fun j => decide (0 ≤ cmpR (P j).1 need)).map boRow) ∧ wi.heap[w.heap.size + 1]? = some (.cells #[.int .i64 part, .slice (some ⟨b, off, none⟩) ms.length cap] 30 (0, 0)) ∧ wi.heap[w.heap.size + 1 + 1]? = some (.cells #[.int .i64 (need).n, .int .i64 (need).d] 32 (0, 0)) ∧ wi.heap[b1]? = some (.cells #[.int .i64 s.version, .slice (⟨ab, cb, ap, cp, an, cn⟩ : Sp).ab s.bars.length (⟨ab, cb, ap, cp, an, cn⟩ : Sp).cb, .slice (⟨ab, cb, ap, cp, an, cn⟩ : Sp).ap s.parts.length (⟨ab, cb, ap, cp, an, cn⟩ : Sp).cp, .slice (⟨ab, cb, ap, cp, an, cn⟩ : Sp).an s.notes.length (⟨ab, cb, ap, cp, an, cn⟩ : Sp).cn] 26) ∧ wi.heap[b2]? = some (.cells #[.slice ta l.length tcap] 27 (0, 0)) ∧ Below w.heap.size w wi ∧ w'.heap.size ≤ wi.heap.size) (fun _ s40 _ => ms.length - (intOf s40).toNat)
  case atStart => exact ⟨0, Nat.zero_le _, rfl, Lib.hid (fun _ h => absurd h (Nat.not_lt_zero _)), OwnR.nil _ _ _ _, HX2.out, HX3.out, HT1.out, HT2.out, HB.out, Nat.le_refl _⟩
  case round =>
    clear HX2 HX3 HB HT1 HT2
    obtain ⟨k, hk, rfl, HA, ho, hx2, hx3, ht1, ht2, hb, hsz⟩ := hrel
    have HX2 := Lib.hid hx2; have HX3 := Lib.hid hx3; have HB := Lib.hid hb; have HO := Lib.hid ho; have HT1 := Lib.hid ht1; have HT2 := Lib.hid ht2
    have hc2 := box_cells hx2
    clear hx2 hx3 ht1 ht2 hb ho
    by_cases hlt : k < ms.length
    · have hBw := HB.out.size
      have HSu := Lib.hid (show ((List.range (k + 1)).map fun j => decide (0 ≤ cmpR (P j).1 need)) = ((List.range k).map fun j => decide (0 ≤ cmpR (P j).1 need)) ++ [decide (0 ≤ cmpR (P k).1 need)] by rw [List.range_succ, List.map_append]; rfl)
      have hLl : ((List.range k).map fun j => decide (0 ≤ cmpR (P j).1 need)).length ≤ 1000 := by rw [List.length_map, List.length_range]; omega
      generalize ((List.range k).map fun j => decide (0 ≤ cmpR (P j).1 need)) = L at *
      have HBk := Lib.hid (HBo.out k hk)
      have HSk := Lib.hid (HS1.out k b1 b2)
      generalize sinceP (ms.map Me.says) k = SI at *
      generalize untilP (ms.map Me.says) k = UN at *
      go_upto_region 9 with (first | (go_at_call 35; refine (HBk.out _ HB.out).mono ?_; rintro e w5 ⟨rfl, hb⟩; have HS5 := Lib.hid hb.size; clear hc2; replace HX2 := Lib.hid (blk_keep HX2.out hb); replace HX3 := Lib.hid (blk_keep HX3.out hb); (try replace HX5 := Lib.hid (blk_keep HX5.out hb)); replace HO := Lib.hid (HO.out.below hb); replace HT1 := Lib.hid (blk_keep HT1.out hb); replace HT2 := Lib.hid (blk_keep HT2.out hb); replace HB := Lib.hid (HB.out.trans (hb.mono HB.out.size)); clear hb) | (go_at_call 68; refine (HSk.out _ HB.out HT1.out HT2.out).mono ?_; rintro e w6 ⟨rfl, hb⟩; have HS6 := Lib.hid (Nat.le_trans HS5.out hb.size); replace HX2 := Lib.hid (blk_keep HX2.out hb); replace HX3 := Lib.hid (blk_keep HX3.out hb); (try replace HX5 := Lib.hid (blk_keep HX5.out hb)); replace HO := Lib.hid (HO.out.below hb); replace HT1 := Lib.hid (blk_keep HT1.out hb); replace HT2 := Lib.hid (blk_keep HT2.out hb); replace HB := Lib.hid (HB.out.trans (hb.mono HB.out.size)); clear hb))
      have hs6 := HS6.out
      have HX5 := Lib.hid (heap_alloc_new w6 (.cells #[.int .i64 ((P k).1).n, .int .i64 ((P k).1).d] 32 (0, 0)))
      have hbb := ((Below.refl w6.heap.size w6).alloc (Nat.le_refl _) (.cells #[.int .i64 ((P k).1).n, .int .i64 ((P k).1).d] 32 (0, 0)))
      replace HX2 := Lib.hid (blk_keep HX2.out hbb); replace HX3 := Lib.hid (blk_keep HX3.out hbb); replace HT1 := Lib.hid (blk_keep HT1.out hbb); replace HT2 := Lib.hid (blk_keep HT2.out hbb); replace HB := Lib.hid (HB.out.trans (hbb.mono HB.out.size)); replace HO := Lib.hid (HO.out.below hbb)
      have hsz2 := hbb.size
      clear hbb
      generalize w6.alloc (.cells #[.int .i64 ((P k).1).n, .int .i64 ((P k).1).d] 32 (0, 0)) = wc at *
      generalize w6.heap.size = rb at *
      have hc3 := box_cells HX3.out; have hc5 := box_cells HX5.out
      by_cases he : (P k).2 = 0
      · have hq : ((P k).2 == 0) = true := by rw [he]; rfl
        have HCk := Lib.hid (HCm.out k he)
        have HA2 := Lib.hid (show ∀ j, j < k + 1 → (P j).2 = 0 from fun j hj => by
          rcases Nat.lt_or_ge j k with h | h
          · exact HA.out j h
          · rw [show j = k by omega]; exact he)
        clear he
        generalize cmpR (P k).1 need = cv at *
        have HSz := Lib.hid (show w'.heap.size ≤ wc.heap.size by omega)
        go_wp2_with (first | (go_at_call 40; refine (HCk.out _).mono ?_; rintro e w7 ⟨rfl, hb⟩; clear hc3 hc5; replace HSz := Lib.hid (Nat.le_trans HSz.out hb.size); replace HX2 := Lib.hid (blk_keep HX2.out hb); replace HX3 := Lib.hid (blk_keep HX3.out hb); (try replace HX5 := Lib.hid (blk_keep HX5.out hb)); replace HO := Lib.hid (HO.out.below hb); replace HT1 := Lib.hid (blk_keep HT1.out hb); replace HT2 := Lib.hid (blk_keep HT2.out hb); replace HB := Lib.hid (HB.out.trans (hb.mono HB.out.size)); clear hb) | (at_builtin; go_must (refine appE eltBo rfl (.tmp 61) (.tmp 64) rfl w'.heap.size _ L rfl (HO.out.below ((Below.refl _ _).alloc (Nat.le_refl _) _)) _ _ _ [decide (0 ≤ cv)] rfl rfl (fun e => by cases e) (eltBo.new _ (decide (0 ≤ cv)) _ _ rfl) (by simp; omega) (by have := HSz.out; simp; omega) ?_); intro v2 w2 ho2 hg2))
        have hg2s := hg2.size
        have hs7 := HSz.out
        go_roundw
        case rel =>
          refine ⟨k + 1, by omega, by go_num, HA2, by rw [HSu.out]; exact ho2, ?_, ?_, ?_, ?_, ?_, by simp at hg2s; omega⟩
          · exact (hg2.block _ (by have := lt_blk HX2.out; simp; omega) (HO.out.neBlk (by omega))).trans (up_alloc HX2.out _)
          · exact (hg2.block _ (by have := lt_blk HX3.out; simp; omega) (HO.out.neBlk (by omega))).trans (up_alloc HX3.out _)
          · exact (hg2.block _ (by have := lt_blk HT1.out; simp; omega) (HO.out.neBlk (by omega))).trans (up_alloc HT1.out _)
          · exact (hg2.block _ (by have := lt_blk HT2.out; simp; omega) (HO.out.neBlk (by omega))).trans (up_alloc HT2.out _)
          · exact (HB.out.alloc HB.out.size _).grown hg2 (by have := HB.out.size; simp; omega) (fun r e => by have := (HO.out.lt r e).1; omega)
        case measure => simp [intOf]; omega
      · have hq : ((P k).2 == 0) = false := by rw [← Bool.not_eq_true, beq_iff_eq]; exact he
        have HF := Lib.hid (HG.out.no k hlt he)
        clear he
        go_wp2
        go_ret2
        rw [HF.out]
        exact RetSlI.none HB.out
    · obtain rfl : k = ms.length := by omega
      have HF := Lib.hid (HG.out.yes HA.out)
      go_wp2
      go_ret2
      rw [HF.out]
      exact HO.out.retSlI rfl HB.out
set_option maxHeartbeats 4000000 in
set_option maxRecDepth 100000 in
theorem PGood25_any (s : Sc) (q : Sp) (part : Int) (a : Option Addr) (cap : Nat) (ms : List Me) (ta : Option Addr) (tcap : Nat) (l : List Te) (need : Rt) (w : World) (h : TurnW w s q ta l a ms) :
    Calls Tryz.prog 13 #[.agg #[.int .i64 s.version, .slice q.ab s.bars.length q.cb, .slice q.ap s.parts.length q.cp, .slice q.an s.notes.length q.cn], .slice ta l.length tcap, .agg #[.int .i64 part, .slice a ms.length cap], .agg #[.int .i64 need.n, .int .i64 need.d]] w (RetSlI 1 ((goodF s part (ms.map Me.says) l need).1.map boRow) (goodF s part (ms.map Me.says) l need).2 w) := by
  by_cases hg : okT s part (ms.map Me.says) l = true ∧ rtOk need = true ∧ 0 ≤ need.n
  · obtain ⟨h1, h2, h3⟩ := hg
    obtain ⟨b, off, rfl, _⟩ := h.me.get 0 (okT_v h1 h.ml h.nl).pos
    exact pGood_good s q part b off cap ms ta tcap l need w h h1 h2 h3
  have HF := Lib.hid (show goodF s part (ms.map Me.says) l need = ([], 1) from goodF_bad (by
    cases ho : okT s part (ms.map Me.says) l
    · exact .inl rfl
    · cases hr : rtOk need
      · exact .inr (.inl rfl)
      · exact .inr (.inr (by have : ¬ 0 ≤ need.n := fun e => hg ⟨ho, hr, e⟩; omega))))
  have HTi := Lib.hid (fun V (hV : Below w.heap.size w V) => timer_any s q part a cap ms ta tcap l V (h.below hV))
  have HVn := Lib.hid (fun V => show Calls Tryz.prog 39 #[.agg #[.int .i64 need.n, .int .i64 need.d]] V fun e w' => e = .returned (.bool (rtOk need)) ∧ Below V.heap.size V w' from RatValid_any need.n need.d V)
  rw [HF.out]
  generalize okT s part (ms.map Me.says) l = OK at *
  generalize rtOk need = RO at *
  clear h HF
  obtain ⟨x1, x2, x3, hb⟩ := box3 (w := w) (A := .cells #[.int .i64 s.version, .slice q.ab s.bars.length q.cb, .slice q.ap s.parts.length q.cp, .slice q.an s.notes.length q.cn] 26) (B := .cells #[.int .i64 part, .slice a ms.length cap] 30 (0, 0)) (C := .cells #[.int .i64 (need).n, .int .i64 (need).d] 32 (0, 0)) (Below.refl _ _)
  have HX1 := Lib.hid x1; have HX2 := Lib.hid x2; have HX3 := Lib.hid x3; have HB := Lib.hid hb
  clear x1 x2 x3 hb
  obtain ⟨ab, cb, ap, cp, an, cn⟩ := q
  try dsimp only at *
  go_enter Tryz.func13, Tryz.ntmps13
  go_upto_region 1 with (fail)
  generalize ((w.alloc (.cells #[.int .i64 s.version, .slice (⟨ab, cb, ap, cp, an, cn⟩ : Sp).ab s.bars.length (⟨ab, cb, ap, cp, an, cn⟩ : Sp).cb, .slice (⟨ab, cb, ap, cp, an, cn⟩ : Sp).ap s.parts.length (⟨ab, cb, ap, cp, an, cn⟩ : Sp).cp, .slice (⟨ab, cb, ap, cp, an, cn⟩ : Sp).an s.notes.length (⟨ab, cb, ap, cp, an, cn⟩ : Sp).cn] 26)).alloc (.cells #[.int .i64 part, .slice a ms.length cap] 30 (0, 0))).alloc (.cells #[.int .i64 (need).n, .int .i64 (need).d] 32 (0, 0)) = W at *
  have hc1 := box_cells HX1.out; have hc2 := box_cells HX2.out; have hc3 := box_cells HX3.out
  try dsimp only at hc1
  cases OK
  case false =>
    clear hg
    go_wp2_with (go_at_call 34; refine (HTi.out _ HB.out).mono ?_; rintro e w' ⟨hb, hno, hyes⟩; obtain rfl := hno rfl; clear hno hyes hc1 hc2 hc3; replace HB := Lib.hid (HB.out.trans (hb.mono HB.out.size)); clear hb)
    go_ret2
    exact RetSlI.none HB.out
  case true =>
    have hcase : RO = false ∨ (RO = true ∧ need.n < 0) := by
      cases RO
      · exact .inl rfl
      · exact .inr ⟨rfl, by have : ¬ 0 ≤ need.n := fun e => hg ⟨rfl, rfl, e⟩; omega⟩
    clear hg
    rcases hcase with rfl | ⟨rfl, h1⟩
    all_goals
      go_wp2_with (first | (go_at_call 34; refine (HTi.out _ HB.out).mono ?_; rintro e w' ⟨hb, hno, hyes⟩; obtain ⟨b1, b2, g1, g2, g3, g4, rfl, z1, z2⟩ := hyes rfl; clear hno hyes hc1 hc2 hc3 z1 z2; replace HX1 := Lib.hid (blk_keep HX1.out hb); replace HX2 := Lib.hid (blk_keep HX2.out hb); replace HX3 := Lib.hid (blk_keep HX3.out hb); (try replace HO := Lib.hid (HO.out.below hb)); (try replace HT1 := Lib.hid (blk_keep HT1.out hb)); (try replace HT2 := Lib.hid (blk_keep HT2.out hb)); replace HB := Lib.hid (HB.out.trans (hb.mono HB.out.size)); clear hb; have hc3 := box_cells HX3.out) | (go_at_call 39; refine (HVn.out _).mono ?_; rintro e w' ⟨rfl, hb⟩; clear hc3; replace HX1 := Lib.hid (blk_keep HX1.out hb); replace HX2 := Lib.hid (blk_keep HX2.out hb); replace HX3 := Lib.hid (blk_keep HX3.out hb); (try replace HO := Lib.hid (HO.out.below hb)); (try replace HT1 := Lib.hid (blk_keep HT1.out hb)); (try replace HT2 := Lib.hid (blk_keep HT2.out hb)); replace HB := Lib.hid (HB.out.trans (hb.mono HB.out.size)); clear hb; have hc3 := box_cells HX3.out))
      go_ret2
      exact RetSlI.none HB.out
end Go.Proofs.YtcelciomhngajaaGreatDoor

