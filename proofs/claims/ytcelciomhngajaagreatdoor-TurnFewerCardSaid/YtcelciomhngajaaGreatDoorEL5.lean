import Derived.Test.YtcelciomhngajaaGreatDoorEL2

/- The law TurnSame: walked. -/
namespace Go.Proofs.YtcelciomhngajaaGreatDoor
set_option linter.unusedSimpArgs false
set_option linter.unusedVariables false
open Go.RowKit Go.Sort

theorem free_err {bars : List Ba} {l : List Te} {ms : List MeP} {k : Nat} {FF : (Rt × Rt) × Int} (h : freeR bars l ms k = FF) : FF.2 = 0 ∨ FF.2 = 3 := by
  subst h
  rcases free_cases (bars := bars) (l := l) (ms := ms) k with ⟨a, b, e⟩ | e
  · rw [e]; exact .inl rfl
  · exact .inr e
theorem same_both {bars : List Ba} {l : List Te} {ms : List MeP} (ht : temposB bars l = true) (hv : VwOk bars ms) {k : Nat} (hk : k < bars.length) (h : (ms.getD k default).notes = []) {a b c d : Rt} (h1 : freeR bars l ms k = ((a, b), 0)) (h2 : freeR bars l ms (k + 1) = ((c, d), 0)) : addR2 c d = addR2 a b := by
  rw [free_sum ht hv (by omega) h1, free_sum ht hv (by omega) h2, same_sum (by rw [hv.len]; exact hk) h]
theorem some_both {bars : List Ba} {l : List Te} {ms : List MeP} (ht : temposB bars l = true) (hv : VwOk bars ms) {k : Nat} (hk : k < bars.length) (h : (ms.getD k default).notes ≠ []) {a b c d : Rt} (h1 : freeR bars l ms k = ((a, b), 0)) (h2 : freeR bars l ms (k + 1) = ((c, d), 0)) (h3 : (secR bars l (startP k) (startP (k + 1))).2 = 0) :
    rtOk b = true ∧ rtOk c = true ∧ rtOk (secR bars l (startP k) (startP (k + 1))).1 = true ∧ cmpR b (secR bars l (startP k) (startP (k + 1))).1 < 0 ∧ cmpR c (secR bars l (startP k) (startP (k + 1))).1 < 0 := by
  obtain ⟨w, hw⟩ : ∃ w, w ∈ (ms.getD k default).notes := by
    cases e : (ms.getD k default).notes with
    | nil => exact absurd e h
    | cons w t => exact ⟨w, List.mem_cons_self⟩
  obtain ⟨e1, e2⟩ := some_less ht hv hk hw
  have f1 := (free_ok ht hv (by omega) h1).2
  have f2 := (free_ok ht hv (by omega) h2).1
  have f3 : redR (barN l bars k) 100800 = ((secR bars l (startP k) (startP (k + 1))).1, 0) := (bar_is ht hk).symm.trans (Prod.ext rfl h3)
  exact ⟨(redR_ok (by decide) f1).1, (redR_ok (by decide) f2).1, (redR_ok (by decide) f3).1, (cmp_red (by decide) f1 f3).1.2 e1, (cmp_red (by decide) f2 f3).1.2 e2⟩
set_option maxRecDepth 100000 in
set_option maxHeartbeats 8000000 in
theorem TurnSame_any (s : Sc) (q : Sp) (ta : Option Addr) (tcap : Nat) (l : List Te) (k j : Nat) (hk : k ≤ 255) (hj : j ≤ 255) (w : World) (hs : ScAt w s q) (ht : TeAt w ta l) (hE : Env w) :
    Calls Tryz.prog 6 #[.agg #[.int .i64 s.version, .slice q.ab s.bars.length q.cb, .slice q.ap s.parts.length q.cp, .slice q.an s.notes.length q.cn], .slice ta l.length tcap, .int .u8 k, .int .u8 j] w fun e w' => e = .returned (.bool true) ∧ Below w.heap.size w w' := by
  have HX1 := Lib.hid (heap_alloc_new w (.cells #[.int .i64 s.version, .slice q.ab s.bars.length q.cb, .slice q.ap s.parts.length q.cp, .slice q.an s.notes.length q.cn] 26))
  have HB := Lib.hid ((Below.refl w.heap.size w).alloc (Nat.le_refl _) (.cells #[.int .i64 s.version, .slice q.ab s.bars.length q.cb, .slice q.ap s.parts.length q.cp, .slice q.an s.notes.length q.cn] 26))
  have HHd := Lib.hid (fun W (hb : Below w.heap.size w W) => head25_any W (hE.below hb))
  cases hu : useB s l
  · have HUn := Lib.hid (fun W (hb : Below w.heap.size w W) => usable_no s q ta tcap l k W (hs.below hb) (ht.below hb) hu)
    clear hs hE ht hu
    obtain ⟨ab, cb, ap, cp, an, cn⟩ := q
    try dsimp only at *
    go_enter Tryz.func6, Tryz.ntmps6
    go_upto_region 1 with (fail)
    generalize w.alloc (.cells #[.int .i64 s.version, .slice (⟨ab, cb, ap, cp, an, cn⟩ : Sp).ab s.bars.length (⟨ab, cb, ap, cp, an, cn⟩ : Sp).cb, .slice (⟨ab, cb, ap, cp, an, cn⟩ : Sp).ap s.parts.length (⟨ab, cb, ap, cp, an, cn⟩ : Sp).cp, .slice (⟨ab, cb, ap, cp, an, cn⟩ : Sp).an s.notes.length (⟨ab, cb, ap, cp, an, cn⟩ : Sp).cn] 26) = W at *
    (try have hc1 := box_cells HX1.out); (try have hc3 := box_cells HX3.out); (try have hc4 := box_cells HX4.out); (try have hc5 := box_cells HX5.out); (try have hc6 := box_cells HX6.out)
    go_wp2_with (first | (go_at_call 9; refine (HHd.out _ HB.out).mono ?_; rintro e w2 ⟨rfl, hb⟩; (try clear hc1); (try clear hc2); (try clear hc3); (try clear hc4); (try clear hc5); (try clear hc6); (try replace hb := drewB hb); (try replace HX1 := Lib.hid (blk_keep HX1.out hb)); (try replace HX3 := Lib.hid (blk_keep HX3.out hb)); (try replace HX4 := Lib.hid (blk_keep HX4.out hb)); (try replace HX5 := Lib.hid (blk_keep HX5.out hb)); (try replace HX6 := Lib.hid (blk_keep HX6.out hb)); (try replace HC := Lib.hid (HC.out.trans (hb.mono HC.out.size))); replace HB := Lib.hid (HB.out.trans (hb.mono HB.out.size)); clear hb; (try have hc1 := box_cells HX1.out); (try have hc3 := box_cells HX3.out); (try have hc4 := box_cells HX4.out); (try have hc5 := box_cells HX5.out); (try have hc6 := box_cells HX6.out)) | (go_at_call 16; refine (HUn.out _ HB.out).mono ?_; rintro e w3 ⟨rfl, hb⟩; (try clear hc1); (try clear hc2); (try clear hc3); (try clear hc4); (try clear hc5); (try clear hc6); (try replace hb := drewB hb); (try replace HX1 := Lib.hid (blk_keep HX1.out hb)); (try replace HX3 := Lib.hid (blk_keep HX3.out hb)); (try replace HX4 := Lib.hid (blk_keep HX4.out hb)); (try replace HX5 := Lib.hid (blk_keep HX5.out hb)); (try replace HX6 := Lib.hid (blk_keep HX6.out hb)); (try replace HC := Lib.hid (HC.out.trans (hb.mono HC.out.size))); replace HB := Lib.hid (HB.out.trans (hb.mono HB.out.size)); clear hb; (try have hc1 := box_cells HX1.out); (try have hc3 := box_cells HX3.out); (try have hc4 := box_cells HX4.out); (try have hc5 := box_cells HX5.out); (try have hc6 := box_cells HX6.out)))
    go_ret
    exact ⟨rfl, (HB.out.alloc (by have := HB.out.size; omega) _)⟩
  obtain ⟨hnp, hnb1, hnb2, htem⟩ := use_parts hu
  obtain ⟨ip, hip, _, _, hmod⟩ := modT_lt hnp k
  obtain ⟨p, hpe⟩ : ∃ p, s.parts[ip] = p := ⟨_, rfl⟩
  have HUs := Lib.hid (fun W (hb : Below w.heap.size w W) => usable_use s q ta tcap l k hk W (hs.below hb) (ht.below hb) (hE.below hb) hu ip hip hmod p hpe)
  have HRa := Lib.hid (fun n d V => rat25_any n d V)
  clear hs hE ht hu hmod hpe hnp htem hip
  obtain ⟨jp, hjp, hrj, hrj2, _⟩ := modT_lt hnb1 j
  have hwj : IntKind.i64.wrap (j : Int) = (j : Int) := IntWalk.i64_in _ (by omega)
  have hw1 : IntKind.i64.wrap ((jp : Int) + 1) = (jp : Int) + 1 := IntWalk.i64_in _ (by omega)
  have hn0 : ((s.bars.length : Int) == 0) = false := by simp; intro e; rw [e] at hnb1; simp at hnb1
  have hz : ¬ s.bars.length = 0 := by omega
  have hn1 : ¬ s.bars = [] := fun e => by rw [e] at hnb1; simp at hnb1
  have hjL : j < 256 := by omega
  obtain ⟨ab, cb, ap, cp, an, cn⟩ := q
  try dsimp only at *
  go_enter Tryz.func6, Tryz.ntmps6
  go_upto_region 1 with (fail)
  generalize w.alloc (.cells #[.int .i64 s.version, .slice (⟨ab, cb, ap, cp, an, cn⟩ : Sp).ab s.bars.length (⟨ab, cb, ap, cp, an, cn⟩ : Sp).cb, .slice (⟨ab, cb, ap, cp, an, cn⟩ : Sp).ap s.parts.length (⟨ab, cb, ap, cp, an, cn⟩ : Sp).cp, .slice (⟨ab, cb, ap, cp, an, cn⟩ : Sp).an s.notes.length (⟨ab, cb, ap, cp, an, cn⟩ : Sp).cn] 26) = W at *
  (try have hc1 := box_cells HX1.out); (try have hc3 := box_cells HX3.out); (try have hc4 := box_cells HX4.out); (try have hc5 := box_cells HX5.out); (try have hc6 := box_cells HX6.out)
  go_upto_region 3 with (first | (go_at_call 9; refine (HHd.out _ HB.out).mono ?_; rintro e w2 ⟨rfl, hb⟩; (try clear hc1); (try clear hc2); (try clear hc3); (try clear hc4); (try clear hc5); (try clear hc6); (try replace hb := drewB hb); (try replace HX1 := Lib.hid (blk_keep HX1.out hb)); (try replace HX3 := Lib.hid (blk_keep HX3.out hb)); (try replace HX4 := Lib.hid (blk_keep HX4.out hb)); (try replace HX5 := Lib.hid (blk_keep HX5.out hb)); (try replace HX6 := Lib.hid (blk_keep HX6.out hb)); (try replace HC := Lib.hid (HC.out.trans (hb.mono HC.out.size))); replace HB := Lib.hid (HB.out.trans (hb.mono HB.out.size)); clear hb; (try have hc1 := box_cells HX1.out); (try have hc3 := box_cells HX3.out); (try have hc4 := box_cells HX4.out); (try have hc5 := box_cells HX5.out); (try have hc6 := box_cells HX6.out)) | (go_at_call 16; refine (HUs.out _ HB.out).mono ?_; rintro e w3 ⟨a, cap, ms, rfl, huse, hb⟩; have HUw := Lib.hid huse; clear huse; (try clear hc1); (try clear hc2); (try clear hc3); (try clear hc4); (try clear hc5); (try clear hc6); (try replace hb := drewB hb); (try replace HX1 := Lib.hid (blk_keep HX1.out hb)); (try replace HX3 := Lib.hid (blk_keep HX3.out hb)); (try replace HX4 := Lib.hid (blk_keep HX4.out hb)); (try replace HX5 := Lib.hid (blk_keep HX5.out hb)); (try replace HX6 := Lib.hid (blk_keep HX6.out hb)); (try replace HC := Lib.hid (HC.out.trans (hb.mono HC.out.size))); replace HB := Lib.hid (HB.out.trans (hb.mono HB.out.size)); clear hb; (try have hc1 := box_cells HX1.out); (try have hc3 := box_cells HX3.out); (try have hc4 := box_cells HX4.out); (try have hc5 := box_cells HX5.out); (try have hc6 := box_cells HX6.out)))
  have hb := (Below.refl w3.heap.size w3).alloc (Nat.le_refl _) (.cells #[.int .i64 p.id, .slice a ms.length cap] 30 (0, 0))
  replace HUw := Lib.hid (HUw.out.below hb)
  have hqm : ((ms.length : Int) != (s.bars.length : Int)) = false := by rw [HUw.out.len]; simp
  have hlm : (jp : Int) < (ms.length : Int) := by rw [HUw.out.len]; omega
  clear hb
  have x4 := heap_alloc_new w3 (.cells #[.int .i64 p.id, .slice a ms.length cap] 30 (0, 0)); have hb := (Below.refl (w3).heap.size w3).alloc (Nat.le_refl _) (.cells #[.int .i64 p.id, .slice a ms.length cap] 30 (0, 0)); (try clear hc1); (try clear hc2); (try clear hc3); (try clear hc4); (try clear hc5); (try clear hc6); (try replace hb := drewB hb); (try replace HX1 := Lib.hid (blk_keep HX1.out hb)); (try replace HX3 := Lib.hid (blk_keep HX3.out hb)); (try replace HX4 := Lib.hid (blk_keep HX4.out hb)); (try replace HX5 := Lib.hid (blk_keep HX5.out hb)); (try replace HX6 := Lib.hid (blk_keep HX6.out hb)); (try replace HC := Lib.hid (HC.out.trans (hb.mono HC.out.size))); replace HB := Lib.hid (HB.out.trans (hb.mono HB.out.size)); clear hb; have HX4 := Lib.hid x4; clear x4; generalize World.alloc w3 (.cells #[.int .i64 p.id, .slice a ms.length cap] 30 (0, 0)) = W4 at *; generalize World.heap w3 = vh at *; (try have hc1 := box_cells HX1.out); (try have hc3 := box_cells HX3.out); (try have hc4 := box_cells HX4.out); (try have hc5 := box_cells HX5.out); (try have hc6 := box_cells HX6.out)
  have HC := Lib.hid (Below.refl W4.heap.size W4)
  obtain ⟨FX, hFX⟩ : ∃ FX, freeR s.bars l (viewL s p) jp = FX := ⟨_, rfl⟩
  obtain ⟨FY, hFY⟩ : ∃ FY, freeR s.bars l (viewL s p) (jp + 1) = FY := ⟨_, rfl⟩
  obtain ⟨BR, hBR⟩ : ∃ BR, secR s.bars l (startP jp) (startP (jp + 1)) = BR := ⟨_, rfl⟩
  have HF1 := Lib.hid (fun V (hV : Below W4.heap.size W4 V) => free_use (cap := cap) (tcap := tcap) (HUw.out.below hV) (Nat.le_of_lt hjp) hFX)
  have HF2 := Lib.hid (fun V (hV : Below W4.heap.size W4 V) => show Calls Tryz.prog 11 #[.agg #[.int .i64 s.version, .slice (⟨ab, cb, ap, cp, an, cn⟩ : Sp).ab s.bars.length (⟨ab, cb, ap, cp, an, cn⟩ : Sp).cb, .slice (⟨ab, cb, ap, cp, an, cn⟩ : Sp).ap s.parts.length (⟨ab, cb, ap, cp, an, cn⟩ : Sp).cp, .slice (⟨ab, cb, ap, cp, an, cn⟩ : Sp).an s.notes.length (⟨ab, cb, ap, cp, an, cn⟩ : Sp).cn], .slice ta l.length tcap, .agg #[.int .i64 p.id, .slice a ms.length cap], .int .i64 ((jp : Int) + 1)] V (fun e w' => e = .returned (.tuple #[.agg #[.int .i64 (FY).1.1.n, .int .i64 (FY).1.1.d, .int .i64 (FY).1.2.n, .int .i64 (FY).1.2.d], .int .i64 (FY).2]) ∧ Below V.heap.size V w') from by have h := free_use (cap := cap) (tcap := tcap) (k := jp + 1) (HUw.out.below hV) hjp hFY; rwa [Int.natCast_add] at h)
  have HSc := Lib.hid (fun V (hV : Below W4.heap.size W4 V) => show Calls Tryz.prog 23 #[.slice ab s.bars.length cb, .slice ta l.length tcap, .agg #[.int .i64 (jp : Int), .int .i64 0, .int .i64 1], .agg #[.int .i64 ((jp : Int) + 1), .int .i64 0, .int .i64 1]] V (fun e w' => e = .returned (.tuple #[.agg #[.int .i64 (BR.1).n, .int .i64 (BR.1).d], .int .i64 BR.2]) ∧ Below V.heap.size V w') from by have hT := (HUw.out.below hV).tw; have h := pSec_any ab cb s.bars ta tcap l (startP jp) (startP (jp + 1)) V (Nat.le_trans hT.few.bars (by decide)) (Nat.le_trans hT.tl (by decide)) hT.sc.bars hT.te; rw [hBR] at h; exact h)
  have hx3 := free_err hFX
  have hy3 := free_err hFY
  have HSa := Lib.hid (fun (he : ((viewL s p).getD jp default).notes = []) (a b c d : Rt) (h1 : FX = ((a, b), 0)) (h2 : FY = ((c, d), 0)) => same_both HUw.out.tem HUw.out.vw hjp he (hFX.trans h1) (hFY.trans h2))
  have HSo := Lib.hid (fun (he : ((viewL s p).getD jp default).notes ≠ []) (a b c d : Rt) (h1 : FX = ((a, b), 0)) (h2 : FY = ((c, d), 0)) (h3 : BR.2 = 0) => (by have h := some_both HUw.out.tem HUw.out.vw hjp he (hFX.trans h1) (hFY.trans h2) (by rw [hBR]; exact h3); rw [hBR] at h; exact h : rtOk b = true ∧ rtOk c = true ∧ rtOk BR.1 = true ∧ cmpR b BR.1 < 0 ∧ cmpR c BR.1 < 0))
  clear hFX hFY hBR
  obtain ⟨⟨⟨n1, d1⟩, ⟨n2, d2⟩⟩, fx⟩ := FX
  obtain ⟨⟨⟨m1, e1⟩, ⟨m2, e2⟩⟩, fy⟩ := FY
  obtain ⟨⟨bn, bd⟩, be⟩ := BR
  dsimp only at HF1 HF2 hx3 hy3 HSc HSo
  go_upto_region 7 with (go_at_call 11; refine (HF1.out _ HC.out).mono ?_; rintro e w6 ⟨rfl, hb⟩; (try clear hc1); (try clear hc2); (try clear hc3); (try clear hc4); (try clear hc5); (try clear hc6); (try replace hb := drewB hb); (try replace HX1 := Lib.hid (blk_keep HX1.out hb)); (try replace HX3 := Lib.hid (blk_keep HX3.out hb)); (try replace HX4 := Lib.hid (blk_keep HX4.out hb)); (try replace HX5 := Lib.hid (blk_keep HX5.out hb)); (try replace HX6 := Lib.hid (blk_keep HX6.out hb)); (try replace HC := Lib.hid (HC.out.trans (hb.mono HC.out.size))); replace HB := Lib.hid (HB.out.trans (hb.mono HB.out.size)); clear hb; (try have hc1 := box_cells HX1.out); (try have hc3 := box_cells HX3.out); (try have hc4 := box_cells HX4.out); (try have hc5 := box_cells HX5.out); (try have hc6 := box_cells HX6.out))
  have x4 := heap_alloc_new w6 (.cells #[.int .i64 n1, .int .i64 d1, .int .i64 n2, .int .i64 d2] 36 (0, 0)); have hb := (Below.refl (w6).heap.size w6).alloc (Nat.le_refl _) (.cells #[.int .i64 n1, .int .i64 d1, .int .i64 n2, .int .i64 d2] 36 (0, 0)); (try clear hc1); (try clear hc2); (try clear hc3); (try clear hc4); (try clear hc5); (try clear hc6); (try replace hb := drewB hb); (try replace HX1 := Lib.hid (blk_keep HX1.out hb)); (try replace HX3 := Lib.hid (blk_keep HX3.out hb)); (try replace HX4 := Lib.hid (blk_keep HX4.out hb)); (try replace HX5 := Lib.hid (blk_keep HX5.out hb)); (try replace HX6 := Lib.hid (blk_keep HX6.out hb)); (try replace HC := Lib.hid (HC.out.trans (hb.mono HC.out.size))); replace HB := Lib.hid (HB.out.trans (hb.mono HB.out.size)); clear hb; have HX3 := Lib.hid x4; clear x4; generalize World.alloc w6 (.cells #[.int .i64 n1, .int .i64 d1, .int .i64 n2, .int .i64 d2] 36 (0, 0)) = W6 at *; generalize World.heap w6 = h6 at *; (try have hc1 := box_cells HX1.out); (try have hc3 := box_cells HX3.out); (try have hc4 := box_cells HX4.out); (try have hc5 := box_cells HX5.out); (try have hc6 := box_cells HX6.out)
  go_upto_region 8 with (go_at_call 11; refine (HF2.out _ HC.out).mono ?_; rintro e w7 ⟨rfl, hb⟩; (try clear hc1); (try clear hc2); (try clear hc3); (try clear hc4); (try clear hc5); (try clear hc6); (try replace hb := drewB hb); (try replace HX1 := Lib.hid (blk_keep HX1.out hb)); (try replace HX3 := Lib.hid (blk_keep HX3.out hb)); (try replace HX4 := Lib.hid (blk_keep HX4.out hb)); (try replace HX5 := Lib.hid (blk_keep HX5.out hb)); (try replace HX6 := Lib.hid (blk_keep HX6.out hb)); (try replace HC := Lib.hid (HC.out.trans (hb.mono HC.out.size))); replace HB := Lib.hid (HB.out.trans (hb.mono HB.out.size)); clear hb; (try have hc1 := box_cells HX1.out); (try have hc3 := box_cells HX3.out); (try have hc4 := box_cells HX4.out); (try have hc5 := box_cells HX5.out); (try have hc6 := box_cells HX6.out))
  have x4 := heap_alloc_new w7 (.cells #[.int .i64 m1, .int .i64 e1, .int .i64 m2, .int .i64 e2] 36 (0, 0)); have hb := (Below.refl (w7).heap.size w7).alloc (Nat.le_refl _) (.cells #[.int .i64 m1, .int .i64 e1, .int .i64 m2, .int .i64 e2] 36 (0, 0)); (try clear hc1); (try clear hc2); (try clear hc3); (try clear hc4); (try clear hc5); (try clear hc6); (try replace hb := drewB hb); (try replace HX1 := Lib.hid (blk_keep HX1.out hb)); (try replace HX3 := Lib.hid (blk_keep HX3.out hb)); (try replace HX4 := Lib.hid (blk_keep HX4.out hb)); (try replace HX5 := Lib.hid (blk_keep HX5.out hb)); (try replace HX6 := Lib.hid (blk_keep HX6.out hb)); (try replace HC := Lib.hid (HC.out.trans (hb.mono HC.out.size))); replace HB := Lib.hid (HB.out.trans (hb.mono HB.out.size)); clear hb; have HX5 := Lib.hid x4; clear x4; generalize World.alloc w7 (.cells #[.int .i64 m1, .int .i64 e1, .int .i64 m2, .int .i64 e2] 36 (0, 0)) = W5 at *; generalize World.heap w7 = h7 at *; (try have hc1 := box_cells HX1.out); (try have hc3 := box_cells HX3.out); (try have hc4 := box_cells HX4.out); (try have hc5 := box_cells HX5.out); (try have hc6 := box_cells HX6.out)
  clear HF1 HF2
  go_cut [17, 18] (fun s17 s18 V => ∃ rb, s17 = .pointer (some ⟨rb, 0, none⟩) ∧ s18 = .int .i64 be ∧ W5.heap.size ≤ rb ∧ V.heap[rb]? = some (.cells #[.int .i64 bn, .int .i64 bd] 32 (0, 0)) ∧ Below W5.heap.size W5 V)
  case first =>
    have HBr := Lib.hid (RowKit.Below.refl W5.heap.size W5)
    have j1 : W5.cell? ⟨w.heap.size, 1, none⟩ = some (.slice ab s.bars.length cb) := hc1 1
    have KS := Lib.hid (fun W (hb : RowKit.Below W5.heap.size W5 W) => show W.cell? ⟨w.heap.size, 1, none⟩ = some (.slice ab s.bars.length cb) from keepE j1 hb)
    have HSc2 := Lib.hid (fun V (hV : RowKit.Below W5.heap.size W5 V) => HSc.out V (HC.out.trans (hV.mono HC.out.size)))
    clear j1
    (try clear hc1); (try clear hc2); (try clear hc3); (try clear hc4); (try clear hc5); (try clear hc6)
    go_region_held3 (fun W => W.cell? ⟨w.heap.size, 1, none⟩ = some (.slice ab s.bars.length cb))
      ((refine KS.out _ ?_; (repeat (first | exact HBr.out | with_reducible exact RowKit.Below.refl _ _ | with_reducible refine RowKit.Below.drew ?_ | with_reducible refine RowKit.Below.alloc ?_ (by first | (simp <;> omega) | (have := HBr.out.size; simp <;> omega)) _ | with_reducible refine RowKit.Below.setCell ?_ (by first | exact HS9.out | (simp <;> omega) | (have := HBr.out.size; simp <;> omega)) _))))
      ((first | (go_at_call 18; refine (HRa.out _ _ _).mono ?_; rintro e w5 ⟨rfl, hb⟩; (try replace HX9 := Lib.hid (blk_keep HX9.out hb)); (try replace hb := drewB hb); (first | (have x0 := box_below hb; have HX9 := Lib.hid x0; have HS9 := Lib.hid HBr.out.size; clear x0; replace hb := allocB hb) | skip); (try replace hb := drewB hb); replace HBr := Lib.hid (HBr.out.trans (hb.mono HBr.out.size)); clear hb; (try clear hc9 hf9 hz9); (try (have hc9 := box_cells HX9.out; have hf9 := box_free HX9.out; have hz9 := lt_blk HX9.out))) | (go_at_call 23; refine (HSc2.out _ (by (repeat (first | exact HBr.out | with_reducible exact RowKit.Below.refl _ _ | with_reducible refine RowKit.Below.drew ?_ | with_reducible refine RowKit.Below.alloc ?_ (by first | (simp <;> omega) | (have := HBr.out.size; simp <;> omega)) _ | with_reducible refine RowKit.Below.setCell ?_ (by first | exact HS9.out | (simp <;> omega) | (have := HBr.out.size; simp <;> omega)) _)))).mono ?_; rintro e w5 ⟨rfl, hb⟩; (try replace HX9 := Lib.hid (blk_keep HX9.out hb)); (try replace hb := drewB hb); (first | (have x0 := box_below hb; have HX9 := Lib.hid x0; have HS9 := Lib.hid HBr.out.size; clear x0; replace hb := allocB hb) | skip); (try replace hb := drewB hb); replace HBr := Lib.hid (HBr.out.trans (hb.mono HBr.out.size)); clear hb; (try clear hc9 hf9 hz9); (try (have hc9 := box_cells HX9.out; have hf9 := box_free HX9.out; have hz9 := lt_blk HX9.out)))))
    all_goals
      go_wp2
      go_meet
      case rel =>
        first
        | exact ⟨_, rfl, rfl, HBr.out.size, heap_alloc_new _ _, HBr.out.alloc HBr.out.size _⟩
        | exact ⟨_, rfl, rfl, HS9.out, rat2_at HX9.out, rat2_below HBr.out HS9.out⟩
  case rest =>
  obtain ⟨rb, rfl, rfl, hrb, xr, hb⟩ := hcut
  (try clear hc1); (try clear hc2); (try clear hc3); (try clear hc4); (try clear hc5); (try clear hc6)
  (try replace hb := drewB hb); (try replace HX1 := Lib.hid (blk_keep HX1.out hb)); (try replace HX3 := Lib.hid (blk_keep HX3.out hb)); (try replace HX4 := Lib.hid (blk_keep HX4.out hb)); (try replace HX5 := Lib.hid (blk_keep HX5.out hb)); (try replace HX6 := Lib.hid (blk_keep HX6.out hb)); (try replace HC := Lib.hid (HC.out.trans (hb.mono HC.out.size))); replace HB := Lib.hid (HB.out.trans (hb.mono HB.out.size)); clear hb
  have HX6 := Lib.hid xr
  clear xr
  (try have hc1 := box_cells HX1.out); (try have hc3 := box_cells HX3.out); (try have hc4 := box_cells HX4.out); (try have hc5 := box_cells HX5.out); (try have hc6 := box_cells HX6.out)
  by_cases he1 : fx = 0
  · by_cases he2 : fy = 0
    · by_cases he3 : be = 0
      · subst he1 he2 he3
        have HGt := Lib.hid (HUw.out.tw.me.below HC.out)
        obtain ⟨b, off, hqa, _, _, _, _, _, c4⟩ := HGt.out.get jp (by omega)
        have hmn : ((viewL s p).getD jp default).notes = (ms[jp]'(by omega)).notes := by rw [← HUw.out.sy, says_getD ms (by omega)]; rfl
        rw [hmn] at HSa HSo
        subst hqa
        generalize (ms[jp]'(by omega)) = M at *
        have hlen : ∀ n : Nat, (decide ((n : Int) > 0)) = decide (0 < n) := fun n => by rw [decide_eq_decide]; omega
        by_cases hnl : M.notes = []
        · have hl0 : ¬ ((M.notes.length : Int) > 0) := by rw [hnl]; simp
          obtain ⟨P, hP⟩ : ∃ P, addR2 ⟨n1, d1⟩ ⟨n2, d2⟩ = P := ⟨_, rfl⟩
          have hP2 : addR2 ⟨m1, e1⟩ ⟨m2, e2⟩ = P := (HSa.out hnl ⟨n1, d1⟩ ⟨n2, d2⟩ ⟨m1, e1⟩ ⟨m2, e2⟩ rfl rfl).trans hP
          have HS1 := Lib.hid (fun V => sum25_any ⟨n1, d1⟩ ⟨n2, d2⟩ V P hP)
          have HS2 := Lib.hid (fun V => sum25_any ⟨m1, e1⟩ ⟨m2, e2⟩ V P hP2)
          clear hP hP2 HSa HSo hnl hmn hlen
          obtain ⟨⟨pn, pd⟩, pe⟩ := P
          dsimp only at HS1 HS2
          have heq := fun W => show (binOp .eql 32 (.agg #[.int .i64 pn, .int .i64 pd]) (.agg #[.int .i64 pn, .int .i64 pd])).run Tryz.prog W = .ok (.bool true) W from by rw [eql_rt]; simp
          go_upto_region 14 with (go_at_call 19; refine (HS1.out _).mono ?_; rintro e w8 ⟨rfl, hb⟩; clear c4; (try clear hc1); (try clear hc2); (try clear hc3); (try clear hc4); (try clear hc5); (try clear hc6); (try replace hb := drewB hb); (try replace HX1 := Lib.hid (blk_keep HX1.out hb)); (try replace HX3 := Lib.hid (blk_keep HX3.out hb)); (try replace HX4 := Lib.hid (blk_keep HX4.out hb)); (try replace HX5 := Lib.hid (blk_keep HX5.out hb)); (try replace HX6 := Lib.hid (blk_keep HX6.out hb)); (try replace HC := Lib.hid (HC.out.trans (hb.mono HC.out.size))); replace HB := Lib.hid (HB.out.trans (hb.mono HB.out.size)); clear hb; (try have hc1 := box_cells HX1.out); (try have hc3 := box_cells HX3.out); (try have hc4 := box_cells HX4.out); (try have hc5 := box_cells HX5.out); (try have hc6 := box_cells HX6.out))
          have x4 := heap_alloc_new w8 (.cells #[.int .i64 pn, .int .i64 pd] 32 (0, 0)); have hb := (Below.refl (w8).heap.size w8).alloc (Nat.le_refl _) (.cells #[.int .i64 pn, .int .i64 pd] 32 (0, 0)); (try clear hc1); (try clear hc2); (try clear hc3); (try clear hc4); (try clear hc5); (try clear hc6); (try replace hb := drewB hb); (try replace HX1 := Lib.hid (blk_keep HX1.out hb)); (try replace HX3 := Lib.hid (blk_keep HX3.out hb)); (try replace HX4 := Lib.hid (blk_keep HX4.out hb)); (try replace HX5 := Lib.hid (blk_keep HX5.out hb)); (try replace HX6 := Lib.hid (blk_keep HX6.out hb)); (try replace HC := Lib.hid (HC.out.trans (hb.mono HC.out.size))); replace HB := Lib.hid (HB.out.trans (hb.mono HB.out.size)); clear hb; have HX7 := Lib.hid x4; clear x4; generalize World.alloc w8 (.cells #[.int .i64 pn, .int .i64 pd] 32 (0, 0)) = W8 at *; generalize World.heap w8 = h8 at *; (try have hc1 := box_cells HX1.out); (try have hc3 := box_cells HX3.out); (try have hc4 := box_cells HX4.out); (try have hc5 := box_cells HX5.out); (try have hc6 := box_cells HX6.out)
          have hc7 := box_cells HX7.out
          go_upto_region 15 with (go_at_call 19; refine (HS2.out _).mono ?_; rintro e w9 ⟨rfl, hb⟩; clear hc7; replace HX7 := Lib.hid (blk_keep HX7.out hb); have hc7 := box_cells HX7.out; (try clear hc1); (try clear hc2); (try clear hc3); (try clear hc4); (try clear hc5); (try clear hc6); (try replace hb := drewB hb); (try replace HX1 := Lib.hid (blk_keep HX1.out hb)); (try replace HX3 := Lib.hid (blk_keep HX3.out hb)); (try replace HX4 := Lib.hid (blk_keep HX4.out hb)); (try replace HX5 := Lib.hid (blk_keep HX5.out hb)); (try replace HX6 := Lib.hid (blk_keep HX6.out hb)); (try replace HC := Lib.hid (HC.out.trans (hb.mono HC.out.size))); replace HB := Lib.hid (HB.out.trans (hb.mono HB.out.size)); clear hb; (try have hc1 := box_cells HX1.out); (try have hc3 := box_cells HX3.out); (try have hc4 := box_cells HX4.out); (try have hc5 := box_cells HX5.out); (try have hc6 := box_cells HX6.out))
          have hb := (Below.refl w9.heap.size w9).alloc (Nat.le_refl _) (.cells #[.int .i64 pn, .int .i64 pd] 32 (0, 0))
          clear hc7
          replace HX7 := Lib.hid (blk_keep HX7.out hb)
          clear hb
          have x4 := heap_alloc_new w9 (.cells #[.int .i64 pn, .int .i64 pd] 32 (0, 0)); have hb := (Below.refl (w9).heap.size w9).alloc (Nat.le_refl _) (.cells #[.int .i64 pn, .int .i64 pd] 32 (0, 0)); (try clear hc1); (try clear hc2); (try clear hc3); (try clear hc4); (try clear hc5); (try clear hc6); (try replace hb := drewB hb); (try replace HX1 := Lib.hid (blk_keep HX1.out hb)); (try replace HX3 := Lib.hid (blk_keep HX3.out hb)); (try replace HX4 := Lib.hid (blk_keep HX4.out hb)); (try replace HX5 := Lib.hid (blk_keep HX5.out hb)); (try replace HX6 := Lib.hid (blk_keep HX6.out hb)); (try replace HC := Lib.hid (HC.out.trans (hb.mono HC.out.size))); replace HB := Lib.hid (HB.out.trans (hb.mono HB.out.size)); clear hb; have HX8 := Lib.hid x4; clear x4; generalize World.alloc w9 (.cells #[.int .i64 pn, .int .i64 pd] 32 (0, 0)) = W9 at *; generalize World.heap w9 = h9 at *; (try have hc1 := box_cells HX1.out); (try have hc3 := box_cells HX3.out); (try have hc4 := box_cells HX4.out); (try have hc5 := box_cells HX5.out); (try have hc6 := box_cells HX6.out)
          have hc7 := box_cells HX7.out; have hc8 := box_cells HX8.out
          generalize hpp : (pe == 0) = pp at *
          cases pp
          all_goals
            go_wp2
            go_ret
            exact ⟨rfl, HB.out⟩
        · have hl0 : (M.notes.length : Int) > 0 := by have := List.length_pos_iff.2 hnl; omega
          obtain ⟨r1, r2, r3, r4, r5⟩ := HSo.out hnl ⟨n1, d1⟩ ⟨n2, d2⟩ ⟨m1, e1⟩ ⟨m2, e2⟩ rfl rfl rfl
          have HCx := Lib.hid (fun (x0 x1 : Int) V (hx : (x0 = n2 ∧ x1 = d2) ∨ (x0 = m1 ∧ x1 = e1)) => show Calls Tryz.prog 20 #[.agg #[.int .i64 x0, .int .i64 x1], .agg #[.int .i64 bn, .int .i64 bd]] V (fun e w' => ∃ g, e = .returned (.int .i64 g) ∧ g < 0 ∧ Below V.heap.size V w') from by
            rcases hx with ⟨rfl, rfl⟩ | ⟨rfl, rfl⟩
            · refine (tCmp_any ⟨x0, x1⟩ ⟨bn, bd⟩ V r1 r3).mono ?_
              rintro e w' ⟨rfl, hb⟩
              exact ⟨_, rfl, r4, hb⟩
            · refine (tCmp_any ⟨x0, x1⟩ ⟨bn, bd⟩ V r2 r3).mono ?_
              rintro e w' ⟨rfl, hb⟩
              exact ⟨_, rfl, r5, hb⟩)
          clear HSa HSo hnl hmn hlen r1 r2 r3 r4 r5
          go_wp2_with (go_at_call 20; refine (HCx.out _ _ _ (by first | exact .inl ⟨rfl, rfl⟩ | exact .inr ⟨rfl, rfl⟩)).mono ?_; rintro e w8 ⟨g, rfl, hg, hb⟩; (try clear hc1); (try clear hc2); (try clear hc3); (try clear hc4); (try clear hc5); (try clear hc6); (try replace hb := drewB hb); (try replace HX1 := Lib.hid (blk_keep HX1.out hb)); (try replace HX3 := Lib.hid (blk_keep HX3.out hb)); (try replace HX4 := Lib.hid (blk_keep HX4.out hb)); (try replace HX5 := Lib.hid (blk_keep HX5.out hb)); (try replace HX6 := Lib.hid (blk_keep HX6.out hb)); (try replace HC := Lib.hid (HC.out.trans (hb.mono HC.out.size))); replace HB := Lib.hid (HB.out.trans (hb.mono HB.out.size)); clear hb; (try have hc1 := box_cells HX1.out); (try have hc3 := box_cells HX3.out); (try have hc4 := box_cells HX4.out); (try have hc5 := box_cells HX5.out); (try have hc6 := box_cells HX6.out))
          go_ret
          exact ⟨rfl, HB.out⟩
      · have hq3 : (be != 0) = true := by rw [bne_iff_ne]; exact he3
        subst he1 he2
        go_wp2
        go_ret
        exact ⟨rfl, HB.out⟩
    · obtain rfl : fy = 3 := by omega
      subst he1
      go_wp2
      go_ret
      exact ⟨rfl, HB.out⟩
  · obtain rfl : fx = 3 := by omega
    rcases hy3 with rfl | rfl
    all_goals
      go_wp2
      go_ret
      exact ⟨rfl, HB.out⟩
end Go.Proofs.YtcelciomhngajaaGreatDoor

