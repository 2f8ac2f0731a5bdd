/- The reference's least ways (ways): walked, under prices that prove the rows before; the conditions are named. -/
import Derived.Test.YtkpgphadgomifaaMatchWays0
namespace Go.Proofs.Ytkpgphadgomifaa
set_option linter.unusedSimpArgs false
set_option linter.unusedVariables false
open Go.RowKit Go.Sort Go.Shelf

/-- How far all labels are together, read out of memory. -/
def dOf (w : World) (b k : Nat) : Int := match w.cell? ⟨b, k * 2, none⟩ with
  | some (.int _ x) => x
  | _ => 0
theorem RowD.dOf {w : World} {b n : Nat} {d f : Nat → Int} (r : RowD w b n d f) {k : Nat} (hk : k < n) : dOf w b k = d k := by
  unfold Go.Proofs.Ytkpgphadgomifaa.dOf
  rw [r.cellD hk]
def slack (n : Nat) (v d : Nat → Int) : Int := sumN (fun k => d k - v k) n
theorem slack_nonneg {n : Nat} {v d : Nat → Int} (h : ∀ k, k < n → v k ≤ d k) : 0 ≤ slack n v d := by
  have : sumN (fun _ => (0 : Int)) n ≤ sumN (fun k => d k - v k) n := sumN_le fun k hk => by have := h k hk; omega
  rw [sumN_zero (fun _ _ => rfl)] at this
  exact this
theorem slack_upd {n : Nat} {v d : Nat → Int} {m : Nat} {x : Int} (hm : m < n) (hx : x < d m) : slack n v (upd d m x) < slack n v d := by
  unfold slack
  have e : sumN (fun k => upd d m x k - v k) n = sumN (upd (fun k => d k - v k) m (x - v m)) n := sumN_congr fun k _ => by
    by_cases q : k = m
    · subst q; rw [upd_same, upd_same]
    · rw [upd_ne _ _ q, upd_ne _ _ q]
  rw [e, sumN_upd _ _ _ _ hm]; omega
theorem RowD.slack {w : World} {b n : Nat} {d f : Nat → Int} (r : RowD w b n d f) (v : Nat → Int) : slack n v (Go.Proofs.Ytkpgphadgomifaa.dOf w b) = slack n v d := sumN_congr fun k hk => by rw [r.dOf hk]
/-- What a pass over the columns below k has done. -/
def Pass (C : Nat → Nat → Int) (n : Nat) (v ow d0 d : Nat → Int) (more : Bool) (k : Nat) : Prop :=
  (more = false ∧ (∀ j, j < n → d j = d0 j) ∧ ∀ k', k' < k → ∀ o : Nat, ow k' = (o : Int) → d k' ≠ far → ∀ m, m < n → 0 ≤ C o m → d m ≤ d k' - C o k' + C o m) ∨ (more = true ∧ slack n v d < slack n v d0)
/-- .. and over the columns below m from the column k. -/
def PassIn (C : Nat → Nat → Int) (n : Nat) (v ow d0 d : Nat → Int) (more : Bool) (k o m : Nat) : Prop :=
  (more = false ∧ (∀ j, j < n → d j = d0 j) ∧ (∀ k', k' < k → ∀ o : Nat, ow k' = (o : Int) → d k' ≠ far → ∀ m, m < n → 0 ≤ C o m → d m ≤ d k' - C o k' + C o m) ∧ ∀ m', m' < m → 0 ≤ C o m' → d m' ≤ d k - C o k + C o m') ∨ (more = true ∧ slack n v d < slack n v d0)
theorem Pass.start (C : Nat → Nat → Int) (n : Nat) (v ow d : Nat → Int) : Pass C n v ow d d false 0 := .inl ⟨rfl, fun _ _ => rfl, fun k' hk => by omega⟩
theorem Pass.skip {C : Nat → Nat → Int} {n : Nat} {v ow d0 d : Nat → Int} {more : Bool} {k : Nat} (p : Pass C n v ow d0 d more k) (h : ow k < 0 ∨ d k = far) : Pass C n v ow d0 d more (k + 1) := by
  rcases p with ⟨a, b, c⟩ | p
  · refine .inl ⟨a, b, fun k' hk' o e hd => ?_⟩
    by_cases q : k' = k
    · subst q; rcases h with h | h
      · omega
      · exact absurd h hd
    · exact c k' (by omega) o e hd
  · exact .inr p
theorem Pass.into {C : Nat → Nat → Int} {n : Nat} {v ow d0 d : Nat → Int} {more : Bool} {k : Nat} (p : Pass C n v ow d0 d more k) (o : Nat) : PassIn C n v ow d0 d more k o 0 := by
  rcases p with ⟨a, b, c⟩ | p
  · exact .inl ⟨a, b, c, fun m hm => by omega⟩
  · exact .inr p
theorem PassIn.out {C : Nat → Nat → Int} {n : Nat} {v ow d0 d : Nat → Int} {more : Bool} {k o : Nat} (p : PassIn C n v ow d0 d more k o n) (ho : ow k = (o : Int)) : Pass C n v ow d0 d more (k + 1) := by
  rcases p with ⟨a, b, c, e⟩ | p
  · refine .inl ⟨a, b, fun k' hk' o' e' hd => ?_⟩
    by_cases q : k' = k
    · subst q
      have : o' = o := by omega
      subst this; exact e
    · exact c k' (by omega) o' e' hd
  · exact .inr p
theorem PassIn.next {C : Nat → Nat → Int} {n : Nat} {v ow d0 d : Nat → Int} {more : Bool} {k o m : Nat} (p : PassIn C n v ow d0 d more k o m) (h : 0 ≤ C o m → d m ≤ d k - C o k + C o m) : PassIn C n v ow d0 d more k o (m + 1) := by
  rcases p with ⟨a, b, c, e⟩ | p
  · refine .inl ⟨a, b, c, fun m' hm' hc => ?_⟩
    by_cases q : m' = m
    · subst q; exact h hc
    · exact e m' (by omega) hc
  · exact .inr p
theorem PassIn.less {C : Nat → Nat → Int} {n : Nat} {v ow d0 d : Nat → Int} {more : Bool} {k o m : Nat} {x : Int} (p : PassIn C n v ow d0 d more k o m) (hm : m < n) (hx : x < d m) : PassIn C n v ow d0 (upd d m x) true k o (m + 1) := by
  have h := slack_upd (v := v) hm hx
  rcases p with ⟨a, b, c, e⟩ | ⟨_, p⟩
  · have e : slack n v d = slack n v d0 := sumN_congr fun k hk => by rw [b k hk]
    exact .inr ⟨rfl, by omega⟩
  · exact .inr ⟨rfl, by omega⟩
theorem Pass.fix {C : Nat → Nat → Int} {n : Nat} {v ow d0 d : Nat → Int} (p : Pass C n v ow d0 d false n) : Fix C n ow d := by
  rcases p with ⟨_, _, c⟩ | ⟨h, _⟩
  · exact fun k hk o e hd m hm hc => c k hk o e hd m hm hc
  · cases h
/-- What ways says. -/
def WaysPost (c : List (List Int)) (r : Nat) (v ow : Nat → Int) (w : World) (e : Ending) (w' : World) : Prop :=
  ∃ (b : Nat) (d f : Nat → Int), e = .returned (.slice (some ⟨b, 0, none⟩) (wideL c) (wideL c)) ∧ w.heap.size ≤ b ∧ RowD w' b (wideL c) d f ∧ Below w.heap.size w w' ∧ Wy (cc c) (wideL c) r v ow d f ∧ Fix (cc c) (wideL c) ow d
def moreN : Value → Nat
  | .bool true => 1
  | _ => 0
theorem start_iff {C : Nat → Nat → Int} {r k : Nat} {x : Int} (h : C r k = x) : (if 0 ≤ C r k then C r k else far) = if 0 ≤ x then x else far := by rw [h]
set_option maxRecDepth 100000 in
set_option maxHeartbeats 8000000 in
theorem ways_any (a ao : Option Addr) (cap capo : Nat) (c : List (List Int)) (r : Nat) (u v ow : Nat → Int) (V : Int) (w : World) (he : formE c = 0) (hr : r < c.length) (hm : MatAt w a c) (ho : OwnC w ao (wideL c) ow) (p : Pot (cc c) (wideL c) r V u v ow) (hV : V ≤ 100000000000) :
    Calls Try.prog 39 #[.slice a c.length cap, .int .i64 r, .slice ao (wideL c) capo] w (WaysPost c r v ow w) := by
  obtain ⟨h200, hw200, hf, hf4⟩ := formE_ok he
  have hmk := make_steps (wideL c) hw200
  have HC := Lib.hid (cc_le hf hf4)
  have HM := Lib.hid hm; have HF := Lib.hid hf; have HOW := Lib.hid ho; have HPo := Lib.hid p; have HV := Lib.hid hV
  clear hm hf hf4 he ho p hV
  generalize hn : wideL c = n at *
  have HN := Lib.hid hn; clear hn
  go_enter Try.func39, Try.ntmps39
  go_wp2
  have HR := Lib.hid (RowD.made w n)
  have HB := Lib.hid ((Below.refl w.heap.size w).alloc (Nat.le_refl _) (.cells (madeCells #[.int .i64 0, .int .i64 0] (n * 2)) 65))
  generalize w.alloc (.cells (madeCells #[.int .i64 0, .int .i64 0] (n * 2)) 65) = W1 at *
  clear hmk
  go_loopw [10] (fun i wr => ∃ (k : Nat) (d f : Nat → Int), k ≤ n ∧ i = .int .i64 k ∧ RowD wr w.heap.size n d f ∧ Below w.heap.size w wr ∧ ∀ j, j < k → d j = (if 0 ≤ cc c r j then cc c r j else far) ∧ f j = (if 0 ≤ cc c r j then (r : Int) else -1)) (fun i _ => n - (intOf i).toNat)
  case atStart => exact ⟨0, _, _, Nat.zero_le _, rfl, HR.out, HB.out, fun j hj => by omega⟩
  case round =>
    clear HR HB
    obtain ⟨k, d, f, hk, rfl, hrw, hb, hst⟩ := hrel
    have HR := Lib.hid hrw; have HB := Lib.hid hb; have HS := Lib.hid hst
    clear hrw hb hst
    by_cases hlt : k < n
    · obtain ⟨bc, oc, ai, ci, rfl, c0, hsk, hik⟩ := HM.out.get r hr
      have hlen := HF.out c[r] (List.getElem_mem _)
      rw [hlen] at c0
      obtain ⟨b3, o3, rfl, e0⟩ := hik.get k (by omega)
      rw [← cc_get hr (by omega)] at e0
      have HX0 := Lib.hid (show ∃ X, cc c r k = X from ⟨_, rfl⟩)
      clear hsk hik hlen
      have HR2 := Lib.hid (HR.out.set2 hlt 1099511627776 (-1))
      have HB2 := Lib.hid (below_set2 HB.out (Nat.le_refl _) (k * 2) (.int .i64 1099511627776) (.int .i64 (-1)))
      have sa := HR.out.cellD hlt; have sb := HR.out.cellF hlt; have sc := HR.out.frozen (k * 2); have sd := HR.out.frozen (k * 2 + 1); have se := (HR.out.half hlt 1099511627776).cellF hlt; have sf := (HR.out.half hlt 1099511627776).frozen (k * 2 + 1)
      have g0 := keepD c0 HB2.out; have g1 := keepD e0 HB2.out
      generalize hX : cc c r k = X at *
      have HX := Lib.hid hX; clear hX
      by_cases hx : 0 ≤ X
      · have HR3 := Lib.hid (HR2.out.set2 hlt X r)
        have HB3 := Lib.hid (below_set2 HB2.out (Nat.le_refl _) (k * 2) (.int .i64 X) (.int .i64 r))
        have ta := HR2.out.cellD hlt; have tb := HR2.out.cellF hlt; have tc := HR2.out.frozen (k * 2); have td := HR2.out.frozen (k * 2 + 1); have te := (HR2.out.half hlt X).cellF hlt; have tf := (HR2.out.half hlt X).frozen (k * 2 + 1)
        go_wp2
        go_roundw
        case rel => exact ⟨k + 1, _, _, by omega, by go_num, HR3.out, HB3.out, fun j hj => by
          by_cases e : j = k
          · subst e; rw [upd_same, upd_same, HX.out, if_pos hx, if_pos hx]; exact ⟨rfl, rfl⟩
          · rw [upd_ne _ _ e, upd_ne _ _ e, upd_ne _ _ e, upd_ne _ _ e]; exact HS.out j (by omega)⟩
        case measure => simp [intOf]; omega
      · go_wp2
        go_roundw
        case rel => exact ⟨k + 1, _, _, by omega, by go_num, HR2.out, HB2.out, fun j hj => by
          by_cases e : j = k
          · subst e; rw [upd_same, upd_same, HX.out, if_neg hx, if_neg hx]; exact ⟨rfl, rfl⟩
          · rw [upd_ne _ _ e, upd_ne _ _ e]; exact HS.out j (by omega)⟩
        case measure => simp [intOf]; omega
    · have hke : k = n := by omega
      have HR1 := Lib.hid (HR.out.congr (d' := fun j => if 0 ≤ cc c r j then cc c r j else far) (f' := fun j => if 0 ≤ cc c r j then (r : Int) else -1) fun j hj => HS.out j (by omega))
      have HY := Lib.hid (Wy.start HPo.out fun j hj => (HC.out r j hr hj).2)
      clear HR HS hke
      generalize (fun j => if 0 ≤ cc c r j then cc c r j else far) = d1 at *
      generalize (fun j => if 0 ≤ cc c r j then (r : Int) else -1) = f1 at *
      go_wp2
      go_loopw [11] (fun s11 wr => ∃ (d f : Nat → Int) (more : Bool), s11 = .bool more ∧ RowD wr w.heap.size n d f ∧ Below w.heap.size w wr ∧ Wy (cc c) n r v ow d f ∧ (more = false → Fix (cc c) n ow d)) (fun s11 wr => 2 * (slack n v (dOf wr w.heap.size)).toNat + moreN s11)
      case atStart => exact ⟨d1, f1, true, rfl, HR1.out, HB.out, HY.out, fun h => by cases h⟩
      case round =>
        clear HR1 HB HY
        obtain ⟨d, f, more, rfl, hrw, hb, hy, hfx⟩ := hrel
        have HR0 := Lib.hid hrw; have HB := Lib.hid hb; have HY := Lib.hid hy; have HFX := Lib.hid hfx
        clear hrw hb hy hfx
        cases more
        · go_wp2
          go_ret
          exact ⟨w.heap.size, d, f, by rw [HN.out]; rfl, Nat.le_refl _, by rw [HN.out]; exact HR0.out, HB.out, by rw [HN.out]; exact HY.out, by rw [HN.out]; exact HFX.out trivial⟩
        · go_wp2
          go_loopw [11, 12] (fun s11 s12 wr => ∃ (k : Nat) (d' f' : Nat → Int) (more : Bool), k ≤ n ∧ s12 = .int .i64 k ∧ s11 = .bool more ∧ RowD wr w.heap.size n d' f' ∧ Below w.heap.size w wr ∧ Wy (cc c) n r v ow d' f' ∧ Pass (cc c) n v ow d d' more k) (fun _ i _ => n - (intOf i).toNat)
          case atStart => exact ⟨0, d, f, false, Nat.zero_le _, rfl, rfl, HR0.out, HB.out, HY.out, Pass.start _ _ _ _ _⟩
          case round =>
            clear HB HY HFX
            obtain ⟨k, d', f', more, hk, rfl, rfl, hrw, hb, hy, hps⟩ := hrel
            have HR := Lib.hid hrw; have HB := Lib.hid hb; have HY := Lib.hid hy; have HPS := Lib.hid hps
            clear hrw hb hy hps
            by_cases hlt : k < n
            · obtain ⟨bo, rfl, ro⟩ := HOW.out k hlt
              have g0 := keepD (ro.cell hlt) HB.out
              clear ro
              rcases HPo.out.own.val k hlt trivial with hok | ⟨i, hok, hir, _⟩
              · rw [hok] at g0
                have HOK := Lib.hid hok; clear hok
                go_wp2
                go_roundw
                case rel => exact ⟨k + 1, d', f', more, by omega, by go_num, rfl, HR.out, HB.out, HY.out, HPS.out.skip (.inl (by rw [HOK.out]; decide))⟩
                case measure => simp [intOf]; omega
              · rw [hok] at g0
                have HOK := Lib.hid hok; clear hok
                have hng : decide ((i : Int) < 0) = false := by simp <;> omega
                have s1 := HR.out.cellD hlt
                by_cases hfar : d' k = 1099511627776
                · have hb1 : (d' k == 1099511627776) = true := by simpa using hfar
                  have HFAR := Lib.hid hfar; clear hfar
                  go_wp2
                  go_roundw
                  case rel => exact ⟨k + 1, d', f', more, by omega, by go_num, rfl, HR.out, HB.out, HY.out, HPS.out.skip (.inr HFAR.out)⟩
                  case measure => simp [intOf]; omega
                · have hb1 : (d' k == 1099511627776) = false := by simpa using hfar
                  have HFAR := Lib.hid hfar; clear hfar
                  go_wp2
                  clear s1 hb1
                  go_loopw [11, 14] (fun s11 s14 wr => ∃ (m : Nat) (d2 f2 : Nat → Int) (more2 : Bool), m ≤ n ∧ s14 = .int .i64 m ∧ s11 = .bool more2 ∧ RowD wr w.heap.size n d2 f2 ∧ Below w.heap.size w wr ∧ Wy (cc c) n r v ow d2 f2 ∧ PassIn (cc c) n v ow d d2 more2 k i m ∧ d2 k ≠ far) (fun _ i _ => n - (intOf i).toNat)
                  case atStart => exact ⟨0, d', f', more, Nat.zero_le _, rfl, rfl, HR.out, HB.out, HY.out, HPS.out.into i, HFAR.out⟩
                  case round =>
                    clear HB HY HR HPS HFAR g0
                    obtain ⟨m, d2, f2, more2, hm, rfl, rfl, hrw, hb, hy, hps, hfar⟩ := hrel
                    have HR := Lib.hid hrw; have HB := Lib.hid hb; have HY := Lib.hid hy; have HPS := Lib.hid hps; have HFAR := Lib.hid hfar
                    clear hrw hb hy hps hfar
                    by_cases hlm : m < n
                    · have hic : i < c.length := by omega
                      obtain ⟨bc, oc, ai, ci, rfl, c0, hsk, hik⟩ := HM.out.get i hic
                      have hlen := HF.out c[i] (List.getElem_mem _)
                      rw [hlen] at c0
                      obtain ⟨b3, o3, rfl, e0⟩ := hik.get k (by omega)
                      rw [← cc_get hic (by omega)] at e0
                      obtain ⟨b4, o4, e4, e1⟩ := hik.get m (by omega)
                      cases e4
                      rw [← cc_get hic (by omega)] at e1
                      clear hsk hik hlen
                      have q1 := HC.out i k hic hlt
                      have q2 := HC.out i m hic hlm
                      have q3 := HY.out.low k hlt; have q4 := HY.out.top hlt; have q5 := HPo.out.vlow k hlt; have q6 := HV.out
                      have q7 : -100000000000 ≤ d2 k ∧ d2 k ≤ 1099511627776 := ⟨by omega, q4⟩
                      clear q3 q4 q5 q6
                      have g0 := cell_regrown (keepD c0 HB.out); have g1 := cell_regrown (keepD e0 HB.out); have g2 := cell_regrown (keepD e1 HB.out); have g3 := cell_regrown (HR.out.cellD hlt)
                      generalize hA : cc c i k = A at *
                      generalize hBc : cc c i m = B at *
                      generalize hD : d2 k = D at *
                      have HA := Lib.hid hA; have HBc := Lib.hid hBc; have HD := Lib.hid hD
                      clear hA hBc hD
                      go_wp2
                      refine wp_quietB (by kernel_rfl) (by kernel_rfl) ?_
                      (repeat (go_big_quiet_step (fail)))
                      refine wpQuiet_nil ?_
                      intro wq hq
                      have HR5 := Lib.hid (HR.out.below hq)
                      have HB5 := Lib.hid (HB.out.trans (hq.mono HB.out.size))
                      clear hq g0 g1 g2 g3 HR HB
                      have g0 := keepD c0 HB5.out; have g1 := keepD e1 HB5.out; have g3 := HR5.out.cellD hlm
                      replace HFAR := Lib.hid (show d2 k ≠ far by rw [HD.out]; exact HFAR.out)
                      have hHD := HD.out; have hHA := HA.out; have hHB := HBc.out
                      by_cases hb : 0 ≤ B
                      · by_cases hl : D - A + B < d2 m
                        · have HL := Lib.hid (show d2 k - cc c i k + cc c i m < d2 m by rw [HD.out, HA.out, HBc.out]; exact hl)
                          have HY6 := Lib.hid (HY.out.less HPo.out hlt hlm HOK.out HFAR.out (by rw [HBc.out]; exact hb) HL.out)
                          have HPS6 := Lib.hid (HPS.out.less hlm HL.out)
                          rw [HD.out, HA.out, HBc.out] at HY6 HPS6
                          have HR6 := Lib.hid (HR5.out.set2 hlm (D - A + B) i)
                          have HB6 := Lib.hid (below_set2 HB5.out (Nat.le_refl _) (m * 2) (.int .i64 (D - A + B)) (.int .i64 i))
                          have ta := HR5.out.cellD hlm; have tb := HR5.out.cellF hlm; have tc := HR5.out.frozen (m * 2); have td := HR5.out.frozen (m * 2 + 1); have te := (HR5.out.half hlm (D - A + B)).cellF hlm; have tf := (HR5.out.half hlm (D - A + B)).frozen (m * 2 + 1)
                          clear hHD hHA hHB
                          go_wp2
                          go_roundw
                          case rel => exact ⟨m + 1, _, _, true, by omega, by go_num, rfl, HR6.out, HB6.out, HY6.out, HPS6.out, by
                            by_cases e : k = m
                            · subst e; rw [upd_same]; have := HY.out.top hlm; omega
                            · rw [upd_ne _ _ e]; exact HFAR.out⟩
                          case measure => simp [intOf]; omega
                        · clear hHD hHA hHB
                          go_wp2
                          go_roundw
                          case rel => exact ⟨m + 1, d2, f2, more2, by omega, by go_num, rfl, HR5.out, HB5.out, HY.out, HPS.out.next fun _ => by rw [HD.out, HA.out, HBc.out]; omega, HFAR.out⟩
                          case measure => simp [intOf]; omega
                      · clear hHD hHA hHB
                        go_wp2
                        go_roundw
                        case rel => exact ⟨m + 1, d2, f2, more2, by omega, by go_num, rfl, HR5.out, HB5.out, HY.out, HPS.out.next fun h => absurd (HBc.out ▸ h) hb, HFAR.out⟩
                        case measure => simp [intOf]; omega
                    · have hme : m = n := by omega
                      subst hme
                      go_wp2
                      go_roundw
                      case rel => exact ⟨k + 1, d2, f2, more2, by omega, by go_num, rfl, HR.out, HB.out, HY.out, HPS.out.out HOK.out⟩
                      case measure => simp [intOf]; omega
            · have hke : k = n := by omega
              subst hke
              have h1 := slack_nonneg HY.out.low
              go_wp2
              go_roundw
              case rel => exact ⟨d', f', more, rfl, HR.out, HB.out, HY.out, fun h => by subst h; exact HPS.out.fix⟩
              case measure =>
                rw [HR.out.slack, HR0.out.slack]
                rcases HPS.out with ⟨rfl, b, _⟩ | ⟨rfl, h2⟩
                · have : slack k v d' = slack k v d := sumN_congr fun j hj => by rw [b j hj]
                  rw [this]
                  simp [moreN]
                · simp [moreN]; omega
end Go.Proofs.Ytkpgphadgomifaa
