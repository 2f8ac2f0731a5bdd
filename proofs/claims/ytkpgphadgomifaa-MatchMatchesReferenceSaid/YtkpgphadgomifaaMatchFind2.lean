/- The search that match.finder makes, walked. -/
import Derived.Test.YtkpgphadgomifaaMatchFind
namespace Go.Proofs.Ytkpgphadgomifaa
set_option linter.unusedSimpArgs false
set_option linter.unusedVariables false
open Go.RowKit Go.Sort

theorem eltMet : Elt Try.prog 23 3 1 8 metRow := ⟨Try.underlying23, ⟨.int .i64 0, by kernel_rfl, rfl⟩, by decide, by decide, fun _ => rfl, fun x u hu => by simp [metRow, inRow] at hu; subst hu; rfl⟩
theorem OwnR.put {w : World} {B : Nat} {E : TypeId} {sz : Nat} {v : Value} {rows : List (List Value)} (ow : OwnR w B E sz v rows) {p : Addr} (hp : p.block < B) (u : Value) : OwnR (w.setCell p u) B E sz v rows := by
  refine ⟨ow.wide, ?_⟩
  obtain ⟨a1, a2⟩ := ow.own
  refine ⟨a1, ?_⟩
  rcases a2 with a2 | ⟨g, cap, cur, e, hg, hc, h3⟩
  · exact .inl a2
  · exact .inr ⟨g, cap, cur, e, hg, (heap_setCell_other _ _ _ _ (show _ ≠ _ by omega)).trans hc, h3⟩
theorem find_start {d : Fi} (D : FiOk d) {w w1 : World} {ow : Nat → Int} {seen : Nat → Bool} {met : List Nat} {r : Nat} {a1 : Option Addr} {L1 c1 : Nat} {mv : Value} (F : FSt d w ow seen met) (K : KeepB d.B [] w w1)
    (x1 : w1.heap[d.bM]? = some (.cells #[mv] 23 (0, 0))) (o1 : OwnR w1 d.B 3 1 (.slice a1 L1 c1) ((met ++ [r]).map metRow)) : FSt d (w1.setCell ⟨d.bM, 0, none⟩ (.slice a1 L1 c1)) ow seen (met ++ [r]) ∧ KeepB d.B d.own w (w1.setCell ⟨d.bM, 0, none⟩ (.slice a1 L1 c1)) := by
  have K2 : KeepB d.B [d.bM] w (w1.setCell ⟨d.bM, 0, none⟩ (.slice a1 L1 c1)) := (K.weaken (Nat.le_refl _) (fun k hk => by simp at hk)).set (.inl (by simp)) _
  refine ⟨F.keep D K2 ⟨_, heap_setCell_same _ _ _ _ _ _ x1, o1.put D.lt.1.1 _⟩, K2.weaken (Nat.le_refl _) fun b hb _ => by simp only [List.mem_singleton] at hb; subst hb; simp [Fi.own]⟩
theorem find_unseen {can : Nat → Nat → Bool} {n r j : Nat} {ow : Nat → Int} {seen seen' : Nat → Bool} {ks : List Nat} (N : No can n ow seen seen' r j ks) {k : Nat} (hs : seen' k = false) : seen k = false := by
  cases e : seen k with
  | false => rfl
  | true => rw [(N.seen k).2 (.inl e)] at hs; cases hs
theorem find_sub {can : Nat → Nat → Bool} {n r j : Nat} {ow : Nat → Int} {seen seen' : Nat → Bool} {ks : List Nat} (N : No can n ow seen seen' r j ks) {k i : Nat} (hs : upd seen' i true k = false) : seen k = false := by
  by_cases e : k = i
  · subst e; rw [upd_same] at hs; cases hs
  · rw [upd_ne _ _ e] at hs; exact find_unseen N hs
theorem find_rows {d : Fi} {r j : Nat} {ow : Nat → Int} {seen seen' : Nat → Bool} {ks : List Nat} (V : OwV d ow) (hr : r < d.m) (N : No d.can d.n ow seen seen' r j ks) : ∀ x ∈ r :: rows ow ks, x < d.m := by
  intro x hx
  rcases List.mem_cons.1 hx with rfl | hx
  · exact hr
  · obtain ⟨k, hk, e⟩ := List.mem_map.1 hx
    obtain ⟨a, _, c⟩ := N.lt k hk
    rcases V k a with b | ⟨i, b, b2⟩
    · omega
    · omega
theorem find_met {ow : Nat → Int} {met ks ks2 : List Nat} {r j i : Nat} (ho : ow j = (i : Int)) : met ++ r :: rows ow (ks ++ j :: ks2) = met ++ (r :: rows ow ks ++ i :: rows ow ks2) := by
  simp [rows, ho]
set_option maxRecDepth 100000 in
set_option maxHeartbeats 4000000 in
theorem find_any (d : Fi) (D : FiOk d) : ∀ (u : Nat) (r : Nat) (ow : Nat → Int) (seen : Nat → Bool) (met : List Nat) (w : World), cnt seen d.n ≤ u → r < d.m → OwV d ow → met.length + cnt seen d.n ≤ 200000 →
    (∀ k, k < d.n → seen k = false → 0 ≤ ow k → d.can (ow k).toNat k = true) → FSt d w ow seen met →
    Calls Try.prog 47 #[.int .i64 r, .pointer (some ⟨d.bM, 0, none⟩), .pointer (some ⟨d.bO, 0, none⟩), .pointer (some ⟨d.bS, 0, none⟩), .pointer (some ⟨d.bC, 0, none⟩), .pointer (some ⟨d.bF, 0, none⟩)] w (FindPost d r ow seen met w) := by
  intro u
  induction u using Nat.strongRecOn with
  | _ u IH =>
  intro r ow seen met w hu hr hv hmet hcan F
  have HI := Lib.hid IH; have HD := Lib.hid D; have HV := Lib.hid hv; have HC := Lib.hid hcan; have HU := Lib.hid hu
  obtain ⟨hn, hm⟩ := D.small
  have heg := D.enter
  obtain ⟨n1, n2, n3, n4, n5, n6⟩ := D.neM
  obtain ⟨mv, xm, om⟩ := F.xM
  have HO := Lib.hid om
  have hcM := box_cells xm; have hfM := box_free xm; have HXM := Lib.hid xm
  have hbig := F.big
  have hF := Lib.hid F
  clear IH D hv hcan hu xm om F
  go_enter Try.func47, Try.ntmps47
  go_wp2_with ((at_builtin; refine appE eltMet rfl (.tmp 9) (.tmp 11) rfl d.B _ met rfl (HO.out.below ((Below.refl _ _).alloc (Nat.le_refl _) _)) _ _ _ [r] rfl rfl (fun e => by cases e) (eltMet.new _ _ _ _ rfl) (by simp; omega) (by simp; omega) ?_; intro v1 w1 ho1 hg1; obtain ⟨a1, c1, e1, _, _⟩ := ho1.slAt; generalize (List.map metRow (met ++ [r])).length = L1 at e1; subst e1; have HO1 := Lib.hid ho1; have hk1 := (KeepB.of_below (S := []) ((Below.refl w.heap.size w).alloc (Nat.le_refl _) _) hbig).grown hg1 (by simp; omega) (fun k hk => (HO.out.lt k hk).1); have x1 := (hk1.block d.bM (by have := HD.out.lt.1.1; omega) (by simp)).trans HXM.out; clear ho1 hg1; have hcM1 := box_cells x1; have hfM1 := box_free x1; have HX1 := Lib.hid x1; have HK1 := Lib.hid hk1; have y1 := (hk1.block d.bO (by have := HD.out.lt.1.2.1; omega) (by simp)).trans hF.out.xO; have hcO1 := box_cells y1; clear x1 hk1 y1))
  obtain ⟨F1, K1⟩ := find_start HD.out hF.out HK1.out HX1.out HO1.out
  generalize w1.setCell ⟨d.bM, 0, none⟩ (.slice a1 L1 c1) = W at *
  have HF1 := Lib.hid F1; have HK := Lib.hid K1
  clear F1 K1 hcM1 hfM1 hcO1 hcM hfM
  go_loopw [15] (fun i wr => ∃ j : Nat, j ≤ d.n ∧ i = .int .i64 j ∧ FindInv d r ow seen met w j wr) (fun i _ => d.n - (intOf i).toNat)
  case atStart => exact ⟨0, Nat.zero_le _, rfl, seen, [], HF1.out, HK.out, by simp [rows], No.start _ _ _ _ _⟩
  case round =>
    obtain ⟨j, hj, rfl, seen', ks, F, K, C, N⟩ := hrel
    have HF := Lib.hid F; have HK2 := Lib.hid K; have HN := Lib.hid N; have HCn := Lib.hid C
    clear K N C
    have hcO := box_cells F.xO; have hcS := box_cells F.xS; have hcC := box_cells F.xC; have hcF := box_cells F.xF; unfold findV at hcF
    clear F
    by_cases hlt : j < d.n
    · have hsj := HF.out.rs.cell hlt
      have hfj := HF.out.rs.free j
      cases hs : seen' j
      · rw [hs] at hsj
        have HS := Lib.hid hs; clear hs
        go_wp2_with (fail)
        refine (HD.out.can _ _ _ HF.out.sw hr hlt).mono ?_; rintro e w2 ⟨rfl, hb⟩
        have HF2 := Lib.hid (HF.out.below HD.out hb)
        replace HK2 := Lib.hid (HK2.out.trans (KeepB.of_below hb HF.out.big))
        clear hb hcO hcS hcC hcF hsj hfj
        have F := HF2.out
        have hcO := box_cells F.xO; have hcS := box_cells F.xS; have hcC := box_cells F.xC; have hcF := box_cells F.xF; unfold findV at hcF
        clear F HF
        cases hc : d.can r j
        · have HCC := Lib.hid hc; clear hc
          go_wp2
          go_roundw
          case rel => exact ⟨j + 1, by omega, by go_num, seen', ks, HF2.out, HK2.out, HCn.out, HN.out.skip (.inr HCC.out)⟩
          case measure => simp [intOf]; omega
        · have HCC := Lib.hid hc; clear hc
          have hfs := HF2.out.rs.free j
          have hcs := HF2.out.rs.cell hlt
          go_wp2
          have HF3 := Lib.hid (HF2.out.seen HD.out hlt)
          have HK3 := Lib.hid (HK2.out.set (p := ⟨d.bsn, j, none⟩) (.inl (by simp [Fi.own])) (.bool true))
          generalize w2.setCell ⟨d.bsn, j, none⟩ (.bool true) = w3 at *
          clear hcO hcS hcC hcF hfs hcs HF2 HK2
          have F := HF3.out
          have hcO := box_cells F.xO; have hcS := box_cells F.xS; have hcC := box_cells F.xC; have hcF := box_cells F.xF; unfold findV at hcF
          have hcw := F.ro.cell hlt
          have hfw := F.ro.free j
          clear F
          have hcnt := cnt_upd seen' j d.n hlt HS.out
          rcases HV.out j hlt with ho | ⟨i, ho, him⟩
          · rw [ho] at hcw
            have HOj := Lib.hid ho; clear ho
            have g0 := cell_regrown (hcO 0); have g1 := cell_regrown hcw
            refine wp_quietB (by kernel_rfl) (by kernel_rfl) ?_
            repeat (go_big_quiet_step (fail))
            refine wpQuiet_nil ?_
            intro w4 hb
            clear g0 g1 hcO hcS hcC hcF hcw hfw
            have HF4 := Lib.hid (HF3.out.below HD.out hb)
            have HK4 := Lib.hid (HK3.out.trans (KeepB.of_below hb HF3.out.big))
            clear hb
            have F := HF4.out
            have hcO := box_cells F.xO; have hcS := box_cells F.xS; have hcC := box_cells F.xC; have hcF := box_cells F.xF; unfold findV at hcF
            have hcw := F.ro.cell hlt
            have hfw := F.ro.free j
            clear F
            go_wp2
            go_ret
            exact ⟨true, upd ow j (r : Int), upd seen' j true, r :: rows ow ks, rfl, HF4.out.give HD.out hlt _, HK4.out.set (.inl (by simp [Fi.own])) _, HV.out.put hr, by have := HCn.out; simp; omega, find_rows HV.out hr HN.out, .inl ⟨rfl, yes_free hlt (find_unseen HN.out HS.out) HCC.out (by rw [HOj.out]; decide)⟩⟩
          · rw [ho] at hcw
            have HOj := Lib.hid ho; clear ho
            have hng : decide ((i : Int) < 0) = false := by simp <;> omega
            have g0 := cell_regrown (hcO 0); have g1 := cell_regrown hcw; have g2 := cell_regrown (hcF 0)
            refine wp_tailB 11 (by kernel_rfl) (by kernel_rfl) ?_
            simp only [List.take_succ_cons, List.take_zero, List.drop_succ_cons, List.drop_zero]
            repeat (go_big_quiet_step (fail))
            refine wpQuiet_nil ?_
            intro w4 hb
            clear g0 g1 g2
            clear hcO hcS hcC hcF hcw hfw
            have HF4 := Lib.hid (HF3.out.below HD.out hb)
            have HK4 := Lib.hid (HK3.out.trans (KeepB.of_below hb HF3.out.big))
            clear hb
            go_wp2_with (fail)
            refine (HI.out (cnt (upd seen' j true) d.n) (by have := HCn.out; have := HU.out; omega) i ow (upd seen' j true) (met ++ r :: rows ow ks) w4 (Nat.le_refl _) him HV.out (by have := HCn.out; simp; omega) (fun k hk hsk ho => HC.out k hk (find_sub HN.out hsk) ho) HF4.out).mono ?_
            rintro e w5 ⟨ok, ow', seen2, ms2, rfl, F5, K5, V5, C5, R5, Y5⟩
            have HF5 := Lib.hid F5
            have HK5 := Lib.hid (HK4.out.trans K5)
            have HV5 := Lib.hid V5; have HC5 := Lib.hid C5; have HR5 := Lib.hid R5
            clear F5 K5 V5 C5 R5
            have F := HF5.out
            have hcO := box_cells F.xO; have hcS := box_cells F.xS; have hcC := box_cells F.xC; have hcF := box_cells F.xF; unfold findV at hcF
            have hcw := F.ro.cell hlt
            have hfw := F.ro.free j
            clear F
            rcases Y5 with ⟨rfl, Y⟩ | ⟨rfl, rfl, ks2, rfl, N2⟩
            · have HY := Lib.hid Y; clear Y
              go_wp2
              go_ret
              exact ⟨true, upd ow' j (r : Int), seen2, (r :: rows ow ks) ++ ms2, rfl, by rw [← List.append_assoc]; exact HF5.out.give HD.out hlt _, HK5.out.set (.inl (by simp [Fi.own])) _, HV5.out.put hr, by have := HCn.out; have := HC5.out; simp; omega, fun x hx => (List.mem_append.1 hx).elim (find_rows HV.out hr HN.out x) (HR5.out x), .inl ⟨rfl, yes_deep hlt (fun k hk => (HN.out.seen k).2 (.inl hk)) HS.out HCC.out HOj.out HY.out⟩⟩
            · have HN2 := Lib.hid N2; clear N2
              go_wp2
              go_roundw
              case rel => exact ⟨j + 1, by omega, by go_num, seen2, ks ++ j :: ks2, by rw [find_met HOj.out, ← List.append_assoc]; exact HF5.out, HK5.out, by have := HCn.out; have := HC5.out; simp [rows] at *; omega, HN.out.deep hlt HS.out HCC.out HOj.out HC.out HN2.out⟩
              case measure => simp [intOf]; omega
      · rw [hs] at hsj
        have HS := Lib.hid hs; clear hs
        go_wp2
        go_roundw
        case rel => exact ⟨j + 1, by omega, by go_num, seen', ks, HF.out, HK2.out, HCn.out, HN.out.skip (.inl HS.out)⟩
        case measure => simp [intOf]; omega
    · have hjn : j = d.n := by omega
      have HJ := Lib.hid hjn; clear hjn
      go_wp2
      go_ret
      exact ⟨false, ow, seen', r :: rows ow ks, rfl, HF.out, HK2.out, HV.out, by simp; have := HCn.out; omega, find_rows HV.out hr HN.out, .inr ⟨rfl, rfl, ks, rfl, HJ.out ▸ HN.out⟩⟩
end Go.Proofs.Ytkpgphadgomifaa
