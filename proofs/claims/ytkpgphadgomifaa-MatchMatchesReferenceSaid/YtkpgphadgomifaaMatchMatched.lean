/- The reference's Matched says whether there is a matching: walked, for rows of one length (200 at most). -/
import Derived.Test.YtkpgphadgomifaaMatchPlace
import Derived.Test.YtkpgphadgomifaaMatchRef
namespace Go.Proofs.Ytkpgphadgomifaa
set_option linter.unusedSimpArgs false
set_option linter.unusedVariables false
open Go.RowKit Go.Sort Go.Shelf

set_option maxHeartbeats 1000000 in
theorem place_zero (a a2 a3 : Option Addr) (m cap cap2 cap3 : Nat) (r : Int) (w : World) :
    Calls Try.prog 50 #[.slice a m cap, .int .i64 r, .slice a2 0 cap2, .slice a3 0 cap3] w fun e w' => e = .returned (.bool false) ∧ w = w' := by
  go_enter Try.func50, Try.ntmps50
  go_wp2
  go_loopw [9] (fun i wr => i = .int .i64 0 ∧ w = wr) (fun i _ => 0)
  case atStart => exact ⟨rfl, rfl⟩
  case round =>
    obtain ⟨rfl, rfl⟩ := hrel
    go_wp2
    go_ret
    exact ⟨rfl, rfl⟩
theorem minus_ones (k : Nat) : ((List.range k).map fun _ => (-1 : Int)).map inRow ++ [[.int .i64 (-1)]] = ((List.range (k + 1)).map fun _ => (-1 : Int)).map inRow := by
  rw [List.range_succ, List.map_append, List.map_append]; rfl
theorem minus_len (k : Nat) : (((List.range k).map fun _ => (-1 : Int))).length = k := by simp
theorem PV.nobody (c : List (List Int)) : PV c (fun _ => -1) := fun _ _ => .inl rfl
theorem own_can {c : List (List Int)} {ow : Nat → Int} {r : Nat} (O : Own (may (cc c)) (wideL c) (fun _ => True) (fun i => i < r) ow) : ∀ k, k < wideL c → (fun _ : Nat => false) k = false → 0 ≤ ow k → may (cc c) (ow k).toNat k = true := fun k hk _ h0 => by
  rcases O.val k hk trivial with e | ⟨i, e, _, e3⟩
  · omega
  · rw [e]; exact e3
theorem own_pv {c : List (List Int)} {ow : Nat → Int} {r : Nat} (hr : r ≤ c.length) (O : Own (may (cc c)) (wideL c) (fun _ => True) (fun i => i < r) ow) : PV c ow := fun k hk => by
  rcases O.val k hk trivial with e | ⟨i, e, e2, _⟩
  · exact .inl e
  · exact .inr ⟨i, e, by omega⟩
theorem own_zero {c : List (List Int)} : Own (may (cc c)) (wideL c) (fun _ => True) (fun i => i < 0) (fun _ => -1) :=
  ⟨fun _ _ _ => .inl rfl, fun i hi => by omega, fun _ _ i _ _ _ _ e _ => by omega⟩
/-- What Matched says. -/
def MatchedPost (c : List (List Int)) (w : World) (e : Ending) (w' : World) : Prop :=
  ∃ ok : Bool, e = .returned (.bool ok) ∧ (ok = true ↔ Mtd (may (cc c)) (fun i => i < c.length) (wideL c)) ∧ Below w.heap.size w w'
set_option maxRecDepth 100000 in
set_option maxHeartbeats 4000000 in
theorem RMatched_any (a : Option Addr) (cap : Nat) (c : List (List Int)) (w : World) (h1 : c.length ≤ 200 ∧ wideL c ≤ 200) (hf : ∀ l ∈ c, l.length = wideL c) (hm : MatAt w a c) :
    Calls Try.prog 34 #[.slice a c.length cap] w (MatchedPost c w) := by
  have hmk := fun w => run_make_row' (P := Try.prog) 49 4 (.bool false) 1 Try.underlying49 (by kernel_rfl) rfl .i64 .i64 (wideL c) (by omega) (by omega) w
  have HM := Lib.hid hm; have HF := Lib.hid hf; have HMK := Lib.hid hmk
  have H1 := Lib.hid h1
  obtain ⟨h200, hw200⟩ := h1
  clear hm hf hmk
  go_enter Try.func34, Try.ntmps34
  go_wp2
  go_loopw [3, 4] (fun s3 s4 wr => ∃ k : Nat, k ≤ wideL c ∧ s4 = .int .i64 k ∧ OwnR wr w.heap.size 3 1 s3 (((List.range k).map fun _ => (-1 : Int)).map inRow) ∧ Below w.heap.size w wr) (fun _ i _ => wideL c - (intOf i).toNat)
  case atStart => exact ⟨0, Nat.zero_le _, rfl, OwnR.nil _ _ _ _, Below.refl _ _⟩
  case round =>
    obtain ⟨k, hk, rfl, ho, hb⟩ := hrel
    have HO := Lib.hid ho; have HB := Lib.hid hb
    clear ho hb
    go_wp2_with (fail)
    refine (Rcols_any a cap c _ (by omega) (HM.out.below HB.out)).mono ?_
    rintro e w1 ⟨rfl, rfl⟩
    by_cases hlt : k < wideL c
    · go_wp2_with (at_builtin; refine appE eltInt rfl (.tmp 13) (.tmp 14) rfl w.heap.size _ ((List.range k).map fun _ => (-1 : Int)) rfl (HO.out.below ((Below.refl _ _).alloc (Nat.le_refl _) _)) _ _ _ [(-1 : Int)] rfl rfl (fun e => by cases e) (eltInt.new _ _ _ _ rfl) (by simp; omega) (by have := HB.out.size; simp; omega) ?_; intro v1 w2 ho1 hg1; have HO1 := Lib.hid ho1; have HB1 := Lib.hid (below_grown (HB.out.alloc HB.out.size _) (HO.out.below ((Below.refl _ _).alloc (Nat.le_refl _) _)) (by have := HB.out.size; simp; omega) hg1); clear ho1 hg1)
      refine ⟨⟨k + 1, by omega, by go_num, ?_, HB1.out⟩, by simp [intOf]; omega⟩
      have := HO1.out
      rw [List.map_append, show List.map inRow [(-1 : Int)] = [[.int .i64 (-1)]] from rfl, minus_ones] at this
      exact this
    · have hke : k = wideL c := by omega
      subst hke
      by_cases h0 : wideL c = 0
      · obtain ⟨a3, c3, e3, _, _⟩ := HO.out.slAt
        rw [List.length_map, minus_len] at e3
        simp only [h0] at e3
        have HE3 := Lib.hid e3
        have HZ := Lib.hid h0
        subst e3
        clear h0 HMK
        have hmk0 : ∀ w, (Instr.makeSlice 49 (.int .i64 0) (.int .i64 0)).run Try.prog w = .ok (.slice (some ⟨w.heap.size, 0, none⟩) 0 0) (w.alloc (.cells (madeCells #[.bool false] 0) 4)) := fun w => run_make_row' (P := Try.prog) 49 4 (.bool false) 1 Try.underlying49 (by kernel_rfl) rfl .i64 .i64 0 (by omega) (by omega) w
        go_wp2
        go_loopw [5] (fun i wr => i = .int .i64 0 ∧ Below w.heap.size w wr) (fun i _ => 0)
        case atStart => exact ⟨rfl, HB.out⟩
        case round =>
          clear HB
          obtain ⟨rfl, hb⟩ := hrel
          have HB := Lib.hid hb; clear hb
          by_cases hc : 0 < c.length
          · go_wp2_with (fail)
            refine (place_zero _ _ _ _ _ _ _ 0 _).mono ?_
            rintro e w1 ⟨rfl, rfl⟩
            go_wp2
            go_ret
            refine ⟨false, rfl, ⟨fun h => (by cases h), fun ⟨f, hf⟩ => ?_⟩, HB.out.alloc HB.out.size _⟩
            have := hf.lt 0 hc
            rw [HZ.out] at this; omega
          · have hc0 : c.length = 0 := by omega
            have HC0 := Lib.hid hc0; clear hc0
            go_wp2
            go_ret
            exact ⟨true, rfl, ⟨fun _ => ⟨fun _ => 0, fun i hi => by have := HC0.out; omega, fun i hi => by have := HC0.out; omega, fun i j hi => by have := HC0.out; omega⟩, fun _ => rfl⟩, HB.out⟩
      · obtain ⟨g, cg, rfl, hg, hgc, hrow⟩ := RowC.of_own HO.out h0
        have HG := Lib.hid hg; have HR := Lib.hid hrow
        clear hg hrow
        have hmk := HMK.out
        generalize hn : wideL c = n at *
        have HN := Lib.hid hn; clear hn
        go_wp2
        go_loopw [5] (fun i wr => ∃ (r : Nat) (ow : Nat → Int), r ≤ c.length ∧ i = .int .i64 r ∧ RowC wr g n ow ∧ Own (may (cc c)) n (fun _ => True) (fun i => i < r) ow ∧ Below w.heap.size w wr) (fun i _ => c.length - (intOf i).toNat)
        case atStart => exact ⟨0, _, Nat.zero_le _, rfl, HR.out, by rw [← HN.out]; exact own_zero, HB.out⟩
        case round =>
          clear HB HR
          obtain ⟨r, ow, hr, rfl, hrw, O, hb⟩ := hrel
          have HB := Lib.hid hb; have HR := Lib.hid hrw; have HOW := Lib.hid O
          clear hb hrw O
          by_cases hlt : r < c.length
          · have hgs := HR.out.lt
            have K1 := (RowAt.made wr n 4 (.bool false))
            have P1 : PSt w n g wr.heap.size (wr.alloc (.cells (madeCells #[.bool false] n) 4)) ow (fun _ => false) := ⟨HB.out.alloc HB.out.size _, HR.out.below ((Below.refl _ _).alloc (Nat.le_refl _) _), K1⟩
            have HP := Lib.hid P1
            clear P1 K1
            go_wp2_with (fail)
            have hpl := place_any (cap := cap) (b := g) (capb := cg) HM.out ⟨H1.out.1, by rw [HN.out]; exact H1.out.2⟩ (fun l hl => by rw [HN.out]; exact HF.out l hl) HG.out _ r ow (fun _ => false) wr.heap.size _ (Nat.le_refl _) hlt (own_pv (by omega) (by rw [HN.out]; exact HOW.out)) (own_can (by rw [HN.out]; exact HOW.out)) HB.out.size (by omega) (by rw [HN.out]; exact HP.out)
            rw [HN.out] at hpl
            refine hpl.mono ?_
            rintro e w5 ⟨ok, ow', seen', rfl, P5, V5, Y5⟩
            rw [HN.out] at P5 Y5
            have HP5 := Lib.hid P5
            clear P5 V5 hpl
            rcases Y5 with ⟨rfl, Y⟩ | ⟨rfl, rfl, ks, N⟩
            · have HY := Lib.hid Y; clear Y
              go_wp2
              go_roundw
              case rel => exact ⟨r + 1, ow', by omega, by go_num, HP5.out.ro, own_yes HY.out HOW.out, HP5.out.hb⟩
              case measure => simp [intOf]; omega
            · have HNO := Lib.hid N; clear N
              go_wp2
              go_ret
              refine ⟨false, rfl, ⟨fun h => (by cases h), fun h => ?_⟩, HP5.out.hb⟩
              rw [HN.out] at h
              exact absurd (h.sub fun x hx => (circ_of HNO.out HOW.out hlt).le x hx |> fun h2 => by omega) (circ_of HNO.out HOW.out hlt).no
          · have hre : r = c.length := by omega
            subst hre
            go_wp2
            go_ret
            exact ⟨true, rfl, ⟨fun _ => by rw [HN.out]; exact HOW.out.mt, fun _ => rfl⟩, HB.out⟩
end Go.Proofs.Ytkpgphadgomifaa
