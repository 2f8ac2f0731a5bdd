/- match.Short, walked. -/
import Derived.Test.YtkpgphadgomifaaMatchShort2
namespace Go.Proofs.Ytkpgphadgomifaa
set_option linter.unusedSimpArgs false
set_option linter.unusedVariables false
open Go.RowKit Go.Sort Go.Shelf

/-- What Short says: no matching, and rows that show it; or there is one. -/
def ShortSays (c : List (List Int)) (l : List Int) (short : Bool) (err : Int) : Prop :=
  err = formE c ∧ ((short = false ∧ l = [] ∧ (err = 0 → Mtd (canC c) (fun i => i < c.length) (wideL c))) ∨ (err = 0 ∧ short = true ∧ ∃ j ms, Circ (canC c) (wideL c) c.length j ms ∧ l = isort (ms.map fun i : Nat => (i : Int))))
def ShortPost (c : List (List Int)) (w : World) (e : Ending) (w' : World) : Prop :=
  ∃ (l : List Int) (short : Bool) (err : Int) (a : Option Addr) (cap : Nat), e = .returned (.tuple #[.slice a l.length cap, .bool short, .int .i64 err]) ∧ ShortSays c l short err ∧ SlOk a l.length cap ∧ InAt w' a l ∧ Below w.heap.size w w'
/-- The finder of Short. -/
def shortGi (c : List (List Int)) (B bO bC bR bow bc : Nat) (w0 : World) : Gi :=
  { n := wideL c, m := c.length, B := B, bO := bO, bC := bC, bR := bR, bow := bow, cf := 32, caps := #[.pointer (some ⟨bc, 0, none⟩)], can := canC c, S := fun w => Below w0.heap.size w0 w }
theorem short_gi {c : List (List Int)} {B bO bC bR bow bc cap : Nat} {a : Option Addr} {w0 : World} (he : formE c = 0) (hB : w0.heap.size ≤ B) (l1 : bO < B) (l2 : bC < B) (l3 : bR < B) (l4 : bow < B) (n1 : bO ≠ bow) (n2 : bC ≠ bow) (n3 : bR ≠ bow) (hw : w0.heap.size ≤ bow)
    (hx : w0.heap[bc]? = some (.cells #[.slice a c.length cap] 22 (0, 0))) (hm : MatAt w0 a c) : GiOk (shortGi c B bO bC bR bow bc w0) := by
  obtain ⟨h1, h2, h3, _⟩ := formE_ok he
  refine ⟨⟨by simp only [shortGi]; omega, by simp only [shortGi]; omega⟩, ⟨l1, l2, l3, l4⟩, ⟨n1, n2, n3⟩, fun w w' hs k => ?_, fun args w => by kernel_rfl, fun w i k hs hi hk => ?_⟩
  · have hs : Below w0.heap.size w0 w := hs
    exact ⟨k.os.trans hs.os, k.tape.trans hs.tape, k.output.trans hs.output, Nat.le_trans hs.size k.size, fun b hb => (k.block b (Nat.lt_of_lt_of_le hb hB) (by simp only [shortGi, List.mem_singleton]; omega)).trans (hs.block b hb)⟩
  · have hs : Below w0.heap.size w0 w := hs
    have := short1_any bc a cap c i k w h1 h3 h2 hi hk (blk_keep hx hs) (hm.below hs)
    exact this
def ShortInv (c : List (List Int)) (g : Gi) (w0 : World) (k : Nat) (w : World) : Prop :=
  ∃ ow : Nat → Int, GSt g w ow ∧ Own (canC c) (wideL c) (fun _ => True) (fun i => i < k) ow ∧ Below w0.heap.size w0 w
theorem short_start (can : Nat → Nat → Bool) (n : Nat) : Own can n (fun _ => True) (fun i => i < 0) (fun _ => -1) :=
  ⟨fun _ _ _ => .inl rfl, fun i hi => by omega, fun _ _ i _ _ _ _ e _ => by omega⟩
theorem short_val {can : Nat → Nat → Bool} {n m k : Nat} {ow : Nat → Int} (O : Own can n (fun _ => True) (fun i => i < k) ow) (hk : k < m) : ∀ j, j < n → ow j = -1 ∨ ∃ i : Nat, ow j = i ∧ i < m ∧ can i j = true := fun j hj => by
  rcases O.val j hj trivial with e | ⟨i, e, h1, h2⟩
  · exact .inl e
  · exact .inr ⟨i, e, by omega, h2⟩
set_option maxRecDepth 100000 in
set_option maxHeartbeats 4000000 in
theorem Short_any (a : Option Addr) (cap : Nat) (c : List (List Int)) (w : World) (hl : c.length ≤ 100000000000000) (hm : MatAt w a c) (hs : SlOk a c.length cap) :
    Calls Try.prog 16 #[.slice a c.length cap] w (ShortPost c w) := by
  have HS := Lib.hid hs; have HM := Lib.hid hm; clear hs hm
  by_cases he : formE c = 0
  · obtain ⟨f1, f2, f3, f4⟩ := formE_ok he
    have HE := Lib.hid he; have HF3 := Lib.hid f3; clear he f3 f4
    go_enter Try.func16, Try.ntmps16
    go_wp2_with (fail)
    have x0 := heap_alloc_new w (.cells #[.slice a c.length cap] 22)
    have hb := (Below.refl w.heap.size w).alloc (Nat.le_refl _) (.cells #[.slice a c.length cap] 22)
    generalize w.alloc (.cells #[.slice a c.length cap] 22) = w0 at *
    have HX1 := Lib.hid x0; have HB := Lib.hid hb; replace HM := Lib.hid (HM.out.below hb); clear x0 hb
    have HX0 := Lib.hid HX1.out
    have hc1 := box_cells HX1.out; have hf1 := box_free HX1.out; have hz1 := lt_blk HX1.out
    refine (formed_any a cap c w0 hl HM.out HS.out).mono ?_; rw [HE.out]; rintro e w' ⟨rfl, rfl⟩
    go_wp2
    have HB0 := Lib.hid (Below.refl w0.heap.size w0)
    go_region_held3 (fun W => W.cell? ⟨w.heap.size, 0, none⟩ = some (.slice a c.length cap)) (first | exact hc1 0 | go_keep)
      (first
        | (go_at_call 24; refine (wide_any a cap c _ hl (HM.out.below (by first | exact HB0.out | exact HB0.out.drew))).mono ?_; rintro e w2 ⟨rfl, rfl⟩)
        | (go_at_call 31; refine (nobody_any _ _ (by omega)).mono ?_; rintro e w2 ⟨bn, rfl, hbn, hr, hb⟩; (try replace hb := drewB hb); have HBN := Lib.hid hbn; have HRN := Lib.hid hr; replace HB0 := Lib.hid (HB0.out.trans (hb.mono HB0.out.size)); replace HX1 := Lib.hid (blk_keep HX1.out hb); replace hc1 := box_cells HX1.out; clear hb hr hbn)
        | (go_at_call 30; refine (finder_any _ _ _ _ _ _ _).mono ?_; rintro e w3 ⟨sN, hsN, rfl, x1, x2, x3, hb⟩; have hbs : bn < sN := (by have := HRN.out.lt; rw [hsN]; exact this); (try replace hb := drewB hb); replace HRN := Lib.hid (HRN.out.below hb); replace HB0 := Lib.hid (HB0.out.trans (hb.mono HB0.out.size)); replace HX1 := Lib.hid (blk_keep HX1.out hb); replace hc1 := box_cells HX1.out; have HSN := Lib.hid hsN; have HY1 := Lib.hid x1; have HY2 := Lib.hid x2; have HY3 := Lib.hid x3; clear hb hsN x1 x2 x3))
    all_goals
      have hB := lt_blk HY3.out
      have hB0 : w0.heap.size ≤ bn := HBN.out
      have G := short_gi (a := a) (cap := cap) (bc := w.heap.size) (B := sN + 1 + 1 + 1) (bO := sN + 1) (bC := sN + 1 + 1) (bR := sN) (bow := bn) HE.out (by omega) (by omega) (by omega) (by omega) (by omega) (by omega) (by omega) (by omega) hB0 HX0.out HM.out
      have S0 : GSt (shortGi c (sN + 1 + 1 + 1) (sN + 1) (sN + 1 + 1) sN bn w.heap.size w0) w3 (fun _ => -1) := ⟨by simp only [shortGi]; omega, HY2.out, HY3.out, HY1.out, HRN.out, HB0.out⟩
      have HG := Lib.hid G; have HS0 := Lib.hid S0
      clear G S0 HBN HRN HY1 HY2 HY3 HSN
      go_wp2
      go_loopw [24] (fun i wr => ∃ k : Nat, k ≤ c.length ∧ i = .int .i64 k ∧ ShortInv c (shortGi c (sN + 1 + 1 + 1) (sN + 1) (sN + 1 + 1) sN bn w.heap.size w0) w0 k wr) (fun i _ => c.length - (intOf i).toNat)
      case atStart => exact ⟨0, Nat.zero_le _, rfl, _, HS0.out, short_start _ _, HB0.out⟩
      case round =>
        obtain ⟨k, hk, rfl, ow, S, O, b⟩ := hrel
        have HSt := Lib.hid S; have HO := Lib.hid O; have HBB := Lib.hid b
        clear S O b
        by_cases hlt : k < c.length
        · go_wp2_with (fail)
          refine (search_any _ HG.out k ow wr hlt (short_val HO.out hlt) HSt.out).mono ?_
          rintro e w5 ⟨ok, ow', mv, met, rfl, S5, K5, o5, v5, l5, Y5⟩
          have HS5 := Lib.hid S5; have HO5 := Lib.hid o5
          have hB5 := HBB.out.size
          have HK5 := Lib.hid (HBB.out.trans (K5.weaken (S' := []) hB5 (fun x hx hlt => by simp only [shortGi, List.mem_singleton] at hx; omega)).below)
          have hbig5 := K5.size
          clear S5 K5 o5 v5
          rcases Y5 with ⟨rfl, Y⟩ | ⟨rfl, rfl, ks, seen', rfl, N⟩
          · have HY := Lib.hid Y; clear Y
            go_wp2
            go_roundw
            case rel => exact ⟨k + 1, by omega, by go_num, ow', HS5.out, own_yes HY.out HO.out, HK5.out⟩
            case measure => simp [intOf]; omega
          · have HN := Lib.hid N; have hml : (k :: rows ow' ks).length ≤ 100000 := (by have := l5; simp only [shortGi] at this; omega); clear N l5
            have HC := Lib.hid (circ_of HN.out HO.out hlt)
            rw [met_in] at HO5
            go_wp2_with (fail)
            refine (sort_any wr.heap.size mv ((k :: rows ow' ks).map fun i : Nat => (i : Int)) w5 (by simp) (by rw [List.length_map]; omega) HO5.out).mono ?_
            rintro e w6 ⟨rfl, o6, g6⟩
            have HB6 := Lib.hid (below_grown (HK5.out.mono (show w0.heap.size ≤ w0.heap.size from Nat.le_refl _)) (OwnR.lower HO5.out (show w0.heap.size ≤ wr.heap.size from hB5)) (by omega) g6)
            obtain ⟨a6, c6, e6, s6, i6⟩ := o6.slAt
            have HE6 := Lib.hid e6; have HS6 := Lib.hid s6; have HI6 := Lib.hid i6
            clear o6 g6 e6 s6 i6
            go_wp2
            go_ret3
            refine ⟨isort ((k :: rows ow' ks).map fun i : Nat => (i : Int)), true, 0, a6, c6, ?_, ⟨HE.out.symm, .inr ⟨rfl, rfl, k, _, HC.out, rfl⟩⟩, ?_, HI6.out, HB.out.trans (HB6.out.mono HB.out.size)⟩
            · have := HE6.out
              rw [List.length_map] at this
              rw [← this]; rfl
            · have := HS6.out
              rw [List.length_map] at this
              exact this
        · have HOk := Lib.hid (show Mtd (canC c) (fun i => i < c.length) (wideL c) from HO.out.mt.sub fun i hi => by omega)
          go_wp2
          go_ret3
          exact ⟨[], false, 0, none, 0, rfl, ⟨HE.out.symm, .inl ⟨rfl, rfl, fun _ => HOk.out⟩⟩, SlOk.nil, SlAt.nil _ _ _, HB.out.trans (HBB.out.mono HB.out.size)⟩
  · have hne : (formE c != 0) = true := by simpa using he
    go_enter Try.func16, Try.ntmps16
    go_wp2_with (fail)
    have x0 := heap_alloc_new w (.cells #[.slice a c.length cap] 22)
    have hb := (Below.refl w.heap.size w).alloc (Nat.le_refl _) (.cells #[.slice a c.length cap] 22)
    generalize w.alloc (.cells #[.slice a c.length cap] 22) = w0 at *
    have HX1 := Lib.hid x0; have HB := Lib.hid hb; replace HM := Lib.hid (HM.out.below hb); clear x0 hb
    refine (formed_any a cap c w0 hl HM.out HS.out).mono ?_; rintro e w' ⟨rfl, rfl⟩
    go_wp2
    go_ret3
    exact ⟨[], false, formE c, none, 0, rfl, ⟨rfl, .inl ⟨rfl, rfl, fun h0 => absurd h0 he⟩⟩, SlOk.nil, SlAt.nil _ _ _, HB.out⟩
end Go.Proofs.Ytkpgphadgomifaa
