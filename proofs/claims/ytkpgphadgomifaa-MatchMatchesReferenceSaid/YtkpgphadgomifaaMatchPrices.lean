/- match.Prices, walked. -/
import Derived.Test.YtkpgphadgomifaaMatchRaise
import Derived.Test.YtkpgphadgomifaaMatchDual
namespace Go.Proofs.Ytkpgphadgomifaa
set_option linter.unusedSimpArgs false
set_option linter.unusedVariables false
open Go.RowKit Go.Sort Go.Shelf

theorem circ_no {can : Nat → Nat → Bool} {n m j : Nat} {ms : List Nat} (c : Circ can n m j ms) : ¬ Mtd can (fun i => i < m) n := fun h => c.no (h.sub fun i hi => by
  have := c.le i hi
  have := c.lt
  omega)
def PricesSays (c : List (List Int)) (w' : World) (v1 v2 : Value) (err : Int) : Prop :=
  (formE c ≠ 0 ∧ v1 = .slice none 0 0 ∧ v2 = .slice none 0 0 ∧ err = formE c) ∨ (formE c = 0 ∧ ¬ Mtd (may (cc c)) (fun i => i < c.length) (wideL c) ∧ v1 = .slice none 0 0 ∧ v2 = .slice none 0 0 ∧ err = 4) ∨
    (formE c = 0 ∧ err = 0 ∧ ∃ (u v : Nat → Int) (bu bv : Nat), v1 = .slice (some ⟨bu, 0, none⟩) c.length c.length ∧ v2 = .slice (some ⟨bv, 0, none⟩) (wideL c) (wideL c) ∧ (∃ ow, Pot (cc c) (wideL c) c.length (c.length * (wideL c * 1000000)) u v ow) ∧
      RowAt w' bu c.length 3 (iv u) ∧ RowAt w' bv (wideL c) 3 (iv v))
def PricesPost (c : List (List Int)) (w : World) (e : Ending) (w' : World) : Prop :=
  ∃ (v1 v2 : Value) (err : Int), e = .returned (.tuple #[v1, v2, .int .i64 err]) ∧ PricesSays c w' v1 v2 err ∧ Below w.heap.size w w'
set_option maxRecDepth 100000 in
set_option maxHeartbeats 4000000 in
theorem Prices_any (a : Option Addr) (cap : Nat) (c : List (List Int)) (w : World) (hl : c.length ≤ 100000000000000) (hm : MatAt w a c) (hs : SlOk a c.length cap) :
    Calls Try.prog 18 #[.slice a c.length cap] w (PricesPost c w) := by
  have HS := Lib.hid hs; have HM := Lib.hid hm; clear hs hm
  go_enter Try.func18, Try.ntmps18
  go_wp2_with (fail)
  refine (Short_any a cap c w hl HM.out HS.out).mono ?_
  rintro e w1 ⟨l, short, err, a1, cap1, rfl, ⟨herr, hsay⟩, _, _, hb⟩
  have HB := Lib.hid hb; replace HM := Lib.hid (HM.out.below hb); clear hb
  rcases hsay with ⟨rfl, rfl, hmt⟩ | ⟨he0, rfl, j, ms, hc, _⟩
  · by_cases he : err = 0
    · subst he
      have HE := Lib.hid herr; have HMt := Lib.hid (hmt rfl); clear herr hmt
      go_wp2_with (fail)
      refine (raise_any a cap c w1 HE.out.symm HM.out HS.out HMt.out).mono ?_
      rintro e w2 ⟨u, v, bu, bv, rfl, hp, ru, rv, hb⟩
      replace HB := Lib.hid (HB.out.trans (hb.mono HB.out.size))
      have HP := Lib.hid hp; have Hru := Lib.hid ru; have Hrv := Lib.hid rv
      clear hb hp ru rv
      go_wp2
      have x0 := heap_alloc_new w2 (.cells #[.slice (some ⟨bu, 0, none⟩) c.length c.length, .slice (some ⟨bv, 0, none⟩) (wideL c) (wideL c)] 48)
      have hb := (Below.refl w2.heap.size w2).alloc (Nat.le_refl _) (.cells #[.slice (some ⟨bu, 0, none⟩) c.length c.length, .slice (some ⟨bv, 0, none⟩) (wideL c) (wideL c)] 48)
      generalize w2.alloc (.cells #[.slice (some ⟨bu, 0, none⟩) c.length c.length, .slice (some ⟨bv, 0, none⟩) (wideL c) (wideL c)] 48) = w3 at *
      have gP := box_cells x0
      replace HB := Lib.hid (HB.out.trans (hb.mono HB.out.size)); replace Hru := Lib.hid (Hru.out.below hb); replace Hrv := Lib.hid (Hrv.out.below hb)
      clear hb x0
      have g0 := cell_regrown (gP 0); have g1 := cell_regrown (gP 1)
      refine wp_quietB (by kernel_rfl) (by kernel_rfl) ?_
      repeat (go_big_quiet_step (fail))
      refine wpQuiet_nil ?_
      intro w4 hb
      replace HB := Lib.hid (HB.out.trans (hb.mono HB.out.size)); replace Hru := Lib.hid (Hru.out.below hb); replace Hrv := Lib.hid (Hrv.out.below hb)
      clear hb g0 g1 gP
      go_wp2
      go_ret3
      exact ⟨_, _, 0, rfl, .inr (.inr ⟨HE.out.symm, rfl, u, v, bu, bv, rfl, rfl, HP.out, Hru.out, Hrv.out⟩), HB.out⟩
    · have HE := Lib.hid herr
      have HE2 := Lib.hid he
      have hne : (err != 0) = true := by simpa using he
      clear herr hmt he
      go_wp2
      go_ret3
      exact ⟨_, _, err, rfl, .inl ⟨by rw [← HE.out]; exact HE2.out, rfl, rfl, HE.out⟩, HB.out⟩
  · subst he0
    have HE := Lib.hid herr; have HC := Lib.hid hc; clear herr hc
    go_wp2
    go_ret3
    exact ⟨_, _, 4, rfl, .inr (.inl ⟨HE.out.symm, circ_no HC.out, rfl, rfl, rfl⟩), HB.out⟩
end Go.Proofs.Ytkpgphadgomifaa
