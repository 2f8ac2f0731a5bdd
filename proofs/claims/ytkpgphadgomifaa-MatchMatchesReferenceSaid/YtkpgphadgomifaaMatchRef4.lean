/- The reference function Proves. -/
import Derived.Test.YtkpgphadgomifaaMatchRef3
namespace Go.Proofs.Ytkpgphadgomifaa
set_option linter.unusedSimpArgs false
set_option linter.unusedVariables false
open Go.RowKit Go.Sort Go.Shelf

/-- The prices prove the matching. -/
def Proof (c : List (List Int)) (l rs cs : List Int) : Prop := formE c = 0 ∧ IsMt c l ∧ IsPr c rs cs ∧ costL c l = priceL c rs cs
def ProvesPost (c : List (List Int)) (l rs cs : List Int) (w : World) (e : Ending) (w' : World) : Prop :=
  ∃ b : Bool, e = .returned (.tuple #[.bool b, .int .i64 (formE c)]) ∧ (b = true ↔ Proof c l rs cs) ∧ Below w.heap.size w w'
set_option maxRecDepth 100000 in
set_option maxHeartbeats 4000000 in
theorem RProves_any (a a1 a2 a3 : Option Addr) (cap cap1 cap2 cap3 : Nat) (c : List (List Int)) (l rs cs : List Int) (w : World) (hl : c.length ≤ 100000000000000) (hl1 : l.length ≤ 100000000000000) (hl2 : rs.length ≤ 100000000000000) (hl3 : cs.length ≤ 100000000000000)
    (hm : MatAt w a c) (h1 : InAt w a1 l) (h2 : InAt w a2 rs) (h3 : InAt w a3 cs) :
    Calls Try.prog 15 #[.slice a c.length cap, .slice a1 l.length cap1, .slice a2 rs.length cap2, .slice a3 cs.length cap3] w (ProvesPost c l rs cs w) := by
  have HM := Lib.hid hm; have H1 := Lib.hid h1; have H2 := Lib.hid h2; have H3 := Lib.hid h3
  clear hm h1 h2 h3
  go_enter Try.func15, Try.ntmps15
  go_wp2_with (fail)
  refine (RForm_any a cap c w hl HM.out).mono ?_
  rintro e w1 ⟨rfl, hb⟩
  have HB := Lib.hid hb; clear hb
  by_cases he : formE c = 0
  · have HE := Lib.hid he; clear he
    rw [HE.out]
    go_wp2_with (fail)
    refine (RMatching_any a a1 cap cap1 c l _ HE.out hl1 (HM.out.below HB.out) (H1.out.below HB.out)).mono ?_
    rintro e w2 ⟨b, rfl, hb, bel⟩
    replace HB := Lib.hid (HB.out.trans (bel.mono HB.out.size)); have Hb := Lib.hid hb; clear bel hb
    generalize hN : (if b = true then costL c l else 0) = N
    have HN := Lib.hid hN; clear hN
    go_wp2_with (fail)
    refine (RTotal_any a a2 a3 cap cap2 cap3 c rs cs _ HE.out hl2 hl3 (HM.out.below HB.out) (H2.out.below HB.out) (H3.out.below HB.out)).mono ?_
    rintro e w3 ⟨b2, rfl, hb2, bel⟩
    replace HB := Lib.hid (HB.out.trans (bel.mono HB.out.size)); have Hb2 := Lib.hid hb2; clear bel hb2
    generalize hM : (if b2 = true then priceL c rs cs else 0) = M
    have HMM := Lib.hid hM; clear hM
    cases hbb : b
    · go_wp2
      go_ret2
      subst hbb
      exact ⟨false, by rw [HE.out]; rfl, ⟨fun h => by (cases h), fun h => by have := Hb.out.2 h.2.1; cases this⟩, HB.out⟩
    · cases hbb2 : b2
      · go_wp2
        go_ret2
        subst hbb2
        exact ⟨false, by rw [HE.out]; rfl, ⟨fun h => by (cases h), fun h => by have := Hb2.out.2 h.2.2.1; cases this⟩, HB.out⟩
      · go_wp2
        go_ret2
        subst hbb hbb2
        refine ⟨N == M, by rw [HE.out]; rfl, ?_, HB.out⟩
        rw [beq_iff_eq, ← HN.out, ← HMM.out, if_pos rfl, if_pos rfl]
        exact ⟨fun h => ⟨HE.out, Hb.out.1 rfl, Hb2.out.1 rfl, h⟩, fun h => h.2.2.2⟩
  · have hne : (formE c != 0) = true := by simpa using he
    have HE := Lib.hid he; clear he
    go_wp2
    go_ret2
    exact ⟨false, rfl, ⟨fun h => by (cases h), fun h => absurd h.1 HE.out⟩, HB.out⟩
end Go.Proofs.Ytkpgphadgomifaa
