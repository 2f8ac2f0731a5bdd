/- match.Proves, walked. -/
import Derived.Test.YtkpgphadgomifaaMatchRef4
import Derived.Test.YtkpgphadgomifaaMaps
namespace Go.Proofs.Ytkpgphadgomifaa
set_option linter.unusedSimpArgs false
set_option linter.unusedVariables false
open Go.RowKit Go.Sort Go.Shelf

abbrev encI (n : Int) : Value := .int .i64 n
theorem keyI : KeyOk Try.prog 3 encI := keyInt Try.underlying3
theorem zeroBool (w : World) : (zeroValue 4).run Try.prog w = .ok (.bool false) w := by kernel_rfl
/-- Block r is a map of the first k columns. -/
def UsedAt (W : World) (r : Nat) (l : List Int) (k : Nat) : Prop := ∃ m, MapAt W encI r m ∧ ∀ x, (mget m x).getD (.bool false) = .bool ((l.take k).contains x)
theorem UsedAt.below {W W' : World} {r : Nat} {l : List Int} {k : Nat} (h : UsedAt W r l k) (hb : Below W.heap.size W W') : UsedAt W' r l k := by
  obtain ⟨m, h1, h2⟩ := h
  exact ⟨m, h1.below hb, h2⟩
theorem UsedAt.look {W : World} {r : Nat} {l : List Int} {k : Nat} (h : UsedAt W r l k) (x : Int) : (Instr.lookup 53 (.map (some r)) (.int .i64 x) false).run Try.prog W = .ok (.bool ((l.take k).contains x)) W := by
  obtain ⟨m, h1, h2⟩ := h
  rw [← h2 x]
  exact run_lookup_at Try.underlying53 keyI zeroBool h1 x false
theorem used_put {m : List (Int × Value)} {l : List Int} {k : Nat} (h : ∀ x, (mget m x).getD (.bool false) = .bool ((l.take k).contains x)) (hk : k < l.length) (x : Int) : (mget (mput m l[k] (.bool true)) x).getD (.bool false) = .bool ((l.take (k + 1)).contains x) := by
  rw [mget_mput, List.take_succ_eq_append_getElem hk]
  generalize l.take k = t at *
  generalize l[k] = y at *
  by_cases e : x = y
  · rw [if_pos e, e]; simp
  · rw [if_neg e, h x]; simp [e]
theorem used_dif {l : List Int} {k : Nat} (hk : k < l.length) (h : (l.take k).contains l[k] = false) : ∀ k', k' < k → gz l k' ≠ gz l k := fun k' hk' e => by
  rw [gz_get hk, gz_get (by omega)] at e
  have : l[k] ∈ l.take k := by
    rw [← e]
    exact List.mem_iff_getElem.2 ⟨k', by simp; omega, by simp⟩
  have : (l.take k).contains l[k] = true := by simpa using this
  rw [h] at this; cases this
theorem used_same {l : List Int} {k : Nat} (hk : k < l.length) (h : (l.take k).contains l[k] = true) : ∃ k', k' < k ∧ gz l k' = gz l k := by
  have : l[k] ∈ l.take k := by simpa using h
  obtain ⟨k', h1, h2⟩ := List.mem_iff_getElem.1 this
  rw [List.length_take] at h1
  refine ⟨k', by omega, ?_⟩
  rw [gz_get hk, gz_get (by omega)]
  simpa using h2
set_option maxRecDepth 100000 in
set_option maxHeartbeats 4000000 in
theorem Proves_any (a a1 a2 a3 : Option Addr) (cap cap1 cap2 cap3 : Nat) (c : List (List Int)) (l rs cs : List Int) (w : World) (hl : c.length ≤ 100000000000000) (hl1 : l.length ≤ 100000000000000) (hl2 : rs.length ≤ 100000000000000) (hl3 : cs.length ≤ 100000000000000)
    (hm : MatAt w a c) (hs : SlOk a c.length cap) (h1 : InAt w a1 l) (h2 : InAt w a2 rs) (h3 : InAt w a3 cs) :
    Calls Try.prog 14 #[.slice a c.length cap, .slice a1 l.length cap1, .slice a2 rs.length cap2, .slice a3 cs.length cap3] w (ProvesPost c l rs cs w) := by
  have hmm := @run_makeMap Try.prog
  have HM := Lib.hid hm; have HS := Lib.hid hs; have H1 := Lib.hid h1; have H2 := Lib.hid h2; have H3 := Lib.hid h3
  have HB := Lib.hid (Below.refl w.heap.size w)
  clear hm h1 h2 h3 hs
  by_cases he : formE c = 0
  case neg =>
    have hne : (formE c != 0) = true := by simpa using he
    have HE := Lib.hid he; clear he
    go_enter Try.func14, Try.ntmps14
    go_wp2_with (fail)
    refine (formed_any a cap c w hl HM.out HS.out).mono ?_
    rintro e w1 ⟨rfl, rfl⟩
    go_wp2
    go_ret2
    exact ⟨false, rfl, ⟨fun h => by (cases h), fun h => absurd h.1 HE.out⟩, HB.out⟩
  obtain ⟨f1, f2, f3, f4⟩ := formE_ok he
  have HE := Lib.hid he; have HF3 := Lib.hid f3; have HF4 := Lib.hid f4
  clear he f3 f4
  by_cases n1 : l.length = c.length
  case neg =>
    have e1 : ((l.length : Int) != (c.length : Int)) = true := by simp; omega
    have HN1 := Lib.hid n1; clear n1
    go_enter Try.func14, Try.ntmps14
    go_wp2_with (fail)
    refine (formed_any a cap c w hl HM.out HS.out).mono ?_
    rw [HE.out]
    rintro e w1 ⟨rfl, rfl⟩
    go_wp2
    go_ret2
    exact ⟨false, by rw [HE.out]; rfl, ⟨fun h => by (cases h), fun h => False.elim (absurd h.2.1.len HN1.out)⟩, HB.out⟩
  have e1 : ((l.length : Int) != (c.length : Int)) = false := by simp [n1]
  have HN1 := Lib.hid n1; clear n1
  by_cases n2 : rs.length = c.length
  case neg =>
    have e2 : ((rs.length : Int) != (c.length : Int)) = true := by simp; omega
    have HN2 := Lib.hid n2; clear n2
    go_enter Try.func14, Try.ntmps14
    go_wp2_with (fail)
    refine (formed_any a cap c w hl HM.out HS.out).mono ?_
    rw [HE.out]
    rintro e w1 ⟨rfl, rfl⟩
    go_wp2
    go_ret2
    exact ⟨false, by rw [HE.out]; rfl, ⟨fun h => by (cases h), fun h => False.elim (absurd h.2.2.1.len1 HN2.out)⟩, HB.out⟩
  have e2 : ((rs.length : Int) != (c.length : Int)) = false := by simp [n2]
  have HN2 := Lib.hid n2; clear n2
  by_cases n3 : cs.length = wideL c
  case neg =>
    have e3 : ((cs.length : Int) != (wideL c : Int)) = true := by simp; omega
    have HN3 := Lib.hid n3; clear n3
    go_enter Try.func14, Try.ntmps14
    go_wp2_with (fail)
    refine (formed_any a cap c w hl HM.out HS.out).mono ?_
    rw [HE.out]
    rintro e w1 ⟨rfl, rfl⟩
    go_wp2_with (fail)
    refine (wide_any _ _ c _ (by omega) HM.out).mono ?_
    rintro e w1 ⟨rfl, rfl⟩
    go_wp2
    go_ret2
    exact ⟨false, by rw [HE.out]; rfl, ⟨fun h => by (cases h), fun h => False.elim (absurd h.2.2.1.len2 HN3.out)⟩, HB.out⟩
  have e3 : ((cs.length : Int) != (wideL c : Int)) = false := by simp [n3]
  have HN3 := Lib.hid n3; clear n3
  go_enter Try.func14, Try.ntmps14
  go_wp2_with (fail)
  refine (formed_any a cap c w hl HM.out HS.out).mono ?_
  rw [HE.out]
  rintro e w1 ⟨rfl, rfl⟩
  go_wp2_with (fail)
  refine (wide_any _ _ c _ (by omega) HM.out).mono ?_
  rintro e w1 ⟨rfl, rfl⟩
  go_wp2
  have hb0 := (Below.refl w.heap.size w).alloc (Nat.le_refl _) (.map #[] 0)
  have hu0 : UsedAt (w.alloc (.map #[] 0)) w.heap.size l 0 := ⟨[], MapAt.new w encI, fun x => by simp [mget_nil]⟩
  clear HB
  have HB0 := Lib.hid hb0; have HU0 := Lib.hid hu0; clear hb0 hu0
  generalize w.alloc (.map #[] 0) = w1 at *
  obtain ⟨r, hr⟩ : ∃ r, r = w.heap.size := ⟨_, rfl⟩
  rw [← hr]
  rw [← hr] at HU0
  have HR := Lib.hid (show w.heap.size ≤ r by omega); clear hr
  go_loopw [12, 48] (fun s12 s48 wr => ∃ k : Nat, k ≤ c.length ∧ s48 = .int .i64 k ∧ s12 = .int .i64 (costOf (cc c) k (nz l)) ∧ IsMtTo c l k ∧ UsedAt wr r l k ∧ Below w.heap.size w wr) (fun _ i _ => c.length - (intOf i).toNat)
  case atStart => exact ⟨0, Nat.zero_le _, rfl, rfl, ⟨fun i hi => by omega, fun i hi => by omega, fun a b h1 h2 => by omega⟩, HU0.out, HB0.out⟩
  case round =>
    obtain ⟨k, hk, rfl, rfl, ht, hu, hb⟩ := hrel
    have HT := Lib.hid ht; have HB := Lib.hid hb; have HU := Lib.hid hu
    obtain ⟨q1, q2⟩ := costTo_bounds HE.out hk ht
    clear ht hb hu HU0 HB0
    by_cases hlt : k < c.length
    · have hkl : k < l.length := by have := HN1.out; omega
      obtain ⟨b1, o1, rfl, d0⟩ := H1.out.get k hkl
      obtain ⟨b, off, ai, ci, rfl, c0, hsk, hik⟩ := HM.out.get k hlt
      have hlen := HF3.out c[k] (List.getElem_mem _)
      have HIK := Lib.hid hik
      rw [hlen] at c0
      clear hsk hik
      have hlook := HU.out.look l[k]
      have HDif := Lib.hid (used_dif hkl); have HSame := Lib.hid (used_same hkl)
      have hgz := gz_get hkl
      obtain ⟨m, hmap, hspec⟩ := HU.out
      have HMap := Lib.hid hmap; have HSpec := Lib.hid (used_put hspec hkl)
      clear hmap hspec
      generalize hX : l[k] = X at *
      have HG := Lib.hid hgz; have HX := Lib.hid hX; clear hgz hX
      generalize hU : (l.take k).contains X = U at *
      have HUU := Lib.hid hU; clear hU
      have g0 := keepC d0 HB.out; have g1 := keepC c0 HB.out
      cases hn : decide (X < 0)
      · obtain ⟨j, rfl⟩ : ∃ j : Nat, X = j := ⟨X.toNat, by simp at hn; omega⟩
        have hnz : nz l k = j := by have := HG.out; simp only [nz]; omega
        have HNZ := Lib.hid hnz; clear hnz
        cases hw : decide (cs.length ≤ j)
        · have hwj : j < wideL c := by have := HN3.out; simp at hw; omega
          obtain ⟨b3, o3, rfl, e0⟩ := HIK.out.get j (by omega)
          rw [← cc_get hlt (by omega)] at e0
          obtain ⟨n1, n2⟩ := cc_le HF3.out HF4.out k j hlt hwj
          generalize hN : cc c k j = N at *
          have HN := Lib.hid hN; clear hN
          have g2 := keepC e0 HB.out
          cases hcc : decide (N < 0)
          · cases U
            · have HD2 := Lib.hid (HDif.out (by first | rfl | trivial))
              clear HDif HSame
              go_wp2_with (refine wpList_mapUpdate_at rfl (.tmp 76) (.tmp 77) _ 53 (.inl rfl) Try.underlying53 keyI r m rfl HMap.out (j : Int) rfl (.bool true) rfl ?_; intro w5 hm5 hg5; have HM5 := Lib.hid hm5; have HB5 := Lib.hid (HB.out.grown hg5 HB.out.size (fun k e => by cases e; exact HR.out)); clear hm5 hg5; have g3 := keepC d0 HB5.out; have g4 := keepC c0 HB5.out; have g5 := keepC e0 HB5.out)
              go_roundw
              case rel => exact ⟨k + 1, by omega, by go_num, by
                have e : costOf (cc c) (k + 1) (nz l) = costOf (cc c) k (nz l) + cc c k (nz l k) := rfl
                rw [e, HNZ.out, HN.out], HT.out.next (by rw [HG.out]; omega) (by rw [HNZ.out, HN.out]; simpa using hcc) HD2.out, ⟨_, HM5.out, HSpec.out⟩, HB5.out⟩
              case measure => simp [intOf]; omega
            · go_wp2
              go_ret2
              exact ⟨false, by rw [HE.out]; rfl, ⟨fun h => by (cases h), fun h => False.elim (by obtain ⟨k', h5, h6⟩ := HSame.out (by first | exact HUU.out | trivial); exact h.2.1.dif k' k h5 hlt h6)⟩, HB.out⟩
          · go_wp2
            go_ret2
            exact ⟨false, by rw [HE.out]; rfl, ⟨fun h => by (cases h), fun h => False.elim (by have := h.2.1.can k hlt; rw [HNZ.out, HN.out] at this; simp at hcc; omega)⟩, HB.out⟩
        · go_wp2
          go_ret2
          exact ⟨false, by rw [HE.out]; rfl, ⟨fun h => by (cases h), fun h => False.elim (by have := (h.2.1.in_ k hlt).2; rw [HG.out] at this; have := HN3.out; simp at hw; omega)⟩, HB.out⟩
      · go_wp2
        go_ret2
        exact ⟨false, by rw [HE.out]; rfl, ⟨fun h => by (cases h), fun h => False.elim (by have := (h.2.1.in_ k hlt).1; rw [HG.out] at this; simp at hn; omega)⟩, HB.out⟩
    · have hge : ¬ k < l.length := by have := HN1.out; omega
      have hge2 : ¬ c.length < l.length := by have := HN1.out; omega
      have hke : k = c.length := by omega
      have HT2 := Lib.hid (show IsMt c l by have := HT.out; rw [hke] at this; exact this.end_ HN1.out)
      rw [hke] at q1 q2
      rw [show costOf (cc c) k (nz l) = costOf (cc c) c.length (nz l) by rw [hke]]
      go_wp2
      clear HU HT
      go_loopw [12, 90] (fun s12 s90 wr => ∃ k : Nat, k ≤ wideL c ∧ s90 = .int .i64 k ∧ s12 = .int .i64 (costOf (cc c) c.length (nz l) - sumN (gz cs) k) ∧ (∀ i, i < k → priceOk (gz cs i) = true ∧ gz cs i ≤ 0) ∧ Below w.heap.size w wr) (fun _ i _ => wideL c - (intOf i).toNat)
      case atStart => exact ⟨0, Nat.zero_le _, rfl, by simp [sumN], fun i hi => by omega, HB.out⟩
      case round =>
        clear HB hge hge2 hke hlt
        obtain ⟨k, hk, rfl, rfl, hall, hb⟩ := hrel
        have HA := Lib.hid hall; have HB := Lib.hid hb
        obtain ⟨q3, q4⟩ := sum_price fun i hi => (hall i hi).1
        clear hall hb
        by_cases hlt : k < wideL c
        · have hkl : k < cs.length := by have := HN3.out; omega
          obtain ⟨b3, o3, rfl, d0⟩ := H3.out.get k hkl
          have hgz := gz_get hkl
          generalize hX : cs[k] = X at *
          have HG := Lib.hid hgz; have HX := Lib.hid hX; clear hgz hX
          have d1 := keepC d0 HB.out
          cases h0 : decide (0 < X)
          · cases h9 : decide (X < -1000000000)
            · have p1 : X ≤ 0 := by simpa using h0
              have p2 : -1000000000 ≤ X := by simpa using h9
              go_wp2
              go_roundw
              case rel => exact ⟨k + 1, by omega, by go_num, by rw [show sumN (gz cs) (k + 1) = sumN (gz cs) k + gz cs k from rfl, HG.out]; congr 1; omega, fun i hi => by
                by_cases e : i = k
                · subst e; rw [HG.out]; exact ⟨price_iff.2 ⟨p2, by omega⟩, p1⟩
                · exact HA.out i (by omega), HB.out⟩
              case measure => simp [intOf]; omega
            · go_wp2
              go_ret2
              exact ⟨false, by rw [HE.out]; rfl, ⟨fun h => by (cases h), fun h => False.elim (by have := (price_iff.1 (h.2.2.1.col k hlt).1).1; rw [HG.out] at this; simp at h9; omega)⟩, HB.out⟩
          · go_wp2
            go_ret2
            exact ⟨false, by rw [HE.out]; rfl, ⟨fun h => by (cases h), fun h => False.elim (by have := (h.2.2.1.col k hlt).2; rw [HG.out] at this; simp at h0; omega)⟩, HB.out⟩
        · have hge : ¬ k < cs.length := by have := HN3.out; omega
          have hge2 : ¬ wideL c < cs.length := by have := HN3.out; omega
          have hke : k = wideL c := by omega
          have HC := Lib.hid (show ∀ i, i < wideL c → priceOk (gz cs i) = true ∧ gz cs i ≤ 0 from fun i hi => HA.out i (by omega))
          rw [hke] at q3 q4
          rw [show sumN (gz cs) k = sumN (gz cs) (wideL c) by rw [hke]]
          go_wp2
          go_loopw [12, 106] (fun s12 s106 wr => ∃ i : Nat, i ≤ c.length ∧ s106 = .int .i64 i ∧ s12 = .int .i64 (costOf (cc c) c.length (nz l) - sumN (gz cs) (wideL c) - sumN (gz rs) i) ∧ (∀ i', i' < i → priceOk (gz rs i') = true ∧ ∀ k, k < wideL c → 0 ≤ cc c i' k → gz rs i' + gz cs k ≤ cc c i' k) ∧ Below w.heap.size w wr) (fun _ i _ => c.length - (intOf i).toNat)
          case atStart => exact ⟨0, Nat.zero_le _, rfl, by simp [sumN], fun i hi => by omega, HB.out⟩
          case round =>
            clear HB HA hge hge2 hke hlt
            obtain ⟨i, hi, rfl, rfl, hall, hb⟩ := hrel
            have HA := Lib.hid hall; have HB := Lib.hid hb
            obtain ⟨q5, q6⟩ := sum_price fun i hi => (hall i hi).1
            clear hall hb
            by_cases hlt : i < c.length
            · have hil : i < rs.length := by have := HN2.out; omega
              obtain ⟨b2, o2, rfl, d0⟩ := H2.out.get i hil
              obtain ⟨b, off, ai, ci, rfl, c0, hsk, hik⟩ := HM.out.get i hlt
              have hlen := HF3.out c[i] (List.getElem_mem _)
              have HIK := Lib.hid hik
              rw [hlen] at c0
              clear hsk hik
              have hgz := gz_get hil
              generalize hX : rs[i] = X at *
              have HG := Lib.hid hgz; have HX := Lib.hid hX; clear hgz hX
              have d1 := keepC d0 HB.out
              have c1 := keepC c0 HB.out
              cases h0 : decide (1000000000 < X)
              · cases h9 : decide (X < -1000000000)
                · have p1 : X ≤ 1000000000 := by simpa using h0
                  have p2 : -1000000000 ≤ X := by simpa using h9
                  go_wp2
                  go_loopw [125] (fun s125 wr => ∃ m : Nat, m ≤ wideL c ∧ s125 = .int .i64 m ∧ (∀ k, k < m → 0 ≤ cc c i k → X + gz cs k ≤ cc c i k) ∧ Below w.heap.size w wr) (fun i _ => wideL c - (intOf i).toNat)
                  case atStart => exact ⟨0, Nat.zero_le _, rfl, fun m' hm' => by omega, HB.out⟩
                  case round =>
                    obtain ⟨m, hm, rfl, hall, hb⟩ := hrel
                    clear HB d1 c1
                    have HAA := Lib.hid hall; have HB := Lib.hid hb; clear hall hb
                    by_cases hmk : m < wideL c
                    · have hml : m < cs.length := by have := HN3.out; omega
                      obtain ⟨b3, o3, rfl, d3⟩ := H3.out.get m hml
                      obtain ⟨b4, o4, rfl, e0⟩ := HIK.out.get m (by omega)
                      rw [← cc_get hlt (by omega)] at e0
                      obtain ⟨v1, v2⟩ := HC.out m hmk
                      have v3 := price_iff.1 v1
                      have hgm := gz_get hml
                      rw [hgm] at v1 v2 v3
                      generalize hY : cs[m] = Y at *
                      have HGm := Lib.hid hgm; have HY := Lib.hid hY; clear hgm hY v1
                      obtain ⟨v4, v5⟩ := v3
                      obtain ⟨n1, n2⟩ := cc_le HF3.out HF4.out i m hlt hmk
                      generalize hN : cc c i m = N at *
                      have HN := Lib.hid hN; clear hN
                      have g2 := keepC e0 HB.out; have g3 := keepC d3 HB.out
                      cases hs : decide (0 ≤ N)
                      · go_wp2
                        go_roundw
                        case rel => exact ⟨m + 1, by omega, by go_num, fun k hk h0 => by
                          by_cases e : k = m
                          · subst e; rw [HN.out] at h0; simp at hs; omega
                          · exact HAA.out k (by omega) h0, HB.out⟩
                        case measure => simp [intOf]; omega
                      · by_cases hgt : N < X + Y
                        · go_wp2
                          go_ret2
                          exact ⟨false, by rw [HE.out]; rfl, ⟨fun h => by (cases h), fun h => False.elim (by have := h.2.2.1.feas i m hlt hmk (by rw [HN.out]; simpa using hs); rw [HN.out, HG.out, HGm.out] at this; omega)⟩, HB.out⟩
                        · go_wp2
                          go_roundw
                          case rel => exact ⟨m + 1, by omega, by go_num, fun k hk h0 => by
                            by_cases e : k = m
                            · subst e; rw [HN.out, HGm.out]; omega
                            · exact HAA.out k (by omega) h0, HB.out⟩
                          case measure => simp [intOf]; omega
                    · have hge : ¬ m < cs.length := by have := HN3.out; omega
                      have HF := Lib.hid (show ∀ k, k < wideL c → 0 ≤ cc c i k → X + gz cs k ≤ cc c i k from fun k hk => HAA.out k (by omega))
                      go_wp2
                      go_roundw
                      case rel => exact ⟨i + 1, by omega, by go_num, by rw [show sumN (gz rs) (i + 1) = sumN (gz rs) i + gz rs i from rfl, HG.out]; congr 1; omega, fun i' hi' => by
                        by_cases e : i' = i
                        · subst e; rw [HG.out]; exact ⟨price_iff.2 ⟨p2, p1⟩, HF.out⟩
                        · exact HA.out i' (by omega), HB.out⟩
                      case measure => simp [intOf]; omega
                · go_wp2
                  go_ret2
                  exact ⟨false, by rw [HE.out]; rfl, ⟨fun h => by (cases h), fun h => False.elim (by have := (price_iff.1 (h.2.2.1.row i hlt)).1; rw [HG.out] at this; simp at h9; omega)⟩, HB.out⟩
              · go_wp2
                go_ret2
                exact ⟨false, by rw [HE.out]; rfl, ⟨fun h => by (cases h), fun h => False.elim (by have := (price_iff.1 (h.2.2.1.row i hlt)).2; rw [HG.out] at this; simp at h0; omega)⟩, HB.out⟩
            · have hge : ¬ i < rs.length := by have := HN2.out; omega
              have hke : i = c.length := by omega
              have HR2 := Lib.hid (show ∀ i, i < c.length → priceOk (gz rs i) = true ∧ ∀ k, k < wideL c → 0 ≤ cc c i k → gz rs i + gz cs k ≤ cc c i k from fun i hi => HA.out i (by omega))
              generalize hZ : costOf (cc c) c.length (nz l) - sumN (gz cs) (wideL c) - sumN (gz rs) i = Z at *
              have HZ := Lib.hid hZ; clear hZ
              go_wp2
              go_ret2
              refine ⟨Z == 0, by rw [HE.out]; rfl, ?_, HB.out⟩
              rw [beq_iff_eq, ← HZ.out, hke]
              refine ⟨fun h => ⟨HE.out, HT2.out, ⟨HN2.out, HN3.out, HC.out, fun i hi => (HR2.out i hi).1, fun i k hi hk => (HR2.out i hi).2 k hk⟩, ?_⟩, fun h => ?_⟩
              · show costOf (cc c) c.length (nz l) = sumN (gz rs) c.length + sumN (gz cs) (wideL c); omega
              · have h4 : costOf (cc c) c.length (nz l) = sumN (gz rs) c.length + sumN (gz cs) (wideL c) := h.2.2.2
                omega
end Go.Proofs.Ytkpgphadgomifaa
