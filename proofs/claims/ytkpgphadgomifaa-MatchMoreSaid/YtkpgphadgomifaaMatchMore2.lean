/- The law MatchMore, walked. -/
import Derived.Test.YtkpgphadgomifaaMatchMore1
namespace Go.Proofs.Ytkpgphadgomifaa
set_option linter.unusedSimpArgs false
set_option linter.unusedVariables false
open Go.RowKit Go.Sort Go.Shelf

theorem OwnR.made (w : World) (B : Nat) (E : TypeId) (sz : Nat) (hb : B ≤ w.heap.size) : OwnR (w.alloc (.cells #[] E)) B E sz (.slice (some ⟨w.heap.size, 0, none⟩) 0 0) [] :=
  ⟨by simp, World.ownsRow_made w #[] 0 hb (Nat.zero_le _) (by simp)⟩
theorem mat_made {W : World} {a : Option Addr} {n len : Nat} {g cp : Nat → Nat} {d : List (List Int)} (hd : d.length = n) (h : SlAt W a 1 (((List.range n).map (wH g cp len)).map hdr)) (hr : ∀ i, i < n → RowG W (g i) (d.getD i []) ∧ len ≤ cp i ∧ (d.getD i []).length = len) : MatAt W a d := by
  subst hd
  refine ⟨(List.range d.length).map fun i => .slice (some ⟨g i, 0, none⟩) len (cp i), ?_, by simp, fun i hi => ?_⟩
  · rw [List.map_map] at h ⊢
    exact h
  · obtain ⟨h1, h2, h3⟩ := hr i hi
    have e : d.getD i [] = d[i] := by simp [List.getD, hi]
    rw [e] at h1 h3
    exact ⟨some ⟨g i, 0, none⟩, cp i, by simp [hi, h3], ⟨by omega, fun e => by cases e⟩, h1.inAt⟩
theorem grown_set (W : World) (g k : Nat) (v : Value) : W.grownBy (W.setCell ⟨g, k, none⟩ v) (some g) :=
  ⟨rfl, rfl, rfl, by simp, fun i hi hne => heap_setCell_other _ _ _ _ (fun e => hne (by rw [e]))⟩
set_option maxRecDepth 100000 in
set_option maxHeartbeats 8000000 in
theorem more_law (a a2 : Option Addr) (cap cap2 : Nat) (c : List (List Int)) (col : List Int) (x z : Int) (w : World) (hl : c.length ≤ 9223372036854775807) (hl2 : col.length ≤ 9223372036854775807) (hx0 : 0 ≤ x) (hx1 : x ≤ 255) (hz0 : 0 ≤ z) (hz1 : z ≤ 255) (hm : MatAt w a c) (hs : SlOk a c.length cap) (hi : InAt w a2 col) :
    Calls Try.prog 7 #[.slice a c.length cap, .slice a2 col.length cap2, .int .u8 x, .int .u8 z] w fun e w' => e = .returned (.bool true) ∧ Below w.heap.size w w' := by
  obtain ⟨y, rfl⟩ : ∃ y : Nat, x = y := ⟨x.toNat, by omega⟩
  obtain ⟨y2, rfl⟩ : ∃ y2 : Nat, z = y2 := ⟨z.toNat, by omega⟩
  have HM := Lib.hid hm; have HS := Lib.hid hs; have HI := Lib.hid hi
  clear hm hs hi hx0 hz0
  go_enter Try.func7, Try.ntmps7
  go_wp2_with (fail); refine (head_any w).mono ?_; rintro e w1 ⟨rfl, hb⟩; have HB := Lib.hid hb; clear hb
  go_wp2_with (fail)
  refine (RFew_any _ _ c _ hl (HM.out.below HB.out)).mono ?_
  rintro e w2 ⟨rfl, hb⟩
  replace HB := Lib.hid (HB.out.trans (hb.mono HB.out.size)); clear hb
  cases hf : fewB c
  · go_wp2; go_ret; exact ⟨rfl, HB.out⟩
  obtain ⟨f7, f8⟩ := few_iff.1 hf
  have HF8 := Lib.hid f8
  clear f8 hf
  go_wp2_with (fail)
  refine (RForm_any _ _ c _ (by omega) (HM.out.below HB.out)).mono ?_
  rintro e w2 ⟨rfl, hb⟩
  replace HB := Lib.hid (HB.out.trans (hb.mono HB.out.size)); clear hb
  by_cases he : formE c = 0
  case neg =>
    have hne : (formE c != 0) = true := by simpa using he
    go_wp2; go_ret; exact ⟨rfl, HB.out⟩
  have HE := Lib.hid he; clear he
  rw [HE.out]
  by_cases hc0 : c.length = 0
  · have hcb : ((c.length : Int) == 0) = true := by simp [hc0]
    have HC := Lib.hid hc0; clear hc0
    go_wp2; go_ret; exact ⟨rfl, HB.out⟩
  have hcb : ((c.length : Int) == 0) = false := by simp; intro e; simp [e] at hc0
  have hpos : 0 < c.length := by omega
  clear hc0
  have hw8 : wideL c ≤ 8 := by
    cases c with
    | nil => simp [wideL]
    | cons x c => exact HF8.out x (by simp)
  obtain ⟨f1, f2, f3, f4⟩ := formE_ok HE.out
  have HF3 := Lib.hid f3; have HF4 := Lib.hid f4
  clear f3 f4
  obtain ⟨b, off, ai0, ci0, rfl, c0, _, _⟩ := HM.out.get 0 hpos
  have hlen0 := HF3.out c[0] (List.getElem_mem _)
  rw [hlen0, Nat.add_zero] at c0
  clear hlen0
  have g0 := keepC c0 HB.out
  by_cases hw0 : wideL c = 0
  · have hwb : ((wideL c : Int) == 0) = true := by simp [hw0]
    have HC := Lib.hid hw0; clear hw0
    go_wp2; go_ret; exact ⟨rfl, HB.out⟩
  have hwb : ((wideL c : Int) == 0) = false := by simp; intro e; simp [e] at hw0
  have hwp : 0 < wideL c := by omega
  clear hw0
  go_wp2_with (fail)
  refine (Best_any _ _ c _ (by omega) (HM.out.below HB.out) HS.out).mono ?_
  rintro e w3 ⟨bl, total, ok, err, ab, cb, rfl, hsay, hs1, hi1, hb⟩
  obtain rfl : err = 0 := (best_err hsay).trans HE.out
  have HSay := Lib.hid hsay
  replace HB := Lib.hid (HB.out.trans (hb.mono HB.out.size)); clear hb
  clear hs1 hi1 hsay g0
  cases hok : ok
  · go_wp2; go_ret; exact ⟨rfl, HB.out⟩
  obtain ⟨u, v, _, bh, _, _, htot⟩ := best_has HSay.out hok
  have HH := Lib.hid bh; have HT := Lib.hid htot
  clear bh htot HSay
  have HB3 := Lib.hid (Below.refl w3.heap.size w3)
  go_wp2
  go_loopw [14, 15, 16] (fun s14 s15 s16 wr => ∃ (m : Nat) (gw cw gl cl : Nat → Nat), m ≤ c.length ∧ s16 = .int .i64 m ∧ MoreI wr w3.heap.size c col m m s14 s15 gw cw gl cl ∧ Below w3.heap.size w3 wr) (fun _ _ i _ => c.length - (intOf i).toNat)
  case atStart => exact ⟨0, fun _ => 0, fun _ => 0, fun _ => 0, fun _ => 0, Nat.zero_le _, rfl, ⟨OwnR.nil _ _ _ _, OwnR.nil _ _ _ _, fun _ => rfl, fun _ => rfl, fun i hi => by omega, fun i hi => by omega, fun i j hi => by omega, fun i j hi => by omega⟩, HB3.out⟩
  case round =>
    obtain ⟨m, gw, cw, gl, cl, hm, rfl, hI, hb⟩ := hrel
    have HIn := Lib.hid hI; have HW := Lib.hid hb
    clear hI hb HB3
    by_cases hlt : m < c.length
    · obtain ⟨b, off, ai, ci, e, c0, hsk, hik⟩ := (HM.out.below (HB.out.trans (HW.out.mono HB.out.size))).get m hlt
      cases e
      have hlen := HF3.out c[m] (List.getElem_mem _)
      have HIK := Lib.hid hik; have HSK := Lib.hid hsk; have HLen := Lib.hid hlen
      have hext := ext_ok col m
      have HGd := Lib.hid (show c.getD m [] = c[m] by simp [List.getD, hlt])
      rw [hlen] at c0
      have g1 := keepC c0 ((Below.refl wr.heap.size wr).alloc (Nat.le_refl _) (.cells #[] 3))
      clear hsk hik hlen
      by_cases hmc : m < col.length
      · obtain ⟨b2, o2, rfl, d0⟩ := HI.out.get m hmc
        have g0 := keepC d0 (HB.out.trans (HW.out.mono HB.out.size))
        have hex : ext col m = max (-1) (min col[m] 1000000) := by simp [ext, hmc]
        have HEx := Lib.hid hex; clear hex
        go_upto_region 14 with (fail)
        go_upto_region 15 with (first | (at_builtin; refine appE eltInt rfl (.tmp 85) (.tmp 89) rfl wr.heap.size _ [] rfl (OwnR.made _ _ _ _ (Nat.le_refl _)) _ _ _ c[m] rfl HLen.out.symm HSK.out.none (HIK.out.below ((Below.refl _ _).alloc (Nat.le_refl _) _)) (by have := HLen.out; simp; omega) (by simp) ?_; intro v1 w5 ho1 hg1; have HB1 := Lib.hid (below_grown ((Below.refl wr.heap.size wr).alloc (Nat.le_refl _) _) (OwnR.made wr wr.heap.size 3 1 (Nat.le_refl _)) (by simp) hg1); have HO1 := Lib.hid ho1; clear ho1 hg1) | (at_builtin; refine appE eltInt rfl (.tmp 90) (.tmp 92) rfl wr.heap.size _ c[m] rfl (HO1.out.below ((Below.refl _ _).alloc (Nat.le_refl _) _)) _ _ _ [ext col m] rfl rfl (fun e => by cases e) (eltInt.new _ _ _ _ (by rw [HEx.out]; rfl)) (by have := HLen.out; simp; omega) (by have := HB1.out.size; simp; omega) ?_; intro v2 w6 ho2 hg2; have HB2 := Lib.hid (below_grown (HB1.out.alloc HB1.out.size _) (HO1.out.below ((Below.refl _ _).alloc (Nat.le_refl _) _)) (by have := HB1.out.size; simp; omega) hg2); obtain ⟨g2, c2, e2, q1, q2, q3⟩ := RowG.of_own ho2 (by simp); rw [List.length_append, HLen.out, List.length_singleton] at e2 q2; subst e2; rw [← HGd.out] at q3; have HR2 := Lib.hid q3; have HQ2 := Lib.hid (And.intro q1 q2); clear ho2 hg2 q3 q1 q2) | (at_builtin; refine appE eltHd rfl (.tmp 84) (.tmp 94) rfl w3.heap.size _ ((List.range m).map (wH gw cw (wideL c + 1))) rfl (HIn.out.ow.below (HB2.out.alloc HB2.out.size _)) _ _ _ [((some ⟨g2, 0, none⟩, wideL c + 1, c2) : Hd)] rfl rfl (fun e => by cases e) (eltHd.new _ _ _ _ rfl) (by simp; omega) (by have := HB2.out.size; have := HW.out.size; simp; omega) ?_; intro v3 w7 ho3 hg3; have HI7 := Lib.hid (HIn.out.wide HB2.out HR2.out HQ2.out.1 HQ2.out.2 HW.out.size ho3 hg3); have HW7 := Lib.hid (below_grown ((HW.out.trans (HB2.out.mono HW.out.size)).alloc (by have := HB2.out.size; have := HW.out.size; omega) _) (HIn.out.ow.below (HB2.out.alloc HB2.out.size _)) (by have := HB2.out.size; have := HW.out.size; simp; omega) hg3); clear ho3 hg3))
        obtain ⟨b', off', ai', ci', e, c0', hsk', hik'⟩ := (HM.out.below (HB.out.trans (HW7.out.mono HB.out.size))).get m hlt
        cases e
        rw [HLen.out] at c0'
        have HIK' := Lib.hid hik'; have HSK' := Lib.hid hsk'
        have g7 := keepC c0' ((Below.refl w7.heap.size w7).alloc (Nat.le_refl _) (.cells #[] 3))
        clear hsk' hik' HIK HSK
        go_wp2_with (first | (at_builtin; refine appE eltInt rfl (.tmp 97) (.tmp 101) rfl w7.heap.size _ [] rfl (OwnR.made _ _ _ _ (Nat.le_refl _)) _ _ _ c[m] rfl HLen.out.symm HSK'.out.none (HIK'.out.below ((Below.refl _ _).alloc (Nat.le_refl _) _)) (by have := HLen.out; simp; omega) (by simp) ?_; intro v4 w8 ho4 hg4; have HB4 := Lib.hid (below_grown ((Below.refl w7.heap.size w7).alloc (Nat.le_refl _) _) (OwnR.made w7 w7.heap.size 3 1 (Nat.le_refl _)) (by simp) hg4); obtain ⟨g4, c4, e4, q1, q2, q3⟩ := RowG.of_own ho4 (by intro h; have h2 := HLen.out; rw [List.nil_append] at h; rw [h] at h2; simp at h2; omega); rw [List.nil_append, HLen.out] at e4 q2; rw [List.nil_append, ← HGd.out] at q3; subst e4; have HR4 := Lib.hid q3; have HQ4 := Lib.hid (And.intro q1 q2); clear ho4 hg4 q3 q1 q2) | (at_builtin; go_loud (refine appE eltHd rfl (.tmp 96) (.tmp 103) rfl w3.heap.size _ ((List.range m).map (wH gl cl (wideL c))) rfl (HI7.out.ol.below (HB4.out.alloc HB4.out.size _)) _ _ _ [((some ⟨g4, 0, none⟩, wideL c, c4) : Hd)] rfl rfl (fun e => by cases e) (eltHd.new _ _ _ _ rfl) (by simp; omega) (by have := HB4.out.size; have := HW7.out.size; simp; omega) ?_); intro v5 w9 ho5 hg5; have HI9 := Lib.hid (HI7.out.less HB4.out HR4.out HQ4.out.1 HQ4.out.2 HW7.out.size ho5 hg5); have HW9 := Lib.hid (below_grown ((HW7.out.trans (HB4.out.mono HW7.out.size)).alloc (by have := HB4.out.size; have := HW7.out.size; omega) _) (HI7.out.ol.below (HB4.out.alloc HB4.out.size _)) (by have := HB4.out.size; have := HW7.out.size; simp; omega) hg5); clear ho5 hg5))
        exact ⟨⟨m + 1, _, _, _, _, by omega, by go_num, HI9.out, HW9.out⟩, by simp [intOf]; omega⟩
      · have hex : ext col m = -1 := by simp [ext, hmc]
        have HEx := Lib.hid hex; clear hex
        go_upto_region 14 with (fail)
        go_upto_region 15 with (first | (at_builtin; refine appE eltInt rfl (.tmp 85) (.tmp 89) rfl wr.heap.size _ [] rfl (OwnR.made _ _ _ _ (Nat.le_refl _)) _ _ _ c[m] rfl HLen.out.symm HSK.out.none (HIK.out.below ((Below.refl _ _).alloc (Nat.le_refl _) _)) (by have := HLen.out; simp; omega) (by simp) ?_; intro v1 w5 ho1 hg1; have HB1 := Lib.hid (below_grown ((Below.refl wr.heap.size wr).alloc (Nat.le_refl _) _) (OwnR.made wr wr.heap.size 3 1 (Nat.le_refl _)) (by simp) hg1); have HO1 := Lib.hid ho1; clear ho1 hg1) | (at_builtin; refine appE eltInt rfl (.tmp 90) (.tmp 92) rfl wr.heap.size _ c[m] rfl (HO1.out.below ((Below.refl _ _).alloc (Nat.le_refl _) _)) _ _ _ [ext col m] rfl rfl (fun e => by cases e) (eltInt.new _ _ _ _ (by rw [HEx.out]; rfl)) (by have := HLen.out; simp; omega) (by have := HB1.out.size; simp; omega) ?_; intro v2 w6 ho2 hg2; have HB2 := Lib.hid (below_grown (HB1.out.alloc HB1.out.size _) (HO1.out.below ((Below.refl _ _).alloc (Nat.le_refl _) _)) (by have := HB1.out.size; simp; omega) hg2); obtain ⟨g2, c2, e2, q1, q2, q3⟩ := RowG.of_own ho2 (by simp); rw [List.length_append, HLen.out, List.length_singleton] at e2 q2; subst e2; rw [← HGd.out] at q3; have HR2 := Lib.hid q3; have HQ2 := Lib.hid (And.intro q1 q2); clear ho2 hg2 q3 q1 q2) | (at_builtin; refine appE eltHd rfl (.tmp 84) (.tmp 94) rfl w3.heap.size _ ((List.range m).map (wH gw cw (wideL c + 1))) rfl (HIn.out.ow.below (HB2.out.alloc HB2.out.size _)) _ _ _ [((some ⟨g2, 0, none⟩, wideL c + 1, c2) : Hd)] rfl rfl (fun e => by cases e) (eltHd.new _ _ _ _ rfl) (by simp; omega) (by have := HB2.out.size; have := HW.out.size; simp; omega) ?_; intro v3 w7 ho3 hg3; have HI7 := Lib.hid (HIn.out.wide HB2.out HR2.out HQ2.out.1 HQ2.out.2 HW.out.size ho3 hg3); have HW7 := Lib.hid (below_grown ((HW.out.trans (HB2.out.mono HW.out.size)).alloc (by have := HB2.out.size; have := HW.out.size; omega) _) (HIn.out.ow.below (HB2.out.alloc HB2.out.size _)) (by have := HB2.out.size; have := HW.out.size; simp; omega) hg3); clear ho3 hg3))
        obtain ⟨b', off', ai', ci', e, c0', hsk', hik'⟩ := (HM.out.below (HB.out.trans (HW7.out.mono HB.out.size))).get m hlt
        cases e
        rw [HLen.out] at c0'
        have HIK' := Lib.hid hik'; have HSK' := Lib.hid hsk'
        have g7 := keepC c0' ((Below.refl w7.heap.size w7).alloc (Nat.le_refl _) (.cells #[] 3))
        clear hsk' hik' HIK HSK
        go_wp2_with (first | (at_builtin; refine appE eltInt rfl (.tmp 97) (.tmp 101) rfl w7.heap.size _ [] rfl (OwnR.made _ _ _ _ (Nat.le_refl _)) _ _ _ c[m] rfl HLen.out.symm HSK'.out.none (HIK'.out.below ((Below.refl _ _).alloc (Nat.le_refl _) _)) (by have := HLen.out; simp; omega) (by simp) ?_; intro v4 w8 ho4 hg4; have HB4 := Lib.hid (below_grown ((Below.refl w7.heap.size w7).alloc (Nat.le_refl _) _) (OwnR.made w7 w7.heap.size 3 1 (Nat.le_refl _)) (by simp) hg4); obtain ⟨g4, c4, e4, q1, q2, q3⟩ := RowG.of_own ho4 (by intro h; have h2 := HLen.out; rw [List.nil_append] at h; rw [h] at h2; simp at h2; omega); rw [List.nil_append, HLen.out] at e4 q2; rw [List.nil_append, ← HGd.out] at q3; subst e4; have HR4 := Lib.hid q3; have HQ4 := Lib.hid (And.intro q1 q2); clear ho4 hg4 q3 q1 q2) | (at_builtin; go_loud (refine appE eltHd rfl (.tmp 96) (.tmp 103) rfl w3.heap.size _ ((List.range m).map (wH gl cl (wideL c))) rfl (HI7.out.ol.below (HB4.out.alloc HB4.out.size _)) _ _ _ [((some ⟨g4, 0, none⟩, wideL c, c4) : Hd)] rfl rfl (fun e => by cases e) (eltHd.new _ _ _ _ rfl) (by simp; omega) (by have := HB4.out.size; have := HW7.out.size; simp; omega) ?_); intro v5 w9 ho5 hg5; have HI9 := Lib.hid (HI7.out.less HB4.out HR4.out HQ4.out.1 HQ4.out.2 HW7.out.size ho5 hg5); have HW9 := Lib.hid (below_grown ((HW7.out.trans (HB4.out.mono HW7.out.size)).alloc (by have := HB4.out.size; have := HW7.out.size; omega) _) (HI7.out.ol.below (HB4.out.alloc HB4.out.size _)) (by have := HB4.out.size; have := HW7.out.size; simp; omega) hg5); clear ho5 hg5))
        exact ⟨⟨m + 1, _, _, _, _, by omega, by go_num, HI9.out, HW9.out⟩, by simp [intOf]; omega⟩
    · obtain rfl : m = c.length := by omega
      clear hlt hm
      obtain ⟨aw, pw, ew, sw1, sw2⟩ := HIn.out.ow.slAt
      obtain ⟨al, pl, el, sl1, sl2⟩ := HIn.out.ol.slAt
      rw [List.length_map, List.length_map, List.length_range] at ew el sw1 sl1
      obtain ⟨i0, hi0, hy⟩ : ∃ i0 : Nat, i0 < c.length ∧ (y : Int) % (c.length : Int) = i0 := ⟨y % c.length, Nat.mod_lt _ hpos, by simp⟩
      obtain ⟨k0, hk0, hy2⟩ : ∃ k0 : Nat, k0 < wideL c ∧ (y2 : Int) % (wideL c : Int) = k0 := ⟨y2 % wideL c, Nat.mod_lt _ hwp, by simp⟩
      obtain ⟨bB, oB, eB, _, _, hcell⟩ := sl2 i0 [.slice (some ⟨gl i0, 0, none⟩) (wideL c) (cl i0)] (by simp [hi0, wH, hdr])
      have gc := hcell 0 _ rfl
      rw [Nat.mul_one, Nat.add_zero] at gc
      obtain ⟨r1, r2, r3⟩ := HIn.out.rl i0 hi0
      have hgd : c.getD i0 [] = c[i0] := by simp [List.getD, hi0]
      have hli := HF3.out c[i0] (List.getElem_mem _)
      have gv := r1.cell (j := k0) (by rw [hgd, hli]; exact hk0)
      have hval : (c.getD i0 [])[k0]'(by rw [hgd, hli]; exact hk0) = cc c i0 k0 := by
        rw [cc_get hi0 (by omega)]
        simp only [hgd]
      rw [hval] at gv
      have gf := r1.free k0
      obtain ⟨n1, n2⟩ := cc_le HF3.out HF4.out i0 k0 hi0 hk0
      subst ew el eB
      have HS1 := Lib.hid sw1; have HS2 := Lib.hid sw2; have HL1 := Lib.hid sl1; have HL2 := Lib.hid sl2
      have HR1 := Lib.hid r1
      clear sw1 sw2 sl1 sl2 hcell hval r1 hgd hli
      go_wp2_with (fail)
      have hgr := grown_set wr (gl i0) k0 (.int .i64 (max 0 ((cc c i0 k0).tdiv 2)))
      have ow' := HIn.out.ow.kept hgr (.inr (rowG_ne HR1.out HIn.out.ow))
      have ol' := HIn.out.ol.kept hgr (.inr (rowG_ne HR1.out HIn.out.ol))
      have hlr : k0 < (c.getD i0 []).length := by
        rw [show c.getD i0 [] = c[i0] by simp [List.getD, hi0], HF3.out c[i0] (List.getElem_mem _)]
        exact hk0
      have rset := HR1.out.set hlr (half (cc c i0 k0))
      have hbs := HW.out.setCell (u := .int .i64 (max 0 ((cc c i0 k0).tdiv 2))) (p := ⟨gl i0, k0, none⟩) r3
      have rset' : RowG (wr.setCell ⟨gl i0, k0, none⟩ (.int .i64 (max 0 ((cc c i0 k0).tdiv 2)))) (gl i0) ((c.getD i0 []).set k0 (half (cc c i0 k0))) := rset
      have kw : ∀ i, i < c.length → RowG (wr.setCell ⟨gl i0, k0, none⟩ (.int .i64 (max 0 ((cc c i0 k0).tdiv 2)))) (gw i) (c.getD i [] ++ [ext col i]) := fun i hi =>
        (HIn.out.rw i hi).1.of_eq (heap_setCell_other _ _ _ _ (HIn.out.wl i i0 hi hi0))
      have kl : ∀ i, i < c.length → i ≠ i0 → RowG (wr.setCell ⟨gl i0, k0, none⟩ (.int .i64 (max 0 ((cc c i0 k0).tdiv 2)))) (gl i) (c.getD i []) := fun i hi hne =>
        (HIn.out.rl i hi).1.of_eq (heap_setCell_other _ _ _ _ (HIn.out.ll i i0 hi hi0 hne))
      generalize wr.setCell ⟨gl i0, k0, none⟩ (.int .i64 (max 0 ((cc c i0 k0).tdiv 2))) = W at *
      obtain ⟨a1', p1', ew', _, sw'⟩ := ow'.slAt
      obtain ⟨a2', p2', el', _, sl'⟩ := ol'.slAt
      rw [List.length_map, List.length_map, List.length_range] at ew' el'
      cases ew'
      cases el'
      have gdl : ∀ i (hi : i < c.length), (c.getD i []).length = wideL c := fun i hi => by
        rw [show c.getD i [] = c[i] by simp [List.getD, hi]]
        exact HF3.out _ (List.getElem_mem _)
      have mw := mat_made (d := wideC c col) (wideC_len c col) sw' fun i hi => by
        have e : (wideC c col).getD i [] = c.getD i [] ++ [ext col i] := by simp [wideC, List.getD, hi]
        rw [e]
        exact ⟨kw i hi, (HIn.out.rw i hi).2.1, by rw [List.length_append, gdl i hi]; rfl⟩
      have ml := mat_made (d := lessC c i0 k0) (lessC_len c i0 k0) sl' fun i hi => by
        have e : (lessC c i0 k0).getD i [] = if i = i0 then (c.getD i []).set k0 (half (cc c i0 k0)) else c.getD i [] := by simp [lessC, List.getD, hi]
        rw [e]
        by_cases h : i = i0
        · rw [if_pos h]; subst h
          exact ⟨rset', (HIn.out.rl i hi).2.1, by rw [List.length_set]; exact gdl i hi⟩
        · rw [if_neg h]
          exact ⟨kl i hi h, (HIn.out.rl i hi).2.1, gdl i hi⟩
      have HMw := Lib.hid mw; have HMl := Lib.hid ml
      obtain ⟨w1', w2', w3'⟩ := wideC_all (col := col) HE.out hpos f7 hw8
      obtain ⟨l1', l2', l3'⟩ := lessC_all HE.out hi0 hk0
      obtain ⟨bw1, bw2⟩ := better (wideC_len c col) (by rw [w2']; omega) HH.out.tight.mt fun i k hi hk h0 => by rw [w3' i k hi hk]; exact ⟨h0, Int.le_refl _⟩
      obtain ⟨bl1, bl2⟩ := better (lessC_len c i0 k0) (by rw [l2']; exact Nat.le_refl _) HH.out.tight.mt l3'
      rw [← totL_cost HH.out.len, ← HT.out] at bw2 bl2
      replace HB := Lib.hid (HB.out.trans (hbs.mono HB.out.size))
      have HE1 := Lib.hid w1'; have HE2 := Lib.hid l1'; have HBW1 := Lib.hid bw1; have HBW2 := Lib.hid bw2; have HBL1 := Lib.hid bl1; have HBL2 := Lib.hid bl2
      clear ow' ol' rset rset' kw kl gdl mw ml sw' sl' w1' w2' w3' l1' l2' l3' bw1 bw2 bl1 bl2 hbs hgr
      have hq := Best_any aw pw (wideC c col) W (by rw [wideC_len]; omega) HMw.out (by rw [wideC_len]; exact HS1.out)
      rw [wideC_len] at hq
      refine hq.mono ?_
      clear hq
      rintro e w7 ⟨bl7, total7, ok7, err7, a7, c7, rfl, hsay7, _, _, hb⟩
      obtain rfl : ok7 = true := best_ok hsay7 HE1.out ⟨_, HBW1.out⟩
      obtain rfl : err7 = 0 := (best_err hsay7).trans HE1.out
      obtain ⟨u7, v7, _, bh7, _, _, ht7⟩ := best_has hsay7 rfl
      have le7 : total7 ≤ total := by rw [ht7]; exact Int.le_trans (bh7.least HBW1.out) HBW2.out
      replace HMl := Lib.hid (HMl.out.below hb)
      replace HB := Lib.hid (HB.out.trans (hb.mono HB.out.size)); clear hb
      clear hsay7 bh7 ht7
      go_wp2_with (fail)
      have hq := Best_any (some ⟨bB, oB, none⟩) pl (lessC c i0 k0) w7 (by rw [lessC_len]; omega) HMl.out (by rw [lessC_len]; exact HL1.out)
      rw [lessC_len] at hq
      refine hq.mono ?_
      clear hq
      rintro e w8 ⟨bl8, total8, ok8, err8, a8, c8, rfl, hsay8, _, _, hb⟩
      obtain rfl : ok8 = true := best_ok hsay8 HE2.out ⟨_, HBL1.out⟩
      obtain rfl : err8 = 0 := (best_err hsay8).trans HE2.out
      obtain ⟨u8, v8, _, bh8, _, _, ht8⟩ := best_has hsay8 rfl
      have le8 : total8 ≤ total := by rw [ht8]; exact Int.le_trans (bh8.least HBL1.out) HBL2.out
      replace HB := Lib.hid (HB.out.trans (hb.mono HB.out.size)); clear hb
      clear hsay8 bh8 ht8
      go_wp2; go_ret; exact ⟨rfl, HB.out⟩
end Go.Proofs.Ytkpgphadgomifaa
