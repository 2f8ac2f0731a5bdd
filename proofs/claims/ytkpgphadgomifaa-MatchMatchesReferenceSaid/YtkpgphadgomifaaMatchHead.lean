/- The head of the laws on matchings. -/
import Derived.Test.YtkpgphadgomifaaMatchLaw0
namespace Go.Proofs.Ytkpgphadgomifaa
set_option linter.unusedSimpArgs false
set_option linter.unusedVariables false
open Go.RowKit Go.Sort Go.Shelf

theorem in_lit (w : World) (l : List Int) (E : TypeId) : InAt (w.alloc (.cells (l.map (Value.int .i64)).toArray E)) (some ⟨w.heap.size, 0, none⟩) l :=
  SlAt.new w _ _ 1 (l.map inRow) (by intro r hr; obtain ⟨x, _, rfl⟩ := List.mem_map.1 hr; rfl) (flat_in l)
theorem slOk_lit (b off n cap : Nat) (h : n ≤ cap) : SlOk (some ⟨b, off, none⟩) n cap := ⟨h, (fun e => by cases e), (fun ad e => by cases e; rfl)⟩
theorem mat_two (w : World) (l1 l2 : List Int) (E F : TypeId) (n1 n2 : Nat) (h1 : n1 = l1.length) (h2 : n2 = l2.length) : MatAt (((w.alloc (.cells (l1.map (Value.int .i64)).toArray E)).alloc (.cells (l2.map (Value.int .i64)).toArray E)).alloc (.cells #[.slice (some ⟨w.heap.size, 0, none⟩) n1 n1, .slice (some ⟨w.heap.size + 1, 0, none⟩) n2 n2] F))
    (some ⟨w.heap.size + 1 + 1, 0, none⟩) [l1, l2] := by
  subst h1 h2
  have i1 := ((in_lit w l1 E).below ((Below.refl _ _).alloc (Nat.le_refl _) (.cells (l2.map (Value.int .i64)).toArray E))).below ((Below.refl _ _).alloc (Nat.le_refl _) (.cells #[.slice (some ⟨w.heap.size, 0, none⟩) l1.length l1.length, .slice (some ⟨w.heap.size + 1, 0, none⟩) l2.length l2.length] F))
  have i2 := (in_lit (w.alloc (.cells (l1.map (Value.int .i64)).toArray E)) l2 E).below ((Below.refl _ _).alloc (Nat.le_refl _) (.cells #[.slice (some ⟨w.heap.size, 0, none⟩) l1.length l1.length, .slice (some ⟨w.heap.size + 1, 0, none⟩) l2.length l2.length] F))
  rw [show (w.alloc (.cells (l1.map (Value.int .i64)).toArray E)).heap.size = w.heap.size + 1 by simp] at i2
  refine ⟨[.slice (some ⟨w.heap.size, 0, none⟩) l1.length l1.length, .slice (some ⟨w.heap.size + 1, 0, none⟩) l2.length l2.length], ?_, rfl, fun i hi => ?_⟩
  · have := SlAt.new ((w.alloc (.cells (l1.map (Value.int .i64)).toArray E)).alloc (.cells (l2.map (Value.int .i64)).toArray E)) [.slice (some ⟨w.heap.size, 0, none⟩) l1.length l1.length, .slice (some ⟨w.heap.size + 1, 0, none⟩) l2.length l2.length] F 1 ([.slice (some ⟨w.heap.size, 0, none⟩) l1.length l1.length, .slice (some ⟨w.heap.size + 1, 0, none⟩) l2.length l2.length].map fun v => [v]) (by simp) rfl
    rw [show ((w.alloc (.cells (l1.map (Value.int .i64)).toArray E)).alloc (.cells (l2.map (Value.int .i64)).toArray E)).heap.size = w.heap.size + 1 + 1 by simp] at this
    exact this
  · have hi : i < 2 := hi
    match i, hi with
    | 0, _ => exact ⟨_, _, rfl, (slOk_lit _ _ _ _ (Nat.le_refl _)).weak, i1⟩
    | 1, _ => exact ⟨_, _, rfl, (slOk_lit _ _ _ _ (Nat.le_refl _)).weak, i2⟩
theorem mat_one (w : World) (l1 : List Int) (E F : TypeId) (n1 : Nat) (h1 : n1 = l1.length) : MatAt ((w.alloc (.cells (l1.map (Value.int .i64)).toArray E)).alloc (.cells #[.slice (some ⟨w.heap.size, 0, none⟩) n1 n1] F))
    (some ⟨w.heap.size + 1, 0, none⟩) [l1] := by
  subst h1
  have i1 := (in_lit w l1 E).below ((Below.refl _ _).alloc (Nat.le_refl _) (.cells #[.slice (some ⟨w.heap.size, 0, none⟩) l1.length l1.length] F))
  refine ⟨[.slice (some ⟨w.heap.size, 0, none⟩) l1.length l1.length], ?_, rfl, fun i hi => ?_⟩
  · have := SlAt.new (w.alloc (.cells (l1.map (Value.int .i64)).toArray E)) [.slice (some ⟨w.heap.size, 0, none⟩) l1.length l1.length] F 1 ([.slice (some ⟨w.heap.size, 0, none⟩) l1.length l1.length].map fun v => [v]) (by simp) rfl
    rw [show (w.alloc (.cells (l1.map (Value.int .i64)).toArray E)).heap.size = w.heap.size + 1 by simp] at this
    exact this
  · have hi : i < 1 := hi
    match i, hi with
    | 0, _ => exact ⟨_, _, rfl, (slOk_lit _ _ _ _ (Nat.le_refl _)).weak, i1⟩
theorem lits3 (w : World) (l1 l2 l3 : List Int) (E : TypeId) : InAt (((w.alloc (.cells (l1.map (Value.int .i64)).toArray E)).alloc (.cells (l2.map (Value.int .i64)).toArray E)).alloc (.cells (l3.map (Value.int .i64)).toArray E)) (some ⟨w.heap.size, 0, none⟩) l1 ∧
    InAt (((w.alloc (.cells (l1.map (Value.int .i64)).toArray E)).alloc (.cells (l2.map (Value.int .i64)).toArray E)).alloc (.cells (l3.map (Value.int .i64)).toArray E)) (some ⟨w.heap.size + 1, 0, none⟩) l2 ∧
    InAt (((w.alloc (.cells (l1.map (Value.int .i64)).toArray E)).alloc (.cells (l2.map (Value.int .i64)).toArray E)).alloc (.cells (l3.map (Value.int .i64)).toArray E)) (some ⟨w.heap.size + 1 + 1, 0, none⟩) l3 ∧ Below w.heap.size w (((w.alloc (.cells (l1.map (Value.int .i64)).toArray E)).alloc (.cells (l2.map (Value.int .i64)).toArray E)).alloc (.cells (l3.map (Value.int .i64)).toArray E)) := by
  have i1 := ((in_lit w l1 E).below ((Below.refl _ _).alloc (Nat.le_refl _) (.cells (l2.map (Value.int .i64)).toArray E))).below ((Below.refl _ _).alloc (Nat.le_refl _) (.cells (l3.map (Value.int .i64)).toArray E))
  have i2 := (in_lit (w.alloc (.cells (l1.map (Value.int .i64)).toArray E)) l2 E).below ((Below.refl _ _).alloc (Nat.le_refl _) (.cells (l3.map (Value.int .i64)).toArray E))
  rw [show (w.alloc (.cells (l1.map (Value.int .i64)).toArray E)).heap.size = w.heap.size + 1 by simp] at i2
  have i3 := in_lit ((w.alloc (.cells (l1.map (Value.int .i64)).toArray E)).alloc (.cells (l2.map (Value.int .i64)).toArray E)) l3 E
  rw [show ((w.alloc (.cells (l1.map (Value.int .i64)).toArray E)).alloc (.cells (l2.map (Value.int .i64)).toArray E)).heap.size = w.heap.size + 1 + 1 by simp] at i3
  exact ⟨i1, i2, i3, (((Below.refl _ _).alloc (Nat.le_refl _) _).alloc (by simp) _).alloc (by simp <;> omega) _⟩
set_option maxRecDepth 100000 in
set_option maxHeartbeats 4000000 in
theorem head_any (w : World) : Calls Try.prog 9 #[] w fun e w' => e = .returned (.bool true) ∧ Below w.heap.size w w' := by
  go_enter Try.func9, Try.ntmps9
  go_wp2_with (fail)
  have hm0 : MatAt (((w.alloc (.cells #[.int .i64 1, .int .i64 2] 3)).alloc (.cells #[.int .i64 1, .int .i64 4] 3)).alloc (.cells #[.slice (some ⟨w.heap.size, 0, none⟩) 2 2, .slice (some ⟨w.heap.size + 1, 0, none⟩) 2 2] 23)) (some ⟨w.heap.size + 1 + 1, 0, none⟩) E0 := mat_two w [1, 2] [1, 4] 3 23 2 2 rfl rfl
  have hb0 : Below w.heap.size w (((w.alloc (.cells #[.int .i64 1, .int .i64 2] 3)).alloc (.cells #[.int .i64 1, .int .i64 4] 3)).alloc (.cells #[.slice (some ⟨w.heap.size, 0, none⟩) 2 2, .slice (some ⟨w.heap.size + 1, 0, none⟩) 2 2] 23)) := (((Below.refl _ _).alloc (Nat.le_refl _) _).alloc (by simp) _).alloc (by simp <;> omega) _
  generalize (((w.alloc (.cells #[.int .i64 1, .int .i64 2] 3)).alloc (.cells #[.int .i64 1, .int .i64 4] 3)).alloc (.cells #[.slice (some ⟨w.heap.size, 0, none⟩) 2 2, .slice (some ⟨w.heap.size + 1, 0, none⟩) 2 2] 23)) = w0 at *
  have HM := Lib.hid hm0; have HB := Lib.hid hb0; clear hm0 hb0
  refine (Best_any _ _ E0 w0 (by decide) HM.out (slOk_lit _ _ _ _ (Nat.le_refl _))).mono ?_
  rintro e w1 ⟨l, total, ok, err, a1, c1, rfl, hsay, hs1, hi1, hb⟩
  obtain ⟨rfl, rfl, rfl, rfl⟩ := best0 hsay
  obtain ⟨u, v, _, bh, _⟩ := best_has hsay rfl
  rw [met_in] at hi1
  have HH := Lib.hid bh; have HI1 := Lib.hid (show InAt w1 a1 [1, 0] from hi1); have HS1 := Lib.hid hs1
  replace HB := Lib.hid (HB.out.trans (hb.mono HB.out.size)); replace HM := Lib.hid (HM.out.below hb)
  clear bh hi1 hs1 hb hsay
  go_wp2_with (fail)
  obtain ⟨t1, t2, t3, hb⟩ := lits3 w1 [1, 0] [2, 2] [-1, 0] 3
  refine (Proves_any _ _ _ _ _ _ _ _ E0 [1, 0] [2, 2] [-1, 0] _ (by decide) (by decide) (by decide) (by decide) (HM.out.below hb) (slOk_lit _ _ _ _ (Nat.le_refl _)) t1 t2 t3).mono ?_
  replace HB := Lib.hid (HB.out.trans (hb.mono HB.out.size)); replace HM := Lib.hid (HM.out.below hb); replace HI1 := Lib.hid (HI1.out.below hb); (try replace HI2 := Lib.hid (HI2.out.below hb)); (try replace HU := Lib.hid (HU.out.below hb)); (try replace HV := Lib.hid (HV.out.below hb))
  clear t1 t2 t3 hb
  rintro e w2 ⟨b, rfl, hp, hb⟩
  obtain rfl : b = true := hp.2 proof0
  replace HB := Lib.hid (HB.out.trans (hb.mono HB.out.size)); replace HM := Lib.hid (HM.out.below hb); replace HI1 := Lib.hid (HI1.out.below hb); (try replace HI2 := Lib.hid (HI2.out.below hb)); (try replace HU := Lib.hid (HU.out.below hb)); (try replace HV := Lib.hid (HV.out.below hb))
  clear hp hb
  go_wp2_with (fail)
  obtain ⟨t1, t2, t3, hb⟩ := lits3 w2 [0, 1] [2, 2] [-1, 0] 3
  refine (Proves_any _ _ _ _ _ _ _ _ E0 [0, 1] [2, 2] [-1, 0] _ (by decide) (by decide) (by decide) (by decide) (HM.out.below hb) (slOk_lit _ _ _ _ (Nat.le_refl _)) t1 t2 t3).mono ?_
  replace HB := Lib.hid (HB.out.trans (hb.mono HB.out.size)); replace HM := Lib.hid (HM.out.below hb); replace HI1 := Lib.hid (HI1.out.below hb); (try replace HI2 := Lib.hid (HI2.out.below hb)); (try replace HU := Lib.hid (HU.out.below hb)); (try replace HV := Lib.hid (HV.out.below hb))
  clear t1 t2 t3 hb
  rintro e w3 ⟨b, rfl, hp, hb⟩
  obtain rfl : b = false := by
    cases b
    · rfl
    · exact absurd (hp.1 rfl) proof1
  replace HB := Lib.hid (HB.out.trans (hb.mono HB.out.size)); replace HM := Lib.hid (HM.out.below hb); replace HI1 := Lib.hid (HI1.out.below hb); (try replace HI2 := Lib.hid (HI2.out.below hb)); (try replace HU := Lib.hid (HU.out.below hb)); (try replace HV := Lib.hid (HV.out.below hb))
  clear hp hb
  go_wp2_with (fail)
  have hm1 : MatAt (((w3.alloc (.cells #[.int .i64 1, .int .i64 (-1)] 3)).alloc (.cells #[.int .i64 2, .int .i64 (-1)] 3)).alloc (.cells #[.slice (some ⟨w3.heap.size, 0, none⟩) 2 2, .slice (some ⟨w3.heap.size + 1, 0, none⟩) 2 2] 23)) (some ⟨w3.heap.size + 1 + 1, 0, none⟩) E1 := mat_two w3 [1, -1] [2, -1] 3 23 2 2 rfl rfl
  have hb : Below w3.heap.size w3 (((w3.alloc (.cells #[.int .i64 1, .int .i64 (-1)] 3)).alloc (.cells #[.int .i64 2, .int .i64 (-1)] 3)).alloc (.cells #[.slice (some ⟨w3.heap.size, 0, none⟩) 2 2, .slice (some ⟨w3.heap.size + 1, 0, none⟩) 2 2] 23)) := (((Below.refl _ _).alloc (Nat.le_refl _) _).alloc (by simp) _).alloc (by simp <;> omega) _
  replace HB := Lib.hid (HB.out.trans (hb.mono HB.out.size)); replace HM := Lib.hid (HM.out.below hb); replace HI1 := Lib.hid (HI1.out.below hb); (try replace HI2 := Lib.hid (HI2.out.below hb)); (try replace HU := Lib.hid (HU.out.below hb)); (try replace HV := Lib.hid (HV.out.below hb))
  clear hb
  refine (Short_any _ _ E1 _ (by decide) hm1 (slOk_lit _ _ _ _ (Nat.le_refl _))).mono ?_
  clear hm1
  rintro e w4 ⟨l, short, err, a2, c2, rfl, hsay, hs2, hi2, hb⟩
  obtain ⟨rfl, rfl, rfl⟩ := short1 hsay
  replace HB := Lib.hid (HB.out.trans (hb.mono HB.out.size)); replace HM := Lib.hid (HM.out.below hb); replace HI1 := Lib.hid (HI1.out.below hb); (try replace HI2 := Lib.hid (HI2.out.below hb)); (try replace HU := Lib.hid (HU.out.below hb)); (try replace HV := Lib.hid (HV.out.below hb))
  have HI2 := Lib.hid hi2; have HS2 := Lib.hid hs2
  clear hi2 hs2 hb hsay
  go_wp2_with (fail)
  have hm1 : MatAt (((w4.alloc (.cells #[.int .i64 1, .int .i64 (-1)] 3)).alloc (.cells #[.int .i64 2, .int .i64 (-1)] 3)).alloc (.cells #[.slice (some ⟨w4.heap.size, 0, none⟩) 2 2, .slice (some ⟨w4.heap.size + 1, 0, none⟩) 2 2] 23)) (some ⟨w4.heap.size + 1 + 1, 0, none⟩) E1 := mat_two w4 [1, -1] [2, -1] 3 23 2 2 rfl rfl
  have hb : Below w4.heap.size w4 (((w4.alloc (.cells #[.int .i64 1, .int .i64 (-1)] 3)).alloc (.cells #[.int .i64 2, .int .i64 (-1)] 3)).alloc (.cells #[.slice (some ⟨w4.heap.size, 0, none⟩) 2 2, .slice (some ⟨w4.heap.size + 1, 0, none⟩) 2 2] 23)) := (((Below.refl _ _).alloc (Nat.le_refl _) _).alloc (by simp) _).alloc (by simp <;> omega) _
  replace HB := Lib.hid (HB.out.trans (hb.mono HB.out.size)); replace HM := Lib.hid (HM.out.below hb); replace HI1 := Lib.hid (HI1.out.below hb); (try replace HI2 := Lib.hid (HI2.out.below hb)); (try replace HU := Lib.hid (HU.out.below hb)); (try replace HV := Lib.hid (HV.out.below hb))
  clear hb
  refine (Best_any _ _ E1 _ (by decide) hm1 (slOk_lit _ _ _ _ (Nat.le_refl _))).mono ?_
  clear hm1
  rintro e w5 ⟨l, total, ok, err, a3, c3, rfl, hsay, hs1, hi1, hb⟩
  obtain ⟨rfl, rfl⟩ := best1 hsay
  replace HB := Lib.hid (HB.out.trans (hb.mono HB.out.size)); replace HM := Lib.hid (HM.out.below hb); replace HI1 := Lib.hid (HI1.out.below hb); (try replace HI2 := Lib.hid (HI2.out.below hb)); (try replace HU := Lib.hid (HU.out.below hb)); (try replace HV := Lib.hid (HV.out.below hb))
  clear hs1 hi1 hb hsay
  go_wp2_with (fail)
  refine (Prices_any _ _ E0 _ (by decide) HM.out (slOk_lit _ _ _ _ (Nat.le_refl _))).mono ?_
  rintro e w6 ⟨v1, v2, err, rfl, hsay, hb⟩
  replace HB := Lib.hid (HB.out.trans (hb.mono HB.out.size)); replace HM := Lib.hid (HM.out.below hb); replace HI1 := Lib.hid (HI1.out.below hb); (try replace HI2 := Lib.hid (HI2.out.below hb)); (try replace HU := Lib.hid (HU.out.below hb)); (try replace HV := Lib.hid (HV.out.below hb))
  clear hb
  rcases hsay with ⟨he, _⟩ | ⟨_, hno, _⟩ | ⟨_, rfl, u', v', bu, bv, rfl, rfl, ⟨ow, hp⟩, ru, rv⟩
  · exact absurd rfl he
  · exact absurd ⟨_, e0_mt⟩ hno
  have HPr := Lib.hid (proof_of rfl (by decide) (by decide) HH.out hp)
  have HU := Lib.hid ru.inAt; have HV := Lib.hid rv.inAt
  clear hp ru rv
  go_wp2_with (fail)
  have hm1 : MatAt ((w6.alloc (.cells #[.int .i64 (-1)] 3)).alloc (.cells #[.slice (some ⟨w6.heap.size, 0, none⟩) 1 1] 23)) (some ⟨w6.heap.size + 1, 0, none⟩) E2 := mat_one w6 [-1] 3 23 1 rfl
  have hb : Below w6.heap.size w6 ((w6.alloc (.cells #[.int .i64 (-1)] 3)).alloc (.cells #[.slice (some ⟨w6.heap.size, 0, none⟩) 1 1] 23)) := ((Below.refl _ _).alloc (Nat.le_refl _) _).alloc (by simp) _
  replace HB := Lib.hid (HB.out.trans (hb.mono HB.out.size)); replace HM := Lib.hid (HM.out.below hb); replace HI1 := Lib.hid (HI1.out.below hb); (try replace HI2 := Lib.hid (HI2.out.below hb)); (try replace HU := Lib.hid (HU.out.below hb)); (try replace HV := Lib.hid (HV.out.below hb))
  clear hb
  refine (Prices_any _ _ E2 _ (by decide) hm1 (slOk_lit _ _ _ _ (Nat.le_refl _))).mono ?_
  clear hm1
  rintro e w7 ⟨v1, v2, err, rfl, hsay, hb⟩
  obtain rfl : err = 4 := by
    rcases hsay with ⟨he, _⟩ | ⟨_, _, _, _, h⟩ | ⟨_, _, u, v, _, _, _, _, ⟨ow, hp⟩, _⟩
    · exact absurd rfl he
    · exact h
    · obtain ⟨f, hf⟩ := (pot_fair hp).2
      exact absurd ⟨f, hf.mt⟩ e2_no
  replace HB := Lib.hid (HB.out.trans (hb.mono HB.out.size)); replace HM := Lib.hid (HM.out.below hb); replace HI1 := Lib.hid (HI1.out.below hb); (try replace HI2 := Lib.hid (HI2.out.below hb)); (try replace HU := Lib.hid (HU.out.below hb)); (try replace HV := Lib.hid (HV.out.below hb))
  clear hb hsay
  go_wp2_with (fail)
  have hm1 : MatAt (((w7.alloc (.cells #[.int .i64 1] 3)).alloc (.cells #[.int .i64 1, .int .i64 2] 3)).alloc (.cells #[.slice (some ⟨w7.heap.size, 0, none⟩) 1 1, .slice (some ⟨w7.heap.size + 1, 0, none⟩) 2 2] 23)) (some ⟨w7.heap.size + 1 + 1, 0, none⟩) E3 := mat_two w7 [1] [1, 2] 3 23 1 2 rfl rfl
  have hb : Below w7.heap.size w7 (((w7.alloc (.cells #[.int .i64 1] 3)).alloc (.cells #[.int .i64 1, .int .i64 2] 3)).alloc (.cells #[.slice (some ⟨w7.heap.size, 0, none⟩) 1 1, .slice (some ⟨w7.heap.size + 1, 0, none⟩) 2 2] 23)) := (((Below.refl _ _).alloc (Nat.le_refl _) _).alloc (by simp) _).alloc (by simp <;> omega) _
  replace HB := Lib.hid (HB.out.trans (hb.mono HB.out.size)); replace HM := Lib.hid (HM.out.below hb); replace HI1 := Lib.hid (HI1.out.below hb); (try replace HI2 := Lib.hid (HI2.out.below hb)); (try replace HU := Lib.hid (HU.out.below hb)); (try replace HV := Lib.hid (HV.out.below hb))
  clear hb
  refine (Best_any _ _ E3 _ (by decide) hm1 (slOk_lit _ _ _ _ (Nat.le_refl _))).mono ?_
  clear hm1
  rintro e w8 ⟨l, total, ok, err, a3, c3, rfl, hsay, hs1, hi1, hb⟩
  obtain rfl : err = 1 := best_err hsay
  replace HB := Lib.hid (HB.out.trans (hb.mono HB.out.size)); replace HM := Lib.hid (HM.out.below hb); replace HI1 := Lib.hid (HI1.out.below hb); (try replace HI2 := Lib.hid (HI2.out.below hb)); (try replace HU := Lib.hid (HU.out.below hb)); (try replace HV := Lib.hid (HV.out.below hb))
  clear hs1 hi1 hb hsay
  go_wp2_with (fail)
  have hr := RProves_any (some ⟨w.heap.size + 1 + 1, 0, none⟩) a1 (some ⟨bu, 0, none⟩) (some ⟨bv, 0, none⟩) 2 c1 2 2 E0 [1, 0] (rangeI u' E0.length) (rangeI v' (wideL E0)) w8 (by decide) (by decide) (by rw [rangeI_len]; decide) (by rw [rangeI_len]; decide) HM.out HI1.out HU.out HV.out
  rw [rangeI_len, rangeI_len] at hr
  refine hr.mono ?_
  clear hr
  rintro e w9 ⟨b, rfl, hp, hb⟩
  obtain rfl : b = true := hp.2 HPr.out
  replace HB := Lib.hid (HB.out.trans (hb.mono HB.out.size)); replace HM := Lib.hid (HM.out.below hb); replace HI1 := Lib.hid (HI1.out.below hb); (try replace HI2 := Lib.hid (HI2.out.below hb)); (try replace HU := Lib.hid (HU.out.below hb)); (try replace HV := Lib.hid (HV.out.below hb))
  clear hp hb
  go_wp2_with (fail)
  have i9 := in_lit w9 [1, 0] 3
  have hb := (Below.refl w9.heap.size w9).alloc (Nat.le_refl _) (.cells #[.int .i64 1, .int .i64 0] 3)
  replace HB := Lib.hid (HB.out.trans (hb.mono HB.out.size)); replace HM := Lib.hid (HM.out.below hb); replace HI1 := Lib.hid (HI1.out.below hb); (try replace HI2 := Lib.hid (HI2.out.below hb)); (try replace HU := Lib.hid (HU.out.below hb)); (try replace HV := Lib.hid (HV.out.below hb))
  clear hb
  refine (RSame_any _ _ 2 2 _ _ [1, 0] [1, 0] _ rfl rfl (by decide) (by decide) HI1.out i9).mono ?_
  clear i9
  rintro e w10 ⟨rfl, hb⟩
  replace HB := Lib.hid (HB.out.trans (hb.mono HB.out.size)); replace HM := Lib.hid (HM.out.below hb); replace HI1 := Lib.hid (HI1.out.below hb); (try replace HI2 := Lib.hid (HI2.out.below hb)); (try replace HU := Lib.hid (HU.out.below hb)); (try replace HV := Lib.hid (HV.out.below hb))
  clear hb
  go_wp2_with (fail)
  have i9 := in_lit w10 [0, 1] 3
  have hb := (Below.refl w10.heap.size w10).alloc (Nat.le_refl _) (.cells #[.int .i64 0, .int .i64 1] 3)
  replace HB := Lib.hid (HB.out.trans (hb.mono HB.out.size)); replace HM := Lib.hid (HM.out.below hb); replace HI1 := Lib.hid (HI1.out.below hb); (try replace HI2 := Lib.hid (HI2.out.below hb)); (try replace HU := Lib.hid (HU.out.below hb)); (try replace HV := Lib.hid (HV.out.below hb))
  clear hb
  refine (RSame_any _ _ 2 2 _ _ [0, 1] [0, 1] _ rfl rfl (by decide) (by decide) HI2.out i9).mono ?_
  clear i9
  rintro e w11 ⟨rfl, hb⟩
  replace HB := Lib.hid (HB.out.trans (hb.mono HB.out.size)); replace HM := Lib.hid (HM.out.below hb); replace HI1 := Lib.hid (HI1.out.below hb); (try replace HI2 := Lib.hid (HI2.out.below hb)); (try replace HU := Lib.hid (HU.out.below hb)); (try replace HV := Lib.hid (HV.out.below hb))
  clear hb
  go_wp2
  go_ret
  exact ⟨rfl, HB.out⟩
end Go.Proofs.Ytkpgphadgomifaa
