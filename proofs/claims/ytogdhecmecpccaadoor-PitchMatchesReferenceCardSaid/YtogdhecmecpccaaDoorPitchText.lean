/- The contracts of pitch.text, pitch.Text. -/
import Derived.Test.YtogdhecmecpccaaDoorPitchProg2
import Derived.Test.YtogdhecmecpccaaDoorRegLib
import Derived.IntWalk
namespace Go.Proofs.YtogdhecmecpccaaDoor
set_option linter.unusedSimpArgs false
set_option linter.unusedVariables false
open Go.RowKit Go.Sort

/-- A byte, some times; a number's numeral: as strings. -/
def repS (b : UInt8) (c : Int) : ByteArray := ⟨(List.replicate c.toNat b).toArray⟩
def itoaS (n : Int) : ByteArray := ⟨(Lib.itoa n).toArray⟩
theorem repS_size (b : UInt8) (c : Int) : (repS b c).size = c.toNat := by simp [repS, ByteArray.size]
theorem repeat_any (b : UInt8) (c : Int) (w : World) (h0 : 0 ≤ c) (h1 : c ≤ 1000) :
    Calls Tryd.prog 48 #[.string ⟨#[b]⟩, .int .i64 c] w fun e w' => e = .returned (.string (repS b c)) ∧ Below w.heap.size w w' := by
  obtain ⟨n, rfl⟩ := Int.eq_ofNat_of_zero_le h0
  have h := Any.strings_Repeat Lay.p105 Lay.extra105 ⟨#[b]⟩ n w (by omega) (by show 1 * n ≤ _; omega)
  have e : Lib.repeatL [b] n = List.replicate n b := by have := Lib.repeatL_replicate b 1 n; simpa using this
  have e2 : (⟨(Lib.repeatL (⟨#[b]⟩ : ByteArray).data.toList n).toArray⟩ : ByteArray) = repS b n := by show (⟨(Lib.repeatL [b] n).toArray⟩ : ByteArray) = _; rw [e]; rfl
  rw [e2] at h
  exact h
theorem itoa_any (n : Int) (w : World) (h0 : -9223372036854775808 ≤ n) (h1 : n ≤ 9223372036854775807) (hE : Env w) :
    Calls Tryd.prog 49 #[.int .i64 n] w fun e w' => e = .returned (.string (itoaS n)) ∧ Below w.heap.size w w' := by
  refine (Any.strconv_Itoa Lay.pM171 n h0 h1 w hE.tab).mono ?_
  rintro e w' ⟨he, k, os, rfl⟩
  exact ⟨he, (below_drewN (Below.refl _ _) k).trans (below_regrown (w.drewN k) _ os)⟩
theorem decDigits_small (n : Nat) (h : n < 100) : Lib.decDigits n = if n < 10 then [UInt8.ofNat (48 + n)] else [UInt8.ofNat (48 + n / 10), UInt8.ofNat (48 + n % 10)] := by
  rw [Lib.decDigits]
  split
  · rfl
  · rw [Lib.decDigits, dif_pos (by omega)]; rfl
theorem itoaS_size (n : Int) (h0 : -99 ≤ n) (h1 : n ≤ 99) : (itoaS n).size ≤ 3 := by
  have g : ∀ k : Nat, k < 100 → (Lib.decDigits k).length ≤ 2 := fun k hk => by rw [decDigits_small k hk]; split <;> simp
  simp only [itoaS, ByteArray.size, List.size_toArray, Lib.itoa]
  split
  · have := g n.natAbs (by omega); simp; omega
  · have := g n.toNat (by omega); omega
def letters : List UInt8 := [67, 68, 69, 70, 71, 65, 66]
def signs (a : Int) : List UInt8 := List.replicate a.toNat 35 ++ List.replicate (-a).toNat 98
def textL (s a o : Int) : List UInt8 := letters.getD s.toNat 0 :: (signs a ++ Lib.itoa o)


def textS (s a o : Int) : ByteArray := ⟨(textL s a o).toArray⟩
theorem bytes_ext {a b : ByteArray} (h : a.data.toList = b.data.toList) : a = b := by
  obtain ⟨⟨a⟩⟩ := a; obtain ⟨⟨b⟩⟩ := b; simp at h; subst h; rfl
theorem text_eq (j : Nat) (a o : Int) (h : j ≤ 6) : (⟨#[67, 68, 69, 70, 71, 65, 66]⟩ : ByteArray).extract j (j + 1) ++ (repS 35 (max 0 a) ++ repS 98 (max 0 (-a))) ++ itoaS o = textS j a o := by
  have e1 : (max 0 a).toNat = a.toNat := by omega
  have e2 : (max 0 (-a)).toNat = (-a).toNat := by omega
  have hj : j = 0 ∨ j = 1 ∨ j = 2 ∨ j = 3 ∨ j = 4 ∨ j = 5 ∨ j = 6 := by omega
  apply bytes_ext
  simp only [ByteArray.data_append, Array.toList_append, repS, itoaS, textS, textL, signs, e1, e2, ByteArray.data_extract]
  rcases hj with rfl | rfl | rfl | rfl | rfl | rfl | rfl <;> simp [letters]

set_option maxRecDepth 100000 in
set_option maxHeartbeats 4000000 in
theorem text_any (s a o : Int) (w : World) (hE : Env w) (hv : vldB s a o = true) : Calls Tryd.prog 35 #[.agg #[.int .i64 s, .int .i64 a, .int .i64 o]] w fun e w' => e = .returned (.string (textS s a o)) ∧ Below w.heap.size w w' := by
  obtain ⟨⟨p1, p2⟩, ⟨p3, p4⟩, p5, p6⟩ := (vld_iff s a o).1 hv
  obtain ⟨j, rfl⟩ := Int.eq_ofNat_of_zero_le p1
  have HE := Lib.hid hE; clear hE hv
  have z1 : (repS 35 (max 0 a)).size ≤ 4 := by rw [repS_size]; omega
  have z2 : (repS 98 (max 0 (-a))).size ≤ 4 := by rw [repS_size]; omega
  have z3 := itoaS_size o (by omega) (by omega)
  go_enter Tryd.func35, Tryd.ntmps35
  go_wp2
  have HX := Lib.hid (heap_alloc_new w (.cells #[.int .i64 (j : Int), .int .i64 a, .int .i64 o] 23))
  have HB := Lib.hid ((Below.refl w.heap.size w).alloc (Nat.le_refl _) (.cells #[.int .i64 (j : Int), .int .i64 a, .int .i64 o] 23))
  generalize w.alloc (.cells #[.int .i64 (j : Int), .int .i64 a, .int .i64 o] 23) = W at *
  have g0 := cell_regrown (cells3 HX.out).1
  have g1 := cell_regrown (cells3 HX.out).2.1
  have g2 := cell_regrown (cells3 HX.out).2.2
  refine wp_quietB (by kernel_rfl) (by kernel_rfl) ?_
  repeat (go_big_quiet_step (first | (go_at_call 48; exact Calls.regrown_of (repeat_any _ _ _ (by omega) (by omega)))))
  refine wpQuiet_nil ?_
  intro w2 hb
  replace HB := Lib.hid (HB.out.trans (hb.mono HB.out.size)); replace HX := Lib.hid (blk_keep HX.out hb); clear hb g0 g1 g2
  go_wp2
  have g0 := cell_regrown (cells3 HX.out).1
  have g1 := cell_regrown (cells3 HX.out).2.1
  have g2 := cell_regrown (cells3 HX.out).2.2
  refine wp_quietB (by kernel_rfl) (by kernel_rfl) ?_
  repeat (go_big_quiet_step (first | (go_at_call 49; exact Calls.regrown_of (itoa_any _ _ (by omega) (by omega) (HE.out.below (HB.out.trans ((below_regrown _ _ _).mono HB.out.size)))))))
  refine wpQuiet_nil ?_
  intro w3 hb
  replace HB := Lib.hid (HB.out.trans (hb.mono HB.out.size)); clear hb g0 g1 g2
  have HT := Lib.hid (text_eq j a o (by omega))
  go_wp2
  go_ret
  exact ⟨by rw [HT.out]; rfl, HB.out⟩
def textR (s a o : Int) : ByteArray × Int := if vldB s a o then (textS s a o, 0) else (⟨#[]⟩, 1)
set_option maxHeartbeats 400000 in
theorem Text_any (s a o : Int) (w : World) (hE : Env w) : Calls Tryd.prog 15 #[.agg #[.int .i64 s, .int .i64 a, .int .i64 o]] w fun e w' => e = .returned (.tuple #[.string (textR s a o).1, .int .i64 (textR s a o).2]) ∧ Below w.heap.size w w' := by
  have HE := Lib.hid hE; clear hE
  cases hv : vldB s a o
  · have HT := Lib.hid (show textR s a o = (⟨#[]⟩, 1) by simp [textR, hv])
    go_enter Tryd.func15, Tryd.ntmps15
    go_wp2_with (go_at_call 17; refine (PValid_any _ _ _ _).mono ?_; rintro e w' ⟨rfl, hb⟩; have HB := Lib.hid (((Below.refl _ _).alloc (Nat.le_refl _) _).trans (hb.mono (by simp))); clear hb)
    go_ret2
    exact ⟨by rw [HT.out]; rfl, HB.out⟩
  · have HT := Lib.hid (show textR s a o = (textS s a o, 0) by simp [textR, hv])
    have HV := Lib.hid hv
    go_enter Tryd.func15, Tryd.ntmps15
    go_wp2_with (first | (go_at_call 17; refine (PValid_any _ _ _ _).mono ?_; rintro e w' ⟨rfl, hb⟩; have HX := Lib.hid (box_below hb); have hc := box_cells HX.out; have HB := Lib.hid (((Below.refl _ _).alloc (Nat.le_refl _) _).trans (hb.mono (by simp))); clear hb) | (go_at_call 35; refine (text_any _ _ _ _ (HE.out.below HB.out) HV.out).mono ?_; rintro e w2 ⟨rfl, hb⟩; replace HB := Lib.hid (HB.out.trans (hb.mono HB.out.size)); clear hb))
    go_ret2
    exact ⟨by rw [HT.out]; rfl, HB.out⟩

end Go.Proofs.YtogdhecmecpccaaDoor
