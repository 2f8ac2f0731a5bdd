/- The small functions of the laws on loans. -/
import Derived.Test.YtokhligpjbdhcaaLoanHeld2
namespace Go.Proofs.Ytokhligpjbdhcaa
set_option linter.unusedSimpArgs false
set_option linter.unusedVariables false
open Go.RowKit Go.Sort

def L0 : List Lo := [⟨10, 1, 7, 3, 0⟩, ⟨20, 2, 7, 0, 0⟩, ⟨25, 3, 7, 0, 2⟩]
set_option maxRecDepth 100000 in
theorem example_any (w : World) : Calls Try.prog 26 #[] w fun e w' => e = .returned (.slice (some ⟨w.heap.size, 0, none⟩) 3 3) ∧ LoAt w' (some ⟨w.heap.size, 0, none⟩) L0 ∧ Below w.heap.size w w' := by
  go_enter Try.func26, Try.ntmps26
  go_wp2
  go_ret
  exact ⟨rfl, SlAt.new w _ _ 5 (L0.map Lo.cells) (by simp [L0, Lo.cells]) rfl, (Below.refl _ _).alloc (Nat.le_refl _) _⟩

set_option maxHeartbeats 1000000 in
theorem usable_any (a : Option Addr) (n cap : Nat) (l : List Lo) (w : World) (hn : n = l.length) (hl : n ≤ 9223372036854775807) (hs : SlOk a n cap) (hr : LoAt w a l) :
    Calls Try.prog 22 #[.slice a n cap] w fun e w' => e = .returned (.bool (decide (n ≤ 60) && loansOk l)) ∧ Below w.heap.size w w' := by
  have HF := Lib.hid (Few_any a n cap w hl); clear hl
  have HN := Lib.hid hn; clear hn
  by_cases hf : n ≤ 60
  · have h1 : decide (n ≤ 60) = true := by simpa using hf
    have HV := Lib.hid (Valid_any a n cap l w HN.out (by omega) hs hr)
    clear hs hr hf
    rw [h1] at HF ⊢
    clear h1
    go_enter Try.func22, Try.ntmps22
    go_wp2_with (first | (go_at_call 9; refine HF.out.mono ?_; rintro e w' ⟨rfl, rfl⟩) | (go_at_call 13; refine HV.out.mono ?_; rintro e w' ⟨rfl, hb⟩))
    go_ret
    exact ⟨ret_bool (by simp), hb⟩
  · have h1 : decide (n ≤ 60) = false := by simpa using hf
    clear hs hr hf
    rw [h1] at HF ⊢
    clear h1
    go_enter Try.func22, Try.ntmps22
    go_wp2_with (go_at_call 9; refine HF.out.mono ?_; rintro e w' ⟨rfl, rfl⟩)
    go_ret
    exact ⟨ret_bool (by simp), Below.refl _ _⟩

theorem when_any (t : Int) (w : World) (h0 : 0 ≤ t) (h1 : t ≤ 4294967295) : Calls Try.prog 24 #[.int .u32 t] w fun e w' => e = .returned (.int .i64 (t % 1000000001)) ∧ w = w' := by
  go_enter Try.func24, Try.ntmps24
  go_wp2
  go_ret
  exact ⟨rfl, rfl⟩

theorem LoAt.drop' {w : World} {b off : Nat} {l : List Lo} (h : LoAt w (some ⟨b, off, none⟩) l) (k : Nat) : LoAt w (some ⟨b, off + k * 5, none⟩) (l.drop k) := by
  unfold LoAt at *; rw [List.map_drop]; exact h.drop k
def C2 (b : Nat) (w' : World) : Prop := w'.cell? ⟨b, 10, none⟩ = some (.int .i64 25) ∧ w'.cell? ⟨b, 11, none⟩ = some (.int .i64 3) ∧ w'.cell? ⟨b, 12, none⟩ = some (.int .i64 7) ∧ w'.cell? ⟨b, 13, none⟩ = some (.int .i64 0) ∧ w'.cell? ⟨b, 14, none⟩ = some (.int .i64 2)
theorem c2_of {w : World} {b : Nat} (h : LoAt w (some ⟨b, 0, none⟩) L0) : C2 b w := by
  obtain ⟨_, _, e, x0, x1, x2, x3, x4⟩ := h.get 2 (by decide)
  cases e
  exact ⟨x0, x1, x2, x3, x4⟩
theorem slOk_lit (b off n cap : Nat) (h : n ≤ cap) : SlOk (some ⟨b, off, none⟩) n cap := ⟨h, (fun e => by cases e), (fun ad e => by cases e; rfl)⟩
set_option maxRecDepth 100000 in
set_option maxHeartbeats 1000000 in
theorem head_any (w : World) : Calls Try.prog 8 #[] w fun e w' => e = .returned (.bool true) ∧ Below w.heap.size w w' := by
  have r1 : holderR L0 7 19 = (3, true, 0) := by kernel_rfl
  have r2 : holderR L0 7 20 = (0, false, 0) := by kernel_rfl
  have r3 : heldR L0 3 10 = ([7], 0) := by kernel_rfl
  have r4 : hallR L0 7 24 = (0, 0) := by kernel_rfl
  have r5 : hallR L0 7 25 = (2, 0) := by kernel_rfl
  have r6 : pushR (L0.take 1) ⟨15, 1, 7, 4, 0⟩ = ([], 51) := by kernel_rfl
  have r7 : pushR (L0.take 2) ⟨25, 3, 7, 0, 2⟩ = (L0, 0) := by kernel_rfl
  have r8 : pushR L0 ⟨24, 1, 7, 4, 0⟩ = ([], 6) := by kernel_rfl
  have r9 : holderR L0 0 19 = (0, false, 1) := by kernel_rfl
  have ra : loansOk L0 = true := by kernel_rfl
  have rb : loansOk (L0.drop 1) = false := by kernel_rfl
  go_enter Try.func8, Try.ntmps8
  go_wp2_with (first | (go_at_call 26; refine (example_any _).mono ?_; rintro e w1 ⟨rfl, hr, hb⟩; have HB := Lib.hid hb; have HR := Lib.hid hr; clear hb hr) | (go_at_call 15; refine (PHolder_any _ _ _ L0 _ _ _ rfl (by decide) HR.out).mono ?_; (first | rw [r1] | rw [r2] | rw [r9]); rintro e w2 ⟨rfl, hb⟩; replace HB := Lib.hid (HB.out.trans (hb.mono HB.out.size)); replace HR := Lib.hid (HR.out.below hb); (try replace HM4 := Lib.hid (SlAt.below HM4.out hb)); (try replace HM8 := Lib.hid (SlAt.below HM8.out hb)); clear hb) | (go_at_call 17; refine (PHeld_any _ _ _ L0 _ _ _ rfl (by decide) HR.out).mono ?_; rw [r3]; rintro e w4 ⟨a4, c4, rfl, hs4, hm4, hb⟩; replace HB := Lib.hid (HB.out.trans (hb.mono HB.out.size)); replace HR := Lib.hid (HR.out.below hb); (try replace HM4 := Lib.hid (SlAt.below HM4.out hb)); (try replace HM8 := Lib.hid (SlAt.below HM8.out hb)); clear hb; have HM4 := Lib.hid hm4; clear hm4 hs4) | (go_at_call 20; refine (PHall_any _ _ _ L0 _ _ _ rfl (by decide) HR.out).mono ?_; (first | rw [r4] | rw [r5]); rintro e w5 ⟨rfl, hb⟩; replace HB := Lib.hid (HB.out.trans (hb.mono HB.out.size)); replace HR := Lib.hid (HR.out.below hb); (try replace HM4 := Lib.hid (SlAt.below HM4.out hb)); (try replace HM8 := Lib.hid (SlAt.below HM8.out hb)); clear hb) | (go_at_call 10; refine (PPush_any _ _ _ (L0.take 1) _ _ _ _ _ _ rfl (by decide) (slOk_lit _ _ _ _ (by decide)) (HR.out.take' 1)).mono ?_; rw [r6]; rintro e w7 ⟨a7, c7, rfl, hs7, hm7, hb⟩; replace HB := Lib.hid (HB.out.trans (hb.mono HB.out.size)); replace HR := Lib.hid (HR.out.below hb); (try replace HM4 := Lib.hid (SlAt.below HM4.out hb)); (try replace HM8 := Lib.hid (SlAt.below HM8.out hb)); clear hb; clear hm7 hs7))
  refine wp_region_held_drew (S := C2 w.heap.size) (by kernel_rfl) (c2_of HR.out) (fun hHeld => ?_)
  (refine wpAnyH_take1 0 (oi := ?_) (v := ?_) ?_ (by kernel_rfl) (by kernel_rfl) (by kernel_rfl) (by assumption) ?_ ?_ ?_; rotate_left 2; (· simp only [List.getElem?_toArray, List.getElem?_cons_succ, List.getElem?_cons_zero]; try rfl); (· refine ⟨by kernel_rfl, ?_⟩; intro wq hSw; obtain ⟨x0, x1, x2, x3, x4⟩ := hSw; go_simp; first | done | with_reducible rfl); (· exact fun _ _ _ h => h); try simp only [Act.put, List.setIfInBounds_toArray, List.set_cons_zero, List.set_cons_succ])
  (refine wpAnyH_take1 1 (oi := ?_) (v := ?_) ?_ (by kernel_rfl) (by kernel_rfl) (by kernel_rfl) (by assumption) ?_ ?_ ?_; rotate_left 2; (· simp only [List.getElem?_toArray, List.getElem?_cons_succ, List.getElem?_cons_zero]; try rfl); (· refine ⟨by kernel_rfl, ?_⟩; intro wq hSw; obtain ⟨x0, x1, x2, x3, x4⟩ := hSw; go_simp; first | done | with_reducible rfl); (· exact fun _ _ _ h => h); try simp only [Act.put, List.setIfInBounds_toArray, List.set_cons_zero, List.set_cons_succ])
  (refine wpAnyH_take1 2 (oi := ?_) (v := ?_) ?_ (by kernel_rfl) (by kernel_rfl) (by kernel_rfl) (by assumption) ?_ ?_ ?_; rotate_left 2; (· simp only [List.getElem?_toArray, List.getElem?_cons_succ, List.getElem?_cons_zero]; try rfl); (· refine ⟨by kernel_rfl, ?_⟩; intro wq hSw; obtain ⟨x0, x1, x2, x3, x4⟩ := hSw; go_simp; first | done | with_reducible rfl); (· exact fun _ _ _ h => h); try simp only [Act.put, List.setIfInBounds_toArray, List.set_cons_zero, List.set_cons_succ])
  (refine wpAnyH_take1 3 (oi := ?_) (v := ?_) ?_ (by kernel_rfl) (by kernel_rfl) (by kernel_rfl) (by assumption) ?_ ?_ ?_; rotate_left 2; (· simp only [List.getElem?_toArray, List.getElem?_cons_succ, List.getElem?_cons_zero]; try rfl); (· refine ⟨by kernel_rfl, ?_⟩; intro wq hSw; obtain ⟨x0, x1, x2, x3, x4⟩ := hSw; go_simp; first | done | with_reducible rfl); (· exact fun _ _ _ h => h); try simp only [Act.put, List.setIfInBounds_toArray, List.set_cons_zero, List.set_cons_succ])
  (refine wpAnyH_take1 4 (oi := ?_) (v := ?_) ?_ (by kernel_rfl) (by kernel_rfl) (by kernel_rfl) (by assumption) ?_ ?_ ?_; rotate_left 2; (· simp only [List.getElem?_toArray, List.getElem?_cons_succ, List.getElem?_cons_zero]; try rfl); (· refine ⟨by kernel_rfl, ?_⟩; intro wq hSw; obtain ⟨x0, x1, x2, x3, x4⟩ := hSw; go_simp; first | done | with_reducible rfl); (· exact fun _ _ _ h => h); try simp only [Act.put, List.setIfInBounds_toArray, List.set_cons_zero, List.set_cons_succ])
  (refine wpAnyH_call1 (i := 5) (o := ?_) (by kernel_rfl) ?_ (fun K hK => ?_); rotate_left 1; (· simp only [List.getElem?_toArray, List.getElem?_cons_succ, List.getElem?_cons_zero]; try rfl); go_simp)
  refine (PPush_any _ _ _ (L0.take 2) _ _ _ _ _ _ rfl (by decide) (slOk_lit _ _ _ _ (by decide)) ((HR.out.below (Below.refl _ _).drew).take' 2)).mono ?_; rw [r7]; rintro e w8 ⟨a8, c8, rfl, hs8, hm8, hb⟩
  replace HB := Lib.hid ((HB.out.trans ((Below.refl _ _).drew)).trans (hb.mono HB.out.size)); replace HR := Lib.hid ((HR.out.below (Below.refl _ _).drew).below hb); replace HM4 := Lib.hid (SlAt.below (SlAt.below HM4.out (Below.refl _ _).drew) hb)
  have HM8 := Lib.hid hm8; clear hb hm8 hs8
  go_simp
  refine hK.out _ _ (c2_of HR.out) (fun hHeld2 => ?_)
  clear hK K hHeld
  (refine wpAnyH_take1 6 (oi := ?_) (v := ?_) ?_ (by kernel_rfl) (by kernel_rfl) (by kernel_rfl) (by assumption) ?_ ?_ ?_; rotate_left 2; (· simp only [List.getElem?_toArray, List.getElem?_cons_succ, List.getElem?_cons_zero]; try rfl); (· refine ⟨by kernel_rfl, ?_⟩; intro wq hSw; skip; go_simp; first | done | with_reducible rfl); (· exact fun _ _ _ h => h); try simp only [Act.put, List.setIfInBounds_toArray, List.set_cons_zero, List.set_cons_succ])
  (refine wpAnyH_take1 7 (oi := ?_) (v := ?_) ?_ (by kernel_rfl) (by kernel_rfl) (by kernel_rfl) (by assumption) ?_ ?_ ?_; rotate_left 2; (· simp only [List.getElem?_toArray, List.getElem?_cons_succ, List.getElem?_cons_zero]; try rfl); (· refine ⟨by kernel_rfl, ?_⟩; intro wq hSw; skip; go_simp; first | done | with_reducible rfl); (· exact fun _ _ _ h => h); try simp only [Act.put, List.setIfInBounds_toArray, List.set_cons_zero, List.set_cons_succ])
  (refine wpAnyH_take1 8 (oi := ?_) (v := ?_) ?_ (by kernel_rfl) (by kernel_rfl) (by kernel_rfl) (by assumption) ?_ ?_ ?_; rotate_left 2; (· simp only [List.getElem?_toArray, List.getElem?_cons_succ, List.getElem?_cons_zero]; try rfl); (· refine ⟨by kernel_rfl, ?_⟩; intro wq hSw; skip; go_simp; first | done | with_reducible rfl); (· exact fun _ _ _ h => h); try simp only [Act.put, List.setIfInBounds_toArray, List.set_cons_zero, List.set_cons_succ])
  (refine wpAnyH_take1 9 (oi := ?_) (v := ?_) ?_ (by kernel_rfl) (by kernel_rfl) (by kernel_rfl) (by assumption) ?_ ?_ ?_; rotate_left 2; (· simp only [List.getElem?_toArray, List.getElem?_cons_succ, List.getElem?_cons_zero]; try rfl); (· refine ⟨by kernel_rfl, ?_⟩; intro wq hSw; skip; go_simp; first | done | with_reducible rfl); (· exact fun _ _ _ h => h); try simp only [Act.put, List.setIfInBounds_toArray, List.set_cons_zero, List.set_cons_succ])
  (refine wpAnyH_take1 10 (oi := ?_) (v := ?_) ?_ (by kernel_rfl) (by kernel_rfl) (by kernel_rfl) (by assumption) ?_ ?_ ?_; rotate_left 2; (· simp only [List.getElem?_toArray, List.getElem?_cons_succ, List.getElem?_cons_zero]; try rfl); (· refine ⟨by kernel_rfl, ?_⟩; intro wq hSw; skip; go_simp; first | done | with_reducible rfl); (· exact fun _ _ _ h => h); try simp only [Act.put, List.setIfInBounds_toArray, List.set_cons_zero, List.set_cons_succ])
  refine wpAnyH_done (by kernel_rfl) ?_ _
  go_wp2_with (first | (go_at_call 10; refine (PPush_any _ _ _ L0 _ _ _ _ _ _ rfl (by decide) (slOk_lit _ _ _ _ (by decide)) HR.out).mono ?_; rw [r8]; rintro e w9 ⟨a9, c9, rfl, hs9, hm9, hb⟩; replace HB := Lib.hid (HB.out.trans (hb.mono HB.out.size)); replace HR := Lib.hid (HR.out.below hb); (try replace HM4 := Lib.hid (SlAt.below HM4.out hb)); (try replace HM8 := Lib.hid (SlAt.below HM8.out hb)); clear hb; clear hm9 hs9) | (go_at_call 15; refine (PHolder_any _ _ _ L0 _ _ _ rfl (by decide) HR.out).mono ?_; rw [r9]; rintro e w2 ⟨rfl, hb⟩; replace HB := Lib.hid (HB.out.trans (hb.mono HB.out.size)); replace HR := Lib.hid (HR.out.below hb); (try replace HM4 := Lib.hid (SlAt.below HM4.out hb)); (try replace HM8 := Lib.hid (SlAt.below HM8.out hb)); clear hb) | (go_at_call 19; refine (SameInts_any _ _ _ _ _ _ [7] [7] _ rfl rfl (by decide) (by decide) (SlAt.alloc HM4.out _) (eltInt.new _ _ _ _ rfl)).mono ?_; rintro e w2 ⟨rfl, hb1⟩; have hb := (show Below _ _ _ from ((Below.refl _ _).alloc (Nat.le_refl _) _)).trans (hb1.mono (by simp)); clear hb1; replace HB := Lib.hid (HB.out.trans (hb.mono HB.out.size)); replace HR := Lib.hid (HR.out.below hb); (try replace HM4 := Lib.hid (SlAt.below HM4.out hb)); (try replace HM8 := Lib.hid (SlAt.below HM8.out hb)); clear hb) | (go_at_call 14; refine (Same_any _ _ _ _ _ _ L0 L0 _ rfl rfl (by decide) (by decide) HM8.out HR.out).mono ?_; rintro e w2 ⟨rfl, hb⟩; replace HB := Lib.hid (HB.out.trans (hb.mono HB.out.size)); replace HR := Lib.hid (HR.out.below hb); (try replace HM4 := Lib.hid (SlAt.below HM4.out hb)); (try replace HM8 := Lib.hid (SlAt.below HM8.out hb)); clear hb) | (go_at_call 12; with_reducible refine (PValid_any _ _ _ L0 _ (by decide) (by decide) HR.out).mono ?_; rw [ra]; rintro e w2 ⟨rfl, hb⟩; replace HB := Lib.hid (HB.out.trans (hb.mono HB.out.size)); replace HR := Lib.hid (HR.out.below hb); (try replace HM4 := Lib.hid (SlAt.below HM4.out hb)); (try replace HM8 := Lib.hid (SlAt.below HM8.out hb)); clear hb) | (go_at_call 12; refine (PValid_any _ _ _ (L0.drop 1) _ rfl (by decide) (LoAt.drop' HR.out 1)).mono ?_; rw [rb]; rintro e w2 ⟨rfl, hb⟩; replace HB := Lib.hid (HB.out.trans (hb.mono HB.out.size)); replace HR := Lib.hid (HR.out.below hb); (try replace HM4 := Lib.hid (SlAt.below HM4.out hb)); (try replace HM8 := Lib.hid (SlAt.below HM8.out hb)); clear hb))
  go_ret
  exact ⟨rfl, HB.out⟩

end Go.Proofs.Ytokhligpjbdhcaa
