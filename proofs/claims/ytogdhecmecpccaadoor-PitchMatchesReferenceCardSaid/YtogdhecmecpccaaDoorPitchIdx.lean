/- The contract of strings.IndexRune at the letters of the steps, for every rune. -/
import Derived.Test.YtogdhecmecpccaaDoorPitchText
import Derived.WalkMore
import Derived.Lib.OthersKept
import Derived.Stop.FmtQuoteTie
namespace Go.Proofs.YtogdhecmecpccaaDoor
set_option linter.unusedSimpArgs false
set_option linter.unusedVariables false
open Go.RowKit Go.Sort

def lettersS : ByteArray := ⟨#[67, 68, 69, 70, 71, 65, 66]⟩
theorem letters_lt : ∀ pos (h : pos < 7), (lettersS[pos]'h).toNat < 128 := by decide
/-- Some integer; for an ASCII rune its place among the letters. -/
def IdxPost (r : Int) (w : World) (e : Ending) (w' : World) : Prop := ∃ n : Int, e = .returned (.int .i64 n) ∧ (0 ≤ r → r < 128 → n = Lib.indexByte letters r.toNat.toUInt8) ∧ Below w.heap.size w w'
theorem enc_high (r : Int) (h : 128 ≤ r) : ∃ m : Nat, (Utf8.encode r).size = m + 2 ∧ m ≤ 2 ∧ ∃ c : UInt8, (Utf8.encode r).data.toList[m + 1]? = some c ∧ 128 ≤ c.toNat := by
  obtain ⟨n, rfl⟩ := Int.eq_ofNat_of_zero_le (show 0 ≤ r by omega)
  have hz : ∀ b : ByteArray, b.size = b.data.toList.length := fun b => rfl
  have hk : ∀ x, 128 ≤ (UInt8.ofNat (128 + x % 64)).toNat := fun x => by simp; omega
  by_cases h2 : n < 2048
  · refine ⟨0, by rw [hz, Go.Extern.FmtText.enc2 n (by omega) h2]; rfl, by omega, _, by rw [Go.Extern.FmtText.enc2 n (by omega) h2]; rfl, hk _⟩
  by_cases hb : (55296 ≤ n ∧ n ≤ 57343) ∨ 1114111 < n
  · refine ⟨1, by rw [hz, Go.Extern.FmtText.encBad n hb]; rfl, by omega, 189, by rw [Go.Extern.FmtText.encBad n hb]; rfl, by decide⟩
  by_cases h3 : n < 65536
  · refine ⟨1, by rw [hz, Go.Extern.FmtText.enc3 n h2 h3 (by omega)]; rfl, by omega, _, by rw [Go.Extern.FmtText.enc3 n h2 h3 (by omega)]; rfl, hk _⟩
  · refine ⟨2, by rw [hz, Go.Extern.FmtText.enc4 n h3 (by omega)]; rfl, by omega, _, by rw [Go.Extern.FmtText.enc4 n h3 (by omega)]; rfl, hk _⟩
theorem indexByte_none (l : List UInt8) (c : UInt8) (h : ∀ x ∈ l, x ≠ c) : Lib.indexByte l c = -1 := by
  induction l with
  | nil => rfl
  | cons b l ih =>
    have hb : (b == c) = false := by simpa using h b (by simp)
    simp [Lib.indexByte, hb, ih fun x hx => h x (by simp [hx])]
theorem indexByte_hi (s : ByteArray) (c : Int) (w : World) (hs : ∀ x ∈ s.data.toList, x.toNat < 128) (hc : 128 ≤ c) (hc2 : c < 256) : Calls Tryd.prog 42 #[.string s, .int .u8 c] w fun e w' => e = .returned (.int .i64 (-1)) ∧ w = w' := by
  have h := Any.strings_IndexByte Lay.p137 s c w
  rw [indexByte_none] at h
  · exact h.mono fun e w' h => ⟨h.1, h.2.symm⟩
  · intro x hx e
    have h1 := hs x hx
    rw [e] at h1
    simp at h1
    omega
set_option maxRecDepth 100000 in
set_option maxHeartbeats 4000000 in
theorem idx_enc (r : Int) (w : World) (E : ByteArray) (k : Nat) (hm : E.size = k + 1) (hk1 : 1 ≤ k) (hk2 : k ≤ 3) (c : UInt8) (hc : E.data.toList[k]? = some c) (hlast : 128 ≤ c.toNat) (he1 : (r == 65533) = false) (hno : (decide ((0 : Int) ≤ r) && decide (r < 128)) = false) (hv : Lib.validRune r = true)
    (hcv : ∀ w, (convert 21 9 (.int .i32 r)).run Tryd.prog w = .ok (.string E) w) (hr : 128 ≤ r) : Calls Tryd.prog 33 #[.string ⟨#[67, 68, 69, 70, 71, 65, 66]⟩, .int .i32 r] w (IdxPost r w) := by
  have hks : k < E.size := by omega
  have hEk : E[k] = c := by
    have h1 := List.getElem?_eq_some_iff.1 hc
    obtain ⟨_, h2⟩ := h1
    exact h2
  have hk3 : k = 1 ∨ k = 2 ∨ k = 3 := by omega
  clear hc
  have hc256 : c.toNat < 256 := c.toNat_lt
  rcases hk3 with rfl | rfl | rfl
  · have hne : ((((⟨#[67, 68, 69, 70, 71, 65, 66]⟩ : ByteArray)[1]).toNat : Int) != (c.toNat : Int)) = true := by
      have e : ((⟨#[67, 68, 69, 70, 71, 65, 66]⟩ : ByteArray)[1]).toNat = 68 := by decide
      rw [e]; simp; omega
    go_enter Tryd.func33, Tryd.ntmps33; go_wp2_with (go_at_call 43; refine (Any.utf8_ValidRune Lay.p119 r _).mono ?_; rw [hv]; rintro e w' ⟨rfl, rfl⟩); go_step3; go_wp2; refine wp_loop_rounds 1 ?_; rw [rounds_succ]; go_wp2; go_step3; go_wp2; refine wp_quietB (by kernel_rfl) (by kernel_rfl) ?_; (repeat (go_big_quiet_step (fail))); refine wpQuiet_nil ?_; intro w2 hb; have HB := Lib.hid hb; clear hb; go_wp2; refine wp_quietB (by kernel_rfl) (by kernel_rfl) ?_; (repeat (go_big_quiet_step (first | (go_at_call 42; exact Calls.regrown (indexByte_hi _ _ _ (by decide) (by omega) (by omega)))))); refine wpQuiet_nil ?_; intro w3 hb; replace HB := Lib.hid (HB.out.trans (hb.mono HB.out.size)); clear hb; go_wp2; rw [Exit.noGoto_ret]; go_ret; exact ⟨_, rfl, fun a b => by omega, HB.out⟩
  · have hne : ((((⟨#[67, 68, 69, 70, 71, 65, 66]⟩ : ByteArray)[2]).toNat : Int) != (c.toNat : Int)) = true := by
      have e : ((⟨#[67, 68, 69, 70, 71, 65, 66]⟩ : ByteArray)[2]).toNat = 69 := by decide
      rw [e]; simp; omega
    go_enter Tryd.func33, Tryd.ntmps33; go_wp2_with (go_at_call 43; refine (Any.utf8_ValidRune Lay.p119 r _).mono ?_; rw [hv]; rintro e w' ⟨rfl, rfl⟩); go_step3; go_wp2; refine wp_loop_rounds 1 ?_; rw [rounds_succ]; go_wp2; go_step3; go_wp2; refine wp_quietB (by kernel_rfl) (by kernel_rfl) ?_; (repeat (go_big_quiet_step (fail))); refine wpQuiet_nil ?_; intro w2 hb; have HB := Lib.hid hb; clear hb; go_wp2; refine wp_quietB (by kernel_rfl) (by kernel_rfl) ?_; (repeat (go_big_quiet_step (first | (go_at_call 42; exact Calls.regrown (indexByte_hi _ _ _ (by decide) (by omega) (by omega)))))); refine wpQuiet_nil ?_; intro w3 hb; replace HB := Lib.hid (HB.out.trans (hb.mono HB.out.size)); clear hb; go_wp2; rw [Exit.noGoto_ret]; go_ret; exact ⟨_, rfl, fun a b => by omega, HB.out⟩
  · have hne : ((((⟨#[67, 68, 69, 70, 71, 65, 66]⟩ : ByteArray)[3]).toNat : Int) != (c.toNat : Int)) = true := by
      have e : ((⟨#[67, 68, 69, 70, 71, 65, 66]⟩ : ByteArray)[3]).toNat = 70 := by decide
      rw [e]; simp; omega
    go_enter Tryd.func33, Tryd.ntmps33; go_wp2_with (go_at_call 43; refine (Any.utf8_ValidRune Lay.p119 r _).mono ?_; rw [hv]; rintro e w' ⟨rfl, rfl⟩); go_step3; go_wp2; refine wp_loop_rounds 1 ?_; rw [rounds_succ]; go_wp2; go_step3; go_wp2; refine wp_quietB (by kernel_rfl) (by kernel_rfl) ?_; (repeat (go_big_quiet_step (fail))); refine wpQuiet_nil ?_; intro w2 hb; have HB := Lib.hid hb; clear hb; go_wp2; refine wp_quietB (by kernel_rfl) (by kernel_rfl) ?_; (repeat (go_big_quiet_step (first | (go_at_call 42; exact Calls.regrown (indexByte_hi _ _ _ (by decide) (by omega) (by omega)))))); refine wpQuiet_nil ?_; intro w3 hb; replace HB := Lib.hid (HB.out.trans (hb.mono HB.out.size)); clear hb; go_wp2; rw [Exit.noGoto_ret]; go_ret; exact ⟨_, rfl, fun a b => by omega, HB.out⟩
set_option maxRecDepth 100000 in
set_option maxHeartbeats 4000000 in
theorem idx_high (r : Int) (w : World) (h : r < 0 ∨ 128 ≤ r) (h1 : -2147483648 ≤ r) (h2 : r ≤ 2147483647) : Calls Tryd.prog 33 #[.string ⟨#[67, 68, 69, 70, 71, 65, 66]⟩, .int .i32 r] w (IdxPost r w) := by
  have hno : (decide ((0 : Int) ≤ r) && decide (r < 128)) = false := by
    rcases h with h | h
    · simp; omega
    · simp; omega
  by_cases he : r = 65533
  · subst he
    go_enter Tryd.func33, Tryd.ntmps33
    go_wp2
    go_loopw [5] (fun _ w' => ∃ pos, pos ≤ 7 ∧ w' = w.iter lettersS pos) (fun _ w' => 7 - w'.iterPos w.heap.size)
    case atStart => exact ⟨0, by omega, rfl⟩
    case round =>
      obtain ⟨pos, hp, rfl⟩ := hrel
      by_cases hlt : pos < 7
      · obtain ⟨v, hv1, hv2⟩ : ∃ v : Nat, v < 128 ∧ ∀ ty, (Instr.next (.pointer (some ⟨w.heap.size, 0, none⟩)) true ty).run Tryd.prog (w.iter lettersS pos) = .ok (.tuple #[.bool true, .int .i64 pos, .int .i32 v]) (w.iter lettersS (pos + 1)) := by
          have hs : pos < lettersS.size := hlt
          have ha := letters_lt pos hlt
          exact ⟨_, ha, fun ty => run_next_ascii w lettersS pos ty hs ha⟩
        have hne : ((v : Int) == 65533) = false := by simp; omega
        go_wp2
        exact ⟨⟨pos + 1, by omega, rfl⟩, by simp; omega⟩
      · have hnx : ∀ ty, (Instr.next (.pointer (some ⟨w.heap.size, 0, none⟩)) true ty).run Tryd.prog (w.iter lettersS pos) = _ := fun ty => run_next_end w lettersS pos ty (by show ¬ pos < 7; exact hlt)
        go_wp2
        go_ret
        exact ⟨_, rfl, fun a b => by omega, (Below.refl _ _).alloc (Nat.le_refl _) _⟩
  · have he1 : (r == 65533) = false := by simpa using he
    cases hv : Lib.validRune r
    · rcases h with h | h
      all_goals
        go_enter Tryd.func33, Tryd.ntmps33
        go_wp2_with (go_at_call 43; refine (Any.utf8_ValidRune Lay.p119 r _).mono ?_; rw [hv]; rintro e w' ⟨rfl, rfl⟩)
        go_ret
        exact ⟨_, rfl, fun a b => by omega, Below.refl _ _⟩
    · have hr : 128 ≤ r := by
        rcases h with h | h
        · exfalso
          have : Lib.validRune r = false := by unfold Lib.validRune; simp; omega
          rw [this] at hv; cases hv
        · exact h
      have hcv : ∀ w, (convert 21 9 (.int .i32 r)).run Tryd.prog w = .ok (.string (Utf8.encode r)) w := fun w => by kernel_rfl
      obtain ⟨m, hm, hm2, c, hc, hlast⟩ := enc_high r hr
      generalize Utf8.encode r = E at *
      have hm3 : m = 0 ∨ m = 1 ∨ m = 2 := by omega
      rcases hm3 with rfl | rfl | rfl
      · exact idx_enc r w E 1 hm (by omega) (by omega) c hc hlast he1 hno hv hcv hr
      · exact idx_enc r w E 2 hm (by omega) (by omega) c hc hlast he1 hno hv hcv hr
      · exact idx_enc r w E 3 hm (by omega) (by omega) c hc hlast he1 hno hv hcv hr


theorem idx_any (r : Int) (w : World) (h1 : -2147483648 ≤ r) (h2 : r ≤ 2147483647) : Calls Tryd.prog 33 #[.string ⟨#[67, 68, 69, 70, 71, 65, 66]⟩, .int .i32 r] w (IdxPost r w) := by
  by_cases h : 0 ≤ r ∧ r < 128
  · refine (Any.strings_IndexRune_ascii Lay.p152 ⟨#[67, 68, 69, 70, 71, 65, 66]⟩ r w h.1 h.2).mono ?_
    rintro e w' ⟨rfl, rfl⟩
    exact ⟨_, rfl, fun _ _ => rfl, Below.refl _ _⟩
  · exact idx_high r w (by omega) h1 h2

end Go.Proofs.YtogdhecmecpccaaDoor
